/- What the walks of worlds need. Printed by a small program (walk.py). -/
import Derived.Test.YtaadloihphpdbaaUWLane2
set_option linter.unusedVariables false
set_option linter.unusedSimpArgs false
set_option maxRecDepth 4000
namespace Go.Proofs.Ytaadloihphpdbaa
open Go Go.Vc Go.RowKit
theorem ds_kind {w : World'} {s : Step} (h : s.kind < 1 ∨ 6 < s.kind) : zcu w s = (w, 1) := by unfold zcu; rw [if_pos h]
theorem ds_none {w : World'} {s : Step} (h : ¬ (s.kind < 1 ∨ 6 < s.kind)) (h1 : ¬ s.kind = 1) (ht : s.tenant < 0 ∨ (w.lanes.length : Int) ≤ s.tenant) : zcu w s = (w, 6) := by unfold zcu; rw [if_neg h, if_neg h1, if_pos ht]
theorem ds_tick {w : World'} {s : Step} (h1 : s.kind = 1) {k : Nat} {x : Lane} (hk : w.ticks % (w.lanes.length : Int) = k) (hx : w.lanes[k]? = some x) : zcu w s = (⟨w.lanes.set k (zec x), w.ticks + 1⟩, 0) := by
  have e : whose w = k := by unfold whose; rw [hk]; rfl
  unfold zcu; rw [if_neg (by omega), if_pos h1, e, List.getD, hx]; rfl
theorem ds_own {w : World'} {s : Step} (h : ¬ (s.kind < 1 ∨ 6 < s.kind)) (h1 : ¬ s.kind = 1) {k : Nat} {x : Lane} (hk : s.tenant = k) (hx : w.lanes[k]? = some x) : zcu w s = (⟨w.lanes.set k (zcy x s).1, w.ticks⟩, (zcy x s).2) := by
  have hl := (List.getElem?_eq_some_iff.1 hx).1
  have e : s.tenant.toNat = k := by omega
  unfold zcu; rw [if_neg h, if_neg h1, if_neg (by omega), e, List.getD, hx]; rfl
theorem sl_put {x : Lane} {s : Step} (h : s.kind = 2) : zcy x s = ({ x with s := (put x.s s.msg).1 }, (put x.s s.msg).2) := by unfold zcy; rw [if_pos h]
theorem sl_packet {x : Lane} {s : Step} (h : ¬ s.kind = 2) : zcy x s = zcz x s.kind s.n s.m s.back := by unfold zcy; rw [if_neg h]
theorem lane_isP (y : Lane) : ∀ c ∈ zee y, isP c = true := by intro c hc; simp only [zee, List.mem_cons, List.not_mem_nil, or_false] at hc; rcases hc with rfl | rfl | rfl | rfl | rfl | rfl | rfl | rfl | rfl | rfl | rfl | rfl | rfl | rfl | rfl | rfl | rfl <;> rfl
theorem set_lane (L : List Lane) (k : Nat) (x y : Lane) : (zca L).set k (wrA (zee x) 0 (zee y)) = zca (L.set k y) := by
  show (zca L).set k (zee y) = _
  unfold zca; rw [List.map_set]
theorem plays_snoc : ∀ (l : List Step) (w : World') (s : Step), zff w (l ++ [s]) = ((zcu (zff w l).1 s).1, (zff w l).2 ++ [(zcu (zff w l).1 s).2])
  | [], w, s => rfl
  | a :: l, w, s => by
    show ((zff (zcu w a).1 (l ++ [s])).1, (zcu w a).2 :: (zff (zcu w a).1 (l ++ [s])).2) = _
    rw [plays_snoc l]; rfl
theorem plays_take {w : World'} {l : List Step} {i : Nat} {s : Step} (h : l[i]? = some s) : zff w (l.take (i + 1)) = ((zcu (zff w (l.take i)).1 s).1, (zff w (l.take i)).2 ++ [(zcu (zff w (l.take i)).1 s).2]) := by
  rw [List.take_add_one, h]; exact plays_snoc _ _ _
theorem seen_zero : F2 See (zee zdm) [.lit (.slice none 0 0), .lit (.int .i64 0), .lit (.int .i64 0), .lit (.int .i64 0), .lit (.int .i64 0), .lit (.slice none 0 0), .lit (.int .i64 0), .lit (.int .i64 0), .lit (.slice none 0 0), .lit (.int .i64 0), .lit (.int .i64 0), .lit (.int .i64 0), .lit (.slice none 0 0), .lit (.slice none 0 0), .lit (.bool false), .lit (.slice none 0 0), .lit (.slice none 0 0)] := (.cons (.nil _) (.cons (.same _) (.cons (.same _) (.cons (.same _) (.cons (.same _) (.cons (.nil _) (.cons (.same _) (.cons (.same _) (.cons (.nil _) (.cons (.same _) (.cons (.same _) (.cons (.same _) (.cons (.nil _) (.cons (.nil _) (.cons (.same _) (.cons (.nil _) (.cons (.nil _) .nil)))))))))))))))))
theorem nil_len {α : Type} {l : List α} : decide ((l.length : Int) = 0) = decide (l = []) := by cases l <;> simp <;> omega
theorem all_take {α : Type} {p : α → Bool} {l : List α} {i : Nat} {x : α} (h : l[i]? = some x) : (l.take (i + 1)).all p = ((l.take i).all p && p x) := by
  rw [List.take_add_one, h, List.all_append]; simp
theorem all_no {α : Type} {p : α → Bool} {l : List α} {i : Nat} {x : α} (h : l[i]? = some x) (hp : p x = false) : l.all p = false := by
  cases ha : l.all p with
  | false => rfl
  | true => rw [List.all_eq_true.1 ha x (List.mem_of_getElem? h)] at hp; cases hp
end Go.Proofs.Ytaadloihphpdbaa
