/- What the walks of worlds need. Printed by a small program (walk.py). -/
import Derived.Test.YtaadloihphpdbaaZWLane2
set_option linter.unusedVariables false
set_option linter.unusedSimpArgs false
set_option maxRecDepth 4000
namespace Go.Proofs.Ytaadloihphpdbaa
open Go Go.Vc Go.RowKit
theorem ds_kind {w : World'} {s : Step} (h : s.kind < 1 ∨ 6 < s.kind) : zch w s = (w, 1) := by unfold zch; rw [if_pos h]
theorem ds_none {w : World'} {s : Step} (h : ¬ (s.kind < 1 ∨ 6 < s.kind)) (h1 : ¬ s.kind = 1) (ht : s.tenant < 0 ∨ (w.lanes.length : Int) ≤ s.tenant) : zch w s = (w, 6) := by unfold zch; rw [if_neg h, if_neg h1, if_pos ht]
theorem ds_tick {w : World'} {s : Step} (h1 : s.kind = 1) {k : Nat} {x : Lane} (hk : w.ticks % (w.lanes.length : Int) = k) (hx : w.lanes[k]? = some x) : zch w s = (⟨w.lanes.set k (zep x), w.ticks + 1⟩, 0) := by
  have e : whose w = k := by unfold whose; rw [hk]; rfl
  unfold zch; rw [if_neg (by omega), if_pos h1, e, List.getD, hx]; rfl
theorem ds_own {w : World'} {s : Step} (h : ¬ (s.kind < 1 ∨ 6 < s.kind)) (h1 : ¬ s.kind = 1) {k : Nat} {x : Lane} (hk : s.tenant = k) (hx : w.lanes[k]? = some x) : zch w s = (⟨w.lanes.set k (zdp x s).1, w.ticks⟩, (zdp x s).2) := by
  have hl := (List.getElem?_eq_some_iff.1 hx).1
  have e : s.tenant.toNat = k := by omega
  unfold zch; rw [if_neg h, if_neg h1, if_neg (by omega), e, List.getD, hx]; rfl
theorem sl_put {x : Lane} {s : Step} (h : s.kind = 2) : zdp x s = ({ x with s := (put x.s s.msg).1 }, (put x.s s.msg).2) := by unfold zdp; rw [if_pos h]
theorem sl_packet {x : Lane} {s : Step} (h : ¬ s.kind = 2) : zdp x s = zcp x s.kind s.n s.m s.back := by unfold zdp; rw [if_neg h]
theorem lane_isP (y : Lane) : ∀ c ∈ zdu y, isP c = true := by intro c hc; simp only [zdu, List.mem_cons, List.not_mem_nil, or_false] at hc; rcases hc with rfl | rfl | rfl | rfl | rfl | rfl | rfl | rfl | rfl | rfl | rfl | rfl | rfl | rfl | rfl | rfl | rfl <;> rfl
theorem set_lane (L : List Lane) (k : Nat) (x y : Lane) : (zcc L).set k (wrA (zdu x) 0 (zdu y)) = zcc (L.set k y) := by
  show (zcc L).set k (zdu y) = _
  unfold zcc; rw [List.map_set]
theorem plays_snoc : ∀ (l : List Step) (w : World') (s : Step), plays w (l ++ [s]) = ((zch (plays w l).1 s).1, (plays w l).2 ++ [(zch (plays w l).1 s).2])
  | [], w, s => rfl
  | a :: l, w, s => by
    show ((plays (zch w a).1 (l ++ [s])).1, (zch w a).2 :: (plays (zch w a).1 (l ++ [s])).2) = _
    rw [plays_snoc l]; rfl
theorem plays_take {w : World'} {l : List Step} {i : Nat} {s : Step} (h : l[i]? = some s) : plays w (l.take (i + 1)) = ((zch (plays w (l.take i)).1 s).1, (plays w (l.take i)).2 ++ [(zch (plays w (l.take i)).1 s).2]) := by
  rw [List.take_add_one, h]; exact plays_snoc _ _ _
theorem seen_zero : F2 See (zdu zdl) [.lit (.slice none 0 0), .lit (.int .i64 0), .lit (.int .i64 0), .lit (.int .i64 0), .lit (.int .i64 0), .lit (.slice none 0 0), .lit (.int .i64 0), .lit (.int .i64 0), .lit (.slice none 0 0), .lit (.int .i64 0), .lit (.int .i64 0), .lit (.int .i64 0), .lit (.slice none 0 0), .lit (.slice none 0 0), .lit (.bool false), .lit (.slice none 0 0), .lit (.slice none 0 0)] := (.cons (.nil _) (.cons (.same _) (.cons (.same _) (.cons (.same _) (.cons (.same _) (.cons (.nil _) (.cons (.same _) (.cons (.same _) (.cons (.nil _) (.cons (.same _) (.cons (.same _) (.cons (.same _) (.cons (.nil _) (.cons (.nil _) (.cons (.same _) (.cons (.nil _) (.cons (.nil _) .nil)))))))))))))))))
def withinB (l : Lane) : Bool := decide (l.s.queue.length ≤ 6) && (decide (l.s.flight.length ≤ 4) && (decide (l.s.next ≤ 40) && (decide (l.r.early.length ≤ 3) && (decide (l.there.length ≤ 6) && (decide (l.back.length ≤ 6) && decide (l.r.told.length + l.r.hold.length ≤ 40))))))
theorem within_of {l : Lane} (h : BInv l) : withinB l = true := by
  have h1 := h.s.q; have h2 := h.s.f; have h3 := h.s.nq; have h4 := h.r.el; have h5 := h.there.1; have h6 := h.back.1; have h7 := h.r.t; have h8 := h.r.nl
  unfold withinB
  simp only [Bool.and_eq_true, decide_eq_true_eq]
  omega
theorem nil_len {α : Type} {l : List α} : decide ((l.length : Int) = 0) = decide (l = []) := by cases l <;> simp <;> omega
theorem all_take {α : Type} {p : α → Bool} {l : List α} {i : Nat} {x : α} (h : l[i]? = some x) : (l.take (i + 1)).all p = ((l.take i).all p && p x) := by
  rw [List.take_add_one, h, List.all_append]; simp
theorem all_no {α : Type} {p : α → Bool} {l : List α} {i : Nat} {x : α} (h : l[i]? = some x) (hp : p x = false) : l.all p = false := by
  cases ha : l.all p with
  | false => rfl
  | true => rw [List.all_eq_true.1 ha x (List.mem_of_getElem? h)] at hp; cases hp
theorem putsOf_snoc {t : Int} : ∀ (l : List Step) (es : List Int) (s : Step) (e : Int), l.length = es.length → zdm t (l ++ [s]) (es ++ [e]) = zdm t l es ++ (if e = 0 ∧ isPut t s = true then [s.msg] else [])
  | [], [], s, e, _ => by
    show (if e = 0 ∧ isPut t s = true then s.msg :: zdm t [] [] else zdm t [] []) = _
    split <;> rfl
  | [], _ :: _, s, e, h => by simp at h
  | _ :: _, [], s, e, h => by simp at h
  | a :: l, b :: es, s, e, h => by
    have ih := putsOf_snoc (t := t) l es s e (by simpa using h)
    show (if b = 0 ∧ isPut t a = true then a.msg :: zdm t (l ++ [s]) (es ++ [e]) else zdm t (l ++ [s]) (es ++ [e])) = (if b = 0 ∧ isPut t a = true then a.msg :: zdm t l es else zdm t l es) ++ _
    rw [ih]; split <;> rfl
theorem putsOf_len2 {t : Int} : ∀ (l : List Step) (es : List Int), (zdm t l es).length ≤ es.length
  | [], es => by simp [zdm]
  | a :: l, [] => by simp [zdm]
  | a :: l, b :: es => by
    have := putsOf_len2 (t := t) l es
    unfold zdm
    split
    · simp; omega
    · simp; omega
def putsI (t : Int) (l : List Step) (es : List Int) (i : Nat) : List Msg := zdm t (l.take i) (es.take i)
theorem putsI_none {t : Int} {l : List Step} {es : List Int} {i : Nat} (h : es.length ≤ i) : putsI t l es (i + 1) = putsI t l es i := by
  have e : ∀ (n : Nat) (l : List Step) (es : List Int), es.length ≤ n → zdm t (l.take n) es = zdm t l es := by
    intro n
    induction n with
    | zero => intro l es h; have : es = [] := List.eq_nil_of_length_eq_zero (by omega); subst this; cases l <;> simp [zdm]
    | succ n ih =>
      intro l es h
      cases l with
      | nil => simp
      | cons a l =>
        cases es with
        | nil => simp [zdm]
        | cons b es => rw [List.take_succ_cons]; unfold zdm; rw [ih l es (by simpa using h)]
  have h1 : es.take i = es := List.take_of_length_le h
  have h2 : es.take (i + 1) = es := List.take_of_length_le (by omega)
  unfold putsI
  rw [h1, h2, e _ l es h, e _ l es (by omega)]
theorem putsI_some {t : Int} {l : List Step} {es : List Int} {i : Nat} {s : Step} {e : Int} (hs : l[i]? = some s) (he : es[i]? = some e) : putsI t l es (i + 1) = putsI t l es i ++ (if e = 0 ∧ isPut t s = true then [s.msg] else []) := by
  have h1 := (List.getElem?_eq_some_iff.1 hs).1
  have h2 := (List.getElem?_eq_some_iff.1 he).1
  unfold putsI
  rw [List.take_add_one, hs, List.take_add_one, he]
  exact putsOf_snoc _ _ _ _ (by rw [List.length_take, List.length_take]; omega)
theorem putsI_all {t : Int} {l : List Step} {es : List Int} {i : Nat} (h : l.length ≤ i) : putsI t l es i = zdm t l es := by
  have e : ∀ (n : Nat) (l : List Step) (es : List Int), l.length ≤ n → zdm t l (es.take n) = zdm t l es := by
    intro n
    induction n with
    | zero => intro l es h; have : l = [] := List.eq_nil_of_length_eq_zero (by omega); subst this; simp [zdm]
    | succ n ih =>
      intro l es h
      cases l with
      | nil => simp [zdm]
      | cons a l =>
        cases es with
        | nil => simp
        | cons b es => rw [List.take_succ_cons]; unfold zdm; rw [ih l es (by simpa using h)]
  unfold putsI
  rw [List.take_of_length_le h, e _ l es h]
theorem putsI_len2 {t : Int} {l : List Step} {es : List Int} {i : Nat} : (putsI t l es i).length ≤ es.length := by
  have := putsOf_len2 (t := t) (l.take i) (es.take i)
  unfold putsI
  have h2 := List.length_take_le' i es
  omega
end Go.Proofs.Ytaadloihphpdbaa
