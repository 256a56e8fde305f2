/- What the walks of rounds need. Printed by a small program (walk.py). -/
import Derived.Test.YtaadloihphpdbaaUWWorld4H
import Derived.Test.YtaadloihphpdbaaUPRound
set_option linter.unusedVariables false
set_option linter.unusedSimpArgs false
set_option maxRecDepth 4000
namespace Go.Proofs.Ytaadloihphpdbaa
open Go Go.Vc Go.RowKit
def cmS (i : Int) (b : Bool) : Step := ⟨3, i, 0, 0, b, (0, [])⟩
def tkS : Step := ⟨1, 0, 0, 0, false, (0, [])⟩
def partW (w : World') (i : Nat) : World' := ⟨(w.lanes.take i).map zbb ++ w.lanes.drop i, w.ticks⟩
def midW (w : World') (i : Nat) (x : Lane) : World' := ⟨(w.lanes.take i).map zbb ++ x :: w.lanes.drop (i + 1), w.ticks⟩
theorem part_mid {w : World'} {i : Nat} {x : Lane} (hx : w.lanes[i]? = some x) : partW w i = midW w i x := by
  obtain ⟨hi, e⟩ := List.getElem?_eq_some_iff.1 hx
  unfold partW midW; rw [List.drop_eq_getElem_cons hi, e]
theorem mid_part {w : World'} {i : Nat} {x : Lane} (hx : w.lanes[i]? = some x) : midW w i (zbb x) = partW w (i + 1) := by
  unfold partW midW; rw [List.take_add_one, hx, List.map_append]; simp
theorem part_end {w : World'} {i : Nat} (hi : w.lanes.length ≤ i) : partW w i = ⟨w.lanes.map zbb, w.ticks⟩ := by
  unfold partW; rw [List.take_of_length_le hi, List.drop_of_length_le hi, List.append_nil]
theorem part_0 (w : World') : partW w 0 = w := by unfold partW; simp
theorem mid_len {w : World'} {i : Nat} (hi : i < w.lanes.length) (x : Lane) : (midW w i x).lanes.length = w.lanes.length := by
  unfold midW; simp; omega
theorem part_len (w : World') (i : Nat) : (partW w i).lanes.length = w.lanes.length := by
  unfold partW; simp; omega
theorem mid_get {w : World'} {i : Nat} (hi : i < w.lanes.length) (x : Lane) : (midW w i x).lanes[i]? = some x := by
  unfold midW
  rw [List.getElem?_append_right (by simp; omega)]
  simp [Nat.min_eq_left (Nat.le_of_lt hi)]
theorem mid_set {w : World'} {i : Nat} (hi : i < w.lanes.length) (x y : Lane) : (midW w i x).lanes.set i y = (midW w i y).lanes := by
  unfold midW
  show List.set (_ ++ _) i y = _
  rw [List.set_append_right _ _ (by simp; omega)]
  simp [Nat.min_eq_left (Nat.le_of_lt hi)]
theorem mid_ok {w : World'} (h : WOk w) {i : Nat} (hi : i < w.lanes.length) {x : Lane} (hx : BInv x) : WOk (midW w i x) := by
  refine ⟨by rw [mid_len hi]; exact h.len, h.tk, fun l hl => ?_⟩
  rcases List.mem_append.1 hl with e | e
  · obtain ⟨y, hy, rfl⟩ := List.mem_map.1 e
    exact zdk (h.b y (List.mem_of_mem_take hy))
  · rcases List.mem_cons.1 e with e | e
    · rw [e]; exact hx
    · exact h.b l (List.mem_of_mem_drop e)
theorem part_ok {w : World'} (h : WOk w) (i : Nat) : WOk (partW w i) := by
  refine ⟨by rw [part_len]; exact h.len, h.tk, fun l hl => ?_⟩
  rcases List.mem_append.1 hl with e | e
  · obtain ⟨y, hy, rfl⟩ := List.mem_map.1 e
    exact zdk (h.b y (List.mem_of_mem_take hy))
  · exact h.b l (List.mem_of_mem_drop e)
theorem do_come {w : World'} {i : Nat} (hi : i < w.lanes.length) {x : Lane} {b : Bool} (h : 0 < (way x b).length) : zcu (midW w i x) (cmS i b) = (midW w i (zfp x 0 b), 0) := by
  rw [ds_own (k := i) (x := x) (by simp [cmS]) (by simp [cmS]) rfl (mid_get hi x)]
  have e : zcy x (cmS i b) = (zfp x 0 b, 0) := by
    rw [sl_packet (by simp [cmS])]
    show zcz x 3 ((0 : Nat) : Int) 0 b = _
    exact pk_come h (by decide) (by decide) (by decide)
  rw [e, mid_set hi]; rfl
theorem do_none {w : World'} {i : Nat} (hi : i < w.lanes.length) {x : Lane} {b : Bool} (h : ¬ 0 < (way x b).length) : (zcu (midW w i x) (cmS i b)).2 = 6 := by
  rw [ds_own (k := i) (x := x) (by simp [cmS]) (by simp [cmS]) rfl (mid_get hi x)]
  have e : zcy x (cmS i b) = (x, 6) := by
    rw [sl_packet (by simp [cmS])]
    have h0 : (way x (cmS i b).back).length = 0 := by show (way x b).length = 0; omega
    exact zes (.inr (by rw [h0]; exact Int.le_refl _))
  rw [e]
theorem drain_come {x : Lane} {b : Bool} (h : 0 < (way x b).length) : zdr b x = zdr b (zfp x 0 b) := by
  have hw := (way_comes x 0 b).1
  unfold zdr
  rw [hw, List.length_eraseIdx, if_pos h]
  obtain ⟨n, hn⟩ : ∃ n, (way x b).length = n + 1 := ⟨(way x b).length - 1, by omega⟩
  rw [hn, drain_step, if_neg (by intro e; rw [e] at hn; simp at hn)]; rfl
theorem drain_end {x : Lane} {b : Bool} (h : ¬ 0 < (way x b).length) : zdr b x = x := drain0 (List.eq_nil_of_length_eq_zero (by omega))
theorem come_less {x : Lane} {b : Bool} (h : 0 < (way x b).length) : (way (zfp x 0 b) b).length < (way x b).length := by
  rw [(way_comes x 0 b).1, List.length_eraseIdx, if_pos h]; omega
theorem do_tick {w : World'} (hw : WOk w) : (zcu ⟨w.lanes.map zbb, w.ticks⟩ tkS).1 = zez w := by
  unfold zez tick zcu; rw [if_neg (by decide), if_pos (show tkS.kind = 1 from rfl)]
def stg (j : Nat) (x : Lane) : Lane := if j = 0 then x else if j = 1 then zdr false x else zbb x
theorem settle_step {n : Nat} {v : World'} (h : zfm v = false) : zco (n + 1) v = ((zco n (zez v)).1, (zco n (zez v)).2 + 1) := by
  show (if zfm v then (v, (0 : Int)) else _) = _
  rw [if_neg (by rw [h]; decide)]
theorem settle_still {n : Nat} {v : World'} (h : zfm v = true) : zco n v = (v, 0) := by
  cases n with
  | zero => rfl
  | succ n => show (if zfm v then (v, (0 : Int)) else _) = _; rw [if_pos h]
def fplay (n : Int) (l : List Step) : World' × List Int × Int := if newErr n ≠ 0 then (⟨[], 0⟩, [], newErr n) else if 160 < l.length then (⟨[], 0⟩, [], 5) else ((play n l).1, (play n l).2, 0)
theorem fplay1 {n : Int} {l : List Step} (h : newErr n ≠ 0) : fplay n l = (⟨[], 0⟩, [], newErr n) := if_pos h
theorem fplay2 {n : Int} {l : List Step} (h : ¬ newErr n ≠ 0) (h2 : 160 < l.length) : fplay n l = (⟨[], 0⟩, [], 5) := by unfold fplay; rw [if_neg h, if_pos h2]
theorem fplay3 {n : Int} {l : List Step} (h : ¬ newErr n ≠ 0) (h2 : ¬ 160 < l.length) : fplay n l = ((play n l).1, (play n l).2, 0) := by unfold fplay; rw [if_neg h, if_neg h2]
theorem cm_in (i : Int) (b : Bool) : inI (cmS i b).m := by show inI 0; unfold inI; omega
theorem round_ticks (w : World') : (zez w).ticks = w.ticks + 1 := rfl
end Go.Proofs.Ytaadloihphpdbaa
