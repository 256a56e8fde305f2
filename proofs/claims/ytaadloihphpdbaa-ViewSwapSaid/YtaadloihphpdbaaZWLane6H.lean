/- What the laws of chapter 7 need. Printed by a small program (walk.py). -/
import Derived.Test.YtaadloihphpdbaaZWWorld4H
import Derived.Test.YtaadloihphpdbaaZWLookH
import Derived.Test.YtaadloihphpdbaaZPRound
set_option linter.unusedVariables false
set_option linter.unusedSimpArgs false
set_option maxRecDepth 4000
namespace Go.Proofs.Ytaadloihphpdbaa
open Go Go.Vc Go.RowKit
theorem vx_wk {Γ : Ctx} {Q : Exit → Env → Prop} {ops : Array Oper} {os : List Oper} {E : Env} (ρ : Nat → Option Nat) {E' : Env} (hk : Wk ρ Γ.par E E') (h : VX G Γ ops Q os E') : VX G Γ ops Q os E := fun a w hs => h a w (hs.wk hk)
def zee (n : Int) (l : List Step) : Lane := if n < 1 ∨ 3 < n then zdl else (play n l).1.lanes.getD 0 zdl
theorem laneOfN {n : Int} {l : List Step} (h : n < 1 ∨ 3 < n) : zee n l = zdl := if_pos h
theorem laneOfY {n : Int} {l : List Step} (h : ¬ (n < 1 ∨ 3 < n)) : zee n l = (play n l).1.lanes.getD 0 zdl := if_neg h
theorem zfe (n : Int) (l : List Step) : BInv (zee n l) := by
  by_cases h : n < 1 ∨ 3 < n
  · rw [laneOfN h]; exact binv0
  · rw [laneOfY h]
    exact (zeb (by omega) (by omega) l).get (by rw [zdw (by omega) (by omega)]; omega)
theorem laneOf_i {n : Int} {l : List Step} (h : ¬ (n < 1 ∨ 3 < n)) (hs : zfk l ≤ 1) : LInv (decide (0 < zfk l)) (zdm 0 l (play n l).2) (zee n l) := by
  rw [laneOfY h]
  exact play_linv (by omega) (by omega) l (t := 0) (by omega) hs
theorem spoilt_lost {H : List Msg} {x : Lane} (h : LInv false H x) {n a : Int} {b : Bool} (he : ¬ (zcp x 6 n a b).2 ≠ 0) : zcp (zcp x 6 n a b).1 3 n 0 b = zcp x 4 n 0 b ∧ (zcp x 4 n 0 b).2 = 0 := by
  by_cases hn : n < 0 ∨ ((way x b).length : Int) ≤ n
  · rw [zfh hn] at he; simp at he
  · obtain ⟨k, rfl⟩ : ∃ k : Nat, n = k := ⟨n.toNat, by omega⟩
    have hkl : k < (way x b).length := by omega
    obtain ⟨p, hp⟩ : ∃ p, (way x b)[k]? = some p := ⟨_, List.getElem?_eq_getElem hkl⟩
    by_cases ha : a < 0 ∨ (p.length : Int) ≤ a
    · rw [pk_range hp rfl ha] at he; simp at he
    · obtain ⟨j, rfl⟩ : ∃ j : Nat, a = j := ⟨a.toNat, by omega⟩
      have hj : j < p.length := by omega
      rw [pk_spoil hp rfl hj, pk_lose hkl rfl]
      have hm := List.mem_of_getElem? hp
      have hc : ∃ c, p = bytes c := by
        cases b with
        | true =>
          rcases h.back p hm with ⟨c, _, _, e, _⟩ | e
          · exact ⟨c, e⟩
          · exact absurd e.1 (by decide)
        | false =>
          rcases h.there p hm with ⟨q, _, e⟩ | e
          · exact ⟨_, e⟩
          · exact absurd e.1 (by decide)
      obtain ⟨c, rfl⟩ := hc
      have hw := (way_with x b ((way x b).set k (spoilAt (bytes c) j))).1
      have hy : (way (withP x b ((way x b).set k (spoilAt (bytes c) j))) b)[k]? = some (spoilAt (bytes c) j) := by rw [hw, List.getElem?_set_self hkl]
      have hr := spoil_bytes (c := c) hj
      refine ⟨?_, rfl⟩
      show zcp (withP x b ((way x b).set k (spoilAt (bytes c) j))) 3 k 0 b = _
      rw [pk_come (by rw [hw, List.length_set]; exact hkl) (by decide) (by decide) (by decide), cm_bad hy (by rw [hr]; decide), hw, List.eraseIdx_set_eq]
      cases b <;> rfl
theorem come_fits {sp : Bool} {H : List Msg} {x : Lane} (h : LInv sp H x) (n : Int) (b : Bool) : fits (zcp x 3 n 0 b).1.r.told H = true := by
  have := linv_packet h 3 n 0 b (by intro e; cases e)
  exact linv_fits this
theorem spoilN_take_y {l : List Step} {i : Nat} {s : Step} (h : l[i]? = some s) (hk : s.kind = 6) : zfk (l.take (i + 1)) = zfk (l.take i) + 1 := by
  unfold zfk; rw [List.take_add_one, h, List.countP_append]; simp [hk]
theorem spoilN_take_n {l : List Step} {i : Nat} {s : Step} (h : l[i]? = some s) (hk : ¬ s.kind = 6) : zfk (l.take (i + 1)) = zfk (l.take i) := by
  unfold zfk; rw [List.take_add_one, h, List.countP_append]; simp [hk]
theorem spoilN_len (l : List Step) : zfk l ≤ l.length := List.countP_le_length
def laneS : Lane := ⟨zfn, receiver0, [[1, 2, 3]], []⟩
theorem binvS : BInv laneS := ⟨sinv0, rinv0, by simp [laneS], by simp [laneS]⟩
def laneO : Lane := ⟨zfn, { receiver0 with owes := true }, [], []⟩
theorem binvO : BInv laneO := ⟨sinv0, ⟨rinv0.n, rinv0.s, rinv0.e, rinv0.el, rinv0.t, rinv0.p, rinv0.h⟩, by simp [laneO], by simp [laneO]⟩
end Go.Proofs.Ytaadloihphpdbaa
