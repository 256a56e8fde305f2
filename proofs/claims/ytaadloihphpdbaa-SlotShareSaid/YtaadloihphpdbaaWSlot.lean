/- Walks of the package slot, and of what its laws call. Printed by a small program (walk.py). -/
import Derived.Test.YtaadloihphpdbaaVcMin
import Derived.Test.YtaadloihphpdbaaVcTab
set_option linter.unusedVariables false
set_option linter.unusedSimpArgs false
set_option maxRecDepth 4000
namespace Go.Proofs.Ytaadloihphpdbaa
open Go Go.Vc Go.RowKit
/-- Whose line it is. -/
def whose (v s : Int) : Int × Int := if v < 0 ∨ s < 1 ∨ 3 < s then (0, 3) else (v % s, 0)
theorem whoseN {v s : Int} (h : v < 0 ∨ s < 1 ∨ 3 < s) : whose v s = (0, 3) := if_pos h
theorem whoseY {v s : Int} (h : ¬ (v < 0 ∨ s < 1 ∨ 3 < s)) : whose v s = (v % s, 0) := if_neg h
theorem whose_is (v s : Int) : ((v < 0 ∨ s < 1 ∨ 3 < s) ∧ (whose v s).1 = 0 ∧ (whose v s).2 = 3) ∨ (0 ≤ v ∧ 1 ≤ s ∧ s ≤ 3 ∧ (whose v s).1 = v % s ∧ (whose v s).2 = 0) := by
  by_cases h : v < 0 ∨ s < 1 ∨ 3 < s
  · left; rw [whoseN h]; exact ⟨h, rfl, rfl⟩
  · right; rw [whoseY h]; refine ⟨by omega, by omega, by omega, rfl, rfl⟩
/-- The first n ticks' own ones. -/
def mineUp (tick tenants tenant : Int) : Nat → List Int
  | 0 => []
  | n + 1 => if (whose (tick + n) tenants).2 = 0 ∧ (whose (tick + n) tenants).1 = tenant then mineUp tick tenants tenant n ++ [tick + n] else mineUp tick tenants tenant n
theorem mineUp_len (tick tenants tenant : Int) : ∀ n, (mineUp tick tenants tenant n).length ≤ n
  | 0 => Nat.le_refl _
  | n + 1 => by
    have := mineUp_len tick tenants tenant n
    rw [mineUp]; split
    · simp; omega
    · omega
theorem mineUp_at (v s t : Int) (i : Nat) (h : (whose (v + i) s).2 = 0 ∧ (whose (v + i) s).1 = t) : ∀ n, i < n → (mineUp v s t n)[(mineUp v s t i).length]? = some (v + i)
  | 0, hn => absurd hn (by omega)
  | n + 1, hn => by
    by_cases he : i = n
    · subst he; rw [mineUp, if_pos h]; simp
    · have ih := mineUp_at v s t i h n (by omega)
      have hl : (mineUp v s t i).length < (mineUp v s t n).length := (List.getElem?_eq_some_iff.1 ih).1
      rw [mineUp]; split
      · rw [List.getElem?_append_left hl]; exact ih
      · exact ih
theorem three {s : Int} (h : 1 ≤ s ∧ s ≤ 3) : s = 1 ∨ s = 2 ∨ s = 3 := by omega
/-- How many of the first n ticks are one's own. -/
theorem mineUp_count (v s t : Int) (hv : 0 ≤ v) (hs : 1 ≤ s ∧ s ≤ 3) (ht : 0 ≤ t ∧ t < s) : ∀ n : Nat, ((mineUp v s t n).length : Int) = (v + n - 1 - t) / s - (v - 1 - t) / s
  | 0 => by simp [mineUp]
  | n + 1 => by
    have ih := mineUp_count v s t hv hs ht n
    have hw := whose_is (v + n) s
    rw [mineUp]
    rcases three hs with rfl | rfl | rfl
    all_goals
      split
      · rename_i h; simp only [List.length_append, List.length_cons, List.length_nil]; omega
      · rename_i h; omega
theorem mineUp_near (v s t : Int) (hv : 0 ≤ v) (hs : 1 ≤ s ∧ s ≤ 3) (ht : 0 ≤ t ∧ t < s) (m : Int) (hm : 0 ≤ m) : m / s ≤ (mineUp v s t m.toNat).length ∧ (mineUp v s t m.toNat).length ≤ m / s + 1 := by
  have h := mineUp_count v s t hv hs ht m.toNat
  have e : (m.toNat : Int) = m := by omega
  rw [e] at h
  rcases three hs with rfl | rfl | rfl <;> omega
theorem mineUp_one (v s t : Int) (hv : 0 ≤ v) (hs : 1 ≤ s ∧ s ≤ 3) (ht : 0 ≤ t ∧ t < s) : (mineUp v s t s.toNat).length = 1 := by
  have h := mineUp_count v s t hv hs ht s.toNat
  have e : (s.toNat : Int) = s := by omega
  rw [e] at h
  rcases three hs with rfl | rfl | rfl <;> omega

theorem c50 (v s : Int) : VFun G 50 [.lit (.int .i64 v), .lit (.int .i64 s)] [] (.tup [.lit (.int .i64 (whose v s).1), .lit (.int .i64 (whose v s).2)]) [] := by
  refine VFun.intro (fn := Try.f50) rfl rfl (by kernel_rfl) (Nat.le_of_ble_eq_true rfl) fun Γ hpar => ?_
  refine vw_seq ?_
  refine vw_region ?_
  refine u_assign rfl rfl trivial ?_
  refine u_assign rfl rfl trivial ?_
  refine u_end trivial ?_
  refine vw_seq ?_
  refine vw_seq ?_
  refine vw_region ?_
  refine u_move rfl rfl trivial ?_
  refine s_lss rfl rfl rfl trivial (fun h7 => ?_) (fun h7 => ?_)
  · refine u_move rfl rfl trivial ?_
    refine u_skip rfl rfl rfl rfl rfl ?_
    refine u_skip rfl rfl rfl rfl rfl ?_
    refine u_pickT rfl rfl rfl trivial ?_
    refine u_move rfl rfl trivial ?_
    refine u_skip rfl rfl rfl rfl rfl ?_
    refine u_skip rfl rfl rfl rfl rfl ?_
    refine u_pickT rfl rfl rfl trivial ?_
    refine u_end trivial ?_
    refine vw_condT rfl ?_
    refine vw_seq ?_
    refine vw_region ?_
    refine u_assign rfl rfl trivial ?_
    refine u_assign rfl rfl trivial ?_
    refine u_end trivial ?_
    refine vw_ret ?_
    refine fin0 (.inr rfl) (.cons (.tmp rfl (Nat.le_of_ble_eq_true rfl)) (.cons (.tmp rfl (Nat.le_of_ble_eq_true rfl)) .nil)) (.tup _ _ (.cons (subI ?_) (.cons (subI ?_) .nil)))
    · rw [whoseN (by omega)]
    · rw [whoseN (by omega)]
  · refine u_move rfl rfl trivial ?_
    refine u_move rfl rfl ⟨_, _, rfl, rfl, rfl, rfl⟩ ?_
    refine s_lss rfl rfl rfl ⟨_, _, rfl, rfl, rfl, rfl⟩ (fun h10 => ?_) (fun h10 => ?_)
    · refine u_pickF rfl rfl rfl trivial ?_
      refine u_move rfl rfl trivial ?_
      refine u_skip rfl rfl rfl rfl rfl ?_
      refine u_skip rfl rfl rfl rfl rfl ?_
      refine u_pickT rfl rfl rfl trivial ?_
      refine u_end trivial ?_
      refine vw_condT rfl ?_
      refine vw_seq ?_
      refine vw_region ?_
      refine u_assign rfl rfl trivial ?_
      refine u_assign rfl rfl trivial ?_
      refine u_end trivial ?_
      refine vw_ret ?_
      refine fin0 (.inr rfl) (.cons (.tmp rfl (Nat.le_of_ble_eq_true rfl)) (.cons (.tmp rfl (Nat.le_of_ble_eq_true rfl)) .nil)) (.tup _ _ (.cons (subI ?_) (.cons (subI ?_) .nil)))
      · rw [whoseN (by omega)]
      · rw [whoseN (by omega)]
    · refine u_pickF rfl rfl rfl trivial ?_
      refine u_move rfl rfl trivial ?_
      refine u_move rfl rfl ⟨_, _, rfl, rfl, rfl, rfl⟩ ?_
      refine s_gtr rfl rfl rfl ⟨_, _, rfl, rfl, rfl, rfl⟩ (fun h14 => ?_) (fun h14 => ?_)
      · refine u_pickF rfl rfl rfl trivial ?_
        refine u_end trivial ?_
        refine vw_condT rfl ?_
        refine vw_seq ?_
        refine vw_region ?_
        refine u_assign rfl rfl trivial ?_
        refine u_assign rfl rfl trivial ?_
        refine u_end trivial ?_
        refine vw_ret ?_
        refine fin0 (.inr rfl) (.cons (.tmp rfl (Nat.le_of_ble_eq_true rfl)) (.cons (.tmp rfl (Nat.le_of_ble_eq_true rfl)) .nil)) (.tup _ _ (.cons (subI ?_) (.cons (subI ?_) .nil)))
        · rw [whoseN (by omega)]
        · rw [whoseN (by omega)]
      · refine u_pickF rfl rfl rfl trivial ?_
        refine u_end trivial ?_
        refine vw_condF rfl ?_
        refine vw_skip ?_
        refine vw_seq ?_
        refine vw_region ?_
        refine u_move rfl rfl trivial ?_
        refine u_move rfl rfl trivial ?_
        refine u_remN rfl rfl (by omega) rfl trivial ?_
        refine u_assign rfl rfl trivial ?_
        refine u_assign rfl rfl trivial ?_
        refine u_end trivial ?_
        refine vw_ret ?_
        refine fin0 (.inr rfl) (.cons (.tmp rfl (Nat.le_of_ble_eq_true rfl)) (.cons (.tmp rfl (Nat.le_of_ble_eq_true rfl)) .nil)) (.tup _ _ (.cons (subI ?_) (.cons (subI ?_) .nil)))
        · rw [whoseY (by omega)]
        · rw [whoseY (by omega)]
theorem c51 (v m s t : Int) (hv : 0 ≤ v ∧ v ≤ 1000000) (hm : m ≤ 1000) : VFun G 51 [.lit (.int .i64 v), .lit (.int .i64 m), .lit (.int .i64 s), .lit (.int .i64 t)] [] (.shr 1 (intCells (mineUp v s t m.toNat))) [] := by
  refine VFun.intro (fn := Try.f51) rfl rfl (by kernel_rfl) (Nat.le_of_ble_eq_true rfl) fun Γ hpar => ?_
  refine vw_seq ?_
  refine vw_region ?_
  refine u_assign rfl rfl trivial ?_
  refine u_end trivial ?_
  refine vw_seq ?_
  refine vw_region ?_
  refine u_assign rfl rfl trivial ?_
  refine u_end trivial ?_
  refine vw_seq ?_
  refine vw_seq ?_
  refine vw_region ?_
  refine u_move rfl rfl trivial ?_
  refine u_move rfl rfl trivial ?_
  refine u_end trivial ?_
  refine vw_block ?_
  refine vw_loopR (fun n E => ∃ (i : Nat), ((i ≤ m.toNat)) ∧ n = m.toNat - i ∧ E = ⟨[(0, .lit (.int .i64 v)), (2, .lit (.int .i64 s)), (3, .lit (.int .i64 t)), (13, .lit (.int .i64 m)), (14, .lit (.int .i64 i)), (9, .row 9)], [(9, .row 3 1 (intCells (mineUp v s t i)))], 40⟩) (n0 := _) (E0 := _) (⟨0, by omega, rfl, rfl⟩) (ren []) (mk_wk [] rfl rfl ⟨⟨_, rfl, (.lit _)⟩, ⟨_, rfl, (.lit _)⟩, ⟨_, rfl, (.lit _)⟩, ⟨_, rfl, (.lit _)⟩, ⟨_, rfl, (.lit _)⟩, ⟨_, rfl, .nilrow _ _ _ _ rfl rfl⟩, trivial⟩ ⟨(.inr ⟨rfl, rfl⟩), trivial⟩ (no_par' hpar)) (fun n E hR => ?_)
  obtain ⟨i, hI, rfl, rfl⟩ := hR
  have hI0 := hI
  refine vw_seq ?_
  refine vw_region ?_
  refine s_lss rfl rfl rfl trivial (fun h15 => ?_) (fun h15 => ?_)
  · refine u_end trivial ?_
    refine vw_seq ?_
    refine vw_condT rfl ?_
    refine vw_skip ?_
    refine vw_seq ?_
    refine vw_block ?_
    refine vw_seq ?_
    refine vw_region ?_
    refine u_move rfl rfl trivial ?_
    refine u_assign rfl rfl trivial ?_
    refine u_end trivial ?_
    refine vw_seq ?_
    refine vw_region ?_
    refine u_move rfl rfl trivial ?_
    refine u_move rfl rfl trivial ?_
    refine u_add rfl rfl rfl (by unfold inI; omega) rfl trivial ?_
    refine u_move rfl rfl trivial ?_
    refine u_call rfl (c50 _ _) (.cons ((.lit _)) (.cons ((.lit _)) .nil)) rfl trivial ?_
    refine u_move rfl rfl trivial ?_
    refine u_extract rfl rfl rfl trivial ?_
    refine u_extract rfl rfl rfl trivial ?_
    refine u_assign rfl rfl trivial ?_
    refine u_assign rfl rfl trivial ?_
    refine u_end trivial ?_
    refine vw_seq ?_
    refine vw_region ?_
    refine u_move rfl rfl trivial ?_
    refine s_eql rfl rfl rfl trivial (fun h26 => ?_) (fun h26 => ?_)
    · refine u_move rfl rfl trivial ?_
      refine u_move rfl rfl ⟨_, _, rfl, rfl, rfl, rfl⟩ ?_
      refine u_move rfl rfl ⟨_, _, rfl, rfl, rfl, rfl⟩ ?_
      refine s_eql rfl rfl rfl ⟨_, _, rfl, rfl, rfl, rfl⟩ (fun h30 => ?_) (fun h30 => ?_)
      · refine u_pickT rfl rfl rfl trivial ?_
        refine u_end trivial ?_
        refine vw_condT rfl ?_
        refine vw_region ?_
        refine u_move rfl rfl trivial ?_
        refine u_move rfl rfl trivial ?_
        refine u_move rfl rfl trivial ?_
        refine u_add rfl rfl rfl (by unfold inI; omega) rfl trivial ?_
        refine u_buildSlice 120 rfl rfl rfl rfl rfl rfl rfl rfl rfl rfl (notPar hpar rfl) rfl rfl trivial ?_
        refine u_append 121 rfl rfl rfl (srcRow rfl) rfl (notPar hpar rfl) rfl rfl rfl rfl rfl (by have := mineUp_len v s t i; simp [intCells_length, cellsL]; omega) rfl trivial ?_
        refine u_assign rfl rfl trivial ?_
        refine u_end trivial ?_
        refine vw_region ?_
        refine u_add rfl rfl rfl (by unfold inI; omega) rfl trivial ?_
        refine u_move rfl rfl trivial ?_
        refine u_end trivial ?_
        refine ⟨_, _, ren [(9, 121)], ?_, ⟨i + 1, ?_, rfl, rfl⟩, mk_wk [(9, 121)] rfl rfl ⟨⟨_, rfl, (.lit _)⟩, ⟨_, rfl, (.lit _)⟩, ⟨_, rfl, (.lit _)⟩, ⟨_, rfl, (.lit _)⟩, ⟨_, rfl, (.lit _)⟩, ⟨_, rfl, (.row _ _ rfl (lookNe rfl))⟩, trivial⟩ ⟨(.inl ⟨_, rfl, rowEq rfl (by show intCells _ ++ _ = intCells _; rw [mineUp, if_pos ⟨h26, h30⟩, ← intCells_snoc]; rfl)⟩), trivial⟩ (no_par' hpar)⟩
        · omega
        · omega
      · refine u_pickT rfl rfl rfl trivial ?_
        refine u_end trivial ?_
        refine vw_condF rfl ?_
        refine vw_skip ?_
        refine vw_region ?_
        refine u_add rfl rfl rfl (by unfold inI; omega) rfl trivial ?_
        refine u_move rfl rfl trivial ?_
        refine u_end trivial ?_
        refine ⟨_, _, ren [(9, 9)], ?_, ⟨i + 1, ?_, rfl, rfl⟩, mk_wk [(9, 9)] rfl rfl ⟨⟨_, rfl, (.lit _)⟩, ⟨_, rfl, (.lit _)⟩, ⟨_, rfl, (.lit _)⟩, ⟨_, rfl, (.lit _)⟩, ⟨_, rfl, (.lit _)⟩, ⟨_, rfl, (.row _ _ rfl (lookNe rfl))⟩, trivial⟩ ⟨(.inl ⟨_, rfl, rowEq rfl (by rw [mineUp, if_neg (by omega)])⟩), trivial⟩ (no_par' hpar)⟩
        · omega
        · omega
    · refine u_move rfl rfl trivial ?_
      refine u_skip rfl rfl rfl rfl rfl ?_
      refine u_skip rfl rfl rfl rfl rfl ?_
      refine u_skip rfl rfl rfl rfl rfl ?_
      refine u_pickF rfl rfl rfl trivial ?_
      refine u_end trivial ?_
      refine vw_condF rfl ?_
      refine vw_skip ?_
      refine vw_region ?_
      refine u_add rfl rfl rfl (by unfold inI; omega) rfl trivial ?_
      refine u_move rfl rfl trivial ?_
      refine u_end trivial ?_
      refine ⟨_, _, ren [(9, 9)], ?_, ⟨i + 1, ?_, rfl, rfl⟩, mk_wk [(9, 9)] rfl rfl ⟨⟨_, rfl, (.lit _)⟩, ⟨_, rfl, (.lit _)⟩, ⟨_, rfl, (.lit _)⟩, ⟨_, rfl, (.lit _)⟩, ⟨_, rfl, (.lit _)⟩, ⟨_, rfl, (.row _ _ rfl (lookNe rfl))⟩, trivial⟩ ⟨(.inl ⟨_, rfl, rowEq rfl (by rw [mineUp, if_neg (by omega)])⟩), trivial⟩ (no_par' hpar)⟩
      · omega
      · omega
  · refine u_end trivial ?_
    refine vw_seq ?_
    refine vw_condF rfl ?_
    refine vw_exit ?_
    refine iteP rfl ?_
    refine vw_seq ?_
    refine vw_region ?_
    refine u_move rfl rfl trivial ?_
    refine u_assign rfl rfl trivial ?_
    refine u_end trivial ?_
    refine vw_ret ?_
    refine fin0 (.inr rfl) (.cons (.tmp rfl (Nat.le_of_ble_eq_true rfl)) .nil) (subFz rfl (fzL rfl) ?_)
    · rw [show m.toNat = i by omega]
theorem c6 (v m s t : Int) (hv : inI v) (hm : inI m) : VFun G 6 [.lit (.int .i64 v), .lit (.int .i64 m), .lit (.int .i64 s), .lit (.int .i64 t)] [] (.lit (.bool true)) [] := by
  refine VFun.intro (fn := Try.f6) rfl rfl (by kernel_rfl) (Nat.le_of_ble_eq_true rfl) fun Γ hpar => ?_
  refine vw_seq ?_
  refine vw_region ?_
  refine u_assign rfl rfl trivial ?_
  refine u_end trivial ?_
  refine vw_seq ?_
  refine vw_region ?_
  refine u_move rfl rfl trivial ?_
  refine u_move rfl rfl trivial ?_
  refine u_call rfl (c50 _ _) (.cons ((.lit _)) (.cons ((.lit _)) .nil)) rfl trivial ?_
  refine u_move rfl rfl trivial ?_
  refine u_extract rfl rfl rfl trivial ?_
  refine u_extract rfl rfl rfl trivial ?_
  refine u_assign rfl rfl trivial ?_
  refine u_assign rfl rfl trivial ?_
  refine u_end trivial ?_
  refine vw_seq ?_
  refine vw_seq ?_
  have hw := whose_is v s
  refine vw_region ?_
  refine u_move rfl rfl trivial ?_
  refine s_lss rfl rfl rfl trivial (fun h21 => ?_) (fun h21 => ?_)
  · refine u_move rfl rfl trivial ?_
    refine u_skip rfl rfl rfl rfl rfl ?_
    refine u_skip rfl rfl rfl rfl rfl ?_
    refine u_pickT rfl rfl rfl trivial ?_
    refine u_move rfl rfl trivial ?_
    refine u_skip rfl rfl rfl rfl rfl ?_
    refine u_skip rfl rfl rfl rfl rfl ?_
    refine u_pickT rfl rfl rfl trivial ?_
    refine u_end trivial ?_
    refine vw_condT rfl ?_
    refine vw_seq ?_
    refine vw_region ?_
    refine u_move rfl rfl trivial ?_
    refine s_eql rfl rfl rfl trivial (fun h31 => ?_) (fun h31 => ?_)
    · refine u_move rfl rfl trivial ?_
      refine u_move rfl rfl ⟨_, _, rfl, rfl, rfl, rfl⟩ ?_
      refine u_eql rfl rfl rfl ⟨_, _, rfl, rfl, rfl, rfl⟩ ?_
      refine u_pickT rfl rfl rfl trivial ?_
      refine u_assign rfl rfl trivial ?_
      refine u_end trivial ?_
      refine vw_ret ?_
      refine fin0 (.inr rfl) (.cons (.tmp rfl (Nat.le_of_ble_eq_true rfl)) .nil) (subB ?_)
      · exact (beq_iff_eq.2 (by omega)).symm
    · exfalso; omega
  · refine u_move rfl rfl trivial ?_
    refine u_move rfl rfl ⟨_, _, rfl, rfl, rfl, rfl⟩ ?_
    refine s_lss rfl rfl rfl ⟨_, _, rfl, rfl, rfl, rfl⟩ (fun h24 => ?_) (fun h24 => ?_)
    · refine u_pickF rfl rfl rfl trivial ?_
      refine u_move rfl rfl trivial ?_
      refine u_skip rfl rfl rfl rfl rfl ?_
      refine u_skip rfl rfl rfl rfl rfl ?_
      refine u_pickT rfl rfl rfl trivial ?_
      refine u_end trivial ?_
      refine vw_condT rfl ?_
      refine vw_seq ?_
      refine vw_region ?_
      refine u_move rfl rfl trivial ?_
      refine s_eql rfl rfl rfl trivial (fun h31 => ?_) (fun h31 => ?_)
      · refine u_move rfl rfl trivial ?_
        refine u_move rfl rfl ⟨_, _, rfl, rfl, rfl, rfl⟩ ?_
        refine u_eql rfl rfl rfl ⟨_, _, rfl, rfl, rfl, rfl⟩ ?_
        refine u_pickT rfl rfl rfl trivial ?_
        refine u_assign rfl rfl trivial ?_
        refine u_end trivial ?_
        refine vw_ret ?_
        refine fin0 (.inr rfl) (.cons (.tmp rfl (Nat.le_of_ble_eq_true rfl)) .nil) (subB ?_)
        · exact (beq_iff_eq.2 (by omega)).symm
      · exfalso; omega
    · refine u_pickF rfl rfl rfl trivial ?_
      refine u_move rfl rfl trivial ?_
      refine u_move rfl rfl ⟨_, _, rfl, rfl, rfl, rfl⟩ ?_
      refine s_gtr rfl rfl rfl ⟨_, _, rfl, rfl, rfl, rfl⟩ (fun h28 => ?_) (fun h28 => ?_)
      · refine u_pickF rfl rfl rfl trivial ?_
        refine u_end trivial ?_
        refine vw_condT rfl ?_
        refine vw_seq ?_
        refine vw_region ?_
        refine u_move rfl rfl trivial ?_
        refine s_eql rfl rfl rfl trivial (fun h31 => ?_) (fun h31 => ?_)
        · refine u_move rfl rfl trivial ?_
          refine u_move rfl rfl ⟨_, _, rfl, rfl, rfl, rfl⟩ ?_
          refine u_eql rfl rfl rfl ⟨_, _, rfl, rfl, rfl, rfl⟩ ?_
          refine u_pickT rfl rfl rfl trivial ?_
          refine u_assign rfl rfl trivial ?_
          refine u_end trivial ?_
          refine vw_ret ?_
          refine fin0 (.inr rfl) (.cons (.tmp rfl (Nat.le_of_ble_eq_true rfl)) .nil) (subB ?_)
          · exact (beq_iff_eq.2 (by omega)).symm
        · exfalso; omega
      · refine u_pickF rfl rfl rfl trivial ?_
        refine u_end trivial ?_
        refine vw_condF rfl ?_
        refine vw_skip ?_
        refine vw_seq ?_
        refine vw_seq ?_
        refine vw_region ?_
        refine u_move rfl rfl trivial ?_
        refine s_neq rfl rfl rfl trivial (fun h37 => ?_) (fun h37 => ?_)
        · exfalso; omega
        · refine u_move rfl rfl trivial ?_
          refine u_move rfl rfl ⟨_, _, rfl, rfl, rfl, rfl⟩ ?_
          refine u_move rfl rfl ⟨_, _, rfl, rfl, rfl, rfl⟩ ?_
          refine u_move rfl rfl ⟨_, _, rfl, rfl, rfl, rfl⟩ ?_
          refine u_move rfl rfl ⟨_, _, rfl, rfl, rfl, rfl⟩ ?_
          refine u_quoN rfl rfl (by unfold inI at *; omega) rfl ⟨_, _, rfl, rfl, rfl, rfl⟩ ?_
          refine u_move rfl rfl ⟨_, _, rfl, rfl, rfl, rfl⟩ ?_
          refine u_mul rfl rfl rfl (by rw [Int.mul_comm (v / s) s]; have h1 := Int.mul_nonneg (show 0 ≤ s by omega) (Int.ediv_nonneg (show 0 ≤ v by omega) (show 0 ≤ s by omega)); have h2 := Int.mul_ediv_self_le (x := v) (k := s) (by omega); unfold inI at *; omega) rfl ⟨_, _, rfl, rfl, rfl, rfl⟩ ?_
          refine u_sub rfl rfl rfl (by rw [Int.mul_comm (v / s) s]; have h1 := Int.mul_nonneg (show 0 ≤ s by omega) (Int.ediv_nonneg (show 0 ≤ v by omega) (show 0 ≤ s by omega)); have h2 := Int.mul_ediv_self_le (x := v) (k := s) (by omega); unfold inI at *; omega) rfl ⟨_, _, rfl, rfl, rfl, rfl⟩ ?_
          refine s_neq rfl rfl rfl ⟨_, _, rfl, rfl, rfl, rfl⟩ (fun h47 => ?_) (fun h47 => ?_)
          · exfalso; have := Int.emod_def v s; rw [Int.mul_comm (v / s) s] at h47; omega
          · refine u_pickF rfl rfl rfl trivial ?_
            refine u_end trivial ?_
            refine vw_condF rfl ?_
            refine vw_skip ?_
            refine vw_seq ?_
            refine vw_seq ?_
            refine vw_region ?_
            refine u_move rfl rfl trivial ?_
            refine s_lss rfl rfl rfl trivial (fun h50 => ?_) (fun h50 => ?_)
            · refine u_move rfl rfl trivial ?_
              refine u_skip rfl rfl rfl rfl rfl ?_
              refine u_skip rfl rfl rfl rfl rfl ?_
              refine u_pickT rfl rfl rfl trivial ?_
              refine u_move rfl rfl trivial ?_
              refine u_skip rfl rfl rfl rfl rfl ?_
              refine u_skip rfl rfl rfl rfl rfl ?_
              refine u_pickT rfl rfl rfl trivial ?_
              refine u_end trivial ?_
              refine vw_condT rfl ?_
              refine vw_seq ?_
              refine vw_region ?_
              refine u_assign rfl rfl trivial ?_
              refine u_end trivial ?_
              refine vw_ret ?_
              refine fin0 (.inr rfl) (.cons (.tmp rfl (Nat.le_of_ble_eq_true rfl)) .nil) (subB ?_)
              · rfl
            · refine u_move rfl rfl trivial ?_
              refine u_move rfl rfl ⟨_, _, rfl, rfl, rfl, rfl⟩ ?_
              refine s_gtr rfl rfl rfl ⟨_, _, rfl, rfl, rfl, rfl⟩ (fun h53 => ?_) (fun h53 => ?_)
              · refine u_pickF rfl rfl rfl trivial ?_
                refine u_move rfl rfl trivial ?_
                refine u_skip rfl rfl rfl rfl rfl ?_
                refine u_skip rfl rfl rfl rfl rfl ?_
                refine u_pickT rfl rfl rfl trivial ?_
                refine u_end trivial ?_
                refine vw_condT rfl ?_
                refine vw_seq ?_
                refine vw_region ?_
                refine u_assign rfl rfl trivial ?_
                refine u_end trivial ?_
                refine vw_ret ?_
                refine fin0 (.inr rfl) (.cons (.tmp rfl (Nat.le_of_ble_eq_true rfl)) .nil) (subB ?_)
                · rfl
              · refine u_pickF rfl rfl rfl trivial ?_
                refine u_move rfl rfl trivial ?_
                refine u_move rfl rfl ⟨_, _, rfl, rfl, rfl, rfl⟩ ?_
                refine s_gtr rfl rfl rfl ⟨_, _, rfl, rfl, rfl, rfl⟩ (fun h57 => ?_) (fun h57 => ?_)
                · refine u_pickF rfl rfl rfl trivial ?_
                  refine u_end trivial ?_
                  refine vw_condT rfl ?_
                  refine vw_seq ?_
                  refine vw_region ?_
                  refine u_assign rfl rfl trivial ?_
                  refine u_end trivial ?_
                  refine vw_ret ?_
                  refine fin0 (.inr rfl) (.cons (.tmp rfl (Nat.le_of_ble_eq_true rfl)) .nil) (subB ?_)
                  · rfl
                · refine u_pickF rfl rfl rfl trivial ?_
                  refine u_end trivial ?_
                  refine vw_condF rfl ?_
                  refine vw_skip ?_
                  refine vw_seq ?_
                  refine vw_region ?_
                  refine u_move rfl rfl trivial ?_
                  refine u_move rfl rfl trivial ?_
                  refine u_move rfl rfl trivial ?_
                  refine u_move rfl rfl trivial ?_
                  refine u_call rfl (c51 _ _ _ _ (by omega) (by omega)) (.cons ((.lit _)) (.cons ((.lit _)) (.cons ((.lit _)) (.cons ((.lit _)) .nil)))) rfl trivial ?_
                  refine u_assign rfl rfl trivial ?_
                  refine u_end trivial ?_
                  refine vw_seq ?_
                  refine vw_region ?_
                  refine u_assign rfl rfl trivial ?_
                  refine u_end trivial ?_
                  refine vw_seq ?_
                  refine vw_seq ?_
                  refine vw_region ?_
                  refine u_move rfl rfl trivial ?_
                  refine u_assign rfl rfl trivial ?_
                  refine u_end trivial ?_
                  refine vw_block ?_
                  refine vw_loopR (fun n E => ∃ (i : Nat), ((i ≤ m.toNat)) ∧ n = m.toNat - i ∧ E = ⟨[(0, .lit (.int .i64 v)), (1, .lit (.int .i64 m)), (2, .lit (.int .i64 s)), (3, .lit (.int .i64 t)), (11, .shr 1 (intCells (mineUp v s t m.toNat))), (13, .lit (.int .i64 (v + i))), (12, .lit (.int .i64 (mineUp v s t i).length))], [], 95⟩) (n0 := _) (E0 := _) (⟨0, by omega, rfl, rfl⟩) (ren []) (mk_wk [] rfl rfl ⟨⟨_, rfl, (.lit _)⟩, ⟨_, rfl, (.lit _)⟩, ⟨_, rfl, (.lit _)⟩, ⟨_, rfl, (.lit _)⟩, ⟨_, rfl, (.shr _ _)⟩, ⟨_, rfl, (subI (by first | omega | (push_cast; omega)))⟩, ⟨_, rfl, (subI (by rfl))⟩, trivial⟩ trivial (no_par' hpar)) (fun n E hR => ?_)
                  obtain ⟨i, hI, rfl, rfl⟩ := hR
                  have hI0 := hI
                  refine vw_seq ?_
                  refine vw_seq ?_
                  refine vw_region ?_
                  refine u_move rfl rfl trivial ?_
                  refine u_move rfl rfl trivial ?_
                  refine u_move rfl rfl trivial ?_
                  refine u_add rfl rfl rfl (by unfold inI; omega) rfl trivial ?_
                  refine s_lss rfl rfl rfl trivial (fun h69 => ?_) (fun h69 => ?_)
                  · refine u_end trivial ?_
                    refine vw_condT rfl ?_
                    refine vw_skip ?_
                    refine vw_seq ?_
                    refine vw_block ?_
                    refine vw_seq ?_
                    refine vw_seq ?_
                    have hw2 := whose_is (v + i) s
                    refine vw_region ?_
                    refine u_move rfl rfl trivial ?_
                    refine u_move rfl rfl trivial ?_
                    refine u_remN rfl rfl (by omega) rfl trivial ?_
                    refine u_move rfl rfl trivial ?_
                    refine s_neq rfl rfl rfl trivial (fun h76 => ?_) (fun h76 => ?_)
                    · refine u_end trivial ?_
                      refine vw_condT rfl ?_
                      refine vw_exit ?_
                      refine iteP rfl ?_
                      refine vw_region ?_
                      refine u_move rfl rfl trivial ?_
                      refine u_add rfl rfl rfl (by unfold inI; omega) rfl trivial ?_
                      refine u_assign rfl rfl trivial ?_
                      refine u_end trivial ?_
                      refine ⟨_, _, ren [], ?_, ⟨i + 1, ?_, rfl, rfl⟩, mk_wk [] rfl rfl ⟨⟨_, rfl, (.lit _)⟩, ⟨_, rfl, (.lit _)⟩, ⟨_, rfl, (.lit _)⟩, ⟨_, rfl, (.lit _)⟩, ⟨_, rfl, (.shr _ _)⟩, ⟨_, rfl, (subI (by first | omega | (push_cast; omega)))⟩, ⟨_, rfl, (subI (by rw [mineUp, if_neg (by omega)]))⟩, trivial⟩ trivial (no_par' hpar)⟩
                      · omega
                      · omega
                    · refine u_end trivial ?_
                      refine vw_condF rfl ?_
                      refine vw_skip ?_
                      refine vw_seq ?_
                      refine vw_seq ?_
                      refine vw_region ?_
                      refine u_move rfl rfl trivial ?_
                      refine u_move rfl rfl trivial ?_
                      refine u_len rfl rfl rfl trivial ?_
                      refine s_geq rfl rfl rfl trivial (fun h80 => ?_) (fun h80 => ?_)
                      · exfalso; have := mineUp_at v s t i (by omega) m.toNat (by omega); have := (List.getElem?_eq_some_iff.1 this).1; rw [intCells_length] at h80; omega
                      · refine u_move rfl rfl trivial ?_
                        refine u_move rfl rfl ⟨_, _, rfl, rfl, rfl, rfl⟩ ?_
                        refine u_move rfl rfl ⟨_, _, rfl, rfl, rfl, rfl⟩ ?_
                        refine u_indexS rfl rfl rfl rfl rfl rfl (intCells_get (mineUp_at v s t i (by omega) m.toNat (by omega))) rfl ⟨_, _, rfl, rfl, rfl, rfl⟩ ?_
                        refine u_loadS1 rfl rfl rfl rfl rfl ⟨_, _, rfl, rfl, rfl, rfl⟩ ?_
                        refine u_move rfl rfl ⟨_, _, rfl, rfl, rfl, rfl⟩ ?_
                        refine s_neq rfl rfl rfl ⟨_, _, rfl, rfl, rfl, rfl⟩ (fun h87 => ?_) (fun h87 => ?_)
                        · exact absurd rfl h87
                        · refine u_pickF rfl rfl rfl trivial ?_
                          refine u_end trivial ?_
                          refine vw_condF rfl ?_
                          refine vw_skip ?_
                          refine vw_region ?_
                          refine u_move rfl rfl trivial ?_
                          refine u_add rfl rfl rfl (by have := mineUp_len v s t i; unfold inI; omega) rfl trivial ?_
                          refine u_assign rfl rfl trivial ?_
                          refine u_end trivial ?_
                          refine vw_region ?_
                          refine u_move rfl rfl trivial ?_
                          refine u_add rfl rfl rfl (by unfold inI; omega) rfl trivial ?_
                          refine u_assign rfl rfl trivial ?_
                          refine u_end trivial ?_
                          refine ⟨_, _, ren [], ?_, ⟨i + 1, ?_, rfl, rfl⟩, mk_wk [] rfl rfl ⟨⟨_, rfl, (.lit _)⟩, ⟨_, rfl, (.lit _)⟩, ⟨_, rfl, (.lit _)⟩, ⟨_, rfl, (.lit _)⟩, ⟨_, rfl, (.shr _ _)⟩, ⟨_, rfl, (subI (by first | omega | (push_cast; omega)))⟩, ⟨_, rfl, (subI (by rw [mineUp, if_pos (by omega)]; simp))⟩, trivial⟩ trivial (no_par' hpar)⟩
                          · omega
                          · omega
                  · refine u_end trivial ?_
                    refine vw_condF rfl ?_
                    refine vw_exit ?_
                    refine iteP rfl ?_
                    refine vw_seq ?_
                    refine vw_region ?_
                    refine u_move rfl rfl trivial ?_
                    refine u_move rfl rfl trivial ?_
                    refine u_len rfl rfl rfl trivial ?_
                    refine u_eql rfl rfl rfl trivial ?_
                    refine u_assign rfl rfl trivial ?_
                    refine u_end trivial ?_
                    refine vw_ret ?_
                    refine fin0 (.inr rfl) (.cons (.tmp rfl (Nat.le_of_ble_eq_true rfl)) .nil) (subB ?_)
                    · rw [show m.toNat = i by omega, intCells_length]; exact (beq_iff_eq.2 rfl).symm
theorem c52  : VFun G 52 [] [] (.lit (.bool true)) [] := by
  refine VFun.intro (fn := Try.f52) rfl rfl (by kernel_rfl) (Nat.le_of_ble_eq_true rfl) fun Γ hpar => ?_
  refine vw_seq ?_
  refine vw_region ?_
  refine u_assign rfl rfl trivial ?_
  refine u_end trivial ?_
  refine vw_seq ?_
  refine vw_region ?_
  refine u_call rfl (c50 _ _) (.cons ((.lit _)) (.cons ((.lit _)) .nil)) rfl trivial ?_
  refine u_move rfl rfl trivial ?_
  refine u_extract rfl rfl rfl trivial ?_
  refine u_extract rfl rfl rfl trivial ?_
  refine u_assign rfl rfl trivial ?_
  refine u_assign rfl rfl trivial ?_
  refine u_end trivial ?_
  refine vw_seq ?_
  refine vw_region ?_
  refine u_call rfl (c50 _ _) (.cons ((.lit _)) (.cons ((.lit _)) .nil)) rfl trivial ?_
  refine u_move rfl rfl trivial ?_
  refine u_extract rfl rfl rfl trivial ?_
  refine u_extract rfl rfl rfl trivial ?_
  refine u_assign rfl rfl trivial ?_
  refine u_assign rfl rfl trivial ?_
  refine u_end trivial ?_
  refine vw_seq ?_
  refine vw_region ?_
  refine u_move rfl rfl trivial ?_
  refine s_eql rfl rfl rfl trivial (fun h14 => ?_) (fun h14 => ?_)
  · refine u_move rfl rfl trivial ?_
    refine u_move rfl rfl ⟨_, _, rfl, rfl, rfl, rfl⟩ ?_
    refine s_eql rfl rfl rfl ⟨_, _, rfl, rfl, rfl, rfl⟩ (fun h17 => ?_) (fun h17 => ?_)
    · refine u_pickT rfl rfl rfl trivial ?_
      refine u_move rfl rfl trivial ?_
      refine u_move rfl rfl ⟨_, _, rfl, rfl, rfl, rfl⟩ ?_
      refine s_eql rfl rfl rfl ⟨_, _, rfl, rfl, rfl, rfl⟩ (fun h21 => ?_) (fun h21 => ?_)
      · refine u_pickT rfl rfl rfl trivial ?_
        refine u_move rfl rfl trivial ?_
        refine u_call rfl (c51 _ _ _ _ (by decide) (by decide)) (.cons ((.lit _)) (.cons ((.lit _)) (.cons ((.lit _)) (.cons ((.lit _)) .nil)))) rfl ⟨_, _, rfl, rfl, rfl, rfl⟩ ?_
        refine u_len rfl rfl rfl ⟨_, _, rfl, rfl, rfl, rfl⟩ ?_
        refine u_eql rfl rfl rfl ⟨_, _, rfl, rfl, rfl, rfl⟩ ?_
        refine u_pickT rfl rfl rfl trivial ?_
        refine u_assign rfl rfl trivial ?_
        refine u_end trivial ?_
        refine vw_ret ?_
        refine fin0 (.inr rfl) (.cons (.tmp rfl (Nat.le_of_ble_eq_true rfl)) .nil) (subB ?_)
        · decide
      · exact absurd (by decide) h21
    · exact absurd (by decide) h17
  · exact absurd (by decide) h14
theorem c7 (v s t : Int) : VFun G 7 [.lit (.int .i64 v), .lit (.int .i64 s), .lit (.int .i64 t)] [] (.lit (.bool true)) [] := by
  refine VFun.intro (fn := Try.f7) rfl rfl (by kernel_rfl) (Nat.le_of_ble_eq_true rfl) fun Γ hpar => ?_
  refine vw_seq ?_
  refine vw_region ?_
  refine u_assign rfl rfl trivial ?_
  refine u_end trivial ?_
  refine vw_seq ?_
  refine vw_seq ?_
  refine vw_region ?_
  refine u_call rfl (c52) .nil rfl trivial ?_
  refine u_not rfl rfl trivial ?_
  refine u_end trivial ?_
  refine vw_condF rfl ?_
  refine vw_skip ?_
  refine vw_seq ?_
  refine vw_seq ?_
  refine vw_region ?_
  refine u_move rfl rfl trivial ?_
  refine s_lss rfl rfl rfl trivial (fun h15 => ?_) (fun h15 => ?_)
  · refine u_move rfl rfl trivial ?_
    refine u_skip rfl rfl rfl rfl rfl ?_
    refine u_skip rfl rfl rfl rfl rfl ?_
    refine u_pickT rfl rfl rfl trivial ?_
    refine u_move rfl rfl trivial ?_
    refine u_skip rfl rfl rfl rfl rfl ?_
    refine u_skip rfl rfl rfl rfl rfl ?_
    refine u_pickT rfl rfl rfl trivial ?_
    refine u_move rfl rfl trivial ?_
    refine u_skip rfl rfl rfl rfl rfl ?_
    refine u_skip rfl rfl rfl rfl rfl ?_
    refine u_pickT rfl rfl rfl trivial ?_
    refine u_move rfl rfl trivial ?_
    refine u_skip rfl rfl rfl rfl rfl ?_
    refine u_skip rfl rfl rfl rfl rfl ?_
    refine u_pickT rfl rfl rfl trivial ?_
    refine u_move rfl rfl trivial ?_
    refine u_skip rfl rfl rfl rfl rfl ?_
    refine u_skip rfl rfl rfl rfl rfl ?_
    refine u_skip rfl rfl rfl rfl rfl ?_
    refine u_pickT rfl rfl rfl trivial ?_
    refine u_end trivial ?_
    refine vw_condT rfl ?_
    refine vw_seq ?_
    refine vw_region ?_
    refine u_assign rfl rfl trivial ?_
    refine u_end trivial ?_
    refine vw_ret ?_
    refine fin0 (.inr rfl) (.cons (.tmp rfl (Nat.le_of_ble_eq_true rfl)) .nil) (subB ?_)
    · rfl
  · refine u_move rfl rfl trivial ?_
    refine u_move rfl rfl ⟨_, _, rfl, rfl, rfl, rfl⟩ ?_
    refine s_gtr rfl rfl rfl ⟨_, _, rfl, rfl, rfl, rfl⟩ (fun h18 => ?_) (fun h18 => ?_)
    · refine u_pickF rfl rfl rfl trivial ?_
      refine u_move rfl rfl trivial ?_
      refine u_skip rfl rfl rfl rfl rfl ?_
      refine u_skip rfl rfl rfl rfl rfl ?_
      refine u_pickT rfl rfl rfl trivial ?_
      refine u_move rfl rfl trivial ?_
      refine u_skip rfl rfl rfl rfl rfl ?_
      refine u_skip rfl rfl rfl rfl rfl ?_
      refine u_pickT rfl rfl rfl trivial ?_
      refine u_move rfl rfl trivial ?_
      refine u_skip rfl rfl rfl rfl rfl ?_
      refine u_skip rfl rfl rfl rfl rfl ?_
      refine u_pickT rfl rfl rfl trivial ?_
      refine u_move rfl rfl trivial ?_
      refine u_skip rfl rfl rfl rfl rfl ?_
      refine u_skip rfl rfl rfl rfl rfl ?_
      refine u_skip rfl rfl rfl rfl rfl ?_
      refine u_pickT rfl rfl rfl trivial ?_
      refine u_end trivial ?_
      refine vw_condT rfl ?_
      refine vw_seq ?_
      refine vw_region ?_
      refine u_assign rfl rfl trivial ?_
      refine u_end trivial ?_
      refine vw_ret ?_
      refine fin0 (.inr rfl) (.cons (.tmp rfl (Nat.le_of_ble_eq_true rfl)) .nil) (subB ?_)
      · rfl
    · refine u_pickF rfl rfl rfl trivial ?_
      refine u_move rfl rfl trivial ?_
      refine u_move rfl rfl ⟨_, _, rfl, rfl, rfl, rfl⟩ ?_
      refine s_lss rfl rfl rfl ⟨_, _, rfl, rfl, rfl, rfl⟩ (fun h22 => ?_) (fun h22 => ?_)
      · refine u_pickF rfl rfl rfl trivial ?_
        refine u_move rfl rfl trivial ?_
        refine u_skip rfl rfl rfl rfl rfl ?_
        refine u_skip rfl rfl rfl rfl rfl ?_
        refine u_pickT rfl rfl rfl trivial ?_
        refine u_move rfl rfl trivial ?_
        refine u_skip rfl rfl rfl rfl rfl ?_
        refine u_skip rfl rfl rfl rfl rfl ?_
        refine u_pickT rfl rfl rfl trivial ?_
        refine u_move rfl rfl trivial ?_
        refine u_skip rfl rfl rfl rfl rfl ?_
        refine u_skip rfl rfl rfl rfl rfl ?_
        refine u_skip rfl rfl rfl rfl rfl ?_
        refine u_pickT rfl rfl rfl trivial ?_
        refine u_end trivial ?_
        refine vw_condT rfl ?_
        refine vw_seq ?_
        refine vw_region ?_
        refine u_assign rfl rfl trivial ?_
        refine u_end trivial ?_
        refine vw_ret ?_
        refine fin0 (.inr rfl) (.cons (.tmp rfl (Nat.le_of_ble_eq_true rfl)) .nil) (subB ?_)
        · rfl
      · refine u_pickF rfl rfl rfl trivial ?_
        refine u_move rfl rfl trivial ?_
        refine u_move rfl rfl ⟨_, _, rfl, rfl, rfl, rfl⟩ ?_
        refine s_gtr rfl rfl rfl ⟨_, _, rfl, rfl, rfl, rfl⟩ (fun h26 => ?_) (fun h26 => ?_)
        · refine u_pickF rfl rfl rfl trivial ?_
          refine u_move rfl rfl trivial ?_
          refine u_skip rfl rfl rfl rfl rfl ?_
          refine u_skip rfl rfl rfl rfl rfl ?_
          refine u_pickT rfl rfl rfl trivial ?_
          refine u_move rfl rfl trivial ?_
          refine u_skip rfl rfl rfl rfl rfl ?_
          refine u_skip rfl rfl rfl rfl rfl ?_
          refine u_skip rfl rfl rfl rfl rfl ?_
          refine u_pickT rfl rfl rfl trivial ?_
          refine u_end trivial ?_
          refine vw_condT rfl ?_
          refine vw_seq ?_
          refine vw_region ?_
          refine u_assign rfl rfl trivial ?_
          refine u_end trivial ?_
          refine vw_ret ?_
          refine fin0 (.inr rfl) (.cons (.tmp rfl (Nat.le_of_ble_eq_true rfl)) .nil) (subB ?_)
          · rfl
        · refine u_pickF rfl rfl rfl trivial ?_
          refine u_move rfl rfl trivial ?_
          refine u_move rfl rfl ⟨_, _, rfl, rfl, rfl, rfl⟩ ?_
          refine s_lss rfl rfl rfl ⟨_, _, rfl, rfl, rfl, rfl⟩ (fun h30 => ?_) (fun h30 => ?_)
          · refine u_pickF rfl rfl rfl trivial ?_
            refine u_move rfl rfl trivial ?_
            refine u_skip rfl rfl rfl rfl rfl ?_
            refine u_skip rfl rfl rfl rfl rfl ?_
            refine u_skip rfl rfl rfl rfl rfl ?_
            refine u_pickT rfl rfl rfl trivial ?_
            refine u_end trivial ?_
            refine vw_condT rfl ?_
            refine vw_seq ?_
            refine vw_region ?_
            refine u_assign rfl rfl trivial ?_
            refine u_end trivial ?_
            refine vw_ret ?_
            refine fin0 (.inr rfl) (.cons (.tmp rfl (Nat.le_of_ble_eq_true rfl)) .nil) (subB ?_)
            · rfl
          · refine u_pickF rfl rfl rfl trivial ?_
            refine u_move rfl rfl trivial ?_
            refine u_move rfl rfl ⟨_, _, rfl, rfl, rfl, rfl⟩ ?_
            refine u_move rfl rfl ⟨_, _, rfl, rfl, rfl, rfl⟩ ?_
            refine s_geq rfl rfl rfl ⟨_, _, rfl, rfl, rfl, rfl⟩ (fun h35 => ?_) (fun h35 => ?_)
            · refine u_pickF rfl rfl rfl trivial ?_
              refine u_end trivial ?_
              refine vw_condT rfl ?_
              refine vw_seq ?_
              refine vw_region ?_
              refine u_assign rfl rfl trivial ?_
              refine u_end trivial ?_
              refine vw_ret ?_
              refine fin0 (.inr rfl) (.cons (.tmp rfl (Nat.le_of_ble_eq_true rfl)) .nil) (subB ?_)
              · rfl
            · refine u_pickF rfl rfl rfl trivial ?_
              refine u_end trivial ?_
              refine vw_condF rfl ?_
              refine vw_skip ?_
              refine vw_seq ?_
              refine vw_seq ?_
              refine vw_region ?_
              refine u_move rfl rfl trivial ?_
              refine u_move rfl rfl trivial ?_
              refine u_end trivial ?_
              refine vw_block ?_
              refine vw_loopR (fun n E => ∃ (i : Nat), ((i ≤ s.toNat) ∧ (∀ j : Nat, j < i → ¬ ((whose (v + j) s).2 = 0 ∧ (whose (v + j) s).1 = t))) ∧ n = s.toNat - i ∧ E = ⟨[(0, .lit (.int .i64 v)), (1, .lit (.int .i64 s)), (2, .lit (.int .i64 t)), (37, .lit (.int .i64 s)), (38, .lit (.int .i64 i))], [], 74⟩) (n0 := _) (E0 := _) (⟨0, by exact ⟨Nat.zero_le _, fun j hj => absurd hj (Nat.not_lt_zero _)⟩, rfl, rfl⟩) (ren []) (mk_wk [] rfl rfl ⟨⟨_, rfl, (.lit _)⟩, ⟨_, rfl, (.lit _)⟩, ⟨_, rfl, (.lit _)⟩, ⟨_, rfl, (.lit _)⟩, ⟨_, rfl, (.lit _)⟩, trivial⟩ trivial (no_par' hpar)) (fun n E hR => ?_)
              obtain ⟨i, hI, rfl, rfl⟩ := hR
              obtain ⟨hI0, hI1⟩ := hI
              refine vw_seq ?_
              refine vw_region ?_
              refine s_lss rfl rfl rfl trivial (fun h39 => ?_) (fun h39 => ?_)
              · refine u_end trivial ?_
                refine vw_seq ?_
                refine vw_condT rfl ?_
                refine vw_skip ?_
                refine vw_seq ?_
                refine vw_block ?_
                refine vw_seq ?_
                refine vw_region ?_
                refine u_move rfl rfl trivial ?_
                refine u_assign rfl rfl trivial ?_
                refine u_end trivial ?_
                refine vw_seq ?_
                refine vw_region ?_
                refine u_move rfl rfl trivial ?_
                refine u_move rfl rfl trivial ?_
                refine u_add rfl rfl rfl (by unfold inI; omega) rfl trivial ?_
                refine u_move rfl rfl trivial ?_
                refine u_call rfl (c50 _ _) (.cons ((.lit _)) (.cons ((.lit _)) .nil)) rfl trivial ?_
                refine u_move rfl rfl trivial ?_
                refine u_extract rfl rfl rfl trivial ?_
                refine u_extract rfl rfl rfl trivial ?_
                refine u_assign rfl rfl trivial ?_
                refine u_assign rfl rfl trivial ?_
                refine u_end trivial ?_
                refine vw_seq ?_
                refine vw_region ?_
                refine u_move rfl rfl trivial ?_
                refine s_eql rfl rfl rfl trivial (fun h50 => ?_) (fun h50 => ?_)
                · refine u_move rfl rfl trivial ?_
                  refine u_move rfl rfl ⟨_, _, rfl, rfl, rfl, rfl⟩ ?_
                  refine u_move rfl rfl ⟨_, _, rfl, rfl, rfl, rfl⟩ ?_
                  refine s_eql rfl rfl rfl ⟨_, _, rfl, rfl, rfl, rfl⟩ (fun h54 => ?_) (fun h54 => ?_)
                  · refine u_pickT rfl rfl rfl trivial ?_
                    refine u_end trivial ?_
                    refine vw_condT rfl ?_
                    refine vw_seq ?_
                    refine vw_region ?_
                    refine u_move rfl rfl trivial ?_
                    refine u_move rfl rfl trivial ?_
                    refine u_add rfl rfl rfl (by unfold inI; omega) rfl trivial ?_
                    refine u_move rfl rfl trivial ?_
                    refine u_add rfl rfl rfl (by unfold inI; omega) rfl trivial ?_
                    refine u_move rfl rfl trivial ?_
                    refine u_call rfl (c50 _ _) (.cons ((.lit _)) (.cons ((.lit _)) .nil)) rfl trivial ?_
                    refine u_move rfl rfl trivial ?_
                    refine u_extract rfl rfl rfl trivial ?_
                    refine u_extract rfl rfl rfl trivial ?_
                    refine u_assign rfl rfl trivial ?_
                    refine u_assign rfl rfl trivial ?_
                    refine u_end trivial ?_
                    refine vw_seq ?_
                    refine vw_region ?_
                    refine u_move rfl rfl trivial ?_
                    refine s_eql rfl rfl rfl trivial (fun h67 => ?_) (fun h67 => ?_)
                    · refine u_move rfl rfl trivial ?_
                      refine u_move rfl rfl ⟨_, _, rfl, rfl, rfl, rfl⟩ ?_
                      refine u_move rfl rfl ⟨_, _, rfl, rfl, rfl, rfl⟩ ?_
                      refine u_eql rfl rfl rfl ⟨_, _, rfl, rfl, rfl, rfl⟩ ?_
                      refine u_pickT rfl rfl rfl trivial ?_
                      refine u_assign rfl rfl trivial ?_
                      refine u_end trivial ?_
                      refine vw_ret ?_
                      refine fin0 (.inr rfl) (.cons (.tmp rfl (Nat.le_of_ble_eq_true rfl)) .nil) (subB ?_)
                      · have h1 := whose_is (v + i + s) s; have h2 := whose_is (v + i) s; refine (beq_iff_eq.2 ?_).symm; rcases three ⟨h22, h26⟩ with rfl | rfl | rfl <;> omega
                    · exfalso; have := whose_is (v + i + s) s; omega
                  · refine u_pickT rfl rfl rfl trivial ?_
                    refine u_end trivial ?_
                    refine vw_condF rfl ?_
                    refine vw_skip ?_
                    refine vw_region ?_
                    refine u_add rfl rfl rfl (by unfold inI; omega) rfl trivial ?_
                    refine u_move rfl rfl trivial ?_
                    refine u_end trivial ?_
                    refine ⟨_, _, ren [], ?_, ⟨i + 1, ?_, rfl, rfl⟩, mk_wk [] rfl rfl ⟨⟨_, rfl, (.lit _)⟩, ⟨_, rfl, (.lit _)⟩, ⟨_, rfl, (.lit _)⟩, ⟨_, rfl, (.lit _)⟩, ⟨_, rfl, (.lit _)⟩, trivial⟩ trivial (no_par' hpar)⟩
                    · omega
                    · refine ⟨by omega, fun j hj => ?_⟩
                      rcases Nat.lt_or_ge j i with h | h
                      · exact hI1 j h
                      · rw [show j = i by omega]; omega
                · refine u_move rfl rfl trivial ?_
                  refine u_skip rfl rfl rfl rfl rfl ?_
                  refine u_skip rfl rfl rfl rfl rfl ?_
                  refine u_skip rfl rfl rfl rfl rfl ?_
                  refine u_pickF rfl rfl rfl trivial ?_
                  refine u_end trivial ?_
                  refine vw_condF rfl ?_
                  refine vw_skip ?_
                  refine vw_region ?_
                  refine u_add rfl rfl rfl (by unfold inI; omega) rfl trivial ?_
                  refine u_move rfl rfl trivial ?_
                  refine u_end trivial ?_
                  refine ⟨_, _, ren [], ?_, ⟨i + 1, ?_, rfl, rfl⟩, mk_wk [] rfl rfl ⟨⟨_, rfl, (.lit _)⟩, ⟨_, rfl, (.lit _)⟩, ⟨_, rfl, (.lit _)⟩, ⟨_, rfl, (.lit _)⟩, ⟨_, rfl, (.lit _)⟩, trivial⟩ trivial (no_par' hpar)⟩
                  · omega
                  · refine ⟨by omega, fun j hj => ?_⟩
                    rcases Nat.lt_or_ge j i with h | h
                    · exact hI1 j h
                    · rw [show j = i by omega]; omega
              · exfalso
                have q : ∀ j : Nat, (j : Int) < s → (v + j) % s ≠ t := fun j hj e => hI1 j (by omega) (by have := whose_is (v + j) s; omega)
                have q0 := q 0; have q1 := q 1; have q2 := q 2
                rcases three ⟨h22, h26⟩ with rfl | rfl | rfl <;> omega
theorem c8 (v m s : Int) : VFun G 8 [.lit (.int .i64 v), .lit (.int .i64 m), .lit (.int .i64 s)] [] (.lit (.bool true)) [] := by
  refine VFun.intro (fn := Try.f8) rfl rfl (by kernel_rfl) (Nat.le_of_ble_eq_true rfl) fun Γ hpar => ?_
  refine vw_seq ?_
  refine vw_region ?_
  refine u_assign rfl rfl trivial ?_
  refine u_end trivial ?_
  refine vw_seq ?_
  refine vw_seq ?_
  refine vw_region ?_
  refine u_call rfl (c52) .nil rfl trivial ?_
  refine u_not rfl rfl trivial ?_
  refine u_end trivial ?_
  refine vw_condF rfl ?_
  refine vw_skip ?_
  refine vw_seq ?_
  refine vw_seq ?_
  refine vw_region ?_
  refine u_move rfl rfl trivial ?_
  refine s_lss rfl rfl rfl trivial (fun h14 => ?_) (fun h14 => ?_)
  · refine u_move rfl rfl trivial ?_
    refine u_skip rfl rfl rfl rfl rfl ?_
    refine u_skip rfl rfl rfl rfl rfl ?_
    refine u_pickT rfl rfl rfl trivial ?_
    refine u_move rfl rfl trivial ?_
    refine u_skip rfl rfl rfl rfl rfl ?_
    refine u_skip rfl rfl rfl rfl rfl ?_
    refine u_pickT rfl rfl rfl trivial ?_
    refine u_move rfl rfl trivial ?_
    refine u_skip rfl rfl rfl rfl rfl ?_
    refine u_skip rfl rfl rfl rfl rfl ?_
    refine u_pickT rfl rfl rfl trivial ?_
    refine u_move rfl rfl trivial ?_
    refine u_skip rfl rfl rfl rfl rfl ?_
    refine u_skip rfl rfl rfl rfl rfl ?_
    refine u_pickT rfl rfl rfl trivial ?_
    refine u_move rfl rfl trivial ?_
    refine u_skip rfl rfl rfl rfl rfl ?_
    refine u_skip rfl rfl rfl rfl rfl ?_
    refine u_pickT rfl rfl rfl trivial ?_
    refine u_end trivial ?_
    refine vw_condT rfl ?_
    refine vw_seq ?_
    refine vw_region ?_
    refine u_assign rfl rfl trivial ?_
    refine u_end trivial ?_
    refine vw_ret ?_
    refine fin0 (.inr rfl) (.cons (.tmp rfl (Nat.le_of_ble_eq_true rfl)) .nil) (subB ?_)
    · rfl
  · refine u_move rfl rfl trivial ?_
    refine u_move rfl rfl ⟨_, _, rfl, rfl, rfl, rfl⟩ ?_
    refine s_gtr rfl rfl rfl ⟨_, _, rfl, rfl, rfl, rfl⟩ (fun h17 => ?_) (fun h17 => ?_)
    · refine u_pickF rfl rfl rfl trivial ?_
      refine u_move rfl rfl trivial ?_
      refine u_skip rfl rfl rfl rfl rfl ?_
      refine u_skip rfl rfl rfl rfl rfl ?_
      refine u_pickT rfl rfl rfl trivial ?_
      refine u_move rfl rfl trivial ?_
      refine u_skip rfl rfl rfl rfl rfl ?_
      refine u_skip rfl rfl rfl rfl rfl ?_
      refine u_pickT rfl rfl rfl trivial ?_
      refine u_move rfl rfl trivial ?_
      refine u_skip rfl rfl rfl rfl rfl ?_
      refine u_skip rfl rfl rfl rfl rfl ?_
      refine u_pickT rfl rfl rfl trivial ?_
      refine u_move rfl rfl trivial ?_
      refine u_skip rfl rfl rfl rfl rfl ?_
      refine u_skip rfl rfl rfl rfl rfl ?_
      refine u_pickT rfl rfl rfl trivial ?_
      refine u_end trivial ?_
      refine vw_condT rfl ?_
      refine vw_seq ?_
      refine vw_region ?_
      refine u_assign rfl rfl trivial ?_
      refine u_end trivial ?_
      refine vw_ret ?_
      refine fin0 (.inr rfl) (.cons (.tmp rfl (Nat.le_of_ble_eq_true rfl)) .nil) (subB ?_)
      · rfl
    · refine u_pickF rfl rfl rfl trivial ?_
      refine u_move rfl rfl trivial ?_
      refine u_move rfl rfl ⟨_, _, rfl, rfl, rfl, rfl⟩ ?_
      refine s_lss rfl rfl rfl ⟨_, _, rfl, rfl, rfl, rfl⟩ (fun h21 => ?_) (fun h21 => ?_)
      · refine u_pickF rfl rfl rfl trivial ?_
        refine u_move rfl rfl trivial ?_
        refine u_skip rfl rfl rfl rfl rfl ?_
        refine u_skip rfl rfl rfl rfl rfl ?_
        refine u_pickT rfl rfl rfl trivial ?_
        refine u_move rfl rfl trivial ?_
        refine u_skip rfl rfl rfl rfl rfl ?_
        refine u_skip rfl rfl rfl rfl rfl ?_
        refine u_pickT rfl rfl rfl trivial ?_
        refine u_move rfl rfl trivial ?_
        refine u_skip rfl rfl rfl rfl rfl ?_
        refine u_skip rfl rfl rfl rfl rfl ?_
        refine u_pickT rfl rfl rfl trivial ?_
        refine u_end trivial ?_
        refine vw_condT rfl ?_
        refine vw_seq ?_
        refine vw_region ?_
        refine u_assign rfl rfl trivial ?_
        refine u_end trivial ?_
        refine vw_ret ?_
        refine fin0 (.inr rfl) (.cons (.tmp rfl (Nat.le_of_ble_eq_true rfl)) .nil) (subB ?_)
        · rfl
      · refine u_pickF rfl rfl rfl trivial ?_
        refine u_move rfl rfl trivial ?_
        refine u_move rfl rfl ⟨_, _, rfl, rfl, rfl, rfl⟩ ?_
        refine s_gtr rfl rfl rfl ⟨_, _, rfl, rfl, rfl, rfl⟩ (fun h25 => ?_) (fun h25 => ?_)
        · refine u_pickF rfl rfl rfl trivial ?_
          refine u_move rfl rfl trivial ?_
          refine u_skip rfl rfl rfl rfl rfl ?_
          refine u_skip rfl rfl rfl rfl rfl ?_
          refine u_pickT rfl rfl rfl trivial ?_
          refine u_move rfl rfl trivial ?_
          refine u_skip rfl rfl rfl rfl rfl ?_
          refine u_skip rfl rfl rfl rfl rfl ?_
          refine u_pickT rfl rfl rfl trivial ?_
          refine u_end trivial ?_
          refine vw_condT rfl ?_
          refine vw_seq ?_
          refine vw_region ?_
          refine u_assign rfl rfl trivial ?_
          refine u_end trivial ?_
          refine vw_ret ?_
          refine fin0 (.inr rfl) (.cons (.tmp rfl (Nat.le_of_ble_eq_true rfl)) .nil) (subB ?_)
          · rfl
        · refine u_pickF rfl rfl rfl trivial ?_
          refine u_move rfl rfl trivial ?_
          refine u_move rfl rfl ⟨_, _, rfl, rfl, rfl, rfl⟩ ?_
          refine s_lss rfl rfl rfl ⟨_, _, rfl, rfl, rfl, rfl⟩ (fun h29 => ?_) (fun h29 => ?_)
          · refine u_pickF rfl rfl rfl trivial ?_
            refine u_move rfl rfl trivial ?_
            refine u_skip rfl rfl rfl rfl rfl ?_
            refine u_skip rfl rfl rfl rfl rfl ?_
            refine u_pickT rfl rfl rfl trivial ?_
            refine u_end trivial ?_
            refine vw_condT rfl ?_
            refine vw_seq ?_
            refine vw_region ?_
            refine u_assign rfl rfl trivial ?_
            refine u_end trivial ?_
            refine vw_ret ?_
            refine fin0 (.inr rfl) (.cons (.tmp rfl (Nat.le_of_ble_eq_true rfl)) .nil) (subB ?_)
            · rfl
          · refine u_pickF rfl rfl rfl trivial ?_
            refine u_move rfl rfl trivial ?_
            refine u_move rfl rfl ⟨_, _, rfl, rfl, rfl, rfl⟩ ?_
            refine s_gtr rfl rfl rfl ⟨_, _, rfl, rfl, rfl, rfl⟩ (fun h33 => ?_) (fun h33 => ?_)
            · refine u_pickF rfl rfl rfl trivial ?_
              refine u_end trivial ?_
              refine vw_condT rfl ?_
              refine vw_seq ?_
              refine vw_region ?_
              refine u_assign rfl rfl trivial ?_
              refine u_end trivial ?_
              refine vw_ret ?_
              refine fin0 (.inr rfl) (.cons (.tmp rfl (Nat.le_of_ble_eq_true rfl)) .nil) (subB ?_)
              · rfl
            · refine u_pickF rfl rfl rfl trivial ?_
              refine u_end trivial ?_
              refine vw_condF rfl ?_
              refine vw_skip ?_
              refine vw_seq ?_
              have hq0 : 0 ≤ m / s := Int.ediv_nonneg (by omega) (by omega)
              have hq1 : m / s ≤ m := Int.ediv_le_self s (by omega)
              refine vw_region ?_
              refine u_move rfl rfl trivial ?_
              refine u_assign rfl rfl trivial ?_
              refine u_assign rfl rfl trivial ?_
              refine u_end trivial ?_
              refine vw_seq ?_
              refine vw_seq ?_
              refine vw_region ?_
              refine u_move rfl rfl trivial ?_
              refine u_move rfl rfl trivial ?_
              refine u_end trivial ?_
              refine vw_block ?_
              refine vw_loopR (fun n E => ∃ (i : Nat) (a : Int) (b : Int), ((i ≤ s.toNat) ∧ (m / s ≤ a ∧ a ≤ 1000) ∧ (0 ≤ b ∧ b ≤ m / s + 1)) ∧ n = s.toNat - i ∧ E = ⟨[(0, .lit (.int .i64 v)), (1, .lit (.int .i64 m)), (2, .lit (.int .i64 s)), (36, .lit (.int .i64 s)), (37, .lit (.int .i64 i)), (7, .lit (.int .i64 a)), (8, .lit (.int .i64 b))], [], 64⟩) (n0 := _) (E0 := _) (⟨0, m, 0, by omega, rfl, rfl⟩) (ren []) (mk_wk [] rfl rfl ⟨⟨_, rfl, (.lit _)⟩, ⟨_, rfl, (.lit _)⟩, ⟨_, rfl, (.lit _)⟩, ⟨_, rfl, (.lit _)⟩, ⟨_, rfl, (.lit _)⟩, ⟨_, rfl, (.lit _)⟩, ⟨_, rfl, (.lit _)⟩, trivial⟩ trivial (no_par' hpar)) (fun n E hR => ?_)
              obtain ⟨i, a, b, hI, rfl, rfl⟩ := hR
              obtain ⟨hI0, hI1, hI2⟩ := hI
              refine vw_seq ?_
              refine vw_region ?_
              refine s_lss rfl rfl rfl trivial (fun h38 => ?_) (fun h38 => ?_)
              · refine u_end trivial ?_
                refine vw_seq ?_
                refine vw_condT rfl ?_
                refine vw_skip ?_
                refine vw_seq ?_
                refine vw_block ?_
                refine vw_seq ?_
                refine vw_region ?_
                refine u_move rfl rfl trivial ?_
                refine u_assign rfl rfl trivial ?_
                refine u_end trivial ?_
                refine vw_seq ?_
                refine vw_region ?_
                refine u_move rfl rfl trivial ?_
                refine u_move rfl rfl trivial ?_
                refine u_move rfl rfl trivial ?_
                refine u_move rfl rfl trivial ?_
                refine u_call rfl (c51 _ _ _ _ (by omega) (by omega)) (.cons ((.lit _)) (.cons ((.lit _)) (.cons ((.lit _)) (.cons ((.lit _)) .nil)))) rfl trivial ?_
                refine u_len rfl rfl rfl trivial ?_
                refine u_assign rfl rfl trivial ?_
                refine u_end trivial ?_
                refine vw_seq ?_
                refine vw_region ?_
                refine u_move rfl rfl trivial ?_
                refine u_move rfl rfl trivial ?_
                refine u_min rfl rfl rfl trivial ?_
                refine u_move rfl rfl trivial ?_
                refine u_move rfl rfl trivial ?_
                refine u_max rfl rfl rfl trivial ?_
                refine u_assign rfl rfl trivial ?_
                refine u_assign rfl rfl trivial ?_
                refine u_end trivial ?_
                refine vw_seq ?_
                refine vw_region ?_
                refine u_move rfl rfl trivial ?_
                refine u_move rfl rfl trivial ?_
                refine u_move rfl rfl trivial ?_
                refine u_move rfl rfl trivial ?_
                refine u_call rfl (c51 _ _ _ _ (by omega) (by omega)) (.cons ((.lit _)) (.cons ((.lit _)) (.cons ((.lit _)) (.cons ((.lit _)) .nil)))) rfl trivial ?_
                refine u_len rfl rfl rfl trivial ?_
                refine s_neq rfl rfl rfl trivial (fun h58 => ?_) (fun h58 => ?_)
                · exfalso; rw [intCells_length, mineUp_one v s i (by omega) (by omega) (by omega)] at h58; exact h58 rfl
                · refine u_end trivial ?_
                  refine vw_condF rfl ?_
                  refine vw_skip ?_
                  refine vw_region ?_
                  refine u_add rfl rfl rfl (by unfold inI; omega) rfl trivial ?_
                  refine u_move rfl rfl trivial ?_
                  refine u_end trivial ?_
                  refine ⟨_, _, ren [], ?_, ⟨i + 1, _, _, ?_, rfl, rfl⟩, mk_wk [] rfl rfl ⟨⟨_, rfl, (.lit _)⟩, ⟨_, rfl, (.lit _)⟩, ⟨_, rfl, (.lit _)⟩, ⟨_, rfl, (.lit _)⟩, ⟨_, rfl, (.lit _)⟩, ⟨_, rfl, (.lit _)⟩, ⟨_, rfl, (.lit _)⟩, trivial⟩ trivial (no_par' hpar)⟩
                  · omega
                  · have hc := mineUp_near v s i (by omega) (by omega) (by omega) m (by omega)
                    simp only [intCells_length]
                    split <;> split <;> omega
              · refine u_end trivial ?_
                refine vw_seq ?_
                refine vw_condF rfl ?_
                refine vw_exit ?_
                refine iteP rfl ?_
                refine vw_seq ?_
                refine vw_region ?_
                refine u_move rfl rfl trivial ?_
                refine u_move rfl rfl trivial ?_
                refine u_sub rfl rfl rfl (by unfold inI; omega) rfl trivial ?_
                refine u_leq rfl rfl rfl trivial ?_
                refine u_assign rfl rfl trivial ?_
                refine u_end trivial ?_
                refine vw_ret ?_
                refine fin0 (.inr rfl) (.cons (.tmp rfl (Nat.le_of_ble_eq_true rfl)) .nil) (subB ?_)
                · exact (decide_eq_true (by omega)).symm
end Go.Proofs.Ytaadloihphpdbaa
