/- Walks of the package sum, of the document's answer to it, and of its laws. Printed by a small program (walk.py). -/
import Derived.Test.YtaadloihphpdbaaPModel
import Derived.Test.YtaadloihphpdbaaVcTab
set_option linter.unusedVariables false
set_option linter.unusedSimpArgs false
set_option maxRecDepth 4000
namespace Go.Proofs.Ytaadloihphpdbaa
open Go Go.Vc Go.RowKit

theorem c55 (bs : List UInt8) (hb : bs.length ≤ 140737488355300) : VFun G 55 [.shr 1 (byteCells bs)] [] (.lit (.int .i64 (sumOf bs))) [] := by
 refine VFun.intro (fn := Try.f55) rfl rfl (by kernel_rfl) (nb rfl) fun Γ hpar => ?_
 refine vw_seq ?_
 refine vw_region ?_
 refine u_assign rfl rfl trivial ?_
 refine u_end trivial ?_
 refine vw_seq ?_
 refine vw_region ?_
 refine u_assign rfl rfl trivial ?_
 refine u_end trivial ?_
 refine vw_seq ?_
 refine vw_seq ?_
 refine vw_region ?_
 refine u_move rfl rfl trivial ?_
 refine u_len rfl rfl rfl trivial ?_
 refine u_move rfl rfl trivial ?_
 refine u_end trivial ?_
 refine vw_block ?_
 refine vw_loopR (fun n_ E => ∃ (i : Nat), ((i ≤ bs.length)) ∧ n_ = bs.length - i ∧ E = ⟨[(6, .shr 1 (byteCells bs)), (7, .lit (.int .i64 (byteCells bs).length)), (8, .lit (.int .i64 i)), (3, .lit (.int .i64 (sumOf (bs.take i))))], [], 21⟩) (n0 := _) (E0 := _) (⟨0, by omega, rfl, rfl⟩) (ren []) (mk_wk [] rfl rfl ⟨⟨_, rfl, (.shr _ _)⟩, ⟨_, rfl, (.lit _)⟩, ⟨_, rfl, (.lit _)⟩, ⟨_, rfl, (subI (by rfl))⟩, trivial⟩ trivial (parOk hpar rfl)) (fun n_ E hR => ?_)
 obtain ⟨i, hI, rfl, rfl⟩ := hR
 have hI0 := hI
 refine vw_seq ?_
 refine vw_region ?_
 refine s_lss rfl rfl rfl trivial (fun h9 => ?_) (fun h9 => ?_)
 ·refine u_end trivial ?_
  refine vw_seq ?_
  refine vw_condT rfl ?_
  refine vw_skip ?_
  refine vw_seq ?_
  refine vw_block ?_
  refine vw_seq ?_
  rw [byteCells_length] at h9
  have hs := sumOf_in (bs.take i)
  have hu := (bs[i]'(by omega)).toNat_lt
  refine vw_region ?_
  refine u_indexS rfl rfl rfl rfl rfl rfl (byteCells_get (by omega)) rfl trivial ?_
  refine u_loadS1 rfl rfl rfl rfl rfl trivial ?_
  refine u_assign rfl rfl trivial ?_
  refine u_end trivial ?_
  refine vw_region ?_
  refine u_move rfl rfl trivial ?_
  refine u_mul rfl rfl rfl (by unfold inI; omega) rfl trivial ?_
  refine u_move rfl rfl trivial ?_
  refine u_convUp rfl (by unfold inI; omega) rfl rfl rfl trivial ?_
  refine u_add rfl rfl rfl (by unfold inI; omega) rfl trivial ?_
  refine u_add rfl rfl rfl (by unfold inI; omega) rfl trivial ?_
  refine u_remN rfl rfl (by omega) rfl trivial ?_
  refine u_assign rfl rfl trivial ?_
  refine u_end trivial ?_
  refine vw_region ?_
  refine u_add rfl rfl rfl (by unfold inI; omega) rfl trivial ?_
  refine u_move rfl rfl trivial ?_
  refine u_end trivial ?_
  refine ⟨_, _, ren [], ?_, ⟨i + 1, ?_, rfl, rfl⟩, mk_wk [] rfl rfl ⟨⟨_, rfl, (.shr _ _)⟩, ⟨_, rfl, (.lit _)⟩, ⟨_, rfl, (.lit _)⟩, ⟨_, rfl, (subI (by rw [sumOf_take (by omega)]; unfold sumStep; rfl))⟩, trivial⟩ trivial (parOk hpar rfl)⟩
  ·omega
  ·omega
 ·refine u_end trivial ?_
  refine vw_seq ?_
  refine vw_condF rfl ?_
  refine vw_exit ?_
  refine iteP rfl ?_
  refine vw_seq ?_
  rw [byteCells_length] at h9
  refine vw_region ?_
  refine u_move rfl rfl trivial ?_
  refine u_assign rfl rfl trivial ?_
  refine u_end trivial ?_
  refine vw_ret ?_
  refine fin0 (.inr rfl) (.cons (.tmp rfl (nb rfl)) .nil) (subI ?_)
  ·rw [List.take_of_length_le (by omega)]
theorem c56 (bs : List UInt8) (hb : bs.length ≤ 140737488355300) : VFun G 56 [.shr 1 (byteCells bs)] [] (.lit (.int .i64 (sumOf bs))) [] := by
 refine VFun.intro (fn := Try.f56) rfl rfl (by kernel_rfl) (nb rfl) fun Γ hpar => ?_
 refine vw_seq ?_
 refine vw_region ?_
 refine u_assign rfl rfl trivial ?_
 refine u_end trivial ?_
 refine vw_seq ?_
 refine vw_region ?_
 refine u_assign rfl rfl trivial ?_
 refine u_end trivial ?_
 refine vw_seq ?_
 refine vw_seq ?_
 refine vw_region ?_
 refine u_move rfl rfl trivial ?_
 refine u_len rfl rfl rfl trivial ?_
 refine u_move rfl rfl trivial ?_
 refine u_end trivial ?_
 refine vw_block ?_
 refine vw_loopR (fun n_ E => ∃ (i : Nat), ((i ≤ bs.length)) ∧ n_ = bs.length - i ∧ E = ⟨[(0, .shr 1 (byteCells bs)), (6, .lit (.int .i64 (byteCells bs).length)), (7, .lit (.int .i64 i)), (3, .lit (.int .i64 (sumOf (bs.take i))))], [], 22⟩) (n0 := _) (E0 := _) (⟨0, by omega, rfl, rfl⟩) (ren []) (mk_wk [] rfl rfl ⟨⟨_, rfl, (.shr _ _)⟩, ⟨_, rfl, (.lit _)⟩, ⟨_, rfl, (.lit _)⟩, ⟨_, rfl, (subI (by rfl))⟩, trivial⟩ trivial (parOk hpar rfl)) (fun n_ E hR => ?_)
 obtain ⟨i, hI, rfl, rfl⟩ := hR
 have hI0 := hI
 refine vw_seq ?_
 refine vw_region ?_
 refine s_lss rfl rfl rfl trivial (fun h8 => ?_) (fun h8 => ?_)
 ·refine u_end trivial ?_
  refine vw_seq ?_
  refine vw_condT rfl ?_
  refine vw_skip ?_
  refine vw_seq ?_
  refine vw_block ?_
  refine vw_seq ?_
  rw [byteCells_length] at h8
  have hs := sumOf_in (bs.take i)
  have hu := (bs[i]'(by omega)).toNat_lt
  refine vw_region ?_
  refine u_move rfl rfl trivial ?_
  refine u_assign rfl rfl trivial ?_
  refine u_end trivial ?_
  refine vw_region ?_
  refine u_move rfl rfl trivial ?_
  refine u_mul rfl rfl rfl (by unfold inI; omega) rfl trivial ?_
  refine u_move rfl rfl trivial ?_
  refine u_move rfl rfl trivial ?_
  refine u_indexS rfl rfl rfl rfl rfl rfl (byteCells_get (by omega)) rfl trivial ?_
  refine u_loadS1 rfl rfl rfl rfl rfl trivial ?_
  refine u_convUp rfl (by unfold inI; omega) rfl rfl rfl trivial ?_
  refine u_add rfl rfl rfl (by unfold inI; omega) rfl trivial ?_
  refine u_add rfl rfl rfl (by unfold inI; omega) rfl trivial ?_
  refine u_remN rfl rfl (by omega) rfl trivial ?_
  refine u_assign rfl rfl trivial ?_
  refine u_end trivial ?_
  refine vw_region ?_
  refine u_add rfl rfl rfl (by unfold inI; omega) rfl trivial ?_
  refine u_move rfl rfl trivial ?_
  refine u_end trivial ?_
  refine ⟨_, _, ren [], ?_, ⟨i + 1, ?_, rfl, rfl⟩, mk_wk [] rfl rfl ⟨⟨_, rfl, (.shr _ _)⟩, ⟨_, rfl, (.lit _)⟩, ⟨_, rfl, (.lit _)⟩, ⟨_, rfl, (subI (by rw [sumOf_take (by omega)]; unfold sumStep; omega))⟩, trivial⟩ trivial (parOk hpar rfl)⟩
  ·omega
  ·omega
 ·refine u_end trivial ?_
  refine vw_seq ?_
  refine vw_condF rfl ?_
  refine vw_exit ?_
  refine iteP rfl ?_
  refine vw_seq ?_
  rw [byteCells_length] at h8
  refine vw_region ?_
  refine u_move rfl rfl trivial ?_
  refine u_assign rfl rfl trivial ?_
  refine u_end trivial ?_
  refine vw_ret ?_
  refine fin0 (.inr rfl) (.cons (.tmp rfl (nb rfl)) .nil) (subI ?_)
  ·rw [List.take_of_length_le (by omega)]
theorem c57 (K : Nat) (bs : List UInt8) (hb : bs.length ≤ 140737488355300) : VFun G 57 [.shr 1 (byteCells bs)] [] (.row K) [(K, .row 5 1 (byteCells (sealedUp bs)))] := by
 refine VFun.intro (fn := Try.f57) rfl rfl (by kernel_rfl) (nb rfl) fun Γ hpar => ?_
 refine vw_seq ?_
 refine vw_region ?_
 refine u_assign rfl rfl trivial ?_
 refine u_end trivial ?_
 refine vw_seq ?_
 refine vw_region ?_
 refine u_move rfl rfl trivial ?_
 refine u_call rfl (c55 _ (by omega)) (.cons ((.shr _ _)) .nil) rfl trivial ?_
 refine u_assign rfl rfl trivial ?_
 refine u_end trivial ?_
 refine vw_seq ?_
 refine vw_region ?_
 refine u_move rfl rfl trivial ?_
 refine u_appendN 100 101 rfl rfl (.shr _ _) rfl rfl (by decide) (notPar hpar rfl) (notPar hpar rfl) (by decide) rfl rfl rfl rfl rfl (by rw [byteCells_length]; omega) rfl trivial ?_
 refine u_move rfl rfl trivial ?_
 refine u_shr8 rfl rfl rfl trivial ?_
 refine u_convB rfl rfl rfl rfl trivial ?_
 refine u_move rfl rfl trivial ?_
 refine u_convB rfl rfl rfl rfl trivial ?_
 refine u_buildSlice 102 rfl rfl rfl rfl rfl rfl rfl rfl rfl rfl (notPar hpar rfl) rfl rfl trivial ?_
 refine u_append 103 rfl rfl rfl (srcRow rfl) rfl (notPar hpar rfl) rfl rfl rfl rfl rfl (by simp [byteCells_length, cellsL]; omega) rfl trivial ?_
 refine u_assign rfl rfl trivial ?_
 refine u_end trivial ?_
 refine vw_ret ?_
 refine fin1 (.inr rfl) (.cons (.tmp rfl (nb rfl)) .nil) rfl ?_ (subRow)
 ·simp [sealedUp, byteCells, cellsL, cellsOf, u8_toNat]
theorem c58 (K : Nat) (bs : List UInt8) (hb : bs.length ≤ 140737488355300) : VFun G 58 [.shr 1 (byteCells bs)] [] (.row K) [(K, .row 5 1 (byteCells (sealedUp bs)))] := by
 refine VFun.intro (fn := Try.f58) rfl rfl (by kernel_rfl) (nb rfl) fun Γ hpar => ?_
 refine vw_seq ?_
 refine vw_region ?_
 refine u_assign rfl rfl trivial ?_
 refine u_end trivial ?_
 refine vw_seq ?_
 refine vw_region ?_
 refine u_move rfl rfl trivial ?_
 refine u_call rfl (c56 _ (by omega)) (.cons ((.shr _ _)) .nil) rfl trivial ?_
 refine u_assign rfl rfl trivial ?_
 refine u_end trivial ?_
 refine vw_seq ?_
 have hs := sumOf_in bs
 refine vw_region ?_
 refine u_buildSlice 100 rfl rfl rfl rfl rfl rfl rfl rfl rfl rfl (notPar hpar rfl) rfl rfl trivial ?_
 refine u_move rfl rfl trivial ?_
 refine u_append 101 rfl rfl rfl (.shr _ _) rfl (notPar hpar rfl) rfl rfl rfl rfl rfl (by simp [byteCells_length, cellsL]; omega) rfl trivial ?_
 refine u_move rfl rfl trivial ?_
 refine u_quoN rfl rfl (by unfold inI at *; omega) rfl trivial ?_
 refine u_convB rfl rfl rfl rfl trivial ?_
 refine u_move rfl rfl trivial ?_
 refine u_remN rfl rfl (by omega) rfl trivial ?_
 refine u_convB rfl rfl rfl rfl trivial ?_
 refine u_buildSlice 102 rfl rfl rfl rfl rfl rfl rfl rfl rfl rfl (notPar hpar rfl) rfl rfl trivial ?_
 refine u_append 103 rfl rfl rfl (srcRow rfl) rfl (notPar hpar rfl) rfl rfl rfl rfl rfl (by simp [byteCells_length, cellsL]; omega) rfl trivial ?_
 refine u_assign rfl rfl trivial ?_
 refine u_end trivial ?_
 refine vw_ret ?_
 refine fin1 (.inr rfl) (.cons (.tmp rfl (nb rfl)) .nil) rfl ?_ (subRow)
 ·simp [sealedUp, byteCells, cellsL, cellsOf, u8_toNat]
theorem c53 (K : Nat) (bs : List UInt8) (hb : bs.length ≤ 140737488355300) : VFun G 53 [.shr 1 (byteCells bs)] [] (.tup [.row K, .lit (.bool (opens bs))]) [(K, .row 5 1 (byteCells (opened bs)))] := by
 refine VFun.intro (fn := Try.f53) rfl rfl (by kernel_rfl) (nb rfl) fun Γ hpar => ?_
 refine vw_seq ?_
 refine vw_region ?_
 refine u_assign rfl rfl trivial ?_
 refine u_assign rfl rfl trivial ?_
 refine u_end trivial ?_
 refine vw_seq ?_
 have hlen := byteCells_length bs
 refine vw_region ?_
 refine u_move rfl rfl trivial ?_
 refine u_len rfl rfl rfl trivial ?_
 refine u_sub rfl rfl rfl (by unfold inI; omega) rfl trivial ?_
 refine u_assign rfl rfl trivial ?_
 refine u_end trivial ?_
 refine vw_seq ?_
 refine vw_seq ?_
 refine vw_region ?_
 refine u_move rfl rfl trivial ?_
 refine s_lss rfl rfl rfl trivial (fun h10 => ?_) (fun h10 => ?_)
 ·refine u_end trivial ?_
  refine vw_condT rfl ?_
  refine vw_seq ?_
  have ho : opens bs = false := by unfold opens; rw [decide_eq_false (by omega)]; rfl
  refine vw_region ?_
  refine u_assign rfl rfl trivial ?_
  refine u_assign rfl rfl trivial ?_
  refine u_end trivial ?_
  refine vw_ret ?_
  refine fin1n (.inr rfl) (.cons (.tmp rfl (nb rfl)) (.cons (.tmp rfl (nb rfl)) .nil)) ?_ (.tup _ _ (.cons (subRowN) (.cons (subB ?_) .nil)))
  ·rw [opened, if_neg (by rw [ho]; decide)]; rfl
  ·exact ho
 ·refine u_end trivial ?_
  refine vw_condF rfl ?_
  refine vw_skip ?_
  refine vw_seq ?_
  refine vw_seq ?_
  refine vw_region ?_
  refine u_move rfl rfl trivial ?_
  refine u_move rfl rfl trivial ?_
  refine u_sliceHi (bs.length - 2) rfl rfl (by omega) (by omega) rfl rfl rfl rfl trivial ?_
  refine u_call rfl (c55 (bs.take (bs.length - 2)) (by rw [List.length_take]; omega)) (.cons (subS (byteCells_take _ _).symm) .nil) rfl trivial ?_
  refine u_assign rfl rfl trivial ?_
  refine u_end trivial ?_
  refine vw_seq ?_
  have ho := opens_is bs (by omega)
  refine vw_region ?_
  refine u_move rfl rfl trivial ?_
  refine u_move rfl rfl trivial ?_
  refine u_indexS rfl rfl rfl rfl rfl (show _ = ((bs.length - 2 : Nat) : Int) by omega) (byteCells_get (by omega)) rfl trivial ?_
  refine u_loadS1 rfl rfl rfl rfl rfl trivial ?_
  refine u_move rfl rfl trivial ?_
  refine u_shr8 rfl rfl rfl trivial ?_
  refine u_convB rfl rfl rfl rfl trivial ?_
  refine s_neq rfl rfl rfl trivial (fun h22 => ?_) (fun h22 => ?_)
  ·refine u_move rfl rfl trivial ?_
   refine u_skip rfl rfl rfl rfl rfl ?_
   refine u_skip rfl rfl rfl rfl rfl ?_
   refine u_skip rfl rfl rfl rfl rfl ?_
   refine u_skip rfl rfl rfl rfl rfl ?_
   refine u_skip rfl rfl rfl rfl rfl ?_
   refine u_skip rfl rfl rfl rfl rfl ?_
   refine u_skip rfl rfl rfl rfl rfl ?_
   refine u_skip rfl rfl rfl rfl rfl ?_
   refine u_pickT rfl rfl rfl trivial ?_
   refine u_end trivial ?_
   refine vw_condT rfl ?_
   refine vw_seq ?_
   refine vw_region ?_
   refine u_assign rfl rfl trivial ?_
   refine u_assign rfl rfl trivial ?_
   refine u_end trivial ?_
   refine vw_ret ?_
   refine fin1n (.inr rfl) (.cons (.tmp rfl (nb rfl)) (.cons (.tmp rfl (nb rfl)) .nil)) ?_ (.tup _ _ (.cons (subRowN) (.cons (subB ?_) .nil)))
   ·have ho2 : opens bs = false := by rw [ho]; simp [h22]
    rw [opened, if_neg (by rw [ho2]; decide)]; rfl
   ·rw [ho]; simp [h22]
  ·refine u_move rfl rfl trivial ?_
   refine u_move rfl rfl ⟨_, _, rfl, rfl, rfl, rfl⟩ ?_
   refine u_move rfl rfl ⟨_, _, rfl, rfl, rfl, rfl⟩ ?_
   refine u_add rfl rfl rfl (by unfold inI; omega) rfl ⟨_, _, rfl, rfl, rfl, rfl⟩ ?_
   refine u_indexS rfl rfl rfl rfl rfl (show _ = ((bs.length - 1 : Nat) : Int) by omega) (byteCells_get (by omega)) rfl ⟨_, _, rfl, rfl, rfl, rfl⟩ ?_
   refine u_loadS1 rfl rfl rfl rfl rfl ⟨_, _, rfl, rfl, rfl, rfl⟩ ?_
   refine u_move rfl rfl ⟨_, _, rfl, rfl, rfl, rfl⟩ ?_
   refine u_convB rfl rfl rfl rfl ⟨_, _, rfl, rfl, rfl, rfl⟩ ?_
   refine s_neq rfl rfl rfl ⟨_, _, rfl, rfl, rfl, rfl⟩ (fun h31 => ?_) (fun h31 => ?_)
   ·refine u_pickF rfl rfl rfl trivial ?_
    refine u_end trivial ?_
    refine vw_condT rfl ?_
    refine vw_seq ?_
    refine vw_region ?_
    refine u_assign rfl rfl trivial ?_
    refine u_assign rfl rfl trivial ?_
    refine u_end trivial ?_
    refine vw_ret ?_
    refine fin1n (.inr rfl) (.cons (.tmp rfl (nb rfl)) (.cons (.tmp rfl (nb rfl)) .nil)) ?_ (.tup _ _ (.cons (subRowN) (.cons (subB ?_) .nil)))
    ·have ho2 : opens bs = false := by rw [ho]; simp [h31]
     rw [opened, if_neg (by rw [ho2]; decide)]; rfl
    ·rw [ho]; simp [h31]
   ·refine u_pickF rfl rfl rfl trivial ?_
    refine u_end trivial ?_
    refine vw_condF rfl ?_
    refine vw_skip ?_
    refine vw_seq ?_
    refine vw_region ?_
    refine u_move rfl rfl trivial ?_
    refine u_move rfl rfl trivial ?_
    refine u_sliceHi (bs.length - 2) rfl rfl (by omega) (by omega) rfl rfl rfl rfl trivial ?_
    refine u_appendN 100 101 rfl rfl (.shr _ _) rfl rfl (by decide) (notPar hpar rfl) (notPar hpar rfl) (by decide) rfl rfl rfl rfl rfl (by rw [byteCells_take, byteCells_length, List.length_take]; omega) rfl trivial ?_
    refine u_assign rfl rfl trivial ?_
    refine u_assign rfl rfl trivial ?_
    refine u_end trivial ?_
    refine vw_ret ?_
    refine fin1 (.inr rfl) (.cons (.tmp rfl (nb rfl)) (.cons (.tmp rfl (nb rfl)) .nil)) rfl ?_ (.tup _ _ (.cons (subRow) (.cons (subB ?_) .nil)))
    ·have ho2 : opens bs = true := by rw [ho, decide_eq_true h22, decide_eq_true h31]; rfl
     rw [opened, if_pos ho2, byteCells_take]
    ·rw [ho, decide_eq_true h22, decide_eq_true h31]; rfl
theorem c54 (bs : List UInt8) (hb : bs.length ≤ 140737488355300) : VFun G 54 [.shr 1 (byteCells bs)] [] (.tup [.shr 1 (byteCells (opened bs)), .lit (.bool (opens bs))]) [] := by
 refine VFun.intro (fn := Try.f54) rfl rfl (by kernel_rfl) (nb rfl) fun Γ hpar => ?_
 refine vw_seq ?_
 refine vw_region ?_
 refine u_assign rfl rfl trivial ?_
 refine u_assign rfl rfl trivial ?_
 refine u_end trivial ?_
 refine vw_seq ?_
 refine vw_seq ?_
 have hlen := byteCells_length bs
 refine vw_region ?_
 refine u_move rfl rfl trivial ?_
 refine u_len rfl rfl rfl trivial ?_
 refine s_lss rfl rfl rfl trivial (fun h7 => ?_) (fun h7 => ?_)
 ·refine u_end trivial ?_
  refine vw_condT rfl ?_
  refine vw_seq ?_
  have ho : opens bs = false := by unfold opens; rw [decide_eq_false (by omega)]; rfl
  refine vw_region ?_
  refine u_assign rfl rfl trivial ?_
  refine u_assign rfl rfl trivial ?_
  refine u_end trivial ?_
  refine vw_ret ?_
  refine fin0 (.inr rfl) (.cons (.tmp rfl (nb rfl)) (.cons (.tmp rfl (nb rfl)) .nil)) (.tup _ _ (.cons (subNs ?_) (.cons (subB ?_) .nil)))
  ·rw [opened, if_neg (by rw [ho]; decide)]; rfl
  ·exact ho
 ·refine u_end trivial ?_
  refine vw_condF rfl ?_
  refine vw_skip ?_
  refine vw_seq ?_
  refine vw_region ?_
  refine u_move rfl rfl trivial ?_
  refine u_move rfl rfl trivial ?_
  refine u_len rfl rfl rfl trivial ?_
  refine u_sub rfl rfl rfl (by unfold inI; omega) rfl trivial ?_
  refine u_sliceHi (bs.length - 2) rfl rfl (by omega) (by omega) rfl rfl rfl rfl trivial ?_
  refine u_assign rfl rfl trivial ?_
  refine u_end trivial ?_
  refine vw_seq ?_
  refine vw_seq ?_
  refine vw_draw ?_
  refine u_move rfl rfl trivial ?_
  refine u_call rfl (VFun.read (c58 0 (bs.take (bs.length - 2)) (by rw [List.length_take]; omega))) (.cons (subS (byteCells_take _ _).symm) .nil) rfl trivial ?_
  refine u_convT rfl (by rfl) rfl rfl rfl rfl trivial ?_
  refine u_move rfl rfl trivial ?_
  refine u_convT rfl (by rfl) rfl rfl rfl rfl trivial ?_
  refine s_neqT rfl rfl rfl trivial (fun h18 => ?_) (fun h18 => ?_)
  ·refine u_end (by kernel_rfl) ?_
   refine vw_condT rfl ?_
   refine vw_seq ?_
   have ho : opens bs = false := by unfold opens; rw [decide_eq_true (by omega), Bool.true_and]; simp only [bytesT] at h18; exact beq_eq_false_iff_ne.2 h18
   refine vw_region ?_
   refine u_assign rfl rfl trivial ?_
   refine u_assign rfl rfl trivial ?_
   refine u_end trivial ?_
   refine vw_ret ?_
   refine fin0 (.inr rfl) (.cons (.tmp rfl (nb rfl)) (.cons (.tmp rfl (nb rfl)) .nil)) (.tup _ _ (.cons (subNs ?_) (.cons (subB ?_) .nil)))
   ·rw [opened, if_neg (by rw [ho]; decide)]; rfl
   ·exact ho
  ·refine u_end (by kernel_rfl) ?_
   refine vw_condF rfl ?_
   refine vw_skip ?_
   refine vw_seq ?_
   have ho : opens bs = true := by unfold opens; rw [decide_eq_true (by omega), Bool.true_and]; simp only [bytesT] at h18; exact beq_iff_eq.2 h18
   refine vw_region ?_
   refine u_move rfl rfl trivial ?_
   refine u_assign rfl rfl trivial ?_
   refine u_assign rfl rfl trivial ?_
   refine u_end trivial ?_
   refine vw_ret ?_
   refine fin0 (.inr rfl) (.cons (.tmp rfl (nb rfl)) (.cons (.tmp rfl (nb rfl)) .nil)) (.tup _ _ (.cons (subS ?_) (.cons (subB ?_) .nil)))
   ·rw [opened, if_pos ho, byteCells_take]
   ·exact ho
theorem c9 (bs : List UInt8) (hb : bs.length ≤ 140737488355300) : VFun G 9 [.shr 1 (byteCells bs)] [] (.lit (.bool true)) [] := by
 refine VFun.intro (fn := Try.f9) rfl rfl (by kernel_rfl) (nb rfl) fun Γ hpar => ?_
 refine vw_seq ?_
 refine vw_region ?_
 refine u_assign rfl rfl trivial ?_
 refine u_end trivial ?_
 refine vw_seq ?_
 refine vw_region ?_
 refine u_move rfl rfl trivial ?_
 refine u_callN [] rfl (c53 100 _ (by omega)) (.cons ((.shr _ _)) .nil) (fun k o h => by simp [Go.Vc.look] at h) (.inl rfl) rfl (notPar hpar rfl) rfl trivial ?_
 refine u_move rfl rfl trivial ?_
 refine u_extract rfl rfl rfl trivial ?_
 refine u_extract rfl rfl rfl trivial ?_
 refine u_assign rfl rfl trivial ?_
 refine u_assign rfl rfl trivial ?_
 refine u_end trivial ?_
 refine vw_seq ?_
 refine vw_region ?_
 refine u_move rfl rfl trivial ?_
 refine u_call rfl (c54 _ (by omega)) (.cons ((.shr _ _)) .nil) rfl trivial ?_
 refine u_move rfl rfl trivial ?_
 refine u_extract rfl rfl rfl trivial ?_
 refine u_extract rfl rfl rfl trivial ?_
 refine u_assign rfl rfl trivial ?_
 refine u_assign rfl rfl trivial ?_
 refine u_end trivial ?_
 refine vw_seq ?_
 refine vw_draw ?_
 refine u_move rfl rfl trivial ?_
 refine u_call rfl (c55 _ (by omega)) (.cons ((.shr _ _)) .nil) rfl trivial ?_
 refine u_move rfl rfl trivial ?_
 refine u_call rfl (c56 _ (by omega)) (.cons ((.shr _ _)) .nil) rfl trivial ?_
 refine s_eql rfl rfl rfl trivial (fun h21 => ?_) (fun h21 => ?_)
 ·refine u_move rfl rfl trivial ?_
  refine u_move rfl rfl ⟨_, _, rfl, rfl, rfl, rfl⟩ ?_
  refine u_call rfl (VFun.read (c57 0 _ (by omega))) (.cons ((.shr _ _)) .nil) rfl ⟨_, _, rfl, rfl, rfl, rfl⟩ ?_
  refine u_convT rfl (by rfl) rfl rfl rfl rfl ⟨_, _, rfl, rfl, rfl, rfl⟩ ?_
  refine u_move rfl rfl ⟨_, _, rfl, rfl, rfl, rfl⟩ ?_
  refine u_call rfl (VFun.read (c58 0 _ (by omega))) (.cons ((.shr _ _)) .nil) rfl ⟨_, _, rfl, rfl, rfl, rfl⟩ ?_
  refine u_convT rfl (by rfl) rfl rfl rfl rfl ⟨_, _, rfl, rfl, rfl, rfl⟩ ?_
  refine s_eqlT rfl rfl rfl ⟨_, _, rfl, rfl, rfl, rfl⟩ (fun h29 => ?_) (fun h29 => ?_)
  ·refine u_pickT rfl rfl rfl trivial ?_
   refine u_move rfl rfl trivial ?_
   refine u_move rfl rfl ⟨_, _, rfl, rfl, rfl, rfl⟩ ?_
   refine u_move rfl rfl ⟨_, _, rfl, rfl, rfl, rfl⟩ ?_
   refine s_eqlB rfl rfl rfl rfl ⟨_, _, rfl, rfl, rfl, rfl⟩ (fun h34 => ?_) (fun h34 => ?_)
   ·refine u_pickT rfl rfl rfl trivial ?_
    refine u_move rfl rfl trivial ?_
    refine u_move rfl rfl ⟨_, _, rfl, rfl, rfl, rfl⟩ ?_
    refine u_convTR rfl rfl (by rfl) rfl rfl rfl rfl ⟨_, _, rfl, rfl, rfl, rfl⟩ ?_
    refine u_move rfl rfl ⟨_, _, rfl, rfl, rfl, rfl⟩ ?_
    refine u_convT rfl (by rfl) rfl rfl rfl rfl ⟨_, _, rfl, rfl, rfl, rfl⟩ ?_
    refine u_eqlT rfl rfl rfl ⟨_, _, rfl, rfl, rfl, rfl⟩ ?_
    refine u_pickT rfl rfl rfl trivial ?_
    refine u_assign rfl rfl trivial ?_
    refine u_end (by kernel_rfl) ?_
    refine vw_ret ?_
    refine fin0 (.inr rfl) (.cons (.tmp rfl (nb rfl)) .nil) (subB ?_)
    ·exact (beq_iff_eq.2 rfl).symm
   ·exact absurd rfl h34
  ·exact absurd rfl h29
 ·exact absurd rfl h21
theorem c59  : VFun G 59 [] [] (.lit (.bool true)) [] := by
 refine VFun.intro (fn := Try.f59) rfl rfl (by kernel_rfl) (nb rfl) fun Γ hpar => ?_
 refine vw_seq ?_
 refine vw_region ?_
 refine u_assign rfl rfl trivial ?_
 refine u_end trivial ?_
 refine vw_seq ?_
 refine vw_region ?_
 refine u_buildSlice 100 rfl rfl rfl rfl rfl rfl rfl rfl rfl rfl (notPar hpar rfl) rfl rfl trivial ?_
 refine u_mark rfl rfl (notPar hpar rfl) rfl rfl rfl trivial ?_
 refine u_callN [] rfl (c57 101 [97, 98] (by decide)) (.cons (subS rfl) .nil) (fun k o h => by simp [Go.Vc.look] at h) (.inl rfl) rfl (notPar hpar rfl) rfl trivial ?_
 refine u_assign rfl rfl trivial ?_
 refine u_end trivial ?_
 refine vw_seq ?_
 refine vw_region ?_
 refine u_move rfl rfl trivial ?_
 refine u_callN [(101, _)] rfl (c53 102 _ (by decide)) (.cons (.frz _ _ _ _ rfl (lookNe rfl)) .nil) (sub1 rfl) (.inr ⟨rfl, scal_bytes _, trivial⟩) rfl (notPar hpar rfl) rfl trivial ?_
 refine u_move rfl rfl trivial ?_
 refine u_extract rfl rfl rfl trivial ?_
 refine u_extract rfl rfl rfl trivial ?_
 refine u_assign rfl rfl trivial ?_
 refine u_assign rfl rfl trivial ?_
 refine u_end trivial ?_
 refine vw_seq ?_
 refine vw_region ?_
 refine u_callN [] rfl (c53 103 [] (by decide)) (.cons (.nilshr 1) .nil) (fun k o h => by simp [Go.Vc.look] at h) (.inl rfl) rfl (notPar hpar rfl) rfl trivial ?_
 refine u_move rfl rfl trivial ?_
 refine u_extract rfl rfl rfl trivial ?_
 refine u_extract rfl rfl rfl trivial ?_
 refine u_assign rfl rfl trivial ?_
 refine u_assign rfl rfl trivial ?_
 refine u_end trivial ?_
 refine vw_seq ?_
 refine vw_region ?_
 refine u_call rfl (c55 [] (by decide)) (.cons (.nilshr 1) .nil) rfl trivial ?_
 refine s_eql rfl rfl rfl trivial (fun h19 => ?_) (fun h19 => ?_)
 ·refine u_move rfl rfl trivial ?_
  refine u_move rfl rfl ⟨_, _, rfl, rfl, rfl, rfl⟩ ?_
  refine u_lenR rfl rfl rfl rfl ⟨_, _, rfl, rfl, rfl, rfl⟩ ?_
  refine s_eql rfl rfl rfl ⟨_, _, rfl, rfl, rfl, rfl⟩ (fun h23 => ?_) (fun h23 => ?_)
  ·refine u_pickT rfl rfl rfl trivial ?_
   refine u_move rfl rfl trivial ?_
   refine s_move rfl rfl ⟨_, _, rfl, rfl, rfl, rfl⟩ (fun h26 => ?_) (fun h26 => ?_)
   ·refine u_pickT rfl rfl rfl trivial ?_
    refine u_move rfl rfl trivial ?_
    refine u_move rfl rfl ⟨_, _, rfl, rfl, rfl, rfl⟩ ?_
    refine u_convTR rfl rfl (by rfl) rfl rfl rfl rfl ⟨_, _, rfl, rfl, rfl, rfl⟩ ?_
    refine s_eqlT rfl rfl rfl ⟨_, _, rfl, rfl, rfl, rfl⟩ (fun h31 => ?_) (fun h31 => ?_)
    ·refine u_pickT rfl rfl rfl trivial ?_
     refine u_move rfl rfl trivial ?_
     refine u_move rfl rfl ⟨_, _, rfl, rfl, rfl, rfl⟩ ?_
     refine u_not rfl rfl ⟨_, _, rfl, rfl, rfl, rfl⟩ ?_
     refine u_pickT rfl rfl rfl trivial ?_
     refine u_assign rfl rfl trivial ?_
     refine u_end trivial ?_
     refine vw_ret ?_
     refine fin0 (.inr rfl) (.cons (.tmp rfl (nb rfl)) .nil) (subB ?_)
     ·decide
    ·exact absurd (by rw [opened_sealed]) h31
   ·rw [opens_sealed] at h26; cases h26
  ·exact absurd (by decide) h23
 ·exact absurd rfl h19
theorem c10 (bs : List UInt8) (hb : bs.length ≤ 140737488351232) (v n : Int) (hn : 0 ≤ n ∧ n ≤ 255) : VFun G 10 [.shr 1 (byteCells bs), .lit (.int .i64 v), .lit (.int .u8 n)] [] (.lit (.bool true)) [] := by
 refine VFun.intro (fn := Try.f10) rfl rfl (by kernel_rfl) (nb rfl) fun Γ hpar => ?_
 refine vw_seq ?_
 refine vw_region ?_
 refine u_assign rfl rfl trivial ?_
 refine u_end trivial ?_
 refine vw_seq ?_
 refine vw_seq ?_
 refine vw_region ?_
 refine u_call rfl (c59) .nil rfl trivial ?_
 refine u_not rfl rfl trivial ?_
 refine u_end trivial ?_
 refine vw_condF rfl ?_
 refine vw_skip ?_
 refine vw_seq ?_
 refine vw_region ?_
 refine u_move rfl rfl trivial ?_
 refine u_callN [] rfl (c57 100 _ (by omega)) (.cons ((.shr _ _)) .nil) (fun k o h => by simp [Go.Vc.look] at h) (.inl rfl) rfl (notPar hpar rfl) rfl trivial ?_
 refine u_assign rfl rfl trivial ?_
 refine u_end trivial ?_
 refine vw_seq ?_
 have hl := sealed_length bs
 refine vw_region ?_
 refine u_move rfl rfl trivial ?_
 refine u_callN [(100, _)] rfl (c53 101 _ (by omega)) (.cons (.frz _ _ _ _ rfl (lookNe rfl)) .nil) (sub1 rfl) (.inr ⟨rfl, scal_bytes _, trivial⟩) rfl (notPar hpar rfl) rfl trivial ?_
 refine u_move rfl rfl trivial ?_
 refine u_extract rfl rfl rfl trivial ?_
 refine u_extract rfl rfl rfl trivial ?_
 refine u_assign rfl rfl trivial ?_
 refine u_assign rfl rfl trivial ?_
 refine u_end trivial ?_
 refine vw_seq ?_
 refine vw_seq ?_
 refine vw_region ?_
 refine s_move rfl rfl trivial (fun h19 => ?_) (fun h19 => ?_)
 ·refine u_not rfl rfl trivial ?_
  refine u_move rfl rfl trivial ?_
  refine u_move rfl rfl ⟨_, _, rfl, rfl, rfl, rfl⟩ ?_
  refine u_convTR rfl rfl (by rfl) rfl rfl rfl rfl ⟨_, _, rfl, rfl, rfl, rfl⟩ ?_
  refine u_move rfl rfl ⟨_, _, rfl, rfl, rfl, rfl⟩ ?_
  refine u_convT rfl (by rfl) rfl rfl rfl rfl ⟨_, _, rfl, rfl, rfl, rfl⟩ ?_
  refine s_neqT rfl rfl rfl ⟨_, _, rfl, rfl, rfl, rfl⟩ (fun h26 => ?_) (fun h26 => ?_)
  ·exact absurd (by simp only [opened_sealed]) h26
  ·refine u_pickF rfl rfl rfl trivial ?_
   refine u_move rfl rfl trivial ?_
   refine u_move rfl rfl ⟨_, _, rfl, rfl, rfl, rfl⟩ ?_
   refine u_lenR rfl rfl rfl rfl ⟨_, _, rfl, rfl, rfl, rfl⟩ ?_
   refine u_move rfl rfl ⟨_, _, rfl, rfl, rfl, rfl⟩ ?_
   refine u_len rfl rfl rfl ⟨_, _, rfl, rfl, rfl, rfl⟩ ?_
   refine u_add rfl rfl rfl (by rw [byteCells_length]; unfold inI; omega) rfl ⟨_, _, rfl, rfl, rfl, rfl⟩ ?_
   refine s_neq rfl rfl rfl ⟨_, _, rfl, rfl, rfl, rfl⟩ (fun h34 => ?_) (fun h34 => ?_)
   ·exact absurd (by simp only [byteCells_length, sealed_length]; omega) h34
   ·refine u_pickF rfl rfl rfl trivial ?_
    refine u_end trivial ?_
    refine vw_condF rfl ?_
    refine vw_skip ?_
    refine vw_seq ?_
    refine vw_seq ?_
    refine vw_region ?_
    refine u_move rfl rfl trivial ?_
    refine s_lss rfl rfl rfl trivial (fun h37 => ?_) (fun h37 => ?_)
    ·refine u_move rfl rfl trivial ?_
     refine u_skip rfl rfl rfl rfl rfl ?_
     refine u_skip rfl rfl rfl rfl rfl ?_
     refine u_skip rfl rfl rfl rfl rfl ?_
     refine u_skip rfl rfl rfl rfl rfl ?_
     refine u_pickT rfl rfl rfl trivial ?_
     refine u_move rfl rfl trivial ?_
     refine u_skip rfl rfl rfl rfl rfl ?_
     refine u_skip rfl rfl rfl rfl rfl ?_
     refine u_skip rfl rfl rfl rfl rfl ?_
     refine u_skip rfl rfl rfl rfl rfl ?_
     refine u_skip rfl rfl rfl rfl rfl ?_
     refine u_skip rfl rfl rfl rfl rfl ?_
     refine u_pickT rfl rfl rfl trivial ?_
     refine u_end trivial ?_
     refine vw_condT rfl ?_
     refine vw_seq ?_
     refine vw_region ?_
     refine u_assign rfl rfl trivial ?_
     refine u_end trivial ?_
     refine vw_ret ?_
     refine fin0 (.inr rfl) (.cons (.tmp rfl (nb rfl)) .nil) (subB ?_)
     ·rfl
    ·refine u_move rfl rfl trivial ?_
     refine u_move rfl rfl ⟨_, _, rfl, rfl, rfl, rfl⟩ ?_
     refine u_move rfl rfl ⟨_, _, rfl, rfl, rfl, rfl⟩ ?_
     refine u_lenR rfl rfl rfl rfl ⟨_, _, rfl, rfl, rfl, rfl⟩ ?_
     refine s_geq rfl rfl rfl ⟨_, _, rfl, rfl, rfl, rfl⟩ (fun h42 => ?_) (fun h42 => ?_)
     ·refine u_pickF rfl rfl rfl trivial ?_
      refine u_move rfl rfl trivial ?_
      refine u_skip rfl rfl rfl rfl rfl ?_
      refine u_skip rfl rfl rfl rfl rfl ?_
      refine u_skip rfl rfl rfl rfl rfl ?_
      refine u_skip rfl rfl rfl rfl rfl ?_
      refine u_skip rfl rfl rfl rfl rfl ?_
      refine u_skip rfl rfl rfl rfl rfl ?_
      refine u_pickT rfl rfl rfl trivial ?_
      refine u_end trivial ?_
      refine vw_condT rfl ?_
      refine vw_seq ?_
      refine vw_region ?_
      refine u_assign rfl rfl trivial ?_
      refine u_end trivial ?_
      refine vw_ret ?_
      refine fin0 (.inr rfl) (.cons (.tmp rfl (nb rfl)) .nil) (subB ?_)
      ·rfl
     ·refine u_pickF rfl rfl rfl trivial ?_
      refine u_move rfl rfl trivial ?_
      refine u_move rfl rfl ⟨_, _, rfl, rfl, rfl, rfl⟩ ?_
      refine u_move rfl rfl ⟨_, _, rfl, rfl, rfl, rfl⟩ ?_
      refine u_indexR rfl rfl rfl rfl rfl rfl (show v = ((v.toNat : Nat) : Int) by omega) (by rw [byteCells_length] at h42 ⊢; omega) rfl ⟨_, _, rfl, rfl, rfl, rfl⟩ ?_
      refine u_loadRow1 rfl rfl (byteCells_get (by rw [byteCells_length] at h42; omega)) rfl rfl rfl rfl ⟨_, _, rfl, rfl, rfl, rfl⟩ ?_
      refine u_move rfl rfl ⟨_, _, rfl, rfl, rfl, rfl⟩ ?_
      refine s_eql rfl rfl rfl ⟨_, _, rfl, rfl, rfl, rfl⟩ (fun h50 => ?_) (fun h50 => ?_)
      ·refine u_pickF rfl rfl rfl trivial ?_
       refine u_end trivial ?_
       refine vw_condT rfl ?_
       refine vw_seq ?_
       refine vw_region ?_
       refine u_assign rfl rfl trivial ?_
       refine u_end trivial ?_
       refine vw_ret ?_
       refine fin0 (.inr rfl) (.cons (.tmp rfl (nb rfl)) .nil) (subB ?_)
       ·rfl
      ·refine u_pickF rfl rfl rfl trivial ?_
       refine u_end trivial ?_
       refine vw_condF rfl ?_
       refine vw_skip ?_
       refine vw_seq ?_
       refine vw_region ?_
       refine u_move rfl rfl trivial ?_
       refine u_move rfl rfl trivial ?_
       refine u_move rfl rfl trivial ?_
       refine u_indexR rfl rfl rfl rfl rfl rfl (show v = ((v.toNat : Nat) : Int) by omega) (by rw [byteCells_length] at h42 ⊢; omega) rfl trivial ?_
       refine u_storeRowE rfl rfl rfl (byteCells_get (by rw [byteCells_length] at h42; omega)) rfl (by simp [cellsOf, isP]) rfl rfl rfl (set_u8 _ _ _ hn _) trivial ?_
       refine u_end trivial ?_
       refine vw_seq ?_
       refine vw_region ?_
       refine u_move rfl rfl trivial ?_
       refine u_callN [(100, _)] rfl (c53 102 _ (by rw [List.length_set]; omega)) (.cons (.frz _ _ _ _ rfl (lookNe rfl)) .nil) (sub1 rfl) (.inr ⟨rfl, scal_bytes _, trivial⟩) rfl (notPar hpar rfl) rfl trivial ?_
       refine u_move rfl rfl trivial ?_
       refine u_extract rfl rfl rfl trivial ?_
       refine u_extract rfl rfl rfl trivial ?_
       refine u_assign rfl rfl trivial ?_
       refine u_end trivial ?_
       refine vw_seq ?_
       refine vw_region ?_
       refine u_move rfl rfl trivial ?_
       refine u_not rfl rfl trivial ?_
       refine u_assign rfl rfl trivial ?_
       refine u_end trivial ?_
       refine vw_ret ?_
       refine fin0 (.inr rfl) (.cons (.tmp rfl (nb rfl)) .nil) (subB ?_)
       ·rw [byte_found bs v.toNat n hn (by rw [byteCells_length] at h42; omega) h50]; rfl
 ·rw [opens_sealed] at h19; cases h19
end Go.Proofs.Ytaadloihphpdbaa
