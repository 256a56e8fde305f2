/- Walks of the package sum, of the document's answer to it, and of its laws. Printed by a small program (walk.py). -/
import Derived.Test.YtaadloihphpdbaaZPModel
import Derived.Test.YtaadloihphpdbaaZVcTab
set_option linter.unusedVariables false
set_option linter.unusedSimpArgs false
set_option maxRecDepth 4000
namespace Go.Proofs.Ytaadloihphpdbaa
open Go Go.Vc Go.RowKit
theorem c55 (bs : List UInt8) (hb : bs.length ≤ 140737488355300) : VFun G 55 [.shr 1 (byteCells bs)] [] (.lit (.int .i64 (sumOf bs))) [] := by
 refine VFun.intro (fn := Try.f55) rfl rfl (by kernel_rfl) (nb rfl) fun Γ hpar => ?_
 refine zad <| zaa <| zae rfl rfl tv <| zaf tv <| zad <| zaa <| zae rfl rfl tv <| zaf tv <| zad <| zad <| zaa <| zac rfl rfl tv <| zby rfl rfl rfl tv <| zac rfl rfl tv <| zaf tv <| zbb <| zbt (fun n_ E => ∃ (i : Nat), ((i ≤ bs.length)) ∧ n_ = bs.length - i ∧ E = ⟨[(6, .shr 1 (byteCells bs)), (7, .lit (.int .i64 (byteCells bs).length)), (8, .lit (.int .i64 i)), (3, .lit (.int .i64 (sumOf (bs.take i))))], [], 21⟩) (n0 := _) (E0 := _) (⟨0, by omega, rfl, rfl⟩) (ren []) (zay [] rfl rfl ⟨⟨_, rfl, (.shr _ _)⟩, ⟨_, rfl, (.lit _)⟩, ⟨_, rfl, (.lit _)⟩, ⟨_, rfl, (subI (by rfl))⟩, tv⟩ tv (zaz hpar rfl)) (fun n_ E hR => ?_)
 obtain ⟨i, hI, rfl, rfl⟩ := hR
 have hI0 := hI
 refine zad <| zaa <| zcg rfl rfl rfl tv (fun h9 => ?_) (fun h9 => ?_)
 ·refine zaf tv <| zad <| zao rfl <| zax <| zad <| zbb <| zad ?_
  rw [byteCells_length] at h9
  have hs := sumOf_in (bs.take i)
  have hu := (bs[i]'(by omega)).toNat_lt
  refine zaa <| zbh rfl rfl rfl rfl rfl rfl (zfr (by omega)) rfl tv <| zbv rfl rfl rfl rfl rfl tv <| zae rfl rfl tv <| zaf tv <| zaa <| zac rfl rfl tv <| u_mul rfl rfl rfl (by unfold inI; omega) rfl tv <| zac rfl rfl tv <| u_convUp rfl (by unfold inI; omega) rfl rfl rfl tv <| zbz rfl rfl rfl (by unfold inI; omega) rfl tv <| zbz rfl rfl rfl (by unfold inI; omega) rfl tv <| u_remN rfl rfl (by omega) rfl tv <| zae rfl rfl tv <| zaf tv <| zaa <| zbz rfl rfl rfl (by unfold inI; omega) rfl tv <| zac rfl rfl tv <| zaf tv <| ⟨_, _, ren [], ?_, ⟨i + 1, ?_, rfl, rfl⟩, zay [] rfl rfl ⟨⟨_, rfl, (.shr _ _)⟩, ⟨_, rfl, (.lit _)⟩, ⟨_, rfl, (.lit _)⟩, ⟨_, rfl, (subI (by rw [sumOf_take (by omega)]; unfold zfg; rfl))⟩, tv⟩ tv (zaz hpar rfl)⟩
  ·omega
  ·omega
 ·refine zaf tv <| zad <| zap rfl <| zbw <| iteP rfl <| zad ?_
  rw [byteCells_length] at h9
  refine zaa <| zac rfl rfl tv <| zae rfl rfl tv <| zaf tv <| zaw <| fin0 (.inr rfl) (.cons (.tmp rfl (nb rfl)) .nil) (subI ?_)
  ·rw [List.take_of_length_le (by omega)]
theorem c56 (bs : List UInt8) (hb : bs.length ≤ 140737488355300) : VFun G 56 [.shr 1 (byteCells bs)] [] (.lit (.int .i64 (sumOf bs))) [] := by
 refine VFun.intro (fn := Try.f56) rfl rfl (by kernel_rfl) (nb rfl) fun Γ hpar => ?_
 refine zad <| zaa <| zae rfl rfl tv <| zaf tv <| zad <| zaa <| zae rfl rfl tv <| zaf tv <| zad <| zad <| zaa <| zac rfl rfl tv <| zby rfl rfl rfl tv <| zac rfl rfl tv <| zaf tv <| zbb <| zbt (fun n_ E => ∃ (i : Nat), ((i ≤ bs.length)) ∧ n_ = bs.length - i ∧ E = ⟨[(0, .shr 1 (byteCells bs)), (6, .lit (.int .i64 (byteCells bs).length)), (7, .lit (.int .i64 i)), (3, .lit (.int .i64 (sumOf (bs.take i))))], [], 22⟩) (n0 := _) (E0 := _) (⟨0, by omega, rfl, rfl⟩) (ren []) (zay [] rfl rfl ⟨⟨_, rfl, (.shr _ _)⟩, ⟨_, rfl, (.lit _)⟩, ⟨_, rfl, (.lit _)⟩, ⟨_, rfl, (subI (by rfl))⟩, tv⟩ tv (zaz hpar rfl)) (fun n_ E hR => ?_)
 obtain ⟨i, hI, rfl, rfl⟩ := hR
 have hI0 := hI
 refine zad <| zaa <| zcg rfl rfl rfl tv (fun h8 => ?_) (fun h8 => ?_)
 ·refine zaf tv <| zad <| zao rfl <| zax <| zad <| zbb <| zad ?_
  rw [byteCells_length] at h8
  have hs := sumOf_in (bs.take i)
  have hu := (bs[i]'(by omega)).toNat_lt
  refine zaa <| zac rfl rfl tv <| zae rfl rfl tv <| zaf tv <| zaa <| zac rfl rfl tv <| u_mul rfl rfl rfl (by unfold inI; omega) rfl tv <| zac rfl rfl tv <| zac rfl rfl tv <| zbh rfl rfl rfl rfl rfl rfl (zfr (by omega)) rfl tv <| zbv rfl rfl rfl rfl rfl tv <| u_convUp rfl (by unfold inI; omega) rfl rfl rfl tv <| zbz rfl rfl rfl (by unfold inI; omega) rfl tv <| zbz rfl rfl rfl (by unfold inI; omega) rfl tv <| u_remN rfl rfl (by omega) rfl tv <| zae rfl rfl tv <| zaf tv <| zaa <| zbz rfl rfl rfl (by unfold inI; omega) rfl tv <| zac rfl rfl tv <| zaf tv <| ⟨_, _, ren [], ?_, ⟨i + 1, ?_, rfl, rfl⟩, zay [] rfl rfl ⟨⟨_, rfl, (.shr _ _)⟩, ⟨_, rfl, (.lit _)⟩, ⟨_, rfl, (.lit _)⟩, ⟨_, rfl, (subI (by rw [sumOf_take (by omega)]; unfold zfg; omega))⟩, tv⟩ tv (zaz hpar rfl)⟩
  ·omega
  ·omega
 ·refine zaf tv <| zad <| zap rfl <| zbw <| iteP rfl <| zad ?_
  rw [byteCells_length] at h8
  refine zaa <| zac rfl rfl tv <| zae rfl rfl tv <| zaf tv <| zaw <| fin0 (.inr rfl) (.cons (.tmp rfl (nb rfl)) .nil) (subI ?_)
  ·rw [List.take_of_length_le (by omega)]
theorem c57 (K : Nat) (bs : List UInt8) (hb : bs.length ≤ 140737488355300) : VFun G 57 [.shr 1 (byteCells bs)] [] (.row K) [(K, .row 5 1 (byteCells (zde bs)))] := by
 refine VFun.intro (fn := Try.f57) rfl rfl (by kernel_rfl) (nb rfl) fun Γ hpar => ?_
 refine zad <| zaa <| zae rfl rfl tv <| zaf tv <| zad <| zaa <| zac rfl rfl tv <| zbi rfl (c55 _ (by omega)) (.cons ((.shr _ _)) .nil) rfl tv <| zae rfl rfl tv <| zaf tv <| zad <| zaa <| zac rfl rfl tv <| u_appendN 100 101 rfl rfl (.shr _ _) rfl rfl (by decide) (zar hpar rfl) (zar hpar rfl) (by decide) rfl rfl rfl rfl rfl (by rw [byteCells_length]; omega) rfl tv <| zac rfl rfl tv <| u_shr8 rfl rfl rfl tv <| u_convB rfl rfl rfl rfl tv <| zac rfl rfl tv <| u_convB rfl rfl rfl rfl tv <| zba 102 rfl rfl rfl rfl rfl rfl rfl rfl rfl rfl (zar hpar rfl) rfl rfl tv <| zbn 103 rfl rfl rfl (zdb rfl) rfl (zar hpar rfl) rfl rfl rfl rfl rfl (by simp [byteCells_length, zbx]; omega) rfl tv <| zae rfl rfl tv <| zaf tv <| zaw <| fin1 (.inr rfl) (.cons (.tmp rfl (nb rfl)) .nil) rfl ?_ (subRow)
 ·simp [zde, byteCells, zbx, cellsOf, zew]
theorem c58 (K : Nat) (bs : List UInt8) (hb : bs.length ≤ 140737488355300) : VFun G 58 [.shr 1 (byteCells bs)] [] (.row K) [(K, .row 5 1 (byteCells (zde bs)))] := by
 refine VFun.intro (fn := Try.f58) rfl rfl (by kernel_rfl) (nb rfl) fun Γ hpar => ?_
 refine zad <| zaa <| zae rfl rfl tv <| zaf tv <| zad <| zaa <| zac rfl rfl tv <| zbi rfl (c56 _ (by omega)) (.cons ((.shr _ _)) .nil) rfl tv <| zae rfl rfl tv <| zaf tv <| zad ?_
 have hs := sumOf_in bs
 refine zaa <| zba 100 rfl rfl rfl rfl rfl rfl rfl rfl rfl rfl (zar hpar rfl) rfl rfl tv <| zac rfl rfl tv <| zbn 101 rfl rfl rfl (.shr _ _) rfl (zar hpar rfl) rfl rfl rfl rfl rfl (by simp [byteCells_length, zbx]; omega) rfl tv <| zac rfl rfl tv <| u_quoN rfl rfl (by unfold inI at *; omega) rfl tv <| u_convB rfl rfl rfl rfl tv <| zac rfl rfl tv <| u_remN rfl rfl (by omega) rfl tv <| u_convB rfl rfl rfl rfl tv <| zba 102 rfl rfl rfl rfl rfl rfl rfl rfl rfl rfl (zar hpar rfl) rfl rfl tv <| zbn 103 rfl rfl rfl (zdb rfl) rfl (zar hpar rfl) rfl rfl rfl rfl rfl (by simp [byteCells_length, zbx]; omega) rfl tv <| zae rfl rfl tv <| zaf tv <| zaw <| fin1 (.inr rfl) (.cons (.tmp rfl (nb rfl)) .nil) rfl ?_ (subRow)
 ·simp [zde, byteCells, zbx, cellsOf, zew]
theorem c53 (K : Nat) (bs : List UInt8) (hb : bs.length ≤ 140737488355300) : VFun G 53 [.shr 1 (byteCells bs)] [] (.tup [.row K, .lit (.bool (opens bs))]) [(K, .row 5 1 (byteCells (zeq bs)))] := by
 refine VFun.intro (fn := Try.f53) rfl rfl (by kernel_rfl) (nb rfl) fun Γ hpar => ?_
 refine zad <| zaa <| zae rfl rfl tv <| zae rfl rfl tv <| zaf tv <| zad ?_
 have hlen := byteCells_length bs
 refine zaa <| zac rfl rfl tv <| zby rfl rfl rfl tv <| u_sub rfl rfl rfl (by unfold inI; omega) rfl tv <| zae rfl rfl tv <| zaf tv <| zad <| zad <| zaa <| zac rfl rfl tv <| zcg rfl rfl rfl tv (fun h10 => ?_) (fun h10 => ?_)
 ·refine zaf tv <| zao rfl <| zad ?_
  have ho : opens bs = false := by unfold opens; rw [decide_eq_false (by omega)]; rfl
  refine zaa <| zae rfl rfl tv <| zae rfl rfl tv <| zaf tv <| zaw <| fin1n (.inr rfl) (.cons (.tmp rfl (nb rfl)) (.cons (.tmp rfl (nb rfl)) .nil)) ?_ (.tup _ _ (.cons (subRowN) (.cons (subB ?_) .nil)))
  ·rw [zeq, if_neg (by rw [ho]; decide)]; rfl
  ·exact ho
 ·refine zaf tv <| zap rfl <| zax <| zad <| zad <| zaa <| zac rfl rfl tv <| zac rfl rfl tv <| u_sliceHi (bs.length - 2) rfl rfl (by omega) (by omega) rfl rfl rfl rfl tv <| zbi rfl (c55 (bs.take (bs.length - 2)) (by rw [List.length_take]; omega)) (.cons (subS (byteCells_take _ _).symm) .nil) rfl tv <| zae rfl rfl tv <| zaf tv <| zad ?_
  have ho := opens_is bs (by omega)
  refine zaa <| zac rfl rfl tv <| zac rfl rfl tv <| zbh rfl rfl rfl rfl rfl (show _ = ((bs.length - 2 : Nat) : Int) by omega) (zfr (by omega)) rfl tv <| zbv rfl rfl rfl rfl rfl tv <| zac rfl rfl tv <| u_shr8 rfl rfl rfl tv <| u_convB rfl rfl rfl rfl tv <| zdg rfl rfl rfl tv (fun h22 => ?_) (fun h22 => ?_)
  ·refine zac rfl rfl tv <| zag rfl rfl rfl rfl rfl <| zag rfl rfl rfl rfl rfl <| zag rfl rfl rfl rfl rfl <| zag rfl rfl rfl rfl rfl <| zag rfl rfl rfl rfl rfl <| zag rfl rfl rfl rfl rfl <| zag rfl rfl rfl rfl rfl <| zag rfl rfl rfl rfl rfl <| zav rfl rfl rfl tv <| zaf tv <| zao rfl <| zad <| zaa <| zae rfl rfl tv <| zae rfl rfl tv <| zaf tv <| zaw <| fin1n (.inr rfl) (.cons (.tmp rfl (nb rfl)) (.cons (.tmp rfl (nb rfl)) .nil)) ?_ (.tup _ _ (.cons (subRowN) (.cons (subB ?_) .nil)))
   ·have ho2 : opens bs = false := by rw [ho]; simp [h22]
    rw [zeq, if_neg (by rw [ho2]; decide)]; rfl
   ·rw [ho]; simp [h22]
  ·refine zac rfl rfl tv <| zac rfl rfl (gk rfl) <| zac rfl rfl (gk rfl) <| zbz rfl rfl rfl (by unfold inI; omega) rfl (gk rfl) <| zbh rfl rfl rfl rfl rfl (show _ = ((bs.length - 1 : Nat) : Int) by omega) (zfr (by omega)) rfl (gk rfl) <| zbv rfl rfl rfl rfl rfl (gk rfl) <| zac rfl rfl (gk rfl) <| u_convB rfl rfl rfl rfl (gk rfl) <| zdg rfl rfl rfl (gk rfl) (fun h31 => ?_) (fun h31 => ?_)
   ·refine zat rfl rfl rfl tv <| zaf tv <| zao rfl <| zad <| zaa <| zae rfl rfl tv <| zae rfl rfl tv <| zaf tv <| zaw <| fin1n (.inr rfl) (.cons (.tmp rfl (nb rfl)) (.cons (.tmp rfl (nb rfl)) .nil)) ?_ (.tup _ _ (.cons (subRowN) (.cons (subB ?_) .nil)))
    ·have ho2 : opens bs = false := by rw [ho]; simp [h31]
     rw [zeq, if_neg (by rw [ho2]; decide)]; rfl
    ·rw [ho]; simp [h31]
   ·refine zat rfl rfl rfl tv <| zaf tv <| zap rfl <| zax <| zad <| zaa <| zac rfl rfl tv <| zac rfl rfl tv <| u_sliceHi (bs.length - 2) rfl rfl (by omega) (by omega) rfl rfl rfl rfl tv <| u_appendN 100 101 rfl rfl (.shr _ _) rfl rfl (by decide) (zar hpar rfl) (zar hpar rfl) (by decide) rfl rfl rfl rfl rfl (by rw [byteCells_take, byteCells_length, List.length_take]; omega) rfl tv <| zae rfl rfl tv <| zae rfl rfl tv <| zaf tv <| zaw <| fin1 (.inr rfl) (.cons (.tmp rfl (nb rfl)) (.cons (.tmp rfl (nb rfl)) .nil)) rfl ?_ (.tup _ _ (.cons (subRow) (.cons (subB ?_) .nil)))
    ·have ho2 : opens bs = true := by rw [ho, decide_eq_true h22, decide_eq_true h31]; rfl
     rw [zeq, if_pos ho2, byteCells_take]
    ·rw [ho, decide_eq_true h22, decide_eq_true h31]; rfl
theorem c54 (bs : List UInt8) (hb : bs.length ≤ 140737488355300) : VFun G 54 [.shr 1 (byteCells bs)] [] (.tup [.shr 1 (byteCells (zeq bs)), .lit (.bool (opens bs))]) [] := by
 refine VFun.intro (fn := Try.f54) rfl rfl (by kernel_rfl) (nb rfl) fun Γ hpar => ?_
 refine zad <| zaa <| zae rfl rfl tv <| zae rfl rfl tv <| zaf tv <| zad <| zad ?_
 have hlen := byteCells_length bs
 refine zaa <| zac rfl rfl tv <| zby rfl rfl rfl tv <| zcg rfl rfl rfl tv (fun h7 => ?_) (fun h7 => ?_)
 ·refine zaf tv <| zao rfl <| zad ?_
  have ho : opens bs = false := by unfold opens; rw [decide_eq_false (by omega)]; rfl
  refine zaa <| zae rfl rfl tv <| zae rfl rfl tv <| zaf tv <| zaw <| fin0 (.inr rfl) (.cons (.tmp rfl (nb rfl)) (.cons (.tmp rfl (nb rfl)) .nil)) (.tup _ _ (.cons (subNs ?_) (.cons (subB ?_) .nil)))
  ·rw [zeq, if_neg (by rw [ho]; decide)]; rfl
  ·exact ho
 ·refine zaf tv <| zap rfl <| zax <| zad <| zaa <| zac rfl rfl tv <| zac rfl rfl tv <| zby rfl rfl rfl tv <| u_sub rfl rfl rfl (by unfold inI; omega) rfl tv <| u_sliceHi (bs.length - 2) rfl rfl (by omega) (by omega) rfl rfl rfl rfl tv <| zae rfl rfl tv <| zaf tv <| zad <| zad <| zbo <| zac rfl rfl tv <| zbi rfl (VFun.read (c58 0 (bs.take (bs.length - 2)) (by rw [List.length_take]; omega))) (.cons (subS (byteCells_take _ _).symm) .nil) rfl tv <| u_convT rfl (by rfl) rfl rfl rfl rfl tv <| zac rfl rfl tv <| u_convT rfl (by rfl) rfl rfl rfl rfl tv <| s_neqT rfl rfl rfl tv (fun h18 => ?_) (fun h18 => ?_)
  ·refine zaf (by kernel_rfl) <| zao rfl <| zad ?_
   have ho : opens bs = false := by unfold opens; rw [decide_eq_true (by omega), Bool.true_and]; simp only [bytesT] at h18; exact beq_eq_false_iff_ne.2 h18
   refine zaa <| zae rfl rfl tv <| zae rfl rfl tv <| zaf tv <| zaw <| fin0 (.inr rfl) (.cons (.tmp rfl (nb rfl)) (.cons (.tmp rfl (nb rfl)) .nil)) (.tup _ _ (.cons (subNs ?_) (.cons (subB ?_) .nil)))
   ·rw [zeq, if_neg (by rw [ho]; decide)]; rfl
   ·exact ho
  ·refine zaf (by kernel_rfl) <| zap rfl <| zax <| zad ?_
   have ho : opens bs = true := by unfold opens; rw [decide_eq_true (by omega), Bool.true_and]; simp only [bytesT] at h18; exact beq_iff_eq.2 h18
   refine zaa <| zac rfl rfl tv <| zae rfl rfl tv <| zae rfl rfl tv <| zaf tv <| zaw <| fin0 (.inr rfl) (.cons (.tmp rfl (nb rfl)) (.cons (.tmp rfl (nb rfl)) .nil)) (.tup _ _ (.cons (subS ?_) (.cons (subB ?_) .nil)))
   ·rw [zeq, if_pos ho, byteCells_take]
   ·exact ho
end Go.Proofs.Ytaadloihphpdbaa
