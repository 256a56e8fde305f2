/- Walks of the package sum, of the document's answer to it, and of its laws. Printed by a small program (walk.py). -/
import Derived.Test.YtaadloihphpdbaaTPModel
import Derived.Test.YtaadloihphpdbaaTVcTab
set_option linter.unusedVariables false
set_option linter.unusedSimpArgs false
set_option maxRecDepth 4000
namespace Go.Proofs.Ytaadloihphpdbaa
open Go Go.Vc Go.RowKit
theorem c55 (bs : List UInt8) (hb : bs.length ≤ 140737488355300) : VFun G 55 [.shr 1 (byteCells bs)] [] (.lit (.int .i64 (sumOf bs))) [] := by
 refine VFun.intro (fn := Try.f55) rfl rfl (by kernel_rfl) (nb rfl) fun Γ hpar => ?_
 refine zac <| zaa <| zad rfl rfl tv <| zaf tv <| zac <| zaa <| zad rfl rfl tv <| zaf tv <| zac <| zac <| zaa <| zae rfl rfl tv <| zcm rfl rfl rfl tv <| zae rfl rfl tv <| zaf tv <| zaz <| zbt (fun n_ E => ∃ (i : Nat), ((i ≤ bs.length)) ∧ n_ = bs.length - i ∧ E = ⟨[(6, .shr 1 (byteCells bs)), (7, .lit (.int .i64 (byteCells bs).length)), (8, .lit (.int .i64 i)), (3, .lit (.int .i64 (sumOf (bs.take i))))], [], 21⟩) (n0 := _) (E0 := _) (⟨0, by omega, rfl, rfl⟩) (ren []) (zax [] rfl rfl ⟨⟨_, rfl, (.shr _ _)⟩, ⟨_, rfl, (.lit _)⟩, ⟨_, rfl, (.lit _)⟩, ⟨_, rfl, (subI (by rfl))⟩, tv⟩ tv (zay hpar rfl)) (fun n_ E hR => ?_)
 obtain ⟨i, hI, rfl, rfl⟩ := hR
 have hI0 := hI
 refine zac <| zaa <| zch rfl rfl rfl tv (fun h9 => ?_) (fun h9 => ?_)
 ·refine zaf tv <| zac <| zap rfl <| zba <| zac <| zaz <| zac ?_
  rw [byteCells_length] at h9
  have hs := sumOf_in (bs.take i)
  have hu := (bs[i]'(by omega)).toNat_lt
  refine zaa <| zbu rfl rfl rfl rfl rfl rfl (zef (by omega)) rfl tv <| zck rfl rfl rfl rfl rfl tv <| zad rfl rfl tv <| zaf tv <| zaa <| zae rfl rfl tv <| u_mul rfl rfl rfl (by unfold inI; omega) rfl tv <| zae rfl rfl tv <| u_convUp rfl (by unfold inI; omega) rfl rfl rfl tv <| zca rfl rfl rfl (by unfold inI; omega) rfl tv <| zca rfl rfl rfl (by unfold inI; omega) rfl tv <| u_remN rfl rfl (by omega) rfl tv <| zad rfl rfl tv <| zaf tv <| zaa <| zca rfl rfl rfl (by unfold inI; omega) rfl tv <| zae rfl rfl tv <| zaf tv <| ⟨_, _, ren [], ?_, ⟨i + 1, ?_, rfl, rfl⟩, zax [] rfl rfl ⟨⟨_, rfl, (.shr _ _)⟩, ⟨_, rfl, (.lit _)⟩, ⟨_, rfl, (.lit _)⟩, ⟨_, rfl, (subI (by rw [sumOf_take (by omega)]; unfold sumStep; rfl))⟩, tv⟩ tv (zay hpar rfl)⟩
  ·omega
  ·omega
 ·refine zaf tv <| zac <| zas rfl <| zbz <| iteP rfl <| zac ?_
  rw [byteCells_length] at h9
  refine zaa <| zae rfl rfl tv <| zad rfl rfl tv <| zaf tv <| zav <| fin0 (.inr rfl) (.cons (.tmp rfl (nb rfl)) .nil) (subI ?_)
  ·rw [List.take_of_length_le (by omega)]
theorem c57 (K : Nat) (bs : List UInt8) (hb : bs.length ≤ 140737488355300) : VFun G 57 [.shr 1 (byteCells bs)] [] (.row K) [(K, .row 5 1 (byteCells (zfn bs)))] := by
 refine VFun.intro (fn := Try.f57) rfl rfl (by kernel_rfl) (nb rfl) fun Γ hpar => ?_
 refine zac <| zaa <| zad rfl rfl tv <| zaf tv <| zac <| zaa <| zae rfl rfl tv <| zbk rfl (c55 _ (by omega)) (.cons ((.shr _ _)) .nil) rfl tv <| zad rfl rfl tv <| zaf tv <| zac <| zaa <| zae rfl rfl tv <| u_appendN 100 101 rfl rfl (.shr _ _) rfl rfl (by decide) (zar hpar rfl) (zar hpar rfl) (by decide) rfl rfl rfl rfl rfl (by rw [byteCells_length]; omega) rfl tv <| zae rfl rfl tv <| u_shr8 rfl rfl rfl tv <| u_convB rfl rfl rfl rfl tv <| zae rfl rfl tv <| u_convB rfl rfl rfl rfl tv <| zbf 102 rfl rfl rfl rfl rfl rfl rfl rfl rfl rfl (zar hpar rfl) rfl rfl tv <| zbv 103 rfl rfl rfl (zcv rfl) rfl (zar hpar rfl) rfl rfl rfl rfl rfl (by simp [byteCells_length, zcb]; omega) rfl tv <| zad rfl rfl tv <| zaf tv <| zav <| fin1 (.inr rfl) (.cons (.tmp rfl (nb rfl)) .nil) rfl ?_ (subRow)
 ·simp [zfn, byteCells, zcb, cellsOf, zfk]
theorem c53 (K : Nat) (bs : List UInt8) (hb : bs.length ≤ 140737488355300) : VFun G 53 [.shr 1 (byteCells bs)] [] (.tup [.row K, .lit (.bool (opens bs))]) [(K, .row 5 1 (byteCells (zdz bs)))] := by
 refine VFun.intro (fn := Try.f53) rfl rfl (by kernel_rfl) (nb rfl) fun Γ hpar => ?_
 refine zac <| zaa <| zad rfl rfl tv <| zad rfl rfl tv <| zaf tv <| zac ?_
 have hlen := byteCells_length bs
 refine zaa <| zae rfl rfl tv <| zcm rfl rfl rfl tv <| u_sub rfl rfl rfl (by unfold inI; omega) rfl tv <| zad rfl rfl tv <| zaf tv <| zac <| zac <| zaa <| zae rfl rfl tv <| zch rfl rfl rfl tv (fun h10 => ?_) (fun h10 => ?_)
 ·refine zaf tv <| zap rfl <| zac ?_
  have ho : opens bs = false := by unfold opens; rw [decide_eq_false (by omega)]; rfl
  refine zaa <| zad rfl rfl tv <| zad rfl rfl tv <| zaf tv <| zav <| fin1n (.inr rfl) (.cons (.tmp rfl (nb rfl)) (.cons (.tmp rfl (nb rfl)) .nil)) ?_ (.tup _ _ (.cons (subRowN) (.cons (subB ?_) .nil)))
  ·rw [zdz, if_neg (by rw [ho]; decide)]; rfl
  ·exact ho
 ·refine zaf tv <| zas rfl <| zba <| zac <| zac <| zaa <| zae rfl rfl tv <| zae rfl rfl tv <| u_sliceHi (bs.length - 2) rfl rfl (by omega) (by omega) rfl rfl rfl rfl tv <| zbk rfl (c55 (bs.take (bs.length - 2)) (by rw [List.length_take]; omega)) (.cons (subS (byteCells_take _ _).symm) .nil) rfl tv <| zad rfl rfl tv <| zaf tv <| zac ?_
  have ho := opens_is bs (by omega)
  refine zaa <| zae rfl rfl tv <| zae rfl rfl tv <| zbu rfl rfl rfl rfl rfl (show _ = ((bs.length - 2 : Nat) : Int) by omega) (zef (by omega)) rfl tv <| zck rfl rfl rfl rfl rfl tv <| zae rfl rfl tv <| u_shr8 rfl rfl rfl tv <| u_convB rfl rfl rfl rfl tv <| zeh rfl rfl rfl tv (fun h22 => ?_) (fun h22 => ?_)
  ·refine zae rfl rfl tv <| zal rfl rfl rfl rfl rfl <| zal rfl rfl rfl rfl rfl <| zal rfl rfl rfl rfl rfl <| zal rfl rfl rfl rfl rfl <| zal rfl rfl rfl rfl rfl <| zal rfl rfl rfl rfl rfl <| zal rfl rfl rfl rfl rfl <| zal rfl rfl rfl rfl rfl <| zbi rfl rfl rfl tv <| zaf tv <| zap rfl <| zac <| zaa <| zad rfl rfl tv <| zad rfl rfl tv <| zaf tv <| zav <| fin1n (.inr rfl) (.cons (.tmp rfl (nb rfl)) (.cons (.tmp rfl (nb rfl)) .nil)) ?_ (.tup _ _ (.cons (subRowN) (.cons (subB ?_) .nil)))
   ·have ho2 : opens bs = false := by rw [ho]; simp [h22]
    rw [zdz, if_neg (by rw [ho2]; decide)]; rfl
   ·rw [ho]; simp [h22]
  ·refine zae rfl rfl tv <| zae rfl rfl (gk rfl) <| zae rfl rfl (gk rfl) <| zca rfl rfl rfl (by unfold inI; omega) rfl (gk rfl) <| zbu rfl rfl rfl rfl rfl (show _ = ((bs.length - 1 : Nat) : Int) by omega) (zef (by omega)) rfl (gk rfl) <| zck rfl rfl rfl rfl rfl (gk rfl) <| zae rfl rfl (gk rfl) <| u_convB rfl rfl rfl rfl (gk rfl) <| zeh rfl rfl rfl (gk rfl) (fun h31 => ?_) (fun h31 => ?_)
   ·refine zbc rfl rfl rfl tv <| zaf tv <| zap rfl <| zac <| zaa <| zad rfl rfl tv <| zad rfl rfl tv <| zaf tv <| zav <| fin1n (.inr rfl) (.cons (.tmp rfl (nb rfl)) (.cons (.tmp rfl (nb rfl)) .nil)) ?_ (.tup _ _ (.cons (subRowN) (.cons (subB ?_) .nil)))
    ·have ho2 : opens bs = false := by rw [ho]; simp [h31]
     rw [zdz, if_neg (by rw [ho2]; decide)]; rfl
    ·rw [ho]; simp [h31]
   ·refine zbc rfl rfl rfl tv <| zaf tv <| zas rfl <| zba <| zac <| zaa <| zae rfl rfl tv <| zae rfl rfl tv <| u_sliceHi (bs.length - 2) rfl rfl (by omega) (by omega) rfl rfl rfl rfl tv <| u_appendN 100 101 rfl rfl (.shr _ _) rfl rfl (by decide) (zar hpar rfl) (zar hpar rfl) (by decide) rfl rfl rfl rfl rfl (by rw [byteCells_take, byteCells_length, List.length_take]; omega) rfl tv <| zad rfl rfl tv <| zad rfl rfl tv <| zaf tv <| zav <| fin1 (.inr rfl) (.cons (.tmp rfl (nb rfl)) (.cons (.tmp rfl (nb rfl)) .nil)) rfl ?_ (.tup _ _ (.cons (subRow) (.cons (subB ?_) .nil)))
    ·have ho2 : opens bs = true := by rw [ho, decide_eq_true h22, decide_eq_true h31]; rfl
     rw [zdz, if_pos ho2, byteCells_take]
    ·rw [ho, decide_eq_true h22, decide_eq_true h31]; rfl
end Go.Proofs.Ytaadloihphpdbaa
