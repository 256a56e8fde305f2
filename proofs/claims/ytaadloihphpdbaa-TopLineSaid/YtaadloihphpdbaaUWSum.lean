/- Walks of the package sum, of the document's answer to it, and of its laws. Printed by a small program (walk.py). -/
import Derived.Test.YtaadloihphpdbaaUPModel
import Derived.Test.YtaadloihphpdbaaUVcTab
set_option linter.unusedVariables false
set_option linter.unusedSimpArgs false
set_option maxRecDepth 4000
namespace Go.Proofs.Ytaadloihphpdbaa
open Go Go.Vc Go.RowKit
theorem c55 (bs : List UInt8) (hb : bs.length ≤ 140737488355300) : VFun G 55 [.shr 1 (byteCells bs)] [] (.lit (.int .i64 (zfb bs))) [] := by
 refine VFun.intro (fn := Try.f55) rfl rfl (by kernel_rfl) (nb rfl) fun Γ hpar => ?_
 refine zac <| zaa <| zad rfl rfl tv <| zaf tv <| zac <| zaa <| zad rfl rfl tv <| zaf tv <| zac <| zac <| zaa <| zae rfl rfl tv <| zcs rfl rfl rfl tv <| zae rfl rfl tv <| zaf tv <| zaz <| zbx (fun n_ E => ∃ (i : Nat), ((i ≤ bs.length)) ∧ n_ = bs.length - i ∧ E = ⟨[(6, .shr 1 (byteCells bs)), (7, .lit (.int .i64 (byteCells bs).length)), (8, .lit (.int .i64 i)), (3, .lit (.int .i64 (zfb (bs.take i))))], [], 21⟩) (n0 := _) (E0 := _) (⟨0, by omega, rfl, rfl⟩) (ren []) (zaw [] rfl rfl ⟨⟨_, rfl, (.shr _ _)⟩, ⟨_, rfl, (.lit _)⟩, ⟨_, rfl, (.lit _)⟩, ⟨_, rfl, (subI (by rfl))⟩, tv⟩ tv (zax hpar rfl)) (fun n_ E hR => ?_)
 obtain ⟨i, hI, rfl, rfl⟩ := hR
 have hI0 := hI
 refine zac <| zaa <| zcm rfl rfl rfl tv (fun h9 => ?_) (fun h9 => ?_)
 ·refine zaf tv <| zac <| zas rfl <| zbd <| zac <| zaz <| zac ?_
  rw [byteCells_length] at h9
  have hs := sumOf_in (bs.take i)
  have hu := (bs[i]'(by omega)).toNat_lt
  refine zaa <| zbz rfl rfl rfl rfl rfl rfl (zey (by omega)) rfl tv <| zcr rfl rfl rfl rfl rfl tv <| zad rfl rfl tv <| zaf tv <| zaa <| zae rfl rfl tv <| u_mul rfl rfl rfl (by unfold inI; omega) rfl tv <| zae rfl rfl tv <| u_convUp rfl (by unfold inI; omega) rfl rfl rfl tv <| zcg rfl rfl rfl (by unfold inI; omega) rfl tv <| zcg rfl rfl rfl (by unfold inI; omega) rfl tv <| u_remN rfl rfl (by omega) rfl tv <| zad rfl rfl tv <| zaf tv <| zaa <| zcg rfl rfl rfl (by unfold inI; omega) rfl tv <| zae rfl rfl tv <| zaf tv <| ⟨_, _, ren [], ?_, ⟨i + 1, ?_, rfl, rfl⟩, zaw [] rfl rfl ⟨⟨_, rfl, (.shr _ _)⟩, ⟨_, rfl, (.lit _)⟩, ⟨_, rfl, (.lit _)⟩, ⟨_, rfl, (subI (by rw [sumOf_take (by omega)]; unfold zeg; rfl))⟩, tv⟩ tv (zax hpar rfl)⟩
  ·omega
  ·omega
 ·refine zaf tv <| zac <| zau rfl <| zcc <| iteP rfl <| zac ?_
  rw [byteCells_length] at h9
  refine zaa <| zae rfl rfl tv <| zad rfl rfl tv <| zaf tv <| zav <| fin0 (.inr rfl) (.cons (.tmp rfl (nb rfl)) .nil) (subI ?_)
  ·rw [List.take_of_length_le (by omega)]
theorem c57 (K : Nat) (bs : List UInt8) (hb : bs.length ≤ 140737488355300) : VFun G 57 [.shr 1 (byteCells bs)] [] (.row K) [(K, .row 5 1 (byteCells (zcl bs)))] := by
 refine VFun.intro (fn := Try.f57) rfl rfl (by kernel_rfl) (nb rfl) fun Γ hpar => ?_
 refine zac <| zaa <| zad rfl rfl tv <| zaf tv <| zac <| zaa <| zae rfl rfl tv <| zbo rfl (c55 _ (by omega)) (.cons ((.shr _ _)) .nil) rfl tv <| zad rfl rfl tv <| zaf tv <| zac <| zaa <| zae rfl rfl tv <| u_appendN 100 101 rfl rfl (.shr _ _) rfl rfl (by decide) (zar hpar rfl) (zar hpar rfl) (by decide) rfl rfl rfl rfl rfl (by rw [byteCells_length]; omega) rfl tv <| zae rfl rfl tv <| u_shr8 rfl rfl rfl tv <| zdp rfl rfl rfl rfl tv <| zae rfl rfl tv <| zdp rfl rfl rfl rfl tv <| zba 102 rfl rfl rfl rfl rfl rfl rfl rfl rfl rfl (zar hpar rfl) rfl rfl tv <| zbt 103 rfl rfl rfl (zct rfl) rfl (zar hpar rfl) rfl rfl rfl rfl rfl (by simp [byteCells_length, zby]; omega) rfl tv <| zad rfl rfl tv <| zaf tv <| zav <| fin1 (.inr rfl) (.cons (.tmp rfl (nb rfl)) .nil) rfl ?_ (subRow)
 ·simp [zcl, byteCells, zby, cellsOf, zdd]
theorem c53 (K : Nat) (bs : List UInt8) (hb : bs.length ≤ 140737488355300) : VFun G 53 [.shr 1 (byteCells bs)] [] (.tup [.row K, .lit (.bool (opens bs))]) [(K, .row 5 1 (byteCells (zed bs)))] := by
 refine VFun.intro (fn := Try.f53) rfl rfl (by kernel_rfl) (nb rfl) fun Γ hpar => ?_
 refine zac <| zaa <| zad rfl rfl tv <| zad rfl rfl tv <| zaf tv <| zac ?_
 have hlen := byteCells_length bs
 refine zaa <| zae rfl rfl tv <| zcs rfl rfl rfl tv <| u_sub rfl rfl rfl (by unfold inI; omega) rfl tv <| zad rfl rfl tv <| zaf tv <| zac <| zac <| zaa <| zae rfl rfl tv <| zcm rfl rfl rfl tv (fun h10 => ?_) (fun h10 => ?_)
 ·refine zaf tv <| zas rfl <| zac ?_
  have ho : opens bs = false := by unfold opens; rw [decide_eq_false (by omega)]; rfl
  refine zaa <| zad rfl rfl tv <| zad rfl rfl tv <| zaf tv <| zav <| fin1n (.inr rfl) (.cons (.tmp rfl (nb rfl)) (.cons (.tmp rfl (nb rfl)) .nil)) ?_ (.tup _ _ (.cons (subRowN) (.cons (subB ?_) .nil)))
  ·rw [zed, if_neg (by rw [ho]; decide)]; rfl
  ·exact ho
 ·refine zaf tv <| zau rfl <| zbd <| zac <| zac <| zaa <| zae rfl rfl tv <| zae rfl rfl tv <| u_sliceHi (bs.length - 2) rfl rfl (by omega) (by omega) rfl rfl rfl rfl tv <| zbo rfl (c55 (bs.take (bs.length - 2)) (by rw [List.length_take]; omega)) (.cons (subS (byteCells_take _ _).symm) .nil) rfl tv <| zad rfl rfl tv <| zaf tv <| zac ?_
  have ho := opens_is bs (by omega)
  refine zaa <| zae rfl rfl tv <| zae rfl rfl tv <| zbz rfl rfl rfl rfl rfl (show _ = ((bs.length - 2 : Nat) : Int) by omega) (zey (by omega)) rfl tv <| zcr rfl rfl rfl rfl rfl tv <| zae rfl rfl tv <| u_shr8 rfl rfl rfl tv <| zdp rfl rfl rfl rfl tv <| zfe rfl rfl rfl tv (fun h22 => ?_) (fun h22 => ?_)
  ·refine zae rfl rfl tv <| zal rfl rfl rfl rfl rfl <| zal rfl rfl rfl rfl rfl <| zal rfl rfl rfl rfl rfl <| zal rfl rfl rfl rfl rfl <| zal rfl rfl rfl rfl rfl <| zal rfl rfl rfl rfl rfl <| zal rfl rfl rfl rfl rfl <| zal rfl rfl rfl rfl rfl <| zbk rfl rfl rfl tv <| zaf tv <| zas rfl <| zac <| zaa <| zad rfl rfl tv <| zad rfl rfl tv <| zaf tv <| zav <| fin1n (.inr rfl) (.cons (.tmp rfl (nb rfl)) (.cons (.tmp rfl (nb rfl)) .nil)) ?_ (.tup _ _ (.cons (subRowN) (.cons (subB ?_) .nil)))
   ·have ho2 : opens bs = false := by rw [ho]; simp [h22]
    rw [zed, if_neg (by rw [ho2]; decide)]; rfl
   ·rw [ho]; simp [h22]
  ·refine zae rfl rfl tv <| zae rfl rfl (gk rfl) <| zae rfl rfl (gk rfl) <| zcg rfl rfl rfl (by unfold inI; omega) rfl (gk rfl) <| zbz rfl rfl rfl rfl rfl (show _ = ((bs.length - 1 : Nat) : Int) by omega) (zey (by omega)) rfl (gk rfl) <| zcr rfl rfl rfl rfl rfl (gk rfl) <| zae rfl rfl (gk rfl) <| zdp rfl rfl rfl rfl (gk rfl) <| zfe rfl rfl rfl (gk rfl) (fun h31 => ?_) (fun h31 => ?_)
   ·refine zbh rfl rfl rfl tv <| zaf tv <| zas rfl <| zac <| zaa <| zad rfl rfl tv <| zad rfl rfl tv <| zaf tv <| zav <| fin1n (.inr rfl) (.cons (.tmp rfl (nb rfl)) (.cons (.tmp rfl (nb rfl)) .nil)) ?_ (.tup _ _ (.cons (subRowN) (.cons (subB ?_) .nil)))
    ·have ho2 : opens bs = false := by rw [ho]; simp [h31]
     rw [zed, if_neg (by rw [ho2]; decide)]; rfl
    ·rw [ho]; simp [h31]
   ·refine zbh rfl rfl rfl tv <| zaf tv <| zau rfl <| zbd <| zac <| zaa <| zae rfl rfl tv <| zae rfl rfl tv <| u_sliceHi (bs.length - 2) rfl rfl (by omega) (by omega) rfl rfl rfl rfl tv <| u_appendN 100 101 rfl rfl (.shr _ _) rfl rfl (by decide) (zar hpar rfl) (zar hpar rfl) (by decide) rfl rfl rfl rfl rfl (by rw [byteCells_take, byteCells_length, List.length_take]; omega) rfl tv <| zad rfl rfl tv <| zad rfl rfl tv <| zaf tv <| zav <| fin1 (.inr rfl) (.cons (.tmp rfl (nb rfl)) (.cons (.tmp rfl (nb rfl)) .nil)) rfl ?_ (.tup _ _ (.cons (subRow) (.cons (subB ?_) .nil)))
    ·have ho2 : opens bs = true := by rw [ho, decide_eq_true h22, decide_eq_true h31]; rfl
     rw [zed, if_pos ho2, byteCells_take]
    ·rw [ho, decide_eq_true h22, decide_eq_true h31]; rfl
end Go.Proofs.Ytaadloihphpdbaa
