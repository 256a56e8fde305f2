/- Walks of the document's answer: plays, puts; and of what looks at lanes. Printed by a small program (walk.py). -/
import Derived.Test.YtaadloihphpdbaaUWWorld
set_option linter.unusedVariables false
set_option linter.unusedSimpArgs false
set_option maxRecDepth 4000
namespace Go.Proofs.Ytaadloihphpdbaa
open Go Go.Vc Go.RowKit
theorem c45 (l : Lane) : VFun G 45 [.agg (zee l)] [] (.lit (.bool (idleB l))) [] := by
 refine VFun.intro (fn := Try.f45) rfl rfl (by kernel_rfl) (nb rfl) fun Γ hpar => ?_
 refine zac <| zaa <| zeb 100 rfl rfl rfl (zar hpar rfl) rfl rfl tv <| zad rfl rfl tv <| zaf tv <| zac <| zaa <| zab rfl rfl rfl rfl rfl rfl tv <| zab rfl rfl rfl rfl rfl rfl tv <| zak rfl rfl rfl rfl rfl rfl tv <| zcs rfl rfl rfl tv <| zew rfl rfl rfl tv (fun h7 => ?_) (fun h7 => ?_)
 ·refine zae rfl rfl tv <| zab rfl rfl rfl rfl rfl rfl (gk rfl) <| zab rfl rfl rfl rfl rfl rfl (gk rfl) <| zak rfl rfl rfl rfl rfl rfl (gk rfl) <| zcs rfl rfl rfl (gk rfl) <| u_eql rfl rfl rfl (gk rfl) <| zbk rfl rfl rfl tv <| zad rfl rfl tv <| zaf tv <| zav <| fin' [] (.inr rfl) (.cons (.tmp rfl (nb rfl)) .nil) (zaw [] rfl rfl ⟨⟨_, rfl, (subB ?_)⟩, tv⟩ tv (zax rfl rfl))
  all_goals (try rfl)
  all_goals
    unfold idleB; rw [← nil_len, ← nil_len]
    simp only [zap, zaj] at *
    rw [Bool.eq_iff_iff]
    simp only [Bool.and_eq_true, decide_eq_true_eq, beq_iff_eq, Bool.false_eq_true, false_iff, iff_false]
    omega
 ·refine zae rfl rfl tv <| zal rfl rfl rfl rfl rfl <| zal rfl rfl rfl rfl rfl <| zal rfl rfl rfl rfl rfl <| zal rfl rfl rfl rfl rfl <| zal rfl rfl rfl rfl rfl <| zbh rfl rfl rfl tv <| zad rfl rfl tv <| zaf tv <| zav <| fin' [] (.inr rfl) (.cons (.tmp rfl (nb rfl)) .nil) (zaw [] rfl rfl ⟨⟨_, rfl, (subB ?_)⟩, tv⟩ tv (zax rfl rfl))
  all_goals (try rfl)
  all_goals
    unfold idleB; rw [← nil_len, ← nil_len]
    simp only [zap, zaj] at *
    rw [Bool.eq_iff_iff]
    simp only [Bool.and_eq_true, decide_eq_true_eq, beq_iff_eq, Bool.false_eq_true, false_iff, iff_false]
    omega
theorem c47 (w : World') (hw : w.lanes.length ≤ 3) : VFun G 47 [.agg (zdw w)] [] (.lit (.bool (zfm w))) [] := by
 refine VFun.intro (fn := Try.f47) rfl rfl (by kernel_rfl) (nb rfl) fun Γ hpar => ?_
 refine zac <| zaa <| zeb 100 rfl rfl rfl (zar hpar rfl) rfl rfl tv <| zad rfl rfl tv <| zaf tv <| zac <| zac <| zaa <| zab rfl rfl rfl rfl rfl rfl tv <| zak rfl rfl rfl rfl rfl rfl tv <| zcs rfl rfl rfl tv <| zae rfl rfl tv <| zaf tv <| zaz <| zbx (fun n_ E => ∃ (i : Nat), ((i ≤ w.lanes.length) ∧ ((w.lanes.take i).all idleB = true)) ∧ n_ = w.lanes.length - i ∧ E = ⟨[(6, .shr 17 (zca w.lanes)), (7, .lit (.int .i64 (zca w.lanes).length)), (8, .lit (.int .i64 i))], [], 16⟩) (n0 := _) (E0 := _) (⟨0, by exact ⟨Nat.zero_le _, rfl⟩, rfl, rfl⟩) (ren []) (zaw [] rfl rfl ⟨⟨_, rfl, (.shr _ _)⟩, ⟨_, rfl, (.lit _)⟩, ⟨_, rfl, (.lit _)⟩, tv⟩ tv (zax hpar rfl)) (fun n_ E hR => ?_)
 obtain ⟨i, hI, rfl, rfl⟩ := hR
 obtain ⟨hI0, hI1⟩ := hI
 refine zac <| zaa <| zcm rfl rfl rfl tv (fun h9 => ?_) (fun h9 => ?_)
 ·refine zaf tv <| zac <| zas rfl <| zbd <| zac <| zaz <| zac ?_
  rw [zbj] at h9
  obtain ⟨x, hx⟩ : ∃ x, w.lanes[i]? = some x := ⟨_, List.getElem?_eq_getElem (by omega)⟩
  refine zaa <| zbz rfl rfl rfl rfl rfl rfl (zcj hx) rfl tv <| zdi rfl rfl rfl rfl rfl tv <| zbf 121 rfl rfl (zar hpar rfl) rfl rfl tv <| zah rfl rfl rfl rfl rfl rfl rfl rfl tv <| zaf tv <| zac <| zaa <| zan rfl rfl rfl rfl rfl rfl tv <| s_call [] rfl (c45 x) (.cons ((subP rfl)) .nil) (fun k o h => by simp [Go.Vc.look] at h) rfl tv (fun h13 => ?_) (fun h13 => ?_)
  ·refine u_not rfl rfl tv <| zaf tv <| zau rfl <| zbd <| zaa <| zcg rfl rfl rfl (by unfold inI; omega) rfl tv <| zae rfl rfl tv <| zaf tv <| ⟨_, _, ren [], ?_, ⟨i + 1, ?_, rfl, rfl⟩, zaw [] rfl rfl ⟨⟨_, rfl, (.shr _ _)⟩, ⟨_, rfl, (.lit _)⟩, ⟨_, rfl, (.lit _)⟩, tv⟩ tv (zax hpar rfl)⟩
   ·omega
   ·refine ⟨by omega, ?_⟩
    rw [all_take hx, hI1, Bool.true_and]; exact h13
  ·refine u_not rfl rfl tv <| zaf tv <| zas rfl <| zac <| zaa <| zad rfl rfl tv <| zaf tv <| zav <| fin0 (.inr rfl) (.cons (.tmp rfl (nb rfl)) .nil) (subB ?_)
   ·exact all_no hx h13
 ·refine zaf tv <| zac <| zau rfl <| zcc <| iteP rfl <| zac ?_
  rw [zbj] at h9
  refine zaa <| zad rfl rfl tv <| zaf tv <| zav <| fin0 (.inr rfl) (.cons (.tmp rfl (nb rfl)) .nil) (subB ?_)
  ·rw [List.take_of_length_le (by omega)] at hI1; exact hI1
end Go.Proofs.Ytaadloihphpdbaa
