/- Walks of the laws through all layers. Printed by a small program (walk.py). -/
import Derived.Test.YtaadloihphpdbaaUWFair3H
import Derived.Test.YtaadloihphpdbaaUWFair2
import Derived.Test.YtaadloihphpdbaaUWText
import Derived.Test.YtaadloihphpdbaaUPTop
import Derived.Test.YtaadloihphpdbaaUPLine
import Derived.Test.YtaadloihphpdbaaUVcRV
import Derived.Test.YtaadloihphpdbaaUWView
import Derived.Test.YtaadloihphpdbaaUWPlain
import Derived.Test.YtaadloihphpdbaaUWWorld2
set_option linter.unusedVariables false
set_option linter.unusedSimpArgs false
set_option maxRecDepth 4000
namespace Go.Proofs.Ytaadloihphpdbaa
open Go Go.Vc Go.RowKit
theorem zel (l : List Step) (s : Step) : stepCells (l ++ [s]) = stepCells l ++ [stepAV s] := by simp [stepCells]
theorem calm_no {l : List Step} {i : Nat} {s : Step} (h : l[i]? = some s) (hc : calmS s = false) : calm l = false := by
  unfold calm
  rw [Bool.and_eq_false_iff]; left
  rw [List.all_eq_false]
  exact ⟨s, List.mem_of_getElem? h, by rw [hc]; decide⟩
theorem calm_len {l : List Step} (h : calm l = true) : l.length ≤ 100 := by
  unfold calm at h
  simp only [Bool.and_eq_true, decide_eq_true_eq] at h
  exact h.2
theorem mem_2 {a b : List Step} (ha : ∀ s ∈ a, inI s.m) (hb : ∀ s ∈ b, inI s.m) : ∀ s ∈ a ++ b, inI s.m := fun s h => (List.mem_append.1 h).elim (ha s) (hb s)
theorem put_in {q : Int} {m : Msg} : inI (putS q m).m := by show inI 0; unfold inI; omega
theorem c86 (q : Int) (s : List UInt8) (m : Msg) (hp : parseT s = (m, 0)) (hs : s.length ≤ 100) : VFun G 86 [.lit (.int .i64 q), .lit (.string (tx s))] [] (.agg (stepAV (putS q m))) [] := by
 have k1 : VFun G 101 [.lit (.string (tx s))] [] (.tup [.agg [.lit (.int .i64 m.1), .shr 1 (Vc.byteCells m.2)], .lit (.int .i64 0)]) [] := by
   have e := c101 s (by omega)
   rw [hp] at e
   exact e
 refine VFun.intro (fn := Try.f86) rfl rfl (by kernel_rfl) (nb rfl) fun Γ hpar => ?_
 refine zac <| zaa <| zbf 100 rfl rfl (zar hpar rfl) rfl rfl tv <| zaf tv <| zac <| zaa <| zae rfl rfl tv <| zbo rfl (k1) (.cons ((.lit _)) .nil) rfl tv <| zae rfl rfl tv <| zbg rfl rfl rfl tv <| zbg rfl rfl rfl tv <| zbf 101 rfl rfl (zar hpar rfl) rfl rfl tv <| zah rfl rfl rfl rfl rfl rfl rfl rfl tv <| zad rfl rfl tv <| zaf tv <| zac <| zaa <| zae rfl rfl tv <| zan rfl rfl rfl rfl rfl rfl tv <| zch rfl rfl rfl rfl rfl tv <| zah rfl rfl rfl rfl rfl rfl rfl rfl tv <| zaf tv <| zav <| fin' [] (.inr rfl) (.cons (.cellN rfl rfl rfl rfl rfl) .nil) (zaw [] rfl rfl ⟨⟨_, rfl, (.agg _ _ (.cons (subI ?_) (.cons (subI ?_) (.cons (subI ?_) (.cons (subI ?_) (.cons (subB ?_) (.cons (subI ?_) (.cons (subS ?_) .nil))))))))⟩, tv⟩ tv (zax rfl rfl))
 all_goals (try rfl)
theorem c85  : VFun G 85 [] [] (.lit (.bool true)) [] := by
 refine VFun.intro (fn := Try.f85) rfl rfl (by kernel_rfl) (nb rfl) fun Γ hpar => ?_
 refine zac <| zaa <| zad rfl rfl tv <| zaf tv <| zac <| zaa <| zbo rfl (c86 0 [48, 58, 54, 49] (0, [97]) (by decide +kernel) (by decide)) (.cons ((.lit _)) (.cons ((.lit _)) .nil)) rfl tv <| zbo rfl (c86 1 [49, 58, 54, 50] (1, [98]) (by decide +kernel) (by decide)) (.cons ((.lit _)) (.cons ((.lit _)) .nil)) rfl tv <| zba 100 rfl rfl rfl rfl rfl rfl rfl rfl rfl rfl (zar hpar rfl) rfl rfl tv <| zbq [] [100] [100] rfl rfl (c87c (n := 2) (l := lAlive) (by intro s hs; simp only [lAlive, List.mem_cons, List.not_mem_nil, or_false] at hs; rcases hs with rfl | rfl <;> exact put_in) (by decide) (by decide)) (zbe (k0 := 100) rfl zbs) tv (.cons ((.lit _)) (.cons (.frz _ _ _ _ rfl (by decide)) .nil)) rfl rfl (zce hpar rfl) rfl tv <| zae rfl rfl tv <| zbg rfl rfl rfl tv <| zbg rfl rfl rfl tv <| zbg rfl rfl rfl tv <| zbf 101 rfl rfl (zar hpar rfl) rfl rfl tv <| zah rfl rfl rfl rfl rfl rfl rfl rfl tv <| zad rfl rfl tv <| zad rfl rfl tv <| zaf tv <| zac <| zaa <| zan rfl rfl rfl rfl rfl rfl tv <| zbo rfl (c88 (play 2 lAlive).1 (wok_play (n := 2) (by decide) (by decide) lAlive) (by decide +kernel)) (.cons ((subP rfl)) .nil) rfl tv <| zae rfl rfl tv <| zbg rfl rfl rfl tv <| zbg rfl rfl rfl tv <| zbf 102 rfl rfl (zar hpar rfl) rfl rfl tv <| zah rfl rfl rfl rfl rfl rfl rfl rfl tv <| zad rfl rfl tv <| zaf tv ?_
 refine zac <| zaa <| zae rfl rfl tv <| zew rfl rfl rfl tv (fun h20 => ?_) (fun h20 => ?_)
 ·refine zae rfl rfl tv <| zan rfl rfl rfl rfl rfl rfl (gk rfl) <| s_call [] rfl (c47 (zco 200 (play 2 lAlive).1).1 (by decide +kernel)) (.cons ((subP rfl)) .nil) (fun k o h => by simp [Go.Vc.look] at h) rfl (gk rfl) (fun h23 => ?_) (fun h23 => ?_)
  ·refine zbk rfl rfl rfl tv <| zae rfl rfl tv <| zab rfl rfl rfl rfl rfl rfl (gk rfl) <| zak rfl rfl rfl rfl rfl rfl (gk rfl) <| zcs rfl rfl rfl (gk rfl) <| zew rfl rfl rfl (gk rfl) (fun h29 => ?_) (fun h29 => ?_)
   ·refine zbk rfl rfl rfl tv <| zae rfl rfl tv <| zab rfl rfl rfl rfl rfl rfl (gk rfl) <| zak rfl rfl rfl rfl rfl rfl (gk rfl) <| zbz rfl rfl rfl rfl rfl (i := 1) rfl (zcj (x := (zco 200 (play 2 lAlive).1).1.lanes.getD 1 zdm) (by decide +kernel)) rfl (gk rfl) <| u_fieldAddrS rfl rfl rfl rfl rfl rfl (gk rfl) <| u_fieldAddrS rfl rfl rfl rfl rfl rfl (gk rfl) <| zcr rfl rfl rfl rfl rfl (gk rfl) <| zcs rfl rfl rfl (gk rfl) <| u_eql rfl rfl rfl (gk rfl) <| zbk rfl rfl rfl tv <| zad rfl rfl tv <| zaf tv <| zav <| fin0 (.inr rfl) (.cons (.tmp rfl (nb rfl)) .nil) (subB ?_)
    ·rw [zap]; exact (beq_iff_eq.2 (congrArg Int.ofNat alive_end.2.2)).symm
   ·exact absurd (by rw [zbj]; exact congrArg Int.ofNat alive_end.2.1) h29
  ·exact absurd (show zfm (zco 200 (play 2 lAlive).1).1 = true from alive_end.1) (by rw [h23]; decide)
 ·exact absurd rfl h20
theorem c134 (l : List Step) (hl : l.length ≤ 140737488355328) : VFun G 134 [.shr 7 (stepCells l)] [] (.lit (.bool (calm l))) [] := by
 refine VFun.intro (fn := Try.f134) rfl rfl (by kernel_rfl) (nb rfl) fun Γ hpar => ?_
 refine zac <| zaa <| zad rfl rfl tv <| zaf tv <| zac <| zac <| zaa <| zae rfl rfl tv <| zcs rfl rfl rfl tv <| zae rfl rfl tv <| zaf tv <| zaz <| zbx (fun n_ E => ∃ (i : Nat), ((i ≤ l.length) ∧ ((l.take i).all calmS = true)) ∧ n_ = l.length - i ∧ E = ⟨[(0, .shr 7 (stepCells l)), (5, .shr 7 (stepCells l)), (6, .lit (.int .i64 (stepCells l).length)), (7, .lit (.int .i64 i))], [], 23⟩) (n0 := _) (E0 := _) (⟨0, by exact ⟨Nat.zero_le _, rfl⟩, rfl, rfl⟩) (ren []) (zaw [] rfl rfl ⟨⟨_, rfl, (.shr _ _)⟩, ⟨_, rfl, (.shr _ _)⟩, ⟨_, rfl, (.lit _)⟩, ⟨_, rfl, (.lit _)⟩, tv⟩ tv (zax hpar rfl)) (fun n_ E hR => ?_)
 obtain ⟨i, hI, rfl, rfl⟩ := hR
 obtain ⟨hI0, hI1⟩ := hI
 refine zac <| zaa <| zcm rfl rfl rfl tv (fun h8 => ?_) (fun h8 => ?_)
 ·refine zaf tv <| zac <| zas rfl <| zbd <| zac <| zaz <| zac ?_
  rw [zbv] at h8
  obtain ⟨s, hs⟩ : ∃ s, l[i]? = some s := ⟨_, List.getElem?_eq_getElem (by omega)⟩
  refine zaa <| zbz rfl rfl rfl rfl rfl rfl (stepCells_get' hs) rfl tv <| zdi rfl rfl rfl rfl rfl tv <| zbf 120 rfl rfl (zar hpar rfl) rfl rfl tv <| zah rfl rfl rfl rfl rfl rfl rfl rfl tv <| zaf tv <| zac <| zaa <| zab rfl rfl rfl rfl rfl rfl tv <| zak rfl rfl rfl rfl rfl rfl tv <| zew rfl rfl rfl tv (fun h13 => ?_) (fun h13 => ?_)
  ·refine zae rfl rfl tv <| zal rfl rfl rfl rfl rfl <| zal rfl rfl rfl rfl rfl <| zal rfl rfl rfl rfl rfl <| zbk rfl rfl rfl tv <| zaf tv <| zas rfl <| zac <| zaa <| zad rfl rfl tv <| zaf tv <| zav <| fin0 (.inr rfl) (.cons (.tmp rfl (nb rfl)) .nil) (subB ?_)
   ·refine calm_no hs ?_
    simp [calmS, h13]
  ·refine zae rfl rfl tv <| zab rfl rfl rfl rfl rfl rfl (gk rfl) <| zak rfl rfl rfl rfl rfl rfl (gk rfl) <| zew rfl rfl rfl (gk rfl) (fun h17 => ?_) (fun h17 => ?_)
   ·refine zbh rfl rfl rfl tv <| zaf tv <| zas rfl <| zac <| zaa <| zad rfl rfl tv <| zaf tv <| zav <| fin0 (.inr rfl) (.cons (.tmp rfl (nb rfl)) .nil) (subB ?_)
    ·refine calm_no hs ?_
     simp [calmS, h17]
   ·refine zbh rfl rfl rfl tv <| zaf tv <| zau rfl <| zbd <| zaa <| zcg rfl rfl rfl (by unfold inI; omega) rfl tv <| zae rfl rfl tv <| zaf tv <| ⟨_, _, ren [], ?_, ⟨i + 1, ?_, rfl, rfl⟩, zaw [] rfl rfl ⟨⟨_, rfl, (.shr _ _)⟩, ⟨_, rfl, (.shr _ _)⟩, ⟨_, rfl, (.lit _)⟩, ⟨_, rfl, (.lit _)⟩, tv⟩ tv (zax hpar rfl)⟩
    ·omega
    ·refine ⟨by omega, ?_⟩
     rw [all_take hs, hI1]; simp [calmS, h13, h17]
 ·refine zaf tv <| zac <| zau rfl <| zcc <| iteP rfl <| zac ?_
  rw [zbv] at h8
  rw [List.take_of_length_le (by omega)] at hI1
  refine zaa <| zae rfl rfl tv <| zcs rfl rfl rfl tv <| u_leq rfl rfl rfl tv <| zad rfl rfl tv <| zaf tv <| zav <| fin0 (.inr rfl) (.cons (.tmp rfl (nb rfl)) .nil) (subB ?_)
  ·unfold calm; rw [hI1, Bool.true_and, zbv]; simp; omega
end Go.Proofs.Ytaadloihphpdbaa
