/- Walks. Printed by a small program (walk.py). -/
import Derived.Test.YtaadloihphpdbaaZWLane6H
set_option linter.unusedVariables false
set_option linter.unusedSimpArgs false
set_option maxRecDepth 4000
namespace Go.Proofs.Ytaadloihphpdbaa
open Go Go.Vc Go.RowKit
theorem c123  : VFun G 123 [] [] (.lit (.bool true)) [] := by
 refine VFun.intro (fn := Try.f123) rfl rfl (by kernel_rfl) (nb rfl) fun Γ hpar => ?_
 refine zad <| zaa <| zae rfl rfl tv <| zaf tv <| zad <| vw_regionMid 1 <| zba 100 rfl rfl rfl rfl rfl rfl rfl rfl rfl rfl (zar hpar rfl) rfl rfl tv <| zaf tv <| vx_wk (E' := ⟨[(0, .lit (.bool false)), (13, .shr 1 (Vc.byteCells [1, 2, 3]))], [], 100⟩) (ren []) (zay [] rfl rfl ⟨⟨_, rfl, .lit _⟩, ⟨_, rfl, .frz _ _ _ _ rfl (fzL rfl)⟩, tv⟩ tv (zaz hpar rfl)) (VX.of (log := []) ?_)
 refine zba 101 rfl rfl rfl rfl rfl rfl rfl rfl rfl rfl (zar hpar rfl) rfl rfl tv <| zdi rfl rfl rfl rfl rfl tv <| zck [] [101] [101] rfl rfl (c121 laneS 0 false binvS) (zbp (k0 := 101) rfl zcl) tv (.cons ((.agg _ _ (.cons (.nilshr _) (.cons ((.lit _)) (.cons ((.lit _)) (.cons ((.lit _)) (.cons ((.lit _)) (.cons (.nilshr _) (.cons ((.lit _)) (.cons ((.lit _)) (.cons (.nilshr _) (.cons ((.lit _)) (.cons ((.lit _)) (.cons ((.lit _)) (.cons (.nilshr _) (.cons (.nilshr _) (.cons ((.lit _)) (.cons (.frz _ _ _ _ rfl (by decide)) (.cons (.nilshr _) .nil))))))))))))))))))) (.cons ((.lit _)) (.cons ((.lit _)) .nil))) rfl rfl (zcy hpar rfl) rfl tv <| zac rfl rfl tv <| zas rfl rfl rfl tv <| zas rfl rfl rfl tv <| zbd 102 rfl rfl (zar hpar rfl) rfl rfl tv <| zaj rfl rfl rfl rfl rfl rfl rfl rfl tv <| zae rfl rfl tv <| zaf tv <| zad <| zaa <| zam rfl rfl rfl rfl rfl rfl tv <| zbi rfl (c122 (zcp laneS 5 0 0 false).1 1 2 false (zdy binvS 5 0 0 false) (by unfold inI; decide)) (.cons ((subP rfl)) (.cons ((.lit _)) (.cons ((.lit _)) (.cons ((.lit _)) .nil)))) rfl tv <| zac rfl rfl tv <| zas rfl rfl rfl tv <| zas rfl rfl rfl tv <| zbd 103 rfl rfl (zar hpar rfl) rfl rfl tv <| zaj rfl rfl rfl rfl rfl rfl rfl rfl tv <| zae rfl rfl tv <| zaf tv <| zad <| zaa <| zam rfl rfl rfl rfl rfl rfl tv <| zbi rfl (c120 (zcp (zcp laneS 5 0 0 false).1 6 1 2 false).1 0 false (zdy (zdy binvS 5 0 0 false) 6 1 2 false)) (.cons ((subP rfl)) (.cons ((.lit _)) (.cons ((.lit _)) .nil))) rfl tv <| zac rfl rfl tv <| zas rfl rfl rfl tv <| zas rfl rfl rfl tv <| zbd 104 rfl rfl (zar hpar rfl) rfl rfl tv <| zaj rfl rfl rfl rfl rfl rfl rfl rfl tv ?_
 refine zae rfl rfl tv <| zaf tv <| zad <| zaa <| zam rfl rfl rfl rfl rfl rfl tv <| zbi rfl (c118 (zcp (zcp (zcp laneS 5 0 0 false).1 6 1 2 false).1 4 0 0 false).1 0 false (zdy (zdy (zdy binvS 5 0 0 false) 6 1 2 false) 4 0 0 false)) (.cons ((subP rfl)) (.cons ((.lit _)) (.cons ((.lit _)) .nil))) rfl tv <| zac rfl rfl tv <| zas rfl rfl rfl tv <| zas rfl rfl rfl tv <| zbd 105 rfl rfl (zar hpar rfl) rfl rfl tv <| zaj rfl rfl rfl rfl rfl rfl rfl rfl tv <| zae rfl rfl tv <| zaf tv <| zad <| zaa <| zam rfl rfl rfl rfl rfl rfl tv <| zbi rfl (c118 (zcp (zcp (zcp (zcp laneS 5 0 0 false).1 6 1 2 false).1 4 0 0 false).1 3 0 0 false).1 0 true (zdy (zdy (zdy (zdy binvS 5 0 0 false) 6 1 2 false) 4 0 0 false) 3 0 0 false)) (.cons ((subP rfl)) (.cons ((.lit _)) (.cons ((.lit _)) .nil))) rfl tv <| zac rfl rfl tv <| zas rfl rfl rfl tv <| zas rfl rfl rfl tv <| zbd 106 rfl rfl (zar hpar rfl) rfl rfl tv <| zaj rfl rfl rfl rfl rfl rfl rfl rfl tv <| zae rfl rfl tv <| zaf tv <| zad <| zaa <| zdi rfl rfl rfl rfl rfl tv <| zdi rfl rfl rfl rfl rfl tv <| zbi rfl (c116 laneO binvO) (.cons ((.agg _ _ (.cons (.nilshr _) (.cons ((.lit _)) (.cons ((.lit _)) (.cons ((.lit _)) (.cons ((.lit _)) (.cons (.nilshr _) (.cons ((.lit _)) (.cons ((.lit _)) (.cons (.nilshr _) (.cons ((.lit _)) (.cons ((.lit _)) (.cons ((.lit _)) (.cons (.nilshr _) (.cons (.nilshr _) (.cons ((.lit _)) (.cons (.nilshr _) (.cons (.nilshr _) .nil))))))))))))))))))) .nil) rfl tv <| zbd 107 rfl rfl (zar hpar rfl) rfl rfl tv ?_
 refine zaj rfl rfl rfl rfl rfl rfl rfl rfl tv <| zaf tv <| zad <| zaa <| zac rfl rfl tv <| zci rfl rfl rfl tv (fun h43 => ?_) (fun h43 => ?_)
 ·refine zac rfl rfl tv <| zac rfl rfl (gk rfl) <| zci rfl rfl rfl (gk rfl) (fun h46 => ?_) (fun h46 => ?_)
  ·refine zav rfl rfl rfl tv <| zac rfl rfl tv <| zac rfl rfl (gk rfl) <| zci rfl rfl rfl (gk rfl) (fun h50 => ?_) (fun h50 => ?_)
   ·refine zav rfl rfl rfl tv <| zac rfl rfl tv <| zac rfl rfl (gk rfl) <| zci rfl rfl rfl (gk rfl) (fun h54 => ?_) (fun h54 => ?_)
    ·refine zav rfl rfl rfl tv <| zac rfl rfl tv <| zac rfl rfl (gk rfl) <| zci rfl rfl rfl (gk rfl) (fun h58 => ?_) (fun h58 => ?_)
     ·refine zav rfl rfl rfl tv <| zac rfl rfl tv <| zab rfl rfl rfl rfl rfl rfl (gk rfl) <| zah rfl rfl rfl rfl rfl rfl (gk rfl) <| zby rfl rfl rfl (gk rfl) <| zci rfl rfl rfl (gk rfl) (fun h64 => ?_) (fun h64 => ?_)
      ·refine zav rfl rfl rfl tv <| zac rfl rfl tv <| zab rfl rfl rfl rfl rfl rfl (gk rfl) <| zah rfl rfl rfl rfl rfl rfl (gk rfl) <| zbh rfl rfl rfl rfl rfl (i := 1) rfl (zdc (p := [1, 2, 2]) (by decide +kernel)) rfl (gk rfl) <| zbv rfl rfl rfl rfl rfl (gk rfl) <| zbh rfl rfl rfl rfl rfl (i := 2) rfl rfl rfl (gk rfl) <| zbv rfl rfl rfl rfl rfl (gk rfl) <| zci rfl rfl rfl (gk rfl) (fun h73 => ?_) (fun h73 => ?_)
       ·refine zav rfl rfl rfl tv <| zac rfl rfl tv <| zab rfl rfl rfl rfl rfl rfl (gk rfl) <| zah rfl rfl rfl rfl rfl rfl (gk rfl) <| zby rfl rfl rfl (gk rfl) <| zci rfl rfl rfl (gk rfl) (fun h79 => ?_) (fun h79 => ?_)
        ·refine zav rfl rfl rfl tv <| zac rfl rfl tv <| zab rfl rfl rfl rfl rfl rfl (gk rfl) <| zah rfl rfl rfl rfl rfl rfl (gk rfl) <| zby rfl rfl rfl (gk rfl) <| zci rfl rfl rfl (gk rfl) (fun h85 => ?_) (fun h85 => ?_)
         ·refine zav rfl rfl rfl tv <| zac rfl rfl tv <| zab rfl rfl rfl rfl rfl rfl (gk rfl) <| zah rfl rfl rfl rfl rfl rfl (gk rfl) <| zby rfl rfl rfl (gk rfl) <| zci rfl rfl rfl (gk rfl) (fun h91 => ?_) (fun h91 => ?_)
          ·refine zav rfl rfl rfl tv <| zac rfl rfl tv <| zam rfl rfl rfl rfl rfl rfl (gk rfl) <| zbi rfl (c115r (zcp laneS 5 0 0 false).1 (zdy binvS 5 0 0 false)) (.cons ((subP rfl)) .nil) rfl (gk rfl) <| u_field1 rfl rfl rfl rfl rfl rfl rfl (gk rfl) <| zby rfl rfl rfl (gk rfl) <| u_eql rfl rfl rfl (gk rfl) <| zav rfl rfl rfl tv <| zae rfl rfl tv <| zaf tv <| zaw <| fin0 (.inr rfl) (.cons (.tmp rfl (nb rfl)) .nil) (subB ?_)
           ·decide +kernel
          ·exact absurd (by decide +kernel) h91
         ·exact absurd (by decide +kernel) h85
        ·exact absurd (by decide +kernel) h79
       ·exact absurd (by decide +kernel) h73
      ·exact absurd (by decide +kernel) h64
     ·exact absurd (by decide +kernel) h58
    ·exact absurd (by decide +kernel) h54
   ·exact absurd (by decide +kernel) h50
  ·exact absurd (by decide +kernel) h46
 ·exact absurd (by decide +kernel) h43
theorem c114 (n : Int) (l : List Step) (hm : ∀ s ∈ l, inI s.m) : VFun G 114 [.lit (.int .i64 n), .shr 7 (stepCells l)] [] (.tup [.agg (zdu (zee n l)), .lit (.bool (!(decide (n < 1) || decide (3 < n))))]) [] := by
 refine VFun.intro (fn := Try.f114) rfl rfl (by kernel_rfl) (nb rfl) fun Γ hpar => ?_
 refine zad <| zaa <| zbd 100 rfl rfl (zar hpar rfl) rfl rfl tv <| zae rfl rfl tv <| zaf tv <| zad <| zad <| zaa <| zac rfl rfl tv <| zcg rfl rfl rfl tv (fun h9 => ?_) (fun h9 => ?_)
 ·refine zac rfl rfl tv <| zag rfl rfl rfl rfl rfl <| zag rfl rfl rfl rfl rfl <| zav rfl rfl rfl tv <| zaf tv <| zao rfl <| zad <| zaa <| zcz rfl rfl rfl (.see 2 (.same _ (.same _ (.same _ (.same _ (.see 6 (.same _ (.same _ (.see 1 (.same _ (.same _ (.same _ (.see 6 (.see 2 (.same _ (.see 1 (.see 1 .nil))))))))))))))))) rfl rfl tv <| zaj rfl rfl rfl rfl rfl rfl rfl rfl tv <| zae rfl rfl tv <| zaf tv <| zaw ?_
  rw [laneOfN (by omega)]
  refine fin' [] (.inr rfl) (.cons (.cellN rfl rfl rfl rfl rfl) (.cons (.tmp rfl (nb rfl)) .nil)) (zay [] rfl rfl ⟨⟨_, rfl, (.tup _ _ (.cons (.agg _ _ (.cons (subS ?_) (.cons (subI ?_) (.cons (subI ?_) (.cons (subI ?_) (.cons (subI ?_) (.cons (subS ?_) (.cons (subI ?_) (.cons (subI ?_) (.cons (subS ?_) (.cons (subI ?_) (.cons (subI ?_) (.cons (subI ?_) (.cons (subS ?_) (.cons (subS ?_) (.cons (subB ?_) (.cons (subS ?_) (.cons (subS ?_) .nil)))))))))))))))))) (.cons (subB ?_) .nil)))⟩, tv⟩ tv (zaz rfl rfl))
  all_goals (try rfl)
  all_goals
    first | rfl | (simp; omega)
 ·refine zac rfl rfl tv <| zac rfl rfl (gk rfl) <| zdr rfl rfl rfl (gk rfl) (fun h12 => ?_) (fun h12 => ?_)
  ·refine zat rfl rfl rfl tv <| zaf tv <| zao rfl <| zad <| zaa <| zcz rfl rfl rfl (.see 2 (.same _ (.same _ (.same _ (.same _ (.see 6 (.same _ (.same _ (.see 1 (.same _ (.same _ (.same _ (.see 6 (.see 2 (.same _ (.see 1 (.see 1 .nil))))))))))))))))) rfl rfl tv <| zaj rfl rfl rfl rfl rfl rfl rfl rfl tv <| zae rfl rfl tv <| zaf tv <| zaw ?_
   rw [laneOfN (by omega)]
   refine fin' [] (.inr rfl) (.cons (.cellN rfl rfl rfl rfl rfl) (.cons (.tmp rfl (nb rfl)) .nil)) (zay [] rfl rfl ⟨⟨_, rfl, (.tup _ _ (.cons (.agg _ _ (.cons (subS ?_) (.cons (subI ?_) (.cons (subI ?_) (.cons (subI ?_) (.cons (subI ?_) (.cons (subS ?_) (.cons (subI ?_) (.cons (subI ?_) (.cons (subS ?_) (.cons (subI ?_) (.cons (subI ?_) (.cons (subI ?_) (.cons (subS ?_) (.cons (subS ?_) (.cons (subB ?_) (.cons (subS ?_) (.cons (subS ?_) .nil)))))))))))))))))) (.cons (subB ?_) .nil)))⟩, tv⟩ tv (zaz rfl rfl))
   all_goals (try rfl)
   all_goals
     first | rfl | (simp; omega)
  ·refine zat rfl rfl rfl tv <| zaf tv <| zap rfl <| zax <| zad <| zaa <| zac rfl rfl tv <| zac rfl rfl tv <| zbi rfl (c43 n l (by omega) hm) (.cons ((.lit _)) (.cons ((.shr _ _)) .nil)) rfl tv <| zac rfl rfl tv <| zas rfl rfl rfl tv <| zas rfl rfl rfl tv <| zbd 101 rfl rfl (zar hpar rfl) rfl rfl tv <| zaj rfl rfl rfl rfl rfl rfl rfl rfl tv <| zae rfl rfl tv <| zaf tv <| zad ?_
   have hwk := zeb (n := n) (by omega) (by omega) l
   have htk := (zet (n := n) (by omega) (by omega) l).2
   have hln := zdw (n := n) (by omega) (by omega) l
   obtain ⟨x, hx⟩ : ∃ x, (play n l).1.lanes[0]? = some x := ⟨_, List.getElem?_eq_getElem (by omega)⟩
   refine zaa <| zab rfl rfl rfl rfl rfl rfl tv <| zah rfl rfl rfl rfl rfl rfl tv <| zbh rfl rfl rfl rfl rfl rfl (zbr hx) rfl tv <| zbu rfl rfl rfl rfl rfl tv <| zaj rfl rfl rfl rfl rfl rfl rfl rfl tv <| zae rfl rfl tv <| zaf tv <| zaw ?_
   rw [laneOfY (by omega), List.getD, hx]
   refine fin' [] (.inr rfl) (.cons (.cellN rfl rfl rfl rfl rfl) (.cons (.tmp rfl (nb rfl)) .nil)) (zay [] rfl rfl ⟨⟨_, rfl, (.tup _ _ (.cons (.agg _ _ (.cons (subS ?_) (.cons (subI ?_) (.cons (subI ?_) (.cons (subI ?_) (.cons (subI ?_) (.cons (subS ?_) (.cons (subI ?_) (.cons (subI ?_) (.cons (subS ?_) (.cons (subI ?_) (.cons (subI ?_) (.cons (subI ?_) (.cons (subS ?_) (.cons (subS ?_) (.cons (subB ?_) (.cons (subS ?_) (.cons (subS ?_) .nil)))))))))))))))))) (.cons (subB ?_) .nil)))⟩, tv⟩ tv (zaz rfl rfl))
   all_goals (try rfl)
   all_goals
     first | rfl | (simp; omega)
theorem c124 (l : List Step) : VFun G 124 [.shr 7 (stepCells l)] [] (.lit (.bool (decide (1 < zfk l)))) [] := by
 refine VFun.intro (fn := Try.f124) rfl rfl (by kernel_rfl) (nb rfl) fun Γ hpar => ?_
 refine zad <| vw_len (t := 0) rfl fun hl0 => ?_
 rw [zbf] at hl0
 refine zaa <| zae rfl rfl tv <| zaf tv <| zad <| zaa <| zae rfl rfl tv <| zaf tv <| zad <| zad <| zaa <| zac rfl rfl tv <| zby rfl rfl rfl tv <| zac rfl rfl tv <| zaf tv <| zbb <| zbt (fun n_ E => ∃ (i : Nat), ((i ≤ l.length)) ∧ n_ = l.length - i ∧ E = ⟨[(3, .lit (.int .i64 ((zfk (l.take i) : Nat) : Int))), (6, .shr 7 (stepCells l)), (7, .lit (.int .i64 (stepCells l).length)), (8, .lit (.int .i64 i))], [], 20⟩) (n0 := _) (E0 := _) (⟨0, by omega, rfl, rfl⟩) (ren []) (zay [] rfl rfl ⟨⟨_, rfl, (.lit _)⟩, ⟨_, rfl, (.shr _ _)⟩, ⟨_, rfl, (.lit _)⟩, ⟨_, rfl, (.lit _)⟩, tv⟩ tv (zaz hpar rfl)) (fun n_ E hR => ?_)
 obtain ⟨i, hI, rfl, rfl⟩ := hR
 have hI0 := hI
 refine zad <| zaa <| zcg rfl rfl rfl tv (fun h9 => ?_) (fun h9 => ?_)
 ·refine zaf tv <| zad <| zao rfl <| zax <| zad <| zbb <| zad ?_
  rw [zbf] at h9
  obtain ⟨s, hs⟩ : ∃ s, l[i]? = some s := ⟨_, List.getElem?_eq_getElem (by omega)⟩
  have hsl := spoilN_len (l.take i)
  have hst := List.length_take_le i l
  refine zaa <| zbh rfl rfl rfl rfl rfl rfl (zbq hs) rfl tv <| zbu rfl rfl rfl rfl rfl tv <| zbd 120 rfl rfl (zar hpar rfl) rfl rfl tv <| zaj rfl rfl rfl rfl rfl rfl rfl rfl tv <| zaf tv <| zad <| zaa <| zab rfl rfl rfl rfl rfl rfl tv <| zah rfl rfl rfl rfl rfl rfl tv <| zci rfl rfl rfl tv (fun h14 => ?_) (fun h14 => ?_)
  ·refine zaf tv <| zao rfl <| zaa <| zac rfl rfl tv <| zbz rfl rfl rfl (by unfold inI; omega) rfl tv <| zae rfl rfl tv <| zaf tv <| zaa <| zbz rfl rfl rfl (by unfold inI; omega) rfl tv <| zac rfl rfl tv <| zaf tv <| ⟨_, _, ren [], ?_, ⟨i + 1, ?_, rfl, rfl⟩, zay [] rfl rfl ⟨⟨_, rfl, (subI (by rw [spoilN_take_y hs h14]; rfl))⟩, ⟨_, rfl, (.shr _ _)⟩, ⟨_, rfl, (.lit _)⟩, ⟨_, rfl, (.lit _)⟩, tv⟩ tv (zaz hpar rfl)⟩
   ·omega
   ·omega
  ·refine zaf tv <| zap rfl <| zax <| zaa <| zbz rfl rfl rfl (by unfold inI; omega) rfl tv <| zac rfl rfl tv <| zaf tv <| ⟨_, _, ren [], ?_, ⟨i + 1, ?_, rfl, rfl⟩, zay [] rfl rfl ⟨⟨_, rfl, (subI (by rw [spoilN_take_n hs h14]))⟩, ⟨_, rfl, (.shr _ _)⟩, ⟨_, rfl, (.lit _)⟩, ⟨_, rfl, (.lit _)⟩, tv⟩ tv (zaz hpar rfl)⟩
   ·omega
   ·omega
 ·refine zaf tv <| zad <| zap rfl <| zbw <| iteP rfl <| zad ?_
  rw [zbf] at h9
  rw [List.take_of_length_le (show l.length ≤ i by omega)]
  refine zaa <| zac rfl rfl tv <| u_gtr rfl rfl rfl tv <| zae rfl rfl tv <| zaf tv <| zaw <| fin' [] (.inr rfl) (.cons (.tmp rfl (nb rfl)) .nil) (zay [] rfl rfl ⟨⟨_, rfl, (subB ?_)⟩, tv⟩ tv (zaz rfl rfl))
  all_goals (try rfl)
  all_goals
    rw [Bool.eq_iff_iff]; simp only [decide_eq_true_eq]; omega
end Go.Proofs.Ytaadloihphpdbaa
