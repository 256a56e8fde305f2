/- Walk of a law. Printed by a small program (walk.py). -/
import Derived.Test.YtaadloihphpdbaaZWWorld4
set_option linter.unusedVariables false
set_option linter.unusedSimpArgs false
set_option maxRecDepth 4000
namespace Go.Proofs.Ytaadloihphpdbaa
open Go Go.Vc Go.RowKit
theorem c34 (n : Int) (l : List Step) (s : Step) (hm : ∀ s ∈ l, inI s.m) (hs : inI s.m) : VFun G 34 [.lit (.int .i64 n), .shr 7 (stepCells l), .agg (stepAV s)] [] (.lit (.bool true)) [] := by
 refine VFun.intro (fn := Try.f34) rfl rfl (by kernel_rfl) (nb rfl) fun Γ hpar => ?_
 refine zad <| zaa <| zdh 100 rfl rfl rfl (zar hpar rfl) rfl rfl tv <| zae rfl rfl tv <| zaf tv <| zad <| zaa <| zac rfl rfl tv <| zbi rfl (c125 n) (.cons ((.lit _)) .nil) rfl tv <| zac rfl rfl tv <| zas rfl rfl rfl tv <| zas rfl rfl rfl tv <| zbd 101 rfl rfl (zar hpar rfl) rfl rfl tv <| zaj rfl rfl rfl rfl rfl rfl rfl rfl tv <| zae rfl rfl tv <| zaf tv <| zad <| zaa <| zac rfl rfl tv <| zbi rfl (c126 n) (.cons ((.lit _)) .nil) rfl tv <| zac rfl rfl tv <| zas rfl rfl rfl tv <| zas rfl rfl rfl tv <| zbd 102 rfl rfl (zar hpar rfl) rfl rfl tv <| zaj rfl rfl rfl rfl rfl rfl rfl rfl tv <| zae rfl rfl tv <| zaf tv <| zad <| zad <| zaa ?_
 refine zac rfl rfl tv <| zac rfl rfl tv <| zdg rfl rfl rfl tv (fun h27 => ?_) (fun h27 => ?_)
 ·exact absurd rfl h27
 ·refine zac rfl rfl tv <| zam rfl rfl rfl rfl rfl rfl (gk rfl) <| zam rfl rfl rfl rfl rfl rfl (gk rfl) <| zdo [] rfl (c127 (zco n) (zco n) (new_le n)) (.cons ((subP rfl)) (.cons ((subP rfl)) .nil)) (fun k o h => by simp [Go.Vc.look] at h) rfl (gk rfl) (fun h31 => ?_) (fun h31 => ?_)
  ·refine zdq rfl rfl (gk rfl) <| zat rfl rfl rfl tv <| zaf tv <| zap rfl <| zax <| zad <| zad <| zaa <| zac rfl rfl tv <| zdg rfl rfl rfl tv (fun h35 => ?_) (fun h35 => ?_)
   ·refine zaf tv <| zao rfl <| zad <| zaa <| zae rfl rfl tv <| zaf tv <| zaw <| fin0 (.inr rfl) (.cons (.tmp rfl (nb rfl)) .nil) (subB ?_)
    ·first | rfl | simp
   ·refine zaf tv <| zap rfl <| zax <| zad ?_
    have hn := newErr_ok (n := n) (by omega)
    refine zaa <| zac rfl rfl tv <| zac rfl rfl tv <| zbi rfl (c43 n l (by omega) hm) (.cons ((.lit _)) (.cons ((.shr _ _)) .nil)) rfl tv <| zac rfl rfl tv <| zas rfl rfl rfl tv <| zas rfl rfl rfl tv <| zbd 103 rfl rfl (zar hpar rfl) rfl rfl tv <| zaj rfl rfl rfl rfl rfl rfl rfl rfl tv <| zae rfl rfl tv <| zaf tv <| zad ?_
    have hwk := zeb (n := n) (by omega) (by omega) l
    have htk := (zet (n := n) (by omega) (by omega) l).2
    have hln := zdw (n := n) (by omega) (by omega) l
    refine zaa <| zam rfl rfl rfl rfl rfl rfl tv <| zam rfl rfl rfl rfl rfl rfl tv <| zbi rfl (c128 (play n l).1 s hwk (by omega) hs) (.cons ((subP rfl)) (.cons ((subP rfl)) .nil)) rfl tv <| zac rfl rfl tv <| zas rfl rfl rfl tv <| zas rfl rfl rfl tv <| zbd 104 rfl rfl (zar hpar rfl) rfl rfl tv <| zaj rfl rfl rfl rfl rfl rfl rfl rfl tv <| zae rfl rfl tv <| zaf tv <| zad <| zaa <| zam rfl rfl rfl rfl rfl rfl tv <| zam rfl rfl rfl rfl rfl rfl tv <| zbi rfl (c129 (play n l).1 s hwk (by omega) hs) (.cons ((subP rfl)) (.cons ((subP rfl)) .nil)) rfl tv <| zac rfl rfl tv <| zas rfl rfl rfl tv <| zas rfl rfl rfl tv <| zbd 105 rfl rfl (zar hpar rfl) rfl rfl tv <| zaj rfl rfl rfl rfl rfl rfl rfl rfl tv <| zae rfl rfl tv <| zaf tv <| zad <| zbo <| zac rfl rfl tv <| zac rfl rfl tv <| zci rfl rfl rfl tv (fun h56 => ?_) (fun h56 => ?_)
    ·refine zac rfl rfl tv <| zam rfl rfl rfl rfl rfl rfl (gk rfl) <| zam rfl rfl rfl rfl rfl rfl (gk rfl) <| zdo [] rfl (c127 (zch (play n l).1 s).1 (zch (play n l).1 s).1 (wok_do hwk s).len.2) (.cons ((subP rfl)) (.cons ((subP rfl)) .nil)) (fun k o h => by simp [Go.Vc.look] at h) rfl (gk rfl) (fun h60 => ?_) (fun h60 => ?_)
     ·refine zav rfl rfl rfl tv <| zac rfl rfl tv <| zam rfl rfl rfl rfl rfl rfl (gk rfl) <| zck [] [] [] rfl rfl (c130 (play n l).1 hwk) zcl tv (.cons ((subP rfl)) .nil) rfl rfl (zcy hpar rfl) rfl (gk rfl) <| zam rfl rfl rfl rfl rfl rfl (gk rfl) <| u_callB [(931, _)] rfl (c127 (play n l).1 (play n l).1 hwk.len.2) (.cons ((.agg _ _ (.cons (.frz _ _ _ _ rfl (zak rfl)) (.cons ((.lit _)) .nil)))) (.cons ((subP rfl)) .nil)) (sub1 rfl) rfl rfl (gk rfl) <| zav rfl rfl rfl tv <| zae rfl rfl tv <| zaf (by kernel_rfl) <| zaw <| fin0 (.inr rfl) (.cons (.tmp rfl (nb rfl)) .nil) (subB ?_)
      ·first | rfl | simp
     ·exact (same_no h60).elim
    ·exact absurd rfl h56
  ·exact (same_no h31).elim
end Go.Proofs.Ytaadloihphpdbaa
