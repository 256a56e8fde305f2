/- Walk of a law. Printed by a small program (walk.py). -/
import Derived.Test.YtaadloihphpdbaaZWWorld4
set_option linter.unusedVariables false
set_option linter.unusedSimpArgs false
set_option maxRecDepth 4000
namespace Go.Proofs.Ytaadloihphpdbaa
open Go Go.Vc Go.RowKit
theorem c35 (n : Int) (l : List Step) (a b : Step) (hm : ∀ s ∈ l, inI s.m) (ha : inI a.m) (hb : inI b.m) : VFun G 35 [.lit (.int .i64 n), .shr 7 (stepCells l), .agg (stepAV a), .agg (stepAV b)] [] (.lit (.bool true)) [] := by
 refine VFun.intro (fn := Try.f35) rfl rfl (by kernel_rfl) (nb rfl) fun Γ hpar => ?_
 refine zad <| zaa <| zdh 100 rfl rfl rfl (zar hpar rfl) rfl rfl tv <| zdh 101 rfl rfl rfl (zar hpar rfl) rfl rfl tv <| zae rfl rfl tv <| zaf tv <| zad <| zad <| zaa <| zbi rfl (c131) .nil rfl tv <| zdq rfl rfl tv <| zaf tv <| zap rfl <| zax <| zad <| zad <| zaa <| zac rfl rfl tv <| zcg rfl rfl rfl tv (fun h20 => ?_) (fun h20 => ?_)
 ·refine zac rfl rfl tv <| zag rfl rfl rfl rfl rfl <| zag rfl rfl rfl rfl rfl <| zav rfl rfl rfl tv <| zac rfl rfl tv <| zag rfl rfl rfl rfl rfl <| zag rfl rfl rfl rfl rfl <| zag rfl rfl rfl rfl rfl <| zag rfl rfl rfl rfl rfl <| zag rfl rfl rfl rfl rfl <| zav rfl rfl rfl tv <| zac rfl rfl tv <| zag rfl rfl rfl rfl rfl <| zag rfl rfl rfl rfl rfl <| zag rfl rfl rfl rfl rfl <| zav rfl rfl rfl tv <| zac rfl rfl tv <| zag rfl rfl rfl rfl rfl <| zag rfl rfl rfl rfl rfl <| zag rfl rfl rfl rfl rfl <| zav rfl rfl rfl tv <| zaf tv <| zao rfl <| zad <| zaa <| zae rfl rfl tv <| zaf tv <| zaw <| fin0 (.inr rfl) (.cons (.tmp rfl (nb rfl)) .nil) (subB ?_)
  ·first | rfl | (rw [q3]; simp)
 ·refine zac rfl rfl tv <| zac rfl rfl (gk rfl) <| zdr rfl rfl rfl (gk rfl) (fun h23 => ?_) (fun h23 => ?_)
  ·refine zat rfl rfl rfl tv <| zac rfl rfl tv <| zag rfl rfl rfl rfl rfl <| zag rfl rfl rfl rfl rfl <| zag rfl rfl rfl rfl rfl <| zag rfl rfl rfl rfl rfl <| zag rfl rfl rfl rfl rfl <| zav rfl rfl rfl tv <| zac rfl rfl tv <| zag rfl rfl rfl rfl rfl <| zag rfl rfl rfl rfl rfl <| zag rfl rfl rfl rfl rfl <| zav rfl rfl rfl tv <| zac rfl rfl tv <| zag rfl rfl rfl rfl rfl <| zag rfl rfl rfl rfl rfl <| zag rfl rfl rfl rfl rfl <| zav rfl rfl rfl tv <| zaf tv <| zao rfl <| zad <| zaa <| zae rfl rfl tv <| zaf tv <| zaw <| fin0 (.inr rfl) (.cons (.tmp rfl (nb rfl)) .nil) (subB ?_)
   ·first | rfl | (rw [q3]; simp)
  ·refine zat rfl rfl rfl tv <| zac rfl rfl tv <| zab rfl rfl rfl rfl rfl rfl (gk rfl) <| zah rfl rfl rfl rfl rfl rfl (gk rfl) <| zab rfl rfl rfl rfl rfl rfl (gk rfl) <| zah rfl rfl rfl rfl rfl rfl (gk rfl) <| zci rfl rfl rfl (gk rfl) (fun h30 => ?_) (fun h30 => ?_)
   ·refine zat rfl rfl rfl tv <| zac rfl rfl tv <| zag rfl rfl rfl rfl rfl <| zag rfl rfl rfl rfl rfl <| zag rfl rfl rfl rfl rfl <| zav rfl rfl rfl tv <| zac rfl rfl tv <| zag rfl rfl rfl rfl rfl <| zag rfl rfl rfl rfl rfl <| zag rfl rfl rfl rfl rfl <| zav rfl rfl rfl tv <| zaf tv <| zao rfl <| zad <| zaa <| zae rfl rfl tv <| zaf tv <| zaw <| fin0 (.inr rfl) (.cons (.tmp rfl (nb rfl)) .nil) (subB ?_)
    ·first | rfl | (rw [q3]; simp)
   ·refine zat rfl rfl rfl tv <| zac rfl rfl tv <| zab rfl rfl rfl rfl rfl rfl (gk rfl) <| zah rfl rfl rfl rfl rfl rfl (gk rfl) <| zci rfl rfl rfl (gk rfl) (fun h35 => ?_) (fun h35 => ?_)
    ·refine zat rfl rfl rfl tv <| zac rfl rfl tv <| zag rfl rfl rfl rfl rfl <| zag rfl rfl rfl rfl rfl <| zag rfl rfl rfl rfl rfl <| zav rfl rfl rfl tv <| zaf tv <| zao rfl <| zad <| zaa <| zae rfl rfl tv <| zaf tv <| zaw <| fin0 (.inr rfl) (.cons (.tmp rfl (nb rfl)) .nil) (subB ?_)
     ·first | rfl | (rw [q3]; simp)
    ·refine zat rfl rfl rfl tv <| zac rfl rfl tv <| zab rfl rfl rfl rfl rfl rfl (gk rfl) <| zah rfl rfl rfl rfl rfl rfl (gk rfl) <| zci rfl rfl rfl (gk rfl) (fun h40 => ?_) (fun h40 => ?_)
     ·refine zat rfl rfl rfl tv <| zaf tv <| zao rfl <| zad <| zaa <| zae rfl rfl tv <| zaf tv <| zaw <| fin0 (.inr rfl) (.cons (.tmp rfl (nb rfl)) .nil) (subB ?_)
      ·first | rfl | (rw [q3]; simp)
     ·refine zat rfl rfl rfl tv <| zaf tv <| zap rfl <| zax <| zad <| zaa <| zac rfl rfl tv <| zac rfl rfl tv <| zbi rfl (c43 n l (by omega) hm) (.cons ((.lit _)) (.cons ((.shr _ _)) .nil)) rfl tv <| zac rfl rfl tv <| zas rfl rfl rfl tv <| zas rfl rfl rfl tv <| zbd 102 rfl rfl (zar hpar rfl) rfl rfl tv <| zaj rfl rfl rfl rfl rfl rfl rfl rfl tv <| zae rfl rfl tv <| zaf tv <| zad ?_
      have hwk := zeb (n := n) (by omega) (by omega) l
      have htk := (zet (n := n) (by omega) (by omega) l).2
      have hln := zdw (n := n) (by omega) (by omega) l
      obtain ⟨q1, q2, q3⟩ := world_apart (w := (play n l).1) (a := a) (b := b) (by omega) (by omega) (by omega)
      have hta := doStep_ticks (play n l).1 a; have htb := doStep_ticks (play n l).1 b
      refine zaa <| zam rfl rfl rfl rfl rfl rfl tv <| zam rfl rfl rfl rfl rfl rfl tv <| zbi rfl (c128 (play n l).1 a hwk (by omega) ha) (.cons ((subP rfl)) (.cons ((subP rfl)) .nil)) rfl tv <| zac rfl rfl tv <| zas rfl rfl rfl tv <| zas rfl rfl rfl tv <| zbd 103 rfl rfl (zar hpar rfl) rfl rfl tv <| zaj rfl rfl rfl rfl rfl rfl rfl rfl tv <| zae rfl rfl tv <| zaf tv <| zad <| zaa <| zam rfl rfl rfl rfl rfl rfl tv <| zam rfl rfl rfl rfl rfl rfl tv <| zbi rfl (c128 (zch (play n l).1 a).1 b (wok_do hwk a) (by rw [hta]; split <;> omega) hb) (.cons ((subP rfl)) (.cons ((subP rfl)) .nil)) rfl tv <| zac rfl rfl tv <| zas rfl rfl rfl tv <| zas rfl rfl rfl tv <| zaj rfl rfl rfl rfl rfl rfl rfl rfl tv <| zae rfl rfl tv <| zaf tv <| zad <| zaa <| zam rfl rfl rfl rfl rfl rfl tv <| zam rfl rfl rfl rfl rfl rfl tv <| zbi rfl (c128 (play n l).1 b hwk (by omega) hb) (.cons ((subP rfl)) (.cons ((subP rfl)) .nil)) rfl tv <| zac rfl rfl tv <| zas rfl rfl rfl tv <| zas rfl rfl rfl tv ?_
      refine zbd 104 rfl rfl (zar hpar rfl) rfl rfl tv <| zaj rfl rfl rfl rfl rfl rfl rfl rfl tv <| zae rfl rfl tv <| zaf tv <| zad <| zaa <| zam rfl rfl rfl rfl rfl rfl tv <| zam rfl rfl rfl rfl rfl rfl tv <| zbi rfl (c128 (zch (play n l).1 b).1 a (wok_do hwk b) (by rw [htb]; split <;> omega) ha) (.cons ((subP rfl)) (.cons ((subP rfl)) .nil)) rfl tv <| zac rfl rfl tv <| zas rfl rfl rfl tv <| zas rfl rfl rfl tv <| zaj rfl rfl rfl rfl rfl rfl rfl rfl tv <| zae rfl rfl tv <| zaf tv <| zad <| zaa <| zac rfl rfl tv <| zac rfl rfl tv <| zci rfl rfl rfl tv (fun h74 => ?_) (fun h74 => ?_)
      ·refine zac rfl rfl tv <| zac rfl rfl (gk rfl) <| zac rfl rfl (gk rfl) <| zci rfl rfl rfl (gk rfl) (fun h78 => ?_) (fun h78 => ?_)
       ·refine zav rfl rfl rfl tv <| zac rfl rfl tv <| zam rfl rfl rfl rfl rfl rfl (gk rfl) <| zam rfl rfl rfl rfl rfl rfl (gk rfl) <| zbi rfl (c127 (zch (zch (play n l).1 a).1 b).1 (zch (zch (play n l).1 b).1 a).1 (wok_do (wok_do hwk a) b).len.2) (.cons ((subP rfl)) (.cons ((subP rfl)) .nil)) rfl (gk rfl) <| zav rfl rfl rfl tv <| zae rfl rfl tv <| zaf tv <| zaw <| fin0 (.inr rfl) (.cons (.tmp rfl (nb rfl)) .nil) (subB ?_)
        ·first | rfl | (rw [q3]; simp)
       ·exact absurd q2 h78
      ·exact absurd q1 h74
end Go.Proofs.Ytaadloihphpdbaa
