/- Walks. Printed by a small program (walk.py). -/
import Derived.Test.YtaadloihphpdbaaZWFair3H
set_option linter.unusedVariables false
set_option linter.unusedSimpArgs false
set_option maxRecDepth 4000
namespace Go.Proofs.Ytaadloihphpdbaa
open Go Go.Vc Go.RowKit
theorem c133  : VFun G 133 [] [] (.lit (.bool true)) [] := by
 refine VFun.intro (fn := Try.f133) rfl rfl (by kernel_rfl) (nb rfl) fun Γ hpar => ?_
 refine zad <| zaa <| zae rfl rfl tv <| zaf tv <| zad <| zaa <| zba 100 rfl rfl rfl rfl rfl rfl rfl rfl rfl rfl (zar hpar rfl) rfl rfl tv <| u_mark rfl rfl (zar hpar rfl) rfl rfl rfl tv <| zcz rfl rfl rfl (.same _ (.same _ .nil)) rfl rfl tv <| zcz rfl rfl rfl (.same _ (.same _ (.same _ (.same _ (.same _ (.same _ (.same _ .nil))))))) rfl rfl tv <| zba 101 rfl rfl rfl rfl rfl rfl rfl rfl rfl rfl (zar hpar rfl) rfl rfl tv <| zck [] [101] [101] rfl rfl (c87A) (zbp (k0 := 101) rfl zcl) tv (.cons ((.lit _)) (.cons (.frz _ _ _ _ rfl (by decide)) .nil)) rfl rfl (zcy hpar rfl) rfl tv <| zac rfl rfl tv <| zas rfl rfl rfl tv <| zas rfl rfl rfl tv <| zas rfl rfl rfl tv <| zbd 102 rfl rfl (zar hpar rfl) rfl rfl tv <| zaj rfl rfl rfl rfl rfl rfl rfl rfl tv <| zae rfl rfl tv <| zae rfl rfl tv <| zaf tv <| zad <| zaa <| zam rfl rfl rfl rfl rfl rfl tv <| zbi rfl (c88 (play 2 [sA]).1 (zeb (n := 2) (by decide) (by decide) [sA]) (by decide +kernel)) (.cons ((subP rfl)) .nil) rfl tv <| zac rfl rfl tv <| zas rfl rfl rfl tv <| zas rfl rfl rfl tv <| zbd 103 rfl rfl (zar hpar rfl) rfl rfl tv <| zaj rfl rfl rfl rfl rfl rfl rfl rfl tv ?_
 refine zae rfl rfl tv <| zaf tv <| zad <| zaa <| zac rfl rfl tv <| zci rfl rfl rfl tv (fun h22 => ?_) (fun h22 => ?_)
 ·refine zac rfl rfl tv <| zac rfl rfl (gk rfl) <| zby rfl rfl rfl (gk rfl) <| zci rfl rfl rfl (gk rfl) (fun h26 => ?_) (fun h26 => ?_)
  ·refine zav rfl rfl rfl tv <| zac rfl rfl tv <| zac rfl rfl (gk rfl) <| zdr rfl rfl rfl (gk rfl) (fun h30 => ?_) (fun h30 => ?_)
   ·refine zav rfl rfl rfl tv <| zac rfl rfl tv <| zab rfl rfl rfl rfl rfl rfl (gk rfl) <| zah rfl rfl rfl rfl rfl rfl (gk rfl) <| zbh rfl rfl rfl rfl rfl (i := 1) rfl (zbr (x := (zcr 200 (play 2 [sA]).1).1.lanes.getD 1 zdl) (by decide +kernel)) rfl (gk rfl) <| zce rfl rfl rfl rfl rfl rfl (gk rfl) <| zce rfl rfl rfl rfl rfl rfl (gk rfl) <| zbv rfl rfl rfl rfl rfl (gk rfl) <| zby rfl rfl rfl (gk rfl) <| zci rfl rfl rfl (gk rfl) (fun h40 => ?_) (fun h40 => ?_)
    ·refine zav rfl rfl rfl tv <| zac rfl rfl tv <| zab rfl rfl rfl rfl rfl rfl (gk rfl) <| zah rfl rfl rfl rfl rfl rfl (gk rfl) <| zbh rfl rfl rfl rfl rfl (i := 1) rfl (zbr (x := (zcr 200 (play 2 [sA]).1).1.lanes.getD 1 zdl) (by decide +kernel)) rfl (gk rfl) <| zce rfl rfl rfl rfl rfl rfl (gk rfl) <| zce rfl rfl rfl rfl rfl rfl (gk rfl) <| zbv rfl rfl rfl rfl rfl (gk rfl) <| zby rfl rfl rfl (gk rfl) <| zci rfl rfl rfl (gk rfl) (fun h50 => ?_) (fun h50 => ?_)
     ·refine zav rfl rfl rfl tv <| zac rfl rfl tv <| zam rfl rfl rfl rfl rfl rfl (gk rfl) <| zbi rfl (c99 (play 2 [sA]).1 (zeb (n := 2) (by decide) (by decide) [sA]) (by decide +kernel)) (.cons ((subP rfl)) .nil) rfl (gk rfl) <| u_field1 rfl rfl rfl rfl rfl rfl rfl (gk rfl) <| u_eql rfl rfl rfl (gk rfl) <| zav rfl rfl rfl tv <| zae rfl rfl tv <| zaf tv <| zaw <| fin0 (.inr rfl) (.cons (.tmp rfl (nb rfl)) .nil) (subB ?_)
      ·decide +kernel
     ·exact absurd (by decide +kernel) h50
    ·exact absurd (by decide +kernel) h40
   ·exact absurd h30 (by decide +kernel)
  ·exact absurd (by decide +kernel) h26
 ·exact absurd (by decide +kernel) h22
end Go.Proofs.Ytaadloihphpdbaa
