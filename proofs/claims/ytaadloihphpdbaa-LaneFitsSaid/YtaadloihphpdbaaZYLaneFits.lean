/- Walk of a law. Printed by a small program (walk.py). -/
import Derived.Test.YtaadloihphpdbaaZWLane6
set_option linter.unusedVariables false
set_option linter.unusedSimpArgs false
set_option maxRecDepth 4000
namespace Go.Proofs.Ytaadloihphpdbaa
open Go Go.Vc Go.RowKit
theorem c33 (n : Int) (l : List Step) (k : Int) (b : Bool) (hm : ∀ s ∈ l, inI s.m) : VFun G 33 [.lit (.int .i64 n), .shr 7 (stepCells l), .lit (.int .i64 k), .lit (.bool b)] [] (.lit (.bool true)) [] := by
 refine VFun.intro (fn := Try.f33) rfl rfl (by kernel_rfl) (nb rfl) fun Γ hpar => ?_
 refine zad <| zaa <| zae rfl rfl tv <| zaf tv <| zad <| zad <| zaa <| zbi rfl (c123) .nil rfl tv <| zdq rfl rfl tv <| zaf tv <| zap rfl <| zax <| zad <| zaa <| zac rfl rfl tv <| zac rfl rfl tv <| zbi rfl (c114 n l hm) (.cons ((.lit _)) (.cons ((.shr _ _)) .nil)) rfl tv <| zac rfl rfl tv <| zas rfl rfl rfl tv <| zas rfl rfl rfl tv <| zbd 100 rfl rfl (zar hpar rfl) rfl rfl tv <| zaj rfl rfl rfl rfl rfl rfl rfl rfl tv <| zae rfl rfl tv <| zaf tv <| zad <| zad <| zaa <| s_move rfl rfl tv (fun h23 => ?_) (fun h23 => ?_)
 ·refine zdq rfl rfl tv <| zaf tv <| zap rfl <| zax <| zad ?_
  have hn13 : ¬ (n < 1 ∨ 3 < n) := by have := h23; simp at this; omega
  refine zaa <| zac rfl rfl tv <| zac rfl rfl tv <| zbi rfl (c43 n l (by omega) hm) (.cons ((.lit _)) (.cons ((.shr _ _)) .nil)) rfl tv <| zac rfl rfl tv <| zas rfl rfl rfl tv <| zas rfl rfl rfl tv <| zbd 101 rfl rfl (zar hpar rfl) rfl rfl tv <| zaj rfl rfl rfl rfl rfl rfl rfl rfl tv <| zae rfl rfl tv <| zaf tv <| zad <| zaa <| zam rfl rfl rfl rfl rfl rfl tv <| zac rfl rfl tv <| zac rfl rfl tv <| zbi rfl (c118 (zee n l) k b (zfe n l)) (.cons ((subP rfl)) (.cons ((.lit _)) (.cons ((.lit _)) .nil))) rfl tv <| zac rfl rfl tv <| zas rfl rfl rfl tv <| zas rfl rfl rfl tv <| zbd 102 rfl rfl (zar hpar rfl) rfl rfl tv <| zaj rfl rfl rfl rfl rfl rfl rfl rfl tv <| zae rfl rfl tv <| zaf tv <| zad ?_
  have hes := plays_es (l.take 160) (zco n)
  have hlt := List.length_take_le 160 l
  have hpe : (play n l).2.length ≤ 160 := by unfold play; omega
  have hpl := putsOf_len2 (t := 0) l (play n l).2
  have hbb := zdy (zfe n l) 3 k 0 b
  have hhl := hold_len hbb.r
  refine zbo <| zab rfl rfl rfl rfl rfl rfl tv <| zab rfl rfl rfl rfl rfl rfl tv <| zah rfl rfl rfl rfl rfl rfl tv <| zac rfl rfl tv <| zac rfl rfl tv <| zbi rfl (c74 l (play n l).2 0 (by omega)) (.cons ((.shr _ _)) (.cons ((.shr _ _)) (.cons ((.lit _)) .nil))) rfl tv <| zdo [] rfl (c67 (zcp (zee n l) 3 k 0 b).1.r.told (zdm 0 l (play n l).2) (by omega) (by omega)) (.cons ((.shr _ _)) (.cons ((.shr _ _)) .nil)) (fun k o h => by simp [Go.Vc.look] at h) rfl tv (fun h44 => ?_) (fun h44 => ?_)
  ·refine zac rfl rfl tv <| zag rfl rfl rfl rfl rfl <| zag rfl rfl rfl rfl rfl <| zav rfl rfl rfl tv <| zae rfl rfl tv <| zaf (by kernel_rfl) <| zaw <| fin0 (.inr rfl) (.cons (.tmp rfl (nb rfl)) .nil) (subB ?_)
   ·rfl
  ·refine zac rfl rfl tv <| zac rfl rfl (gk rfl) <| zbi rfl (c124 l) (.cons ((.shr _ _)) .nil) rfl (gk rfl) <| zat rfl rfl rfl tv <| zae rfl rfl tv <| zaf (by kernel_rfl) <| zaw <| fin0 (.inr rfl) (.cons (.tmp rfl (nb rfl)) .nil) (subB ?_)
   ·by_cases hs : zfk l ≤ 1
    · have := come_fits (laneOf_i hn13 hs) k b
      rw [this] at h44; cases h44
    · rw [decide_eq_true (by omega)]
 ·refine zdq rfl rfl tv <| zaf tv <| zao rfl <| zad <| zaa <| zae rfl rfl tv <| zaf tv <| zaw <| fin0 (.inr rfl) (.cons (.tmp rfl (nb rfl)) .nil) (subB ?_)
  ·rfl
end Go.Proofs.Ytaadloihphpdbaa
