/- What the walks of the package world need. Printed by a small program (walk.py). -/
import Derived.Test.YtaadloihphpdbaaUWLane5
import Derived.Test.YtaadloihphpdbaaUWWorld2
set_option linter.unusedVariables false
set_option linter.unusedSimpArgs false
set_option maxRecDepth 4000
namespace Go.Proofs.Ytaadloihphpdbaa
open Go Go.Vc Go.RowKit
theorem c115r (l : Lane) (hl : BInv l) : VFun G 115 [.agg (zee l)] [] (.agg (zee l)) [] :=
  (c115 l hl).resWk (ren []) (zaw [] rfl rfl ⟨⟨_, rfl, .agg _ _ (.cons (.shr _ _) (.cons (.lit _) (.cons (.lit _) (.cons (.lit _) (.cons (.lit _) (.cons (.shr _ _) (.cons (.lit _) (.cons (.lit _) (.cons (.shr _ _) (.cons (.lit _) (.cons (.lit _) (.cons (.lit _) (.cons (.shr _ _) (.cons (.shr _ _) (.cons (.lit _) (.cons (.frz _ _ _ _ rfl (fzL rfl)) (.cons (.frz _ _ _ _ rfl (fzL rfl)) .nil)))))))))))))))))⟩, tv⟩ tv no_par)
def lineOf (v s : Int) : Int × Int := if v < 0 ∨ s < 1 ∨ 3 < s then (0, 3) else (v % s, 0)
theorem lineN {v s : Int} (h : v < 0 ∨ s < 1 ∨ 3 < s) : lineOf v s = (0, 3) := if_pos h
theorem lineY {v s : Int} (h : ¬ (v < 0 ∨ s < 1 ∨ 3 < s)) : lineOf v s = (v % s, 0) := if_neg h
theorem sl_come {x : Lane} {s : Step} (h2 : ¬ s.kind = 2) (h : s.kind ≠ 6) : zcy x s = zcz x s.kind s.n 0 s.back := by rw [sl_packet h2, pk_m _ _ _ _ _ h]
end Go.Proofs.Ytaadloihphpdbaa
