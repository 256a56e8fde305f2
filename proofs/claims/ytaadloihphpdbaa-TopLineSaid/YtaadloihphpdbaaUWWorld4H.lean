/- What the laws of chapter 9 need. Printed by a small program (walk.py). -/
import Derived.Test.YtaadloihphpdbaaUWWorld3
import Derived.Test.YtaadloihphpdbaaUWChunkH
set_option linter.unusedVariables false
set_option linter.unusedSimpArgs false
set_option maxRecDepth 4000
namespace Go.Proofs.Ytaadloihphpdbaa
open Go Go.Vc Go.RowKit
theorem newErr_ok {n : Int} (h : newErr n = 0) : 1 ≤ n ∧ n ≤ 3 := by
  unfold newErr at h
  split at h
  · cases h
  · omega
end Go.Proofs.Ytaadloihphpdbaa
