/- What the laws of chapter 11 need. Printed by a small program (walk.py). -/
import Derived.Test.YtaadloihphpdbaaUWWorld2
import Derived.Test.YtaadloihphpdbaaUWChunkH
set_option linter.unusedVariables false
set_option linter.unusedSimpArgs false
set_option maxRecDepth 4000
namespace Go.Proofs.Ytaadloihphpdbaa
open Go Go.Vc Go.RowKit
end Go.Proofs.Ytaadloihphpdbaa
