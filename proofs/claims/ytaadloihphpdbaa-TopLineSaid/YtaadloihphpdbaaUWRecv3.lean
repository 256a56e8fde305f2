/- Walk of what the document's answer does when a receiver hears: with a map. Printed by a small program (walk.py). -/
import Derived.Test.YtaadloihphpdbaaUWRecv2
set_option linter.unusedVariables false
set_option linter.unusedSimpArgs false
set_option maxRecDepth 4000
namespace Go.Proofs.Ytaadloihphpdbaa
open Go Go.Vc Go.RowKit
end Go.Proofs.Ytaadloihphpdbaa
