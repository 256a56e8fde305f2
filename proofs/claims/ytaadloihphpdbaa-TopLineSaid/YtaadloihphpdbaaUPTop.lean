/- The laws through all layers: what is closed in them, computed. No program is in sight. -/
import Derived.Test.YtaadloihphpdbaaUPText
import Derived.Test.YtaadloihphpdbaaUPRound
set_option linter.unusedVariables false
set_option linter.unusedSimpArgs false
namespace Go.Proofs.Ytaadloihphpdbaa
open Go Go.Vc Go.RowKit
def putS (q : Int) (m : Msg) : Step := ⟨2, q, 0, 0, false, m⟩
def lAlive : List Step := [putS 0 (0, [97]), putS 1 (1, [98])]
def wAlive : World' := (zco 200 (play 2 lAlive).1).1
theorem alive_end : zfm wAlive = true ∧ wAlive.lanes.length = 2 ∧ (wAlive.lanes.getD 1 zdm).r.told.length = 1 := by decide +kernel
def calmS (s : Step) : Bool := !(decide (s.kind = 2) || decide (s.kind = 6))
def calm (l : List Step) : Bool := l.all calmS && decide (l.length ≤ 100)
end Go.Proofs.Ytaadloihphpdbaa
