/- What the laws of chapter 12 need. Printed by a small program (walk.py). -/
import Derived.Test.YtaadloihphpdbaaUWFair2
import Derived.Test.YtaadloihphpdbaaUWViewH
set_option linter.unusedVariables false
set_option linter.unusedSimpArgs false
set_option maxRecDepth 4000
namespace Go.Proofs.Ytaadloihphpdbaa
open Go Go.Vc Go.RowKit
theorem c87c {n : Int} {l : List Step} (hm : ∀ s ∈ l, inI s.m) (h : newErr n = 0) (h2 : l.length ≤ 160) : VFun G 87 [.lit (.int .i64 n), .shr 7 (stepCells l)] [] (.tup [.agg (zdw (play n l).1), .shr 1 (zay (play n l).2), .lit (.int .i64 0)]) [] := by
  have := c87 n l hm; rw [fplay3 (l := l) (show ¬ newErr n ≠ 0 by omega) (by omega)] at this; exact this
theorem play_all_i {n : Int} {l : List Step} (hn : 1 ≤ n ∧ n ≤ 3) (hs : spoilN l = 0) : ∀ t, t < (play n l).1.lanes.length → LInv false (putsOf t l (play n l).2) ((play n l).1.lanes.getD t zdm) := by
  intro t ht
  rw [play_len hn.1 hn.2] at ht
  have := play_linv hn.1 hn.2 l ht (by omega)
  rw [hs] at this; exact this
end Go.Proofs.Ytaadloihphpdbaa
