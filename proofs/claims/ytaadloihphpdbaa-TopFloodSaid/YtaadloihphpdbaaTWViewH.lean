/- What the walks of the package view, and its laws, need. Printed by a small program (walk.py). -/
import Derived.Test.YtaadloihphpdbaaTWLane6H
set_option linter.unusedVariables false
set_option linter.unusedSimpArgs false
set_option maxRecDepth 4000
namespace Go.Proofs.Ytaadloihphpdbaa
open Go Go.Vc Go.RowKit
theorem only_y {t : Int} {l : List Step} {i : Nat} {s : Step} (h : l[i]? = some s) (hm : mineB t s = true) : zdp t (l.take (i + 1)) = zdp t (l.take i) ++ [s] := by
  unfold zdp; rw [List.take_add_one, h, List.filter_append]; simp [hm]
theorem only_n {t : Int} {l : List Step} {i : Nat} {s : Step} (h : l[i]? = some s) (hm : mineB t s = false) : zdp t (l.take (i + 1)) = zdp t (l.take i) := by
  unfold zdp; rw [List.take_add_one, h, List.filter_append]; simp [hm]
theorem only_mem {t : Int} {l : List Step} (hm : ∀ s ∈ l, inI s.m) : ∀ s ∈ zdp t l, inI s.m := fun s hs => hm s (List.mem_filter.1 hs).1
theorem mine_y {t : Int} {s : Step} (h : s.kind = 1 ∨ s.tenant = t) : mineB t s = true := by unfold mineB; simpa using h
theorem mine_n {t : Int} {s : Step} (h : ¬ s.kind = 1) (h2 : ¬ s.tenant = t) : mineB t s = false := by unfold mineB; simp [h, h2]
end Go.Proofs.Ytaadloihphpdbaa
