/- Walk of the law ViewSwap. Printed by a small program (walk.py). -/
import Derived.Test.YtaadloihphpdbaaZWView
set_option linter.unusedVariables false
set_option linter.unusedSimpArgs false
set_option maxRecDepth 4000
namespace Go.Proofs.Ytaadloihphpdbaa
open Go Go.Vc Go.RowKit
theorem swap_next {t : Int} {L mine : List Step} {i : Nat} {s : Step} (h : zcv t L = zcv t (mine.take i)) (hs : mine[i]? = some s) : zcv t (L ++ [s]) = zcv t (mine.take (i + 1)) := by
  rw [only_app, h, List.take_add_one, hs, only_app]; rfl
theorem swap_other {t : Int} {L mine theirs : List Step} {i j : Nat} {s : Step} (h : zcv t L = zcv t (mine.take i)) (ha : theirs.all (fun s => !mineB t s) = true) (hs : theirs[j]? = some s) : zcv t (L ++ [s]) = zcv t (mine.take i) := by
  rw [only_app, h, only_none ha hs, List.append_nil]
theorem mem_snoc {L : List Step} {s : Step} (h : ∀ x ∈ L, inI x.m) (hs : inI s.m) : ∀ x ∈ L ++ [s], inI x.m := by
  intro x hx
  rcases List.mem_append.1 hx with e | e
  · exact h x e
  · rw [List.mem_singleton.1 e]; exact hs
end Go.Proofs.Ytaadloihphpdbaa
