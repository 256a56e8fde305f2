/- What the laws of chapter 2 need. Printed by a small program (walk.py). -/
import Derived.Test.YtaadloihphpdbaaUWChunk3
set_option linter.unusedVariables false
set_option linter.unusedSimpArgs false
set_option maxRecDepth 4000
namespace Go.Proofs.Ytaadloihphpdbaa
open Go Go.Vc Go.RowKit
theorem wrong_small {c : Chunk} (h : zdc c = 0) : c.data.length ≤ 6 ∧ c.early.length ≤ 3 ∧ (c.kind = 1 → c.early = []) := by
  obtain ⟨_, ⟨h1, _, _, h2, _, h3⟩ | ⟨h1, _, _, h2, h3, _⟩⟩ := wrong_ok h
  · rw [h2]; exact ⟨h3, by simp, fun _ => rfl⟩
  · rw [h2]; exact ⟨by simp, h3, fun h => by omega⟩
end Go.Proofs.Ytaadloihphpdbaa
