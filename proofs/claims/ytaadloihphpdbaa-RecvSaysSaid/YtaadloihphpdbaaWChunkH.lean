/- What the laws of chapter 2 need. Printed by a small program (walk.py). -/
import Derived.Test.YtaadloihphpdbaaWChunk3
set_option linter.unusedVariables false
set_option linter.unusedSimpArgs false
set_option maxRecDepth 4000
namespace Go.Proofs.Ytaadloihphpdbaa
open Go Go.Vc Go.RowKit
def cA : Chunk := ⟨1, 5, 2, 1, [97, 98], []⟩
theorem cA_ok : wrong cA = 0 := by decide
theorem wrong_small {c : Chunk} (h : wrong c = 0) : c.data.length ≤ 6 ∧ c.early.length ≤ 3 ∧ (c.kind = 1 → c.early = []) := by
  obtain ⟨_, ⟨h1, _, _, h2, _, h3⟩ | ⟨h1, _, _, h2, h3, _⟩⟩ := wrong_ok h
  · rw [h2]; exact ⟨h3, by simp, fun _ => rfl⟩
  · rw [h2]; exact ⟨by simp, h3, fun h => by omega⟩
theorem body_small {c : Chunk} (h : wrong c = 0) : (bytes c).length ≤ 15 := by
  have h1 := wrong_small h
  have h2 := head_len c
  unfold bytes; rw [sealed_length, body_is]; simp; omega
theorem same_no {α : Type} [DecidableEq α] {a : α} (h : (a == a) = false) : False := by simp at h
theorem oneWay (c : Chunk) : [AV.lit (.int .i64 1), AV.lit (.int .i64 5), AV.lit (.int .i64 2), AV.lit (.int .i64 1), AV.shr 1 (byteCells [97, 98]), AV.shr 1 (intCells [])] = chunkAV cA := rfl

end Go.Proofs.Ytaadloihphpdbaa
