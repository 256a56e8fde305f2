/- What an answer tells came. No program is in sight. -/
import Derived.Test.YtaadloihphpdbaaPRound
set_option linter.unusedVariables false
set_option linter.unusedSimpArgs false
namespace Go.Proofs.Ytaadloihphpdbaa
open Go Go.Vc Go.RowKit
theorem says_got {r : Receiver} {c : Chunk} {came : List Int} (hr : RInv r) (hc : wrong c = 0) (h : ∀ x : Int, 0 ≤ x → got r x → x ∈ came) : ∀ x : Int, 0 ≤ x → got (rhear r c) x → x ∈ came ++ [c.num] := by
  intro x h0 hx
  rcases (got_hear hr hc).2 hx with h1 | ⟨h1, _⟩
  · exact List.mem_append_left _ (h x h0 h1)
  · rw [h1]; simp
theorem room_got {r : Receiver} {c : Chunk} (hr : RInv r) (hc : wrong c = 0) (hk : c.kind = 1) (hroom : c.num = r.next ∨ r.early.length ≤ 2) : got (rhear r c) c.num := by
  by_cases hn : refuses r c.num
  · refine (got_hear hr hc).1 ?_
    rcases hn with h | h | ⟨h, h2⟩
    · exact .inl h
    · exact .inr h
    · rcases hroom with e | e <;> omega
  · have e : rhear r c = takes r c := by unfold rhear; rw [if_neg (by omega), if_neg hn]
    rw [e]
    exact (got_takes hr hc hk hn c.num).2 (.inr rfl)
/-- What is told of: the first numbers, and those that came too soon. -/
def toldL (r : Receiver) : List Int := (List.range r.next.toNat).map (fun i : Nat => (i : Int)) ++ r.early
theorem toldL_got {r : Receiver} (hr : RInv r) {m : Int} : m ∈ toldL r ↔ (0 ≤ m ∧ got r m) := by
  unfold toldL got
  have hn := hr.n
  constructor
  · intro h
    rcases List.mem_append.1 h with h | h
    · obtain ⟨i, hi, rfl⟩ := List.mem_map.1 h
      have := List.mem_range.1 hi
      exact ⟨by omega, .inl (by omega)⟩
    · have := hr.e m h
      exact ⟨by omega, .inr h⟩
  · rintro ⟨h0, h | h⟩
    · exact List.mem_append_left _ (List.mem_map.2 ⟨m.toNat, List.mem_range.2 (by omega), by omega⟩)
    · exact List.mem_append_right _ h
end Go.Proofs.Ytaadloihphpdbaa
