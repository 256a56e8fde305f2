/- What the laws of chapter 11 need. Printed by a small program (walk.py). -/
import Derived.Test.YtaadloihphpdbaaZWWorld2
import Derived.Test.YtaadloihphpdbaaZWChunkH
set_option linter.unusedVariables false
set_option linter.unusedSimpArgs false
set_option maxRecDepth 4000
namespace Go.Proofs.Ytaadloihphpdbaa
open Go Go.Vc Go.RowKit
theorem idle_sum {x : Lane} : idleB x = ((x.s.queue.length : Int) + x.s.flight.length == 0) := by
  unfold idleB; rw [← nil_len, ← nil_len, Bool.eq_iff_iff]
  simp only [Bool.and_eq_true, decide_eq_true_eq, beq_iff_eq]; omega
theorem spoilN_zero {l : List Step} (h : l.all (fun s => decide (s.kind ≠ 6)) = true) : zfk l = 0 := by
  unfold zfk
  rw [List.countP_eq_zero]
  intro s hs
  have := List.all_eq_true.1 h s hs
  simpa using this
theorem play_lane_b {n : Int} {l : List Step} (hn : 1 ≤ n ∧ n ≤ 3) {i : Nat} {x : Lane} (hx : (play n l).1.lanes[i]? = some x) : BInv x := (zeb hn.1 hn.2 l).b x (List.mem_of_getElem? hx)
theorem play_lane_i {n : Int} {l : List Step} (hn : 1 ≤ n ∧ n ≤ 3) {i : Nat} {x : Lane} (hx : (play n l).1.lanes[i]? = some x) (hs : zfk l = 0) : LInv false (zdm i l (play n l).2) x := by
  have hi := (List.getElem?_eq_some_iff.1 hx).1
  rw [zdw hn.1 hn.2] at hi
  have := play_linv hn.1 hn.2 l hi (by omega)
  rw [hs] at this
  simpa [List.getD, hx] using this
def laneL : Lane := ⟨⟨[], 2, places0, [zft], 0⟩, receiver0, [], []⟩
theorem seen_chunk : F2 See (zcm zft) [.lit (.int .i64 0), .lit (.int .i64 0), .lit (.int .i64 0), .lit (.int .i64 0), .lit (.slice none 0 0), .lit (.slice none 0 0)] := .cons (.same _) (.cons (.same _) (.cons (.same _) (.cons (.same _) (.cons (.nil _) (.cons (.nil _) .nil)))))
end Go.Proofs.Ytaadloihphpdbaa
