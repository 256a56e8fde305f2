/- What the laws of chapter 5 need. Printed by a small program (walk.py). -/
import Derived.Test.YtaadloihphpdbaaWSend3
import Derived.Test.YtaadloihphpdbaaPSend
import Derived.Test.YtaadloihphpdbaaWChunkH
set_option linter.unusedVariables false
set_option linter.unusedSimpArgs false
set_option maxRecDepth 4000
namespace Go.Proofs.Ytaadloihphpdbaa
open Go Go.Vc Go.RowKit
theorem SInv.ok {s : Sender} (h : SInv s) : SOk s := by
  have h1 := h.q; have h2 := h.f; have h3 := h.t; have h4 := h.n; have h5 := h.nq; have h6 := h.p
  refine ⟨by omega, by omega, fun c hc => ?_, fun m hm => ?_, by omega, by omega, by omega⟩
  · have := wrong_small (h.c c hc).1
    omega
  · have := (rightMsg (h.m m hm)).1
    omega
theorem msgCells_get' {l : List Msg} {i : Nat} {x : Msg} (h : l[i]? = some x) : (msgCells l)[i]? = some (msgAV x) := by simp [msgCells, h]
theorem c95' (s : Sender) (hs : SInv s) : VFun G 95 [.agg (senderAV s)] [] (.tup [.agg (senderAV (say s).1), .agg (chunkAV (say s).2.1), .lit (.bool (say s).2.2)]) [] := by
  obtain ⟨q, n, ⟨a, b, c⟩, f, t⟩ := s; exact c95 q n a b c f t hs.ok
theorem c96' (s : Sender) (hs : SInv s) : VFun G 96 [.agg (senderAV s)] [] (.tup [.agg (senderAV (say s).1), .agg (chunkAV (say s).2.1), .lit (.bool (say s).2.2)]) [] := by
  obtain ⟨q, n, ⟨a, b, c⟩, f, t⟩ := s; exact c96 q n a b c f t hs.ok
theorem c92' (s : Sender) (m : Msg) (h : SInv s) : VFun G 92 [.agg (senderAV s), .agg (msgAV m)] [] (.tup [.agg (senderAV (put s m).1), .lit (.int .i64 (put s m).2)]) [] := c92 s m h.ok.q h.ok.n
theorem buildS_succ {ms : List Msg} {xs : List Int} {i : Nat} {m : Msg} (hm : ms[i]? = some m) : buildS ms xs (i + 1) = bstep (buildS ms xs i) m xs[i]? := by
  show bstep _ (ms.getD i (0, [])) _ = _
  rw [List.getD, hm]; rfl
theorem bs_none {ms : List Msg} {xs : List Int} {i : Nat} {m : Msg} (hm : ms[i]? = some m) (hx : xs[i]? = none) : (put (buildS ms xs i) m).1 = buildS ms xs (i + 1) := by rw [buildS_succ hm, hx]; rfl
theorem bs_neg {ms : List Msg} {xs : List Int} {i : Nat} {m : Msg} {x : Int} (hm : ms[i]? = some m) (hx : xs[i]? = some x) (h : x < 0) : (put (buildS ms xs i) m).1 = buildS ms xs (i + 1) := by
  rw [buildS_succ hm, hx]; show _ = bpick _ _; unfold bpick; rw [if_pos h]
theorem bs_say {ms : List Msg} {xs : List Int} {i j : Nat} {m : Msg} {x : Int} (hm : ms[i]? = some m) (hx : xs[i]? = some x) (h : ¬ x < 0) (h2 : x < 50) (hj : j = (x % 5).toNat) : sayN j (put (buildS ms xs i) m).1 = buildS ms xs (i + 1) := by
  rw [buildS_succ hm, hx, hj]; show _ = bpick _ _; unfold bpick; rw [if_neg h, if_pos h2]
theorem bs_hear {ms : List Msg} {xs : List Int} {i : Nat} {m : Msg} {x : Int} (hm : ms[i]? = some m) (hx : xs[i]? = some x) (h : ¬ x < 0) (h2 : ¬ x < 50) (h3 : x < 90) : hear (put (buildS ms xs i) m).1 ⟨2, x - 50, 0, 0, [], []⟩ = buildS ms xs (i + 1) := by
  rw [buildS_succ hm, hx]; show _ = bpick _ _; unfold bpick; rw [if_neg h, if_neg h2, if_pos h3]
theorem bs_else {ms : List Msg} {xs : List Int} {i : Nat} {m : Msg} {x : Int} (hm : ms[i]? = some m) (hx : xs[i]? = some x) (h : ¬ x < 0) (h2 : ¬ x < 50) (h3 : ¬ x < 90) : (put (buildS ms xs i) m).1 = buildS ms xs (i + 1) := by
  rw [buildS_succ hm, hx]; show _ = bpick _ _; unfold bpick; rw [if_neg h, if_neg h2, if_neg h3]
theorem any_take {p : Chunk → Bool} {l : List Chunk} {j : Nat} {x : Chunk} (h : l[j]? = some x) : (l.take (j + 1)).any p = ((l.take j).any p || p x) := by
  rw [List.take_add_one, h, List.any_append]; simp
theorem hear_len (s : Sender) (c : Chunk) : (hear s c).flight.length ≤ s.flight.length := by
  unfold hear
  split
  · exact Nat.le_refl _
  · exact List.length_filter_le _ _
theorem new_of {s : Sender} (hs : SInv s) (ho : (say s).2.2 = true) (hn : (say s).2.1.num = s.next) : ∃ m q, s.queue = m :: q ∧ wrongMsg m = 0 ∧ say s = sayNew s m q := by
  rcases said_how hs ho with h | ⟨_, h, _⟩
  · exact h
  · omega
theorem old_of {s : Sender} (hs : SInv s) (ho : (say s).2.2 = true) (hn : (say s).2.1.num ≠ s.next) : (say s).2.1 ∈ s.flight ∧ (say s).1.next = s.next ∧ (say s).1.flight = s.flight := by
  rcases said_how hs ho with ⟨m, q, _, _, e⟩ | ⟨h1, _, h2, h3, _⟩
  · rw [e] at hn; exact absurd rfl hn
  · exact ⟨h1, h2, h3⟩
theorem any_mem {x : Chunk} {l : List Chunk} (h : x ∈ l) : l.any (fun y => y == x) = true := List.any_eq_true.2 ⟨x, h, by simp⟩

end Go.Proofs.Ytaadloihphpdbaa
