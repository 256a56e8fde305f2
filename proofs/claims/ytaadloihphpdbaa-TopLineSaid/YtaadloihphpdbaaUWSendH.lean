/- What the laws of chapter 5 need. Printed by a small program (walk.py). -/
import Derived.Test.YtaadloihphpdbaaUWSend3
import Derived.Test.YtaadloihphpdbaaUPRound
import Derived.Test.YtaadloihphpdbaaUWChunkH
set_option linter.unusedVariables false
set_option linter.unusedSimpArgs false
set_option maxRecDepth 4000
namespace Go.Proofs.Ytaadloihphpdbaa
open Go Go.Vc Go.RowKit
theorem SInv.ok {s : Sender} (h : SInv s) : SOk s := by
  have h1 := h.q; have h2 := h.f; have h3 := h.t; have h4 := h.n; have h5 := h.nq; have h6 := h.p
  refine ⟨by omega, by omega, fun c hc => ?_, fun m hm => ?_, by omega, by omega, by omega⟩
  · have := wrong_small (h.c c hc).1
    omega
  · have := (rightMsg (h.m m hm)).1
    omega
theorem c95' (s : Sender) (hs : SInv s) : VFun G 95 [.agg (zfn s)] [] (.tup [.agg (zfn (say s).1), .agg (zcn (say s).2.1), .lit (.bool (say s).2.2)]) [] := by
  obtain ⟨q, n, ⟨a, b, c⟩, f, t⟩ := s; exact c95 q n a b c f t hs.ok
end Go.Proofs.Ytaadloihphpdbaa
