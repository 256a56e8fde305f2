/- What the walks of the package lane need. Printed by a small program (walk.py). -/
import Derived.Test.YtaadloihphpdbaaUWLane2
set_option linter.unusedVariables false
set_option linter.unusedSimpArgs false
set_option maxRecDepth 4000
namespace Go.Proofs.Ytaadloihphpdbaa
open Go Go.Vc Go.RowKit
theorem c94r (s : Sender) (hs : SInv s) : VFun G 94 [.agg (zfn s)] [] (.agg (zfn s)) [] :=
  (c94 s (by have := hs.q; omega) (by have := hs.f; omega) (fun c hc => by have := MChunk.num ⟨(hs.c c hc).2.1, (hs.c c hc).1⟩; rw [this.2.2.1]; simp)).resWk (ren []) (zaw [] rfl rfl ⟨⟨_, rfl, .agg _ _ (.cons (.frz _ _ _ _ rfl (fzL rfl)) (.cons (.lit _) (.cons (.lit _) (.cons (.lit _) (.cons (.lit _) (.cons (.frz _ _ _ _ rfl (fzL rfl)) (.cons (.lit _) .nil)))))))⟩, tv⟩ tv no_par)
theorem c110r (r : Receiver) (hr : RInv r) : VFun G 110 [.agg (zfi r)] [] (.agg (zfi r)) [] :=
  (c110 r hr).resWk (ren []) (zaw [] rfl rfl ⟨⟨_, rfl, .agg _ _ (.cons (.lit _) (.cons (.frz _ _ _ _ rfl (fzL rfl)) (.cons (.lit _) (.cons (.lit _) (.cons (.lit _) (.cons (.frz _ _ _ _ rfl (fzL rfl)) (.cons (.frz _ _ _ _ rfl (fzL rfl)) (.cons (.lit _) .nil))))))))⟩, tv⟩ tv no_par)
theorem pk_m (l : Lane) (kind n a : Int) (b : Bool) (h : kind ≠ 6) : zcz l kind n a b = zcz l kind n 0 b := by
  unfold zcz; simp only; rw [if_neg h, if_neg h]
end Go.Proofs.Ytaadloihphpdbaa
