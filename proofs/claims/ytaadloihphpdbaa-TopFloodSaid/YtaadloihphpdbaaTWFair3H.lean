/- What the laws of chapter 12 need. Printed by a small program (walk.py). -/
import Derived.Test.YtaadloihphpdbaaTWFair2
import Derived.Test.YtaadloihphpdbaaTWViewH
set_option linter.unusedVariables false
set_option linter.unusedSimpArgs false
set_option maxRecDepth 4000
namespace Go.Proofs.Ytaadloihphpdbaa
open Go Go.Vc Go.RowKit
theorem c87c {n : Int} {l : List Step} (hm : ∀ s ∈ l, inI s.m) (h : zfi n = 0) (h2 : l.length ≤ 160) : VFun G 87 [.lit (.int .i64 n), .shr 7 (stepCells l)] [] (.tup [.agg (zcz (play n l).1), .shr 1 (zaw (play n l).2), .lit (.int .i64 0)]) [] := by
  have := c87 n l hm; rw [fplay3 (l := l) (show ¬ zfi n ≠ 0 by omega) (by omega)] at this; exact this
theorem alone_same {n : Int} (h1 : 1 ≤ n) (h3 : n ≤ 3) {l m : List Step} {t : Int} {q : Nat} (ht : t = q) (hl : l.length ≤ 160) (hm : m.length ≤ 160) (h : zdp t l = zdp t m) {k : Nat} {x y : Lane} (hx : (zdf k (play n l).1).lanes[q]? = some x) (hy : (zdf k (play n m).1).lanes[q]? = some y) : x = y := by
  subst ht
  have hq := (List.getElem?_eq_some_iff.1 hx).1
  rw [zfp] at hq
  have hq2 := (List.getElem?_eq_some_iff.1 hy).1
  rw [zfp] at hq2
  have e1 := roundN_at k hq
  have e2 := roundN_at k hq2
  rw [play_len h1 h3] at hq e1 e2
  have := play_same h1 h3 hq hl hm h
  rw [this, ← e2] at e1
  have f1 : (atL (zdf k (play n l).1) q).1 = x := by show (zdf k (play n l).1).lanes.getD q zdq = x; rw [List.getD, hx]; rfl
  have f2 : (atL (zdf k (play n m).1) q).1 = y := by show (zdf k (play n m).1).lanes.getD q zdq = y; rw [List.getD, hy]; rfl
  rw [← f1, ← f2, e1]
end Go.Proofs.Ytaadloihphpdbaa
