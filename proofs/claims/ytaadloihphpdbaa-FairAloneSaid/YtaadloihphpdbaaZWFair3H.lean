/- What the laws of chapter 12 need. Printed by a small program (walk.py). -/
import Derived.Test.YtaadloihphpdbaaZWFair2
import Derived.Test.YtaadloihphpdbaaZWViewH
set_option linter.unusedVariables false
set_option linter.unusedSimpArgs false
set_option maxRecDepth 4000
namespace Go.Proofs.Ytaadloihphpdbaa
open Go Go.Vc Go.RowKit
theorem settle_ok {n : Nat} {w : World'} (h : WOk w) : WOk (zcr n w).1 := by
  obtain ⟨k, _, e, _⟩ := settle_is n w
  rw [e]; exact wok_roundN k h
theorem settle_len (n : Nat) (w : World') : (zcr n w).1.lanes.length = w.lanes.length := by
  obtain ⟨k, _, e, _⟩ := settle_is n w
  rw [e, zdv]
theorem settle_le (n : Nat) (w : World') : 0 ≤ (zcr n w).2 ∧ (zcr n w).2 ≤ n ∧ (zcr n w).1.ticks ≤ w.ticks + n := by
  obtain ⟨k, h, e, e2, _⟩ := settle_is n w
  rw [e2, e, zfl]; omega
def sA : Step := ⟨2, 1, 0, 0, false, (0, [97])⟩
theorem c87A : VFun G 87 [.lit (.int .i64 2), .shr 7 (stepCells [sA])] [] (.tup [.agg (zcu (play 2 [sA]).1), .shr 1 (intCells (play 2 [sA]).2), .lit (.int .i64 0)]) [] := by
  have := c87 2 [sA] (by intro s hs; rw [List.mem_singleton.1 hs]; unfold inI; exact ⟨by decide, by decide⟩)
  rw [fplay3 (n := 2) (l := [sA]) (by decide) (by decide)] at this; exact this
theorem c87a {n : Int} {l : List Step} (hm : ∀ s ∈ l, inI s.m) (h : ¬ newErr n = 0) : VFun G 87 [.lit (.int .i64 n), .shr 7 (stepCells l)] [] (.tup [.agg (zcu ⟨[], 0⟩), .shr 1 (intCells []), .lit (.int .i64 (newErr n))]) [] := by
  have := c87 n l hm; rw [fplay1 h] at this; exact this
theorem c87b {n : Int} {l : List Step} (hm : ∀ s ∈ l, inI s.m) (h : newErr n = 0) (h2 : ¬ l.length ≤ 160) : VFun G 87 [.lit (.int .i64 n), .shr 7 (stepCells l)] [] (.tup [.agg (zcu ⟨[], 0⟩), .shr 1 (intCells []), .lit (.int .i64 5)]) [] := by
  have := c87 n l hm; rw [fplay2 (l := l) (show ¬ newErr n ≠ 0 by omega) (by omega)] at this; exact this
theorem c87c {n : Int} {l : List Step} (hm : ∀ s ∈ l, inI s.m) (h : newErr n = 0) (h2 : l.length ≤ 160) : VFun G 87 [.lit (.int .i64 n), .shr 7 (stepCells l)] [] (.tup [.agg (zcu (play n l).1), .shr 1 (intCells (play n l).2), .lit (.int .i64 0)]) [] := by
  have := c87 n l hm; rw [fplay3 (l := l) (show ¬ newErr n ≠ 0 by omega) (by omega)] at this; exact this
theorem play_all_i {n : Int} {l : List Step} (hn : 1 ≤ n ∧ n ≤ 3) (hs : zfk l = 0) : ∀ t, t < (play n l).1.lanes.length → LInv false (zdm t l (play n l).2) ((play n l).1.lanes.getD t zdl) := by
  intro t ht
  rw [zdw hn.1 hn.2] at ht
  have := play_linv hn.1 hn.2 l ht (by omega)
  rw [hs] at this; exact this
theorem done_same {w : World'} (hw : WOk w) {j m : Nat} (hj : w.lanes.length + 1 ≤ j) (hs : stillB (zct j (zcr 200 w).1) = true) {i : Nat} {x y : Lane} (hx : (zct j (zcr 200 w).1).lanes[i]? = some x) (hy : (zct m (zct j (zcr 200 w).1)).lanes[i]? = some y) : x = y := by
  rw [settle_done hw hj hs m] at hy
  rw [hx] at hy; exact Option.some.inj hy
theorem alone_same {n : Int} (h1 : 1 ≤ n) (h3 : n ≤ 3) {l m : List Step} {t : Int} {q : Nat} (ht : t = q) (hl : l.length ≤ 160) (hm : m.length ≤ 160) (h : zcv t l = zcv t m) {k : Nat} {x y : Lane} (hx : (zct k (play n l).1).lanes[q]? = some x) (hy : (zct k (play n m).1).lanes[q]? = some y) : x = y := by
  subst ht
  have hq := (List.getElem?_eq_some_iff.1 hx).1
  rw [zdv] at hq
  have hq2 := (List.getElem?_eq_some_iff.1 hy).1
  rw [zdv] at hq2
  have e1 := roundN_at k hq
  have e2 := roundN_at k hq2
  rw [zdw h1 h3] at hq e1 e2
  have := play_same h1 h3 hq hl hm h
  rw [this, ← e2] at e1
  have f1 : (atL (zct k (play n l).1) q).1 = x := by show (zct k (play n l).1).lanes.getD q zdl = x; rw [List.getD, hx]; rfl
  have f2 : (atL (zct k (play n m).1) q).1 = y := by show (zct k (play n m).1).lanes.getD q zdl = y; rw [List.getD, hy]; rfl
  rw [← f1, ← f2, e1]
end Go.Proofs.Ytaadloihphpdbaa
