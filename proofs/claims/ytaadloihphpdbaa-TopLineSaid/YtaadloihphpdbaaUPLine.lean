/- Lines of messages, tenant by tenant: what is told of them at last. No program is in sight. -/
import Derived.Test.YtaadloihphpdbaaUPTop
import Derived.Test.YtaadloihphpdbaaUWFair3H
set_option linter.unusedVariables false
set_option linter.unusedSimpArgs false
namespace Go.Proofs.Ytaadloihphpdbaa
open Go Go.Vc Go.RowKit
def zcq (q i : Nat) : Msg := (((i % 2 : Nat) : Int), [u8 (q : Int), u8 (i : Int)])
def zcw (q : Nat) : Nat → List Msg
  | 0 => []
  | i + 1 => zcw q i ++ [zcq q i]
def rowS (i : Nat) : Nat → List Step
  | 0 => []
  | q + 1 => rowS i q ++ [putS (q : Int) (zcq q i)]
def allS (n : Nat) : Nat → List Step
  | 0 => []
  | i + 1 => allS n i ++ rowS i n
theorem rowS_len (i : Nat) : ∀ q, (rowS i q).length = q
  | 0 => rfl
  | q + 1 => by show (rowS i q ++ _).length = _; rw [List.length_append, rowS_len i q]; rfl
theorem zfq (n : Nat) : ∀ i, (allS n i).length = n * i
  | 0 => rfl
  | i + 1 => by show (allS n i ++ _).length = _; rw [List.length_append, zfq n i, rowS_len]; rfl
theorem zeu (q : Nat) : ∀ i, (zcw q i).length = i
  | 0 => rfl
  | i + 1 => by show (zcw q i ++ _).length = _; rw [List.length_append, zeu q i]; rfl
theorem rowS_in (i : Nat) : ∀ q, ∀ s ∈ rowS i q, inI s.m
  | 0 => fun s h => by cases h
  | q + 1 => fun s h => by
    rcases List.mem_append.1 h with h | h
    · exact rowS_in i q s h
    · rw [List.mem_singleton.1 h]; show inI 0; unfold inI; omega
theorem allS_in (n : Nat) : ∀ i, ∀ s ∈ allS n i, inI s.m
  | 0 => fun s h => by cases h
  | i + 1 => fun s h => by
    rcases List.mem_append.1 h with h | h
    · exact allS_in n i s h
    · exact rowS_in i n s h
theorem lputs_app {n t : Nat} : ∀ (a b : List Step) (x : Lane × Int), lputs n t x (a ++ b) = lputs n t x a ++ lputs n t (a.foldl (lstep n t) x) b
  | [], b, x => rfl
  | s :: a, b, x => by
    rw [List.cons_append, lputs, lputs, lputs_app a b, List.foldl_cons]
    split <;> simp
theorem lputs_calm {n t : Nat} : ∀ (l : List Step) (x : Lane × Int), l.all calmS = true → lputs n t x l = []
  | [], x, _ => rfl
  | s :: l, x, h => by
    rw [List.all_cons, Bool.and_eq_true] at h
    have h1 : s.kind ≠ 2 := by have := h.1; unfold calmS at this; simp at this; exact this.1
    rw [lputs, lputs_calm l _ h.2]
    simp [isPut, h1]
theorem line_puts (n q e : Nat) (hn : n ≤ 3) (hq : q < n) (he : e ≤ 6) : lputs n q (zdm, 0) (allS n e) = zcw q e := by
  have : ∀ n : Fin 4, ∀ q : Fin 3, ∀ e : Fin 7, q.1 < n.1 → lputs n.1 q.1 (zdm, 0) (allS n.1 e.1) = zcw q.1 e.1 := by decide +kernel
  exact this ⟨n, by omega⟩ ⟨q, by omega⟩ ⟨e, by omega⟩ hq
theorem line_spoil (n e : Nat) (hn : n ≤ 3) (he : e ≤ 6) : spoilN (allS n e) = 0 := by
  have : ∀ n : Fin 4, ∀ e : Fin 7, spoilN (allS n.1 e.1) = 0 := by decide +kernel
  exact this ⟨n, by omega⟩ ⟨e, by omega⟩
theorem calm_spoil {l : List Step} (h : l.all calmS = true) : spoilN l = 0 := by
  unfold spoilN
  rw [List.countP_eq_zero]
  intro s hs h2
  have := List.all_eq_true.1 h s hs
  unfold calmS at this
  simp at this h2
  exact this.2 h2
theorem line_end {n e : Nat} {l : List Step} (h1 : 1 ≤ n) (h3 : n ≤ 3) (he : e ≤ 6) (hc : calm l = true) :
    zfm (zco 200 (play (n : Int) (allS n e ++ l)).1).1 = true ∧ (zco 200 (play (n : Int) (allS n e ++ l)).1).1.lanes.length = n ∧
      ∀ q x, (zco 200 (play (n : Int) (allS n e ++ l)).1).1.lanes[q]? = some x → (fits x.r.told (zcw q e) && decide (x.r.told.length = (zcw q e).length)) = true ∧ x.r.told.length ≤ 40 := by
  unfold calm at hc
  simp only [Bool.and_eq_true, decide_eq_true_eq] at hc
  have i1 : (1 : Int) ≤ n := by omega
  have i3 : (n : Int) ≤ 3 := by omega
  have hwk := wok_play (n := (n : Int)) i1 i3 (allS n e ++ l)
  have hln := play_len (n := (n : Int)) i1 i3 (allS n e ++ l)
  have hlen : (allS n e ++ l).length ≤ 160 := by
    rw [List.length_append, zfq]
    have : n * e ≤ 3 * 6 := Nat.mul_le_mul h3 he
    omega
  have hsp : spoilN (allS n e ++ l) = 0 := by
    have a := line_spoil n e h3 he
    have b := calm_spoil hc.1
    unfold spoilN at a b ⊢
    rw [List.countP_append, a, b]
  have hput : ∀ q, q < n → putsOf (q : Int) (allS n e ++ l) (play (n : Int) (allS n e ++ l)).2 = zcw q e := by
    intro q hq
    rw [play_putsOf i1 i3 _ (by omega), List.take_of_length_le hlen, lputs_app, lputs_calm l _ hc.1, List.append_nil, Int.toNat_natCast, line_puts n q e h3 hq he]
  rw [Int.toNat_natCast] at hln
  obtain ⟨q1, q2, q3⟩ := settle_ends hwk (Hs := fun t => zcw t e) (by
    intro t ht
    have := play_all_i ⟨i1, i3⟩ hsp t ht
    rw [hput t (by omega)] at this
    exact this)
  refine ⟨q1, q2.trans hln, fun q x hx => ?_⟩
  have hq := (List.getElem?_eq_some_iff.1 hx).1
  have hL := q3 q (by omega)
  rw [List.getD, hx] at hL
  have hL' : LInv false (zcw q e) x := hL
  have hi : idleB x = true := by
    unfold zfm at q1
    exact List.all_eq_true.1 q1 x (List.mem_of_getElem? hx)
  have hd := linv_idle hL' hi
  refine ⟨by rw [linv_fits hL', decide_eq_true hd.2]; rfl, ?_⟩
  rw [hd.2, zeu]; omega
end Go.Proofs.Ytaadloihphpdbaa
