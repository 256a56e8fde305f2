/- Walks of the package send and of the document's answer to it. Printed by a small program (walk.py). -/
import Derived.Test.YtaadloihphpdbaaWChunk
import Derived.Test.YtaadloihphpdbaaVcC
set_option linter.unusedVariables false
set_option linter.unusedSimpArgs false
set_option maxRecDepth 4000
namespace Go.Proofs.Ytaadloihphpdbaa
open Go Go.Vc Go.RowKit
theorem put_wrong {s : Sender} {m : Msg} (h : wrongMsg m ≠ 0) : put s m = (s, wrongMsg m) := by unfold put; rw [if_pos h]
theorem put_full {s : Sender} {m : Msg} (h : wrongMsg m = 0) (h2 : 5 < s.queue.length) : put s m = (s, 9) := by unfold put; rw [if_neg (by rw [h]; decide), if_pos h2]
theorem put_much {s : Sender} {m : Msg} (h : wrongMsg m = 0) (h2 : ¬ 5 < s.queue.length) (h3 : 39 < s.next + s.queue.length) : put s m = (s, 4) := by unfold put; rw [if_neg (by rw [h]; decide), if_neg h2, if_pos h3]
theorem put_ok {s : Sender} {m : Msg} (h : wrongMsg m = 0) (h2 : ¬ 5 < s.queue.length) (h3 : ¬ 39 < s.next + s.queue.length) : put s m = ({ s with queue := s.queue ++ [m] }, 0) := by unfold put; rw [if_neg (by rw [h]; decide), if_neg h2, if_neg h3]
theorem say_new {s : Sender} {m : Msg} {q : List Msg} (hq : s.queue = m :: q) (hf : s.flight.length < 4) : say s = sayNew s m q := by unfold say; rw [hq]; show (if _ then _ else _) = _; rw [if_pos hf]
theorem say_old1 {s : Sender} {m : Msg} {q : List Msg} (hq : s.queue = m :: q) (hf : ¬ s.flight.length < 4) : say s = sayOld s := by unfold say; rw [hq]; show (if _ then _ else _) = _; rw [if_neg hf]
theorem say_old2 {s : Sender} (hq : s.queue = []) (hf : s.flight ≠ []) : say s = sayOld s := by unfold say; rw [hq]; show (if _ then _ else _) = _; rw [if_neg hf]
theorem say_none {s : Sender} (hq : s.queue = []) (hf : s.flight = []) : say s = (s, chunk0, false) := by unfold say; rw [hq]; show (if _ then _ else _) = _; rw [if_pos hf]
theorem sayOld_is {s : Sender} {k : Nat} (hk : s.turn % s.flight.length = k) (h : k < s.flight.length) : sayOld s = ({ s with turn := k + 1 }, s.flight[k], true) := by
  unfold sayOld; rw [hk, Int.toNat_natCast]; simp [List.getD, h]
theorem turn_in {t : Int} {n : Nat} (h0 : 0 ≤ t) (hn : 0 < n) : ∃ k : Nat, t % n = k ∧ k < n :=
  ⟨(t % n).toNat, by have := Int.emod_nonneg t (show (n : Int) ≠ 0 by omega); omega, by have := Int.emod_lt_of_pos t (show (0 : Int) < n by omega); have := Int.emod_nonneg t (show (n : Int) ≠ 0 by omega); omega⟩
theorem turn_quo {t : Int} {n k : Nat} (h0 : 0 ≤ t) (hn : 0 < n) (hk : t % n = k) : 0 ≤ t / n * n ∧ t / n * n ≤ t ∧ t - t / n * n = k := by
  have e1 := Int.emod_def t n
  have e2 : (n : Int) * (t / n) = t / n * n := Int.mul_comm _ _
  have e3 : 0 ≤ t / (n : Int) := Int.ediv_nonneg h0 (by omega)
  have e4 : 0 ≤ t / (n : Int) * n := Int.mul_nonneg e3 (by omega)
  omega
theorem get3 {s : Int} (h : 0 ≤ s ∧ s ≤ 2) : s = 0 ∨ s = 1 ∨ s = 2 := by omega
theorem ne_nil {α : Type} {l : List α} (h : 0 < (l.length : Int)) : l ≠ [] := by intro e; rw [e] at h; simp at h
/-- What a sender must be that it can be walked through. -/
structure SOk (s : Sender) : Prop where
  q : s.queue.length ≤ 1000000
  f : s.flight.length ≤ 1000000
  e : ∀ c ∈ s.flight, c.early.length ≤ 17592186044000
  m : ∀ m ∈ s.queue, 0 ≤ m.1 ∧ m.1 ≤ 2
  t : 0 ≤ s.turn ∧ s.turn ≤ 1000000
  n : 0 ≤ s.next ∧ s.next ≤ 1000000
  p : (0 ≤ s.places.a ∧ s.places.a ≤ 1000000) ∧ (0 ≤ s.places.b ∧ s.places.b ≤ 1000000) ∧ (0 ≤ s.places.c ∧ s.places.c ≤ 1000000)
def keeps (c x : Chunk) : Bool := !told c x
theorem filter_y {p : Chunk → Bool} {l : List Chunk} {i : Nat} (h : i < l.length) (hp : p (l[i]'h) = true) : (l.take (i + 1)).filter p = (l.take i).filter p ++ [l[i]'h] := by
  rw [List.take_add_one, List.getElem?_eq_getElem h, List.filter_append]; simp [hp]
theorem filter_n {p : Chunk → Bool} {l : List Chunk} {i : Nat} (h : i < l.length) (hp : p (l[i]'h) = false) : (l.take (i + 1)).filter p = (l.take i).filter p := by
  rw [List.take_add_one, List.getElem?_eq_getElem h, List.filter_append]; simp [hp]
theorem contains_snoc {l : List Int} {j : Nat} {n y : Int} (h : l[j]? = some n) : (l.take (j + 1)).contains y = ((l.take j).contains y || (n == y)) := by
  have e : ([n] : List Int).contains y = (n == y) := by
    rw [Bool.eq_iff_iff, beq_iff_eq]
    constructor
    · intro h; simp at h; exact h.symm
    · rintro rfl; simp
  rw [List.take_add_one, h, Option.toList_some, List.contains_append, e]
theorem hear_no {s : Sender} {c : Chunk} (h : c.kind ≠ 2) : hear s c = s := by unfold hear; rw [if_pos h]
theorem hear_yes {s : Sender} {c : Chunk} (h : c.kind = 2) : hear s c = { s with flight := s.flight.filter (keeps c) } := by unfold hear; rw [if_neg (by omega)]; rfl
theorem zeroSender : ([.lit (.slice none 0 0), .lit (.int .i64 0), .lit (.int .i64 0), .lit (.int .i64 0), .lit (.int .i64 0), .lit (.slice none 0 0), .lit (.int .i64 0)] : List AV) = [.lit (.slice none 0 0), .lit (.int .i64 0), .lit (.int .i64 0), .lit (.int .i64 0), .lit (.int .i64 0), .lit (.slice none 0 0), .lit (.int .i64 0)] := rfl

theorem c94 (s : Sender) (hq : s.queue.length ≤ 1000000) (hf : s.flight.length ≤ 1000000) (he : ∀ c ∈ s.flight, c.early.length ≤ 17592186044000) : VFun G 94 [.agg (senderAV s)] [] (.agg [.row 901, .lit (.int .i64 s.next), .lit (.int .i64 s.places.a), .lit (.int .i64 s.places.b), .lit (.int .i64 s.places.c), .row 902, .lit (.int .i64 s.turn)]) [(901, .row 48 2 (msgCells s.queue)), (902, .row 77 6 (chunkCells s.flight))] := by
 refine VFun.intro (fn := Try.f94) rfl rfl (by kernel_rfl) (nb rfl) fun Γ hpar => ?_
 refine vw_seq ?_
 refine vw_region ?_
 refine u_box 100 rfl rfl rfl (notPar hpar rfl) rfl rfl trivial ?_
 refine u_alloc 101 rfl rfl (notPar hpar rfl) rfl rfl trivial ?_
 refine u_end trivial ?_
 refine vw_seq ?_
 refine vw_region ?_
 refine u_loadAll rfl rfl rfl rfl rfl rfl trivial ?_
 refine u_alloc 102 rfl rfl (notPar hpar rfl) rfl rfl trivial ?_
 refine u_storeAll rfl rfl rfl rfl rfl rfl rfl rfl trivial ?_
 refine u_end trivial ?_
 refine vw_seq ?_
 refine vw_region ?_
 refine u_fieldAddr rfl rfl rfl rfl rfl rfl trivial ?_
 refine u_store rfl rfl rfl rfl rfl rfl rfl trivial ?_
 refine u_fieldAddr rfl rfl rfl rfl rfl rfl trivial ?_
 refine u_store rfl rfl rfl rfl rfl rfl rfl trivial ?_
 refine u_end trivial ?_
 refine vw_seq ?_
 refine vw_seq ?_
 refine vw_region ?_
 refine u_fieldAddr rfl rfl rfl rfl rfl rfl trivial ?_
 refine u_load1 rfl rfl rfl rfl rfl rfl trivial ?_
 refine u_len rfl rfl rfl trivial ?_
 refine u_move rfl rfl trivial ?_
 refine u_end trivial ?_
 refine vw_block ?_
 refine vw_loopR (fun n_ E => ∃ (i : Nat), ((i ≤ s.queue.length)) ∧ n_ = s.queue.length - i ∧ E = ⟨[(1, .ptr 1 0), (2, .ptr 2 0), (3, .ptr 3 0), (12, .shr 2 (msgCells s.queue)), (13, .lit (.int .i64 (msgCells s.queue).length)), (14, .lit (.int .i64 i))], [(1, .box (senderAV s)), (2, .box [.lit (.slice none 0 0), .lit (.int .i64 0), .lit (.int .i64 0), .lit (.int .i64 0), .lit (.int .i64 0), .lit (.slice none 0 0), .lit (.int .i64 0)]), (3, .box [.row 4, .lit (.int .i64 s.next), .lit (.int .i64 s.places.a), .lit (.int .i64 s.places.b), .lit (.int .i64 s.places.c), .lit (.slice none 0 0), .lit (.int .i64 s.turn)]), (4, .row 48 2 (msgCells (s.queue.take i)))], 46⟩) (n0 := _) (E0 := _) (⟨0, by omega, rfl, rfl⟩) (ren [(1, 100), (2, 101), (3, 102)]) (mk_wk [(1, 100), (2, 101), (3, 102)] rfl rfl ⟨⟨_, rfl, (.ptr _ _ _ rfl (lookNe rfl))⟩, ⟨_, rfl, (.ptr _ _ _ rfl (lookNe rfl))⟩, ⟨_, rfl, (.ptr _ _ _ rfl (lookNe rfl))⟩, ⟨_, rfl, (.shr _ _)⟩, ⟨_, rfl, (.lit _)⟩, ⟨_, rfl, (.lit _)⟩, trivial⟩ ⟨⟨_, _, rfl, rfl, (subPL rfl)⟩, ⟨_, _, rfl, rfl, (subPL rfl)⟩, ⟨_, _, rfl, rfl, (.cons (.nilrow _ _ _ _ rfl rfl) (.cons ((.lit _)) (.cons ((.lit _)) (.cons ((.lit _)) (.cons ((.lit _)) (.cons ((.lit _)) (.cons ((.lit _)) .nil)))))))⟩, (.inr (.inl ⟨rfl, rfl⟩)), trivial⟩ (parOk hpar rfl)) (fun n_ E hR => ?_)
 obtain ⟨i, hI, rfl, rfl⟩ := hR
 have hI0 := hI
 refine vw_seq ?_
 refine vw_region ?_
 refine s_lss rfl rfl rfl trivial (fun h15 => ?_) (fun h15 => ?_)
 ·refine u_end trivial ?_
  refine vw_seq ?_
  refine vw_condT rfl ?_
  refine vw_skip ?_
  refine vw_seq ?_
  refine vw_block ?_
  refine vw_seq ?_
  rw [msgCells_length] at h15
  refine vw_region ?_
  refine u_indexS rfl rfl rfl rfl rfl rfl (msgCells_get (by omega)) rfl trivial ?_
  refine u_loadSAll rfl rfl rfl rfl rfl trivial ?_
  refine u_alloc 123 rfl rfl (notPar hpar rfl) rfl rfl trivial ?_
  refine u_storeAll rfl rfl rfl rfl rfl rfl rfl rfl trivial ?_
  refine u_end trivial ?_
  refine vw_draw ?_
  refine u_fieldAddr rfl rfl rfl rfl rfl rfl trivial ?_
  refine u_load1 rfl rfl rfl rfl rfl rfl trivial ?_
  refine u_fieldAddr rfl rfl rfl rfl rfl rfl trivial ?_
  refine u_load1 rfl rfl rfl rfl rfl rfl trivial ?_
  refine u_fieldAddr rfl rfl rfl rfl rfl rfl trivial ?_
  refine u_load1 rfl rfl rfl rfl rfl rfl trivial ?_
  refine u_call rfl (VFun.read (c136 0 _)) (.cons ((.shr _ _)) .nil) rfl trivial ?_
  refine u_build rfl rfl rfl rfl rfl trivial ?_
  refine u_buildSlice 124 rfl rfl rfl rfl rfl rfl rfl rfl rfl rfl (notPar hpar rfl) rfl rfl trivial ?_
  refine u_append 125 rfl rfl rfl (srcRow rfl) rfl (notPar hpar rfl) rfl rfl rfl rfl rfl (by simp [cellsL, msgCells_length]; omega) rfl trivial ?_
  refine u_fieldAddr rfl rfl rfl rfl rfl rfl trivial ?_
  refine u_store rfl rfl rfl rfl rfl rfl rfl trivial ?_
  refine u_end (by kernel_rfl) ?_
  refine vw_region ?_
  refine u_add rfl rfl rfl (by unfold inI; omega) rfl trivial ?_
  refine u_move rfl rfl trivial ?_
  refine u_end trivial ?_
  refine ⟨_, _, ren [(1, 1), (2, 2), (3, 3), (4, 125)], ?_, ⟨i + 1, ?_, rfl, rfl⟩, mk_wk [(1, 1), (2, 2), (3, 3), (4, 125)] rfl rfl ⟨⟨_, rfl, (.ptr _ _ _ rfl (lookNe rfl))⟩, ⟨_, rfl, (.ptr _ _ _ rfl (lookNe rfl))⟩, ⟨_, rfl, (.ptr _ _ _ rfl (lookNe rfl))⟩, ⟨_, rfl, (.shr _ _)⟩, ⟨_, rfl, (.lit _)⟩, ⟨_, rfl, (.lit _)⟩, trivial⟩ ⟨⟨_, _, rfl, rfl, (subPL rfl)⟩, ⟨_, _, rfl, rfl, (subPL rfl)⟩, ⟨_, _, rfl, rfl, (.cons ((.row _ _ rfl (lookNe rfl))) (.cons ((.lit _)) (.cons ((.lit _)) (.cons ((.lit _)) (.cons ((.lit _)) (.cons ((.lit _)) (.cons ((.lit _)) .nil)))))))⟩, (.inl ⟨_, rfl, rowEq rfl (by rw [← List.take_append_getElem (show i < s.queue.length by omega), msgCells_app]; rfl)⟩), trivial⟩ (parOk hpar rfl)⟩
  ·omega
  ·omega
 ·refine u_end trivial ?_
  refine vw_seq ?_
  refine vw_condF rfl ?_
  refine vw_exit ?_
  refine iteP rfl ?_
  refine vw_seq ?_
  refine vw_seq ?_
  rw [msgCells_length] at h15
  refine vw_region ?_
  refine u_fieldAddr rfl rfl rfl rfl rfl rfl trivial ?_
  refine u_load1 rfl rfl rfl rfl rfl rfl trivial ?_
  refine u_len rfl rfl rfl trivial ?_
  refine u_move rfl rfl trivial ?_
  refine u_end trivial ?_
  refine vw_block ?_
  refine vw_loopR (fun n_ E => ∃ (i : Nat), ((i ≤ s.flight.length)) ∧ n_ = s.flight.length - i ∧ E = ⟨[(2, .ptr 2 0), (3, .ptr 3 0), (31, .shr 6 (chunkCells s.flight)), (32, .lit (.int .i64 (chunkCells s.flight).length)), (33, .lit (.int .i64 i))], [(2, .box [.lit (.slice none 0 0), .lit (.int .i64 0), .lit (.int .i64 0), .lit (.int .i64 0), .lit (.int .i64 0), .lit (.slice none 0 0), .lit (.int .i64 0)]), (3, .box [.row 4, .lit (.int .i64 s.next), .lit (.int .i64 s.places.a), .lit (.int .i64 s.places.b), .lit (.int .i64 s.places.c), .row 5, .lit (.int .i64 s.turn)]), (4, .row 48 2 (msgCells s.queue)), (5, .row 77 6 (chunkCells (s.flight.take i)))], 46⟩) (n0 := _) (E0 := _) (⟨0, by omega, rfl, rfl⟩) (ren [(2, 2), (3, 3), (4, 4)]) (mk_wk [(2, 2), (3, 3), (4, 4)] rfl rfl ⟨⟨_, rfl, (.ptr _ _ _ rfl (lookNe rfl))⟩, ⟨_, rfl, (.ptr _ _ _ rfl (lookNe rfl))⟩, ⟨_, rfl, (.shr _ _)⟩, ⟨_, rfl, (.lit _)⟩, ⟨_, rfl, (.lit _)⟩, trivial⟩ ⟨⟨_, _, rfl, rfl, (subPL rfl)⟩, ⟨_, _, rfl, rfl, (.cons ((.row _ _ rfl (lookNe rfl))) (.cons ((.lit _)) (.cons ((.lit _)) (.cons ((.lit _)) (.cons ((.lit _)) (.cons (.nilrow _ _ _ _ rfl rfl) (.cons ((.lit _)) .nil)))))))⟩, (.inl ⟨_, rfl, rowEq rfl (by rw [List.take_of_length_le (by omega)])⟩), (.inr (.inl ⟨rfl, rfl⟩)), trivial⟩ (parOk hpar rfl)) (fun n_ E hR => ?_)
  obtain ⟨i, hI, rfl, rfl⟩ := hR
  have hI0 := hI
  refine vw_seq ?_
  refine vw_region ?_
  refine s_lss rfl rfl rfl trivial (fun h34 => ?_) (fun h34 => ?_)
  ·refine u_end trivial ?_
   refine vw_seq ?_
   refine vw_condT rfl ?_
   refine vw_skip ?_
   refine vw_seq ?_
   refine vw_block ?_
   refine vw_seq ?_
   rw [chunkCells_length] at h34
   refine vw_region ?_
   refine u_indexS rfl rfl rfl rfl rfl rfl (chunkCells_get (by omega)) rfl trivial ?_
   refine u_loadSAll rfl rfl rfl rfl rfl trivial ?_
   refine u_alloc 143 rfl rfl (notPar hpar rfl) rfl rfl trivial ?_
   refine u_storeAll rfl rfl rfl rfl rfl rfl rfl rfl trivial ?_
   refine u_end trivial ?_
   refine vw_draw ?_
   refine u_fieldAddr rfl rfl rfl rfl rfl rfl trivial ?_
   refine u_load1 rfl rfl rfl rfl rfl rfl trivial ?_
   refine u_loadAll rfl rfl rfl rfl rfl rfl trivial ?_
   refine u_call rfl (c80 (s.flight[i]'(by omega)) (he _ (List.getElem_mem _))) (.cons ((subP rfl)) .nil) rfl trivial ?_
   refine u_buildSlice 144 rfl rfl rfl rfl rfl rfl rfl rfl rfl rfl (notPar hpar rfl) rfl rfl trivial ?_
   refine u_append 145 rfl rfl rfl (srcRow rfl) rfl (notPar hpar rfl) rfl rfl rfl rfl rfl (by simp [cellsL, chunkCells_length]; omega) rfl trivial ?_
   refine u_fieldAddr rfl rfl rfl rfl rfl rfl trivial ?_
   refine u_store rfl rfl rfl rfl rfl rfl rfl trivial ?_
   refine u_end (by kernel_rfl) ?_
   refine vw_region ?_
   refine u_add rfl rfl rfl (by unfold inI; omega) rfl trivial ?_
   refine u_move rfl rfl trivial ?_
   refine u_end trivial ?_
   refine ⟨_, _, ren [(2, 2), (3, 3), (4, 4), (5, 145)], ?_, ⟨i + 1, ?_, rfl, rfl⟩, mk_wk [(2, 2), (3, 3), (4, 4), (5, 145)] rfl rfl ⟨⟨_, rfl, (.ptr _ _ _ rfl (lookNe rfl))⟩, ⟨_, rfl, (.ptr _ _ _ rfl (lookNe rfl))⟩, ⟨_, rfl, (.shr _ _)⟩, ⟨_, rfl, (.lit _)⟩, ⟨_, rfl, (.lit _)⟩, trivial⟩ ⟨⟨_, _, rfl, rfl, (subPL rfl)⟩, ⟨_, _, rfl, rfl, (.cons ((.row _ _ rfl (lookNe rfl))) (.cons ((.lit _)) (.cons ((.lit _)) (.cons ((.lit _)) (.cons ((.lit _)) (.cons ((.row _ _ rfl (lookNe rfl))) (.cons ((.lit _)) .nil)))))))⟩, (.inl ⟨_, rfl, rfl⟩), (.inl ⟨_, rfl, rowEq rfl (by rw [← List.take_append_getElem (show i < s.flight.length by omega), chunkCells_app]; rfl)⟩), trivial⟩ (parOk hpar rfl)⟩
   ·omega
   ·omega
  ·refine u_end trivial ?_
   refine vw_seq ?_
   refine vw_condF rfl ?_
   refine vw_exit ?_
   refine iteP rfl ?_
   refine vw_seq ?_
   rw [chunkCells_length] at h34
   refine vw_region ?_
   refine u_loadAll rfl rfl rfl rfl rfl rfl trivial ?_
   refine u_storeAll rfl rfl rfl rfl rfl rfl rfl rfl trivial ?_
   refine u_end trivial ?_
   refine vw_ret ?_
   refine fin' [(901, 4), (902, 5)] (.inr rfl) (.cons (.cellN rfl rfl rfl rfl rfl) .nil) (mk_wk [(901, 4), (902, 5)] rfl rfl ⟨⟨_, rfl, (.agg _ _ (.cons (.row _ _ rfl (lookNe rfl)) (.cons (subI ?_) (.cons (subI ?_) (.cons (subI ?_) (.cons (subI ?_) (.cons (.row _ _ rfl (lookNe rfl)) (.cons (subI ?_) .nil))))))))⟩, trivial⟩ ⟨(.inl ⟨_, rfl, rowEq rfl ?_⟩), (.inl ⟨_, rfl, rowEq rfl ?_⟩), trivial⟩ (parOk rfl rfl))
   all_goals (try rfl)
   all_goals
     rw [List.take_of_length_le (by omega)]
theorem c91 (s : Sender) (m : Msg) (hs : SOk s) : VFun G 91 [.agg (senderAV s), .agg (msgAV m)] [] (.tup [.agg (senderAV (put s m).1), .lit (.int .i64 (put s m).2)]) [] := by
 have hq := hs.q
 have hn := hs.n
 refine VFun.intro (fn := Try.f91) rfl rfl (by kernel_rfl) (nb rfl) fun Γ hpar => ?_
 refine vw_seq ?_
 refine vw_region ?_
 refine u_box 100 rfl rfl rfl (notPar hpar rfl) rfl rfl trivial ?_
 refine u_box 101 rfl rfl rfl (notPar hpar rfl) rfl rfl trivial ?_
 refine u_alloc 102 rfl rfl (notPar hpar rfl) rfl rfl trivial ?_
 refine u_assign rfl rfl trivial ?_
 refine u_end trivial ?_
 refine vw_seq ?_
 refine vw_region ?_
 refine u_loadAll rfl rfl rfl rfl rfl rfl trivial ?_
 refine u_callO [] [] [] rfl rfl (c94 s hs.q hs.f hs.e) inc_nil trivial (.cons ((subP rfl)) .nil) rfl rfl (newPar hpar rfl) rfl trivial ?_
 refine u_alloc 103 rfl rfl (notPar hpar rfl) rfl rfl trivial ?_
 refine u_storeAll rfl rfl rfl rfl rfl rfl rfl rfl trivial ?_
 refine u_end trivial ?_
 refine vw_seq ?_
 refine vw_seq ?_
 refine vw_region ?_
 refine u_loadAll rfl rfl rfl rfl rfl rfl trivial ?_
 refine u_call rfl (c78 m) (.cons ((subP rfl)) .nil) rfl trivial ?_
 refine u_assign rfl rfl trivial ?_
 refine u_end trivial ?_
 refine vw_seq ?_
 refine vw_region ?_
 refine u_move rfl rfl trivial ?_
 refine s_neq rfl rfl rfl trivial (fun h13 => ?_) (fun h13 => ?_)
 ·refine u_end trivial ?_
  refine vw_condT rfl ?_
  refine vw_seq ?_
  refine vw_region ?_
  refine u_loadAll rfl rfl rfl rfl rfl rfl trivial ?_
  refine u_move rfl rfl trivial ?_
  refine u_storeAll rfl rfl rfl rfl rfl rfl rfl rfl trivial ?_
  refine u_assign rfl rfl trivial ?_
  refine u_end trivial ?_
  refine vw_ret ?_
  rw [put_wrong h13]
  refine fin' [] (.inr rfl) (.cons (.cellN rfl rfl rfl rfl rfl) (.cons (.tmp rfl (nb rfl)) .nil)) (mk_wk [] rfl rfl ⟨⟨_, rfl, (.tup _ _ (.cons (.agg _ _ (.cons (subFz rfl (fzL rfl) ?_) (.cons (subI ?_) (.cons (subI ?_) (.cons (subI ?_) (.cons (subI ?_) (.cons (subFz rfl (fzL rfl) ?_) (.cons (subI ?_) .nil)))))))) (.cons (subI ?_) .nil)))⟩, trivial⟩ trivial (parOk rfl rfl))
  all_goals (try rfl)
  all_goals
    rw [msgCells_app]; rfl
 ·refine u_end trivial ?_
  refine vw_condF rfl ?_
  refine vw_skip ?_
  refine vw_seq ?_
  refine vw_block ?_
  refine vw_seq ?_
  refine vw_region ?_
  refine u_fieldAddr rfl rfl rfl rfl rfl rfl trivial ?_
  refine u_load1 rfl rfl rfl rfl rfl rfl trivial ?_
  refine u_len rfl rfl rfl trivial ?_
  refine s_geq rfl rfl rfl trivial (fun h20 => ?_) (fun h20 => ?_)
  ·refine u_assign rfl rfl trivial ?_
   refine u_end trivial ?_
   refine vw_condT rfl ?_
   refine vw_seq ?_
   refine vw_region ?_
   refine u_loadAll rfl rfl rfl rfl rfl rfl trivial ?_
   refine u_storeAll rfl rfl rfl rfl rfl rfl rfl rfl trivial ?_
   refine u_assign rfl rfl trivial ?_
   refine u_end trivial ?_
   refine vw_ret ?_
   rw [put_full h13 (by (try simp only [msgCells_length, chunkCells_length, intCells_length, byteCells_length] at *); omega)]
   refine fin' [] (.inr rfl) (.cons (.cellN rfl rfl rfl rfl rfl) (.cons (.tmp rfl (nb rfl)) .nil)) (mk_wk [] rfl rfl ⟨⟨_, rfl, (.tup _ _ (.cons (.agg _ _ (.cons (subFz rfl (fzL rfl) ?_) (.cons (subI ?_) (.cons (subI ?_) (.cons (subI ?_) (.cons (subI ?_) (.cons (subFz rfl (fzL rfl) ?_) (.cons (subI ?_) .nil)))))))) (.cons (subI ?_) .nil)))⟩, trivial⟩ trivial (parOk rfl rfl))
   all_goals (try rfl)
   all_goals
     rw [msgCells_app]; rfl
  ·refine u_assign rfl rfl trivial ?_
   refine u_end trivial ?_
   refine vw_condF rfl ?_
   refine vw_seq ?_
   refine vw_region ?_
   refine u_fieldAddr rfl rfl rfl rfl rfl rfl trivial ?_
   refine u_load1 rfl rfl rfl rfl rfl rfl trivial ?_
   refine u_fieldAddr rfl rfl rfl rfl rfl rfl trivial ?_
   refine u_load1 rfl rfl rfl rfl rfl rfl trivial ?_
   refine u_len rfl rfl rfl trivial ?_
   refine u_add rfl rfl rfl (by (try simp only [msgCells_length, chunkCells_length, intCells_length, byteCells_length] at *); unfold inI; omega) rfl trivial ?_
   refine s_geq rfl rfl rfl trivial (fun h29 => ?_) (fun h29 => ?_)
   ·refine u_assign rfl rfl trivial ?_
    refine u_end trivial ?_
    refine vw_condT rfl ?_
    refine vw_seq ?_
    refine vw_region ?_
    refine u_loadAll rfl rfl rfl rfl rfl rfl trivial ?_
    refine u_storeAll rfl rfl rfl rfl rfl rfl rfl rfl trivial ?_
    refine u_assign rfl rfl trivial ?_
    refine u_end trivial ?_
    refine vw_ret ?_
    rw [put_much h13 (by (try simp only [msgCells_length, chunkCells_length, intCells_length, byteCells_length] at *); omega) (by (try simp only [msgCells_length, chunkCells_length, intCells_length, byteCells_length] at *); omega)]
    refine fin' [] (.inr rfl) (.cons (.cellN rfl rfl rfl rfl rfl) (.cons (.tmp rfl (nb rfl)) .nil)) (mk_wk [] rfl rfl ⟨⟨_, rfl, (.tup _ _ (.cons (.agg _ _ (.cons (subFz rfl (fzL rfl) ?_) (.cons (subI ?_) (.cons (subI ?_) (.cons (subI ?_) (.cons (subI ?_) (.cons (subFz rfl (fzL rfl) ?_) (.cons (subI ?_) .nil)))))))) (.cons (subI ?_) .nil)))⟩, trivial⟩ trivial (parOk rfl rfl))
    all_goals (try rfl)
    all_goals
      rw [msgCells_app]; rfl
   ·refine u_assign rfl rfl trivial ?_
    refine u_end trivial ?_
    refine vw_condF rfl ?_
    refine vw_skip ?_
    refine vw_seq ?_
    refine vw_draw ?_
    refine u_fieldAddr rfl rfl rfl rfl rfl rfl trivial ?_
    refine u_load1 rfl rfl rfl rfl rfl rfl trivial ?_
    refine u_fieldAddr rfl rfl rfl rfl rfl rfl trivial ?_
    refine u_load1 rfl rfl rfl rfl rfl rfl trivial ?_
    refine u_fieldAddr rfl rfl rfl rfl rfl rfl trivial ?_
    refine u_load1 rfl rfl rfl rfl rfl rfl trivial ?_
    refine u_call rfl (VFun.read (c136 0 _)) (.cons ((.shr _ _)) .nil) rfl trivial ?_
    refine u_build rfl rfl rfl rfl rfl trivial ?_
    refine u_buildSlice 104 rfl rfl rfl rfl rfl rfl rfl rfl rfl rfl (notPar hpar rfl) rfl rfl trivial ?_
    refine u_append 105 rfl rfl rfl (srcRow rfl) rfl (notPar hpar rfl) rfl rfl rfl rfl rfl (by simp [cellsL, msgCells_length]; omega) rfl trivial ?_
    refine u_fieldAddr rfl rfl rfl rfl rfl rfl trivial ?_
    refine u_store rfl rfl rfl rfl rfl rfl rfl trivial ?_
    refine u_end (by kernel_rfl) ?_
    refine vw_seq ?_
    refine vw_region ?_
    refine u_loadAll rfl rfl rfl rfl rfl rfl trivial ?_
    refine u_storeAll rfl rfl rfl rfl rfl rfl rfl rfl trivial ?_
    refine u_assign rfl rfl trivial ?_
    refine u_end trivial ?_
    refine vw_ret ?_
    rw [put_ok h13 (by (try simp only [msgCells_length, chunkCells_length, intCells_length, byteCells_length] at *); omega) (by (try simp only [msgCells_length, chunkCells_length, intCells_length, byteCells_length] at *); omega)]
    refine fin' [] (.inr rfl) (.cons (.cellN rfl rfl rfl rfl rfl) (.cons (.tmp rfl (nb rfl)) .nil)) (mk_wk [] rfl rfl ⟨⟨_, rfl, (.tup _ _ (.cons (.agg _ _ (.cons (subFz rfl (fzL rfl) ?_) (.cons (subI ?_) (.cons (subI ?_) (.cons (subI ?_) (.cons (subI ?_) (.cons (subFz rfl (fzL rfl) ?_) (.cons (subI ?_) .nil)))))))) (.cons (subI ?_) .nil)))⟩, trivial⟩ trivial (parOk rfl rfl))
    all_goals (try rfl)
    all_goals
      rw [msgCells_app]; rfl
theorem c92 (s : Sender) (m : Msg) (hq : s.queue.length ≤ 1000000) (hn : 0 ≤ s.next ∧ s.next ≤ 1000000) : VFun G 92 [.agg (senderAV s), .agg (msgAV m)] [] (.tup [.agg (senderAV (put s m).1), .lit (.int .i64 (put s m).2)]) [] := by
 refine VFun.intro (fn := Try.f92) rfl rfl (by kernel_rfl) (nb rfl) fun Γ hpar => ?_
 refine vw_seq ?_
 refine vw_region ?_
 refine u_box 100 rfl rfl rfl (notPar hpar rfl) rfl rfl trivial ?_
 refine u_box 101 rfl rfl rfl (notPar hpar rfl) rfl rfl trivial ?_
 refine u_alloc 102 rfl rfl (notPar hpar rfl) rfl rfl trivial ?_
 refine u_assign rfl rfl trivial ?_
 refine u_end trivial ?_
 refine vw_seq ?_
 refine vw_seq ?_
 refine vw_region ?_
 refine u_loadAll rfl rfl rfl rfl rfl rfl trivial ?_
 refine u_call rfl (c60 m) (.cons ((subP rfl)) .nil) rfl trivial ?_
 refine u_assign rfl rfl trivial ?_
 refine u_end trivial ?_
 refine vw_seq ?_
 refine vw_region ?_
 refine u_move rfl rfl trivial ?_
 refine s_neq rfl rfl rfl trivial (fun h10 => ?_) (fun h10 => ?_)
 ·refine u_end trivial ?_
  refine vw_condT rfl ?_
  refine vw_seq ?_
  refine vw_region ?_
  refine u_loadAll rfl rfl rfl rfl rfl rfl trivial ?_
  refine u_move rfl rfl trivial ?_
  refine u_storeAll rfl rfl rfl rfl rfl rfl rfl rfl trivial ?_
  refine u_assign rfl rfl trivial ?_
  refine u_end trivial ?_
  refine vw_ret ?_
  rw [put_wrong h10]
  refine fin' [] (.inr rfl) (.cons (.cellN rfl rfl rfl rfl rfl) (.cons (.tmp rfl (nb rfl)) .nil)) (mk_wk [] rfl rfl ⟨⟨_, rfl, (.tup _ _ (.cons (.agg _ _ (.cons (subS ?_) (.cons (subI ?_) (.cons (subI ?_) (.cons (subI ?_) (.cons (subI ?_) (.cons (subS ?_) (.cons (subI ?_) .nil)))))))) (.cons (subI ?_) .nil)))⟩, trivial⟩ trivial (parOk rfl rfl))
  all_goals (try rfl)
  all_goals
    rw [msgCells_app]; rfl
 ·refine u_end trivial ?_
  refine vw_condF rfl ?_
  refine vw_skip ?_
  refine vw_seq ?_
  refine vw_seq ?_
  refine vw_region ?_
  refine u_fieldAddr rfl rfl rfl rfl rfl rfl trivial ?_
  refine u_load1 rfl rfl rfl rfl rfl rfl trivial ?_
  refine u_len rfl rfl rfl trivial ?_
  refine s_gtr rfl rfl rfl trivial (fun h16 => ?_) (fun h16 => ?_)
  ·refine u_end trivial ?_
   refine vw_condT rfl ?_
   refine vw_seq ?_
   refine vw_region ?_
   refine u_loadAll rfl rfl rfl rfl rfl rfl trivial ?_
   refine u_storeAll rfl rfl rfl rfl rfl rfl rfl rfl trivial ?_
   refine u_assign rfl rfl trivial ?_
   refine u_end trivial ?_
   refine vw_ret ?_
   rw [put_full h10 (by (try simp only [msgCells_length, chunkCells_length, intCells_length, byteCells_length] at *); omega)]
   refine fin' [] (.inr rfl) (.cons (.cellN rfl rfl rfl rfl rfl) (.cons (.tmp rfl (nb rfl)) .nil)) (mk_wk [] rfl rfl ⟨⟨_, rfl, (.tup _ _ (.cons (.agg _ _ (.cons (subS ?_) (.cons (subI ?_) (.cons (subI ?_) (.cons (subI ?_) (.cons (subI ?_) (.cons (subS ?_) (.cons (subI ?_) .nil)))))))) (.cons (subI ?_) .nil)))⟩, trivial⟩ trivial (parOk rfl rfl))
   all_goals (try rfl)
   all_goals
     rw [msgCells_app]; rfl
  ·refine u_end trivial ?_
   refine vw_condF rfl ?_
   refine vw_skip ?_
   refine vw_seq ?_
   refine vw_seq ?_
   refine vw_region ?_
   refine u_fieldAddr rfl rfl rfl rfl rfl rfl trivial ?_
   refine u_load1 rfl rfl rfl rfl rfl rfl trivial ?_
   refine u_fieldAddr rfl rfl rfl rfl rfl rfl trivial ?_
   refine u_load1 rfl rfl rfl rfl rfl rfl trivial ?_
   refine u_len rfl rfl rfl trivial ?_
   refine u_add rfl rfl rfl (by (try simp only [msgCells_length, chunkCells_length, intCells_length, byteCells_length] at *); unfold inI; omega) rfl trivial ?_
   refine s_gtr rfl rfl rfl trivial (fun h24 => ?_) (fun h24 => ?_)
   ·refine u_end trivial ?_
    refine vw_condT rfl ?_
    refine vw_seq ?_
    refine vw_region ?_
    refine u_loadAll rfl rfl rfl rfl rfl rfl trivial ?_
    refine u_storeAll rfl rfl rfl rfl rfl rfl rfl rfl trivial ?_
    refine u_assign rfl rfl trivial ?_
    refine u_end trivial ?_
    refine vw_ret ?_
    rw [put_much h10 (by (try simp only [msgCells_length, chunkCells_length, intCells_length, byteCells_length] at *); omega) (by (try simp only [msgCells_length, chunkCells_length, intCells_length, byteCells_length] at *); omega)]
    refine fin' [] (.inr rfl) (.cons (.cellN rfl rfl rfl rfl rfl) (.cons (.tmp rfl (nb rfl)) .nil)) (mk_wk [] rfl rfl ⟨⟨_, rfl, (.tup _ _ (.cons (.agg _ _ (.cons (subS ?_) (.cons (subI ?_) (.cons (subI ?_) (.cons (subI ?_) (.cons (subI ?_) (.cons (subS ?_) (.cons (subI ?_) .nil)))))))) (.cons (subI ?_) .nil)))⟩, trivial⟩ trivial (parOk rfl rfl))
    all_goals (try rfl)
    all_goals
      rw [msgCells_app]; rfl
   ·refine u_end trivial ?_
    refine vw_condF rfl ?_
    refine vw_skip ?_
    refine vw_seq ?_
    refine vw_draw ?_
    refine u_buildSlice 103 rfl rfl rfl rfl rfl rfl rfl rfl rfl rfl (notPar hpar rfl) rfl rfl trivial ?_
    refine u_fieldAddr rfl rfl rfl rfl rfl rfl trivial ?_
    refine u_load1 rfl rfl rfl rfl rfl rfl trivial ?_
    refine u_append 104 rfl rfl rfl (.shr _ _) rfl (notPar hpar rfl) rfl rfl rfl rfl rfl (by simp [cellsL, msgCells_length]; omega) rfl trivial ?_
    refine u_loadAll rfl rfl rfl rfl rfl rfl trivial ?_
    refine u_buildSlice 105 rfl rfl rfl rfl rfl rfl rfl rfl rfl rfl (notPar hpar rfl) rfl rfl trivial ?_
    refine u_append 106 rfl rfl rfl (srcRow rfl) rfl (notPar hpar rfl) rfl rfl rfl rfl rfl (by simp [cellsL, msgCells_length]; omega) rfl trivial ?_
    refine u_fieldAddr rfl rfl rfl rfl rfl rfl trivial ?_
    refine u_store rfl rfl rfl rfl rfl rfl rfl trivial ?_
    refine u_end (by kernel_rfl) ?_
    refine vw_seq ?_
    refine vw_region ?_
    refine u_loadAll rfl rfl rfl rfl rfl rfl trivial ?_
    refine u_storeAll rfl rfl rfl rfl rfl rfl rfl rfl trivial ?_
    refine u_assign rfl rfl trivial ?_
    refine u_end trivial ?_
    refine vw_ret ?_
    rw [put_ok h10 (by (try simp only [msgCells_length, chunkCells_length, intCells_length, byteCells_length] at *); omega) (by (try simp only [msgCells_length, chunkCells_length, intCells_length, byteCells_length] at *); omega)]
    refine fin' [] (.inr rfl) (.cons (.cellN rfl rfl rfl rfl rfl) (.cons (.tmp rfl (nb rfl)) .nil)) (mk_wk [] rfl rfl ⟨⟨_, rfl, (.tup _ _ (.cons (.agg _ _ (.cons (subFz rfl (fzL rfl) ?_) (.cons (subI ?_) (.cons (subI ?_) (.cons (subI ?_) (.cons (subI ?_) (.cons (subS ?_) (.cons (subI ?_) .nil)))))))) (.cons (subI ?_) .nil)))⟩, trivial⟩ trivial (parOk rfl rfl))
    all_goals (try rfl)
    all_goals
      rw [msgCells_app]; rfl
end Go.Proofs.Ytaadloihphpdbaa
