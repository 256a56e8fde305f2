/- Walks of the package send and of the document's answer to it: what is said, and heard. Printed by a small program (walk.py). -/
import Derived.Test.YtaadloihphpdbaaWSend2
set_option linter.unusedVariables false
set_option linter.unusedSimpArgs false
set_option maxRecDepth 4000
namespace Go.Proofs.Ytaadloihphpdbaa
open Go Go.Vc Go.RowKit
theorem chunkCells_get' {l : List Chunk} {i : Nat} {x : Chunk} (h : l[i]? = some x) : (chunkCells l)[i]? = some (chunkAV x) := by simp [chunkCells, h]
theorem filter_y' {p : Chunk → Bool} {l : List Chunk} {i : Nat} {x : Chunk} (h : l[i]? = some x) (hp : p x = true) : (l.take (i + 1)).filter p = (l.take i).filter p ++ [x] := by
  rw [List.take_add_one, h, List.filter_append]; simp [hp]
theorem filter_n' {p : Chunk → Bool} {l : List Chunk} {i : Nat} {x : Chunk} (h : l[i]? = some x) (hp : p x = false) : (l.take (i + 1)).filter p = (l.take i).filter p := by
  rw [List.take_add_one, h, List.filter_append]; simp [hp]
theorem not_told_y {c x : Chunk} (h : (decide (x.num < c.num) || c.early.contains x.num) = false) : keeps c x = true := by unfold keeps told; rw [h]; rfl
theorem not_told_n {c x : Chunk} (h : (decide (x.num < c.num) || c.early.contains x.num) = true) : keeps c x = false := by unfold keeps told; rw [h]; rfl
theorem places_eq (p q : Places) : (p.a == q.a && (p.b == q.b && p.c == q.c)) = (p == q) := by
  rw [Bool.eq_iff_iff]; cases p; cases q; simp
theorem c94x (queue : List Msg) (next pa pb pc : Int) (flight : List Chunk) (turn : Int) (hs : SOk ⟨queue, next, ⟨pa, pb, pc⟩, flight, turn⟩) : VFun G 94 [.agg [.shr 2 (msgCells queue), .lit (.int .i64 next), .lit (.int .i64 pa), .lit (.int .i64 pb), .lit (.int .i64 pc), .shr 6 (chunkCells flight), .lit (.int .i64 turn)]] []
    (.agg [.row 901, .lit (.int .i64 next), .lit (.int .i64 pa), .lit (.int .i64 pb), .lit (.int .i64 pc), .row 902, .lit (.int .i64 turn)]) [(901, .row 48 2 (msgCells queue)), (902, .row 77 6 (chunkCells flight))] := c94 ⟨queue, next, ⟨pa, pb, pc⟩, flight, turn⟩ hs.q hs.f hs.e
theorem sender_eq (s t : Sender) : (s == t) = (s.queue == t.queue && (s.next == t.next && (s.places == t.places && (s.flight == t.flight && s.turn == t.turn)))) := by
  rw [Bool.eq_iff_iff]; cases s; cases t; simp

theorem c98 (s : Sender) (c : Chunk) (hf : s.flight.length ≤ 1000000) : VFun G 98 [.agg (senderAV s), .agg (chunkAV c)] [] (.agg (senderAV (hear s c))) [] := by
 refine VFun.intro (fn := Try.f98) rfl rfl (by kernel_rfl) (nb rfl) fun Γ hpar => ?_
 refine vw_seq ?_
 refine vw_lenA (t := 1) (j := 5) rfl rfl fun hl => ?_
 rw [intCells_length] at hl
 refine vw_region ?_
 refine u_box 100 rfl rfl rfl (notPar hpar rfl) rfl rfl trivial ?_
 refine u_box 101 rfl rfl rfl (notPar hpar rfl) rfl rfl trivial ?_
 refine u_alloc 102 rfl rfl (notPar hpar rfl) rfl rfl trivial ?_
 refine u_end trivial ?_
 refine vw_seq ?_
 refine vw_seq ?_
 refine vw_region ?_
 refine u_fieldAddr rfl rfl rfl rfl rfl rfl trivial ?_
 refine u_load1 rfl rfl rfl rfl rfl rfl trivial ?_
 refine s_neq rfl rfl rfl trivial (fun h13 => ?_) (fun h13 => ?_)
 ·refine u_end trivial ?_
  refine vw_condT rfl ?_
  refine vw_seq ?_
  refine vw_region ?_
  refine u_loadAll rfl rfl rfl rfl rfl rfl trivial ?_
  refine u_storeAll rfl rfl rfl rfl rfl rfl rfl rfl trivial ?_
  refine u_end trivial ?_
  refine vw_ret ?_
  rw [hear_no h13]
  refine fin' [] (.inr rfl) (.cons (.cellN rfl rfl rfl rfl rfl) .nil) (mk_wk [] rfl rfl ⟨⟨_, rfl, (.agg _ _ (.cons (subS ?_) (.cons (subI ?_) (.cons (subI ?_) (.cons (subI ?_) (.cons (subI ?_) (.cons (subS ?_) (.cons (subI ?_) .nil))))))))⟩, trivial⟩ trivial (parOk rfl rfl))
  all_goals (try rfl)
  all_goals
    rw [List.take_of_length_le (by omega)]
 ·refine u_end trivial ?_
  refine vw_condF rfl ?_
  refine vw_skip ?_
  refine vw_seq ?_
  refine vw_region ?_
  refine u_assign rfl rfl trivial ?_
  refine u_end trivial ?_
  refine vw_seq ?_
  refine vw_seq ?_
  refine vw_region ?_
  refine u_fieldAddr rfl rfl rfl rfl rfl rfl trivial ?_
  refine u_load1 rfl rfl rfl rfl rfl rfl trivial ?_
  refine u_len rfl rfl rfl trivial ?_
  refine u_move rfl rfl trivial ?_
  refine u_end trivial ?_
  refine vw_block ?_
  refine vw_loopR (fun n_ E => ∃ (i : Nat), ((i ≤ s.flight.length)) ∧ n_ = s.flight.length - i ∧ E = ⟨[(2, .ptr 2 0), (3, .ptr 3 0), (4, .ptr 4 0), (5, .row 5), (16, .shr 6 (chunkCells s.flight)), (17, .lit (.int .i64 (chunkCells s.flight).length)), (18, .lit (.int .i64 i))], [(2, .box (senderAV s)), (3, .box (chunkAV c)), (4, .box [.lit (.slice none 0 0), .lit (.int .i64 0), .lit (.int .i64 0), .lit (.int .i64 0), .lit (.int .i64 0), .lit (.slice none 0 0), .lit (.int .i64 0)]), (5, .row 77 6 (chunkCells ((s.flight.take i).filter (keeps c))))], 52⟩) (n0 := _) (E0 := _) (⟨0, by omega, rfl, rfl⟩) (ren [(2, 100), (3, 101), (4, 102)]) (mk_wk [(2, 100), (3, 101), (4, 102)] rfl rfl ⟨⟨_, rfl, (.ptr _ _ _ rfl (lookNe rfl))⟩, ⟨_, rfl, (.ptr _ _ _ rfl (lookNe rfl))⟩, ⟨_, rfl, (.ptr _ _ _ rfl (lookNe rfl))⟩, ⟨_, rfl, .nilrow _ _ _ _ rfl rfl⟩, ⟨_, rfl, (.shr _ _)⟩, ⟨_, rfl, (.lit _)⟩, ⟨_, rfl, (.lit _)⟩, trivial⟩ ⟨⟨_, _, rfl, rfl, (subPL rfl)⟩, ⟨_, _, rfl, rfl, (subPL rfl)⟩, ⟨_, _, rfl, rfl, (subPL rfl)⟩, (.inr (.inl ⟨rfl, rfl⟩)), trivial⟩ (parOk hpar rfl)) (fun n_ E hR => ?_)
  obtain ⟨i, hI, rfl, rfl⟩ := hR
  have hI0 := hI
  refine vw_seq ?_
  refine vw_region ?_
  refine s_lss rfl rfl rfl trivial (fun h19 => ?_) (fun h19 => ?_)
  ·refine u_end trivial ?_
   refine vw_seq ?_
   refine vw_condT rfl ?_
   refine vw_skip ?_
   refine vw_seq ?_
   refine vw_block ?_
   refine vw_seq ?_
   rw [chunkCells_length] at h19
   obtain ⟨x, hx⟩ : ∃ x, s.flight[i]? = some x := ⟨_, List.getElem?_eq_getElem (by omega)⟩
   refine vw_region ?_
   refine u_indexS rfl rfl rfl rfl rfl rfl (chunkCells_get' hx) rfl trivial ?_
   refine u_loadSAll rfl rfl rfl rfl rfl trivial ?_
   refine u_alloc 123 rfl rfl (notPar hpar rfl) rfl rfl trivial ?_
   refine u_storeAll rfl rfl rfl rfl rfl rfl rfl rfl trivial ?_
   refine u_end trivial ?_
   refine vw_seq ?_
   refine vw_region ?_
   refine u_fieldAddr rfl rfl rfl rfl rfl rfl trivial ?_
   refine u_load1 rfl rfl rfl rfl rfl rfl trivial ?_
   refine u_fieldAddr rfl rfl rfl rfl rfl rfl trivial ?_
   refine u_load1 rfl rfl rfl rfl rfl rfl trivial ?_
   refine u_lss rfl rfl rfl trivial ?_
   refine u_assign rfl rfl trivial ?_
   refine u_end trivial ?_
   refine vw_seq ?_
   refine vw_seq ?_
   refine vw_region ?_
   refine u_fieldAddr rfl rfl rfl rfl rfl rfl trivial ?_
   refine u_load1 rfl rfl rfl rfl rfl rfl trivial ?_
   refine u_len rfl rfl rfl trivial ?_
   refine u_move rfl rfl trivial ?_
   refine u_end trivial ?_
   refine vw_block ?_
   refine vw_loopR (fun n_ E => ∃ (j : Nat), ((j ≤ c.early.length)) ∧ n_ = c.early.length - j ∧ E = ⟨[(2, .ptr 2 0), (3, .ptr 3 0), (4, .ptr 4 0), (5, .row 5), (7, .ptr 7 0), (16, .shr 6 (chunkCells s.flight)), (17, .lit (.int .i64 (chunkCells s.flight).length)), (18, .lit (.int .i64 i)), (28, .shr 1 (intCells c.early)), (29, .lit (.int .i64 (intCells c.early).length)), (30, .lit (.int .i64 j)), (8, .lit (.bool (decide (x.num < c.num) || (c.early.take j).contains x.num)))], [(2, .box (senderAV s)), (3, .box (chunkAV c)), (4, .box [.lit (.slice none 0 0), .lit (.int .i64 0), .lit (.int .i64 0), .lit (.int .i64 0), .lit (.int .i64 0), .lit (.slice none 0 0), .lit (.int .i64 0)]), (5, .row 77 6 (chunkCells ((s.flight.take i).filter (keeps c)))), (7, .box (chunkAV x))], 52⟩) (n0 := _) (E0 := _) (⟨0, by omega, rfl, rfl⟩) (ren [(2, 2), (3, 3), (4, 4), (5, 5), (7, 123)]) (mk_wk [(2, 2), (3, 3), (4, 4), (5, 5), (7, 123)] rfl rfl ⟨⟨_, rfl, (.ptr _ _ _ rfl (lookNe rfl))⟩, ⟨_, rfl, (.ptr _ _ _ rfl (lookNe rfl))⟩, ⟨_, rfl, (.ptr _ _ _ rfl (lookNe rfl))⟩, ⟨_, rfl, (.row _ _ rfl (lookNe rfl))⟩, ⟨_, rfl, (.ptr _ _ _ rfl (lookNe rfl))⟩, ⟨_, rfl, (.shr _ _)⟩, ⟨_, rfl, (.lit _)⟩, ⟨_, rfl, (.lit _)⟩, ⟨_, rfl, (.shr _ _)⟩, ⟨_, rfl, (.lit _)⟩, ⟨_, rfl, (.lit _)⟩, ⟨_, rfl, (subB (by simp))⟩, trivial⟩ ⟨⟨_, _, rfl, rfl, (subPL rfl)⟩, ⟨_, _, rfl, rfl, (subPL rfl)⟩, ⟨_, _, rfl, rfl, (subPL rfl)⟩, (.inl ⟨_, rfl, rfl⟩), ⟨_, _, rfl, rfl, (subPL rfl)⟩, trivial⟩ (parOk hpar rfl)) (fun n_ E hR => ?_)
   obtain ⟨j, hI, rfl, rfl⟩ := hR
   have hI0 := hI
   refine vw_seq ?_
   refine vw_region ?_
   refine s_lss rfl rfl rfl trivial (fun h31 => ?_) (fun h31 => ?_)
   ·refine u_end trivial ?_
    refine vw_seq ?_
    refine vw_condT rfl ?_
    refine vw_skip ?_
    refine vw_seq ?_
    refine vw_block ?_
    refine vw_seq ?_
    rw [intCells_length] at h31
    obtain ⟨n, hn⟩ : ∃ n, c.early[j]? = some n := ⟨_, List.getElem?_eq_getElem (by omega)⟩
    refine vw_region ?_
    refine u_indexS rfl rfl rfl rfl rfl rfl (intCells_get hn) rfl trivial ?_
    refine u_loadS1 rfl rfl rfl rfl rfl trivial ?_
    refine u_assign rfl rfl trivial ?_
    refine u_end trivial ?_
    refine vw_region ?_
    refine s_move rfl rfl trivial (fun h34 => ?_) (fun h34 => ?_)
    ·refine u_move rfl rfl trivial ?_
     refine u_skip rfl rfl rfl rfl rfl ?_
     refine u_skip rfl rfl rfl rfl rfl ?_
     refine u_skip rfl rfl rfl rfl rfl ?_
     refine u_skip rfl rfl rfl rfl rfl ?_
     refine u_pickT rfl rfl rfl trivial ?_
     refine u_assign rfl rfl trivial ?_
     refine u_end trivial ?_
     refine vw_region ?_
     refine u_add rfl rfl rfl (by unfold inI; omega) rfl trivial ?_
     refine u_move rfl rfl trivial ?_
     refine u_end trivial ?_
     refine ⟨_, _, ren [(2, 2), (3, 3), (4, 4), (5, 5), (7, 7)], ?_, ⟨j + 1, ?_, rfl, rfl⟩, mk_wk [(2, 2), (3, 3), (4, 4), (5, 5), (7, 7)] rfl rfl ⟨⟨_, rfl, (.ptr _ _ _ rfl (lookNe rfl))⟩, ⟨_, rfl, (.ptr _ _ _ rfl (lookNe rfl))⟩, ⟨_, rfl, (.ptr _ _ _ rfl (lookNe rfl))⟩, ⟨_, rfl, (.row _ _ rfl (lookNe rfl))⟩, ⟨_, rfl, (.ptr _ _ _ rfl (lookNe rfl))⟩, ⟨_, rfl, (.shr _ _)⟩, ⟨_, rfl, (.lit _)⟩, ⟨_, rfl, (.lit _)⟩, ⟨_, rfl, (.shr _ _)⟩, ⟨_, rfl, (.lit _)⟩, ⟨_, rfl, (.lit _)⟩, ⟨_, rfl, (subB (by rw [contains_snoc hn, ← Bool.or_assoc, h34]; simp))⟩, trivial⟩ ⟨⟨_, _, rfl, rfl, (subPL rfl)⟩, ⟨_, _, rfl, rfl, (subPL rfl)⟩, ⟨_, _, rfl, rfl, (subPL rfl)⟩, (.inl ⟨_, rfl, rfl⟩), ⟨_, _, rfl, rfl, (subPL rfl)⟩, trivial⟩ (parOk hpar rfl)⟩
     ·omega
     ·omega
    ·refine u_move rfl rfl trivial ?_
     refine u_move rfl rfl ⟨_, _, rfl, rfl, rfl, rfl⟩ ?_
     refine u_fieldAddr rfl rfl rfl rfl rfl rfl ⟨_, _, rfl, rfl, rfl, rfl⟩ ?_
     refine u_load1 rfl rfl rfl rfl rfl rfl ⟨_, _, rfl, rfl, rfl, rfl⟩ ?_
     refine u_eql rfl rfl rfl ⟨_, _, rfl, rfl, rfl, rfl⟩ ?_
     refine u_pickF rfl rfl rfl trivial ?_
     refine u_assign rfl rfl trivial ?_
     refine u_end trivial ?_
     refine vw_region ?_
     refine u_add rfl rfl rfl (by unfold inI; omega) rfl trivial ?_
     refine u_move rfl rfl trivial ?_
     refine u_end trivial ?_
     refine ⟨_, _, ren [(2, 2), (3, 3), (4, 4), (5, 5), (7, 7)], ?_, ⟨j + 1, ?_, rfl, rfl⟩, mk_wk [(2, 2), (3, 3), (4, 4), (5, 5), (7, 7)] rfl rfl ⟨⟨_, rfl, (.ptr _ _ _ rfl (lookNe rfl))⟩, ⟨_, rfl, (.ptr _ _ _ rfl (lookNe rfl))⟩, ⟨_, rfl, (.ptr _ _ _ rfl (lookNe rfl))⟩, ⟨_, rfl, (.row _ _ rfl (lookNe rfl))⟩, ⟨_, rfl, (.ptr _ _ _ rfl (lookNe rfl))⟩, ⟨_, rfl, (.shr _ _)⟩, ⟨_, rfl, (.lit _)⟩, ⟨_, rfl, (.lit _)⟩, ⟨_, rfl, (.shr _ _)⟩, ⟨_, rfl, (.lit _)⟩, ⟨_, rfl, (.lit _)⟩, ⟨_, rfl, (subB (by rw [contains_snoc hn, ← Bool.or_assoc, h34]; simp))⟩, trivial⟩ ⟨⟨_, _, rfl, rfl, (subPL rfl)⟩, ⟨_, _, rfl, rfl, (subPL rfl)⟩, ⟨_, _, rfl, rfl, (subPL rfl)⟩, (.inl ⟨_, rfl, rfl⟩), ⟨_, _, rfl, rfl, (subPL rfl)⟩, trivial⟩ (parOk hpar rfl)⟩
     ·omega
     ·omega
   ·refine u_end trivial ?_
    refine vw_seq ?_
    refine vw_condF rfl ?_
    refine vw_exit ?_
    refine iteP rfl ?_
    refine vw_seq ?_
    rw [intCells_length] at h31
    rw [List.take_of_length_le (show c.early.length ≤ j by omega)]
    refine vw_region ?_
    refine s_move rfl rfl trivial (fun h42 => ?_) (fun h42 => ?_)
    ·refine u_not rfl rfl trivial ?_
     refine u_end trivial ?_
     refine vw_condF rfl ?_
     refine vw_skip ?_
     refine vw_region ?_
     refine u_add rfl rfl rfl (by unfold inI; omega) rfl trivial ?_
     refine u_move rfl rfl trivial ?_
     refine u_end trivial ?_
     refine ⟨_, _, ren [(2, 2), (3, 3), (4, 4), (5, 5)], ?_, ⟨i + 1, ?_, rfl, rfl⟩, mk_wk [(2, 2), (3, 3), (4, 4), (5, 5)] rfl rfl ⟨⟨_, rfl, (.ptr _ _ _ rfl (lookNe rfl))⟩, ⟨_, rfl, (.ptr _ _ _ rfl (lookNe rfl))⟩, ⟨_, rfl, (.ptr _ _ _ rfl (lookNe rfl))⟩, ⟨_, rfl, (.row _ _ rfl (lookNe rfl))⟩, ⟨_, rfl, (.shr _ _)⟩, ⟨_, rfl, (.lit _)⟩, ⟨_, rfl, (.lit _)⟩, trivial⟩ ⟨⟨_, _, rfl, rfl, (subPL rfl)⟩, ⟨_, _, rfl, rfl, (subPL rfl)⟩, ⟨_, _, rfl, rfl, (subPL rfl)⟩, (.inl ⟨_, rfl, rowEq rfl (by rw [filter_n' hx (not_told_n h42)])⟩), trivial⟩ (parOk hpar rfl)⟩
     ·omega
     ·omega
    ·refine u_not rfl rfl trivial ?_
     refine u_end trivial ?_
     refine vw_condT rfl ?_
     refine vw_region ?_
     refine u_move rfl rfl trivial ?_
     refine u_loadAll rfl rfl rfl rfl rfl rfl trivial ?_
     refine u_buildSlice 144 rfl rfl rfl rfl rfl rfl rfl rfl rfl rfl (notPar hpar rfl) rfl rfl trivial ?_
     refine u_append 145 rfl rfl rfl (srcRow rfl) rfl (notPar hpar rfl) rfl rfl rfl rfl rfl (by have := List.length_filter_le (keeps c) (s.flight.take i); rw [List.length_take] at this; simp [cellsL, chunkCells_length]; omega) rfl trivial ?_
     refine u_assign rfl rfl trivial ?_
     refine u_end trivial ?_
     refine vw_region ?_
     refine u_add rfl rfl rfl (by unfold inI; omega) rfl trivial ?_
     refine u_move rfl rfl trivial ?_
     refine u_end trivial ?_
     refine ⟨_, _, ren [(2, 2), (3, 3), (4, 4), (5, 145)], ?_, ⟨i + 1, ?_, rfl, rfl⟩, mk_wk [(2, 2), (3, 3), (4, 4), (5, 145)] rfl rfl ⟨⟨_, rfl, (.ptr _ _ _ rfl (lookNe rfl))⟩, ⟨_, rfl, (.ptr _ _ _ rfl (lookNe rfl))⟩, ⟨_, rfl, (.ptr _ _ _ rfl (lookNe rfl))⟩, ⟨_, rfl, (.row _ _ rfl (lookNe rfl))⟩, ⟨_, rfl, (.shr _ _)⟩, ⟨_, rfl, (.lit _)⟩, ⟨_, rfl, (.lit _)⟩, trivial⟩ ⟨⟨_, _, rfl, rfl, (subPL rfl)⟩, ⟨_, _, rfl, rfl, (subPL rfl)⟩, ⟨_, _, rfl, rfl, (subPL rfl)⟩, (.inl ⟨_, rfl, rowEq rfl (by rw [filter_y' hx (not_told_y h42), chunkCells_app]; rfl)⟩), trivial⟩ (parOk hpar rfl)⟩
     ·omega
     ·omega
  ·refine u_end trivial ?_
   refine vw_seq ?_
   refine vw_condF rfl ?_
   refine vw_exit ?_
   refine iteP rfl ?_
   refine vw_seq ?_
   rw [chunkCells_length] at h19
   refine vw_region ?_
   refine u_move rfl rfl trivial ?_
   refine u_fieldAddr rfl rfl rfl rfl rfl rfl trivial ?_
   refine u_store rfl rfl rfl rfl rfl rfl rfl trivial ?_
   refine u_end trivial ?_
   refine vw_seq ?_
   refine vw_region ?_
   refine u_loadAll rfl rfl rfl rfl rfl rfl trivial ?_
   refine u_storeAll rfl rfl rfl rfl rfl rfl rfl rfl trivial ?_
   refine u_end trivial ?_
   refine vw_ret ?_
   rw [hear_yes (by omega)]
   refine fin' [] (.inr rfl) (.cons (.cellN rfl rfl rfl rfl rfl) .nil) (mk_wk [] rfl rfl ⟨⟨_, rfl, (.agg _ _ (.cons (subS ?_) (.cons (subI ?_) (.cons (subI ?_) (.cons (subI ?_) (.cons (subI ?_) (.cons (subFz rfl (fzL rfl) ?_) (.cons (subI ?_) .nil))))))))⟩, trivial⟩ trivial (parOk rfl rfl))
   all_goals (try rfl)
   all_goals
     rw [List.take_of_length_le (by omega)]
theorem c97 (s : Sender) (c : Chunk) (hs : SOk s) : VFun G 97 [.agg (senderAV s), .agg (chunkAV c)] [] (.agg (senderAV (hear s c))) [] := by
 refine VFun.intro (fn := Try.f97) rfl rfl (by kernel_rfl) (nb rfl) fun Γ hpar => ?_
 refine vw_seq ?_
 refine vw_region ?_
 refine u_box 100 rfl rfl rfl (notPar hpar rfl) rfl rfl trivial ?_
 refine u_box 101 rfl rfl rfl (notPar hpar rfl) rfl rfl trivial ?_
 refine u_alloc 102 rfl rfl (notPar hpar rfl) rfl rfl trivial ?_
 refine u_end trivial ?_
 refine vw_seq ?_
 refine vw_region ?_
 refine u_loadAll rfl rfl rfl rfl rfl rfl trivial ?_
 refine u_callO [] [] [] rfl rfl (c94 s hs.q hs.f hs.e) inc_nil trivial (.cons ((subP rfl)) .nil) rfl rfl (newPar hpar rfl) rfl trivial ?_
 refine u_alloc 103 rfl rfl (notPar hpar rfl) rfl rfl trivial ?_
 refine u_storeAll rfl rfl rfl rfl rfl rfl rfl rfl trivial ?_
 refine u_end trivial ?_
 refine vw_seq ?_
 refine vw_seq ?_
 refine vw_region ?_
 refine u_fieldAddr rfl rfl rfl rfl rfl rfl trivial ?_
 refine u_load1 rfl rfl rfl rfl rfl rfl trivial ?_
 refine s_neq rfl rfl rfl trivial (fun h10 => ?_) (fun h10 => ?_)
 ·refine u_end trivial ?_
  refine vw_condT rfl ?_
  refine vw_seq ?_
  refine vw_region ?_
  refine u_loadAll rfl rfl rfl rfl rfl rfl trivial ?_
  refine u_storeAll rfl rfl rfl rfl rfl rfl rfl rfl trivial ?_
  refine u_end trivial ?_
  refine vw_ret ?_
  rw [hear_no h10]
  refine fin' [] (.inr rfl) (.cons (.cellN rfl rfl rfl rfl rfl) .nil) (mk_wk [] rfl rfl ⟨⟨_, rfl, (.agg _ _ (.cons (subFz rfl (fzL rfl) ?_) (.cons (subI ?_) (.cons (subI ?_) (.cons (subI ?_) (.cons (subI ?_) (.cons (subFz rfl (fzL rfl) ?_) (.cons (subI ?_) .nil))))))))⟩, trivial⟩ trivial (parOk rfl rfl))
  all_goals (try rfl)
 ·refine u_end trivial ?_
  refine vw_condF rfl ?_
  refine vw_skip ?_
  refine vw_seq ?_
  refine vw_region ?_
  refine u_fieldAddr rfl rfl rfl rfl rfl rfl trivial ?_
  refine u_load1 rfl rfl rfl rfl rfl rfl trivial ?_
  refine u_makeFunc (vs := [_]) rfl rfl trivial ?_
  refine u_callO [(902, 902), (101, 101)] [] [902] rfl rfl (c143 _ _ (by have := hs.f; omega)) (inc_cons (k0 := 902) rfl (inc_cons (k0 := 101) rfl inc_nil)) ⟨(.inl ⟨_, rfl, rfl⟩), ⟨_, _, rfl, rfl, (subPL rfl)⟩, trivial⟩ (.cons ((.row _ _ rfl (lookNe rfl))) (.cons ((.clo _ _ _ (.cons (.ptr _ _ _ rfl (lookNe rfl)) .nil))) .nil)) rfl rfl (newPar hpar rfl) rfl trivial ?_
  refine u_fieldAddr rfl rfl rfl rfl rfl rfl trivial ?_
  refine u_store rfl rfl rfl rfl rfl rfl rfl trivial ?_
  refine u_end trivial ?_
  refine vw_seq ?_
  refine vw_region ?_
  refine u_loadAll rfl rfl rfl rfl rfl rfl trivial ?_
  refine u_storeAll rfl rfl rfl rfl rfl rfl rfl rfl trivial ?_
  refine u_end trivial ?_
  refine vw_ret ?_
  rw [hear_yes (by omega)]
  refine fin' [] (.inr rfl) (.cons (.cellN rfl rfl rfl rfl rfl) .nil) (mk_wk [] rfl rfl ⟨⟨_, rfl, (.agg _ _ (.cons (subFz rfl (fzL rfl) ?_) (.cons (subI ?_) (.cons (subI ?_) (.cons (subI ?_) (.cons (subI ?_) (.cons (subFz rfl (fzL rfl) ?_) (.cons (subI ?_) .nil))))))))⟩, trivial⟩ trivial (parOk rfl rfl))
  all_goals (try rfl)
theorem c96 (queue : List Msg) (next pa pb pc : Int) (flight : List Chunk) (turn : Int) (hs : SOk ⟨queue, next, ⟨pa, pb, pc⟩, flight, turn⟩) : VFun G 96 [.agg [.shr 2 (msgCells queue), .lit (.int .i64 next), .lit (.int .i64 pa), .lit (.int .i64 pb), .lit (.int .i64 pc), .shr 6 (chunkCells flight), .lit (.int .i64 turn)]] [] (.tup [.agg (senderAV (say ⟨queue, next, ⟨pa, pb, pc⟩, flight, turn⟩).1), .agg (chunkAV (say ⟨queue, next, ⟨pa, pb, pc⟩, flight, turn⟩).2.1), .lit (.bool (say ⟨queue, next, ⟨pa, pb, pc⟩, flight, turn⟩).2.2)]) [] := by
 have hq := hs.q; have hf := hs.f; have hn := hs.n; have ht := hs.t; have hp := hs.p; have hm := hs.m; have he := hs.e
 simp only at hq hf hn ht hp hm he
 refine VFun.intro (fn := Try.f96) rfl rfl (by kernel_rfl) (nb rfl) fun Γ hpar => ?_
 refine vw_seq ?_
 refine vw_region ?_
 refine u_box 100 rfl rfl rfl (notPar hpar rfl) rfl rfl trivial ?_
 refine u_alloc 101 rfl rfl (notPar hpar rfl) rfl rfl trivial ?_
 refine u_alloc 102 rfl rfl (notPar hpar rfl) rfl rfl trivial ?_
 refine u_assign rfl rfl trivial ?_
 refine u_end trivial ?_
 refine vw_seq ?_
 refine vw_seq ?_
 rcases queue with _ | ⟨⟨stv, data⟩, q⟩
 ·refine vw_region ?_
  refine u_fieldAddr rfl rfl rfl rfl rfl rfl trivial ?_
  refine u_load1 rfl rfl rfl rfl rfl rfl trivial ?_
  refine u_len rfl rfl rfl trivial ?_
  refine s_eql rfl rfl rfl trivial (fun h11 => ?_) (fun h11 => ?_)
  ·refine u_move rfl rfl trivial ?_
   refine u_fieldAddr rfl rfl rfl rfl rfl rfl ⟨_, _, rfl, rfl, rfl, rfl⟩ ?_
   refine u_load1 rfl rfl rfl rfl rfl rfl ⟨_, _, rfl, rfl, rfl, rfl⟩ ?_
   refine u_len rfl rfl rfl ⟨_, _, rfl, rfl, rfl, rfl⟩ ?_
   refine s_eql rfl rfl rfl ⟨_, _, rfl, rfl, rfl, rfl⟩ (fun h16 => ?_) (fun h16 => ?_)
   ·refine u_pickT rfl rfl rfl trivial ?_
    refine u_end trivial ?_
    refine vw_condT rfl ?_
    refine vw_seq ?_
    refine vw_region ?_
    refine u_loadAll rfl rfl rfl rfl rfl rfl trivial ?_
    refine u_build rfl rfl rfl rfl rfl trivial ?_
    refine u_storeAll rfl rfl rfl rfl rfl rfl rfl rfl trivial ?_
    refine u_storeAll rfl rfl rfl rfl rfl rfl rfl rfl trivial ?_
    refine u_assign rfl rfl trivial ?_
    refine u_end trivial ?_
    refine vw_ret ?_
    rw [say_none rfl (List.eq_nil_of_length_eq_zero (by (try simp only [msgCells_length, chunkCells_length, intCells_length, byteCells_length] at *); omega))]
    refine fin' [] (.inr rfl) (.cons (.cellN rfl rfl rfl rfl rfl) (.cons (.cellN rfl rfl rfl rfl rfl) (.cons (.tmp rfl (nb rfl)) .nil))) (mk_wk [] rfl rfl ⟨⟨_, rfl, (.tup _ _ (.cons (.agg _ _ (.cons (subS ?_) (.cons (subI ?_) (.cons (subI ?_) (.cons (subI ?_) (.cons (subI ?_) (.cons (subS ?_) (.cons (subI ?_) .nil)))))))) (.cons (.agg _ _ (.cons (subI ?_) (.cons (subI ?_) (.cons (subI ?_) (.cons (subI ?_) (.cons (subNs ?_) (.cons (subNs ?_) .nil))))))) (.cons (subB ?_) .nil))))⟩, trivial⟩ trivial (parOk rfl rfl))
    all_goals (try rfl)
    all_goals
      first | ((try simp only [msgCells_length, chunkCells_length, intCells_length, byteCells_length] at *); omega) | (exact chunkCells_app _ _) | (exact (chunkCells_app flight _).trans rfl) | (rw [List.drop_one]; rfl)
   ·refine u_pickT rfl rfl rfl trivial ?_
    refine u_end trivial ?_
    refine vw_condF rfl ?_
    refine vw_skip ?_
    refine vw_seq ?_
    refine vw_seq ?_
    refine vw_region ?_
    refine u_fieldAddr rfl rfl rfl rfl rfl rfl trivial ?_
    refine u_load1 rfl rfl rfl rfl rfl rfl trivial ?_
    refine u_len rfl rfl rfl trivial ?_
    refine s_eql rfl rfl rfl trivial (fun h23 => ?_) (fun h23 => ?_)
    ·refine u_move rfl rfl trivial ?_
     refine u_skip rfl rfl rfl rfl rfl ?_
     refine u_skip rfl rfl rfl rfl rfl ?_
     refine u_skip rfl rfl rfl rfl rfl ?_
     refine u_skip rfl rfl rfl rfl rfl ?_
     refine u_pickT rfl rfl rfl trivial ?_
     refine u_end trivial ?_
     refine vw_condT rfl ?_
     refine vw_seq ?_
     (try simp only [msgCells_length, chunkCells_length, intCells_length, byteCells_length] at *)
     have hL : (0 : Int) < flight.length := by first | omega | (have := h16; omega)
     obtain ⟨k, hk1, hk2⟩ := turn_in (t := turn) (n := flight.length) ht.1 (by omega)
     obtain ⟨g1, g2, g3⟩ := turn_quo ht.1 (show 0 < flight.length by omega) hk1
     refine vw_draw ?_
     refine u_fieldAddr rfl rfl rfl rfl rfl rfl trivial ?_
     refine u_load1 rfl rfl rfl rfl rfl rfl trivial ?_
     refine u_fieldAddr rfl rfl rfl rfl rfl rfl trivial ?_
     refine u_load1 rfl rfl rfl rfl rfl rfl trivial ?_
     refine u_fieldAddr rfl rfl rfl rfl rfl rfl trivial ?_
     refine u_load1 rfl rfl rfl rfl rfl rfl trivial ?_
     refine u_len rfl rfl rfl trivial ?_
     refine u_quoN rfl rfl (by (try simp only [msgCells_length, chunkCells_length, intCells_length, byteCells_length] at *); unfold inI; omega) rfl trivial ?_
     refine u_fieldAddr rfl rfl rfl rfl rfl rfl trivial ?_
     refine u_load1 rfl rfl rfl rfl rfl rfl trivial ?_
     refine u_len rfl rfl rfl trivial ?_
     refine u_mul rfl rfl rfl (by (try simp only [msgCells_length, chunkCells_length, intCells_length, byteCells_length] at *); unfold inI; omega) rfl trivial ?_
     refine u_sub rfl rfl rfl (by (try simp only [msgCells_length, chunkCells_length, intCells_length, byteCells_length] at *); unfold inI; omega) rfl trivial ?_
     refine u_assign rfl rfl trivial ?_
     refine u_end (by kernel_rfl) ?_
     refine vw_seq ?_
     refine vw_region ?_
     refine u_move rfl rfl trivial ?_
     refine u_add rfl rfl rfl (by (try simp only [msgCells_length, chunkCells_length, intCells_length, byteCells_length] at *); unfold inI; omega) rfl trivial ?_
     refine u_fieldAddr rfl rfl rfl rfl rfl rfl trivial ?_
     refine u_store rfl rfl rfl rfl rfl rfl rfl trivial ?_
     refine u_end trivial ?_
     refine vw_seq ?_
     refine vw_draw ?_
     refine u_loadAll rfl rfl rfl rfl rfl rfl trivial ?_
     refine u_fieldAddr rfl rfl rfl rfl rfl rfl trivial ?_
     refine u_load1 rfl rfl rfl rfl rfl rfl trivial ?_
     refine u_move rfl rfl trivial ?_
     refine u_indexS rfl rfl rfl rfl rfl (i := k) (by (try simp only [msgCells_length, chunkCells_length, intCells_length, byteCells_length] at *); omega) (chunkCells_get hk2) rfl trivial ?_
     refine u_loadSAll rfl rfl rfl rfl rfl trivial ?_
     refine u_storeAll rfl rfl rfl rfl rfl rfl rfl rfl trivial ?_
     refine u_storeAll rfl rfl rfl rfl rfl rfl rfl rfl trivial ?_
     refine u_assign rfl rfl trivial ?_
     refine u_end (by kernel_rfl) ?_
     refine vw_ret ?_
     rw [say_old2 rfl (ne_nil hL), sayOld_is (k := k) hk1 hk2]
     refine fin' [] (.inr rfl) (.cons (.cellN rfl rfl rfl rfl rfl) (.cons (.cellN rfl rfl rfl rfl rfl) (.cons (.tmp rfl (nb rfl)) .nil))) (mk_wk [] rfl rfl ⟨⟨_, rfl, (.tup _ _ (.cons (.agg _ _ (.cons (subS ?_) (.cons (subI ?_) (.cons (subI ?_) (.cons (subI ?_) (.cons (subI ?_) (.cons (subS ?_) (.cons (subI ?_) .nil)))))))) (.cons (.agg _ _ (.cons (subI ?_) (.cons (subI ?_) (.cons (subI ?_) (.cons (subI ?_) (.cons (subS ?_) (.cons (subS ?_) .nil))))))) (.cons (subB ?_) .nil))))⟩, trivial⟩ trivial (parOk rfl rfl))
     all_goals (try rfl)
     all_goals
       first | ((try simp only [msgCells_length, chunkCells_length, intCells_length, byteCells_length] at *); omega) | (exact chunkCells_app _ _) | (exact (chunkCells_app flight _).trans rfl) | (rw [List.drop_one]; rfl)
    ·exact absurd rfl h23
  ·exact absurd rfl h11
 ·refine vw_region ?_
  refine u_fieldAddr rfl rfl rfl rfl rfl rfl trivial ?_
  refine u_load1 rfl rfl rfl rfl rfl rfl trivial ?_
  refine u_len rfl rfl rfl trivial ?_
  refine s_eql rfl rfl rfl trivial (fun h11 => ?_) (fun h11 => ?_)
  ·simp [msgCells] at h11; omega
  ·refine u_move rfl rfl trivial ?_
   refine u_skip rfl rfl rfl rfl rfl ?_
   refine u_skip rfl rfl rfl rfl rfl ?_
   refine u_skip rfl rfl rfl rfl rfl ?_
   refine u_skip rfl rfl rfl rfl rfl ?_
   refine u_pickF rfl rfl rfl trivial ?_
   refine u_end trivial ?_
   refine vw_condF rfl ?_
   refine vw_skip ?_
   refine vw_seq ?_
   refine vw_seq ?_
   refine vw_region ?_
   refine u_fieldAddr rfl rfl rfl rfl rfl rfl trivial ?_
   refine u_load1 rfl rfl rfl rfl rfl rfl trivial ?_
   refine u_len rfl rfl rfl trivial ?_
   refine s_eql rfl rfl rfl trivial (fun h23 => ?_) (fun h23 => ?_)
   ·simp [msgCells] at h23; omega
   ·refine u_move rfl rfl trivial ?_
    refine u_fieldAddr rfl rfl rfl rfl rfl rfl ⟨_, _, rfl, rfl, rfl, rfl⟩ ?_
    refine u_load1 rfl rfl rfl rfl rfl rfl ⟨_, _, rfl, rfl, rfl, rfl⟩ ?_
    refine u_len rfl rfl rfl ⟨_, _, rfl, rfl, rfl, rfl⟩ ?_
    refine s_gtr rfl rfl rfl ⟨_, _, rfl, rfl, rfl, rfl⟩ (fun h28 => ?_) (fun h28 => ?_)
    ·refine u_pickF rfl rfl rfl trivial ?_
     refine u_end trivial ?_
     refine vw_condT rfl ?_
     refine vw_seq ?_
     (try simp only [msgCells_length, chunkCells_length, intCells_length, byteCells_length] at *)
     have hL : (0 : Int) < flight.length := by first | omega | (have := h16; omega)
     obtain ⟨k, hk1, hk2⟩ := turn_in (t := turn) (n := flight.length) ht.1 (by omega)
     obtain ⟨g1, g2, g3⟩ := turn_quo ht.1 (show 0 < flight.length by omega) hk1
     refine vw_draw ?_
     refine u_fieldAddr rfl rfl rfl rfl rfl rfl trivial ?_
     refine u_load1 rfl rfl rfl rfl rfl rfl trivial ?_
     refine u_fieldAddr rfl rfl rfl rfl rfl rfl trivial ?_
     refine u_load1 rfl rfl rfl rfl rfl rfl trivial ?_
     refine u_fieldAddr rfl rfl rfl rfl rfl rfl trivial ?_
     refine u_load1 rfl rfl rfl rfl rfl rfl trivial ?_
     refine u_len rfl rfl rfl trivial ?_
     refine u_quoN rfl rfl (by (try simp only [msgCells_length, chunkCells_length, intCells_length, byteCells_length] at *); unfold inI; omega) rfl trivial ?_
     refine u_fieldAddr rfl rfl rfl rfl rfl rfl trivial ?_
     refine u_load1 rfl rfl rfl rfl rfl rfl trivial ?_
     refine u_len rfl rfl rfl trivial ?_
     refine u_mul rfl rfl rfl (by (try simp only [msgCells_length, chunkCells_length, intCells_length, byteCells_length] at *); unfold inI; omega) rfl trivial ?_
     refine u_sub rfl rfl rfl (by (try simp only [msgCells_length, chunkCells_length, intCells_length, byteCells_length] at *); unfold inI; omega) rfl trivial ?_
     refine u_assign rfl rfl trivial ?_
     refine u_end (by kernel_rfl) ?_
     refine vw_seq ?_
     refine vw_region ?_
     refine u_move rfl rfl trivial ?_
     refine u_add rfl rfl rfl (by (try simp only [msgCells_length, chunkCells_length, intCells_length, byteCells_length] at *); unfold inI; omega) rfl trivial ?_
     refine u_fieldAddr rfl rfl rfl rfl rfl rfl trivial ?_
     refine u_store rfl rfl rfl rfl rfl rfl rfl trivial ?_
     refine u_end trivial ?_
     refine vw_seq ?_
     refine vw_draw ?_
     refine u_loadAll rfl rfl rfl rfl rfl rfl trivial ?_
     refine u_fieldAddr rfl rfl rfl rfl rfl rfl trivial ?_
     refine u_load1 rfl rfl rfl rfl rfl rfl trivial ?_
     refine u_move rfl rfl trivial ?_
     refine u_indexS rfl rfl rfl rfl rfl (i := k) (by (try simp only [msgCells_length, chunkCells_length, intCells_length, byteCells_length] at *); omega) (chunkCells_get hk2) rfl trivial ?_
     refine u_loadSAll rfl rfl rfl rfl rfl trivial ?_
     refine u_storeAll rfl rfl rfl rfl rfl rfl rfl rfl trivial ?_
     refine u_storeAll rfl rfl rfl rfl rfl rfl rfl rfl trivial ?_
     refine u_assign rfl rfl trivial ?_
     refine u_end (by kernel_rfl) ?_
     refine vw_ret ?_
     rw [say_old1 (m := (stv, data)) (q := q) rfl (by (try simp only [msgCells_length, chunkCells_length, intCells_length, byteCells_length] at *); omega), sayOld_is (k := k) hk1 hk2]
     refine fin' [] (.inr rfl) (.cons (.cellN rfl rfl rfl rfl rfl) (.cons (.cellN rfl rfl rfl rfl rfl) (.cons (.tmp rfl (nb rfl)) .nil))) (mk_wk [] rfl rfl ⟨⟨_, rfl, (.tup _ _ (.cons (.agg _ _ (.cons (subS ?_) (.cons (subI ?_) (.cons (subI ?_) (.cons (subI ?_) (.cons (subI ?_) (.cons (subS ?_) (.cons (subI ?_) .nil)))))))) (.cons (.agg _ _ (.cons (subI ?_) (.cons (subI ?_) (.cons (subI ?_) (.cons (subI ?_) (.cons (subS ?_) (.cons (subS ?_) .nil))))))) (.cons (subB ?_) .nil))))⟩, trivial⟩ trivial (parOk rfl rfl))
     all_goals (try rfl)
     all_goals
       first | ((try simp only [msgCells_length, chunkCells_length, intCells_length, byteCells_length] at *); omega) | (exact chunkCells_app _ _) | (exact (chunkCells_app flight _).trans rfl) | (rw [List.drop_one]; rfl)
    ·refine u_pickF rfl rfl rfl trivial ?_
     refine u_end trivial ?_
     refine vw_condF rfl ?_
     refine vw_skip ?_
     refine vw_seq ?_
     have hst := hm (stv, data) (by simp)
     simp only at hst
     rcases get3 hst with rfl | rfl | rfl
     ·refine vw_region ?_
      refine u_fieldAddr rfl rfl rfl rfl rfl rfl trivial ?_
      refine u_load1 rfl rfl rfl rfl rfl rfl trivial ?_
      refine u_indexS rfl rfl rfl rfl rfl (i := 0) rfl rfl rfl trivial ?_
      refine u_loadSAll rfl rfl rfl rfl rfl trivial ?_
      refine u_alloc 103 rfl rfl (notPar hpar rfl) rfl rfl trivial ?_
      refine u_storeAll rfl rfl rfl rfl rfl rfl rfl rfl trivial ?_
      refine u_end trivial ?_
      refine vw_seq ?_
      refine vw_draw ?_
      refine u_fieldAddr rfl rfl rfl rfl rfl rfl trivial ?_
      refine u_load1 rfl rfl rfl rfl rfl rfl trivial ?_
      refine u_fieldAddr rfl rfl rfl rfl rfl rfl trivial ?_
      refine u_load1 rfl rfl rfl rfl rfl rfl trivial ?_
      refine u_fieldAddr rfl rfl rfl rfl rfl rfl trivial ?_
      refine u_load1 rfl rfl rfl rfl rfl rfl trivial ?_
      refine u_fieldAddr rfl rfl rfl rfl rfl rfl trivial ?_
      refine u_indexA (i := 0) rfl rfl rfl rfl rfl (by rfl) (by decide) rfl trivial ?_
      refine u_load1 rfl rfl rfl rfl rfl rfl trivial ?_
      refine u_fieldAddr rfl rfl rfl rfl rfl rfl trivial ?_
      refine u_load1 rfl rfl rfl rfl rfl rfl trivial ?_
      refine u_buildZ rfl rfl rfl (.same _ (.same _ (.same _ (.same _ (.same _ (.see 1 .nil)))))) rfl rfl trivial ?_
      refine u_alloc 104 rfl rfl (notPar hpar rfl) rfl rfl trivial ?_
      refine u_storeAll rfl rfl rfl rfl rfl rfl rfl rfl trivial ?_
      refine u_end (by kernel_rfl) ?_
      refine vw_seq ?_
      refine vw_region ?_
      refine u_fieldAddr rfl rfl rfl rfl rfl rfl trivial ?_
      refine u_load1 rfl rfl rfl rfl rfl rfl trivial ?_
      refine u_sliceLo 1 rfl rfl (by rfl) (by simp [msgCells_length]) rfl rfl rfl rfl trivial ?_
      refine u_fieldAddr rfl rfl rfl rfl rfl rfl trivial ?_
      refine u_store rfl rfl rfl rfl rfl rfl rfl trivial ?_
      refine u_end trivial ?_
      refine vw_seq ?_
      refine vw_region ?_
      refine u_fieldAddr rfl rfl rfl rfl rfl rfl trivial ?_
      refine u_load1 rfl rfl rfl rfl rfl rfl trivial ?_
      refine u_add rfl rfl rfl (by unfold inI; omega) rfl trivial ?_
      refine u_fieldAddr rfl rfl rfl rfl rfl rfl trivial ?_
      refine u_store rfl rfl rfl rfl rfl rfl rfl trivial ?_
      refine u_end trivial ?_
      refine vw_seq ?_
      refine vw_draw ?_
      refine u_fieldAddr rfl rfl rfl rfl rfl rfl trivial ?_
      refine u_load1 rfl rfl rfl rfl rfl rfl trivial ?_
      refine u_fieldAddr rfl rfl rfl rfl rfl rfl trivial ?_
      refine u_load1 rfl rfl rfl rfl rfl rfl trivial ?_
      refine u_fieldAddr rfl rfl rfl rfl rfl rfl trivial ?_
      refine u_indexA (i := 0) rfl rfl rfl rfl rfl (by rfl) (by decide) rfl trivial ?_
      refine u_load1 rfl rfl rfl rfl rfl rfl trivial ?_
      refine u_add rfl rfl rfl (by unfold inI; omega) rfl trivial ?_
      refine u_fieldAddr rfl rfl rfl rfl rfl rfl trivial ?_
      refine u_indexA (i := 0) rfl rfl rfl rfl rfl (by rfl) (by decide) rfl trivial ?_
      refine u_store rfl rfl rfl rfl rfl rfl rfl trivial ?_
      refine u_end (by kernel_rfl) ?_
      refine vw_seq ?_
      refine vw_draw ?_
      refine u_buildSlice 105 rfl rfl rfl rfl rfl rfl rfl rfl rfl rfl (notPar hpar rfl) rfl rfl trivial ?_
      refine u_fieldAddr rfl rfl rfl rfl rfl rfl trivial ?_
      refine u_load1 rfl rfl rfl rfl rfl rfl trivial ?_
      refine u_append 106 rfl rfl rfl (.shr _ _) rfl (notPar hpar rfl) rfl rfl rfl rfl rfl (by simp [cellsL, chunkCells_length]; omega) rfl trivial ?_
      refine u_loadAll rfl rfl rfl rfl rfl rfl trivial ?_
      refine u_buildSlice 107 rfl rfl rfl rfl rfl rfl rfl rfl rfl rfl (notPar hpar rfl) rfl rfl trivial ?_
      refine u_append 108 rfl rfl rfl (srcRow rfl) rfl (notPar hpar rfl) rfl rfl rfl rfl rfl (by simp [cellsL, chunkCells_length]; omega) rfl trivial ?_
      refine u_fieldAddr rfl rfl rfl rfl rfl rfl trivial ?_
      refine u_store rfl rfl rfl rfl rfl rfl rfl trivial ?_
      refine u_end (by kernel_rfl) ?_
      refine vw_seq ?_
      refine vw_draw ?_
      refine u_loadAll rfl rfl rfl rfl rfl rfl trivial ?_
      refine u_loadAll rfl rfl rfl rfl rfl rfl trivial ?_
      refine u_storeAll rfl rfl rfl rfl rfl rfl rfl rfl trivial ?_
      refine u_storeAll rfl rfl rfl rfl rfl rfl rfl rfl trivial ?_
      refine u_assign rfl rfl trivial ?_
      refine u_end (by kernel_rfl) ?_
      refine vw_ret ?_
      rw [say_new (m := (0, data)) (q := q) rfl (by (try simp only [msgCells_length, chunkCells_length, intCells_length, byteCells_length] at *); omega)]
      refine fin' [] (.inr rfl) (.cons (.cellN rfl rfl rfl rfl rfl) (.cons (.cellN rfl rfl rfl rfl rfl) (.cons (.tmp rfl (nb rfl)) .nil))) (mk_wk [] rfl rfl ⟨⟨_, rfl, (.tup _ _ (.cons (.agg _ _ (.cons (subS ?_) (.cons (subI ?_) (.cons (subI ?_) (.cons (subI ?_) (.cons (subI ?_) (.cons (subFz rfl (fzL rfl) ?_) (.cons (subI ?_) .nil)))))))) (.cons (.agg _ _ (.cons (subI ?_) (.cons (subI ?_) (.cons (subI ?_) (.cons (subI ?_) (.cons (subS ?_) (.cons (subS ?_) .nil))))))) (.cons (subB ?_) .nil))))⟩, trivial⟩ trivial (parOk rfl rfl))
      all_goals (try rfl)
      all_goals
        first | ((try simp only [msgCells_length, chunkCells_length, intCells_length, byteCells_length] at *); omega) | (exact chunkCells_app _ _) | (exact (chunkCells_app flight _).trans rfl) | (rw [List.drop_one]; rfl)
     ·refine vw_region ?_
      refine u_fieldAddr rfl rfl rfl rfl rfl rfl trivial ?_
      refine u_load1 rfl rfl rfl rfl rfl rfl trivial ?_
      refine u_indexS rfl rfl rfl rfl rfl (i := 0) rfl rfl rfl trivial ?_
      refine u_loadSAll rfl rfl rfl rfl rfl trivial ?_
      refine u_alloc 103 rfl rfl (notPar hpar rfl) rfl rfl trivial ?_
      refine u_storeAll rfl rfl rfl rfl rfl rfl rfl rfl trivial ?_
      refine u_end trivial ?_
      refine vw_seq ?_
      refine vw_draw ?_
      refine u_fieldAddr rfl rfl rfl rfl rfl rfl trivial ?_
      refine u_load1 rfl rfl rfl rfl rfl rfl trivial ?_
      refine u_fieldAddr rfl rfl rfl rfl rfl rfl trivial ?_
      refine u_load1 rfl rfl rfl rfl rfl rfl trivial ?_
      refine u_fieldAddr rfl rfl rfl rfl rfl rfl trivial ?_
      refine u_load1 rfl rfl rfl rfl rfl rfl trivial ?_
      refine u_fieldAddr rfl rfl rfl rfl rfl rfl trivial ?_
      refine u_indexA (i := 1) rfl rfl rfl rfl rfl (by rfl) (by decide) rfl trivial ?_
      refine u_load1 rfl rfl rfl rfl rfl rfl trivial ?_
      refine u_fieldAddr rfl rfl rfl rfl rfl rfl trivial ?_
      refine u_load1 rfl rfl rfl rfl rfl rfl trivial ?_
      refine u_buildZ rfl rfl rfl (.same _ (.same _ (.same _ (.same _ (.same _ (.see 1 .nil)))))) rfl rfl trivial ?_
      refine u_alloc 104 rfl rfl (notPar hpar rfl) rfl rfl trivial ?_
      refine u_storeAll rfl rfl rfl rfl rfl rfl rfl rfl trivial ?_
      refine u_end (by kernel_rfl) ?_
      refine vw_seq ?_
      refine vw_region ?_
      refine u_fieldAddr rfl rfl rfl rfl rfl rfl trivial ?_
      refine u_load1 rfl rfl rfl rfl rfl rfl trivial ?_
      refine u_sliceLo 1 rfl rfl (by rfl) (by simp [msgCells_length]) rfl rfl rfl rfl trivial ?_
      refine u_fieldAddr rfl rfl rfl rfl rfl rfl trivial ?_
      refine u_store rfl rfl rfl rfl rfl rfl rfl trivial ?_
      refine u_end trivial ?_
      refine vw_seq ?_
      refine vw_region ?_
      refine u_fieldAddr rfl rfl rfl rfl rfl rfl trivial ?_
      refine u_load1 rfl rfl rfl rfl rfl rfl trivial ?_
      refine u_add rfl rfl rfl (by unfold inI; omega) rfl trivial ?_
      refine u_fieldAddr rfl rfl rfl rfl rfl rfl trivial ?_
      refine u_store rfl rfl rfl rfl rfl rfl rfl trivial ?_
      refine u_end trivial ?_
      refine vw_seq ?_
      refine vw_draw ?_
      refine u_fieldAddr rfl rfl rfl rfl rfl rfl trivial ?_
      refine u_load1 rfl rfl rfl rfl rfl rfl trivial ?_
      refine u_fieldAddr rfl rfl rfl rfl rfl rfl trivial ?_
      refine u_load1 rfl rfl rfl rfl rfl rfl trivial ?_
      refine u_fieldAddr rfl rfl rfl rfl rfl rfl trivial ?_
      refine u_indexA (i := 1) rfl rfl rfl rfl rfl (by rfl) (by decide) rfl trivial ?_
      refine u_load1 rfl rfl rfl rfl rfl rfl trivial ?_
      refine u_add rfl rfl rfl (by unfold inI; omega) rfl trivial ?_
      refine u_fieldAddr rfl rfl rfl rfl rfl rfl trivial ?_
      refine u_indexA (i := 1) rfl rfl rfl rfl rfl (by rfl) (by decide) rfl trivial ?_
      refine u_store rfl rfl rfl rfl rfl rfl rfl trivial ?_
      refine u_end (by kernel_rfl) ?_
      refine vw_seq ?_
      refine vw_draw ?_
      refine u_buildSlice 105 rfl rfl rfl rfl rfl rfl rfl rfl rfl rfl (notPar hpar rfl) rfl rfl trivial ?_
      refine u_fieldAddr rfl rfl rfl rfl rfl rfl trivial ?_
      refine u_load1 rfl rfl rfl rfl rfl rfl trivial ?_
      refine u_append 106 rfl rfl rfl (.shr _ _) rfl (notPar hpar rfl) rfl rfl rfl rfl rfl (by simp [cellsL, chunkCells_length]; omega) rfl trivial ?_
      refine u_loadAll rfl rfl rfl rfl rfl rfl trivial ?_
      refine u_buildSlice 107 rfl rfl rfl rfl rfl rfl rfl rfl rfl rfl (notPar hpar rfl) rfl rfl trivial ?_
      refine u_append 108 rfl rfl rfl (srcRow rfl) rfl (notPar hpar rfl) rfl rfl rfl rfl rfl (by simp [cellsL, chunkCells_length]; omega) rfl trivial ?_
      refine u_fieldAddr rfl rfl rfl rfl rfl rfl trivial ?_
      refine u_store rfl rfl rfl rfl rfl rfl rfl trivial ?_
      refine u_end (by kernel_rfl) ?_
      refine vw_seq ?_
      refine vw_draw ?_
      refine u_loadAll rfl rfl rfl rfl rfl rfl trivial ?_
      refine u_loadAll rfl rfl rfl rfl rfl rfl trivial ?_
      refine u_storeAll rfl rfl rfl rfl rfl rfl rfl rfl trivial ?_
      refine u_storeAll rfl rfl rfl rfl rfl rfl rfl rfl trivial ?_
      refine u_assign rfl rfl trivial ?_
      refine u_end (by kernel_rfl) ?_
      refine vw_ret ?_
      rw [say_new (m := (1, data)) (q := q) rfl (by (try simp only [msgCells_length, chunkCells_length, intCells_length, byteCells_length] at *); omega)]
      refine fin' [] (.inr rfl) (.cons (.cellN rfl rfl rfl rfl rfl) (.cons (.cellN rfl rfl rfl rfl rfl) (.cons (.tmp rfl (nb rfl)) .nil))) (mk_wk [] rfl rfl ⟨⟨_, rfl, (.tup _ _ (.cons (.agg _ _ (.cons (subS ?_) (.cons (subI ?_) (.cons (subI ?_) (.cons (subI ?_) (.cons (subI ?_) (.cons (subFz rfl (fzL rfl) ?_) (.cons (subI ?_) .nil)))))))) (.cons (.agg _ _ (.cons (subI ?_) (.cons (subI ?_) (.cons (subI ?_) (.cons (subI ?_) (.cons (subS ?_) (.cons (subS ?_) .nil))))))) (.cons (subB ?_) .nil))))⟩, trivial⟩ trivial (parOk rfl rfl))
      all_goals (try rfl)
      all_goals
        first | ((try simp only [msgCells_length, chunkCells_length, intCells_length, byteCells_length] at *); omega) | (exact chunkCells_app _ _) | (exact (chunkCells_app flight _).trans rfl) | (rw [List.drop_one]; rfl)
     ·refine vw_region ?_
      refine u_fieldAddr rfl rfl rfl rfl rfl rfl trivial ?_
      refine u_load1 rfl rfl rfl rfl rfl rfl trivial ?_
      refine u_indexS rfl rfl rfl rfl rfl (i := 0) rfl rfl rfl trivial ?_
      refine u_loadSAll rfl rfl rfl rfl rfl trivial ?_
      refine u_alloc 103 rfl rfl (notPar hpar rfl) rfl rfl trivial ?_
      refine u_storeAll rfl rfl rfl rfl rfl rfl rfl rfl trivial ?_
      refine u_end trivial ?_
      refine vw_seq ?_
      refine vw_draw ?_
      refine u_fieldAddr rfl rfl rfl rfl rfl rfl trivial ?_
      refine u_load1 rfl rfl rfl rfl rfl rfl trivial ?_
      refine u_fieldAddr rfl rfl rfl rfl rfl rfl trivial ?_
      refine u_load1 rfl rfl rfl rfl rfl rfl trivial ?_
      refine u_fieldAddr rfl rfl rfl rfl rfl rfl trivial ?_
      refine u_load1 rfl rfl rfl rfl rfl rfl trivial ?_
      refine u_fieldAddr rfl rfl rfl rfl rfl rfl trivial ?_
      refine u_indexA (i := 2) rfl rfl rfl rfl rfl (by rfl) (by decide) rfl trivial ?_
      refine u_load1 rfl rfl rfl rfl rfl rfl trivial ?_
      refine u_fieldAddr rfl rfl rfl rfl rfl rfl trivial ?_
      refine u_load1 rfl rfl rfl rfl rfl rfl trivial ?_
      refine u_buildZ rfl rfl rfl (.same _ (.same _ (.same _ (.same _ (.same _ (.see 1 .nil)))))) rfl rfl trivial ?_
      refine u_alloc 104 rfl rfl (notPar hpar rfl) rfl rfl trivial ?_
      refine u_storeAll rfl rfl rfl rfl rfl rfl rfl rfl trivial ?_
      refine u_end (by kernel_rfl) ?_
      refine vw_seq ?_
      refine vw_region ?_
      refine u_fieldAddr rfl rfl rfl rfl rfl rfl trivial ?_
      refine u_load1 rfl rfl rfl rfl rfl rfl trivial ?_
      refine u_sliceLo 1 rfl rfl (by rfl) (by simp [msgCells_length]) rfl rfl rfl rfl trivial ?_
      refine u_fieldAddr rfl rfl rfl rfl rfl rfl trivial ?_
      refine u_store rfl rfl rfl rfl rfl rfl rfl trivial ?_
      refine u_end trivial ?_
      refine vw_seq ?_
      refine vw_region ?_
      refine u_fieldAddr rfl rfl rfl rfl rfl rfl trivial ?_
      refine u_load1 rfl rfl rfl rfl rfl rfl trivial ?_
      refine u_add rfl rfl rfl (by unfold inI; omega) rfl trivial ?_
      refine u_fieldAddr rfl rfl rfl rfl rfl rfl trivial ?_
      refine u_store rfl rfl rfl rfl rfl rfl rfl trivial ?_
      refine u_end trivial ?_
      refine vw_seq ?_
      refine vw_draw ?_
      refine u_fieldAddr rfl rfl rfl rfl rfl rfl trivial ?_
      refine u_load1 rfl rfl rfl rfl rfl rfl trivial ?_
      refine u_fieldAddr rfl rfl rfl rfl rfl rfl trivial ?_
      refine u_load1 rfl rfl rfl rfl rfl rfl trivial ?_
      refine u_fieldAddr rfl rfl rfl rfl rfl rfl trivial ?_
      refine u_indexA (i := 2) rfl rfl rfl rfl rfl (by rfl) (by decide) rfl trivial ?_
      refine u_load1 rfl rfl rfl rfl rfl rfl trivial ?_
      refine u_add rfl rfl rfl (by unfold inI; omega) rfl trivial ?_
      refine u_fieldAddr rfl rfl rfl rfl rfl rfl trivial ?_
      refine u_indexA (i := 2) rfl rfl rfl rfl rfl (by rfl) (by decide) rfl trivial ?_
      refine u_store rfl rfl rfl rfl rfl rfl rfl trivial ?_
      refine u_end (by kernel_rfl) ?_
      refine vw_seq ?_
      refine vw_draw ?_
      refine u_buildSlice 105 rfl rfl rfl rfl rfl rfl rfl rfl rfl rfl (notPar hpar rfl) rfl rfl trivial ?_
      refine u_fieldAddr rfl rfl rfl rfl rfl rfl trivial ?_
      refine u_load1 rfl rfl rfl rfl rfl rfl trivial ?_
      refine u_append 106 rfl rfl rfl (.shr _ _) rfl (notPar hpar rfl) rfl rfl rfl rfl rfl (by simp [cellsL, chunkCells_length]; omega) rfl trivial ?_
      refine u_loadAll rfl rfl rfl rfl rfl rfl trivial ?_
      refine u_buildSlice 107 rfl rfl rfl rfl rfl rfl rfl rfl rfl rfl (notPar hpar rfl) rfl rfl trivial ?_
      refine u_append 108 rfl rfl rfl (srcRow rfl) rfl (notPar hpar rfl) rfl rfl rfl rfl rfl (by simp [cellsL, chunkCells_length]; omega) rfl trivial ?_
      refine u_fieldAddr rfl rfl rfl rfl rfl rfl trivial ?_
      refine u_store rfl rfl rfl rfl rfl rfl rfl trivial ?_
      refine u_end (by kernel_rfl) ?_
      refine vw_seq ?_
      refine vw_draw ?_
      refine u_loadAll rfl rfl rfl rfl rfl rfl trivial ?_
      refine u_loadAll rfl rfl rfl rfl rfl rfl trivial ?_
      refine u_storeAll rfl rfl rfl rfl rfl rfl rfl rfl trivial ?_
      refine u_storeAll rfl rfl rfl rfl rfl rfl rfl rfl trivial ?_
      refine u_assign rfl rfl trivial ?_
      refine u_end (by kernel_rfl) ?_
      refine vw_ret ?_
      rw [say_new (m := (2, data)) (q := q) rfl (by (try simp only [msgCells_length, chunkCells_length, intCells_length, byteCells_length] at *); omega)]
      refine fin' [] (.inr rfl) (.cons (.cellN rfl rfl rfl rfl rfl) (.cons (.cellN rfl rfl rfl rfl rfl) (.cons (.tmp rfl (nb rfl)) .nil))) (mk_wk [] rfl rfl ⟨⟨_, rfl, (.tup _ _ (.cons (.agg _ _ (.cons (subS ?_) (.cons (subI ?_) (.cons (subI ?_) (.cons (subI ?_) (.cons (subI ?_) (.cons (subFz rfl (fzL rfl) ?_) (.cons (subI ?_) .nil)))))))) (.cons (.agg _ _ (.cons (subI ?_) (.cons (subI ?_) (.cons (subI ?_) (.cons (subI ?_) (.cons (subS ?_) (.cons (subS ?_) .nil))))))) (.cons (subB ?_) .nil))))⟩, trivial⟩ trivial (parOk rfl rfl))
      all_goals (try rfl)
      all_goals
        first | ((try simp only [msgCells_length, chunkCells_length, intCells_length, byteCells_length] at *); omega) | (exact chunkCells_app _ _) | (exact (chunkCells_app flight _).trans rfl) | (rw [List.drop_one]; rfl)
theorem c95 (queue : List Msg) (next pa pb pc : Int) (flight : List Chunk) (turn : Int) (hs : SOk ⟨queue, next, ⟨pa, pb, pc⟩, flight, turn⟩) : VFun G 95 [.agg [.shr 2 (msgCells queue), .lit (.int .i64 next), .lit (.int .i64 pa), .lit (.int .i64 pb), .lit (.int .i64 pc), .shr 6 (chunkCells flight), .lit (.int .i64 turn)]] [] (.tup [.agg (senderAV (say ⟨queue, next, ⟨pa, pb, pc⟩, flight, turn⟩).1), .agg (chunkAV (say ⟨queue, next, ⟨pa, pb, pc⟩, flight, turn⟩).2.1), .lit (.bool (say ⟨queue, next, ⟨pa, pb, pc⟩, flight, turn⟩).2.2)]) [] := by
 have hq := hs.q; have hf := hs.f; have hn := hs.n; have ht := hs.t; have hp := hs.p; have hm := hs.m; have he := hs.e
 simp only at hq hf hn ht hp hm he
 refine VFun.intro (fn := Try.f95) rfl rfl (by kernel_rfl) (nb rfl) fun Γ hpar => ?_
 refine vw_seq ?_
 refine vw_region ?_
 refine u_box 100 rfl rfl rfl (notPar hpar rfl) rfl rfl trivial ?_
 refine u_alloc 101 rfl rfl (notPar hpar rfl) rfl rfl trivial ?_
 refine u_alloc 102 rfl rfl (notPar hpar rfl) rfl rfl trivial ?_
 refine u_assign rfl rfl trivial ?_
 refine u_end trivial ?_
 refine vw_seq ?_
 rcases queue with _ | ⟨⟨stv, data⟩, q⟩
 ·refine vw_region ?_
  refine u_loadAll rfl rfl rfl rfl rfl rfl trivial ?_
  refine u_callO [] [] [] rfl rfl (c94x _ next pa pb pc flight turn hs) inc_nil trivial (.cons ((subP rfl)) .nil) rfl rfl (newPar hpar rfl) rfl trivial ?_
  refine u_alloc 103 rfl rfl (notPar hpar rfl) rfl rfl trivial ?_
  refine u_storeAll rfl rfl rfl rfl rfl rfl rfl rfl trivial ?_
  refine u_end trivial ?_
  refine vw_seq ?_
  refine vw_block ?_
  refine vw_seq ?_
  refine vw_region ?_
  refine u_fieldAddr rfl rfl rfl rfl rfl rfl trivial ?_
  refine u_load1 rfl rfl rfl rfl rfl rfl trivial ?_
  refine u_len rfl rfl rfl trivial ?_
  refine s_gtr rfl rfl rfl trivial (fun h15 => ?_) (fun h15 => ?_)
  ·simp [msgCells_length] at h15
  ·refine u_move rfl rfl trivial ?_
   refine u_skip rfl rfl rfl rfl rfl ?_
   refine u_skip rfl rfl rfl rfl rfl ?_
   refine u_skip rfl rfl rfl rfl rfl ?_
   refine u_skip rfl rfl rfl rfl rfl ?_
   refine u_pickF rfl rfl rfl trivial ?_
   refine u_assign rfl rfl trivial ?_
   refine u_end trivial ?_
   refine vw_condF rfl ?_
   refine vw_seq ?_
   refine vw_region ?_
   refine u_fieldAddr rfl rfl rfl rfl rfl rfl trivial ?_
   refine u_load1 rfl rfl rfl rfl rfl rfl trivial ?_
   refine u_len rfl rfl rfl trivial ?_
   refine s_gtr rfl rfl rfl trivial (fun h67 => ?_) (fun h67 => ?_)
   ·refine u_assign rfl rfl trivial ?_
    refine u_end trivial ?_
    refine vw_condT rfl ?_
    refine vw_seq ?_
    (try simp only [msgCells_length, chunkCells_length, intCells_length, byteCells_length] at *)
    obtain ⟨k, hk1, hk2⟩ := turn_in (t := turn) (n := flight.length) ht.1 (by omega)
    refine vw_region ?_
    refine u_fieldAddr rfl rfl rfl rfl rfl rfl trivial ?_
    refine u_load1 rfl rfl rfl rfl rfl rfl trivial ?_
    refine u_fieldAddr rfl rfl rfl rfl rfl rfl trivial ?_
    refine u_load1 rfl rfl rfl rfl rfl rfl trivial ?_
    refine u_len rfl rfl rfl trivial ?_
    refine u_remN rfl rfl (by (try simp only [msgCells_length, chunkCells_length, intCells_length, byteCells_length] at *); omega) rfl trivial ?_
    refine u_assign rfl rfl trivial ?_
    refine u_end trivial ?_
    refine vw_seq ?_
    refine vw_region ?_
    refine u_move rfl rfl trivial ?_
    refine u_add rfl rfl rfl (by (try simp only [msgCells_length, chunkCells_length, intCells_length, byteCells_length] at *); unfold inI; omega) rfl trivial ?_
    refine u_fieldAddr rfl rfl rfl rfl rfl rfl trivial ?_
    refine u_store rfl rfl rfl rfl rfl rfl rfl trivial ?_
    refine u_end trivial ?_
    refine vw_seq ?_
    refine vw_draw ?_
    refine u_loadAll rfl rfl rfl rfl rfl rfl trivial ?_
    refine u_fieldAddr rfl rfl rfl rfl rfl rfl trivial ?_
    refine u_load1 rfl rfl rfl rfl rfl rfl trivial ?_
    refine u_move rfl rfl trivial ?_
    refine u_indexR rfl rfl rfl rfl rfl rfl (i := k) (by (try simp only [msgCells_length, chunkCells_length, intCells_length, byteCells_length] at *); omega) (by rw [chunkCells_length]; exact hk2) rfl trivial ?_
    refine u_loadRowAll rfl rfl (chunkCells_get hk2) rfl rfl rfl rfl trivial ?_
    refine u_call rfl (c80 (flight[k]'hk2) (he _ (List.getElem_mem _))) (.cons ((subP rfl)) .nil) rfl trivial ?_
    refine u_storeAll rfl rfl rfl rfl rfl rfl rfl rfl trivial ?_
    refine u_storeAll rfl rfl rfl rfl rfl rfl rfl rfl trivial ?_
    refine u_assign rfl rfl trivial ?_
    refine u_end (by kernel_rfl) ?_
    refine vw_ret ?_
    rw [say_old2 rfl (ne_nil (by (try simp only [msgCells_length, chunkCells_length, intCells_length, byteCells_length] at *); omega)), sayOld_is (k := k) hk1 hk2]
    refine fin' [] (.inr rfl) (.cons (.cellN rfl rfl rfl rfl rfl) (.cons (.cellN rfl rfl rfl rfl rfl) (.cons (.tmp rfl (nb rfl)) .nil))) (mk_wk [] rfl rfl ⟨⟨_, rfl, (.tup _ _ (.cons (.agg _ _ (.cons (subFz rfl (fzL rfl) ?_) (.cons (subI ?_) (.cons (subI ?_) (.cons (subI ?_) (.cons (subI ?_) (.cons (subFz rfl (fzL rfl) ?_) (.cons (subI ?_) .nil)))))))) (.cons (.agg _ _ (.cons (subI ?_) (.cons (subI ?_) (.cons (subI ?_) (.cons (subI ?_) (.cons (subS ?_) (.cons (subS ?_) .nil))))))) (.cons (subB ?_) .nil))))⟩, trivial⟩ trivial (parOk rfl rfl))
    all_goals (try rfl)
    all_goals
      first | ((try simp only [msgCells_length, chunkCells_length, intCells_length, byteCells_length] at *); omega) | (exact chunkCells_app _ _) | (exact (chunkCells_app flight _).trans rfl) | (rw [List.drop_one]; rfl)
   ·refine u_assign rfl rfl trivial ?_
    refine u_end trivial ?_
    refine vw_condF rfl ?_
    refine vw_skip ?_
    refine vw_seq ?_
    refine vw_region ?_
    refine u_loadAll rfl rfl rfl rfl rfl rfl trivial ?_
    refine u_build rfl rfl rfl rfl rfl trivial ?_
    refine u_storeAll rfl rfl rfl rfl rfl rfl rfl rfl trivial ?_
    refine u_storeAll rfl rfl rfl rfl rfl rfl rfl rfl trivial ?_
    refine u_assign rfl rfl trivial ?_
    refine u_end trivial ?_
    refine vw_ret ?_
    rw [say_none rfl (List.eq_nil_of_length_eq_zero (by (try simp only [msgCells_length, chunkCells_length, intCells_length, byteCells_length] at *); omega))]
    refine fin' [] (.inr rfl) (.cons (.cellN rfl rfl rfl rfl rfl) (.cons (.cellN rfl rfl rfl rfl rfl) (.cons (.tmp rfl (nb rfl)) .nil))) (mk_wk [] rfl rfl ⟨⟨_, rfl, (.tup _ _ (.cons (.agg _ _ (.cons (subFz rfl (fzL rfl) ?_) (.cons (subI ?_) (.cons (subI ?_) (.cons (subI ?_) (.cons (subI ?_) (.cons (subFz rfl (fzL rfl) ?_) (.cons (subI ?_) .nil)))))))) (.cons (.agg _ _ (.cons (subI ?_) (.cons (subI ?_) (.cons (subI ?_) (.cons (subI ?_) (.cons (subNs ?_) (.cons (subNs ?_) .nil))))))) (.cons (subB ?_) .nil))))⟩, trivial⟩ trivial (parOk rfl rfl))
    all_goals (try rfl)
    all_goals
      first | ((try simp only [msgCells_length, chunkCells_length, intCells_length, byteCells_length] at *); omega) | (exact chunkCells_app _ _) | (exact (chunkCells_app flight _).trans rfl) | (rw [List.drop_one]; rfl)
 ·refine vw_region ?_
  refine u_loadAll rfl rfl rfl rfl rfl rfl trivial ?_
  refine u_callO [] [] [] rfl rfl (c94x _ next pa pb pc flight turn hs) inc_nil trivial (.cons ((subP rfl)) .nil) rfl rfl (newPar hpar rfl) rfl trivial ?_
  refine u_alloc 103 rfl rfl (notPar hpar rfl) rfl rfl trivial ?_
  refine u_storeAll rfl rfl rfl rfl rfl rfl rfl rfl trivial ?_
  refine u_end trivial ?_
  refine vw_seq ?_
  refine vw_block ?_
  refine vw_seq ?_
  refine vw_region ?_
  refine u_fieldAddr rfl rfl rfl rfl rfl rfl trivial ?_
  refine u_load1 rfl rfl rfl rfl rfl rfl trivial ?_
  refine u_len rfl rfl rfl trivial ?_
  refine s_gtr rfl rfl rfl trivial (fun h15 => ?_) (fun h15 => ?_)
  ·refine u_move rfl rfl trivial ?_
   refine u_fieldAddr rfl rfl rfl rfl rfl rfl ⟨_, _, rfl, rfl, rfl, rfl⟩ ?_
   refine u_load1 rfl rfl rfl rfl rfl rfl ⟨_, _, rfl, rfl, rfl, rfl⟩ ?_
   refine u_len rfl rfl rfl ⟨_, _, rfl, rfl, rfl, rfl⟩ ?_
   refine s_lss rfl rfl rfl ⟨_, _, rfl, rfl, rfl, rfl⟩ (fun h20 => ?_) (fun h20 => ?_)
   ·refine u_pickT rfl rfl rfl trivial ?_
    refine u_assign rfl rfl trivial ?_
    refine u_end trivial ?_
    refine vw_condT rfl ?_
    refine vw_seq ?_
    have hst := hm (stv, data) (by simp)
    simp only at hst
    rcases get3 hst with rfl | rfl | rfl
    ·refine vw_region ?_
     refine u_fieldAddr rfl rfl rfl rfl rfl rfl trivial ?_
     refine u_load1 rfl rfl rfl rfl rfl rfl trivial ?_
     refine u_indexR rfl rfl rfl rfl rfl rfl (i := 0) rfl (by simp [msgCells_length]) rfl trivial ?_
     refine u_loadRowAll rfl rfl (rfl) rfl rfl rfl rfl trivial ?_
     refine u_alloc 104 rfl rfl (notPar hpar rfl) rfl rfl trivial ?_
     refine u_storeAll rfl rfl rfl rfl rfl rfl rfl rfl trivial ?_
     refine u_end trivial ?_
     refine vw_seq ?_
     refine vw_draw ?_
     refine u_fieldAddr rfl rfl rfl rfl rfl rfl trivial ?_
     refine u_load1 rfl rfl rfl rfl rfl rfl trivial ?_
     refine u_fieldAddr rfl rfl rfl rfl rfl rfl trivial ?_
     refine u_load1 rfl rfl rfl rfl rfl rfl trivial ?_
     refine u_fieldAddr rfl rfl rfl rfl rfl rfl trivial ?_
     refine u_load1 rfl rfl rfl rfl rfl rfl trivial ?_
     refine u_fieldAddr rfl rfl rfl rfl rfl rfl trivial ?_
     refine u_indexA (i := 0) rfl rfl rfl rfl rfl (by rfl) (by decide) rfl trivial ?_
     refine u_load1 rfl rfl rfl rfl rfl rfl trivial ?_
     refine u_fieldAddr rfl rfl rfl rfl rfl rfl trivial ?_
     refine u_load1 rfl rfl rfl rfl rfl rfl trivial ?_
     refine u_buildZ rfl rfl rfl (.same _ (.same _ (.same _ (.same _ (.same _ (.see 1 .nil)))))) rfl rfl trivial ?_
     refine u_alloc 105 rfl rfl (notPar hpar rfl) rfl rfl trivial ?_
     refine u_storeAll rfl rfl rfl rfl rfl rfl rfl rfl trivial ?_
     refine u_end (by kernel_rfl) ?_
     refine vw_seq ?_
     refine vw_region ?_
     refine u_fieldAddr rfl rfl rfl rfl rfl rfl trivial ?_
     refine u_load1 rfl rfl rfl rfl rfl rfl trivial ?_
     refine u_sliceRFLo 1 rfl rfl rfl (by rfl) (by simp [msgCells_length]) rfl rfl rfl rfl trivial ?_
     refine u_fieldAddr rfl rfl rfl rfl rfl rfl trivial ?_
     refine u_store rfl rfl rfl rfl rfl rfl rfl trivial ?_
     refine u_end trivial ?_
     refine vw_seq ?_
     refine vw_region ?_
     refine u_fieldAddr rfl rfl rfl rfl rfl rfl trivial ?_
     refine u_load1 rfl rfl rfl rfl rfl rfl trivial ?_
     refine u_add rfl rfl rfl (by unfold inI; omega) rfl trivial ?_
     refine u_fieldAddr rfl rfl rfl rfl rfl rfl trivial ?_
     refine u_store rfl rfl rfl rfl rfl rfl rfl trivial ?_
     refine u_end trivial ?_
     refine vw_seq ?_
     refine vw_region ?_
     refine u_fieldAddr rfl rfl rfl rfl rfl rfl trivial ?_
     refine u_load1 rfl rfl rfl rfl rfl rfl trivial ?_
     refine u_fieldAddr rfl rfl rfl rfl rfl rfl trivial ?_
     refine u_indexA (i := 0) rfl rfl rfl rfl rfl (by rfl) (by decide) rfl trivial ?_
     refine u_load1 rfl rfl rfl rfl rfl rfl trivial ?_
     refine u_add rfl rfl rfl (by unfold inI; omega) rfl trivial ?_
     refine u_fieldAddr rfl rfl rfl rfl rfl rfl trivial ?_
     refine u_indexA (i := 0) rfl rfl rfl rfl rfl (by rfl) (by decide) rfl trivial ?_
     refine u_store rfl rfl rfl rfl rfl rfl rfl trivial ?_
     refine u_end trivial ?_
     refine vw_seq ?_
     refine vw_region ?_
     refine u_fieldAddr rfl rfl rfl rfl rfl rfl trivial ?_
     refine u_load1 rfl rfl rfl rfl rfl rfl trivial ?_
     refine u_loadAll rfl rfl rfl rfl rfl rfl trivial ?_
     refine u_buildSlice 106 rfl rfl rfl rfl rfl rfl rfl rfl rfl rfl (notPar hpar rfl) rfl rfl trivial ?_
     refine u_append 107 rfl rfl rfl (srcRow rfl) rfl (notPar hpar rfl) rfl rfl rfl rfl rfl (by simp [cellsL, chunkCells_length]; omega) rfl trivial ?_
     refine u_fieldAddr rfl rfl rfl rfl rfl rfl trivial ?_
     refine u_store rfl rfl rfl rfl rfl rfl rfl trivial ?_
     refine u_end trivial ?_
     refine vw_seq ?_
     refine vw_draw ?_
     refine u_loadAll rfl rfl rfl rfl rfl rfl trivial ?_
     refine u_loadAll rfl rfl rfl rfl rfl rfl trivial ?_
     refine u_call rfl (c80 (newChunk ⟨(0, data) :: q, next, ⟨pa, pb, pc⟩, flight, turn⟩ (0, data)) (by simp [newChunk])) (.cons ((subP rfl)) .nil) rfl trivial ?_
     refine u_storeAll rfl rfl rfl rfl rfl rfl rfl rfl trivial ?_
     refine u_storeAll rfl rfl rfl rfl rfl rfl rfl rfl trivial ?_
     refine u_assign rfl rfl trivial ?_
     refine u_end (by kernel_rfl) ?_
     refine vw_ret ?_
     rw [say_new (m := (0, data)) (q := q) rfl (by (try simp only [msgCells_length, chunkCells_length, intCells_length, byteCells_length] at *); omega)]
     refine fin' [] (.inr rfl) (.cons (.cellN rfl rfl rfl rfl rfl) (.cons (.cellN rfl rfl rfl rfl rfl) (.cons (.tmp rfl (nb rfl)) .nil))) (mk_wk [] rfl rfl ⟨⟨_, rfl, (.tup _ _ (.cons (.agg _ _ (.cons (subS ?_) (.cons (subI ?_) (.cons (subI ?_) (.cons (subI ?_) (.cons (subI ?_) (.cons (subFz rfl (fzL rfl) ?_) (.cons (subI ?_) .nil)))))))) (.cons (.agg _ _ (.cons (subI ?_) (.cons (subI ?_) (.cons (subI ?_) (.cons (subI ?_) (.cons (subS ?_) (.cons (subS ?_) .nil))))))) (.cons (subB ?_) .nil))))⟩, trivial⟩ trivial (parOk rfl rfl))
     all_goals (try rfl)
     all_goals
       first | ((try simp only [msgCells_length, chunkCells_length, intCells_length, byteCells_length] at *); omega) | (exact chunkCells_app _ _) | (exact (chunkCells_app flight _).trans rfl) | (rw [List.drop_one]; rfl)
    ·refine vw_region ?_
     refine u_fieldAddr rfl rfl rfl rfl rfl rfl trivial ?_
     refine u_load1 rfl rfl rfl rfl rfl rfl trivial ?_
     refine u_indexR rfl rfl rfl rfl rfl rfl (i := 0) rfl (by simp [msgCells_length]) rfl trivial ?_
     refine u_loadRowAll rfl rfl (rfl) rfl rfl rfl rfl trivial ?_
     refine u_alloc 104 rfl rfl (notPar hpar rfl) rfl rfl trivial ?_
     refine u_storeAll rfl rfl rfl rfl rfl rfl rfl rfl trivial ?_
     refine u_end trivial ?_
     refine vw_seq ?_
     refine vw_draw ?_
     refine u_fieldAddr rfl rfl rfl rfl rfl rfl trivial ?_
     refine u_load1 rfl rfl rfl rfl rfl rfl trivial ?_
     refine u_fieldAddr rfl rfl rfl rfl rfl rfl trivial ?_
     refine u_load1 rfl rfl rfl rfl rfl rfl trivial ?_
     refine u_fieldAddr rfl rfl rfl rfl rfl rfl trivial ?_
     refine u_load1 rfl rfl rfl rfl rfl rfl trivial ?_
     refine u_fieldAddr rfl rfl rfl rfl rfl rfl trivial ?_
     refine u_indexA (i := 1) rfl rfl rfl rfl rfl (by rfl) (by decide) rfl trivial ?_
     refine u_load1 rfl rfl rfl rfl rfl rfl trivial ?_
     refine u_fieldAddr rfl rfl rfl rfl rfl rfl trivial ?_
     refine u_load1 rfl rfl rfl rfl rfl rfl trivial ?_
     refine u_buildZ rfl rfl rfl (.same _ (.same _ (.same _ (.same _ (.same _ (.see 1 .nil)))))) rfl rfl trivial ?_
     refine u_alloc 105 rfl rfl (notPar hpar rfl) rfl rfl trivial ?_
     refine u_storeAll rfl rfl rfl rfl rfl rfl rfl rfl trivial ?_
     refine u_end (by kernel_rfl) ?_
     refine vw_seq ?_
     refine vw_region ?_
     refine u_fieldAddr rfl rfl rfl rfl rfl rfl trivial ?_
     refine u_load1 rfl rfl rfl rfl rfl rfl trivial ?_
     refine u_sliceRFLo 1 rfl rfl rfl (by rfl) (by simp [msgCells_length]) rfl rfl rfl rfl trivial ?_
     refine u_fieldAddr rfl rfl rfl rfl rfl rfl trivial ?_
     refine u_store rfl rfl rfl rfl rfl rfl rfl trivial ?_
     refine u_end trivial ?_
     refine vw_seq ?_
     refine vw_region ?_
     refine u_fieldAddr rfl rfl rfl rfl rfl rfl trivial ?_
     refine u_load1 rfl rfl rfl rfl rfl rfl trivial ?_
     refine u_add rfl rfl rfl (by unfold inI; omega) rfl trivial ?_
     refine u_fieldAddr rfl rfl rfl rfl rfl rfl trivial ?_
     refine u_store rfl rfl rfl rfl rfl rfl rfl trivial ?_
     refine u_end trivial ?_
     refine vw_seq ?_
     refine vw_region ?_
     refine u_fieldAddr rfl rfl rfl rfl rfl rfl trivial ?_
     refine u_load1 rfl rfl rfl rfl rfl rfl trivial ?_
     refine u_fieldAddr rfl rfl rfl rfl rfl rfl trivial ?_
     refine u_indexA (i := 1) rfl rfl rfl rfl rfl (by rfl) (by decide) rfl trivial ?_
     refine u_load1 rfl rfl rfl rfl rfl rfl trivial ?_
     refine u_add rfl rfl rfl (by unfold inI; omega) rfl trivial ?_
     refine u_fieldAddr rfl rfl rfl rfl rfl rfl trivial ?_
     refine u_indexA (i := 1) rfl rfl rfl rfl rfl (by rfl) (by decide) rfl trivial ?_
     refine u_store rfl rfl rfl rfl rfl rfl rfl trivial ?_
     refine u_end trivial ?_
     refine vw_seq ?_
     refine vw_region ?_
     refine u_fieldAddr rfl rfl rfl rfl rfl rfl trivial ?_
     refine u_load1 rfl rfl rfl rfl rfl rfl trivial ?_
     refine u_loadAll rfl rfl rfl rfl rfl rfl trivial ?_
     refine u_buildSlice 106 rfl rfl rfl rfl rfl rfl rfl rfl rfl rfl (notPar hpar rfl) rfl rfl trivial ?_
     refine u_append 107 rfl rfl rfl (srcRow rfl) rfl (notPar hpar rfl) rfl rfl rfl rfl rfl (by simp [cellsL, chunkCells_length]; omega) rfl trivial ?_
     refine u_fieldAddr rfl rfl rfl rfl rfl rfl trivial ?_
     refine u_store rfl rfl rfl rfl rfl rfl rfl trivial ?_
     refine u_end trivial ?_
     refine vw_seq ?_
     refine vw_draw ?_
     refine u_loadAll rfl rfl rfl rfl rfl rfl trivial ?_
     refine u_loadAll rfl rfl rfl rfl rfl rfl trivial ?_
     refine u_call rfl (c80 (newChunk ⟨(1, data) :: q, next, ⟨pa, pb, pc⟩, flight, turn⟩ (1, data)) (by simp [newChunk])) (.cons ((subP rfl)) .nil) rfl trivial ?_
     refine u_storeAll rfl rfl rfl rfl rfl rfl rfl rfl trivial ?_
     refine u_storeAll rfl rfl rfl rfl rfl rfl rfl rfl trivial ?_
     refine u_assign rfl rfl trivial ?_
     refine u_end (by kernel_rfl) ?_
     refine vw_ret ?_
     rw [say_new (m := (1, data)) (q := q) rfl (by (try simp only [msgCells_length, chunkCells_length, intCells_length, byteCells_length] at *); omega)]
     refine fin' [] (.inr rfl) (.cons (.cellN rfl rfl rfl rfl rfl) (.cons (.cellN rfl rfl rfl rfl rfl) (.cons (.tmp rfl (nb rfl)) .nil))) (mk_wk [] rfl rfl ⟨⟨_, rfl, (.tup _ _ (.cons (.agg _ _ (.cons (subS ?_) (.cons (subI ?_) (.cons (subI ?_) (.cons (subI ?_) (.cons (subI ?_) (.cons (subFz rfl (fzL rfl) ?_) (.cons (subI ?_) .nil)))))))) (.cons (.agg _ _ (.cons (subI ?_) (.cons (subI ?_) (.cons (subI ?_) (.cons (subI ?_) (.cons (subS ?_) (.cons (subS ?_) .nil))))))) (.cons (subB ?_) .nil))))⟩, trivial⟩ trivial (parOk rfl rfl))
     all_goals (try rfl)
     all_goals
       first | ((try simp only [msgCells_length, chunkCells_length, intCells_length, byteCells_length] at *); omega) | (exact chunkCells_app _ _) | (exact (chunkCells_app flight _).trans rfl) | (rw [List.drop_one]; rfl)
    ·refine vw_region ?_
     refine u_fieldAddr rfl rfl rfl rfl rfl rfl trivial ?_
     refine u_load1 rfl rfl rfl rfl rfl rfl trivial ?_
     refine u_indexR rfl rfl rfl rfl rfl rfl (i := 0) rfl (by simp [msgCells_length]) rfl trivial ?_
     refine u_loadRowAll rfl rfl (rfl) rfl rfl rfl rfl trivial ?_
     refine u_alloc 104 rfl rfl (notPar hpar rfl) rfl rfl trivial ?_
     refine u_storeAll rfl rfl rfl rfl rfl rfl rfl rfl trivial ?_
     refine u_end trivial ?_
     refine vw_seq ?_
     refine vw_draw ?_
     refine u_fieldAddr rfl rfl rfl rfl rfl rfl trivial ?_
     refine u_load1 rfl rfl rfl rfl rfl rfl trivial ?_
     refine u_fieldAddr rfl rfl rfl rfl rfl rfl trivial ?_
     refine u_load1 rfl rfl rfl rfl rfl rfl trivial ?_
     refine u_fieldAddr rfl rfl rfl rfl rfl rfl trivial ?_
     refine u_load1 rfl rfl rfl rfl rfl rfl trivial ?_
     refine u_fieldAddr rfl rfl rfl rfl rfl rfl trivial ?_
     refine u_indexA (i := 2) rfl rfl rfl rfl rfl (by rfl) (by decide) rfl trivial ?_
     refine u_load1 rfl rfl rfl rfl rfl rfl trivial ?_
     refine u_fieldAddr rfl rfl rfl rfl rfl rfl trivial ?_
     refine u_load1 rfl rfl rfl rfl rfl rfl trivial ?_
     refine u_buildZ rfl rfl rfl (.same _ (.same _ (.same _ (.same _ (.same _ (.see 1 .nil)))))) rfl rfl trivial ?_
     refine u_alloc 105 rfl rfl (notPar hpar rfl) rfl rfl trivial ?_
     refine u_storeAll rfl rfl rfl rfl rfl rfl rfl rfl trivial ?_
     refine u_end (by kernel_rfl) ?_
     refine vw_seq ?_
     refine vw_region ?_
     refine u_fieldAddr rfl rfl rfl rfl rfl rfl trivial ?_
     refine u_load1 rfl rfl rfl rfl rfl rfl trivial ?_
     refine u_sliceRFLo 1 rfl rfl rfl (by rfl) (by simp [msgCells_length]) rfl rfl rfl rfl trivial ?_
     refine u_fieldAddr rfl rfl rfl rfl rfl rfl trivial ?_
     refine u_store rfl rfl rfl rfl rfl rfl rfl trivial ?_
     refine u_end trivial ?_
     refine vw_seq ?_
     refine vw_region ?_
     refine u_fieldAddr rfl rfl rfl rfl rfl rfl trivial ?_
     refine u_load1 rfl rfl rfl rfl rfl rfl trivial ?_
     refine u_add rfl rfl rfl (by unfold inI; omega) rfl trivial ?_
     refine u_fieldAddr rfl rfl rfl rfl rfl rfl trivial ?_
     refine u_store rfl rfl rfl rfl rfl rfl rfl trivial ?_
     refine u_end trivial ?_
     refine vw_seq ?_
     refine vw_region ?_
     refine u_fieldAddr rfl rfl rfl rfl rfl rfl trivial ?_
     refine u_load1 rfl rfl rfl rfl rfl rfl trivial ?_
     refine u_fieldAddr rfl rfl rfl rfl rfl rfl trivial ?_
     refine u_indexA (i := 2) rfl rfl rfl rfl rfl (by rfl) (by decide) rfl trivial ?_
     refine u_load1 rfl rfl rfl rfl rfl rfl trivial ?_
     refine u_add rfl rfl rfl (by unfold inI; omega) rfl trivial ?_
     refine u_fieldAddr rfl rfl rfl rfl rfl rfl trivial ?_
     refine u_indexA (i := 2) rfl rfl rfl rfl rfl (by rfl) (by decide) rfl trivial ?_
     refine u_store rfl rfl rfl rfl rfl rfl rfl trivial ?_
     refine u_end trivial ?_
     refine vw_seq ?_
     refine vw_region ?_
     refine u_fieldAddr rfl rfl rfl rfl rfl rfl trivial ?_
     refine u_load1 rfl rfl rfl rfl rfl rfl trivial ?_
     refine u_loadAll rfl rfl rfl rfl rfl rfl trivial ?_
     refine u_buildSlice 106 rfl rfl rfl rfl rfl rfl rfl rfl rfl rfl (notPar hpar rfl) rfl rfl trivial ?_
     refine u_append 107 rfl rfl rfl (srcRow rfl) rfl (notPar hpar rfl) rfl rfl rfl rfl rfl (by simp [cellsL, chunkCells_length]; omega) rfl trivial ?_
     refine u_fieldAddr rfl rfl rfl rfl rfl rfl trivial ?_
     refine u_store rfl rfl rfl rfl rfl rfl rfl trivial ?_
     refine u_end trivial ?_
     refine vw_seq ?_
     refine vw_draw ?_
     refine u_loadAll rfl rfl rfl rfl rfl rfl trivial ?_
     refine u_loadAll rfl rfl rfl rfl rfl rfl trivial ?_
     refine u_call rfl (c80 (newChunk ⟨(2, data) :: q, next, ⟨pa, pb, pc⟩, flight, turn⟩ (2, data)) (by simp [newChunk])) (.cons ((subP rfl)) .nil) rfl trivial ?_
     refine u_storeAll rfl rfl rfl rfl rfl rfl rfl rfl trivial ?_
     refine u_storeAll rfl rfl rfl rfl rfl rfl rfl rfl trivial ?_
     refine u_assign rfl rfl trivial ?_
     refine u_end (by kernel_rfl) ?_
     refine vw_ret ?_
     rw [say_new (m := (2, data)) (q := q) rfl (by (try simp only [msgCells_length, chunkCells_length, intCells_length, byteCells_length] at *); omega)]
     refine fin' [] (.inr rfl) (.cons (.cellN rfl rfl rfl rfl rfl) (.cons (.cellN rfl rfl rfl rfl rfl) (.cons (.tmp rfl (nb rfl)) .nil))) (mk_wk [] rfl rfl ⟨⟨_, rfl, (.tup _ _ (.cons (.agg _ _ (.cons (subS ?_) (.cons (subI ?_) (.cons (subI ?_) (.cons (subI ?_) (.cons (subI ?_) (.cons (subFz rfl (fzL rfl) ?_) (.cons (subI ?_) .nil)))))))) (.cons (.agg _ _ (.cons (subI ?_) (.cons (subI ?_) (.cons (subI ?_) (.cons (subI ?_) (.cons (subS ?_) (.cons (subS ?_) .nil))))))) (.cons (subB ?_) .nil))))⟩, trivial⟩ trivial (parOk rfl rfl))
     all_goals (try rfl)
     all_goals
       first | ((try simp only [msgCells_length, chunkCells_length, intCells_length, byteCells_length] at *); omega) | (exact chunkCells_app _ _) | (exact (chunkCells_app flight _).trans rfl) | (rw [List.drop_one]; rfl)
   ·refine u_pickT rfl rfl rfl trivial ?_
    refine u_assign rfl rfl trivial ?_
    refine u_end trivial ?_
    refine vw_condF rfl ?_
    refine vw_seq ?_
    refine vw_region ?_
    refine u_fieldAddr rfl rfl rfl rfl rfl rfl trivial ?_
    refine u_load1 rfl rfl rfl rfl rfl rfl trivial ?_
    refine u_len rfl rfl rfl trivial ?_
    refine s_gtr rfl rfl rfl trivial (fun h67 => ?_) (fun h67 => ?_)
    ·refine u_assign rfl rfl trivial ?_
     refine u_end trivial ?_
     refine vw_condT rfl ?_
     refine vw_seq ?_
     (try simp only [msgCells_length, chunkCells_length, intCells_length, byteCells_length] at *)
     obtain ⟨k, hk1, hk2⟩ := turn_in (t := turn) (n := flight.length) ht.1 (by omega)
     refine vw_region ?_
     refine u_fieldAddr rfl rfl rfl rfl rfl rfl trivial ?_
     refine u_load1 rfl rfl rfl rfl rfl rfl trivial ?_
     refine u_fieldAddr rfl rfl rfl rfl rfl rfl trivial ?_
     refine u_load1 rfl rfl rfl rfl rfl rfl trivial ?_
     refine u_len rfl rfl rfl trivial ?_
     refine u_remN rfl rfl (by (try simp only [msgCells_length, chunkCells_length, intCells_length, byteCells_length] at *); omega) rfl trivial ?_
     refine u_assign rfl rfl trivial ?_
     refine u_end trivial ?_
     refine vw_seq ?_
     refine vw_region ?_
     refine u_move rfl rfl trivial ?_
     refine u_add rfl rfl rfl (by (try simp only [msgCells_length, chunkCells_length, intCells_length, byteCells_length] at *); unfold inI; omega) rfl trivial ?_
     refine u_fieldAddr rfl rfl rfl rfl rfl rfl trivial ?_
     refine u_store rfl rfl rfl rfl rfl rfl rfl trivial ?_
     refine u_end trivial ?_
     refine vw_seq ?_
     refine vw_draw ?_
     refine u_loadAll rfl rfl rfl rfl rfl rfl trivial ?_
     refine u_fieldAddr rfl rfl rfl rfl rfl rfl trivial ?_
     refine u_load1 rfl rfl rfl rfl rfl rfl trivial ?_
     refine u_move rfl rfl trivial ?_
     refine u_indexR rfl rfl rfl rfl rfl rfl (i := k) (by (try simp only [msgCells_length, chunkCells_length, intCells_length, byteCells_length] at *); omega) (by rw [chunkCells_length]; exact hk2) rfl trivial ?_
     refine u_loadRowAll rfl rfl (chunkCells_get hk2) rfl rfl rfl rfl trivial ?_
     refine u_call rfl (c80 (flight[k]'hk2) (he _ (List.getElem_mem _))) (.cons ((subP rfl)) .nil) rfl trivial ?_
     refine u_storeAll rfl rfl rfl rfl rfl rfl rfl rfl trivial ?_
     refine u_storeAll rfl rfl rfl rfl rfl rfl rfl rfl trivial ?_
     refine u_assign rfl rfl trivial ?_
     refine u_end (by kernel_rfl) ?_
     refine vw_ret ?_
     rw [say_old1 (m := (stv, data)) (q := q) rfl (by (try simp only [msgCells_length, chunkCells_length, intCells_length, byteCells_length] at *); omega), sayOld_is (k := k) hk1 hk2]
     refine fin' [] (.inr rfl) (.cons (.cellN rfl rfl rfl rfl rfl) (.cons (.cellN rfl rfl rfl rfl rfl) (.cons (.tmp rfl (nb rfl)) .nil))) (mk_wk [] rfl rfl ⟨⟨_, rfl, (.tup _ _ (.cons (.agg _ _ (.cons (subFz rfl (fzL rfl) ?_) (.cons (subI ?_) (.cons (subI ?_) (.cons (subI ?_) (.cons (subI ?_) (.cons (subFz rfl (fzL rfl) ?_) (.cons (subI ?_) .nil)))))))) (.cons (.agg _ _ (.cons (subI ?_) (.cons (subI ?_) (.cons (subI ?_) (.cons (subI ?_) (.cons (subS ?_) (.cons (subS ?_) .nil))))))) (.cons (subB ?_) .nil))))⟩, trivial⟩ trivial (parOk rfl rfl))
     all_goals (try rfl)
     all_goals
       first | ((try simp only [msgCells_length, chunkCells_length, intCells_length, byteCells_length] at *); omega) | (exact chunkCells_app _ _) | (exact (chunkCells_app flight _).trans rfl) | (rw [List.drop_one]; rfl)
    ·((try simp only [msgCells_length, chunkCells_length, intCells_length, byteCells_length] at *); omega)
  ·simp [msgCells_length] at h15; omega
theorem c142 (a b : List Chunk) : VFun G 142 [.shr 6 (chunkCells a), .shr 6 (chunkCells b)] [] (.lit (.bool (a == b))) [] := by
 refine VFun.intro (fn := Try.f142) rfl rfl (by kernel_rfl) (nb rfl) fun Γ hpar => ?_
 refine vw_seq ?_
 refine vw_len (t := 0) rfl fun hl => ?_
 rw [chunkCells_length] at hl
 refine vw_region ?_
 refine u_assign rfl rfl trivial ?_
 refine u_end trivial ?_
 refine vw_seq ?_
 refine vw_seq ?_
 refine vw_region ?_
 refine u_move rfl rfl trivial ?_
 refine u_len rfl rfl rfl trivial ?_
 refine u_move rfl rfl trivial ?_
 refine u_len rfl rfl rfl trivial ?_
 refine s_neq rfl rfl rfl trivial (fun h10 => ?_) (fun h10 => ?_)
 ·refine u_end trivial ?_
  refine vw_condT rfl ?_
  refine vw_seq ?_
  simp only [chunkCells_length] at h10
  refine vw_region ?_
  refine u_assign rfl rfl trivial ?_
  refine u_end trivial ?_
  refine vw_ret ?_
  refine fin0 (.inr rfl) (.cons (.tmp rfl (nb rfl)) .nil) (subB ?_)
  ·refine beq_eq_false_iff_ne.2 (fun e => h10 (by rw [e]))
 ·refine u_end trivial ?_
  refine vw_condF rfl ?_
  refine vw_skip ?_
  refine vw_seq ?_
  refine vw_seq ?_
  simp only [chunkCells_length] at h10
  have hab : a.length = b.length := by omega
  refine vw_region ?_
  refine u_move rfl rfl trivial ?_
  refine u_len rfl rfl rfl trivial ?_
  refine u_move rfl rfl trivial ?_
  refine u_end trivial ?_
  refine vw_block ?_
  refine vw_loopR (fun n_ E => ∃ (i : Nat), ((i ≤ a.length) ∧ (a.take i = b.take i)) ∧ n_ = a.length - i ∧ E = ⟨[(0, .shr 6 (chunkCells a)), (1, .shr 6 (chunkCells b)), (12, .lit (.int .i64 (chunkCells a).length)), (13, .lit (.int .i64 i))], [], 27⟩) (n0 := _) (E0 := _) (⟨0, by exact ⟨Nat.zero_le _, rfl⟩, rfl, rfl⟩) (ren []) (mk_wk [] rfl rfl ⟨⟨_, rfl, (.shr _ _)⟩, ⟨_, rfl, (.shr _ _)⟩, ⟨_, rfl, (.lit _)⟩, ⟨_, rfl, (.lit _)⟩, trivial⟩ trivial (parOk hpar rfl)) (fun n_ E hR => ?_)
  obtain ⟨i, hI, rfl, rfl⟩ := hR
  obtain ⟨hI0, hI1⟩ := hI
  refine vw_seq ?_
  refine vw_region ?_
  refine s_lss rfl rfl rfl trivial (fun h14 => ?_) (fun h14 => ?_)
  ·refine u_end trivial ?_
   refine vw_seq ?_
   refine vw_condT rfl ?_
   refine vw_skip ?_
   refine vw_seq ?_
   refine vw_block ?_
   refine vw_seq ?_
   refine vw_region ?_
   refine u_move rfl rfl trivial ?_
   refine u_assign rfl rfl trivial ?_
   refine u_end trivial ?_
   refine vw_seq ?_
   rw [chunkCells_length] at h14
   refine vw_draw ?_
   refine u_move rfl rfl trivial ?_
   refine u_move rfl rfl trivial ?_
   refine u_indexS rfl rfl rfl rfl rfl rfl (chunkCells_get (by omega)) rfl trivial ?_
   refine u_loadSAll rfl rfl rfl rfl rfl trivial ?_
   refine u_move rfl rfl trivial ?_
   refine u_move rfl rfl trivial ?_
   refine u_indexS rfl rfl rfl rfl rfl rfl (chunkCells_get (by omega)) rfl trivial ?_
   refine u_loadSAll rfl rfl rfl rfl rfl trivial ?_
   refine s_call [] rfl (c79 (a[i]'(by omega)) (b[i]'(by omega))) (.cons ((subP rfl)) (.cons ((subP rfl)) .nil)) (fun k o h => by simp [Go.Vc.look] at h) rfl trivial (fun h24 => ?_) (fun h24 => ?_)
   ·refine u_not rfl rfl trivial ?_
    refine u_end (by kernel_rfl) ?_
    refine vw_condF rfl ?_
    refine vw_skip ?_
    refine vw_region ?_
    refine u_add rfl rfl rfl (by unfold inI; omega) rfl trivial ?_
    refine u_move rfl rfl trivial ?_
    refine u_end trivial ?_
    refine ⟨_, _, ren [], ?_, ⟨i + 1, ?_, rfl, rfl⟩, mk_wk [] rfl rfl ⟨⟨_, rfl, (.shr _ _)⟩, ⟨_, rfl, (.shr _ _)⟩, ⟨_, rfl, (.lit _)⟩, ⟨_, rfl, (.lit _)⟩, trivial⟩ trivial (parOk hpar rfl)⟩
    ·omega
    ·refine ⟨by omega, ?_⟩
     rw [List.take_add_one, List.take_add_one, hI1, List.getElem?_eq_getElem (by omega), List.getElem?_eq_getElem (by omega)]
     rw [beq_iff_eq.1 h24]
   ·refine u_not rfl rfl trivial ?_
    refine u_end (by kernel_rfl) ?_
    refine vw_condT rfl ?_
    refine vw_seq ?_
    refine vw_region ?_
    refine u_assign rfl rfl trivial ?_
    refine u_end trivial ?_
    refine vw_ret ?_
    refine fin0 (.inr rfl) (.cons (.tmp rfl (nb rfl)) .nil) (subB ?_)
    ·refine beq_eq_false_iff_ne.2 (fun e => ?_)
     subst e
     simp at h24
  ·refine u_end trivial ?_
   refine vw_seq ?_
   refine vw_condF rfl ?_
   refine vw_exit ?_
   refine iteP rfl ?_
   refine vw_seq ?_
   rw [chunkCells_length] at h14
   refine vw_region ?_
   refine u_assign rfl rfl trivial ?_
   refine u_end trivial ?_
   refine vw_ret ?_
   refine fin0 (.inr rfl) (.cons (.tmp rfl (nb rfl)) .nil) (subB ?_)
   ·refine beq_iff_eq.2 ?_
    rw [List.take_of_length_le (by omega), List.take_of_length_le (by omega)] at hI1
    exact hI1
theorem c93 (s t : Sender) : VFun G 93 [.agg (senderAV s), .agg (senderAV t)] [] (.lit (.bool (s == t))) [] := by
 refine VFun.intro (fn := Try.f93) rfl rfl (by kernel_rfl) (nb rfl) fun Γ hpar => ?_
 refine vw_seq ?_
 refine vw_region ?_
 refine u_box 100 rfl rfl rfl (notPar hpar rfl) rfl rfl trivial ?_
 refine u_box 101 rfl rfl rfl (notPar hpar rfl) rfl rfl trivial ?_
 refine u_assign rfl rfl trivial ?_
 refine u_end trivial ?_
 refine vw_seq ?_
 refine vw_region ?_
 refine u_fieldAddr rfl rfl rfl rfl rfl rfl trivial ?_
 refine u_load1 rfl rfl rfl rfl rfl rfl trivial ?_
 refine u_fieldAddr rfl rfl rfl rfl rfl rfl trivial ?_
 refine u_load1 rfl rfl rfl rfl rfl rfl trivial ?_
 refine s_call [] rfl (c63 _ _) (.cons ((.shr _ _)) (.cons ((.shr _ _)) .nil)) (fun k o h => by simp [Go.Vc.look] at h) rfl trivial (fun h9 => ?_) (fun h9 => ?_)
 ·refine u_move rfl rfl trivial ?_
  refine u_fieldAddr rfl rfl rfl rfl rfl rfl ⟨_, _, rfl, rfl, rfl, rfl⟩ ?_
  refine u_load1 rfl rfl rfl rfl rfl rfl ⟨_, _, rfl, rfl, rfl, rfl⟩ ?_
  refine u_fieldAddr rfl rfl rfl rfl rfl rfl ⟨_, _, rfl, rfl, rfl, rfl⟩ ?_
  refine u_load1 rfl rfl rfl rfl rfl rfl ⟨_, _, rfl, rfl, rfl, rfl⟩ ?_
  refine s_eql rfl rfl rfl ⟨_, _, rfl, rfl, rfl, rfl⟩ (fun h15 => ?_) (fun h15 => ?_)
  ·refine u_pickT rfl rfl rfl trivial ?_
   refine u_move rfl rfl trivial ?_
   refine u_fieldAddr rfl rfl rfl rfl rfl rfl ⟨_, _, rfl, rfl, rfl, rfl⟩ ?_
   refine u_loadN rfl rfl rfl rfl rfl rfl rfl ⟨_, _, rfl, rfl, rfl, rfl⟩ ?_
   refine u_fieldAddr rfl rfl rfl rfl rfl rfl ⟨_, _, rfl, rfl, rfl, rfl⟩ ?_
   refine u_loadN rfl rfl rfl rfl rfl rfl rfl ⟨_, _, rfl, rfl, rfl, rfl⟩ ?_
   refine s_eqlA rfl rfl rfl rfl rfl rfl ⟨_, _, rfl, rfl, rfl, rfl⟩ (fun h22 => ?_) (fun h22 => ?_)
   ·refine u_pickT rfl rfl rfl trivial ?_
    refine u_move rfl rfl trivial ?_
    refine u_fieldAddr rfl rfl rfl rfl rfl rfl ⟨_, _, rfl, rfl, rfl, rfl⟩ ?_
    refine u_load1 rfl rfl rfl rfl rfl rfl ⟨_, _, rfl, rfl, rfl, rfl⟩ ?_
    refine u_fieldAddr rfl rfl rfl rfl rfl rfl ⟨_, _, rfl, rfl, rfl, rfl⟩ ?_
    refine u_load1 rfl rfl rfl rfl rfl rfl ⟨_, _, rfl, rfl, rfl, rfl⟩ ?_
    refine s_call [] rfl (c142 _ _) (.cons ((.shr _ _)) (.cons ((.shr _ _)) .nil)) (fun k o h => by simp [Go.Vc.look] at h) rfl ⟨_, _, rfl, rfl, rfl, rfl⟩ (fun h29 => ?_) (fun h29 => ?_)
    ·refine u_pickT rfl rfl rfl trivial ?_
     refine u_move rfl rfl trivial ?_
     refine u_fieldAddr rfl rfl rfl rfl rfl rfl ⟨_, _, rfl, rfl, rfl, rfl⟩ ?_
     refine u_load1 rfl rfl rfl rfl rfl rfl ⟨_, _, rfl, rfl, rfl, rfl⟩ ?_
     refine u_fieldAddr rfl rfl rfl rfl rfl rfl ⟨_, _, rfl, rfl, rfl, rfl⟩ ?_
     refine u_load1 rfl rfl rfl rfl rfl rfl ⟨_, _, rfl, rfl, rfl, rfl⟩ ?_
     refine u_eql rfl rfl rfl ⟨_, _, rfl, rfl, rfl, rfl⟩ ?_
     refine u_pickT rfl rfl rfl trivial ?_
     refine u_assign rfl rfl trivial ?_
     refine u_end trivial ?_
     refine vw_ret ?_
     refine fin' [] (.inr rfl) (.cons (.tmp rfl (nb rfl)) .nil) (mk_wk [] rfl rfl ⟨⟨_, rfl, (subB ?_)⟩, trivial⟩ trivial (parOk rfl rfl))
     all_goals (try rfl)
     all_goals
       rw [sender_eq]; try rw [places_eq] at *
       simp_all
    ·refine u_pickT rfl rfl rfl trivial ?_
     refine u_move rfl rfl trivial ?_
     refine u_skip rfl rfl rfl rfl rfl ?_
     refine u_skip rfl rfl rfl rfl rfl ?_
     refine u_skip rfl rfl rfl rfl rfl ?_
     refine u_skip rfl rfl rfl rfl rfl ?_
     refine u_skip rfl rfl rfl rfl rfl ?_
     refine u_pickF rfl rfl rfl trivial ?_
     refine u_assign rfl rfl trivial ?_
     refine u_end trivial ?_
     refine vw_ret ?_
     refine fin' [] (.inr rfl) (.cons (.tmp rfl (nb rfl)) .nil) (mk_wk [] rfl rfl ⟨⟨_, rfl, (subB ?_)⟩, trivial⟩ trivial (parOk rfl rfl))
     all_goals (try rfl)
     all_goals
       rw [sender_eq]; try rw [places_eq] at *
       simp_all
   ·refine u_pickT rfl rfl rfl trivial ?_
    refine u_move rfl rfl trivial ?_
    refine u_skip rfl rfl rfl rfl rfl ?_
    refine u_skip rfl rfl rfl rfl rfl ?_
    refine u_skip rfl rfl rfl rfl rfl ?_
    refine u_skip rfl rfl rfl rfl rfl ?_
    refine u_skip rfl rfl rfl rfl rfl ?_
    refine u_pickF rfl rfl rfl trivial ?_
    refine u_move rfl rfl trivial ?_
    refine u_skip rfl rfl rfl rfl rfl ?_
    refine u_skip rfl rfl rfl rfl rfl ?_
    refine u_skip rfl rfl rfl rfl rfl ?_
    refine u_skip rfl rfl rfl rfl rfl ?_
    refine u_skip rfl rfl rfl rfl rfl ?_
    refine u_pickF rfl rfl rfl trivial ?_
    refine u_assign rfl rfl trivial ?_
    refine u_end trivial ?_
    refine vw_ret ?_
    refine fin' [] (.inr rfl) (.cons (.tmp rfl (nb rfl)) .nil) (mk_wk [] rfl rfl ⟨⟨_, rfl, (subB ?_)⟩, trivial⟩ trivial (parOk rfl rfl))
    all_goals (try rfl)
    all_goals
      rw [sender_eq]; try rw [places_eq] at *
      simp_all
  ·refine u_pickT rfl rfl rfl trivial ?_
   refine u_move rfl rfl trivial ?_
   refine u_skip rfl rfl rfl rfl rfl ?_
   refine u_skip rfl rfl rfl rfl rfl ?_
   refine u_skip rfl rfl rfl rfl rfl ?_
   refine u_skip rfl rfl rfl rfl rfl ?_
   refine u_skip rfl rfl rfl rfl rfl ?_
   refine u_pickF rfl rfl rfl trivial ?_
   refine u_move rfl rfl trivial ?_
   refine u_skip rfl rfl rfl rfl rfl ?_
   refine u_skip rfl rfl rfl rfl rfl ?_
   refine u_skip rfl rfl rfl rfl rfl ?_
   refine u_skip rfl rfl rfl rfl rfl ?_
   refine u_skip rfl rfl rfl rfl rfl ?_
   refine u_pickF rfl rfl rfl trivial ?_
   refine u_move rfl rfl trivial ?_
   refine u_skip rfl rfl rfl rfl rfl ?_
   refine u_skip rfl rfl rfl rfl rfl ?_
   refine u_skip rfl rfl rfl rfl rfl ?_
   refine u_skip rfl rfl rfl rfl rfl ?_
   refine u_skip rfl rfl rfl rfl rfl ?_
   refine u_pickF rfl rfl rfl trivial ?_
   refine u_assign rfl rfl trivial ?_
   refine u_end trivial ?_
   refine vw_ret ?_
   refine fin' [] (.inr rfl) (.cons (.tmp rfl (nb rfl)) .nil) (mk_wk [] rfl rfl ⟨⟨_, rfl, (subB ?_)⟩, trivial⟩ trivial (parOk rfl rfl))
   all_goals (try rfl)
   all_goals
     rw [sender_eq]; try rw [places_eq] at *
     simp_all
 ·refine u_move rfl rfl trivial ?_
  refine u_skip rfl rfl rfl rfl rfl ?_
  refine u_skip rfl rfl rfl rfl rfl ?_
  refine u_skip rfl rfl rfl rfl rfl ?_
  refine u_skip rfl rfl rfl rfl rfl ?_
  refine u_skip rfl rfl rfl rfl rfl ?_
  refine u_pickF rfl rfl rfl trivial ?_
  refine u_move rfl rfl trivial ?_
  refine u_skip rfl rfl rfl rfl rfl ?_
  refine u_skip rfl rfl rfl rfl rfl ?_
  refine u_skip rfl rfl rfl rfl rfl ?_
  refine u_skip rfl rfl rfl rfl rfl ?_
  refine u_skip rfl rfl rfl rfl rfl ?_
  refine u_pickF rfl rfl rfl trivial ?_
  refine u_move rfl rfl trivial ?_
  refine u_skip rfl rfl rfl rfl rfl ?_
  refine u_skip rfl rfl rfl rfl rfl ?_
  refine u_skip rfl rfl rfl rfl rfl ?_
  refine u_skip rfl rfl rfl rfl rfl ?_
  refine u_skip rfl rfl rfl rfl rfl ?_
  refine u_pickF rfl rfl rfl trivial ?_
  refine u_move rfl rfl trivial ?_
  refine u_skip rfl rfl rfl rfl rfl ?_
  refine u_skip rfl rfl rfl rfl rfl ?_
  refine u_skip rfl rfl rfl rfl rfl ?_
  refine u_skip rfl rfl rfl rfl rfl ?_
  refine u_skip rfl rfl rfl rfl rfl ?_
  refine u_pickF rfl rfl rfl trivial ?_
  refine u_assign rfl rfl trivial ?_
  refine u_end trivial ?_
  refine vw_ret ?_
  refine fin' [] (.inr rfl) (.cons (.tmp rfl (nb rfl)) .nil) (mk_wk [] rfl rfl ⟨⟨_, rfl, (subB ?_)⟩, trivial⟩ trivial (parOk rfl rfl))
  all_goals (try rfl)
  all_goals
    rw [sender_eq]; try rw [places_eq] at *
    simp_all
end Go.Proofs.Ytaadloihphpdbaa
