/- Walks of the package recv and of the document's answer to it: owned, said; the library's search. Printed by a small program (walk.py). -/
import Derived.Test.YtaadloihphpdbaaWSend3
import Derived.Test.YtaadloihphpdbaaPRecv
import Derived.Test.YtaadloihphpdbaaVcIns
set_option linter.unusedVariables false
set_option linter.unusedSimpArgs false
set_option maxRecDepth 4000
namespace Go.Proofs.Ytaadloihphpdbaa
open Go Go.Vc Go.RowKit
theorem zero4 (w : World) : (zeroValue 4).run G.P w = .ok (.bool false) w := by kernel_rfl
theorem mid_is {i j : Nat} (h : i + j ≤ 4000000000) : IntKind.i64.wrap ((IntKind.u64.wrap ((i : Int) + (j : Int))).fdiv (2 ^ (min (1 : Int).toNat IntKind.u64.bits))) = (((i + j) / 2 : Nat) : Int) := by
  have e1 : IntKind.u64.wrap ((i : Int) + (j : Int)) = ((i + j : Nat) : Int) := by
    simp only [IntKind.wrap, IntKind.bits, IntKind.signed, Bool.false_and, Bool.false_eq_true, if_false]
    omega
  rw [e1]
  have e2 : ((i + j : Nat) : Int).fdiv (2 ^ (min (1 : Int).toNat IntKind.u64.bits)) = (((i + j) / 2 : Nat) : Int) := by
    have : (2 : Int) ^ (min (1 : Int).toNat IntKind.u64.bits) = 2 := by decide
    rw [this, Int.fdiv_eq_ediv_of_nonneg _ (by decide)]
    omega
  rw [e2]
  exact wrap_inI (by unfold inI; omega)
theorem msgCells_get' {l : List Msg} {i : Nat} {x : Msg} (h : l[i]? = some x) : (msgCells l)[i]? = some (msgAV x) := by simp [msgCells, h]
theorem hold_early {r : Receiver} (hr : RInv r) {c : Chunk} (hc : c ∈ r.hold) : c.early.length ≤ 17592186044000 := by
  have := MChunk.num ⟨(hr.h c hc).2, (hr.h c hc).1⟩
  rw [this.2.2.1]; simp
theorem hold_len {r : Receiver} (hr : RInv r) : r.hold.length ≤ 40 ∧ r.told.length ≤ 40 ∧ r.early.length ≤ 3 := by
  have h1 := hr.t; have h2 := hr.nl; have h3 := hr.el
  omega
theorem rsay_no {r : Receiver} (h : (!r.owes) = true) : rsay r = (r, chunk0, false) := by unfold rsay; rw [if_neg (by simpa using h)]
theorem rsay_yes {r : Receiver} (h : (!r.owes) = false) : rsay r = ({ r with owes := false }, ⟨2, r.next, 0, 0, [], r.early⟩, true) := by unfold rsay; rw [if_pos (by simpa using h)]
theorem receiver_eq (s t : Receiver) : (s == t) = (s.next == t.next && (s.early == t.early && (s.places == t.places && (s.hold == t.hold && (s.told == t.told && (s.owes == t.owes)))))) := by
  rw [Bool.eq_iff_iff]; cases s; cases t; simp

theorem c171 (n : Int) : VFun G 171 [.lit (.int .i64 n)] [] (.lit (.bool false)) [] := by
 refine VFun.intro (fn := Try.f171) rfl rfl (by kernel_rfl) (nb rfl) fun Γ hpar => ?_
 refine vw_seq ?_
 refine vw_region ?_
 refine u_assign rfl rfl trivial ?_
 refine u_end trivial ?_
 refine vw_seq ?_
 refine vw_region ?_
 refine u_move rfl rfl trivial ?_
 refine u_move rfl rfl trivial ?_
 refine u_neq rfl rfl rfl trivial ?_
 refine u_assign rfl rfl trivial ?_
 refine u_end trivial ?_
 refine vw_ret ?_
 refine fin0 (.inr rfl) (.cons (.tmp rfl (nb rfl)) .nil) (subB ?_)
 ·simp
theorem c165 (n : Int) : VFun G 165 [.lit (.int .i64 n)] [] (.lit (.bool false)) [] := by
 refine VFun.intro (fn := Try.f165) rfl rfl (by kernel_rfl) (nb rfl) fun Γ hpar => ?_
 refine vw_seq ?_
 refine vw_region ?_
 refine u_assign rfl rfl trivial ?_
 refine u_end trivial ?_
 refine vw_seq ?_
 refine vw_region ?_
 refine u_move rfl rfl trivial ?_
 refine u_move rfl rfl trivial ?_
 refine u_neq rfl rfl rfl trivial ?_
 refine u_assign rfl rfl trivial ?_
 refine u_end trivial ?_
 refine vw_ret ?_
 refine fin0 (.inr rfl) (.cons (.tmp rfl (nb rfl)) .nil) (subB ?_)
 ·simp
theorem c164 (a b : Int) : VFun G 164 [.lit (.int .i64 a), .lit (.int .i64 b)] [] (.lit (.bool (decide (a < b)))) [] := by
 refine VFun.intro (fn := Try.f164) rfl rfl (by kernel_rfl) (nb rfl) fun Γ hpar => ?_
 refine vw_seq ?_
 refine vw_region ?_
 refine u_assign rfl rfl trivial ?_
 refine u_end trivial ?_
 refine vw_seq ?_
 refine vw_region ?_
 refine u_move rfl rfl trivial ?_
 refine u_call rfl (c171 _) (.cons ((.lit _)) .nil) rfl trivial ?_
 refine u_move rfl rfl trivial ?_
 refine u_skip rfl rfl rfl rfl rfl ?_
 refine u_skip rfl rfl rfl rfl rfl ?_
 refine u_skip rfl rfl rfl rfl rfl ?_
 refine u_pickF rfl rfl rfl trivial ?_
 refine u_move rfl rfl trivial ?_
 refine u_move rfl rfl ⟨_, _, rfl, rfl, rfl, rfl⟩ ?_
 refine u_move rfl rfl ⟨_, _, rfl, rfl, rfl, rfl⟩ ?_
 refine u_lss rfl rfl rfl ⟨_, _, rfl, rfl, rfl, rfl⟩ ?_
 refine u_pickF rfl rfl rfl trivial ?_
 refine u_assign rfl rfl trivial ?_
 refine u_end trivial ?_
 refine vw_ret ?_
 refine fin0 (.inr rfl) (.cons (.tmp rfl (nb rfl)) .nil) (subB ?_)
 ·rfl
theorem c148 (l : List Int) (n : Int) (hs : l.Pairwise (· < ·)) (hl : l.length ≤ 1000000) : VFun G 148 [.shr 1 (intCells l), .lit (.int .i64 n)] [] (.tup [.lit (.int .i64 ((l.takeWhile fun x => decide (x < n)).length : Nat)), .lit (.bool (l.contains n))]) [] := by
 have hq : (l.takeWhile fun x => decide (x < n)).length ≤ l.length := (List.takeWhile_sublist _).length_le
 refine VFun.intro (fn := Try.f148) rfl rfl (by kernel_rfl) (nb rfl) fun Γ hpar => ?_
 refine vw_seq ?_
 refine vw_region ?_
 refine u_assign rfl rfl trivial ?_
 refine u_assign rfl rfl trivial ?_
 refine u_end trivial ?_
 refine vw_seq ?_
 refine vw_region ?_
 refine u_move rfl rfl trivial ?_
 refine u_len rfl rfl rfl trivial ?_
 refine u_assign rfl rfl trivial ?_
 refine u_end trivial ?_
 refine vw_seq ?_
 refine vw_region ?_
 refine u_move rfl rfl trivial ?_
 refine u_assign rfl rfl trivial ?_
 refine u_assign rfl rfl trivial ?_
 refine u_end trivial ?_
 refine vw_seq ?_
 refine vw_block ?_
 refine vw_loopR (fun n_ E => ∃ (i : Nat) (j : Nat), ((i ≤ (l.takeWhile fun x => decide (x < n)).length) ∧ ((l.takeWhile fun x => decide (x < n)).length ≤ j) ∧ (j ≤ l.length)) ∧ n_ = j - i ∧ E = ⟨[(0, .shr 1 (intCells l)), (1, .lit (.int .i64 n)), (6, .lit (.int .i64 (intCells l).length)), (7, .lit (.int .i64 i)), (8, .lit (.int .i64 j))], [], 54⟩) (n0 := _) (E0 := _) (⟨0, l.length, by exact ⟨Nat.zero_le _, hq, Nat.le_refl _⟩, rfl, rfl⟩) (ren []) (mk_wk [] rfl rfl ⟨⟨_, rfl, (.shr _ _)⟩, ⟨_, rfl, (.lit _)⟩, ⟨_, rfl, (.lit _)⟩, ⟨_, rfl, (.lit _)⟩, ⟨_, rfl, (subI (by rw [intCells_length]))⟩, trivial⟩ trivial (parOk hpar rfl)) (fun n_ E hR => ?_)
 obtain ⟨i, j, hI, rfl, rfl⟩ := hR
 obtain ⟨hI0, hI1, hI2⟩ := hI
 refine vw_seq ?_
 refine vw_seq ?_
 refine vw_region ?_
 refine u_move rfl rfl trivial ?_
 refine u_move rfl rfl trivial ?_
 refine s_lss rfl rfl rfl trivial (fun h15 => ?_) (fun h15 => ?_)
 ·refine u_end trivial ?_
  refine vw_condT rfl ?_
  refine vw_skip ?_
  refine vw_block ?_
  refine vw_seq ?_
  refine vw_region ?_
  refine u_move rfl rfl trivial ?_
  refine u_move rfl rfl trivial ?_
  refine u_add rfl rfl rfl (by unfold inI; omega) rfl trivial ?_
  refine u_convI rfl rfl rfl rfl trivial ?_
  refine u_shr rfl rfl (by decide) rfl trivial ?_
  refine u_convI rfl rfl rfl rfl trivial ?_
  refine u_assign rfl rfl trivial ?_
  refine u_end trivial ?_
  refine vw_seq ?_
  rw [mid_is (by omega)]
  obtain ⟨x, hx⟩ : ∃ x, l[(i + j) / 2]? = some x := ⟨_, List.getElem?_eq_getElem (by omega)⟩
  refine vw_region ?_
  refine u_move rfl rfl trivial ?_
  refine u_move rfl rfl trivial ?_
  refine u_indexS rfl rfl rfl rfl rfl (by rfl) (intCells_get hx) rfl trivial ?_
  refine u_loadS1 rfl rfl rfl rfl rfl trivial ?_
  refine u_move rfl rfl trivial ?_
  refine s_call [] rfl (c164 _ _) (.cons ((.lit _)) (.cons ((.lit _)) .nil)) (fun k o h => by simp [Go.Vc.look] at h) rfl trivial (fun h27 => ?_) (fun h27 => ?_)
  ·refine u_end trivial ?_
   refine vw_condT rfl ?_
   refine vw_region ?_
   refine u_move rfl rfl trivial ?_
   refine u_add rfl rfl rfl (by unfold inI; omega) rfl trivial ?_
   refine u_assign rfl rfl trivial ?_
   refine u_end trivial ?_
   refine ⟨_, _, ren [], ?_, ⟨(i + j) / 2 + 1, j, ?_, rfl, rfl⟩, mk_wk [] rfl rfl ⟨⟨_, rfl, (.shr _ _)⟩, ⟨_, rfl, (.lit _)⟩, ⟨_, rfl, (.lit _)⟩, ⟨_, rfl, (subI (by rfl))⟩, ⟨_, rfl, (.lit _)⟩, trivial⟩ trivial (parOk hpar rfl)⟩
   ·omega
   ·exact ⟨(tw_lt hs hx).1 (by simpa using h27), hI1, hI2⟩
  ·refine u_end trivial ?_
   refine vw_condF rfl ?_
   refine vw_region ?_
   refine u_move rfl rfl trivial ?_
   refine u_assign rfl rfl trivial ?_
   refine u_end trivial ?_
   refine ⟨_, _, ren [], ?_, ⟨i, (i + j) / 2, ?_, rfl, rfl⟩, mk_wk [] rfl rfl ⟨⟨_, rfl, (.shr _ _)⟩, ⟨_, rfl, (.lit _)⟩, ⟨_, rfl, (.lit _)⟩, ⟨_, rfl, (.lit _)⟩, ⟨_, rfl, (.lit _)⟩, trivial⟩ trivial (parOk hpar rfl)⟩
   ·omega
   ·refine ⟨hI0, ?_, by omega⟩
    have := mt (tw_lt hs hx).2 (by simpa using h27)
    omega
 ·refine u_end trivial ?_
  refine vw_condF rfl ?_
  refine vw_exit ?_
  refine iteP rfl ?_
  refine vw_seq ?_
  obtain rfl : i = (l.takeWhile fun x => decide (x < n)).length := by omega
  refine vw_region ?_
  refine u_move rfl rfl trivial ?_
  refine u_move rfl rfl trivial ?_
  refine u_move rfl rfl trivial ?_
  refine s_lss rfl rfl rfl trivial (fun h34 => ?_) (fun h34 => ?_)
  ·refine u_move rfl rfl trivial ?_
   refine u_move rfl rfl ⟨_, _, rfl, rfl, rfl, rfl⟩ ?_
   refine u_move rfl rfl ⟨_, _, rfl, rfl, rfl, rfl⟩ ?_
   refine u_indexS rfl rfl rfl rfl rfl rfl (intCells_get (List.getElem?_eq_getElem (by rw [intCells_length] at h34; omega))) rfl ⟨_, _, rfl, rfl, rfl, rfl⟩ ?_
   refine u_loadS1 rfl rfl rfl rfl rfl ⟨_, _, rfl, rfl, rfl, rfl⟩ ?_
   refine u_move rfl rfl ⟨_, _, rfl, rfl, rfl, rfl⟩ ?_
   refine s_eql rfl rfl rfl ⟨_, _, rfl, rfl, rfl, rfl⟩ (fun h41 => ?_) (fun h41 => ?_)
   ·refine u_move rfl rfl ⟨_, _, rfl, rfl, rfl, rfl⟩ ?_
    refine u_skip rfl rfl rfl rfl rfl ?_
    refine u_skip rfl rfl rfl rfl rfl ?_
    refine u_skip rfl rfl rfl rfl rfl ?_
    refine u_skip rfl rfl rfl rfl rfl ?_
    refine u_skip rfl rfl rfl rfl rfl ?_
    refine u_skip rfl rfl rfl rfl rfl ?_
    refine u_skip rfl rfl rfl rfl rfl ?_
    refine u_skip rfl rfl rfl rfl rfl ?_
    refine u_skip rfl rfl rfl rfl rfl ?_
    refine u_pickT rfl rfl rfl ⟨_, _, rfl, rfl, rfl, rfl⟩ ?_
    refine u_pickT rfl rfl rfl trivial ?_
    refine u_assign rfl rfl trivial ?_
    refine u_assign rfl rfl trivial ?_
    refine u_end trivial ?_
    refine vw_ret ?_
    refine fin' [] (.inr rfl) (.cons (.tmp rfl (nb rfl)) (.cons (.tmp rfl (nb rfl)) .nil)) (mk_wk [] rfl rfl ⟨⟨_, rfl, (.tup _ _ (.cons (subI ?_) (.cons (subB ?_) .nil)))⟩, trivial⟩ trivial (parOk rfl rfl))
    all_goals (try rfl)
    all_goals
      first | rfl | exact (bs_yes hs rfl (by rw [List.getElem?_eq_getElem (by rw [intCells_length] at h34; omega), h41])).symm | exact bs_yes hs rfl (by rw [List.getElem?_eq_getElem (by rw [intCells_length] at h34; omega), h41])
   ·refine u_move rfl rfl ⟨_, _, rfl, rfl, rfl, rfl⟩ ?_
    refine u_move rfl rfl ⟨_, _, rfl, rfl, rfl, rfl⟩ ?_
    refine u_move rfl rfl ⟨_, _, rfl, rfl, rfl, rfl⟩ ?_
    refine u_indexS rfl rfl rfl rfl rfl rfl (intCells_get (List.getElem?_eq_getElem (by rw [intCells_length] at h34; omega))) rfl ⟨_, _, rfl, rfl, rfl, rfl⟩ ?_
    refine u_loadS1 rfl rfl rfl rfl rfl ⟨_, _, rfl, rfl, rfl, rfl⟩ ?_
    refine u_call rfl (c165 _) (.cons ((.lit _)) .nil) rfl ⟨_, _, rfl, rfl, rfl, rfl⟩ ?_
    refine u_move rfl rfl ⟨_, _, rfl, rfl, rfl, rfl⟩ ?_
    refine u_skip rfl rfl rfl rfl rfl ?_
    refine u_skip rfl rfl rfl rfl rfl ?_
    refine u_pickF rfl rfl rfl ⟨_, _, rfl, rfl, rfl, rfl⟩ ?_
    refine u_pickF rfl rfl rfl ⟨_, _, rfl, rfl, rfl, rfl⟩ ?_
    refine u_pickT rfl rfl rfl trivial ?_
    refine u_assign rfl rfl trivial ?_
    refine u_assign rfl rfl trivial ?_
    refine u_end trivial ?_
    refine vw_ret ?_
    refine fin' [] (.inr rfl) (.cons (.tmp rfl (nb rfl)) (.cons (.tmp rfl (nb rfl)) .nil)) (mk_wk [] rfl rfl ⟨⟨_, rfl, (.tup _ _ (.cons (subI ?_) (.cons (subB ?_) .nil)))⟩, trivial⟩ trivial (parOk rfl rfl))
    all_goals (try rfl)
    all_goals
      first | rfl | exact bs_no hs rfl (by rw [intCells_length] at h34; first | (rw [List.getElem?_eq_none (by omega)]; simp; done) | (rw [List.getElem?_eq_getElem (by omega)]; intro e; injection e with e; exact h41 e)) | exact (bs_no hs rfl (by rw [intCells_length] at h34; first | (rw [List.getElem?_eq_none (by omega)]; simp; done) | (rw [List.getElem?_eq_getElem (by omega)]; intro e; injection e with e; exact h41 e))).symm
  ·refine u_move rfl rfl trivial ?_
   refine u_skip rfl rfl rfl rfl rfl ?_
   refine u_skip rfl rfl rfl rfl rfl ?_
   refine u_skip rfl rfl rfl rfl rfl ?_
   refine u_skip rfl rfl rfl rfl rfl ?_
   refine u_skip rfl rfl rfl rfl rfl ?_
   refine u_skip rfl rfl rfl rfl rfl ?_
   refine u_skip rfl rfl rfl rfl rfl ?_
   refine u_skip rfl rfl rfl rfl rfl ?_
   refine u_skip rfl rfl rfl rfl rfl ?_
   refine u_skip rfl rfl rfl rfl rfl ?_
   refine u_skip rfl rfl rfl rfl rfl ?_
   refine u_skip rfl rfl rfl rfl rfl ?_
   refine u_skip rfl rfl rfl rfl rfl ?_
   refine u_skip rfl rfl rfl rfl rfl ?_
   refine u_skip rfl rfl rfl rfl rfl ?_
   refine u_skip rfl rfl rfl rfl rfl ?_
   refine u_skip rfl rfl rfl rfl rfl ?_
   refine u_pickF rfl rfl rfl trivial ?_
   refine u_assign rfl rfl trivial ?_
   refine u_assign rfl rfl trivial ?_
   refine u_end trivial ?_
   refine vw_ret ?_
   refine fin' [] (.inr rfl) (.cons (.tmp rfl (nb rfl)) (.cons (.tmp rfl (nb rfl)) .nil)) (mk_wk [] rfl rfl ⟨⟨_, rfl, (.tup _ _ (.cons (subI ?_) (.cons (subB ?_) .nil)))⟩, trivial⟩ trivial (parOk rfl rfl))
   all_goals (try rfl)
   all_goals
     first | rfl | exact bs_no hs rfl (by rw [intCells_length] at h34; first | (rw [List.getElem?_eq_none (by omega)]; simp; done) | (rw [List.getElem?_eq_getElem (by omega)]; intro e; injection e with e; exact h41 e)) | exact (bs_no hs rfl (by rw [intCells_length] at h34; first | (rw [List.getElem?_eq_none (by omega)]; simp; done) | (rw [List.getElem?_eq_getElem (by omega)]; intro e; injection e with e; exact h41 e))).symm
theorem c110 (r : Receiver) (hr : RInv r) : VFun G 110 [.agg (receiverAV r)] [] (.agg [.lit (.int .i64 r.next), .row 901, .lit (.int .i64 r.places.a), .lit (.int .i64 r.places.b), .lit (.int .i64 r.places.c), .row 902, .row 903, .lit (.bool r.owes)]) [(901, .row 3 1 (intCells r.early)), (902, .row 77 6 (chunkCells r.hold)), (903, .row 48 2 (msgCells r.told))] := by
 have hh := hold_len hr
 refine VFun.intro (fn := Try.f110) rfl rfl (by kernel_rfl) (nb rfl) fun Γ hpar => ?_
 refine vw_seq ?_
 refine vw_region ?_
 refine u_box 100 rfl rfl rfl (notPar hpar rfl) rfl rfl trivial ?_
 refine u_alloc 101 rfl rfl (notPar hpar rfl) rfl rfl trivial ?_
 refine u_end trivial ?_
 refine vw_seq ?_
 refine vw_region ?_
 refine u_loadAll rfl rfl rfl rfl rfl rfl trivial ?_
 refine u_alloc 102 rfl rfl (notPar hpar rfl) rfl rfl trivial ?_
 refine u_storeAll rfl rfl rfl rfl rfl rfl rfl rfl trivial ?_
 refine u_end trivial ?_
 refine vw_seq ?_
 refine vw_region ?_
 refine u_fieldAddr rfl rfl rfl rfl rfl rfl trivial ?_
 refine u_load1 rfl rfl rfl rfl rfl rfl trivial ?_
 refine u_callN [] rfl (c140 103 r.early (by omega)) (.cons ((.shr _ _)) .nil) (fun k o h => by simp [Go.Vc.look] at h) (.inl rfl) rfl (notPar hpar rfl) rfl trivial ?_
 refine u_fieldAddr rfl rfl rfl rfl rfl rfl trivial ?_
 refine u_store rfl rfl rfl rfl rfl rfl rfl trivial ?_
 refine u_fieldAddr rfl rfl rfl rfl rfl rfl trivial ?_
 refine u_store rfl rfl rfl rfl rfl rfl rfl trivial ?_
 refine u_fieldAddr rfl rfl rfl rfl rfl rfl trivial ?_
 refine u_store rfl rfl rfl rfl rfl rfl rfl trivial ?_
 refine u_end trivial ?_
 refine vw_seq ?_
 refine vw_seq ?_
 refine vw_region ?_
 refine u_fieldAddr rfl rfl rfl rfl rfl rfl trivial ?_
 refine u_load1 rfl rfl rfl rfl rfl rfl trivial ?_
 refine u_len rfl rfl rfl trivial ?_
 refine u_move rfl rfl trivial ?_
 refine u_end trivial ?_
 refine vw_block ?_
 refine vw_loopR (fun n_ E => ∃ (i : Nat), ((i ≤ r.hold.length)) ∧ n_ = r.hold.length - i ∧ E = ⟨[(1, .ptr 1 0), (2, .ptr 2 0), (3, .ptr 3 0), (16, .shr 6 (chunkCells r.hold)), (17, .lit (.int .i64 (chunkCells r.hold).length)), (18, .lit (.int .i64 i))], [(1, .box (receiverAV r)), (2, .box [.lit (.int .i64 0), .lit (.slice none 0 0), .lit (.int .i64 0), .lit (.int .i64 0), .lit (.int .i64 0), .lit (.slice none 0 0), .lit (.slice none 0 0), .lit (.bool false)]), (3, .box [.lit (.int .i64 r.next), .row 901, .lit (.int .i64 r.places.a), .lit (.int .i64 r.places.b), .lit (.int .i64 r.places.c), .row 902, .lit (.slice none 0 0), .lit (.bool r.owes)]), (901, .row 3 1 (intCells r.early)), (902, .row 77 6 (chunkCells (r.hold.take i)))], 50⟩) (n0 := _) (E0 := _) (⟨0, by omega, rfl, rfl⟩) (ren [(1, 100), (2, 101), (3, 102), (901, 103)]) (mk_wk [(1, 100), (2, 101), (3, 102), (901, 103)] rfl rfl ⟨⟨_, rfl, (.ptr _ _ _ rfl (lookNe rfl))⟩, ⟨_, rfl, (.ptr _ _ _ rfl (lookNe rfl))⟩, ⟨_, rfl, (.ptr _ _ _ rfl (lookNe rfl))⟩, ⟨_, rfl, (.shr _ _)⟩, ⟨_, rfl, (.lit _)⟩, ⟨_, rfl, (.lit _)⟩, trivial⟩ ⟨⟨_, _, rfl, rfl, (subPL rfl)⟩, ⟨_, _, rfl, rfl, (subPL rfl)⟩, ⟨_, _, rfl, rfl, (.cons ((.lit _)) (.cons ((.row _ _ rfl (lookNe rfl))) (.cons ((.lit _)) (.cons ((.lit _)) (.cons ((.lit _)) (.cons (.nilrow _ _ _ _ rfl rfl) (.cons ((.lit _)) (.cons ((.lit _)) .nil))))))))⟩, (.inl ⟨_, rfl, rfl⟩), (.inr (.inl ⟨rfl, rfl⟩)), trivial⟩ (parOk hpar rfl)) (fun n_ E hR => ?_)
 obtain ⟨i, hI, rfl, rfl⟩ := hR
 have hI0 := hI
 refine vw_seq ?_
 refine vw_region ?_
 refine s_lss rfl rfl rfl trivial (fun h19 => ?_) (fun h19 => ?_)
 ·refine u_end trivial ?_
  refine vw_seq ?_
  refine vw_condT rfl ?_
  refine vw_skip ?_
  refine vw_seq ?_
  refine vw_block ?_
  refine vw_seq ?_
  rw [chunkCells_length] at h19
  refine vw_region ?_
  refine u_indexS rfl rfl rfl rfl rfl rfl (chunkCells_get (by omega)) rfl trivial ?_
  refine u_loadSAll rfl rfl rfl rfl rfl trivial ?_
  refine u_alloc 124 rfl rfl (notPar hpar rfl) rfl rfl trivial ?_
  refine u_storeAll rfl rfl rfl rfl rfl rfl rfl rfl trivial ?_
  refine u_end trivial ?_
  refine vw_draw ?_
  refine u_fieldAddr rfl rfl rfl rfl rfl rfl trivial ?_
  refine u_load1 rfl rfl rfl rfl rfl rfl trivial ?_
  refine u_loadAll rfl rfl rfl rfl rfl rfl trivial ?_
  refine u_call rfl (c80 (r.hold[i]'(by omega)) (hold_early hr (List.getElem_mem _))) (.cons ((subP rfl)) .nil) rfl trivial ?_
  refine u_buildSlice 125 rfl rfl rfl rfl rfl rfl rfl rfl rfl rfl (notPar hpar rfl) rfl rfl trivial ?_
  refine u_append 126 rfl rfl rfl (srcRow rfl) rfl (notPar hpar rfl) rfl rfl rfl rfl rfl (by simp [cellsL, chunkCells_length]; omega) rfl trivial ?_
  refine u_fieldAddr rfl rfl rfl rfl rfl rfl trivial ?_
  refine u_store rfl rfl rfl rfl rfl rfl rfl trivial ?_
  refine u_end (by kernel_rfl) ?_
  refine vw_region ?_
  refine u_add rfl rfl rfl (by unfold inI; omega) rfl trivial ?_
  refine u_move rfl rfl trivial ?_
  refine u_end trivial ?_
  refine ⟨_, _, ren [(1, 1), (2, 2), (3, 3), (901, 901), (902, 126)], ?_, ⟨i + 1, ?_, rfl, rfl⟩, mk_wk [(1, 1), (2, 2), (3, 3), (901, 901), (902, 126)] rfl rfl ⟨⟨_, rfl, (.ptr _ _ _ rfl (lookNe rfl))⟩, ⟨_, rfl, (.ptr _ _ _ rfl (lookNe rfl))⟩, ⟨_, rfl, (.ptr _ _ _ rfl (lookNe rfl))⟩, ⟨_, rfl, (.shr _ _)⟩, ⟨_, rfl, (.lit _)⟩, ⟨_, rfl, (.lit _)⟩, trivial⟩ ⟨⟨_, _, rfl, rfl, (subPL rfl)⟩, ⟨_, _, rfl, rfl, (subPL rfl)⟩, ⟨_, _, rfl, rfl, (.cons ((.lit _)) (.cons ((.row _ _ rfl (lookNe rfl))) (.cons ((.lit _)) (.cons ((.lit _)) (.cons ((.lit _)) (.cons ((.row _ _ rfl (lookNe rfl))) (.cons ((.lit _)) (.cons ((.lit _)) .nil))))))))⟩, (.inl ⟨_, rfl, rfl⟩), (.inl ⟨_, rfl, rowEq rfl (by rw [← List.take_append_getElem (show i < r.hold.length by omega), chunkCells_app]; rfl)⟩), trivial⟩ (parOk hpar rfl)⟩
  ·omega
  ·omega
 ·refine u_end trivial ?_
  refine vw_seq ?_
  refine vw_condF rfl ?_
  refine vw_exit ?_
  refine iteP rfl ?_
  refine vw_seq ?_
  refine vw_seq ?_
  rw [chunkCells_length] at h19
  refine vw_region ?_
  refine u_fieldAddr rfl rfl rfl rfl rfl rfl trivial ?_
  refine u_load1 rfl rfl rfl rfl rfl rfl trivial ?_
  refine u_len rfl rfl rfl trivial ?_
  refine u_move rfl rfl trivial ?_
  refine u_end trivial ?_
  refine vw_block ?_
  refine vw_loopR (fun n_ E => ∃ (i : Nat), ((i ≤ r.told.length)) ∧ n_ = r.told.length - i ∧ E = ⟨[(2, .ptr 2 0), (3, .ptr 3 0), (31, .shr 2 (msgCells r.told)), (32, .lit (.int .i64 (msgCells r.told).length)), (33, .lit (.int .i64 i))], [(2, .box [.lit (.int .i64 0), .lit (.slice none 0 0), .lit (.int .i64 0), .lit (.int .i64 0), .lit (.int .i64 0), .lit (.slice none 0 0), .lit (.slice none 0 0), .lit (.bool false)]), (3, .box [.lit (.int .i64 r.next), .row 901, .lit (.int .i64 r.places.a), .lit (.int .i64 r.places.b), .lit (.int .i64 r.places.c), .row 902, .row 903, .lit (.bool r.owes)]), (901, .row 3 1 (intCells r.early)), (902, .row 77 6 (chunkCells r.hold)), (903, .row 48 2 (msgCells (r.told.take i)))], 50⟩) (n0 := _) (E0 := _) (⟨0, by omega, rfl, rfl⟩) (ren [(2, 2), (3, 3), (901, 901), (902, 902)]) (mk_wk [(2, 2), (3, 3), (901, 901), (902, 902)] rfl rfl ⟨⟨_, rfl, (.ptr _ _ _ rfl (lookNe rfl))⟩, ⟨_, rfl, (.ptr _ _ _ rfl (lookNe rfl))⟩, ⟨_, rfl, (.shr _ _)⟩, ⟨_, rfl, (.lit _)⟩, ⟨_, rfl, (.lit _)⟩, trivial⟩ ⟨⟨_, _, rfl, rfl, (subPL rfl)⟩, ⟨_, _, rfl, rfl, (.cons ((.lit _)) (.cons ((.row _ _ rfl (lookNe rfl))) (.cons ((.lit _)) (.cons ((.lit _)) (.cons ((.lit _)) (.cons ((.row _ _ rfl (lookNe rfl))) (.cons (.nilrow _ _ _ _ rfl rfl) (.cons ((.lit _)) .nil))))))))⟩, (.inl ⟨_, rfl, rfl⟩), (.inl ⟨_, rfl, rowEq rfl (by rw [List.take_of_length_le (by omega)])⟩), (.inr (.inl ⟨rfl, rfl⟩)), trivial⟩ (parOk hpar rfl)) (fun n_ E hR => ?_)
  obtain ⟨i, hI, rfl, rfl⟩ := hR
  have hI0 := hI
  refine vw_seq ?_
  refine vw_region ?_
  refine s_lss rfl rfl rfl trivial (fun h34 => ?_) (fun h34 => ?_)
  ·refine u_end trivial ?_
   refine vw_seq ?_
   refine vw_condT rfl ?_
   refine vw_skip ?_
   refine vw_seq ?_
   refine vw_block ?_
   refine vw_seq ?_
   rw [msgCells_length] at h34
   refine vw_region ?_
   refine u_indexS rfl rfl rfl rfl rfl rfl (msgCells_get (by omega)) rfl trivial ?_
   refine u_loadSAll rfl rfl rfl rfl rfl trivial ?_
   refine u_alloc 144 rfl rfl (notPar hpar rfl) rfl rfl trivial ?_
   refine u_storeAll rfl rfl rfl rfl rfl rfl rfl rfl trivial ?_
   refine u_end trivial ?_
   refine vw_draw ?_
   refine u_fieldAddr rfl rfl rfl rfl rfl rfl trivial ?_
   refine u_load1 rfl rfl rfl rfl rfl rfl trivial ?_
   refine u_fieldAddr rfl rfl rfl rfl rfl rfl trivial ?_
   refine u_load1 rfl rfl rfl rfl rfl rfl trivial ?_
   refine u_fieldAddr rfl rfl rfl rfl rfl rfl trivial ?_
   refine u_load1 rfl rfl rfl rfl rfl rfl trivial ?_
   refine u_call rfl (VFun.read (c136 0 _)) (.cons ((.shr _ _)) .nil) rfl trivial ?_
   refine u_build rfl rfl rfl rfl rfl trivial ?_
   refine u_buildSlice 145 rfl rfl rfl rfl rfl rfl rfl rfl rfl rfl (notPar hpar rfl) rfl rfl trivial ?_
   refine u_append 146 rfl rfl rfl (srcRow rfl) rfl (notPar hpar rfl) rfl rfl rfl rfl rfl (by simp [cellsL, msgCells_length]; omega) rfl trivial ?_
   refine u_fieldAddr rfl rfl rfl rfl rfl rfl trivial ?_
   refine u_store rfl rfl rfl rfl rfl rfl rfl trivial ?_
   refine u_end (by kernel_rfl) ?_
   refine vw_region ?_
   refine u_add rfl rfl rfl (by unfold inI; omega) rfl trivial ?_
   refine u_move rfl rfl trivial ?_
   refine u_end trivial ?_
   refine ⟨_, _, ren [(2, 2), (3, 3), (901, 901), (902, 902), (903, 146)], ?_, ⟨i + 1, ?_, rfl, rfl⟩, mk_wk [(2, 2), (3, 3), (901, 901), (902, 902), (903, 146)] rfl rfl ⟨⟨_, rfl, (.ptr _ _ _ rfl (lookNe rfl))⟩, ⟨_, rfl, (.ptr _ _ _ rfl (lookNe rfl))⟩, ⟨_, rfl, (.shr _ _)⟩, ⟨_, rfl, (.lit _)⟩, ⟨_, rfl, (.lit _)⟩, trivial⟩ ⟨⟨_, _, rfl, rfl, (subPL rfl)⟩, ⟨_, _, rfl, rfl, (.cons ((.lit _)) (.cons ((.row _ _ rfl (lookNe rfl))) (.cons ((.lit _)) (.cons ((.lit _)) (.cons ((.lit _)) (.cons ((.row _ _ rfl (lookNe rfl))) (.cons ((.row _ _ rfl (lookNe rfl))) (.cons ((.lit _)) .nil))))))))⟩, (.inl ⟨_, rfl, rfl⟩), (.inl ⟨_, rfl, rfl⟩), (.inl ⟨_, rfl, rowEq rfl (by rw [← List.take_append_getElem (show i < r.told.length by omega), msgCells_app]; rfl)⟩), trivial⟩ (parOk hpar rfl)⟩
   ·omega
   ·omega
  ·refine u_end trivial ?_
   refine vw_seq ?_
   refine vw_condF rfl ?_
   refine vw_exit ?_
   refine iteP rfl ?_
   refine vw_seq ?_
   rw [msgCells_length] at h34
   refine vw_region ?_
   refine u_loadAll rfl rfl rfl rfl rfl rfl trivial ?_
   refine u_storeAll rfl rfl rfl rfl rfl rfl rfl rfl trivial ?_
   refine u_end trivial ?_
   refine vw_ret ?_
   refine fin' [(901, 901), (902, 902), (903, 903)] (.inr rfl) (.cons (.cellN rfl rfl rfl rfl rfl) .nil) (mk_wk [(901, 901), (902, 902), (903, 903)] rfl rfl ⟨⟨_, rfl, (.agg _ _ (.cons (subI ?_) (.cons (.row _ _ rfl (lookNe rfl)) (.cons (subI ?_) (.cons (subI ?_) (.cons (subI ?_) (.cons (.row _ _ rfl (lookNe rfl)) (.cons (.row _ _ rfl (lookNe rfl)) (.cons (subB ?_) .nil)))))))))⟩, trivial⟩ ⟨(.inl ⟨_, rfl, rowEq rfl ?_⟩), (.inl ⟨_, rfl, rowEq rfl ?_⟩), (.inl ⟨_, rfl, rowEq rfl ?_⟩), trivial⟩ (parOk rfl rfl))
   all_goals (try rfl)
   all_goals
     rw [List.take_of_length_le (by omega)]
theorem c107 (r : Receiver) (hr : RInv r) : VFun G 107 [.agg (receiverAV r)] [] (.tup [.agg (receiverAV (rsay r).1), .agg (chunkAV (rsay r).2.1), .lit (.bool (rsay r).2.2)]) [] := by
 have hh := hold_len hr
 refine VFun.intro (fn := Try.f107) rfl rfl (by kernel_rfl) (nb rfl) fun Γ hpar => ?_
 refine vw_seq ?_
 refine vw_region ?_
 refine u_box 100 rfl rfl rfl (notPar hpar rfl) rfl rfl trivial ?_
 refine u_alloc 101 rfl rfl (notPar hpar rfl) rfl rfl trivial ?_
 refine u_alloc 102 rfl rfl (notPar hpar rfl) rfl rfl trivial ?_
 refine u_assign rfl rfl trivial ?_
 refine u_end trivial ?_
 refine vw_seq ?_
 refine vw_region ?_
 refine u_loadAll rfl rfl rfl rfl rfl rfl trivial ?_
 refine u_callO [] [] [] rfl rfl (c110 r hr) inc_nil trivial (.cons ((subP rfl)) .nil) rfl rfl (newPar hpar rfl) rfl trivial ?_
 refine u_alloc 103 rfl rfl (notPar hpar rfl) rfl rfl trivial ?_
 refine u_storeAll rfl rfl rfl rfl rfl rfl rfl rfl trivial ?_
 refine u_end trivial ?_
 refine vw_seq ?_
 refine vw_seq ?_
 refine vw_region ?_
 refine u_fieldAddr rfl rfl rfl rfl rfl rfl trivial ?_
 refine u_load1 rfl rfl rfl rfl rfl rfl trivial ?_
 refine u_not rfl rfl trivial ?_
 refine u_end trivial ?_
 refine vw_cond rfl (fun hc1 => ?_) (fun hc1 => ?_)
 ·refine vw_seq ?_
  refine vw_region ?_
  refine u_loadAll rfl rfl rfl rfl rfl rfl trivial ?_
  refine u_buildZ rfl rfl rfl (.same _ (.same _ (.same _ (.same _ (.see 1 (.see 1 .nil)))))) rfl rfl trivial ?_
  refine u_storeAll rfl rfl rfl rfl rfl rfl rfl rfl trivial ?_
  refine u_storeAll rfl rfl rfl rfl rfl rfl rfl rfl trivial ?_
  refine u_assign rfl rfl trivial ?_
  refine u_end trivial ?_
  refine vw_ret ?_
  rw [rsay_no hc1]
  refine fin' [] (.inr rfl) (.cons (.cellN rfl rfl rfl rfl rfl) (.cons (.cellN rfl rfl rfl rfl rfl) (.cons (.tmp rfl (nb rfl)) .nil))) (mk_wk [] rfl rfl ⟨⟨_, rfl, (.tup _ _ (.cons (.agg _ _ (.cons (subI ?_) (.cons (subFz rfl (fzL rfl) ?_) (.cons (subI ?_) (.cons (subI ?_) (.cons (subI ?_) (.cons (subFz rfl (fzL rfl) ?_) (.cons (subFz rfl (fzL rfl) ?_) (.cons (subB ?_) .nil))))))))) (.cons (.agg _ _ (.cons (subI ?_) (.cons (subI ?_) (.cons (subI ?_) (.cons (subI ?_) (.cons (subS ?_) (.cons (subS ?_) .nil))))))) (.cons (subB ?_) .nil))))⟩, trivial⟩ trivial (parOk rfl rfl))
  all_goals (try rfl)
 ·refine vw_skip ?_
  refine vw_seq ?_
  refine vw_region ?_
  refine u_fieldAddr rfl rfl rfl rfl rfl rfl trivial ?_
  refine u_store rfl rfl rfl rfl rfl rfl rfl trivial ?_
  refine u_end trivial ?_
  refine vw_seq ?_
  refine vw_draw ?_
  refine u_loadAll rfl rfl rfl rfl rfl rfl trivial ?_
  refine u_fieldAddr rfl rfl rfl rfl rfl rfl trivial ?_
  refine u_load1 rfl rfl rfl rfl rfl rfl trivial ?_
  refine u_fieldAddr rfl rfl rfl rfl rfl rfl trivial ?_
  refine u_load1 rfl rfl rfl rfl rfl rfl trivial ?_
  refine u_call rfl (VFun.read (c140 0 _ (by have := hold_len hr; omega))) (.cons ((.shr _ _)) .nil) rfl trivial ?_
  refine u_buildZ rfl rfl rfl (.same _ (.same _ (.same _ (.same _ (.see 1 (.same _ .nil)))))) rfl rfl trivial ?_
  refine u_storeAll rfl rfl rfl rfl rfl rfl rfl rfl trivial ?_
  refine u_storeAll rfl rfl rfl rfl rfl rfl rfl rfl trivial ?_
  refine u_assign rfl rfl trivial ?_
  refine u_end (by kernel_rfl) ?_
  refine vw_ret ?_
  rw [rsay_yes hc1]
  refine fin' [] (.inr rfl) (.cons (.cellN rfl rfl rfl rfl rfl) (.cons (.cellN rfl rfl rfl rfl rfl) (.cons (.tmp rfl (nb rfl)) .nil))) (mk_wk [] rfl rfl ⟨⟨_, rfl, (.tup _ _ (.cons (.agg _ _ (.cons (subI ?_) (.cons (subFz rfl (fzL rfl) ?_) (.cons (subI ?_) (.cons (subI ?_) (.cons (subI ?_) (.cons (subFz rfl (fzL rfl) ?_) (.cons (subFz rfl (fzL rfl) ?_) (.cons (subB ?_) .nil))))))))) (.cons (.agg _ _ (.cons (subI ?_) (.cons (subI ?_) (.cons (subI ?_) (.cons (subI ?_) (.cons (subS ?_) (.cons (subS ?_) .nil))))))) (.cons (subB ?_) .nil))))⟩, trivial⟩ trivial (parOk rfl rfl))
  all_goals (try rfl)
theorem c108 (r : Receiver) : VFun G 108 [.agg (receiverAV r)] [] (.tup [.agg (receiverAV (rsay r).1), .agg (chunkAV (rsay r).2.1), .lit (.bool (rsay r).2.2)]) [] := by
 refine VFun.intro (fn := Try.f108) rfl rfl (by kernel_rfl) (nb rfl) fun Γ hpar => ?_
 refine vw_seq ?_
 refine vw_region ?_
 refine u_box 100 rfl rfl rfl (notPar hpar rfl) rfl rfl trivial ?_
 refine u_alloc 101 rfl rfl (notPar hpar rfl) rfl rfl trivial ?_
 refine u_alloc 102 rfl rfl (notPar hpar rfl) rfl rfl trivial ?_
 refine u_assign rfl rfl trivial ?_
 refine u_end trivial ?_
 refine vw_seq ?_
 refine vw_seq ?_
 refine vw_region ?_
 refine u_fieldAddr rfl rfl rfl rfl rfl rfl trivial ?_
 refine u_load1 rfl rfl rfl rfl rfl rfl trivial ?_
 refine u_not rfl rfl trivial ?_
 refine u_end trivial ?_
 refine vw_cond rfl (fun hc1 => ?_) (fun hc1 => ?_)
 ·refine vw_seq ?_
  refine vw_region ?_
  refine u_loadAll rfl rfl rfl rfl rfl rfl trivial ?_
  refine u_buildZ rfl rfl rfl (.same _ (.same _ (.same _ (.same _ (.see 1 (.see 1 .nil)))))) rfl rfl trivial ?_
  refine u_storeAll rfl rfl rfl rfl rfl rfl rfl rfl trivial ?_
  refine u_storeAll rfl rfl rfl rfl rfl rfl rfl rfl trivial ?_
  refine u_assign rfl rfl trivial ?_
  refine u_end trivial ?_
  refine vw_ret ?_
  rw [rsay_no hc1]
  refine fin' [] (.inr rfl) (.cons (.cellN rfl rfl rfl rfl rfl) (.cons (.cellN rfl rfl rfl rfl rfl) (.cons (.tmp rfl (nb rfl)) .nil))) (mk_wk [] rfl rfl ⟨⟨_, rfl, (.tup _ _ (.cons (.agg _ _ (.cons (subI ?_) (.cons (subS ?_) (.cons (subI ?_) (.cons (subI ?_) (.cons (subI ?_) (.cons (subS ?_) (.cons (subS ?_) (.cons (subB ?_) .nil))))))))) (.cons (.agg _ _ (.cons (subI ?_) (.cons (subI ?_) (.cons (subI ?_) (.cons (subI ?_) (.cons (subS ?_) (.cons (subS ?_) .nil))))))) (.cons (subB ?_) .nil))))⟩, trivial⟩ trivial (parOk rfl rfl))
  all_goals (try rfl)
 ·refine vw_skip ?_
  refine vw_seq ?_
  refine vw_region ?_
  refine u_fieldAddr rfl rfl rfl rfl rfl rfl trivial ?_
  refine u_store rfl rfl rfl rfl rfl rfl rfl trivial ?_
  refine u_end trivial ?_
  refine vw_seq ?_
  refine vw_draw ?_
  refine u_loadAll rfl rfl rfl rfl rfl rfl trivial ?_
  refine u_fieldAddr rfl rfl rfl rfl rfl rfl trivial ?_
  refine u_load1 rfl rfl rfl rfl rfl rfl trivial ?_
  refine u_fieldAddr rfl rfl rfl rfl rfl rfl trivial ?_
  refine u_load1 rfl rfl rfl rfl rfl rfl trivial ?_
  refine u_buildZ rfl rfl rfl (.same _ (.same _ (.same _ (.same _ (.see 1 (.same _ .nil)))))) rfl rfl trivial ?_
  refine u_storeAll rfl rfl rfl rfl rfl rfl rfl rfl trivial ?_
  refine u_storeAll rfl rfl rfl rfl rfl rfl rfl rfl trivial ?_
  refine u_assign rfl rfl trivial ?_
  refine u_end (by kernel_rfl) ?_
  refine vw_ret ?_
  rw [rsay_yes hc1]
  refine fin' [] (.inr rfl) (.cons (.cellN rfl rfl rfl rfl rfl) (.cons (.cellN rfl rfl rfl rfl rfl) (.cons (.tmp rfl (nb rfl)) .nil))) (mk_wk [] rfl rfl ⟨⟨_, rfl, (.tup _ _ (.cons (.agg _ _ (.cons (subI ?_) (.cons (subS ?_) (.cons (subI ?_) (.cons (subI ?_) (.cons (subI ?_) (.cons (subS ?_) (.cons (subS ?_) (.cons (subB ?_) .nil))))))))) (.cons (.agg _ _ (.cons (subI ?_) (.cons (subI ?_) (.cons (subI ?_) (.cons (subI ?_) (.cons (subS ?_) (.cons (subS ?_) .nil))))))) (.cons (subB ?_) .nil))))⟩, trivial⟩ trivial (parOk rfl rfl))
  all_goals (try rfl)
theorem c109 (s t : Receiver) : VFun G 109 [.agg (receiverAV s), .agg (receiverAV t)] [] (.lit (.bool (s == t))) [] := by
 refine VFun.intro (fn := Try.f109) rfl rfl (by kernel_rfl) (nb rfl) fun Γ hpar => ?_
 refine vw_seq ?_
 refine vw_region ?_
 refine u_box 100 rfl rfl rfl (notPar hpar rfl) rfl rfl trivial ?_
 refine u_box 101 rfl rfl rfl (notPar hpar rfl) rfl rfl trivial ?_
 refine u_assign rfl rfl trivial ?_
 refine u_end trivial ?_
 refine vw_seq ?_
 refine vw_region ?_
 refine u_fieldAddr rfl rfl rfl rfl rfl rfl trivial ?_
 refine u_load1 rfl rfl rfl rfl rfl rfl trivial ?_
 refine u_fieldAddr rfl rfl rfl rfl rfl rfl trivial ?_
 refine u_load1 rfl rfl rfl rfl rfl rfl trivial ?_
 refine s_eql rfl rfl rfl trivial (fun h9 => ?_) (fun h9 => ?_)
 ·refine u_move rfl rfl trivial ?_
  refine u_fieldAddr rfl rfl rfl rfl rfl rfl ⟨_, _, rfl, rfl, rfl, rfl⟩ ?_
  refine u_load1 rfl rfl rfl rfl rfl rfl ⟨_, _, rfl, rfl, rfl, rfl⟩ ?_
  refine u_fieldAddr rfl rfl rfl rfl rfl rfl ⟨_, _, rfl, rfl, rfl, rfl⟩ ?_
  refine u_load1 rfl rfl rfl rfl rfl rfl ⟨_, _, rfl, rfl, rfl, rfl⟩ ?_
  refine s_call [] rfl (c139 _ _) (.cons ((.shr _ _)) (.cons ((.shr _ _)) .nil)) (fun k o h => by simp [Go.Vc.look] at h) rfl ⟨_, _, rfl, rfl, rfl, rfl⟩ (fun h15 => ?_) (fun h15 => ?_)
  ·refine u_pickT rfl rfl rfl trivial ?_
   refine u_move rfl rfl trivial ?_
   refine u_fieldAddr rfl rfl rfl rfl rfl rfl ⟨_, _, rfl, rfl, rfl, rfl⟩ ?_
   refine u_loadN rfl rfl rfl rfl rfl rfl rfl ⟨_, _, rfl, rfl, rfl, rfl⟩ ?_
   refine u_fieldAddr rfl rfl rfl rfl rfl rfl ⟨_, _, rfl, rfl, rfl, rfl⟩ ?_
   refine u_loadN rfl rfl rfl rfl rfl rfl rfl ⟨_, _, rfl, rfl, rfl, rfl⟩ ?_
   refine s_eqlA rfl rfl rfl rfl rfl rfl ⟨_, _, rfl, rfl, rfl, rfl⟩ (fun h22 => ?_) (fun h22 => ?_)
   ·refine u_pickT rfl rfl rfl trivial ?_
    refine u_move rfl rfl trivial ?_
    refine u_fieldAddr rfl rfl rfl rfl rfl rfl ⟨_, _, rfl, rfl, rfl, rfl⟩ ?_
    refine u_load1 rfl rfl rfl rfl rfl rfl ⟨_, _, rfl, rfl, rfl, rfl⟩ ?_
    refine u_fieldAddr rfl rfl rfl rfl rfl rfl ⟨_, _, rfl, rfl, rfl, rfl⟩ ?_
    refine u_load1 rfl rfl rfl rfl rfl rfl ⟨_, _, rfl, rfl, rfl, rfl⟩ ?_
    refine s_call [] rfl (c142 _ _) (.cons ((.shr _ _)) (.cons ((.shr _ _)) .nil)) (fun k o h => by simp [Go.Vc.look] at h) rfl ⟨_, _, rfl, rfl, rfl, rfl⟩ (fun h29 => ?_) (fun h29 => ?_)
    ·refine u_pickT rfl rfl rfl trivial ?_
     refine u_move rfl rfl trivial ?_
     refine u_fieldAddr rfl rfl rfl rfl rfl rfl ⟨_, _, rfl, rfl, rfl, rfl⟩ ?_
     refine u_load1 rfl rfl rfl rfl rfl rfl ⟨_, _, rfl, rfl, rfl, rfl⟩ ?_
     refine u_fieldAddr rfl rfl rfl rfl rfl rfl ⟨_, _, rfl, rfl, rfl, rfl⟩ ?_
     refine u_load1 rfl rfl rfl rfl rfl rfl ⟨_, _, rfl, rfl, rfl, rfl⟩ ?_
     refine s_call [] rfl (c63 _ _) (.cons ((.shr _ _)) (.cons ((.shr _ _)) .nil)) (fun k o h => by simp [Go.Vc.look] at h) rfl ⟨_, _, rfl, rfl, rfl, rfl⟩ (fun h36 => ?_) (fun h36 => ?_)
     ·refine u_pickT rfl rfl rfl trivial ?_
      refine u_move rfl rfl trivial ?_
      refine u_fieldAddr rfl rfl rfl rfl rfl rfl ⟨_, _, rfl, rfl, rfl, rfl⟩ ?_
      refine u_load1 rfl rfl rfl rfl rfl rfl ⟨_, _, rfl, rfl, rfl, rfl⟩ ?_
      refine u_fieldAddr rfl rfl rfl rfl rfl rfl ⟨_, _, rfl, rfl, rfl, rfl⟩ ?_
      refine u_load1 rfl rfl rfl rfl rfl rfl ⟨_, _, rfl, rfl, rfl, rfl⟩ ?_
      refine u_eqlB rfl rfl rfl rfl ⟨_, _, rfl, rfl, rfl, rfl⟩ ?_
      refine u_pickT rfl rfl rfl trivial ?_
      refine u_assign rfl rfl trivial ?_
      refine u_end trivial ?_
      refine vw_ret ?_
      refine fin' [] (.inr rfl) (.cons (.tmp rfl (nb rfl)) .nil) (mk_wk [] rfl rfl ⟨⟨_, rfl, (subB ?_)⟩, trivial⟩ trivial (parOk rfl rfl))
      all_goals (try rfl)
      all_goals
        rw [receiver_eq]; try rw [places_eq] at *
        simp_all
     ·refine u_pickT rfl rfl rfl trivial ?_
      refine u_move rfl rfl trivial ?_
      refine u_skip rfl rfl rfl rfl rfl ?_
      refine u_skip rfl rfl rfl rfl rfl ?_
      refine u_skip rfl rfl rfl rfl rfl ?_
      refine u_skip rfl rfl rfl rfl rfl ?_
      refine u_skip rfl rfl rfl rfl rfl ?_
      refine u_pickF rfl rfl rfl trivial ?_
      refine u_assign rfl rfl trivial ?_
      refine u_end trivial ?_
      refine vw_ret ?_
      refine fin' [] (.inr rfl) (.cons (.tmp rfl (nb rfl)) .nil) (mk_wk [] rfl rfl ⟨⟨_, rfl, (subB ?_)⟩, trivial⟩ trivial (parOk rfl rfl))
      all_goals (try rfl)
      all_goals
        rw [receiver_eq]; try rw [places_eq] at *
        simp_all
    ·refine u_pickT rfl rfl rfl trivial ?_
     refine u_move rfl rfl trivial ?_
     refine u_skip rfl rfl rfl rfl rfl ?_
     refine u_skip rfl rfl rfl rfl rfl ?_
     refine u_skip rfl rfl rfl rfl rfl ?_
     refine u_skip rfl rfl rfl rfl rfl ?_
     refine u_skip rfl rfl rfl rfl rfl ?_
     refine u_pickF rfl rfl rfl trivial ?_
     refine u_move rfl rfl trivial ?_
     refine u_skip rfl rfl rfl rfl rfl ?_
     refine u_skip rfl rfl rfl rfl rfl ?_
     refine u_skip rfl rfl rfl rfl rfl ?_
     refine u_skip rfl rfl rfl rfl rfl ?_
     refine u_skip rfl rfl rfl rfl rfl ?_
     refine u_pickF rfl rfl rfl trivial ?_
     refine u_assign rfl rfl trivial ?_
     refine u_end trivial ?_
     refine vw_ret ?_
     refine fin' [] (.inr rfl) (.cons (.tmp rfl (nb rfl)) .nil) (mk_wk [] rfl rfl ⟨⟨_, rfl, (subB ?_)⟩, trivial⟩ trivial (parOk rfl rfl))
     all_goals (try rfl)
     all_goals
       rw [receiver_eq]; try rw [places_eq] at *
       simp_all
   ·refine u_pickT rfl rfl rfl trivial ?_
    refine u_move rfl rfl trivial ?_
    refine u_skip rfl rfl rfl rfl rfl ?_
    refine u_skip rfl rfl rfl rfl rfl ?_
    refine u_skip rfl rfl rfl rfl rfl ?_
    refine u_skip rfl rfl rfl rfl rfl ?_
    refine u_skip rfl rfl rfl rfl rfl ?_
    refine u_pickF rfl rfl rfl trivial ?_
    refine u_move rfl rfl trivial ?_
    refine u_skip rfl rfl rfl rfl rfl ?_
    refine u_skip rfl rfl rfl rfl rfl ?_
    refine u_skip rfl rfl rfl rfl rfl ?_
    refine u_skip rfl rfl rfl rfl rfl ?_
    refine u_skip rfl rfl rfl rfl rfl ?_
    refine u_pickF rfl rfl rfl trivial ?_
    refine u_move rfl rfl trivial ?_
    refine u_skip rfl rfl rfl rfl rfl ?_
    refine u_skip rfl rfl rfl rfl rfl ?_
    refine u_skip rfl rfl rfl rfl rfl ?_
    refine u_skip rfl rfl rfl rfl rfl ?_
    refine u_skip rfl rfl rfl rfl rfl ?_
    refine u_pickF rfl rfl rfl trivial ?_
    refine u_assign rfl rfl trivial ?_
    refine u_end trivial ?_
    refine vw_ret ?_
    refine fin' [] (.inr rfl) (.cons (.tmp rfl (nb rfl)) .nil) (mk_wk [] rfl rfl ⟨⟨_, rfl, (subB ?_)⟩, trivial⟩ trivial (parOk rfl rfl))
    all_goals (try rfl)
    all_goals
      rw [receiver_eq]; try rw [places_eq] at *
      simp_all
  ·refine u_pickT rfl rfl rfl trivial ?_
   refine u_move rfl rfl trivial ?_
   refine u_skip rfl rfl rfl rfl rfl ?_
   refine u_skip rfl rfl rfl rfl rfl ?_
   refine u_skip rfl rfl rfl rfl rfl ?_
   refine u_skip rfl rfl rfl rfl rfl ?_
   refine u_skip rfl rfl rfl rfl rfl ?_
   refine u_pickF rfl rfl rfl trivial ?_
   refine u_move rfl rfl trivial ?_
   refine u_skip rfl rfl rfl rfl rfl ?_
   refine u_skip rfl rfl rfl rfl rfl ?_
   refine u_skip rfl rfl rfl rfl rfl ?_
   refine u_skip rfl rfl rfl rfl rfl ?_
   refine u_skip rfl rfl rfl rfl rfl ?_
   refine u_pickF rfl rfl rfl trivial ?_
   refine u_move rfl rfl trivial ?_
   refine u_skip rfl rfl rfl rfl rfl ?_
   refine u_skip rfl rfl rfl rfl rfl ?_
   refine u_skip rfl rfl rfl rfl rfl ?_
   refine u_skip rfl rfl rfl rfl rfl ?_
   refine u_skip rfl rfl rfl rfl rfl ?_
   refine u_pickF rfl rfl rfl trivial ?_
   refine u_move rfl rfl trivial ?_
   refine u_skip rfl rfl rfl rfl rfl ?_
   refine u_skip rfl rfl rfl rfl rfl ?_
   refine u_skip rfl rfl rfl rfl rfl ?_
   refine u_skip rfl rfl rfl rfl rfl ?_
   refine u_skip rfl rfl rfl rfl rfl ?_
   refine u_pickF rfl rfl rfl trivial ?_
   refine u_assign rfl rfl trivial ?_
   refine u_end trivial ?_
   refine vw_ret ?_
   refine fin' [] (.inr rfl) (.cons (.tmp rfl (nb rfl)) .nil) (mk_wk [] rfl rfl ⟨⟨_, rfl, (subB ?_)⟩, trivial⟩ trivial (parOk rfl rfl))
   all_goals (try rfl)
   all_goals
     rw [receiver_eq]; try rw [places_eq] at *
     simp_all
 ·refine u_move rfl rfl trivial ?_
  refine u_skip rfl rfl rfl rfl rfl ?_
  refine u_skip rfl rfl rfl rfl rfl ?_
  refine u_skip rfl rfl rfl rfl rfl ?_
  refine u_skip rfl rfl rfl rfl rfl ?_
  refine u_skip rfl rfl rfl rfl rfl ?_
  refine u_pickF rfl rfl rfl trivial ?_
  refine u_move rfl rfl trivial ?_
  refine u_skip rfl rfl rfl rfl rfl ?_
  refine u_skip rfl rfl rfl rfl rfl ?_
  refine u_skip rfl rfl rfl rfl rfl ?_
  refine u_skip rfl rfl rfl rfl rfl ?_
  refine u_skip rfl rfl rfl rfl rfl ?_
  refine u_pickF rfl rfl rfl trivial ?_
  refine u_move rfl rfl trivial ?_
  refine u_skip rfl rfl rfl rfl rfl ?_
  refine u_skip rfl rfl rfl rfl rfl ?_
  refine u_skip rfl rfl rfl rfl rfl ?_
  refine u_skip rfl rfl rfl rfl rfl ?_
  refine u_skip rfl rfl rfl rfl rfl ?_
  refine u_pickF rfl rfl rfl trivial ?_
  refine u_move rfl rfl trivial ?_
  refine u_skip rfl rfl rfl rfl rfl ?_
  refine u_skip rfl rfl rfl rfl rfl ?_
  refine u_skip rfl rfl rfl rfl rfl ?_
  refine u_skip rfl rfl rfl rfl rfl ?_
  refine u_skip rfl rfl rfl rfl rfl ?_
  refine u_pickF rfl rfl rfl trivial ?_
  refine u_move rfl rfl trivial ?_
  refine u_skip rfl rfl rfl rfl rfl ?_
  refine u_skip rfl rfl rfl rfl rfl ?_
  refine u_skip rfl rfl rfl rfl rfl ?_
  refine u_skip rfl rfl rfl rfl rfl ?_
  refine u_skip rfl rfl rfl rfl rfl ?_
  refine u_pickF rfl rfl rfl trivial ?_
  refine u_assign rfl rfl trivial ?_
  refine u_end trivial ?_
  refine vw_ret ?_
  refine fin' [] (.inr rfl) (.cons (.tmp rfl (nb rfl)) .nil) (mk_wk [] rfl rfl ⟨⟨_, rfl, (subB ?_)⟩, trivial⟩ trivial (parOk rfl rfl))
  all_goals (try rfl)
  all_goals
    rw [receiver_eq]; try rw [places_eq] at *
    simp_all
end Go.Proofs.Ytaadloihphpdbaa
