/- Walks of the package recv and of the document's answer to it: what is heard. Printed by a small program (walk.py). -/
import Derived.Test.YtaadloihphpdbaaWRecv
import Derived.Test.YtaadloihphpdbaaWChunkH
set_option linter.unusedVariables false
set_option linter.unusedSimpArgs false
set_option maxRecDepth 4000
namespace Go.Proofs.Ytaadloihphpdbaa
open Go Go.Vc Go.RowKit
theorem insL_tw (l : List Int) (n : Int) : insL l (l.takeWhile fun x => decide (x < n)).length n = insertS n l := by
  have e := List.takeWhile_append_dropWhile (p := fun x => decide (x < n)) (l := l)
  have h1 : l.take (l.takeWhile fun x => decide (x < n)).length = l.takeWhile fun x => decide (x < n) := by
    conv => lhs; arg 2; rw [← e]
    rw [List.take_left]
  have h2 : l.drop (l.takeWhile fun x => decide (x < n)).length = l.dropWhile fun x => decide (x < n) := by
    conv => lhs; arg 2; rw [← e]
    rw [List.drop_left]
  unfold insL insertS
  rw [h1, h2]
theorem rhear_kind {r : Receiver} {c : Chunk} (hk : c.kind ≠ 1) : rhear r c = r := by unfold rhear; rw [if_pos hk]
theorem rhear_ref {r : Receiver} {c : Chunk} (hk : c.kind = 1) (h : refuses r c.num) : rhear r c = { r with owes := true } := by unfold rhear; rw [if_neg (by omega), if_pos h]
theorem rhear_takes {r : Receiver} {c : Chunk} (hk : c.kind = 1) (hr : ¬ refuses r c.num) {l : List Int} {x : Int} {h : List Chunk} {p : Places} {T : List Msg} (hst : strip (insertS c.num r.early) r.next = (l, x)) (htl : tellAll (r.hold ++ [c], r.places, r.told) = (h, p, T)) :
    rhear r c = ⟨x, l, p, h, T, true⟩ := by unfold rhear; rw [if_neg (by omega), if_neg hr]; unfold takes; rw [hst, htl]
theorem st3 {N : Int} {h : List Chunk} {p : Places} {T : List Msg} (hT : TaleOk N (h, p, T)) : ∀ c ∈ h, c.stream = 0 ∨ c.stream = 1 ∨ c.stream = 2 := fun c hc => stream3 (hT.2.2 c hc).1 (hT.2.2 c hc).2
theorem taleOk0 {r : Receiver} (hr : RInv r) {c : Chunk} (hc : wrong c = 0) (hk : c.kind = 1) : TaleOk (r.next + r.early.length + 1) (r.hold ++ [c], r.places, r.told) := by
  have := hr.t
  refine ⟨by simp only [List.length_append, List.length_singleton]; omega, hr.p, fun x hx => ?_⟩
  rcases List.mem_append.1 hx with hx | hx
  · exact hr.h x hx
  · rw [List.mem_singleton.1 hx]; exact ⟨hc, hk⟩
theorem idx_none {p : Chunk → Bool} {l : List Chunk} (h : idxP p l < 0) : ∀ c ∈ l, p c = false := by
  intro c hc
  have h1 : decide (0 ≤ idxP p l) = l.any p := idxP_ge
  rw [decide_eq_false (by omega)] at h1
  have := List.any_eq_false.1 h1.symm c hc
  simpa using this
theorem erase_cells {l : List Chunk} {k : Nat} : chunkCells (l.eraseIdx k) = (chunkCells l).take k ++ (chunkCells l).drop (k + 1) := by
  unfold chunkCells; rw [List.eraseIdx_eq_take_drop_succ, List.map_append, List.map_take, List.map_drop]
theorem ready_is {p : Places} {x : Chunk} : readyB p x = decide (x.place = p.get x.stream) := rfl

theorem c168 (nx : Int) (ea : List Int) (p : Places) (l : List Chunk) (T : List Msg) (x : Chunk) (hx : x.stream = 0 ∨ x.stream = 1 ∨ x.stream = 2) : VFun G 168 [.agg (chunkAV x), .ptr 110 0] [(921, .row 77 6 (chunkCells l)), (110, .box [.ptr 5 0]), (5, .box [.lit (.int .i64 nx), .shr 1 (intCells ea), .lit (.int .i64 p.a), .lit (.int .i64 p.b), .lit (.int .i64 p.c), .row 921, .row 923, .lit (.bool true)]), (923, .row 48 2 (msgCells T))] (.lit (.bool (readyB p x))) [(921, .row 77 6 (chunkCells l)), (110, .box [.ptr 5 0]), (5, .box [.lit (.int .i64 nx), .shr 1 (intCells ea), .lit (.int .i64 p.a), .lit (.int .i64 p.b), .lit (.int .i64 p.c), .row 921, .row 923, .lit (.bool true)]), (923, .row 48 2 (msgCells T))] := by
 refine VFun.intro (fn := Try.f168) rfl rfl (by kernel_rfl) (nb rfl) fun Γ hpar => ?_
 refine vw_seq ?_
 refine vw_region ?_
 refine u_box 100 rfl rfl rfl (notPar hpar rfl) rfl rfl trivial ?_
 refine u_assign rfl rfl trivial ?_
 refine u_end trivial ?_
 refine vw_seq ?_
 rcases hx with hq | hq | hq
 ·refine vw_draw ?_
  refine u_fieldAddr rfl rfl rfl rfl rfl rfl trivial ?_
  refine u_load1 rfl rfl rfl rfl rfl rfl trivial ?_
  refine u_load1 rfl rfl rfl rfl rfl rfl trivial ?_
  refine u_fieldAddr rfl rfl rfl rfl rfl rfl trivial ?_
  refine u_load1 rfl rfl rfl rfl rfl rfl trivial ?_
  refine u_nilCheck rfl rfl trivial ?_
  refine u_fieldAddr rfl rfl rfl rfl rfl rfl trivial ?_
  refine u_indexA (i := 0) rfl rfl rfl rfl rfl (by exact hq) (by decide) rfl trivial ?_
  refine u_load1 rfl rfl rfl rfl rfl rfl trivial ?_
  refine u_eql rfl rfl rfl trivial ?_
  refine u_assign rfl rfl trivial ?_
  refine u_end (by kernel_rfl) ?_
  refine vw_ret ?_
  refine fin' [(5, 5), (110, 110), (921, 921), (923, 923)] (.inr rfl) (.cons (.tmp rfl (nb rfl)) .nil) (mk_wk [(5, 5), (110, 110), (921, 921), (923, 923)] rfl rfl ⟨⟨_, rfl, (subB ?_)⟩, trivial⟩ ⟨(.inl ⟨_, rfl, rowEq rfl ?_⟩), ⟨_, _, rfl, rfl, (.cons (.ptr _ _ _ rfl (lookNe rfl)) .nil)⟩, ⟨_, _, rfl, rfl, (.cons (subI ?_) (.cons (subS ?_) (.cons (subI ?_) (.cons (subI ?_) (.cons (subI ?_) (.cons (.row _ _ rfl (lookNe rfl)) (.cons (.row _ _ rfl (lookNe rfl)) (.cons (subB ?_) .nil))))))))⟩, (.inl ⟨_, rfl, rowEq rfl ?_⟩), trivial⟩ (parOk rfl rfl))
  all_goals (try rfl)
  all_goals
    unfold readyB Places.get; rw [hq]; rfl
 ·refine vw_draw ?_
  refine u_fieldAddr rfl rfl rfl rfl rfl rfl trivial ?_
  refine u_load1 rfl rfl rfl rfl rfl rfl trivial ?_
  refine u_load1 rfl rfl rfl rfl rfl rfl trivial ?_
  refine u_fieldAddr rfl rfl rfl rfl rfl rfl trivial ?_
  refine u_load1 rfl rfl rfl rfl rfl rfl trivial ?_
  refine u_nilCheck rfl rfl trivial ?_
  refine u_fieldAddr rfl rfl rfl rfl rfl rfl trivial ?_
  refine u_indexA (i := 1) rfl rfl rfl rfl rfl (by exact hq) (by decide) rfl trivial ?_
  refine u_load1 rfl rfl rfl rfl rfl rfl trivial ?_
  refine u_eql rfl rfl rfl trivial ?_
  refine u_assign rfl rfl trivial ?_
  refine u_end (by kernel_rfl) ?_
  refine vw_ret ?_
  refine fin' [(5, 5), (110, 110), (921, 921), (923, 923)] (.inr rfl) (.cons (.tmp rfl (nb rfl)) .nil) (mk_wk [(5, 5), (110, 110), (921, 921), (923, 923)] rfl rfl ⟨⟨_, rfl, (subB ?_)⟩, trivial⟩ ⟨(.inl ⟨_, rfl, rowEq rfl ?_⟩), ⟨_, _, rfl, rfl, (.cons (.ptr _ _ _ rfl (lookNe rfl)) .nil)⟩, ⟨_, _, rfl, rfl, (.cons (subI ?_) (.cons (subS ?_) (.cons (subI ?_) (.cons (subI ?_) (.cons (subI ?_) (.cons (.row _ _ rfl (lookNe rfl)) (.cons (.row _ _ rfl (lookNe rfl)) (.cons (subB ?_) .nil))))))))⟩, (.inl ⟨_, rfl, rowEq rfl ?_⟩), trivial⟩ (parOk rfl rfl))
  all_goals (try rfl)
  all_goals
    unfold readyB Places.get; rw [hq]; rfl
 ·refine vw_draw ?_
  refine u_fieldAddr rfl rfl rfl rfl rfl rfl trivial ?_
  refine u_load1 rfl rfl rfl rfl rfl rfl trivial ?_
  refine u_load1 rfl rfl rfl rfl rfl rfl trivial ?_
  refine u_fieldAddr rfl rfl rfl rfl rfl rfl trivial ?_
  refine u_load1 rfl rfl rfl rfl rfl rfl trivial ?_
  refine u_nilCheck rfl rfl trivial ?_
  refine u_fieldAddr rfl rfl rfl rfl rfl rfl trivial ?_
  refine u_indexA (i := 2) rfl rfl rfl rfl rfl (by exact hq) (by decide) rfl trivial ?_
  refine u_load1 rfl rfl rfl rfl rfl rfl trivial ?_
  refine u_eql rfl rfl rfl trivial ?_
  refine u_assign rfl rfl trivial ?_
  refine u_end (by kernel_rfl) ?_
  refine vw_ret ?_
  refine fin' [(5, 5), (110, 110), (921, 921), (923, 923)] (.inr rfl) (.cons (.tmp rfl (nb rfl)) .nil) (mk_wk [(5, 5), (110, 110), (921, 921), (923, 923)] rfl rfl ⟨⟨_, rfl, (subB ?_)⟩, trivial⟩ ⟨(.inl ⟨_, rfl, rowEq rfl ?_⟩), ⟨_, _, rfl, rfl, (.cons (.ptr _ _ _ rfl (lookNe rfl)) .nil)⟩, ⟨_, _, rfl, rfl, (.cons (subI ?_) (.cons (subS ?_) (.cons (subI ?_) (.cons (subI ?_) (.cons (subI ?_) (.cons (.row _ _ rfl (lookNe rfl)) (.cons (.row _ _ rfl (lookNe rfl)) (.cons (subB ?_) .nil))))))))⟩, (.inl ⟨_, rfl, rowEq rfl ?_⟩), trivial⟩ (parOk rfl rfl))
  all_goals (try rfl)
  all_goals
    unfold readyB Places.get; rw [hq]; rfl
theorem c160r (nx : Int) (ea : List Int) (p : Places) (l : List Chunk) (T : List Msg) (hst : ∀ c ∈ l, c.stream = 0 ∨ c.stream = 1 ∨ c.stream = 2) (hll : l.length ≤ 1000000) : VFun G 160 [.row 921, .clo 168 [.ptr 110 0]] [(921, .row 77 6 (chunkCells l)), (110, .box [.ptr 5 0]), (5, .box [.lit (.int .i64 nx), .shr 1 (intCells ea), .lit (.int .i64 p.a), .lit (.int .i64 p.b), .lit (.int .i64 p.c), .row 921, .row 923, .lit (.bool true)]), (923, .row 48 2 (msgCells T))] (.lit (.int .i64 (idxP (readyB p) l))) [(921, .row 77 6 (chunkCells l)), (110, .box [.ptr 5 0]), (5, .box [.lit (.int .i64 nx), .shr 1 (intCells ea), .lit (.int .i64 p.a), .lit (.int .i64 p.b), .lit (.int .i64 p.c), .row 921, .row 923, .lit (.bool true)]), (923, .row 48 2 (msgCells T))] := by
 refine VFun.intro (fn := Try.f160) rfl rfl (by kernel_rfl) (nb rfl) fun Γ hpar => ?_
 refine vw_seq ?_
 refine vw_region ?_
 refine u_assign rfl rfl trivial ?_
 refine u_end trivial ?_
 refine vw_seq ?_
 refine vw_seq ?_
 refine vw_region ?_
 refine u_move rfl rfl trivial ?_
 refine u_lenR rfl rfl rfl rfl trivial ?_
 refine u_move rfl rfl trivial ?_
 refine u_end trivial ?_
 refine vw_block ?_
 refine vw_loopR (fun n_ E => ∃ (i : Nat), ((i ≤ l.length) ∧ ((l.take i).any (readyB p) = false)) ∧ n_ = l.length - i ∧ E = ⟨[(0, .row 921), (1, .clo 168 [.ptr 110 0]), (7, .lit (.int .i64 (chunkCells l).length)), (8, .lit (.int .i64 i))], [(921, .row 77 6 (chunkCells l)), (110, .box [.ptr 5 0]), (5, .box [.lit (.int .i64 nx), .shr 1 (intCells ea), .lit (.int .i64 p.a), .lit (.int .i64 p.b), .lit (.int .i64 p.c), .row 921, .row 923, .lit (.bool true)]), (923, .row 48 2 (msgCells T))], 19⟩) (n0 := _) (E0 := _) (⟨0, by exact ⟨Nat.zero_le _, rfl⟩, rfl, rfl⟩) (ren [(5, 5), (110, 110), (921, 921), (923, 923)]) (mk_wk [(5, 5), (110, 110), (921, 921), (923, 923)] rfl rfl ⟨⟨_, rfl, (.row _ _ rfl (lookNe rfl))⟩, ⟨_, rfl, (.clo _ _ _ (.cons (.ptr _ _ _ rfl (lookNe rfl)) .nil))⟩, ⟨_, rfl, (.lit _)⟩, ⟨_, rfl, (.lit _)⟩, trivial⟩ ⟨(.inl ⟨_, rfl, rfl⟩), ⟨_, _, rfl, rfl, (.cons ((.ptr _ _ _ rfl (lookNe rfl))) .nil)⟩, ⟨_, _, rfl, rfl, (.cons ((.lit _)) (.cons ((.shr _ _)) (.cons ((.lit _)) (.cons ((.lit _)) (.cons ((.lit _)) (.cons ((.row _ _ rfl (lookNe rfl))) (.cons ((.row _ _ rfl (lookNe rfl))) (.cons ((.lit _)) .nil))))))))⟩, (.inl ⟨_, rfl, rfl⟩), trivial⟩ (parOk hpar rfl)) (fun n_ E hR => ?_)
 obtain ⟨i, hI, rfl, rfl⟩ := hR
 obtain ⟨hI0, hI1⟩ := hI
 refine vw_seq ?_
 refine vw_region ?_
 refine s_lss rfl rfl rfl trivial (fun h9 => ?_) (fun h9 => ?_)
 ·refine u_end trivial ?_
  refine vw_seq ?_
  refine vw_condT rfl ?_
  refine vw_skip ?_
  refine vw_seq ?_
  refine vw_block ?_
  refine vw_seq ?_
  refine vw_region ?_
  refine u_move rfl rfl trivial ?_
  refine u_assign rfl rfl trivial ?_
  refine u_end trivial ?_
  refine vw_seq ?_
  rw [chunkCells_length] at h9
  refine vw_region ?_
  refine u_move rfl rfl trivial ?_
  refine u_move rfl rfl trivial ?_
  refine u_move rfl rfl trivial ?_
  refine u_indexR rfl rfl rfl rfl rfl rfl rfl (by rw [chunkCells_length]; omega) rfl trivial ?_
  refine u_loadRowAll rfl rfl (chunkCells_get (by omega)) rfl rfl rfl rfl trivial ?_
  refine u_callO [(921, 921), (110, 110), (5, 5), (923, 923)] [] [] rfl rfl (c168 nx ea p l T _ (hst _ (List.getElem_mem _))) (inc_cons (k0 := 921) rfl (inc_cons (k0 := 110) rfl (inc_cons (k0 := 5) rfl (inc_cons (k0 := 923) rfl inc_nil)))) ⟨(.inl ⟨_, rfl, rfl⟩), ⟨_, _, rfl, rfl, (.cons ((.ptr _ _ _ rfl (lookNe rfl))) .nil)⟩, ⟨_, _, rfl, rfl, (.cons ((.lit _)) (.cons ((.shr _ _)) (.cons ((.lit _)) (.cons ((.lit _)) (.cons ((.lit _)) (.cons ((.row _ _ rfl (lookNe rfl))) (.cons ((.row _ _ rfl (lookNe rfl))) (.cons ((.lit _)) .nil))))))))⟩, (.inl ⟨_, rfl, rfl⟩), trivial⟩ (.cons ((subP rfl)) (.cons ((.ptr _ _ _ rfl (lookNe rfl))) .nil)) rfl rfl (newPar hpar rfl) rfl trivial ?_
  refine u_end trivial ?_
  refine vw_cond rfl (fun hc1 => ?_) (fun hc1 => ?_)
  ·refine vw_seq ?_
   refine vw_region ?_
   refine u_move rfl rfl trivial ?_
   refine u_assign rfl rfl trivial ?_
   refine u_end trivial ?_
   refine vw_ret ?_
   refine fin' [(5, 5), (110, 110), (921, 921), (923, 923)] (.inr rfl) (.cons (.tmp rfl (nb rfl)) .nil) (mk_wk [(5, 5), (110, 110), (921, 921), (923, 923)] rfl rfl ⟨⟨_, rfl, (subI ?_)⟩, trivial⟩ ⟨(.inl ⟨_, rfl, rowEq rfl ?_⟩), ⟨_, _, rfl, rfl, (.cons (.ptr _ _ _ rfl (lookNe rfl)) .nil)⟩, ⟨_, _, rfl, rfl, (.cons (subI ?_) (.cons (subS ?_) (.cons (subI ?_) (.cons (subI ?_) (.cons (subI ?_) (.cons (.row _ _ rfl (lookNe rfl)) (.cons (.row _ _ rfl (lookNe rfl)) (.cons (subB ?_) .nil))))))))⟩, (.inl ⟨_, rfl, rowEq rfl ?_⟩), trivial⟩ (parOk rfl rfl))
   all_goals (try rfl)
   all_goals
     exact idxP_at (by omega) hI1 hc1
  ·refine vw_skip ?_
   refine vw_region ?_
   refine u_add rfl rfl rfl (by unfold inI; omega) rfl trivial ?_
   refine u_move rfl rfl trivial ?_
   refine u_end trivial ?_
   refine ⟨_, _, ren [(5, 5), (110, 110), (921, 921), (923, 923)], ?_, ⟨i + 1, ?_, rfl, rfl⟩, mk_wk [(5, 5), (110, 110), (921, 921), (923, 923)] rfl rfl ⟨⟨_, rfl, (.row _ _ rfl (lookNe rfl))⟩, ⟨_, rfl, (.clo _ _ _ (.cons (.ptr _ _ _ rfl (lookNe rfl)) .nil))⟩, ⟨_, rfl, (.lit _)⟩, ⟨_, rfl, (.lit _)⟩, trivial⟩ ⟨(.inl ⟨_, rfl, rfl⟩), ⟨_, _, rfl, rfl, (.cons ((.ptr _ _ _ rfl (lookNe rfl))) .nil)⟩, ⟨_, _, rfl, rfl, (.cons ((.lit _)) (.cons ((.shr _ _)) (.cons ((.lit _)) (.cons ((.lit _)) (.cons ((.lit _)) (.cons ((.row _ _ rfl (lookNe rfl))) (.cons ((.row _ _ rfl (lookNe rfl))) (.cons ((.lit _)) .nil))))))))⟩, (.inl ⟨_, rfl, rfl⟩), trivial⟩ (parOk hpar rfl)⟩
   ·omega
   ·refine ⟨by omega, ?_⟩
    rw [any_snoc (by omega), hI1, hc1]; rfl
 ·refine u_end trivial ?_
  refine vw_seq ?_
  refine vw_condF rfl ?_
  refine vw_exit ?_
  refine iteP rfl ?_
  refine vw_seq ?_
  rw [chunkCells_length] at h9
  refine vw_region ?_
  refine u_assign rfl rfl trivial ?_
  refine u_end trivial ?_
  refine vw_ret ?_
  refine fin' [(5, 5), (110, 110), (921, 921), (923, 923)] (.inr rfl) (.cons (.tmp rfl (nb rfl)) .nil) (mk_wk [(5, 5), (110, 110), (921, 921), (923, 923)] rfl rfl ⟨⟨_, rfl, (subI ?_)⟩, trivial⟩ ⟨(.inl ⟨_, rfl, rowEq rfl ?_⟩), ⟨_, _, rfl, rfl, (.cons (.ptr _ _ _ rfl (lookNe rfl)) .nil)⟩, ⟨_, _, rfl, rfl, (.cons (subI ?_) (.cons (subS ?_) (.cons (subI ?_) (.cons (subI ?_) (.cons (subI ?_) (.cons (.row _ _ rfl (lookNe rfl)) (.cons (.row _ _ rfl (lookNe rfl)) (.cons (subB ?_) .nil))))))))⟩, (.inl ⟨_, rfl, rowEq rfl ?_⟩), trivial⟩ (parOk rfl rfl))
  all_goals (try rfl)
  all_goals
    rw [List.take_of_length_le (by omega)] at hI1; exact idxP_no hI1
theorem c150 (nx : Int) (ea : List Int) (p : Places) (l : List Chunk) (T : List Msg) (hst : ∀ c ∈ l, c.stream = 0 ∨ c.stream = 1 ∨ c.stream = 2) (hll : l.length ≤ 1000000) : VFun G 150 [.ptr 5 0] [(921, .row 77 6 (chunkCells l)), (5, .box [.lit (.int .i64 nx), .shr 1 (intCells ea), .lit (.int .i64 p.a), .lit (.int .i64 p.b), .lit (.int .i64 p.c), .row 921, .row 923, .lit (.bool true)]), (923, .row 48 2 (msgCells T))] (.lit (.int .i64 (idxP (readyB p) l))) [(921, .row 77 6 (chunkCells l)), (5, .box [.lit (.int .i64 nx), .shr 1 (intCells ea), .lit (.int .i64 p.a), .lit (.int .i64 p.b), .lit (.int .i64 p.c), .row 921, .row 923, .lit (.bool true)]), (923, .row 48 2 (msgCells T))] := by
 refine VFun.intro (fn := Try.f150) rfl rfl (by kernel_rfl) (nb rfl) fun Γ hpar => ?_
 refine vw_seq ?_
 refine vw_region ?_
 refine u_box 110 rfl rfl rfl (notPar hpar rfl) rfl rfl trivial ?_
 refine u_assign rfl rfl trivial ?_
 refine u_end trivial ?_
 refine vw_seq ?_
 refine vw_region ?_
 refine u_load1 rfl rfl rfl rfl rfl rfl trivial ?_
 refine u_nilCheck rfl rfl trivial ?_
 refine u_fieldAddr rfl rfl rfl rfl rfl rfl trivial ?_
 refine u_load1 rfl rfl rfl rfl rfl rfl trivial ?_
 refine u_makeFunc (vs := [_]) rfl rfl trivial ?_
 refine u_callO [(921, 921), (110, 110), (5, 5), (923, 923)] [] [] rfl rfl (c160r nx ea p l T hst hll) (inc_cons (k0 := 921) rfl (inc_cons (k0 := 110) rfl (inc_cons (k0 := 5) rfl (inc_cons (k0 := 923) rfl inc_nil)))) ⟨(.inl ⟨_, rfl, rfl⟩), ⟨_, _, rfl, rfl, (.cons ((.ptr _ _ _ rfl (lookNe rfl))) .nil)⟩, ⟨_, _, rfl, rfl, (.cons ((.lit _)) (.cons ((.shr _ _)) (.cons ((.lit _)) (.cons ((.lit _)) (.cons ((.lit _)) (.cons ((.row _ _ rfl (lookNe rfl))) (.cons ((.row _ _ rfl (lookNe rfl))) (.cons ((.lit _)) .nil))))))))⟩, (.inl ⟨_, rfl, rfl⟩), trivial⟩ (.cons ((.row _ _ rfl (lookNe rfl))) (.cons ((.clo _ _ _ (.cons (.ptr _ _ _ rfl (lookNe rfl)) .nil))) .nil)) rfl rfl (newPar hpar rfl) rfl trivial ?_
 refine u_assign rfl rfl trivial ?_
 refine u_end trivial ?_
 refine vw_ret ?_
 refine fin' [(5, 5), (921, 921), (923, 923)] (.inr rfl) (.cons (.tmp rfl (nb rfl)) .nil) (mk_wk [(5, 5), (921, 921), (923, 923)] rfl rfl ⟨⟨_, rfl, (subI ?_)⟩, trivial⟩ ⟨(.inl ⟨_, rfl, rowEq rfl ?_⟩), ⟨_, _, rfl, rfl, (.cons (subI ?_) (.cons (subS ?_) (.cons (subI ?_) (.cons (subI ?_) (.cons (subI ?_) (.cons (.row _ _ rfl (lookNe rfl)) (.cons (.row _ _ rfl (lookNe rfl)) (.cons (subB ?_) .nil))))))))⟩, (.inl ⟨_, rfl, rowEq rfl ?_⟩), trivial⟩ (parOk rfl rfl))
 all_goals (try rfl)
theorem c151 (l : List Chunk) (k : Nat) (hk : k < l.length) (hll : l.length ≤ 1000000) : VFun G 151 [.row 921, .lit (.int .i64 k), .lit (.int .i64 ((k : Int) + 1))] [(921, .row 77 6 (chunkCells l))] (.row 922) [(922, .row 77 6 (chunkCells (l.eraseIdx k)))] := by
 refine VFun.intro (fn := Try.f151) rfl rfl (by kernel_rfl) (nb rfl) fun Γ hpar => ?_
 refine vw_seq ?_
 refine vw_region ?_
 refine u_assign rfl rfl trivial ?_
 refine u_end trivial ?_
 refine vw_seq ?_
 refine vw_region ?_
 refine u_move rfl rfl trivial ?_
 refine u_move rfl rfl trivial ?_
 refine u_move rfl rfl trivial ?_
 refine u_move rfl rfl trivial ?_
 refine u_lenR rfl rfl rfl rfl trivial ?_
 refine u_slice3R k (k + 1) rfl rfl (by rw [chunkCells_length]; omega) rfl rfl rfl (by rfl) (by rfl) (by rw [chunkCells_length]) (by omega) (by rw [chunkCells_length]; omega) rfl rfl rfl trivial ?_
 refine u_end trivial ?_
 refine vw_seq ?_
 refine vw_seq ?_
 refine vw_region ?_
 refine u_move rfl rfl trivial ?_
 refine u_move rfl rfl trivial ?_
 refine s_eql rfl rfl rfl trivial (fun h16 => ?_) (fun h16 => ?_)
 ·omega
 ·refine u_end trivial ?_
  refine vw_condF rfl ?_
  refine vw_skip ?_
  refine vw_seq ?_
  refine vw_region ?_
  refine u_move rfl rfl trivial ?_
  refine u_lenR rfl rfl rfl rfl trivial ?_
  refine u_assign rfl rfl trivial ?_
  refine u_end trivial ?_
  refine vw_seq ?_
  refine vw_draw ?_
  refine u_move rfl rfl trivial ?_
  refine u_move rfl rfl trivial ?_
  refine u_sliceRHi k rfl rfl (by rw [chunkCells_length]; omega) rfl (by rfl) (by rw [chunkCells_length]; omega) rfl rfl rfl rfl trivial ?_
  refine u_move rfl rfl trivial ?_
  refine u_move rfl rfl trivial ?_
  refine u_sliceRLo (k + 1) rfl rfl (by rw [chunkCells_length]; omega) rfl (by rfl) (by rw [chunkCells_length]; omega) rfl rfl rfl rfl trivial ?_
  refine u_delR rfl rfl rfl (by rfl) (by omega) (by rw [chunkCells_length]; omega) rfl rfl rfl rfl (by rfl) rfl trivial ?_
  refine u_assign rfl rfl trivial ?_
  refine u_end (by kernel_rfl) ?_
  refine vw_seq ?_
  refine vw_region ?_
  refine u_move rfl rfl trivial ?_
  refine u_move rfl rfl trivial ?_
  refine u_lenRS rfl rfl rfl trivial ?_
  refine u_move rfl rfl trivial ?_
  refine u_sliceRS (l.length - 1) l.length rfl rfl rfl rfl (by rw [chunkCells_length]; omega) (by rw [chunkCells_length]) (by omega) (by simp [chunkCells_length]; omega) rfl rfl rfl rfl trivial ?_
  refine u_clearR rfl rfl (by simp [chunkCells_length]; omega) rfl rfl rfl (by rfl) trivial ?_
  refine u_end trivial ?_
  refine vw_seq ?_
  refine vw_narrowPost 6 922 ?_
  refine vw_region ?_
  refine u_move rfl rfl trivial ?_
  refine u_assign rfl rfl trivial ?_
  refine u_end trivial ?_
  refine ⟨_, _, _, _, _, rfl, rfl, by simp [chunkCells_length]; omega, rfl, notPar hpar rfl, ?_⟩
  refine vw_ret ?_
  refine fin' [(922, 922)] (.inr rfl) (.cons (.tmp rfl (nb rfl)) .nil) (mk_wk [(922, 922)] rfl rfl ⟨⟨_, rfl, (.row _ _ rfl (lookNe rfl))⟩, trivial⟩ ⟨(.inl ⟨_, rfl, rowEq rfl ?_⟩), trivial⟩ (parOk rfl rfl))
  all_goals (try rfl)
  all_goals
    rw [erase_cells, chunkCells_length, show k + (l.length - (k + 1)) = l.length - 1 by omega, List.append_assoc, List.take_append_of_le_length (by simp [chunkCells_length]; omega), List.take_take, Nat.min_self, List.take_append_of_le_length (by simp [chunkCells_length]; omega), List.take_of_length_le (by simp [chunkCells_length]; omega)]
theorem c111 (r : Receiver) (c : Chunk) (hr : RInv r) (hc : wrong c = 0) : VFun G 111 [.agg (receiverAV r), .agg (chunkAV c)] [] (.agg (receiverAV (rhear r c))) [] := by
 have hh := hold_len hr; have hnl := hr.nl; have hn0 := hr.n
 refine VFun.intro (fn := Try.f111) rfl rfl (by kernel_rfl) (nb rfl) fun Γ hpar => ?_
 refine vw_seq ?_
 refine vw_region ?_
 refine u_box 100 rfl rfl rfl (notPar hpar rfl) rfl rfl trivial ?_
 refine u_box 101 rfl rfl rfl (notPar hpar rfl) rfl rfl trivial ?_
 refine u_alloc 102 rfl rfl (notPar hpar rfl) rfl rfl trivial ?_
 refine u_end trivial ?_
 refine vw_seq ?_
 refine vw_region ?_
 refine u_loadAll rfl rfl rfl rfl rfl rfl trivial ?_
 refine u_callO [] [] [] rfl rfl (c110 r hr) inc_nil trivial (.cons ((subP rfl)) .nil) rfl rfl (newPar hpar rfl) rfl trivial ?_
 refine u_alloc 103 rfl rfl (notPar hpar rfl) rfl rfl trivial ?_
 refine u_storeAll rfl rfl rfl rfl rfl rfl rfl rfl trivial ?_
 refine u_end trivial ?_
 refine vw_seq ?_
 refine vw_seq ?_
 refine vw_region ?_
 refine u_fieldAddr rfl rfl rfl rfl rfl rfl trivial ?_
 refine u_load1 rfl rfl rfl rfl rfl rfl trivial ?_
 refine s_neq rfl rfl rfl trivial (fun h14 => ?_) (fun h14 => ?_)
 ·refine u_end trivial ?_
  refine vw_condT rfl ?_
  refine vw_seq ?_
  refine vw_region ?_
  refine u_loadAll rfl rfl rfl rfl rfl rfl trivial ?_
  refine u_storeAll rfl rfl rfl rfl rfl rfl rfl rfl trivial ?_
  refine u_end trivial ?_
  refine vw_ret ?_
  rw [rhear_kind h14]
  refine fin' [] (.inr rfl) (.cons (.cellN rfl rfl rfl rfl rfl) .nil) (mk_wk [] rfl rfl ⟨⟨_, rfl, (.agg _ _ (.cons (subI ?_) (.cons (subFz rfl (fzL rfl) ?_) (.cons (subI ?_) (.cons (subI ?_) (.cons (subI ?_) (.cons (subFz rfl (fzL rfl) ?_) (.cons (subFz rfl (fzL rfl) ?_) (.cons (subB ?_) .nil)))))))))⟩, trivial⟩ trivial (parOk rfl rfl))
  all_goals (try rfl)
 ·refine u_end trivial ?_
  refine vw_condF rfl ?_
  refine vw_skip ?_
  refine vw_seq ?_
  refine vw_region ?_
  refine u_fieldAddr rfl rfl rfl rfl rfl rfl trivial ?_
  refine u_store rfl rfl rfl rfl rfl rfl rfl trivial ?_
  refine u_end trivial ?_
  refine vw_seq ?_
  refine vw_seq ?_
  refine vw_region ?_
  refine u_fieldAddr rfl rfl rfl rfl rfl rfl trivial ?_
  refine u_load1 rfl rfl rfl rfl rfl rfl trivial ?_
  refine u_fieldAddr rfl rfl rfl rfl rfl rfl trivial ?_
  refine u_load1 rfl rfl rfl rfl rfl rfl trivial ?_
  refine s_lss rfl rfl rfl trivial (fun h21 => ?_) (fun h21 => ?_)
  ·refine u_move rfl rfl trivial ?_
   refine u_skip rfl rfl rfl rfl rfl ?_
   refine u_skip rfl rfl rfl rfl rfl ?_
   refine u_skip rfl rfl rfl rfl rfl ?_
   refine u_skip rfl rfl rfl rfl rfl ?_
   refine u_skip rfl rfl rfl rfl rfl ?_
   refine u_pickT rfl rfl rfl trivial ?_
   refine u_move rfl rfl trivial ?_
   refine u_skip rfl rfl rfl rfl rfl ?_
   refine u_skip rfl rfl rfl rfl rfl ?_
   refine u_skip rfl rfl rfl rfl rfl ?_
   refine u_skip rfl rfl rfl rfl rfl ?_
   refine u_skip rfl rfl rfl rfl rfl ?_
   refine u_skip rfl rfl rfl rfl rfl ?_
   refine u_skip rfl rfl rfl rfl rfl ?_
   refine u_skip rfl rfl rfl rfl rfl ?_
   refine u_skip rfl rfl rfl rfl rfl ?_
   refine u_skip rfl rfl rfl rfl rfl ?_
   refine u_skip rfl rfl rfl rfl rfl ?_
   refine u_pickT rfl rfl rfl trivial ?_
   refine u_end trivial ?_
   refine vw_condT rfl ?_
   refine vw_seq ?_
   refine vw_region ?_
   refine u_loadAll rfl rfl rfl rfl rfl rfl trivial ?_
   refine u_storeAll rfl rfl rfl rfl rfl rfl rfl rfl trivial ?_
   refine u_end trivial ?_
   refine vw_ret ?_
   rw [rhear_ref (by omega) (by first | exact .inl (by omega) | exact .inr (.inl (by simpa using h27)) | exact .inr (.inr ⟨by omega, by (try simp only [msgCells_length, chunkCells_length, intCells_length, byteCells_length] at *); omega⟩))]
   refine fin' [] (.inr rfl) (.cons (.cellN rfl rfl rfl rfl rfl) .nil) (mk_wk [] rfl rfl ⟨⟨_, rfl, (.agg _ _ (.cons (subI ?_) (.cons (subFz rfl (fzL rfl) ?_) (.cons (subI ?_) (.cons (subI ?_) (.cons (subI ?_) (.cons (subFz rfl (fzL rfl) ?_) (.cons (subFz rfl (fzL rfl) ?_) (.cons (subB ?_) .nil)))))))))⟩, trivial⟩ trivial (parOk rfl rfl))
   all_goals (try rfl)
  ·refine u_move rfl rfl trivial ?_
   refine u_fieldAddr rfl rfl rfl rfl rfl rfl ⟨_, _, rfl, rfl, rfl, rfl⟩ ?_
   refine u_load1 rfl rfl rfl rfl rfl rfl ⟨_, _, rfl, rfl, rfl, rfl⟩ ?_
   refine u_fieldAddr rfl rfl rfl rfl rfl rfl ⟨_, _, rfl, rfl, rfl, rfl⟩ ?_
   refine u_load1 rfl rfl rfl rfl rfl rfl ⟨_, _, rfl, rfl, rfl, rfl⟩ ?_
   refine s_call [] rfl (c145 r.early c.num) (.cons ((.shr _ _)) (.cons ((.lit _)) .nil)) (fun k o h => by simp [Go.Vc.look] at h) rfl ⟨_, _, rfl, rfl, rfl, rfl⟩ (fun h27 => ?_) (fun h27 => ?_)
   ·refine u_pickF rfl rfl rfl trivial ?_
    refine u_move rfl rfl trivial ?_
    refine u_skip rfl rfl rfl rfl rfl ?_
    refine u_skip rfl rfl rfl rfl rfl ?_
    refine u_skip rfl rfl rfl rfl rfl ?_
    refine u_skip rfl rfl rfl rfl rfl ?_
    refine u_skip rfl rfl rfl rfl rfl ?_
    refine u_skip rfl rfl rfl rfl rfl ?_
    refine u_skip rfl rfl rfl rfl rfl ?_
    refine u_skip rfl rfl rfl rfl rfl ?_
    refine u_skip rfl rfl rfl rfl rfl ?_
    refine u_skip rfl rfl rfl rfl rfl ?_
    refine u_skip rfl rfl rfl rfl rfl ?_
    refine u_pickT rfl rfl rfl trivial ?_
    refine u_end trivial ?_
    refine vw_condT rfl ?_
    refine vw_seq ?_
    refine vw_region ?_
    refine u_loadAll rfl rfl rfl rfl rfl rfl trivial ?_
    refine u_storeAll rfl rfl rfl rfl rfl rfl rfl rfl trivial ?_
    refine u_end trivial ?_
    refine vw_ret ?_
    rw [rhear_ref (by omega) (by first | exact .inl (by omega) | exact .inr (.inl (by simpa using h27)) | exact .inr (.inr ⟨by omega, by (try simp only [msgCells_length, chunkCells_length, intCells_length, byteCells_length] at *); omega⟩))]
    refine fin' [] (.inr rfl) (.cons (.cellN rfl rfl rfl rfl rfl) .nil) (mk_wk [] rfl rfl ⟨⟨_, rfl, (.agg _ _ (.cons (subI ?_) (.cons (subFz rfl (fzL rfl) ?_) (.cons (subI ?_) (.cons (subI ?_) (.cons (subI ?_) (.cons (subFz rfl (fzL rfl) ?_) (.cons (subFz rfl (fzL rfl) ?_) (.cons (subB ?_) .nil)))))))))⟩, trivial⟩ trivial (parOk rfl rfl))
    all_goals (try rfl)
   ·refine u_pickF rfl rfl rfl trivial ?_
    refine u_move rfl rfl trivial ?_
    refine u_fieldAddr rfl rfl rfl rfl rfl rfl ⟨_, _, rfl, rfl, rfl, rfl⟩ ?_
    refine u_load1 rfl rfl rfl rfl rfl rfl ⟨_, _, rfl, rfl, rfl, rfl⟩ ?_
    refine u_fieldAddr rfl rfl rfl rfl rfl rfl ⟨_, _, rfl, rfl, rfl, rfl⟩ ?_
    refine u_load1 rfl rfl rfl rfl rfl rfl ⟨_, _, rfl, rfl, rfl, rfl⟩ ?_
    refine s_gtr rfl rfl rfl ⟨_, _, rfl, rfl, rfl, rfl⟩ (fun h34 => ?_) (fun h34 => ?_)
    ·refine u_move rfl rfl ⟨_, _, rfl, rfl, rfl, rfl⟩ ?_
     refine u_fieldAddr rfl rfl rfl rfl rfl rfl ⟨_, _, rfl, rfl, rfl, rfl⟩ ?_
     refine u_load1 rfl rfl rfl rfl rfl rfl ⟨_, _, rfl, rfl, rfl, rfl⟩ ?_
     refine u_len rfl rfl rfl ⟨_, _, rfl, rfl, rfl, rfl⟩ ?_
     refine s_geq rfl rfl rfl ⟨_, _, rfl, rfl, rfl, rfl⟩ (fun h39 => ?_) (fun h39 => ?_)
     ·refine u_pickT rfl rfl rfl ⟨_, _, rfl, rfl, rfl, rfl⟩ ?_
      refine u_pickF rfl rfl rfl trivial ?_
      refine u_end trivial ?_
      refine vw_condT rfl ?_
      refine vw_seq ?_
      refine vw_region ?_
      refine u_loadAll rfl rfl rfl rfl rfl rfl trivial ?_
      refine u_storeAll rfl rfl rfl rfl rfl rfl rfl rfl trivial ?_
      refine u_end trivial ?_
      refine vw_ret ?_
      rw [rhear_ref (by omega) (by first | exact .inl (by omega) | exact .inr (.inl (by simpa using h27)) | exact .inr (.inr ⟨by omega, by (try simp only [msgCells_length, chunkCells_length, intCells_length, byteCells_length] at *); omega⟩))]
      refine fin' [] (.inr rfl) (.cons (.cellN rfl rfl rfl rfl rfl) .nil) (mk_wk [] rfl rfl ⟨⟨_, rfl, (.agg _ _ (.cons (subI ?_) (.cons (subFz rfl (fzL rfl) ?_) (.cons (subI ?_) (.cons (subI ?_) (.cons (subI ?_) (.cons (subFz rfl (fzL rfl) ?_) (.cons (subFz rfl (fzL rfl) ?_) (.cons (subB ?_) .nil)))))))))⟩, trivial⟩ trivial (parOk rfl rfl))
      all_goals (try rfl)
     ·refine u_pickT rfl rfl rfl ⟨_, _, rfl, rfl, rfl, rfl⟩ ?_
      refine u_pickF rfl rfl rfl trivial ?_
      refine u_end trivial ?_
      refine vw_condF rfl ?_
      refine vw_skip ?_
      refine vw_seq ?_
      have hk : c.kind = 1 := by omega
      have hne : c.num ∉ r.early := by simpa using h27
      have hnr : ¬ refuses r c.num := by
        rintro (h | h | h)
        · omega
        · exact hne h
        · obtain ⟨g1, g2⟩ := h
          first | omega | ((try simp only [msgCells_length, chunkCells_length, intCells_length, byteCells_length] at *); omega)
      obtain ⟨e1, x1, hst⟩ : ∃ e x, strip (insertS c.num r.early) r.next = (e, x) := ⟨_, _, rfl⟩
      obtain ⟨h1, p1, T1, htl⟩ : ∃ h p T, tellAll (r.hold ++ [c], r.places, r.told) = (h, p, T) := ⟨_, _, _, rfl⟩
      have hT0 := taleOk0 hr hc hk
      refine vw_region ?_
      refine u_fieldAddr rfl rfl rfl rfl rfl rfl trivial ?_
      refine u_load1 rfl rfl rfl rfl rfl rfl trivial ?_
      refine u_fieldAddr rfl rfl rfl rfl rfl rfl trivial ?_
      refine u_load1 rfl rfl rfl rfl rfl rfl trivial ?_
      refine u_callB [(901, _)] rfl (c148 r.early c.num hr.s (by omega)) (.cons (.frz _ _ _ _ rfl (lookNe rfl)) (.cons ((.lit _)) .nil)) (sub1 rfl) rfl rfl trivial ?_
      refine u_move rfl rfl trivial ?_
      refine u_extract rfl rfl rfl trivial ?_
      refine u_extract rfl rfl rfl trivial ?_
      refine u_assign rfl rfl trivial ?_
      refine u_assign rfl rfl trivial ?_
      refine u_end trivial ?_
      refine vw_seq ?_
      refine vw_region ?_
      refine u_fieldAddr rfl rfl rfl rfl rfl rfl trivial ?_
      refine u_load1 rfl rfl rfl rfl rfl rfl trivial ?_
      refine u_move rfl rfl trivial ?_
      refine u_fieldAddr rfl rfl rfl rfl rfl rfl trivial ?_
      refine u_load1 rfl rfl rfl rfl rfl rfl trivial ?_
      refine u_buildSlice 104 rfl rfl rfl rfl rfl rfl rfl rfl rfl rfl (notPar hpar rfl) rfl rfl trivial ?_
      refine u_callO [(901, 901), (104, 104)] [] [901, 104] rfl rfl (c149 901 104 904 (by decide) (by decide) (by decide) r.early c.num (r.early.takeWhile fun x => decide (x < c.num)).length (List.takeWhile_sublist _).length_le (by omega)) (inc_cons (k0 := 901) rfl (inc_cons (k0 := 104) rfl inc_nil)) ⟨(.inl ⟨_, rfl, rfl⟩), (.inl ⟨_, rfl, rfl⟩), trivial⟩ (.cons ((.row _ _ rfl (lookNe rfl))) (.cons ((.lit _)) (.cons ((.row _ _ rfl (lookNe rfl))) .nil))) rfl rfl (newPar hpar rfl) rfl trivial ?_
      refine u_fieldAddr rfl rfl rfl rfl rfl rfl trivial ?_
      refine u_store rfl rfl rfl rfl rfl rfl rfl trivial ?_
      refine u_end trivial ?_
      refine vw_meet (True) (⟨[(3, .ptr 3 0), (4, .ptr 4 0), (5, .ptr 5 0)], [(3, .box (chunkAV c)), (4, .box [.lit (.int .i64 0), .lit (.slice none 0 0), .lit (.int .i64 0), .lit (.int .i64 0), .lit (.int .i64 0), .lit (.slice none 0 0), .lit (.slice none 0 0), .lit (.bool false)]), (5, .box [.lit (.int .i64 x1), .shr 1 (intCells e1), .lit (.int .i64 r.places.a), .lit (.int .i64 r.places.b), .lit (.int .i64 r.places.c), .row 902, .row 903, .lit (.bool true)]), (902, .row 77 6 (chunkCells r.hold)), (903, .row 48 2 (msgCells r.told))], 122⟩) ?_ (fun hA12 => ?_)
      ·refine vw_block ?_
       refine vw_loopR (fun n_ E => ∃ (e : List Int) (x : Int), ((strip e x = (e1, x1)) ∧ (x + e.length ≤ 100) ∧ (0 ≤ x)) ∧ n_ = e.length ∧ E = ⟨[(3, .ptr 3 0), (4, .ptr 4 0), (5, .ptr 5 0)], [(3, .box (chunkAV c)), (4, .box [.lit (.int .i64 0), .lit (.slice none 0 0), .lit (.int .i64 0), .lit (.int .i64 0), .lit (.int .i64 0), .lit (.slice none 0 0), .lit (.slice none 0 0), .lit (.bool false)]), (5, .box [.lit (.int .i64 x), .shr 1 (intCells e), .lit (.int .i64 r.places.a), .lit (.int .i64 r.places.b), .lit (.int .i64 r.places.c), .row 902, .row 903, .lit (.bool true)]), (902, .row 77 6 (chunkCells r.hold)), (903, .row 48 2 (msgCells r.told))], 122⟩) (n0 := _) (E0 := _) (⟨insL r.early (r.early.takeWhile fun x => decide (x < c.num)).length c.num, r.next, by exact ⟨by rw [insL_tw]; exact hst, by rw [insL_tw, insertS_length]; omega, hn0.1⟩, rfl, rfl⟩) (ren [(3, 101), (4, 102), (5, 103), (902, 902), (903, 903)]) (mk_wk [(3, 101), (4, 102), (5, 103), (902, 902), (903, 903)] rfl rfl ⟨⟨_, rfl, (.ptr _ _ _ rfl (lookNe rfl))⟩, ⟨_, rfl, (.ptr _ _ _ rfl (lookNe rfl))⟩, ⟨_, rfl, (.ptr _ _ _ rfl (lookNe rfl))⟩, trivial⟩ ⟨⟨_, _, rfl, rfl, (subPL rfl)⟩, ⟨_, _, rfl, rfl, (subPL rfl)⟩, ⟨_, _, rfl, rfl, (.cons ((.lit _)) (.cons (.frz _ _ _ _ rfl (fzL rfl)) (.cons ((.lit _)) (.cons ((.lit _)) (.cons ((.lit _)) (.cons ((.row _ _ rfl (lookNe rfl))) (.cons ((.row _ _ rfl (lookNe rfl))) (.cons ((.lit _)) .nil))))))))⟩, (.inl ⟨_, rfl, rfl⟩), (.inl ⟨_, rfl, rfl⟩), trivial⟩ (parOk hpar rfl)) (fun n_ E hR => ?_)
       obtain ⟨e, x, hI, rfl, rfl⟩ := hR
       obtain ⟨hI0, hI1, hI2⟩ := hI
       refine vw_seq ?_
       refine vw_seq ?_
       rcases e with _ | ⟨n, e⟩
       ·refine vw_draw ?_
        refine u_fieldAddr rfl rfl rfl rfl rfl rfl trivial ?_
        refine u_load1 rfl rfl rfl rfl rfl rfl trivial ?_
        refine u_len rfl rfl rfl trivial ?_
        refine s_gtr rfl rfl rfl trivial (fun h62 => ?_) (fun h62 => ?_)
        ·simp [intCells] at h62
        ·refine u_move rfl rfl trivial ?_
         refine u_skip rfl rfl rfl rfl rfl ?_
         refine u_skip rfl rfl rfl rfl rfl ?_
         refine u_skip rfl rfl rfl rfl rfl ?_
         refine u_skip rfl rfl rfl rfl rfl ?_
         refine u_skip rfl rfl rfl rfl rfl ?_
         refine u_skip rfl rfl rfl rfl rfl ?_
         refine u_skip rfl rfl rfl rfl rfl ?_
         refine u_pickF rfl rfl rfl trivial ?_
         refine u_end (by kernel_rfl) ?_
         refine vw_condF rfl ?_
         refine vw_exit ?_
         refine iteP rfl ?_
         refine ⟨?_, ren [(3, 3), (4, 4), (5, 5), (902, 902), (903, 903)], mk_wk [(3, 3), (4, 4), (5, 5), (902, 902), (903, 903)] rfl rfl ⟨⟨_, rfl, (.ptr _ _ _ rfl (lookNe rfl))⟩, ⟨_, rfl, (.ptr _ _ _ rfl (lookNe rfl))⟩, ⟨_, rfl, (.ptr _ _ _ rfl (lookNe rfl))⟩, trivial⟩ ⟨⟨_, _, rfl, rfl, (subPL rfl)⟩, ⟨_, _, rfl, rfl, (subPL rfl)⟩, ⟨_, _, rfl, rfl, (.cons (subI (by rw [show strip ([] : List Int) x = ([], x) from rfl] at hI0; cases hI0; rfl)) (.cons (subS (by rw [show strip ([] : List Int) x = ([], x) from rfl] at hI0; cases hI0; rfl)) (.cons ((.lit _)) (.cons ((.lit _)) (.cons ((.lit _)) (.cons ((.row _ _ rfl (lookNe rfl))) (.cons ((.row _ _ rfl (lookNe rfl))) (.cons ((.lit _)) .nil))))))))⟩, (.inl ⟨_, rfl, rfl⟩), (.inl ⟨_, rfl, rfl⟩), trivial⟩ (parOk hpar rfl)⟩
         ·exact trivial
       ·refine vw_draw ?_
        refine u_fieldAddr rfl rfl rfl rfl rfl rfl trivial ?_
        refine u_load1 rfl rfl rfl rfl rfl rfl trivial ?_
        refine u_len rfl rfl rfl trivial ?_
        refine s_gtr rfl rfl rfl trivial (fun h62 => ?_) (fun h62 => ?_)
        ·refine u_move rfl rfl trivial ?_
         refine u_fieldAddr rfl rfl rfl rfl rfl rfl ⟨_, _, rfl, rfl, rfl, rfl⟩ ?_
         refine u_load1 rfl rfl rfl rfl rfl rfl ⟨_, _, rfl, rfl, rfl, rfl⟩ ?_
         refine u_indexS rfl rfl rfl rfl rfl (i := 0) rfl rfl rfl ⟨_, _, rfl, rfl, rfl, rfl⟩ ?_
         refine u_loadS1 rfl rfl rfl rfl rfl ⟨_, _, rfl, rfl, rfl, rfl⟩ ?_
         refine u_fieldAddr rfl rfl rfl rfl rfl rfl ⟨_, _, rfl, rfl, rfl, rfl⟩ ?_
         refine u_load1 rfl rfl rfl rfl rfl rfl ⟨_, _, rfl, rfl, rfl, rfl⟩ ?_
         refine s_eql rfl rfl rfl ⟨_, _, rfl, rfl, rfl, rfl⟩ (fun h70 => ?_) (fun h70 => ?_)
         ·refine u_pickT rfl rfl rfl trivial ?_
          refine u_end (by kernel_rfl) ?_
          refine vw_condT rfl ?_
          refine vw_skip ?_
          refine vw_block ?_
          refine vw_seq ?_
          refine vw_region ?_
          refine u_fieldAddr rfl rfl rfl rfl rfl rfl trivial ?_
          refine u_load1 rfl rfl rfl rfl rfl rfl trivial ?_
          refine u_sliceLo 1 rfl rfl (by rfl) (by simp [intCells_length]) rfl rfl rfl rfl trivial ?_
          refine u_fieldAddr rfl rfl rfl rfl rfl rfl trivial ?_
          refine u_store rfl rfl rfl rfl rfl rfl rfl trivial ?_
          refine u_end trivial ?_
          refine vw_region ?_
          refine u_fieldAddr rfl rfl rfl rfl rfl rfl trivial ?_
          refine u_load1 rfl rfl rfl rfl rfl rfl trivial ?_
          refine u_add rfl rfl rfl (by simp only [List.length_cons] at hI1; unfold inI; omega) rfl trivial ?_
          refine u_fieldAddr rfl rfl rfl rfl rfl rfl trivial ?_
          refine u_store rfl rfl rfl rfl rfl rfl rfl trivial ?_
          refine u_end trivial ?_
          refine ⟨_, _, ren [(3, 3), (4, 4), (5, 5), (902, 902), (903, 903)], ?_, ⟨e, x + 1, ?_, rfl, rfl⟩, mk_wk [(3, 3), (4, 4), (5, 5), (902, 902), (903, 903)] rfl rfl ⟨⟨_, rfl, (.ptr _ _ _ rfl (lookNe rfl))⟩, ⟨_, rfl, (.ptr _ _ _ rfl (lookNe rfl))⟩, ⟨_, rfl, (.ptr _ _ _ rfl (lookNe rfl))⟩, trivial⟩ ⟨⟨_, _, rfl, rfl, (subPL rfl)⟩, ⟨_, _, rfl, rfl, (subPL rfl)⟩, ⟨_, _, rfl, rfl, (.cons ((.lit _)) (.cons ((.shr _ _)) (.cons ((.lit _)) (.cons ((.lit _)) (.cons ((.lit _)) (.cons ((.row _ _ rfl (lookNe rfl))) (.cons ((.row _ _ rfl (lookNe rfl))) (.cons ((.lit _)) .nil))))))))⟩, (.inl ⟨_, rfl, rfl⟩), (.inl ⟨_, rfl, rfl⟩), trivial⟩ (parOk hpar rfl)⟩
          ·simp
          ·subst h70
           refine ⟨by rw [← hI0, strip_cons_eq], by simp only [List.length_cons] at hI1; omega, by omega⟩
         ·refine u_pickT rfl rfl rfl trivial ?_
          refine u_end (by kernel_rfl) ?_
          refine vw_condF rfl ?_
          refine vw_exit ?_
          refine iteP rfl ?_
          refine ⟨?_, ren [(3, 3), (4, 4), (5, 5), (902, 902), (903, 903)], mk_wk [(3, 3), (4, 4), (5, 5), (902, 902), (903, 903)] rfl rfl ⟨⟨_, rfl, (.ptr _ _ _ rfl (lookNe rfl))⟩, ⟨_, rfl, (.ptr _ _ _ rfl (lookNe rfl))⟩, ⟨_, rfl, (.ptr _ _ _ rfl (lookNe rfl))⟩, trivial⟩ ⟨⟨_, _, rfl, rfl, (subPL rfl)⟩, ⟨_, _, rfl, rfl, (subPL rfl)⟩, ⟨_, _, rfl, rfl, (.cons (subI (by rw [strip_cons_ne h70] at hI0; cases hI0; rfl)) (.cons (subS (by rw [strip_cons_ne h70] at hI0; cases hI0; rfl)) (.cons ((.lit _)) (.cons ((.lit _)) (.cons ((.lit _)) (.cons ((.row _ _ rfl (lookNe rfl))) (.cons ((.row _ _ rfl (lookNe rfl))) (.cons ((.lit _)) .nil))))))))⟩, (.inl ⟨_, rfl, rfl⟩), (.inl ⟨_, rfl, rfl⟩), trivial⟩ (parOk hpar rfl)⟩
          ·exact trivial
        ·simp [intCells_length] at h62; omega
      refine vw_meet (True) (⟨[(3, .ptr 3 0), (4, .ptr 4 0), (5, .ptr 5 0)], [(3, .box (chunkAV c)), (4, .box [.lit (.int .i64 0), .lit (.slice none 0 0), .lit (.int .i64 0), .lit (.int .i64 0), .lit (.int .i64 0), .lit (.slice none 0 0), .lit (.slice none 0 0), .lit (.bool false)]), (921, .row 77 6 (chunkCells (r.hold ++ [c]))), (5, .box [.lit (.int .i64 x1), .shr 1 (intCells e1), .lit (.int .i64 r.places.a), .lit (.int .i64 r.places.b), .lit (.int .i64 r.places.c), .row 921, .row 923, .lit (.bool true)]), (923, .row 48 2 (msgCells r.told))], 122⟩) ?_ (fun hA13 => ?_)
      ·refine vw_draw ?_
       refine u_fieldAddr rfl rfl rfl rfl rfl rfl trivial ?_
       refine u_load1 rfl rfl rfl rfl rfl rfl trivial ?_
       refine u_loadAll rfl rfl rfl rfl rfl rfl trivial ?_
       refine u_call rfl (c80 c (by have := MChunk.num ⟨hk, hc⟩; rw [this.2.2.1]; simp)) (.cons ((subP rfl)) .nil) rfl trivial ?_
       refine u_buildSlice 125 rfl rfl rfl rfl rfl rfl rfl rfl rfl rfl (notPar hpar rfl) rfl rfl trivial ?_
       refine u_append 126 rfl rfl rfl (srcRow rfl) rfl (notPar hpar rfl) rfl rfl rfl rfl rfl (by simp [cellsL, chunkCells_length]; omega) rfl trivial ?_
       refine u_fieldAddr rfl rfl rfl rfl rfl rfl trivial ?_
       refine u_store rfl rfl rfl rfl rfl rfl rfl trivial ?_
       refine u_end (by kernel_rfl) ?_
       refine ⟨?_, ren [(3, 3), (4, 4), (5, 5), (921, 126), (923, 903)], mk_wk [(3, 3), (4, 4), (5, 5), (921, 126), (923, 903)] rfl rfl ⟨⟨_, rfl, (.ptr _ _ _ rfl (lookNe rfl))⟩, ⟨_, rfl, (.ptr _ _ _ rfl (lookNe rfl))⟩, ⟨_, rfl, (.ptr _ _ _ rfl (lookNe rfl))⟩, trivial⟩ ⟨⟨_, _, rfl, rfl, (subPL rfl)⟩, ⟨_, _, rfl, rfl, (subPL rfl)⟩, (.inl ⟨_, rfl, rowEq rfl (by rw [chunkCells_app]; rfl)⟩), ⟨_, _, rfl, rfl, (.cons ((.lit _)) (.cons ((.shr _ _)) (.cons ((.lit _)) (.cons ((.lit _)) (.cons ((.lit _)) (.cons ((.row _ _ rfl (lookNe rfl))) (.cons ((.row _ _ rfl (lookNe rfl))) (.cons ((.lit _)) .nil))))))))⟩, (.inl ⟨_, rfl, rfl⟩), trivial⟩ (parOk hpar rfl)⟩
       ·exact trivial
      refine vw_seq ?_
      refine vw_seq ?_
      refine vw_region ?_
      refine u_callO [(921, 921), (5, 5), (923, 923)] [] [] rfl rfl (c150 x1 e1 r.places (r.hold ++ [c]) r.told (st3 hT0) (by simp; omega)) (inc_cons (k0 := 921) rfl (inc_cons (k0 := 5) rfl (inc_cons (k0 := 923) rfl inc_nil))) ⟨(.inl ⟨_, rfl, rfl⟩), ⟨_, _, rfl, rfl, (.cons ((.lit _)) (.cons ((.shr _ _)) (.cons ((.lit _)) (.cons ((.lit _)) (.cons ((.lit _)) (.cons ((.row _ _ rfl (lookNe rfl))) (.cons ((.row _ _ rfl (lookNe rfl))) (.cons ((.lit _)) .nil))))))))⟩, (.inl ⟨_, rfl, rfl⟩), trivial⟩ (.cons ((.ptr _ _ _ rfl (lookNe rfl))) .nil) rfl rfl (newPar hpar rfl) rfl trivial ?_
      refine u_assign rfl rfl trivial ?_
      refine u_end trivial ?_
      refine vw_block ?_
      refine vw_loopR (fun n_ E => ∃ (h : List Chunk) (p : Places) (T : List Msg), ((tellAll (h, p, T) = (h1, p1, T1)) ∧ (TaleOk (r.next + r.early.length + 1) (h, p, T))) ∧ n_ = h.length ∧ E = ⟨[(3, .ptr 3 0), (4, .ptr 4 0), (5, .ptr 5 0), (8, .lit (.int .i64 (idxP (readyB p) h)))], [(3, .box (chunkAV c)), (4, .box [.lit (.int .i64 0), .lit (.slice none 0 0), .lit (.int .i64 0), .lit (.int .i64 0), .lit (.int .i64 0), .lit (.slice none 0 0), .lit (.slice none 0 0), .lit (.bool false)]), (921, .row 77 6 (chunkCells h)), (5, .box [.lit (.int .i64 x1), .shr 1 (intCells e1), .lit (.int .i64 p.a), .lit (.int .i64 p.b), .lit (.int .i64 p.c), .row 921, .row 923, .lit (.bool true)]), (923, .row 48 2 (msgCells T))], 122⟩) (n0 := _) (E0 := _) (⟨(r.hold ++ [c]), r.places, r.told, by exact ⟨htl, hT0⟩, rfl, rfl⟩) (ren [(3, 3), (4, 4), (5, 5), (921, 921), (923, 923)]) (mk_wk [(3, 3), (4, 4), (5, 5), (921, 921), (923, 923)] rfl rfl ⟨⟨_, rfl, (.ptr _ _ _ rfl (lookNe rfl))⟩, ⟨_, rfl, (.ptr _ _ _ rfl (lookNe rfl))⟩, ⟨_, rfl, (.ptr _ _ _ rfl (lookNe rfl))⟩, ⟨_, rfl, (.lit _)⟩, trivial⟩ ⟨⟨_, _, rfl, rfl, (subPL rfl)⟩, ⟨_, _, rfl, rfl, (subPL rfl)⟩, (.inl ⟨_, rfl, rfl⟩), ⟨_, _, rfl, rfl, (.cons ((.lit _)) (.cons ((.shr _ _)) (.cons ((.lit _)) (.cons ((.lit _)) (.cons ((.lit _)) (.cons ((.row _ _ rfl (lookNe rfl))) (.cons ((.row _ _ rfl (lookNe rfl))) (.cons ((.lit _)) .nil))))))))⟩, (.inl ⟨_, rfl, rfl⟩), trivial⟩ (parOk hpar rfl)) (fun n_ E hR => ?_)
      obtain ⟨h, p, T, hI, rfl, rfl⟩ := hR
      obtain ⟨hI0, hI1⟩ := hI
      refine vw_seq ?_
      refine vw_seq ?_
      refine vw_region ?_
      refine u_move rfl rfl trivial ?_
      refine s_geq rfl rfl rfl trivial (fun h89 => ?_) (fun h89 => ?_)
      ·refine u_end trivial ?_
       refine vw_condT rfl ?_
       refine vw_skip ?_
       obtain ⟨k, hk1, hke, hk2, hk3⟩ := idxP_yes (p := readyB p) (l := h) (by omega)
       have hstep : tell1 (h, p, T) = some ((h.eraseIdx k), (p.bump h[k].stream), (T ++ [(h[k].stream, h[k].data)])) := tell1_at hk1 hk2 hk3
       have hT2 := taleOk_step hI1 hstep
       have hb : (T.length : Int) + h.length = (r.next + r.early.length + 1) := hI1.1
       have hpb : 0 ≤ p.a ∧ 0 ≤ p.b ∧ 0 ≤ p.c ∧ p.a + p.b + p.c = T.length := hI1.2.1
       have hb2 : ((T ++ [(h[k].stream, h[k].data)]).length : Int) + (h.eraseIdx k).length = (r.next + r.early.length + 1) := hT2.1
       refine vw_meet (True) (⟨[(3, .ptr 3 0), (4, .ptr 4 0), (5, .ptr 5 0)], [(3, .box (chunkAV c)), (4, .box [.lit (.int .i64 0), .lit (.slice none 0 0), .lit (.int .i64 0), .lit (.int .i64 0), .lit (.int .i64 0), .lit (.slice none 0 0), .lit (.slice none 0 0), .lit (.bool false)]), (921, .row 77 6 (chunkCells (h.eraseIdx k))), (5, .box [.lit (.int .i64 x1), .shr 1 (intCells e1), .lit (.int .i64 (p.bump h[k].stream).a), .lit (.int .i64 (p.bump h[k].stream).b), .lit (.int .i64 (p.bump h[k].stream).c), .row 921, .row 923, .lit (.bool true)]), (923, .row 48 2 (msgCells (T ++ [(h[k].stream, h[k].data)])))], 122⟩) ?_ (fun hA15 => ?_)
       ·refine vw_block ?_
        refine vw_seq ?_
        refine vw_region ?_
        refine u_fieldAddr rfl rfl rfl rfl rfl rfl trivial ?_
        refine u_load1 rfl rfl rfl rfl rfl rfl trivial ?_
        refine u_move rfl rfl trivial ?_
        refine u_indexR rfl rfl rfl rfl rfl rfl (i := k) hke (by rw [chunkCells_length]; exact hk1) rfl trivial ?_
        refine u_loadRowAll rfl rfl (chunkCells_get hk1) rfl rfl rfl rfl trivial ?_
        refine u_alloc 165 rfl rfl (notPar hpar rfl) rfl rfl trivial ?_
        refine u_storeAll rfl rfl rfl rfl rfl rfl rfl rfl trivial ?_
        refine u_end trivial ?_
        refine vw_seq ?_
        refine vw_region ?_
        refine u_fieldAddr rfl rfl rfl rfl rfl rfl trivial ?_
        refine u_load1 rfl rfl rfl rfl rfl rfl trivial ?_
        refine u_fieldAddr rfl rfl rfl rfl rfl rfl trivial ?_
        refine u_load1 rfl rfl rfl rfl rfl rfl trivial ?_
        refine u_fieldAddr rfl rfl rfl rfl rfl rfl trivial ?_
        refine u_load1 rfl rfl rfl rfl rfl rfl trivial ?_
        refine u_build rfl rfl rfl rfl rfl trivial ?_
        refine u_buildSlice 166 rfl rfl rfl rfl rfl rfl rfl rfl rfl rfl (notPar hpar rfl) rfl rfl trivial ?_
        refine u_append 167 rfl rfl rfl (srcRow rfl) rfl (notPar hpar rfl) rfl rfl rfl rfl rfl (by simp [cellsL, msgCells_length]; omega) rfl trivial ?_
        refine u_fieldAddr rfl rfl rfl rfl rfl rfl trivial ?_
        refine u_store rfl rfl rfl rfl rfl rfl rfl trivial ?_
        refine u_end trivial ?_
        refine vw_seq ?_
        rcases st3 hI1 h[k] (List.getElem_mem hk1) with hq | hq | hq
        ·refine vw_region ?_
         refine u_fieldAddr rfl rfl rfl rfl rfl rfl trivial ?_
         refine u_load1 rfl rfl rfl rfl rfl rfl trivial ?_
         refine u_fieldAddr rfl rfl rfl rfl rfl rfl trivial ?_
         refine u_indexA (i := 0) rfl rfl rfl rfl rfl (by exact hq) (by decide) rfl trivial ?_
         refine u_load1 rfl rfl rfl rfl rfl rfl trivial ?_
         refine u_add rfl rfl rfl (by unfold inI; omega) rfl trivial ?_
         refine u_fieldAddr rfl rfl rfl rfl rfl rfl trivial ?_
         refine u_indexA (i := 0) rfl rfl rfl rfl rfl (by exact hq) (by decide) rfl trivial ?_
         refine u_store rfl rfl rfl rfl rfl rfl rfl trivial ?_
         refine u_end trivial ?_
         refine vw_region ?_
         refine u_fieldAddr rfl rfl rfl rfl rfl rfl trivial ?_
         refine u_load1 rfl rfl rfl rfl rfl rfl trivial ?_
         refine u_move rfl rfl trivial ?_
         refine u_move rfl rfl trivial ?_
         refine u_add rfl rfl rfl (by rw [hke]; unfold inI; omega) rfl trivial ?_
         refine u_callO [(921, 921)] [] [921] rfl rfl (c151 h k hk1 (by omega)) (inc_cons (k0 := 921) rfl inc_nil) ⟨(.inl ⟨_, rfl, rfl⟩), trivial⟩ (.cons ((.row _ _ rfl (lookNe rfl))) (.cons (subI (by omega)) (.cons (subI (by omega)) .nil))) rfl rfl (newPar hpar rfl) rfl trivial ?_
         refine u_fieldAddr rfl rfl rfl rfl rfl rfl trivial ?_
         refine u_store rfl rfl rfl rfl rfl rfl rfl trivial ?_
         refine u_end trivial ?_
         refine ⟨?_, ren [(3, 3), (4, 4), (5, 5), (921, 922), (923, 167)], mk_wk [(3, 3), (4, 4), (5, 5), (921, 922), (923, 167)] rfl rfl ⟨⟨_, rfl, (.ptr _ _ _ rfl (lookNe rfl))⟩, ⟨_, rfl, (.ptr _ _ _ rfl (lookNe rfl))⟩, ⟨_, rfl, (.ptr _ _ _ rfl (lookNe rfl))⟩, trivial⟩ ⟨⟨_, _, rfl, rfl, (subPL rfl)⟩, ⟨_, _, rfl, rfl, (subPL rfl)⟩, (.inl ⟨_, rfl, rfl⟩), ⟨_, _, rfl, rfl, (.cons ((.lit _)) (.cons ((.shr _ _)) (.cons (subI (by first | (rw [hq]; rfl) | simp [Places.bump, hq])) (.cons (subI (by first | (rw [hq]; rfl) | simp [Places.bump, hq])) (.cons (subI (by first | (rw [hq]; rfl) | simp [Places.bump, hq])) (.cons ((.row _ _ rfl (lookNe rfl))) (.cons ((.row _ _ rfl (lookNe rfl))) (.cons ((.lit _)) .nil))))))))⟩, (.inl ⟨_, rfl, rowEq rfl (by rw [msgCells_app]; rfl)⟩), trivial⟩ (parOk hpar rfl)⟩
         ·exact trivial
        ·refine vw_region ?_
         refine u_fieldAddr rfl rfl rfl rfl rfl rfl trivial ?_
         refine u_load1 rfl rfl rfl rfl rfl rfl trivial ?_
         refine u_fieldAddr rfl rfl rfl rfl rfl rfl trivial ?_
         refine u_indexA (i := 1) rfl rfl rfl rfl rfl (by exact hq) (by decide) rfl trivial ?_
         refine u_load1 rfl rfl rfl rfl rfl rfl trivial ?_
         refine u_add rfl rfl rfl (by unfold inI; omega) rfl trivial ?_
         refine u_fieldAddr rfl rfl rfl rfl rfl rfl trivial ?_
         refine u_indexA (i := 1) rfl rfl rfl rfl rfl (by exact hq) (by decide) rfl trivial ?_
         refine u_store rfl rfl rfl rfl rfl rfl rfl trivial ?_
         refine u_end trivial ?_
         refine vw_region ?_
         refine u_fieldAddr rfl rfl rfl rfl rfl rfl trivial ?_
         refine u_load1 rfl rfl rfl rfl rfl rfl trivial ?_
         refine u_move rfl rfl trivial ?_
         refine u_move rfl rfl trivial ?_
         refine u_add rfl rfl rfl (by rw [hke]; unfold inI; omega) rfl trivial ?_
         refine u_callO [(921, 921)] [] [921] rfl rfl (c151 h k hk1 (by omega)) (inc_cons (k0 := 921) rfl inc_nil) ⟨(.inl ⟨_, rfl, rfl⟩), trivial⟩ (.cons ((.row _ _ rfl (lookNe rfl))) (.cons (subI (by omega)) (.cons (subI (by omega)) .nil))) rfl rfl (newPar hpar rfl) rfl trivial ?_
         refine u_fieldAddr rfl rfl rfl rfl rfl rfl trivial ?_
         refine u_store rfl rfl rfl rfl rfl rfl rfl trivial ?_
         refine u_end trivial ?_
         refine ⟨?_, ren [(3, 3), (4, 4), (5, 5), (921, 922), (923, 167)], mk_wk [(3, 3), (4, 4), (5, 5), (921, 922), (923, 167)] rfl rfl ⟨⟨_, rfl, (.ptr _ _ _ rfl (lookNe rfl))⟩, ⟨_, rfl, (.ptr _ _ _ rfl (lookNe rfl))⟩, ⟨_, rfl, (.ptr _ _ _ rfl (lookNe rfl))⟩, trivial⟩ ⟨⟨_, _, rfl, rfl, (subPL rfl)⟩, ⟨_, _, rfl, rfl, (subPL rfl)⟩, (.inl ⟨_, rfl, rfl⟩), ⟨_, _, rfl, rfl, (.cons ((.lit _)) (.cons ((.shr _ _)) (.cons (subI (by first | (rw [hq]; rfl) | simp [Places.bump, hq])) (.cons (subI (by first | (rw [hq]; rfl) | simp [Places.bump, hq])) (.cons (subI (by first | (rw [hq]; rfl) | simp [Places.bump, hq])) (.cons ((.row _ _ rfl (lookNe rfl))) (.cons ((.row _ _ rfl (lookNe rfl))) (.cons ((.lit _)) .nil))))))))⟩, (.inl ⟨_, rfl, rowEq rfl (by rw [msgCells_app]; rfl)⟩), trivial⟩ (parOk hpar rfl)⟩
         ·exact trivial
        ·refine vw_region ?_
         refine u_fieldAddr rfl rfl rfl rfl rfl rfl trivial ?_
         refine u_load1 rfl rfl rfl rfl rfl rfl trivial ?_
         refine u_fieldAddr rfl rfl rfl rfl rfl rfl trivial ?_
         refine u_indexA (i := 2) rfl rfl rfl rfl rfl (by exact hq) (by decide) rfl trivial ?_
         refine u_load1 rfl rfl rfl rfl rfl rfl trivial ?_
         refine u_add rfl rfl rfl (by unfold inI; omega) rfl trivial ?_
         refine u_fieldAddr rfl rfl rfl rfl rfl rfl trivial ?_
         refine u_indexA (i := 2) rfl rfl rfl rfl rfl (by exact hq) (by decide) rfl trivial ?_
         refine u_store rfl rfl rfl rfl rfl rfl rfl trivial ?_
         refine u_end trivial ?_
         refine vw_region ?_
         refine u_fieldAddr rfl rfl rfl rfl rfl rfl trivial ?_
         refine u_load1 rfl rfl rfl rfl rfl rfl trivial ?_
         refine u_move rfl rfl trivial ?_
         refine u_move rfl rfl trivial ?_
         refine u_add rfl rfl rfl (by rw [hke]; unfold inI; omega) rfl trivial ?_
         refine u_callO [(921, 921)] [] [921] rfl rfl (c151 h k hk1 (by omega)) (inc_cons (k0 := 921) rfl inc_nil) ⟨(.inl ⟨_, rfl, rfl⟩), trivial⟩ (.cons ((.row _ _ rfl (lookNe rfl))) (.cons (subI (by omega)) (.cons (subI (by omega)) .nil))) rfl rfl (newPar hpar rfl) rfl trivial ?_
         refine u_fieldAddr rfl rfl rfl rfl rfl rfl trivial ?_
         refine u_store rfl rfl rfl rfl rfl rfl rfl trivial ?_
         refine u_end trivial ?_
         refine ⟨?_, ren [(3, 3), (4, 4), (5, 5), (921, 922), (923, 167)], mk_wk [(3, 3), (4, 4), (5, 5), (921, 922), (923, 167)] rfl rfl ⟨⟨_, rfl, (.ptr _ _ _ rfl (lookNe rfl))⟩, ⟨_, rfl, (.ptr _ _ _ rfl (lookNe rfl))⟩, ⟨_, rfl, (.ptr _ _ _ rfl (lookNe rfl))⟩, trivial⟩ ⟨⟨_, _, rfl, rfl, (subPL rfl)⟩, ⟨_, _, rfl, rfl, (subPL rfl)⟩, (.inl ⟨_, rfl, rfl⟩), ⟨_, _, rfl, rfl, (.cons ((.lit _)) (.cons ((.shr _ _)) (.cons (subI (by first | (rw [hq]; rfl) | simp [Places.bump, hq])) (.cons (subI (by first | (rw [hq]; rfl) | simp [Places.bump, hq])) (.cons (subI (by first | (rw [hq]; rfl) | simp [Places.bump, hq])) (.cons ((.row _ _ rfl (lookNe rfl))) (.cons ((.row _ _ rfl (lookNe rfl))) (.cons ((.lit _)) .nil))))))))⟩, (.inl ⟨_, rfl, rowEq rfl (by rw [msgCells_app]; rfl)⟩), trivial⟩ (parOk hpar rfl)⟩
         ·exact trivial
       refine vw_region ?_
       refine u_callO [(921, 921), (5, 5), (923, 923)] [] [] rfl rfl (c150 x1 e1 (p.bump h[k].stream) (h.eraseIdx k) (T ++ [(h[k].stream, h[k].data)]) (st3 hT2) (by omega)) (inc_cons (k0 := 921) rfl (inc_cons (k0 := 5) rfl (inc_cons (k0 := 923) rfl inc_nil))) ⟨(.inl ⟨_, rfl, rfl⟩), ⟨_, _, rfl, rfl, (.cons ((.lit _)) (.cons ((.shr _ _)) (.cons ((.lit _)) (.cons ((.lit _)) (.cons ((.lit _)) (.cons ((.row _ _ rfl (lookNe rfl))) (.cons ((.row _ _ rfl (lookNe rfl))) (.cons ((.lit _)) .nil))))))))⟩, (.inl ⟨_, rfl, rfl⟩), trivial⟩ (.cons ((.ptr _ _ _ rfl (lookNe rfl))) .nil) rfl rfl (newPar hpar rfl) rfl trivial ?_
       refine u_assign rfl rfl trivial ?_
       refine u_end trivial ?_
       refine ⟨_, _, ren [(3, 3), (4, 4), (5, 5), (921, 921), (923, 923)], ?_, ⟨(h.eraseIdx k), (p.bump h[k].stream), (T ++ [(h[k].stream, h[k].data)]), ?_, rfl, rfl⟩, mk_wk [(3, 3), (4, 4), (5, 5), (921, 921), (923, 923)] rfl rfl ⟨⟨_, rfl, (.ptr _ _ _ rfl (lookNe rfl))⟩, ⟨_, rfl, (.ptr _ _ _ rfl (lookNe rfl))⟩, ⟨_, rfl, (.ptr _ _ _ rfl (lookNe rfl))⟩, ⟨_, rfl, (.lit _)⟩, trivial⟩ ⟨⟨_, _, rfl, rfl, (subPL rfl)⟩, ⟨_, _, rfl, rfl, (subPL rfl)⟩, (.inl ⟨_, rfl, rfl⟩), ⟨_, _, rfl, rfl, (.cons ((.lit _)) (.cons ((.shr _ _)) (.cons ((.lit _)) (.cons ((.lit _)) (.cons ((.lit _)) (.cons ((.row _ _ rfl (lookNe rfl))) (.cons ((.row _ _ rfl (lookNe rfl))) (.cons ((.lit _)) .nil))))))))⟩, (.inl ⟨_, rfl, rfl⟩), trivial⟩ (parOk hpar rfl)⟩
       ·rw [List.length_eraseIdx, if_pos hk1]; omega
       ·exact ⟨by rw [← hI0]; exact (tellAll_step hstep).symm, hT2⟩
      ·refine u_end trivial ?_
       refine vw_condF rfl ?_
       refine vw_exit ?_
       refine iteP rfl ?_
       refine vw_seq ?_
       refine vw_region ?_
       refine u_loadAll rfl rfl rfl rfl rfl rfl trivial ?_
       refine u_storeAll rfl rfl rfl rfl rfl rfl rfl rfl trivial ?_
       refine u_end trivial ?_
       refine vw_ret ?_
       rw [tellAll_none (tell1_no (idx_none (by omega)))] at hI0
       cases hI0
       rw [rhear_takes hk hnr hst htl]
       refine fin' [] (.inr rfl) (.cons (.cellN rfl rfl rfl rfl rfl) .nil) (mk_wk [] rfl rfl ⟨⟨_, rfl, (.agg _ _ (.cons (subI ?_) (.cons (subS ?_) (.cons (subI ?_) (.cons (subI ?_) (.cons (subI ?_) (.cons (subFz rfl (fzL rfl) ?_) (.cons (subFz rfl (fzL rfl) ?_) (.cons (subB ?_) .nil)))))))))⟩, trivial⟩ trivial (parOk rfl rfl))
       all_goals (try rfl)
    ·refine u_move rfl rfl ⟨_, _, rfl, rfl, rfl, rfl⟩ ?_
     refine u_skip rfl rfl rfl rfl rfl ?_
     refine u_skip rfl rfl rfl rfl rfl ?_
     refine u_skip rfl rfl rfl rfl rfl ?_
     refine u_skip rfl rfl rfl rfl rfl ?_
     refine u_pickF rfl rfl rfl ⟨_, _, rfl, rfl, rfl, rfl⟩ ?_
     refine u_pickF rfl rfl rfl trivial ?_
     refine u_end trivial ?_
     refine vw_condF rfl ?_
     refine vw_skip ?_
     refine vw_seq ?_
     have hk : c.kind = 1 := by omega
     have hne : c.num ∉ r.early := by simpa using h27
     have hnr : ¬ refuses r c.num := by
       rintro (h | h | h)
       · omega
       · exact hne h
       · obtain ⟨g1, g2⟩ := h
         first | omega | ((try simp only [msgCells_length, chunkCells_length, intCells_length, byteCells_length] at *); omega)
     obtain ⟨e1, x1, hst⟩ : ∃ e x, strip (insertS c.num r.early) r.next = (e, x) := ⟨_, _, rfl⟩
     obtain ⟨h1, p1, T1, htl⟩ : ∃ h p T, tellAll (r.hold ++ [c], r.places, r.told) = (h, p, T) := ⟨_, _, _, rfl⟩
     have hT0 := taleOk0 hr hc hk
     refine vw_region ?_
     refine u_fieldAddr rfl rfl rfl rfl rfl rfl trivial ?_
     refine u_load1 rfl rfl rfl rfl rfl rfl trivial ?_
     refine u_fieldAddr rfl rfl rfl rfl rfl rfl trivial ?_
     refine u_load1 rfl rfl rfl rfl rfl rfl trivial ?_
     refine u_callB [(901, _)] rfl (c148 r.early c.num hr.s (by omega)) (.cons (.frz _ _ _ _ rfl (lookNe rfl)) (.cons ((.lit _)) .nil)) (sub1 rfl) rfl rfl trivial ?_
     refine u_move rfl rfl trivial ?_
     refine u_extract rfl rfl rfl trivial ?_
     refine u_extract rfl rfl rfl trivial ?_
     refine u_assign rfl rfl trivial ?_
     refine u_assign rfl rfl trivial ?_
     refine u_end trivial ?_
     refine vw_seq ?_
     refine vw_region ?_
     refine u_fieldAddr rfl rfl rfl rfl rfl rfl trivial ?_
     refine u_load1 rfl rfl rfl rfl rfl rfl trivial ?_
     refine u_move rfl rfl trivial ?_
     refine u_fieldAddr rfl rfl rfl rfl rfl rfl trivial ?_
     refine u_load1 rfl rfl rfl rfl rfl rfl trivial ?_
     refine u_buildSlice 104 rfl rfl rfl rfl rfl rfl rfl rfl rfl rfl (notPar hpar rfl) rfl rfl trivial ?_
     refine u_callO [(901, 901), (104, 104)] [] [901, 104] rfl rfl (c149 901 104 904 (by decide) (by decide) (by decide) r.early c.num (r.early.takeWhile fun x => decide (x < c.num)).length (List.takeWhile_sublist _).length_le (by omega)) (inc_cons (k0 := 901) rfl (inc_cons (k0 := 104) rfl inc_nil)) ⟨(.inl ⟨_, rfl, rfl⟩), (.inl ⟨_, rfl, rfl⟩), trivial⟩ (.cons ((.row _ _ rfl (lookNe rfl))) (.cons ((.lit _)) (.cons ((.row _ _ rfl (lookNe rfl))) .nil))) rfl rfl (newPar hpar rfl) rfl trivial ?_
     refine u_fieldAddr rfl rfl rfl rfl rfl rfl trivial ?_
     refine u_store rfl rfl rfl rfl rfl rfl rfl trivial ?_
     refine u_end trivial ?_
     refine vw_meet (True) (⟨[(3, .ptr 3 0), (4, .ptr 4 0), (5, .ptr 5 0)], [(3, .box (chunkAV c)), (4, .box [.lit (.int .i64 0), .lit (.slice none 0 0), .lit (.int .i64 0), .lit (.int .i64 0), .lit (.int .i64 0), .lit (.slice none 0 0), .lit (.slice none 0 0), .lit (.bool false)]), (5, .box [.lit (.int .i64 x1), .shr 1 (intCells e1), .lit (.int .i64 r.places.a), .lit (.int .i64 r.places.b), .lit (.int .i64 r.places.c), .row 902, .row 903, .lit (.bool true)]), (902, .row 77 6 (chunkCells r.hold)), (903, .row 48 2 (msgCells r.told))], 122⟩) ?_ (fun hA12 => ?_)
     ·refine vw_block ?_
      refine vw_loopR (fun n_ E => ∃ (e : List Int) (x : Int), ((strip e x = (e1, x1)) ∧ (x + e.length ≤ 100) ∧ (0 ≤ x)) ∧ n_ = e.length ∧ E = ⟨[(3, .ptr 3 0), (4, .ptr 4 0), (5, .ptr 5 0)], [(3, .box (chunkAV c)), (4, .box [.lit (.int .i64 0), .lit (.slice none 0 0), .lit (.int .i64 0), .lit (.int .i64 0), .lit (.int .i64 0), .lit (.slice none 0 0), .lit (.slice none 0 0), .lit (.bool false)]), (5, .box [.lit (.int .i64 x), .shr 1 (intCells e), .lit (.int .i64 r.places.a), .lit (.int .i64 r.places.b), .lit (.int .i64 r.places.c), .row 902, .row 903, .lit (.bool true)]), (902, .row 77 6 (chunkCells r.hold)), (903, .row 48 2 (msgCells r.told))], 122⟩) (n0 := _) (E0 := _) (⟨insL r.early (r.early.takeWhile fun x => decide (x < c.num)).length c.num, r.next, by exact ⟨by rw [insL_tw]; exact hst, by rw [insL_tw, insertS_length]; omega, hn0.1⟩, rfl, rfl⟩) (ren [(3, 101), (4, 102), (5, 103), (902, 902), (903, 903)]) (mk_wk [(3, 101), (4, 102), (5, 103), (902, 902), (903, 903)] rfl rfl ⟨⟨_, rfl, (.ptr _ _ _ rfl (lookNe rfl))⟩, ⟨_, rfl, (.ptr _ _ _ rfl (lookNe rfl))⟩, ⟨_, rfl, (.ptr _ _ _ rfl (lookNe rfl))⟩, trivial⟩ ⟨⟨_, _, rfl, rfl, (subPL rfl)⟩, ⟨_, _, rfl, rfl, (subPL rfl)⟩, ⟨_, _, rfl, rfl, (.cons ((.lit _)) (.cons (.frz _ _ _ _ rfl (fzL rfl)) (.cons ((.lit _)) (.cons ((.lit _)) (.cons ((.lit _)) (.cons ((.row _ _ rfl (lookNe rfl))) (.cons ((.row _ _ rfl (lookNe rfl))) (.cons ((.lit _)) .nil))))))))⟩, (.inl ⟨_, rfl, rfl⟩), (.inl ⟨_, rfl, rfl⟩), trivial⟩ (parOk hpar rfl)) (fun n_ E hR => ?_)
      obtain ⟨e, x, hI, rfl, rfl⟩ := hR
      obtain ⟨hI0, hI1, hI2⟩ := hI
      refine vw_seq ?_
      refine vw_seq ?_
      rcases e with _ | ⟨n, e⟩
      ·refine vw_draw ?_
       refine u_fieldAddr rfl rfl rfl rfl rfl rfl trivial ?_
       refine u_load1 rfl rfl rfl rfl rfl rfl trivial ?_
       refine u_len rfl rfl rfl trivial ?_
       refine s_gtr rfl rfl rfl trivial (fun h62 => ?_) (fun h62 => ?_)
       ·simp [intCells] at h62
       ·refine u_move rfl rfl trivial ?_
        refine u_skip rfl rfl rfl rfl rfl ?_
        refine u_skip rfl rfl rfl rfl rfl ?_
        refine u_skip rfl rfl rfl rfl rfl ?_
        refine u_skip rfl rfl rfl rfl rfl ?_
        refine u_skip rfl rfl rfl rfl rfl ?_
        refine u_skip rfl rfl rfl rfl rfl ?_
        refine u_skip rfl rfl rfl rfl rfl ?_
        refine u_pickF rfl rfl rfl trivial ?_
        refine u_end (by kernel_rfl) ?_
        refine vw_condF rfl ?_
        refine vw_exit ?_
        refine iteP rfl ?_
        refine ⟨?_, ren [(3, 3), (4, 4), (5, 5), (902, 902), (903, 903)], mk_wk [(3, 3), (4, 4), (5, 5), (902, 902), (903, 903)] rfl rfl ⟨⟨_, rfl, (.ptr _ _ _ rfl (lookNe rfl))⟩, ⟨_, rfl, (.ptr _ _ _ rfl (lookNe rfl))⟩, ⟨_, rfl, (.ptr _ _ _ rfl (lookNe rfl))⟩, trivial⟩ ⟨⟨_, _, rfl, rfl, (subPL rfl)⟩, ⟨_, _, rfl, rfl, (subPL rfl)⟩, ⟨_, _, rfl, rfl, (.cons (subI (by rw [show strip ([] : List Int) x = ([], x) from rfl] at hI0; cases hI0; rfl)) (.cons (subS (by rw [show strip ([] : List Int) x = ([], x) from rfl] at hI0; cases hI0; rfl)) (.cons ((.lit _)) (.cons ((.lit _)) (.cons ((.lit _)) (.cons ((.row _ _ rfl (lookNe rfl))) (.cons ((.row _ _ rfl (lookNe rfl))) (.cons ((.lit _)) .nil))))))))⟩, (.inl ⟨_, rfl, rfl⟩), (.inl ⟨_, rfl, rfl⟩), trivial⟩ (parOk hpar rfl)⟩
        ·exact trivial
      ·refine vw_draw ?_
       refine u_fieldAddr rfl rfl rfl rfl rfl rfl trivial ?_
       refine u_load1 rfl rfl rfl rfl rfl rfl trivial ?_
       refine u_len rfl rfl rfl trivial ?_
       refine s_gtr rfl rfl rfl trivial (fun h62 => ?_) (fun h62 => ?_)
       ·refine u_move rfl rfl trivial ?_
        refine u_fieldAddr rfl rfl rfl rfl rfl rfl ⟨_, _, rfl, rfl, rfl, rfl⟩ ?_
        refine u_load1 rfl rfl rfl rfl rfl rfl ⟨_, _, rfl, rfl, rfl, rfl⟩ ?_
        refine u_indexS rfl rfl rfl rfl rfl (i := 0) rfl rfl rfl ⟨_, _, rfl, rfl, rfl, rfl⟩ ?_
        refine u_loadS1 rfl rfl rfl rfl rfl ⟨_, _, rfl, rfl, rfl, rfl⟩ ?_
        refine u_fieldAddr rfl rfl rfl rfl rfl rfl ⟨_, _, rfl, rfl, rfl, rfl⟩ ?_
        refine u_load1 rfl rfl rfl rfl rfl rfl ⟨_, _, rfl, rfl, rfl, rfl⟩ ?_
        refine s_eql rfl rfl rfl ⟨_, _, rfl, rfl, rfl, rfl⟩ (fun h70 => ?_) (fun h70 => ?_)
        ·refine u_pickT rfl rfl rfl trivial ?_
         refine u_end (by kernel_rfl) ?_
         refine vw_condT rfl ?_
         refine vw_skip ?_
         refine vw_block ?_
         refine vw_seq ?_
         refine vw_region ?_
         refine u_fieldAddr rfl rfl rfl rfl rfl rfl trivial ?_
         refine u_load1 rfl rfl rfl rfl rfl rfl trivial ?_
         refine u_sliceLo 1 rfl rfl (by rfl) (by simp [intCells_length]) rfl rfl rfl rfl trivial ?_
         refine u_fieldAddr rfl rfl rfl rfl rfl rfl trivial ?_
         refine u_store rfl rfl rfl rfl rfl rfl rfl trivial ?_
         refine u_end trivial ?_
         refine vw_region ?_
         refine u_fieldAddr rfl rfl rfl rfl rfl rfl trivial ?_
         refine u_load1 rfl rfl rfl rfl rfl rfl trivial ?_
         refine u_add rfl rfl rfl (by simp only [List.length_cons] at hI1; unfold inI; omega) rfl trivial ?_
         refine u_fieldAddr rfl rfl rfl rfl rfl rfl trivial ?_
         refine u_store rfl rfl rfl rfl rfl rfl rfl trivial ?_
         refine u_end trivial ?_
         refine ⟨_, _, ren [(3, 3), (4, 4), (5, 5), (902, 902), (903, 903)], ?_, ⟨e, x + 1, ?_, rfl, rfl⟩, mk_wk [(3, 3), (4, 4), (5, 5), (902, 902), (903, 903)] rfl rfl ⟨⟨_, rfl, (.ptr _ _ _ rfl (lookNe rfl))⟩, ⟨_, rfl, (.ptr _ _ _ rfl (lookNe rfl))⟩, ⟨_, rfl, (.ptr _ _ _ rfl (lookNe rfl))⟩, trivial⟩ ⟨⟨_, _, rfl, rfl, (subPL rfl)⟩, ⟨_, _, rfl, rfl, (subPL rfl)⟩, ⟨_, _, rfl, rfl, (.cons ((.lit _)) (.cons ((.shr _ _)) (.cons ((.lit _)) (.cons ((.lit _)) (.cons ((.lit _)) (.cons ((.row _ _ rfl (lookNe rfl))) (.cons ((.row _ _ rfl (lookNe rfl))) (.cons ((.lit _)) .nil))))))))⟩, (.inl ⟨_, rfl, rfl⟩), (.inl ⟨_, rfl, rfl⟩), trivial⟩ (parOk hpar rfl)⟩
         ·simp
         ·subst h70
          refine ⟨by rw [← hI0, strip_cons_eq], by simp only [List.length_cons] at hI1; omega, by omega⟩
        ·refine u_pickT rfl rfl rfl trivial ?_
         refine u_end (by kernel_rfl) ?_
         refine vw_condF rfl ?_
         refine vw_exit ?_
         refine iteP rfl ?_
         refine ⟨?_, ren [(3, 3), (4, 4), (5, 5), (902, 902), (903, 903)], mk_wk [(3, 3), (4, 4), (5, 5), (902, 902), (903, 903)] rfl rfl ⟨⟨_, rfl, (.ptr _ _ _ rfl (lookNe rfl))⟩, ⟨_, rfl, (.ptr _ _ _ rfl (lookNe rfl))⟩, ⟨_, rfl, (.ptr _ _ _ rfl (lookNe rfl))⟩, trivial⟩ ⟨⟨_, _, rfl, rfl, (subPL rfl)⟩, ⟨_, _, rfl, rfl, (subPL rfl)⟩, ⟨_, _, rfl, rfl, (.cons (subI (by rw [strip_cons_ne h70] at hI0; cases hI0; rfl)) (.cons (subS (by rw [strip_cons_ne h70] at hI0; cases hI0; rfl)) (.cons ((.lit _)) (.cons ((.lit _)) (.cons ((.lit _)) (.cons ((.row _ _ rfl (lookNe rfl))) (.cons ((.row _ _ rfl (lookNe rfl))) (.cons ((.lit _)) .nil))))))))⟩, (.inl ⟨_, rfl, rfl⟩), (.inl ⟨_, rfl, rfl⟩), trivial⟩ (parOk hpar rfl)⟩
         ·exact trivial
       ·simp [intCells_length] at h62; omega
     refine vw_meet (True) (⟨[(3, .ptr 3 0), (4, .ptr 4 0), (5, .ptr 5 0)], [(3, .box (chunkAV c)), (4, .box [.lit (.int .i64 0), .lit (.slice none 0 0), .lit (.int .i64 0), .lit (.int .i64 0), .lit (.int .i64 0), .lit (.slice none 0 0), .lit (.slice none 0 0), .lit (.bool false)]), (921, .row 77 6 (chunkCells (r.hold ++ [c]))), (5, .box [.lit (.int .i64 x1), .shr 1 (intCells e1), .lit (.int .i64 r.places.a), .lit (.int .i64 r.places.b), .lit (.int .i64 r.places.c), .row 921, .row 923, .lit (.bool true)]), (923, .row 48 2 (msgCells r.told))], 122⟩) ?_ (fun hA13 => ?_)
     ·refine vw_draw ?_
      refine u_fieldAddr rfl rfl rfl rfl rfl rfl trivial ?_
      refine u_load1 rfl rfl rfl rfl rfl rfl trivial ?_
      refine u_loadAll rfl rfl rfl rfl rfl rfl trivial ?_
      refine u_call rfl (c80 c (by have := MChunk.num ⟨hk, hc⟩; rw [this.2.2.1]; simp)) (.cons ((subP rfl)) .nil) rfl trivial ?_
      refine u_buildSlice 125 rfl rfl rfl rfl rfl rfl rfl rfl rfl rfl (notPar hpar rfl) rfl rfl trivial ?_
      refine u_append 126 rfl rfl rfl (srcRow rfl) rfl (notPar hpar rfl) rfl rfl rfl rfl rfl (by simp [cellsL, chunkCells_length]; omega) rfl trivial ?_
      refine u_fieldAddr rfl rfl rfl rfl rfl rfl trivial ?_
      refine u_store rfl rfl rfl rfl rfl rfl rfl trivial ?_
      refine u_end (by kernel_rfl) ?_
      refine ⟨?_, ren [(3, 3), (4, 4), (5, 5), (921, 126), (923, 903)], mk_wk [(3, 3), (4, 4), (5, 5), (921, 126), (923, 903)] rfl rfl ⟨⟨_, rfl, (.ptr _ _ _ rfl (lookNe rfl))⟩, ⟨_, rfl, (.ptr _ _ _ rfl (lookNe rfl))⟩, ⟨_, rfl, (.ptr _ _ _ rfl (lookNe rfl))⟩, trivial⟩ ⟨⟨_, _, rfl, rfl, (subPL rfl)⟩, ⟨_, _, rfl, rfl, (subPL rfl)⟩, (.inl ⟨_, rfl, rowEq rfl (by rw [chunkCells_app]; rfl)⟩), ⟨_, _, rfl, rfl, (.cons ((.lit _)) (.cons ((.shr _ _)) (.cons ((.lit _)) (.cons ((.lit _)) (.cons ((.lit _)) (.cons ((.row _ _ rfl (lookNe rfl))) (.cons ((.row _ _ rfl (lookNe rfl))) (.cons ((.lit _)) .nil))))))))⟩, (.inl ⟨_, rfl, rfl⟩), trivial⟩ (parOk hpar rfl)⟩
      ·exact trivial
     refine vw_seq ?_
     refine vw_seq ?_
     refine vw_region ?_
     refine u_callO [(921, 921), (5, 5), (923, 923)] [] [] rfl rfl (c150 x1 e1 r.places (r.hold ++ [c]) r.told (st3 hT0) (by simp; omega)) (inc_cons (k0 := 921) rfl (inc_cons (k0 := 5) rfl (inc_cons (k0 := 923) rfl inc_nil))) ⟨(.inl ⟨_, rfl, rfl⟩), ⟨_, _, rfl, rfl, (.cons ((.lit _)) (.cons ((.shr _ _)) (.cons ((.lit _)) (.cons ((.lit _)) (.cons ((.lit _)) (.cons ((.row _ _ rfl (lookNe rfl))) (.cons ((.row _ _ rfl (lookNe rfl))) (.cons ((.lit _)) .nil))))))))⟩, (.inl ⟨_, rfl, rfl⟩), trivial⟩ (.cons ((.ptr _ _ _ rfl (lookNe rfl))) .nil) rfl rfl (newPar hpar rfl) rfl trivial ?_
     refine u_assign rfl rfl trivial ?_
     refine u_end trivial ?_
     refine vw_block ?_
     refine vw_loopR (fun n_ E => ∃ (h : List Chunk) (p : Places) (T : List Msg), ((tellAll (h, p, T) = (h1, p1, T1)) ∧ (TaleOk (r.next + r.early.length + 1) (h, p, T))) ∧ n_ = h.length ∧ E = ⟨[(3, .ptr 3 0), (4, .ptr 4 0), (5, .ptr 5 0), (8, .lit (.int .i64 (idxP (readyB p) h)))], [(3, .box (chunkAV c)), (4, .box [.lit (.int .i64 0), .lit (.slice none 0 0), .lit (.int .i64 0), .lit (.int .i64 0), .lit (.int .i64 0), .lit (.slice none 0 0), .lit (.slice none 0 0), .lit (.bool false)]), (921, .row 77 6 (chunkCells h)), (5, .box [.lit (.int .i64 x1), .shr 1 (intCells e1), .lit (.int .i64 p.a), .lit (.int .i64 p.b), .lit (.int .i64 p.c), .row 921, .row 923, .lit (.bool true)]), (923, .row 48 2 (msgCells T))], 122⟩) (n0 := _) (E0 := _) (⟨(r.hold ++ [c]), r.places, r.told, by exact ⟨htl, hT0⟩, rfl, rfl⟩) (ren [(3, 3), (4, 4), (5, 5), (921, 921), (923, 923)]) (mk_wk [(3, 3), (4, 4), (5, 5), (921, 921), (923, 923)] rfl rfl ⟨⟨_, rfl, (.ptr _ _ _ rfl (lookNe rfl))⟩, ⟨_, rfl, (.ptr _ _ _ rfl (lookNe rfl))⟩, ⟨_, rfl, (.ptr _ _ _ rfl (lookNe rfl))⟩, ⟨_, rfl, (.lit _)⟩, trivial⟩ ⟨⟨_, _, rfl, rfl, (subPL rfl)⟩, ⟨_, _, rfl, rfl, (subPL rfl)⟩, (.inl ⟨_, rfl, rfl⟩), ⟨_, _, rfl, rfl, (.cons ((.lit _)) (.cons ((.shr _ _)) (.cons ((.lit _)) (.cons ((.lit _)) (.cons ((.lit _)) (.cons ((.row _ _ rfl (lookNe rfl))) (.cons ((.row _ _ rfl (lookNe rfl))) (.cons ((.lit _)) .nil))))))))⟩, (.inl ⟨_, rfl, rfl⟩), trivial⟩ (parOk hpar rfl)) (fun n_ E hR => ?_)
     obtain ⟨h, p, T, hI, rfl, rfl⟩ := hR
     obtain ⟨hI0, hI1⟩ := hI
     refine vw_seq ?_
     refine vw_seq ?_
     refine vw_region ?_
     refine u_move rfl rfl trivial ?_
     refine s_geq rfl rfl rfl trivial (fun h89 => ?_) (fun h89 => ?_)
     ·refine u_end trivial ?_
      refine vw_condT rfl ?_
      refine vw_skip ?_
      obtain ⟨k, hk1, hke, hk2, hk3⟩ := idxP_yes (p := readyB p) (l := h) (by omega)
      have hstep : tell1 (h, p, T) = some ((h.eraseIdx k), (p.bump h[k].stream), (T ++ [(h[k].stream, h[k].data)])) := tell1_at hk1 hk2 hk3
      have hT2 := taleOk_step hI1 hstep
      have hb : (T.length : Int) + h.length = (r.next + r.early.length + 1) := hI1.1
      have hpb : 0 ≤ p.a ∧ 0 ≤ p.b ∧ 0 ≤ p.c ∧ p.a + p.b + p.c = T.length := hI1.2.1
      have hb2 : ((T ++ [(h[k].stream, h[k].data)]).length : Int) + (h.eraseIdx k).length = (r.next + r.early.length + 1) := hT2.1
      refine vw_meet (True) (⟨[(3, .ptr 3 0), (4, .ptr 4 0), (5, .ptr 5 0)], [(3, .box (chunkAV c)), (4, .box [.lit (.int .i64 0), .lit (.slice none 0 0), .lit (.int .i64 0), .lit (.int .i64 0), .lit (.int .i64 0), .lit (.slice none 0 0), .lit (.slice none 0 0), .lit (.bool false)]), (921, .row 77 6 (chunkCells (h.eraseIdx k))), (5, .box [.lit (.int .i64 x1), .shr 1 (intCells e1), .lit (.int .i64 (p.bump h[k].stream).a), .lit (.int .i64 (p.bump h[k].stream).b), .lit (.int .i64 (p.bump h[k].stream).c), .row 921, .row 923, .lit (.bool true)]), (923, .row 48 2 (msgCells (T ++ [(h[k].stream, h[k].data)])))], 122⟩) ?_ (fun hA15 => ?_)
      ·refine vw_block ?_
       refine vw_seq ?_
       refine vw_region ?_
       refine u_fieldAddr rfl rfl rfl rfl rfl rfl trivial ?_
       refine u_load1 rfl rfl rfl rfl rfl rfl trivial ?_
       refine u_move rfl rfl trivial ?_
       refine u_indexR rfl rfl rfl rfl rfl rfl (i := k) hke (by rw [chunkCells_length]; exact hk1) rfl trivial ?_
       refine u_loadRowAll rfl rfl (chunkCells_get hk1) rfl rfl rfl rfl trivial ?_
       refine u_alloc 165 rfl rfl (notPar hpar rfl) rfl rfl trivial ?_
       refine u_storeAll rfl rfl rfl rfl rfl rfl rfl rfl trivial ?_
       refine u_end trivial ?_
       refine vw_seq ?_
       refine vw_region ?_
       refine u_fieldAddr rfl rfl rfl rfl rfl rfl trivial ?_
       refine u_load1 rfl rfl rfl rfl rfl rfl trivial ?_
       refine u_fieldAddr rfl rfl rfl rfl rfl rfl trivial ?_
       refine u_load1 rfl rfl rfl rfl rfl rfl trivial ?_
       refine u_fieldAddr rfl rfl rfl rfl rfl rfl trivial ?_
       refine u_load1 rfl rfl rfl rfl rfl rfl trivial ?_
       refine u_build rfl rfl rfl rfl rfl trivial ?_
       refine u_buildSlice 166 rfl rfl rfl rfl rfl rfl rfl rfl rfl rfl (notPar hpar rfl) rfl rfl trivial ?_
       refine u_append 167 rfl rfl rfl (srcRow rfl) rfl (notPar hpar rfl) rfl rfl rfl rfl rfl (by simp [cellsL, msgCells_length]; omega) rfl trivial ?_
       refine u_fieldAddr rfl rfl rfl rfl rfl rfl trivial ?_
       refine u_store rfl rfl rfl rfl rfl rfl rfl trivial ?_
       refine u_end trivial ?_
       refine vw_seq ?_
       rcases st3 hI1 h[k] (List.getElem_mem hk1) with hq | hq | hq
       ·refine vw_region ?_
        refine u_fieldAddr rfl rfl rfl rfl rfl rfl trivial ?_
        refine u_load1 rfl rfl rfl rfl rfl rfl trivial ?_
        refine u_fieldAddr rfl rfl rfl rfl rfl rfl trivial ?_
        refine u_indexA (i := 0) rfl rfl rfl rfl rfl (by exact hq) (by decide) rfl trivial ?_
        refine u_load1 rfl rfl rfl rfl rfl rfl trivial ?_
        refine u_add rfl rfl rfl (by unfold inI; omega) rfl trivial ?_
        refine u_fieldAddr rfl rfl rfl rfl rfl rfl trivial ?_
        refine u_indexA (i := 0) rfl rfl rfl rfl rfl (by exact hq) (by decide) rfl trivial ?_
        refine u_store rfl rfl rfl rfl rfl rfl rfl trivial ?_
        refine u_end trivial ?_
        refine vw_region ?_
        refine u_fieldAddr rfl rfl rfl rfl rfl rfl trivial ?_
        refine u_load1 rfl rfl rfl rfl rfl rfl trivial ?_
        refine u_move rfl rfl trivial ?_
        refine u_move rfl rfl trivial ?_
        refine u_add rfl rfl rfl (by rw [hke]; unfold inI; omega) rfl trivial ?_
        refine u_callO [(921, 921)] [] [921] rfl rfl (c151 h k hk1 (by omega)) (inc_cons (k0 := 921) rfl inc_nil) ⟨(.inl ⟨_, rfl, rfl⟩), trivial⟩ (.cons ((.row _ _ rfl (lookNe rfl))) (.cons (subI (by omega)) (.cons (subI (by omega)) .nil))) rfl rfl (newPar hpar rfl) rfl trivial ?_
        refine u_fieldAddr rfl rfl rfl rfl rfl rfl trivial ?_
        refine u_store rfl rfl rfl rfl rfl rfl rfl trivial ?_
        refine u_end trivial ?_
        refine ⟨?_, ren [(3, 3), (4, 4), (5, 5), (921, 922), (923, 167)], mk_wk [(3, 3), (4, 4), (5, 5), (921, 922), (923, 167)] rfl rfl ⟨⟨_, rfl, (.ptr _ _ _ rfl (lookNe rfl))⟩, ⟨_, rfl, (.ptr _ _ _ rfl (lookNe rfl))⟩, ⟨_, rfl, (.ptr _ _ _ rfl (lookNe rfl))⟩, trivial⟩ ⟨⟨_, _, rfl, rfl, (subPL rfl)⟩, ⟨_, _, rfl, rfl, (subPL rfl)⟩, (.inl ⟨_, rfl, rfl⟩), ⟨_, _, rfl, rfl, (.cons ((.lit _)) (.cons ((.shr _ _)) (.cons (subI (by first | (rw [hq]; rfl) | simp [Places.bump, hq])) (.cons (subI (by first | (rw [hq]; rfl) | simp [Places.bump, hq])) (.cons (subI (by first | (rw [hq]; rfl) | simp [Places.bump, hq])) (.cons ((.row _ _ rfl (lookNe rfl))) (.cons ((.row _ _ rfl (lookNe rfl))) (.cons ((.lit _)) .nil))))))))⟩, (.inl ⟨_, rfl, rowEq rfl (by rw [msgCells_app]; rfl)⟩), trivial⟩ (parOk hpar rfl)⟩
        ·exact trivial
       ·refine vw_region ?_
        refine u_fieldAddr rfl rfl rfl rfl rfl rfl trivial ?_
        refine u_load1 rfl rfl rfl rfl rfl rfl trivial ?_
        refine u_fieldAddr rfl rfl rfl rfl rfl rfl trivial ?_
        refine u_indexA (i := 1) rfl rfl rfl rfl rfl (by exact hq) (by decide) rfl trivial ?_
        refine u_load1 rfl rfl rfl rfl rfl rfl trivial ?_
        refine u_add rfl rfl rfl (by unfold inI; omega) rfl trivial ?_
        refine u_fieldAddr rfl rfl rfl rfl rfl rfl trivial ?_
        refine u_indexA (i := 1) rfl rfl rfl rfl rfl (by exact hq) (by decide) rfl trivial ?_
        refine u_store rfl rfl rfl rfl rfl rfl rfl trivial ?_
        refine u_end trivial ?_
        refine vw_region ?_
        refine u_fieldAddr rfl rfl rfl rfl rfl rfl trivial ?_
        refine u_load1 rfl rfl rfl rfl rfl rfl trivial ?_
        refine u_move rfl rfl trivial ?_
        refine u_move rfl rfl trivial ?_
        refine u_add rfl rfl rfl (by rw [hke]; unfold inI; omega) rfl trivial ?_
        refine u_callO [(921, 921)] [] [921] rfl rfl (c151 h k hk1 (by omega)) (inc_cons (k0 := 921) rfl inc_nil) ⟨(.inl ⟨_, rfl, rfl⟩), trivial⟩ (.cons ((.row _ _ rfl (lookNe rfl))) (.cons (subI (by omega)) (.cons (subI (by omega)) .nil))) rfl rfl (newPar hpar rfl) rfl trivial ?_
        refine u_fieldAddr rfl rfl rfl rfl rfl rfl trivial ?_
        refine u_store rfl rfl rfl rfl rfl rfl rfl trivial ?_
        refine u_end trivial ?_
        refine ⟨?_, ren [(3, 3), (4, 4), (5, 5), (921, 922), (923, 167)], mk_wk [(3, 3), (4, 4), (5, 5), (921, 922), (923, 167)] rfl rfl ⟨⟨_, rfl, (.ptr _ _ _ rfl (lookNe rfl))⟩, ⟨_, rfl, (.ptr _ _ _ rfl (lookNe rfl))⟩, ⟨_, rfl, (.ptr _ _ _ rfl (lookNe rfl))⟩, trivial⟩ ⟨⟨_, _, rfl, rfl, (subPL rfl)⟩, ⟨_, _, rfl, rfl, (subPL rfl)⟩, (.inl ⟨_, rfl, rfl⟩), ⟨_, _, rfl, rfl, (.cons ((.lit _)) (.cons ((.shr _ _)) (.cons (subI (by first | (rw [hq]; rfl) | simp [Places.bump, hq])) (.cons (subI (by first | (rw [hq]; rfl) | simp [Places.bump, hq])) (.cons (subI (by first | (rw [hq]; rfl) | simp [Places.bump, hq])) (.cons ((.row _ _ rfl (lookNe rfl))) (.cons ((.row _ _ rfl (lookNe rfl))) (.cons ((.lit _)) .nil))))))))⟩, (.inl ⟨_, rfl, rowEq rfl (by rw [msgCells_app]; rfl)⟩), trivial⟩ (parOk hpar rfl)⟩
        ·exact trivial
       ·refine vw_region ?_
        refine u_fieldAddr rfl rfl rfl rfl rfl rfl trivial ?_
        refine u_load1 rfl rfl rfl rfl rfl rfl trivial ?_
        refine u_fieldAddr rfl rfl rfl rfl rfl rfl trivial ?_
        refine u_indexA (i := 2) rfl rfl rfl rfl rfl (by exact hq) (by decide) rfl trivial ?_
        refine u_load1 rfl rfl rfl rfl rfl rfl trivial ?_
        refine u_add rfl rfl rfl (by unfold inI; omega) rfl trivial ?_
        refine u_fieldAddr rfl rfl rfl rfl rfl rfl trivial ?_
        refine u_indexA (i := 2) rfl rfl rfl rfl rfl (by exact hq) (by decide) rfl trivial ?_
        refine u_store rfl rfl rfl rfl rfl rfl rfl trivial ?_
        refine u_end trivial ?_
        refine vw_region ?_
        refine u_fieldAddr rfl rfl rfl rfl rfl rfl trivial ?_
        refine u_load1 rfl rfl rfl rfl rfl rfl trivial ?_
        refine u_move rfl rfl trivial ?_
        refine u_move rfl rfl trivial ?_
        refine u_add rfl rfl rfl (by rw [hke]; unfold inI; omega) rfl trivial ?_
        refine u_callO [(921, 921)] [] [921] rfl rfl (c151 h k hk1 (by omega)) (inc_cons (k0 := 921) rfl inc_nil) ⟨(.inl ⟨_, rfl, rfl⟩), trivial⟩ (.cons ((.row _ _ rfl (lookNe rfl))) (.cons (subI (by omega)) (.cons (subI (by omega)) .nil))) rfl rfl (newPar hpar rfl) rfl trivial ?_
        refine u_fieldAddr rfl rfl rfl rfl rfl rfl trivial ?_
        refine u_store rfl rfl rfl rfl rfl rfl rfl trivial ?_
        refine u_end trivial ?_
        refine ⟨?_, ren [(3, 3), (4, 4), (5, 5), (921, 922), (923, 167)], mk_wk [(3, 3), (4, 4), (5, 5), (921, 922), (923, 167)] rfl rfl ⟨⟨_, rfl, (.ptr _ _ _ rfl (lookNe rfl))⟩, ⟨_, rfl, (.ptr _ _ _ rfl (lookNe rfl))⟩, ⟨_, rfl, (.ptr _ _ _ rfl (lookNe rfl))⟩, trivial⟩ ⟨⟨_, _, rfl, rfl, (subPL rfl)⟩, ⟨_, _, rfl, rfl, (subPL rfl)⟩, (.inl ⟨_, rfl, rfl⟩), ⟨_, _, rfl, rfl, (.cons ((.lit _)) (.cons ((.shr _ _)) (.cons (subI (by first | (rw [hq]; rfl) | simp [Places.bump, hq])) (.cons (subI (by first | (rw [hq]; rfl) | simp [Places.bump, hq])) (.cons (subI (by first | (rw [hq]; rfl) | simp [Places.bump, hq])) (.cons ((.row _ _ rfl (lookNe rfl))) (.cons ((.row _ _ rfl (lookNe rfl))) (.cons ((.lit _)) .nil))))))))⟩, (.inl ⟨_, rfl, rowEq rfl (by rw [msgCells_app]; rfl)⟩), trivial⟩ (parOk hpar rfl)⟩
        ·exact trivial
      refine vw_region ?_
      refine u_callO [(921, 921), (5, 5), (923, 923)] [] [] rfl rfl (c150 x1 e1 (p.bump h[k].stream) (h.eraseIdx k) (T ++ [(h[k].stream, h[k].data)]) (st3 hT2) (by omega)) (inc_cons (k0 := 921) rfl (inc_cons (k0 := 5) rfl (inc_cons (k0 := 923) rfl inc_nil))) ⟨(.inl ⟨_, rfl, rfl⟩), ⟨_, _, rfl, rfl, (.cons ((.lit _)) (.cons ((.shr _ _)) (.cons ((.lit _)) (.cons ((.lit _)) (.cons ((.lit _)) (.cons ((.row _ _ rfl (lookNe rfl))) (.cons ((.row _ _ rfl (lookNe rfl))) (.cons ((.lit _)) .nil))))))))⟩, (.inl ⟨_, rfl, rfl⟩), trivial⟩ (.cons ((.ptr _ _ _ rfl (lookNe rfl))) .nil) rfl rfl (newPar hpar rfl) rfl trivial ?_
      refine u_assign rfl rfl trivial ?_
      refine u_end trivial ?_
      refine ⟨_, _, ren [(3, 3), (4, 4), (5, 5), (921, 921), (923, 923)], ?_, ⟨(h.eraseIdx k), (p.bump h[k].stream), (T ++ [(h[k].stream, h[k].data)]), ?_, rfl, rfl⟩, mk_wk [(3, 3), (4, 4), (5, 5), (921, 921), (923, 923)] rfl rfl ⟨⟨_, rfl, (.ptr _ _ _ rfl (lookNe rfl))⟩, ⟨_, rfl, (.ptr _ _ _ rfl (lookNe rfl))⟩, ⟨_, rfl, (.ptr _ _ _ rfl (lookNe rfl))⟩, ⟨_, rfl, (.lit _)⟩, trivial⟩ ⟨⟨_, _, rfl, rfl, (subPL rfl)⟩, ⟨_, _, rfl, rfl, (subPL rfl)⟩, (.inl ⟨_, rfl, rfl⟩), ⟨_, _, rfl, rfl, (.cons ((.lit _)) (.cons ((.shr _ _)) (.cons ((.lit _)) (.cons ((.lit _)) (.cons ((.lit _)) (.cons ((.row _ _ rfl (lookNe rfl))) (.cons ((.row _ _ rfl (lookNe rfl))) (.cons ((.lit _)) .nil))))))))⟩, (.inl ⟨_, rfl, rfl⟩), trivial⟩ (parOk hpar rfl)⟩
      ·rw [List.length_eraseIdx, if_pos hk1]; omega
      ·exact ⟨by rw [← hI0]; exact (tellAll_step hstep).symm, hT2⟩
     ·refine u_end trivial ?_
      refine vw_condF rfl ?_
      refine vw_exit ?_
      refine iteP rfl ?_
      refine vw_seq ?_
      refine vw_region ?_
      refine u_loadAll rfl rfl rfl rfl rfl rfl trivial ?_
      refine u_storeAll rfl rfl rfl rfl rfl rfl rfl rfl trivial ?_
      refine u_end trivial ?_
      refine vw_ret ?_
      rw [tellAll_none (tell1_no (idx_none (by omega)))] at hI0
      cases hI0
      rw [rhear_takes hk hnr hst htl]
      refine fin' [] (.inr rfl) (.cons (.cellN rfl rfl rfl rfl rfl) .nil) (mk_wk [] rfl rfl ⟨⟨_, rfl, (.agg _ _ (.cons (subI ?_) (.cons (subS ?_) (.cons (subI ?_) (.cons (subI ?_) (.cons (subI ?_) (.cons (subFz rfl (fzL rfl) ?_) (.cons (subFz rfl (fzL rfl) ?_) (.cons (subB ?_) .nil)))))))))⟩, trivial⟩ trivial (parOk rfl rfl))
      all_goals (try rfl)
end Go.Proofs.Ytaadloihphpdbaa
