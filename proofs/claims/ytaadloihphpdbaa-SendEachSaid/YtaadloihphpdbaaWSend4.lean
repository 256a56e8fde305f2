/- Walks of the laws of chapter 5. Printed by a small program (walk.py). -/
import Derived.Test.YtaadloihphpdbaaWSend3
import Derived.Test.YtaadloihphpdbaaPSend
import Derived.Test.YtaadloihphpdbaaWChunk4
set_option linter.unusedVariables false
set_option linter.unusedSimpArgs false
set_option maxRecDepth 4000
namespace Go.Proofs.Ytaadloihphpdbaa
open Go Go.Vc Go.RowKit
theorem SInv.ok {s : Sender} (h : SInv s) : SOk s := by
  have h1 := h.q; have h2 := h.f; have h3 := h.t; have h4 := h.n; have h5 := h.nq; have h6 := h.p
  refine ⟨by omega, by omega, fun c hc => ?_, fun m hm => ?_, by omega, by omega, by omega⟩
  · have := wrong_small (h.c c hc).1
    omega
  · have := (rightMsg (h.m m hm)).1
    omega
theorem msgCells_get' {l : List Msg} {i : Nat} {x : Msg} (h : l[i]? = some x) : (msgCells l)[i]? = some (msgAV x) := by simp [msgCells, h]
theorem c95' (s : Sender) (hs : SInv s) : VFun G 95 [.agg (senderAV s)] [] (.tup [.agg (senderAV (say s).1), .agg (chunkAV (say s).2.1), .lit (.bool (say s).2.2)]) [] := by
  obtain ⟨q, n, ⟨a, b, c⟩, f, t⟩ := s; exact c95 q n a b c f t hs.ok
theorem c96' (s : Sender) (hs : SInv s) : VFun G 96 [.agg (senderAV s)] [] (.tup [.agg (senderAV (say s).1), .agg (chunkAV (say s).2.1), .lit (.bool (say s).2.2)]) [] := by
  obtain ⟨q, n, ⟨a, b, c⟩, f, t⟩ := s; exact c96 q n a b c f t hs.ok
theorem c92' (s : Sender) (m : Msg) (h : SInv s) : VFun G 92 [.agg (senderAV s), .agg (msgAV m)] [] (.tup [.agg (senderAV (put s m).1), .lit (.int .i64 (put s m).2)]) [] := c92 s m h.ok.q h.ok.n
theorem buildS_succ {ms : List Msg} {xs : List Int} {i : Nat} {m : Msg} (hm : ms[i]? = some m) : buildS ms xs (i + 1) = bstep (buildS ms xs i) m xs[i]? := by
  show bstep _ (ms.getD i (0, [])) _ = _
  rw [List.getD, hm]; rfl
theorem bs_none {ms : List Msg} {xs : List Int} {i : Nat} {m : Msg} (hm : ms[i]? = some m) (hx : xs[i]? = none) : (put (buildS ms xs i) m).1 = buildS ms xs (i + 1) := by rw [buildS_succ hm, hx]; rfl
theorem bs_neg {ms : List Msg} {xs : List Int} {i : Nat} {m : Msg} {x : Int} (hm : ms[i]? = some m) (hx : xs[i]? = some x) (h : x < 0) : (put (buildS ms xs i) m).1 = buildS ms xs (i + 1) := by
  rw [buildS_succ hm, hx]; show _ = bpick _ _; unfold bpick; rw [if_pos h]
theorem bs_say {ms : List Msg} {xs : List Int} {i j : Nat} {m : Msg} {x : Int} (hm : ms[i]? = some m) (hx : xs[i]? = some x) (h : ¬ x < 0) (h2 : x < 50) (hj : j = (x % 5).toNat) : sayN j (put (buildS ms xs i) m).1 = buildS ms xs (i + 1) := by
  rw [buildS_succ hm, hx, hj]; show _ = bpick _ _; unfold bpick; rw [if_neg h, if_pos h2]
theorem bs_hear {ms : List Msg} {xs : List Int} {i : Nat} {m : Msg} {x : Int} (hm : ms[i]? = some m) (hx : xs[i]? = some x) (h : ¬ x < 0) (h2 : ¬ x < 50) (h3 : x < 90) : hear (put (buildS ms xs i) m).1 ⟨2, x - 50, 0, 0, [], []⟩ = buildS ms xs (i + 1) := by
  rw [buildS_succ hm, hx]; show _ = bpick _ _; unfold bpick; rw [if_neg h, if_neg h2, if_pos h3]
theorem bs_else {ms : List Msg} {xs : List Int} {i : Nat} {m : Msg} {x : Int} (hm : ms[i]? = some m) (hx : xs[i]? = some x) (h : ¬ x < 0) (h2 : ¬ x < 50) (h3 : ¬ x < 90) : (put (buildS ms xs i) m).1 = buildS ms xs (i + 1) := by
  rw [buildS_succ hm, hx]; show _ = bpick _ _; unfold bpick; rw [if_neg h, if_neg h2, if_neg h3]
theorem any_take {p : Chunk → Bool} {l : List Chunk} {j : Nat} {x : Chunk} (h : l[j]? = some x) : (l.take (j + 1)).any p = ((l.take j).any p || p x) := by
  rw [List.take_add_one, h, List.any_append]; simp
theorem hear_len (s : Sender) (c : Chunk) : (hear s c).flight.length ≤ s.flight.length := by
  unfold hear
  split
  · exact Nat.le_refl _
  · exact List.length_filter_le _ _
theorem new_of {s : Sender} (hs : SInv s) (ho : (say s).2.2 = true) (hn : (say s).2.1.num = s.next) : ∃ m q, s.queue = m :: q ∧ wrongMsg m = 0 ∧ say s = sayNew s m q := by
  rcases said_how hs ho with h | ⟨_, h, _⟩
  · exact h
  · omega
theorem old_of {s : Sender} (hs : SInv s) (ho : (say s).2.2 = true) (hn : (say s).2.1.num ≠ s.next) : (say s).2.1 ∈ s.flight ∧ (say s).1.next = s.next ∧ (say s).1.flight = s.flight := by
  rcases said_how hs ho with ⟨m, q, _, _, e⟩ | ⟨h1, _, h2, h3, _⟩
  · rw [e] at hn; exact absurd rfl hn
  · exact ⟨h1, h2, h3⟩
theorem any_mem {x : Chunk} {l : List Chunk} (h : x ∈ l) : l.any (fun y => y == x) = true := List.any_eq_true.2 ⟨x, h, by simp⟩

theorem c90 (ms : List Msg) (xs : List Int) (hl : ms.length ≤ 100) : VFun G 90 [.shr 2 (msgCells ms), .shr 1 (intCells xs)] [] (.agg (senderAV (buildS ms xs ms.length))) [] := by
  refine VFun.intro (fn := Try.f90) rfl rfl (by kernel_rfl) (Nat.le_of_ble_eq_true rfl) fun Γ hpar => ?_
  refine vw_seq ?_
  refine vw_region ?_
  refine u_alloc 100 rfl rfl (notPar hpar rfl) rfl rfl trivial ?_
  refine u_end trivial ?_
  refine vw_seq ?_
  refine vw_region ?_
  refine u_alloc 101 rfl rfl (notPar hpar rfl) rfl rfl trivial ?_
  refine u_end trivial ?_
  refine vw_seq ?_
  refine vw_seq ?_
  refine vw_region ?_
  refine u_move rfl rfl trivial ?_
  refine u_len rfl rfl rfl trivial ?_
  refine u_move rfl rfl trivial ?_
  refine u_end trivial ?_
  refine vw_block ?_
  refine vw_loopR (fun n_ E => ∃ (i : Nat), ((i ≤ ms.length)) ∧ n_ = ms.length - i ∧ E = ⟨[(1, .shr 1 (intCells xs)), (4, .ptr 4 0), (5, .ptr 5 0), (9, .shr 2 (msgCells ms)), (10, .lit (.int .i64 (msgCells ms).length)), (11, .lit (.int .i64 i))], [(4, .box [.lit (.slice none 0 0), .lit (.int .i64 0), .lit (.int .i64 0), .lit (.int .i64 0), .lit (.int .i64 0), .lit (.slice none 0 0), .lit (.int .i64 0)]), (5, .box (senderAV (buildS ms xs i)))], 57⟩) (n0 := _) (E0 := _) (⟨0, by omega, rfl, rfl⟩) (ren [(4, 100), (5, 101)]) (mk_wk [(4, 100), (5, 101)] rfl rfl ⟨⟨_, rfl, (.shr _ _)⟩, ⟨_, rfl, (.ptr _ _ _ rfl (lookNe rfl))⟩, ⟨_, rfl, (.ptr _ _ _ rfl (lookNe rfl))⟩, ⟨_, rfl, (.shr _ _)⟩, ⟨_, rfl, (.lit _)⟩, ⟨_, rfl, (.lit _)⟩, trivial⟩ ⟨⟨_, _, rfl, rfl, (.cons ((.lit _)) (.cons ((.lit _)) (.cons ((.lit _)) (.cons ((.lit _)) (.cons ((.lit _)) (.cons ((.lit _)) (.cons ((.lit _)) .nil)))))))⟩, ⟨_, _, rfl, rfl, (.cons (.nilshr _) (.cons ((.lit _)) (.cons ((.lit _)) (.cons ((.lit _)) (.cons ((.lit _)) (.cons (.nilshr _) (.cons ((.lit _)) .nil)))))))⟩, trivial⟩ (parOk hpar rfl)) (fun n_ E hR => ?_)
  obtain ⟨i, hI, rfl, rfl⟩ := hR
  have hI0 := hI
  refine vw_seq ?_
  refine vw_region ?_
  refine s_lss rfl rfl rfl trivial (fun h12 => ?_) (fun h12 => ?_)
  · refine u_end trivial ?_
    refine vw_seq ?_
    refine vw_condT rfl ?_
    refine vw_skip ?_
    refine vw_seq ?_
    refine vw_block ?_
    refine vw_seq ?_
    rw [msgCells_length] at h12
    obtain ⟨m, hm⟩ : ∃ m, ms[i]? = some m := ⟨_, List.getElem?_eq_getElem (by omega)⟩
    refine vw_region ?_
    refine u_move rfl rfl trivial ?_
    refine u_indexS rfl rfl rfl rfl rfl rfl (msgCells_get' hm) rfl trivial ?_
    refine u_loadSAll rfl rfl rfl rfl rfl trivial ?_
    refine u_alloc 122 rfl rfl (notPar hpar rfl) rfl rfl trivial ?_
    refine u_assign rfl rfl trivial ?_
    refine u_storeAll rfl rfl rfl rfl rfl rfl rfl rfl trivial ?_
    refine u_end trivial ?_
    refine vw_seq ?_
    refine vw_region ?_
    refine u_loadAll rfl rfl rfl rfl rfl rfl trivial ?_
    refine u_loadAll rfl rfl rfl rfl rfl rfl trivial ?_
    refine u_call rfl (c92' (buildS ms xs i) m (sinv_build ms xs i)) (.cons ((.agg _ _ (.cons ((.shr _ _)) (.cons ((.lit _)) (.cons ((.lit _)) (.cons ((.lit _)) (.cons ((.lit _)) (.cons ((.shr _ _)) (.cons ((.lit _)) .nil))))))))) (.cons ((.agg _ _ (.cons ((.lit _)) (.cons ((.shr _ _)) .nil)))) .nil)) rfl trivial ?_
    refine u_move rfl rfl trivial ?_
    refine u_extract rfl rfl rfl trivial ?_
    refine u_extract rfl rfl rfl trivial ?_
    refine u_storeAll rfl rfl rfl rfl rfl rfl rfl rfl trivial ?_
    refine u_end trivial ?_
    refine vw_seq ?_
    refine vw_region ?_
    refine u_move rfl rfl trivial ?_
    refine u_move rfl rfl trivial ?_
    refine u_len rfl rfl rfl trivial ?_
    refine s_lss rfl rfl rfl trivial (fun h25 => ?_) (fun h25 => ?_)
    · refine u_end trivial ?_
      refine vw_condT rfl ?_
      refine vw_seq ?_
      rw [intCells_length] at h25
      obtain ⟨x, hx⟩ : ∃ x, xs[i]? = some x := ⟨_, List.getElem?_eq_getElem (by omega)⟩
      refine vw_region ?_
      refine u_move rfl rfl trivial ?_
      refine u_move rfl rfl trivial ?_
      refine u_indexS rfl rfl rfl rfl rfl rfl (intCells_get hx) rfl trivial ?_
      refine u_loadS1 rfl rfl rfl rfl rfl trivial ?_
      refine u_assign rfl rfl trivial ?_
      refine u_end trivial ?_
      refine vw_block ?_
      refine vw_seq ?_
      refine vw_region ?_
      refine u_move rfl rfl trivial ?_
      refine s_lss rfl rfl rfl trivial (fun h32 => ?_) (fun h32 => ?_)
      · refine u_assign rfl rfl trivial ?_
        refine u_end trivial ?_
        refine vw_condT rfl ?_
        refine vw_skip ?_
        refine vw_region ?_
        refine u_add rfl rfl rfl (by unfold inI; omega) rfl trivial ?_
        refine u_move rfl rfl trivial ?_
        refine u_end trivial ?_
        refine ⟨_, _, ren [(4, 4), (5, 5)], ?_, ⟨i + 1, ?_, rfl, rfl⟩, mk_wk [(4, 4), (5, 5)] rfl rfl ⟨⟨_, rfl, (.shr _ _)⟩, ⟨_, rfl, (.ptr _ _ _ rfl (lookNe rfl))⟩, ⟨_, rfl, (.ptr _ _ _ rfl (lookNe rfl))⟩, ⟨_, rfl, (.shr _ _)⟩, ⟨_, rfl, (.lit _)⟩, ⟨_, rfl, (.lit _)⟩, trivial⟩ ⟨⟨_, _, rfl, rfl, (.cons ((.lit _)) (.cons ((.lit _)) (.cons ((.lit _)) (.cons ((.lit _)) (.cons ((.lit _)) (.cons ((.lit _)) (.cons ((.lit _)) .nil)))))))⟩, ⟨_, _, rfl, rfl, (.cons (subS (by rw [bs_neg hm hx (by omega)])) (.cons (subI (by rw [bs_neg hm hx (by omega)])) (.cons (subI (by rw [bs_neg hm hx (by omega)])) (.cons (subI (by rw [bs_neg hm hx (by omega)])) (.cons (subI (by rw [bs_neg hm hx (by omega)])) (.cons (subS (by rw [bs_neg hm hx (by omega)])) (.cons (subI (by rw [bs_neg hm hx (by omega)])) .nil)))))))⟩, trivial⟩ (parOk hpar rfl)⟩
        · omega
        · omega
      · refine u_assign rfl rfl trivial ?_
        refine u_end trivial ?_
        refine vw_condF rfl ?_
        refine vw_seq ?_
        refine vw_region ?_
        refine u_move rfl rfl trivial ?_
        refine s_lss rfl rfl rfl trivial (fun h35 => ?_) (fun h35 => ?_)
        · refine u_assign rfl rfl trivial ?_
          refine u_end trivial ?_
          refine vw_condT rfl ?_
          refine vw_seq ?_
          refine vw_region ?_
          refine u_move rfl rfl trivial ?_
          refine u_remN rfl rfl (by omega) rfl trivial ?_
          refine u_move rfl rfl trivial ?_
          refine u_end trivial ?_
          refine vw_block ?_
          refine vw_loopR (fun n_ E => ∃ (j : Nat), ((j ≤ (x % 5).toNat)) ∧ n_ = (x % 5).toNat - j ∧ E = ⟨[(1, .shr 1 (intCells xs)), (4, .ptr 4 0), (5, .ptr 5 0), (9, .shr 2 (msgCells ms)), (10, .lit (.int .i64 (msgCells ms).length)), (11, .lit (.int .i64 i)), (37, .lit (.int .i64 (x % 5))), (38, .lit (.int .i64 j))], [(4, .box [.lit (.slice none 0 0), .lit (.int .i64 0), .lit (.int .i64 0), .lit (.int .i64 0), .lit (.int .i64 0), .lit (.slice none 0 0), .lit (.int .i64 0)]), (5, .box (senderAV (sayN j (put (buildS ms xs i) m).1)))], 57⟩) (n0 := _) (E0 := _) (⟨0, by omega, rfl, rfl⟩) (ren [(4, 4), (5, 5)]) (mk_wk [(4, 4), (5, 5)] rfl rfl ⟨⟨_, rfl, (.shr _ _)⟩, ⟨_, rfl, (.ptr _ _ _ rfl (lookNe rfl))⟩, ⟨_, rfl, (.ptr _ _ _ rfl (lookNe rfl))⟩, ⟨_, rfl, (.shr _ _)⟩, ⟨_, rfl, (.lit _)⟩, ⟨_, rfl, (.lit _)⟩, ⟨_, rfl, (.lit _)⟩, ⟨_, rfl, (.lit _)⟩, trivial⟩ ⟨⟨_, _, rfl, rfl, (.cons ((.lit _)) (.cons ((.lit _)) (.cons ((.lit _)) (.cons ((.lit _)) (.cons ((.lit _)) (.cons ((.lit _)) (.cons ((.lit _)) .nil)))))))⟩, ⟨_, _, rfl, rfl, (.cons ((.shr _ _)) (.cons ((.lit _)) (.cons ((.lit _)) (.cons ((.lit _)) (.cons ((.lit _)) (.cons ((.shr _ _)) (.cons ((.lit _)) .nil)))))))⟩, trivial⟩ (parOk hpar rfl)) (fun n_ E hR => ?_)
          obtain ⟨j, hI, rfl, rfl⟩ := hR
          have hI0 := hI
          refine vw_seq ?_
          refine vw_region ?_
          refine s_lss rfl rfl rfl trivial (fun h39 => ?_) (fun h39 => ?_)
          · refine u_end trivial ?_
            refine vw_seq ?_
            refine vw_condT rfl ?_
            refine vw_skip ?_
            refine vw_seq ?_
            refine vw_block ?_
            refine vw_region ?_
            refine u_loadAll rfl rfl rfl rfl rfl rfl trivial ?_
            refine u_call rfl (c96' (sayN j (put (buildS ms xs i) m).1) (sinv_sayN (sinv_put (sinv_build ms xs i) m) j)) (.cons ((.agg _ _ (.cons ((.shr _ _)) (.cons ((.lit _)) (.cons ((.lit _)) (.cons ((.lit _)) (.cons ((.lit _)) (.cons ((.shr _ _)) (.cons ((.lit _)) .nil))))))))) .nil) rfl trivial ?_
            refine u_move rfl rfl trivial ?_
            refine u_extract rfl rfl rfl trivial ?_
            refine u_extract rfl rfl rfl trivial ?_
            refine u_extract rfl rfl rfl trivial ?_
            refine u_storeAll rfl rfl rfl rfl rfl rfl rfl rfl trivial ?_
            refine u_end trivial ?_
            refine vw_region ?_
            refine u_add rfl rfl rfl (by unfold inI; omega) rfl trivial ?_
            refine u_move rfl rfl trivial ?_
            refine u_end trivial ?_
            refine ⟨_, _, ren [(4, 4), (5, 5)], ?_, ⟨j + 1, ?_, rfl, rfl⟩, mk_wk [(4, 4), (5, 5)] rfl rfl ⟨⟨_, rfl, (.shr _ _)⟩, ⟨_, rfl, (.ptr _ _ _ rfl (lookNe rfl))⟩, ⟨_, rfl, (.ptr _ _ _ rfl (lookNe rfl))⟩, ⟨_, rfl, (.shr _ _)⟩, ⟨_, rfl, (.lit _)⟩, ⟨_, rfl, (.lit _)⟩, ⟨_, rfl, (.lit _)⟩, ⟨_, rfl, (.lit _)⟩, trivial⟩ ⟨⟨_, _, rfl, rfl, (.cons ((.lit _)) (.cons ((.lit _)) (.cons ((.lit _)) (.cons ((.lit _)) (.cons ((.lit _)) (.cons ((.lit _)) (.cons ((.lit _)) .nil)))))))⟩, ⟨_, _, rfl, rfl, (.cons ((.shr _ _)) (.cons ((.lit _)) (.cons ((.lit _)) (.cons ((.lit _)) (.cons ((.lit _)) (.cons ((.shr _ _)) (.cons ((.lit _)) .nil)))))))⟩, trivial⟩ (parOk hpar rfl)⟩
            · omega
            · omega
          · refine u_end trivial ?_
            refine vw_seq ?_
            refine vw_condF rfl ?_
            refine vw_exit ?_
            refine iteP rfl ?_
            refine vw_region ?_
            refine u_add rfl rfl rfl (by unfold inI; omega) rfl trivial ?_
            refine u_move rfl rfl trivial ?_
            refine u_end trivial ?_
            refine ⟨_, _, ren [(4, 4), (5, 5)], ?_, ⟨i + 1, ?_, rfl, rfl⟩, mk_wk [(4, 4), (5, 5)] rfl rfl ⟨⟨_, rfl, (.shr _ _)⟩, ⟨_, rfl, (.ptr _ _ _ rfl (lookNe rfl))⟩, ⟨_, rfl, (.ptr _ _ _ rfl (lookNe rfl))⟩, ⟨_, rfl, (.shr _ _)⟩, ⟨_, rfl, (.lit _)⟩, ⟨_, rfl, (.lit _)⟩, trivial⟩ ⟨⟨_, _, rfl, rfl, (.cons ((.lit _)) (.cons ((.lit _)) (.cons ((.lit _)) (.cons ((.lit _)) (.cons ((.lit _)) (.cons ((.lit _)) (.cons ((.lit _)) .nil)))))))⟩, ⟨_, _, rfl, rfl, (.cons (subS (by rw [bs_say hm hx (by omega) (by omega) (by omega)])) (.cons (subI (by rw [bs_say hm hx (by omega) (by omega) (by omega)])) (.cons (subI (by rw [bs_say hm hx (by omega) (by omega) (by omega)])) (.cons (subI (by rw [bs_say hm hx (by omega) (by omega) (by omega)])) (.cons (subI (by rw [bs_say hm hx (by omega) (by omega) (by omega)])) (.cons (subS (by rw [bs_say hm hx (by omega) (by omega) (by omega)])) (.cons (subI (by rw [bs_say hm hx (by omega) (by omega) (by omega)])) .nil)))))))⟩, trivial⟩ (parOk hpar rfl)⟩
            · omega
            · omega
        · refine u_assign rfl rfl trivial ?_
          refine u_end trivial ?_
          refine vw_condF rfl ?_
          refine vw_seq ?_
          refine vw_region ?_
          refine u_move rfl rfl trivial ?_
          refine s_lss rfl rfl rfl trivial (fun h49 => ?_) (fun h49 => ?_)
          · refine u_assign rfl rfl trivial ?_
            refine u_end trivial ?_
            refine vw_condT rfl ?_
            refine vw_region ?_
            refine u_loadAll rfl rfl rfl rfl rfl rfl trivial ?_
            refine u_move rfl rfl trivial ?_
            refine u_sub rfl rfl rfl (by unfold inI; omega) rfl trivial ?_
            refine u_buildZ rfl rfl rfl (.same _ (.same _ (.same _ (.same _ (.see 1 (.see 1 .nil)))))) rfl rfl trivial ?_
            refine u_call rfl (c98 (put (buildS ms xs i) m).1 ⟨2, x - 50, 0, 0, [], []⟩ (sinv_put (sinv_build ms xs i) m).ok.f) (.cons ((.agg _ _ (.cons ((.shr _ _)) (.cons ((.lit _)) (.cons ((.lit _)) (.cons ((.lit _)) (.cons ((.lit _)) (.cons ((.shr _ _)) (.cons ((.lit _)) .nil))))))))) (.cons ((.agg _ _ (.cons ((.lit _)) (.cons ((.lit _)) (.cons ((.lit _)) (.cons ((.lit _)) (.cons ((.shr _ _)) (.cons ((.shr _ _)) .nil)))))))) .nil)) rfl trivial ?_
            refine u_storeAll rfl rfl rfl rfl rfl rfl rfl rfl trivial ?_
            refine u_end trivial ?_
            refine vw_region ?_
            refine u_add rfl rfl rfl (by unfold inI; omega) rfl trivial ?_
            refine u_move rfl rfl trivial ?_
            refine u_end trivial ?_
            refine ⟨_, _, ren [(4, 4), (5, 5)], ?_, ⟨i + 1, ?_, rfl, rfl⟩, mk_wk [(4, 4), (5, 5)] rfl rfl ⟨⟨_, rfl, (.shr _ _)⟩, ⟨_, rfl, (.ptr _ _ _ rfl (lookNe rfl))⟩, ⟨_, rfl, (.ptr _ _ _ rfl (lookNe rfl))⟩, ⟨_, rfl, (.shr _ _)⟩, ⟨_, rfl, (.lit _)⟩, ⟨_, rfl, (.lit _)⟩, trivial⟩ ⟨⟨_, _, rfl, rfl, (.cons ((.lit _)) (.cons ((.lit _)) (.cons ((.lit _)) (.cons ((.lit _)) (.cons ((.lit _)) (.cons ((.lit _)) (.cons ((.lit _)) .nil)))))))⟩, ⟨_, _, rfl, rfl, (.cons (subS (by rw [bs_hear hm hx (by omega) (by omega) (by omega)])) (.cons (subI (by rw [bs_hear hm hx (by omega) (by omega) (by omega)])) (.cons (subI (by rw [bs_hear hm hx (by omega) (by omega) (by omega)])) (.cons (subI (by rw [bs_hear hm hx (by omega) (by omega) (by omega)])) (.cons (subI (by rw [bs_hear hm hx (by omega) (by omega) (by omega)])) (.cons (subS (by rw [bs_hear hm hx (by omega) (by omega) (by omega)])) (.cons (subI (by rw [bs_hear hm hx (by omega) (by omega) (by omega)])) .nil)))))))⟩, trivial⟩ (parOk hpar rfl)⟩
            · omega
            · omega
          · refine u_assign rfl rfl trivial ?_
            refine u_end trivial ?_
            refine vw_condF rfl ?_
            refine vw_skip ?_
            refine vw_region ?_
            refine u_add rfl rfl rfl (by unfold inI; omega) rfl trivial ?_
            refine u_move rfl rfl trivial ?_
            refine u_end trivial ?_
            refine ⟨_, _, ren [(4, 4), (5, 5)], ?_, ⟨i + 1, ?_, rfl, rfl⟩, mk_wk [(4, 4), (5, 5)] rfl rfl ⟨⟨_, rfl, (.shr _ _)⟩, ⟨_, rfl, (.ptr _ _ _ rfl (lookNe rfl))⟩, ⟨_, rfl, (.ptr _ _ _ rfl (lookNe rfl))⟩, ⟨_, rfl, (.shr _ _)⟩, ⟨_, rfl, (.lit _)⟩, ⟨_, rfl, (.lit _)⟩, trivial⟩ ⟨⟨_, _, rfl, rfl, (.cons ((.lit _)) (.cons ((.lit _)) (.cons ((.lit _)) (.cons ((.lit _)) (.cons ((.lit _)) (.cons ((.lit _)) (.cons ((.lit _)) .nil)))))))⟩, ⟨_, _, rfl, rfl, (.cons (subS (by rw [bs_else hm hx (by omega) (by omega) (by omega)])) (.cons (subI (by rw [bs_else hm hx (by omega) (by omega) (by omega)])) (.cons (subI (by rw [bs_else hm hx (by omega) (by omega) (by omega)])) (.cons (subI (by rw [bs_else hm hx (by omega) (by omega) (by omega)])) (.cons (subI (by rw [bs_else hm hx (by omega) (by omega) (by omega)])) (.cons (subS (by rw [bs_else hm hx (by omega) (by omega) (by omega)])) (.cons (subI (by rw [bs_else hm hx (by omega) (by omega) (by omega)])) .nil)))))))⟩, trivial⟩ (parOk hpar rfl)⟩
            · omega
            · omega
    · refine u_end trivial ?_
      refine vw_condF rfl ?_
      refine vw_skip ?_
      refine vw_region ?_
      refine u_add rfl rfl rfl (by unfold inI; omega) rfl trivial ?_
      refine u_move rfl rfl trivial ?_
      refine u_end trivial ?_
      refine ⟨_, _, ren [(4, 4), (5, 5)], ?_, ⟨i + 1, ?_, rfl, rfl⟩, mk_wk [(4, 4), (5, 5)] rfl rfl ⟨⟨_, rfl, (.shr _ _)⟩, ⟨_, rfl, (.ptr _ _ _ rfl (lookNe rfl))⟩, ⟨_, rfl, (.ptr _ _ _ rfl (lookNe rfl))⟩, ⟨_, rfl, (.shr _ _)⟩, ⟨_, rfl, (.lit _)⟩, ⟨_, rfl, (.lit _)⟩, trivial⟩ ⟨⟨_, _, rfl, rfl, (.cons ((.lit _)) (.cons ((.lit _)) (.cons ((.lit _)) (.cons ((.lit _)) (.cons ((.lit _)) (.cons ((.lit _)) (.cons ((.lit _)) .nil)))))))⟩, ⟨_, _, rfl, rfl, (.cons (subS (by rw [bs_none hm (List.getElem?_eq_none (by rw [intCells_length] at h25; omega))])) (.cons (subI (by rw [bs_none hm (List.getElem?_eq_none (by rw [intCells_length] at h25; omega))])) (.cons (subI (by rw [bs_none hm (List.getElem?_eq_none (by rw [intCells_length] at h25; omega))])) (.cons (subI (by rw [bs_none hm (List.getElem?_eq_none (by rw [intCells_length] at h25; omega))])) (.cons (subI (by rw [bs_none hm (List.getElem?_eq_none (by rw [intCells_length] at h25; omega))])) (.cons (subS (by rw [bs_none hm (List.getElem?_eq_none (by rw [intCells_length] at h25; omega))])) (.cons (subI (by rw [bs_none hm (List.getElem?_eq_none (by rw [intCells_length] at h25; omega))])) .nil)))))))⟩, trivial⟩ (parOk hpar rfl)⟩
      · omega
      · omega
  · refine u_end trivial ?_
    refine vw_seq ?_
    refine vw_condF rfl ?_
    refine vw_exit ?_
    refine iteP rfl ?_
    refine vw_seq ?_
    rw [msgCells_length] at h12
    obtain rfl : i = ms.length := by omega
    refine vw_region ?_
    refine u_loadAll rfl rfl rfl rfl rfl rfl trivial ?_
    refine u_storeAll rfl rfl rfl rfl rfl rfl rfl rfl trivial ?_
    refine u_end trivial ?_
    refine vw_ret ?_
    refine fin' [] (.inr rfl) (.cons (.cellN rfl rfl rfl rfl rfl) .nil) (mk_wk [] rfl rfl ⟨⟨_, rfl, (.agg _ _ (.cons (subS ?_) (.cons (subI ?_) (.cons (subI ?_) (.cons (subI ?_) (.cons (subI ?_) (.cons (subS ?_) (.cons (subI ?_) .nil))))))))⟩, trivial⟩ trivial (parOk rfl rfl))
    all_goals (try rfl)
theorem c100  : VFun G 100 [] [] (.lit (.bool true)) [] := by
  refine VFun.intro (fn := Try.f100) rfl rfl (by kernel_rfl) (Nat.le_of_ble_eq_true rfl) fun Γ hpar => ?_
  refine vw_seq ?_
  refine vw_region ?_
  refine u_assign rfl rfl trivial ?_
  refine u_end trivial ?_
  refine vw_seq ?_
  refine vw_region ?_
  refine u_buildZ rfl rfl rfl (.see 2 (.same _ (.same _ (.same _ (.same _ (.see 6 (.same _ .nil))))))) rfl rfl trivial ?_
  refine u_buildSlice 100 rfl rfl rfl rfl rfl rfl rfl rfl rfl rfl (notPar hpar rfl) rfl rfl trivial ?_
  refine u_mark rfl rfl (notPar hpar rfl) rfl rfl rfl trivial ?_
  refine u_build rfl rfl rfl rfl rfl trivial ?_
  refine u_call rfl (c91 sender0 (1, [97]) sinv0.ok) (.cons ((.agg _ _ (.cons ((.shr _ _)) (.cons ((.lit _)) (.cons ((.lit _)) (.cons ((.lit _)) (.cons ((.lit _)) (.cons ((.shr _ _)) (.cons ((.lit _)) .nil))))))))) (.cons ((.agg _ _ (.cons ((.lit _)) (.cons ((.shr _ _)) .nil)))) .nil)) rfl trivial ?_
  refine u_move rfl rfl trivial ?_
  refine u_extract rfl rfl rfl trivial ?_
  refine u_extract rfl rfl rfl trivial ?_
  refine u_alloc 101 rfl rfl (notPar hpar rfl) rfl rfl trivial ?_
  refine u_storeAll rfl rfl rfl rfl rfl rfl rfl rfl trivial ?_
  refine u_assign rfl rfl trivial ?_
  refine u_end trivial ?_
  refine vw_seq ?_
  refine vw_region ?_
  refine u_loadAll rfl rfl rfl rfl rfl rfl trivial ?_
  refine u_call rfl (c95' (put sender0 (1, [97])).1 (sinv_put sinv0 (1, [97]))) (.cons ((.agg _ _ (.cons ((.shr _ _)) (.cons ((.lit _)) (.cons ((.lit _)) (.cons ((.lit _)) (.cons ((.lit _)) (.cons ((.shr _ _)) (.cons ((.lit _)) .nil))))))))) .nil) rfl trivial ?_
  refine u_move rfl rfl trivial ?_
  refine u_extract rfl rfl rfl trivial ?_
  refine u_extract rfl rfl rfl trivial ?_
  refine u_extract rfl rfl rfl trivial ?_
  refine u_alloc 102 rfl rfl (notPar hpar rfl) rfl rfl trivial ?_
  refine u_alloc 103 rfl rfl (notPar hpar rfl) rfl rfl trivial ?_
  refine u_storeAll rfl rfl rfl rfl rfl rfl rfl rfl trivial ?_
  refine u_storeAll rfl rfl rfl rfl rfl rfl rfl rfl trivial ?_
  refine u_assign rfl rfl trivial ?_
  refine u_end trivial ?_
  refine vw_seq ?_
  refine vw_region ?_
  refine u_loadAll rfl rfl rfl rfl rfl rfl trivial ?_
  refine u_call rfl (c95' (say (put sender0 (1, [97])).1).1 (sinv_say (sinv_put sinv0 (1, [97])))) (.cons ((.agg _ _ (.cons ((.shr _ _)) (.cons ((.lit _)) (.cons ((.lit _)) (.cons ((.lit _)) (.cons ((.lit _)) (.cons ((.shr _ _)) (.cons ((.lit _)) .nil))))))))) .nil) rfl trivial ?_
  refine u_move rfl rfl trivial ?_
  refine u_extract rfl rfl rfl trivial ?_
  refine u_extract rfl rfl rfl trivial ?_
  refine u_extract rfl rfl rfl trivial ?_
  refine u_alloc 104 rfl rfl (notPar hpar rfl) rfl rfl trivial ?_
  refine u_alloc 105 rfl rfl (notPar hpar rfl) rfl rfl trivial ?_
  refine u_storeAll rfl rfl rfl rfl rfl rfl rfl rfl trivial ?_
  refine u_storeAll rfl rfl rfl rfl rfl rfl rfl rfl trivial ?_
  refine u_assign rfl rfl trivial ?_
  refine u_end trivial ?_
  refine vw_seq ?_
  refine vw_region ?_
  refine u_loadAll rfl rfl rfl rfl rfl rfl trivial ?_
  refine u_buildZ rfl rfl rfl (.same _ (.same _ (.same _ (.same _ (.see 1 (.see 1 .nil)))))) rfl rfl trivial ?_
  refine u_call rfl (c97 (say (say (put sender0 (1, [97])).1).1).1 ⟨2, 1, 0, 0, [], []⟩ (sinv_say (sinv_say (sinv_put sinv0 (1, [97])))).ok) (.cons ((.agg _ _ (.cons ((.shr _ _)) (.cons ((.lit _)) (.cons ((.lit _)) (.cons ((.lit _)) (.cons ((.lit _)) (.cons ((.shr _ _)) (.cons ((.lit _)) .nil))))))))) (.cons ((.agg _ _ (.cons ((.lit _)) (.cons ((.lit _)) (.cons ((.lit _)) (.cons ((.lit _)) (.cons ((.shr _ _)) (.cons ((.shr _ _)) .nil)))))))) .nil)) rfl trivial ?_
  refine u_alloc 106 rfl rfl (notPar hpar rfl) rfl rfl trivial ?_
  refine u_storeAll rfl rfl rfl rfl rfl rfl rfl rfl trivial ?_
  refine u_end trivial ?_
  refine vw_seq ?_
  refine vw_region ?_
  refine u_move rfl rfl trivial ?_
  refine s_eql rfl rfl rfl trivial (fun h34 => ?_) (fun h34 => ?_)
  · refine u_move rfl rfl trivial ?_
    refine s_move rfl rfl ⟨_, _, rfl, rfl, rfl, rfl⟩ (fun h36 => ?_) (fun h36 => ?_)
    · refine u_pickT rfl rfl rfl trivial ?_
      refine u_move rfl rfl trivial ?_
      refine s_move rfl rfl ⟨_, _, rfl, rfl, rfl, rfl⟩ (fun h39 => ?_) (fun h39 => ?_)
      · refine u_pickT rfl rfl rfl trivial ?_
        refine u_move rfl rfl trivial ?_
        refine u_fieldAddr rfl rfl rfl rfl rfl rfl ⟨_, _, rfl, rfl, rfl, rfl⟩ ?_
        refine u_load1 rfl rfl rfl rfl rfl rfl ⟨_, _, rfl, rfl, rfl, rfl⟩ ?_
        refine s_eql rfl rfl rfl ⟨_, _, rfl, rfl, rfl, rfl⟩ (fun h44 => ?_) (fun h44 => ?_)
        · refine u_pickT rfl rfl rfl trivial ?_
          refine u_move rfl rfl trivial ?_
          refine u_loadAll rfl rfl rfl rfl rfl rfl ⟨_, _, rfl, rfl, rfl, rfl⟩ ?_
          refine u_loadAll rfl rfl rfl rfl rfl rfl ⟨_, _, rfl, rfl, rfl, rfl⟩ ?_
          refine s_call [] rfl (c79 (say (put sender0 (1, [97])).1).2.1 (say (say (put sender0 (1, [97])).1).1).2.1) (.cons ((.agg _ _ (.cons ((.lit _)) (.cons ((.lit _)) (.cons ((.lit _)) (.cons ((.lit _)) (.cons ((.shr _ _)) (.cons ((.shr _ _)) .nil)))))))) (.cons ((.agg _ _ (.cons ((.lit _)) (.cons ((.lit _)) (.cons ((.lit _)) (.cons ((.lit _)) (.cons ((.shr _ _)) (.cons ((.shr _ _)) .nil)))))))) .nil)) (fun k o h => by simp [Go.Vc.look] at h) rfl ⟨_, _, rfl, rfl, rfl, rfl⟩ (fun h49 => ?_) (fun h49 => ?_)
          · refine u_pickT rfl rfl rfl trivial ?_
            refine u_move rfl rfl trivial ?_
            refine u_fieldAddr rfl rfl rfl rfl rfl rfl ⟨_, _, rfl, rfl, rfl, rfl⟩ ?_
            refine u_load1 rfl rfl rfl rfl rfl rfl ⟨_, _, rfl, rfl, rfl, rfl⟩ ?_
            refine u_len rfl rfl rfl ⟨_, _, rfl, rfl, rfl, rfl⟩ ?_
            refine s_eql rfl rfl rfl ⟨_, _, rfl, rfl, rfl, rfl⟩ (fun h55 => ?_) (fun h55 => ?_)
            · refine u_pickT rfl rfl rfl trivial ?_
              refine u_move rfl rfl trivial ?_
              refine u_fieldAddr rfl rfl rfl rfl rfl rfl ⟨_, _, rfl, rfl, rfl, rfl⟩ ?_
              refine u_load1 rfl rfl rfl rfl rfl rfl ⟨_, _, rfl, rfl, rfl, rfl⟩ ?_
              refine u_len rfl rfl rfl ⟨_, _, rfl, rfl, rfl, rfl⟩ ?_
              refine s_eql rfl rfl rfl ⟨_, _, rfl, rfl, rfl, rfl⟩ (fun h61 => ?_) (fun h61 => ?_)
              · refine u_pickT rfl rfl rfl trivial ?_
                refine u_move rfl rfl trivial ?_
                refine u_loadAll rfl rfl rfl rfl rfl rfl ⟨_, _, rfl, rfl, rfl, rfl⟩ ?_
                refine u_callO [] [] [] rfl rfl (c94 (put sender0 (1, [97])).1 (sinv_put sinv0 (1, [97])).ok.q (sinv_put sinv0 (1, [97])).ok.f (sinv_put sinv0 (1, [97])).ok.e) inc_nil trivial (.cons ((.agg _ _ (.cons ((.shr _ _)) (.cons ((.lit _)) (.cons ((.lit _)) (.cons ((.lit _)) (.cons ((.lit _)) (.cons ((.shr _ _)) (.cons ((.lit _)) .nil))))))))) .nil) rfl rfl (newPar hpar rfl) rfl ⟨_, _, rfl, rfl, rfl, rfl⟩ ?_
                refine u_field1 rfl rfl rfl rfl rfl rfl rfl ⟨_, _, rfl, rfl, rfl, rfl⟩ ?_
                refine u_lenR rfl rfl rfl rfl ⟨_, _, rfl, rfl, rfl, rfl⟩ ?_
                refine u_eql rfl rfl rfl ⟨_, _, rfl, rfl, rfl, rfl⟩ ?_
                refine u_pickT rfl rfl rfl trivial ?_
                refine u_assign rfl rfl trivial ?_
                refine u_end trivial ?_
                refine vw_ret ?_
                refine fin0 (.inr rfl) (.cons (.tmp rfl (Nat.le_of_ble_eq_true rfl)) .nil) (subB ?_)
                · decide
              · exact absurd (by decide) h61
            · exact absurd (by decide) h55
          · exact absurd h49 (by decide)
        · exact absurd (by decide) h44
      · exact absurd h39 (by decide)
    · exact absurd h36 (by decide)
  · exact absurd (by decide) h34
theorem c21 (ms : List Msg) (xs : List Int) (m : Msg) (c : Chunk) : VFun G 21 [.shr 2 (msgCells ms), .shr 1 (intCells xs), .agg (msgAV m), .agg (chunkAV c)] [] (.lit (.bool true)) [] := by
  refine VFun.intro (fn := Try.f21) rfl rfl (by kernel_rfl) (Nat.le_of_ble_eq_true rfl) fun Γ hpar => ?_
  refine vw_seq ?_
  refine vw_region ?_
  refine u_box 100 rfl rfl rfl (notPar hpar rfl) rfl rfl trivial ?_
  refine u_box 101 rfl rfl rfl (notPar hpar rfl) rfl rfl trivial ?_
  refine u_assign rfl rfl trivial ?_
  refine u_end trivial ?_
  refine vw_seq ?_
  refine vw_seq ?_
  refine vw_region ?_
  refine u_move rfl rfl trivial ?_
  refine u_len rfl rfl rfl trivial ?_
  refine s_gtr rfl rfl rfl trivial (fun h20 => ?_) (fun h20 => ?_)
  · refine u_end trivial ?_
    refine vw_condT rfl ?_
    refine vw_seq ?_
    refine vw_region ?_
    refine u_assign rfl rfl trivial ?_
    refine u_end trivial ?_
    refine vw_ret ?_
    refine fin0 (.inr rfl) (.cons (.tmp rfl (Nat.le_of_ble_eq_true rfl)) .nil) (subB ?_)
    · first | rfl | simp
  · refine u_end trivial ?_
    refine vw_condF rfl ?_
    refine vw_skip ?_
    refine vw_seq ?_
    rw [msgCells_length] at h20
    refine vw_region ?_
    refine u_move rfl rfl trivial ?_
    refine u_move rfl rfl trivial ?_
    refine u_call rfl (c90 ms xs (by omega)) (.cons ((.shr _ _)) (.cons ((.shr _ _)) .nil)) rfl trivial ?_
    refine u_alloc 102 rfl rfl (notPar hpar rfl) rfl rfl trivial ?_
    refine u_storeAll rfl rfl rfl rfl rfl rfl rfl rfl trivial ?_
    refine u_end trivial ?_
    refine vw_seq ?_
    refine vw_region ?_
    refine u_loadAll rfl rfl rfl rfl rfl rfl trivial ?_
    refine u_loadAll rfl rfl rfl rfl rfl rfl trivial ?_
    refine u_call rfl (c91 (buildS ms xs ms.length) m (sinv_build ms xs ms.length).ok) (.cons ((.agg _ _ (.cons ((.shr _ _)) (.cons ((.lit _)) (.cons ((.lit _)) (.cons ((.lit _)) (.cons ((.lit _)) (.cons ((.shr _ _)) (.cons ((.lit _)) .nil))))))))) (.cons ((.agg _ _ (.cons ((.lit _)) (.cons ((.shr _ _)) .nil)))) .nil)) rfl trivial ?_
    refine u_move rfl rfl trivial ?_
    refine u_extract rfl rfl rfl trivial ?_
    refine u_extract rfl rfl rfl trivial ?_
    refine u_alloc 103 rfl rfl (notPar hpar rfl) rfl rfl trivial ?_
    refine u_storeAll rfl rfl rfl rfl rfl rfl rfl rfl trivial ?_
    refine u_assign rfl rfl trivial ?_
    refine u_end trivial ?_
    refine vw_seq ?_
    refine vw_region ?_
    refine u_loadAll rfl rfl rfl rfl rfl rfl trivial ?_
    refine u_loadAll rfl rfl rfl rfl rfl rfl trivial ?_
    refine u_call rfl (c92' (buildS ms xs ms.length) m (sinv_build ms xs ms.length)) (.cons ((.agg _ _ (.cons ((.shr _ _)) (.cons ((.lit _)) (.cons ((.lit _)) (.cons ((.lit _)) (.cons ((.lit _)) (.cons ((.shr _ _)) (.cons ((.lit _)) .nil))))))))) (.cons ((.agg _ _ (.cons ((.lit _)) (.cons ((.shr _ _)) .nil)))) .nil)) rfl trivial ?_
    refine u_move rfl rfl trivial ?_
    refine u_extract rfl rfl rfl trivial ?_
    refine u_extract rfl rfl rfl trivial ?_
    refine u_alloc 104 rfl rfl (notPar hpar rfl) rfl rfl trivial ?_
    refine u_storeAll rfl rfl rfl rfl rfl rfl rfl rfl trivial ?_
    refine u_assign rfl rfl trivial ?_
    refine u_end trivial ?_
    refine vw_seq ?_
    refine vw_seq ?_
    refine vw_draw ?_
    refine u_move rfl rfl trivial ?_
    refine u_move rfl rfl trivial ?_
    refine s_neq rfl rfl rfl trivial (fun h38 => ?_) (fun h38 => ?_)
    · exact absurd rfl h38
    · refine u_move rfl rfl trivial ?_
      refine u_loadAll rfl rfl rfl rfl rfl rfl ⟨_, _, rfl, rfl, rfl, rfl⟩ ?_
      refine u_loadAll rfl rfl rfl rfl rfl rfl ⟨_, _, rfl, rfl, rfl, rfl⟩ ?_
      refine s_call [] rfl (c93 (put (buildS ms xs ms.length) m).1 (put (buildS ms xs ms.length) m).1) (.cons ((.agg _ _ (.cons ((.shr _ _)) (.cons ((.lit _)) (.cons ((.lit _)) (.cons ((.lit _)) (.cons ((.lit _)) (.cons ((.shr _ _)) (.cons ((.lit _)) .nil))))))))) (.cons ((.agg _ _ (.cons ((.shr _ _)) (.cons ((.lit _)) (.cons ((.lit _)) (.cons ((.lit _)) (.cons ((.lit _)) (.cons ((.shr _ _)) (.cons ((.lit _)) .nil))))))))) .nil)) (fun k o h => by simp [Go.Vc.look] at h) rfl ⟨_, _, rfl, rfl, rfl, rfl⟩ (fun h42 => ?_) (fun h42 => ?_)
      · refine u_not rfl rfl ⟨_, _, rfl, rfl, rfl, rfl⟩ ?_
        refine u_pickF rfl rfl rfl trivial ?_
        refine u_move rfl rfl trivial ?_
        refine u_loadAll rfl rfl rfl rfl rfl rfl ⟨_, _, rfl, rfl, rfl, rfl⟩ ?_
        refine u_callO [] [] [] rfl rfl (c94 (buildS ms xs ms.length) (sinv_build ms xs ms.length).ok.q (sinv_build ms xs ms.length).ok.f (sinv_build ms xs ms.length).ok.e) inc_nil trivial (.cons ((.agg _ _ (.cons ((.shr _ _)) (.cons ((.lit _)) (.cons ((.lit _)) (.cons ((.lit _)) (.cons ((.lit _)) (.cons ((.shr _ _)) (.cons ((.lit _)) .nil))))))))) .nil) rfl rfl (newPar hpar rfl) rfl ⟨_, _, rfl, rfl, rfl, rfl⟩ ?_
        refine u_loadAll rfl rfl rfl rfl rfl rfl ⟨_, _, rfl, rfl, rfl, rfl⟩ ?_
        refine s_call [(901, _), (902, _)] rfl (c93 (buildS ms xs ms.length) (buildS ms xs ms.length)) (.cons ((.agg _ _ (.cons (.frz _ _ _ _ rfl (lookNe rfl)) (.cons ((.lit _)) (.cons ((.lit _)) (.cons ((.lit _)) (.cons ((.lit _)) (.cons (.frz _ _ _ _ rfl (lookNe rfl)) (.cons ((.lit _)) .nil))))))))) (.cons ((.agg _ _ (.cons ((.shr _ _)) (.cons ((.lit _)) (.cons ((.lit _)) (.cons ((.lit _)) (.cons ((.lit _)) (.cons ((.shr _ _)) (.cons ((.lit _)) .nil))))))))) .nil)) (sub2 rfl rfl) rfl ⟨_, _, rfl, rfl, rfl, rfl⟩ (fun h49 => ?_) (fun h49 => ?_)
        · refine u_not rfl rfl ⟨_, _, rfl, rfl, rfl, rfl⟩ ?_
          refine u_pickF rfl rfl rfl trivial ?_
          refine u_end (by kernel_rfl) ?_
          refine vw_condF rfl ?_
          refine vw_skip ?_
          refine vw_seq ?_
          refine vw_region ?_
          refine u_loadAll rfl rfl rfl rfl rfl rfl trivial ?_
          refine u_call rfl (c95' (buildS ms xs ms.length) (sinv_build ms xs ms.length)) (.cons ((.agg _ _ (.cons ((.shr _ _)) (.cons ((.lit _)) (.cons ((.lit _)) (.cons ((.lit _)) (.cons ((.lit _)) (.cons ((.shr _ _)) (.cons ((.lit _)) .nil))))))))) .nil) rfl trivial ?_
          refine u_move rfl rfl trivial ?_
          refine u_extract rfl rfl rfl trivial ?_
          refine u_extract rfl rfl rfl trivial ?_
          refine u_extract rfl rfl rfl trivial ?_
          refine u_alloc 105 rfl rfl (notPar hpar rfl) rfl rfl trivial ?_
          refine u_storeAll rfl rfl rfl rfl rfl rfl rfl rfl trivial ?_
          refine u_storeAll rfl rfl rfl rfl rfl rfl rfl rfl trivial ?_
          refine u_assign rfl rfl trivial ?_
          refine u_end trivial ?_
          refine vw_seq ?_
          refine vw_region ?_
          refine u_loadAll rfl rfl rfl rfl rfl rfl trivial ?_
          refine u_call rfl (c96' (buildS ms xs ms.length) (sinv_build ms xs ms.length)) (.cons ((.agg _ _ (.cons ((.shr _ _)) (.cons ((.lit _)) (.cons ((.lit _)) (.cons ((.lit _)) (.cons ((.lit _)) (.cons ((.shr _ _)) (.cons ((.lit _)) .nil))))))))) .nil) rfl trivial ?_
          refine u_move rfl rfl trivial ?_
          refine u_extract rfl rfl rfl trivial ?_
          refine u_extract rfl rfl rfl trivial ?_
          refine u_extract rfl rfl rfl trivial ?_
          refine u_alloc 106 rfl rfl (notPar hpar rfl) rfl rfl trivial ?_
          refine u_storeAll rfl rfl rfl rfl rfl rfl rfl rfl trivial ?_
          refine u_storeAll rfl rfl rfl rfl rfl rfl rfl rfl trivial ?_
          refine u_assign rfl rfl trivial ?_
          refine u_end trivial ?_
          refine vw_seq ?_
          refine vw_seq ?_
          refine vw_region ?_
          refine u_move rfl rfl trivial ?_
          refine u_move rfl rfl trivial ?_
          refine s_neqB rfl rfl rfl rfl trivial (fun h66 => ?_) (fun h66 => ?_)
          · exact absurd rfl h66
          · refine u_move rfl rfl trivial ?_
            refine u_loadAll rfl rfl rfl rfl rfl rfl ⟨_, _, rfl, rfl, rfl, rfl⟩ ?_
            refine u_loadAll rfl rfl rfl rfl rfl rfl ⟨_, _, rfl, rfl, rfl, rfl⟩ ?_
            refine s_call [] rfl (c79 (say (buildS ms xs ms.length)).2.1 (say (buildS ms xs ms.length)).2.1) (.cons ((.agg _ _ (.cons ((.lit _)) (.cons ((.lit _)) (.cons ((.lit _)) (.cons ((.lit _)) (.cons ((.shr _ _)) (.cons ((.shr _ _)) .nil)))))))) (.cons ((.agg _ _ (.cons ((.lit _)) (.cons ((.lit _)) (.cons ((.lit _)) (.cons ((.lit _)) (.cons ((.shr _ _)) (.cons ((.shr _ _)) .nil)))))))) .nil)) (fun k o h => by simp [Go.Vc.look] at h) rfl ⟨_, _, rfl, rfl, rfl, rfl⟩ (fun h70 => ?_) (fun h70 => ?_)
            · refine u_not rfl rfl ⟨_, _, rfl, rfl, rfl, rfl⟩ ?_
              refine u_pickF rfl rfl rfl trivial ?_
              refine u_move rfl rfl trivial ?_
              refine u_loadAll rfl rfl rfl rfl rfl rfl ⟨_, _, rfl, rfl, rfl, rfl⟩ ?_
              refine u_loadAll rfl rfl rfl rfl rfl rfl ⟨_, _, rfl, rfl, rfl, rfl⟩ ?_
              refine s_call [] rfl (c93 (say (buildS ms xs ms.length)).1 (say (buildS ms xs ms.length)).1) (.cons ((.agg _ _ (.cons ((.shr _ _)) (.cons ((.lit _)) (.cons ((.lit _)) (.cons ((.lit _)) (.cons ((.lit _)) (.cons ((.shr _ _)) (.cons ((.lit _)) .nil))))))))) (.cons ((.agg _ _ (.cons ((.shr _ _)) (.cons ((.lit _)) (.cons ((.lit _)) (.cons ((.lit _)) (.cons ((.lit _)) (.cons ((.shr _ _)) (.cons ((.lit _)) .nil))))))))) .nil)) (fun k o h => by simp [Go.Vc.look] at h) rfl ⟨_, _, rfl, rfl, rfl, rfl⟩ (fun h76 => ?_) (fun h76 => ?_)
              · refine u_not rfl rfl ⟨_, _, rfl, rfl, rfl, rfl⟩ ?_
                refine u_pickF rfl rfl rfl trivial ?_
                refine u_end trivial ?_
                refine vw_condF rfl ?_
                refine vw_skip ?_
                refine vw_seq ?_
                refine vw_draw ?_
                refine u_loadAll rfl rfl rfl rfl rfl rfl trivial ?_
                refine u_call rfl (c77 c) (.cons ((.agg _ _ (.cons ((.lit _)) (.cons ((.lit _)) (.cons ((.lit _)) (.cons ((.lit _)) (.cons ((.shr _ _)) (.cons ((.shr _ _)) .nil)))))))) .nil) rfl trivial ?_
                refine s_neq rfl rfl rfl trivial (fun h81 => ?_) (fun h81 => ?_)
                · refine u_move rfl rfl trivial ?_
                  refine u_skip rfl rfl rfl rfl rfl ?_
                  refine u_skip rfl rfl rfl rfl rfl ?_
                  refine u_skip rfl rfl rfl rfl rfl ?_
                  refine u_skip rfl rfl rfl rfl rfl ?_
                  refine u_skip rfl rfl rfl rfl rfl ?_
                  refine u_skip rfl rfl rfl rfl rfl ?_
                  refine u_skip rfl rfl rfl rfl rfl ?_
                  refine u_pickT rfl rfl rfl trivial ?_
                  refine u_assign rfl rfl trivial ?_
                  refine u_end (by kernel_rfl) ?_
                  refine vw_ret ?_
                  refine fin0 (.inr rfl) (.cons (.tmp rfl (Nat.le_of_ble_eq_true rfl)) .nil) (subB ?_)
                  · first | rfl | simp
                · refine u_move rfl rfl trivial ?_
                  refine u_loadAll rfl rfl rfl rfl rfl rfl ⟨_, _, rfl, rfl, rfl, rfl⟩ ?_
                  refine u_loadAll rfl rfl rfl rfl rfl rfl ⟨_, _, rfl, rfl, rfl, rfl⟩ ?_
                  refine u_call rfl (c97 (buildS ms xs ms.length) c (sinv_build ms xs ms.length).ok) (.cons ((.agg _ _ (.cons ((.shr _ _)) (.cons ((.lit _)) (.cons ((.lit _)) (.cons ((.lit _)) (.cons ((.lit _)) (.cons ((.shr _ _)) (.cons ((.lit _)) .nil))))))))) (.cons ((.agg _ _ (.cons ((.lit _)) (.cons ((.lit _)) (.cons ((.lit _)) (.cons ((.lit _)) (.cons ((.shr _ _)) (.cons ((.shr _ _)) .nil)))))))) .nil)) rfl ⟨_, _, rfl, rfl, rfl, rfl⟩ ?_
                  refine u_loadAll rfl rfl rfl rfl rfl rfl ⟨_, _, rfl, rfl, rfl, rfl⟩ ?_
                  refine u_loadAll rfl rfl rfl rfl rfl rfl ⟨_, _, rfl, rfl, rfl, rfl⟩ ?_
                  refine u_call rfl (c98 (buildS ms xs ms.length) c (sinv_build ms xs ms.length).ok.f) (.cons ((.agg _ _ (.cons ((.shr _ _)) (.cons ((.lit _)) (.cons ((.lit _)) (.cons ((.lit _)) (.cons ((.lit _)) (.cons ((.shr _ _)) (.cons ((.lit _)) .nil))))))))) (.cons ((.agg _ _ (.cons ((.lit _)) (.cons ((.lit _)) (.cons ((.lit _)) (.cons ((.lit _)) (.cons ((.shr _ _)) (.cons ((.shr _ _)) .nil)))))))) .nil)) rfl ⟨_, _, rfl, rfl, rfl, rfl⟩ ?_
                  refine u_call rfl (c93 (hear (buildS ms xs ms.length) c) (hear (buildS ms xs ms.length) c)) (.cons ((.agg _ _ (.cons ((.shr _ _)) (.cons ((.lit _)) (.cons ((.lit _)) (.cons ((.lit _)) (.cons ((.lit _)) (.cons ((.shr _ _)) (.cons ((.lit _)) .nil))))))))) (.cons ((.agg _ _ (.cons ((.shr _ _)) (.cons ((.lit _)) (.cons ((.lit _)) (.cons ((.lit _)) (.cons ((.lit _)) (.cons ((.shr _ _)) (.cons ((.lit _)) .nil))))))))) .nil)) rfl ⟨_, _, rfl, rfl, rfl, rfl⟩ ?_
                  refine u_pickF rfl rfl rfl trivial ?_
                  refine u_assign rfl rfl trivial ?_
                  refine u_end (by kernel_rfl) ?_
                  refine vw_ret ?_
                  refine fin0 (.inr rfl) (.cons (.tmp rfl (Nat.le_of_ble_eq_true rfl)) .nil) (subB ?_)
                  · first | rfl | simp
              · exact (same_no h76).elim
            · exact (same_no h70).elim
        · exact (same_no h49).elim
      · exact (same_no h42).elim
theorem c23 (ms : List Msg) (xs : List Int) (c : Chunk) (n : Int) (hl : c.early.length ≤ 17592186044000) : VFun G 23 [.shr 2 (msgCells ms), .shr 1 (intCells xs), .agg (chunkAV c), .lit (.int .i64 n)] [] (.lit (.bool true)) [] := by
  refine VFun.intro (fn := Try.f23) rfl rfl (by kernel_rfl) (Nat.le_of_ble_eq_true rfl) fun Γ hpar => ?_
  refine vw_seq ?_
  refine vw_region ?_
  refine u_box 100 rfl rfl rfl (notPar hpar rfl) rfl rfl trivial ?_
  refine u_assign rfl rfl trivial ?_
  refine u_end trivial ?_
  refine vw_seq ?_
  refine vw_seq ?_
  refine vw_region ?_
  refine u_call rfl (c100) .nil rfl trivial ?_
  refine u_not rfl rfl trivial ?_
  refine u_end trivial ?_
  refine vw_condF rfl ?_
  refine vw_skip ?_
  refine vw_seq ?_
  refine vw_seq ?_
  refine vw_region ?_
  refine u_move rfl rfl trivial ?_
  refine u_len rfl rfl rfl trivial ?_
  refine s_gtr rfl rfl rfl trivial (fun h22 => ?_) (fun h22 => ?_)
  · refine u_move rfl rfl trivial ?_
    refine u_skip rfl rfl rfl rfl rfl ?_
    refine u_skip rfl rfl rfl rfl rfl ?_
    refine u_pickT rfl rfl rfl trivial ?_
    refine u_move rfl rfl trivial ?_
    refine u_skip rfl rfl rfl rfl rfl ?_
    refine u_skip rfl rfl rfl rfl rfl ?_
    refine u_pickT rfl rfl rfl trivial ?_
    refine u_move rfl rfl trivial ?_
    refine u_skip rfl rfl rfl rfl rfl ?_
    refine u_skip rfl rfl rfl rfl rfl ?_
    refine u_skip rfl rfl rfl rfl rfl ?_
    refine u_pickT rfl rfl rfl trivial ?_
    refine u_move rfl rfl trivial ?_
    refine u_skip rfl rfl rfl rfl rfl ?_
    refine u_skip rfl rfl rfl rfl rfl ?_
    refine u_skip rfl rfl rfl rfl rfl ?_
    refine u_pickT rfl rfl rfl trivial ?_
    refine u_end trivial ?_
    refine vw_condT rfl ?_
    refine vw_seq ?_
    refine vw_region ?_
    refine u_assign rfl rfl trivial ?_
    refine u_end trivial ?_
    refine vw_ret ?_
    refine fin0 (.inr rfl) (.cons (.tmp rfl (Nat.le_of_ble_eq_true rfl)) .nil) (subB ?_)
    · rfl
  · refine u_move rfl rfl trivial ?_
    refine u_move rfl rfl ⟨_, _, rfl, rfl, rfl, rfl⟩ ?_
    refine s_lss rfl rfl rfl ⟨_, _, rfl, rfl, rfl, rfl⟩ (fun h25 => ?_) (fun h25 => ?_)
    · refine u_pickF rfl rfl rfl trivial ?_
      refine u_move rfl rfl trivial ?_
      refine u_skip rfl rfl rfl rfl rfl ?_
      refine u_skip rfl rfl rfl rfl rfl ?_
      refine u_pickT rfl rfl rfl trivial ?_
      refine u_move rfl rfl trivial ?_
      refine u_skip rfl rfl rfl rfl rfl ?_
      refine u_skip rfl rfl rfl rfl rfl ?_
      refine u_skip rfl rfl rfl rfl rfl ?_
      refine u_pickT rfl rfl rfl trivial ?_
      refine u_move rfl rfl trivial ?_
      refine u_skip rfl rfl rfl rfl rfl ?_
      refine u_skip rfl rfl rfl rfl rfl ?_
      refine u_skip rfl rfl rfl rfl rfl ?_
      refine u_pickT rfl rfl rfl trivial ?_
      refine u_end trivial ?_
      refine vw_condT rfl ?_
      refine vw_seq ?_
      refine vw_region ?_
      refine u_assign rfl rfl trivial ?_
      refine u_end trivial ?_
      refine vw_ret ?_
      refine fin0 (.inr rfl) (.cons (.tmp rfl (Nat.le_of_ble_eq_true rfl)) .nil) (subB ?_)
      · rfl
    · refine u_pickF rfl rfl rfl trivial ?_
      refine u_move rfl rfl trivial ?_
      refine u_move rfl rfl ⟨_, _, rfl, rfl, rfl, rfl⟩ ?_
      refine s_gtr rfl rfl rfl ⟨_, _, rfl, rfl, rfl, rfl⟩ (fun h29 => ?_) (fun h29 => ?_)
      · refine u_pickF rfl rfl rfl trivial ?_
        refine u_move rfl rfl trivial ?_
        refine u_skip rfl rfl rfl rfl rfl ?_
        refine u_skip rfl rfl rfl rfl rfl ?_
        refine u_skip rfl rfl rfl rfl rfl ?_
        refine u_pickT rfl rfl rfl trivial ?_
        refine u_move rfl rfl trivial ?_
        refine u_skip rfl rfl rfl rfl rfl ?_
        refine u_skip rfl rfl rfl rfl rfl ?_
        refine u_skip rfl rfl rfl rfl rfl ?_
        refine u_pickT rfl rfl rfl trivial ?_
        refine u_end trivial ?_
        refine vw_condT rfl ?_
        refine vw_seq ?_
        refine vw_region ?_
        refine u_assign rfl rfl trivial ?_
        refine u_end trivial ?_
        refine vw_ret ?_
        refine fin0 (.inr rfl) (.cons (.tmp rfl (Nat.le_of_ble_eq_true rfl)) .nil) (subB ?_)
        · rfl
      · refine u_pickF rfl rfl rfl trivial ?_
        refine u_move rfl rfl trivial ?_
        refine u_loadAll rfl rfl rfl rfl rfl rfl ⟨_, _, rfl, rfl, rfl, rfl⟩ ?_
        refine u_call rfl (c77 c) (.cons ((.agg _ _ (.cons ((.lit _)) (.cons ((.lit _)) (.cons ((.lit _)) (.cons ((.lit _)) (.cons ((.shr _ _)) (.cons ((.shr _ _)) .nil)))))))) .nil) rfl ⟨_, _, rfl, rfl, rfl, rfl⟩ ?_
        refine s_neq rfl rfl rfl ⟨_, _, rfl, rfl, rfl, rfl⟩ (fun h34 => ?_) (fun h34 => ?_)
        · refine u_pickF rfl rfl rfl trivial ?_
          refine u_move rfl rfl trivial ?_
          refine u_skip rfl rfl rfl rfl rfl ?_
          refine u_skip rfl rfl rfl rfl rfl ?_
          refine u_skip rfl rfl rfl rfl rfl ?_
          refine u_pickT rfl rfl rfl trivial ?_
          refine u_end trivial ?_
          refine vw_condT rfl ?_
          refine vw_seq ?_
          refine vw_region ?_
          refine u_assign rfl rfl trivial ?_
          refine u_end trivial ?_
          refine vw_ret ?_
          refine fin0 (.inr rfl) (.cons (.tmp rfl (Nat.le_of_ble_eq_true rfl)) .nil) (subB ?_)
          · rfl
        · refine u_pickF rfl rfl rfl trivial ?_
          refine u_move rfl rfl trivial ?_
          refine u_fieldAddr rfl rfl rfl rfl rfl rfl ⟨_, _, rfl, rfl, rfl, rfl⟩ ?_
          refine u_load1 rfl rfl rfl rfl rfl rfl ⟨_, _, rfl, rfl, rfl, rfl⟩ ?_
          refine s_neq rfl rfl rfl ⟨_, _, rfl, rfl, rfl, rfl⟩ (fun h39 => ?_) (fun h39 => ?_)
          · refine u_pickF rfl rfl rfl trivial ?_
            refine u_end trivial ?_
            refine vw_condT rfl ?_
            refine vw_seq ?_
            refine vw_region ?_
            refine u_assign rfl rfl trivial ?_
            refine u_end trivial ?_
            refine vw_ret ?_
            refine fin0 (.inr rfl) (.cons (.tmp rfl (Nat.le_of_ble_eq_true rfl)) .nil) (subB ?_)
            · rfl
          · refine u_pickF rfl rfl rfl trivial ?_
            refine u_end trivial ?_
            refine vw_condF rfl ?_
            refine vw_skip ?_
            refine vw_seq ?_
            simp only [msgCells_length] at h22
            refine vw_region ?_
            refine u_move rfl rfl trivial ?_
            refine u_move rfl rfl trivial ?_
            refine u_call rfl (c90 ms xs (by omega)) (.cons ((.shr _ _)) (.cons ((.shr _ _)) .nil)) rfl trivial ?_
            refine u_alloc 101 rfl rfl (notPar hpar rfl) rfl rfl trivial ?_
            refine u_storeAll rfl rfl rfl rfl rfl rfl rfl rfl trivial ?_
            refine u_end trivial ?_
            refine vw_seq ?_
            refine vw_region ?_
            refine u_loadAll rfl rfl rfl rfl rfl rfl trivial ?_
            refine u_loadAll rfl rfl rfl rfl rfl rfl trivial ?_
            refine u_call rfl (c97 (buildS ms xs ms.length) c (sinv_build ms xs ms.length).ok) (.cons ((.agg _ _ (.cons ((.shr _ _)) (.cons ((.lit _)) (.cons ((.lit _)) (.cons ((.lit _)) (.cons ((.lit _)) (.cons ((.shr _ _)) (.cons ((.lit _)) .nil))))))))) (.cons ((.agg _ _ (.cons ((.lit _)) (.cons ((.lit _)) (.cons ((.lit _)) (.cons ((.lit _)) (.cons ((.shr _ _)) (.cons ((.shr _ _)) .nil)))))))) .nil)) rfl trivial ?_
            refine u_alloc 102 rfl rfl (notPar hpar rfl) rfl rfl trivial ?_
            refine u_storeAll rfl rfl rfl rfl rfl rfl rfl rfl trivial ?_
            refine u_end trivial ?_
            refine vw_seq ?_
            refine vw_seq ?_
            refine vw_region ?_
            refine u_fieldAddr rfl rfl rfl rfl rfl rfl trivial ?_
            refine u_load1 rfl rfl rfl rfl rfl rfl trivial ?_
            refine u_fieldAddr rfl rfl rfl rfl rfl rfl trivial ?_
            refine u_load1 rfl rfl rfl rfl rfl rfl trivial ?_
            refine s_call [] rfl (c63 (hear (buildS ms xs ms.length) c).queue (buildS ms xs ms.length).queue) (.cons ((.shr _ _)) (.cons ((.shr _ _)) .nil)) (fun k o h => by simp [Go.Vc.look] at h) rfl trivial (fun h51 => ?_) (fun h51 => ?_)
            · refine u_not rfl rfl trivial ?_
              refine u_move rfl rfl trivial ?_
              refine u_fieldAddr rfl rfl rfl rfl rfl rfl ⟨_, _, rfl, rfl, rfl, rfl⟩ ?_
              refine u_load1 rfl rfl rfl rfl rfl rfl ⟨_, _, rfl, rfl, rfl, rfl⟩ ?_
              refine u_fieldAddr rfl rfl rfl rfl rfl rfl ⟨_, _, rfl, rfl, rfl, rfl⟩ ?_
              refine u_load1 rfl rfl rfl rfl rfl rfl ⟨_, _, rfl, rfl, rfl, rfl⟩ ?_
              refine s_neq rfl rfl rfl ⟨_, _, rfl, rfl, rfl, rfl⟩ (fun h58 => ?_) (fun h58 => ?_)
              · rw [hear_yes (by omega)] at h58; exact absurd rfl h58
              · refine u_pickF rfl rfl rfl trivial ?_
                refine u_move rfl rfl trivial ?_
                refine u_fieldAddr rfl rfl rfl rfl rfl rfl ⟨_, _, rfl, rfl, rfl, rfl⟩ ?_
                refine u_loadN rfl rfl rfl rfl rfl rfl rfl ⟨_, _, rfl, rfl, rfl, rfl⟩ ?_
                refine u_fieldAddr rfl rfl rfl rfl rfl rfl ⟨_, _, rfl, rfl, rfl, rfl⟩ ?_
                refine u_loadN rfl rfl rfl rfl rfl rfl rfl ⟨_, _, rfl, rfl, rfl, rfl⟩ ?_
                refine s_neqA rfl rfl rfl rfl rfl rfl ⟨_, _, rfl, rfl, rfl, rfl⟩ (fun h65 => ?_) (fun h65 => ?_)
                · rw [hear_yes (by omega)] at h65; simp at h65
                · refine u_pickF rfl rfl rfl trivial ?_
                  refine u_move rfl rfl trivial ?_
                  refine u_fieldAddr rfl rfl rfl rfl rfl rfl ⟨_, _, rfl, rfl, rfl, rfl⟩ ?_
                  refine u_load1 rfl rfl rfl rfl rfl rfl ⟨_, _, rfl, rfl, rfl, rfl⟩ ?_
                  refine u_len rfl rfl rfl ⟨_, _, rfl, rfl, rfl, rfl⟩ ?_
                  refine u_fieldAddr rfl rfl rfl rfl rfl rfl ⟨_, _, rfl, rfl, rfl, rfl⟩ ?_
                  refine u_load1 rfl rfl rfl rfl rfl rfl ⟨_, _, rfl, rfl, rfl, rfl⟩ ?_
                  refine u_len rfl rfl rfl ⟨_, _, rfl, rfl, rfl, rfl⟩ ?_
                  refine s_gtr rfl rfl rfl ⟨_, _, rfl, rfl, rfl, rfl⟩ (fun h74 => ?_) (fun h74 => ?_)
                  · exfalso; have := hear_len (buildS ms xs ms.length) c; (try simp only [msgCells_length, chunkCells_length, intCells_length, byteCells_length] at *); omega
                  · refine u_pickF rfl rfl rfl trivial ?_
                    refine u_end trivial ?_
                    refine vw_condF rfl ?_
                    refine vw_skip ?_
                    refine vw_seq ?_
                    refine vw_region ?_
                    refine u_fieldAddr rfl rfl rfl rfl rfl rfl trivial ?_
                    refine u_load1 rfl rfl rfl rfl rfl rfl trivial ?_
                    refine u_assign rfl rfl trivial ?_
                    refine u_end trivial ?_
                    refine vw_seq ?_
                    refine vw_seq ?_
                    refine vw_region ?_
                    refine u_move rfl rfl trivial ?_
                    refine u_move rfl rfl trivial ?_
                    refine u_end trivial ?_
                    refine vw_block ?_
                    refine vw_loopR (fun n_ E => ∃ (i : Nat), (((i : Int) ≤ n)) ∧ n_ = n.toNat - i ∧ E = ⟨[(6, .ptr 6 0), (10, .ptr 10 0), (11, .lit (.int .i64 (buildS ms xs ms.length).next)), (78, .lit (.int .i64 n)), (79, .lit (.int .i64 i))], [(6, .box (chunkAV c)), (10, .box (senderAV (sayN i (hear (buildS ms xs ms.length) c))))], 118⟩) (n0 := _) (E0 := _) (⟨0, by omega, rfl, rfl⟩) (ren [(6, 100), (10, 102)]) (mk_wk [(6, 100), (10, 102)] rfl rfl ⟨⟨_, rfl, (.ptr _ _ _ rfl (lookNe rfl))⟩, ⟨_, rfl, (.ptr _ _ _ rfl (lookNe rfl))⟩, ⟨_, rfl, (.lit _)⟩, ⟨_, rfl, (.lit _)⟩, ⟨_, rfl, (.lit _)⟩, trivial⟩ ⟨⟨_, _, rfl, rfl, (.cons ((.lit _)) (.cons ((.lit _)) (.cons ((.lit _)) (.cons ((.lit _)) (.cons ((.shr _ _)) (.cons ((.shr _ _)) .nil))))))⟩, ⟨_, _, rfl, rfl, (.cons ((.shr _ _)) (.cons ((.lit _)) (.cons ((.lit _)) (.cons ((.lit _)) (.cons ((.lit _)) (.cons ((.shr _ _)) (.cons ((.lit _)) .nil)))))))⟩, trivial⟩ (parOk hpar rfl)) (fun n_ E hR => ?_)
                    obtain ⟨i, hI, rfl, rfl⟩ := hR
                    have hI0 := hI
                    refine vw_seq ?_
                    refine vw_region ?_
                    refine s_lss rfl rfl rfl trivial (fun h80 => ?_) (fun h80 => ?_)
                    · refine u_end trivial ?_
                      refine vw_seq ?_
                      refine vw_condT rfl ?_
                      refine vw_skip ?_
                      refine vw_seq ?_
                      refine vw_block ?_
                      refine vw_seq ?_
                      refine vw_region ?_
                      refine u_loadAll rfl rfl rfl rfl rfl rfl trivial ?_
                      refine u_call rfl (c95' (sayN i (hear (buildS ms xs ms.length) c)) (sinv_sayN (sinv_hear (sinv_build ms xs ms.length) c) i)) (.cons ((.agg _ _ (.cons ((.shr _ _)) (.cons ((.lit _)) (.cons ((.lit _)) (.cons ((.lit _)) (.cons ((.lit _)) (.cons ((.shr _ _)) (.cons ((.lit _)) .nil))))))))) .nil) rfl trivial ?_
                      refine u_move rfl rfl trivial ?_
                      refine u_extract rfl rfl rfl trivial ?_
                      refine u_extract rfl rfl rfl trivial ?_
                      refine u_extract rfl rfl rfl trivial ?_
                      refine u_alloc 123 rfl rfl (notPar hpar rfl) rfl rfl trivial ?_
                      refine u_alloc 124 rfl rfl (notPar hpar rfl) rfl rfl trivial ?_
                      refine u_storeAll rfl rfl rfl rfl rfl rfl rfl rfl trivial ?_
                      refine u_storeAll rfl rfl rfl rfl rfl rfl rfl rfl trivial ?_
                      refine u_assign rfl rfl trivial ?_
                      refine u_end trivial ?_
                      refine vw_seq ?_
                      refine vw_seq ?_
                      refine vw_region ?_
                      refine s_move rfl rfl trivial (fun h87 => ?_) (fun h87 => ?_)
                      · refine u_not rfl rfl trivial ?_
                        refine u_end trivial ?_
                        refine vw_condF rfl ?_
                        refine vw_skip ?_
                        refine vw_seq ?_
                        refine vw_region ?_
                        refine u_fieldAddr rfl rfl rfl rfl rfl rfl trivial ?_
                        refine u_load1 rfl rfl rfl rfl rfl rfl trivial ?_
                        refine u_fieldAddr rfl rfl rfl rfl rfl rfl trivial ?_
                        refine u_load1 rfl rfl rfl rfl rfl rfl trivial ?_
                        refine u_lss rfl rfl rfl trivial ?_
                        refine u_assign rfl rfl trivial ?_
                        refine u_end trivial ?_
                        refine vw_seq ?_
                        refine vw_seq ?_
                        refine vw_region ?_
                        refine u_fieldAddr rfl rfl rfl rfl rfl rfl trivial ?_
                        refine u_load1 rfl rfl rfl rfl rfl rfl trivial ?_
                        refine u_len rfl rfl rfl trivial ?_
                        refine u_move rfl rfl trivial ?_
                        refine u_end trivial ?_
                        refine vw_block ?_
                        refine vw_loopR (fun n_ E => ∃ (j : Nat), ((j ≤ c.early.length)) ∧ n_ = c.early.length - j ∧ E = ⟨[(6, .ptr 6 0), (10, .ptr 10 0), (11, .lit (.int .i64 (buildS ms xs ms.length).next)), (12, .ptr 12 0), (13, .ptr 13 0), (15, .lit (.bool (decide ((say (sayN i (hear (buildS ms xs ms.length) c))).2.1.num < c.num) || (c.early.take j).contains (say (sayN i (hear (buildS ms xs ms.length) c))).2.1.num))), (78, .lit (.int .i64 n)), (79, .lit (.int .i64 i)), (95, .shr 1 (intCells c.early)), (96, .lit (.int .i64 (intCells c.early).length)), (97, .lit (.int .i64 j))], [(6, .box (chunkAV c)), (10, .box (senderAV (sayN i (hear (buildS ms xs ms.length) c)))), (12, .box (senderAV (say (sayN i (hear (buildS ms xs ms.length) c))).1)), (13, .box (chunkAV (say (sayN i (hear (buildS ms xs ms.length) c))).2.1))], 118⟩) (n0 := _) (E0 := _) (⟨0, by omega, rfl, rfl⟩) (ren [(6, 6), (10, 10), (12, 123), (13, 124)]) (mk_wk [(6, 6), (10, 10), (12, 123), (13, 124)] rfl rfl ⟨⟨_, rfl, (.ptr _ _ _ rfl (lookNe rfl))⟩, ⟨_, rfl, (.ptr _ _ _ rfl (lookNe rfl))⟩, ⟨_, rfl, (.lit _)⟩, ⟨_, rfl, (.ptr _ _ _ rfl (lookNe rfl))⟩, ⟨_, rfl, (.ptr _ _ _ rfl (lookNe rfl))⟩, ⟨_, rfl, (subB (by simp))⟩, ⟨_, rfl, (.lit _)⟩, ⟨_, rfl, (.lit _)⟩, ⟨_, rfl, (.shr _ _)⟩, ⟨_, rfl, (.lit _)⟩, ⟨_, rfl, (.lit _)⟩, trivial⟩ ⟨⟨_, _, rfl, rfl, (.cons ((.lit _)) (.cons ((.lit _)) (.cons ((.lit _)) (.cons ((.lit _)) (.cons ((.shr _ _)) (.cons ((.shr _ _)) .nil))))))⟩, ⟨_, _, rfl, rfl, (.cons ((.shr _ _)) (.cons ((.lit _)) (.cons ((.lit _)) (.cons ((.lit _)) (.cons ((.lit _)) (.cons ((.shr _ _)) (.cons ((.lit _)) .nil)))))))⟩, ⟨_, _, rfl, rfl, (.cons ((.shr _ _)) (.cons ((.lit _)) (.cons ((.lit _)) (.cons ((.lit _)) (.cons ((.lit _)) (.cons ((.shr _ _)) (.cons ((.lit _)) .nil)))))))⟩, ⟨_, _, rfl, rfl, (.cons ((.lit _)) (.cons ((.lit _)) (.cons ((.lit _)) (.cons ((.lit _)) (.cons ((.shr _ _)) (.cons ((.shr _ _)) .nil))))))⟩, trivial⟩ (parOk hpar rfl)) (fun n_ E hR => ?_)
                        obtain ⟨j, hI, rfl, rfl⟩ := hR
                        have hI0 := hI
                        refine vw_seq ?_
                        refine vw_region ?_
                        refine s_lss rfl rfl rfl trivial (fun h98 => ?_) (fun h98 => ?_)
                        · refine u_end trivial ?_
                          refine vw_seq ?_
                          refine vw_condT rfl ?_
                          refine vw_skip ?_
                          refine vw_seq ?_
                          refine vw_block ?_
                          refine vw_seq ?_
                          rw [intCells_length] at h98
                          obtain ⟨x, hx⟩ : ∃ x, c.early[j]? = some x := ⟨_, List.getElem?_eq_getElem (by omega)⟩
                          refine vw_region ?_
                          refine u_indexS rfl rfl rfl rfl rfl rfl (intCells_get hx) rfl trivial ?_
                          refine u_loadS1 rfl rfl rfl rfl rfl trivial ?_
                          refine u_assign rfl rfl trivial ?_
                          refine u_end trivial ?_
                          refine vw_region ?_
                          refine s_move rfl rfl trivial (fun h101 => ?_) (fun h101 => ?_)
                          · refine u_move rfl rfl trivial ?_
                            refine u_skip rfl rfl rfl rfl rfl ?_
                            refine u_skip rfl rfl rfl rfl rfl ?_
                            refine u_skip rfl rfl rfl rfl rfl ?_
                            refine u_skip rfl rfl rfl rfl rfl ?_
                            refine u_pickT rfl rfl rfl trivial ?_
                            refine u_assign rfl rfl trivial ?_
                            refine u_end trivial ?_
                            refine vw_region ?_
                            refine u_add rfl rfl rfl (by unfold inI; omega) rfl trivial ?_
                            refine u_move rfl rfl trivial ?_
                            refine u_end trivial ?_
                            refine ⟨_, _, ren [(6, 6), (10, 10), (12, 12), (13, 13)], ?_, ⟨j + 1, ?_, rfl, rfl⟩, mk_wk [(6, 6), (10, 10), (12, 12), (13, 13)] rfl rfl ⟨⟨_, rfl, (.ptr _ _ _ rfl (lookNe rfl))⟩, ⟨_, rfl, (.ptr _ _ _ rfl (lookNe rfl))⟩, ⟨_, rfl, (.lit _)⟩, ⟨_, rfl, (.ptr _ _ _ rfl (lookNe rfl))⟩, ⟨_, rfl, (.ptr _ _ _ rfl (lookNe rfl))⟩, ⟨_, rfl, (subB (by rw [contains_snoc hx, ← Bool.or_assoc, h101]; simp))⟩, ⟨_, rfl, (.lit _)⟩, ⟨_, rfl, (.lit _)⟩, ⟨_, rfl, (.shr _ _)⟩, ⟨_, rfl, (.lit _)⟩, ⟨_, rfl, (.lit _)⟩, trivial⟩ ⟨⟨_, _, rfl, rfl, (.cons ((.lit _)) (.cons ((.lit _)) (.cons ((.lit _)) (.cons ((.lit _)) (.cons ((.shr _ _)) (.cons ((.shr _ _)) .nil))))))⟩, ⟨_, _, rfl, rfl, (.cons ((.shr _ _)) (.cons ((.lit _)) (.cons ((.lit _)) (.cons ((.lit _)) (.cons ((.lit _)) (.cons ((.shr _ _)) (.cons ((.lit _)) .nil)))))))⟩, ⟨_, _, rfl, rfl, (.cons ((.shr _ _)) (.cons ((.lit _)) (.cons ((.lit _)) (.cons ((.lit _)) (.cons ((.lit _)) (.cons ((.shr _ _)) (.cons ((.lit _)) .nil)))))))⟩, ⟨_, _, rfl, rfl, (.cons ((.lit _)) (.cons ((.lit _)) (.cons ((.lit _)) (.cons ((.lit _)) (.cons ((.shr _ _)) (.cons ((.shr _ _)) .nil))))))⟩, trivial⟩ (parOk hpar rfl)⟩
                            · omega
                            · omega
                          · refine u_move rfl rfl trivial ?_
                            refine u_move rfl rfl ⟨_, _, rfl, rfl, rfl, rfl⟩ ?_
                            refine u_fieldAddr rfl rfl rfl rfl rfl rfl ⟨_, _, rfl, rfl, rfl, rfl⟩ ?_
                            refine u_load1 rfl rfl rfl rfl rfl rfl ⟨_, _, rfl, rfl, rfl, rfl⟩ ?_
                            refine u_eql rfl rfl rfl ⟨_, _, rfl, rfl, rfl, rfl⟩ ?_
                            refine u_pickF rfl rfl rfl trivial ?_
                            refine u_assign rfl rfl trivial ?_
                            refine u_end trivial ?_
                            refine vw_region ?_
                            refine u_add rfl rfl rfl (by unfold inI; omega) rfl trivial ?_
                            refine u_move rfl rfl trivial ?_
                            refine u_end trivial ?_
                            refine ⟨_, _, ren [(6, 6), (10, 10), (12, 12), (13, 13)], ?_, ⟨j + 1, ?_, rfl, rfl⟩, mk_wk [(6, 6), (10, 10), (12, 12), (13, 13)] rfl rfl ⟨⟨_, rfl, (.ptr _ _ _ rfl (lookNe rfl))⟩, ⟨_, rfl, (.ptr _ _ _ rfl (lookNe rfl))⟩, ⟨_, rfl, (.lit _)⟩, ⟨_, rfl, (.ptr _ _ _ rfl (lookNe rfl))⟩, ⟨_, rfl, (.ptr _ _ _ rfl (lookNe rfl))⟩, ⟨_, rfl, (subB (by rw [contains_snoc hx, ← Bool.or_assoc, h101]; simp))⟩, ⟨_, rfl, (.lit _)⟩, ⟨_, rfl, (.lit _)⟩, ⟨_, rfl, (.shr _ _)⟩, ⟨_, rfl, (.lit _)⟩, ⟨_, rfl, (.lit _)⟩, trivial⟩ ⟨⟨_, _, rfl, rfl, (.cons ((.lit _)) (.cons ((.lit _)) (.cons ((.lit _)) (.cons ((.lit _)) (.cons ((.shr _ _)) (.cons ((.shr _ _)) .nil))))))⟩, ⟨_, _, rfl, rfl, (.cons ((.shr _ _)) (.cons ((.lit _)) (.cons ((.lit _)) (.cons ((.lit _)) (.cons ((.lit _)) (.cons ((.shr _ _)) (.cons ((.lit _)) .nil)))))))⟩, ⟨_, _, rfl, rfl, (.cons ((.shr _ _)) (.cons ((.lit _)) (.cons ((.lit _)) (.cons ((.lit _)) (.cons ((.lit _)) (.cons ((.shr _ _)) (.cons ((.lit _)) .nil)))))))⟩, ⟨_, _, rfl, rfl, (.cons ((.lit _)) (.cons ((.lit _)) (.cons ((.lit _)) (.cons ((.lit _)) (.cons ((.shr _ _)) (.cons ((.shr _ _)) .nil))))))⟩, trivial⟩ (parOk hpar rfl)⟩
                            · omega
                            · omega
                        · refine u_end trivial ?_
                          refine vw_seq ?_
                          refine vw_condF rfl ?_
                          refine vw_exit ?_
                          refine iteP rfl ?_
                          refine vw_seq ?_
                          refine vw_seq ?_
                          rw [intCells_length] at h98
                          rw [List.take_of_length_le (show c.early.length ≤ j by omega)]
                          refine vw_region ?_
                          refine s_move rfl rfl trivial (fun h109 => ?_) (fun h109 => ?_)
                          · refine u_move rfl rfl trivial ?_
                            refine u_fieldAddr rfl rfl rfl rfl rfl rfl ⟨_, _, rfl, rfl, rfl, rfl⟩ ?_
                            refine u_load1 rfl rfl rfl rfl rfl rfl ⟨_, _, rfl, rfl, rfl, rfl⟩ ?_
                            refine u_move rfl rfl ⟨_, _, rfl, rfl, rfl, rfl⟩ ?_
                            refine s_lss rfl rfl rfl ⟨_, _, rfl, rfl, rfl, rfl⟩ (fun h114 => ?_) (fun h114 => ?_)
                            · exfalso; have := heard_said (sinv_sayN (sinv_hear (sinv_build ms xs ms.length) c) i) (heard_sayN (sinv_hear (sinv_build ms xs ms.length) c) (heard_hear (sinv_build ms xs ms.length) (by omega)) i) h87 h114; rw [show told c _ = _ from h109] at this; cases this
                            · refine u_pickT rfl rfl rfl trivial ?_
                              refine u_end trivial ?_
                              refine vw_condF rfl ?_
                              refine vw_skip ?_
                              refine vw_region ?_
                              refine u_loadAll rfl rfl rfl rfl rfl rfl trivial ?_
                              refine u_storeAll rfl rfl rfl rfl rfl rfl rfl rfl trivial ?_
                              refine u_end trivial ?_
                              refine vw_region ?_
                              refine u_add rfl rfl rfl (by unfold inI; omega) rfl trivial ?_
                              refine u_move rfl rfl trivial ?_
                              refine u_end trivial ?_
                              refine ⟨_, _, ren [(6, 6), (10, 10)], ?_, ⟨i + 1, ?_, rfl, rfl⟩, mk_wk [(6, 6), (10, 10)] rfl rfl ⟨⟨_, rfl, (.ptr _ _ _ rfl (lookNe rfl))⟩, ⟨_, rfl, (.ptr _ _ _ rfl (lookNe rfl))⟩, ⟨_, rfl, (.lit _)⟩, ⟨_, rfl, (.lit _)⟩, ⟨_, rfl, (.lit _)⟩, trivial⟩ ⟨⟨_, _, rfl, rfl, (.cons ((.lit _)) (.cons ((.lit _)) (.cons ((.lit _)) (.cons ((.lit _)) (.cons ((.shr _ _)) (.cons ((.shr _ _)) .nil))))))⟩, ⟨_, _, rfl, rfl, (.cons ((.shr _ _)) (.cons ((.lit _)) (.cons ((.lit _)) (.cons ((.lit _)) (.cons ((.lit _)) (.cons ((.shr _ _)) (.cons ((.lit _)) .nil)))))))⟩, trivial⟩ (parOk hpar rfl)⟩
                              · omega
                              · omega
                          · refine u_move rfl rfl trivial ?_
                            refine u_skip rfl rfl rfl rfl rfl ?_
                            refine u_skip rfl rfl rfl rfl rfl ?_
                            refine u_skip rfl rfl rfl rfl rfl ?_
                            refine u_skip rfl rfl rfl rfl rfl ?_
                            refine u_pickF rfl rfl rfl trivial ?_
                            refine u_end trivial ?_
                            refine vw_condF rfl ?_
                            refine vw_skip ?_
                            refine vw_region ?_
                            refine u_loadAll rfl rfl rfl rfl rfl rfl trivial ?_
                            refine u_storeAll rfl rfl rfl rfl rfl rfl rfl rfl trivial ?_
                            refine u_end trivial ?_
                            refine vw_region ?_
                            refine u_add rfl rfl rfl (by unfold inI; omega) rfl trivial ?_
                            refine u_move rfl rfl trivial ?_
                            refine u_end trivial ?_
                            refine ⟨_, _, ren [(6, 6), (10, 10)], ?_, ⟨i + 1, ?_, rfl, rfl⟩, mk_wk [(6, 6), (10, 10)] rfl rfl ⟨⟨_, rfl, (.ptr _ _ _ rfl (lookNe rfl))⟩, ⟨_, rfl, (.ptr _ _ _ rfl (lookNe rfl))⟩, ⟨_, rfl, (.lit _)⟩, ⟨_, rfl, (.lit _)⟩, ⟨_, rfl, (.lit _)⟩, trivial⟩ ⟨⟨_, _, rfl, rfl, (.cons ((.lit _)) (.cons ((.lit _)) (.cons ((.lit _)) (.cons ((.lit _)) (.cons ((.shr _ _)) (.cons ((.shr _ _)) .nil))))))⟩, ⟨_, _, rfl, rfl, (.cons ((.shr _ _)) (.cons ((.lit _)) (.cons ((.lit _)) (.cons ((.lit _)) (.cons ((.lit _)) (.cons ((.shr _ _)) (.cons ((.lit _)) .nil)))))))⟩, trivial⟩ (parOk hpar rfl)⟩
                            · omega
                            · omega
                      · refine u_not rfl rfl trivial ?_
                        refine u_end trivial ?_
                        refine vw_condT rfl ?_
                        refine vw_seq ?_
                        refine vw_region ?_
                        refine u_assign rfl rfl trivial ?_
                        refine u_end trivial ?_
                        refine vw_ret ?_
                        refine fin0 (.inr rfl) (.cons (.tmp rfl (Nat.le_of_ble_eq_true rfl)) .nil) (subB ?_)
                        · rfl
                    · refine u_end trivial ?_
                      refine vw_seq ?_
                      refine vw_condF rfl ?_
                      refine vw_exit ?_
                      refine iteP rfl ?_
                      refine vw_seq ?_
                      refine vw_region ?_
                      refine u_assign rfl rfl trivial ?_
                      refine u_end trivial ?_
                      refine vw_ret ?_
                      refine fin0 (.inr rfl) (.cons (.tmp rfl (Nat.le_of_ble_eq_true rfl)) .nil) (subB ?_)
                      · rfl
            · rw [hear_yes (by omega)] at h51; simp at h51
theorem c24 (ms : List Msg) (xs : List Int) (n : Int) : VFun G 24 [.shr 2 (msgCells ms), .shr 1 (intCells xs), .lit (.int .i64 n)] [] (.lit (.bool true)) [] := by
  refine VFun.intro (fn := Try.f24) rfl rfl (by kernel_rfl) (Nat.le_of_ble_eq_true rfl) fun Γ hpar => ?_
  refine vw_seq ?_
  refine vw_region ?_
  refine u_assign rfl rfl trivial ?_
  refine u_end trivial ?_
  refine vw_seq ?_
  refine vw_seq ?_
  refine vw_region ?_
  refine u_call rfl (c100) .nil rfl trivial ?_
  refine u_not rfl rfl trivial ?_
  refine u_end trivial ?_
  refine vw_condF rfl ?_
  refine vw_skip ?_
  refine vw_seq ?_
  refine vw_seq ?_
  refine vw_region ?_
  refine u_move rfl rfl trivial ?_
  refine u_len rfl rfl rfl trivial ?_
  refine s_gtr rfl rfl rfl trivial (fun h18 => ?_) (fun h18 => ?_)
  · refine u_move rfl rfl trivial ?_
    refine u_skip rfl rfl rfl rfl rfl ?_
    refine u_skip rfl rfl rfl rfl rfl ?_
    refine u_pickT rfl rfl rfl trivial ?_
    refine u_move rfl rfl trivial ?_
    refine u_skip rfl rfl rfl rfl rfl ?_
    refine u_skip rfl rfl rfl rfl rfl ?_
    refine u_pickT rfl rfl rfl trivial ?_
    refine u_end trivial ?_
    refine vw_condT rfl ?_
    refine vw_seq ?_
    refine vw_region ?_
    refine u_assign rfl rfl trivial ?_
    refine u_end trivial ?_
    refine vw_ret ?_
    refine fin0 (.inr rfl) (.cons (.tmp rfl (Nat.le_of_ble_eq_true rfl)) .nil) (subB ?_)
    · rfl
  · refine u_move rfl rfl trivial ?_
    refine u_move rfl rfl ⟨_, _, rfl, rfl, rfl, rfl⟩ ?_
    refine s_lss rfl rfl rfl ⟨_, _, rfl, rfl, rfl, rfl⟩ (fun h21 => ?_) (fun h21 => ?_)
    · refine u_pickF rfl rfl rfl trivial ?_
      refine u_move rfl rfl trivial ?_
      refine u_skip rfl rfl rfl rfl rfl ?_
      refine u_skip rfl rfl rfl rfl rfl ?_
      refine u_pickT rfl rfl rfl trivial ?_
      refine u_end trivial ?_
      refine vw_condT rfl ?_
      refine vw_seq ?_
      refine vw_region ?_
      refine u_assign rfl rfl trivial ?_
      refine u_end trivial ?_
      refine vw_ret ?_
      refine fin0 (.inr rfl) (.cons (.tmp rfl (Nat.le_of_ble_eq_true rfl)) .nil) (subB ?_)
      · rfl
    · refine u_pickF rfl rfl rfl trivial ?_
      refine u_move rfl rfl trivial ?_
      refine u_move rfl rfl ⟨_, _, rfl, rfl, rfl, rfl⟩ ?_
      refine s_gtr rfl rfl rfl ⟨_, _, rfl, rfl, rfl, rfl⟩ (fun h25 => ?_) (fun h25 => ?_)
      · refine u_pickF rfl rfl rfl trivial ?_
        refine u_end trivial ?_
        refine vw_condT rfl ?_
        refine vw_seq ?_
        refine vw_region ?_
        refine u_assign rfl rfl trivial ?_
        refine u_end trivial ?_
        refine vw_ret ?_
        refine fin0 (.inr rfl) (.cons (.tmp rfl (Nat.le_of_ble_eq_true rfl)) .nil) (subB ?_)
        · rfl
      · refine u_pickF rfl rfl rfl trivial ?_
        refine u_end trivial ?_
        refine vw_condF rfl ?_
        refine vw_skip ?_
        refine vw_seq ?_
        simp only [msgCells_length] at h18
        refine vw_region ?_
        refine u_move rfl rfl trivial ?_
        refine u_move rfl rfl trivial ?_
        refine u_call rfl (c90 ms xs (by omega)) (.cons ((.shr _ _)) (.cons ((.shr _ _)) .nil)) rfl trivial ?_
        refine u_alloc 100 rfl rfl (notPar hpar rfl) rfl rfl trivial ?_
        refine u_storeAll rfl rfl rfl rfl rfl rfl rfl rfl trivial ?_
        refine u_end trivial ?_
        refine vw_seq ?_
        refine vw_seq ?_
        refine vw_region ?_
        refine u_move rfl rfl trivial ?_
        refine u_move rfl rfl trivial ?_
        refine u_end trivial ?_
        refine vw_block ?_
        refine vw_loopR (fun n_ E => ∃ (i : Nat), (((i : Int) ≤ n)) ∧ n_ = n.toNat - i ∧ E = ⟨[(7, .ptr 7 0), (30, .lit (.int .i64 n)), (31, .lit (.int .i64 i))], [(7, .box (senderAV (sayN i (buildS ms xs ms.length))))], 128⟩) (n0 := _) (E0 := _) (⟨0, by omega, rfl, rfl⟩) (ren [(7, 100)]) (mk_wk [(7, 100)] rfl rfl ⟨⟨_, rfl, (.ptr _ _ _ rfl (lookNe rfl))⟩, ⟨_, rfl, (.lit _)⟩, ⟨_, rfl, (.lit _)⟩, trivial⟩ ⟨⟨_, _, rfl, rfl, (.cons ((.shr _ _)) (.cons ((.lit _)) (.cons ((.lit _)) (.cons ((.lit _)) (.cons ((.lit _)) (.cons ((.shr _ _)) (.cons ((.lit _)) .nil)))))))⟩, trivial⟩ (parOk hpar rfl)) (fun n_ E hR => ?_)
        obtain ⟨i, hI, rfl, rfl⟩ := hR
        have hI0 := hI
        refine vw_seq ?_
        refine vw_region ?_
        refine s_lss rfl rfl rfl trivial (fun h32 => ?_) (fun h32 => ?_)
        · refine u_end trivial ?_
          refine vw_seq ?_
          refine vw_condT rfl ?_
          refine vw_skip ?_
          refine vw_seq ?_
          refine vw_block ?_
          refine vw_seq ?_
          refine vw_region ?_
          refine u_loadAll rfl rfl rfl rfl rfl rfl trivial ?_
          refine u_call rfl (c95' (sayN i (buildS ms xs ms.length)) (sinv_sayN (sinv_build ms xs ms.length) i)) (.cons ((.agg _ _ (.cons ((.shr _ _)) (.cons ((.lit _)) (.cons ((.lit _)) (.cons ((.lit _)) (.cons ((.lit _)) (.cons ((.shr _ _)) (.cons ((.lit _)) .nil))))))))) .nil) rfl trivial ?_
          refine u_move rfl rfl trivial ?_
          refine u_extract rfl rfl rfl trivial ?_
          refine u_extract rfl rfl rfl trivial ?_
          refine u_extract rfl rfl rfl trivial ?_
          refine u_alloc 121 rfl rfl (notPar hpar rfl) rfl rfl trivial ?_
          refine u_alloc 122 rfl rfl (notPar hpar rfl) rfl rfl trivial ?_
          refine u_storeAll rfl rfl rfl rfl rfl rfl rfl rfl trivial ?_
          refine u_storeAll rfl rfl rfl rfl rfl rfl rfl rfl trivial ?_
          refine u_assign rfl rfl trivial ?_
          refine u_end trivial ?_
          refine vw_seq ?_
          refine vw_seq ?_
          refine vw_region ?_
          refine s_move rfl rfl trivial (fun h39 => ?_) (fun h39 => ?_)
          · refine u_not rfl rfl trivial ?_
            refine u_end trivial ?_
            refine vw_condF rfl ?_
            refine vw_skip ?_
            refine vw_seq ?_
            refine vw_seq ?_
            refine vw_region ?_
            refine u_fieldAddr rfl rfl rfl rfl rfl rfl trivial ?_
            refine u_load1 rfl rfl rfl rfl rfl rfl trivial ?_
            refine u_fieldAddr rfl rfl rfl rfl rfl rfl trivial ?_
            refine u_load1 rfl rfl rfl rfl rfl rfl trivial ?_
            refine s_eql rfl rfl rfl trivial (fun h58 => ?_) (fun h58 => ?_)
            · refine u_end trivial ?_
              refine vw_condT rfl ?_
              refine vw_seq ?_
              obtain ⟨m, q, hq, hm, he⟩ := new_of (sinv_sayN (sinv_build ms xs ms.length) i) h39 h58
              rcases (rightMsg hm).1 with h0 | h0 | h0
              · have hso := (sinv_sayN (sinv_build ms xs ms.length) i).nq; have hsn := (sinv_sayN (sinv_build ms xs ms.length) i).n; have hsq := (sinv_sayN (sinv_build ms xs ms.length) i).q
                refine vw_draw ?_
                refine u_fieldAddr rfl rfl rfl rfl rfl rfl trivial ?_
                refine u_load1 rfl rfl rfl rfl rfl rfl trivial ?_
                refine u_fieldAddr rfl rfl rfl rfl rfl rfl trivial ?_
                refine u_load1 rfl rfl rfl rfl rfl rfl trivial ?_
                refine u_fieldAddr rfl rfl rfl rfl rfl rfl trivial ?_
                refine u_indexA (i := 0) rfl rfl rfl rfl rfl (by rw [he]; exact h0) (by decide) rfl trivial ?_
                refine u_load1 rfl rfl rfl rfl rfl rfl trivial ?_
                refine s_neq rfl rfl rfl trivial (fun h66 => ?_) (fun h66 => ?_)
                · exfalso; apply h66; rw [he]; show Places.get _ m.1 = _; rw [h0]; rfl
                · refine u_move rfl rfl trivial ?_
                  refine u_fieldAddr rfl rfl rfl rfl rfl rfl ⟨_, _, rfl, rfl, rfl, rfl⟩ ?_
                  refine u_load1 rfl rfl rfl rfl rfl rfl ⟨_, _, rfl, rfl, rfl, rfl⟩ ?_
                  refine u_fieldAddr rfl rfl rfl rfl rfl rfl ⟨_, _, rfl, rfl, rfl, rfl⟩ ?_
                  refine u_load1 rfl rfl rfl rfl rfl rfl ⟨_, _, rfl, rfl, rfl, rfl⟩ ?_
                  refine u_add rfl rfl rfl (by unfold inI; omega) rfl ⟨_, _, rfl, rfl, rfl, rfl⟩ ?_
                  refine s_neq rfl rfl rfl ⟨_, _, rfl, rfl, rfl, rfl⟩ (fun h73 => ?_) (fun h73 => ?_)
                  · exfalso; apply h73; rw [he]; rfl
                  · refine u_pickF rfl rfl rfl trivial ?_
                    refine u_move rfl rfl trivial ?_
                    refine u_fieldAddr rfl rfl rfl rfl rfl rfl ⟨_, _, rfl, rfl, rfl, rfl⟩ ?_
                    refine u_load1 rfl rfl rfl rfl rfl rfl ⟨_, _, rfl, rfl, rfl, rfl⟩ ?_
                    refine u_len rfl rfl rfl ⟨_, _, rfl, rfl, rfl, rfl⟩ ?_
                    refine u_fieldAddr rfl rfl rfl rfl rfl rfl ⟨_, _, rfl, rfl, rfl, rfl⟩ ?_
                    refine u_load1 rfl rfl rfl rfl rfl rfl ⟨_, _, rfl, rfl, rfl, rfl⟩ ?_
                    refine u_len rfl rfl rfl ⟨_, _, rfl, rfl, rfl, rfl⟩ ?_
                    refine u_sub rfl rfl rfl (by (try simp only [msgCells_length, chunkCells_length, intCells_length, byteCells_length] at *); unfold inI; omega) rfl ⟨_, _, rfl, rfl, rfl, rfl⟩ ?_
                    refine s_neq rfl rfl rfl ⟨_, _, rfl, rfl, rfl, rfl⟩ (fun h83 => ?_) (fun h83 => ?_)
                    · exfalso; apply h83; rw [he, hq]; (try simp only [msgCells_length, chunkCells_length, intCells_length, byteCells_length] at *); simp [sayNew]
                    · refine u_pickF rfl rfl rfl trivial ?_
                      refine u_end (by kernel_rfl) ?_
                      refine vw_condF rfl ?_
                      refine vw_skip ?_
                      refine vw_seq ?_
                      refine vw_seq ?_
                      refine vw_region ?_
                      refine u_loadAll rfl rfl rfl rfl rfl rfl trivial ?_
                      refine u_call rfl (c77 (say (sayN i (buildS ms xs ms.length))).2.1) (.cons ((.agg _ _ (.cons ((.lit _)) (.cons ((.lit _)) (.cons ((.lit _)) (.cons ((.lit _)) (.cons ((.shr _ _)) (.cons ((.shr _ _)) .nil)))))))) .nil) rfl trivial ?_
                      refine s_neq rfl rfl rfl trivial (fun h119 => ?_) (fun h119 => ?_)
                      · exact absurd (say_right (sinv_sayN (sinv_build ms xs ms.length) i) h39).1 h119
                      · refine u_move rfl rfl trivial ?_
                        refine u_fieldAddr rfl rfl rfl rfl rfl rfl ⟨_, _, rfl, rfl, rfl, rfl⟩ ?_
                        refine u_load1 rfl rfl rfl rfl rfl rfl ⟨_, _, rfl, rfl, rfl, rfl⟩ ?_
                        refine u_len rfl rfl rfl ⟨_, _, rfl, rfl, rfl, rfl⟩ ?_
                        refine s_gtr rfl rfl rfl ⟨_, _, rfl, rfl, rfl, rfl⟩ (fun h124 => ?_) (fun h124 => ?_)
                        · exfalso; have := (sinv_say (sinv_sayN (sinv_build ms xs ms.length) i)).f; rw [chunkCells_length] at h124; omega
                        · refine u_pickF rfl rfl rfl trivial ?_
                          refine u_end trivial ?_
                          refine vw_condF rfl ?_
                          refine vw_skip ?_
                          refine vw_region ?_
                          refine u_loadAll rfl rfl rfl rfl rfl rfl trivial ?_
                          refine u_storeAll rfl rfl rfl rfl rfl rfl rfl rfl trivial ?_
                          refine u_end trivial ?_
                          refine vw_region ?_
                          refine u_add rfl rfl rfl (by unfold inI; omega) rfl trivial ?_
                          refine u_move rfl rfl trivial ?_
                          refine u_end trivial ?_
                          refine ⟨_, _, ren [(7, 7)], ?_, ⟨i + 1, ?_, rfl, rfl⟩, mk_wk [(7, 7)] rfl rfl ⟨⟨_, rfl, (.ptr _ _ _ rfl (lookNe rfl))⟩, ⟨_, rfl, (.lit _)⟩, ⟨_, rfl, (.lit _)⟩, trivial⟩ ⟨⟨_, _, rfl, rfl, (.cons ((.shr _ _)) (.cons ((.lit _)) (.cons ((.lit _)) (.cons ((.lit _)) (.cons ((.lit _)) (.cons ((.shr _ _)) (.cons ((.lit _)) .nil)))))))⟩, trivial⟩ (parOk hpar rfl)⟩
                          · omega
                          · omega
              · have hso := (sinv_sayN (sinv_build ms xs ms.length) i).nq; have hsn := (sinv_sayN (sinv_build ms xs ms.length) i).n; have hsq := (sinv_sayN (sinv_build ms xs ms.length) i).q
                refine vw_draw ?_
                refine u_fieldAddr rfl rfl rfl rfl rfl rfl trivial ?_
                refine u_load1 rfl rfl rfl rfl rfl rfl trivial ?_
                refine u_fieldAddr rfl rfl rfl rfl rfl rfl trivial ?_
                refine u_load1 rfl rfl rfl rfl rfl rfl trivial ?_
                refine u_fieldAddr rfl rfl rfl rfl rfl rfl trivial ?_
                refine u_indexA (i := 1) rfl rfl rfl rfl rfl (by rw [he]; exact h0) (by decide) rfl trivial ?_
                refine u_load1 rfl rfl rfl rfl rfl rfl trivial ?_
                refine s_neq rfl rfl rfl trivial (fun h66 => ?_) (fun h66 => ?_)
                · exfalso; apply h66; rw [he]; show Places.get _ m.1 = _; rw [h0]; rfl
                · refine u_move rfl rfl trivial ?_
                  refine u_fieldAddr rfl rfl rfl rfl rfl rfl ⟨_, _, rfl, rfl, rfl, rfl⟩ ?_
                  refine u_load1 rfl rfl rfl rfl rfl rfl ⟨_, _, rfl, rfl, rfl, rfl⟩ ?_
                  refine u_fieldAddr rfl rfl rfl rfl rfl rfl ⟨_, _, rfl, rfl, rfl, rfl⟩ ?_
                  refine u_load1 rfl rfl rfl rfl rfl rfl ⟨_, _, rfl, rfl, rfl, rfl⟩ ?_
                  refine u_add rfl rfl rfl (by unfold inI; omega) rfl ⟨_, _, rfl, rfl, rfl, rfl⟩ ?_
                  refine s_neq rfl rfl rfl ⟨_, _, rfl, rfl, rfl, rfl⟩ (fun h73 => ?_) (fun h73 => ?_)
                  · exfalso; apply h73; rw [he]; rfl
                  · refine u_pickF rfl rfl rfl trivial ?_
                    refine u_move rfl rfl trivial ?_
                    refine u_fieldAddr rfl rfl rfl rfl rfl rfl ⟨_, _, rfl, rfl, rfl, rfl⟩ ?_
                    refine u_load1 rfl rfl rfl rfl rfl rfl ⟨_, _, rfl, rfl, rfl, rfl⟩ ?_
                    refine u_len rfl rfl rfl ⟨_, _, rfl, rfl, rfl, rfl⟩ ?_
                    refine u_fieldAddr rfl rfl rfl rfl rfl rfl ⟨_, _, rfl, rfl, rfl, rfl⟩ ?_
                    refine u_load1 rfl rfl rfl rfl rfl rfl ⟨_, _, rfl, rfl, rfl, rfl⟩ ?_
                    refine u_len rfl rfl rfl ⟨_, _, rfl, rfl, rfl, rfl⟩ ?_
                    refine u_sub rfl rfl rfl (by (try simp only [msgCells_length, chunkCells_length, intCells_length, byteCells_length] at *); unfold inI; omega) rfl ⟨_, _, rfl, rfl, rfl, rfl⟩ ?_
                    refine s_neq rfl rfl rfl ⟨_, _, rfl, rfl, rfl, rfl⟩ (fun h83 => ?_) (fun h83 => ?_)
                    · exfalso; apply h83; rw [he, hq]; (try simp only [msgCells_length, chunkCells_length, intCells_length, byteCells_length] at *); simp [sayNew]
                    · refine u_pickF rfl rfl rfl trivial ?_
                      refine u_end (by kernel_rfl) ?_
                      refine vw_condF rfl ?_
                      refine vw_skip ?_
                      refine vw_seq ?_
                      refine vw_seq ?_
                      refine vw_region ?_
                      refine u_loadAll rfl rfl rfl rfl rfl rfl trivial ?_
                      refine u_call rfl (c77 (say (sayN i (buildS ms xs ms.length))).2.1) (.cons ((.agg _ _ (.cons ((.lit _)) (.cons ((.lit _)) (.cons ((.lit _)) (.cons ((.lit _)) (.cons ((.shr _ _)) (.cons ((.shr _ _)) .nil)))))))) .nil) rfl trivial ?_
                      refine s_neq rfl rfl rfl trivial (fun h119 => ?_) (fun h119 => ?_)
                      · exact absurd (say_right (sinv_sayN (sinv_build ms xs ms.length) i) h39).1 h119
                      · refine u_move rfl rfl trivial ?_
                        refine u_fieldAddr rfl rfl rfl rfl rfl rfl ⟨_, _, rfl, rfl, rfl, rfl⟩ ?_
                        refine u_load1 rfl rfl rfl rfl rfl rfl ⟨_, _, rfl, rfl, rfl, rfl⟩ ?_
                        refine u_len rfl rfl rfl ⟨_, _, rfl, rfl, rfl, rfl⟩ ?_
                        refine s_gtr rfl rfl rfl ⟨_, _, rfl, rfl, rfl, rfl⟩ (fun h124 => ?_) (fun h124 => ?_)
                        · exfalso; have := (sinv_say (sinv_sayN (sinv_build ms xs ms.length) i)).f; rw [chunkCells_length] at h124; omega
                        · refine u_pickF rfl rfl rfl trivial ?_
                          refine u_end trivial ?_
                          refine vw_condF rfl ?_
                          refine vw_skip ?_
                          refine vw_region ?_
                          refine u_loadAll rfl rfl rfl rfl rfl rfl trivial ?_
                          refine u_storeAll rfl rfl rfl rfl rfl rfl rfl rfl trivial ?_
                          refine u_end trivial ?_
                          refine vw_region ?_
                          refine u_add rfl rfl rfl (by unfold inI; omega) rfl trivial ?_
                          refine u_move rfl rfl trivial ?_
                          refine u_end trivial ?_
                          refine ⟨_, _, ren [(7, 7)], ?_, ⟨i + 1, ?_, rfl, rfl⟩, mk_wk [(7, 7)] rfl rfl ⟨⟨_, rfl, (.ptr _ _ _ rfl (lookNe rfl))⟩, ⟨_, rfl, (.lit _)⟩, ⟨_, rfl, (.lit _)⟩, trivial⟩ ⟨⟨_, _, rfl, rfl, (.cons ((.shr _ _)) (.cons ((.lit _)) (.cons ((.lit _)) (.cons ((.lit _)) (.cons ((.lit _)) (.cons ((.shr _ _)) (.cons ((.lit _)) .nil)))))))⟩, trivial⟩ (parOk hpar rfl)⟩
                          · omega
                          · omega
              · have hso := (sinv_sayN (sinv_build ms xs ms.length) i).nq; have hsn := (sinv_sayN (sinv_build ms xs ms.length) i).n; have hsq := (sinv_sayN (sinv_build ms xs ms.length) i).q
                refine vw_draw ?_
                refine u_fieldAddr rfl rfl rfl rfl rfl rfl trivial ?_
                refine u_load1 rfl rfl rfl rfl rfl rfl trivial ?_
                refine u_fieldAddr rfl rfl rfl rfl rfl rfl trivial ?_
                refine u_load1 rfl rfl rfl rfl rfl rfl trivial ?_
                refine u_fieldAddr rfl rfl rfl rfl rfl rfl trivial ?_
                refine u_indexA (i := 2) rfl rfl rfl rfl rfl (by rw [he]; exact h0) (by decide) rfl trivial ?_
                refine u_load1 rfl rfl rfl rfl rfl rfl trivial ?_
                refine s_neq rfl rfl rfl trivial (fun h66 => ?_) (fun h66 => ?_)
                · exfalso; apply h66; rw [he]; show Places.get _ m.1 = _; rw [h0]; rfl
                · refine u_move rfl rfl trivial ?_
                  refine u_fieldAddr rfl rfl rfl rfl rfl rfl ⟨_, _, rfl, rfl, rfl, rfl⟩ ?_
                  refine u_load1 rfl rfl rfl rfl rfl rfl ⟨_, _, rfl, rfl, rfl, rfl⟩ ?_
                  refine u_fieldAddr rfl rfl rfl rfl rfl rfl ⟨_, _, rfl, rfl, rfl, rfl⟩ ?_
                  refine u_load1 rfl rfl rfl rfl rfl rfl ⟨_, _, rfl, rfl, rfl, rfl⟩ ?_
                  refine u_add rfl rfl rfl (by unfold inI; omega) rfl ⟨_, _, rfl, rfl, rfl, rfl⟩ ?_
                  refine s_neq rfl rfl rfl ⟨_, _, rfl, rfl, rfl, rfl⟩ (fun h73 => ?_) (fun h73 => ?_)
                  · exfalso; apply h73; rw [he]; rfl
                  · refine u_pickF rfl rfl rfl trivial ?_
                    refine u_move rfl rfl trivial ?_
                    refine u_fieldAddr rfl rfl rfl rfl rfl rfl ⟨_, _, rfl, rfl, rfl, rfl⟩ ?_
                    refine u_load1 rfl rfl rfl rfl rfl rfl ⟨_, _, rfl, rfl, rfl, rfl⟩ ?_
                    refine u_len rfl rfl rfl ⟨_, _, rfl, rfl, rfl, rfl⟩ ?_
                    refine u_fieldAddr rfl rfl rfl rfl rfl rfl ⟨_, _, rfl, rfl, rfl, rfl⟩ ?_
                    refine u_load1 rfl rfl rfl rfl rfl rfl ⟨_, _, rfl, rfl, rfl, rfl⟩ ?_
                    refine u_len rfl rfl rfl ⟨_, _, rfl, rfl, rfl, rfl⟩ ?_
                    refine u_sub rfl rfl rfl (by (try simp only [msgCells_length, chunkCells_length, intCells_length, byteCells_length] at *); unfold inI; omega) rfl ⟨_, _, rfl, rfl, rfl, rfl⟩ ?_
                    refine s_neq rfl rfl rfl ⟨_, _, rfl, rfl, rfl, rfl⟩ (fun h83 => ?_) (fun h83 => ?_)
                    · exfalso; apply h83; rw [he, hq]; (try simp only [msgCells_length, chunkCells_length, intCells_length, byteCells_length] at *); simp [sayNew]
                    · refine u_pickF rfl rfl rfl trivial ?_
                      refine u_end (by kernel_rfl) ?_
                      refine vw_condF rfl ?_
                      refine vw_skip ?_
                      refine vw_seq ?_
                      refine vw_seq ?_
                      refine vw_region ?_
                      refine u_loadAll rfl rfl rfl rfl rfl rfl trivial ?_
                      refine u_call rfl (c77 (say (sayN i (buildS ms xs ms.length))).2.1) (.cons ((.agg _ _ (.cons ((.lit _)) (.cons ((.lit _)) (.cons ((.lit _)) (.cons ((.lit _)) (.cons ((.shr _ _)) (.cons ((.shr _ _)) .nil)))))))) .nil) rfl trivial ?_
                      refine s_neq rfl rfl rfl trivial (fun h119 => ?_) (fun h119 => ?_)
                      · exact absurd (say_right (sinv_sayN (sinv_build ms xs ms.length) i) h39).1 h119
                      · refine u_move rfl rfl trivial ?_
                        refine u_fieldAddr rfl rfl rfl rfl rfl rfl ⟨_, _, rfl, rfl, rfl, rfl⟩ ?_
                        refine u_load1 rfl rfl rfl rfl rfl rfl ⟨_, _, rfl, rfl, rfl, rfl⟩ ?_
                        refine u_len rfl rfl rfl ⟨_, _, rfl, rfl, rfl, rfl⟩ ?_
                        refine s_gtr rfl rfl rfl ⟨_, _, rfl, rfl, rfl, rfl⟩ (fun h124 => ?_) (fun h124 => ?_)
                        · exfalso; have := (sinv_say (sinv_sayN (sinv_build ms xs ms.length) i)).f; rw [chunkCells_length] at h124; omega
                        · refine u_pickF rfl rfl rfl trivial ?_
                          refine u_end trivial ?_
                          refine vw_condF rfl ?_
                          refine vw_skip ?_
                          refine vw_region ?_
                          refine u_loadAll rfl rfl rfl rfl rfl rfl trivial ?_
                          refine u_storeAll rfl rfl rfl rfl rfl rfl rfl rfl trivial ?_
                          refine u_end trivial ?_
                          refine vw_region ?_
                          refine u_add rfl rfl rfl (by unfold inI; omega) rfl trivial ?_
                          refine u_move rfl rfl trivial ?_
                          refine u_end trivial ?_
                          refine ⟨_, _, ren [(7, 7)], ?_, ⟨i + 1, ?_, rfl, rfl⟩, mk_wk [(7, 7)] rfl rfl ⟨⟨_, rfl, (.ptr _ _ _ rfl (lookNe rfl))⟩, ⟨_, rfl, (.lit _)⟩, ⟨_, rfl, (.lit _)⟩, trivial⟩ ⟨⟨_, _, rfl, rfl, (.cons ((.shr _ _)) (.cons ((.lit _)) (.cons ((.lit _)) (.cons ((.lit _)) (.cons ((.lit _)) (.cons ((.shr _ _)) (.cons ((.lit _)) .nil)))))))⟩, trivial⟩ (parOk hpar rfl)⟩
                          · omega
                          · omega
            · refine u_end trivial ?_
              refine vw_condF rfl ?_
              refine vw_seq ?_
              refine vw_region ?_
              refine u_assign rfl rfl trivial ?_
              refine u_end trivial ?_
              refine vw_seq ?_
              refine vw_seq ?_
              have hold := old_of (sinv_sayN (sinv_build ms xs ms.length) i) h39 h58; have hff := (sinv_sayN (sinv_build ms xs ms.length) i).f
              refine vw_region ?_
              refine u_fieldAddr rfl rfl rfl rfl rfl rfl trivial ?_
              refine u_load1 rfl rfl rfl rfl rfl rfl trivial ?_
              refine u_len rfl rfl rfl trivial ?_
              refine u_move rfl rfl trivial ?_
              refine u_end trivial ?_
              refine vw_block ?_
              refine vw_loopR (fun n_ E => ∃ (j : Nat), ((j ≤ (sayN i (buildS ms xs ms.length)).flight.length)) ∧ n_ = (sayN i (buildS ms xs ms.length)).flight.length - j ∧ E = ⟨[(7, .ptr 7 0), (8, .ptr 8 0), (9, .ptr 9 0), (11, .lit (.bool (((sayN i (buildS ms xs ms.length)).flight.take j).any fun x => x == (say (sayN i (buildS ms xs ms.length))).2.1))), (30, .lit (.int .i64 n)), (31, .lit (.int .i64 i)), (86, .shr 6 (chunkCells (sayN i (buildS ms xs ms.length)).flight)), (87, .lit (.int .i64 (chunkCells (sayN i (buildS ms xs ms.length)).flight).length)), (88, .lit (.int .i64 j))], [(7, .box (senderAV (sayN i (buildS ms xs ms.length)))), (8, .box (senderAV (say (sayN i (buildS ms xs ms.length))).1)), (9, .box (chunkAV (say (sayN i (buildS ms xs ms.length))).2.1))], 128⟩) (n0 := _) (E0 := _) (⟨0, by omega, rfl, rfl⟩) (ren [(7, 7), (8, 121), (9, 122)]) (mk_wk [(7, 7), (8, 121), (9, 122)] rfl rfl ⟨⟨_, rfl, (.ptr _ _ _ rfl (lookNe rfl))⟩, ⟨_, rfl, (.ptr _ _ _ rfl (lookNe rfl))⟩, ⟨_, rfl, (.ptr _ _ _ rfl (lookNe rfl))⟩, ⟨_, rfl, (subB (by simp))⟩, ⟨_, rfl, (.lit _)⟩, ⟨_, rfl, (.lit _)⟩, ⟨_, rfl, (.shr _ _)⟩, ⟨_, rfl, (.lit _)⟩, ⟨_, rfl, (.lit _)⟩, trivial⟩ ⟨⟨_, _, rfl, rfl, (.cons ((.shr _ _)) (.cons ((.lit _)) (.cons ((.lit _)) (.cons ((.lit _)) (.cons ((.lit _)) (.cons ((.shr _ _)) (.cons ((.lit _)) .nil)))))))⟩, ⟨_, _, rfl, rfl, (.cons ((.shr _ _)) (.cons ((.lit _)) (.cons ((.lit _)) (.cons ((.lit _)) (.cons ((.lit _)) (.cons ((.shr _ _)) (.cons ((.lit _)) .nil)))))))⟩, ⟨_, _, rfl, rfl, (.cons ((.lit _)) (.cons ((.lit _)) (.cons ((.lit _)) (.cons ((.lit _)) (.cons ((.shr _ _)) (.cons ((.shr _ _)) .nil))))))⟩, trivial⟩ (parOk hpar rfl)) (fun n_ E hR => ?_)
              obtain ⟨j, hI, rfl, rfl⟩ := hR
              have hI0 := hI
              refine vw_seq ?_
              refine vw_region ?_
              refine s_lss rfl rfl rfl trivial (fun h89 => ?_) (fun h89 => ?_)
              · refine u_end trivial ?_
                refine vw_seq ?_
                refine vw_condT rfl ?_
                refine vw_skip ?_
                refine vw_seq ?_
                refine vw_block ?_
                refine vw_seq ?_
                rw [chunkCells_length] at h89
                obtain ⟨x, hx⟩ : ∃ x, (sayN i (buildS ms xs ms.length)).flight[j]? = some x := ⟨_, List.getElem?_eq_getElem (by omega)⟩
                refine vw_region ?_
                refine u_indexS rfl rfl rfl rfl rfl rfl (chunkCells_get' hx) rfl trivial ?_
                refine u_loadSAll rfl rfl rfl rfl rfl trivial ?_
                refine u_alloc 143 rfl rfl (notPar hpar rfl) rfl rfl trivial ?_
                refine u_storeAll rfl rfl rfl rfl rfl rfl rfl rfl trivial ?_
                refine u_end trivial ?_
                refine vw_region ?_
                refine s_move rfl rfl trivial (fun h92 => ?_) (fun h92 => ?_)
                · refine u_move rfl rfl trivial ?_
                  refine u_skip rfl rfl rfl rfl rfl ?_
                  refine u_skip rfl rfl rfl rfl rfl ?_
                  refine u_skip rfl rfl rfl rfl rfl ?_
                  refine u_pickT rfl rfl rfl trivial ?_
                  refine u_assign rfl rfl trivial ?_
                  refine u_end trivial ?_
                  refine vw_region ?_
                  refine u_add rfl rfl rfl (by unfold inI; omega) rfl trivial ?_
                  refine u_move rfl rfl trivial ?_
                  refine u_end trivial ?_
                  refine ⟨_, _, ren [(7, 7), (8, 8), (9, 9)], ?_, ⟨j + 1, ?_, rfl, rfl⟩, mk_wk [(7, 7), (8, 8), (9, 9)] rfl rfl ⟨⟨_, rfl, (.ptr _ _ _ rfl (lookNe rfl))⟩, ⟨_, rfl, (.ptr _ _ _ rfl (lookNe rfl))⟩, ⟨_, rfl, (.ptr _ _ _ rfl (lookNe rfl))⟩, ⟨_, rfl, (subB (by rw [any_take hx, h92]; simp))⟩, ⟨_, rfl, (.lit _)⟩, ⟨_, rfl, (.lit _)⟩, ⟨_, rfl, (.shr _ _)⟩, ⟨_, rfl, (.lit _)⟩, ⟨_, rfl, (.lit _)⟩, trivial⟩ ⟨⟨_, _, rfl, rfl, (.cons ((.shr _ _)) (.cons ((.lit _)) (.cons ((.lit _)) (.cons ((.lit _)) (.cons ((.lit _)) (.cons ((.shr _ _)) (.cons ((.lit _)) .nil)))))))⟩, ⟨_, _, rfl, rfl, (.cons ((.shr _ _)) (.cons ((.lit _)) (.cons ((.lit _)) (.cons ((.lit _)) (.cons ((.lit _)) (.cons ((.shr _ _)) (.cons ((.lit _)) .nil)))))))⟩, ⟨_, _, rfl, rfl, (.cons ((.lit _)) (.cons ((.lit _)) (.cons ((.lit _)) (.cons ((.lit _)) (.cons ((.shr _ _)) (.cons ((.shr _ _)) .nil))))))⟩, trivial⟩ (parOk hpar rfl)⟩
                  · omega
                  · omega
                · refine u_move rfl rfl trivial ?_
                  refine u_loadAll rfl rfl rfl rfl rfl rfl ⟨_, _, rfl, rfl, rfl, rfl⟩ ?_
                  refine u_loadAll rfl rfl rfl rfl rfl rfl ⟨_, _, rfl, rfl, rfl, rfl⟩ ?_
                  refine u_call rfl (c79 x (say (sayN i (buildS ms xs ms.length))).2.1) (.cons ((.agg _ _ (.cons ((.lit _)) (.cons ((.lit _)) (.cons ((.lit _)) (.cons ((.lit _)) (.cons ((.shr _ _)) (.cons ((.shr _ _)) .nil)))))))) (.cons ((.agg _ _ (.cons ((.lit _)) (.cons ((.lit _)) (.cons ((.lit _)) (.cons ((.lit _)) (.cons ((.shr _ _)) (.cons ((.shr _ _)) .nil)))))))) .nil)) rfl ⟨_, _, rfl, rfl, rfl, rfl⟩ ?_
                  refine u_pickF rfl rfl rfl trivial ?_
                  refine u_assign rfl rfl trivial ?_
                  refine u_end trivial ?_
                  refine vw_region ?_
                  refine u_add rfl rfl rfl (by unfold inI; omega) rfl trivial ?_
                  refine u_move rfl rfl trivial ?_
                  refine u_end trivial ?_
                  refine ⟨_, _, ren [(7, 7), (8, 8), (9, 9)], ?_, ⟨j + 1, ?_, rfl, rfl⟩, mk_wk [(7, 7), (8, 8), (9, 9)] rfl rfl ⟨⟨_, rfl, (.ptr _ _ _ rfl (lookNe rfl))⟩, ⟨_, rfl, (.ptr _ _ _ rfl (lookNe rfl))⟩, ⟨_, rfl, (.ptr _ _ _ rfl (lookNe rfl))⟩, ⟨_, rfl, (subB (by rw [any_take hx, h92]; simp))⟩, ⟨_, rfl, (.lit _)⟩, ⟨_, rfl, (.lit _)⟩, ⟨_, rfl, (.shr _ _)⟩, ⟨_, rfl, (.lit _)⟩, ⟨_, rfl, (.lit _)⟩, trivial⟩ ⟨⟨_, _, rfl, rfl, (.cons ((.shr _ _)) (.cons ((.lit _)) (.cons ((.lit _)) (.cons ((.lit _)) (.cons ((.lit _)) (.cons ((.shr _ _)) (.cons ((.lit _)) .nil)))))))⟩, ⟨_, _, rfl, rfl, (.cons ((.shr _ _)) (.cons ((.lit _)) (.cons ((.lit _)) (.cons ((.lit _)) (.cons ((.lit _)) (.cons ((.shr _ _)) (.cons ((.lit _)) .nil)))))))⟩, ⟨_, _, rfl, rfl, (.cons ((.lit _)) (.cons ((.lit _)) (.cons ((.lit _)) (.cons ((.lit _)) (.cons ((.shr _ _)) (.cons ((.shr _ _)) .nil))))))⟩, trivial⟩ (parOk hpar rfl)⟩
                  · omega
                  · omega
              · refine u_end trivial ?_
                refine vw_seq ?_
                refine vw_condF rfl ?_
                refine vw_exit ?_
                refine iteP rfl ?_
                refine vw_seq ?_
                rw [chunkCells_length] at h89
                rw [List.take_of_length_le (show (sayN i (buildS ms xs ms.length)).flight.length ≤ j by omega)]
                refine vw_region ?_
                refine s_move rfl rfl trivial (fun h99 => ?_) (fun h99 => ?_)
                · refine u_not rfl rfl trivial ?_
                  refine u_move rfl rfl trivial ?_
                  refine u_fieldAddr rfl rfl rfl rfl rfl rfl ⟨_, _, rfl, rfl, rfl, rfl⟩ ?_
                  refine u_load1 rfl rfl rfl rfl rfl rfl ⟨_, _, rfl, rfl, rfl, rfl⟩ ?_
                  refine u_fieldAddr rfl rfl rfl rfl rfl rfl ⟨_, _, rfl, rfl, rfl, rfl⟩ ?_
                  refine u_load1 rfl rfl rfl rfl rfl rfl ⟨_, _, rfl, rfl, rfl, rfl⟩ ?_
                  refine s_neq rfl rfl rfl ⟨_, _, rfl, rfl, rfl, rfl⟩ (fun h106 => ?_) (fun h106 => ?_)
                  · exact absurd hold.2.1 h106
                  · refine u_pickF rfl rfl rfl trivial ?_
                    refine u_move rfl rfl trivial ?_
                    refine u_fieldAddr rfl rfl rfl rfl rfl rfl ⟨_, _, rfl, rfl, rfl, rfl⟩ ?_
                    refine u_load1 rfl rfl rfl rfl rfl rfl ⟨_, _, rfl, rfl, rfl, rfl⟩ ?_
                    refine u_len rfl rfl rfl ⟨_, _, rfl, rfl, rfl, rfl⟩ ?_
                    refine u_fieldAddr rfl rfl rfl rfl rfl rfl ⟨_, _, rfl, rfl, rfl, rfl⟩ ?_
                    refine u_load1 rfl rfl rfl rfl rfl rfl ⟨_, _, rfl, rfl, rfl, rfl⟩ ?_
                    refine u_len rfl rfl rfl ⟨_, _, rfl, rfl, rfl, rfl⟩ ?_
                    refine s_neq rfl rfl rfl ⟨_, _, rfl, rfl, rfl, rfl⟩ (fun h115 => ?_) (fun h115 => ?_)
                    · exact absurd (by rw [hold.2.2]) h115
                    · refine u_pickF rfl rfl rfl trivial ?_
                      refine u_end trivial ?_
                      refine vw_condF rfl ?_
                      refine vw_skip ?_
                      refine vw_seq ?_
                      refine vw_seq ?_
                      refine vw_region ?_
                      refine u_loadAll rfl rfl rfl rfl rfl rfl trivial ?_
                      refine u_call rfl (c77 (say (sayN i (buildS ms xs ms.length))).2.1) (.cons ((.agg _ _ (.cons ((.lit _)) (.cons ((.lit _)) (.cons ((.lit _)) (.cons ((.lit _)) (.cons ((.shr _ _)) (.cons ((.shr _ _)) .nil)))))))) .nil) rfl trivial ?_
                      refine s_neq rfl rfl rfl trivial (fun h119 => ?_) (fun h119 => ?_)
                      · exact absurd (say_right (sinv_sayN (sinv_build ms xs ms.length) i) h39).1 h119
                      · refine u_move rfl rfl trivial ?_
                        refine u_fieldAddr rfl rfl rfl rfl rfl rfl ⟨_, _, rfl, rfl, rfl, rfl⟩ ?_
                        refine u_load1 rfl rfl rfl rfl rfl rfl ⟨_, _, rfl, rfl, rfl, rfl⟩ ?_
                        refine u_len rfl rfl rfl ⟨_, _, rfl, rfl, rfl, rfl⟩ ?_
                        refine s_gtr rfl rfl rfl ⟨_, _, rfl, rfl, rfl, rfl⟩ (fun h124 => ?_) (fun h124 => ?_)
                        · exfalso; have := (sinv_say (sinv_sayN (sinv_build ms xs ms.length) i)).f; rw [chunkCells_length] at h124; omega
                        · refine u_pickF rfl rfl rfl trivial ?_
                          refine u_end trivial ?_
                          refine vw_condF rfl ?_
                          refine vw_skip ?_
                          refine vw_region ?_
                          refine u_loadAll rfl rfl rfl rfl rfl rfl trivial ?_
                          refine u_storeAll rfl rfl rfl rfl rfl rfl rfl rfl trivial ?_
                          refine u_end trivial ?_
                          refine vw_region ?_
                          refine u_add rfl rfl rfl (by unfold inI; omega) rfl trivial ?_
                          refine u_move rfl rfl trivial ?_
                          refine u_end trivial ?_
                          refine ⟨_, _, ren [(7, 7)], ?_, ⟨i + 1, ?_, rfl, rfl⟩, mk_wk [(7, 7)] rfl rfl ⟨⟨_, rfl, (.ptr _ _ _ rfl (lookNe rfl))⟩, ⟨_, rfl, (.lit _)⟩, ⟨_, rfl, (.lit _)⟩, trivial⟩ ⟨⟨_, _, rfl, rfl, (.cons ((.shr _ _)) (.cons ((.lit _)) (.cons ((.lit _)) (.cons ((.lit _)) (.cons ((.lit _)) (.cons ((.shr _ _)) (.cons ((.lit _)) .nil)))))))⟩, trivial⟩ (parOk hpar rfl)⟩
                          · omega
                          · omega
                · rw [any_mem hold.1] at h99; cases h99
          · refine u_not rfl rfl trivial ?_
            refine u_end trivial ?_
            refine vw_condT rfl ?_
            refine vw_seq ?_
            have hno := said_not (sinv_sayN (sinv_build ms xs ms.length) i) h39
            refine vw_region ?_
            refine u_fieldAddr rfl rfl rfl rfl rfl rfl trivial ?_
            refine u_load1 rfl rfl rfl rfl rfl rfl trivial ?_
            refine u_len rfl rfl rfl trivial ?_
            refine u_fieldAddr rfl rfl rfl rfl rfl rfl trivial ?_
            refine u_load1 rfl rfl rfl rfl rfl rfl trivial ?_
            refine u_len rfl rfl rfl trivial ?_
            refine u_add rfl rfl rfl (by have := (sinv_sayN (sinv_build ms xs ms.length) i).q; have := (sinv_sayN (sinv_build ms xs ms.length) i).f; (try simp only [msgCells_length, chunkCells_length, intCells_length, byteCells_length] at *); unfold inI; omega) rfl trivial ?_
            refine s_eql rfl rfl rfl trivial (fun h48 => ?_) (fun h48 => ?_)
            · refine u_move rfl rfl trivial ?_
              refine u_loadAll rfl rfl rfl rfl rfl rfl ⟨_, _, rfl, rfl, rfl, rfl⟩ ?_
              refine u_loadAll rfl rfl rfl rfl rfl rfl ⟨_, _, rfl, rfl, rfl, rfl⟩ ?_
              refine u_call rfl (c93 (sayN i (buildS ms xs ms.length)) (say (sayN i (buildS ms xs ms.length))).1) (.cons ((.agg _ _ (.cons ((.shr _ _)) (.cons ((.lit _)) (.cons ((.lit _)) (.cons ((.lit _)) (.cons ((.lit _)) (.cons ((.shr _ _)) (.cons ((.lit _)) .nil))))))))) (.cons ((.agg _ _ (.cons ((.shr _ _)) (.cons ((.lit _)) (.cons ((.lit _)) (.cons ((.lit _)) (.cons ((.lit _)) (.cons ((.shr _ _)) (.cons ((.lit _)) .nil))))))))) .nil)) rfl ⟨_, _, rfl, rfl, rfl, rfl⟩ ?_
              refine u_pickT rfl rfl rfl trivial ?_
              refine u_assign rfl rfl trivial ?_
              refine u_end trivial ?_
              refine vw_ret ?_
              refine fin0 (.inr rfl) (.cons (.tmp rfl (Nat.le_of_ble_eq_true rfl)) .nil) (subB ?_)
              · rw [hno.2.2]; simp
            · exfalso; apply h48; rw [hno.1, hno.2.1]; rfl
        · refine u_end trivial ?_
          refine vw_seq ?_
          refine vw_condF rfl ?_
          refine vw_exit ?_
          refine iteP rfl ?_
          refine vw_seq ?_
          refine vw_region ?_
          refine u_assign rfl rfl trivial ?_
          refine u_end trivial ?_
          refine vw_ret ?_
          refine fin0 (.inr rfl) (.cons (.tmp rfl (Nat.le_of_ble_eq_true rfl)) .nil) (subB ?_)
          · rfl
end Go.Proofs.Ytaadloihphpdbaa
