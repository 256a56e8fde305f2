/- Walks of the package chunk and of the document's answer to it: bytes. Printed by a small program (walk.py). -/
import Derived.Test.YtaadloihphpdbaaWChunk
import Derived.Test.YtaadloihphpdbaaVcB
set_option linter.unusedVariables false
set_option linter.unusedSimpArgs false
set_option maxRecDepth 4000
namespace Go.Proofs.Ytaadloihphpdbaa
open Go Go.Vc Go.RowKit
def bodyHead (c : Chunk) : List UInt8 := [u8 c.kind, u8 c.num] ++ (if c.kind = 1 then [u8 c.stream, u8 c.place] ++ c.data else [])
theorem body_is (c : Chunk) : body c = bodyHead c ++ c.early.map u8 := rfl
theorem head_data {c : Chunk} (h : c.kind = 1) : bodyHead c = [u8 c.kind, u8 c.num] ++ ([u8 c.stream, u8 c.place] ++ c.data) := by unfold bodyHead; rw [if_pos h]
theorem head_ack {c : Chunk} (h : c.kind ≠ 1) : bodyHead c = [u8 c.kind, u8 c.num] := by unfold bodyHead; rw [if_neg h]; simp
theorem u8_cells2 (a b : Int) : [[AV.lit (.int .u8 (a % 256))], [AV.lit (.int .u8 (b % 256))]] = byteCells [u8 a, u8 b] := by simp [byteCells, u8_toNat]
theorem head_len (c : Chunk) : (bodyHead c).length ≤ 4 + c.data.length := by
  unfold bodyHead; split <;> simp <;> omega

theorem c141 (e : Int) : VFun G 141 [.lit (.int .i64 e)] [] (.tup [.agg (chunkAV chunk0), .lit (.int .i64 e)]) [] := by
 refine VFun.intro (fn := Try.f141) rfl rfl (by kernel_rfl) (nb rfl) fun Γ hpar => ?_
 refine vw_seq ?_
 refine vw_region ?_
 refine u_alloc 100 rfl rfl (notPar hpar rfl) rfl rfl trivial ?_
 refine u_assign rfl rfl trivial ?_
 refine u_end trivial ?_
 refine vw_seq ?_
 refine vw_region ?_
 refine u_build rfl rfl rfl rfl rfl trivial ?_
 refine u_move rfl rfl trivial ?_
 refine u_storeAll rfl rfl rfl rfl rfl rfl rfl rfl trivial ?_
 refine u_assign rfl rfl trivial ?_
 refine u_end trivial ?_
 refine vw_ret ?_
 refine fin' [] (.inr rfl) (.cons (.cellN rfl rfl rfl rfl rfl) (.cons (.tmp rfl (nb rfl)) .nil)) (mk_wk [] rfl rfl ⟨⟨_, rfl, (.tup _ _ (.cons (.agg _ _ (.cons (subI ?_) (.cons (subI ?_) (.cons (subI ?_) (.cons (subI ?_) (.cons (subNs ?_) (.cons (subNs ?_) .nil))))))) (.cons (subI ?_) .nil)))⟩, trivial⟩ trivial (parOk rfl rfl))
 all_goals (try rfl)
theorem c84 (c : Chunk) (hd : c.data.length ≤ 70368744177664) (hl : c.early.length ≤ 17592186044000) : VFun G 84 [.agg (chunkAV c)] [] (.shr 1 (byteCells (bytes c))) [] := by
 refine VFun.intro (fn := Try.f84) rfl rfl (by kernel_rfl) (nb rfl) fun Γ hpar => ?_
 refine vw_seq ?_
 refine vw_region ?_
 refine u_box 100 rfl rfl rfl (notPar hpar rfl) rfl rfl trivial ?_
 refine u_assign rfl rfl trivial ?_
 refine u_end trivial ?_
 refine vw_seq ?_
 refine vw_region ?_
 refine u_fieldAddr rfl rfl rfl rfl rfl rfl trivial ?_
 refine u_load1 rfl rfl rfl rfl rfl rfl trivial ?_
 refine u_convB rfl rfl rfl rfl trivial ?_
 refine u_fieldAddr rfl rfl rfl rfl rfl rfl trivial ?_
 refine u_load1 rfl rfl rfl rfl rfl rfl trivial ?_
 refine u_convB rfl rfl rfl rfl trivial ?_
 refine u_buildSlice 101 rfl rfl rfl rfl rfl rfl rfl rfl rfl rfl (notPar hpar rfl) rfl rfl trivial ?_
 refine u_convTR (bs := [u8 c.kind, u8 c.num]) rfl rfl (by exact u8_cells2 _ _) rfl rfl rfl rfl trivial ?_
 refine u_assign rfl rfl trivial ?_
 refine u_end trivial ?_
 refine vw_seq ?_
 refine vw_seq ?_
 refine vw_region ?_
 refine u_fieldAddr rfl rfl rfl rfl rfl rfl trivial ?_
 refine u_load1 rfl rfl rfl rfl rfl rfl trivial ?_
 refine s_eql rfl rfl rfl trivial (fun h16 => ?_) (fun h16 => ?_)
 ·refine u_end trivial ?_
  refine vw_condT rfl ?_
  refine vw_region ?_
  refine u_move rfl rfl trivial ?_
  refine u_fieldAddr rfl rfl rfl rfl rfl rfl trivial ?_
  refine u_load1 rfl rfl rfl rfl rfl rfl trivial ?_
  refine u_convB rfl rfl rfl rfl trivial ?_
  refine u_fieldAddr rfl rfl rfl rfl rfl rfl trivial ?_
  refine u_load1 rfl rfl rfl rfl rfl rfl trivial ?_
  refine u_convB rfl rfl rfl rfl trivial ?_
  refine u_buildSlice 102 rfl rfl rfl rfl rfl rfl rfl rfl rfl rfl (notPar hpar rfl) rfl rfl trivial ?_
  refine u_convTR (bs := [u8 c.stream, u8 c.place]) rfl rfl (by exact u8_cells2 _ _) rfl rfl rfl rfl trivial ?_
  refine u_addT rfl rfl (by simp [text_size]) rfl trivial ?_
  refine u_fieldAddr rfl rfl rfl rfl rfl rfl trivial ?_
  refine u_load1 rfl rfl rfl rfl rfl rfl trivial ?_
  refine u_convT (bs := c.data) rfl (by rfl) rfl rfl rfl rfl trivial ?_
  refine u_addT rfl rfl (by rw [text_app, text_size, text_size]; simp; omega) rfl trivial ?_
  refine u_assign rfl rfl trivial ?_
  refine u_end trivial ?_
  refine vw_seq ?_
  refine vw_seq ?_
  refine vw_region ?_
  refine u_fieldAddr rfl rfl rfl rfl rfl rfl trivial ?_
  refine u_load1 rfl rfl rfl rfl rfl rfl trivial ?_
  refine u_len rfl rfl rfl trivial ?_
  refine u_move rfl rfl trivial ?_
  refine u_end trivial ?_
  refine vw_block ?_
  refine vw_loopR (fun n_ E => ∃ (i : Nat), ((i ≤ c.early.length)) ∧ n_ = c.early.length - i ∧ E = ⟨[(32, .shr 1 (intCells c.early)), (33, .lit (.int .i64 (intCells c.early).length)), (34, .lit (.int .i64 i)), (3, .lit (.string ⟨(bodyHead c ++ (c.early.take i).map u8).toArray⟩))], [], 48⟩) (n0 := _) (E0 := _) (⟨0, by omega, rfl, rfl⟩) (ren []) (mk_wk [] rfl rfl ⟨⟨_, rfl, (.shr _ _)⟩, ⟨_, rfl, (.lit _)⟩, ⟨_, rfl, (.lit _)⟩, ⟨_, rfl, (subT (by rw [head_data h16]; simp [text_app]))⟩, trivial⟩ trivial (parOk hpar rfl)) (fun n_ E hR => ?_)
  obtain ⟨i, hI, rfl, rfl⟩ := hR
  have hI0 := hI
  refine vw_seq ?_
  refine vw_region ?_
  refine s_lss rfl rfl rfl trivial (fun h35 => ?_) (fun h35 => ?_)
  ·refine u_end trivial ?_
   refine vw_seq ?_
   refine vw_condT rfl ?_
   refine vw_skip ?_
   refine vw_seq ?_
   refine vw_block ?_
   refine vw_seq ?_
   rw [intCells_length] at h35
   obtain ⟨n, hn⟩ : ∃ n, c.early[i]? = some n := ⟨_, List.getElem?_eq_getElem (by omega)⟩
   refine vw_region ?_
   refine u_indexS rfl rfl rfl rfl rfl rfl (intCells_get hn) rfl trivial ?_
   refine u_loadS1 rfl rfl rfl rfl rfl trivial ?_
   refine u_assign rfl rfl trivial ?_
   refine u_end trivial ?_
   refine vw_region ?_
   refine u_move rfl rfl trivial ?_
   refine u_move rfl rfl trivial ?_
   refine u_convB rfl rfl rfl rfl trivial ?_
   refine u_buildSlice 123 rfl rfl rfl rfl rfl rfl rfl rfl rfl rfl (notPar hpar rfl) rfl rfl trivial ?_
   refine u_convTR (bs := [u8 n]) rfl rfl (by exact u8_cell _) rfl rfl rfl rfl trivial ?_
   refine u_addT rfl rfl (by have hq := head_len c; rw [text_size, text_size]; simp; omega) rfl trivial ?_
   refine u_assign rfl rfl trivial ?_
   refine u_end trivial ?_
   refine vw_region ?_
   refine u_add rfl rfl rfl (by unfold inI; omega) rfl trivial ?_
   refine u_move rfl rfl trivial ?_
   refine u_end trivial ?_
   refine ⟨_, _, ren [], ?_, ⟨i + 1, ?_, rfl, rfl⟩, mk_wk [] rfl rfl ⟨⟨_, rfl, (.shr _ _)⟩, ⟨_, rfl, (.lit _)⟩, ⟨_, rfl, (.lit _)⟩, ⟨_, rfl, (subT (by rw [u8s_take c.early hn, text_app, List.append_assoc]))⟩, trivial⟩ trivial (parOk hpar rfl)⟩
   ·omega
   ·omega
  ·refine u_end trivial ?_
   refine vw_seq ?_
   refine vw_condF rfl ?_
   refine vw_exit ?_
   refine iteP rfl ?_
   refine vw_seq ?_
   rw [intCells_length] at h35
   rw [List.take_of_length_le (by omega)]
   refine vw_region ?_
   refine u_move rfl rfl trivial ?_
   refine u_convTB (bs := body c) rfl (by rfl) rfl rfl rfl (by have hq := head_len c; rw [body_is]; simp; omega) rfl trivial ?_
   refine u_call rfl (VFun.read (c58 0 (body c) (by have hq := head_len c; rw [body_is]; simp; omega))) (.cons ((.shr _ _)) .nil) rfl trivial ?_
   refine u_assign rfl rfl trivial ?_
   refine u_end trivial ?_
   refine vw_ret ?_
   refine fin' [] (.inr rfl) (.cons (.tmp rfl (nb rfl)) .nil) (mk_wk [] rfl rfl ⟨⟨_, rfl, (subS ?_)⟩, trivial⟩ trivial (parOk rfl rfl))
   all_goals (try rfl)
 ·refine u_end trivial ?_
  refine vw_condF rfl ?_
  refine vw_skip ?_
  refine vw_seq ?_
  refine vw_seq ?_
  refine vw_region ?_
  refine u_fieldAddr rfl rfl rfl rfl rfl rfl trivial ?_
  refine u_load1 rfl rfl rfl rfl rfl rfl trivial ?_
  refine u_len rfl rfl rfl trivial ?_
  refine u_move rfl rfl trivial ?_
  refine u_end trivial ?_
  refine vw_block ?_
  refine vw_loopR (fun n_ E => ∃ (i : Nat), ((i ≤ c.early.length)) ∧ n_ = c.early.length - i ∧ E = ⟨[(32, .shr 1 (intCells c.early)), (33, .lit (.int .i64 (intCells c.early).length)), (34, .lit (.int .i64 i)), (3, .lit (.string ⟨(bodyHead c ++ (c.early.take i).map u8).toArray⟩))], [], 48⟩) (n0 := _) (E0 := _) (⟨0, by omega, rfl, rfl⟩) (ren []) (mk_wk [] rfl rfl ⟨⟨_, rfl, (.shr _ _)⟩, ⟨_, rfl, (.lit _)⟩, ⟨_, rfl, (.lit _)⟩, ⟨_, rfl, (subT (by rw [head_ack h16]; simp))⟩, trivial⟩ trivial (parOk hpar rfl)) (fun n_ E hR => ?_)
  obtain ⟨i, hI, rfl, rfl⟩ := hR
  have hI0 := hI
  refine vw_seq ?_
  refine vw_region ?_
  refine s_lss rfl rfl rfl trivial (fun h35 => ?_) (fun h35 => ?_)
  ·refine u_end trivial ?_
   refine vw_seq ?_
   refine vw_condT rfl ?_
   refine vw_skip ?_
   refine vw_seq ?_
   refine vw_block ?_
   refine vw_seq ?_
   rw [intCells_length] at h35
   obtain ⟨n, hn⟩ : ∃ n, c.early[i]? = some n := ⟨_, List.getElem?_eq_getElem (by omega)⟩
   refine vw_region ?_
   refine u_indexS rfl rfl rfl rfl rfl rfl (intCells_get hn) rfl trivial ?_
   refine u_loadS1 rfl rfl rfl rfl rfl trivial ?_
   refine u_assign rfl rfl trivial ?_
   refine u_end trivial ?_
   refine vw_region ?_
   refine u_move rfl rfl trivial ?_
   refine u_move rfl rfl trivial ?_
   refine u_convB rfl rfl rfl rfl trivial ?_
   refine u_buildSlice 122 rfl rfl rfl rfl rfl rfl rfl rfl rfl rfl (notPar hpar rfl) rfl rfl trivial ?_
   refine u_convTR (bs := [u8 n]) rfl rfl (by exact u8_cell _) rfl rfl rfl rfl trivial ?_
   refine u_addT rfl rfl (by have hq := head_len c; rw [text_size, text_size]; simp; omega) rfl trivial ?_
   refine u_assign rfl rfl trivial ?_
   refine u_end trivial ?_
   refine vw_region ?_
   refine u_add rfl rfl rfl (by unfold inI; omega) rfl trivial ?_
   refine u_move rfl rfl trivial ?_
   refine u_end trivial ?_
   refine ⟨_, _, ren [], ?_, ⟨i + 1, ?_, rfl, rfl⟩, mk_wk [] rfl rfl ⟨⟨_, rfl, (.shr _ _)⟩, ⟨_, rfl, (.lit _)⟩, ⟨_, rfl, (.lit _)⟩, ⟨_, rfl, (subT (by rw [u8s_take c.early hn, text_app, List.append_assoc]))⟩, trivial⟩ trivial (parOk hpar rfl)⟩
   ·omega
   ·omega
  ·refine u_end trivial ?_
   refine vw_seq ?_
   refine vw_condF rfl ?_
   refine vw_exit ?_
   refine iteP rfl ?_
   refine vw_seq ?_
   rw [intCells_length] at h35
   rw [List.take_of_length_le (by omega)]
   refine vw_region ?_
   refine u_move rfl rfl trivial ?_
   refine u_convTB (bs := body c) rfl (by rfl) rfl rfl rfl (by have hq := head_len c; rw [body_is]; simp; omega) rfl trivial ?_
   refine u_call rfl (VFun.read (c58 0 (body c) (by have hq := head_len c; rw [body_is]; simp; omega))) (.cons ((.shr _ _)) .nil) rfl trivial ?_
   refine u_assign rfl rfl trivial ?_
   refine u_end trivial ?_
   refine vw_ret ?_
   refine fin' [] (.inr rfl) (.cons (.tmp rfl (nb rfl)) .nil) (mk_wk [] rfl rfl ⟨⟨_, rfl, (subS ?_)⟩, trivial⟩ trivial (parOk rfl rfl))
   all_goals (try rfl)
theorem c83 (K : Nat) (c : Chunk) (hd : c.data.length ≤ 70368744177664) (hl : c.early.length ≤ 17592186044000) (he : c.kind = 1 → c.early = []) : VFun G 83 [.agg (chunkAV c)] [] (.row K) [(K, .row 5 1 (byteCells (bytes c)))] := by
 refine VFun.intro (fn := Try.f83) rfl rfl (by kernel_rfl) (nb rfl) fun Γ hpar => ?_
 refine vw_seq ?_
 refine vw_region ?_
 refine u_box 100 rfl rfl rfl (notPar hpar rfl) rfl rfl trivial ?_
 refine u_assign rfl rfl trivial ?_
 refine u_end trivial ?_
 refine vw_seq ?_
 refine vw_region ?_
 refine u_fieldAddr rfl rfl rfl rfl rfl rfl trivial ?_
 refine u_load1 rfl rfl rfl rfl rfl rfl trivial ?_
 refine u_convB rfl rfl rfl rfl trivial ?_
 refine u_fieldAddr rfl rfl rfl rfl rfl rfl trivial ?_
 refine u_load1 rfl rfl rfl rfl rfl rfl trivial ?_
 refine u_convB rfl rfl rfl rfl trivial ?_
 refine u_buildSlice 101 rfl rfl rfl rfl rfl rfl rfl rfl rfl rfl (notPar hpar rfl) rfl rfl trivial ?_
 refine u_assign rfl rfl trivial ?_
 refine u_end trivial ?_
 refine vw_seq ?_
 refine vw_seq ?_
 refine vw_region ?_
 refine u_fieldAddr rfl rfl rfl rfl rfl rfl trivial ?_
 refine u_load1 rfl rfl rfl rfl rfl rfl trivial ?_
 refine s_eql rfl rfl rfl trivial (fun h15 => ?_) (fun h15 => ?_)
 ·refine u_end trivial ?_
  refine vw_condT rfl ?_
  refine vw_seq ?_
  refine vw_region ?_
  refine u_move rfl rfl trivial ?_
  refine u_fieldAddr rfl rfl rfl rfl rfl rfl trivial ?_
  refine u_load1 rfl rfl rfl rfl rfl rfl trivial ?_
  refine u_convB rfl rfl rfl rfl trivial ?_
  refine u_fieldAddr rfl rfl rfl rfl rfl rfl trivial ?_
  refine u_load1 rfl rfl rfl rfl rfl rfl trivial ?_
  refine u_convB rfl rfl rfl rfl trivial ?_
  refine u_buildSlice 102 rfl rfl rfl rfl rfl rfl rfl rfl rfl rfl (notPar hpar rfl) rfl rfl trivial ?_
  refine u_append 103 rfl rfl rfl (srcRow rfl) rfl (notPar hpar rfl) rfl rfl rfl rfl rfl (by simp [cellsL]) rfl trivial ?_
  refine u_assign rfl rfl trivial ?_
  refine u_end trivial ?_
  refine vw_seq ?_
  refine vw_region ?_
  refine u_move rfl rfl trivial ?_
  refine u_fieldAddr rfl rfl rfl rfl rfl rfl trivial ?_
  refine u_load1 rfl rfl rfl rfl rfl rfl trivial ?_
  refine u_append 104 rfl rfl rfl (.shr _ _) rfl (notPar hpar rfl) rfl rfl rfl rfl rfl (by simp [cellsL, byteCells_length]; omega) rfl trivial ?_
  refine u_callN [(104, _)] rfl (c57 105 (body c) (by have hq := head_len c; rw [body_is]; simp; omega)) (.cons (subFz rfl (lookNe rfl) (by rw [body_is, he h15, head_data h15]; simp [byteCells, u8_toNat, cellsL, cellsOf])) .nil) (sub1 rfl) (.inr ⟨rfl, scal_bytes _, trivial⟩) rfl (notPar hpar rfl) rfl trivial ?_
  refine u_assign rfl rfl trivial ?_
  refine u_end trivial ?_
  refine vw_ret ?_
  refine fin1 (.inr rfl) (.cons (.tmp rfl (nb rfl)) .nil) rfl ?_ (subRow)
  ·rfl
 ·refine u_end trivial ?_
  refine vw_condF rfl ?_
  refine vw_skip ?_
  refine vw_seq ?_
  refine vw_seq ?_
  refine vw_region ?_
  refine u_fieldAddr rfl rfl rfl rfl rfl rfl trivial ?_
  refine u_load1 rfl rfl rfl rfl rfl rfl trivial ?_
  refine u_len rfl rfl rfl trivial ?_
  refine u_move rfl rfl trivial ?_
  refine u_end trivial ?_
  refine vw_block ?_
  refine vw_loopR (fun n_ E => ∃ (i : Nat), ((i ≤ c.early.length)) ∧ n_ = c.early.length - i ∧ E = ⟨[(31, .shr 1 (intCells c.early)), (32, .lit (.int .i64 (intCells c.early).length)), (33, .lit (.int .i64 i)), (3, .row 3)], [(3, .row 5 1 (byteCells (bodyHead c ++ (c.early.take i).map u8)))], 45⟩) (n0 := _) (E0 := _) (⟨0, by omega, rfl, rfl⟩) (ren [(3, 101)]) (mk_wk [(3, 101)] rfl rfl ⟨⟨_, rfl, (.shr _ _)⟩, ⟨_, rfl, (.lit _)⟩, ⟨_, rfl, (.lit _)⟩, ⟨_, rfl, (.row _ _ rfl (lookNe rfl))⟩, trivial⟩ ⟨(.inl ⟨_, rfl, rowEq rfl (by rw [head_ack h15]; exact (u8_cells2 _ _).trans (by simp))⟩), trivial⟩ (parOk hpar rfl)) (fun n_ E hR => ?_)
  obtain ⟨i, hI, rfl, rfl⟩ := hR
  have hI0 := hI
  refine vw_seq ?_
  refine vw_region ?_
  refine s_lss rfl rfl rfl trivial (fun h34 => ?_) (fun h34 => ?_)
  ·refine u_end trivial ?_
   refine vw_seq ?_
   refine vw_condT rfl ?_
   refine vw_skip ?_
   refine vw_seq ?_
   refine vw_block ?_
   refine vw_seq ?_
   rw [intCells_length] at h34
   obtain ⟨n, hn⟩ : ∃ n, c.early[i]? = some n := ⟨_, List.getElem?_eq_getElem (by omega)⟩
   refine vw_region ?_
   refine u_indexS rfl rfl rfl rfl rfl rfl (intCells_get hn) rfl trivial ?_
   refine u_loadS1 rfl rfl rfl rfl rfl trivial ?_
   refine u_assign rfl rfl trivial ?_
   refine u_end trivial ?_
   refine vw_region ?_
   refine u_move rfl rfl trivial ?_
   refine u_move rfl rfl trivial ?_
   refine u_convB rfl rfl rfl rfl trivial ?_
   refine u_buildSlice 122 rfl rfl rfl rfl rfl rfl rfl rfl rfl rfl (notPar hpar rfl) rfl rfl trivial ?_
   refine u_append 123 rfl rfl rfl (srcRow rfl) rfl (notPar hpar rfl) rfl rfl rfl rfl rfl (by have hq := head_len c; simp [byteCells_length, cellsL]; omega) rfl trivial ?_
   refine u_assign rfl rfl trivial ?_
   refine u_end trivial ?_
   refine vw_region ?_
   refine u_add rfl rfl rfl (by unfold inI; omega) rfl trivial ?_
   refine u_move rfl rfl trivial ?_
   refine u_end trivial ?_
   refine ⟨_, _, ren [(3, 123)], ?_, ⟨i + 1, ?_, rfl, rfl⟩, mk_wk [(3, 123)] rfl rfl ⟨⟨_, rfl, (.shr _ _)⟩, ⟨_, rfl, (.lit _)⟩, ⟨_, rfl, (.lit _)⟩, ⟨_, rfl, (.row _ _ rfl (lookNe rfl))⟩, trivial⟩ ⟨(.inl ⟨_, rfl, rowEq rfl (by rw [u8s_take c.early hn, ← List.append_assoc, byteCells_append _ [u8 n], ← u8_cell]; rfl)⟩), trivial⟩ (parOk hpar rfl)⟩
   ·omega
   ·omega
  ·refine u_end trivial ?_
   refine vw_seq ?_
   refine vw_condF rfl ?_
   refine vw_exit ?_
   refine iteP rfl ?_
   refine vw_seq ?_
   rw [intCells_length] at h34
   rw [List.take_of_length_le (by omega)]
   refine vw_region ?_
   refine u_move rfl rfl trivial ?_
   refine u_callN [(3, _)] rfl (c57 122 (body c) (by have hq := head_len c; rw [body_is]; simp; omega)) (.cons (subFz rfl (lookNe rfl) (by rw [body_is])) .nil) (sub1 rfl) (.inr ⟨rfl, scal_bytes _, trivial⟩) rfl (notPar hpar rfl) rfl trivial ?_
   refine u_assign rfl rfl trivial ?_
   refine u_end trivial ?_
   refine vw_ret ?_
   refine fin1 (.inr rfl) (.cons (.tmp rfl (nb rfl)) .nil) rfl ?_ (subRow)
   ·rfl
end Go.Proofs.Ytaadloihphpdbaa
