/- Walks of the package chunk and of the document's answer to it: bytes. Printed by a small program (walk.py). -/
import Derived.Test.YtaadloihphpdbaaZWChunk
import Derived.Test.YtaadloihphpdbaaZVcB
set_option linter.unusedVariables false
set_option linter.unusedSimpArgs false
set_option maxRecDepth 4000
namespace Go.Proofs.Ytaadloihphpdbaa
open Go Go.Vc Go.RowKit
def bodyHead (c : Chunk) : List UInt8 := [u8 c.kind, u8 c.num] ++ (if c.kind = 1 then [u8 c.stream, u8 c.place] ++ c.data else [])
theorem body_is (c : Chunk) : body c = bodyHead c ++ c.early.map u8 := rfl
theorem head_data {c : Chunk} (h : c.kind = 1) : bodyHead c = [u8 c.kind, u8 c.num] ++ ([u8 c.stream, u8 c.place] ++ c.data) := by unfold bodyHead; rw [if_pos h]
theorem head_ack {c : Chunk} (h : c.kind ≠ 1) : bodyHead c = [u8 c.kind, u8 c.num] := by unfold bodyHead; rw [if_neg h]; simp
theorem u8_cells2 (a b : Int) : [[AV.lit (.int .u8 (a % 256))], [AV.lit (.int .u8 (b % 256))]] = byteCells [u8 a, u8 b] := by simp [byteCells, zew]
theorem head_len (c : Chunk) : (bodyHead c).length ≤ 4 + c.data.length := by
  unfold bodyHead; split <;> simp <;> omega
theorem c141 (e : Int) : VFun G 141 [.lit (.int .i64 e)] [] (.tup [.agg (zcm zft), .lit (.int .i64 e)]) [] := by
 refine VFun.intro (fn := Try.f141) rfl rfl (by kernel_rfl) (nb rfl) fun Γ hpar => ?_
 refine zad <| zaa <| zbd 100 rfl rfl (zar hpar rfl) rfl rfl tv <| zae rfl rfl tv <| zaf tv <| zad <| zaa <| zdi rfl rfl rfl rfl rfl tv <| zac rfl rfl tv <| zaj rfl rfl rfl rfl rfl rfl rfl rfl tv <| zae rfl rfl tv <| zaf tv <| zaw <| fin' [] (.inr rfl) (.cons (.cellN rfl rfl rfl rfl rfl) (.cons (.tmp rfl (nb rfl)) .nil)) (zay [] rfl rfl ⟨⟨_, rfl, (.tup _ _ (.cons (.agg _ _ (.cons (subI ?_) (.cons (subI ?_) (.cons (subI ?_) (.cons (subI ?_) (.cons (subNs ?_) (.cons (subNs ?_) .nil))))))) (.cons (subI ?_) .nil)))⟩, tv⟩ tv (zaz rfl rfl))
 all_goals (try rfl)
theorem c84 (c : Chunk) (hd : c.data.length ≤ 70368744177664) (hl : c.early.length ≤ 17592186044000) : VFun G 84 [.agg (zcm c)] [] (.shr 1 (byteCells (bytes c))) [] := by
 refine VFun.intro (fn := Try.f84) rfl rfl (by kernel_rfl) (nb rfl) fun Γ hpar => ?_
 refine zad <| zaa <| zdh 100 rfl rfl rfl (zar hpar rfl) rfl rfl tv <| zae rfl rfl tv <| zaf tv <| zad <| zaa <| zab rfl rfl rfl rfl rfl rfl tv <| zah rfl rfl rfl rfl rfl rfl tv <| u_convB rfl rfl rfl rfl tv <| zab rfl rfl rfl rfl rfl rfl tv <| zah rfl rfl rfl rfl rfl rfl tv <| u_convB rfl rfl rfl rfl tv <| zba 101 rfl rfl rfl rfl rfl rfl rfl rfl rfl rfl (zar hpar rfl) rfl rfl tv <| u_convTR (bs := [u8 c.kind, u8 c.num]) rfl rfl (by exact u8_cells2 _ _) rfl rfl rfl rfl tv <| zae rfl rfl tv <| zaf tv <| zad <| zad <| zaa <| zab rfl rfl rfl rfl rfl rfl tv <| zah rfl rfl rfl rfl rfl rfl tv <| zci rfl rfl rfl tv (fun h16 => ?_) (fun h16 => ?_)
 ·refine zaf tv <| zao rfl <| zaa <| zac rfl rfl tv <| zab rfl rfl rfl rfl rfl rfl tv <| zah rfl rfl rfl rfl rfl rfl tv <| u_convB rfl rfl rfl rfl tv <| zab rfl rfl rfl rfl rfl rfl tv <| zah rfl rfl rfl rfl rfl rfl tv <| u_convB rfl rfl rfl rfl tv <| zba 102 rfl rfl rfl rfl rfl rfl rfl rfl rfl rfl (zar hpar rfl) rfl rfl tv <| u_convTR (bs := [u8 c.stream, u8 c.place]) rfl rfl (by exact u8_cells2 _ _) rfl rfl rfl rfl tv <| u_addT rfl rfl (by simp [text_size]) rfl tv <| zab rfl rfl rfl rfl rfl rfl tv <| zah rfl rfl rfl rfl rfl rfl tv <| u_convT (bs := c.data) rfl (by rfl) rfl rfl rfl rfl tv <| u_addT rfl rfl (by rw [text_app, text_size, text_size]; simp; omega) rfl tv <| zae rfl rfl tv <| zaf tv <| zad <| zad <| zaa <| zab rfl rfl rfl rfl rfl rfl tv <| zah rfl rfl rfl rfl rfl rfl tv <| zby rfl rfl rfl tv <| zac rfl rfl tv <| zaf tv <| zbb <| zbt (fun n_ E => ∃ (i : Nat), ((i ≤ c.early.length)) ∧ n_ = c.early.length - i ∧ E = ⟨[(32, .shr 1 (intCells c.early)), (33, .lit (.int .i64 (intCells c.early).length)), (34, .lit (.int .i64 i)), (3, .lit (.string ⟨(bodyHead c ++ (c.early.take i).map u8).toArray⟩))], [], 48⟩) (n0 := _) (E0 := _) (⟨0, by omega, rfl, rfl⟩) (ren []) (zay [] rfl rfl ⟨⟨_, rfl, (.shr _ _)⟩, ⟨_, rfl, (.lit _)⟩, ⟨_, rfl, (.lit _)⟩, ⟨_, rfl, (subT (by rw [head_data h16]; simp [text_app]))⟩, tv⟩ tv (zaz hpar rfl)) (fun n_ E hR => ?_)
  obtain ⟨i, hI, rfl, rfl⟩ := hR
  have hI0 := hI
  refine zad <| zaa <| zcg rfl rfl rfl tv (fun h35 => ?_) (fun h35 => ?_)
  ·refine zaf tv <| zad <| zao rfl <| zax <| zad <| zbb <| zad ?_
   rw [zal] at h35
   obtain ⟨n, hn⟩ : ∃ n, c.early[i]? = some n := ⟨_, List.getElem?_eq_getElem (by omega)⟩
   refine zaa <| zbh rfl rfl rfl rfl rfl rfl (zda hn) rfl tv <| zbv rfl rfl rfl rfl rfl tv <| zae rfl rfl tv <| zaf tv <| zaa <| zac rfl rfl tv <| zac rfl rfl tv <| u_convB rfl rfl rfl rfl tv <| zba 123 rfl rfl rfl rfl rfl rfl rfl rfl rfl rfl (zar hpar rfl) rfl rfl tv <| u_convTR (bs := [u8 n]) rfl rfl (by exact u8_cell _) rfl rfl rfl rfl tv <| u_addT rfl rfl (by have hq := head_len c; rw [text_size, text_size]; simp; omega) rfl tv <| zae rfl rfl tv <| zaf tv <| zaa <| zbz rfl rfl rfl (by unfold inI; omega) rfl tv <| zac rfl rfl tv <| zaf tv <| ⟨_, _, ren [], ?_, ⟨i + 1, ?_, rfl, rfl⟩, zay [] rfl rfl ⟨⟨_, rfl, (.shr _ _)⟩, ⟨_, rfl, (.lit _)⟩, ⟨_, rfl, (.lit _)⟩, ⟨_, rfl, (subT (by rw [u8s_take c.early hn, text_app, List.append_assoc]))⟩, tv⟩ tv (zaz hpar rfl)⟩
   ·omega
   ·omega
  ·refine zaf tv <| zad <| zap rfl <| zbw <| iteP rfl <| zad ?_
   rw [zal] at h35
   rw [List.take_of_length_le (by omega)]
   refine zaa <| zac rfl rfl tv <| u_convTB (bs := body c) rfl (by rfl) rfl rfl rfl (by have hq := head_len c; rw [body_is]; simp; omega) rfl tv <| zbi rfl (VFun.read (c58 0 (body c) (by have hq := head_len c; rw [body_is]; simp; omega))) (.cons ((.shr _ _)) .nil) rfl tv <| zae rfl rfl tv <| zaf tv <| zaw <| fin' [] (.inr rfl) (.cons (.tmp rfl (nb rfl)) .nil) (zay [] rfl rfl ⟨⟨_, rfl, (subS ?_)⟩, tv⟩ tv (zaz rfl rfl))
   all_goals (try rfl)
 ·refine zaf tv <| zap rfl <| zax <| zad <| zad <| zaa <| zab rfl rfl rfl rfl rfl rfl tv <| zah rfl rfl rfl rfl rfl rfl tv <| zby rfl rfl rfl tv <| zac rfl rfl tv <| zaf tv <| zbb <| zbt (fun n_ E => ∃ (i : Nat), ((i ≤ c.early.length)) ∧ n_ = c.early.length - i ∧ E = ⟨[(32, .shr 1 (intCells c.early)), (33, .lit (.int .i64 (intCells c.early).length)), (34, .lit (.int .i64 i)), (3, .lit (.string ⟨(bodyHead c ++ (c.early.take i).map u8).toArray⟩))], [], 48⟩) (n0 := _) (E0 := _) (⟨0, by omega, rfl, rfl⟩) (ren []) (zay [] rfl rfl ⟨⟨_, rfl, (.shr _ _)⟩, ⟨_, rfl, (.lit _)⟩, ⟨_, rfl, (.lit _)⟩, ⟨_, rfl, (subT (by rw [head_ack h16]; simp))⟩, tv⟩ tv (zaz hpar rfl)) (fun n_ E hR => ?_)
  obtain ⟨i, hI, rfl, rfl⟩ := hR
  have hI0 := hI
  refine zad <| zaa <| zcg rfl rfl rfl tv (fun h35 => ?_) (fun h35 => ?_)
  ·refine zaf tv <| zad <| zao rfl <| zax <| zad <| zbb <| zad ?_
   rw [zal] at h35
   obtain ⟨n, hn⟩ : ∃ n, c.early[i]? = some n := ⟨_, List.getElem?_eq_getElem (by omega)⟩
   refine zaa <| zbh rfl rfl rfl rfl rfl rfl (zda hn) rfl tv <| zbv rfl rfl rfl rfl rfl tv <| zae rfl rfl tv <| zaf tv <| zaa <| zac rfl rfl tv <| zac rfl rfl tv <| u_convB rfl rfl rfl rfl tv <| zba 122 rfl rfl rfl rfl rfl rfl rfl rfl rfl rfl (zar hpar rfl) rfl rfl tv <| u_convTR (bs := [u8 n]) rfl rfl (by exact u8_cell _) rfl rfl rfl rfl tv <| u_addT rfl rfl (by have hq := head_len c; rw [text_size, text_size]; simp; omega) rfl tv <| zae rfl rfl tv <| zaf tv <| zaa <| zbz rfl rfl rfl (by unfold inI; omega) rfl tv <| zac rfl rfl tv <| zaf tv <| ⟨_, _, ren [], ?_, ⟨i + 1, ?_, rfl, rfl⟩, zay [] rfl rfl ⟨⟨_, rfl, (.shr _ _)⟩, ⟨_, rfl, (.lit _)⟩, ⟨_, rfl, (.lit _)⟩, ⟨_, rfl, (subT (by rw [u8s_take c.early hn, text_app, List.append_assoc]))⟩, tv⟩ tv (zaz hpar rfl)⟩
   ·omega
   ·omega
  ·refine zaf tv <| zad <| zap rfl <| zbw <| iteP rfl <| zad ?_
   rw [zal] at h35
   rw [List.take_of_length_le (by omega)]
   refine zaa <| zac rfl rfl tv <| u_convTB (bs := body c) rfl (by rfl) rfl rfl rfl (by have hq := head_len c; rw [body_is]; simp; omega) rfl tv <| zbi rfl (VFun.read (c58 0 (body c) (by have hq := head_len c; rw [body_is]; simp; omega))) (.cons ((.shr _ _)) .nil) rfl tv <| zae rfl rfl tv <| zaf tv <| zaw <| fin' [] (.inr rfl) (.cons (.tmp rfl (nb rfl)) .nil) (zay [] rfl rfl ⟨⟨_, rfl, (subS ?_)⟩, tv⟩ tv (zaz rfl rfl))
   all_goals (try rfl)
theorem c83 (K : Nat) (c : Chunk) (hd : c.data.length ≤ 70368744177664) (hl : c.early.length ≤ 17592186044000) (he : c.kind = 1 → c.early = []) : VFun G 83 [.agg (zcm c)] [] (.row K) [(K, .row 5 1 (byteCells (bytes c)))] := by
 refine VFun.intro (fn := Try.f83) rfl rfl (by kernel_rfl) (nb rfl) fun Γ hpar => ?_
 refine zad <| zaa <| zdh 100 rfl rfl rfl (zar hpar rfl) rfl rfl tv <| zae rfl rfl tv <| zaf tv <| zad <| zaa <| zab rfl rfl rfl rfl rfl rfl tv <| zah rfl rfl rfl rfl rfl rfl tv <| u_convB rfl rfl rfl rfl tv <| zab rfl rfl rfl rfl rfl rfl tv <| zah rfl rfl rfl rfl rfl rfl tv <| u_convB rfl rfl rfl rfl tv <| zba 101 rfl rfl rfl rfl rfl rfl rfl rfl rfl rfl (zar hpar rfl) rfl rfl tv <| zae rfl rfl tv <| zaf tv <| zad <| zad <| zaa <| zab rfl rfl rfl rfl rfl rfl tv <| zah rfl rfl rfl rfl rfl rfl tv <| zci rfl rfl rfl tv (fun h15 => ?_) (fun h15 => ?_)
 ·refine zaf tv <| zao rfl <| zad <| zaa <| zac rfl rfl tv <| zab rfl rfl rfl rfl rfl rfl tv <| zah rfl rfl rfl rfl rfl rfl tv <| u_convB rfl rfl rfl rfl tv <| zab rfl rfl rfl rfl rfl rfl tv <| zah rfl rfl rfl rfl rfl rfl tv <| u_convB rfl rfl rfl rfl tv <| zba 102 rfl rfl rfl rfl rfl rfl rfl rfl rfl rfl (zar hpar rfl) rfl rfl tv <| zbn 103 rfl rfl rfl (zdb rfl) rfl (zar hpar rfl) rfl rfl rfl rfl rfl (by simp [zbx]) rfl tv <| zae rfl rfl tv <| zaf tv <| zad <| zaa <| zac rfl rfl tv <| zab rfl rfl rfl rfl rfl rfl tv <| zah rfl rfl rfl rfl rfl rfl tv <| zbn 104 rfl rfl rfl (.shr _ _) rfl (zar hpar rfl) rfl rfl rfl rfl rfl (by simp [zbx, byteCells_length]; omega) rfl tv <| u_callN [(104, _)] rfl (c57 105 (body c) (by have hq := head_len c; rw [body_is]; simp; omega)) (.cons (zcd rfl (zak rfl) (by rw [body_is, he h15, head_data h15]; simp [byteCells, zew, zbx, cellsOf])) .nil) (sub1 rfl) (.inr ⟨rfl, scal_bytes _, tv⟩) rfl (zar hpar rfl) rfl tv <| zae rfl rfl tv <| zaf tv <| zaw <| fin1 (.inr rfl) (.cons (.tmp rfl (nb rfl)) .nil) rfl ?_ (subRow)
  ·rfl
 ·refine zaf tv <| zap rfl <| zax <| zad <| zad <| zaa <| zab rfl rfl rfl rfl rfl rfl tv <| zah rfl rfl rfl rfl rfl rfl tv <| zby rfl rfl rfl tv <| zac rfl rfl tv <| zaf tv <| zbb <| zbt (fun n_ E => ∃ (i : Nat), ((i ≤ c.early.length)) ∧ n_ = c.early.length - i ∧ E = ⟨[(31, .shr 1 (intCells c.early)), (32, .lit (.int .i64 (intCells c.early).length)), (33, .lit (.int .i64 i)), (3, .row 3)], [(3, .row 5 1 (byteCells (bodyHead c ++ (c.early.take i).map u8)))], 45⟩) (n0 := _) (E0 := _) (⟨0, by omega, rfl, rfl⟩) (ren [(3, 101)]) (zay [(3, 101)] rfl rfl ⟨⟨_, rfl, (.shr _ _)⟩, ⟨_, rfl, (.lit _)⟩, ⟨_, rfl, (.lit _)⟩, ⟨_, rfl, (.row _ _ rfl (zak rfl))⟩, tv⟩ ⟨(.inl ⟨_, rfl, zcq rfl (by rw [head_ack h15]; exact (u8_cells2 _ _).trans (by simp))⟩), tv⟩ (zaz hpar rfl)) (fun n_ E hR => ?_)
  obtain ⟨i, hI, rfl, rfl⟩ := hR
  have hI0 := hI
  refine zad <| zaa <| zcg rfl rfl rfl tv (fun h34 => ?_) (fun h34 => ?_)
  ·refine zaf tv <| zad <| zao rfl <| zax <| zad <| zbb <| zad ?_
   rw [zal] at h34
   obtain ⟨n, hn⟩ : ∃ n, c.early[i]? = some n := ⟨_, List.getElem?_eq_getElem (by omega)⟩
   refine zaa <| zbh rfl rfl rfl rfl rfl rfl (zda hn) rfl tv <| zbv rfl rfl rfl rfl rfl tv <| zae rfl rfl tv <| zaf tv <| zaa <| zac rfl rfl tv <| zac rfl rfl tv <| u_convB rfl rfl rfl rfl tv <| zba 122 rfl rfl rfl rfl rfl rfl rfl rfl rfl rfl (zar hpar rfl) rfl rfl tv <| zbn 123 rfl rfl rfl (zdb rfl) rfl (zar hpar rfl) rfl rfl rfl rfl rfl (by have hq := head_len c; simp [byteCells_length, zbx]; omega) rfl tv <| zae rfl rfl tv <| zaf tv <| zaa <| zbz rfl rfl rfl (by unfold inI; omega) rfl tv <| zac rfl rfl tv <| zaf tv <| ⟨_, _, ren [(3, 123)], ?_, ⟨i + 1, ?_, rfl, rfl⟩, zay [(3, 123)] rfl rfl ⟨⟨_, rfl, (.shr _ _)⟩, ⟨_, rfl, (.lit _)⟩, ⟨_, rfl, (.lit _)⟩, ⟨_, rfl, (.row _ _ rfl (zak rfl))⟩, tv⟩ ⟨(.inl ⟨_, rfl, zcq rfl (by rw [u8s_take c.early hn, ← List.append_assoc, byteCells_append _ [u8 n], ← u8_cell]; rfl)⟩), tv⟩ (zaz hpar rfl)⟩
   ·omega
   ·omega
  ·refine zaf tv <| zad <| zap rfl <| zbw <| iteP rfl <| zad ?_
   rw [zal] at h34
   rw [List.take_of_length_le (by omega)]
   refine zaa <| zac rfl rfl tv <| u_callN [(3, _)] rfl (c57 122 (body c) (by have hq := head_len c; rw [body_is]; simp; omega)) (.cons (zcd rfl (zak rfl) (by rw [body_is])) .nil) (sub1 rfl) (.inr ⟨rfl, scal_bytes _, tv⟩) rfl (zar hpar rfl) rfl tv <| zae rfl rfl tv <| zaf tv <| zaw <| fin1 (.inr rfl) (.cons (.tmp rfl (nb rfl)) .nil) rfl ?_ (subRow)
   ·rfl
end Go.Proofs.Ytaadloihphpdbaa
