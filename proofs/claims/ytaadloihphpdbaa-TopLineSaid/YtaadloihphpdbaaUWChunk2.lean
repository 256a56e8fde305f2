/- Walks of the package chunk and of the document's answer to it: bytes. Printed by a small program (walk.py). -/
import Derived.Test.YtaadloihphpdbaaUWChunk
import Derived.Test.YtaadloihphpdbaaUVcB
set_option linter.unusedVariables false
set_option linter.unusedSimpArgs false
set_option maxRecDepth 4000
namespace Go.Proofs.Ytaadloihphpdbaa
open Go Go.Vc Go.RowKit
def bodyHead (c : Chunk) : List UInt8 := [u8 c.kind, u8 c.num] ++ (if c.kind = 1 then [u8 c.stream, u8 c.place] ++ c.data else [])
theorem body_is (c : Chunk) : body c = bodyHead c ++ c.early.map u8 := rfl
theorem head_data {c : Chunk} (h : c.kind = 1) : bodyHead c = [u8 c.kind, u8 c.num] ++ ([u8 c.stream, u8 c.place] ++ c.data) := by unfold bodyHead; rw [if_pos h]
theorem head_ack {c : Chunk} (h : c.kind ≠ 1) : bodyHead c = [u8 c.kind, u8 c.num] := by unfold bodyHead; rw [if_neg h]; simp
theorem u8_cells2 (a b : Int) : [[AV.lit (.int .u8 (a % 256))], [AV.lit (.int .u8 (b % 256))]] = byteCells [u8 a, u8 b] := by simp [byteCells, zdd]
theorem head_len (c : Chunk) : (bodyHead c).length ≤ 4 + c.data.length := by
  unfold bodyHead; split <;> simp <;> omega
theorem c83 (K : Nat) (c : Chunk) (hd : c.data.length ≤ 70368744177664) (hl : c.early.length ≤ 17592186044000) (he : c.kind = 1 → c.early = []) : VFun G 83 [.agg (zcn c)] [] (.row K) [(K, .row 5 1 (byteCells (bytes c)))] := by
 refine VFun.intro (fn := Try.f83) rfl rfl (by kernel_rfl) (nb rfl) fun Γ hpar => ?_
 refine zac <| zaa <| zeb 100 rfl rfl rfl (zar hpar rfl) rfl rfl tv <| zad rfl rfl tv <| zaf tv <| zac <| zaa <| zab rfl rfl rfl rfl rfl rfl tv <| zak rfl rfl rfl rfl rfl rfl tv <| zdp rfl rfl rfl rfl tv <| zab rfl rfl rfl rfl rfl rfl tv <| zak rfl rfl rfl rfl rfl rfl tv <| zdp rfl rfl rfl rfl tv <| zba 101 rfl rfl rfl rfl rfl rfl rfl rfl rfl rfl (zar hpar rfl) rfl rfl tv <| zad rfl rfl tv <| zaf tv <| zac <| zac <| zaa <| zab rfl rfl rfl rfl rfl rfl tv <| zak rfl rfl rfl rfl rfl rfl tv <| zew rfl rfl rfl tv (fun h15 => ?_) (fun h15 => ?_)
 ·refine zaf tv <| zas rfl <| zac <| zaa <| zae rfl rfl tv <| zab rfl rfl rfl rfl rfl rfl tv <| zak rfl rfl rfl rfl rfl rfl tv <| zdp rfl rfl rfl rfl tv <| zab rfl rfl rfl rfl rfl rfl tv <| zak rfl rfl rfl rfl rfl rfl tv <| zdp rfl rfl rfl rfl tv <| zba 102 rfl rfl rfl rfl rfl rfl rfl rfl rfl rfl (zar hpar rfl) rfl rfl tv <| zbt 103 rfl rfl rfl (zct rfl) rfl (zar hpar rfl) rfl rfl rfl rfl rfl (by simp [zby]) rfl tv <| zad rfl rfl tv <| zaf tv <| zac <| zaa <| zae rfl rfl tv <| zab rfl rfl rfl rfl rfl rfl tv <| zak rfl rfl rfl rfl rfl rfl tv <| zbt 104 rfl rfl rfl (.shr _ _) rfl (zar hpar rfl) rfl rfl rfl rfl rfl (by simp [zby, byteCells_length]; omega) rfl tv <| u_callN [(104, _)] rfl (c57 105 (body c) (by have hq := head_len c; rw [body_is]; simp; omega)) (.cons (zbn rfl (zag rfl) (by rw [body_is, he h15, head_data h15]; simp [byteCells, zdd, zby, cellsOf])) .nil) (sub1 rfl) (.inr ⟨rfl, scal_bytes _, tv⟩) rfl (zar hpar rfl) rfl tv <| zad rfl rfl tv <| zaf tv <| zav <| fin1 (.inr rfl) (.cons (.tmp rfl (nb rfl)) .nil) rfl ?_ (subRow)
  ·rfl
 ·refine zaf tv <| zau rfl <| zbd <| zac <| zac <| zaa <| zab rfl rfl rfl rfl rfl rfl tv <| zak rfl rfl rfl rfl rfl rfl tv <| zcs rfl rfl rfl tv <| zae rfl rfl tv <| zaf tv <| zaz <| zbx (fun n_ E => ∃ (i : Nat), ((i ≤ c.early.length)) ∧ n_ = c.early.length - i ∧ E = ⟨[(31, .shr 1 (zay c.early)), (32, .lit (.int .i64 (zay c.early).length)), (33, .lit (.int .i64 i)), (3, .row 3)], [(3, .row 5 1 (byteCells (bodyHead c ++ (c.early.take i).map u8)))], 45⟩) (n0 := _) (E0 := _) (⟨0, by omega, rfl, rfl⟩) (ren [(3, 101)]) (zaw [(3, 101)] rfl rfl ⟨⟨_, rfl, (.shr _ _)⟩, ⟨_, rfl, (.lit _)⟩, ⟨_, rfl, (.lit _)⟩, ⟨_, rfl, (.row _ _ rfl (zag rfl))⟩, tv⟩ ⟨(.inl ⟨_, rfl, zbr rfl (by rw [head_ack h15]; exact (u8_cells2 _ _).trans (by simp))⟩), tv⟩ (zax hpar rfl)) (fun n_ E hR => ?_)
  obtain ⟨i, hI, rfl, rfl⟩ := hR
  have hI0 := hI
  refine zac <| zaa <| zcm rfl rfl rfl tv (fun h34 => ?_) (fun h34 => ?_)
  ·refine zaf tv <| zac <| zas rfl <| zbd <| zac <| zaz <| zac ?_
   rw [zam] at h34
   obtain ⟨n, hn⟩ : ∃ n, c.early[i]? = some n := ⟨_, List.getElem?_eq_getElem (by omega)⟩
   refine zaa <| zbz rfl rfl rfl rfl rfl rfl (zev hn) rfl tv <| zcr rfl rfl rfl rfl rfl tv <| zad rfl rfl tv <| zaf tv <| zaa <| zae rfl rfl tv <| zae rfl rfl tv <| zdp rfl rfl rfl rfl tv <| zba 122 rfl rfl rfl rfl rfl rfl rfl rfl rfl rfl (zar hpar rfl) rfl rfl tv <| zbt 123 rfl rfl rfl (zct rfl) rfl (zar hpar rfl) rfl rfl rfl rfl rfl (by have hq := head_len c; simp [byteCells_length, zby]; omega) rfl tv <| zad rfl rfl tv <| zaf tv <| zaa <| zcg rfl rfl rfl (by unfold inI; omega) rfl tv <| zae rfl rfl tv <| zaf tv <| ⟨_, _, ren [(3, 123)], ?_, ⟨i + 1, ?_, rfl, rfl⟩, zaw [(3, 123)] rfl rfl ⟨⟨_, rfl, (.shr _ _)⟩, ⟨_, rfl, (.lit _)⟩, ⟨_, rfl, (.lit _)⟩, ⟨_, rfl, (.row _ _ rfl (zag rfl))⟩, tv⟩ ⟨(.inl ⟨_, rfl, zbr rfl (by rw [u8s_take c.early hn, ← List.append_assoc, byteCells_append _ [u8 n], ← u8_cell]; rfl)⟩), tv⟩ (zax hpar rfl)⟩
   ·omega
   ·omega
  ·refine zaf tv <| zac <| zau rfl <| zcc <| iteP rfl <| zac ?_
   rw [zam] at h34
   rw [List.take_of_length_le (by omega)]
   refine zaa <| zae rfl rfl tv <| u_callN [(3, _)] rfl (c57 122 (body c) (by have hq := head_len c; rw [body_is]; simp; omega)) (.cons (zbn rfl (zag rfl) (by rw [body_is])) .nil) (sub1 rfl) (.inr ⟨rfl, scal_bytes _, tv⟩) rfl (zar hpar rfl) rfl tv <| zad rfl rfl tv <| zaf tv <| zav <| fin1 (.inr rfl) (.cons (.tmp rfl (nb rfl)) .nil) rfl ?_ (subRow)
   ·rfl
end Go.Proofs.Ytaadloihphpdbaa
