/- Walks of the laws of chapter 2. Printed by a small program (walk.py). -/
import Derived.Test.YtaadloihphpdbaaWChunk3
set_option linter.unusedVariables false
set_option linter.unusedSimpArgs false
set_option maxRecDepth 4000
namespace Go.Proofs.Ytaadloihphpdbaa
open Go Go.Vc Go.RowKit
def cA : Chunk := ⟨1, 5, 2, 1, [97, 98], []⟩
theorem cA_ok : wrong cA = 0 := by decide
theorem wrong_small {c : Chunk} (h : wrong c = 0) : c.data.length ≤ 6 ∧ c.early.length ≤ 3 ∧ (c.kind = 1 → c.early = []) := by
  obtain ⟨_, ⟨h1, _, _, h2, _, h3⟩ | ⟨h1, _, _, h2, h3, _⟩⟩ := wrong_ok h
  · rw [h2]; exact ⟨h3, by simp, fun _ => rfl⟩
  · rw [h2]; exact ⟨by simp, h3, fun h => by omega⟩
theorem body_small {c : Chunk} (h : wrong c = 0) : (bytes c).length ≤ 15 := by
  have h1 := wrong_small h
  have h2 := head_len c
  unfold bytes; rw [sealed_length, body_is]; simp; omega
theorem same_no {α : Type} [DecidableEq α] {a : α} (h : (a == a) = false) : False := by simp at h
theorem oneWay (c : Chunk) : [AV.lit (.int .i64 1), AV.lit (.int .i64 5), AV.lit (.int .i64 2), AV.lit (.int .i64 1), AV.shr 1 (byteCells [97, 98]), AV.shr 1 (intCells [])] = chunkAV cA := rfl

theorem c89  : VFun G 89 [] [] (.lit (.bool true)) [] := by
  refine VFun.intro (fn := Try.f89) rfl rfl (by kernel_rfl) (Nat.le_of_ble_eq_true rfl) fun Γ hpar => ?_
  refine vw_seq ?_
  refine vw_region ?_
  refine u_assign rfl rfl trivial ?_
  refine u_end trivial ?_
  refine vw_seq ?_
  refine vw_region ?_
  refine u_buildSlice 100 rfl rfl rfl rfl rfl rfl rfl rfl rfl rfl (notPar hpar rfl) rfl rfl trivial ?_
  refine u_mark rfl rfl (notPar hpar rfl) rfl rfl rfl trivial ?_
  refine u_build rfl rfl rfl rfl rfl trivial ?_
  refine u_alloc 101 rfl rfl (notPar hpar rfl) rfl rfl trivial ?_
  refine u_storeAll rfl rfl rfl rfl rfl rfl rfl rfl trivial ?_
  refine u_end trivial ?_
  refine vw_seq ?_
  refine vw_region ?_
  refine u_loadAll rfl rfl rfl rfl rfl rfl trivial ?_
  refine u_call rfl (VFun.read (c83 0 cA (by have := wrong_small cA_ok; omega) (by have := wrong_small cA_ok; omega) (wrong_small cA_ok).2.2)) (.cons ((.agg _ _ (.cons ((.lit _)) (.cons ((.lit _)) (.cons ((.lit _)) (.cons ((.lit _)) (.cons ((.shr _ _)) (.cons (.nilshr _) .nil)))))))) .nil) rfl trivial ?_
  refine u_call rfl (c81 (bytes cA) (by have := body_small cA_ok; omega)) (.cons ((.shr _ _)) .nil) rfl trivial ?_
  refine u_move rfl rfl trivial ?_
  refine u_extract rfl rfl rfl trivial ?_
  refine u_extract rfl rfl rfl trivial ?_
  refine u_alloc 102 rfl rfl (notPar hpar rfl) rfl rfl trivial ?_
  refine u_storeAll rfl rfl rfl rfl rfl rfl rfl rfl trivial ?_
  refine u_assign rfl rfl trivial ?_
  refine u_end trivial ?_
  refine vw_seq ?_
  refine vw_draw ?_
  refine u_move rfl rfl trivial ?_
  refine s_eql rfl rfl rfl trivial (fun h14 => ?_) (fun h14 => ?_)
  · refine u_move rfl rfl trivial ?_
    refine u_loadAll rfl rfl rfl rfl rfl rfl ⟨_, _, rfl, rfl, rfl, rfl⟩ ?_
    refine u_loadAll rfl rfl rfl rfl rfl rfl ⟨_, _, rfl, rfl, rfl, rfl⟩ ?_
    refine s_call [] rfl (c79 cA _) (.cons ((.agg _ _ (.cons ((.lit _)) (.cons ((.lit _)) (.cons ((.lit _)) (.cons ((.lit _)) (.cons ((.shr _ _)) (.cons (.nilshr _) .nil)))))))) (.cons ((.agg _ _ (.cons ((.lit _)) (.cons ((.lit _)) (.cons ((.lit _)) (.cons ((.lit _)) (.cons ((.shr _ _)) (.cons ((.shr _ _)) .nil)))))))) .nil)) (fun k o h => by simp [Go.Vc.look] at h) rfl ⟨_, _, rfl, rfl, rfl, rfl⟩ (fun h18 => ?_) (fun h18 => ?_)
    · refine u_pickT rfl rfl rfl trivial ?_
      refine u_move rfl rfl trivial ?_
      refine u_loadAll rfl rfl rfl rfl rfl rfl ⟨_, _, rfl, rfl, rfl, rfl⟩ ?_
      refine u_call rfl (c76 cA) (.cons ((.agg _ _ (.cons ((.lit _)) (.cons ((.lit _)) (.cons ((.lit _)) (.cons ((.lit _)) (.cons ((.shr _ _)) (.cons (.nilshr _) .nil)))))))) .nil) rfl ⟨_, _, rfl, rfl, rfl, rfl⟩ ?_
      refine s_eql rfl rfl rfl ⟨_, _, rfl, rfl, rfl, rfl⟩ (fun h23 => ?_) (fun h23 => ?_)
      · refine u_pickT rfl rfl rfl trivial ?_
        refine u_move rfl rfl trivial ?_
        refine u_build rfl rfl rfl rfl rfl ⟨_, _, rfl, rfl, rfl, rfl⟩ ?_
        refine u_call rfl (c78 (3, [])) (.cons ((.agg _ _ (.cons ((.lit _)) (.cons (.nilshr _) .nil)))) .nil) rfl ⟨_, _, rfl, rfl, rfl, rfl⟩ ?_
        refine s_eql rfl rfl rfl ⟨_, _, rfl, rfl, rfl, rfl⟩ (fun h28 => ?_) (fun h28 => ?_)
        · refine u_pickT rfl rfl rfl trivial ?_
          refine u_move rfl rfl trivial ?_
          refine u_loadAll rfl rfl rfl rfl rfl rfl ⟨_, _, rfl, rfl, rfl, rfl⟩ ?_
          refine u_call rfl (c80 cA (by decide)) (.cons ((.agg _ _ (.cons ((.lit _)) (.cons ((.lit _)) (.cons ((.lit _)) (.cons ((.lit _)) (.cons ((.shr _ _)) (.cons (.nilshr _) .nil)))))))) .nil) rfl ⟨_, _, rfl, rfl, rfl, rfl⟩ ?_
          refine u_loadAll rfl rfl rfl rfl rfl rfl ⟨_, _, rfl, rfl, rfl, rfl⟩ ?_
          refine u_call rfl (c79 cA cA) (.cons ((.agg _ _ (.cons ((.lit _)) (.cons ((.lit _)) (.cons ((.lit _)) (.cons ((.lit _)) (.cons ((.shr _ _)) (.cons ((.shr _ _)) .nil)))))))) (.cons ((.agg _ _ (.cons ((.lit _)) (.cons ((.lit _)) (.cons ((.lit _)) (.cons ((.lit _)) (.cons ((.shr _ _)) (.cons (.nilshr _) .nil)))))))) .nil)) rfl ⟨_, _, rfl, rfl, rfl, rfl⟩ ?_
          refine u_pickT rfl rfl rfl trivial ?_
          refine u_assign rfl rfl trivial ?_
          refine u_end (by kernel_rfl) ?_
          refine vw_ret ?_
          refine fin0 (.inr rfl) (.cons (.tmp rfl (Nat.le_of_ble_eq_true rfl)) .nil) (subB ?_)
          · rfl
        · exact absurd rfl h28
      · exact absurd cA_ok h23
    · exfalso; rw [read_bytes cA_ok] at h18; simp at h18
  · exact absurd (by rw [read_bytes cA_ok]) h14
theorem c16 (c : Chunk) (m : Msg) (b : List UInt8) (hl : c.early.length ≤ 17592186044000) (hb : b.length ≤ 17592186043000) : VFun G 16 [.agg (chunkAV c), .agg (msgAV m), .shr 1 (byteCells b)] [] (.lit (.bool true)) [] := by
  refine VFun.intro (fn := Try.f16) rfl rfl (by kernel_rfl) (Nat.le_of_ble_eq_true rfl) fun Γ hpar => ?_
  refine vw_seq ?_
  refine vw_region ?_
  refine u_box 100 rfl rfl rfl (notPar hpar rfl) rfl rfl trivial ?_
  refine u_box 101 rfl rfl rfl (notPar hpar rfl) rfl rfl trivial ?_
  refine u_assign rfl rfl trivial ?_
  refine u_end trivial ?_
  refine vw_seq ?_
  refine vw_seq ?_
  refine vw_draw ?_
  refine u_loadAll rfl rfl rfl rfl rfl rfl trivial ?_
  refine u_call rfl (c76 c) (.cons ((.agg _ _ (.cons ((.lit _)) (.cons ((.lit _)) (.cons ((.lit _)) (.cons ((.lit _)) (.cons ((.shr _ _)) (.cons ((.shr _ _)) .nil)))))))) .nil) rfl trivial ?_
  refine u_loadAll rfl rfl rfl rfl rfl rfl trivial ?_
  refine u_call rfl (c77 c) (.cons ((.agg _ _ (.cons ((.lit _)) (.cons ((.lit _)) (.cons ((.lit _)) (.cons ((.lit _)) (.cons ((.shr _ _)) (.cons ((.shr _ _)) .nil)))))))) .nil) rfl trivial ?_
  refine s_neq rfl rfl rfl trivial (fun h15 => ?_) (fun h15 => ?_)
  · exact absurd rfl h15
  · refine u_move rfl rfl trivial ?_
    refine u_loadAll rfl rfl rfl rfl rfl rfl ⟨_, _, rfl, rfl, rfl, rfl⟩ ?_
    refine u_call rfl (c78 m) (.cons ((.agg _ _ (.cons ((.lit _)) (.cons ((.shr _ _)) .nil)))) .nil) rfl ⟨_, _, rfl, rfl, rfl, rfl⟩ ?_
    refine u_loadAll rfl rfl rfl rfl rfl rfl ⟨_, _, rfl, rfl, rfl, rfl⟩ ?_
    refine u_call rfl (c60 m) (.cons ((.agg _ _ (.cons ((.lit _)) (.cons ((.shr _ _)) .nil)))) .nil) rfl ⟨_, _, rfl, rfl, rfl, rfl⟩ ?_
    refine s_neq rfl rfl rfl ⟨_, _, rfl, rfl, rfl, rfl⟩ (fun h21 => ?_) (fun h21 => ?_)
    · exact absurd rfl h21
    · refine u_pickF rfl rfl rfl trivial ?_
      refine u_move rfl rfl trivial ?_
      refine u_loadAll rfl rfl rfl rfl rfl rfl ⟨_, _, rfl, rfl, rfl, rfl⟩ ?_
      refine u_call rfl (c80 c hl) (.cons ((.agg _ _ (.cons ((.lit _)) (.cons ((.lit _)) (.cons ((.lit _)) (.cons ((.lit _)) (.cons ((.shr _ _)) (.cons ((.shr _ _)) .nil)))))))) .nil) rfl ⟨_, _, rfl, rfl, rfl, rfl⟩ ?_
      refine u_loadAll rfl rfl rfl rfl rfl rfl ⟨_, _, rfl, rfl, rfl, rfl⟩ ?_
      refine s_call [] rfl (c79 c c) (.cons ((.agg _ _ (.cons ((.lit _)) (.cons ((.lit _)) (.cons ((.lit _)) (.cons ((.lit _)) (.cons ((.shr _ _)) (.cons ((.shr _ _)) .nil)))))))) (.cons ((.agg _ _ (.cons ((.lit _)) (.cons ((.lit _)) (.cons ((.lit _)) (.cons ((.lit _)) (.cons ((.shr _ _)) (.cons ((.shr _ _)) .nil)))))))) .nil)) (fun k o h => by simp [Go.Vc.look] at h) rfl ⟨_, _, rfl, rfl, rfl, rfl⟩ (fun h27 => ?_) (fun h27 => ?_)
      · refine u_not rfl rfl ⟨_, _, rfl, rfl, rfl, rfl⟩ ?_
        refine u_pickF rfl rfl rfl trivial ?_
        refine u_end (by kernel_rfl) ?_
        refine vw_condF rfl ?_
        refine vw_skip ?_
        refine vw_seq ?_
        refine vw_region ?_
        refine u_move rfl rfl trivial ?_
        refine u_call rfl (c81 b hb) (.cons ((.shr _ _)) .nil) rfl trivial ?_
        refine u_move rfl rfl trivial ?_
        refine u_extract rfl rfl rfl trivial ?_
        refine u_extract rfl rfl rfl trivial ?_
        refine u_alloc 102 rfl rfl (notPar hpar rfl) rfl rfl trivial ?_
        refine u_storeAll rfl rfl rfl rfl rfl rfl rfl rfl trivial ?_
        refine u_assign rfl rfl trivial ?_
        refine u_end trivial ?_
        refine vw_seq ?_
        refine vw_region ?_
        refine u_move rfl rfl trivial ?_
        refine u_call rfl (c82 b hb) (.cons ((.shr _ _)) .nil) rfl trivial ?_
        refine u_move rfl rfl trivial ?_
        refine u_extract rfl rfl rfl trivial ?_
        refine u_extract rfl rfl rfl trivial ?_
        refine u_alloc 103 rfl rfl (notPar hpar rfl) rfl rfl trivial ?_
        refine u_storeAll rfl rfl rfl rfl rfl rfl rfl rfl trivial ?_
        refine u_assign rfl rfl trivial ?_
        refine u_end trivial ?_
        refine vw_seq ?_
        refine vw_draw ?_
        refine u_move rfl rfl trivial ?_
        refine u_move rfl rfl trivial ?_
        refine s_eql rfl rfl rfl trivial (fun h42 => ?_) (fun h42 => ?_)
        · refine u_move rfl rfl trivial ?_
          refine u_loadAll rfl rfl rfl rfl rfl rfl ⟨_, _, rfl, rfl, rfl, rfl⟩ ?_
          refine u_loadAll rfl rfl rfl rfl rfl rfl ⟨_, _, rfl, rfl, rfl, rfl⟩ ?_
          refine s_call [] rfl (c79 (read b).1 (read b).1) (.cons ((.agg _ _ (.cons ((.lit _)) (.cons ((.lit _)) (.cons ((.lit _)) (.cons ((.lit _)) (.cons ((.shr _ _)) (.cons ((.shr _ _)) .nil)))))))) (.cons ((.agg _ _ (.cons ((.lit _)) (.cons ((.lit _)) (.cons ((.lit _)) (.cons ((.lit _)) (.cons ((.shr _ _)) (.cons ((.shr _ _)) .nil)))))))) .nil)) (fun k o h => by simp [Go.Vc.look] at h) rfl ⟨_, _, rfl, rfl, rfl, rfl⟩ (fun h46 => ?_) (fun h46 => ?_)
          · refine u_pickT rfl rfl rfl trivial ?_
            refine u_move rfl rfl trivial ?_
            refine u_loadAll rfl rfl rfl rfl rfl rfl ⟨_, _, rfl, rfl, rfl, rfl⟩ ?_
            refine u_call rfl (c77 c) (.cons ((.agg _ _ (.cons ((.lit _)) (.cons ((.lit _)) (.cons ((.lit _)) (.cons ((.lit _)) (.cons ((.shr _ _)) (.cons ((.shr _ _)) .nil)))))))) .nil) rfl ⟨_, _, rfl, rfl, rfl, rfl⟩ ?_
            refine s_neq rfl rfl rfl ⟨_, _, rfl, rfl, rfl, rfl⟩ (fun h51 => ?_) (fun h51 => ?_)
            · refine u_move rfl rfl ⟨_, _, rfl, rfl, rfl, rfl⟩ ?_
              refine u_skip rfl rfl rfl rfl rfl ?_
              refine u_skip rfl rfl rfl rfl rfl ?_
              refine u_skip rfl rfl rfl rfl rfl ?_
              refine u_skip rfl rfl rfl rfl rfl ?_
              refine u_skip rfl rfl rfl rfl rfl ?_
              refine u_skip rfl rfl rfl rfl rfl ?_
              refine u_skip rfl rfl rfl rfl rfl ?_
              refine u_pickT rfl rfl rfl ⟨_, _, rfl, rfl, rfl, rfl⟩ ?_
              refine u_pickT rfl rfl rfl trivial ?_
              refine u_assign rfl rfl trivial ?_
              refine u_end (by kernel_rfl) ?_
              refine vw_ret ?_
              refine fin0 (.inr rfl) (.cons (.tmp rfl (Nat.le_of_ble_eq_true rfl)) .nil) (subB ?_)
              · first | rfl | simp
            · refine u_move rfl rfl ⟨_, _, rfl, rfl, rfl, rfl⟩ ?_
              refine u_loadAll rfl rfl rfl rfl rfl rfl ⟨_, _, rfl, rfl, rfl, rfl⟩ ?_
              refine u_call rfl (VFun.read (c83 0 c (by have := wrong_small h51; omega) (by have := wrong_small h51; omega) (wrong_small h51).2.2)) (.cons ((.agg _ _ (.cons ((.lit _)) (.cons ((.lit _)) (.cons ((.lit _)) (.cons ((.lit _)) (.cons ((.shr _ _)) (.cons ((.shr _ _)) .nil)))))))) .nil) rfl ⟨_, _, rfl, rfl, rfl, rfl⟩ ?_
              refine u_convT rfl (by rfl) rfl rfl rfl rfl ⟨_, _, rfl, rfl, rfl, rfl⟩ ?_
              refine u_loadAll rfl rfl rfl rfl rfl rfl ⟨_, _, rfl, rfl, rfl, rfl⟩ ?_
              refine u_call rfl (c84 c (by have := wrong_small h51; omega) (by have := wrong_small h51; omega)) (.cons ((.agg _ _ (.cons ((.lit _)) (.cons ((.lit _)) (.cons ((.lit _)) (.cons ((.lit _)) (.cons ((.shr _ _)) (.cons ((.shr _ _)) .nil)))))))) .nil) rfl ⟨_, _, rfl, rfl, rfl, rfl⟩ ?_
              refine u_convT rfl (by rfl) rfl rfl rfl rfl ⟨_, _, rfl, rfl, rfl, rfl⟩ ?_
              refine u_eqlT rfl rfl rfl ⟨_, _, rfl, rfl, rfl, rfl⟩ ?_
              refine u_pickF rfl rfl rfl ⟨_, _, rfl, rfl, rfl, rfl⟩ ?_
              refine u_pickT rfl rfl rfl trivial ?_
              refine u_assign rfl rfl trivial ?_
              refine u_end (by kernel_rfl) ?_
              refine vw_ret ?_
              refine fin0 (.inr rfl) (.cons (.tmp rfl (Nat.le_of_ble_eq_true rfl)) .nil) (subB ?_)
              · first | rfl | simp
          · exact (same_no h46).elim
        · exact absurd rfl h42
      · exact (same_no h27).elim
theorem c18 (a b : Chunk) : VFun G 18 [.agg (chunkAV a), .agg (chunkAV b)] [] (.lit (.bool true)) [] := by
  refine VFun.intro (fn := Try.f18) rfl rfl (by kernel_rfl) (Nat.le_of_ble_eq_true rfl) fun Γ hpar => ?_
  refine vw_seq ?_
  refine vw_region ?_
  refine u_box 100 rfl rfl rfl (notPar hpar rfl) rfl rfl trivial ?_
  refine u_box 101 rfl rfl rfl (notPar hpar rfl) rfl rfl trivial ?_
  refine u_assign rfl rfl trivial ?_
  refine u_end trivial ?_
  refine vw_seq ?_
  refine vw_seq ?_
  refine vw_region ?_
  refine u_call rfl (c89) .nil rfl trivial ?_
  refine u_not rfl rfl trivial ?_
  refine u_end trivial ?_
  refine vw_condF rfl ?_
  refine vw_skip ?_
  refine vw_seq ?_
  refine vw_draw ?_
  refine u_loadAll rfl rfl rfl rfl rfl rfl trivial ?_
  refine u_call rfl (c76 a) (.cons ((.agg _ _ (.cons ((.lit _)) (.cons ((.lit _)) (.cons ((.lit _)) (.cons ((.lit _)) (.cons ((.shr _ _)) (.cons ((.shr _ _)) .nil)))))))) .nil) rfl trivial ?_
  refine s_neq rfl rfl rfl trivial (fun h9 => ?_) (fun h9 => ?_)
  · refine u_move rfl rfl trivial ?_
    refine u_skip rfl rfl rfl rfl rfl ?_
    refine u_skip rfl rfl rfl rfl rfl ?_
    refine u_skip rfl rfl rfl rfl rfl ?_
    refine u_pickT rfl rfl rfl trivial ?_
    refine u_move rfl rfl trivial ?_
    refine u_skip rfl rfl rfl rfl rfl ?_
    refine u_skip rfl rfl rfl rfl rfl ?_
    refine u_skip rfl rfl rfl rfl rfl ?_
    refine u_skip rfl rfl rfl rfl rfl ?_
    refine u_skip rfl rfl rfl rfl rfl ?_
    refine u_skip rfl rfl rfl rfl rfl ?_
    refine u_skip rfl rfl rfl rfl rfl ?_
    refine u_skip rfl rfl rfl rfl rfl ?_
    refine u_skip rfl rfl rfl rfl rfl ?_
    refine u_skip rfl rfl rfl rfl rfl ?_
    refine u_skip rfl rfl rfl rfl rfl ?_
    refine u_pickT rfl rfl rfl trivial ?_
    refine u_assign rfl rfl trivial ?_
    refine u_end (by kernel_rfl) ?_
    refine vw_ret ?_
    refine fin0 (.inr rfl) (.cons (.tmp rfl (Nat.le_of_ble_eq_true rfl)) .nil) (subB ?_)
    · first | rfl | (rw [bytesT, bytesT]; symm; rw [beq_iff_eq, Bool.eq_iff_iff, beq_iff_eq, beq_iff_eq]; exact ⟨fun e => bytes_inj h9 h13 e, fun e => by rw [e]⟩)
  · refine u_move rfl rfl trivial ?_
    refine u_loadAll rfl rfl rfl rfl rfl rfl ⟨_, _, rfl, rfl, rfl, rfl⟩ ?_
    refine u_call rfl (c76 b) (.cons ((.agg _ _ (.cons ((.lit _)) (.cons ((.lit _)) (.cons ((.lit _)) (.cons ((.lit _)) (.cons ((.shr _ _)) (.cons ((.shr _ _)) .nil)))))))) .nil) rfl ⟨_, _, rfl, rfl, rfl, rfl⟩ ?_
    refine s_neq rfl rfl rfl ⟨_, _, rfl, rfl, rfl, rfl⟩ (fun h13 => ?_) (fun h13 => ?_)
    · refine u_pickF rfl rfl rfl trivial ?_
      refine u_move rfl rfl trivial ?_
      refine u_skip rfl rfl rfl rfl rfl ?_
      refine u_skip rfl rfl rfl rfl rfl ?_
      refine u_skip rfl rfl rfl rfl rfl ?_
      refine u_skip rfl rfl rfl rfl rfl ?_
      refine u_skip rfl rfl rfl rfl rfl ?_
      refine u_skip rfl rfl rfl rfl rfl ?_
      refine u_skip rfl rfl rfl rfl rfl ?_
      refine u_skip rfl rfl rfl rfl rfl ?_
      refine u_skip rfl rfl rfl rfl rfl ?_
      refine u_skip rfl rfl rfl rfl rfl ?_
      refine u_skip rfl rfl rfl rfl rfl ?_
      refine u_pickT rfl rfl rfl trivial ?_
      refine u_assign rfl rfl trivial ?_
      refine u_end (by kernel_rfl) ?_
      refine vw_ret ?_
      refine fin0 (.inr rfl) (.cons (.tmp rfl (Nat.le_of_ble_eq_true rfl)) .nil) (subB ?_)
      · first | rfl | (rw [bytesT, bytesT]; symm; rw [beq_iff_eq, Bool.eq_iff_iff, beq_iff_eq, beq_iff_eq]; exact ⟨fun e => bytes_inj h9 h13 e, fun e => by rw [e]⟩)
    · refine u_pickF rfl rfl rfl trivial ?_
      refine u_move rfl rfl trivial ?_
      refine u_loadAll rfl rfl rfl rfl rfl rfl ⟨_, _, rfl, rfl, rfl, rfl⟩ ?_
      refine u_call rfl (VFun.read (c83 0 a (by have := wrong_small h9; omega) (by have := wrong_small h9; omega) (wrong_small h9).2.2)) (.cons ((.agg _ _ (.cons ((.lit _)) (.cons ((.lit _)) (.cons ((.lit _)) (.cons ((.lit _)) (.cons ((.shr _ _)) (.cons ((.shr _ _)) .nil)))))))) .nil) rfl ⟨_, _, rfl, rfl, rfl, rfl⟩ ?_
      refine u_convT rfl (by rfl) rfl rfl rfl rfl ⟨_, _, rfl, rfl, rfl, rfl⟩ ?_
      refine u_loadAll rfl rfl rfl rfl rfl rfl ⟨_, _, rfl, rfl, rfl, rfl⟩ ?_
      refine u_call rfl (VFun.read (c83 0 b (by have := wrong_small h13; omega) (by have := wrong_small h13; omega) (wrong_small h13).2.2)) (.cons ((.agg _ _ (.cons ((.lit _)) (.cons ((.lit _)) (.cons ((.lit _)) (.cons ((.lit _)) (.cons ((.shr _ _)) (.cons ((.shr _ _)) .nil)))))))) .nil) rfl ⟨_, _, rfl, rfl, rfl, rfl⟩ ?_
      refine u_convT rfl (by rfl) rfl rfl rfl rfl ⟨_, _, rfl, rfl, rfl, rfl⟩ ?_
      refine u_eqlT rfl rfl rfl ⟨_, _, rfl, rfl, rfl, rfl⟩ ?_
      refine u_loadAll rfl rfl rfl rfl rfl rfl ⟨_, _, rfl, rfl, rfl, rfl⟩ ?_
      refine u_loadAll rfl rfl rfl rfl rfl rfl ⟨_, _, rfl, rfl, rfl, rfl⟩ ?_
      refine u_call rfl (c79 a b) (.cons ((.agg _ _ (.cons ((.lit _)) (.cons ((.lit _)) (.cons ((.lit _)) (.cons ((.lit _)) (.cons ((.shr _ _)) (.cons ((.shr _ _)) .nil)))))))) (.cons ((.agg _ _ (.cons ((.lit _)) (.cons ((.lit _)) (.cons ((.lit _)) (.cons ((.lit _)) (.cons ((.shr _ _)) (.cons ((.shr _ _)) .nil)))))))) .nil)) rfl ⟨_, _, rfl, rfl, rfl, rfl⟩ ?_
      refine u_eqlB rfl rfl rfl rfl ⟨_, _, rfl, rfl, rfl, rfl⟩ ?_
      refine u_pickF rfl rfl rfl trivial ?_
      refine u_assign rfl rfl trivial ?_
      refine u_end (by kernel_rfl) ?_
      refine vw_ret ?_
      refine fin0 (.inr rfl) (.cons (.tmp rfl (Nat.le_of_ble_eq_true rfl)) .nil) (subB ?_)
      · first | rfl | (rw [bytesT, bytesT]; symm; rw [beq_iff_eq, Bool.eq_iff_iff, beq_iff_eq, beq_iff_eq]; exact ⟨fun e => bytes_inj h9 h13 e, fun e => by rw [e]⟩)
theorem c19 (c : Chunk) (b : List UInt8) (hb : b.length ≤ 17592186043000) : VFun G 19 [.agg (chunkAV c), .shr 1 (byteCells b)] [] (.lit (.bool true)) [] := by
  refine VFun.intro (fn := Try.f19) rfl rfl (by kernel_rfl) (Nat.le_of_ble_eq_true rfl) fun Γ hpar => ?_
  refine vw_seq ?_
  refine vw_region ?_
  refine u_box 100 rfl rfl rfl (notPar hpar rfl) rfl rfl trivial ?_
  refine u_assign rfl rfl trivial ?_
  refine u_end trivial ?_
  refine vw_seq ?_
  refine vw_seq ?_
  refine vw_region ?_
  refine u_call rfl (c89) .nil rfl trivial ?_
  refine u_not rfl rfl trivial ?_
  refine u_end trivial ?_
  refine vw_condF rfl ?_
  refine vw_skip ?_
  refine vw_seq ?_
  refine vw_seq ?_
  refine vw_region ?_
  refine u_loadAll rfl rfl rfl rfl rfl rfl trivial ?_
  refine u_call rfl (c76 c) (.cons ((.agg _ _ (.cons ((.lit _)) (.cons ((.lit _)) (.cons ((.lit _)) (.cons ((.lit _)) (.cons ((.shr _ _)) (.cons ((.shr _ _)) .nil)))))))) .nil) rfl trivial ?_
  refine s_eql rfl rfl rfl trivial (fun h13 => ?_) (fun h13 => ?_)
  · refine u_end trivial ?_
    refine vw_condT rfl ?_
    refine vw_seq ?_
    refine vw_region ?_
    refine u_loadAll rfl rfl rfl rfl rfl rfl trivial ?_
    refine u_call rfl (VFun.read (c83 0 c (by have := wrong_small h13; omega) (by have := wrong_small h13; omega) (wrong_small h13).2.2)) (.cons ((.agg _ _ (.cons ((.lit _)) (.cons ((.lit _)) (.cons ((.lit _)) (.cons ((.lit _)) (.cons ((.shr _ _)) (.cons ((.shr _ _)) .nil)))))))) .nil) rfl trivial ?_
    refine u_call rfl (c81 (bytes c) (by have := body_small h13; omega)) (.cons ((.shr _ _)) .nil) rfl trivial ?_
    refine u_move rfl rfl trivial ?_
    refine u_extract rfl rfl rfl trivial ?_
    refine u_extract rfl rfl rfl trivial ?_
    refine u_alloc 101 rfl rfl (notPar hpar rfl) rfl rfl trivial ?_
    refine u_storeAll rfl rfl rfl rfl rfl rfl rfl rfl trivial ?_
    refine u_assign rfl rfl trivial ?_
    refine u_end trivial ?_
    refine vw_seq ?_
    refine vw_region ?_
    refine u_move rfl rfl trivial ?_
    refine s_neq rfl rfl rfl trivial (fun h21 => ?_) (fun h21 => ?_)
    · exact absurd (by rw [read_bytes h13]) h21
    · refine u_move rfl rfl trivial ?_
      refine u_loadAll rfl rfl rfl rfl rfl rfl ⟨_, _, rfl, rfl, rfl, rfl⟩ ?_
      refine u_loadAll rfl rfl rfl rfl rfl rfl ⟨_, _, rfl, rfl, rfl, rfl⟩ ?_
      refine s_call [] rfl (c79 c _) (.cons ((.agg _ _ (.cons ((.lit _)) (.cons ((.lit _)) (.cons ((.lit _)) (.cons ((.lit _)) (.cons ((.shr _ _)) (.cons ((.shr _ _)) .nil)))))))) (.cons ((.agg _ _ (.cons ((.lit _)) (.cons ((.lit _)) (.cons ((.lit _)) (.cons ((.lit _)) (.cons ((.shr _ _)) (.cons ((.shr _ _)) .nil)))))))) .nil)) (fun k o h => by simp [Go.Vc.look] at h) rfl ⟨_, _, rfl, rfl, rfl, rfl⟩ (fun h25 => ?_) (fun h25 => ?_)
      · refine u_not rfl rfl ⟨_, _, rfl, rfl, rfl, rfl⟩ ?_
        refine u_pickF rfl rfl rfl trivial ?_
        refine u_end trivial ?_
        refine vw_condF rfl ?_
        refine vw_skip ?_
        refine vw_seq ?_
        refine vw_region ?_
        refine u_move rfl rfl trivial ?_
        refine u_call rfl (c81 b hb) (.cons ((.shr _ _)) .nil) rfl trivial ?_
        refine u_move rfl rfl trivial ?_
        refine u_extract rfl rfl rfl trivial ?_
        refine u_extract rfl rfl rfl trivial ?_
        refine u_alloc 102 rfl rfl (notPar hpar rfl) rfl rfl trivial ?_
        refine u_storeAll rfl rfl rfl rfl rfl rfl rfl rfl trivial ?_
        refine u_assign rfl rfl trivial ?_
        refine u_end trivial ?_
        refine vw_seq ?_
        refine vw_draw ?_
        refine u_move rfl rfl trivial ?_
        refine s_neq rfl rfl rfl trivial (fun h34 => ?_) (fun h34 => ?_)
        · refine u_move rfl rfl trivial ?_
          refine u_skip rfl rfl rfl rfl rfl ?_
          refine u_skip rfl rfl rfl rfl rfl ?_
          refine u_skip rfl rfl rfl rfl rfl ?_
          refine u_skip rfl rfl rfl rfl rfl ?_
          refine u_skip rfl rfl rfl rfl rfl ?_
          refine u_skip rfl rfl rfl rfl rfl ?_
          refine u_skip rfl rfl rfl rfl rfl ?_
          refine u_skip rfl rfl rfl rfl rfl ?_
          refine u_skip rfl rfl rfl rfl rfl ?_
          refine u_skip rfl rfl rfl rfl rfl ?_
          refine u_skip rfl rfl rfl rfl rfl ?_
          refine u_pickT rfl rfl rfl trivial ?_
          refine u_assign rfl rfl trivial ?_
          refine u_end (by kernel_rfl) ?_
          refine vw_ret ?_
          refine fin0 (.inr rfl) (.cons (.tmp rfl (Nat.le_of_ble_eq_true rfl)) .nil) (subB ?_)
          · first | rfl | (rw [(bytes_read h34).2]; simp)
        · refine u_move rfl rfl trivial ?_
          refine u_loadAll rfl rfl rfl rfl rfl rfl ⟨_, _, rfl, rfl, rfl, rfl⟩ ?_
          refine u_call rfl (c76 (read b).1) (.cons ((.agg _ _ (.cons ((.lit _)) (.cons ((.lit _)) (.cons ((.lit _)) (.cons ((.lit _)) (.cons ((.shr _ _)) (.cons ((.shr _ _)) .nil)))))))) .nil) rfl ⟨_, _, rfl, rfl, rfl, rfl⟩ ?_
          refine s_eql rfl rfl rfl ⟨_, _, rfl, rfl, rfl, rfl⟩ (fun h38 => ?_) (fun h38 => ?_)
          · refine u_move rfl rfl ⟨_, _, rfl, rfl, rfl, rfl⟩ ?_
            refine u_loadAll rfl rfl rfl rfl rfl rfl ⟨_, _, rfl, rfl, rfl, rfl⟩ ?_
            refine u_call rfl (VFun.read (c83 0 (read b).1 (by have := wrong_small h38; omega) (by have := wrong_small h38; omega) (wrong_small h38).2.2)) (.cons ((.agg _ _ (.cons ((.lit _)) (.cons ((.lit _)) (.cons ((.lit _)) (.cons ((.lit _)) (.cons ((.shr _ _)) (.cons ((.shr _ _)) .nil)))))))) .nil) rfl ⟨_, _, rfl, rfl, rfl, rfl⟩ ?_
            refine u_convT rfl (by rfl) rfl rfl rfl rfl ⟨_, _, rfl, rfl, rfl, rfl⟩ ?_
            refine u_move rfl rfl ⟨_, _, rfl, rfl, rfl, rfl⟩ ?_
            refine u_convT rfl (by rfl) rfl rfl rfl rfl ⟨_, _, rfl, rfl, rfl, rfl⟩ ?_
            refine u_eqlT rfl rfl rfl ⟨_, _, rfl, rfl, rfl, rfl⟩ ?_
            refine u_pickT rfl rfl rfl ⟨_, _, rfl, rfl, rfl, rfl⟩ ?_
            refine u_pickF rfl rfl rfl trivial ?_
            refine u_assign rfl rfl trivial ?_
            refine u_end (by kernel_rfl) ?_
            refine vw_ret ?_
            refine fin0 (.inr rfl) (.cons (.tmp rfl (Nat.le_of_ble_eq_true rfl)) .nil) (subB ?_)
            · first | rfl | (rw [(bytes_read h34).2]; simp)
          · exact absurd (bytes_read h34).1 h38
      · exfalso; rw [read_bytes h13] at h25; exact same_no h25
  · refine u_end trivial ?_
    refine vw_condF rfl ?_
    refine vw_skip ?_
    refine vw_seq ?_
    refine vw_region ?_
    refine u_move rfl rfl trivial ?_
    refine u_call rfl (c81 b hb) (.cons ((.shr _ _)) .nil) rfl trivial ?_
    refine u_move rfl rfl trivial ?_
    refine u_extract rfl rfl rfl trivial ?_
    refine u_extract rfl rfl rfl trivial ?_
    refine u_alloc 101 rfl rfl (notPar hpar rfl) rfl rfl trivial ?_
    refine u_storeAll rfl rfl rfl rfl rfl rfl rfl rfl trivial ?_
    refine u_assign rfl rfl trivial ?_
    refine u_end trivial ?_
    refine vw_seq ?_
    refine vw_draw ?_
    refine u_move rfl rfl trivial ?_
    refine s_neq rfl rfl rfl trivial (fun h34 => ?_) (fun h34 => ?_)
    · refine u_move rfl rfl trivial ?_
      refine u_skip rfl rfl rfl rfl rfl ?_
      refine u_skip rfl rfl rfl rfl rfl ?_
      refine u_skip rfl rfl rfl rfl rfl ?_
      refine u_skip rfl rfl rfl rfl rfl ?_
      refine u_skip rfl rfl rfl rfl rfl ?_
      refine u_skip rfl rfl rfl rfl rfl ?_
      refine u_skip rfl rfl rfl rfl rfl ?_
      refine u_skip rfl rfl rfl rfl rfl ?_
      refine u_skip rfl rfl rfl rfl rfl ?_
      refine u_skip rfl rfl rfl rfl rfl ?_
      refine u_skip rfl rfl rfl rfl rfl ?_
      refine u_pickT rfl rfl rfl trivial ?_
      refine u_assign rfl rfl trivial ?_
      refine u_end (by kernel_rfl) ?_
      refine vw_ret ?_
      refine fin0 (.inr rfl) (.cons (.tmp rfl (Nat.le_of_ble_eq_true rfl)) .nil) (subB ?_)
      · first | rfl | (rw [(bytes_read h34).2]; simp)
    · refine u_move rfl rfl trivial ?_
      refine u_loadAll rfl rfl rfl rfl rfl rfl ⟨_, _, rfl, rfl, rfl, rfl⟩ ?_
      refine u_call rfl (c76 (read b).1) (.cons ((.agg _ _ (.cons ((.lit _)) (.cons ((.lit _)) (.cons ((.lit _)) (.cons ((.lit _)) (.cons ((.shr _ _)) (.cons ((.shr _ _)) .nil)))))))) .nil) rfl ⟨_, _, rfl, rfl, rfl, rfl⟩ ?_
      refine s_eql rfl rfl rfl ⟨_, _, rfl, rfl, rfl, rfl⟩ (fun h38 => ?_) (fun h38 => ?_)
      · refine u_move rfl rfl ⟨_, _, rfl, rfl, rfl, rfl⟩ ?_
        refine u_loadAll rfl rfl rfl rfl rfl rfl ⟨_, _, rfl, rfl, rfl, rfl⟩ ?_
        refine u_call rfl (VFun.read (c83 0 (read b).1 (by have := wrong_small h38; omega) (by have := wrong_small h38; omega) (wrong_small h38).2.2)) (.cons ((.agg _ _ (.cons ((.lit _)) (.cons ((.lit _)) (.cons ((.lit _)) (.cons ((.lit _)) (.cons ((.shr _ _)) (.cons ((.shr _ _)) .nil)))))))) .nil) rfl ⟨_, _, rfl, rfl, rfl, rfl⟩ ?_
        refine u_convT rfl (by rfl) rfl rfl rfl rfl ⟨_, _, rfl, rfl, rfl, rfl⟩ ?_
        refine u_move rfl rfl ⟨_, _, rfl, rfl, rfl, rfl⟩ ?_
        refine u_convT rfl (by rfl) rfl rfl rfl rfl ⟨_, _, rfl, rfl, rfl, rfl⟩ ?_
        refine u_eqlT rfl rfl rfl ⟨_, _, rfl, rfl, rfl, rfl⟩ ?_
        refine u_pickT rfl rfl rfl ⟨_, _, rfl, rfl, rfl, rfl⟩ ?_
        refine u_pickF rfl rfl rfl trivial ?_
        refine u_assign rfl rfl trivial ?_
        refine u_end (by kernel_rfl) ?_
        refine vw_ret ?_
        refine fin0 (.inr rfl) (.cons (.tmp rfl (Nat.le_of_ble_eq_true rfl)) .nil) (subB ?_)
        · first | rfl | (rw [(bytes_read h34).2]; simp)
      · exact absurd (bytes_read h34).1 h38
theorem c20 (c : Chunk) (at_ x : Int) (hx : 0 ≤ x ∧ x ≤ 255) : VFun G 20 [.agg (chunkAV c), .lit (.int .i64 at_), .lit (.int .u8 x)] [] (.lit (.bool true)) [] := by
  refine VFun.intro (fn := Try.f20) rfl rfl (by kernel_rfl) (Nat.le_of_ble_eq_true rfl) fun Γ hpar => ?_
  refine vw_seq ?_
  refine vw_region ?_
  refine u_box 100 rfl rfl rfl (notPar hpar rfl) rfl rfl trivial ?_
  refine u_assign rfl rfl trivial ?_
  refine u_end trivial ?_
  refine vw_seq ?_
  refine vw_seq ?_
  refine vw_region ?_
  refine u_call rfl (c89) .nil rfl trivial ?_
  refine u_not rfl rfl trivial ?_
  refine u_end trivial ?_
  refine vw_condF rfl ?_
  refine vw_skip ?_
  refine vw_seq ?_
  refine vw_seq ?_
  refine vw_region ?_
  refine u_loadAll rfl rfl rfl rfl rfl rfl trivial ?_
  refine u_call rfl (c76 c) (.cons ((.agg _ _ (.cons ((.lit _)) (.cons ((.lit _)) (.cons ((.lit _)) (.cons ((.lit _)) (.cons ((.shr _ _)) (.cons ((.shr _ _)) .nil)))))))) .nil) rfl trivial ?_
  refine s_neq rfl rfl rfl trivial (fun h14 => ?_) (fun h14 => ?_)
  · refine u_end trivial ?_
    refine vw_condT rfl ?_
    refine vw_seq ?_
    refine vw_region ?_
    refine u_assign rfl rfl trivial ?_
    refine u_end trivial ?_
    refine vw_ret ?_
    refine fin0 (.inr rfl) (.cons (.tmp rfl (Nat.le_of_ble_eq_true rfl)) .nil) (subB ?_)
    · rfl
  · refine u_end trivial ?_
    refine vw_condF rfl ?_
    refine vw_skip ?_
    refine vw_seq ?_
    have hw := wrong_small h14
    have hs := body_small h14
    have h4 := bytes_len (c := c)
    refine vw_region ?_
    refine u_loadAll rfl rfl rfl rfl rfl rfl trivial ?_
    refine u_callN [] rfl (c83 101 c (by omega) (by omega) hw.2.2) (.cons ((.agg _ _ (.cons ((.lit _)) (.cons ((.lit _)) (.cons ((.lit _)) (.cons ((.lit _)) (.cons ((.shr _ _)) (.cons ((.shr _ _)) .nil)))))))) .nil) (fun k o h => by simp [Go.Vc.look] at h) (.inl rfl) rfl (notPar hpar rfl) rfl trivial ?_
    refine u_assign rfl rfl trivial ?_
    refine u_end trivial ?_
    refine vw_seq ?_
    refine vw_seq ?_
    refine vw_region ?_
    refine u_move rfl rfl trivial ?_
    refine s_lss rfl rfl rfl trivial (fun h18 => ?_) (fun h18 => ?_)
    · refine u_move rfl rfl trivial ?_
      refine u_skip rfl rfl rfl rfl rfl ?_
      refine u_skip rfl rfl rfl rfl rfl ?_
      refine u_skip rfl rfl rfl rfl rfl ?_
      refine u_skip rfl rfl rfl rfl rfl ?_
      refine u_pickT rfl rfl rfl trivial ?_
      refine u_move rfl rfl trivial ?_
      refine u_skip rfl rfl rfl rfl rfl ?_
      refine u_skip rfl rfl rfl rfl rfl ?_
      refine u_skip rfl rfl rfl rfl rfl ?_
      refine u_skip rfl rfl rfl rfl rfl ?_
      refine u_skip rfl rfl rfl rfl rfl ?_
      refine u_skip rfl rfl rfl rfl rfl ?_
      refine u_pickT rfl rfl rfl trivial ?_
      refine u_end trivial ?_
      refine vw_condT rfl ?_
      refine vw_seq ?_
      refine vw_region ?_
      refine u_move rfl rfl trivial ?_
      refine u_lenR rfl rfl rfl rfl trivial ?_
      refine u_geq rfl rfl rfl trivial ?_
      refine u_assign rfl rfl trivial ?_
      refine u_end trivial ?_
      refine vw_ret ?_
      refine fin0 (.inr rfl) (.cons (.tmp rfl (Nat.le_of_ble_eq_true rfl)) .nil) (subB ?_)
      · have h4 := bytes_len (c := c)
        simp only [byteCells_length]; simp; omega
    · refine u_move rfl rfl trivial ?_
      refine u_move rfl rfl ⟨_, _, rfl, rfl, rfl, rfl⟩ ?_
      refine u_move rfl rfl ⟨_, _, rfl, rfl, rfl, rfl⟩ ?_
      refine u_lenR rfl rfl rfl rfl ⟨_, _, rfl, rfl, rfl, rfl⟩ ?_
      refine s_geq rfl rfl rfl ⟨_, _, rfl, rfl, rfl, rfl⟩ (fun h23 => ?_) (fun h23 => ?_)
      · refine u_pickF rfl rfl rfl trivial ?_
        refine u_move rfl rfl trivial ?_
        refine u_skip rfl rfl rfl rfl rfl ?_
        refine u_skip rfl rfl rfl rfl rfl ?_
        refine u_skip rfl rfl rfl rfl rfl ?_
        refine u_skip rfl rfl rfl rfl rfl ?_
        refine u_skip rfl rfl rfl rfl rfl ?_
        refine u_skip rfl rfl rfl rfl rfl ?_
        refine u_pickT rfl rfl rfl trivial ?_
        refine u_end trivial ?_
        refine vw_condT rfl ?_
        refine vw_seq ?_
        refine vw_region ?_
        refine u_move rfl rfl trivial ?_
        refine u_lenR rfl rfl rfl rfl trivial ?_
        refine u_geq rfl rfl rfl trivial ?_
        refine u_assign rfl rfl trivial ?_
        refine u_end trivial ?_
        refine vw_ret ?_
        refine fin0 (.inr rfl) (.cons (.tmp rfl (Nat.le_of_ble_eq_true rfl)) .nil) (subB ?_)
        · have h4 := bytes_len (c := c)
          simp only [byteCells_length]; simp; omega
      · refine u_pickF rfl rfl rfl trivial ?_
        refine u_move rfl rfl trivial ?_
        refine u_move rfl rfl ⟨_, _, rfl, rfl, rfl, rfl⟩ ?_
        refine u_move rfl rfl ⟨_, _, rfl, rfl, rfl, rfl⟩ ?_
        refine u_indexR rfl rfl rfl rfl rfl rfl (i := at_.toNat) (by omega) (by simp only [byteCells_length] at h23 ⊢; omega) rfl ⟨_, _, rfl, rfl, rfl, rfl⟩ ?_
        refine u_loadRow1 rfl rfl (byteCells_get (by simp only [byteCells_length] at h23; omega)) rfl rfl rfl rfl ⟨_, _, rfl, rfl, rfl, rfl⟩ ?_
        refine u_move rfl rfl ⟨_, _, rfl, rfl, rfl, rfl⟩ ?_
        refine s_eql rfl rfl rfl ⟨_, _, rfl, rfl, rfl, rfl⟩ (fun h31 => ?_) (fun h31 => ?_)
        · refine u_pickF rfl rfl rfl trivial ?_
          refine u_end trivial ?_
          refine vw_condT rfl ?_
          refine vw_seq ?_
          refine vw_region ?_
          refine u_move rfl rfl trivial ?_
          refine u_lenR rfl rfl rfl rfl trivial ?_
          refine u_geq rfl rfl rfl trivial ?_
          refine u_assign rfl rfl trivial ?_
          refine u_end trivial ?_
          refine vw_ret ?_
          refine fin0 (.inr rfl) (.cons (.tmp rfl (Nat.le_of_ble_eq_true rfl)) .nil) (subB ?_)
          · have h4 := bytes_len (c := c)
            simp only [byteCells_length]; simp; omega
        · refine u_pickF rfl rfl rfl trivial ?_
          refine u_end trivial ?_
          refine vw_condF rfl ?_
          refine vw_skip ?_
          refine vw_seq ?_
          simp only [byteCells_length] at h23
          refine vw_region ?_
          refine u_move rfl rfl trivial ?_
          refine u_move rfl rfl trivial ?_
          refine u_move rfl rfl trivial ?_
          refine u_indexR rfl rfl rfl rfl rfl rfl (i := at_.toNat) (by omega) (by simp only [byteCells_length]; omega) rfl trivial ?_
          refine u_storeRowE rfl rfl rfl (byteCells_get (by omega)) rfl (by simp [cellsOf, isP]) rfl rfl rfl (set_u8 _ _ _ (by omega) _) trivial ?_
          refine u_end trivial ?_
          refine vw_seq ?_
          refine vw_region ?_
          refine u_move rfl rfl trivial ?_
          refine u_callO [] [101] [101] rfl rfl (c81 ((bytes c).set at_.toNat (u8 x)) (by simp; omega)) (inc_cons (k0 := 101) rfl inc_nil) trivial (.cons (.frz _ _ _ _ rfl (by decide)) .nil) rfl rfl (newPar hpar rfl) rfl trivial ?_
          refine u_move rfl rfl trivial ?_
          refine u_extract rfl rfl rfl trivial ?_
          refine u_extract rfl rfl rfl trivial ?_
          refine u_alloc 102 rfl rfl (notPar hpar rfl) rfl rfl trivial ?_
          refine u_storeAll rfl rfl rfl rfl rfl rfl rfl rfl trivial ?_
          refine u_assign rfl rfl trivial ?_
          refine u_end trivial ?_
          refine vw_seq ?_
          refine vw_region ?_
          refine u_move rfl rfl trivial ?_
          refine u_eql rfl rfl rfl trivial ?_
          refine u_assign rfl rfl trivial ?_
          refine u_end trivial ?_
          refine vw_ret ?_
          refine fin0 (.inr rfl) (.cons (.tmp rfl (Nat.le_of_ble_eq_true rfl)) .nil) (subB ?_)
          · have hne : (bytes c)[at_.toNat]'(by omega) ≠ u8 x := fun e => h31 (by rw [e, u8_toNat]; omega)
            rw [spoilt (by omega) hne]; rfl
end Go.Proofs.Ytaadloihphpdbaa
