/- Walk of the law PlainTells. Printed by a small program (walk.py). -/
import Derived.Test.YtaadloihphpdbaaWPlain
set_option linter.unusedVariables false
set_option linter.unusedSimpArgs false
set_option maxRecDepth 4000
namespace Go.Proofs.Ytaadloihphpdbaa
open Go Go.Vc Go.RowKit

theorem c11 (t p : List Msg) (s : Int) (ht : t.length ≤ 1048576) (hp : p.length ≤ 1048576) : VFun G 11 [.shr 2 (msgCells t), .shr 2 (msgCells p), .lit (.int .i64 s)] [] (.lit (.bool true)) [] := by
  have hla : (t ++ p).length = t.length + p.length := List.length_append
  refine VFun.intro (fn := Try.f11) rfl rfl (by kernel_rfl) (Nat.le_of_ble_eq_true rfl) fun Γ hpar => ?_
  refine vw_seq ?_
  refine vw_region ?_
  refine u_assign rfl rfl trivial ?_
  refine u_end trivial ?_
  refine vw_seq ?_
  refine vw_seq ?_
  refine vw_region ?_
  refine u_buildSlice 100 rfl rfl rfl rfl rfl rfl rfl rfl rfl rfl (notPar hpar rfl) rfl rfl trivial ?_
  refine u_move rfl rfl trivial ?_
  refine u_append 101 rfl rfl rfl (.shr _ _) rfl (notPar hpar rfl) rfl rfl rfl rfl rfl (by simp [cellsL, msgCells_length]; omega) rfl trivial ?_
  refine u_move rfl rfl trivial ?_
  refine u_append 102 rfl rfl rfl (.shr _ _) rfl (notPar hpar rfl) rfl rfl rfl rfl rfl (by simp [cellsL, msgCells_length]; omega) rfl trivial ?_
  refine u_lenR rfl rfl rfl rfl trivial ?_
  refine u_move rfl rfl trivial ?_
  refine u_end trivial ?_
  refine vw_block ?_
  refine vw_loopR (fun n_ E => ∃ (i : Nat), ((i ≤ (t ++ p).length)) ∧ n_ = (t ++ p).length - i ∧ E = ⟨[(0, .shr 2 (msgCells t)), (1, .shr 2 (msgCells p)), (2, .lit (.int .i64 s)), (13, .row 13), (14, .lit (.int .i64 ((t ++ p).length : Nat))), (15, .lit (.int .i64 i))], [(13, .row 48 2 (msgCells (t ++ p)))], 71⟩) (n0 := _) (E0 := _) (⟨0, by omega, rfl, rfl⟩) (ren [(13, 102)]) (mk_wk [(13, 102)] rfl rfl ⟨⟨_, rfl, (.shr _ _)⟩, ⟨_, rfl, (.shr _ _)⟩, ⟨_, rfl, (.lit _)⟩, ⟨_, rfl, (.row _ _ rfl (lookNe rfl))⟩, ⟨_, rfl, (subI (by simp [cellsL, msgCells_length]))⟩, ⟨_, rfl, (.lit _)⟩, trivial⟩ ⟨(.inl ⟨_, rfl, rowEq rfl (by rw [msgCells_app]; rfl)⟩), trivial⟩ (parOk hpar rfl)) (fun n_ E hR => ?_)
  obtain ⟨i, hI, rfl, rfl⟩ := hR
  have hI0 := hI
  refine vw_seq ?_
  refine vw_region ?_
  refine s_lss rfl rfl rfl trivial (fun h16 => ?_) (fun h16 => ?_)
  · refine u_end trivial ?_
    refine vw_seq ?_
    refine vw_condT rfl ?_
    refine vw_skip ?_
    refine vw_seq ?_
    refine vw_block ?_
    refine vw_seq ?_
    refine vw_region ?_
    refine u_indexR rfl rfl rfl rfl rfl rfl rfl (by rw [msgCells_length]; omega) rfl trivial ?_
    refine u_loadRowAll rfl rfl (msgCells_get (by omega)) rfl rfl rfl rfl trivial ?_
    refine u_alloc 123 rfl rfl (notPar hpar rfl) rfl rfl trivial ?_
    refine u_storeAll rfl rfl rfl rfl rfl rfl rfl rfl trivial ?_
    refine u_end trivial ?_
    refine vw_seq ?_
    refine vw_seq ?_
    refine vw_region ?_
    refine u_loadAll rfl rfl rfl rfl rfl rfl trivial ?_
    refine u_call rfl (c60 ((t ++ p)[i]'(by omega))) (.cons ((.agg _ _ (.cons ((.lit _)) (.cons ((.shr _ _)) .nil)))) .nil) rfl trivial ?_
    refine s_neq rfl rfl rfl trivial (fun h21 => ?_) (fun h21 => ?_)
    · refine u_end trivial ?_
      refine vw_condT rfl ?_
      refine vw_seq ?_
      refine vw_region ?_
      refine u_assign rfl rfl trivial ?_
      refine u_end trivial ?_
      refine vw_ret ?_
      refine fin0 (.inr rfl) (.cons (.tmp rfl (Nat.le_of_ble_eq_true rfl)) .nil) (subB ?_)
      · first | rfl | (first | rw [h61] | rw [h62]); symm; rw [beq_iff_eq]; first | rfl | (rw [Bool.true_and, Bool.eq_iff_iff, decide_eq_true_iff, beq_iff_eq]; simp only [msgCells_length]; omega) | simp
    · refine u_end trivial ?_
      refine vw_condF rfl ?_
      refine vw_skip ?_
      refine vw_seq ?_
      refine vw_draw ?_
      refine u_move rfl rfl trivial ?_
      refine u_len rfl rfl rfl trivial ?_
      refine s_gtr rfl rfl rfl trivial (fun h24 => ?_) (fun h24 => ?_)
      · refine u_move rfl rfl trivial ?_
        refine u_loadAll rfl rfl rfl rfl rfl rfl ⟨_, _, rfl, rfl, rfl, rfl⟩ ?_
        refine u_move rfl rfl ⟨_, _, rfl, rfl, rfl, rfl⟩ ?_
        refine u_indexS rfl rfl rfl rfl rfl (i := 0) rfl (msgCells_get (by simp only [msgCells_length] at h24; omega)) rfl ⟨_, _, rfl, rfl, rfl, rfl⟩ ?_
        refine u_loadSAll rfl rfl rfl rfl rfl ⟨_, _, rfl, rfl, rfl, rfl⟩ ?_
        refine u_call rfl (c61 ((t ++ p)[i]'(by omega)) (p[0]'(by simp only [msgCells_length] at h24; omega))) (.cons ((.agg _ _ (.cons ((.lit _)) (.cons ((.shr _ _)) .nil)))) (.cons ((.agg _ _ (.cons ((.lit _)) (.cons ((.shr _ _)) .nil)))) .nil)) rfl ⟨_, _, rfl, rfl, rfl, rfl⟩ ?_
        refine u_loadAll rfl rfl rfl rfl rfl rfl ⟨_, _, rfl, rfl, rfl, rfl⟩ ?_
        refine u_move rfl rfl ⟨_, _, rfl, rfl, rfl, rfl⟩ ?_
        refine u_indexS rfl rfl rfl rfl rfl (i := 0) rfl (msgCells_get (by simp only [msgCells_length] at h24; omega)) rfl ⟨_, _, rfl, rfl, rfl, rfl⟩ ?_
        refine u_loadSAll rfl rfl rfl rfl rfl ⟨_, _, rfl, rfl, rfl, rfl⟩ ?_
        refine u_call rfl (c62 ((t ++ p)[i]'(by omega)) (p[0]'(by simp only [msgCells_length] at h24; omega))) (.cons ((.agg _ _ (.cons ((.lit _)) (.cons ((.shr _ _)) .nil)))) (.cons ((.agg _ _ (.cons ((.lit _)) (.cons ((.shr _ _)) .nil)))) .nil)) rfl ⟨_, _, rfl, rfl, rfl, rfl⟩ ?_
        refine s_neqB rfl rfl rfl rfl ⟨_, _, rfl, rfl, rfl, rfl⟩ (fun h36 => ?_) (fun h36 => ?_)
        · exact absurd rfl h36
        · refine u_pickT rfl rfl rfl trivial ?_
          refine u_end (by kernel_rfl) ?_
          refine vw_condF rfl ?_
          refine vw_skip ?_
          refine vw_region ?_
          refine u_add rfl rfl rfl (by unfold inI; omega) rfl trivial ?_
          refine u_move rfl rfl trivial ?_
          refine u_end trivial ?_
          refine ⟨_, _, ren [(13, 13)], ?_, ⟨i + 1, ?_, rfl, rfl⟩, mk_wk [(13, 13)] rfl rfl ⟨⟨_, rfl, (.shr _ _)⟩, ⟨_, rfl, (.shr _ _)⟩, ⟨_, rfl, (.lit _)⟩, ⟨_, rfl, (.row _ _ rfl (lookNe rfl))⟩, ⟨_, rfl, (.lit _)⟩, ⟨_, rfl, (.lit _)⟩, trivial⟩ ⟨(.inl ⟨_, rfl, rfl⟩), trivial⟩ (parOk hpar rfl)⟩
          · omega
          · omega
      · refine u_move rfl rfl trivial ?_
        refine u_skip rfl rfl rfl rfl rfl ?_
        refine u_skip rfl rfl rfl rfl rfl ?_
        refine u_skip rfl rfl rfl rfl rfl ?_
        refine u_skip rfl rfl rfl rfl rfl ?_
        refine u_skip rfl rfl rfl rfl rfl ?_
        refine u_skip rfl rfl rfl rfl rfl ?_
        refine u_skip rfl rfl rfl rfl rfl ?_
        refine u_skip rfl rfl rfl rfl rfl ?_
        refine u_skip rfl rfl rfl rfl rfl ?_
        refine u_skip rfl rfl rfl rfl rfl ?_
        refine u_skip rfl rfl rfl rfl rfl ?_
        refine u_pickF rfl rfl rfl trivial ?_
        refine u_end (by kernel_rfl) ?_
        refine vw_condF rfl ?_
        refine vw_skip ?_
        refine vw_region ?_
        refine u_add rfl rfl rfl (by unfold inI; omega) rfl trivial ?_
        refine u_move rfl rfl trivial ?_
        refine u_end trivial ?_
        refine ⟨_, _, ren [(13, 13)], ?_, ⟨i + 1, ?_, rfl, rfl⟩, mk_wk [(13, 13)] rfl rfl ⟨⟨_, rfl, (.shr _ _)⟩, ⟨_, rfl, (.shr _ _)⟩, ⟨_, rfl, (.lit _)⟩, ⟨_, rfl, (.row _ _ rfl (lookNe rfl))⟩, ⟨_, rfl, (.lit _)⟩, ⟨_, rfl, (.lit _)⟩, trivial⟩ ⟨(.inl ⟨_, rfl, rfl⟩), trivial⟩ (parOk hpar rfl)⟩
        · omega
        · omega
  · refine u_end trivial ?_
    refine vw_seq ?_
    refine vw_condF rfl ?_
    refine vw_exit ?_
    refine iteP rfl ?_
    refine vw_seq ?_
    refine vw_region ?_
    refine u_move rfl rfl trivial ?_
    refine u_move rfl rfl trivial ?_
    refine u_call rfl (c64 _ _ (by omega)) (.cons ((.shr _ _)) (.cons ((.lit _)) .nil)) rfl trivial ?_
    refine u_move rfl rfl trivial ?_
    refine u_move rfl rfl trivial ?_
    refine u_call rfl (c65 _ _ (by omega)) (.cons ((.shr _ _)) (.cons ((.lit _)) .nil)) rfl trivial ?_
    refine s_call [] rfl (c63 _ _) (.cons ((.shr _ _)) (.cons ((.shr _ _)) .nil)) (fun k o h => by simp [Go.Vc.look] at h) rfl trivial (fun h45 => ?_) (fun h45 => ?_)
    · refine u_move rfl rfl trivial ?_
      refine u_move rfl rfl ⟨_, _, rfl, rfl, rfl, rfl⟩ ?_
      refine u_move rfl rfl ⟨_, _, rfl, rfl, rfl, rfl⟩ ?_
      refine u_call rfl (c66 _ _ (by omega) (by omega)) (.cons ((.shr _ _)) (.cons ((.shr _ _)) .nil)) rfl ⟨_, _, rfl, rfl, rfl, rfl⟩ ?_
      refine u_move rfl rfl ⟨_, _, rfl, rfl, rfl, rfl⟩ ?_
      refine u_move rfl rfl ⟨_, _, rfl, rfl, rfl, rfl⟩ ?_
      refine u_call rfl (c67 _ _ (by omega) (by omega)) (.cons ((.shr _ _)) (.cons ((.shr _ _)) .nil)) rfl ⟨_, _, rfl, rfl, rfl, rfl⟩ ?_
      refine s_eqlB rfl rfl rfl rfl ⟨_, _, rfl, rfl, rfl, rfl⟩ (fun h53 => ?_) (fun h53 => ?_)
      · refine u_pickT rfl rfl rfl trivial ?_
        refine u_move rfl rfl trivial ?_
        refine u_move rfl rfl ⟨_, _, rfl, rfl, rfl, rfl⟩ ?_
        refine u_move rfl rfl ⟨_, _, rfl, rfl, rfl, rfl⟩ ?_
        refine u_call rfl (c68 _ _ (by omega) (by omega)) (.cons ((.shr _ _)) (.cons ((.shr _ _)) .nil)) rfl ⟨_, _, rfl, rfl, rfl, rfl⟩ ?_
        refine u_move rfl rfl ⟨_, _, rfl, rfl, rfl, rfl⟩ ?_
        refine u_move rfl rfl ⟨_, _, rfl, rfl, rfl, rfl⟩ ?_
        refine s_call [] rfl (c67 _ _ (by omega) (by omega)) (.cons ((.shr _ _)) (.cons ((.shr _ _)) .nil)) (fun k o h => by simp [Go.Vc.look] at h) rfl ⟨_, _, rfl, rfl, rfl, rfl⟩ (fun h61 => ?_) (fun h61 => ?_)
        · refine u_move rfl rfl ⟨_, _, rfl, rfl, rfl, rfl⟩ ?_
          refine u_move rfl rfl ⟨_, _, rfl, rfl, rfl, rfl⟩ ?_
          refine u_len rfl rfl rfl ⟨_, _, rfl, rfl, rfl, rfl⟩ ?_
          refine u_move rfl rfl ⟨_, _, rfl, rfl, rfl, rfl⟩ ?_
          refine u_len rfl rfl rfl ⟨_, _, rfl, rfl, rfl, rfl⟩ ?_
          refine u_eql rfl rfl rfl ⟨_, _, rfl, rfl, rfl, rfl⟩ ?_
          refine u_pickT rfl rfl rfl ⟨_, _, rfl, rfl, rfl, rfl⟩ ?_
          refine u_eqlB rfl rfl rfl rfl ⟨_, _, rfl, rfl, rfl, rfl⟩ ?_
          refine u_pickT rfl rfl rfl trivial ?_
          refine u_assign rfl rfl trivial ?_
          refine u_end trivial ?_
          refine vw_ret ?_
          refine fin0 (.inr rfl) (.cons (.tmp rfl (Nat.le_of_ble_eq_true rfl)) .nil) (subB ?_)
          · first | rfl | (first | rw [h61] | rw [h62]); symm; rw [beq_iff_eq]; first | rfl | (rw [Bool.true_and, Bool.eq_iff_iff, decide_eq_true_iff, beq_iff_eq]; simp only [msgCells_length]; omega) | simp
        · refine u_move rfl rfl ⟨_, _, rfl, rfl, rfl, rfl⟩ ?_
          refine u_skip rfl rfl rfl rfl rfl ?_
          refine u_skip rfl rfl rfl rfl rfl ?_
          refine u_skip rfl rfl rfl rfl rfl ?_
          refine u_skip rfl rfl rfl rfl rfl ?_
          refine u_skip rfl rfl rfl rfl rfl ?_
          refine u_pickF rfl rfl rfl ⟨_, _, rfl, rfl, rfl, rfl⟩ ?_
          refine u_eqlB rfl rfl rfl rfl ⟨_, _, rfl, rfl, rfl, rfl⟩ ?_
          refine u_pickT rfl rfl rfl trivial ?_
          refine u_assign rfl rfl trivial ?_
          refine u_end trivial ?_
          refine vw_ret ?_
          refine fin0 (.inr rfl) (.cons (.tmp rfl (Nat.le_of_ble_eq_true rfl)) .nil) (subB ?_)
          · first | rfl | (first | rw [h61] | rw [h62]); symm; rw [beq_iff_eq]; first | rfl | (rw [Bool.true_and, Bool.eq_iff_iff, decide_eq_true_iff, beq_iff_eq]; simp only [msgCells_length]; omega) | simp
      · exact absurd rfl h53
    · simp at h45
end Go.Proofs.Ytaadloihphpdbaa
