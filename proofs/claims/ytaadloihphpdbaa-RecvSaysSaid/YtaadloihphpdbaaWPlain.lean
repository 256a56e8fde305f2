/- Walks of messages: how they are compared. Printed by a small program (walk.py). -/
import Derived.Test.YtaadloihphpdbaaVcB
import Derived.Test.YtaadloihphpdbaaPModel
import Derived.Test.YtaadloihphpdbaaVcTab
set_option linter.unusedVariables false
set_option linter.unusedSimpArgs false
set_option maxRecDepth 4000
namespace Go.Proofs.Ytaadloihphpdbaa
open Go Go.Vc Go.RowKit

theorem c60 (m : Msg) : VFun G 60 [.agg [.lit (.int .i64 m.1), .shr 1 (byteCells m.2)]] [] (.lit (.int .i64 (wrongMsg m))) [] := by
 refine VFun.intro (fn := Try.f60) rfl rfl (by kernel_rfl) (nb rfl) fun Γ hpar => ?_
 refine vw_seq ?_
 refine vw_region ?_
 refine u_box 100 rfl rfl rfl (notPar hpar rfl) rfl rfl trivial ?_
 refine u_assign rfl rfl trivial ?_
 refine u_end trivial ?_
 refine vw_seq ?_
 refine vw_seq ?_
 refine vw_region ?_
 refine u_fieldAddr rfl rfl rfl rfl rfl rfl trivial ?_
 refine u_load1 rfl rfl rfl rfl rfl rfl trivial ?_
 refine s_lss rfl rfl rfl trivial (fun h5 => ?_) (fun h5 => ?_)
 ·refine u_move rfl rfl trivial ?_
  refine u_skip rfl rfl rfl rfl rfl ?_
  refine u_skip rfl rfl rfl rfl rfl ?_
  refine u_skip rfl rfl rfl rfl rfl ?_
  refine u_pickT rfl rfl rfl trivial ?_
  refine u_end trivial ?_
  refine vw_condT rfl ?_
  refine vw_seq ?_
  refine vw_region ?_
  refine u_assign rfl rfl trivial ?_
  refine u_end trivial ?_
  refine vw_ret ?_
  refine fin0 (.inr rfl) (.cons (.tmp rfl (nb rfl)) .nil) (subI ?_)
  ·exact wrongMsg1 (by omega)
 ·refine u_move rfl rfl trivial ?_
  refine u_fieldAddr rfl rfl rfl rfl rfl rfl ⟨_, _, rfl, rfl, rfl, rfl⟩ ?_
  refine u_load1 rfl rfl rfl rfl rfl rfl ⟨_, _, rfl, rfl, rfl, rfl⟩ ?_
  refine s_gtr rfl rfl rfl ⟨_, _, rfl, rfl, rfl, rfl⟩ (fun h9 => ?_) (fun h9 => ?_)
  ·refine u_pickF rfl rfl rfl trivial ?_
   refine u_end trivial ?_
   refine vw_condT rfl ?_
   refine vw_seq ?_
   refine vw_region ?_
   refine u_assign rfl rfl trivial ?_
   refine u_end trivial ?_
   refine vw_ret ?_
   refine fin0 (.inr rfl) (.cons (.tmp rfl (nb rfl)) .nil) (subI ?_)
   ·exact wrongMsg1 (by omega)
  ·refine u_pickF rfl rfl rfl trivial ?_
   refine u_end trivial ?_
   refine vw_condF rfl ?_
   refine vw_skip ?_
   refine vw_seq ?_
   refine vw_seq ?_
   refine vw_region ?_
   refine u_fieldAddr rfl rfl rfl rfl rfl rfl trivial ?_
   refine u_load1 rfl rfl rfl rfl rfl rfl trivial ?_
   refine u_len rfl rfl rfl trivial ?_
   refine s_gtr rfl rfl rfl trivial (fun h14 => ?_) (fun h14 => ?_)
   ·refine u_end trivial ?_
    refine vw_condT rfl ?_
    refine vw_seq ?_
    refine vw_region ?_
    refine u_assign rfl rfl trivial ?_
    refine u_end trivial ?_
    refine vw_ret ?_
    refine fin0 (.inr rfl) (.cons (.tmp rfl (nb rfl)) .nil) (subI ?_)
    ·rw [byteCells_length] at h14; exact wrongMsg2 (by omega) (by omega)
   ·refine u_end trivial ?_
    refine vw_condF rfl ?_
    refine vw_skip ?_
    refine vw_seq ?_
    refine vw_region ?_
    refine u_assign rfl rfl trivial ?_
    refine u_end trivial ?_
    refine vw_ret ?_
    refine fin0 (.inr rfl) (.cons (.tmp rfl (nb rfl)) .nil) (subI ?_)
    ·rw [byteCells_length] at h14; exact wrongMsg3 (by omega) (by omega)
theorem c135 (a b : List UInt8) : VFun G 135 [.shr 1 (byteCells a), .shr 1 (byteCells b)] [] (.lit (.bool (a == b))) [] := by
 refine VFun.intro (fn := Try.f135) rfl rfl (by kernel_rfl) (nb rfl) fun Γ hpar => ?_
 refine vw_seq ?_
 refine vw_len (t := 0) rfl fun hl => ?_
 rw [byteCells_length] at hl
 refine vw_region ?_
 refine u_assign rfl rfl trivial ?_
 refine u_end trivial ?_
 refine vw_seq ?_
 refine vw_seq ?_
 refine vw_region ?_
 refine u_move rfl rfl trivial ?_
 refine u_len rfl rfl rfl trivial ?_
 refine u_move rfl rfl trivial ?_
 refine u_len rfl rfl rfl trivial ?_
 refine s_neq rfl rfl rfl trivial (fun h10 => ?_) (fun h10 => ?_)
 ·refine u_end trivial ?_
  refine vw_condT rfl ?_
  refine vw_seq ?_
  simp only [byteCells_length] at h10
  refine vw_region ?_
  refine u_assign rfl rfl trivial ?_
  refine u_end trivial ?_
  refine vw_ret ?_
  refine fin0 (.inr rfl) (.cons (.tmp rfl (nb rfl)) .nil) (subB ?_)
  ·refine beq_eq_false_iff_ne.2 (fun e => h10 (by rw [e]))
 ·refine u_end trivial ?_
  refine vw_condF rfl ?_
  refine vw_skip ?_
  refine vw_seq ?_
  refine vw_seq ?_
  simp only [byteCells_length] at h10
  have hab : a.length = b.length := by omega
  refine vw_region ?_
  refine u_move rfl rfl trivial ?_
  refine u_len rfl rfl rfl trivial ?_
  refine u_move rfl rfl trivial ?_
  refine u_end trivial ?_
  refine vw_block ?_
  refine vw_loopR (fun n_ E => ∃ (i : Nat), ((i ≤ a.length) ∧ (a.take i = b.take i)) ∧ n_ = a.length - i ∧ E = ⟨[(0, .shr 1 (byteCells a)), (1, .shr 1 (byteCells b)), (12, .lit (.int .i64 (byteCells a).length)), (13, .lit (.int .i64 i))], [], 26⟩) (n0 := _) (E0 := _) (⟨0, by exact ⟨Nat.zero_le _, rfl⟩, rfl, rfl⟩) (ren []) (mk_wk [] rfl rfl ⟨⟨_, rfl, (.shr _ _)⟩, ⟨_, rfl, (.shr _ _)⟩, ⟨_, rfl, (.lit _)⟩, ⟨_, rfl, (.lit _)⟩, trivial⟩ trivial (parOk hpar rfl)) (fun n_ E hR => ?_)
  obtain ⟨i, hI, rfl, rfl⟩ := hR
  obtain ⟨hI0, hI1⟩ := hI
  refine vw_seq ?_
  refine vw_region ?_
  refine s_lss rfl rfl rfl trivial (fun h14 => ?_) (fun h14 => ?_)
  ·refine u_end trivial ?_
   refine vw_seq ?_
   refine vw_condT rfl ?_
   refine vw_skip ?_
   refine vw_seq ?_
   refine vw_block ?_
   refine vw_seq ?_
   refine vw_region ?_
   refine u_move rfl rfl trivial ?_
   refine u_assign rfl rfl trivial ?_
   refine u_end trivial ?_
   refine vw_seq ?_
   rw [byteCells_length] at h14
   refine vw_draw ?_
   refine u_move rfl rfl trivial ?_
   refine u_move rfl rfl trivial ?_
   refine u_indexS rfl rfl rfl rfl rfl rfl (byteCells_get (by omega)) rfl trivial ?_
   refine u_loadS1 rfl rfl rfl rfl rfl trivial ?_
   refine u_move rfl rfl trivial ?_
   refine u_move rfl rfl trivial ?_
   refine u_indexS rfl rfl rfl rfl rfl rfl (byteCells_get (by omega)) rfl trivial ?_
   refine u_loadS1 rfl rfl rfl rfl rfl trivial ?_
   refine s_neq rfl rfl rfl trivial (fun h24 => ?_) (fun h24 => ?_)
   ·refine u_end (by kernel_rfl) ?_
    refine vw_condT rfl ?_
    refine vw_seq ?_
    refine vw_region ?_
    refine u_assign rfl rfl trivial ?_
    refine u_end trivial ?_
    refine vw_ret ?_
    refine fin0 (.inr rfl) (.cons (.tmp rfl (nb rfl)) .nil) (subB ?_)
    ·refine beq_eq_false_iff_ne.2 (fun e => ?_)
     subst e
     exact h24 rfl
   ·refine u_end (by kernel_rfl) ?_
    refine vw_condF rfl ?_
    refine vw_skip ?_
    refine vw_region ?_
    refine u_add rfl rfl rfl (by unfold inI; omega) rfl trivial ?_
    refine u_move rfl rfl trivial ?_
    refine u_end trivial ?_
    refine ⟨_, _, ren [], ?_, ⟨i + 1, ?_, rfl, rfl⟩, mk_wk [] rfl rfl ⟨⟨_, rfl, (.shr _ _)⟩, ⟨_, rfl, (.shr _ _)⟩, ⟨_, rfl, (.lit _)⟩, ⟨_, rfl, (.lit _)⟩, trivial⟩ trivial (parOk hpar rfl)⟩
    ·omega
    ·refine ⟨by omega, ?_⟩
     rw [List.take_add_one, List.take_add_one, hI1, List.getElem?_eq_getElem (by omega), List.getElem?_eq_getElem (by omega)]
     rw [UInt8.toNat_inj.1 (Int.ofNat.inj h24)]
  ·refine u_end trivial ?_
   refine vw_seq ?_
   refine vw_condF rfl ?_
   refine vw_exit ?_
   refine iteP rfl ?_
   refine vw_seq ?_
   rw [byteCells_length] at h14
   refine vw_region ?_
   refine u_assign rfl rfl trivial ?_
   refine u_end trivial ?_
   refine vw_ret ?_
   refine fin0 (.inr rfl) (.cons (.tmp rfl (nb rfl)) .nil) (subB ?_)
   ·refine beq_iff_eq.2 ?_
    rw [List.take_of_length_le (by omega), List.take_of_length_le (by omega)] at hI1
    exact hI1
theorem c61 (m n : Msg) : VFun G 61 [.agg [.lit (.int .i64 m.1), .shr 1 (byteCells m.2)], .agg [.lit (.int .i64 n.1), .shr 1 (byteCells n.2)]] [] (.lit (.bool (m == n))) [] := by
 refine VFun.intro (fn := Try.f61) rfl rfl (by kernel_rfl) (nb rfl) fun Γ hpar => ?_
 refine vw_seq ?_
 refine vw_region ?_
 refine u_box 100 rfl rfl rfl (notPar hpar rfl) rfl rfl trivial ?_
 refine u_box 101 rfl rfl rfl (notPar hpar rfl) rfl rfl trivial ?_
 refine u_assign rfl rfl trivial ?_
 refine u_end trivial ?_
 refine vw_seq ?_
 refine vw_region ?_
 refine u_fieldAddr rfl rfl rfl rfl rfl rfl trivial ?_
 refine u_load1 rfl rfl rfl rfl rfl rfl trivial ?_
 refine u_fieldAddr rfl rfl rfl rfl rfl rfl trivial ?_
 refine u_load1 rfl rfl rfl rfl rfl rfl trivial ?_
 refine s_eql rfl rfl rfl trivial (fun h9 => ?_) (fun h9 => ?_)
 ·refine u_move rfl rfl trivial ?_
  refine u_fieldAddr rfl rfl rfl rfl rfl rfl ⟨_, _, rfl, rfl, rfl, rfl⟩ ?_
  refine u_load1 rfl rfl rfl rfl rfl rfl ⟨_, _, rfl, rfl, rfl, rfl⟩ ?_
  refine u_fieldAddr rfl rfl rfl rfl rfl rfl ⟨_, _, rfl, rfl, rfl, rfl⟩ ?_
  refine u_load1 rfl rfl rfl rfl rfl rfl ⟨_, _, rfl, rfl, rfl, rfl⟩ ?_
  refine u_call rfl (c135 _ _) (.cons ((.shr _ _)) (.cons ((.shr _ _)) .nil)) rfl ⟨_, _, rfl, rfl, rfl, rfl⟩ ?_
  refine u_pickT rfl rfl rfl trivial ?_
  refine u_assign rfl rfl trivial ?_
  refine u_end trivial ?_
  refine vw_ret ?_
  refine fin0 (.inr rfl) (.cons (.tmp rfl (nb rfl)) .nil) (subB ?_)
  ·exact Bool.eq_iff_iff.2 (by simp [Prod.ext_iff, h9])
 ·refine u_move rfl rfl trivial ?_
  refine u_skip rfl rfl rfl rfl rfl ?_
  refine u_skip rfl rfl rfl rfl rfl ?_
  refine u_skip rfl rfl rfl rfl rfl ?_
  refine u_skip rfl rfl rfl rfl rfl ?_
  refine u_skip rfl rfl rfl rfl rfl ?_
  refine u_pickF rfl rfl rfl trivial ?_
  refine u_assign rfl rfl trivial ?_
  refine u_end trivial ?_
  refine vw_ret ?_
  refine fin0 (.inr rfl) (.cons (.tmp rfl (nb rfl)) .nil) (subB ?_)
  ·exact Bool.eq_iff_iff.2 (by simp [Prod.ext_iff, h9])
theorem c62 (m n : Msg) : VFun G 62 [.agg [.lit (.int .i64 m.1), .shr 1 (byteCells m.2)], .agg [.lit (.int .i64 n.1), .shr 1 (byteCells n.2)]] [] (.lit (.bool (m == n))) [] := by
 refine VFun.intro (fn := Try.f62) rfl rfl (by kernel_rfl) (nb rfl) fun Γ hpar => ?_
 refine vw_seq ?_
 refine vw_region ?_
 refine u_box 100 rfl rfl rfl (notPar hpar rfl) rfl rfl trivial ?_
 refine u_box 101 rfl rfl rfl (notPar hpar rfl) rfl rfl trivial ?_
 refine u_assign rfl rfl trivial ?_
 refine u_end trivial ?_
 refine vw_seq ?_
 refine vw_region ?_
 refine u_fieldAddr rfl rfl rfl rfl rfl rfl trivial ?_
 refine u_load1 rfl rfl rfl rfl rfl rfl trivial ?_
 refine u_fieldAddr rfl rfl rfl rfl rfl rfl trivial ?_
 refine u_load1 rfl rfl rfl rfl rfl rfl trivial ?_
 refine s_eql rfl rfl rfl trivial (fun h9 => ?_) (fun h9 => ?_)
 ·refine u_move rfl rfl trivial ?_
  refine u_fieldAddr rfl rfl rfl rfl rfl rfl ⟨_, _, rfl, rfl, rfl, rfl⟩ ?_
  refine u_load1 rfl rfl rfl rfl rfl rfl ⟨_, _, rfl, rfl, rfl, rfl⟩ ?_
  refine u_convT rfl (by rfl) rfl rfl rfl rfl ⟨_, _, rfl, rfl, rfl, rfl⟩ ?_
  refine u_fieldAddr rfl rfl rfl rfl rfl rfl ⟨_, _, rfl, rfl, rfl, rfl⟩ ?_
  refine u_load1 rfl rfl rfl rfl rfl rfl ⟨_, _, rfl, rfl, rfl, rfl⟩ ?_
  refine u_convT rfl (by rfl) rfl rfl rfl rfl ⟨_, _, rfl, rfl, rfl, rfl⟩ ?_
  refine u_eqlT rfl rfl rfl ⟨_, _, rfl, rfl, rfl, rfl⟩ ?_
  refine u_pickT rfl rfl rfl trivial ?_
  refine u_assign rfl rfl trivial ?_
  refine u_end trivial ?_
  refine vw_ret ?_
  refine fin0 (.inr rfl) (.cons (.tmp rfl (nb rfl)) .nil) (subB ?_)
  ·exact Bool.eq_iff_iff.2 (by simp [Prod.ext_iff, h9, bytesT])
 ·refine u_move rfl rfl trivial ?_
  refine u_skip rfl rfl rfl rfl rfl ?_
  refine u_skip rfl rfl rfl rfl rfl ?_
  refine u_skip rfl rfl rfl rfl rfl ?_
  refine u_skip rfl rfl rfl rfl rfl ?_
  refine u_skip rfl rfl rfl rfl rfl ?_
  refine u_skip rfl rfl rfl rfl rfl ?_
  refine u_skip rfl rfl rfl rfl rfl ?_
  refine u_pickF rfl rfl rfl trivial ?_
  refine u_assign rfl rfl trivial ?_
  refine u_end trivial ?_
  refine vw_ret ?_
  refine fin0 (.inr rfl) (.cons (.tmp rfl (nb rfl)) .nil) (subB ?_)
  ·exact Bool.eq_iff_iff.2 (by simp [Prod.ext_iff, h9, bytesT])
theorem c63 (a b : List Msg) : VFun G 63 [.shr 2 (msgCells a), .shr 2 (msgCells b)] [] (.lit (.bool (a == b))) [] := by
 refine VFun.intro (fn := Try.f63) rfl rfl (by kernel_rfl) (nb rfl) fun Γ hpar => ?_
 refine vw_seq ?_
 refine vw_len (t := 0) rfl fun hl => ?_
 rw [msgCells_length] at hl
 refine vw_region ?_
 refine u_assign rfl rfl trivial ?_
 refine u_end trivial ?_
 refine vw_seq ?_
 refine vw_seq ?_
 refine vw_region ?_
 refine u_move rfl rfl trivial ?_
 refine u_len rfl rfl rfl trivial ?_
 refine u_move rfl rfl trivial ?_
 refine u_len rfl rfl rfl trivial ?_
 refine s_neq rfl rfl rfl trivial (fun h10 => ?_) (fun h10 => ?_)
 ·refine u_end trivial ?_
  refine vw_condT rfl ?_
  refine vw_seq ?_
  simp only [msgCells_length] at h10
  refine vw_region ?_
  refine u_assign rfl rfl trivial ?_
  refine u_end trivial ?_
  refine vw_ret ?_
  refine fin0 (.inr rfl) (.cons (.tmp rfl (nb rfl)) .nil) (subB ?_)
  ·refine beq_eq_false_iff_ne.2 (fun e => h10 (by rw [e]))
 ·refine u_end trivial ?_
  refine vw_condF rfl ?_
  refine vw_skip ?_
  refine vw_seq ?_
  refine vw_seq ?_
  simp only [msgCells_length] at h10
  have hab : a.length = b.length := by omega
  refine vw_region ?_
  refine u_move rfl rfl trivial ?_
  refine u_len rfl rfl rfl trivial ?_
  refine u_move rfl rfl trivial ?_
  refine u_end trivial ?_
  refine vw_block ?_
  refine vw_loopR (fun n_ E => ∃ (i : Nat), ((i ≤ a.length) ∧ (a.take i = b.take i)) ∧ n_ = a.length - i ∧ E = ⟨[(0, .shr 2 (msgCells a)), (1, .shr 2 (msgCells b)), (12, .lit (.int .i64 (msgCells a).length)), (13, .lit (.int .i64 i))], [], 27⟩) (n0 := _) (E0 := _) (⟨0, by exact ⟨Nat.zero_le _, rfl⟩, rfl, rfl⟩) (ren []) (mk_wk [] rfl rfl ⟨⟨_, rfl, (.shr _ _)⟩, ⟨_, rfl, (.shr _ _)⟩, ⟨_, rfl, (.lit _)⟩, ⟨_, rfl, (.lit _)⟩, trivial⟩ trivial (parOk hpar rfl)) (fun n_ E hR => ?_)
  obtain ⟨i, hI, rfl, rfl⟩ := hR
  obtain ⟨hI0, hI1⟩ := hI
  refine vw_seq ?_
  refine vw_region ?_
  refine s_lss rfl rfl rfl trivial (fun h14 => ?_) (fun h14 => ?_)
  ·refine u_end trivial ?_
   refine vw_seq ?_
   refine vw_condT rfl ?_
   refine vw_skip ?_
   refine vw_seq ?_
   refine vw_block ?_
   refine vw_seq ?_
   refine vw_region ?_
   refine u_move rfl rfl trivial ?_
   refine u_assign rfl rfl trivial ?_
   refine u_end trivial ?_
   refine vw_seq ?_
   rw [msgCells_length] at h14
   refine vw_draw ?_
   refine u_move rfl rfl trivial ?_
   refine u_move rfl rfl trivial ?_
   refine u_indexS rfl rfl rfl rfl rfl rfl (msgCells_get (by omega)) rfl trivial ?_
   refine u_loadSAll rfl rfl rfl rfl rfl trivial ?_
   refine u_move rfl rfl trivial ?_
   refine u_move rfl rfl trivial ?_
   refine u_indexS rfl rfl rfl rfl rfl rfl (msgCells_get (by omega)) rfl trivial ?_
   refine u_loadSAll rfl rfl rfl rfl rfl trivial ?_
   refine s_call [] rfl (c62 (a[i]'(by omega)) (b[i]'(by omega))) (.cons ((subP rfl)) (.cons ((subP rfl)) .nil)) (fun k o h => by simp [Go.Vc.look] at h) rfl trivial (fun h24 => ?_) (fun h24 => ?_)
   ·refine u_not rfl rfl trivial ?_
    refine u_end (by kernel_rfl) ?_
    refine vw_condF rfl ?_
    refine vw_skip ?_
    refine vw_region ?_
    refine u_add rfl rfl rfl (by unfold inI; omega) rfl trivial ?_
    refine u_move rfl rfl trivial ?_
    refine u_end trivial ?_
    refine ⟨_, _, ren [], ?_, ⟨i + 1, ?_, rfl, rfl⟩, mk_wk [] rfl rfl ⟨⟨_, rfl, (.shr _ _)⟩, ⟨_, rfl, (.shr _ _)⟩, ⟨_, rfl, (.lit _)⟩, ⟨_, rfl, (.lit _)⟩, trivial⟩ trivial (parOk hpar rfl)⟩
    ·omega
    ·refine ⟨by omega, ?_⟩
     rw [List.take_add_one, List.take_add_one, hI1, List.getElem?_eq_getElem (by omega), List.getElem?_eq_getElem (by omega)]
     rw [beq_iff_eq.1 h24]
   ·refine u_not rfl rfl trivial ?_
    refine u_end (by kernel_rfl) ?_
    refine vw_condT rfl ?_
    refine vw_seq ?_
    refine vw_region ?_
    refine u_assign rfl rfl trivial ?_
    refine u_end trivial ?_
    refine vw_ret ?_
    refine fin0 (.inr rfl) (.cons (.tmp rfl (nb rfl)) .nil) (subB ?_)
    ·refine beq_eq_false_iff_ne.2 (fun e => ?_)
     subst e
     simp at h24
  ·refine u_end trivial ?_
   refine vw_seq ?_
   refine vw_condF rfl ?_
   refine vw_exit ?_
   refine iteP rfl ?_
   refine vw_seq ?_
   rw [msgCells_length] at h14
   refine vw_region ?_
   refine u_assign rfl rfl trivial ?_
   refine u_end trivial ?_
   refine vw_ret ?_
   refine fin0 (.inr rfl) (.cons (.tmp rfl (nb rfl)) .nil) (subB ?_)
   ·refine beq_iff_eq.2 ?_
    rw [List.take_of_length_le (by omega), List.take_of_length_le (by omega)] at hI1
    exact hI1
theorem c65 (l : List Msg) (s : Int) (hl : l.length ≤ 4398046511000) : VFun G 65 [.shr 2 (msgCells l), .lit (.int .i64 s)] [] (.shr 2 (msgCells (ofStream s l))) [] := by
 refine VFun.intro (fn := Try.f65) rfl rfl (by kernel_rfl) (nb rfl) fun Γ hpar => ?_
 refine vw_seq ?_
 refine vw_region ?_
 refine u_assign rfl rfl trivial ?_
 refine u_end trivial ?_
 refine vw_seq ?_
 refine vw_region ?_
 refine u_assign rfl rfl trivial ?_
 refine u_end trivial ?_
 refine vw_seq ?_
 refine vw_seq ?_
 refine vw_region ?_
 refine u_move rfl rfl trivial ?_
 refine u_len rfl rfl rfl trivial ?_
 refine u_move rfl rfl trivial ?_
 refine u_end trivial ?_
 refine vw_block ?_
 refine vw_loopR (fun n_ E => ∃ (i : Nat), ((i ≤ l.length)) ∧ n_ = l.length - i ∧ E = ⟨[(1, .lit (.int .i64 s)), (8, .shr 2 (msgCells l)), (9, .lit (.int .i64 (msgCells l).length)), (10, .lit (.int .i64 i)), (5, .row 5)], [(5, .row 48 2 (msgCells (ofStream s (l.take i))))], 24⟩) (n0 := _) (E0 := _) (⟨0, by omega, rfl, rfl⟩) (ren []) (mk_wk [] rfl rfl ⟨⟨_, rfl, (.lit _)⟩, ⟨_, rfl, (.shr _ _)⟩, ⟨_, rfl, (.lit _)⟩, ⟨_, rfl, (.lit _)⟩, ⟨_, rfl, .nilrow _ _ _ _ rfl rfl⟩, trivial⟩ ⟨(.inr (.inl ⟨rfl, rfl⟩)), trivial⟩ (parOk hpar rfl)) (fun n_ E hR => ?_)
 obtain ⟨i, hI, rfl, rfl⟩ := hR
 have hI0 := hI
 refine vw_seq ?_
 refine vw_region ?_
 refine s_lss rfl rfl rfl trivial (fun h11 => ?_) (fun h11 => ?_)
 ·refine u_end trivial ?_
  refine vw_seq ?_
  refine vw_condT rfl ?_
  refine vw_skip ?_
  refine vw_seq ?_
  refine vw_block ?_
  refine vw_seq ?_
  rw [msgCells_length] at h11
  refine vw_region ?_
  refine u_indexS rfl rfl rfl rfl rfl rfl (msgCells_get (by omega)) rfl trivial ?_
  refine u_loadSAll rfl rfl rfl rfl rfl trivial ?_
  refine u_alloc 120 rfl rfl (notPar hpar rfl) rfl rfl trivial ?_
  refine u_storeAll rfl rfl rfl rfl rfl rfl rfl rfl trivial ?_
  refine u_end trivial ?_
  refine vw_seq ?_
  refine vw_region ?_
  refine u_fieldAddr rfl rfl rfl rfl rfl rfl trivial ?_
  refine u_load1 rfl rfl rfl rfl rfl rfl trivial ?_
  refine u_move rfl rfl trivial ?_
  refine s_eql rfl rfl rfl trivial (fun h17 => ?_) (fun h17 => ?_)
  ·refine u_end trivial ?_
   refine vw_condT rfl ?_
   refine vw_region ?_
   refine u_move rfl rfl trivial ?_
   refine u_loadAll rfl rfl rfl rfl rfl rfl trivial ?_
   refine u_buildSlice 121 rfl rfl rfl rfl rfl rfl rfl rfl rfl rfl (notPar hpar rfl) rfl rfl trivial ?_
   refine u_append 122 rfl rfl rfl (srcRow rfl) rfl (notPar hpar rfl) rfl rfl rfl rfl rfl (by have h1 := ofStream_len s (l.take i); rw [List.length_take] at h1; rw [msgCells_length]; simp [cellsL]; omega) rfl trivial ?_
   refine u_assign rfl rfl trivial ?_
   refine u_end trivial ?_
   refine vw_region ?_
   refine u_add rfl rfl rfl (by unfold inI; omega) rfl trivial ?_
   refine u_move rfl rfl trivial ?_
   refine u_end trivial ?_
   refine ⟨_, _, ren [(5, 122)], ?_, ⟨i + 1, ?_, rfl, rfl⟩, mk_wk [(5, 122)] rfl rfl ⟨⟨_, rfl, (.lit _)⟩, ⟨_, rfl, (.shr _ _)⟩, ⟨_, rfl, (.lit _)⟩, ⟨_, rfl, (.lit _)⟩, ⟨_, rfl, (.row _ _ rfl (lookNe rfl))⟩, trivial⟩ ⟨(.inl ⟨_, rfl, rowEq rfl (by rw [ofStreamY (by omega) h17, msgCells_snoc]; rfl)⟩), trivial⟩ (parOk hpar rfl)⟩
   ·omega
   ·omega
  ·refine u_end trivial ?_
   refine vw_condF rfl ?_
   refine vw_skip ?_
   refine vw_region ?_
   refine u_add rfl rfl rfl (by unfold inI; omega) rfl trivial ?_
   refine u_move rfl rfl trivial ?_
   refine u_end trivial ?_
   refine ⟨_, _, ren [(5, 5)], ?_, ⟨i + 1, ?_, rfl, rfl⟩, mk_wk [(5, 5)] rfl rfl ⟨⟨_, rfl, (.lit _)⟩, ⟨_, rfl, (.shr _ _)⟩, ⟨_, rfl, (.lit _)⟩, ⟨_, rfl, (.lit _)⟩, ⟨_, rfl, (.row _ _ rfl (lookNe rfl))⟩, trivial⟩ ⟨(.inl ⟨_, rfl, rowEq rfl (by rw [ofStreamN (by omega) h17])⟩), trivial⟩ (parOk hpar rfl)⟩
   ·omega
   ·omega
 ·refine u_end trivial ?_
  refine vw_seq ?_
  refine vw_condF rfl ?_
  refine vw_exit ?_
  refine iteP rfl ?_
  refine vw_seq ?_
  rw [msgCells_length] at h11
  refine vw_region ?_
  refine u_move rfl rfl trivial ?_
  refine u_assign rfl rfl trivial ?_
  refine u_end trivial ?_
  refine vw_ret ?_
  refine fin0 (.inr rfl) (.cons (.tmp rfl (nb rfl)) .nil) (subFz rfl (fzL rfl) ?_)
  ·rw [List.take_of_length_le (by omega)]
theorem c67 (t p : List Msg) (ht : t.length ≤ 4398046511000) (hp : p.length ≤ 4398046511000) : VFun G 67 [.shr 2 (msgCells t), .shr 2 (msgCells p)] [] (.lit (.bool (fits t p))) [] := by
 refine VFun.intro (fn := Try.f67) rfl rfl (by kernel_rfl) (nb rfl) fun Γ hpar => ?_
 refine vw_seq ?_
 refine vw_region ?_
 refine u_assign rfl rfl trivial ?_
 refine u_end trivial ?_
 refine vw_seq ?_
 refine vw_seq ?_
 refine vw_region ?_
 refine u_move rfl rfl trivial ?_
 refine u_end trivial ?_
 refine vw_block ?_
 refine vw_loopR (fun n_ E => ∃ (i : Nat), ((i ≤ 3) ∧ (∀ j : Nat, j < i → fits1 (j : Int) t p = true)) ∧ n_ = 3 - i ∧ E = ⟨[(0, .shr 2 (msgCells t)), (1, .shr 2 (msgCells p)), (8, .lit (.int .i64 i))], [], 32⟩) (n0 := _) (E0 := _) (⟨0, by exact ⟨by decide, fun j hj => absurd hj (Nat.not_lt_zero _)⟩, rfl, rfl⟩) (ren []) (mk_wk [] rfl rfl ⟨⟨_, rfl, (.shr _ _)⟩, ⟨_, rfl, (.shr _ _)⟩, ⟨_, rfl, (.lit _)⟩, trivial⟩ trivial (parOk hpar rfl)) (fun n_ E hR => ?_)
 obtain ⟨i, hI, rfl, rfl⟩ := hR
 obtain ⟨hI0, hI1⟩ := hI
 refine vw_seq ?_
 refine vw_region ?_
 refine s_lss rfl rfl rfl trivial (fun h9 => ?_) (fun h9 => ?_)
 ·refine u_end trivial ?_
  refine vw_seq ?_
  refine vw_condT rfl ?_
  refine vw_skip ?_
  refine vw_seq ?_
  refine vw_block ?_
  refine vw_seq ?_
  refine vw_region ?_
  refine u_move rfl rfl trivial ?_
  refine u_assign rfl rfl trivial ?_
  refine u_end trivial ?_
  refine vw_seq ?_
  refine vw_region ?_
  refine u_move rfl rfl trivial ?_
  refine u_move rfl rfl trivial ?_
  refine u_call rfl (c65 _ _ (by omega)) (.cons ((.shr _ _)) (.cons ((.lit _)) .nil)) rfl trivial ?_
  refine u_move rfl rfl trivial ?_
  refine u_move rfl rfl trivial ?_
  refine u_call rfl (c65 _ _ (by omega)) (.cons ((.shr _ _)) (.cons ((.lit _)) .nil)) rfl trivial ?_
  refine u_assign rfl rfl trivial ?_
  refine u_assign rfl rfl trivial ?_
  refine u_end trivial ?_
  refine vw_seq ?_
  refine vw_region ?_
  refine u_move rfl rfl trivial ?_
  refine u_len rfl rfl rfl trivial ?_
  refine u_move rfl rfl trivial ?_
  refine u_len rfl rfl rfl trivial ?_
  refine s_gtr rfl rfl rfl trivial (fun h21 => ?_) (fun h21 => ?_)
  ·refine u_move rfl rfl trivial ?_
   refine u_skip rfl rfl rfl rfl rfl ?_
   refine u_skip rfl rfl rfl rfl rfl ?_
   refine u_skip rfl rfl rfl rfl rfl ?_
   refine u_skip rfl rfl rfl rfl rfl ?_
   refine u_skip rfl rfl rfl rfl rfl ?_
   refine u_skip rfl rfl rfl rfl rfl ?_
   refine u_skip rfl rfl rfl rfl rfl ?_
   refine u_pickT rfl rfl rfl trivial ?_
   refine u_end trivial ?_
   refine vw_condT rfl ?_
   refine vw_seq ?_
   refine vw_region ?_
   refine u_assign rfl rfl trivial ?_
   refine u_end trivial ?_
   refine vw_ret ?_
   refine fin0 (.inr rfl) (.cons (.tmp rfl (nb rfl)) .nil) (subB ?_)
   ·simp only [msgCells_length] at h21
    exact fitsN (i := i) (by omega) (by unfold fits1; rw [decide_eq_false (by omega)]; rfl)
  ·refine u_move rfl rfl trivial ?_
   refine u_move rfl rfl ⟨_, _, rfl, rfl, rfl, rfl⟩ ?_
   refine u_move rfl rfl ⟨_, _, rfl, rfl, rfl, rfl⟩ ?_
   refine u_move rfl rfl ⟨_, _, rfl, rfl, rfl, rfl⟩ ?_
   refine u_len rfl rfl rfl ⟨_, _, rfl, rfl, rfl, rfl⟩ ?_
   refine u_sliceHi (ofStream i t).length rfl rfl (by rw [msgCells_length]) (by simp only [msgCells_length] at h21 ⊢; omega) rfl rfl rfl rfl ⟨_, _, rfl, rfl, rfl, rfl⟩ ?_
   refine s_call [] rfl (c63 (ofStream i t) ((ofStream i p).take (ofStream i t).length)) (.cons ((.shr _ _)) (.cons (subS (msgCells_take _ _).symm) .nil)) (fun k o h => by simp [Go.Vc.look] at h) rfl ⟨_, _, rfl, rfl, rfl, rfl⟩ (fun h28 => ?_) (fun h28 => ?_)
   ·refine u_not rfl rfl ⟨_, _, rfl, rfl, rfl, rfl⟩ ?_
    refine u_pickF rfl rfl rfl trivial ?_
    refine u_end trivial ?_
    refine vw_condF rfl ?_
    refine vw_skip ?_
    refine vw_region ?_
    refine u_add rfl rfl rfl (by unfold inI; omega) rfl trivial ?_
    refine u_move rfl rfl trivial ?_
    refine u_end trivial ?_
    refine ⟨_, _, ren [], ?_, ⟨i + 1, ?_, rfl, rfl⟩, mk_wk [] rfl rfl ⟨⟨_, rfl, (.shr _ _)⟩, ⟨_, rfl, (.shr _ _)⟩, ⟨_, rfl, (.lit _)⟩, trivial⟩ trivial (parOk hpar rfl)⟩
    ·omega
    ·refine ⟨by omega, fun j hj => ?_⟩
     rcases Nat.lt_or_ge j i with h | h
     · exact hI1 j h
     · simp only [msgCells_length] at h21
       rw [show j = i by omega]; unfold fits1; rw [decide_eq_true (by omega), h28]; rfl
   ·refine u_not rfl rfl ⟨_, _, rfl, rfl, rfl, rfl⟩ ?_
    refine u_pickF rfl rfl rfl trivial ?_
    refine u_end trivial ?_
    refine vw_condT rfl ?_
    refine vw_seq ?_
    refine vw_region ?_
    refine u_assign rfl rfl trivial ?_
    refine u_end trivial ?_
    refine vw_ret ?_
    refine fin0 (.inr rfl) (.cons (.tmp rfl (nb rfl)) .nil) (subB ?_)
    ·refine fitsN (i := i) (by omega) ?_
     unfold fits1; rw [h28, Bool.and_false]
 ·refine u_end trivial ?_
  refine vw_seq ?_
  refine vw_condF rfl ?_
  refine vw_exit ?_
  refine iteP rfl ?_
  refine vw_seq ?_
  refine vw_region ?_
  refine u_assign rfl rfl trivial ?_
  refine u_end trivial ?_
  refine vw_ret ?_
  refine fin0 (.inr rfl) (.cons (.tmp rfl (nb rfl)) .nil) (subB ?_)
  ·exact fitsY fun j hj => hI1 j (by omega)
theorem c136a (K : Nat) : VFun G 136 [.lit (.slice none 0 0)] [] (.row K) [(K, .row 5 1 (byteCells []))] := by
 refine VFun.intro (fn := Try.f136) rfl rfl (by kernel_rfl) (nb rfl) fun Γ hpar => ?_
 refine vw_seq ?_
 refine vw_region ?_
 refine u_assign rfl rfl trivial ?_
 refine u_end trivial ?_
 refine vw_seq ?_
 refine vw_seq ?_
 refine vw_region ?_
 refine u_move rfl rfl trivial ?_
 refine u_eqlNil rfl rfl rfl rfl trivial ?_
 refine u_end trivial ?_
 refine vw_condT rfl ?_
 refine vw_seq ?_
 refine vw_region ?_
 refine u_assign rfl rfl trivial ?_
 refine u_end trivial ?_
 refine vw_ret ?_
 refine fin1n (.inr rfl) (.cons (.tmp rfl (nb rfl)) .nil) ?_ (subRowN)
 ·rfl
theorem c136b (K : Nat) (b : UInt8) (r : List UInt8) : VFun G 136 [.shr 1 (byteCells (b :: r))] [] (.row K) [(K, .row 5 1 (byteCells (b :: r)))] := by
 refine VFun.intro (fn := Try.f136) rfl rfl (by kernel_rfl) (nb rfl) fun Γ hpar => ?_
 refine vw_seq ?_
 refine vw_len (t := 0) rfl fun hl => ?_
 refine vw_region ?_
 refine u_assign rfl rfl trivial ?_
 refine u_end trivial ?_
 refine vw_seq ?_
 refine vw_seq ?_
 refine vw_region ?_
 refine u_move rfl rfl trivial ?_
 refine u_eqlNilC rfl rfl rfl rfl trivial ?_
 refine u_end trivial ?_
 refine vw_condF rfl ?_
 refine vw_skip ?_
 refine vw_seq ?_
 refine vw_region ?_
 refine u_buildSlice 100 rfl rfl rfl rfl rfl rfl rfl rfl rfl rfl (notPar hpar rfl) rfl rfl trivial ?_
 refine u_move rfl rfl trivial ?_
 refine u_append 101 rfl rfl rfl (.shr _ _) rfl (notPar hpar rfl) rfl rfl rfl rfl rfl (by have h1 := hl; rw [byteCells_length] at h1; simp only [byteCells_length, cellsL, List.map_nil, List.length_nil]; omega) rfl trivial ?_
 refine u_assign rfl rfl trivial ?_
 refine u_end trivial ?_
 refine vw_ret ?_
 refine fin1 (.inr rfl) (.cons (.tmp rfl (nb rfl)) .nil) rfl ?_ (subRow)
 ·rfl
theorem c136c (K : Nat) (p : Addr) (cap : Nat) : VFun G 136 [.lit (.slice (some p) 0 cap)] [] (.row K) [(K, .row 5 1 (byteCells []))] := by
 refine VFun.intro (fn := Try.f136) rfl rfl (by kernel_rfl) (nb rfl) fun Γ hpar => ?_
 refine vw_seq ?_
 refine vw_region ?_
 refine u_assign rfl rfl trivial ?_
 refine u_end trivial ?_
 refine vw_seq ?_
 refine vw_seq ?_
 refine vw_region ?_
 refine u_move rfl rfl trivial ?_
 refine u_eqlNil rfl rfl rfl rfl trivial ?_
 refine u_end trivial ?_
 refine vw_condF rfl ?_
 refine vw_skip ?_
 refine vw_seq ?_
 refine vw_region ?_
 refine u_buildSlice 100 rfl rfl rfl rfl rfl rfl rfl rfl rfl rfl (notPar hpar rfl) rfl rfl trivial ?_
 refine u_move rfl rfl trivial ?_
 refine u_append0 101 rfl rfl rfl rfl (notPar hpar rfl) rfl rfl rfl rfl rfl (by decide) rfl trivial ?_
 refine u_assign rfl rfl trivial ?_
 refine u_end trivial ?_
 refine vw_ret ?_
 refine fin1 (.inr rfl) (.cons (.tmp rfl (nb rfl)) .nil) rfl ?_ (subRow)
 ·rfl
theorem c136 (K : Nat) (bs : List UInt8) : VFun G 136 [.shr 1 (byteCells bs)] [] (.row K) [(K, .row 5 1 (byteCells bs))] := by
  refine VFun.nilcase (fun h => ?_) (fun u us h => ?_) (fun h p cap => ?_)
  · have : bs = [] := by simpa [byteCells] using h
    subst this; exact c136a K
  · cases bs with
    | nil => cases h
    | cons b r => cases h; exact c136b K b r
  · have : bs = [] := by simpa [byteCells] using h
    subst this; exact c136c K p cap

theorem c64 (l : List Msg) (s : Int) (hl : l.length ≤ 4398046511000) : VFun G 64 [.shr 2 (msgCells l), .lit (.int .i64 s)] [] (.shr 2 (msgCells (ofStream s l))) [] := by
 refine VFun.intro (fn := Try.f64) rfl rfl (by kernel_rfl) (nb rfl) fun Γ hpar => ?_
 refine vw_seq ?_
 refine vw_region ?_
 refine u_assign rfl rfl trivial ?_
 refine u_end trivial ?_
 refine vw_seq ?_
 refine vw_region ?_
 refine u_assign rfl rfl trivial ?_
 refine u_end trivial ?_
 refine vw_seq ?_
 refine vw_seq ?_
 refine vw_region ?_
 refine u_move rfl rfl trivial ?_
 refine u_len rfl rfl rfl trivial ?_
 refine u_move rfl rfl trivial ?_
 refine u_end trivial ?_
 refine vw_block ?_
 refine vw_loopR (fun n_ E => ∃ (i : Nat), ((i ≤ l.length)) ∧ n_ = l.length - i ∧ E = ⟨[(1, .lit (.int .i64 s)), (8, .shr 2 (msgCells l)), (9, .lit (.int .i64 (msgCells l).length)), (10, .lit (.int .i64 i)), (5, .row 5)], [(5, .row 48 2 (msgCells (ofStream s (l.take i))))], 29⟩) (n0 := _) (E0 := _) (⟨0, by omega, rfl, rfl⟩) (ren []) (mk_wk [] rfl rfl ⟨⟨_, rfl, (.lit _)⟩, ⟨_, rfl, (.shr _ _)⟩, ⟨_, rfl, (.lit _)⟩, ⟨_, rfl, (.lit _)⟩, ⟨_, rfl, .nilrow _ _ _ _ rfl rfl⟩, trivial⟩ ⟨(.inr (.inl ⟨rfl, rfl⟩)), trivial⟩ (parOk hpar rfl)) (fun n_ E hR => ?_)
 obtain ⟨i, hI, rfl, rfl⟩ := hR
 have hI0 := hI
 refine vw_seq ?_
 refine vw_region ?_
 refine s_lss rfl rfl rfl trivial (fun h11 => ?_) (fun h11 => ?_)
 ·refine u_end trivial ?_
  refine vw_seq ?_
  refine vw_condT rfl ?_
  refine vw_skip ?_
  refine vw_seq ?_
  refine vw_block ?_
  refine vw_seq ?_
  rw [msgCells_length] at h11
  refine vw_region ?_
  refine u_indexS rfl rfl rfl rfl rfl rfl (msgCells_get (by omega)) rfl trivial ?_
  refine u_loadSAll rfl rfl rfl rfl rfl trivial ?_
  refine u_alloc 120 rfl rfl (notPar hpar rfl) rfl rfl trivial ?_
  refine u_storeAll rfl rfl rfl rfl rfl rfl rfl rfl trivial ?_
  refine u_end trivial ?_
  refine vw_seq ?_
  refine vw_region ?_
  refine u_fieldAddr rfl rfl rfl rfl rfl rfl trivial ?_
  refine u_load1 rfl rfl rfl rfl rfl rfl trivial ?_
  refine u_move rfl rfl trivial ?_
  refine s_eql rfl rfl rfl trivial (fun h17 => ?_) (fun h17 => ?_)
  ·refine u_end trivial ?_
   refine vw_condT rfl ?_
   refine vw_draw ?_
   refine u_move rfl rfl trivial ?_
   refine u_fieldAddr rfl rfl rfl rfl rfl rfl trivial ?_
   refine u_load1 rfl rfl rfl rfl rfl rfl trivial ?_
   refine u_fieldAddr rfl rfl rfl rfl rfl rfl trivial ?_
   refine u_load1 rfl rfl rfl rfl rfl rfl trivial ?_
   refine u_call rfl (VFun.read (c136 0 _)) (.cons ((.shr _ _)) .nil) rfl trivial ?_
   refine u_build rfl rfl rfl rfl rfl trivial ?_
   refine u_buildSlice 121 rfl rfl rfl rfl rfl rfl rfl rfl rfl rfl (notPar hpar rfl) rfl rfl trivial ?_
   refine u_append 122 rfl rfl rfl (srcRow rfl) rfl (notPar hpar rfl) rfl rfl rfl rfl rfl (by have h1 := ofStream_len s (l.take i); rw [List.length_take] at h1; rw [msgCells_length]; simp [cellsL]; omega) rfl trivial ?_
   refine u_assign rfl rfl trivial ?_
   refine u_end (by kernel_rfl) ?_
   refine vw_region ?_
   refine u_add rfl rfl rfl (by unfold inI; omega) rfl trivial ?_
   refine u_move rfl rfl trivial ?_
   refine u_end trivial ?_
   refine ⟨_, _, ren [(5, 122)], ?_, ⟨i + 1, ?_, rfl, rfl⟩, mk_wk [(5, 122)] rfl rfl ⟨⟨_, rfl, (.lit _)⟩, ⟨_, rfl, (.shr _ _)⟩, ⟨_, rfl, (.lit _)⟩, ⟨_, rfl, (.lit _)⟩, ⟨_, rfl, (.row _ _ rfl (lookNe rfl))⟩, trivial⟩ ⟨(.inl ⟨_, rfl, rowEq rfl (by rw [ofStreamY (by omega) h17, msgCells_snoc]; rfl)⟩), trivial⟩ (parOk hpar rfl)⟩
   ·omega
   ·omega
  ·refine u_end trivial ?_
   refine vw_condF rfl ?_
   refine vw_skip ?_
   refine vw_region ?_
   refine u_add rfl rfl rfl (by unfold inI; omega) rfl trivial ?_
   refine u_move rfl rfl trivial ?_
   refine u_end trivial ?_
   refine ⟨_, _, ren [(5, 5)], ?_, ⟨i + 1, ?_, rfl, rfl⟩, mk_wk [(5, 5)] rfl rfl ⟨⟨_, rfl, (.lit _)⟩, ⟨_, rfl, (.shr _ _)⟩, ⟨_, rfl, (.lit _)⟩, ⟨_, rfl, (.lit _)⟩, ⟨_, rfl, (.row _ _ rfl (lookNe rfl))⟩, trivial⟩ ⟨(.inl ⟨_, rfl, rowEq rfl (by rw [ofStreamN (by omega) h17])⟩), trivial⟩ (parOk hpar rfl)⟩
   ·omega
   ·omega
 ·refine u_end trivial ?_
  refine vw_seq ?_
  refine vw_condF rfl ?_
  refine vw_exit ?_
  refine iteP rfl ?_
  refine vw_seq ?_
  rw [msgCells_length] at h11
  refine vw_region ?_
  refine u_move rfl rfl trivial ?_
  refine u_assign rfl rfl trivial ?_
  refine u_end trivial ?_
  refine vw_ret ?_
  refine fin0 (.inr rfl) (.cons (.tmp rfl (nb rfl)) .nil) (subFz rfl (fzL rfl) ?_)
  ·rw [List.take_of_length_le (by omega)]
theorem c137 (a b : List Msg) : VFun G 137 [.shr 2 (msgCells a), .shr 2 (msgCells b), .clo 61 []] [] (.lit (.bool (a == b))) [] := by
 refine VFun.intro (fn := Try.f137) rfl rfl (by kernel_rfl) (nb rfl) fun Γ hpar => ?_
 refine vw_seq ?_
 refine vw_len (t := 0) rfl fun hl => ?_
 rw [msgCells_length] at hl
 refine vw_region ?_
 refine u_assign rfl rfl trivial ?_
 refine u_end trivial ?_
 refine vw_seq ?_
 refine vw_seq ?_
 refine vw_region ?_
 refine u_move rfl rfl trivial ?_
 refine u_len rfl rfl rfl trivial ?_
 refine u_move rfl rfl trivial ?_
 refine u_len rfl rfl rfl trivial ?_
 refine s_neq rfl rfl rfl trivial (fun h14 => ?_) (fun h14 => ?_)
 ·refine u_end trivial ?_
  refine vw_condT rfl ?_
  refine vw_seq ?_
  simp only [msgCells_length] at h14
  refine vw_region ?_
  refine u_assign rfl rfl trivial ?_
  refine u_end trivial ?_
  refine vw_ret ?_
  refine fin0 (.inr rfl) (.cons (.tmp rfl (nb rfl)) .nil) (subB ?_)
  ·refine beq_eq_false_iff_ne.2 (fun e => h14 (by rw [e]))
 ·refine u_end trivial ?_
  refine vw_condF rfl ?_
  refine vw_skip ?_
  refine vw_seq ?_
  refine vw_seq ?_
  simp only [msgCells_length] at h14
  have hab : a.length = b.length := by omega
  refine vw_region ?_
  refine u_move rfl rfl trivial ?_
  refine u_len rfl rfl rfl trivial ?_
  refine u_move rfl rfl trivial ?_
  refine u_end trivial ?_
  refine vw_block ?_
  refine vw_loopR (fun n_ E => ∃ (i : Nat), ((i ≤ a.length) ∧ (a.take i = b.take i)) ∧ n_ = a.length - i ∧ E = ⟨[(1, .shr 2 (msgCells b)), (2, .clo 61 []), (15, .shr 2 (msgCells a)), (16, .lit (.int .i64 (msgCells a).length)), (17, .lit (.int .i64 i))], [], 32⟩) (n0 := _) (E0 := _) (⟨0, by exact ⟨Nat.zero_le _, rfl⟩, rfl, rfl⟩) (ren []) (mk_wk [] rfl rfl ⟨⟨_, rfl, (.shr _ _)⟩, ⟨_, rfl, (.clo _ _ _ .nil)⟩, ⟨_, rfl, (.shr _ _)⟩, ⟨_, rfl, (.lit _)⟩, ⟨_, rfl, (.lit _)⟩, trivial⟩ trivial (parOk hpar rfl)) (fun n_ E hR => ?_)
  obtain ⟨i, hI, rfl, rfl⟩ := hR
  obtain ⟨hI0, hI1⟩ := hI
  refine vw_seq ?_
  refine vw_region ?_
  refine s_lss rfl rfl rfl trivial (fun h18 => ?_) (fun h18 => ?_)
  ·refine u_end trivial ?_
   refine vw_seq ?_
   refine vw_condT rfl ?_
   refine vw_skip ?_
   refine vw_seq ?_
   refine vw_block ?_
   refine vw_seq ?_
   rw [msgCells_length] at h18
   refine vw_region ?_
   refine u_move rfl rfl trivial ?_
   refine u_indexS rfl rfl rfl rfl rfl rfl (msgCells_get (by omega)) rfl trivial ?_
   refine u_loadSAll rfl rfl rfl rfl rfl trivial ?_
   refine u_alloc 120 rfl rfl (notPar hpar rfl) rfl rfl trivial ?_
   refine u_assign rfl rfl trivial ?_
   refine u_storeAll rfl rfl rfl rfl rfl rfl rfl rfl trivial ?_
   refine u_end trivial ?_
   refine vw_seq ?_
   refine vw_region ?_
   refine u_move rfl rfl trivial ?_
   refine u_move rfl rfl trivial ?_
   refine u_indexS rfl rfl rfl rfl rfl rfl (msgCells_get (by omega)) rfl trivial ?_
   refine u_loadSAll rfl rfl rfl rfl rfl trivial ?_
   refine u_alloc 121 rfl rfl (notPar hpar rfl) rfl rfl trivial ?_
   refine u_storeAll rfl rfl rfl rfl rfl rfl rfl rfl trivial ?_
   refine u_end trivial ?_
   refine vw_seq ?_
   refine vw_region ?_
   refine u_move rfl rfl trivial ?_
   refine u_loadAll rfl rfl rfl rfl rfl rfl trivial ?_
   refine u_loadAll rfl rfl rfl rfl rfl rfl trivial ?_
   refine u_callVF rfl rfl (c61 (a[i]'(by omega)) (b[i]'(by omega))) (.cons ((subP rfl)) (.cons ((subP rfl)) .nil)) rfl trivial ?_
   refine u_not rfl rfl trivial ?_
   refine u_end trivial ?_
   refine vw_cond rfl (fun hc1 => ?_) (fun hc1 => ?_)
   ·refine vw_seq ?_
    refine vw_region ?_
    refine u_assign rfl rfl trivial ?_
    refine u_end trivial ?_
    refine vw_ret ?_
    refine fin0 (.inr rfl) (.cons (.tmp rfl (nb rfl)) .nil) (subB ?_)
    ·refine beq_eq_false_iff_ne.2 (fun e => ?_)
     subst e
     simp at hc1
   ·refine vw_skip ?_
    refine vw_region ?_
    refine u_add rfl rfl rfl (by unfold inI; omega) rfl trivial ?_
    refine u_move rfl rfl trivial ?_
    refine u_end trivial ?_
    refine ⟨_, _, ren [], ?_, ⟨i + 1, ?_, rfl, rfl⟩, mk_wk [] rfl rfl ⟨⟨_, rfl, (.shr _ _)⟩, ⟨_, rfl, (.clo _ _ _ .nil)⟩, ⟨_, rfl, (.shr _ _)⟩, ⟨_, rfl, (.lit _)⟩, ⟨_, rfl, (.lit _)⟩, trivial⟩ trivial (parOk hpar rfl)⟩
    ·omega
    ·refine ⟨by omega, ?_⟩
     rw [List.take_add_one, List.take_add_one, hI1, List.getElem?_eq_getElem (by omega), List.getElem?_eq_getElem (by omega)]
     rw [beq_iff_eq.1 (show (a[i] == b[i]) = true by simpa using hc1)]
  ·refine u_end trivial ?_
   refine vw_seq ?_
   refine vw_condF rfl ?_
   refine vw_exit ?_
   refine iteP rfl ?_
   refine vw_seq ?_
   rw [msgCells_length] at h18
   refine vw_region ?_
   refine u_assign rfl rfl trivial ?_
   refine u_end trivial ?_
   refine vw_ret ?_
   refine fin0 (.inr rfl) (.cons (.tmp rfl (nb rfl)) .nil) (subB ?_)
   ·refine beq_iff_eq.2 ?_
    rw [List.take_of_length_le (by omega), List.take_of_length_le (by omega)] at hI1
    exact hI1
theorem c66 (t p : List Msg) (ht : t.length ≤ 4398046511000) (hp : p.length ≤ 4398046511000) : VFun G 66 [.shr 2 (msgCells t), .shr 2 (msgCells p)] [] (.lit (.bool (fits t p))) [] := by
 refine VFun.intro (fn := Try.f66) rfl rfl (by kernel_rfl) (nb rfl) fun Γ hpar => ?_
 refine vw_seq ?_
 refine vw_region ?_
 refine u_assign rfl rfl trivial ?_
 refine u_end trivial ?_
 refine vw_seq ?_
 refine vw_seq ?_
 refine vw_region ?_
 refine u_move rfl rfl trivial ?_
 refine u_end trivial ?_
 refine vw_block ?_
 refine vw_loopR (fun n_ E => ∃ (i : Nat), ((i ≤ 3) ∧ (∀ j : Nat, j < i → fits1 (j : Int) t p = true)) ∧ n_ = 3 - i ∧ E = ⟨[(0, .shr 2 (msgCells t)), (1, .shr 2 (msgCells p)), (8, .lit (.int .i64 i))], [], 35⟩) (n0 := _) (E0 := _) (⟨0, by exact ⟨by decide, fun j hj => absurd hj (Nat.not_lt_zero _)⟩, rfl, rfl⟩) (ren []) (mk_wk [] rfl rfl ⟨⟨_, rfl, (.shr _ _)⟩, ⟨_, rfl, (.shr _ _)⟩, ⟨_, rfl, (.lit _)⟩, trivial⟩ trivial (parOk hpar rfl)) (fun n_ E hR => ?_)
 obtain ⟨i, hI, rfl, rfl⟩ := hR
 obtain ⟨hI0, hI1⟩ := hI
 refine vw_seq ?_
 refine vw_region ?_
 refine s_lss rfl rfl rfl trivial (fun h9 => ?_) (fun h9 => ?_)
 ·refine u_end trivial ?_
  refine vw_seq ?_
  refine vw_condT rfl ?_
  refine vw_skip ?_
  refine vw_seq ?_
  refine vw_block ?_
  refine vw_seq ?_
  refine vw_region ?_
  refine u_move rfl rfl trivial ?_
  refine u_assign rfl rfl trivial ?_
  refine u_end trivial ?_
  refine vw_seq ?_
  refine vw_region ?_
  refine u_move rfl rfl trivial ?_
  refine u_move rfl rfl trivial ?_
  refine u_call rfl (c64 _ _ (by omega)) (.cons ((.shr _ _)) (.cons ((.lit _)) .nil)) rfl trivial ?_
  refine u_move rfl rfl trivial ?_
  refine u_move rfl rfl trivial ?_
  refine u_call rfl (c64 _ _ (by omega)) (.cons ((.shr _ _)) (.cons ((.lit _)) .nil)) rfl trivial ?_
  refine u_assign rfl rfl trivial ?_
  refine u_assign rfl rfl trivial ?_
  refine u_end trivial ?_
  refine vw_seq ?_
  refine vw_region ?_
  refine u_move rfl rfl trivial ?_
  refine u_len rfl rfl rfl trivial ?_
  refine u_move rfl rfl trivial ?_
  refine u_len rfl rfl rfl trivial ?_
  refine s_gtr rfl rfl rfl trivial (fun h21 => ?_) (fun h21 => ?_)
  ·refine u_move rfl rfl trivial ?_
   refine u_skip rfl rfl rfl rfl rfl ?_
   refine u_skip rfl rfl rfl rfl rfl ?_
   refine u_skip rfl rfl rfl rfl rfl ?_
   refine u_skip rfl rfl rfl rfl rfl ?_
   refine u_skip rfl rfl rfl rfl rfl ?_
   refine u_skip rfl rfl rfl rfl rfl ?_
   refine u_skip rfl rfl rfl rfl rfl ?_
   refine u_skip rfl rfl rfl rfl rfl ?_
   refine u_skip rfl rfl rfl rfl rfl ?_
   refine u_skip rfl rfl rfl rfl rfl ?_
   refine u_pickT rfl rfl rfl trivial ?_
   refine u_end trivial ?_
   refine vw_condT rfl ?_
   refine vw_seq ?_
   refine vw_region ?_
   refine u_assign rfl rfl trivial ?_
   refine u_end trivial ?_
   refine vw_ret ?_
   refine fin0 (.inr rfl) (.cons (.tmp rfl (nb rfl)) .nil) (subB ?_)
   ·simp only [msgCells_length] at h21
    exact fitsN (i := i) (by omega) (by unfold fits1; rw [decide_eq_false (by omega)]; rfl)
  ·refine u_move rfl rfl trivial ?_
   refine u_move rfl rfl ⟨_, _, rfl, rfl, rfl, rfl⟩ ?_
   refine u_move rfl rfl ⟨_, _, rfl, rfl, rfl, rfl⟩ ?_
   refine u_move rfl rfl ⟨_, _, rfl, rfl, rfl, rfl⟩ ?_
   refine u_len rfl rfl rfl ⟨_, _, rfl, rfl, rfl, rfl⟩ ?_
   refine u_move rfl rfl ⟨_, _, rfl, rfl, rfl, rfl⟩ ?_
   refine u_len rfl rfl rfl ⟨_, _, rfl, rfl, rfl, rfl⟩ ?_
   refine u_min rfl rfl rfl ⟨_, _, rfl, rfl, rfl, rfl⟩ ?_
   refine u_sliceHi (ofStream i t).length rfl rfl (by simp only [msgCells_length] at h21 ⊢; rw [if_neg (by omega)]) (by simp only [msgCells_length] at h21 ⊢; omega) rfl rfl rfl rfl ⟨_, _, rfl, rfl, rfl, rfl⟩ ?_
   refine s_call [] rfl (c137 (ofStream i t) ((ofStream i p).take (ofStream i t).length)) (.cons ((.shr _ _)) (.cons (subS (msgCells_take _ _).symm) (.cons ((.clo _ _ _ .nil)) .nil))) (fun k o h => by simp [Go.Vc.look] at h) rfl ⟨_, _, rfl, rfl, rfl, rfl⟩ (fun h31 => ?_) (fun h31 => ?_)
   ·refine u_not rfl rfl ⟨_, _, rfl, rfl, rfl, rfl⟩ ?_
    refine u_pickF rfl rfl rfl trivial ?_
    refine u_end trivial ?_
    refine vw_condF rfl ?_
    refine vw_skip ?_
    refine vw_region ?_
    refine u_add rfl rfl rfl (by unfold inI; omega) rfl trivial ?_
    refine u_move rfl rfl trivial ?_
    refine u_end trivial ?_
    refine ⟨_, _, ren [], ?_, ⟨i + 1, ?_, rfl, rfl⟩, mk_wk [] rfl rfl ⟨⟨_, rfl, (.shr _ _)⟩, ⟨_, rfl, (.shr _ _)⟩, ⟨_, rfl, (.lit _)⟩, trivial⟩ trivial (parOk hpar rfl)⟩
    ·omega
    ·refine ⟨by omega, fun j hj => ?_⟩
     rcases Nat.lt_or_ge j i with h | h
     · exact hI1 j h
     · simp only [msgCells_length] at h21
       rw [show j = i by omega]; unfold fits1; rw [decide_eq_true (by omega), h31]; rfl
   ·refine u_not rfl rfl ⟨_, _, rfl, rfl, rfl, rfl⟩ ?_
    refine u_pickF rfl rfl rfl trivial ?_
    refine u_end trivial ?_
    refine vw_condT rfl ?_
    refine vw_seq ?_
    refine vw_region ?_
    refine u_assign rfl rfl trivial ?_
    refine u_end trivial ?_
    refine vw_ret ?_
    refine fin0 (.inr rfl) (.cons (.tmp rfl (nb rfl)) .nil) (subB ?_)
    ·refine fitsN (i := i) (by omega) ?_
     unfold fits1; rw [h31, Bool.and_false]
 ·refine u_end trivial ?_
  refine vw_seq ?_
  refine vw_condF rfl ?_
  refine vw_exit ?_
  refine iteP rfl ?_
  refine vw_seq ?_
  refine vw_region ?_
  refine u_assign rfl rfl trivial ?_
  refine u_end trivial ?_
  refine vw_ret ?_
  refine fin0 (.inr rfl) (.cons (.tmp rfl (nb rfl)) .nil) (subB ?_)
  ·exact fitsY fun j hj => hI1 j (by omega)
theorem c68 (t p : List Msg) (ht : t.length ≤ 4398046511000) (hp : p.length ≤ 4398046511000) : VFun G 68 [.shr 2 (msgCells t), .shr 2 (msgCells p)] [] (.lit (.bool (fits t p && decide (t.length = p.length)))) [] := by
 refine VFun.intro (fn := Try.f68) rfl rfl (by kernel_rfl) (nb rfl) fun Γ hpar => ?_
 refine vw_seq ?_
 refine vw_region ?_
 refine u_assign rfl rfl trivial ?_
 refine u_end trivial ?_
 refine vw_seq ?_
 refine vw_region ?_
 refine u_move rfl rfl trivial ?_
 refine u_move rfl rfl trivial ?_
 refine s_call [] rfl (c66 _ _ (by omega) (by omega)) (.cons ((.shr _ _)) (.cons ((.shr _ _)) .nil)) (fun k o h => by simp [Go.Vc.look] at h) rfl trivial (fun h7 => ?_) (fun h7 => ?_)
 ·refine u_move rfl rfl trivial ?_
  refine u_move rfl rfl ⟨_, _, rfl, rfl, rfl, rfl⟩ ?_
  refine u_len rfl rfl rfl ⟨_, _, rfl, rfl, rfl, rfl⟩ ?_
  refine u_move rfl rfl ⟨_, _, rfl, rfl, rfl, rfl⟩ ?_
  refine u_len rfl rfl rfl ⟨_, _, rfl, rfl, rfl, rfl⟩ ?_
  refine u_eql rfl rfl rfl ⟨_, _, rfl, rfl, rfl, rfl⟩ ?_
  refine u_pickT rfl rfl rfl trivial ?_
  refine u_assign rfl rfl trivial ?_
  refine u_end trivial ?_
  refine vw_ret ?_
  refine fin0 (.inr rfl) (.cons (.tmp rfl (nb rfl)) .nil) (subB ?_)
  ·rw [h7, Bool.true_and, msgCells_length, msgCells_length]; exact Bool.eq_iff_iff.2 (by simp; omega)
 ·refine u_move rfl rfl trivial ?_
  refine u_skip rfl rfl rfl rfl rfl ?_
  refine u_skip rfl rfl rfl rfl rfl ?_
  refine u_skip rfl rfl rfl rfl rfl ?_
  refine u_skip rfl rfl rfl rfl rfl ?_
  refine u_skip rfl rfl rfl rfl rfl ?_
  refine u_pickF rfl rfl rfl trivial ?_
  refine u_assign rfl rfl trivial ?_
  refine u_end trivial ?_
  refine vw_ret ?_
  refine fin0 (.inr rfl) (.cons (.tmp rfl (nb rfl)) .nil) (subB ?_)
  ·rw [h7]; rfl
end Go.Proofs.Ytaadloihphpdbaa
