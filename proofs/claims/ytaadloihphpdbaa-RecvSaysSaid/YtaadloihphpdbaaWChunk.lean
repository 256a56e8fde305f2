/- Walks of the package chunk and of the document's answer to it. Printed by a small program (walk.py). -/
import Derived.Test.YtaadloihphpdbaaWSum
import Derived.Test.YtaadloihphpdbaaWPlain
import Derived.Test.YtaadloihphpdbaaPChunk
import Derived.Test.YtaadloihphpdbaaVcB
set_option linter.unusedVariables false
set_option linter.unusedSimpArgs false
set_option maxRecDepth 4000
namespace Go.Proofs.Ytaadloihphpdbaa
open Go Go.Vc Go.RowKit
theorem c53r (bs : List UInt8) (hb : bs.length ≤ 140737488355300) : VFun G 53 [.shr 1 (byteCells bs)] [] (.tup [.shr 1 (byteCells (opened bs)), .lit (.bool (opens bs))]) [] :=
  (c53 0 bs hb).resWk (ren []) (mk_wk [] rfl rfl ⟨⟨_, rfl, .tup _ _ (.cons (.frz _ _ _ _ look_self (fzL rfl)) (.cons (.lit _) .nil))⟩, trivial⟩ trivial no_par)
theorem two_of {α : Type} {l : List α} (h : 2 ≤ l.length) : ∃ a b r, l = a :: b :: r := by
  match l, h with
  | a :: b :: r, _ => exact ⟨a, b, r, rfl⟩
theorem rising_snoc {n : Int} {l : List Int} {i : Nat} {x : Int} (h : l[i]? = some x) : rising n (l.drop i) = (decide (n < x) && (decide (x < 40) && rising x (l.drop (i + 1)))) := by
  obtain ⟨hi, rfl⟩ := List.getElem?_eq_some_iff.1 h
  rw [List.drop_eq_getElem_cons hi]; rfl
theorem read_no {b : List UInt8} (h : opens b = false) : read b = (chunk0, 7) := by unfold read; rw [if_pos h]
theorem read_short {b : List UInt8} (h : opens b = true) (h2 : short (opened b) = true) : read b = (chunk0, 8) := by unfold read; rw [if_neg (by rw [h]; decide), if_pos h2]
theorem read_bad {b : List UInt8} {c : Chunk} (h : opens b = true) (h2 : short (opened b) = false) (h4 : parsed (opened b) = c) (h3 : wrong c ≠ 0) : read b = (chunk0, wrong c) := by
  unfold read; rw [if_neg (by rw [h]; decide), if_neg (by rw [h2]; decide), h4, if_pos h3]
theorem read_good {b : List UInt8} {c : Chunk} (h : opens b = true) (h2 : short (opened b) = false) (h4 : parsed (opened b) = c) (h3 : wrong c = 0) : read b = (c, 0) := by
  unfold read; rw [if_neg (by rw [h]; decide), if_neg (by rw [h2]; decide), h4, if_neg (by rw [h3]; decide)]
theorem ints_snoc (l : List UInt8) {i : Nat} (h : i < l.length) : ints (l.take (i + 1)) = ints (l.take i) ++ [((l[i]'h).toNat : Int)] := by
  rw [← List.take_append_getElem h]; unfold ints; rw [List.map_append]; rfl
theorem ints_length (l : List UInt8) : (ints l).length = l.length := by simp [ints]
theorem opened_le (b : List UInt8) : (opened b).length ≤ b.length := by
  unfold opened; split
  · rw [List.length_take]; omega
  · simp
theorem u8s_take (l : List Int) {i : Nat} {x : Int} (h : l[i]? = some x) : (l.take (i + 1)).map u8 = (l.take i).map u8 ++ [u8 x] := by
  rw [List.take_add_one, h]; simp
theorem sub_cells1 {bs : List UInt8} : byteCells bs = byteCells bs := rfl

theorem c78 (m : Msg) : VFun G 78 [.agg [.lit (.int .i64 m.1), .shr 1 (byteCells m.2)]] [] (.lit (.int .i64 (wrongMsg m))) [] := by
 refine VFun.intro (fn := Try.f78) rfl rfl (by kernel_rfl) (nb rfl) fun Γ hpar => ?_
 refine vw_seq ?_
 refine vw_region ?_
 refine u_box 100 rfl rfl rfl (notPar hpar rfl) rfl rfl trivial ?_
 refine u_assign rfl rfl trivial ?_
 refine u_end trivial ?_
 refine vw_seq ?_
 refine vw_block ?_
 refine vw_seq ?_
 refine vw_region ?_
 refine u_fieldAddr rfl rfl rfl rfl rfl rfl trivial ?_
 refine u_load1 rfl rfl rfl rfl rfl rfl trivial ?_
 refine s_lss rfl rfl rfl trivial (fun h6 => ?_) (fun h6 => ?_)
 ·refine u_move rfl rfl trivial ?_
  refine u_skip rfl rfl rfl rfl rfl ?_
  refine u_skip rfl rfl rfl rfl rfl ?_
  refine u_skip rfl rfl rfl rfl rfl ?_
  refine u_pickT rfl rfl rfl trivial ?_
  refine u_assign rfl rfl trivial ?_
  refine u_end trivial ?_
  refine vw_condT rfl ?_
  refine vw_seq ?_
  refine vw_region ?_
  refine u_assign rfl rfl trivial ?_
  refine u_end trivial ?_
  refine vw_ret ?_
  refine fin' [] (.inr rfl) (.cons (.tmp rfl (nb rfl)) .nil) (mk_wk [] rfl rfl ⟨⟨_, rfl, (subI ?_)⟩, trivial⟩ trivial (parOk rfl rfl))
  all_goals (try rfl)
  all_goals
    (try simp only [intCells_length, byteCells_length] at *)
    first | exact wrongMsg1 (by omega) | exact wrongMsg2 (by omega) (by omega) | exact wrongMsg3 (by omega) (by omega)
 ·refine u_move rfl rfl trivial ?_
  refine u_fieldAddr rfl rfl rfl rfl rfl rfl ⟨_, _, rfl, rfl, rfl, rfl⟩ ?_
  refine u_load1 rfl rfl rfl rfl rfl rfl ⟨_, _, rfl, rfl, rfl, rfl⟩ ?_
  refine s_geq rfl rfl rfl ⟨_, _, rfl, rfl, rfl, rfl⟩ (fun h10 => ?_) (fun h10 => ?_)
  ·refine u_pickF rfl rfl rfl trivial ?_
   refine u_assign rfl rfl trivial ?_
   refine u_end trivial ?_
   refine vw_condT rfl ?_
   refine vw_seq ?_
   refine vw_region ?_
   refine u_assign rfl rfl trivial ?_
   refine u_end trivial ?_
   refine vw_ret ?_
   refine fin' [] (.inr rfl) (.cons (.tmp rfl (nb rfl)) .nil) (mk_wk [] rfl rfl ⟨⟨_, rfl, (subI ?_)⟩, trivial⟩ trivial (parOk rfl rfl))
   all_goals (try rfl)
   all_goals
     (try simp only [intCells_length, byteCells_length] at *)
     first | exact wrongMsg1 (by omega) | exact wrongMsg2 (by omega) (by omega) | exact wrongMsg3 (by omega) (by omega)
  ·refine u_pickF rfl rfl rfl trivial ?_
   refine u_assign rfl rfl trivial ?_
   refine u_end trivial ?_
   refine vw_condF rfl ?_
   refine vw_seq ?_
   refine vw_region ?_
   refine u_fieldAddr rfl rfl rfl rfl rfl rfl trivial ?_
   refine u_load1 rfl rfl rfl rfl rfl rfl trivial ?_
   refine u_len rfl rfl rfl trivial ?_
   refine s_gtr rfl rfl rfl trivial (fun h16 => ?_) (fun h16 => ?_)
   ·refine u_assign rfl rfl trivial ?_
    refine u_end trivial ?_
    refine vw_condT rfl ?_
    refine vw_seq ?_
    refine vw_region ?_
    refine u_assign rfl rfl trivial ?_
    refine u_end trivial ?_
    refine vw_ret ?_
    refine fin' [] (.inr rfl) (.cons (.tmp rfl (nb rfl)) .nil) (mk_wk [] rfl rfl ⟨⟨_, rfl, (subI ?_)⟩, trivial⟩ trivial (parOk rfl rfl))
    all_goals (try rfl)
    all_goals
      (try simp only [intCells_length, byteCells_length] at *)
      first | exact wrongMsg1 (by omega) | exact wrongMsg2 (by omega) (by omega) | exact wrongMsg3 (by omega) (by omega)
   ·refine u_assign rfl rfl trivial ?_
    refine u_end trivial ?_
    refine vw_condF rfl ?_
    refine vw_skip ?_
    refine vw_seq ?_
    refine vw_region ?_
    refine u_assign rfl rfl trivial ?_
    refine u_end trivial ?_
    refine vw_ret ?_
    refine fin' [] (.inr rfl) (.cons (.tmp rfl (nb rfl)) .nil) (mk_wk [] rfl rfl ⟨⟨_, rfl, (subI ?_)⟩, trivial⟩ trivial (parOk rfl rfl))
    all_goals (try rfl)
    all_goals
      (try simp only [intCells_length, byteCells_length] at *)
      first | exact wrongMsg1 (by omega) | exact wrongMsg2 (by omega) (by omega) | exact wrongMsg3 (by omega) (by omega)
theorem c140a (K : Nat) : VFun G 140 [.lit (.slice none 0 0)] [] (.row K) [(K, .row 3 1 (intCells []))] := by
 refine VFun.intro (fn := Try.f140) rfl rfl (by kernel_rfl) (nb rfl) fun Γ hpar => ?_
 refine vw_seq ?_
 refine vw_region ?_
 refine u_assign rfl rfl trivial ?_
 refine u_end trivial ?_
 refine vw_seq ?_
 refine vw_seq ?_
 refine vw_region ?_
 refine u_move rfl rfl trivial ?_
 refine u_eqlNil rfl rfl rfl rfl trivial ?_
 refine u_end trivial ?_
 refine vw_condT rfl ?_
 refine vw_seq ?_
 refine vw_region ?_
 refine u_assign rfl rfl trivial ?_
 refine u_end trivial ?_
 refine vw_ret ?_
 refine fin1n (.inr rfl) (.cons (.tmp rfl (nb rfl)) .nil) ?_ (subRowN)
 ·rfl
theorem c140b (K : Nat) (b : Int) (r : List Int) (hl8 : (b :: r).length ≤ 17592186044000) : VFun G 140 [.shr 1 (intCells (b :: r))] [] (.row K) [(K, .row 3 1 (intCells (b :: r)))] := by
 refine VFun.intro (fn := Try.f140) rfl rfl (by kernel_rfl) (nb rfl) fun Γ hpar => ?_
 refine vw_seq ?_
 refine vw_region ?_
 refine u_assign rfl rfl trivial ?_
 refine u_end trivial ?_
 refine vw_seq ?_
 refine vw_seq ?_
 refine vw_region ?_
 refine u_move rfl rfl trivial ?_
 refine u_eqlNilC rfl rfl rfl rfl trivial ?_
 refine u_end trivial ?_
 refine vw_condF rfl ?_
 refine vw_skip ?_
 refine vw_seq ?_
 refine vw_region ?_
 refine u_buildSlice 100 rfl rfl rfl rfl rfl rfl rfl rfl rfl rfl (notPar hpar rfl) rfl rfl trivial ?_
 refine u_move rfl rfl trivial ?_
 refine u_append 101 rfl rfl rfl (.shr _ _) rfl (notPar hpar rfl) rfl rfl rfl rfl rfl (by simp only [intCells_length, cellsL, List.map_nil, List.length_nil]; omega) rfl trivial ?_
 refine u_assign rfl rfl trivial ?_
 refine u_end trivial ?_
 refine vw_ret ?_
 refine fin1 (.inr rfl) (.cons (.tmp rfl (nb rfl)) .nil) rfl ?_ (subRow)
 ·rfl
theorem c140c (K : Nat) (p : Addr) (cap : Nat) : VFun G 140 [.lit (.slice (some p) 0 cap)] [] (.row K) [(K, .row 3 1 (intCells []))] := by
 refine VFun.intro (fn := Try.f140) rfl rfl (by kernel_rfl) (nb rfl) fun Γ hpar => ?_
 refine vw_seq ?_
 refine vw_region ?_
 refine u_assign rfl rfl trivial ?_
 refine u_end trivial ?_
 refine vw_seq ?_
 refine vw_seq ?_
 refine vw_region ?_
 refine u_move rfl rfl trivial ?_
 refine u_eqlNil rfl rfl rfl rfl trivial ?_
 refine u_end trivial ?_
 refine vw_condF rfl ?_
 refine vw_skip ?_
 refine vw_seq ?_
 refine vw_region ?_
 refine u_buildSlice 100 rfl rfl rfl rfl rfl rfl rfl rfl rfl rfl (notPar hpar rfl) rfl rfl trivial ?_
 refine u_move rfl rfl trivial ?_
 refine u_append0 101 rfl rfl rfl rfl (notPar hpar rfl) rfl rfl rfl rfl rfl (by decide) rfl trivial ?_
 refine u_assign rfl rfl trivial ?_
 refine u_end trivial ?_
 refine vw_ret ?_
 refine fin1 (.inr rfl) (.cons (.tmp rfl (nb rfl)) .nil) rfl ?_ (subRow)
 ·rfl
theorem c140 (K : Nat) (l : List Int) (hl : l.length ≤ 17592186044000) : VFun G 140 [.shr 1 (intCells l)] [] (.row K) [(K, .row 3 1 (intCells l))] := by
  refine VFun.nilcase (fun h => ?_) (fun u us h => ?_) (fun h p cap => ?_)
  · have : l = [] := by simpa [intCells] using h
    subst this; exact c140a K
  · cases l with
    | nil => cases h
    | cons b r => cases h; exact c140b K b r hl
  · have : l = [] := by simpa [intCells] using h
    subst this; exact c140c K p cap

theorem c139 (a b : List Int) : VFun G 139 [.shr 1 (intCells a), .shr 1 (intCells b)] [] (.lit (.bool (a == b))) [] := by
 refine VFun.intro (fn := Try.f139) rfl rfl (by kernel_rfl) (nb rfl) fun Γ hpar => ?_
 refine vw_seq ?_
 refine vw_len (t := 0) rfl fun hl => ?_
 rw [intCells_length] at hl
 refine vw_region ?_
 refine u_assign rfl rfl trivial ?_
 refine u_end trivial ?_
 refine vw_seq ?_
 refine vw_seq ?_
 refine vw_region ?_
 refine u_move rfl rfl trivial ?_
 refine u_len rfl rfl rfl trivial ?_
 refine u_move rfl rfl trivial ?_
 refine u_len rfl rfl rfl trivial ?_
 refine s_neq rfl rfl rfl trivial (fun h10 => ?_) (fun h10 => ?_)
 ·refine u_end trivial ?_
  refine vw_condT rfl ?_
  refine vw_seq ?_
  simp only [intCells_length] at h10
  refine vw_region ?_
  refine u_assign rfl rfl trivial ?_
  refine u_end trivial ?_
  refine vw_ret ?_
  refine fin0 (.inr rfl) (.cons (.tmp rfl (nb rfl)) .nil) (subB ?_)
  ·refine beq_eq_false_iff_ne.2 (fun e => h10 (by rw [e]))
 ·refine u_end trivial ?_
  refine vw_condF rfl ?_
  refine vw_skip ?_
  refine vw_seq ?_
  refine vw_seq ?_
  simp only [intCells_length] at h10
  have hab : a.length = b.length := by omega
  refine vw_region ?_
  refine u_move rfl rfl trivial ?_
  refine u_len rfl rfl rfl trivial ?_
  refine u_move rfl rfl trivial ?_
  refine u_end trivial ?_
  refine vw_block ?_
  refine vw_loopR (fun n_ E => ∃ (i : Nat), ((i ≤ a.length) ∧ (a.take i = b.take i)) ∧ n_ = a.length - i ∧ E = ⟨[(0, .shr 1 (intCells a)), (1, .shr 1 (intCells b)), (12, .lit (.int .i64 (intCells a).length)), (13, .lit (.int .i64 i))], [], 26⟩) (n0 := _) (E0 := _) (⟨0, by exact ⟨Nat.zero_le _, rfl⟩, rfl, rfl⟩) (ren []) (mk_wk [] rfl rfl ⟨⟨_, rfl, (.shr _ _)⟩, ⟨_, rfl, (.shr _ _)⟩, ⟨_, rfl, (.lit _)⟩, ⟨_, rfl, (.lit _)⟩, trivial⟩ trivial (parOk hpar rfl)) (fun n_ E hR => ?_)
  obtain ⟨i, hI, rfl, rfl⟩ := hR
  obtain ⟨hI0, hI1⟩ := hI
  refine vw_seq ?_
  refine vw_region ?_
  refine s_lss rfl rfl rfl trivial (fun h14 => ?_) (fun h14 => ?_)
  ·refine u_end trivial ?_
   refine vw_seq ?_
   refine vw_condT rfl ?_
   refine vw_skip ?_
   refine vw_seq ?_
   refine vw_block ?_
   refine vw_seq ?_
   refine vw_region ?_
   refine u_move rfl rfl trivial ?_
   refine u_assign rfl rfl trivial ?_
   refine u_end trivial ?_
   refine vw_seq ?_
   rw [intCells_length] at h14
   refine vw_draw ?_
   refine u_move rfl rfl trivial ?_
   refine u_move rfl rfl trivial ?_
   refine u_indexS rfl rfl rfl rfl rfl rfl (intCells_get (List.getElem?_eq_getElem (by omega))) rfl trivial ?_
   refine u_loadS1 rfl rfl rfl rfl rfl trivial ?_
   refine u_move rfl rfl trivial ?_
   refine u_move rfl rfl trivial ?_
   refine u_indexS rfl rfl rfl rfl rfl rfl (intCells_get (List.getElem?_eq_getElem (by omega))) rfl trivial ?_
   refine u_loadS1 rfl rfl rfl rfl rfl trivial ?_
   refine s_neq rfl rfl rfl trivial (fun h24 => ?_) (fun h24 => ?_)
   ·refine u_end (by kernel_rfl) ?_
    refine vw_condT rfl ?_
    refine vw_seq ?_
    refine vw_region ?_
    refine u_assign rfl rfl trivial ?_
    refine u_end trivial ?_
    refine vw_ret ?_
    refine fin0 (.inr rfl) (.cons (.tmp rfl (nb rfl)) .nil) (subB ?_)
    ·refine beq_eq_false_iff_ne.2 (fun e => ?_)
     subst e
     exact h24 rfl
   ·refine u_end (by kernel_rfl) ?_
    refine vw_condF rfl ?_
    refine vw_skip ?_
    refine vw_region ?_
    refine u_add rfl rfl rfl (by unfold inI; omega) rfl trivial ?_
    refine u_move rfl rfl trivial ?_
    refine u_end trivial ?_
    refine ⟨_, _, ren [], ?_, ⟨i + 1, ?_, rfl, rfl⟩, mk_wk [] rfl rfl ⟨⟨_, rfl, (.shr _ _)⟩, ⟨_, rfl, (.shr _ _)⟩, ⟨_, rfl, (.lit _)⟩, ⟨_, rfl, (.lit _)⟩, trivial⟩ trivial (parOk hpar rfl)⟩
    ·omega
    ·refine ⟨by omega, ?_⟩
     rw [List.take_add_one, List.take_add_one, hI1, List.getElem?_eq_getElem (by omega), List.getElem?_eq_getElem (by omega), h24]
  ·refine u_end trivial ?_
   refine vw_seq ?_
   refine vw_condF rfl ?_
   refine vw_exit ?_
   refine iteP rfl ?_
   refine vw_seq ?_
   rw [intCells_length] at h14
   refine vw_region ?_
   refine u_assign rfl rfl trivial ?_
   refine u_end trivial ?_
   refine vw_ret ?_
   refine fin0 (.inr rfl) (.cons (.tmp rfl (nb rfl)) .nil) (subB ?_)
   ·refine beq_iff_eq.2 ?_
    rw [List.take_of_length_le (by omega), List.take_of_length_le (by omega)] at hI1
    exact hI1
theorem c79 (a b : Chunk) : VFun G 79 [.agg (chunkAV a), .agg (chunkAV b)] [] (.lit (.bool (a == b))) [] := by
 refine VFun.intro (fn := Try.f79) rfl rfl (by kernel_rfl) (nb rfl) fun Γ hpar => ?_
 refine vw_seq ?_
 refine vw_region ?_
 refine u_box 100 rfl rfl rfl (notPar hpar rfl) rfl rfl trivial ?_
 refine u_box 101 rfl rfl rfl (notPar hpar rfl) rfl rfl trivial ?_
 refine u_assign rfl rfl trivial ?_
 refine u_end trivial ?_
 refine vw_seq ?_
 refine vw_region ?_
 refine u_fieldAddr rfl rfl rfl rfl rfl rfl trivial ?_
 refine u_load1 rfl rfl rfl rfl rfl rfl trivial ?_
 refine u_fieldAddr rfl rfl rfl rfl rfl rfl trivial ?_
 refine u_load1 rfl rfl rfl rfl rfl rfl trivial ?_
 refine s_eql rfl rfl rfl trivial (fun h9 => ?_) (fun h9 => ?_)
 ·refine u_move rfl rfl trivial ?_
  refine u_fieldAddr rfl rfl rfl rfl rfl rfl ⟨_, _, rfl, rfl, rfl, rfl⟩ ?_
  refine u_load1 rfl rfl rfl rfl rfl rfl ⟨_, _, rfl, rfl, rfl, rfl⟩ ?_
  refine u_fieldAddr rfl rfl rfl rfl rfl rfl ⟨_, _, rfl, rfl, rfl, rfl⟩ ?_
  refine u_load1 rfl rfl rfl rfl rfl rfl ⟨_, _, rfl, rfl, rfl, rfl⟩ ?_
  refine s_eql rfl rfl rfl ⟨_, _, rfl, rfl, rfl, rfl⟩ (fun h15 => ?_) (fun h15 => ?_)
  ·refine u_pickT rfl rfl rfl trivial ?_
   refine u_move rfl rfl trivial ?_
   refine u_fieldAddr rfl rfl rfl rfl rfl rfl ⟨_, _, rfl, rfl, rfl, rfl⟩ ?_
   refine u_load1 rfl rfl rfl rfl rfl rfl ⟨_, _, rfl, rfl, rfl, rfl⟩ ?_
   refine u_fieldAddr rfl rfl rfl rfl rfl rfl ⟨_, _, rfl, rfl, rfl, rfl⟩ ?_
   refine u_load1 rfl rfl rfl rfl rfl rfl ⟨_, _, rfl, rfl, rfl, rfl⟩ ?_
   refine s_eql rfl rfl rfl ⟨_, _, rfl, rfl, rfl, rfl⟩ (fun h22 => ?_) (fun h22 => ?_)
   ·refine u_pickT rfl rfl rfl trivial ?_
    refine u_move rfl rfl trivial ?_
    refine u_fieldAddr rfl rfl rfl rfl rfl rfl ⟨_, _, rfl, rfl, rfl, rfl⟩ ?_
    refine u_load1 rfl rfl rfl rfl rfl rfl ⟨_, _, rfl, rfl, rfl, rfl⟩ ?_
    refine u_fieldAddr rfl rfl rfl rfl rfl rfl ⟨_, _, rfl, rfl, rfl, rfl⟩ ?_
    refine u_load1 rfl rfl rfl rfl rfl rfl ⟨_, _, rfl, rfl, rfl, rfl⟩ ?_
    refine s_eql rfl rfl rfl ⟨_, _, rfl, rfl, rfl, rfl⟩ (fun h29 => ?_) (fun h29 => ?_)
    ·refine u_pickT rfl rfl rfl trivial ?_
     refine u_move rfl rfl trivial ?_
     refine u_fieldAddr rfl rfl rfl rfl rfl rfl ⟨_, _, rfl, rfl, rfl, rfl⟩ ?_
     refine u_load1 rfl rfl rfl rfl rfl rfl ⟨_, _, rfl, rfl, rfl, rfl⟩ ?_
     refine u_convT rfl (by rfl) rfl rfl rfl rfl ⟨_, _, rfl, rfl, rfl, rfl⟩ ?_
     refine u_fieldAddr rfl rfl rfl rfl rfl rfl ⟨_, _, rfl, rfl, rfl, rfl⟩ ?_
     refine u_load1 rfl rfl rfl rfl rfl rfl ⟨_, _, rfl, rfl, rfl, rfl⟩ ?_
     refine u_convT rfl (by rfl) rfl rfl rfl rfl ⟨_, _, rfl, rfl, rfl, rfl⟩ ?_
     refine s_eqlT rfl rfl rfl ⟨_, _, rfl, rfl, rfl, rfl⟩ (fun h38 => ?_) (fun h38 => ?_)
     ·refine u_pickT rfl rfl rfl trivial ?_
      refine u_move rfl rfl trivial ?_
      refine u_fieldAddr rfl rfl rfl rfl rfl rfl ⟨_, _, rfl, rfl, rfl, rfl⟩ ?_
      refine u_load1 rfl rfl rfl rfl rfl rfl ⟨_, _, rfl, rfl, rfl, rfl⟩ ?_
      refine u_fieldAddr rfl rfl rfl rfl rfl rfl ⟨_, _, rfl, rfl, rfl, rfl⟩ ?_
      refine u_load1 rfl rfl rfl rfl rfl rfl ⟨_, _, rfl, rfl, rfl, rfl⟩ ?_
      refine u_call rfl (c139 _ _) (.cons ((.shr _ _)) (.cons ((.shr _ _)) .nil)) rfl ⟨_, _, rfl, rfl, rfl, rfl⟩ ?_
      refine u_pickT rfl rfl rfl trivial ?_
      refine u_assign rfl rfl trivial ?_
      refine u_end trivial ?_
      refine vw_ret ?_
      refine fin' [] (.inr rfl) (.cons (.tmp rfl (nb rfl)) .nil) (mk_wk [] rfl rfl ⟨⟨_, rfl, (subB ?_)⟩, trivial⟩ trivial (parOk rfl rfl))
      all_goals (try rfl)
      all_goals
        (try simp only [intCells_length, byteCells_length] at *)
        first | (refine beq_eq_false_iff_ne.2 (fun e => ?_); subst e; simp_all [bytesT]; done) | (rw [Bool.eq_iff_iff]; cases a; cases b; simp_all [bytesT]; done)
     ·refine u_pickT rfl rfl rfl trivial ?_
      refine u_move rfl rfl trivial ?_
      refine u_skip rfl rfl rfl rfl rfl ?_
      refine u_skip rfl rfl rfl rfl rfl ?_
      refine u_skip rfl rfl rfl rfl rfl ?_
      refine u_skip rfl rfl rfl rfl rfl ?_
      refine u_skip rfl rfl rfl rfl rfl ?_
      refine u_pickF rfl rfl rfl trivial ?_
      refine u_assign rfl rfl trivial ?_
      refine u_end trivial ?_
      refine vw_ret ?_
      refine fin' [] (.inr rfl) (.cons (.tmp rfl (nb rfl)) .nil) (mk_wk [] rfl rfl ⟨⟨_, rfl, (subB ?_)⟩, trivial⟩ trivial (parOk rfl rfl))
      all_goals (try rfl)
      all_goals
        (try simp only [intCells_length, byteCells_length] at *)
        first | (refine beq_eq_false_iff_ne.2 (fun e => ?_); subst e; simp_all [bytesT]; done) | (rw [Bool.eq_iff_iff]; cases a; cases b; simp_all [bytesT]; done)
    ·refine u_pickT rfl rfl rfl trivial ?_
     refine u_move rfl rfl trivial ?_
     refine u_skip rfl rfl rfl rfl rfl ?_
     refine u_skip rfl rfl rfl rfl rfl ?_
     refine u_skip rfl rfl rfl rfl rfl ?_
     refine u_skip rfl rfl rfl rfl rfl ?_
     refine u_skip rfl rfl rfl rfl rfl ?_
     refine u_skip rfl rfl rfl rfl rfl ?_
     refine u_skip rfl rfl rfl rfl rfl ?_
     refine u_pickF rfl rfl rfl trivial ?_
     refine u_move rfl rfl trivial ?_
     refine u_skip rfl rfl rfl rfl rfl ?_
     refine u_skip rfl rfl rfl rfl rfl ?_
     refine u_skip rfl rfl rfl rfl rfl ?_
     refine u_skip rfl rfl rfl rfl rfl ?_
     refine u_skip rfl rfl rfl rfl rfl ?_
     refine u_pickF rfl rfl rfl trivial ?_
     refine u_assign rfl rfl trivial ?_
     refine u_end trivial ?_
     refine vw_ret ?_
     refine fin' [] (.inr rfl) (.cons (.tmp rfl (nb rfl)) .nil) (mk_wk [] rfl rfl ⟨⟨_, rfl, (subB ?_)⟩, trivial⟩ trivial (parOk rfl rfl))
     all_goals (try rfl)
     all_goals
       (try simp only [intCells_length, byteCells_length] at *)
       first | (refine beq_eq_false_iff_ne.2 (fun e => ?_); subst e; simp_all [bytesT]; done) | (rw [Bool.eq_iff_iff]; cases a; cases b; simp_all [bytesT]; done)
   ·refine u_pickT rfl rfl rfl trivial ?_
    refine u_move rfl rfl trivial ?_
    refine u_skip rfl rfl rfl rfl rfl ?_
    refine u_skip rfl rfl rfl rfl rfl ?_
    refine u_skip rfl rfl rfl rfl rfl ?_
    refine u_skip rfl rfl rfl rfl rfl ?_
    refine u_skip rfl rfl rfl rfl rfl ?_
    refine u_pickF rfl rfl rfl trivial ?_
    refine u_move rfl rfl trivial ?_
    refine u_skip rfl rfl rfl rfl rfl ?_
    refine u_skip rfl rfl rfl rfl rfl ?_
    refine u_skip rfl rfl rfl rfl rfl ?_
    refine u_skip rfl rfl rfl rfl rfl ?_
    refine u_skip rfl rfl rfl rfl rfl ?_
    refine u_skip rfl rfl rfl rfl rfl ?_
    refine u_skip rfl rfl rfl rfl rfl ?_
    refine u_pickF rfl rfl rfl trivial ?_
    refine u_move rfl rfl trivial ?_
    refine u_skip rfl rfl rfl rfl rfl ?_
    refine u_skip rfl rfl rfl rfl rfl ?_
    refine u_skip rfl rfl rfl rfl rfl ?_
    refine u_skip rfl rfl rfl rfl rfl ?_
    refine u_skip rfl rfl rfl rfl rfl ?_
    refine u_pickF rfl rfl rfl trivial ?_
    refine u_assign rfl rfl trivial ?_
    refine u_end trivial ?_
    refine vw_ret ?_
    refine fin' [] (.inr rfl) (.cons (.tmp rfl (nb rfl)) .nil) (mk_wk [] rfl rfl ⟨⟨_, rfl, (subB ?_)⟩, trivial⟩ trivial (parOk rfl rfl))
    all_goals (try rfl)
    all_goals
      (try simp only [intCells_length, byteCells_length] at *)
      first | (refine beq_eq_false_iff_ne.2 (fun e => ?_); subst e; simp_all [bytesT]; done) | (rw [Bool.eq_iff_iff]; cases a; cases b; simp_all [bytesT]; done)
  ·refine u_pickT rfl rfl rfl trivial ?_
   refine u_move rfl rfl trivial ?_
   refine u_skip rfl rfl rfl rfl rfl ?_
   refine u_skip rfl rfl rfl rfl rfl ?_
   refine u_skip rfl rfl rfl rfl rfl ?_
   refine u_skip rfl rfl rfl rfl rfl ?_
   refine u_skip rfl rfl rfl rfl rfl ?_
   refine u_pickF rfl rfl rfl trivial ?_
   refine u_move rfl rfl trivial ?_
   refine u_skip rfl rfl rfl rfl rfl ?_
   refine u_skip rfl rfl rfl rfl rfl ?_
   refine u_skip rfl rfl rfl rfl rfl ?_
   refine u_skip rfl rfl rfl rfl rfl ?_
   refine u_skip rfl rfl rfl rfl rfl ?_
   refine u_pickF rfl rfl rfl trivial ?_
   refine u_move rfl rfl trivial ?_
   refine u_skip rfl rfl rfl rfl rfl ?_
   refine u_skip rfl rfl rfl rfl rfl ?_
   refine u_skip rfl rfl rfl rfl rfl ?_
   refine u_skip rfl rfl rfl rfl rfl ?_
   refine u_skip rfl rfl rfl rfl rfl ?_
   refine u_skip rfl rfl rfl rfl rfl ?_
   refine u_skip rfl rfl rfl rfl rfl ?_
   refine u_pickF rfl rfl rfl trivial ?_
   refine u_move rfl rfl trivial ?_
   refine u_skip rfl rfl rfl rfl rfl ?_
   refine u_skip rfl rfl rfl rfl rfl ?_
   refine u_skip rfl rfl rfl rfl rfl ?_
   refine u_skip rfl rfl rfl rfl rfl ?_
   refine u_skip rfl rfl rfl rfl rfl ?_
   refine u_pickF rfl rfl rfl trivial ?_
   refine u_assign rfl rfl trivial ?_
   refine u_end trivial ?_
   refine vw_ret ?_
   refine fin' [] (.inr rfl) (.cons (.tmp rfl (nb rfl)) .nil) (mk_wk [] rfl rfl ⟨⟨_, rfl, (subB ?_)⟩, trivial⟩ trivial (parOk rfl rfl))
   all_goals (try rfl)
   all_goals
     (try simp only [intCells_length, byteCells_length] at *)
     first | (refine beq_eq_false_iff_ne.2 (fun e => ?_); subst e; simp_all [bytesT]; done) | (rw [Bool.eq_iff_iff]; cases a; cases b; simp_all [bytesT]; done)
 ·refine u_move rfl rfl trivial ?_
  refine u_skip rfl rfl rfl rfl rfl ?_
  refine u_skip rfl rfl rfl rfl rfl ?_
  refine u_skip rfl rfl rfl rfl rfl ?_
  refine u_skip rfl rfl rfl rfl rfl ?_
  refine u_skip rfl rfl rfl rfl rfl ?_
  refine u_pickF rfl rfl rfl trivial ?_
  refine u_move rfl rfl trivial ?_
  refine u_skip rfl rfl rfl rfl rfl ?_
  refine u_skip rfl rfl rfl rfl rfl ?_
  refine u_skip rfl rfl rfl rfl rfl ?_
  refine u_skip rfl rfl rfl rfl rfl ?_
  refine u_skip rfl rfl rfl rfl rfl ?_
  refine u_pickF rfl rfl rfl trivial ?_
  refine u_move rfl rfl trivial ?_
  refine u_skip rfl rfl rfl rfl rfl ?_
  refine u_skip rfl rfl rfl rfl rfl ?_
  refine u_skip rfl rfl rfl rfl rfl ?_
  refine u_skip rfl rfl rfl rfl rfl ?_
  refine u_skip rfl rfl rfl rfl rfl ?_
  refine u_pickF rfl rfl rfl trivial ?_
  refine u_move rfl rfl trivial ?_
  refine u_skip rfl rfl rfl rfl rfl ?_
  refine u_skip rfl rfl rfl rfl rfl ?_
  refine u_skip rfl rfl rfl rfl rfl ?_
  refine u_skip rfl rfl rfl rfl rfl ?_
  refine u_skip rfl rfl rfl rfl rfl ?_
  refine u_skip rfl rfl rfl rfl rfl ?_
  refine u_skip rfl rfl rfl rfl rfl ?_
  refine u_pickF rfl rfl rfl trivial ?_
  refine u_move rfl rfl trivial ?_
  refine u_skip rfl rfl rfl rfl rfl ?_
  refine u_skip rfl rfl rfl rfl rfl ?_
  refine u_skip rfl rfl rfl rfl rfl ?_
  refine u_skip rfl rfl rfl rfl rfl ?_
  refine u_skip rfl rfl rfl rfl rfl ?_
  refine u_pickF rfl rfl rfl trivial ?_
  refine u_assign rfl rfl trivial ?_
  refine u_end trivial ?_
  refine vw_ret ?_
  refine fin' [] (.inr rfl) (.cons (.tmp rfl (nb rfl)) .nil) (mk_wk [] rfl rfl ⟨⟨_, rfl, (subB ?_)⟩, trivial⟩ trivial (parOk rfl rfl))
  all_goals (try rfl)
  all_goals
    (try simp only [intCells_length, byteCells_length] at *)
    first | (refine beq_eq_false_iff_ne.2 (fun e => ?_); subst e; simp_all [bytesT]; done) | (rw [Bool.eq_iff_iff]; cases a; cases b; simp_all [bytesT]; done)
theorem c80 (c : Chunk) (hl : c.early.length ≤ 17592186044000) : VFun G 80 [.agg (chunkAV c)] [] (.agg (chunkAV c)) [] := by
 refine VFun.intro (fn := Try.f80) rfl rfl (by kernel_rfl) (nb rfl) fun Γ hpar => ?_
 refine vw_seq ?_
 refine vw_region ?_
 refine u_box 100 rfl rfl rfl (notPar hpar rfl) rfl rfl trivial ?_
 refine u_alloc 101 rfl rfl (notPar hpar rfl) rfl rfl trivial ?_
 refine u_end trivial ?_
 refine vw_seq ?_
 refine vw_draw ?_
 refine u_fieldAddr rfl rfl rfl rfl rfl rfl trivial ?_
 refine u_load1 rfl rfl rfl rfl rfl rfl trivial ?_
 refine u_call rfl (VFun.read (c136 0 _)) (.cons ((.shr _ _)) .nil) rfl trivial ?_
 refine u_fieldAddr rfl rfl rfl rfl rfl rfl trivial ?_
 refine u_load1 rfl rfl rfl rfl rfl rfl trivial ?_
 refine u_call rfl (VFun.read (c140 0 _ (by omega))) (.cons ((.shr _ _)) .nil) rfl trivial ?_
 refine u_fieldAddr rfl rfl rfl rfl rfl rfl trivial ?_
 refine u_store rfl rfl rfl rfl rfl rfl rfl trivial ?_
 refine u_fieldAddr rfl rfl rfl rfl rfl rfl trivial ?_
 refine u_store rfl rfl rfl rfl rfl rfl rfl trivial ?_
 refine u_end (by kernel_rfl) ?_
 refine vw_seq ?_
 refine vw_region ?_
 refine u_loadAll rfl rfl rfl rfl rfl rfl trivial ?_
 refine u_storeAll rfl rfl rfl rfl rfl rfl rfl rfl trivial ?_
 refine u_end trivial ?_
 refine vw_ret ?_
 refine fin' [] (.inr rfl) (.cons (.cellN rfl rfl rfl rfl rfl) .nil) (mk_wk [] rfl rfl ⟨⟨_, rfl, (.agg _ _ (.cons (subI ?_) (.cons (subI ?_) (.cons (subI ?_) (.cons (subI ?_) (.cons (subS ?_) (.cons (subS ?_) .nil)))))))⟩, trivial⟩ trivial (parOk rfl rfl))
 all_goals (try rfl)
theorem c77 (c : Chunk) : VFun G 77 [.agg (chunkAV c)] [] (.lit (.int .i64 (wrong c))) [] := by
 refine VFun.intro (fn := Try.f77) rfl rfl (by kernel_rfl) (nb rfl) fun Γ hpar => ?_
 refine vw_seq ?_
 refine vw_lenA (t := 0) (j := 5) rfl rfl fun hl => ?_
 rw [intCells_length] at hl
 refine vw_region ?_
 refine u_box 100 rfl rfl rfl (notPar hpar rfl) rfl rfl trivial ?_
 refine u_assign rfl rfl trivial ?_
 refine u_end trivial ?_
 refine vw_seq ?_
 refine vw_seq ?_
 refine vw_region ?_
 refine u_fieldAddr rfl rfl rfl rfl rfl rfl trivial ?_
 refine u_load1 rfl rfl rfl rfl rfl rfl trivial ?_
 refine s_neq rfl rfl rfl trivial (fun h8 => ?_) (fun h8 => ?_)
 ·refine u_move rfl rfl trivial ?_
  refine u_fieldAddr rfl rfl rfl rfl rfl rfl ⟨_, _, rfl, rfl, rfl, rfl⟩ ?_
  refine u_load1 rfl rfl rfl rfl rfl rfl ⟨_, _, rfl, rfl, rfl, rfl⟩ ?_
  refine s_neq rfl rfl rfl ⟨_, _, rfl, rfl, rfl, rfl⟩ (fun h12 => ?_) (fun h12 => ?_)
  ·refine u_pickT rfl rfl rfl trivial ?_
   refine u_end trivial ?_
   refine vw_condT rfl ?_
   refine vw_seq ?_
   refine vw_region ?_
   refine u_assign rfl rfl trivial ?_
   refine u_end trivial ?_
   refine vw_ret ?_
   refine fin' [] (.inr rfl) (.cons (.tmp rfl (nb rfl)) .nil) (mk_wk [] rfl rfl ⟨⟨_, rfl, (subI ?_)⟩, trivial⟩ trivial (parOk rfl rfl))
   all_goals (try rfl)
   all_goals
     (try simp only [intCells_length, byteCells_length] at *)
     unfold wrong; (repeat first | rw [if_pos (by omega)] | rw [if_neg (by omega)])
  ·refine u_pickT rfl rfl rfl trivial ?_
   refine u_end trivial ?_
   refine vw_condF rfl ?_
   refine vw_skip ?_
   refine vw_seq ?_
   refine vw_seq ?_
   refine vw_region ?_
   refine u_fieldAddr rfl rfl rfl rfl rfl rfl trivial ?_
   refine u_load1 rfl rfl rfl rfl rfl rfl trivial ?_
   refine s_lss rfl rfl rfl trivial (fun h16 => ?_) (fun h16 => ?_)
   ·refine u_move rfl rfl trivial ?_
    refine u_skip rfl rfl rfl rfl rfl ?_
    refine u_skip rfl rfl rfl rfl rfl ?_
    refine u_skip rfl rfl rfl rfl rfl ?_
    refine u_pickT rfl rfl rfl trivial ?_
    refine u_end trivial ?_
    refine vw_condT rfl ?_
    refine vw_seq ?_
    refine vw_region ?_
    refine u_assign rfl rfl trivial ?_
    refine u_end trivial ?_
    refine vw_ret ?_
    refine fin' [] (.inr rfl) (.cons (.tmp rfl (nb rfl)) .nil) (mk_wk [] rfl rfl ⟨⟨_, rfl, (subI ?_)⟩, trivial⟩ trivial (parOk rfl rfl))
    all_goals (try rfl)
    all_goals
      (try simp only [intCells_length, byteCells_length] at *)
      unfold wrong; (repeat first | rw [if_pos (by omega)] | rw [if_neg (by omega)])
   ·refine u_move rfl rfl trivial ?_
    refine u_fieldAddr rfl rfl rfl rfl rfl rfl ⟨_, _, rfl, rfl, rfl, rfl⟩ ?_
    refine u_load1 rfl rfl rfl rfl rfl rfl ⟨_, _, rfl, rfl, rfl, rfl⟩ ?_
    refine s_gtr rfl rfl rfl ⟨_, _, rfl, rfl, rfl, rfl⟩ (fun h20 => ?_) (fun h20 => ?_)
    ·refine u_pickF rfl rfl rfl trivial ?_
     refine u_end trivial ?_
     refine vw_condT rfl ?_
     refine vw_seq ?_
     refine vw_region ?_
     refine u_assign rfl rfl trivial ?_
     refine u_end trivial ?_
     refine vw_ret ?_
     refine fin' [] (.inr rfl) (.cons (.tmp rfl (nb rfl)) .nil) (mk_wk [] rfl rfl ⟨⟨_, rfl, (subI ?_)⟩, trivial⟩ trivial (parOk rfl rfl))
     all_goals (try rfl)
     all_goals
       (try simp only [intCells_length, byteCells_length] at *)
       unfold wrong; (repeat first | rw [if_pos (by omega)] | rw [if_neg (by omega)])
    ·refine u_pickF rfl rfl rfl trivial ?_
     refine u_end trivial ?_
     refine vw_condF rfl ?_
     refine vw_skip ?_
     refine vw_seq ?_
     refine vw_seq ?_
     refine vw_region ?_
     refine u_fieldAddr rfl rfl rfl rfl rfl rfl trivial ?_
     refine u_load1 rfl rfl rfl rfl rfl rfl trivial ?_
     refine s_eql rfl rfl rfl trivial (fun h24 => ?_) (fun h24 => ?_)
     ·omega
     ·refine u_end trivial ?_
      refine vw_condF rfl ?_
      refine vw_skip ?_
      refine vw_seq ?_
      refine vw_seq ?_
      refine vw_region ?_
      refine u_fieldAddr rfl rfl rfl rfl rfl rfl trivial ?_
      refine u_load1 rfl rfl rfl rfl rfl rfl trivial ?_
      refine s_neq rfl rfl rfl trivial (fun h52 => ?_) (fun h52 => ?_)
      ·refine u_move rfl rfl trivial ?_
       refine u_skip rfl rfl rfl rfl rfl ?_
       refine u_skip rfl rfl rfl rfl rfl ?_
       refine u_skip rfl rfl rfl rfl rfl ?_
       refine u_pickT rfl rfl rfl trivial ?_
       refine u_end trivial ?_
       refine vw_condT rfl ?_
       refine vw_seq ?_
       refine vw_region ?_
       refine u_assign rfl rfl trivial ?_
       refine u_end trivial ?_
       refine vw_ret ?_
       refine fin' [] (.inr rfl) (.cons (.tmp rfl (nb rfl)) .nil) (mk_wk [] rfl rfl ⟨⟨_, rfl, (subI ?_)⟩, trivial⟩ trivial (parOk rfl rfl))
       all_goals (try rfl)
       all_goals
         (try simp only [intCells_length, byteCells_length] at *)
         unfold wrong; (repeat first | rw [if_pos (by omega)] | rw [if_neg (by omega)])
      ·refine u_move rfl rfl trivial ?_
       refine u_fieldAddr rfl rfl rfl rfl rfl rfl ⟨_, _, rfl, rfl, rfl, rfl⟩ ?_
       refine u_load1 rfl rfl rfl rfl rfl rfl ⟨_, _, rfl, rfl, rfl, rfl⟩ ?_
       refine s_neq rfl rfl rfl ⟨_, _, rfl, rfl, rfl, rfl⟩ (fun h56 => ?_) (fun h56 => ?_)
       ·refine u_pickF rfl rfl rfl trivial ?_
        refine u_end trivial ?_
        refine vw_condT rfl ?_
        refine vw_seq ?_
        refine vw_region ?_
        refine u_assign rfl rfl trivial ?_
        refine u_end trivial ?_
        refine vw_ret ?_
        refine fin' [] (.inr rfl) (.cons (.tmp rfl (nb rfl)) .nil) (mk_wk [] rfl rfl ⟨⟨_, rfl, (subI ?_)⟩, trivial⟩ trivial (parOk rfl rfl))
        all_goals (try rfl)
        all_goals
          (try simp only [intCells_length, byteCells_length] at *)
          unfold wrong; (repeat first | rw [if_pos (by omega)] | rw [if_neg (by omega)])
       ·refine u_pickF rfl rfl rfl trivial ?_
        refine u_end trivial ?_
        refine vw_condF rfl ?_
        refine vw_skip ?_
        refine vw_seq ?_
        refine vw_seq ?_
        refine vw_region ?_
        refine u_fieldAddr rfl rfl rfl rfl rfl rfl trivial ?_
        refine u_load1 rfl rfl rfl rfl rfl rfl trivial ?_
        refine u_len rfl rfl rfl trivial ?_
        refine s_neq rfl rfl rfl trivial (fun h61 => ?_) (fun h61 => ?_)
        ·refine u_move rfl rfl trivial ?_
         refine u_skip rfl rfl rfl rfl rfl ?_
         refine u_skip rfl rfl rfl rfl rfl ?_
         refine u_skip rfl rfl rfl rfl rfl ?_
         refine u_skip rfl rfl rfl rfl rfl ?_
         refine u_pickT rfl rfl rfl trivial ?_
         refine u_end trivial ?_
         refine vw_condT rfl ?_
         refine vw_seq ?_
         refine vw_region ?_
         refine u_assign rfl rfl trivial ?_
         refine u_end trivial ?_
         refine vw_ret ?_
         refine fin' [] (.inr rfl) (.cons (.tmp rfl (nb rfl)) .nil) (mk_wk [] rfl rfl ⟨⟨_, rfl, (subI ?_)⟩, trivial⟩ trivial (parOk rfl rfl))
         all_goals (try rfl)
         all_goals
           (try simp only [intCells_length, byteCells_length] at *)
           unfold wrong; (repeat first | rw [if_pos (by omega)] | rw [if_neg (by omega)])
        ·refine u_move rfl rfl trivial ?_
         refine u_fieldAddr rfl rfl rfl rfl rfl rfl ⟨_, _, rfl, rfl, rfl, rfl⟩ ?_
         refine u_load1 rfl rfl rfl rfl rfl rfl ⟨_, _, rfl, rfl, rfl, rfl⟩ ?_
         refine u_len rfl rfl rfl ⟨_, _, rfl, rfl, rfl, rfl⟩ ?_
         refine s_gtr rfl rfl rfl ⟨_, _, rfl, rfl, rfl, rfl⟩ (fun h66 => ?_) (fun h66 => ?_)
         ·refine u_pickF rfl rfl rfl trivial ?_
          refine u_end trivial ?_
          refine vw_condT rfl ?_
          refine vw_seq ?_
          refine vw_region ?_
          refine u_assign rfl rfl trivial ?_
          refine u_end trivial ?_
          refine vw_ret ?_
          refine fin' [] (.inr rfl) (.cons (.tmp rfl (nb rfl)) .nil) (mk_wk [] rfl rfl ⟨⟨_, rfl, (subI ?_)⟩, trivial⟩ trivial (parOk rfl rfl))
          all_goals (try rfl)
          all_goals
            (try simp only [intCells_length, byteCells_length] at *)
            unfold wrong; (repeat first | rw [if_pos (by omega)] | rw [if_neg (by omega)])
         ·refine u_pickF rfl rfl rfl trivial ?_
          refine u_end trivial ?_
          refine vw_condF rfl ?_
          refine vw_skip ?_
          refine vw_seq ?_
          refine vw_region ?_
          refine u_fieldAddr rfl rfl rfl rfl rfl rfl trivial ?_
          refine u_load1 rfl rfl rfl rfl rfl rfl trivial ?_
          refine u_assign rfl rfl trivial ?_
          refine u_end trivial ?_
          refine vw_seq ?_
          refine vw_seq ?_
          refine vw_region ?_
          refine u_fieldAddr rfl rfl rfl rfl rfl rfl trivial ?_
          refine u_load1 rfl rfl rfl rfl rfl rfl trivial ?_
          refine u_len rfl rfl rfl trivial ?_
          refine u_move rfl rfl trivial ?_
          refine u_end trivial ?_
          refine vw_block ?_
          refine vw_loopR (fun n_ E => ∃ (i : Nat) (last : Int), ((i ≤ c.early.length) ∧ (rising c.num c.early = rising last (c.early.drop i))) ∧ n_ = c.early.length - i ∧ E = ⟨[(71, .shr 1 (intCells c.early)), (72, .lit (.int .i64 (intCells c.early).length)), (73, .lit (.int .i64 i)), (3, .lit (.int .i64 last))], [], 86⟩) (n0 := _) (E0 := _) (⟨0, c.num, by exact ⟨Nat.zero_le _, rfl⟩, rfl, rfl⟩) (ren []) (mk_wk [] rfl rfl ⟨⟨_, rfl, (.shr _ _)⟩, ⟨_, rfl, (.lit _)⟩, ⟨_, rfl, (.lit _)⟩, ⟨_, rfl, (.lit _)⟩, trivial⟩ trivial (parOk hpar rfl)) (fun n_ E hR => ?_)
          obtain ⟨i, last, hI, rfl, rfl⟩ := hR
          obtain ⟨hI0, hI1⟩ := hI
          refine vw_seq ?_
          refine vw_region ?_
          refine s_lss rfl rfl rfl trivial (fun h74 => ?_) (fun h74 => ?_)
          ·refine u_end trivial ?_
           refine vw_seq ?_
           refine vw_condT rfl ?_
           refine vw_skip ?_
           refine vw_seq ?_
           refine vw_block ?_
           refine vw_seq ?_
           rw [intCells_length] at h74
           obtain ⟨n, hn⟩ : ∃ n, c.early[i]? = some n := ⟨_, List.getElem?_eq_getElem (by omega)⟩
           refine vw_region ?_
           refine u_indexS rfl rfl rfl rfl rfl rfl (intCells_get hn) rfl trivial ?_
           refine u_loadS1 rfl rfl rfl rfl rfl trivial ?_
           refine u_assign rfl rfl trivial ?_
           refine u_end trivial ?_
           refine vw_seq ?_
           refine vw_seq ?_
           refine vw_region ?_
           refine u_move rfl rfl trivial ?_
           refine u_move rfl rfl trivial ?_
           refine s_leq rfl rfl rfl trivial (fun h79 => ?_) (fun h79 => ?_)
           ·refine u_move rfl rfl trivial ?_
            refine u_skip rfl rfl rfl rfl rfl ?_
            refine u_skip rfl rfl rfl rfl rfl ?_
            refine u_pickT rfl rfl rfl trivial ?_
            refine u_end trivial ?_
            refine vw_condT rfl ?_
            refine vw_seq ?_
            refine vw_region ?_
            refine u_assign rfl rfl trivial ?_
            refine u_end trivial ?_
            refine vw_ret ?_
            refine fin' [] (.inr rfl) (.cons (.tmp rfl (nb rfl)) .nil) (mk_wk [] rfl rfl ⟨⟨_, rfl, (subI ?_)⟩, trivial⟩ trivial (parOk rfl rfl))
            all_goals (try rfl)
            all_goals
              (try simp only [intCells_length, byteCells_length] at *)
              unfold wrong; (repeat first | rw [if_pos (by omega)] | rw [if_neg (by omega)])
              rw [hI1, rising_snoc hn, if_neg (by simp only [Bool.and_eq_true, decide_eq_true_eq]; rintro ⟨h1, h2, _⟩; omega)]
           ·refine u_move rfl rfl trivial ?_
            refine u_move rfl rfl ⟨_, _, rfl, rfl, rfl, rfl⟩ ?_
            refine s_gtr rfl rfl rfl ⟨_, _, rfl, rfl, rfl, rfl⟩ (fun h82 => ?_) (fun h82 => ?_)
            ·refine u_pickF rfl rfl rfl trivial ?_
             refine u_end trivial ?_
             refine vw_condT rfl ?_
             refine vw_seq ?_
             refine vw_region ?_
             refine u_assign rfl rfl trivial ?_
             refine u_end trivial ?_
             refine vw_ret ?_
             refine fin' [] (.inr rfl) (.cons (.tmp rfl (nb rfl)) .nil) (mk_wk [] rfl rfl ⟨⟨_, rfl, (subI ?_)⟩, trivial⟩ trivial (parOk rfl rfl))
             all_goals (try rfl)
             all_goals
               (try simp only [intCells_length, byteCells_length] at *)
               unfold wrong; (repeat first | rw [if_pos (by omega)] | rw [if_neg (by omega)])
               rw [hI1, rising_snoc hn, if_neg (by simp only [Bool.and_eq_true, decide_eq_true_eq]; rintro ⟨h1, h2, _⟩; omega)]
            ·refine u_pickF rfl rfl rfl trivial ?_
             refine u_end trivial ?_
             refine vw_condF rfl ?_
             refine vw_skip ?_
             refine vw_region ?_
             refine u_move rfl rfl trivial ?_
             refine u_assign rfl rfl trivial ?_
             refine u_end trivial ?_
             refine vw_region ?_
             refine u_add rfl rfl rfl (by unfold inI; omega) rfl trivial ?_
             refine u_move rfl rfl trivial ?_
             refine u_end trivial ?_
             refine ⟨_, _, ren [], ?_, ⟨i + 1, n, ?_, rfl, rfl⟩, mk_wk [] rfl rfl ⟨⟨_, rfl, (.shr _ _)⟩, ⟨_, rfl, (.lit _)⟩, ⟨_, rfl, (.lit _)⟩, ⟨_, rfl, (.lit _)⟩, trivial⟩ trivial (parOk hpar rfl)⟩
             ·omega
             ·(try simp only [intCells_length, byteCells_length] at *)
              refine ⟨by omega, ?_⟩
              rw [hI1, rising_snoc hn, decide_eq_true (by omega), decide_eq_true (by omega)]; rfl
          ·refine u_end trivial ?_
           refine vw_seq ?_
           refine vw_condF rfl ?_
           refine vw_exit ?_
           refine iteP rfl ?_
           refine vw_seq ?_
           refine vw_region ?_
           refine u_assign rfl rfl trivial ?_
           refine u_end trivial ?_
           refine vw_ret ?_
           refine fin' [] (.inr rfl) (.cons (.tmp rfl (nb rfl)) .nil) (mk_wk [] rfl rfl ⟨⟨_, rfl, (subI ?_)⟩, trivial⟩ trivial (parOk rfl rfl))
           all_goals (try rfl)
           all_goals
             (try simp only [intCells_length, byteCells_length] at *)
             unfold wrong; (repeat first | rw [if_pos (by omega)] | rw [if_neg (by omega)])
             rw [hI1, List.drop_eq_nil_of_le (by omega)]; rfl
 ·refine u_move rfl rfl trivial ?_
  refine u_skip rfl rfl rfl rfl rfl ?_
  refine u_skip rfl rfl rfl rfl rfl ?_
  refine u_skip rfl rfl rfl rfl rfl ?_
  refine u_pickF rfl rfl rfl trivial ?_
  refine u_end trivial ?_
  refine vw_condF rfl ?_
  refine vw_skip ?_
  refine vw_seq ?_
  refine vw_seq ?_
  refine vw_region ?_
  refine u_fieldAddr rfl rfl rfl rfl rfl rfl trivial ?_
  refine u_load1 rfl rfl rfl rfl rfl rfl trivial ?_
  refine s_lss rfl rfl rfl trivial (fun h16 => ?_) (fun h16 => ?_)
  ·refine u_move rfl rfl trivial ?_
   refine u_skip rfl rfl rfl rfl rfl ?_
   refine u_skip rfl rfl rfl rfl rfl ?_
   refine u_skip rfl rfl rfl rfl rfl ?_
   refine u_pickT rfl rfl rfl trivial ?_
   refine u_end trivial ?_
   refine vw_condT rfl ?_
   refine vw_seq ?_
   refine vw_region ?_
   refine u_assign rfl rfl trivial ?_
   refine u_end trivial ?_
   refine vw_ret ?_
   refine fin' [] (.inr rfl) (.cons (.tmp rfl (nb rfl)) .nil) (mk_wk [] rfl rfl ⟨⟨_, rfl, (subI ?_)⟩, trivial⟩ trivial (parOk rfl rfl))
   all_goals (try rfl)
   all_goals
     (try simp only [intCells_length, byteCells_length] at *)
     unfold wrong; (repeat first | rw [if_pos (by omega)] | rw [if_neg (by omega)])
  ·refine u_move rfl rfl trivial ?_
   refine u_fieldAddr rfl rfl rfl rfl rfl rfl ⟨_, _, rfl, rfl, rfl, rfl⟩ ?_
   refine u_load1 rfl rfl rfl rfl rfl rfl ⟨_, _, rfl, rfl, rfl, rfl⟩ ?_
   refine s_gtr rfl rfl rfl ⟨_, _, rfl, rfl, rfl, rfl⟩ (fun h20 => ?_) (fun h20 => ?_)
   ·refine u_pickF rfl rfl rfl trivial ?_
    refine u_end trivial ?_
    refine vw_condT rfl ?_
    refine vw_seq ?_
    refine vw_region ?_
    refine u_assign rfl rfl trivial ?_
    refine u_end trivial ?_
    refine vw_ret ?_
    refine fin' [] (.inr rfl) (.cons (.tmp rfl (nb rfl)) .nil) (mk_wk [] rfl rfl ⟨⟨_, rfl, (subI ?_)⟩, trivial⟩ trivial (parOk rfl rfl))
    all_goals (try rfl)
    all_goals
      (try simp only [intCells_length, byteCells_length] at *)
      unfold wrong; (repeat first | rw [if_pos (by omega)] | rw [if_neg (by omega)])
   ·refine u_pickF rfl rfl rfl trivial ?_
    refine u_end trivial ?_
    refine vw_condF rfl ?_
    refine vw_skip ?_
    refine vw_seq ?_
    refine vw_seq ?_
    refine vw_region ?_
    refine u_fieldAddr rfl rfl rfl rfl rfl rfl trivial ?_
    refine u_load1 rfl rfl rfl rfl rfl rfl trivial ?_
    refine s_eql rfl rfl rfl trivial (fun h24 => ?_) (fun h24 => ?_)
    ·refine u_end trivial ?_
     refine vw_condT rfl ?_
     refine vw_seq ?_
     refine vw_seq ?_
     refine vw_region ?_
     refine u_fieldAddr rfl rfl rfl rfl rfl rfl trivial ?_
     refine u_load1 rfl rfl rfl rfl rfl rfl trivial ?_
     refine s_gtr rfl rfl rfl trivial (fun h27 => ?_) (fun h27 => ?_)
     ·refine u_move rfl rfl trivial ?_
      refine u_skip rfl rfl rfl rfl rfl ?_
      refine u_skip rfl rfl rfl rfl rfl ?_
      refine u_skip rfl rfl rfl rfl rfl ?_
      refine u_pickT rfl rfl rfl trivial ?_
      refine u_move rfl rfl trivial ?_
      refine u_skip rfl rfl rfl rfl rfl ?_
      refine u_skip rfl rfl rfl rfl rfl ?_
      refine u_skip rfl rfl rfl rfl rfl ?_
      refine u_skip rfl rfl rfl rfl rfl ?_
      refine u_skip rfl rfl rfl rfl rfl ?_
      refine u_pickT rfl rfl rfl trivial ?_
      refine u_end trivial ?_
      refine vw_condT rfl ?_
      refine vw_seq ?_
      refine vw_region ?_
      refine u_assign rfl rfl trivial ?_
      refine u_end trivial ?_
      refine vw_ret ?_
      refine fin' [] (.inr rfl) (.cons (.tmp rfl (nb rfl)) .nil) (mk_wk [] rfl rfl ⟨⟨_, rfl, (subI ?_)⟩, trivial⟩ trivial (parOk rfl rfl))
      all_goals (try rfl)
      all_goals
        (try simp only [intCells_length, byteCells_length] at *)
        unfold wrong; (repeat first | rw [if_pos (by omega)] | rw [if_neg (by omega)])
     ·refine u_move rfl rfl trivial ?_
      refine u_fieldAddr rfl rfl rfl rfl rfl rfl ⟨_, _, rfl, rfl, rfl, rfl⟩ ?_
      refine u_load1 rfl rfl rfl rfl rfl rfl ⟨_, _, rfl, rfl, rfl, rfl⟩ ?_
      refine s_lss rfl rfl rfl ⟨_, _, rfl, rfl, rfl, rfl⟩ (fun h31 => ?_) (fun h31 => ?_)
      ·refine u_pickF rfl rfl rfl trivial ?_
       refine u_move rfl rfl trivial ?_
       refine u_skip rfl rfl rfl rfl rfl ?_
       refine u_skip rfl rfl rfl rfl rfl ?_
       refine u_skip rfl rfl rfl rfl rfl ?_
       refine u_skip rfl rfl rfl rfl rfl ?_
       refine u_skip rfl rfl rfl rfl rfl ?_
       refine u_pickT rfl rfl rfl trivial ?_
       refine u_end trivial ?_
       refine vw_condT rfl ?_
       refine vw_seq ?_
       refine vw_region ?_
       refine u_assign rfl rfl trivial ?_
       refine u_end trivial ?_
       refine vw_ret ?_
       refine fin' [] (.inr rfl) (.cons (.tmp rfl (nb rfl)) .nil) (mk_wk [] rfl rfl ⟨⟨_, rfl, (subI ?_)⟩, trivial⟩ trivial (parOk rfl rfl))
       all_goals (try rfl)
       all_goals
         (try simp only [intCells_length, byteCells_length] at *)
         unfold wrong; (repeat first | rw [if_pos (by omega)] | rw [if_neg (by omega)])
      ·refine u_pickF rfl rfl rfl trivial ?_
       refine u_move rfl rfl trivial ?_
       refine u_fieldAddr rfl rfl rfl rfl rfl rfl ⟨_, _, rfl, rfl, rfl, rfl⟩ ?_
       refine u_load1 rfl rfl rfl rfl rfl rfl ⟨_, _, rfl, rfl, rfl, rfl⟩ ?_
       refine u_fieldAddr rfl rfl rfl rfl rfl rfl ⟨_, _, rfl, rfl, rfl, rfl⟩ ?_
       refine u_load1 rfl rfl rfl rfl rfl rfl ⟨_, _, rfl, rfl, rfl, rfl⟩ ?_
       refine s_gtr rfl rfl rfl ⟨_, _, rfl, rfl, rfl, rfl⟩ (fun h38 => ?_) (fun h38 => ?_)
       ·refine u_pickF rfl rfl rfl trivial ?_
        refine u_end trivial ?_
        refine vw_condT rfl ?_
        refine vw_seq ?_
        refine vw_region ?_
        refine u_assign rfl rfl trivial ?_
        refine u_end trivial ?_
        refine vw_ret ?_
        refine fin' [] (.inr rfl) (.cons (.tmp rfl (nb rfl)) .nil) (mk_wk [] rfl rfl ⟨⟨_, rfl, (subI ?_)⟩, trivial⟩ trivial (parOk rfl rfl))
        all_goals (try rfl)
        all_goals
          (try simp only [intCells_length, byteCells_length] at *)
          unfold wrong; (repeat first | rw [if_pos (by omega)] | rw [if_neg (by omega)])
       ·refine u_pickF rfl rfl rfl trivial ?_
        refine u_end trivial ?_
        refine vw_condF rfl ?_
        refine vw_skip ?_
        refine vw_seq ?_
        refine vw_seq ?_
        refine vw_region ?_
        refine u_fieldAddr rfl rfl rfl rfl rfl rfl trivial ?_
        refine u_load1 rfl rfl rfl rfl rfl rfl trivial ?_
        refine u_len rfl rfl rfl trivial ?_
        refine s_neq rfl rfl rfl trivial (fun h43 => ?_) (fun h43 => ?_)
        ·refine u_end trivial ?_
         refine vw_condT rfl ?_
         refine vw_seq ?_
         refine vw_region ?_
         refine u_assign rfl rfl trivial ?_
         refine u_end trivial ?_
         refine vw_ret ?_
         refine fin' [] (.inr rfl) (.cons (.tmp rfl (nb rfl)) .nil) (mk_wk [] rfl rfl ⟨⟨_, rfl, (subI ?_)⟩, trivial⟩ trivial (parOk rfl rfl))
         all_goals (try rfl)
         all_goals
           (try simp only [intCells_length, byteCells_length] at *)
           unfold wrong; (repeat first | rw [if_pos (by omega)] | rw [if_neg (by omega)])
        ·refine u_end trivial ?_
         refine vw_condF rfl ?_
         refine vw_skip ?_
         refine vw_seq ?_
         refine vw_region ?_
         refine u_fieldAddr rfl rfl rfl rfl rfl rfl trivial ?_
         refine u_load1 rfl rfl rfl rfl rfl rfl trivial ?_
         refine u_fieldAddr rfl rfl rfl rfl rfl rfl trivial ?_
         refine u_load1 rfl rfl rfl rfl rfl rfl trivial ?_
         refine u_build rfl rfl rfl rfl rfl trivial ?_
         refine u_call rfl (c60 (_, _)) (.cons ((subP rfl)) .nil) rfl trivial ?_
         refine u_assign rfl rfl trivial ?_
         refine u_end trivial ?_
         refine vw_ret ?_
         refine fin' [] (.inr rfl) (.cons (.tmp rfl (nb rfl)) .nil) (mk_wk [] rfl rfl ⟨⟨_, rfl, (subI ?_)⟩, trivial⟩ trivial (parOk rfl rfl))
         all_goals (try rfl)
         all_goals
           (try simp only [intCells_length, byteCells_length] at *)
           unfold wrong; (repeat first | rw [if_pos (by omega)] | rw [if_neg (by omega)])
    ·omega
theorem c76 (c : Chunk) : VFun G 76 [.agg (chunkAV c)] [] (.lit (.int .i64 (wrong c))) [] := by
 refine VFun.intro (fn := Try.f76) rfl rfl (by kernel_rfl) (nb rfl) fun Γ hpar => ?_
 refine vw_seq ?_
 refine vw_lenA (t := 0) (j := 5) rfl rfl fun hl => ?_
 rw [intCells_length] at hl
 refine vw_region ?_
 refine u_box 100 rfl rfl rfl (notPar hpar rfl) rfl rfl trivial ?_
 refine u_assign rfl rfl trivial ?_
 refine u_end trivial ?_
 refine vw_seq ?_
 refine vw_block ?_
 refine vw_seq ?_
 refine vw_region ?_
 refine u_fieldAddr rfl rfl rfl rfl rfl rfl trivial ?_
 refine u_load1 rfl rfl rfl rfl rfl rfl trivial ?_
 refine s_neq rfl rfl rfl trivial (fun h8 => ?_) (fun h8 => ?_)
 ·refine u_move rfl rfl trivial ?_
  refine u_fieldAddr rfl rfl rfl rfl rfl rfl ⟨_, _, rfl, rfl, rfl, rfl⟩ ?_
  refine u_load1 rfl rfl rfl rfl rfl rfl ⟨_, _, rfl, rfl, rfl, rfl⟩ ?_
  refine s_neq rfl rfl rfl ⟨_, _, rfl, rfl, rfl, rfl⟩ (fun h12 => ?_) (fun h12 => ?_)
  ·refine u_pickT rfl rfl rfl trivial ?_
   refine u_assign rfl rfl trivial ?_
   refine u_end trivial ?_
   refine vw_condT rfl ?_
   refine vw_seq ?_
   refine vw_region ?_
   refine u_assign rfl rfl trivial ?_
   refine u_end trivial ?_
   refine vw_ret ?_
   refine fin' [] (.inr rfl) (.cons (.tmp rfl (nb rfl)) .nil) (mk_wk [] rfl rfl ⟨⟨_, rfl, (subI ?_)⟩, trivial⟩ trivial (parOk rfl rfl))
   all_goals (try rfl)
   all_goals
     (try simp only [intCells_length, byteCells_length] at *)
     unfold wrong; (repeat first | rw [if_pos (by omega)] | rw [if_neg (by omega)])
  ·refine u_pickT rfl rfl rfl trivial ?_
   refine u_assign rfl rfl trivial ?_
   refine u_end trivial ?_
   refine vw_condF rfl ?_
   refine vw_seq ?_
   refine vw_region ?_
   refine u_fieldAddr rfl rfl rfl rfl rfl rfl trivial ?_
   refine u_load1 rfl rfl rfl rfl rfl rfl trivial ?_
   refine s_lss rfl rfl rfl trivial (fun h17 => ?_) (fun h17 => ?_)
   ·refine u_move rfl rfl trivial ?_
    refine u_skip rfl rfl rfl rfl rfl ?_
    refine u_skip rfl rfl rfl rfl rfl ?_
    refine u_skip rfl rfl rfl rfl rfl ?_
    refine u_pickT rfl rfl rfl trivial ?_
    refine u_assign rfl rfl trivial ?_
    refine u_end trivial ?_
    refine vw_condT rfl ?_
    refine vw_seq ?_
    refine vw_region ?_
    refine u_assign rfl rfl trivial ?_
    refine u_end trivial ?_
    refine vw_ret ?_
    refine fin' [] (.inr rfl) (.cons (.tmp rfl (nb rfl)) .nil) (mk_wk [] rfl rfl ⟨⟨_, rfl, (subI ?_)⟩, trivial⟩ trivial (parOk rfl rfl))
    all_goals (try rfl)
    all_goals
      (try simp only [intCells_length, byteCells_length] at *)
      unfold wrong; (repeat first | rw [if_pos (by omega)] | rw [if_neg (by omega)])
   ·refine u_move rfl rfl trivial ?_
    refine u_fieldAddr rfl rfl rfl rfl rfl rfl ⟨_, _, rfl, rfl, rfl, rfl⟩ ?_
    refine u_load1 rfl rfl rfl rfl rfl rfl ⟨_, _, rfl, rfl, rfl, rfl⟩ ?_
    refine s_gtr rfl rfl rfl ⟨_, _, rfl, rfl, rfl, rfl⟩ (fun h21 => ?_) (fun h21 => ?_)
    ·refine u_pickF rfl rfl rfl trivial ?_
     refine u_assign rfl rfl trivial ?_
     refine u_end trivial ?_
     refine vw_condT rfl ?_
     refine vw_seq ?_
     refine vw_region ?_
     refine u_assign rfl rfl trivial ?_
     refine u_end trivial ?_
     refine vw_ret ?_
     refine fin' [] (.inr rfl) (.cons (.tmp rfl (nb rfl)) .nil) (mk_wk [] rfl rfl ⟨⟨_, rfl, (subI ?_)⟩, trivial⟩ trivial (parOk rfl rfl))
     all_goals (try rfl)
     all_goals
       (try simp only [intCells_length, byteCells_length] at *)
       unfold wrong; (repeat first | rw [if_pos (by omega)] | rw [if_neg (by omega)])
    ·refine u_pickF rfl rfl rfl trivial ?_
     refine u_assign rfl rfl trivial ?_
     refine u_end trivial ?_
     refine vw_condF rfl ?_
     refine vw_seq ?_
     refine vw_region ?_
     refine u_fieldAddr rfl rfl rfl rfl rfl rfl trivial ?_
     refine u_load1 rfl rfl rfl rfl rfl rfl trivial ?_
     refine s_eql rfl rfl rfl trivial (fun h26 => ?_) (fun h26 => ?_)
     ·omega
     ·refine u_move rfl rfl trivial ?_
      refine u_skip rfl rfl rfl rfl rfl ?_
      refine u_skip rfl rfl rfl rfl rfl ?_
      refine u_skip rfl rfl rfl rfl rfl ?_
      refine u_skip rfl rfl rfl rfl rfl ?_
      refine u_skip rfl rfl rfl rfl rfl ?_
      refine u_skip rfl rfl rfl rfl rfl ?_
      refine u_skip rfl rfl rfl rfl rfl ?_
      refine u_skip rfl rfl rfl rfl rfl ?_
      refine u_skip rfl rfl rfl rfl rfl ?_
      refine u_skip rfl rfl rfl rfl rfl ?_
      refine u_skip rfl rfl rfl rfl rfl ?_
      refine u_skip rfl rfl rfl rfl rfl ?_
      refine u_skip rfl rfl rfl rfl rfl ?_
      refine u_skip rfl rfl rfl rfl rfl ?_
      refine u_skip rfl rfl rfl rfl rfl ?_
      refine u_pickF rfl rfl rfl trivial ?_
      refine u_assign rfl rfl trivial ?_
      refine u_end trivial ?_
      refine vw_condF rfl ?_
      refine vw_seq ?_
      refine vw_region ?_
      refine u_fieldAddr rfl rfl rfl rfl rfl rfl trivial ?_
      refine u_load1 rfl rfl rfl rfl rfl rfl trivial ?_
      refine s_eql rfl rfl rfl trivial (fun h47 => ?_) (fun h47 => ?_)
      ·omega
      ·refine u_move rfl rfl trivial ?_
       refine u_skip rfl rfl rfl rfl rfl ?_
       refine u_skip rfl rfl rfl rfl rfl ?_
       refine u_skip rfl rfl rfl rfl rfl ?_
       refine u_skip rfl rfl rfl rfl rfl ?_
       refine u_pickF rfl rfl rfl trivial ?_
       refine u_assign rfl rfl trivial ?_
       refine u_end trivial ?_
       refine vw_condF rfl ?_
       refine vw_seq ?_
       refine vw_region ?_
       refine u_fieldAddr rfl rfl rfl rfl rfl rfl trivial ?_
       refine u_load1 rfl rfl rfl rfl rfl rfl trivial ?_
       refine s_eql rfl rfl rfl trivial (fun h57 => ?_) (fun h57 => ?_)
       ·omega
       ·refine u_assign rfl rfl trivial ?_
        refine u_end trivial ?_
        refine vw_condF rfl ?_
        refine vw_seq ?_
        refine vw_region ?_
        refine u_fieldAddr rfl rfl rfl rfl rfl rfl trivial ?_
        refine u_load1 rfl rfl rfl rfl rfl rfl trivial ?_
        refine s_neq rfl rfl rfl trivial (fun h67 => ?_) (fun h67 => ?_)
        ·refine u_move rfl rfl trivial ?_
         refine u_skip rfl rfl rfl rfl rfl ?_
         refine u_skip rfl rfl rfl rfl rfl ?_
         refine u_skip rfl rfl rfl rfl rfl ?_
         refine u_pickT rfl rfl rfl trivial ?_
         refine u_assign rfl rfl trivial ?_
         refine u_end trivial ?_
         refine vw_condT rfl ?_
         refine vw_seq ?_
         refine vw_region ?_
         refine u_assign rfl rfl trivial ?_
         refine u_end trivial ?_
         refine vw_ret ?_
         refine fin' [] (.inr rfl) (.cons (.tmp rfl (nb rfl)) .nil) (mk_wk [] rfl rfl ⟨⟨_, rfl, (subI ?_)⟩, trivial⟩ trivial (parOk rfl rfl))
         all_goals (try rfl)
         all_goals
           (try simp only [intCells_length, byteCells_length] at *)
           unfold wrong; (repeat first | rw [if_pos (by omega)] | rw [if_neg (by omega)])
        ·refine u_move rfl rfl trivial ?_
         refine u_fieldAddr rfl rfl rfl rfl rfl rfl ⟨_, _, rfl, rfl, rfl, rfl⟩ ?_
         refine u_load1 rfl rfl rfl rfl rfl rfl ⟨_, _, rfl, rfl, rfl, rfl⟩ ?_
         refine s_neq rfl rfl rfl ⟨_, _, rfl, rfl, rfl, rfl⟩ (fun h71 => ?_) (fun h71 => ?_)
         ·refine u_pickF rfl rfl rfl trivial ?_
          refine u_assign rfl rfl trivial ?_
          refine u_end trivial ?_
          refine vw_condT rfl ?_
          refine vw_seq ?_
          refine vw_region ?_
          refine u_assign rfl rfl trivial ?_
          refine u_end trivial ?_
          refine vw_ret ?_
          refine fin' [] (.inr rfl) (.cons (.tmp rfl (nb rfl)) .nil) (mk_wk [] rfl rfl ⟨⟨_, rfl, (subI ?_)⟩, trivial⟩ trivial (parOk rfl rfl))
          all_goals (try rfl)
          all_goals
            (try simp only [intCells_length, byteCells_length] at *)
            unfold wrong; (repeat first | rw [if_pos (by omega)] | rw [if_neg (by omega)])
         ·refine u_pickF rfl rfl rfl trivial ?_
          refine u_assign rfl rfl trivial ?_
          refine u_end trivial ?_
          refine vw_condF rfl ?_
          refine vw_seq ?_
          refine vw_region ?_
          refine u_fieldAddr rfl rfl rfl rfl rfl rfl trivial ?_
          refine u_load1 rfl rfl rfl rfl rfl rfl trivial ?_
          refine u_len rfl rfl rfl trivial ?_
          refine s_gtr rfl rfl rfl trivial (fun h77 => ?_) (fun h77 => ?_)
          ·refine u_move rfl rfl trivial ?_
           refine u_skip rfl rfl rfl rfl rfl ?_
           refine u_skip rfl rfl rfl rfl rfl ?_
           refine u_skip rfl rfl rfl rfl rfl ?_
           refine u_skip rfl rfl rfl rfl rfl ?_
           refine u_pickT rfl rfl rfl trivial ?_
           refine u_assign rfl rfl trivial ?_
           refine u_end trivial ?_
           refine vw_condT rfl ?_
           refine vw_seq ?_
           refine vw_region ?_
           refine u_assign rfl rfl trivial ?_
           refine u_end trivial ?_
           refine vw_ret ?_
           refine fin' [] (.inr rfl) (.cons (.tmp rfl (nb rfl)) .nil) (mk_wk [] rfl rfl ⟨⟨_, rfl, (subI ?_)⟩, trivial⟩ trivial (parOk rfl rfl))
           all_goals (try rfl)
           all_goals
             (try simp only [intCells_length, byteCells_length] at *)
             unfold wrong; (repeat first | rw [if_pos (by omega)] | rw [if_neg (by omega)])
          ·refine u_move rfl rfl trivial ?_
           refine u_fieldAddr rfl rfl rfl rfl rfl rfl ⟨_, _, rfl, rfl, rfl, rfl⟩ ?_
           refine u_load1 rfl rfl rfl rfl rfl rfl ⟨_, _, rfl, rfl, rfl, rfl⟩ ?_
           refine u_len rfl rfl rfl ⟨_, _, rfl, rfl, rfl, rfl⟩ ?_
           refine s_gtr rfl rfl rfl ⟨_, _, rfl, rfl, rfl, rfl⟩ (fun h82 => ?_) (fun h82 => ?_)
           ·refine u_pickF rfl rfl rfl trivial ?_
            refine u_assign rfl rfl trivial ?_
            refine u_end trivial ?_
            refine vw_condT rfl ?_
            refine vw_seq ?_
            refine vw_region ?_
            refine u_assign rfl rfl trivial ?_
            refine u_end trivial ?_
            refine vw_ret ?_
            refine fin' [] (.inr rfl) (.cons (.tmp rfl (nb rfl)) .nil) (mk_wk [] rfl rfl ⟨⟨_, rfl, (subI ?_)⟩, trivial⟩ trivial (parOk rfl rfl))
            all_goals (try rfl)
            all_goals
              (try simp only [intCells_length, byteCells_length] at *)
              unfold wrong; (repeat first | rw [if_pos (by omega)] | rw [if_neg (by omega)])
           ·refine u_pickF rfl rfl rfl trivial ?_
            refine u_assign rfl rfl trivial ?_
            refine u_end trivial ?_
            refine vw_condF rfl ?_
            refine vw_skip ?_
            refine vw_seq ?_
            refine vw_seq ?_
            refine vw_region ?_
            refine u_fieldAddr rfl rfl rfl rfl rfl rfl trivial ?_
            refine u_load1 rfl rfl rfl rfl rfl rfl trivial ?_
            refine u_len rfl rfl rfl trivial ?_
            refine u_move rfl rfl trivial ?_
            refine u_end trivial ?_
            refine vw_block ?_
            refine vw_loopR (fun n_ E => ∃ (i : Nat) (last : Int), ((i ≤ c.early.length) ∧ (rising c.num c.early = rising last (c.early.drop i)) ∧ (i = 0 → last = c.num) ∧ (0 < i → c.early[i - 1]? = some last) ∧ (c.num ≤ last)) ∧ n_ = c.early.length - i ∧ E = ⟨[(1, .ptr 1 0), (85, .shr 1 (intCells c.early)), (86, .lit (.int .i64 (intCells c.early).length)), (87, .lit (.int .i64 i))], [(1, .box (chunkAV c))], 115⟩) (n0 := _) (E0 := _) (⟨0, c.num, by exact ⟨Nat.zero_le _, rfl, fun _ => rfl, fun h => absurd h (Nat.lt_irrefl _), Int.le_refl _⟩, rfl, rfl⟩) (ren [(1, 100)]) (mk_wk [(1, 100)] rfl rfl ⟨⟨_, rfl, (.ptr _ _ _ rfl (lookNe rfl))⟩, ⟨_, rfl, (.shr _ _)⟩, ⟨_, rfl, (.lit _)⟩, ⟨_, rfl, (.lit _)⟩, trivial⟩ ⟨⟨_, _, rfl, rfl, (subPL rfl)⟩, trivial⟩ (parOk hpar rfl)) (fun n_ E hR => ?_)
            obtain ⟨i, last, hI, rfl, rfl⟩ := hR
            obtain ⟨hI0, hI1, hI2, hI3, hI4⟩ := hI
            refine vw_seq ?_
            refine vw_region ?_
            refine s_lss rfl rfl rfl trivial (fun h88 => ?_) (fun h88 => ?_)
            ·refine u_end trivial ?_
             refine vw_seq ?_
             refine vw_condT rfl ?_
             refine vw_skip ?_
             refine vw_seq ?_
             refine vw_block ?_
             refine vw_seq ?_
             rw [intCells_length] at h88
             obtain ⟨n, hn⟩ : ∃ n, c.early[i]? = some n := ⟨_, List.getElem?_eq_getElem (by omega)⟩
             refine vw_region ?_
             refine u_move rfl rfl trivial ?_
             refine u_indexS rfl rfl rfl rfl rfl rfl (intCells_get hn) rfl trivial ?_
             refine u_loadS1 rfl rfl rfl rfl rfl trivial ?_
             refine u_assign rfl rfl trivial ?_
             refine u_assign rfl rfl trivial ?_
             refine u_end trivial ?_
             refine vw_seq ?_
             refine vw_region ?_
             refine u_move rfl rfl trivial ?_
             refine u_fieldAddr rfl rfl rfl rfl rfl rfl trivial ?_
             refine u_load1 rfl rfl rfl rfl rfl rfl trivial ?_
             refine s_leq rfl rfl rfl trivial (fun h95 => ?_) (fun h95 => ?_)
             ·refine u_move rfl rfl trivial ?_
              refine u_skip rfl rfl rfl rfl rfl ?_
              refine u_skip rfl rfl rfl rfl rfl ?_
              refine u_pickT rfl rfl rfl trivial ?_
              refine u_move rfl rfl trivial ?_
              refine u_skip rfl rfl rfl rfl rfl ?_
              refine u_skip rfl rfl rfl rfl rfl ?_
              refine u_skip rfl rfl rfl rfl rfl ?_
              refine u_skip rfl rfl rfl rfl rfl ?_
              refine u_skip rfl rfl rfl rfl rfl ?_
              refine u_skip rfl rfl rfl rfl rfl ?_
              refine u_skip rfl rfl rfl rfl rfl ?_
              refine u_skip rfl rfl rfl rfl rfl ?_
              refine u_skip rfl rfl rfl rfl rfl ?_
              refine u_skip rfl rfl rfl rfl rfl ?_
              refine u_skip rfl rfl rfl rfl rfl ?_
              refine u_skip rfl rfl rfl rfl rfl ?_
              refine u_pickT rfl rfl rfl trivial ?_
              refine u_end trivial ?_
              refine vw_condT rfl ?_
              refine vw_seq ?_
              refine vw_region ?_
              refine u_assign rfl rfl trivial ?_
              refine u_end trivial ?_
              refine vw_ret ?_
              refine fin' [] (.inr rfl) (.cons (.tmp rfl (nb rfl)) .nil) (mk_wk [] rfl rfl ⟨⟨_, rfl, (subI ?_)⟩, trivial⟩ trivial (parOk rfl rfl))
              all_goals (try rfl)
              all_goals
                (try simp only [intCells_length, byteCells_length] at *)
                unfold wrong; (repeat first | rw [if_pos (by omega)] | rw [if_neg (by omega)])
                rw [hI1, rising_snoc hn, if_neg (by simp only [Bool.and_eq_true, decide_eq_true_eq]; rintro ⟨h1, h2, _⟩; omega)]
             ·refine u_move rfl rfl trivial ?_
              refine u_move rfl rfl ⟨_, _, rfl, rfl, rfl, rfl⟩ ?_
              refine s_geq rfl rfl rfl ⟨_, _, rfl, rfl, rfl, rfl⟩ (fun h98 => ?_) (fun h98 => ?_)
              ·refine u_pickF rfl rfl rfl trivial ?_
               refine u_move rfl rfl trivial ?_
               refine u_skip rfl rfl rfl rfl rfl ?_
               refine u_skip rfl rfl rfl rfl rfl ?_
               refine u_skip rfl rfl rfl rfl rfl ?_
               refine u_skip rfl rfl rfl rfl rfl ?_
               refine u_skip rfl rfl rfl rfl rfl ?_
               refine u_skip rfl rfl rfl rfl rfl ?_
               refine u_skip rfl rfl rfl rfl rfl ?_
               refine u_skip rfl rfl rfl rfl rfl ?_
               refine u_skip rfl rfl rfl rfl rfl ?_
               refine u_skip rfl rfl rfl rfl rfl ?_
               refine u_skip rfl rfl rfl rfl rfl ?_
               refine u_skip rfl rfl rfl rfl rfl ?_
               refine u_pickT rfl rfl rfl trivial ?_
               refine u_end trivial ?_
               refine vw_condT rfl ?_
               refine vw_seq ?_
               refine vw_region ?_
               refine u_assign rfl rfl trivial ?_
               refine u_end trivial ?_
               refine vw_ret ?_
               refine fin' [] (.inr rfl) (.cons (.tmp rfl (nb rfl)) .nil) (mk_wk [] rfl rfl ⟨⟨_, rfl, (subI ?_)⟩, trivial⟩ trivial (parOk rfl rfl))
               all_goals (try rfl)
               all_goals
                 (try simp only [intCells_length, byteCells_length] at *)
                 unfold wrong; (repeat first | rw [if_pos (by omega)] | rw [if_neg (by omega)])
                 rw [hI1, rising_snoc hn, if_neg (by simp only [Bool.and_eq_true, decide_eq_true_eq]; rintro ⟨h1, h2, _⟩; omega)]
              ·refine u_pickF rfl rfl rfl trivial ?_
               refine u_move rfl rfl trivial ?_
               refine u_move rfl rfl ⟨_, _, rfl, rfl, rfl, rfl⟩ ?_
               refine s_gtr rfl rfl rfl ⟨_, _, rfl, rfl, rfl, rfl⟩ (fun h102 => ?_) (fun h102 => ?_)
               ·refine u_move rfl rfl ⟨_, _, rfl, rfl, rfl, rfl⟩ ?_
                refine u_move rfl rfl ⟨_, _, rfl, rfl, rfl, rfl⟩ ?_
                refine u_fieldAddr rfl rfl rfl rfl rfl rfl ⟨_, _, rfl, rfl, rfl, rfl⟩ ?_
                refine u_load1 rfl rfl rfl rfl rfl rfl ⟨_, _, rfl, rfl, rfl, rfl⟩ ?_
                refine u_move rfl rfl ⟨_, _, rfl, rfl, rfl, rfl⟩ ?_
                refine u_sub rfl rfl rfl (by unfold inI; omega) rfl ⟨_, _, rfl, rfl, rfl, rfl⟩ ?_
                refine u_indexS rfl rfl rfl rfl rfl (show (i : Int) - 1 = ((i - 1 : Nat) : Int) by omega) (intCells_get (hI3 (by omega))) rfl ⟨_, _, rfl, rfl, rfl, rfl⟩ ?_
                refine u_loadS1 rfl rfl rfl rfl rfl ⟨_, _, rfl, rfl, rfl, rfl⟩ ?_
                refine s_leq rfl rfl rfl ⟨_, _, rfl, rfl, rfl, rfl⟩ (fun h111 => ?_) (fun h111 => ?_)
                ·refine u_pickT rfl rfl rfl ⟨_, _, rfl, rfl, rfl, rfl⟩ ?_
                 refine u_pickF rfl rfl rfl trivial ?_
                 refine u_end trivial ?_
                 refine vw_condT rfl ?_
                 refine vw_seq ?_
                 refine vw_region ?_
                 refine u_assign rfl rfl trivial ?_
                 refine u_end trivial ?_
                 refine vw_ret ?_
                 refine fin' [] (.inr rfl) (.cons (.tmp rfl (nb rfl)) .nil) (mk_wk [] rfl rfl ⟨⟨_, rfl, (subI ?_)⟩, trivial⟩ trivial (parOk rfl rfl))
                 all_goals (try rfl)
                 all_goals
                   (try simp only [intCells_length, byteCells_length] at *)
                   unfold wrong; (repeat first | rw [if_pos (by omega)] | rw [if_neg (by omega)])
                   rw [hI1, rising_snoc hn, if_neg (by simp only [Bool.and_eq_true, decide_eq_true_eq]; rintro ⟨h1, h2, _⟩; omega)]
                ·refine u_pickT rfl rfl rfl ⟨_, _, rfl, rfl, rfl, rfl⟩ ?_
                 refine u_pickF rfl rfl rfl trivial ?_
                 refine u_end trivial ?_
                 refine vw_condF rfl ?_
                 refine vw_skip ?_
                 refine vw_region ?_
                 refine u_add rfl rfl rfl (by unfold inI; omega) rfl trivial ?_
                 refine u_move rfl rfl trivial ?_
                 refine u_end trivial ?_
                 refine ⟨_, _, ren [(1, 1)], ?_, ⟨i + 1, n, ?_, rfl, rfl⟩, mk_wk [(1, 1)] rfl rfl ⟨⟨_, rfl, (.ptr _ _ _ rfl (lookNe rfl))⟩, ⟨_, rfl, (.shr _ _)⟩, ⟨_, rfl, (.lit _)⟩, ⟨_, rfl, (.lit _)⟩, trivial⟩ ⟨⟨_, _, rfl, rfl, (subPL rfl)⟩, trivial⟩ (parOk hpar rfl)⟩
                 ·omega
                 ·(try simp only [intCells_length, byteCells_length] at *)
                  refine ⟨by omega, ?_, fun h => by omega, fun _ => by simpa using hn, by omega⟩
                  rw [hI1, rising_snoc hn, decide_eq_true (by omega), decide_eq_true (by omega)]; rfl
               ·refine u_move rfl rfl ⟨_, _, rfl, rfl, rfl, rfl⟩ ?_
                refine u_skip rfl rfl rfl rfl rfl ?_
                refine u_skip rfl rfl rfl rfl rfl ?_
                refine u_skip rfl rfl rfl rfl rfl ?_
                refine u_skip rfl rfl rfl rfl rfl ?_
                refine u_skip rfl rfl rfl rfl rfl ?_
                refine u_skip rfl rfl rfl rfl rfl ?_
                refine u_skip rfl rfl rfl rfl rfl ?_
                refine u_skip rfl rfl rfl rfl rfl ?_
                refine u_pickF rfl rfl rfl ⟨_, _, rfl, rfl, rfl, rfl⟩ ?_
                refine u_pickF rfl rfl rfl trivial ?_
                refine u_end trivial ?_
                refine vw_condF rfl ?_
                refine vw_skip ?_
                refine vw_region ?_
                refine u_add rfl rfl rfl (by unfold inI; omega) rfl trivial ?_
                refine u_move rfl rfl trivial ?_
                refine u_end trivial ?_
                refine ⟨_, _, ren [(1, 1)], ?_, ⟨i + 1, n, ?_, rfl, rfl⟩, mk_wk [(1, 1)] rfl rfl ⟨⟨_, rfl, (.ptr _ _ _ rfl (lookNe rfl))⟩, ⟨_, rfl, (.shr _ _)⟩, ⟨_, rfl, (.lit _)⟩, ⟨_, rfl, (.lit _)⟩, trivial⟩ ⟨⟨_, _, rfl, rfl, (subPL rfl)⟩, trivial⟩ (parOk hpar rfl)⟩
                ·omega
                ·(try simp only [intCells_length, byteCells_length] at *)
                 refine ⟨by omega, ?_, fun h => by omega, fun _ => by simpa using hn, by omega⟩
                 rw [hI1, rising_snoc hn, decide_eq_true (by omega), decide_eq_true (by omega)]; rfl
            ·refine u_end trivial ?_
             refine vw_seq ?_
             refine vw_condF rfl ?_
             refine vw_exit ?_
             refine iteP rfl ?_
             refine vw_seq ?_
             refine vw_region ?_
             refine u_assign rfl rfl trivial ?_
             refine u_end trivial ?_
             refine vw_ret ?_
             refine fin' [] (.inr rfl) (.cons (.tmp rfl (nb rfl)) .nil) (mk_wk [] rfl rfl ⟨⟨_, rfl, (subI ?_)⟩, trivial⟩ trivial (parOk rfl rfl))
             all_goals (try rfl)
             all_goals
               (try simp only [intCells_length, byteCells_length] at *)
               unfold wrong; (repeat first | rw [if_pos (by omega)] | rw [if_neg (by omega)])
               rw [hI1, List.drop_eq_nil_of_le (by omega)]; rfl
 ·refine u_move rfl rfl trivial ?_
  refine u_skip rfl rfl rfl rfl rfl ?_
  refine u_skip rfl rfl rfl rfl rfl ?_
  refine u_skip rfl rfl rfl rfl rfl ?_
  refine u_pickF rfl rfl rfl trivial ?_
  refine u_assign rfl rfl trivial ?_
  refine u_end trivial ?_
  refine vw_condF rfl ?_
  refine vw_seq ?_
  refine vw_region ?_
  refine u_fieldAddr rfl rfl rfl rfl rfl rfl trivial ?_
  refine u_load1 rfl rfl rfl rfl rfl rfl trivial ?_
  refine s_lss rfl rfl rfl trivial (fun h17 => ?_) (fun h17 => ?_)
  ·refine u_move rfl rfl trivial ?_
   refine u_skip rfl rfl rfl rfl rfl ?_
   refine u_skip rfl rfl rfl rfl rfl ?_
   refine u_skip rfl rfl rfl rfl rfl ?_
   refine u_pickT rfl rfl rfl trivial ?_
   refine u_assign rfl rfl trivial ?_
   refine u_end trivial ?_
   refine vw_condT rfl ?_
   refine vw_seq ?_
   refine vw_region ?_
   refine u_assign rfl rfl trivial ?_
   refine u_end trivial ?_
   refine vw_ret ?_
   refine fin' [] (.inr rfl) (.cons (.tmp rfl (nb rfl)) .nil) (mk_wk [] rfl rfl ⟨⟨_, rfl, (subI ?_)⟩, trivial⟩ trivial (parOk rfl rfl))
   all_goals (try rfl)
   all_goals
     (try simp only [intCells_length, byteCells_length] at *)
     unfold wrong; (repeat first | rw [if_pos (by omega)] | rw [if_neg (by omega)])
  ·refine u_move rfl rfl trivial ?_
   refine u_fieldAddr rfl rfl rfl rfl rfl rfl ⟨_, _, rfl, rfl, rfl, rfl⟩ ?_
   refine u_load1 rfl rfl rfl rfl rfl rfl ⟨_, _, rfl, rfl, rfl, rfl⟩ ?_
   refine s_gtr rfl rfl rfl ⟨_, _, rfl, rfl, rfl, rfl⟩ (fun h21 => ?_) (fun h21 => ?_)
   ·refine u_pickF rfl rfl rfl trivial ?_
    refine u_assign rfl rfl trivial ?_
    refine u_end trivial ?_
    refine vw_condT rfl ?_
    refine vw_seq ?_
    refine vw_region ?_
    refine u_assign rfl rfl trivial ?_
    refine u_end trivial ?_
    refine vw_ret ?_
    refine fin' [] (.inr rfl) (.cons (.tmp rfl (nb rfl)) .nil) (mk_wk [] rfl rfl ⟨⟨_, rfl, (subI ?_)⟩, trivial⟩ trivial (parOk rfl rfl))
    all_goals (try rfl)
    all_goals
      (try simp only [intCells_length, byteCells_length] at *)
      unfold wrong; (repeat first | rw [if_pos (by omega)] | rw [if_neg (by omega)])
   ·refine u_pickF rfl rfl rfl trivial ?_
    refine u_assign rfl rfl trivial ?_
    refine u_end trivial ?_
    refine vw_condF rfl ?_
    refine vw_seq ?_
    refine vw_region ?_
    refine u_fieldAddr rfl rfl rfl rfl rfl rfl trivial ?_
    refine u_load1 rfl rfl rfl rfl rfl rfl trivial ?_
    refine s_eql rfl rfl rfl trivial (fun h26 => ?_) (fun h26 => ?_)
    ·refine u_move rfl rfl trivial ?_
     refine u_fieldAddr rfl rfl rfl rfl rfl rfl ⟨_, _, rfl, rfl, rfl, rfl⟩ ?_
     refine u_load1 rfl rfl rfl rfl rfl rfl ⟨_, _, rfl, rfl, rfl, rfl⟩ ?_
     refine s_eql rfl rfl rfl ⟨_, _, rfl, rfl, rfl, rfl⟩ (fun h30 => ?_) (fun h30 => ?_)
     ·refine u_move rfl rfl ⟨_, _, rfl, rfl, rfl, rfl⟩ ?_
      refine u_skip rfl rfl rfl rfl rfl ?_
      refine u_skip rfl rfl rfl rfl rfl ?_
      refine u_skip rfl rfl rfl rfl rfl ?_
      refine u_pickT rfl rfl rfl ⟨_, _, rfl, rfl, rfl, rfl⟩ ?_
      refine u_move rfl rfl ⟨_, _, rfl, rfl, rfl, rfl⟩ ?_
      refine u_skip rfl rfl rfl rfl rfl ?_
      refine u_skip rfl rfl rfl rfl rfl ?_
      refine u_skip rfl rfl rfl rfl rfl ?_
      refine u_skip rfl rfl rfl rfl rfl ?_
      refine u_skip rfl rfl rfl rfl rfl ?_
      refine u_pickT rfl rfl rfl ⟨_, _, rfl, rfl, rfl, rfl⟩ ?_
      refine u_pickT rfl rfl rfl trivial ?_
      refine u_assign rfl rfl trivial ?_
      refine u_end trivial ?_
      refine vw_condT rfl ?_
      refine vw_seq ?_
      refine vw_region ?_
      refine u_assign rfl rfl trivial ?_
      refine u_end trivial ?_
      refine vw_ret ?_
      refine fin' [] (.inr rfl) (.cons (.tmp rfl (nb rfl)) .nil) (mk_wk [] rfl rfl ⟨⟨_, rfl, (subI ?_)⟩, trivial⟩ trivial (parOk rfl rfl))
      all_goals (try rfl)
      all_goals
        (try simp only [intCells_length, byteCells_length] at *)
        unfold wrong; (repeat first | rw [if_pos (by omega)] | rw [if_neg (by omega)])
     ·refine u_move rfl rfl ⟨_, _, rfl, rfl, rfl, rfl⟩ ?_
      refine u_fieldAddr rfl rfl rfl rfl rfl rfl ⟨_, _, rfl, rfl, rfl, rfl⟩ ?_
      refine u_load1 rfl rfl rfl rfl rfl rfl ⟨_, _, rfl, rfl, rfl, rfl⟩ ?_
      refine s_lss rfl rfl rfl ⟨_, _, rfl, rfl, rfl, rfl⟩ (fun h34 => ?_) (fun h34 => ?_)
      ·refine u_pickF rfl rfl rfl ⟨_, _, rfl, rfl, rfl, rfl⟩ ?_
       refine u_move rfl rfl ⟨_, _, rfl, rfl, rfl, rfl⟩ ?_
       refine u_skip rfl rfl rfl rfl rfl ?_
       refine u_skip rfl rfl rfl rfl rfl ?_
       refine u_skip rfl rfl rfl rfl rfl ?_
       refine u_skip rfl rfl rfl rfl rfl ?_
       refine u_skip rfl rfl rfl rfl rfl ?_
       refine u_pickT rfl rfl rfl ⟨_, _, rfl, rfl, rfl, rfl⟩ ?_
       refine u_pickT rfl rfl rfl trivial ?_
       refine u_assign rfl rfl trivial ?_
       refine u_end trivial ?_
       refine vw_condT rfl ?_
       refine vw_seq ?_
       refine vw_region ?_
       refine u_assign rfl rfl trivial ?_
       refine u_end trivial ?_
       refine vw_ret ?_
       refine fin' [] (.inr rfl) (.cons (.tmp rfl (nb rfl)) .nil) (mk_wk [] rfl rfl ⟨⟨_, rfl, (subI ?_)⟩, trivial⟩ trivial (parOk rfl rfl))
       all_goals (try rfl)
       all_goals
         (try simp only [intCells_length, byteCells_length] at *)
         unfold wrong; (repeat first | rw [if_pos (by omega)] | rw [if_neg (by omega)])
      ·refine u_pickF rfl rfl rfl ⟨_, _, rfl, rfl, rfl, rfl⟩ ?_
       refine u_move rfl rfl ⟨_, _, rfl, rfl, rfl, rfl⟩ ?_
       refine u_fieldAddr rfl rfl rfl rfl rfl rfl ⟨_, _, rfl, rfl, rfl, rfl⟩ ?_
       refine u_load1 rfl rfl rfl rfl rfl rfl ⟨_, _, rfl, rfl, rfl, rfl⟩ ?_
       refine u_fieldAddr rfl rfl rfl rfl rfl rfl ⟨_, _, rfl, rfl, rfl, rfl⟩ ?_
       refine u_load1 rfl rfl rfl rfl rfl rfl ⟨_, _, rfl, rfl, rfl, rfl⟩ ?_
       refine s_gtr rfl rfl rfl ⟨_, _, rfl, rfl, rfl, rfl⟩ (fun h41 => ?_) (fun h41 => ?_)
       ·refine u_pickF rfl rfl rfl ⟨_, _, rfl, rfl, rfl, rfl⟩ ?_
        refine u_pickT rfl rfl rfl trivial ?_
        refine u_assign rfl rfl trivial ?_
        refine u_end trivial ?_
        refine vw_condT rfl ?_
        refine vw_seq ?_
        refine vw_region ?_
        refine u_assign rfl rfl trivial ?_
        refine u_end trivial ?_
        refine vw_ret ?_
        refine fin' [] (.inr rfl) (.cons (.tmp rfl (nb rfl)) .nil) (mk_wk [] rfl rfl ⟨⟨_, rfl, (subI ?_)⟩, trivial⟩ trivial (parOk rfl rfl))
        all_goals (try rfl)
        all_goals
          (try simp only [intCells_length, byteCells_length] at *)
          unfold wrong; (repeat first | rw [if_pos (by omega)] | rw [if_neg (by omega)])
       ·refine u_pickF rfl rfl rfl ⟨_, _, rfl, rfl, rfl, rfl⟩ ?_
        refine u_pickT rfl rfl rfl trivial ?_
        refine u_assign rfl rfl trivial ?_
        refine u_end trivial ?_
        refine vw_condF rfl ?_
        refine vw_seq ?_
        refine vw_region ?_
        refine u_fieldAddr rfl rfl rfl rfl rfl rfl trivial ?_
        refine u_load1 rfl rfl rfl rfl rfl rfl trivial ?_
        refine s_eql rfl rfl rfl trivial (fun h47 => ?_) (fun h47 => ?_)
        ·refine u_move rfl rfl trivial ?_
         refine u_fieldAddr rfl rfl rfl rfl rfl rfl ⟨_, _, rfl, rfl, rfl, rfl⟩ ?_
         refine u_load1 rfl rfl rfl rfl rfl rfl ⟨_, _, rfl, rfl, rfl, rfl⟩ ?_
         refine u_len rfl rfl rfl ⟨_, _, rfl, rfl, rfl, rfl⟩ ?_
         refine s_gtr rfl rfl rfl ⟨_, _, rfl, rfl, rfl, rfl⟩ (fun h52 => ?_) (fun h52 => ?_)
         ·refine u_pickT rfl rfl rfl trivial ?_
          refine u_assign rfl rfl trivial ?_
          refine u_end trivial ?_
          refine vw_condT rfl ?_
          refine vw_seq ?_
          refine vw_region ?_
          refine u_assign rfl rfl trivial ?_
          refine u_end trivial ?_
          refine vw_ret ?_
          refine fin' [] (.inr rfl) (.cons (.tmp rfl (nb rfl)) .nil) (mk_wk [] rfl rfl ⟨⟨_, rfl, (subI ?_)⟩, trivial⟩ trivial (parOk rfl rfl))
          all_goals (try rfl)
          all_goals
            (try simp only [intCells_length, byteCells_length] at *)
            unfold wrong; (repeat first | rw [if_pos (by omega)] | rw [if_neg (by omega)])
         ·refine u_pickT rfl rfl rfl trivial ?_
          refine u_assign rfl rfl trivial ?_
          refine u_end trivial ?_
          refine vw_condF rfl ?_
          refine vw_seq ?_
          refine vw_region ?_
          refine u_fieldAddr rfl rfl rfl rfl rfl rfl trivial ?_
          refine u_load1 rfl rfl rfl rfl rfl rfl trivial ?_
          refine s_eql rfl rfl rfl trivial (fun h57 => ?_) (fun h57 => ?_)
          ·refine u_assign rfl rfl trivial ?_
           refine u_end trivial ?_
           refine vw_condT rfl ?_
           refine vw_seq ?_
           refine vw_region ?_
           refine u_fieldAddr rfl rfl rfl rfl rfl rfl trivial ?_
           refine u_load1 rfl rfl rfl rfl rfl rfl trivial ?_
           refine u_fieldAddr rfl rfl rfl rfl rfl rfl trivial ?_
           refine u_load1 rfl rfl rfl rfl rfl rfl trivial ?_
           refine u_build rfl rfl rfl rfl rfl trivial ?_
           refine u_call rfl (c78 (_, _)) (.cons ((subP rfl)) .nil) rfl trivial ?_
           refine u_assign rfl rfl trivial ?_
           refine u_end trivial ?_
           refine vw_ret ?_
           refine fin' [] (.inr rfl) (.cons (.tmp rfl (nb rfl)) .nil) (mk_wk [] rfl rfl ⟨⟨_, rfl, (subI ?_)⟩, trivial⟩ trivial (parOk rfl rfl))
           all_goals (try rfl)
           all_goals
             (try simp only [intCells_length, byteCells_length] at *)
             unfold wrong; (repeat first | rw [if_pos (by omega)] | rw [if_neg (by omega)])
          ·omega
        ·omega
    ·omega
end Go.Proofs.Ytaadloihphpdbaa
