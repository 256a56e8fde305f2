/- Names: the function walked. Printed by a small program (walk.py). -/
import Derived.Test.YtbhodpbbjcpefaaVcB
import Derived.Test.YtbhodpbbjcpefaaVcTab
set_option linter.unusedVariables false
set_option linter.unusedSimpArgs false
set_option maxRecDepth 4000
namespace Go.Proofs.Ytbhodpbbjcpefaa
open Go Go.Vc Go.RowKit
def nums (l : List Int) : List (List AV) := l.map fun n => [.lit (.int .i64 n)]
theorem nums_len (l : List Int) : (nums l).length = l.length := by simp [nums]
theorem nums_get {l : List Int} {i : Nat} {n : Int} (h : l[i]? = some n) : (nums l)[i]? = some [.lit (.int .i64 n)] := by simp [nums, h]
def errs : List Int := [0, 1, 2, 3, 4, 5, 6, 7, 8, 9]
def want : List Int := [3, 3, 6, 40, 6, 4, 3, 6, 1, 2, 1, 2, 3, 4, 5, 6, 160, 200]
theorem errs_get {i : Nat} (h : i < 10) : errs[i]? = some (i : Int) := by
  have : ∀ i : Fin 10, errs[i.1]? = some ((i.1 : Nat) : Int) := by decide
  exact this ⟨i, h⟩

theorem c3  : VFun G 3 [] [] (.lit (.bool true)) [] := by
 refine VFun.intro (fn := Try.f3) rfl rfl (by kernel_rfl) (nb rfl) fun Γ hpar => ?_
 refine vw_seq ?_
 refine vw_region ?_
 refine u_assign rfl rfl trivial ?_
 refine u_end trivial ?_
 refine vw_seq ?_
 refine vw_region ?_
 refine u_buildSlice 100 rfl rfl rfl rfl rfl rfl rfl rfl rfl rfl (notPar hpar rfl) rfl rfl trivial ?_
 refine u_assign rfl rfl trivial ?_
 refine u_end trivial ?_
 refine vw_seq ?_
 refine vw_seq ?_
 refine vw_region ?_
 refine u_move rfl rfl trivial ?_
 refine u_lenR rfl rfl rfl rfl trivial ?_
 refine u_move rfl rfl trivial ?_
 refine u_end trivial ?_
 refine vw_block ?_
 refine vw_loopR (fun n_ E => ∃ (i : Nat), ((i ≤ 10)) ∧ n_ = 10 - i ∧ E = ⟨[(8, .row 5), (9, .lit (.int .i64 10)), (10, .lit (.int .i64 i))], [(5, .row 22 1 (nums errs))], 36⟩) (n0 := _) (E0 := _) (⟨0, by omega, rfl, rfl⟩) (ren [(5, 100)]) (mk_wk [(5, 100)] rfl rfl ⟨⟨_, rfl, (.row _ _ rfl (lookNe rfl))⟩, ⟨_, rfl, (subI (by rfl))⟩, ⟨_, rfl, (subI (by rfl))⟩, trivial⟩ ⟨(.inl ⟨_, rfl, rowEq rfl (by rfl)⟩), trivial⟩ (parOk hpar rfl)) (fun n_ E hR => ?_)
 obtain ⟨i, hI, rfl, rfl⟩ := hR
 have hi := hI
 refine vw_seq ?_
 refine vw_region ?_
 refine s_lss rfl rfl rfl trivial (fun h11 => ?_) (fun h11 => ?_)
 ·refine u_end trivial ?_
  refine vw_seq ?_
  refine vw_condT rfl ?_
  refine vw_skip ?_
  refine vw_seq ?_
  refine vw_block ?_
  refine vw_seq ?_
  refine vw_region ?_
  refine u_move rfl rfl trivial ?_
  refine u_indexR rfl rfl rfl rfl rfl rfl rfl (show i < 10 by omega) rfl trivial ?_
  refine u_loadRow1 rfl rfl (nums_get (errs_get (by omega))) rfl rfl rfl rfl trivial ?_
  refine u_assign rfl rfl trivial ?_
  refine u_assign rfl rfl trivial ?_
  refine u_end trivial ?_
  refine vw_seq ?_
  refine vw_region ?_
  refine u_move rfl rfl trivial ?_
  refine u_move rfl rfl trivial ?_
  refine s_neq rfl rfl rfl trivial (fun h17 => ?_) (fun h17 => ?_)
  ·exact absurd rfl h17
  ·refine u_end trivial ?_
   refine vw_condF rfl ?_
   refine vw_skip ?_
   refine vw_region ?_
   refine u_add rfl rfl rfl (by unfold inI; omega) rfl trivial ?_
   refine u_move rfl rfl trivial ?_
   refine u_end trivial ?_
   refine ⟨_, _, ren [(5, 5)], ?_, ⟨i + 1, ?_, rfl, rfl⟩, mk_wk [(5, 5)] rfl rfl ⟨⟨_, rfl, (.row _ _ rfl (lookNe rfl))⟩, ⟨_, rfl, (.lit _)⟩, ⟨_, rfl, (.lit _)⟩, trivial⟩ ⟨(.inl ⟨_, rfl, rfl⟩), trivial⟩ (parOk hpar rfl)⟩
   ·omega
   ·omega
 ·refine u_end trivial ?_
  refine vw_seq ?_
  refine vw_condF rfl ?_
  refine vw_exit ?_
  refine iteP rfl ?_
  refine vw_seq ?_
  refine vw_region ?_
  refine u_buildSlice 121 rfl rfl rfl rfl rfl rfl rfl rfl rfl rfl (notPar hpar rfl) rfl rfl trivial ?_
  refine u_assign rfl rfl trivial ?_
  refine u_end trivial ?_
  refine vw_seq ?_
  refine vw_region ?_
  refine u_buildSlice 122 rfl rfl rfl rfl rfl rfl rfl rfl rfl rfl (notPar hpar rfl) rfl rfl trivial ?_
  refine u_assign rfl rfl trivial ?_
  refine u_end trivial ?_
  refine vw_seq ?_
  refine vw_seq ?_
  refine vw_region ?_
  refine u_move rfl rfl trivial ?_
  refine u_lenR rfl rfl rfl rfl trivial ?_
  refine u_move rfl rfl trivial ?_
  refine u_end trivial ?_
  refine vw_block ?_
  refine vw_loopR (fun n_ E => ∃ (i : Nat), ((i ≤ 18)) ∧ n_ = 18 - i ∧ E = ⟨[(4, .row 4), (5, .row 5), (22, .lit (.int .i64 18)), (23, .lit (.int .i64 i))], [(4, .row 3 1 (nums want)), (5, .row 3 1 (nums want))], 36⟩) (n0 := _) (E0 := _) (⟨0, by omega, rfl, rfl⟩) (ren [(4, 121), (5, 122)]) (mk_wk [(4, 121), (5, 122)] rfl rfl ⟨⟨_, rfl, (.row _ _ rfl (lookNe rfl))⟩, ⟨_, rfl, (.row _ _ rfl (lookNe rfl))⟩, ⟨_, rfl, (subI (by rfl))⟩, ⟨_, rfl, (subI (by rfl))⟩, trivial⟩ ⟨(.inl ⟨_, rfl, rowEq rfl (by rfl)⟩), (.inl ⟨_, rfl, rowEq rfl (by rfl)⟩), trivial⟩ (parOk hpar rfl)) (fun n_ E hR => ?_)
  obtain ⟨i, hI, rfl, rfl⟩ := hR
  have hi := hI
  refine vw_seq ?_
  refine vw_region ?_
  refine s_lss rfl rfl rfl trivial (fun h24 => ?_) (fun h24 => ?_)
  ·refine u_end trivial ?_
   refine vw_seq ?_
   refine vw_condT rfl ?_
   refine vw_skip ?_
   refine vw_seq ?_
   refine vw_block ?_
   refine vw_seq ?_
   refine vw_region ?_
   refine u_move rfl rfl trivial ?_
   refine u_assign rfl rfl trivial ?_
   refine u_end trivial ?_
   refine vw_seq ?_
   obtain ⟨e, he⟩ : ∃ e, want[i]? = some e := ⟨_, List.getElem?_eq_getElem (show i < 18 by omega)⟩
   refine vw_draw ?_
   refine u_move rfl rfl trivial ?_
   refine u_move rfl rfl trivial ?_
   refine u_indexR rfl rfl rfl rfl rfl rfl rfl (show i < 18 by omega) rfl trivial ?_
   refine u_loadRow1 rfl rfl (nums_get he) rfl rfl rfl rfl trivial ?_
   refine u_move rfl rfl trivial ?_
   refine u_move rfl rfl trivial ?_
   refine u_indexR rfl rfl rfl rfl rfl rfl rfl (show i < 18 by omega) rfl trivial ?_
   refine u_loadRow1 rfl rfl (nums_get he) rfl rfl rfl rfl trivial ?_
   refine s_neq rfl rfl rfl trivial (fun h34 => ?_) (fun h34 => ?_)
   ·exact absurd rfl h34
   ·refine u_end (by kernel_rfl) ?_
    refine vw_condF rfl ?_
    refine vw_skip ?_
    refine vw_region ?_
    refine u_add rfl rfl rfl (by unfold inI; omega) rfl trivial ?_
    refine u_move rfl rfl trivial ?_
    refine u_end trivial ?_
    refine ⟨_, _, ren [(4, 4), (5, 5)], ?_, ⟨i + 1, ?_, rfl, rfl⟩, mk_wk [(4, 4), (5, 5)] rfl rfl ⟨⟨_, rfl, (.row _ _ rfl (lookNe rfl))⟩, ⟨_, rfl, (.row _ _ rfl (lookNe rfl))⟩, ⟨_, rfl, (.lit _)⟩, ⟨_, rfl, (.lit _)⟩, trivial⟩ ⟨(.inl ⟨_, rfl, rfl⟩), (.inl ⟨_, rfl, rfl⟩), trivial⟩ (parOk hpar rfl)⟩
    ·omega
    ·omega
  ·refine u_end trivial ?_
   refine vw_seq ?_
   refine vw_condF rfl ?_
   refine vw_exit ?_
   refine iteP rfl ?_
   refine vw_seq ?_
   refine vw_region ?_
   refine u_assign rfl rfl trivial ?_
   refine u_end trivial ?_
   refine vw_ret ?_
   refine fin0 (.inr rfl) (.cons (.tmp rfl (nb rfl)) .nil) (subB ?_)
   ·rfl
end Go.Proofs.Ytbhodpbbjcpefaa
