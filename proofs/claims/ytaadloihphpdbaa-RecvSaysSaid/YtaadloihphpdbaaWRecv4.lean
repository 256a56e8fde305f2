/- Walks. Printed by a small program (walk.py). -/
import Derived.Test.YtaadloihphpdbaaWRecvH
set_option linter.unusedVariables false
set_option linter.unusedSimpArgs false
set_option maxRecDepth 4000
namespace Go.Proofs.Ytaadloihphpdbaa
open Go Go.Vc Go.RowKit

theorem c106 (cs : List Chunk) : VFun G 106 [.shr 6 (chunkCells cs)] [] (.tup [.agg (receiverAV (buildR cs)), .lit (.bool (cs.all rightC))]) [] := by
 refine VFun.intro (fn := Try.f106) rfl rfl (by kernel_rfl) (nb rfl) fun Γ hpar => ?_
 refine vw_seq ?_
 refine vw_len (t := 0) rfl fun hl => ?_
 rw [chunkCells_length] at hl
 refine vw_region ?_
 refine u_alloc 100 rfl rfl (notPar hpar rfl) rfl rfl trivial ?_
 refine u_assign rfl rfl trivial ?_
 refine u_end trivial ?_
 refine vw_seq ?_
 refine vw_region ?_
 refine u_alloc 101 rfl rfl (notPar hpar rfl) rfl rfl trivial ?_
 refine u_end trivial ?_
 refine vw_seq ?_
 refine vw_seq ?_
 refine vw_region ?_
 refine u_move rfl rfl trivial ?_
 refine u_len rfl rfl rfl trivial ?_
 refine u_move rfl rfl trivial ?_
 refine u_end trivial ?_
 refine vw_block ?_
 refine vw_loopR (fun n_ E => ∃ (i : Nat), ((i ≤ cs.length) ∧ ((cs.take i).all rightC = true)) ∧ n_ = cs.length - i ∧ E = ⟨[(2, .ptr 2 0), (4, .ptr 4 0), (7, .shr 6 (chunkCells cs)), (8, .lit (.int .i64 (chunkCells cs).length)), (9, .lit (.int .i64 i))], [(2, .box [.lit (.int .i64 0), .lit (.slice none 0 0), .lit (.int .i64 0), .lit (.int .i64 0), .lit (.int .i64 0), .lit (.slice none 0 0), .lit (.slice none 0 0), .lit (.bool false)]), (4, .box (receiverAV ((cs.take i).foldl rhear receiver0)))], 22⟩) (n0 := _) (E0 := _) (⟨0, by exact ⟨Nat.zero_le _, rfl⟩, rfl, rfl⟩) (ren [(2, 100), (4, 101)]) (mk_wk [(2, 100), (4, 101)] rfl rfl ⟨⟨_, rfl, (.ptr _ _ _ rfl (lookNe rfl))⟩, ⟨_, rfl, (.ptr _ _ _ rfl (lookNe rfl))⟩, ⟨_, rfl, (.shr _ _)⟩, ⟨_, rfl, (.lit _)⟩, ⟨_, rfl, (.lit _)⟩, trivial⟩ ⟨⟨_, _, rfl, rfl, (subPL rfl)⟩, ⟨_, _, rfl, rfl, (.cons ((.lit _)) (.cons (.nilshr _) (.cons ((.lit _)) (.cons ((.lit _)) (.cons ((.lit _)) (.cons (.nilshr _) (.cons (.nilshr _) (.cons ((.lit _)) .nil))))))))⟩, trivial⟩ (parOk hpar rfl)) (fun n_ E hR => ?_)
 obtain ⟨i, hI, rfl, rfl⟩ := hR
 obtain ⟨hI0, hI1⟩ := hI
 refine vw_seq ?_
 refine vw_region ?_
 refine s_lss rfl rfl rfl trivial (fun h10 => ?_) (fun h10 => ?_)
 ·refine u_end trivial ?_
  refine vw_seq ?_
  refine vw_condT rfl ?_
  refine vw_skip ?_
  refine vw_seq ?_
  refine vw_block ?_
  refine vw_seq ?_
  rw [chunkCells_length] at h10
  obtain ⟨x, hx⟩ : ∃ x, cs[i]? = some x := ⟨_, List.getElem?_eq_getElem (by omega)⟩
  refine vw_region ?_
  refine u_indexS rfl rfl rfl rfl rfl rfl (chunkCells_get' hx) rfl trivial ?_
  refine u_loadSAll rfl rfl rfl rfl rfl trivial ?_
  refine u_alloc 122 rfl rfl (notPar hpar rfl) rfl rfl trivial ?_
  refine u_storeAll rfl rfl rfl rfl rfl rfl rfl rfl trivial ?_
  refine u_end trivial ?_
  refine vw_seq ?_
  refine vw_seq ?_
  refine vw_region ?_
  refine u_loadAll rfl rfl rfl rfl rfl rfl trivial ?_
  refine u_call rfl (c77 x) (.cons ((subP rfl)) .nil) rfl trivial ?_
  refine s_neq rfl rfl rfl trivial (fun h15 => ?_) (fun h15 => ?_)
  ·refine u_end trivial ?_
   refine vw_condT rfl ?_
   refine vw_seq ?_
   refine vw_region ?_
   refine u_loadAll rfl rfl rfl rfl rfl rfl trivial ?_
   refine u_storeAll rfl rfl rfl rfl rfl rfl rfl rfl trivial ?_
   refine u_assign rfl rfl trivial ?_
   refine u_end trivial ?_
   refine vw_ret ?_
   obtain ⟨hb1, hb2⟩ := buildR_stop hI1 hx h15
   refine fin' [] (.inr rfl) (.cons (.cellN rfl rfl rfl rfl rfl) (.cons (.tmp rfl (nb rfl)) .nil)) (mk_wk [] rfl rfl ⟨⟨_, rfl, (.tup _ _ (.cons (.agg _ _ (.cons (subI ?_) (.cons (subS ?_) (.cons (subI ?_) (.cons (subI ?_) (.cons (subI ?_) (.cons (subS ?_) (.cons (subS ?_) (.cons (subB ?_) .nil))))))))) (.cons (subB ?_) .nil)))⟩, trivial⟩ trivial (parOk rfl rfl))
   all_goals (try rfl)
   all_goals
     first | rfl | (rw [hb1]; rfl) | (rw [hb1]; done) | exact hb2.symm | (rw [hb2])
  ·refine u_end trivial ?_
   refine vw_condF rfl ?_
   refine vw_skip ?_
   refine vw_region ?_
   refine u_loadAll rfl rfl rfl rfl rfl rfl trivial ?_
   refine u_loadAll rfl rfl rfl rfl rfl rfl trivial ?_
   refine u_call rfl (c112 ((cs.take i).foldl rhear receiver0) x (rinv_take hI1) (by omega)) (.cons ((subP rfl)) (.cons ((subP rfl)) .nil)) rfl trivial ?_
   refine u_storeAll rfl rfl rfl rfl rfl rfl rfl rfl trivial ?_
   refine u_end trivial ?_
   refine vw_region ?_
   refine u_add rfl rfl rfl (by unfold inI; omega) rfl trivial ?_
   refine u_move rfl rfl trivial ?_
   refine u_end trivial ?_
   refine ⟨_, _, ren [(2, 2), (4, 4)], ?_, ⟨i + 1, ?_, rfl, rfl⟩, mk_wk [(2, 2), (4, 4)] rfl rfl ⟨⟨_, rfl, (.ptr _ _ _ rfl (lookNe rfl))⟩, ⟨_, rfl, (.ptr _ _ _ rfl (lookNe rfl))⟩, ⟨_, rfl, (.shr _ _)⟩, ⟨_, rfl, (.lit _)⟩, ⟨_, rfl, (.lit _)⟩, trivial⟩ ⟨⟨_, _, rfl, rfl, (subPL rfl)⟩, ⟨_, _, rfl, rfl, (.cons (subI (by rw [← fold_snoc hx])) (.cons (subS (by rw [← fold_snoc hx])) (.cons (subI (by rw [← fold_snoc hx])) (.cons (subI (by rw [← fold_snoc hx])) (.cons (subI (by rw [← fold_snoc hx])) (.cons (subS (by rw [← fold_snoc hx])) (.cons (subS (by rw [← fold_snoc hx])) (.cons (subB (by rw [← fold_snoc hx])) .nil))))))))⟩, trivial⟩ (parOk hpar rfl)⟩
   ·omega
   ·exact ⟨by omega, all_snoc hI1 hx (by omega)⟩
 ·refine u_end trivial ?_
  refine vw_seq ?_
  refine vw_condF rfl ?_
  refine vw_exit ?_
  refine iteP rfl ?_
  refine vw_seq ?_
  rw [chunkCells_length] at h10
  obtain ⟨hb1, hb2⟩ := buildR_end hI1 (by omega)
  rw [hb1]
  refine vw_region ?_
  refine u_loadAll rfl rfl rfl rfl rfl rfl trivial ?_
  refine u_storeAll rfl rfl rfl rfl rfl rfl rfl rfl trivial ?_
  refine u_assign rfl rfl trivial ?_
  refine u_end trivial ?_
  refine vw_ret ?_
  refine fin' [] (.inr rfl) (.cons (.cellN rfl rfl rfl rfl rfl) (.cons (.tmp rfl (nb rfl)) .nil)) (mk_wk [] rfl rfl ⟨⟨_, rfl, (.tup _ _ (.cons (.agg _ _ (.cons (subI ?_) (.cons (subS ?_) (.cons (subI ?_) (.cons (subI ?_) (.cons (subI ?_) (.cons (subS ?_) (.cons (subS ?_) (.cons (subB ?_) .nil))))))))) (.cons (subB ?_) .nil)))⟩, trivial⟩ trivial (parOk rfl rfl))
  all_goals (try rfl)
  all_goals
    first | rfl | (rw [hb1]; rfl) | (rw [hb1]; done) | exact hb2.symm | (rw [hb2])
theorem c113  : VFun G 113 [] [] (.lit (.bool true)) [] := by
 refine VFun.intro (fn := Try.f113) rfl rfl (by kernel_rfl) (nb rfl) fun Γ hpar => ?_
 refine vw_seq ?_
 refine vw_region ?_
 refine u_assign rfl rfl trivial ?_
 refine u_end trivial ?_
 refine vw_seq ?_
 refine vw_region ?_
 refine u_buildSlice 100 rfl rfl rfl rfl rfl rfl rfl rfl rfl rfl (notPar hpar rfl) rfl rfl trivial ?_
 refine u_mark rfl rfl (notPar hpar rfl) rfl rfl rfl trivial ?_
 refine u_buildZ rfl rfl rfl (.same _ (.same _ (.same _ (.same _ (.same _ (.see 1 .nil)))))) rfl rfl trivial ?_
 refine u_alloc 101 rfl rfl (notPar hpar rfl) rfl rfl trivial ?_
 refine u_storeAll rfl rfl rfl rfl rfl rfl rfl rfl trivial ?_
 refine u_end trivial ?_
 refine vw_seq ?_
 refine vw_region ?_
 refine u_buildSlice 102 rfl rfl rfl rfl rfl rfl rfl rfl rfl rfl (notPar hpar rfl) rfl rfl trivial ?_
 refine u_mark rfl rfl (notPar hpar rfl) rfl rfl rfl trivial ?_
 refine u_buildZ rfl rfl rfl (.same _ (.same _ (.same _ (.same _ (.same _ (.see 1 .nil)))))) rfl rfl trivial ?_
 refine u_alloc 103 rfl rfl (notPar hpar rfl) rfl rfl trivial ?_
 refine u_storeAll rfl rfl rfl rfl rfl rfl rfl rfl trivial ?_
 refine u_end trivial ?_
 refine vw_seq ?_
 refine vw_region ?_
 refine u_buildZ rfl rfl rfl (.same _ (.see 1 (.same _ (.same _ (.same _ (.see 6 (.see 2 (.same _ .nil)))))))) rfl rfl trivial ?_
 refine u_loadAll rfl rfl rfl rfl rfl rfl trivial ?_
 refine u_call rfl (c111 receiver0 ⟨1, 1, 1, 1, [98], []⟩ rinv0 (by decide)) (.cons ((subP rfl)) (.cons ((subP rfl)) .nil)) rfl trivial ?_
 refine u_alloc 104 rfl rfl (notPar hpar rfl) rfl rfl trivial ?_
 refine u_storeAll rfl rfl rfl rfl rfl rfl rfl rfl trivial ?_
 refine u_end trivial ?_
 refine vw_seq ?_
 refine vw_region ?_
 refine u_loadAll rfl rfl rfl rfl rfl rfl trivial ?_
 refine u_loadAll rfl rfl rfl rfl rfl rfl trivial ?_
 refine u_call rfl (c111 (rhear receiver0 ⟨1, 1, 1, 1, [98], []⟩) ⟨1, 0, 1, 0, [97], []⟩ (rinv_hear rinv0 (by decide)) (by decide)) (.cons ((subP rfl)) (.cons ((subP rfl)) .nil)) rfl trivial ?_
 refine u_alloc 105 rfl rfl (notPar hpar rfl) rfl rfl trivial ?_
 refine u_storeAll rfl rfl rfl rfl rfl rfl rfl rfl trivial ?_
 refine u_end trivial ?_
 refine vw_seq ?_
 refine vw_region ?_
 refine u_loadAll rfl rfl rfl rfl rfl rfl trivial ?_
 refine u_call rfl (c107 (rhear (rhear receiver0 ⟨1, 1, 1, 1, [98], []⟩) ⟨1, 0, 1, 0, [97], []⟩) (rinv_hear (rinv_hear rinv0 (by decide)) (by decide))) (.cons ((subP rfl)) .nil) rfl trivial ?_
 refine u_move rfl rfl trivial ?_
 refine u_extract rfl rfl rfl trivial ?_
 refine u_extract rfl rfl rfl trivial ?_
 refine u_extract rfl rfl rfl trivial ?_
 refine u_alloc 106 rfl rfl (notPar hpar rfl) rfl rfl trivial ?_
 refine u_alloc 107 rfl rfl (notPar hpar rfl) rfl rfl trivial ?_
 refine u_storeAll rfl rfl rfl rfl rfl rfl rfl rfl trivial ?_
 refine u_storeAll rfl rfl rfl rfl rfl rfl rfl rfl trivial ?_
 refine u_assign rfl rfl trivial ?_
 refine u_end trivial ?_
 refine vw_seq ?_
 refine vw_region ?_
 refine u_fieldAddr rfl rfl rfl rfl rfl rfl trivial ?_
 refine u_load1 rfl rfl rfl rfl rfl rfl trivial ?_
 refine u_len rfl rfl rfl trivial ?_
 refine s_eql rfl rfl rfl trivial (fun h29 => ?_) (fun h29 => ?_)
 ·refine u_move rfl rfl trivial ?_
  refine u_fieldAddr rfl rfl rfl rfl rfl rfl ⟨_, _, rfl, rfl, rfl, rfl⟩ ?_
  refine u_load1 rfl rfl rfl rfl rfl rfl ⟨_, _, rfl, rfl, rfl, rfl⟩ ?_
  refine u_len rfl rfl rfl ⟨_, _, rfl, rfl, rfl, rfl⟩ ?_
  refine s_eql rfl rfl rfl ⟨_, _, rfl, rfl, rfl, rfl⟩ (fun h34 => ?_) (fun h34 => ?_)
  ·refine u_pickT rfl rfl rfl trivial ?_
   refine u_move rfl rfl trivial ?_
   refine u_fieldAddr rfl rfl rfl rfl rfl rfl ⟨_, _, rfl, rfl, rfl, rfl⟩ ?_
   refine u_load1 rfl rfl rfl rfl rfl rfl ⟨_, _, rfl, rfl, rfl, rfl⟩ ?_
   refine u_len rfl rfl rfl ⟨_, _, rfl, rfl, rfl, rfl⟩ ?_
   refine s_eql rfl rfl rfl ⟨_, _, rfl, rfl, rfl, rfl⟩ (fun h40 => ?_) (fun h40 => ?_)
   ·refine u_pickT rfl rfl rfl trivial ?_
    refine u_move rfl rfl trivial ?_
    refine u_fieldAddr rfl rfl rfl rfl rfl rfl ⟨_, _, rfl, rfl, rfl, rfl⟩ ?_
    refine u_load1 rfl rfl rfl rfl rfl rfl ⟨_, _, rfl, rfl, rfl, rfl⟩ ?_
    refine s_eql rfl rfl rfl ⟨_, _, rfl, rfl, rfl, rfl⟩ (fun h45 => ?_) (fun h45 => ?_)
    ·refine u_pickT rfl rfl rfl trivial ?_
     refine u_move rfl rfl trivial ?_
     refine s_move rfl rfl ⟨_, _, rfl, rfl, rfl, rfl⟩ (fun h48 => ?_) (fun h48 => ?_)
     ·refine u_pickT rfl rfl rfl trivial ?_
      refine u_move rfl rfl trivial ?_
      refine u_fieldAddr rfl rfl rfl rfl rfl rfl ⟨_, _, rfl, rfl, rfl, rfl⟩ ?_
      refine u_load1 rfl rfl rfl rfl rfl rfl ⟨_, _, rfl, rfl, rfl, rfl⟩ ?_
      refine s_eql rfl rfl rfl ⟨_, _, rfl, rfl, rfl, rfl⟩ (fun h53 => ?_) (fun h53 => ?_)
      ·refine u_pickT rfl rfl rfl trivial ?_
       refine u_move rfl rfl trivial ?_
       refine u_fieldAddr rfl rfl rfl rfl rfl rfl ⟨_, _, rfl, rfl, rfl, rfl⟩ ?_
       refine u_load1 rfl rfl rfl rfl rfl rfl ⟨_, _, rfl, rfl, rfl, rfl⟩ ?_
       refine u_not rfl rfl ⟨_, _, rfl, rfl, rfl, rfl⟩ ?_
       refine u_pickT rfl rfl rfl trivial ?_
       refine s_move rfl rfl trivial (fun h60 => ?_) (fun h60 => ?_)
       ·refine u_loadAll rfl rfl rfl rfl rfl rfl ⟨_, _, rfl, rfl, rfl, rfl⟩ ?_
        refine u_callO [] [] [] rfl rfl (c110 (rhear (rhear receiver0 ⟨1, 1, 1, 1, [98], []⟩) ⟨1, 0, 1, 0, [97], []⟩) (rinv_hear (rinv_hear rinv0 (by decide)) (by decide))) inc_nil trivial (.cons ((subP rfl)) .nil) rfl rfl (newPar hpar rfl) rfl ⟨_, _, rfl, rfl, rfl, rfl⟩ ?_
        refine u_field1 rfl rfl rfl rfl rfl rfl rfl ⟨_, _, rfl, rfl, rfl, rfl⟩ ?_
        refine u_lenR rfl rfl rfl rfl ⟨_, _, rfl, rfl, rfl, rfl⟩ ?_
        refine u_eql rfl rfl rfl ⟨_, _, rfl, rfl, rfl, rfl⟩ ?_
        refine u_pickT rfl rfl rfl trivial ?_
        refine u_assign rfl rfl trivial ?_
        refine u_end trivial ?_
        refine vw_ret ?_
        refine fin0 (.inr rfl) (.cons (.tmp rfl (nb rfl)) .nil) (subB ?_)
        ·decide
       ·exact absurd h60 (by decide)
      ·exact absurd (by decide) h53
     ·exact absurd h48 (by decide)
    ·exact absurd (by decide) h45
   ·exact absurd (by decide) h40
  ·exact absurd (by decide) h34
 ·exact absurd (by decide) h29
theorem c27 (cs : List Chunk) (c : Chunk) : VFun G 27 [.shr 6 (chunkCells cs), .agg (chunkAV c)] [] (.lit (.bool true)) [] := by
 refine VFun.intro (fn := Try.f27) rfl rfl (by kernel_rfl) (nb rfl) fun Γ hpar => ?_
 refine vw_seq ?_
 refine vw_region ?_
 refine u_box 100 rfl rfl rfl (notPar hpar rfl) rfl rfl trivial ?_
 refine u_assign rfl rfl trivial ?_
 refine u_end trivial ?_
 refine vw_seq ?_
 refine vw_region ?_
 refine u_move rfl rfl trivial ?_
 refine u_call rfl (c106 cs) (.cons ((.shr _ _)) .nil) rfl trivial ?_
 refine u_move rfl rfl trivial ?_
 refine u_extract rfl rfl rfl trivial ?_
 refine u_extract rfl rfl rfl trivial ?_
 refine u_alloc 101 rfl rfl (notPar hpar rfl) rfl rfl trivial ?_
 refine u_storeAll rfl rfl rfl rfl rfl rfl rfl rfl trivial ?_
 refine u_assign rfl rfl trivial ?_
 refine u_end trivial ?_
 refine vw_seq ?_
 refine vw_seq ?_
 refine vw_region ?_
 refine s_move rfl rfl trivial (fun h17 => ?_) (fun h17 => ?_)
 ·refine u_not rfl rfl trivial ?_
  refine u_end trivial ?_
  refine vw_condF rfl ?_
  refine vw_skip ?_
  refine vw_seq ?_
  refine vw_region ?_
  refine u_loadAll rfl rfl rfl rfl rfl rfl trivial ?_
  refine u_call rfl (c107 (buildR cs) (rinv_buildR cs)) (.cons ((subP rfl)) .nil) rfl trivial ?_
  refine u_move rfl rfl trivial ?_
  refine u_extract rfl rfl rfl trivial ?_
  refine u_extract rfl rfl rfl trivial ?_
  refine u_extract rfl rfl rfl trivial ?_
  refine u_alloc 102 rfl rfl (notPar hpar rfl) rfl rfl trivial ?_
  refine u_alloc 103 rfl rfl (notPar hpar rfl) rfl rfl trivial ?_
  refine u_storeAll rfl rfl rfl rfl rfl rfl rfl rfl trivial ?_
  refine u_storeAll rfl rfl rfl rfl rfl rfl rfl rfl trivial ?_
  refine u_assign rfl rfl trivial ?_
  refine u_end trivial ?_
  refine vw_seq ?_
  refine vw_region ?_
  refine u_loadAll rfl rfl rfl rfl rfl rfl trivial ?_
  refine u_call rfl (c108 (buildR cs)) (.cons ((subP rfl)) .nil) rfl trivial ?_
  refine u_move rfl rfl trivial ?_
  refine u_extract rfl rfl rfl trivial ?_
  refine u_extract rfl rfl rfl trivial ?_
  refine u_extract rfl rfl rfl trivial ?_
  refine u_alloc 104 rfl rfl (notPar hpar rfl) rfl rfl trivial ?_
  refine u_alloc 105 rfl rfl (notPar hpar rfl) rfl rfl trivial ?_
  refine u_storeAll rfl rfl rfl rfl rfl rfl rfl rfl trivial ?_
  refine u_storeAll rfl rfl rfl rfl rfl rfl rfl rfl trivial ?_
  refine u_assign rfl rfl trivial ?_
  refine u_end trivial ?_
  refine vw_seq ?_
  refine vw_seq ?_
  refine vw_draw ?_
  refine u_move rfl rfl trivial ?_
  refine u_move rfl rfl trivial ?_
  refine s_neqB rfl rfl rfl rfl trivial (fun h33 => ?_) (fun h33 => ?_)
  ·exact absurd rfl h33
  ·refine u_move rfl rfl trivial ?_
   refine u_loadAll rfl rfl rfl rfl rfl rfl ⟨_, _, rfl, rfl, rfl, rfl⟩ ?_
   refine u_loadAll rfl rfl rfl rfl rfl rfl ⟨_, _, rfl, rfl, rfl, rfl⟩ ?_
   refine s_call [] rfl (c79 (rsay (buildR cs)).2.1 (rsay (buildR cs)).2.1) (.cons ((subP rfl)) (.cons ((subP rfl)) .nil)) (fun k o h => by simp [Go.Vc.look] at h) rfl ⟨_, _, rfl, rfl, rfl, rfl⟩ (fun h37 => ?_) (fun h37 => ?_)
   ·refine u_not rfl rfl ⟨_, _, rfl, rfl, rfl, rfl⟩ ?_
    refine u_pickF rfl rfl rfl trivial ?_
    refine u_move rfl rfl trivial ?_
    refine u_loadAll rfl rfl rfl rfl rfl rfl ⟨_, _, rfl, rfl, rfl, rfl⟩ ?_
    refine u_loadAll rfl rfl rfl rfl rfl rfl ⟨_, _, rfl, rfl, rfl, rfl⟩ ?_
    refine s_call [] rfl (c109 (rsay (buildR cs)).1 (rsay (buildR cs)).1) (.cons ((subP rfl)) (.cons ((subP rfl)) .nil)) (fun k o h => by simp [Go.Vc.look] at h) rfl ⟨_, _, rfl, rfl, rfl, rfl⟩ (fun h43 => ?_) (fun h43 => ?_)
    ·refine u_not rfl rfl ⟨_, _, rfl, rfl, rfl, rfl⟩ ?_
     refine u_pickF rfl rfl rfl trivial ?_
     refine u_move rfl rfl trivial ?_
     refine u_loadAll rfl rfl rfl rfl rfl rfl ⟨_, _, rfl, rfl, rfl, rfl⟩ ?_
     refine u_callO [] [] [] rfl rfl (c110 (buildR cs) (rinv_buildR cs)) inc_nil trivial (.cons ((subP rfl)) .nil) rfl rfl (newPar hpar rfl) rfl ⟨_, _, rfl, rfl, rfl, rfl⟩ ?_
     refine u_loadAll rfl rfl rfl rfl rfl rfl ⟨_, _, rfl, rfl, rfl, rfl⟩ ?_
     refine s_call [(901, _), (902, _), (903, _)] rfl (c109 (buildR cs) (buildR cs)) (.cons ((.agg _ _ (.cons ((.lit _)) (.cons (.frz _ _ _ _ rfl (lookNe rfl)) (.cons ((.lit _)) (.cons ((.lit _)) (.cons ((.lit _)) (.cons (.frz _ _ _ _ rfl (lookNe rfl)) (.cons (.frz _ _ _ _ rfl (lookNe rfl)) (.cons ((.lit _)) .nil)))))))))) (.cons ((subP rfl)) .nil)) (sub3 rfl rfl rfl) rfl ⟨_, _, rfl, rfl, rfl, rfl⟩ (fun h50 => ?_) (fun h50 => ?_)
     ·refine u_not rfl rfl ⟨_, _, rfl, rfl, rfl, rfl⟩ ?_
      refine u_pickF rfl rfl rfl trivial ?_
      refine u_end (by kernel_rfl) ?_
      refine vw_condF rfl ?_
      refine vw_skip ?_
      refine vw_seq ?_
      refine vw_draw ?_
      refine u_loadAll rfl rfl rfl rfl rfl rfl trivial ?_
      refine u_call rfl (c77 c) (.cons ((subP rfl)) .nil) rfl trivial ?_
      refine s_neq rfl rfl rfl trivial (fun h55 => ?_) (fun h55 => ?_)
      ·refine u_move rfl rfl trivial ?_
       refine u_skip rfl rfl rfl rfl rfl ?_
       refine u_skip rfl rfl rfl rfl rfl ?_
       refine u_skip rfl rfl rfl rfl rfl ?_
       refine u_skip rfl rfl rfl rfl rfl ?_
       refine u_skip rfl rfl rfl rfl rfl ?_
       refine u_skip rfl rfl rfl rfl rfl ?_
       refine u_skip rfl rfl rfl rfl rfl ?_
       refine u_pickT rfl rfl rfl trivial ?_
       refine u_assign rfl rfl trivial ?_
       refine u_end (by kernel_rfl) ?_
       refine vw_ret ?_
       refine fin0 (.inr rfl) (.cons (.tmp rfl (nb rfl)) .nil) (subB ?_)
       ·first | rfl | simp
      ·refine u_move rfl rfl trivial ?_
       refine u_loadAll rfl rfl rfl rfl rfl rfl ⟨_, _, rfl, rfl, rfl, rfl⟩ ?_
       refine u_loadAll rfl rfl rfl rfl rfl rfl ⟨_, _, rfl, rfl, rfl, rfl⟩ ?_
       refine u_call rfl (c111 (buildR cs) c (rinv_buildR cs) (by omega)) (.cons ((subP rfl)) (.cons ((subP rfl)) .nil)) rfl ⟨_, _, rfl, rfl, rfl, rfl⟩ ?_
       refine u_loadAll rfl rfl rfl rfl rfl rfl ⟨_, _, rfl, rfl, rfl, rfl⟩ ?_
       refine u_loadAll rfl rfl rfl rfl rfl rfl ⟨_, _, rfl, rfl, rfl, rfl⟩ ?_
       refine u_call rfl (c112 (buildR cs) c (rinv_buildR cs) (by omega)) (.cons ((subP rfl)) (.cons ((subP rfl)) .nil)) rfl ⟨_, _, rfl, rfl, rfl, rfl⟩ ?_
       refine u_call rfl (c109 (rhear (buildR cs) c) (rhear (buildR cs) c)) (.cons ((subP rfl)) (.cons ((subP rfl)) .nil)) rfl ⟨_, _, rfl, rfl, rfl, rfl⟩ ?_
       refine u_pickF rfl rfl rfl trivial ?_
       refine u_assign rfl rfl trivial ?_
       refine u_end (by kernel_rfl) ?_
       refine vw_ret ?_
       refine fin0 (.inr rfl) (.cons (.tmp rfl (nb rfl)) .nil) (subB ?_)
       ·first | rfl | simp
     ·exact (same_no h50).elim
    ·exact (same_no h43).elim
   ·exact (same_no h37).elim
 ·refine u_not rfl rfl trivial ?_
  refine u_end trivial ?_
  refine vw_condT rfl ?_
  refine vw_seq ?_
  refine vw_region ?_
  refine u_assign rfl rfl trivial ?_
  refine u_end trivial ?_
  refine vw_ret ?_
  refine fin0 (.inr rfl) (.cons (.tmp rfl (nb rfl)) .nil) (subB ?_)
  ·first | rfl | simp
theorem c29 (cs : List Chunk) (c : Chunk) : VFun G 29 [.shr 6 (chunkCells cs), .agg (chunkAV c)] [] (.lit (.bool true)) [] := by
 refine VFun.intro (fn := Try.f29) rfl rfl (by kernel_rfl) (nb rfl) fun Γ hpar => ?_
 refine vw_seq ?_
 refine vw_region ?_
 refine u_box 100 rfl rfl rfl (notPar hpar rfl) rfl rfl trivial ?_
 refine u_assign rfl rfl trivial ?_
 refine u_end trivial ?_
 refine vw_seq ?_
 refine vw_seq ?_
 refine vw_region ?_
 refine u_call rfl (c113) .nil rfl trivial ?_
 refine u_not rfl rfl trivial ?_
 refine u_end trivial ?_
 refine vw_condF rfl ?_
 refine vw_skip ?_
 refine vw_seq ?_
 refine vw_region ?_
 refine u_move rfl rfl trivial ?_
 refine u_call rfl (c106 cs) (.cons ((.shr _ _)) .nil) rfl trivial ?_
 refine u_move rfl rfl trivial ?_
 refine u_extract rfl rfl rfl trivial ?_
 refine u_extract rfl rfl rfl trivial ?_
 refine u_alloc 101 rfl rfl (notPar hpar rfl) rfl rfl trivial ?_
 refine u_storeAll rfl rfl rfl rfl rfl rfl rfl rfl trivial ?_
 refine u_assign rfl rfl trivial ?_
 refine u_end trivial ?_
 refine vw_seq ?_
 refine vw_seq ?_
 refine vw_region ?_
 refine s_move rfl rfl trivial (fun h15 => ?_) (fun h15 => ?_)
 ·refine u_not rfl rfl trivial ?_
  refine u_move rfl rfl trivial ?_
  refine u_loadAll rfl rfl rfl rfl rfl rfl ⟨_, _, rfl, rfl, rfl, rfl⟩ ?_
  refine u_call rfl (c77 c) (.cons ((subP rfl)) .nil) rfl ⟨_, _, rfl, rfl, rfl, rfl⟩ ?_
  refine s_neq rfl rfl rfl ⟨_, _, rfl, rfl, rfl, rfl⟩ (fun h20 => ?_) (fun h20 => ?_)
  ·refine u_pickF rfl rfl rfl trivial ?_
   refine u_end trivial ?_
   refine vw_condT rfl ?_
   refine vw_seq ?_
   refine vw_region ?_
   refine u_assign rfl rfl trivial ?_
   refine u_end trivial ?_
   refine vw_ret ?_
   refine fin0 (.inr rfl) (.cons (.tmp rfl (nb rfl)) .nil) (subB ?_)
   ·first | rfl | (rw [rhear_twice (rinv_buildR cs) (by omega)]; simp)
  ·refine u_pickF rfl rfl rfl trivial ?_
   refine u_end trivial ?_
   refine vw_condF rfl ?_
   refine vw_skip ?_
   refine vw_seq ?_
   refine vw_region ?_
   refine u_loadAll rfl rfl rfl rfl rfl rfl trivial ?_
   refine u_loadAll rfl rfl rfl rfl rfl rfl trivial ?_
   refine u_call rfl (c111 (buildR cs) c (rinv_buildR cs) (by omega)) (.cons ((subP rfl)) (.cons ((subP rfl)) .nil)) rfl trivial ?_
   refine u_alloc 102 rfl rfl (notPar hpar rfl) rfl rfl trivial ?_
   refine u_storeAll rfl rfl rfl rfl rfl rfl rfl rfl trivial ?_
   refine u_end trivial ?_
   refine vw_seq ?_
   refine vw_draw ?_
   refine u_loadAll rfl rfl rfl rfl rfl rfl trivial ?_
   refine u_loadAll rfl rfl rfl rfl rfl rfl trivial ?_
   refine u_call rfl (c111 (rhear (buildR cs) c) c (rinv_hear (rinv_buildR cs) (by omega)) (by omega)) (.cons ((subP rfl)) (.cons ((subP rfl)) .nil)) rfl trivial ?_
   refine u_loadAll rfl rfl rfl rfl rfl rfl trivial ?_
   refine u_call rfl (c109 (rhear (rhear (buildR cs) c) c) (rhear (buildR cs) c)) (.cons ((subP rfl)) (.cons ((subP rfl)) .nil)) rfl trivial ?_
   refine u_assign rfl rfl trivial ?_
   refine u_end (by kernel_rfl) ?_
   refine vw_ret ?_
   refine fin0 (.inr rfl) (.cons (.tmp rfl (nb rfl)) .nil) (subB ?_)
   ·first | rfl | (rw [rhear_twice (rinv_buildR cs) (by omega)]; simp)
 ·refine u_not rfl rfl trivial ?_
  refine u_move rfl rfl trivial ?_
  refine u_skip rfl rfl rfl rfl rfl ?_
  refine u_skip rfl rfl rfl rfl rfl ?_
  refine u_skip rfl rfl rfl rfl rfl ?_
  refine u_pickT rfl rfl rfl trivial ?_
  refine u_end trivial ?_
  refine vw_condT rfl ?_
  refine vw_seq ?_
  refine vw_region ?_
  refine u_assign rfl rfl trivial ?_
  refine u_end trivial ?_
  refine vw_ret ?_
  refine fin0 (.inr rfl) (.cons (.tmp rfl (nb rfl)) .nil) (subB ?_)
  ·first | rfl | (rw [rhear_twice (rinv_buildR cs) (by omega)]; simp)
theorem c30 (ms : List Msg) (xs : List Int) : VFun G 30 [.shr 2 (msgCells ms), .shr 1 (intCells xs)] [] (.lit (.bool true)) [] := by
 refine VFun.intro (fn := Try.f30) rfl rfl (by kernel_rfl) (nb rfl) fun Γ hpar => ?_
 refine vw_seq ?_
 refine vw_len (t := 1) rfl fun hlx => ?_
 rw [intCells_length] at hlx
 refine vw_region ?_
 refine u_assign rfl rfl trivial ?_
 refine u_end trivial ?_
 refine vw_seq ?_
 refine vw_seq ?_
 refine vw_region ?_
 refine u_call rfl (c113) .nil rfl trivial ?_
 refine u_not rfl rfl trivial ?_
 refine u_end trivial ?_
 refine vw_condF rfl ?_
 refine vw_skip ?_
 refine vw_seq ?_
 refine vw_seq ?_
 refine vw_region ?_
 refine u_move rfl rfl trivial ?_
 refine u_len rfl rfl rfl trivial ?_
 refine s_gtr rfl rfl rfl trivial (fun h23 => ?_) (fun h23 => ?_)
 ·refine u_end trivial ?_
  refine vw_condT rfl ?_
  refine vw_seq ?_
  refine vw_region ?_
  refine u_assign rfl rfl trivial ?_
  refine u_end trivial ?_
  refine vw_ret ?_
  refine fin0 (.inr rfl) (.cons (.tmp rfl (nb rfl)) .nil) (subB ?_)
  ·first | rfl | (simp only [msgCells_length, chunkCells_length, intCells_length]; rw [hga.2.2.1, hga.2.2.2]; rfl)
 ·refine u_end trivial ?_
  refine vw_condF rfl ?_
  refine vw_skip ?_
  refine vw_seq ?_
  simp only [msgCells_length] at h23
  have h4 : ms.length ≤ 4 := by omega
  refine vw_region ?_
  refine u_alloc 100 rfl rfl (notPar hpar rfl) rfl rfl trivial ?_
  refine u_end trivial ?_
  refine vw_seq ?_
  refine vw_region ?_
  refine u_assign rfl rfl trivial ?_
  refine u_end trivial ?_
  refine vw_seq ?_
  refine vw_seq ?_
  refine vw_region ?_
  refine u_move rfl rfl trivial ?_
  refine u_len rfl rfl rfl trivial ?_
  refine u_move rfl rfl trivial ?_
  refine u_end trivial ?_
  refine vw_block ?_
  refine vw_loopR (fun n_ E => ∃ (i : Nat) (s : Sender), ((i ≤ ms.length) ∧ (Sent ms i s)) ∧ n_ = ms.length - i ∧ E = ⟨[(0, .shr 2 (msgCells ms)), (1, .shr 1 (intCells xs)), (5, .ptr 5 0), (6, .row 6), (24, .shr 2 (msgCells ms)), (25, .lit (.int .i64 (msgCells ms).length)), (26, .lit (.int .i64 i))], [(5, .box (senderAV s)), (6, .row 77 6 (chunkCells (csOf ms i)))], 115⟩) (n0 := _) (E0 := _) (⟨0, sender0, by exact ⟨Nat.zero_le _, sent0 ms⟩, rfl, rfl⟩) (ren [(5, 100)]) (mk_wk [(5, 100)] rfl rfl ⟨⟨_, rfl, (.shr _ _)⟩, ⟨_, rfl, (.shr _ _)⟩, ⟨_, rfl, (.ptr _ _ _ rfl (lookNe rfl))⟩, ⟨_, rfl, .nilrow _ _ _ _ rfl rfl⟩, ⟨_, rfl, (.shr _ _)⟩, ⟨_, rfl, (.lit _)⟩, ⟨_, rfl, (.lit _)⟩, trivial⟩ ⟨⟨_, _, rfl, rfl, (.cons (.nilshr _) (.cons ((.lit _)) (.cons ((.lit _)) (.cons ((.lit _)) (.cons ((.lit _)) (.cons (.nilshr _) (.cons ((.lit _)) .nil)))))))⟩, (.inr (.inl ⟨rfl, rfl⟩)), trivial⟩ (parOk hpar rfl)) (fun n_ E hR => ?_)
  obtain ⟨i, s, hI, rfl, rfl⟩ := hR
  obtain ⟨hI0, hI1⟩ := hI
  refine vw_seq ?_
  refine vw_region ?_
  refine s_lss rfl rfl rfl trivial (fun h27 => ?_) (fun h27 => ?_)
  ·refine u_end trivial ?_
   refine vw_seq ?_
   refine vw_condT rfl ?_
   refine vw_skip ?_
   refine vw_seq ?_
   refine vw_block ?_
   refine vw_seq ?_
   rw [msgCells_length] at h27
   obtain ⟨m, hm⟩ : ∃ m, ms[i]? = some m := ⟨_, List.getElem?_eq_getElem (by omega)⟩
   have hsi := hI1.sh.inv
   have hso := hsi.ok
   refine vw_region ?_
   refine u_indexS rfl rfl rfl rfl rfl rfl (msgCells_get' hm) rfl trivial ?_
   refine u_loadSAll rfl rfl rfl rfl rfl trivial ?_
   refine u_alloc 121 rfl rfl (notPar hpar rfl) rfl rfl trivial ?_
   refine u_storeAll rfl rfl rfl rfl rfl rfl rfl rfl trivial ?_
   refine u_end trivial ?_
   refine vw_seq ?_
   refine vw_region ?_
   refine u_loadAll rfl rfl rfl rfl rfl rfl trivial ?_
   refine u_loadAll rfl rfl rfl rfl rfl rfl trivial ?_
   refine u_call rfl (c92 s m hso.q hso.n) (.cons ((subP rfl)) (.cons ((subP rfl)) .nil)) rfl trivial ?_
   refine u_move rfl rfl trivial ?_
   refine u_extract rfl rfl rfl trivial ?_
   refine u_extract rfl rfl rfl trivial ?_
   refine u_alloc 122 rfl rfl (notPar hpar rfl) rfl rfl trivial ?_
   refine u_storeAll rfl rfl rfl rfl rfl rfl rfl rfl trivial ?_
   refine u_assign rfl rfl trivial ?_
   refine u_end trivial ?_
   refine vw_seq ?_
   refine vw_seq ?_
   refine vw_region ?_
   refine u_move rfl rfl trivial ?_
   refine s_neq rfl rfl rfl trivial (fun h37 => ?_) (fun h37 => ?_)
   ·refine u_end trivial ?_
    refine vw_condT rfl ?_
    refine vw_seq ?_
    refine vw_region ?_
    refine u_assign rfl rfl trivial ?_
    refine u_end trivial ?_
    refine vw_ret ?_
    refine fin0 (.inr rfl) (.cons (.tmp rfl (nb rfl)) .nil) (subB ?_)
    ·first | rfl | (simp only [msgCells_length, chunkCells_length, intCells_length]; rw [hga.2.2.1, hga.2.2.2]; rfl)
   ·refine u_end trivial ?_
    refine vw_condF rfl ?_
    refine vw_skip ?_
    refine vw_seq ?_
    have hnx := hI1.next hm (by omega) (by omega)
    refine vw_region ?_
    refine u_loadAll rfl rfl rfl rfl rfl rfl trivial ?_
    refine u_call rfl (c96' (put s m).1 (sinv_put hsi m)) (.cons ((subP rfl)) .nil) rfl trivial ?_
    refine u_move rfl rfl trivial ?_
    refine u_extract rfl rfl rfl trivial ?_
    refine u_extract rfl rfl rfl trivial ?_
    refine u_extract rfl rfl rfl trivial ?_
    refine u_alloc 123 rfl rfl (notPar hpar rfl) rfl rfl trivial ?_
    refine u_alloc 124 rfl rfl (notPar hpar rfl) rfl rfl trivial ?_
    refine u_storeAll rfl rfl rfl rfl rfl rfl rfl rfl trivial ?_
    refine u_storeAll rfl rfl rfl rfl rfl rfl rfl rfl trivial ?_
    refine u_assign rfl rfl trivial ?_
    refine u_end trivial ?_
    refine vw_seq ?_
    refine vw_region ?_
    refine u_loadAll rfl rfl rfl rfl rfl rfl trivial ?_
    refine u_storeAll rfl rfl rfl rfl rfl rfl rfl rfl trivial ?_
    refine u_end trivial ?_
    refine vw_region ?_
    refine u_move rfl rfl trivial ?_
    refine u_loadAll rfl rfl rfl rfl rfl rfl trivial ?_
    refine u_buildSlice 125 rfl rfl rfl rfl rfl rfl rfl rfl rfl rfl (notPar hpar rfl) rfl rfl trivial ?_
    refine u_append 126 rfl rfl rfl (srcRow rfl) rfl (notPar hpar rfl) rfl rfl rfl rfl rfl (by simp [cellsL, chunkCells_length, csOf_len]; omega) rfl trivial ?_
    refine u_assign rfl rfl trivial ?_
    refine u_end trivial ?_
    refine vw_region ?_
    refine u_add rfl rfl rfl (by unfold inI; omega) rfl trivial ?_
    refine u_move rfl rfl trivial ?_
    refine u_end trivial ?_
    refine ⟨_, _, ren [(5, 5), (6, 126)], ?_, ⟨i + 1, (say (put s m).1).1, ?_, rfl, rfl⟩, mk_wk [(5, 5), (6, 126)] rfl rfl ⟨⟨_, rfl, (.shr _ _)⟩, ⟨_, rfl, (.shr _ _)⟩, ⟨_, rfl, (.ptr _ _ _ rfl (lookNe rfl))⟩, ⟨_, rfl, (.row _ _ rfl (lookNe rfl))⟩, ⟨_, rfl, (.shr _ _)⟩, ⟨_, rfl, (.lit _)⟩, ⟨_, rfl, (.lit _)⟩, trivial⟩ ⟨⟨_, _, rfl, rfl, (subPL rfl)⟩, (.inl ⟨_, rfl, rowEq rfl (by rw [csOf_succ, chunkCells_app, hnx.2]; rfl)⟩), trivial⟩ (parOk hpar rfl)⟩
    ·omega
    ·exact ⟨by omega, hnx.1⟩
  ·refine u_end trivial ?_
   refine vw_seq ?_
   refine vw_condF rfl ?_
   refine vw_exit ?_
   refine iteP rfl ?_
   refine vw_seq ?_
   rw [msgCells_length] at h27
   have him : i = ms.length := by omega
   have hH : HOk ms := by have := hI1.h; rw [him, List.take_length] at this; exact this
   refine vw_region ?_
   refine u_alloc 121 rfl rfl (notPar hpar rfl) rfl rfl trivial ?_
   refine u_end trivial ?_
   refine vw_seq ?_
   refine vw_seq ?_
   refine vw_region ?_
   refine u_move rfl rfl trivial ?_
   refine u_len rfl rfl rfl trivial ?_
   refine u_move rfl rfl trivial ?_
   refine u_end trivial ?_
   refine vw_block ?_
   refine vw_loopR (fun n_ E => ∃ (j : Nat) (r : Receiver), ((j ≤ xs.length) ∧ (ROk ms r)) ∧ n_ = xs.length - j ∧ E = ⟨[(0, .shr 2 (msgCells ms)), (6, .shr 6 (chunkCells (csOf ms ms.length))), (14, .ptr 14 0), (50, .shr 1 (intCells xs)), (51, .lit (.int .i64 (intCells xs).length)), (52, .lit (.int .i64 j))], [(14, .box (receiverAV r))], 115⟩) (n0 := _) (E0 := _) (⟨0, receiver0, by exact ⟨Nat.zero_le _, rok0 ms⟩, rfl, rfl⟩) (ren [(14, 121)]) (mk_wk [(14, 121)] rfl rfl ⟨⟨_, rfl, (.shr _ _)⟩, ⟨_, rfl, (subFz rfl (fzL rfl) (by rw [show i = ms.length by omega]))⟩, ⟨_, rfl, (.ptr _ _ _ rfl (lookNe rfl))⟩, ⟨_, rfl, (.shr _ _)⟩, ⟨_, rfl, (.lit _)⟩, ⟨_, rfl, (.lit _)⟩, trivial⟩ ⟨⟨_, _, rfl, rfl, (.cons ((.lit _)) (.cons (.nilshr _) (.cons ((.lit _)) (.cons ((.lit _)) (.cons ((.lit _)) (.cons (.nilshr _) (.cons (.nilshr _) (.cons ((.lit _)) .nil))))))))⟩, trivial⟩ (parOk hpar rfl)) (fun n_ E hR => ?_)
   obtain ⟨j, r, hI, rfl, rfl⟩ := hR
   obtain ⟨hI0, hI1⟩ := hI
   refine vw_seq ?_
   refine vw_region ?_
   refine s_lss rfl rfl rfl trivial (fun h53 => ?_) (fun h53 => ?_)
   ·refine u_end trivial ?_
    refine vw_seq ?_
    refine vw_condT rfl ?_
    refine vw_skip ?_
    refine vw_seq ?_
    refine vw_block ?_
    refine vw_seq ?_
    rw [intCells_length] at h53
    obtain ⟨x, hx⟩ : ∃ x, xs[j]? = some x := ⟨_, List.getElem?_eq_getElem (by omega)⟩
    refine vw_region ?_
    refine u_indexS rfl rfl rfl rfl rfl rfl (intCells_get hx) rfl trivial ?_
    refine u_loadS1 rfl rfl rfl rfl rfl trivial ?_
    refine u_assign rfl rfl trivial ?_
    refine u_end trivial ?_
    refine vw_seq ?_
    refine vw_seq ?_
    refine vw_region ?_
    refine u_move rfl rfl trivial ?_
    refine s_geq rfl rfl rfl trivial (fun h57 => ?_) (fun h57 => ?_)
    ·refine u_move rfl rfl trivial ?_
     refine u_move rfl rfl ⟨_, _, rfl, rfl, rfl, rfl⟩ ?_
     refine u_move rfl rfl ⟨_, _, rfl, rfl, rfl, rfl⟩ ?_
     refine u_len rfl rfl rfl ⟨_, _, rfl, rfl, rfl, rfl⟩ ?_
     refine s_lss rfl rfl rfl ⟨_, _, rfl, rfl, rfl, rfl⟩ (fun h62 => ?_) (fun h62 => ?_)
     ·refine u_pickT rfl rfl rfl trivial ?_
      refine u_end trivial ?_
      refine vw_condT rfl ?_
      have hxl : x.toNat < ms.length := by simp only [chunkCells_length, csOf_len] at h62; omega
      refine vw_draw ?_
      refine u_loadAll rfl rfl rfl rfl rfl rfl trivial ?_
      refine u_move rfl rfl trivial ?_
      refine u_move rfl rfl trivial ?_
      refine u_indexS rfl rfl rfl rfl rfl (i := x.toNat) (by omega) (chunkCells_get' (csOf_get hxl)) rfl trivial ?_
      refine u_loadSAll rfl rfl rfl rfl rfl trivial ?_
      refine u_call rfl (c111 r (chk ms x.toNat) hI1.inv (chk_right hH hxl)) (.cons ((subP rfl)) (.cons ((subP rfl)) .nil)) rfl trivial ?_
      refine u_storeAll rfl rfl rfl rfl rfl rfl rfl rfl trivial ?_
      refine u_end (by kernel_rfl) ?_
      refine vw_seq ?_
      refine vw_region ?_
      refine u_fieldAddr rfl rfl rfl rfl rfl rfl trivial ?_
      refine u_load1 rfl rfl rfl rfl rfl rfl trivial ?_
      refine u_move rfl rfl trivial ?_
      refine s_call [] rfl (c67 (rhear r (chk ms x.toNat)).told ms (by have := hold_len (rok_hear hH hI1 hxl).inv; omega) (by omega)) (.cons ((.shr _ _)) (.cons ((.shr _ _)) .nil)) (fun k o h => by simp [Go.Vc.look] at h) rfl trivial (fun h73 => ?_) (fun h73 => ?_)
      ·refine u_not rfl rfl trivial ?_
       refine u_end trivial ?_
       refine vw_condF rfl ?_
       refine vw_skip ?_
       refine vw_region ?_
       refine u_add rfl rfl rfl (by unfold inI; omega) rfl trivial ?_
       refine u_move rfl rfl trivial ?_
       refine u_end trivial ?_
       refine ⟨_, _, ren [(14, 14)], ?_, ⟨j + 1, (rhear r (chk ms x.toNat)), ?_, rfl, rfl⟩, mk_wk [(14, 14)] rfl rfl ⟨⟨_, rfl, (.shr _ _)⟩, ⟨_, rfl, (.shr _ _)⟩, ⟨_, rfl, (.ptr _ _ _ rfl (lookNe rfl))⟩, ⟨_, rfl, (.shr _ _)⟩, ⟨_, rfl, (.lit _)⟩, ⟨_, rfl, (.lit _)⟩, trivial⟩ ⟨⟨_, _, rfl, rfl, (subPL rfl)⟩, trivial⟩ (parOk hpar rfl)⟩
       ·omega
       ·exact ⟨by omega, rok_hear hH hI1 hxl⟩
      ·rw [rok_fits (rok_hear hH hI1 hxl)] at h73; cases h73
     ·refine u_pickT rfl rfl rfl trivial ?_
      refine u_end trivial ?_
      refine vw_condF rfl ?_
      refine vw_skip ?_
      refine vw_seq ?_
      refine vw_region ?_
      refine u_fieldAddr rfl rfl rfl rfl rfl rfl trivial ?_
      refine u_load1 rfl rfl rfl rfl rfl rfl trivial ?_
      refine u_move rfl rfl trivial ?_
      refine s_call [] rfl (c67 r.told ms (by have := hold_len hI1.inv; omega) (by omega)) (.cons ((.shr _ _)) (.cons ((.shr _ _)) .nil)) (fun k o h => by simp [Go.Vc.look] at h) rfl trivial (fun h73 => ?_) (fun h73 => ?_)
      ·refine u_not rfl rfl trivial ?_
       refine u_end trivial ?_
       refine vw_condF rfl ?_
       refine vw_skip ?_
       refine vw_region ?_
       refine u_add rfl rfl rfl (by unfold inI; omega) rfl trivial ?_
       refine u_move rfl rfl trivial ?_
       refine u_end trivial ?_
       refine ⟨_, _, ren [(14, 14)], ?_, ⟨j + 1, r, ?_, rfl, rfl⟩, mk_wk [(14, 14)] rfl rfl ⟨⟨_, rfl, (.shr _ _)⟩, ⟨_, rfl, (.shr _ _)⟩, ⟨_, rfl, (.ptr _ _ _ rfl (lookNe rfl))⟩, ⟨_, rfl, (.shr _ _)⟩, ⟨_, rfl, (.lit _)⟩, ⟨_, rfl, (.lit _)⟩, trivial⟩ ⟨⟨_, _, rfl, rfl, (subPL rfl)⟩, trivial⟩ (parOk hpar rfl)⟩
       ·omega
       ·exact ⟨by omega, hI1⟩
      ·rw [rok_fits hI1] at h73; cases h73
    ·refine u_move rfl rfl trivial ?_
     refine u_skip rfl rfl rfl rfl rfl ?_
     refine u_skip rfl rfl rfl rfl rfl ?_
     refine u_skip rfl rfl rfl rfl rfl ?_
     refine u_skip rfl rfl rfl rfl rfl ?_
     refine u_pickF rfl rfl rfl trivial ?_
     refine u_end trivial ?_
     refine vw_condF rfl ?_
     refine vw_skip ?_
     refine vw_seq ?_
     refine vw_region ?_
     refine u_fieldAddr rfl rfl rfl rfl rfl rfl trivial ?_
     refine u_load1 rfl rfl rfl rfl rfl rfl trivial ?_
     refine u_move rfl rfl trivial ?_
     refine s_call [] rfl (c67 r.told ms (by have := hold_len hI1.inv; omega) (by omega)) (.cons ((.shr _ _)) (.cons ((.shr _ _)) .nil)) (fun k o h => by simp [Go.Vc.look] at h) rfl trivial (fun h73 => ?_) (fun h73 => ?_)
     ·refine u_not rfl rfl trivial ?_
      refine u_end trivial ?_
      refine vw_condF rfl ?_
      refine vw_skip ?_
      refine vw_region ?_
      refine u_add rfl rfl rfl (by unfold inI; omega) rfl trivial ?_
      refine u_move rfl rfl trivial ?_
      refine u_end trivial ?_
      refine ⟨_, _, ren [(14, 14)], ?_, ⟨j + 1, r, ?_, rfl, rfl⟩, mk_wk [(14, 14)] rfl rfl ⟨⟨_, rfl, (.shr _ _)⟩, ⟨_, rfl, (.shr _ _)⟩, ⟨_, rfl, (.ptr _ _ _ rfl (lookNe rfl))⟩, ⟨_, rfl, (.shr _ _)⟩, ⟨_, rfl, (.lit _)⟩, ⟨_, rfl, (.lit _)⟩, trivial⟩ ⟨⟨_, _, rfl, rfl, (subPL rfl)⟩, trivial⟩ (parOk hpar rfl)⟩
      ·omega
      ·exact ⟨by omega, hI1⟩
     ·rw [rok_fits hI1] at h73; cases h73
   ·refine u_end trivial ?_
    refine vw_seq ?_
    refine vw_condF rfl ?_
    refine vw_exit ?_
    refine iteP rfl ?_
    refine vw_seq ?_
    refine vw_seq ?_
    refine vw_region ?_
    refine u_move rfl rfl trivial ?_
    refine u_len rfl rfl rfl trivial ?_
    refine u_move rfl rfl trivial ?_
    refine u_end trivial ?_
    refine vw_block ?_
    refine vw_loopR (fun n_ E => ∃ (j : Nat) (r : Receiver), ((j ≤ ms.length) ∧ (ROk ms r) ∧ (∀ k : Nat, k < j → got r k)) ∧ n_ = ms.length - j ∧ E = ⟨[(0, .shr 2 (msgCells ms)), (14, .ptr 14 0), (76, .shr 6 (chunkCells (csOf ms ms.length))), (77, .lit (.int .i64 (chunkCells (csOf ms ms.length)).length)), (78, .lit (.int .i64 j))], [(14, .box (receiverAV r))], 115⟩) (n0 := _) (E0 := _) (⟨0, r, by exact ⟨Nat.zero_le _, hI1, fun k hk => by omega⟩, rfl, rfl⟩) (ren [(14, 14)]) (mk_wk [(14, 14)] rfl rfl ⟨⟨_, rfl, (.shr _ _)⟩, ⟨_, rfl, (.ptr _ _ _ rfl (lookNe rfl))⟩, ⟨_, rfl, (.shr _ _)⟩, ⟨_, rfl, (.lit _)⟩, ⟨_, rfl, (.lit _)⟩, trivial⟩ ⟨⟨_, _, rfl, rfl, (subPL rfl)⟩, trivial⟩ (parOk hpar rfl)) (fun n_ E hR => ?_)
    obtain ⟨j, r, hI, rfl, rfl⟩ := hR
    obtain ⟨hI0, hI1, hI2⟩ := hI
    refine vw_seq ?_
    refine vw_region ?_
    refine s_lss rfl rfl rfl trivial (fun h79 => ?_) (fun h79 => ?_)
    ·refine u_end trivial ?_
     refine vw_seq ?_
     refine vw_condT rfl ?_
     refine vw_skip ?_
     refine vw_seq ?_
     refine vw_block ?_
     refine vw_seq ?_
     simp only [chunkCells_length, csOf_len] at h79
     have hjl : j < ms.length := by omega
     refine vw_region ?_
     refine u_indexS rfl rfl rfl rfl rfl rfl (chunkCells_get' (csOf_get hjl)) rfl trivial ?_
     refine u_loadSAll rfl rfl rfl rfl rfl trivial ?_
     refine u_alloc 162 rfl rfl (notPar hpar rfl) rfl rfl trivial ?_
     refine u_storeAll rfl rfl rfl rfl rfl rfl rfl rfl trivial ?_
     refine u_end trivial ?_
     refine vw_region ?_
     refine u_loadAll rfl rfl rfl rfl rfl rfl trivial ?_
     refine u_loadAll rfl rfl rfl rfl rfl rfl trivial ?_
     refine u_call rfl (c111 r (chk ms j) hI1.inv (chk_right hH hjl)) (.cons ((subP rfl)) (.cons ((subP rfl)) .nil)) rfl trivial ?_
     refine u_storeAll rfl rfl rfl rfl rfl rfl rfl rfl trivial ?_
     refine u_end trivial ?_
     refine vw_region ?_
     refine u_add rfl rfl rfl (by unfold inI; omega) rfl trivial ?_
     refine u_move rfl rfl trivial ?_
     refine u_end trivial ?_
     refine ⟨_, _, ren [(14, 14)], ?_, ⟨j + 1, (rhear r (chk ms j)), ?_, rfl, rfl⟩, mk_wk [(14, 14)] rfl rfl ⟨⟨_, rfl, (.shr _ _)⟩, ⟨_, rfl, (.ptr _ _ _ rfl (lookNe rfl))⟩, ⟨_, rfl, (.shr _ _)⟩, ⟨_, rfl, (.lit _)⟩, ⟨_, rfl, (.lit _)⟩, trivial⟩ ⟨⟨_, _, rfl, rfl, (subPL rfl)⟩, trivial⟩ (parOk hpar rfl)⟩
     ·omega
     ·refine ⟨by omega, rok_hear hH hI1 hjl, fun k hk => ?_⟩
      by_cases hkj : k = j
      · subst hkj; exact room_or hI1.inv hI1 h4 hjl hH
      · exact (got_hear hI1.inv (chk_right hH hjl)).1 (hI2 k (by omega))
    ·refine u_end trivial ?_
     refine vw_seq ?_
     refine vw_condF rfl ?_
     refine vw_exit ?_
     refine iteP rfl ?_
     refine vw_seq ?_
     simp only [chunkCells_length, csOf_len] at h79
     have hga := got_all hH hI1 (fun k hk => hI2 k (by omega))
     refine vw_region ?_
     refine u_fieldAddr rfl rfl rfl rfl rfl rfl trivial ?_
     refine u_load1 rfl rfl rfl rfl rfl rfl trivial ?_
     refine u_move rfl rfl trivial ?_
     refine s_call [] rfl (c67 r.told ms (by have := hold_len hI1.inv; omega) (by omega)) (.cons ((.shr _ _)) (.cons ((.shr _ _)) .nil)) (fun k o h => by simp [Go.Vc.look] at h) rfl trivial (fun h89 => ?_) (fun h89 => ?_)
     ·refine u_move rfl rfl trivial ?_
      refine u_fieldAddr rfl rfl rfl rfl rfl rfl ⟨_, _, rfl, rfl, rfl, rfl⟩ ?_
      refine u_load1 rfl rfl rfl rfl rfl rfl ⟨_, _, rfl, rfl, rfl, rfl⟩ ?_
      refine u_len rfl rfl rfl ⟨_, _, rfl, rfl, rfl, rfl⟩ ?_
      refine u_move rfl rfl ⟨_, _, rfl, rfl, rfl, rfl⟩ ?_
      refine u_len rfl rfl rfl ⟨_, _, rfl, rfl, rfl, rfl⟩ ?_
      refine s_eql rfl rfl rfl ⟨_, _, rfl, rfl, rfl, rfl⟩ (fun h96 => ?_) (fun h96 => ?_)
      ·refine u_pickT rfl rfl rfl trivial ?_
       refine u_move rfl rfl trivial ?_
       refine u_fieldAddr rfl rfl rfl rfl rfl rfl ⟨_, _, rfl, rfl, rfl, rfl⟩ ?_
       refine u_load1 rfl rfl rfl rfl rfl rfl ⟨_, _, rfl, rfl, rfl, rfl⟩ ?_
       refine u_move rfl rfl ⟨_, _, rfl, rfl, rfl, rfl⟩ ?_
       refine u_len rfl rfl rfl ⟨_, _, rfl, rfl, rfl, rfl⟩ ?_
       refine s_eql rfl rfl rfl ⟨_, _, rfl, rfl, rfl, rfl⟩ (fun h103 => ?_) (fun h103 => ?_)
       ·refine u_pickT rfl rfl rfl trivial ?_
        refine u_move rfl rfl trivial ?_
        refine u_fieldAddr rfl rfl rfl rfl rfl rfl ⟨_, _, rfl, rfl, rfl, rfl⟩ ?_
        refine u_load1 rfl rfl rfl rfl rfl rfl ⟨_, _, rfl, rfl, rfl, rfl⟩ ?_
        refine u_len rfl rfl rfl ⟨_, _, rfl, rfl, rfl, rfl⟩ ?_
        refine u_fieldAddr rfl rfl rfl rfl rfl rfl ⟨_, _, rfl, rfl, rfl, rfl⟩ ?_
        refine u_load1 rfl rfl rfl rfl rfl rfl ⟨_, _, rfl, rfl, rfl, rfl⟩ ?_
        refine u_len rfl rfl rfl ⟨_, _, rfl, rfl, rfl, rfl⟩ ?_
        refine u_add rfl rfl rfl (by have := hold_len hI1.inv; simp only [intCells_length, chunkCells_length]; unfold inI; omega) rfl ⟨_, _, rfl, rfl, rfl, rfl⟩ ?_
        refine u_eql rfl rfl rfl ⟨_, _, rfl, rfl, rfl, rfl⟩ ?_
        refine u_pickT rfl rfl rfl trivial ?_
        refine u_assign rfl rfl trivial ?_
        refine u_end trivial ?_
        refine vw_ret ?_
        refine fin0 (.inr rfl) (.cons (.tmp rfl (nb rfl)) .nil) (subB ?_)
        ·first | rfl | (simp only [msgCells_length, chunkCells_length, intCells_length]; rw [hga.2.2.1, hga.2.2.2]; rfl)
       ·exfalso; simp only [msgCells_length] at h103; omega
      ·exfalso; simp only [msgCells_length] at h96; omega
     ·rw [rok_fits hI1] at h89; cases h89
end Go.Proofs.Ytaadloihphpdbaa
