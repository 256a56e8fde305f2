/- The law RecvSays walked. Printed by a small program (walk.py). -/
import Derived.Test.YtaadloihphpdbaaWRecv4
import Derived.Test.YtaadloihphpdbaaPSays
import Derived.Test.YtaadloihphpdbaaVcN
set_option linter.unusedVariables false
set_option linter.unusedSimpArgs false
set_option maxRecDepth 4000
namespace Go.Proofs.Ytaadloihphpdbaa
open Go Go.Vc Go.RowKit
theorem left_mem {es : Array MapEntry} {seen : Array Nat} {e : MapEntry} (h : e ∈ (leftOf es seen).toList) : e ∈ es.toList := by
  unfold leftOf at h
  simp at h
  simpa using h.1
theorem left_less {es : Array MapEntry} {seen : Array Nat} {e : MapEntry} (h : e ∈ (leftOf es seen).toList) : (leftOf es (seen.push e.born)).size < (leftOf es seen).size := by
  have h1 : leftOf es (seen.push e.born) = (leftOf es seen).filter fun x => !(x.born == e.born) := by
    unfold leftOf
    rw [Array.filter_filter]
    congr 1
    funext x
    rw [Array.contains_push, Bool.not_or, Bool.and_comm]
  rw [h1]
  have h2 : (Array.filter (fun x => !(x.born == e.born)) (leftOf es seen)).toList = (leftOf es seen).toList.filter fun x => !(x.born == e.born) := by simp
  have h3 := congrArg List.length h2
  rw [Array.length_toList] at h3
  rw [h3, ← Array.length_toList]
  refine List.length_filter_lt_length_iff_exists.2 ⟨e, h, by simp⟩
theorem rsay_is {r : Receiver} (h : r.owes = true) : rsay r = ({ r with owes := false }, ⟨2, r.next, 0, 0, [], r.early⟩, true) := if_pos h

theorem c28 (cs : List Chunk) : VFun G 28 [.shr 6 (chunkCells cs)] [] (.lit (.bool true)) [] := by
 refine VFun.intro (fn := Try.f28) rfl rfl (by kernel_rfl) (nb rfl) fun Γ hpar => ?_
 refine vw_seq ?_
 refine vw_len (t := 0) rfl fun hl => ?_
 rw [chunkCells_length] at hl
 refine vw_region ?_
 refine u_assign rfl rfl trivial ?_
 refine u_end trivial ?_
 refine vw_seq ?_
 refine vw_seq ?_
 refine vw_region ?_
 refine u_call rfl (c113) .nil rfl trivial ?_
 refine u_not rfl rfl trivial ?_
 refine u_end trivial ?_
 refine vw_condF rfl ?_
 refine vw_skip ?_
 refine vw_seq ?_
 refine vw_region ?_
 refine u_makeMap 100 rfl (notPar hpar rfl) rfl trivial ?_
 refine u_assign rfl rfl trivial ?_
 refine u_end trivial ?_
 refine vw_seq ?_
 refine vw_region ?_
 refine u_alloc 101 rfl rfl (notPar hpar rfl) rfl rfl trivial ?_
 refine u_end trivial ?_
 refine vw_seq ?_
 refine vw_seq ?_
 refine vw_region ?_
 refine u_move rfl rfl trivial ?_
 refine u_len rfl rfl rfl trivial ?_
 refine u_move rfl rfl trivial ?_
 refine u_end trivial ?_
 refine vw_block ?_
 refine vw_loopR (fun n_ E => ∃ (i : Nat), ((i ≤ cs.length) ∧ ((cs.take i).all rightC = true) ∧ (∀ z : Int, 0 ≤ z → got ((cs.take i).foldl rhear receiver0) z → z ∈ (cs.take i).map (fun c => c.num))) ∧ n_ = cs.length - i ∧ E = ⟨[(3, .mp 3), (4, .ptr 4 0), (19, .shr 6 (chunkCells cs)), (20, .lit (.int .i64 (chunkCells cs).length)), (21, .lit (.int .i64 i))], [(3, .set ((cs.take i).map (fun c => c.num))), (4, .box (receiverAV ((cs.take i).foldl rhear receiver0)))], 105⟩) (n0 := _) (E0 := _) (⟨0, by exact ⟨Nat.zero_le _, rfl, fun z h0 h => by rcases h with h | h; exact absurd h (by show ¬ z < 0; omega); cases h⟩, rfl, rfl⟩) (ren [(3, 100), (4, 101)]) (mk_wk [(3, 100), (4, 101)] rfl rfl ⟨⟨_, rfl, (.mp _ _ rfl (lookNe rfl))⟩, ⟨_, rfl, (.ptr _ _ _ rfl (lookNe rfl))⟩, ⟨_, rfl, (.shr _ _)⟩, ⟨_, rfl, (.lit _)⟩, ⟨_, rfl, (subI (by rfl))⟩, trivial⟩ ⟨⟨_, rfl, rfl⟩, ⟨_, _, rfl, rfl, (.cons ((.lit _)) (.cons (.nilshr _) (.cons ((.lit _)) (.cons ((.lit _)) (.cons ((.lit _)) (.cons (.nilshr _) (.cons (.nilshr _) (.cons ((.lit _)) .nil))))))))⟩, trivial⟩ (parOk hpar rfl)) (fun n_ E hR => ?_)
 obtain ⟨i, hI, rfl, rfl⟩ := hR
 obtain ⟨hi, ha, hg⟩ := hI
 refine vw_seq ?_
 refine vw_region ?_
 refine s_lss rfl rfl rfl trivial (fun h22 => ?_) (fun h22 => ?_)
 ·refine u_end trivial ?_
  refine vw_seq ?_
  refine vw_condT rfl ?_
  refine vw_skip ?_
  refine vw_seq ?_
  refine vw_block ?_
  refine vw_seq ?_
  rw [chunkCells_length] at h22
  obtain ⟨x, hx⟩ : ∃ x, cs[i]? = some x := ⟨_, List.getElem?_eq_getElem (by omega)⟩
  refine vw_region ?_
  refine u_indexS rfl rfl rfl rfl rfl rfl (chunkCells_get' hx) rfl trivial ?_
  refine u_loadSAll rfl rfl rfl rfl rfl trivial ?_
  refine u_alloc 122 rfl rfl (notPar hpar rfl) rfl rfl trivial ?_
  refine u_storeAll rfl rfl rfl rfl rfl rfl rfl rfl trivial ?_
  refine u_end trivial ?_
  refine vw_seq ?_
  refine vw_seq ?_
  refine vw_region ?_
  refine u_loadAll rfl rfl rfl rfl rfl rfl trivial ?_
  refine u_call rfl (c77 x) (.cons ((subP rfl)) .nil) rfl trivial ?_
  refine s_neq rfl rfl rfl trivial (fun h27 => ?_) (fun h27 => ?_)
  ·refine u_move rfl rfl trivial ?_
   refine u_skip rfl rfl rfl rfl rfl ?_
   refine u_skip rfl rfl rfl rfl rfl ?_
   refine u_skip rfl rfl rfl rfl rfl ?_
   refine u_pickT rfl rfl rfl trivial ?_
   refine u_end trivial ?_
   refine vw_condT rfl ?_
   refine vw_seq ?_
   refine vw_region ?_
   refine u_assign rfl rfl trivial ?_
   refine u_end trivial ?_
   refine vw_ret ?_
   refine fin0 (.inr rfl) (.cons (.tmp rfl (nb rfl)) .nil) (subB ?_)
   ·rfl
  ·refine u_move rfl rfl trivial ?_
   refine u_fieldAddr rfl rfl rfl rfl rfl rfl ⟨_, _, rfl, rfl, rfl, rfl⟩ ?_
   refine u_load1 rfl rfl rfl rfl rfl rfl ⟨_, _, rfl, rfl, rfl, rfl⟩ ?_
   refine s_neq rfl rfl rfl ⟨_, _, rfl, rfl, rfl, rfl⟩ (fun h31 => ?_) (fun h31 => ?_)
   ·refine u_pickF rfl rfl rfl trivial ?_
    refine u_end trivial ?_
    refine vw_condT rfl ?_
    refine vw_seq ?_
    refine vw_region ?_
    refine u_assign rfl rfl trivial ?_
    refine u_end trivial ?_
    refine vw_ret ?_
    refine fin0 (.inr rfl) (.cons (.tmp rfl (nb rfl)) .nil) (subB ?_)
    ·rfl
   ·refine u_pickF rfl rfl rfl trivial ?_
    refine u_end trivial ?_
    refine vw_condF rfl ?_
    refine vw_skip ?_
    refine vw_seq ?_
    have hc0 : wrong x = 0 := h27
    have hk1 : x.kind = 1 := h31
    have hri := rinv_take ha
    have hnl : (cs.take (i + 1)).map (fun c => c.num) = (cs.take i).map (fun c => c.num) ++ [x.num] := by rw [List.take_add_one, hx, List.map_append]; rfl
    refine vw_region ?_
    refine u_fieldAddr rfl rfl rfl rfl rfl rfl trivial ?_
    refine u_load1 rfl rfl rfl rfl rfl rfl trivial ?_
    refine u_fieldAddr rfl rfl rfl rfl rfl rfl trivial ?_
    refine u_load1 rfl rfl rfl rfl rfl rfl trivial ?_
    refine s_eql rfl rfl rfl trivial (fun h37 => ?_) (fun h37 => ?_)
    ·refine u_move rfl rfl trivial ?_
     refine u_skip rfl rfl rfl rfl rfl ?_
     refine u_skip rfl rfl rfl rfl rfl ?_
     refine u_skip rfl rfl rfl rfl rfl ?_
     refine u_skip rfl rfl rfl rfl rfl ?_
     refine u_pickT rfl rfl rfl trivial ?_
     refine u_assign rfl rfl trivial ?_
     refine u_end trivial ?_
     refine vw_seq ?_
     refine vw_region ?_
     refine u_move rfl rfl trivial ?_
     refine u_fieldAddr rfl rfl rfl rfl rfl rfl trivial ?_
     refine u_load1 rfl rfl rfl rfl rfl rfl trivial ?_
     refine u_mapIns (.inl rfl) rfl rfl rfl rfl rfl rfl trivial ?_
     refine u_end trivial ?_
     refine vw_seq ?_
     refine vw_region ?_
     refine u_loadAll rfl rfl rfl rfl rfl rfl trivial ?_
     refine u_loadAll rfl rfl rfl rfl rfl rfl trivial ?_
     refine u_call rfl (c111 ((cs.take i).foldl rhear receiver0) x hri hc0) (.cons ((subP rfl)) (.cons ((subP rfl)) .nil)) rfl trivial ?_
     refine u_storeAll rfl rfl rfl rfl rfl rfl rfl rfl trivial ?_
     refine u_end trivial ?_
     refine vw_seq ?_
     have hrx := rinv_hear hri hc0
     have how : (rhear ((cs.take i).foldl rhear receiver0) x).owes = true := hear_owes hk1
     have hn0 := hrx.n
     have hel := hrx.el
     have k1 : VFun G 107 [.agg (receiverAV (rhear ((cs.take i).foldl rhear receiver0) x))] [] (.tup [.agg (receiverAV { (rhear ((cs.take i).foldl rhear receiver0) x) with owes := false }), .agg (chunkAV ⟨2, (rhear ((cs.take i).foldl rhear receiver0) x).next, 0, 0, [], (rhear ((cs.take i).foldl rhear receiver0) x).early⟩), .lit (.bool true)]) [] := by
       have e := c107 (rhear ((cs.take i).foldl rhear receiver0) x) hrx
       rw [rsay_is how] at e
       exact e
     refine vw_region ?_
     refine u_loadAll rfl rfl rfl rfl rfl rfl trivial ?_
     refine u_call rfl (k1) (.cons ((subP rfl)) .nil) rfl trivial ?_
     refine u_move rfl rfl trivial ?_
     refine u_extract rfl rfl rfl trivial ?_
     refine u_extract rfl rfl rfl trivial ?_
     refine u_extract rfl rfl rfl trivial ?_
     refine u_alloc 123 rfl rfl (notPar hpar rfl) rfl rfl trivial ?_
     refine u_alloc 124 rfl rfl (notPar hpar rfl) rfl rfl trivial ?_
     refine u_storeAll rfl rfl rfl rfl rfl rfl rfl rfl trivial ?_
     refine u_storeAll rfl rfl rfl rfl rfl rfl rfl rfl trivial ?_
     refine u_assign rfl rfl trivial ?_
     refine u_end trivial ?_
     refine vw_seq ?_
     refine vw_seq ?_
     refine vw_region ?_
     refine u_move rfl rfl trivial ?_
     refine u_not rfl rfl trivial ?_
     refine u_move rfl rfl trivial ?_
     refine u_fieldAddr rfl rfl rfl rfl rfl rfl ⟨_, _, rfl, rfl, rfl, rfl⟩ ?_
     refine u_load1 rfl rfl rfl rfl rfl rfl ⟨_, _, rfl, rfl, rfl, rfl⟩ ?_
     refine s_neq rfl rfl rfl ⟨_, _, rfl, rfl, rfl, rfl⟩ (fun h61 => ?_) (fun h61 => ?_)
     ·exact absurd rfl h61
     ·refine u_pickF rfl rfl rfl trivial ?_
      refine u_move rfl rfl trivial ?_
      refine u_fieldAddr rfl rfl rfl rfl rfl rfl ⟨_, _, rfl, rfl, rfl, rfl⟩ ?_
      refine u_load1 rfl rfl rfl rfl rfl rfl ⟨_, _, rfl, rfl, rfl, rfl⟩ ?_
      refine u_pickF rfl rfl rfl trivial ?_
      refine u_end trivial ?_
      refine vw_cond rfl (fun hc1 => ?_) (fun hc1 => ?_)
      ·refine vw_seq ?_
       refine vw_region ?_
       refine u_assign rfl rfl trivial ?_
       refine u_end trivial ?_
       refine vw_ret ?_
       refine fin0 (.inr rfl) (.cons (.tmp rfl (nb rfl)) .nil) (subB ?_)
       ·first | exact absurd hc1 Bool.false_ne_true | exact absurd hc2 Bool.false_ne_true | exact absurd hc3 Bool.false_ne_true | exact absurd hc4 Bool.false_ne_true
      ·refine vw_skip ?_
       refine vw_seq ?_
       refine vw_region ?_
       refine u_makeMap 125 rfl (notPar hpar rfl) rfl trivial ?_
       refine u_assign rfl rfl trivial ?_
       refine u_end trivial ?_
       refine vw_seq ?_
       refine vw_seq ?_
       refine vw_region ?_
       refine u_fieldAddr rfl rfl rfl rfl rfl rfl trivial ?_
       refine u_load1 rfl rfl rfl rfl rfl rfl trivial ?_
       refine u_move rfl rfl trivial ?_
       refine u_end trivial ?_
       refine vw_block ?_
       refine vw_loopR (fun n_ E => ∃ (j : Nat), (((j : Int) ≤ (rhear ((cs.take i).foldl rhear receiver0) x).next)) ∧ n_ = (rhear ((cs.take i).foldl rhear receiver0) x).next.toNat - j ∧ E = ⟨[(3, .mp 3), (4, .ptr 4 0), (6, .ptr 6 0), (7, .lit (.bool true)), (19, .shr 6 (chunkCells cs)), (20, .lit (.int .i64 (chunkCells cs).length)), (21, .lit (.int .i64 i)), (9, .ptr 9 0), (11, .mp 11), (69, .lit (.int .i64 (rhear ((cs.take i).foldl rhear receiver0) x).next)), (70, .lit (.int .i64 j))], [(3, .set ((cs.take i).map (fun c => c.num) ++ [x.num])), (4, .box (receiverAV (rhear ((cs.take i).foldl rhear receiver0) x))), (6, .box (chunkAV x)), (9, .box (chunkAV ⟨2, (rhear ((cs.take i).foldl rhear receiver0) x).next, 0, 0, [], (rhear ((cs.take i).foldl rhear receiver0) x).early⟩)), (11, .set ((List.range j).map (fun i : Nat => (i : Int))))], 105⟩) (n0 := _) (E0 := _) (⟨0, by omega, rfl, rfl⟩) (ren [(3, 3), (4, 4), (6, 122), (9, 124), (11, 125)]) (mk_wk [(3, 3), (4, 4), (6, 122), (9, 124), (11, 125)] rfl rfl ⟨⟨_, rfl, (.mp _ _ rfl (lookNe rfl))⟩, ⟨_, rfl, (.ptr _ _ _ rfl (lookNe rfl))⟩, ⟨_, rfl, (.ptr _ _ _ rfl (lookNe rfl))⟩, ⟨_, rfl, (.lit _)⟩, ⟨_, rfl, (.shr _ _)⟩, ⟨_, rfl, (.lit _)⟩, ⟨_, rfl, (.lit _)⟩, ⟨_, rfl, (.ptr _ _ _ rfl (lookNe rfl))⟩, ⟨_, rfl, (.mp _ _ rfl (lookNe rfl))⟩, ⟨_, rfl, (.lit _)⟩, ⟨_, rfl, (subI (by rfl))⟩, trivial⟩ ⟨⟨_, rfl, rfl⟩, ⟨_, _, rfl, rfl, (subPL rfl)⟩, ⟨_, _, rfl, rfl, (subPL rfl)⟩, ⟨_, _, rfl, rfl, (subPL rfl)⟩, ⟨_, rfl, rfl⟩, trivial⟩ (parOk hpar rfl)) (fun n_ E hR => ?_)
       obtain ⟨j, hI, rfl, rfl⟩ := hR
       have hj := hI
       refine vw_seq ?_
       refine vw_region ?_
       refine s_lss rfl rfl rfl trivial (fun h71 => ?_) (fun h71 => ?_)
       ·refine u_end trivial ?_
        refine vw_seq ?_
        refine vw_condT rfl ?_
        refine vw_skip ?_
        refine vw_seq ?_
        refine vw_block ?_
        refine vw_seq ?_
        refine vw_region ?_
        refine u_move rfl rfl trivial ?_
        refine u_assign rfl rfl trivial ?_
        refine u_end trivial ?_
        refine vw_region ?_
        refine u_move rfl rfl trivial ?_
        refine u_move rfl rfl trivial ?_
        refine u_mapIns (.inl rfl) rfl rfl rfl rfl rfl rfl trivial ?_
        refine u_end trivial ?_
        refine vw_region ?_
        refine u_add rfl rfl rfl (by unfold inI; omega) rfl trivial ?_
        refine u_move rfl rfl trivial ?_
        refine u_end trivial ?_
        refine ⟨_, _, ren [(3, 3), (4, 4), (6, 6), (9, 9), (11, 11)], ?_, ⟨j + 1, ?_, rfl, rfl⟩, mk_wk [(3, 3), (4, 4), (6, 6), (9, 9), (11, 11)] rfl rfl ⟨⟨_, rfl, (.mp _ _ rfl (lookNe rfl))⟩, ⟨_, rfl, (.ptr _ _ _ rfl (lookNe rfl))⟩, ⟨_, rfl, (.ptr _ _ _ rfl (lookNe rfl))⟩, ⟨_, rfl, (.lit _)⟩, ⟨_, rfl, (.shr _ _)⟩, ⟨_, rfl, (.lit _)⟩, ⟨_, rfl, (.lit _)⟩, ⟨_, rfl, (.ptr _ _ _ rfl (lookNe rfl))⟩, ⟨_, rfl, (.mp _ _ rfl (lookNe rfl))⟩, ⟨_, rfl, (.lit _)⟩, ⟨_, rfl, (subI (by rfl))⟩, trivial⟩ ⟨⟨_, rfl, rfl⟩, ⟨_, _, rfl, rfl, (subPL rfl)⟩, ⟨_, _, rfl, rfl, (subPL rfl)⟩, ⟨_, _, rfl, rfl, (subPL rfl)⟩, ⟨_, rfl, setEq rfl (by rw [List.range_succ, List.map_append]; rfl)⟩, trivial⟩ (parOk hpar rfl)⟩
        ·omega
        ·omega
       ·refine u_end trivial ?_
        refine vw_seq ?_
        refine vw_condF rfl ?_
        refine vw_exit ?_
        refine iteP rfl ?_
        refine vw_seq ?_
        refine vw_seq ?_
        refine vw_region ?_
        refine u_fieldAddr rfl rfl rfl rfl rfl rfl trivial ?_
        refine u_load1 rfl rfl rfl rfl rfl rfl trivial ?_
        refine u_len rfl rfl rfl trivial ?_
        refine u_move rfl rfl trivial ?_
        refine u_end trivial ?_
        refine vw_block ?_
        refine vw_loopR (fun n_ E => ∃ (q : Nat), ((q ≤ (rhear ((cs.take i).foldl rhear receiver0) x).early.length)) ∧ n_ = (rhear ((cs.take i).foldl rhear receiver0) x).early.length - q ∧ E = ⟨[(3, .mp 3), (4, .ptr 4 0), (6, .ptr 6 0), (7, .lit (.bool true)), (19, .shr 6 (chunkCells cs)), (20, .lit (.int .i64 (chunkCells cs).length)), (21, .lit (.int .i64 i)), (11, .mp 11), (77, .shr 1 (intCells (rhear ((cs.take i).foldl rhear receiver0) x).early)), (78, .lit (.int .i64 (intCells (rhear ((cs.take i).foldl rhear receiver0) x).early).length)), (79, .lit (.int .i64 q))], [(3, .set ((cs.take i).map (fun c => c.num) ++ [x.num])), (4, .box (receiverAV (rhear ((cs.take i).foldl rhear receiver0) x))), (6, .box (chunkAV x)), (11, .set ((List.range (rhear ((cs.take i).foldl rhear receiver0) x).next.toNat).map (fun i : Nat => (i : Int)) ++ (rhear ((cs.take i).foldl rhear receiver0) x).early.take q))], 105⟩) (n0 := _) (E0 := _) (⟨0, by omega, rfl, rfl⟩) (ren [(3, 3), (4, 4), (6, 6), (11, 11)]) (mk_wk [(3, 3), (4, 4), (6, 6), (11, 11)] rfl rfl ⟨⟨_, rfl, (.mp _ _ rfl (lookNe rfl))⟩, ⟨_, rfl, (.ptr _ _ _ rfl (lookNe rfl))⟩, ⟨_, rfl, (.ptr _ _ _ rfl (lookNe rfl))⟩, ⟨_, rfl, (.lit _)⟩, ⟨_, rfl, (.shr _ _)⟩, ⟨_, rfl, (.lit _)⟩, ⟨_, rfl, (.lit _)⟩, ⟨_, rfl, (.mp _ _ rfl (lookNe rfl))⟩, ⟨_, rfl, (.shr _ _)⟩, ⟨_, rfl, (.lit _)⟩, ⟨_, rfl, (subI (by rfl))⟩, trivial⟩ ⟨⟨_, rfl, rfl⟩, ⟨_, _, rfl, rfl, (subPL rfl)⟩, ⟨_, _, rfl, rfl, (subPL rfl)⟩, ⟨_, rfl, setEq rfl (by rw [show (rhear ((cs.take i).foldl rhear receiver0) x).next.toNat = j by omega]; simp)⟩, trivial⟩ (parOk hpar rfl)) (fun n_ E hR => ?_)
        obtain ⟨q, hI, rfl, rfl⟩ := hR
        have hq := hI
        refine vw_seq ?_
        refine vw_region ?_
        refine s_lss rfl rfl rfl trivial (fun h80 => ?_) (fun h80 => ?_)
        ·refine u_end trivial ?_
         refine vw_seq ?_
         refine vw_condT rfl ?_
         refine vw_skip ?_
         refine vw_seq ?_
         refine vw_block ?_
         refine vw_seq ?_
         rw [intCells_length] at h80
         obtain ⟨ee, hge⟩ : ∃ ee, (rhear ((cs.take i).foldl rhear receiver0) x).early[q]? = some ee := ⟨_, List.getElem?_eq_getElem (by omega)⟩
         refine vw_region ?_
         refine u_indexS rfl rfl rfl rfl rfl rfl (intCells_get hge) rfl trivial ?_
         refine u_loadS1 rfl rfl rfl rfl rfl trivial ?_
         refine u_assign rfl rfl trivial ?_
         refine u_end trivial ?_
         refine vw_region ?_
         refine u_move rfl rfl trivial ?_
         refine u_move rfl rfl trivial ?_
         refine u_mapIns (.inl rfl) rfl rfl rfl rfl rfl rfl trivial ?_
         refine u_end trivial ?_
         refine vw_region ?_
         refine u_add rfl rfl rfl (by unfold inI; omega) rfl trivial ?_
         refine u_move rfl rfl trivial ?_
         refine u_end trivial ?_
         refine ⟨_, _, ren [(3, 3), (4, 4), (6, 6), (11, 11)], ?_, ⟨q + 1, ?_, rfl, rfl⟩, mk_wk [(3, 3), (4, 4), (6, 6), (11, 11)] rfl rfl ⟨⟨_, rfl, (.mp _ _ rfl (lookNe rfl))⟩, ⟨_, rfl, (.ptr _ _ _ rfl (lookNe rfl))⟩, ⟨_, rfl, (.ptr _ _ _ rfl (lookNe rfl))⟩, ⟨_, rfl, (.lit _)⟩, ⟨_, rfl, (.shr _ _)⟩, ⟨_, rfl, (.lit _)⟩, ⟨_, rfl, (.lit _)⟩, ⟨_, rfl, (.mp _ _ rfl (lookNe rfl))⟩, ⟨_, rfl, (.shr _ _)⟩, ⟨_, rfl, (.lit _)⟩, ⟨_, rfl, (subI (by rfl))⟩, trivial⟩ ⟨⟨_, rfl, rfl⟩, ⟨_, _, rfl, rfl, (subPL rfl)⟩, ⟨_, _, rfl, rfl, (subPL rfl)⟩, ⟨_, rfl, setEq rfl (by rw [List.take_add_one, hge]; simp)⟩, trivial⟩ (parOk hpar rfl)⟩
         ·omega
         ·omega
        ·refine u_end trivial ?_
         refine vw_seq ?_
         refine vw_condF rfl ?_
         refine vw_exit ?_
         refine iteP rfl ?_
         refine vw_seq ?_
         refine vw_seq ?_
         rw [intCells_length] at h80
         rw [List.take_of_length_le (show (rhear ((cs.take i).foldl rhear receiver0) x).early.length ≤ q by omega)]
         refine vw_openSet (k := 11) (l := toldL (rhear ((cs.take i).foldl rhear receiver0) x)) rfl fun mb es clock hA hB hC => ?_
         ·refine vw_region ?_
          refine u_move rfl rfl trivial ?_
          refine u_range 166 rfl rfl rfl (notPar hpar rfl) rfl rfl trivial ?_
          refine u_end trivial ?_
          refine vw_block ?_
          refine vw_loopR (fun n_ E => ∃ (seen : Array Nat), ((True)) ∧ n_ = (leftOf es seen).size ∧ E = ⟨[(3, .mp 3), (4, .ptr 4 0), (6, .ptr 6 0), (7, .lit (.bool true)), (19, .shr 6 (chunkCells cs)), (20, .lit (.int .i64 (chunkCells cs).length)), (21, .lit (.int .i64 i)), (11, .mp 11), (87, .ptr 12 0)], [(3, .set ((cs.take i).map (fun c => c.num) ++ [x.num])), (4, .box (receiverAV (rhear ((cs.take i).foldl rhear receiver0) x))), (6, .box (chunkAV x)), (11, .raw (mapP mb es clock)), (12, .raw (itP mb clock seen clock))], 105⟩) (n0 := _) (E0 := _) (⟨#[], by trivial, rfl, rfl⟩) (ren [(3, 3), (4, 4), (6, 6), (11, 11), (12, 166)]) (mk_wk [(3, 3), (4, 4), (6, 6), (11, 11), (12, 166)] rfl rfl ⟨⟨_, rfl, (.mp _ _ rfl (lookNe rfl))⟩, ⟨_, rfl, (.ptr _ _ _ rfl (lookNe rfl))⟩, ⟨_, rfl, (.ptr _ _ _ rfl (lookNe rfl))⟩, ⟨_, rfl, (.lit _)⟩, ⟨_, rfl, (.shr _ _)⟩, ⟨_, rfl, (.lit _)⟩, ⟨_, rfl, (.lit _)⟩, ⟨_, rfl, (.mp _ _ rfl (lookNe rfl))⟩, ⟨_, rfl, (.ptr _ _ _ rfl (lookNe rfl))⟩, trivial⟩ ⟨⟨_, rfl, rfl⟩, ⟨_, _, rfl, rfl, (subPL rfl)⟩, ⟨_, _, rfl, rfl, (subPL rfl)⟩, ⟨_, _, rfl, rfl, fun _ _ h => h⟩, ⟨_, _, rfl, rfl, fun _ _ h => h⟩, trivial⟩ (parOk hpar rfl)) (fun n_ E hR => ?_)
          obtain ⟨seen, hI, rfl, rfl⟩ := hR
          have hI0 := hI
          refine vw_seq ?_
          refine vw_regionMid 0 ⟨trivial, ?_⟩
          refine vx_next (k := 11) rfl rfl rfl (hC.1) (Nat.le_refl _) (fun e he => (hA e he).imp fun m h => h.2) (show 88 < 105 by decide) (fun hl => ?_) (fun en hen m hm hv => ?_)
          ·refine VX.of (log := []) ?_
           refine u_extract rfl rfl rfl trivial ?_
           refine u_end trivial ?_
           refine vw_seq ?_
           refine vw_condF rfl ?_
           refine vw_exit ?_
           refine iteP rfl ?_
           refine vw_seq ?_
           refine vw_closeSet (k := 11) (l := toldL (rhear ((cs.take i).foldl rhear receiver0) x)) rfl hA hB hC ?_
           ·refine vw_region ?_
            refine u_move rfl rfl trivial ?_
            refine u_move rfl rfl trivial ?_
            refine u_move rfl rfl ⟨_, _, rfl, rfl, rfl, rfl⟩ ?_
            refine u_fieldAddr rfl rfl rfl rfl rfl rfl ⟨_, _, rfl, rfl, rfl, rfl⟩ ?_
            refine u_load1 rfl rfl rfl rfl rfl rfl ⟨_, _, rfl, rfl, rfl, rfl⟩ ?_
            refine s_lookup rfl rfl rfl rfl rfl rfl zero4 rfl ⟨_, _, rfl, rfl, rfl, rfl⟩ (fun h101 => ?_) (fun h101 => ?_)
            ·refine u_not rfl rfl ⟨_, _, rfl, rfl, rfl, rfl⟩ ?_
             refine u_pickT rfl rfl rfl trivial ?_
             refine u_end trivial ?_
             refine vw_condF rfl ?_
             refine vw_skip ?_
             refine vw_region ?_
             refine u_add rfl rfl rfl (by unfold inI; omega) rfl trivial ?_
             refine u_move rfl rfl trivial ?_
             refine u_end trivial ?_
             refine ⟨_, _, ren [(3, 3), (4, 4)], ?_, ⟨i + 1, ?_, rfl, rfl⟩, mk_wk [(3, 3), (4, 4)] rfl rfl ⟨⟨_, rfl, (.mp _ _ rfl (lookNe rfl))⟩, ⟨_, rfl, (.ptr _ _ _ rfl (lookNe rfl))⟩, ⟨_, rfl, (.shr _ _)⟩, ⟨_, rfl, (.lit _)⟩, ⟨_, rfl, (subI (by rfl))⟩, trivial⟩ ⟨⟨_, rfl, setEq rfl (by rw [hnl])⟩, ⟨_, _, rfl, rfl, (.cons (subI (by rw [← fold_snoc hx])) (.cons (subS (by rw [← fold_snoc hx])) (.cons (subI (by rw [← fold_snoc hx])) (.cons (subI (by rw [← fold_snoc hx])) (.cons (subI (by rw [← fold_snoc hx])) (.cons (subS (by rw [← fold_snoc hx])) (.cons (subS (by rw [← fold_snoc hx])) (.cons (subB (by rw [← fold_snoc hx])) .nil))))))))⟩, trivial⟩ (parOk hpar rfl)⟩
             ·omega
             ·exact ⟨by omega, all_snoc ha hx (by omega), by rw [← fold_snoc hx, hnl]; exact says_got hri hc0 hg⟩
            ·have hcb : (toldL (rhear ((cs.take i).foldl rhear receiver0) x)).contains x.num = true := List.contains_iff_mem.2 ((toldL_got hrx).2 ⟨(wrong_ok hc0).1.1, room_got hri hc0 hk1 (.inl h37)⟩)
             rw [hcb] at h101; cases h101
          ·refine VX.of (log := []) ?_
           refine u_extract rfl rfl rfl trivial ?_
           refine u_end trivial ?_
           refine vw_seq ?_
           refine vw_condT rfl ?_
           refine vw_skip ?_
           refine vw_block ?_
           refine vw_seq ?_
           refine vw_region ?_
           refine u_entry (k := 11) rfl rfl rfl (left_mem hen) (hC) (hm) (hv) rfl trivial ?_
           refine u_extract rfl rfl rfl trivial ?_
           refine u_assign rfl rfl trivial ?_
           refine u_end trivial ?_
           refine vw_seq ?_
           have hmt : m ∈ toldL (rhear ((cs.take i).foldl rhear receiver0) x) := by
             obtain ⟨m2, hm2, e2, _⟩ := hA en (left_mem hen)
             rw [hm] at e2; injection e2 with _ e2; rw [e2]; exact hm2
           have hmg := (toldL_got hrx).1 hmt
           have hcm := says_got hri hc0 hg m hmg.1 hmg.2
           refine vw_region ?_
           refine u_move rfl rfl trivial ?_
           refine u_move rfl rfl trivial ?_
           refine s_lookup rfl rfl rfl rfl rfl rfl zero4 rfl trivial (fun h94 => ?_) (fun h94 => ?_)
           ·refine u_not rfl rfl trivial ?_
            refine u_end trivial ?_
            refine vw_condF rfl ?_
            refine vw_skip ?_
            refine ⟨_, _, ren [(3, 3), (4, 4), (6, 6), (11, 11), (12, 12)], ?_, ⟨seen.push en.born, ?_, rfl, rfl⟩, mk_wk [(3, 3), (4, 4), (6, 6), (11, 11), (12, 12)] rfl rfl ⟨⟨_, rfl, (.mp _ _ rfl (lookNe rfl))⟩, ⟨_, rfl, (.ptr _ _ _ rfl (lookNe rfl))⟩, ⟨_, rfl, (.ptr _ _ _ rfl (lookNe rfl))⟩, ⟨_, rfl, (.lit _)⟩, ⟨_, rfl, (.shr _ _)⟩, ⟨_, rfl, (.lit _)⟩, ⟨_, rfl, (.lit _)⟩, ⟨_, rfl, (.mp _ _ rfl (lookNe rfl))⟩, ⟨_, rfl, (.ptr _ _ _ rfl (lookNe rfl))⟩, trivial⟩ ⟨⟨_, rfl, rfl⟩, ⟨_, _, rfl, rfl, (subPL rfl)⟩, ⟨_, _, rfl, rfl, (subPL rfl)⟩, ⟨_, _, rfl, rfl, fun _ _ h => h⟩, ⟨_, _, rfl, rfl, fun _ _ h => h⟩, trivial⟩ (parOk hpar rfl)⟩
            ·exact left_less hen
            ·trivial
           ·have hcb : ((cs.take i).map (fun c => c.num) ++ [x.num]).contains m = true := List.contains_iff_mem.2 hcm
            rw [hcb] at h94; cases h94
    ·refine u_move rfl rfl trivial ?_
     refine u_fieldAddr rfl rfl rfl rfl rfl rfl ⟨_, _, rfl, rfl, rfl, rfl⟩ ?_
     refine u_load1 rfl rfl rfl rfl rfl rfl ⟨_, _, rfl, rfl, rfl, rfl⟩ ?_
     refine u_len rfl rfl rfl ⟨_, _, rfl, rfl, rfl, rfl⟩ ?_
     refine u_lss rfl rfl rfl ⟨_, _, rfl, rfl, rfl, rfl⟩ ?_
     refine u_pickF rfl rfl rfl trivial ?_
     refine u_assign rfl rfl trivial ?_
     refine u_end trivial ?_
     refine vw_seq ?_
     refine vw_region ?_
     refine u_move rfl rfl trivial ?_
     refine u_fieldAddr rfl rfl rfl rfl rfl rfl trivial ?_
     refine u_load1 rfl rfl rfl rfl rfl rfl trivial ?_
     refine u_mapIns (.inl rfl) rfl rfl rfl rfl rfl rfl trivial ?_
     refine u_end trivial ?_
     refine vw_seq ?_
     refine vw_region ?_
     refine u_loadAll rfl rfl rfl rfl rfl rfl trivial ?_
     refine u_loadAll rfl rfl rfl rfl rfl rfl trivial ?_
     refine u_call rfl (c111 ((cs.take i).foldl rhear receiver0) x hri hc0) (.cons ((subP rfl)) (.cons ((subP rfl)) .nil)) rfl trivial ?_
     refine u_storeAll rfl rfl rfl rfl rfl rfl rfl rfl trivial ?_
     refine u_end trivial ?_
     refine vw_seq ?_
     have hrx := rinv_hear hri hc0
     have how : (rhear ((cs.take i).foldl rhear receiver0) x).owes = true := hear_owes hk1
     have hn0 := hrx.n
     have hel := hrx.el
     have k1 : VFun G 107 [.agg (receiverAV (rhear ((cs.take i).foldl rhear receiver0) x))] [] (.tup [.agg (receiverAV { (rhear ((cs.take i).foldl rhear receiver0) x) with owes := false }), .agg (chunkAV ⟨2, (rhear ((cs.take i).foldl rhear receiver0) x).next, 0, 0, [], (rhear ((cs.take i).foldl rhear receiver0) x).early⟩), .lit (.bool true)]) [] := by
       have e := c107 (rhear ((cs.take i).foldl rhear receiver0) x) hrx
       rw [rsay_is how] at e
       exact e
     refine vw_region ?_
     refine u_loadAll rfl rfl rfl rfl rfl rfl trivial ?_
     refine u_call rfl (k1) (.cons ((subP rfl)) .nil) rfl trivial ?_
     refine u_move rfl rfl trivial ?_
     refine u_extract rfl rfl rfl trivial ?_
     refine u_extract rfl rfl rfl trivial ?_
     refine u_extract rfl rfl rfl trivial ?_
     refine u_alloc 123 rfl rfl (notPar hpar rfl) rfl rfl trivial ?_
     refine u_alloc 124 rfl rfl (notPar hpar rfl) rfl rfl trivial ?_
     refine u_storeAll rfl rfl rfl rfl rfl rfl rfl rfl trivial ?_
     refine u_storeAll rfl rfl rfl rfl rfl rfl rfl rfl trivial ?_
     refine u_assign rfl rfl trivial ?_
     refine u_end trivial ?_
     refine vw_seq ?_
     refine vw_seq ?_
     refine vw_region ?_
     refine u_move rfl rfl trivial ?_
     refine u_not rfl rfl trivial ?_
     refine u_move rfl rfl trivial ?_
     refine u_fieldAddr rfl rfl rfl rfl rfl rfl ⟨_, _, rfl, rfl, rfl, rfl⟩ ?_
     refine u_load1 rfl rfl rfl rfl rfl rfl ⟨_, _, rfl, rfl, rfl, rfl⟩ ?_
     refine s_neq rfl rfl rfl ⟨_, _, rfl, rfl, rfl, rfl⟩ (fun h61 => ?_) (fun h61 => ?_)
     ·exact absurd rfl h61
     ·refine u_pickF rfl rfl rfl trivial ?_
      refine u_move rfl rfl trivial ?_
      refine u_fieldAddr rfl rfl rfl rfl rfl rfl ⟨_, _, rfl, rfl, rfl, rfl⟩ ?_
      refine u_load1 rfl rfl rfl rfl rfl rfl ⟨_, _, rfl, rfl, rfl, rfl⟩ ?_
      refine u_pickF rfl rfl rfl trivial ?_
      refine u_end trivial ?_
      refine vw_cond rfl (fun hc2 => ?_) (fun hc2 => ?_)
      ·refine vw_seq ?_
       refine vw_region ?_
       refine u_assign rfl rfl trivial ?_
       refine u_end trivial ?_
       refine vw_ret ?_
       refine fin0 (.inr rfl) (.cons (.tmp rfl (nb rfl)) .nil) (subB ?_)
       ·first | exact absurd hc1 Bool.false_ne_true | exact absurd hc2 Bool.false_ne_true | exact absurd hc3 Bool.false_ne_true | exact absurd hc4 Bool.false_ne_true
      ·refine vw_skip ?_
       refine vw_seq ?_
       refine vw_region ?_
       refine u_makeMap 125 rfl (notPar hpar rfl) rfl trivial ?_
       refine u_assign rfl rfl trivial ?_
       refine u_end trivial ?_
       refine vw_seq ?_
       refine vw_seq ?_
       refine vw_region ?_
       refine u_fieldAddr rfl rfl rfl rfl rfl rfl trivial ?_
       refine u_load1 rfl rfl rfl rfl rfl rfl trivial ?_
       refine u_move rfl rfl trivial ?_
       refine u_end trivial ?_
       refine vw_block ?_
       refine vw_loopR (fun n_ E => ∃ (j : Nat), (((j : Int) ≤ (rhear ((cs.take i).foldl rhear receiver0) x).next)) ∧ n_ = (rhear ((cs.take i).foldl rhear receiver0) x).next.toNat - j ∧ E = ⟨[(3, .mp 3), (4, .ptr 4 0), (6, .ptr 6 0), (7, .lit (.bool (decide (((intCells ((cs.take i).foldl rhear receiver0).early).length : Int) < 3)))), (19, .shr 6 (chunkCells cs)), (20, .lit (.int .i64 (chunkCells cs).length)), (21, .lit (.int .i64 i)), (9, .ptr 9 0), (11, .mp 11), (69, .lit (.int .i64 (rhear ((cs.take i).foldl rhear receiver0) x).next)), (70, .lit (.int .i64 j))], [(3, .set ((cs.take i).map (fun c => c.num) ++ [x.num])), (4, .box (receiverAV (rhear ((cs.take i).foldl rhear receiver0) x))), (6, .box (chunkAV x)), (9, .box (chunkAV ⟨2, (rhear ((cs.take i).foldl rhear receiver0) x).next, 0, 0, [], (rhear ((cs.take i).foldl rhear receiver0) x).early⟩)), (11, .set ((List.range j).map (fun i : Nat => (i : Int))))], 105⟩) (n0 := _) (E0 := _) (⟨0, by omega, rfl, rfl⟩) (ren [(3, 3), (4, 4), (6, 122), (9, 124), (11, 125)]) (mk_wk [(3, 3), (4, 4), (6, 122), (9, 124), (11, 125)] rfl rfl ⟨⟨_, rfl, (.mp _ _ rfl (lookNe rfl))⟩, ⟨_, rfl, (.ptr _ _ _ rfl (lookNe rfl))⟩, ⟨_, rfl, (.ptr _ _ _ rfl (lookNe rfl))⟩, ⟨_, rfl, (.lit _)⟩, ⟨_, rfl, (.shr _ _)⟩, ⟨_, rfl, (.lit _)⟩, ⟨_, rfl, (.lit _)⟩, ⟨_, rfl, (.ptr _ _ _ rfl (lookNe rfl))⟩, ⟨_, rfl, (.mp _ _ rfl (lookNe rfl))⟩, ⟨_, rfl, (.lit _)⟩, ⟨_, rfl, (subI (by rfl))⟩, trivial⟩ ⟨⟨_, rfl, rfl⟩, ⟨_, _, rfl, rfl, (subPL rfl)⟩, ⟨_, _, rfl, rfl, (subPL rfl)⟩, ⟨_, _, rfl, rfl, (subPL rfl)⟩, ⟨_, rfl, rfl⟩, trivial⟩ (parOk hpar rfl)) (fun n_ E hR => ?_)
       obtain ⟨j, hI, rfl, rfl⟩ := hR
       have hj := hI
       refine vw_seq ?_
       refine vw_region ?_
       refine s_lss rfl rfl rfl trivial (fun h71 => ?_) (fun h71 => ?_)
       ·refine u_end trivial ?_
        refine vw_seq ?_
        refine vw_condT rfl ?_
        refine vw_skip ?_
        refine vw_seq ?_
        refine vw_block ?_
        refine vw_seq ?_
        refine vw_region ?_
        refine u_move rfl rfl trivial ?_
        refine u_assign rfl rfl trivial ?_
        refine u_end trivial ?_
        refine vw_region ?_
        refine u_move rfl rfl trivial ?_
        refine u_move rfl rfl trivial ?_
        refine u_mapIns (.inl rfl) rfl rfl rfl rfl rfl rfl trivial ?_
        refine u_end trivial ?_
        refine vw_region ?_
        refine u_add rfl rfl rfl (by unfold inI; omega) rfl trivial ?_
        refine u_move rfl rfl trivial ?_
        refine u_end trivial ?_
        refine ⟨_, _, ren [(3, 3), (4, 4), (6, 6), (9, 9), (11, 11)], ?_, ⟨j + 1, ?_, rfl, rfl⟩, mk_wk [(3, 3), (4, 4), (6, 6), (9, 9), (11, 11)] rfl rfl ⟨⟨_, rfl, (.mp _ _ rfl (lookNe rfl))⟩, ⟨_, rfl, (.ptr _ _ _ rfl (lookNe rfl))⟩, ⟨_, rfl, (.ptr _ _ _ rfl (lookNe rfl))⟩, ⟨_, rfl, (.lit _)⟩, ⟨_, rfl, (.shr _ _)⟩, ⟨_, rfl, (.lit _)⟩, ⟨_, rfl, (.lit _)⟩, ⟨_, rfl, (.ptr _ _ _ rfl (lookNe rfl))⟩, ⟨_, rfl, (.mp _ _ rfl (lookNe rfl))⟩, ⟨_, rfl, (.lit _)⟩, ⟨_, rfl, (subI (by rfl))⟩, trivial⟩ ⟨⟨_, rfl, rfl⟩, ⟨_, _, rfl, rfl, (subPL rfl)⟩, ⟨_, _, rfl, rfl, (subPL rfl)⟩, ⟨_, _, rfl, rfl, (subPL rfl)⟩, ⟨_, rfl, setEq rfl (by rw [List.range_succ, List.map_append]; rfl)⟩, trivial⟩ (parOk hpar rfl)⟩
        ·omega
        ·omega
       ·refine u_end trivial ?_
        refine vw_seq ?_
        refine vw_condF rfl ?_
        refine vw_exit ?_
        refine iteP rfl ?_
        refine vw_seq ?_
        refine vw_seq ?_
        refine vw_region ?_
        refine u_fieldAddr rfl rfl rfl rfl rfl rfl trivial ?_
        refine u_load1 rfl rfl rfl rfl rfl rfl trivial ?_
        refine u_len rfl rfl rfl trivial ?_
        refine u_move rfl rfl trivial ?_
        refine u_end trivial ?_
        refine vw_block ?_
        refine vw_loopR (fun n_ E => ∃ (q : Nat), ((q ≤ (rhear ((cs.take i).foldl rhear receiver0) x).early.length)) ∧ n_ = (rhear ((cs.take i).foldl rhear receiver0) x).early.length - q ∧ E = ⟨[(3, .mp 3), (4, .ptr 4 0), (6, .ptr 6 0), (7, .lit (.bool (decide (((intCells ((cs.take i).foldl rhear receiver0).early).length : Int) < 3)))), (19, .shr 6 (chunkCells cs)), (20, .lit (.int .i64 (chunkCells cs).length)), (21, .lit (.int .i64 i)), (11, .mp 11), (77, .shr 1 (intCells (rhear ((cs.take i).foldl rhear receiver0) x).early)), (78, .lit (.int .i64 (intCells (rhear ((cs.take i).foldl rhear receiver0) x).early).length)), (79, .lit (.int .i64 q))], [(3, .set ((cs.take i).map (fun c => c.num) ++ [x.num])), (4, .box (receiverAV (rhear ((cs.take i).foldl rhear receiver0) x))), (6, .box (chunkAV x)), (11, .set ((List.range (rhear ((cs.take i).foldl rhear receiver0) x).next.toNat).map (fun i : Nat => (i : Int)) ++ (rhear ((cs.take i).foldl rhear receiver0) x).early.take q))], 105⟩) (n0 := _) (E0 := _) (⟨0, by omega, rfl, rfl⟩) (ren [(3, 3), (4, 4), (6, 6), (11, 11)]) (mk_wk [(3, 3), (4, 4), (6, 6), (11, 11)] rfl rfl ⟨⟨_, rfl, (.mp _ _ rfl (lookNe rfl))⟩, ⟨_, rfl, (.ptr _ _ _ rfl (lookNe rfl))⟩, ⟨_, rfl, (.ptr _ _ _ rfl (lookNe rfl))⟩, ⟨_, rfl, (.lit _)⟩, ⟨_, rfl, (.shr _ _)⟩, ⟨_, rfl, (.lit _)⟩, ⟨_, rfl, (.lit _)⟩, ⟨_, rfl, (.mp _ _ rfl (lookNe rfl))⟩, ⟨_, rfl, (.shr _ _)⟩, ⟨_, rfl, (.lit _)⟩, ⟨_, rfl, (subI (by rfl))⟩, trivial⟩ ⟨⟨_, rfl, rfl⟩, ⟨_, _, rfl, rfl, (subPL rfl)⟩, ⟨_, _, rfl, rfl, (subPL rfl)⟩, ⟨_, rfl, setEq rfl (by rw [show (rhear ((cs.take i).foldl rhear receiver0) x).next.toNat = j by omega]; simp)⟩, trivial⟩ (parOk hpar rfl)) (fun n_ E hR => ?_)
        obtain ⟨q, hI, rfl, rfl⟩ := hR
        have hq := hI
        refine vw_seq ?_
        refine vw_region ?_
        refine s_lss rfl rfl rfl trivial (fun h80 => ?_) (fun h80 => ?_)
        ·refine u_end trivial ?_
         refine vw_seq ?_
         refine vw_condT rfl ?_
         refine vw_skip ?_
         refine vw_seq ?_
         refine vw_block ?_
         refine vw_seq ?_
         rw [intCells_length] at h80
         obtain ⟨ee, hge⟩ : ∃ ee, (rhear ((cs.take i).foldl rhear receiver0) x).early[q]? = some ee := ⟨_, List.getElem?_eq_getElem (by omega)⟩
         refine vw_region ?_
         refine u_indexS rfl rfl rfl rfl rfl rfl (intCells_get hge) rfl trivial ?_
         refine u_loadS1 rfl rfl rfl rfl rfl trivial ?_
         refine u_assign rfl rfl trivial ?_
         refine u_end trivial ?_
         refine vw_region ?_
         refine u_move rfl rfl trivial ?_
         refine u_move rfl rfl trivial ?_
         refine u_mapIns (.inl rfl) rfl rfl rfl rfl rfl rfl trivial ?_
         refine u_end trivial ?_
         refine vw_region ?_
         refine u_add rfl rfl rfl (by unfold inI; omega) rfl trivial ?_
         refine u_move rfl rfl trivial ?_
         refine u_end trivial ?_
         refine ⟨_, _, ren [(3, 3), (4, 4), (6, 6), (11, 11)], ?_, ⟨q + 1, ?_, rfl, rfl⟩, mk_wk [(3, 3), (4, 4), (6, 6), (11, 11)] rfl rfl ⟨⟨_, rfl, (.mp _ _ rfl (lookNe rfl))⟩, ⟨_, rfl, (.ptr _ _ _ rfl (lookNe rfl))⟩, ⟨_, rfl, (.ptr _ _ _ rfl (lookNe rfl))⟩, ⟨_, rfl, (.lit _)⟩, ⟨_, rfl, (.shr _ _)⟩, ⟨_, rfl, (.lit _)⟩, ⟨_, rfl, (.lit _)⟩, ⟨_, rfl, (.mp _ _ rfl (lookNe rfl))⟩, ⟨_, rfl, (.shr _ _)⟩, ⟨_, rfl, (.lit _)⟩, ⟨_, rfl, (subI (by rfl))⟩, trivial⟩ ⟨⟨_, rfl, rfl⟩, ⟨_, _, rfl, rfl, (subPL rfl)⟩, ⟨_, _, rfl, rfl, (subPL rfl)⟩, ⟨_, rfl, setEq rfl (by rw [List.take_add_one, hge]; simp)⟩, trivial⟩ (parOk hpar rfl)⟩
         ·omega
         ·omega
        ·refine u_end trivial ?_
         refine vw_seq ?_
         refine vw_condF rfl ?_
         refine vw_exit ?_
         refine iteP rfl ?_
         refine vw_seq ?_
         refine vw_seq ?_
         rw [intCells_length] at h80
         rw [List.take_of_length_le (show (rhear ((cs.take i).foldl rhear receiver0) x).early.length ≤ q by omega)]
         refine vw_openSet (k := 11) (l := toldL (rhear ((cs.take i).foldl rhear receiver0) x)) rfl fun mb es clock hA hB hC => ?_
         ·refine vw_region ?_
          refine u_move rfl rfl trivial ?_
          refine u_range 166 rfl rfl rfl (notPar hpar rfl) rfl rfl trivial ?_
          refine u_end trivial ?_
          refine vw_block ?_
          refine vw_loopR (fun n_ E => ∃ (seen : Array Nat), ((True)) ∧ n_ = (leftOf es seen).size ∧ E = ⟨[(3, .mp 3), (4, .ptr 4 0), (6, .ptr 6 0), (7, .lit (.bool (decide (((intCells ((cs.take i).foldl rhear receiver0).early).length : Int) < 3)))), (19, .shr 6 (chunkCells cs)), (20, .lit (.int .i64 (chunkCells cs).length)), (21, .lit (.int .i64 i)), (11, .mp 11), (87, .ptr 12 0)], [(3, .set ((cs.take i).map (fun c => c.num) ++ [x.num])), (4, .box (receiverAV (rhear ((cs.take i).foldl rhear receiver0) x))), (6, .box (chunkAV x)), (11, .raw (mapP mb es clock)), (12, .raw (itP mb clock seen clock))], 105⟩) (n0 := _) (E0 := _) (⟨#[], by trivial, rfl, rfl⟩) (ren [(3, 3), (4, 4), (6, 6), (11, 11), (12, 166)]) (mk_wk [(3, 3), (4, 4), (6, 6), (11, 11), (12, 166)] rfl rfl ⟨⟨_, rfl, (.mp _ _ rfl (lookNe rfl))⟩, ⟨_, rfl, (.ptr _ _ _ rfl (lookNe rfl))⟩, ⟨_, rfl, (.ptr _ _ _ rfl (lookNe rfl))⟩, ⟨_, rfl, (.lit _)⟩, ⟨_, rfl, (.shr _ _)⟩, ⟨_, rfl, (.lit _)⟩, ⟨_, rfl, (.lit _)⟩, ⟨_, rfl, (.mp _ _ rfl (lookNe rfl))⟩, ⟨_, rfl, (.ptr _ _ _ rfl (lookNe rfl))⟩, trivial⟩ ⟨⟨_, rfl, rfl⟩, ⟨_, _, rfl, rfl, (subPL rfl)⟩, ⟨_, _, rfl, rfl, (subPL rfl)⟩, ⟨_, _, rfl, rfl, fun _ _ h => h⟩, ⟨_, _, rfl, rfl, fun _ _ h => h⟩, trivial⟩ (parOk hpar rfl)) (fun n_ E hR => ?_)
          obtain ⟨seen, hI, rfl, rfl⟩ := hR
          have hI0 := hI
          refine vw_seq ?_
          refine vw_regionMid 0 ⟨trivial, ?_⟩
          refine vx_next (k := 11) rfl rfl rfl (hC.1) (Nat.le_refl _) (fun e he => (hA e he).imp fun m h => h.2) (show 88 < 105 by decide) (fun hl => ?_) (fun en hen m hm hv => ?_)
          ·refine VX.of (log := []) ?_
           refine u_extract rfl rfl rfl trivial ?_
           refine u_end trivial ?_
           refine vw_seq ?_
           refine vw_condF rfl ?_
           refine vw_exit ?_
           refine iteP rfl ?_
           refine vw_seq ?_
           refine vw_closeSet (k := 11) (l := toldL (rhear ((cs.take i).foldl rhear receiver0) x)) rfl hA hB hC ?_
           ·refine vw_region ?_
            refine s_move rfl rfl trivial (fun h96 => ?_) (fun h96 => ?_)
            ·refine u_move rfl rfl trivial ?_
             refine u_move rfl rfl ⟨_, _, rfl, rfl, rfl, rfl⟩ ?_
             refine u_fieldAddr rfl rfl rfl rfl rfl rfl ⟨_, _, rfl, rfl, rfl, rfl⟩ ?_
             refine u_load1 rfl rfl rfl rfl rfl rfl ⟨_, _, rfl, rfl, rfl, rfl⟩ ?_
             refine s_lookup rfl rfl rfl rfl rfl rfl zero4 rfl ⟨_, _, rfl, rfl, rfl, rfl⟩ (fun h101 => ?_) (fun h101 => ?_)
             ·refine u_not rfl rfl ⟨_, _, rfl, rfl, rfl, rfl⟩ ?_
              refine u_pickT rfl rfl rfl trivial ?_
              refine u_end trivial ?_
              refine vw_condF rfl ?_
              refine vw_skip ?_
              refine vw_region ?_
              refine u_add rfl rfl rfl (by unfold inI; omega) rfl trivial ?_
              refine u_move rfl rfl trivial ?_
              refine u_end trivial ?_
              refine ⟨_, _, ren [(3, 3), (4, 4)], ?_, ⟨i + 1, ?_, rfl, rfl⟩, mk_wk [(3, 3), (4, 4)] rfl rfl ⟨⟨_, rfl, (.mp _ _ rfl (lookNe rfl))⟩, ⟨_, rfl, (.ptr _ _ _ rfl (lookNe rfl))⟩, ⟨_, rfl, (.shr _ _)⟩, ⟨_, rfl, (.lit _)⟩, ⟨_, rfl, (subI (by rfl))⟩, trivial⟩ ⟨⟨_, rfl, setEq rfl (by rw [hnl])⟩, ⟨_, _, rfl, rfl, (.cons (subI (by rw [← fold_snoc hx])) (.cons (subS (by rw [← fold_snoc hx])) (.cons (subI (by rw [← fold_snoc hx])) (.cons (subI (by rw [← fold_snoc hx])) (.cons (subI (by rw [← fold_snoc hx])) (.cons (subS (by rw [← fold_snoc hx])) (.cons (subS (by rw [← fold_snoc hx])) (.cons (subB (by rw [← fold_snoc hx])) .nil))))))))⟩, trivial⟩ (parOk hpar rfl)⟩
              ·omega
              ·exact ⟨by omega, all_snoc ha hx (by omega), by rw [← fold_snoc hx, hnl]; exact says_got hri hc0 hg⟩
             ·have hcb : (toldL (rhear ((cs.take i).foldl rhear receiver0) x)).contains x.num = true := List.contains_iff_mem.2 ((toldL_got hrx).2 ⟨(wrong_ok hc0).1.1, room_got hri hc0 hk1 (.inr (by have hd := of_decide_eq_true h96; rw [intCells_length] at hd; omega))⟩)
              rw [hcb] at h101; cases h101
            ·refine u_move rfl rfl trivial ?_
             refine u_skip rfl rfl rfl rfl rfl ?_
             refine u_skip rfl rfl rfl rfl rfl ?_
             refine u_skip rfl rfl rfl rfl rfl ?_
             refine u_skip rfl rfl rfl rfl rfl ?_
             refine u_skip rfl rfl rfl rfl rfl ?_
             refine u_pickF rfl rfl rfl trivial ?_
             refine u_end trivial ?_
             refine vw_condF rfl ?_
             refine vw_skip ?_
             refine vw_region ?_
             refine u_add rfl rfl rfl (by unfold inI; omega) rfl trivial ?_
             refine u_move rfl rfl trivial ?_
             refine u_end trivial ?_
             refine ⟨_, _, ren [(3, 3), (4, 4)], ?_, ⟨i + 1, ?_, rfl, rfl⟩, mk_wk [(3, 3), (4, 4)] rfl rfl ⟨⟨_, rfl, (.mp _ _ rfl (lookNe rfl))⟩, ⟨_, rfl, (.ptr _ _ _ rfl (lookNe rfl))⟩, ⟨_, rfl, (.shr _ _)⟩, ⟨_, rfl, (.lit _)⟩, ⟨_, rfl, (subI (by rfl))⟩, trivial⟩ ⟨⟨_, rfl, setEq rfl (by rw [hnl])⟩, ⟨_, _, rfl, rfl, (.cons (subI (by rw [← fold_snoc hx])) (.cons (subS (by rw [← fold_snoc hx])) (.cons (subI (by rw [← fold_snoc hx])) (.cons (subI (by rw [← fold_snoc hx])) (.cons (subI (by rw [← fold_snoc hx])) (.cons (subS (by rw [← fold_snoc hx])) (.cons (subS (by rw [← fold_snoc hx])) (.cons (subB (by rw [← fold_snoc hx])) .nil))))))))⟩, trivial⟩ (parOk hpar rfl)⟩
             ·omega
             ·exact ⟨by omega, all_snoc ha hx (by omega), by rw [← fold_snoc hx, hnl]; exact says_got hri hc0 hg⟩
          ·refine VX.of (log := []) ?_
           refine u_extract rfl rfl rfl trivial ?_
           refine u_end trivial ?_
           refine vw_seq ?_
           refine vw_condT rfl ?_
           refine vw_skip ?_
           refine vw_block ?_
           refine vw_seq ?_
           refine vw_region ?_
           refine u_entry (k := 11) rfl rfl rfl (left_mem hen) (hC) (hm) (hv) rfl trivial ?_
           refine u_extract rfl rfl rfl trivial ?_
           refine u_assign rfl rfl trivial ?_
           refine u_end trivial ?_
           refine vw_seq ?_
           have hmt : m ∈ toldL (rhear ((cs.take i).foldl rhear receiver0) x) := by
             obtain ⟨m2, hm2, e2, _⟩ := hA en (left_mem hen)
             rw [hm] at e2; injection e2 with _ e2; rw [e2]; exact hm2
           have hmg := (toldL_got hrx).1 hmt
           have hcm := says_got hri hc0 hg m hmg.1 hmg.2
           refine vw_region ?_
           refine u_move rfl rfl trivial ?_
           refine u_move rfl rfl trivial ?_
           refine s_lookup rfl rfl rfl rfl rfl rfl zero4 rfl trivial (fun h94 => ?_) (fun h94 => ?_)
           ·refine u_not rfl rfl trivial ?_
            refine u_end trivial ?_
            refine vw_condF rfl ?_
            refine vw_skip ?_
            refine ⟨_, _, ren [(3, 3), (4, 4), (6, 6), (11, 11), (12, 12)], ?_, ⟨seen.push en.born, ?_, rfl, rfl⟩, mk_wk [(3, 3), (4, 4), (6, 6), (11, 11), (12, 12)] rfl rfl ⟨⟨_, rfl, (.mp _ _ rfl (lookNe rfl))⟩, ⟨_, rfl, (.ptr _ _ _ rfl (lookNe rfl))⟩, ⟨_, rfl, (.ptr _ _ _ rfl (lookNe rfl))⟩, ⟨_, rfl, (.lit _)⟩, ⟨_, rfl, (.shr _ _)⟩, ⟨_, rfl, (.lit _)⟩, ⟨_, rfl, (.lit _)⟩, ⟨_, rfl, (.mp _ _ rfl (lookNe rfl))⟩, ⟨_, rfl, (.ptr _ _ _ rfl (lookNe rfl))⟩, trivial⟩ ⟨⟨_, rfl, rfl⟩, ⟨_, _, rfl, rfl, (subPL rfl)⟩, ⟨_, _, rfl, rfl, (subPL rfl)⟩, ⟨_, _, rfl, rfl, fun _ _ h => h⟩, ⟨_, _, rfl, rfl, fun _ _ h => h⟩, trivial⟩ (parOk hpar rfl)⟩
            ·exact left_less hen
            ·trivial
           ·have hcb : ((cs.take i).map (fun c => c.num) ++ [x.num]).contains m = true := List.contains_iff_mem.2 hcm
            rw [hcb] at h94; cases h94
 ·refine u_end trivial ?_
  refine vw_seq ?_
  refine vw_condF rfl ?_
  refine vw_exit ?_
  refine iteP rfl ?_
  refine vw_seq ?_
  refine vw_region ?_
  refine u_assign rfl rfl trivial ?_
  refine u_end trivial ?_
  refine vw_ret ?_
  refine fin0 (.inr rfl) (.cons (.tmp rfl (nb rfl)) .nil) (subB ?_)
  ·rfl
end Go.Proofs.Ytaadloihphpdbaa
