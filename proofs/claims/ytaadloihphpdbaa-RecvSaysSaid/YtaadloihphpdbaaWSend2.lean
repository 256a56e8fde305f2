/- Walks of the package send and of the document's answer to it: what is said, and heard. Printed by a small program (walk.py). -/
import Derived.Test.YtaadloihphpdbaaWSend
set_option linter.unusedVariables false
set_option linter.unusedSimpArgs false
set_option maxRecDepth 4000
namespace Go.Proofs.Ytaadloihphpdbaa
open Go Go.Vc Go.RowKit
/-- The first place of what is so; below 0: none. -/
def idxP {α : Type} (p : α → Bool) (l : List α) : Int := if l.any p then (l.findIdx p : Nat) else -1
theorem any_snoc {α : Type} {p : α → Bool} {l : List α} {i : Nat} (h : i < l.length) : (l.take (i + 1)).any p = ((l.take i).any p || p (l[i]'h)) := by
  rw [← List.take_append_getElem h, List.any_append]; simp
theorem idxP_at {α : Type} {p : α → Bool} {l : List α} {i : Nat} (h : i < l.length) (hb : (l.take i).any p = false) (hp : p (l[i]'h) = true) : idxP p l = i := by
  unfold idxP
  rw [if_pos (List.any_eq_true.2 ⟨_, List.getElem_mem h, hp⟩)]
  congr 1
  rw [List.findIdx_eq h]
  refine ⟨hp, fun j hj => ?_⟩
  have := List.any_eq_false.1 hb (l[j]'(by omega)) (by rw [List.mem_take_iff_getElem]; exact ⟨j, by omega, rfl⟩)
  simpa using this
theorem idxP_no {α : Type} {p : α → Bool} {l : List α} (hb : l.any p = false) : idxP p l = -1 := by
  unfold idxP; rw [if_neg (by rw [hb]; decide)]
theorem idxP_ge {α : Type} {p : α → Bool} {l : List α} : decide (0 ≤ idxP p l) = l.any p := by
  unfold idxP
  cases l.any p <;> simp
theorem any_eq {l : List Int} {n : Int} : l.any (fun x => n == x) = l.contains n := by
  rw [List.contains_eq_any_beq]
/-- Where the first one told stands, if there is one. -/
theorem idxP_yes {α : Type} {p : α → Bool} {l : List α} (h : idxP p l ≠ -1) : ∃ i, ∃ h : i < l.length, idxP p l = (i : Nat) ∧ p (l[i]'h) = true ∧ ∀ j (hj : j < i), p (l[j]'(by omega)) = false := by
  cases ha : l.any p with
  | false => exact absurd (idxP_no ha) h
  | true =>
    obtain ⟨x, hx, hpx⟩ := List.any_eq_true.1 ha
    have hl : l.findIdx p < l.length := List.findIdx_lt_length_of_exists ⟨x, hx, hpx⟩
    refine ⟨l.findIdx p, hl, by unfold idxP; rw [if_pos ha], List.findIdx_getElem, fun j hj => ?_⟩
    have := List.not_of_lt_findIdx hj
    simpa using this
theorem filter_none {p : Chunk → Bool} {l : List Chunk} {i : Nat} (h : i ≤ l.length) (hb : ∀ j (hj : j < i), p (l[j]'(by omega)) = false) : (l.take i).filter (fun x => !p x) = l.take i := by
  rw [List.filter_eq_self]
  intro a ha
  obtain ⟨j, hj, rfl⟩ := List.mem_take_iff_getElem.1 ha
  rw [hb j (by omega)]; rfl
theorem keeps_is (c : Chunk) : keeps c = fun x => !told c x := rfl
theorem idx_told {c : Chunk} {l : List Chunk} (h : idxP (told c) l = -1) : l.filter (keeps c) = l := by
  rw [List.filter_eq_self]
  intro a ha
  cases hp : told c a with
  | false => unfold keeps; rw [hp]; rfl
  | true =>
    exfalso
    have : l.any (told c) = true := List.any_eq_true.2 ⟨a, ha, hp⟩
    unfold idxP at h
    rw [if_pos this] at h
    omega
theorem drop_get {α : Type} {W l : List α} {j : Nat} (h : W.drop j = l.drop j) (hw : j < W.length) (hl : j < l.length) : W[j] = l[j] := by
  have e1 := List.drop_eq_getElem_cons hw
  have e2 := List.drop_eq_getElem_cons hl
  rw [h, e2] at e1
  exact (List.cons.inj e1).1.symm
theorem drop_next {α : Type} {W l : List α} {j : Nat} (h : W.drop j = l.drop j) : W.drop (j + 1) = l.drop (j + 1) := by
  rw [← List.drop_drop, ← List.drop_drop, h]

theorem c161 (l : List Int) (n : Int) : VFun G 161 [.shr 1 (intCells l), .lit (.int .i64 n)] [] (.lit (.int .i64 (idxP (fun x => n == x) l))) [] := by
 refine VFun.intro (fn := Try.f161) rfl rfl (by kernel_rfl) (nb rfl) fun Γ hpar => ?_
 refine vw_seq ?_
 refine vw_len (t := 0) rfl fun hl => ?_
 rw [intCells_length] at hl
 refine vw_region ?_
 refine u_assign rfl rfl trivial ?_
 refine u_end trivial ?_
 refine vw_seq ?_
 refine vw_seq ?_
 refine vw_region ?_
 refine u_move rfl rfl trivial ?_
 refine u_len rfl rfl rfl trivial ?_
 refine u_move rfl rfl trivial ?_
 refine u_end trivial ?_
 refine vw_block ?_
 refine vw_loopR (fun n_ E => ∃ (i : Nat), ((i ≤ l.length) ∧ ((l.take i).any (fun x => n == x) = false)) ∧ n_ = l.length - i ∧ E = ⟨[(0, .shr 1 (intCells l)), (1, .lit (.int .i64 n)), (7, .lit (.int .i64 (intCells l).length)), (8, .lit (.int .i64 i))], [], 19⟩) (n0 := _) (E0 := _) (⟨0, by exact ⟨Nat.zero_le _, rfl⟩, rfl, rfl⟩) (ren []) (mk_wk [] rfl rfl ⟨⟨_, rfl, (.shr _ _)⟩, ⟨_, rfl, (.lit _)⟩, ⟨_, rfl, (.lit _)⟩, ⟨_, rfl, (.lit _)⟩, trivial⟩ trivial (parOk hpar rfl)) (fun n_ E hR => ?_)
 obtain ⟨i, hI, rfl, rfl⟩ := hR
 obtain ⟨hI0, hI1⟩ := hI
 refine vw_seq ?_
 refine vw_region ?_
 refine s_lss rfl rfl rfl trivial (fun h9 => ?_) (fun h9 => ?_)
 ·refine u_end trivial ?_
  refine vw_seq ?_
  refine vw_condT rfl ?_
  refine vw_skip ?_
  refine vw_seq ?_
  refine vw_block ?_
  refine vw_seq ?_
  refine vw_region ?_
  refine u_move rfl rfl trivial ?_
  refine u_assign rfl rfl trivial ?_
  refine u_end trivial ?_
  refine vw_seq ?_
  rw [intCells_length] at h9
  refine vw_region ?_
  refine u_move rfl rfl trivial ?_
  refine u_move rfl rfl trivial ?_
  refine u_move rfl rfl trivial ?_
  refine u_indexS rfl rfl rfl rfl rfl rfl (intCells_get (List.getElem?_eq_getElem (by omega))) rfl trivial ?_
  refine u_loadS1 rfl rfl rfl rfl rfl trivial ?_
  refine s_eql rfl rfl rfl trivial (fun h16 => ?_) (fun h16 => ?_)
  ·refine u_end trivial ?_
   refine vw_condT rfl ?_
   refine vw_seq ?_
   refine vw_region ?_
   refine u_move rfl rfl trivial ?_
   refine u_assign rfl rfl trivial ?_
   refine u_end trivial ?_
   refine vw_ret ?_
   refine fin' [] (.inr rfl) (.cons (.tmp rfl (nb rfl)) .nil) (mk_wk [] rfl rfl ⟨⟨_, rfl, (subI ?_)⟩, trivial⟩ trivial (parOk rfl rfl))
   all_goals (try rfl)
   all_goals
     exact idxP_at (by omega) hI1 (by simp [h16])
  ·refine u_end trivial ?_
   refine vw_condF rfl ?_
   refine vw_skip ?_
   refine vw_region ?_
   refine u_add rfl rfl rfl (by unfold inI; omega) rfl trivial ?_
   refine u_move rfl rfl trivial ?_
   refine u_end trivial ?_
   refine ⟨_, _, ren [], ?_, ⟨i + 1, ?_, rfl, rfl⟩, mk_wk [] rfl rfl ⟨⟨_, rfl, (.shr _ _)⟩, ⟨_, rfl, (.lit _)⟩, ⟨_, rfl, (.lit _)⟩, ⟨_, rfl, (.lit _)⟩, trivial⟩ trivial (parOk hpar rfl)⟩
   ·omega
   ·refine ⟨by omega, ?_⟩
    rw [any_snoc (by omega), hI1]; simp [h16]
 ·refine u_end trivial ?_
  refine vw_seq ?_
  refine vw_condF rfl ?_
  refine vw_exit ?_
  refine iteP rfl ?_
  refine vw_seq ?_
  rw [intCells_length] at h9
  refine vw_region ?_
  refine u_assign rfl rfl trivial ?_
  refine u_end trivial ?_
  refine vw_ret ?_
  refine fin' [] (.inr rfl) (.cons (.tmp rfl (nb rfl)) .nil) (mk_wk [] rfl rfl ⟨⟨_, rfl, (subI ?_)⟩, trivial⟩ trivial (parOk rfl rfl))
  all_goals (try rfl)
  all_goals
    rw [List.take_of_length_le (by omega)] at hI1; exact idxP_no hI1
theorem c145 (l : List Int) (n : Int) : VFun G 145 [.shr 1 (intCells l), .lit (.int .i64 n)] [] (.lit (.bool (l.contains n))) [] := by
 refine VFun.intro (fn := Try.f145) rfl rfl (by kernel_rfl) (nb rfl) fun Γ hpar => ?_
 refine vw_seq ?_
 refine vw_region ?_
 refine u_assign rfl rfl trivial ?_
 refine u_end trivial ?_
 refine vw_seq ?_
 refine vw_region ?_
 refine u_move rfl rfl trivial ?_
 refine u_move rfl rfl trivial ?_
 refine u_call rfl (c161 _ _) (.cons ((.shr _ _)) (.cons ((.lit _)) .nil)) rfl trivial ?_
 refine u_geq rfl rfl rfl trivial ?_
 refine u_assign rfl rfl trivial ?_
 refine u_end trivial ?_
 refine vw_ret ?_
 refine fin' [] (.inr rfl) (.cons (.tmp rfl (nb rfl)) .nil) (mk_wk [] rfl rfl ⟨⟨_, rfl, (subB ?_)⟩, trivial⟩ trivial (parOk rfl rfl))
 all_goals (try rfl)
 all_goals
   rw [idxP_ge, any_eq]
theorem c144 (c x : Chunk) : VFun G 144 [.agg (chunkAV x), .ptr 101 0] [(101, .box (chunkAV c))] (.lit (.bool (told c x))) [(101, .box (chunkAV c))] := by
 refine VFun.intro (fn := Try.f144) rfl rfl (by kernel_rfl) (nb rfl) fun Γ hpar => ?_
 refine vw_seq ?_
 refine vw_region ?_
 refine u_box 100 rfl rfl rfl (notPar hpar rfl) rfl rfl trivial ?_
 refine u_assign rfl rfl trivial ?_
 refine u_end trivial ?_
 refine vw_seq ?_
 refine vw_region ?_
 refine u_fieldAddr rfl rfl rfl rfl rfl rfl trivial ?_
 refine u_load1 rfl rfl rfl rfl rfl rfl trivial ?_
 refine u_fieldAddr rfl rfl rfl rfl rfl rfl trivial ?_
 refine u_load1 rfl rfl rfl rfl rfl rfl trivial ?_
 refine s_lss rfl rfl rfl trivial (fun h8 => ?_) (fun h8 => ?_)
 ·refine u_move rfl rfl trivial ?_
  refine u_skip rfl rfl rfl rfl rfl ?_
  refine u_skip rfl rfl rfl rfl rfl ?_
  refine u_skip rfl rfl rfl rfl rfl ?_
  refine u_skip rfl rfl rfl rfl rfl ?_
  refine u_skip rfl rfl rfl rfl rfl ?_
  refine u_pickT rfl rfl rfl trivial ?_
  refine u_assign rfl rfl trivial ?_
  refine u_end trivial ?_
  refine vw_ret ?_
  refine fin' [(101, 101)] (.inr rfl) (.cons (.tmp rfl (nb rfl)) .nil) (mk_wk [(101, 101)] rfl rfl ⟨⟨_, rfl, (subB ?_)⟩, trivial⟩ ⟨⟨_, _, rfl, rfl, (.cons (subI ?_) (.cons (subI ?_) (.cons (subI ?_) (.cons (subI ?_) (.cons (subS ?_) (.cons (subS ?_) .nil))))))⟩, trivial⟩ (parOk rfl rfl))
  all_goals (try rfl)
  all_goals
    unfold told; first | (rw [decide_eq_true (by omega)]; rfl) | (rw [decide_eq_false (by omega)]; rfl)
 ·refine u_move rfl rfl trivial ?_
  refine u_fieldAddr rfl rfl rfl rfl rfl rfl ⟨_, _, rfl, rfl, rfl, rfl⟩ ?_
  refine u_load1 rfl rfl rfl rfl rfl rfl ⟨_, _, rfl, rfl, rfl, rfl⟩ ?_
  refine u_fieldAddr rfl rfl rfl rfl rfl rfl ⟨_, _, rfl, rfl, rfl, rfl⟩ ?_
  refine u_load1 rfl rfl rfl rfl rfl rfl ⟨_, _, rfl, rfl, rfl, rfl⟩ ?_
  refine u_call rfl (c145 _ _) (.cons ((.shr _ _)) (.cons ((.lit _)) .nil)) rfl ⟨_, _, rfl, rfl, rfl, rfl⟩ ?_
  refine u_pickF rfl rfl rfl trivial ?_
  refine u_assign rfl rfl trivial ?_
  refine u_end trivial ?_
  refine vw_ret ?_
  refine fin' [(101, 101)] (.inr rfl) (.cons (.tmp rfl (nb rfl)) .nil) (mk_wk [(101, 101)] rfl rfl ⟨⟨_, rfl, (subB ?_)⟩, trivial⟩ ⟨⟨_, _, rfl, rfl, (.cons (subI ?_) (.cons (subI ?_) (.cons (subI ?_) (.cons (subI ?_) (.cons (subS ?_) (.cons (subS ?_) .nil))))))⟩, trivial⟩ (parOk rfl rfl))
  all_goals (try rfl)
  all_goals
    unfold told; first | (rw [decide_eq_true (by omega)]; rfl) | (rw [decide_eq_false (by omega)]; rfl)
theorem c160s (c : Chunk) (l : List Chunk) (hll : l.length ≤ 1000000) : VFun G 160 [.row 902, .clo 144 [.ptr 101 0]] [(902, .row 77 6 (chunkCells l)), (101, .box (chunkAV c))] (.lit (.int .i64 (idxP (told c) l))) [(902, .row 77 6 (chunkCells l)), (101, .box (chunkAV c))] := by
 refine VFun.intro (fn := Try.f160) rfl rfl (by kernel_rfl) (nb rfl) fun Γ hpar => ?_
 refine vw_seq ?_
 refine vw_region ?_
 refine u_assign rfl rfl trivial ?_
 refine u_end trivial ?_
 refine vw_seq ?_
 refine vw_seq ?_
 refine vw_region ?_
 refine u_move rfl rfl trivial ?_
 refine u_lenR rfl rfl rfl rfl trivial ?_
 refine u_move rfl rfl trivial ?_
 refine u_end trivial ?_
 refine vw_block ?_
 refine vw_loopR (fun n_ E => ∃ (i : Nat), ((i ≤ l.length) ∧ ((l.take i).any (told c) = false)) ∧ n_ = l.length - i ∧ E = ⟨[(0, .row 902), (1, .clo 144 [.ptr 101 0]), (7, .lit (.int .i64 (chunkCells l).length)), (8, .lit (.int .i64 i))], [(902, .row 77 6 (chunkCells l)), (101, .box (chunkAV c))], 19⟩) (n0 := _) (E0 := _) (⟨0, by exact ⟨Nat.zero_le _, rfl⟩, rfl, rfl⟩) (ren [(101, 101), (902, 902)]) (mk_wk [(101, 101), (902, 902)] rfl rfl ⟨⟨_, rfl, (.row _ _ rfl (lookNe rfl))⟩, ⟨_, rfl, (.clo _ _ _ (.cons (.ptr _ _ _ rfl (lookNe rfl)) .nil))⟩, ⟨_, rfl, (.lit _)⟩, ⟨_, rfl, (.lit _)⟩, trivial⟩ ⟨(.inl ⟨_, rfl, rfl⟩), ⟨_, _, rfl, rfl, (subPL rfl)⟩, trivial⟩ (parOk hpar rfl)) (fun n_ E hR => ?_)
 obtain ⟨i, hI, rfl, rfl⟩ := hR
 obtain ⟨hI0, hI1⟩ := hI
 refine vw_seq ?_
 refine vw_region ?_
 refine s_lss rfl rfl rfl trivial (fun h9 => ?_) (fun h9 => ?_)
 ·refine u_end trivial ?_
  refine vw_seq ?_
  refine vw_condT rfl ?_
  refine vw_skip ?_
  refine vw_seq ?_
  refine vw_block ?_
  refine vw_seq ?_
  refine vw_region ?_
  refine u_move rfl rfl trivial ?_
  refine u_assign rfl rfl trivial ?_
  refine u_end trivial ?_
  refine vw_seq ?_
  rw [chunkCells_length] at h9
  refine vw_region ?_
  refine u_move rfl rfl trivial ?_
  refine u_move rfl rfl trivial ?_
  refine u_move rfl rfl trivial ?_
  refine u_indexR rfl rfl rfl rfl rfl rfl rfl (by rw [chunkCells_length]; omega) rfl trivial ?_
  refine u_loadRowAll rfl rfl (chunkCells_get (by omega)) rfl rfl rfl rfl trivial ?_
  refine u_callO [(101, 101)] [] [] rfl rfl (c144 c _) (inc_cons (k0 := 101) rfl inc_nil) ⟨⟨_, _, rfl, rfl, (subPL rfl)⟩, trivial⟩ (.cons ((subP rfl)) (.cons ((.ptr _ _ _ rfl (lookNe rfl))) .nil)) rfl rfl (newPar hpar rfl) rfl trivial ?_
  refine u_end trivial ?_
  refine vw_cond rfl (fun hc1 => ?_) (fun hc1 => ?_)
  ·refine vw_seq ?_
   refine vw_region ?_
   refine u_move rfl rfl trivial ?_
   refine u_assign rfl rfl trivial ?_
   refine u_end trivial ?_
   refine vw_ret ?_
   refine fin' [(101, 101), (902, 902)] (.inr rfl) (.cons (.tmp rfl (nb rfl)) .nil) (mk_wk [(101, 101), (902, 902)] rfl rfl ⟨⟨_, rfl, (subI ?_)⟩, trivial⟩ ⟨(.inl ⟨_, rfl, rowEq rfl ?_⟩), ⟨_, _, rfl, rfl, (.cons (subI ?_) (.cons (subI ?_) (.cons (subI ?_) (.cons (subI ?_) (.cons (subS ?_) (.cons (subS ?_) .nil))))))⟩, trivial⟩ (parOk rfl rfl))
   all_goals (try rfl)
   all_goals
     exact idxP_at (by omega) hI1 hc1
  ·refine vw_skip ?_
   refine vw_region ?_
   refine u_add rfl rfl rfl (by unfold inI; omega) rfl trivial ?_
   refine u_move rfl rfl trivial ?_
   refine u_end trivial ?_
   refine ⟨_, _, ren [(101, 101), (902, 902)], ?_, ⟨i + 1, ?_, rfl, rfl⟩, mk_wk [(101, 101), (902, 902)] rfl rfl ⟨⟨_, rfl, (.row _ _ rfl (lookNe rfl))⟩, ⟨_, rfl, (.clo _ _ _ (.cons (.ptr _ _ _ rfl (lookNe rfl)) .nil))⟩, ⟨_, rfl, (.lit _)⟩, ⟨_, rfl, (.lit _)⟩, trivial⟩ ⟨(.inl ⟨_, rfl, rfl⟩), ⟨_, _, rfl, rfl, (subPL rfl)⟩, trivial⟩ (parOk hpar rfl)⟩
   ·omega
   ·refine ⟨by omega, ?_⟩
    rw [any_snoc (by omega), hI1, hc1]; rfl
 ·refine u_end trivial ?_
  refine vw_seq ?_
  refine vw_condF rfl ?_
  refine vw_exit ?_
  refine iteP rfl ?_
  refine vw_seq ?_
  rw [chunkCells_length] at h9
  refine vw_region ?_
  refine u_assign rfl rfl trivial ?_
  refine u_end trivial ?_
  refine vw_ret ?_
  refine fin' [(101, 101), (902, 902)] (.inr rfl) (.cons (.tmp rfl (nb rfl)) .nil) (mk_wk [(101, 101), (902, 902)] rfl rfl ⟨⟨_, rfl, (subI ?_)⟩, trivial⟩ ⟨(.inl ⟨_, rfl, rowEq rfl ?_⟩), ⟨_, _, rfl, rfl, (.cons (subI ?_) (.cons (subI ?_) (.cons (subI ?_) (.cons (subI ?_) (.cons (subS ?_) (.cons (subS ?_) .nil))))))⟩, trivial⟩ (parOk rfl rfl))
  all_goals (try rfl)
  all_goals
    rw [List.take_of_length_le (by omega)] at hI1; exact idxP_no hI1
theorem c143 (c : Chunk) (l : List Chunk) (hll : l.length ≤ 1000000) : VFun G 143 [.row 902, .clo 144 [.ptr 101 0]] [(902, .row 77 6 (chunkCells l)), (101, .box (chunkAV c))] (.row 904) [(904, .row 77 6 (chunkCells (l.filter (keeps c)))), (101, .box (chunkAV c))] := by
 refine VFun.intro (fn := Try.f143) rfl rfl (by kernel_rfl) (nb rfl) fun Γ hpar => ?_
 refine vw_seq ?_
 refine vw_region ?_
 refine u_assign rfl rfl trivial ?_
 refine u_end trivial ?_
 refine vw_seq ?_
 refine vw_region ?_
 refine u_move rfl rfl trivial ?_
 refine u_move rfl rfl trivial ?_
 refine u_callO [(902, 902), (101, 101)] [] [] rfl rfl (c160s _ _ hll) (inc_cons (k0 := 902) rfl (inc_cons (k0 := 101) rfl inc_nil)) ⟨(.inl ⟨_, rfl, rfl⟩), ⟨_, _, rfl, rfl, (subPL rfl)⟩, trivial⟩ (.cons ((.row _ _ rfl (lookNe rfl))) (.cons ((.clo _ _ _ (.cons (.ptr _ _ _ rfl (lookNe rfl)) .nil))) .nil)) rfl rfl (newPar hpar rfl) rfl trivial ?_
 refine u_assign rfl rfl trivial ?_
 refine u_end trivial ?_
 refine vw_seq ?_
 refine vw_seq ?_
 refine vw_region ?_
 refine u_move rfl rfl trivial ?_
 refine s_eql rfl rfl rfl trivial (fun h12 => ?_) (fun h12 => ?_)
 ·refine u_end trivial ?_
  refine vw_condT rfl ?_
  refine vw_seq ?_
  refine vw_region ?_
  refine u_move rfl rfl trivial ?_
  refine u_assign rfl rfl trivial ?_
  refine u_end trivial ?_
  refine vw_ret ?_
  refine fin' [(101, 101), (904, 902)] (.inr rfl) (.cons (.tmp rfl (nb rfl)) .nil) (mk_wk [(101, 101), (904, 902)] rfl rfl ⟨⟨_, rfl, (.row _ _ rfl (lookNe rfl))⟩, trivial⟩ ⟨(.inl ⟨_, rfl, rowEq rfl ?_⟩), ⟨_, _, rfl, rfl, (.cons (subI ?_) (.cons (subI ?_) (.cons (subI ?_) (.cons (subI ?_) (.cons (subS ?_) (.cons (subS ?_) .nil))))))⟩, trivial⟩ (parOk rfl rfl))
  all_goals (try rfl)
  all_goals
    first | (rw [idx_told h12]; done) | (rw [List.append_assoc, List.take_append_of_le_length (by simp [chunkCells_length]; omega), List.take_take, Nat.min_self, chunkCells_take, hI2, List.take_of_length_le (by omega)])
 ·refine u_end trivial ?_
  refine vw_condF rfl ?_
  refine vw_skip ?_
  refine vw_seq ?_
  refine vw_seq ?_
  obtain ⟨i0, hi0, hie, hi1, hi2⟩ := idxP_yes (p := told c) (l := l) h12
  refine vw_region ?_
  refine u_move rfl rfl trivial ?_
  refine u_add rfl rfl rfl (by rw [hie]; unfold inI; omega) rfl trivial ?_
  refine u_assign rfl rfl trivial ?_
  refine u_end trivial ?_
  refine vw_block ?_
  refine vw_loopR (fun n_ E => ∃ (i : Nat) (j : Nat) (V : List Chunk), ((i < j ∧ j ≤ l.length) ∧ (V.length = l.length) ∧ (V.take i = (l.take j).filter (keeps c)) ∧ (V.drop j = l.drop j)) ∧ n_ = l.length - j ∧ E = ⟨[(0, .row 902), (1, .clo 144 [.ptr 101 0]), (5, .lit (.int .i64 i)), (6, .lit (.int .i64 j))], [(902, .row 77 6 (chunkCells V)), (101, .box (chunkAV c))], 42⟩) (n0 := _) (E0 := _) (⟨i0, i0 + 1, l, by exact ⟨by omega, rfl, by rw [← List.take_append_getElem hi0, List.filter_append, keeps_is, filter_none (by omega) hi2]; simp [hi1], rfl⟩, rfl, rfl⟩) (ren [(101, 101), (902, 902)]) (mk_wk [(101, 101), (902, 902)] rfl rfl ⟨⟨_, rfl, (.row _ _ rfl (lookNe rfl))⟩, ⟨_, rfl, (.clo _ _ _ (.cons (.ptr _ _ _ rfl (lookNe rfl)) .nil))⟩, ⟨_, rfl, (subI (by exact hie.symm))⟩, ⟨_, rfl, (subI (by rw [hie]; omega))⟩, trivial⟩ ⟨(.inl ⟨_, rfl, rfl⟩), ⟨_, _, rfl, rfl, (subPL rfl)⟩, trivial⟩ (parOk hpar rfl)) (fun n_ E hR => ?_)
  obtain ⟨i, j, V, hI, rfl, rfl⟩ := hR
  obtain ⟨hI0, hI1, hI2, hI3⟩ := hI
  refine vw_seq ?_
  refine vw_seq ?_
  refine vw_region ?_
  refine u_move rfl rfl trivial ?_
  refine u_move rfl rfl trivial ?_
  refine u_lenR rfl rfl rfl rfl trivial ?_
  refine s_lss rfl rfl rfl trivial (fun h19 => ?_) (fun h19 => ?_)
  ·refine u_end trivial ?_
   refine vw_condT rfl ?_
   refine vw_skip ?_
   refine vw_seq ?_
   refine vw_block ?_
   refine vw_seq ?_
   rw [chunkCells_length] at h19
   refine vw_region ?_
   refine u_move rfl rfl trivial ?_
   refine u_move rfl rfl trivial ?_
   refine u_indexR rfl rfl rfl rfl rfl rfl rfl (by rw [chunkCells_length]; omega) rfl trivial ?_
   refine u_loadRowAll rfl rfl (chunkCells_get (by omega)) rfl rfl rfl rfl trivial ?_
   refine u_alloc 120 rfl rfl (notPar hpar rfl) rfl rfl trivial ?_
   refine u_storeAll rfl rfl rfl rfl rfl rfl rfl rfl trivial ?_
   refine u_end trivial ?_
   refine vw_seq ?_
   refine vw_region ?_
   refine u_move rfl rfl trivial ?_
   refine u_loadAll rfl rfl rfl rfl rfl rfl trivial ?_
   refine u_callO [(101, 101)] [] [] rfl rfl (c144 c _) (inc_cons (k0 := 101) rfl inc_nil) ⟨⟨_, _, rfl, rfl, (subPL rfl)⟩, trivial⟩ (.cons ((subP rfl)) (.cons ((.ptr _ _ _ rfl (lookNe rfl))) .nil)) rfl rfl (newPar hpar rfl) rfl trivial ?_
   refine u_not rfl rfl trivial ?_
   refine u_end trivial ?_
   refine vw_cond rfl (fun hc1 => ?_) (fun hc1 => ?_)
   ·refine vw_seq ?_
    refine vw_region ?_
    refine u_move rfl rfl trivial ?_
    refine u_move rfl rfl trivial ?_
    refine u_loadAll rfl rfl rfl rfl rfl rfl trivial ?_
    refine u_indexR rfl rfl rfl rfl rfl rfl rfl (by rw [chunkCells_length]; omega) rfl trivial ?_
    refine u_storeRowE rfl rfl rfl (chunkCells_get (by omega)) rfl (by simp [cellsOf, isP, chunkAV]) rfl rfl rfl (show _ = chunkCells (V.set i (V[j]'(by omega))) from by simp [chunkCells, List.map_set, chunkAV, wrA, cellsOf]) trivial ?_
    refine u_end trivial ?_
    refine vw_region ?_
    refine u_move rfl rfl trivial ?_
    refine u_add rfl rfl rfl (by unfold inI; omega) rfl trivial ?_
    refine u_assign rfl rfl trivial ?_
    refine u_end trivial ?_
    refine vw_region ?_
    refine u_move rfl rfl trivial ?_
    refine u_add rfl rfl rfl (by unfold inI; omega) rfl trivial ?_
    refine u_assign rfl rfl trivial ?_
    refine u_end trivial ?_
    refine ⟨_, _, ren [(101, 101), (902, 902)], ?_, ⟨i + 1, j + 1, V.set i (V[j]'(by omega)), ?_, rfl, rfl⟩, mk_wk [(101, 101), (902, 902)] rfl rfl ⟨⟨_, rfl, (.row _ _ rfl (lookNe rfl))⟩, ⟨_, rfl, (.clo _ _ _ (.cons (.ptr _ _ _ rfl (lookNe rfl)) .nil))⟩, ⟨_, rfl, (.lit _)⟩, ⟨_, rfl, (subI (by omega))⟩, trivial⟩ ⟨(.inl ⟨_, rfl, rfl⟩), ⟨_, _, rfl, rfl, (subPL rfl)⟩, trivial⟩ (parOk hpar rfl)⟩
    ·omega
    ·have hk : keeps c (l[j]'(by omega)) = true := by rw [← drop_get hI3 (by omega) (by omega)]; unfold keeps; exact hc1
     refine ⟨by omega, by simpa using hI1, ?_, ?_⟩
     · rw [← List.take_append_getElem (show i < (V.set i V[j]).length by simp; omega), ← List.take_append_getElem (show j < l.length by omega), List.filter_append, ← hI2]; simp [hk, drop_get hI3 (by omega) (by omega), List.take_set_of_le]
     · rw [List.drop_set_of_lt (by omega)]; exact drop_next hI3
   ·refine vw_skip ?_
    refine vw_region ?_
    refine u_move rfl rfl trivial ?_
    refine u_add rfl rfl rfl (by unfold inI; omega) rfl trivial ?_
    refine u_assign rfl rfl trivial ?_
    refine u_end trivial ?_
    refine ⟨_, _, ren [(101, 101), (902, 902)], ?_, ⟨i, j + 1, V, ?_, rfl, rfl⟩, mk_wk [(101, 101), (902, 902)] rfl rfl ⟨⟨_, rfl, (.row _ _ rfl (lookNe rfl))⟩, ⟨_, rfl, (.clo _ _ _ (.cons (.ptr _ _ _ rfl (lookNe rfl)) .nil))⟩, ⟨_, rfl, (.lit _)⟩, ⟨_, rfl, (subI (by omega))⟩, trivial⟩ ⟨(.inl ⟨_, rfl, rfl⟩), ⟨_, _, rfl, rfl, (subPL rfl)⟩, trivial⟩ (parOk hpar rfl)⟩
    ·omega
    ·have hk : keeps c (l[j]'(by omega)) = false := by rw [← drop_get hI3 (by omega) (by omega)]; unfold keeps; exact hc1
     refine ⟨by omega, hI1, ?_, drop_next hI3⟩
     rw [hI2, ← List.take_append_getElem (show j < l.length by omega), List.filter_append]; simp [hk]
  ·refine u_end trivial ?_
   refine vw_condF rfl ?_
   refine vw_exit ?_
   refine iteP rfl ?_
   refine vw_seq ?_
   rw [chunkCells_length] at h19
   refine vw_region ?_
   refine u_move rfl rfl trivial ?_
   refine u_move rfl rfl trivial ?_
   refine u_sliceRLo i rfl rfl (by rw [chunkCells_length]; omega) rfl (by rfl) (by rw [chunkCells_length]; omega) rfl rfl rfl rfl trivial ?_
   refine u_clearR rfl rfl (by exact Nat.le_refl _) rfl rfl rfl (by rfl) trivial ?_
   refine u_end trivial ?_
   refine vw_seq ?_
   refine vw_narrowPost 4 904 ?_
   refine vw_region ?_
   refine u_move rfl rfl trivial ?_
   refine u_move rfl rfl trivial ?_
   refine u_sliceRHi i rfl rfl (by simp [chunkCells_length]; omega) rfl (by rfl) (by simp [chunkCells_length]; omega) rfl rfl rfl rfl trivial ?_
   refine u_assign rfl rfl trivial ?_
   refine u_end trivial ?_
   refine ⟨_, _, _, _, _, rfl, rfl, by simp [chunkCells_length]; omega, rfl, notPar hpar rfl, ?_⟩
   refine vw_ret ?_
   refine fin' [(101, 101), (904, 904)] (.inr rfl) (.cons (.tmp rfl (nb rfl)) .nil) (mk_wk [(101, 101), (904, 904)] rfl rfl ⟨⟨_, rfl, (.row _ _ rfl (lookNe rfl))⟩, trivial⟩ ⟨(.inl ⟨_, rfl, rowEq rfl ?_⟩), ⟨_, _, rfl, rfl, (.cons (subI ?_) (.cons (subI ?_) (.cons (subI ?_) (.cons (subI ?_) (.cons (subS ?_) (.cons (subS ?_) .nil))))))⟩, trivial⟩ (parOk rfl rfl))
   all_goals (try rfl)
   all_goals
     first | (rw [idx_told h12]; done) | (rw [List.append_assoc, List.take_append_of_le_length (by simp [chunkCells_length]; omega), List.take_take, Nat.min_self, chunkCells_take, hI2, List.take_of_length_le (by omega)])
end Go.Proofs.Ytaadloihphpdbaa
