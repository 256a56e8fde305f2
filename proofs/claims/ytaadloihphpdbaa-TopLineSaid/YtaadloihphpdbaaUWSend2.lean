/- Walks of the package send and of the document's answer to it: what is said, and heard. Printed by a small program (walk.py). -/
import Derived.Test.YtaadloihphpdbaaUWSend
set_option linter.unusedVariables false
set_option linter.unusedSimpArgs false
set_option maxRecDepth 4000
namespace Go.Proofs.Ytaadloihphpdbaa
open Go Go.Vc Go.RowKit
def idxP {α : Type} (p : α → Bool) (l : List α) : Int := if l.any p then (l.findIdx p : Nat) else -1
theorem any_snoc {α : Type} {p : α → Bool} {l : List α} {i : Nat} (h : i < l.length) : (l.take (i + 1)).any p = ((l.take i).any p || p (l[i]'h)) := by
  rw [← List.take_append_getElem h, List.any_append]; simp
theorem idxP_at {α : Type} {p : α → Bool} {l : List α} {i : Nat} (h : i < l.length) (hb : (l.take i).any p = false) (hp : p (l[i]'h) = true) : idxP p l = i := by
  unfold idxP
  rw [if_pos (List.any_eq_true.2 ⟨_, List.getElem_mem h, hp⟩)]
  congr 1
  rw [List.findIdx_eq h]
  refine ⟨hp, fun j hj => ?_⟩
  have := List.any_eq_false.1 hb (l[j]'(by omega)) (by rw [List.mem_take_iff_getElem]; exact ⟨j, by omega, rfl⟩)
  simpa using this
theorem idxP_no {α : Type} {p : α → Bool} {l : List α} (hb : l.any p = false) : idxP p l = -1 := by
  unfold idxP; rw [if_neg (by rw [hb]; decide)]
theorem idxP_ge {α : Type} {p : α → Bool} {l : List α} : decide (0 ≤ idxP p l) = l.any p := by
  unfold idxP
  cases l.any p <;> simp
theorem any_eq {l : List Int} {n : Int} : l.any (fun x => n == x) = l.contains n := by
  rw [List.contains_eq_any_beq]
theorem idxP_yes {α : Type} {p : α → Bool} {l : List α} (h : idxP p l ≠ -1) : ∃ i, ∃ h : i < l.length, idxP p l = (i : Nat) ∧ p (l[i]'h) = true ∧ ∀ j (hj : j < i), p (l[j]'(by omega)) = false := by
  cases ha : l.any p with
  | false => exact absurd (idxP_no ha) h
  | true =>
    obtain ⟨x, hx, hpx⟩ := List.any_eq_true.1 ha
    have hl : l.findIdx p < l.length := List.findIdx_lt_length_of_exists ⟨x, hx, hpx⟩
    refine ⟨l.findIdx p, hl, by unfold idxP; rw [if_pos ha], List.findIdx_getElem, fun j hj => ?_⟩
    have := List.not_of_lt_findIdx hj
    simpa using this
theorem filter_none {p : Chunk → Bool} {l : List Chunk} {i : Nat} (h : i ≤ l.length) (hb : ∀ j (hj : j < i), p (l[j]'(by omega)) = false) : (l.take i).filter (fun x => !p x) = l.take i := by
  rw [List.filter_eq_self]
  intro a ha
  obtain ⟨j, hj, rfl⟩ := List.mem_take_iff_getElem.1 ha
  rw [hb j (by omega)]; rfl
theorem keeps_is (c : Chunk) : keeps c = fun x => !told c x := rfl
theorem idx_told {c : Chunk} {l : List Chunk} (h : idxP (told c) l = -1) : l.filter (keeps c) = l := by
  rw [List.filter_eq_self]
  intro a ha
  cases hp : told c a with
  | false => unfold keeps; rw [hp]; rfl
  | true =>
    exfalso
    have : l.any (told c) = true := List.any_eq_true.2 ⟨a, ha, hp⟩
    unfold idxP at h
    rw [if_pos this] at h
    omega
theorem drop_get {α : Type} {W l : List α} {j : Nat} (h : W.drop j = l.drop j) (hw : j < W.length) (hl : j < l.length) : W[j] = l[j] := by
  have e1 := List.drop_eq_getElem_cons hw
  have e2 := List.drop_eq_getElem_cons hl
  rw [h, e2] at e1
  exact (List.cons.inj e1).1.symm
theorem drop_next {α : Type} {W l : List α} {j : Nat} (h : W.drop j = l.drop j) : W.drop (j + 1) = l.drop (j + 1) := by
  rw [← List.drop_drop, ← List.drop_drop, h]
theorem c161 (l : List Int) (n : Int) : VFun G 161 [.shr 1 (zay l), .lit (.int .i64 n)] [] (.lit (.int .i64 (idxP (fun x => n == x) l))) [] := by
 refine VFun.intro (fn := Try.f161) rfl rfl (by kernel_rfl) (nb rfl) fun Γ hpar => ?_
 refine zac <| vw_len (t := 0) rfl fun hl => ?_
 rw [zam] at hl
 refine zaa <| zad rfl rfl tv <| zaf tv <| zac <| zac <| zaa <| zae rfl rfl tv <| zcs rfl rfl rfl tv <| zae rfl rfl tv <| zaf tv <| zaz <| zbx (fun n_ E => ∃ (i : Nat), ((i ≤ l.length) ∧ ((l.take i).any (fun x => n == x) = false)) ∧ n_ = l.length - i ∧ E = ⟨[(0, .shr 1 (zay l)), (1, .lit (.int .i64 n)), (7, .lit (.int .i64 (zay l).length)), (8, .lit (.int .i64 i))], [], 19⟩) (n0 := _) (E0 := _) (⟨0, by exact ⟨Nat.zero_le _, rfl⟩, rfl, rfl⟩) (ren []) (zaw [] rfl rfl ⟨⟨_, rfl, (.shr _ _)⟩, ⟨_, rfl, (.lit _)⟩, ⟨_, rfl, (.lit _)⟩, ⟨_, rfl, (.lit _)⟩, tv⟩ tv (zax hpar rfl)) (fun n_ E hR => ?_)
 obtain ⟨i, hI, rfl, rfl⟩ := hR
 obtain ⟨hI0, hI1⟩ := hI
 refine zac <| zaa <| zcm rfl rfl rfl tv (fun h9 => ?_) (fun h9 => ?_)
 ·refine zaf tv <| zac <| zas rfl <| zbd <| zac <| zaz <| zac <| zaa <| zae rfl rfl tv <| zad rfl rfl tv <| zaf tv <| zac ?_
  rw [zam] at h9
  refine zaa <| zae rfl rfl tv <| zae rfl rfl tv <| zae rfl rfl tv <| zbz rfl rfl rfl rfl rfl rfl (zev (List.getElem?_eq_getElem (by omega))) rfl tv ?_
  refine zcr rfl rfl rfl rfl rfl tv <| zew rfl rfl rfl tv (fun h16 => ?_) (fun h16 => ?_)
  ·refine zaf tv <| zas rfl <| zac <| zaa <| zae rfl rfl tv <| zad rfl rfl tv <| zaf tv <| zav <| fin' [] (.inr rfl) (.cons (.tmp rfl (nb rfl)) .nil) (zaw [] rfl rfl ⟨⟨_, rfl, (subI ?_)⟩, tv⟩ tv (zax rfl rfl))
   all_goals (try rfl)
   all_goals
     exact idxP_at (by omega) hI1 (by simp [h16])
  ·refine zaf tv <| zau rfl <| zbd <| zaa <| zcg rfl rfl rfl (by unfold inI; omega) rfl tv <| zae rfl rfl tv <| zaf tv <| ⟨_, _, ren [], ?_, ⟨i + 1, ?_, rfl, rfl⟩, zaw [] rfl rfl ⟨⟨_, rfl, (.shr _ _)⟩, ⟨_, rfl, (.lit _)⟩, ⟨_, rfl, (.lit _)⟩, ⟨_, rfl, (.lit _)⟩, tv⟩ tv (zax hpar rfl)⟩
   ·omega
   ·refine ⟨by omega, ?_⟩
    rw [any_snoc (by omega), hI1]; simp [h16]
 ·refine zaf tv <| zac <| zau rfl <| zcc <| iteP rfl <| zac ?_
  rw [zam] at h9
  refine zaa <| zad rfl rfl tv <| zaf tv <| zav <| fin' [] (.inr rfl) (.cons (.tmp rfl (nb rfl)) .nil) (zaw [] rfl rfl ⟨⟨_, rfl, (subI ?_)⟩, tv⟩ tv (zax rfl rfl))
  all_goals (try rfl)
  all_goals
    rw [List.take_of_length_le (by omega)] at hI1; exact idxP_no hI1
theorem c145 (l : List Int) (n : Int) : VFun G 145 [.shr 1 (zay l), .lit (.int .i64 n)] [] (.lit (.bool (l.contains n))) [] := by
 refine VFun.intro (fn := Try.f145) rfl rfl (by kernel_rfl) (nb rfl) fun Γ hpar => ?_
 refine zac <| zaa <| zad rfl rfl tv <| zaf tv <| zac <| zaa <| zae rfl rfl tv <| zae rfl rfl tv <| zbo rfl (c161 _ _) (.cons ((.shr _ _)) (.cons ((.lit _)) .nil)) rfl tv <| u_geq rfl rfl rfl tv <| zad rfl rfl tv <| zaf tv <| zav <| fin' [] (.inr rfl) (.cons (.tmp rfl (nb rfl)) .nil) (zaw [] rfl rfl ⟨⟨_, rfl, (subB ?_)⟩, tv⟩ tv (zax rfl rfl))
 all_goals (try rfl)
 all_goals
   rw [idxP_ge, any_eq]
theorem c144 (c x : Chunk) : VFun G 144 [.agg (zcn x), .ptr 101 0] [(101, .box (zcn c))] (.lit (.bool (told c x))) [(101, .box (zcn c))] := by
 refine VFun.intro (fn := Try.f144) rfl rfl (by kernel_rfl) (nb rfl) fun Γ hpar => ?_
 refine zac <| zaa <| zeb 100 rfl rfl rfl (zar hpar rfl) rfl rfl tv <| zad rfl rfl tv <| zaf tv <| zac <| zaa <| zab rfl rfl rfl rfl rfl rfl tv <| zak rfl rfl rfl rfl rfl rfl tv <| zab rfl rfl rfl rfl rfl rfl tv <| zak rfl rfl rfl rfl rfl rfl tv <| zcm rfl rfl rfl tv (fun h8 => ?_) (fun h8 => ?_)
 ·refine zae rfl rfl tv <| zal rfl rfl rfl rfl rfl <| zal rfl rfl rfl rfl rfl <| zal rfl rfl rfl rfl rfl <| zal rfl rfl rfl rfl rfl <| zal rfl rfl rfl rfl rfl <| zbk rfl rfl rfl tv <| zad rfl rfl tv <| zaf tv <| zav <| fin' [(101, 101)] (.inr rfl) (.cons (.tmp rfl (nb rfl)) .nil) (zaw [(101, 101)] rfl rfl ⟨⟨_, rfl, (subB ?_)⟩, tv⟩ ⟨⟨_, _, rfl, rfl, (.cons (subI ?_) (.cons (subI ?_) (.cons (subI ?_) (.cons (subI ?_) (.cons (subS ?_) (.cons (subS ?_) .nil))))))⟩, tv⟩ (zax rfl rfl))
  all_goals (try rfl)
  all_goals
    unfold told; first | (rw [decide_eq_true (by omega)]; rfl) | (rw [decide_eq_false (by omega)]; rfl)
 ·refine zae rfl rfl tv <| zab rfl rfl rfl rfl rfl rfl (gk rfl) <| zak rfl rfl rfl rfl rfl rfl (gk rfl) <| zab rfl rfl rfl rfl rfl rfl (gk rfl) <| zak rfl rfl rfl rfl rfl rfl (gk rfl) <| zbo rfl (c145 _ _) (.cons ((.shr _ _)) (.cons ((.lit _)) .nil)) rfl (gk rfl) <| zbh rfl rfl rfl tv <| zad rfl rfl tv <| zaf tv <| zav <| fin' [(101, 101)] (.inr rfl) (.cons (.tmp rfl (nb rfl)) .nil) (zaw [(101, 101)] rfl rfl ⟨⟨_, rfl, (subB ?_)⟩, tv⟩ ⟨⟨_, _, rfl, rfl, (.cons (subI ?_) (.cons (subI ?_) (.cons (subI ?_) (.cons (subI ?_) (.cons (subS ?_) (.cons (subS ?_) .nil))))))⟩, tv⟩ (zax rfl rfl))
  all_goals (try rfl)
  all_goals
    unfold told; first | (rw [decide_eq_true (by omega)]; rfl) | (rw [decide_eq_false (by omega)]; rfl)
theorem c160s (c : Chunk) (l : List Chunk) (hll : l.length ≤ 1000000) : VFun G 160 [.row 902, .clo 144 [.ptr 101 0]] [(902, .row 77 6 (zao l)), (101, .box (zcn c))] (.lit (.int .i64 (idxP (told c) l))) [(902, .row 77 6 (zao l)), (101, .box (zcn c))] := by
 refine VFun.intro (fn := Try.f160) rfl rfl (by kernel_rfl) (nb rfl) fun Γ hpar => ?_
 refine zac <| zaa <| zad rfl rfl tv <| zaf tv <| zac <| zac <| zaa <| zae rfl rfl tv <| zeo rfl rfl rfl rfl tv <| zae rfl rfl tv <| zaf tv <| zaz <| zbx (fun n_ E => ∃ (i : Nat), ((i ≤ l.length) ∧ ((l.take i).any (told c) = false)) ∧ n_ = l.length - i ∧ E = ⟨[(0, .row 902), (1, .clo 144 [.ptr 101 0]), (7, .lit (.int .i64 (zao l).length)), (8, .lit (.int .i64 i))], [(902, .row 77 6 (zao l)), (101, .box (zcn c))], 19⟩) (n0 := _) (E0 := _) (⟨0, by exact ⟨Nat.zero_le _, rfl⟩, rfl, rfl⟩) (ren [(101, 101), (902, 902)]) (zaw [(101, 101), (902, 902)] rfl rfl ⟨⟨_, rfl, (.row _ _ rfl (zag rfl))⟩, ⟨_, rfl, (.clo _ _ _ (.cons (.ptr _ _ _ rfl (zag rfl)) .nil))⟩, ⟨_, rfl, (.lit _)⟩, ⟨_, rfl, (.lit _)⟩, tv⟩ ⟨(.inl ⟨_, rfl, rfl⟩), ⟨_, _, rfl, rfl, (zbw rfl)⟩, tv⟩ (zax hpar rfl)) (fun n_ E hR => ?_)
 obtain ⟨i, hI, rfl, rfl⟩ := hR
 obtain ⟨hI0, hI1⟩ := hI
 refine zac <| zaa <| zcm rfl rfl rfl tv (fun h9 => ?_) (fun h9 => ?_)
 ·refine zaf tv <| zac <| zas rfl <| zbd <| zac <| zaz <| zac <| zaa <| zae rfl rfl tv <| zad rfl rfl tv <| zaf tv <| zac ?_
  rw [zaj] at h9
  refine zaa <| zae rfl rfl tv <| zae rfl rfl tv <| zae rfl rfl tv <| zci rfl rfl rfl rfl rfl rfl rfl (by rw [zaj]; omega) rfl tv <| zda rfl rfl (zcx (by omega)) rfl rfl rfl rfl tv <| zbq [(101, 101)] [] [] rfl rfl (c144 c _) (zbe (k0 := 101) rfl zbs) ⟨⟨_, _, rfl, rfl, (zbw rfl)⟩, tv⟩ (.cons ((subP rfl)) (.cons ((.ptr _ _ _ rfl (zag rfl))) .nil)) rfl rfl (zce hpar rfl) rfl tv <| zaf tv <| vw_cond rfl (fun hc1 => ?_) (fun hc1 => ?_)
  ·refine zac <| zaa <| zae rfl rfl tv <| zad rfl rfl tv <| zaf tv <| zav <| fin' [(101, 101), (902, 902)] (.inr rfl) (.cons (.tmp rfl (nb rfl)) .nil) (zaw [(101, 101), (902, 902)] rfl rfl ⟨⟨_, rfl, (subI ?_)⟩, tv⟩ ⟨(.inl ⟨_, rfl, zbr rfl ?_⟩), ⟨_, _, rfl, rfl, (.cons (subI ?_) (.cons (subI ?_) (.cons (subI ?_) (.cons (subI ?_) (.cons (subS ?_) (.cons (subS ?_) .nil))))))⟩, tv⟩ (zax rfl rfl))
   all_goals (try rfl)
   all_goals
     exact idxP_at (by omega) hI1 hc1
  ·refine zbd <| zaa <| zcg rfl rfl rfl (by unfold inI; omega) rfl tv <| zae rfl rfl tv <| zaf tv <| ⟨_, _, ren [(101, 101), (902, 902)], ?_, ⟨i + 1, ?_, rfl, rfl⟩, zaw [(101, 101), (902, 902)] rfl rfl ⟨⟨_, rfl, (.row _ _ rfl (zag rfl))⟩, ⟨_, rfl, (.clo _ _ _ (.cons (.ptr _ _ _ rfl (zag rfl)) .nil))⟩, ⟨_, rfl, (.lit _)⟩, ⟨_, rfl, (.lit _)⟩, tv⟩ ⟨(.inl ⟨_, rfl, rfl⟩), ⟨_, _, rfl, rfl, (zbw rfl)⟩, tv⟩ (zax hpar rfl)⟩
   ·omega
   ·refine ⟨by omega, ?_⟩
    rw [any_snoc (by omega), hI1, hc1]; rfl
 ·refine zaf tv <| zac <| zau rfl <| zcc <| iteP rfl <| zac ?_
  rw [zaj] at h9
  refine zaa <| zad rfl rfl tv <| zaf tv <| zav <| fin' [(101, 101), (902, 902)] (.inr rfl) (.cons (.tmp rfl (nb rfl)) .nil) (zaw [(101, 101), (902, 902)] rfl rfl ⟨⟨_, rfl, (subI ?_)⟩, tv⟩ ⟨(.inl ⟨_, rfl, zbr rfl ?_⟩), ⟨_, _, rfl, rfl, (.cons (subI ?_) (.cons (subI ?_) (.cons (subI ?_) (.cons (subI ?_) (.cons (subS ?_) (.cons (subS ?_) .nil))))))⟩, tv⟩ (zax rfl rfl))
  all_goals (try rfl)
  all_goals
    rw [List.take_of_length_le (by omega)] at hI1; exact idxP_no hI1
theorem c143 (c : Chunk) (l : List Chunk) (hll : l.length ≤ 1000000) : VFun G 143 [.row 902, .clo 144 [.ptr 101 0]] [(902, .row 77 6 (zao l)), (101, .box (zcn c))] (.row 904) [(904, .row 77 6 (zao (l.filter (keeps c)))), (101, .box (zcn c))] := by
 refine VFun.intro (fn := Try.f143) rfl rfl (by kernel_rfl) (nb rfl) fun Γ hpar => ?_
 refine zac <| zaa <| zad rfl rfl tv <| zaf tv <| zac <| zaa <| zae rfl rfl tv <| zae rfl rfl tv <| zbq [(902, 902), (101, 101)] [] [] rfl rfl (c160s _ _ hll) (zbe (k0 := 902) rfl (zbe (k0 := 101) rfl zbs)) ⟨(.inl ⟨_, rfl, rfl⟩), ⟨_, _, rfl, rfl, (zbw rfl)⟩, tv⟩ (.cons ((.row _ _ rfl (zag rfl))) (.cons ((.clo _ _ _ (.cons (.ptr _ _ _ rfl (zag rfl)) .nil))) .nil)) rfl rfl (zce hpar rfl) rfl tv <| zad rfl rfl tv <| zaf tv <| zac <| zac <| zaa <| zae rfl rfl tv <| zew rfl rfl rfl tv (fun h12 => ?_) (fun h12 => ?_)
 ·refine zaf tv <| zas rfl <| zac <| zaa <| zae rfl rfl tv <| zad rfl rfl tv <| zaf tv <| zav <| fin' [(101, 101), (904, 902)] (.inr rfl) (.cons (.tmp rfl (nb rfl)) .nil) (zaw [(101, 101), (904, 902)] rfl rfl ⟨⟨_, rfl, (.row _ _ rfl (zag rfl))⟩, tv⟩ ⟨(.inl ⟨_, rfl, zbr rfl ?_⟩), ⟨_, _, rfl, rfl, (.cons (subI ?_) (.cons (subI ?_) (.cons (subI ?_) (.cons (subI ?_) (.cons (subS ?_) (.cons (subS ?_) .nil))))))⟩, tv⟩ (zax rfl rfl))
  all_goals (try rfl)
  all_goals
    first | (rw [idx_told h12]; done) | (rw [List.append_assoc, List.take_append_of_le_length (by simp [zaj]; omega), List.take_take, Nat.min_self, chunkCells_take, hI2, List.take_of_length_le (by omega)])
 ·refine zaf tv <| zau rfl <| zbd <| zac <| zac ?_
  obtain ⟨i0, hi0, hie, hi1, hi2⟩ := idxP_yes (p := told c) (l := l) h12
  refine zaa <| zae rfl rfl tv <| zcg rfl rfl rfl (by rw [hie]; unfold inI; omega) rfl tv <| zad rfl rfl tv <| zaf tv <| zaz <| zbx (fun n_ E => ∃ (i : Nat) (j : Nat) (V : List Chunk), ((i < j ∧ j ≤ l.length) ∧ (V.length = l.length) ∧ (V.take i = (l.take j).filter (keeps c)) ∧ (V.drop j = l.drop j)) ∧ n_ = l.length - j ∧ E = ⟨[(0, .row 902), (1, .clo 144 [.ptr 101 0]), (5, .lit (.int .i64 i)), (6, .lit (.int .i64 j))], [(902, .row 77 6 (zao V)), (101, .box (zcn c))], 42⟩) (n0 := _) (E0 := _) (⟨i0, i0 + 1, l, by exact ⟨by omega, rfl, by rw [← List.take_append_getElem hi0, List.filter_append, keeps_is, filter_none (by omega) hi2]; simp [hi1], rfl⟩, rfl, rfl⟩) (ren [(101, 101), (902, 902)]) (zaw [(101, 101), (902, 902)] rfl rfl ⟨⟨_, rfl, (.row _ _ rfl (zag rfl))⟩, ⟨_, rfl, (.clo _ _ _ (.cons (.ptr _ _ _ rfl (zag rfl)) .nil))⟩, ⟨_, rfl, (subI (by exact hie.symm))⟩, ⟨_, rfl, (subI (by rw [hie]; omega))⟩, tv⟩ ⟨(.inl ⟨_, rfl, rfl⟩), ⟨_, _, rfl, rfl, (zbw rfl)⟩, tv⟩ (zax hpar rfl)) (fun n_ E hR => ?_)
  obtain ⟨i, j, V, hI, rfl, rfl⟩ := hR
  obtain ⟨hI0, hI1, hI2, hI3⟩ := hI
  refine zac <| zac <| zaa <| zae rfl rfl tv <| zae rfl rfl tv <| zeo rfl rfl rfl rfl tv <| zcm rfl rfl rfl tv (fun h19 => ?_) (fun h19 => ?_)
  ·refine zaf tv <| zas rfl <| zbd <| zac <| zaz <| zac ?_
   rw [zaj] at h19
   refine zaa <| zae rfl rfl tv <| zae rfl rfl tv <| zci rfl rfl rfl rfl rfl rfl rfl (by rw [zaj]; omega) rfl tv <| zda rfl rfl (zcx (by omega)) rfl rfl rfl rfl tv <| zbf 120 rfl rfl (zar hpar rfl) rfl rfl tv <| zah rfl rfl rfl rfl rfl rfl rfl rfl tv <| zaf tv <| zac <| zaa <| zae rfl rfl tv <| zan rfl rfl rfl rfl rfl rfl tv <| zbq [(101, 101)] [] [] rfl rfl (c144 c _) (zbe (k0 := 101) rfl zbs) ⟨⟨_, _, rfl, rfl, (zbw rfl)⟩, tv⟩ (.cons ((subP rfl)) (.cons ((.ptr _ _ _ rfl (zag rfl))) .nil)) rfl rfl (zce hpar rfl) rfl tv <| u_not rfl rfl tv <| zaf tv <| vw_cond rfl (fun hc1 => ?_) (fun hc1 => ?_)
   ·refine zac <| zaa <| zae rfl rfl tv <| zae rfl rfl tv <| zan rfl rfl rfl rfl rfl rfl tv <| zci rfl rfl rfl rfl rfl rfl rfl (by rw [zaj]; omega) rfl tv <| zef rfl rfl rfl (zcx (by omega)) rfl (by simp [cellsOf, isP, zcn]) rfl rfl rfl (show _ = zao (V.set i (V[j]'(by omega))) from by simp [zao, List.map_set, zcn, wrA, cellsOf]) tv <| zaf tv <| zaa <| zae rfl rfl tv <| zcg rfl rfl rfl (by unfold inI; omega) rfl tv <| zad rfl rfl tv <| zaf tv <| zaa <| zae rfl rfl tv <| zcg rfl rfl rfl (by unfold inI; omega) rfl tv <| zad rfl rfl tv <| zaf tv <| ⟨_, _, ren [(101, 101), (902, 902)], ?_, ⟨i + 1, j + 1, V.set i (V[j]'(by omega)), ?_, rfl, rfl⟩, zaw [(101, 101), (902, 902)] rfl rfl ⟨⟨_, rfl, (.row _ _ rfl (zag rfl))⟩, ⟨_, rfl, (.clo _ _ _ (.cons (.ptr _ _ _ rfl (zag rfl)) .nil))⟩, ⟨_, rfl, (.lit _)⟩, ⟨_, rfl, (subI (by omega))⟩, tv⟩ ⟨(.inl ⟨_, rfl, rfl⟩), ⟨_, _, rfl, rfl, (zbw rfl)⟩, tv⟩ (zax hpar rfl)⟩
    ·omega
    ·have hk : keeps c (l[j]'(by omega)) = true := by rw [← drop_get hI3 (by omega) (by omega)]; unfold keeps; exact hc1
     refine ⟨by omega, by simpa using hI1, ?_, ?_⟩
     · rw [← List.take_append_getElem (show i < (V.set i V[j]).length by simp; omega), ← List.take_append_getElem (show j < l.length by omega), List.filter_append, ← hI2]; simp [hk, drop_get hI3 (by omega) (by omega), List.take_set_of_le]
     · rw [List.drop_set_of_lt (by omega)]; exact drop_next hI3
   ·refine zbd <| zaa <| zae rfl rfl tv <| zcg rfl rfl rfl (by unfold inI; omega) rfl tv <| zad rfl rfl tv <| zaf tv <| ⟨_, _, ren [(101, 101), (902, 902)], ?_, ⟨i, j + 1, V, ?_, rfl, rfl⟩, zaw [(101, 101), (902, 902)] rfl rfl ⟨⟨_, rfl, (.row _ _ rfl (zag rfl))⟩, ⟨_, rfl, (.clo _ _ _ (.cons (.ptr _ _ _ rfl (zag rfl)) .nil))⟩, ⟨_, rfl, (.lit _)⟩, ⟨_, rfl, (subI (by omega))⟩, tv⟩ ⟨(.inl ⟨_, rfl, rfl⟩), ⟨_, _, rfl, rfl, (zbw rfl)⟩, tv⟩ (zax hpar rfl)⟩
    ·omega
    ·have hk : keeps c (l[j]'(by omega)) = false := by rw [← drop_get hI3 (by omega) (by omega)]; unfold keeps; exact hc1
     refine ⟨by omega, hI1, ?_, drop_next hI3⟩
     rw [hI2, ← List.take_append_getElem (show j < l.length by omega), List.filter_append]; simp [hk]
  ·refine zaf tv <| zau rfl <| zcc <| iteP rfl <| zac ?_
   rw [zaj] at h19
   refine zaa <| zae rfl rfl tv <| zae rfl rfl tv <| u_sliceRLo i rfl rfl (by rw [zaj]; omega) rfl (by rfl) (by rw [zaj]; omega) rfl rfl rfl rfl tv <| u_clearR rfl rfl (by exact Nat.le_refl _) rfl rfl rfl (by rfl) tv <| zaf tv <| zac <| vw_narrowPost 4 904 <| zaa <| zae rfl rfl tv <| zae rfl rfl tv <| u_sliceRHi i rfl rfl (by simp [zaj]; omega) rfl (by rfl) (by simp [zaj]; omega) rfl rfl rfl rfl tv <| zad rfl rfl tv <| zaf tv <| ⟨_, _, _, _, _, rfl, rfl, by simp [zaj]; omega, rfl, zar hpar rfl, ?_⟩
   refine zav <| fin' [(101, 101), (904, 904)] (.inr rfl) (.cons (.tmp rfl (nb rfl)) .nil) (zaw [(101, 101), (904, 904)] rfl rfl ⟨⟨_, rfl, (.row _ _ rfl (zag rfl))⟩, tv⟩ ⟨(.inl ⟨_, rfl, zbr rfl ?_⟩), ⟨_, _, rfl, rfl, (.cons (subI ?_) (.cons (subI ?_) (.cons (subI ?_) (.cons (subI ?_) (.cons (subS ?_) (.cons (subS ?_) .nil))))))⟩, tv⟩ (zax rfl rfl))
   all_goals (try rfl)
   all_goals
     first | (rw [idx_told h12]; done) | (rw [List.append_assoc, List.take_append_of_le_length (by simp [zaj]; omega), List.take_take, Nat.min_self, chunkCells_take, hI2, List.take_of_length_le (by omega)])
end Go.Proofs.Ytaadloihphpdbaa
