/- Walks of the package recv and of the document's answer to it: owned, said; the library's search. Printed by a small program (walk.py). -/
import Derived.Test.YtaadloihphpdbaaUWSend3
import Derived.Test.YtaadloihphpdbaaUPRound
import Derived.Test.YtaadloihphpdbaaUVcIns
set_option linter.unusedVariables false
set_option linter.unusedSimpArgs false
set_option maxRecDepth 4000
namespace Go.Proofs.Ytaadloihphpdbaa
open Go Go.Vc Go.RowKit
theorem mid_is {i j : Nat} (h : i + j ≤ 4000000000) : IntKind.i64.wrap ((IntKind.u64.wrap ((i : Int) + (j : Int))).fdiv (2 ^ (min (1 : Int).toNat IntKind.u64.bits))) = (((i + j) / 2 : Nat) : Int) := by
  have e1 : IntKind.u64.wrap ((i : Int) + (j : Int)) = ((i + j : Nat) : Int) := by
    simp only [IntKind.wrap, IntKind.bits, IntKind.signed, Bool.false_and, Bool.false_eq_true, if_false]
    omega
  rw [e1]
  have e2 : ((i + j : Nat) : Int).fdiv (2 ^ (min (1 : Int).toNat IntKind.u64.bits)) = (((i + j) / 2 : Nat) : Int) := by
    have : (2 : Int) ^ (min (1 : Int).toNat IntKind.u64.bits) = 2 := by decide
    rw [this, Int.fdiv_eq_ediv_of_nonneg _ (by decide)]
    omega
  rw [e2]
  exact wrap_inI (by unfold inI; omega)
theorem hold_early {r : Receiver} (hr : RInv r) {c : Chunk} (hc : c ∈ r.hold) : c.early.length ≤ 17592186044000 := by
  have := MChunk.num ⟨(hr.h c hc).2, (hr.h c hc).1⟩
  rw [this.2.2.1]; simp
theorem hold_len {r : Receiver} (hr : RInv r) : r.hold.length ≤ 40 ∧ r.told.length ≤ 40 ∧ r.early.length ≤ 3 := by
  have h1 := hr.t; have h2 := hr.nl; have h3 := hr.el
  omega
theorem rsay_no {r : Receiver} (h : (!r.owes) = true) : rsay r = (r, zfj, false) := by unfold rsay; rw [if_neg (by simpa using h)]
theorem rsay_yes {r : Receiver} (h : (!r.owes) = false) : rsay r = ({ r with owes := false }, ⟨2, r.next, 0, 0, [], r.early⟩, true) := by unfold rsay; rw [if_pos (by simpa using h)]
theorem c171 (n : Int) : VFun G 171 [.lit (.int .i64 n)] [] (.lit (.bool false)) [] := by
 refine VFun.intro (fn := Try.f171) rfl rfl (by kernel_rfl) (nb rfl) fun Γ hpar => ?_
 refine zac <| zaa <| zad rfl rfl tv <| zaf tv <| zac <| zaa <| zae rfl rfl tv <| zae rfl rfl tv <| u_neq rfl rfl rfl tv <| zad rfl rfl tv <| zaf tv <| zav <| fin0 (.inr rfl) (.cons (.tmp rfl (nb rfl)) .nil) (subB ?_)
 ·simp
theorem c165 (n : Int) : VFun G 165 [.lit (.int .i64 n)] [] (.lit (.bool false)) [] := by
 refine VFun.intro (fn := Try.f165) rfl rfl (by kernel_rfl) (nb rfl) fun Γ hpar => ?_
 refine zac <| zaa <| zad rfl rfl tv <| zaf tv <| zac <| zaa <| zae rfl rfl tv <| zae rfl rfl tv <| u_neq rfl rfl rfl tv <| zad rfl rfl tv <| zaf tv <| zav <| fin0 (.inr rfl) (.cons (.tmp rfl (nb rfl)) .nil) (subB ?_)
 ·simp
theorem c164 (a b : Int) : VFun G 164 [.lit (.int .i64 a), .lit (.int .i64 b)] [] (.lit (.bool (decide (a < b)))) [] := by
 refine VFun.intro (fn := Try.f164) rfl rfl (by kernel_rfl) (nb rfl) fun Γ hpar => ?_
 refine zac <| zaa <| zad rfl rfl tv <| zaf tv <| zac <| zaa <| zae rfl rfl tv <| zbo rfl (c171 _) (.cons ((.lit _)) .nil) rfl tv <| zae rfl rfl tv <| zal rfl rfl rfl rfl rfl <| zal rfl rfl rfl rfl rfl <| zal rfl rfl rfl rfl rfl <| zbh rfl rfl rfl tv <| zae rfl rfl tv <| zae rfl rfl (gk rfl) <| zae rfl rfl (gk rfl) <| u_lss rfl rfl rfl (gk rfl) <| zbh rfl rfl rfl tv <| zad rfl rfl tv <| zaf tv <| zav <| fin0 (.inr rfl) (.cons (.tmp rfl (nb rfl)) .nil) (subB ?_)
 ·rfl
theorem c148 (l : List Int) (n : Int) (hs : l.Pairwise (· < ·)) (hl : l.length ≤ 1000000) : VFun G 148 [.shr 1 (zay l), .lit (.int .i64 n)] [] (.tup [.lit (.int .i64 ((l.takeWhile fun x => decide (x < n)).length : Nat)), .lit (.bool (l.contains n))]) [] := by
 have hq : (l.takeWhile fun x => decide (x < n)).length ≤ l.length := (List.takeWhile_sublist _).length_le
 refine VFun.intro (fn := Try.f148) rfl rfl (by kernel_rfl) (nb rfl) fun Γ hpar => ?_
 refine zac <| zaa <| zad rfl rfl tv <| zad rfl rfl tv <| zaf tv <| zac <| zaa <| zae rfl rfl tv <| zcs rfl rfl rfl tv <| zad rfl rfl tv <| zaf tv <| zac <| zaa <| zae rfl rfl tv <| zad rfl rfl tv <| zad rfl rfl tv <| zaf tv <| zac <| zaz <| zbx (fun n_ E => ∃ (i : Nat) (j : Nat), ((i ≤ (l.takeWhile fun x => decide (x < n)).length) ∧ ((l.takeWhile fun x => decide (x < n)).length ≤ j) ∧ (j ≤ l.length)) ∧ n_ = j - i ∧ E = ⟨[(0, .shr 1 (zay l)), (1, .lit (.int .i64 n)), (6, .lit (.int .i64 (zay l).length)), (7, .lit (.int .i64 i)), (8, .lit (.int .i64 j))], [], 54⟩) (n0 := _) (E0 := _) (⟨0, l.length, by exact ⟨Nat.zero_le _, hq, Nat.le_refl _⟩, rfl, rfl⟩) (ren []) (zaw [] rfl rfl ⟨⟨_, rfl, (.shr _ _)⟩, ⟨_, rfl, (.lit _)⟩, ⟨_, rfl, (.lit _)⟩, ⟨_, rfl, (.lit _)⟩, ⟨_, rfl, (subI (by rw [zam]))⟩, tv⟩ tv (zax hpar rfl)) (fun n_ E hR => ?_)
 obtain ⟨i, j, hI, rfl, rfl⟩ := hR
 obtain ⟨hI0, hI1, hI2⟩ := hI
 refine zac <| zac <| zaa <| zae rfl rfl tv <| zae rfl rfl tv <| zcm rfl rfl rfl tv (fun h15 => ?_) (fun h15 => ?_)
 ·refine zaf tv <| zas rfl <| zbd <| zaz <| zac <| zaa <| zae rfl rfl tv <| zae rfl rfl tv <| zcg rfl rfl rfl (by unfold inI; omega) rfl tv <| u_convI rfl rfl rfl rfl tv <| u_shr rfl rfl (by decide) rfl tv <| u_convI rfl rfl rfl rfl tv <| zad rfl rfl tv <| zaf tv <| zac ?_
  rw [mid_is (by omega)]
  obtain ⟨x, hx⟩ : ∃ x, l[(i + j) / 2]? = some x := ⟨_, List.getElem?_eq_getElem (by omega)⟩
  refine zaa <| zae rfl rfl tv <| zae rfl rfl tv <| zbz rfl rfl rfl rfl rfl (by rfl) (zev hx) rfl tv <| zcr rfl rfl rfl rfl rfl tv <| zae rfl rfl tv <| s_call [] rfl (c164 _ _) (.cons ((.lit _)) (.cons ((.lit _)) .nil)) (fun k o h => by simp [Go.Vc.look] at h) rfl tv (fun h27 => ?_) (fun h27 => ?_)
  ·refine zaf tv <| zas rfl <| zaa <| zae rfl rfl tv <| zcg rfl rfl rfl (by unfold inI; omega) rfl tv <| zad rfl rfl tv <| zaf tv <| ⟨_, _, ren [], ?_, ⟨(i + j) / 2 + 1, j, ?_, rfl, rfl⟩, zaw [] rfl rfl ⟨⟨_, rfl, (.shr _ _)⟩, ⟨_, rfl, (.lit _)⟩, ⟨_, rfl, (.lit _)⟩, ⟨_, rfl, (subI (by rfl))⟩, ⟨_, rfl, (.lit _)⟩, tv⟩ tv (zax hpar rfl)⟩
   ·omega
   ·exact ⟨(tw_lt hs hx).1 (by simpa using h27), hI1, hI2⟩
  ·refine zaf tv <| zau rfl <| zaa <| zae rfl rfl tv <| zad rfl rfl tv <| zaf tv <| ⟨_, _, ren [], ?_, ⟨i, (i + j) / 2, ?_, rfl, rfl⟩, zaw [] rfl rfl ⟨⟨_, rfl, (.shr _ _)⟩, ⟨_, rfl, (.lit _)⟩, ⟨_, rfl, (.lit _)⟩, ⟨_, rfl, (.lit _)⟩, ⟨_, rfl, (.lit _)⟩, tv⟩ tv (zax hpar rfl)⟩
   ·omega
   ·refine ⟨hI0, ?_, by omega⟩
    have := mt (tw_lt hs hx).2 (by simpa using h27)
    omega
 ·refine zaf tv <| zau rfl <| zcc <| iteP rfl <| zac ?_
  obtain rfl : i = (l.takeWhile fun x => decide (x < n)).length := by omega
  refine zaa <| zae rfl rfl tv <| zae rfl rfl tv <| zae rfl rfl tv <| zcm rfl rfl rfl tv (fun h34 => ?_) (fun h34 => ?_)
  ·refine zae rfl rfl tv <| zae rfl rfl (gk rfl) <| zae rfl rfl (gk rfl) <| zbz rfl rfl rfl rfl rfl rfl (zev (List.getElem?_eq_getElem (by rw [zam] at h34; omega))) rfl (gk rfl) ?_
   refine zcr rfl rfl rfl rfl rfl (gk rfl) <| zae rfl rfl (gk rfl) <| zew rfl rfl rfl (gk rfl) (fun h41 => ?_) (fun h41 => ?_)
   ·refine zae rfl rfl (gk rfl) <| zal rfl rfl rfl rfl rfl <| zal rfl rfl rfl rfl rfl <| zal rfl rfl rfl rfl rfl <| zal rfl rfl rfl rfl rfl <| zal rfl rfl rfl rfl rfl <| zal rfl rfl rfl rfl rfl <| zal rfl rfl rfl rfl rfl <| zal rfl rfl rfl rfl rfl <| zal rfl rfl rfl rfl rfl <| zbk rfl rfl rfl (gk rfl) <| zbk rfl rfl rfl tv <| zad rfl rfl tv <| zad rfl rfl tv <| zaf tv <| zav <| fin' [] (.inr rfl) (.cons (.tmp rfl (nb rfl)) (.cons (.tmp rfl (nb rfl)) .nil)) (zaw [] rfl rfl ⟨⟨_, rfl, (.tup _ _ (.cons (subI ?_) (.cons (subB ?_) .nil)))⟩, tv⟩ tv (zax rfl rfl))
    all_goals (try rfl)
    all_goals
      first | rfl | exact (bs_yes hs rfl (by rw [List.getElem?_eq_getElem (by rw [zam] at h34; omega), h41])).symm | exact bs_yes hs rfl (by rw [List.getElem?_eq_getElem (by rw [zam] at h34; omega), h41])
   ·refine zae rfl rfl (gk rfl) <| zae rfl rfl (gk rfl) <| zae rfl rfl (gk rfl) <| zbz rfl rfl rfl rfl rfl rfl (zev (List.getElem?_eq_getElem (by rw [zam] at h34; omega))) rfl (gk rfl) ?_
    refine zcr rfl rfl rfl rfl rfl (gk rfl) <| zbo rfl (c165 _) (.cons ((.lit _)) .nil) rfl (gk rfl) <| zae rfl rfl (gk rfl) <| zal rfl rfl rfl rfl rfl <| zal rfl rfl rfl rfl rfl <| zbh rfl rfl rfl (gk rfl) <| zbh rfl rfl rfl (gk rfl) <| zbk rfl rfl rfl tv <| zad rfl rfl tv <| zad rfl rfl tv <| zaf tv <| zav <| fin' [] (.inr rfl) (.cons (.tmp rfl (nb rfl)) (.cons (.tmp rfl (nb rfl)) .nil)) (zaw [] rfl rfl ⟨⟨_, rfl, (.tup _ _ (.cons (subI ?_) (.cons (subB ?_) .nil)))⟩, tv⟩ tv (zax rfl rfl))
    all_goals (try rfl)
    all_goals
      first | rfl | exact bs_no hs rfl (by rw [zam] at h34; first | (rw [List.getElem?_eq_none (by omega)]; simp; done) | (rw [List.getElem?_eq_getElem (by omega)]; intro e; injection e with e; exact h41 e)) | exact (bs_no hs rfl (by rw [zam] at h34; first | (rw [List.getElem?_eq_none (by omega)]; simp; done) | (rw [List.getElem?_eq_getElem (by omega)]; intro e; injection e with e; exact h41 e))).symm
  ·refine zae rfl rfl tv <| zal rfl rfl rfl rfl rfl <| zal rfl rfl rfl rfl rfl <| zal rfl rfl rfl rfl rfl <| zal rfl rfl rfl rfl rfl <| zal rfl rfl rfl rfl rfl <| zal rfl rfl rfl rfl rfl <| zal rfl rfl rfl rfl rfl <| zal rfl rfl rfl rfl rfl <| zal rfl rfl rfl rfl rfl <| zal rfl rfl rfl rfl rfl <| zal rfl rfl rfl rfl rfl <| zal rfl rfl rfl rfl rfl <| zal rfl rfl rfl rfl rfl <| zal rfl rfl rfl rfl rfl <| zal rfl rfl rfl rfl rfl <| zal rfl rfl rfl rfl rfl <| zal rfl rfl rfl rfl rfl <| zbh rfl rfl rfl tv <| zad rfl rfl tv <| zad rfl rfl tv <| zaf tv <| zav <| fin' [] (.inr rfl) (.cons (.tmp rfl (nb rfl)) (.cons (.tmp rfl (nb rfl)) .nil)) (zaw [] rfl rfl ⟨⟨_, rfl, (.tup _ _ (.cons (subI ?_) (.cons (subB ?_) .nil)))⟩, tv⟩ tv (zax rfl rfl))
   all_goals (try rfl)
   all_goals
     first | rfl | exact bs_no hs rfl (by rw [zam] at h34; first | (rw [List.getElem?_eq_none (by omega)]; simp; done) | (rw [List.getElem?_eq_getElem (by omega)]; intro e; injection e with e; exact h41 e)) | exact (bs_no hs rfl (by rw [zam] at h34; first | (rw [List.getElem?_eq_none (by omega)]; simp; done) | (rw [List.getElem?_eq_getElem (by omega)]; intro e; injection e with e; exact h41 e))).symm
theorem c110 (r : Receiver) (hr : RInv r) : VFun G 110 [.agg (zfi r)] [] (.agg [.lit (.int .i64 r.next), .row 901, .lit (.int .i64 r.places.a), .lit (.int .i64 r.places.b), .lit (.int .i64 r.places.c), .row 902, .row 903, .lit (.bool r.owes)]) [(901, .row 3 1 (zay r.early)), (902, .row 77 6 (zao r.hold)), (903, .row 48 2 (zaq r.told))] := by
 have hh := hold_len hr
 refine VFun.intro (fn := Try.f110) rfl rfl (by kernel_rfl) (nb rfl) fun Γ hpar => ?_
 refine zac <| zaa <| zeb 100 rfl rfl rfl (zar hpar rfl) rfl rfl tv <| zbf 101 rfl rfl (zar hpar rfl) rfl rfl tv <| zaf tv <| zac <| zaa <| zan rfl rfl rfl rfl rfl rfl tv <| zbf 102 rfl rfl (zar hpar rfl) rfl rfl tv <| zah rfl rfl rfl rfl rfl rfl rfl rfl tv <| zaf tv <| zac <| zaa <| zab rfl rfl rfl rfl rfl rfl tv <| zak rfl rfl rfl rfl rfl rfl tv <| u_callN [] rfl (c140 103 r.early (by omega)) (.cons ((.shr _ _)) .nil) (fun k o h => by simp [Go.Vc.look] at h) (.inl rfl) rfl (zar hpar rfl) rfl tv <| zab rfl rfl rfl rfl rfl rfl tv <| zbm rfl rfl rfl rfl rfl rfl rfl tv <| zab rfl rfl rfl rfl rfl rfl tv <| zbm rfl rfl rfl rfl rfl rfl rfl tv <| zab rfl rfl rfl rfl rfl rfl tv <| zbm rfl rfl rfl rfl rfl rfl rfl tv <| zaf tv <| zac <| zac <| zaa <| zab rfl rfl rfl rfl rfl rfl tv <| zak rfl rfl rfl rfl rfl rfl tv <| zcs rfl rfl rfl tv <| zae rfl rfl tv ?_
 refine zaf tv <| zaz <| zbx (fun n_ E => ∃ (i : Nat), ((i ≤ r.hold.length)) ∧ n_ = r.hold.length - i ∧ E = ⟨[(1, .ptr 1 0), (2, .ptr 2 0), (3, .ptr 3 0), (16, .shr 6 (zao r.hold)), (17, .lit (.int .i64 (zao r.hold).length)), (18, .lit (.int .i64 i))], [(1, .box (zfi r)), (2, .box [.lit (.int .i64 0), .lit (.slice none 0 0), .lit (.int .i64 0), .lit (.int .i64 0), .lit (.int .i64 0), .lit (.slice none 0 0), .lit (.slice none 0 0), .lit (.bool false)]), (3, .box [.lit (.int .i64 r.next), .row 901, .lit (.int .i64 r.places.a), .lit (.int .i64 r.places.b), .lit (.int .i64 r.places.c), .row 902, .lit (.slice none 0 0), .lit (.bool r.owes)]), (901, .row 3 1 (zay r.early)), (902, .row 77 6 (zao (r.hold.take i)))], 50⟩) (n0 := _) (E0 := _) (⟨0, by omega, rfl, rfl⟩) (ren [(1, 100), (2, 101), (3, 102), (901, 103)]) (zaw [(1, 100), (2, 101), (3, 102), (901, 103)] rfl rfl ⟨⟨_, rfl, (.ptr _ _ _ rfl (zag rfl))⟩, ⟨_, rfl, (.ptr _ _ _ rfl (zag rfl))⟩, ⟨_, rfl, (.ptr _ _ _ rfl (zag rfl))⟩, ⟨_, rfl, (.shr _ _)⟩, ⟨_, rfl, (.lit _)⟩, ⟨_, rfl, (.lit _)⟩, tv⟩ ⟨⟨_, _, rfl, rfl, (zbw rfl)⟩, ⟨_, _, rfl, rfl, (zbw rfl)⟩, ⟨_, _, rfl, rfl, (.cons ((.lit _)) (.cons ((.row _ _ rfl (zag rfl))) (.cons ((.lit _)) (.cons ((.lit _)) (.cons ((.lit _)) (.cons (.nilrow _ _ _ _ rfl rfl) (.cons ((.lit _)) (.cons ((.lit _)) .nil))))))))⟩, (.inl ⟨_, rfl, rfl⟩), (.inr (.inl ⟨rfl, rfl⟩)), tv⟩ (zax hpar rfl)) (fun n_ E hR => ?_)
 obtain ⟨i, hI, rfl, rfl⟩ := hR
 have hI0 := hI
 refine zac <| zaa <| zcm rfl rfl rfl tv (fun h19 => ?_) (fun h19 => ?_)
 ·refine zaf tv <| zac <| zas rfl <| zbd <| zac <| zaz <| zac ?_
  rw [zaj] at h19
  refine zaa <| zbz rfl rfl rfl rfl rfl rfl (zcx (by omega)) rfl tv <| zdi rfl rfl rfl rfl rfl tv <| zbf 124 rfl rfl (zar hpar rfl) rfl rfl tv <| zah rfl rfl rfl rfl rfl rfl rfl rfl tv <| zaf tv <| zcb <| zab rfl rfl rfl rfl rfl rfl tv <| zak rfl rfl rfl rfl rfl rfl tv <| zan rfl rfl rfl rfl rfl rfl tv <| zbo rfl (c80 (r.hold[i]'(by omega)) (hold_early hr (List.getElem_mem _))) (.cons ((subP rfl)) .nil) rfl tv <| zba 125 rfl rfl rfl rfl rfl rfl rfl rfl rfl rfl (zar hpar rfl) rfl rfl tv <| zbt 126 rfl rfl rfl (zct rfl) rfl (zar hpar rfl) rfl rfl rfl rfl rfl (by simp [zby, zaj]; omega) rfl tv <| zab rfl rfl rfl rfl rfl rfl tv <| zbm rfl rfl rfl rfl rfl rfl rfl tv <| zaf (by kernel_rfl) <| zaa <| zcg rfl rfl rfl (by unfold inI; omega) rfl tv <| zae rfl rfl tv <| zaf tv <| ⟨_, _, ren [(1, 1), (2, 2), (3, 3), (901, 901), (902, 126)], ?_, ⟨i + 1, ?_, rfl, rfl⟩, zaw [(1, 1), (2, 2), (3, 3), (901, 901), (902, 126)] rfl rfl ⟨⟨_, rfl, (.ptr _ _ _ rfl (zag rfl))⟩, ⟨_, rfl, (.ptr _ _ _ rfl (zag rfl))⟩, ⟨_, rfl, (.ptr _ _ _ rfl (zag rfl))⟩, ⟨_, rfl, (.shr _ _)⟩, ⟨_, rfl, (.lit _)⟩, ⟨_, rfl, (.lit _)⟩, tv⟩ ⟨⟨_, _, rfl, rfl, (zbw rfl)⟩, ⟨_, _, rfl, rfl, (zbw rfl)⟩, ⟨_, _, rfl, rfl, (.cons ((.lit _)) (.cons ((.row _ _ rfl (zag rfl))) (.cons ((.lit _)) (.cons ((.lit _)) (.cons ((.lit _)) (.cons ((.row _ _ rfl (zag rfl))) (.cons ((.lit _)) (.cons ((.lit _)) .nil))))))))⟩, (.inl ⟨_, rfl, rfl⟩), (.inl ⟨_, rfl, zbr rfl (by rw [← List.take_append_getElem (show i < r.hold.length by omega), zcd]; rfl)⟩), tv⟩ (zax hpar rfl)⟩
  ·omega
  ·omega
 ·refine zaf tv <| zac <| zau rfl <| zcc <| iteP rfl <| zac <| zac ?_
  rw [zaj] at h19
  refine zaa <| zab rfl rfl rfl rfl rfl rfl tv <| zak rfl rfl rfl rfl rfl rfl tv <| zcs rfl rfl rfl tv <| zae rfl rfl tv <| zaf tv <| zaz <| zbx (fun n_ E => ∃ (i : Nat), ((i ≤ r.told.length)) ∧ n_ = r.told.length - i ∧ E = ⟨[(2, .ptr 2 0), (3, .ptr 3 0), (31, .shr 2 (zaq r.told)), (32, .lit (.int .i64 (zaq r.told).length)), (33, .lit (.int .i64 i))], [(2, .box [.lit (.int .i64 0), .lit (.slice none 0 0), .lit (.int .i64 0), .lit (.int .i64 0), .lit (.int .i64 0), .lit (.slice none 0 0), .lit (.slice none 0 0), .lit (.bool false)]), (3, .box [.lit (.int .i64 r.next), .row 901, .lit (.int .i64 r.places.a), .lit (.int .i64 r.places.b), .lit (.int .i64 r.places.c), .row 902, .row 903, .lit (.bool r.owes)]), (901, .row 3 1 (zay r.early)), (902, .row 77 6 (zao r.hold)), (903, .row 48 2 (zaq (r.told.take i)))], 50⟩) (n0 := _) (E0 := _) (⟨0, by omega, rfl, rfl⟩) (ren [(2, 2), (3, 3), (901, 901), (902, 902)]) (zaw [(2, 2), (3, 3), (901, 901), (902, 902)] rfl rfl ⟨⟨_, rfl, (.ptr _ _ _ rfl (zag rfl))⟩, ⟨_, rfl, (.ptr _ _ _ rfl (zag rfl))⟩, ⟨_, rfl, (.shr _ _)⟩, ⟨_, rfl, (.lit _)⟩, ⟨_, rfl, (.lit _)⟩, tv⟩ ⟨⟨_, _, rfl, rfl, (zbw rfl)⟩, ⟨_, _, rfl, rfl, (.cons ((.lit _)) (.cons ((.row _ _ rfl (zag rfl))) (.cons ((.lit _)) (.cons ((.lit _)) (.cons ((.lit _)) (.cons ((.row _ _ rfl (zag rfl))) (.cons (.nilrow _ _ _ _ rfl rfl) (.cons ((.lit _)) .nil))))))))⟩, (.inl ⟨_, rfl, rfl⟩), (.inl ⟨_, rfl, zbr rfl (by rw [List.take_of_length_le (by omega)])⟩), (.inr (.inl ⟨rfl, rfl⟩)), tv⟩ (zax hpar rfl)) (fun n_ E hR => ?_)
  obtain ⟨i, hI, rfl, rfl⟩ := hR
  have hI0 := hI
  refine zac <| zaa <| zcm rfl rfl rfl tv (fun h34 => ?_) (fun h34 => ?_)
  ·refine zaf tv <| zac <| zas rfl <| zbd <| zac <| zaz <| zac ?_
   rw [zap] at h34
   refine zaa <| zbz rfl rfl rfl rfl rfl rfl (msgCells_get (by omega)) rfl tv <| zdi rfl rfl rfl rfl rfl tv <| zbf 144 rfl rfl (zar hpar rfl) rfl rfl tv <| zah rfl rfl rfl rfl rfl rfl rfl rfl tv <| zaf tv <| zcb <| zab rfl rfl rfl rfl rfl rfl tv <| zak rfl rfl rfl rfl rfl rfl tv <| zab rfl rfl rfl rfl rfl rfl tv <| zak rfl rfl rfl rfl rfl rfl tv <| zab rfl rfl rfl rfl rfl rfl tv <| zak rfl rfl rfl rfl rfl rfl tv <| zbo rfl (VFun.read (c136 0 _)) (.cons ((.shr _ _)) .nil) rfl tv <| zch rfl rfl rfl rfl rfl tv <| zba 145 rfl rfl rfl rfl rfl rfl rfl rfl rfl rfl (zar hpar rfl) rfl rfl tv <| zbt 146 rfl rfl rfl (zct rfl) rfl (zar hpar rfl) rfl rfl rfl rfl rfl (by simp [zby, zap]; omega) rfl tv <| zab rfl rfl rfl rfl rfl rfl tv <| zbm rfl rfl rfl rfl rfl rfl rfl tv <| zaf (by kernel_rfl) <| zaa <| zcg rfl rfl rfl (by unfold inI; omega) rfl tv <| zae rfl rfl tv <| zaf tv <| ⟨_, _, ren [(2, 2), (3, 3), (901, 901), (902, 902), (903, 146)], ?_, ⟨i + 1, ?_, rfl, rfl⟩, zaw [(2, 2), (3, 3), (901, 901), (902, 902), (903, 146)] rfl rfl ⟨⟨_, rfl, (.ptr _ _ _ rfl (zag rfl))⟩, ⟨_, rfl, (.ptr _ _ _ rfl (zag rfl))⟩, ⟨_, rfl, (.shr _ _)⟩, ⟨_, rfl, (.lit _)⟩, ⟨_, rfl, (.lit _)⟩, tv⟩ ⟨⟨_, _, rfl, rfl, (zbw rfl)⟩, ⟨_, _, rfl, rfl, (.cons ((.lit _)) (.cons ((.row _ _ rfl (zag rfl))) (.cons ((.lit _)) (.cons ((.lit _)) (.cons ((.lit _)) (.cons ((.row _ _ rfl (zag rfl))) (.cons ((.row _ _ rfl (zag rfl))) (.cons ((.lit _)) .nil))))))))⟩, (.inl ⟨_, rfl, rfl⟩), (.inl ⟨_, rfl, rfl⟩), (.inl ⟨_, rfl, zbr rfl (by rw [← List.take_append_getElem (show i < r.told.length by omega), zdb]; rfl)⟩), tv⟩ (zax hpar rfl)⟩
   ·omega
   ·omega
  ·refine zaf tv <| zac <| zau rfl <| zcc <| iteP rfl <| zac ?_
   rw [zap] at h34
   refine zaa <| zan rfl rfl rfl rfl rfl rfl tv <| zah rfl rfl rfl rfl rfl rfl rfl rfl tv <| zaf tv <| zav <| fin' [(901, 901), (902, 902), (903, 903)] (.inr rfl) (.cons (.cellN rfl rfl rfl rfl rfl) .nil) (zaw [(901, 901), (902, 902), (903, 903)] rfl rfl ⟨⟨_, rfl, (.agg _ _ (.cons (subI ?_) (.cons (.row _ _ rfl (zag rfl)) (.cons (subI ?_) (.cons (subI ?_) (.cons (subI ?_) (.cons (.row _ _ rfl (zag rfl)) (.cons (.row _ _ rfl (zag rfl)) (.cons (subB ?_) .nil)))))))))⟩, tv⟩ ⟨(.inl ⟨_, rfl, zbr rfl ?_⟩), (.inl ⟨_, rfl, zbr rfl ?_⟩), (.inl ⟨_, rfl, zbr rfl ?_⟩), tv⟩ (zax rfl rfl))
   all_goals (try rfl)
   all_goals
     rw [List.take_of_length_le (by omega)]
theorem c107 (r : Receiver) (hr : RInv r) : VFun G 107 [.agg (zfi r)] [] (.tup [.agg (zfi (rsay r).1), .agg (zcn (rsay r).2.1), .lit (.bool (rsay r).2.2)]) [] := by
 have hh := hold_len hr
 refine VFun.intro (fn := Try.f107) rfl rfl (by kernel_rfl) (nb rfl) fun Γ hpar => ?_
 refine zac <| zaa <| zeb 100 rfl rfl rfl (zar hpar rfl) rfl rfl tv <| zbf 101 rfl rfl (zar hpar rfl) rfl rfl tv <| zbf 102 rfl rfl (zar hpar rfl) rfl rfl tv <| zad rfl rfl tv <| zaf tv <| zac <| zaa <| zan rfl rfl rfl rfl rfl rfl tv <| zbq [] [] [] rfl rfl (c110 r hr) zbs tv (.cons ((subP rfl)) .nil) rfl rfl (zce hpar rfl) rfl tv <| zbf 103 rfl rfl (zar hpar rfl) rfl rfl tv <| zah rfl rfl rfl rfl rfl rfl rfl rfl tv <| zaf tv <| zac <| zac <| zaa <| zab rfl rfl rfl rfl rfl rfl tv <| zak rfl rfl rfl rfl rfl rfl tv <| u_not rfl rfl tv <| zaf tv <| vw_cond rfl (fun hc1 => ?_) (fun hc1 => ?_)
 ·refine zac <| zaa <| zan rfl rfl rfl rfl rfl rfl tv <| zfk rfl rfl rfl (.same _ (.same _ (.same _ (.same _ (.see 1 (.see 1 .nil)))))) rfl rfl tv <| zah rfl rfl rfl rfl rfl rfl rfl rfl tv <| zah rfl rfl rfl rfl rfl rfl rfl rfl tv <| zad rfl rfl tv <| zaf tv <| zav ?_
  rw [rsay_no hc1]
  refine fin' [] (.inr rfl) (.cons (.cellN rfl rfl rfl rfl rfl) (.cons (.cellN rfl rfl rfl rfl rfl) (.cons (.tmp rfl (nb rfl)) .nil))) (zaw [] rfl rfl ⟨⟨_, rfl, (.tup _ _ (.cons (.agg _ _ (.cons (subI ?_) (.cons (zbn rfl (fzL rfl) ?_) (.cons (subI ?_) (.cons (subI ?_) (.cons (subI ?_) (.cons (zbn rfl (fzL rfl) ?_) (.cons (zbn rfl (fzL rfl) ?_) (.cons (subB ?_) .nil))))))))) (.cons (.agg _ _ (.cons (subI ?_) (.cons (subI ?_) (.cons (subI ?_) (.cons (subI ?_) (.cons (subS ?_) (.cons (subS ?_) .nil))))))) (.cons (subB ?_) .nil))))⟩, tv⟩ tv (zax rfl rfl))
  all_goals (try rfl)
 ·refine zbd <| zac <| zaa <| zab rfl rfl rfl rfl rfl rfl tv <| zbm rfl rfl rfl rfl rfl rfl rfl tv <| zaf tv <| zac <| zcb <| zan rfl rfl rfl rfl rfl rfl tv <| zab rfl rfl rfl rfl rfl rfl tv <| zak rfl rfl rfl rfl rfl rfl tv <| zab rfl rfl rfl rfl rfl rfl tv <| zak rfl rfl rfl rfl rfl rfl tv <| zbo rfl (VFun.read (c140 0 _ (by have := hold_len hr; omega))) (.cons ((.shr _ _)) .nil) rfl tv <| zfk rfl rfl rfl (.same _ (.same _ (.same _ (.same _ (.see 1 (.same _ .nil)))))) rfl rfl tv <| zah rfl rfl rfl rfl rfl rfl rfl rfl tv <| zah rfl rfl rfl rfl rfl rfl rfl rfl tv <| zad rfl rfl tv <| zaf (by kernel_rfl) <| zav ?_
  rw [rsay_yes hc1]
  refine fin' [] (.inr rfl) (.cons (.cellN rfl rfl rfl rfl rfl) (.cons (.cellN rfl rfl rfl rfl rfl) (.cons (.tmp rfl (nb rfl)) .nil))) (zaw [] rfl rfl ⟨⟨_, rfl, (.tup _ _ (.cons (.agg _ _ (.cons (subI ?_) (.cons (zbn rfl (fzL rfl) ?_) (.cons (subI ?_) (.cons (subI ?_) (.cons (subI ?_) (.cons (zbn rfl (fzL rfl) ?_) (.cons (zbn rfl (fzL rfl) ?_) (.cons (subB ?_) .nil))))))))) (.cons (.agg _ _ (.cons (subI ?_) (.cons (subI ?_) (.cons (subI ?_) (.cons (subI ?_) (.cons (subS ?_) (.cons (subS ?_) .nil))))))) (.cons (subB ?_) .nil))))⟩, tv⟩ tv (zax rfl rfl))
  all_goals (try rfl)
end Go.Proofs.Ytaadloihphpdbaa
