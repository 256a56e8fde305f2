/- Walks. Printed by a small program (walk.py). -/
import Derived.Test.YtaadloihphpdbaaUWWorld3H
set_option linter.unusedVariables false
set_option linter.unusedSimpArgs false
set_option maxRecDepth 4000
namespace Go.Proofs.Ytaadloihphpdbaa
open Go Go.Vc Go.RowKit
theorem c50w (v s : Int) : VFun G 50 [.lit (.int .i64 v), .lit (.int .i64 s)] [] (.tup [.lit (.int .i64 (lineOf v s).1), .lit (.int .i64 (lineOf v s).2)]) [] := by
 refine VFun.intro (fn := Try.f50) rfl rfl (by kernel_rfl) (nb rfl) fun Γ hpar => ?_
 refine zac <| zaa <| zad rfl rfl tv <| zad rfl rfl tv <| zaf tv <| zac <| zac <| zaa <| zae rfl rfl tv <| zcm rfl rfl rfl tv (fun h7 => ?_) (fun h7 => ?_)
 ·refine zae rfl rfl tv <| zal rfl rfl rfl rfl rfl <| zal rfl rfl rfl rfl rfl <| zbk rfl rfl rfl tv <| zae rfl rfl tv <| zal rfl rfl rfl rfl rfl <| zal rfl rfl rfl rfl rfl <| zbk rfl rfl rfl tv <| zaf tv <| zas rfl <| zac <| zaa <| zad rfl rfl tv <| zad rfl rfl tv <| zaf tv <| zav ?_
  rw [lineN (by omega)]
  refine fin' [] (.inr rfl) (.cons (.tmp rfl (nb rfl)) (.cons (.tmp rfl (nb rfl)) .nil)) (zaw [] rfl rfl ⟨⟨_, rfl, (.tup _ _ (.cons (subI ?_) (.cons (subI ?_) .nil)))⟩, tv⟩ tv (zax rfl rfl))
  all_goals (try rfl)
 ·refine zae rfl rfl tv <| zae rfl rfl (gk rfl) <| zcm rfl rfl rfl (gk rfl) (fun h10 => ?_) (fun h10 => ?_)
  ·refine zbh rfl rfl rfl tv <| zae rfl rfl tv <| zal rfl rfl rfl rfl rfl <| zal rfl rfl rfl rfl rfl <| zbk rfl rfl rfl tv <| zaf tv <| zas rfl <| zac <| zaa <| zad rfl rfl tv <| zad rfl rfl tv <| zaf tv <| zav ?_
   rw [lineN (by omega)]
   refine fin' [] (.inr rfl) (.cons (.tmp rfl (nb rfl)) (.cons (.tmp rfl (nb rfl)) .nil)) (zaw [] rfl rfl ⟨⟨_, rfl, (.tup _ _ (.cons (subI ?_) (.cons (subI ?_) .nil)))⟩, tv⟩ tv (zax rfl rfl))
   all_goals (try rfl)
  ·refine zbh rfl rfl rfl tv <| zae rfl rfl tv <| zae rfl rfl (gk rfl) <| s_gtr rfl rfl rfl (gk rfl) (fun h14 => ?_) (fun h14 => ?_)
   ·refine zbh rfl rfl rfl tv <| zaf tv <| zas rfl <| zac <| zaa <| zad rfl rfl tv <| zad rfl rfl tv <| zaf tv <| zav ?_
    rw [lineN (by omega)]
    refine fin' [] (.inr rfl) (.cons (.tmp rfl (nb rfl)) (.cons (.tmp rfl (nb rfl)) .nil)) (zaw [] rfl rfl ⟨⟨_, rfl, (.tup _ _ (.cons (subI ?_) (.cons (subI ?_) .nil)))⟩, tv⟩ tv (zax rfl rfl))
    all_goals (try rfl)
   ·refine zbh rfl rfl rfl tv <| zaf tv <| zau rfl <| zbd <| zac <| zaa <| zae rfl rfl tv <| zae rfl rfl tv <| u_remN rfl rfl (by omega) rfl tv <| zad rfl rfl tv <| zad rfl rfl tv <| zaf tv <| zav ?_
    rw [lineY (by omega)]
    refine fin' [] (.inr rfl) (.cons (.tmp rfl (nb rfl)) (.cons (.tmp rfl (nb rfl)) .nil)) (zaw [] rfl rfl ⟨⟨_, rfl, (.tup _ _ (.cons (subI ?_) (.cons (subI ?_) .nil)))⟩, tv⟩ tv (zax rfl rfl))
    all_goals (try rfl)
theorem c125 (n : Int) : VFun G 125 [.lit (.int .i64 n)] [] (.tup [.agg (zdw (zdo n)), .lit (.int .i64 (newErr n))]) [] := by
 refine VFun.intro (fn := Try.f125) rfl rfl (by kernel_rfl) (nb rfl) fun Γ hpar => ?_
 refine zac ?_
 by_cases hn : (0 : Int) < 0 ∨ n < 1 ∨ 3 < n
 ·refine zaa <| zbf 100 rfl rfl (zar hpar rfl) rfl rfl tv <| zad rfl rfl tv <| zaf tv <| zac <| zac <| zaa <| zae rfl rfl tv <| zbo rfl (c50w 0 n) (.cons ((.lit _)) (.cons ((.lit _)) .nil)) rfl tv <| zae rfl rfl tv <| zbg rfl rfl rfl tv <| zbg rfl rfl rfl tv <| zad rfl rfl tv <| zad rfl rfl tv <| zaf tv <| zac <| zaa <| zae rfl rfl tv <| zfe rfl rfl rfl tv (fun h12 => ?_) (fun h12 => ?_)
  ·refine zaf tv <| zas rfl <| zac <| zaa <| zfk rfl rfl rfl (.see 17 (.same _ .nil)) rfl rfl tv <| zae rfl rfl tv <| zah rfl rfl rfl rfl rfl rfl rfl rfl tv <| zad rfl rfl tv <| zaf tv <| zav ?_
   rw [show zdo n = ⟨[], 0⟩ from if_pos (by omega), show newErr n = 3 from if_pos (by omega), lineN hn]
   refine fin' [] (.inr rfl) (.cons (.cellN rfl rfl rfl rfl rfl) (.cons (.tmp rfl (nb rfl)) .nil)) (zaw [] rfl rfl ⟨⟨_, rfl, (.tup _ _ (.cons (.agg _ _ (.cons (subS ?_) (.cons (subI ?_) .nil))) (.cons (subI ?_) .nil)))⟩, tv⟩ tv (zax rfl rfl))
   all_goals (try rfl)
  ·exfalso; rw [lineN hn] at h12; cases h12
 ·refine zaa <| zbf 100 rfl rfl (zar hpar rfl) rfl rfl tv <| zad rfl rfl tv <| zaf tv <| zac <| zac <| zaa <| zae rfl rfl tv <| zbo rfl (c50w 0 n) (.cons ((.lit _)) (.cons ((.lit _)) .nil)) rfl tv <| zae rfl rfl tv <| zbg rfl rfl rfl tv <| zbg rfl rfl rfl tv <| zad rfl rfl tv <| zad rfl rfl tv <| zaf tv <| zac <| zaa <| zae rfl rfl tv <| zfe rfl rfl rfl tv (fun h12 => ?_) (fun h12 => ?_)
  ·exfalso; apply h12; rw [lineY hn]
  ·refine zaf tv <| zau rfl <| zbd <| zac ?_
   obtain ⟨k, rfl⟩ : ∃ k : Nat, n = k := ⟨n.toNat, by omega⟩
   refine zaa <| zae rfl rfl tv <| u_makeSlice 101 rfl rfl (n' := k) rfl rfl rfl rfl rfl (by show 248 * k ≤ 140737488355328; omega) (by omega) rfl (zar hpar rfl) rfl tv <| zch rfl rfl rfl rfl rfl tv <| zah rfl rfl rfl rfl rfl rfl rfl rfl tv <| zad rfl rfl tv <| zaf tv <| vw_see 101 (zca (List.replicate k zdm)) rfl (by unfold zca; rw [List.map_replicate]; exact F2.rep seen_zero k) <| zav ?_
   rw [show zdo k = ⟨List.replicate k zdm, 0⟩ from if_neg (by omega), show newErr k = 0 from if_neg (by omega)]
   refine fin' [] (.inr rfl) (.cons (.cellN rfl rfl rfl rfl rfl) (.cons (.tmp rfl (nb rfl)) .nil)) (zaw [] rfl rfl ⟨⟨_, rfl, (.tup _ _ (.cons (.agg _ _ (.cons (zbn rfl (fzL rfl) ?_) (.cons (subI ?_) .nil))) (.cons (subI ?_) .nil)))⟩, tv⟩ tv (zax rfl rfl))
   all_goals (try rfl)
theorem c130 (w : World') (hw : WOk w) : VFun G 130 [.agg (zdw w)] [] (.agg [.row 931, .lit (.int .i64 w.ticks)]) [(931, .row 39 17 (zca w.lanes))] := by
 have hl3 := hw.len.2
 refine VFun.intro (fn := Try.f130) rfl rfl (by kernel_rfl) (nb rfl) fun Γ hpar => ?_
 refine zac <| zaa <| zeb 100 rfl rfl rfl (zar hpar rfl) rfl rfl tv <| zbf 101 rfl rfl (zar hpar rfl) rfl rfl tv <| zaf tv <| zac <| zaa <| zab rfl rfl rfl rfl rfl rfl tv <| zak rfl rfl rfl rfl rfl rfl tv <| zch rfl rfl rfl rfl rfl tv <| zbf 102 rfl rfl (zar hpar rfl) rfl rfl tv <| zah rfl rfl rfl rfl rfl rfl rfl rfl tv <| zaf tv <| zac <| zac <| zaa <| zab rfl rfl rfl rfl rfl rfl tv <| zak rfl rfl rfl rfl rfl rfl tv <| zcs rfl rfl rfl tv <| zae rfl rfl tv <| zaf tv <| zaz <| zbx (fun n_ E => ∃ (i : Nat), ((i ≤ w.lanes.length)) ∧ n_ = w.lanes.length - i ∧ E = ⟨[(2, .ptr 2 0), (3, .ptr 3 0), (10, .shr 17 (zca w.lanes)), (11, .lit (.int .i64 (zca w.lanes).length)), (12, .lit (.int .i64 i))], [(2, .box [.lit (.slice none 0 0), .lit (.int .i64 0)]), (3, .box [.row 931, .lit (.int .i64 w.ticks)]), (931, .row 39 17 (zca (w.lanes.take i)))], 25⟩) (n0 := _) (E0 := _) (⟨0, by omega, rfl, rfl⟩) (ren [(2, 101), (3, 102)]) (zaw [(2, 101), (3, 102)] rfl rfl ⟨⟨_, rfl, (.ptr _ _ _ rfl (zag rfl))⟩, ⟨_, rfl, (.ptr _ _ _ rfl (zag rfl))⟩, ⟨_, rfl, (.shr _ _)⟩, ⟨_, rfl, (.lit _)⟩, ⟨_, rfl, (.lit _)⟩, tv⟩ ⟨⟨_, _, rfl, rfl, (zbw rfl)⟩, ⟨_, _, rfl, rfl, (.cons (.nilrow _ _ _ _ rfl rfl) (.cons ((.lit _)) .nil))⟩, (.inr (.inl ⟨rfl, rfl⟩)), tv⟩ (zax hpar rfl)) (fun n_ E hR => ?_)
 obtain ⟨i, hI, rfl, rfl⟩ := hR
 have hI0 := hI
 refine zac <| zaa <| zcm rfl rfl rfl tv (fun h13 => ?_) (fun h13 => ?_)
 ·refine zaf tv <| zac <| zas rfl <| zbd <| zac <| zaz <| zac ?_
  rw [zbj] at h13
  obtain ⟨x, hx⟩ : ∃ x, w.lanes[i]? = some x := ⟨_, List.getElem?_eq_getElem (by omega)⟩
  refine zaa <| zbz rfl rfl rfl rfl rfl rfl (zcj hx) rfl tv <| zdi rfl rfl rfl rfl rfl tv <| zbf 123 rfl rfl (zar hpar rfl) rfl rfl tv <| zah rfl rfl rfl rfl rfl rfl rfl rfl tv <| zaf tv <| zcb <| zab rfl rfl rfl rfl rfl rfl tv <| zak rfl rfl rfl rfl rfl rfl tv <| zan rfl rfl rfl rfl rfl rfl tv <| zbo rfl (c115r x (hw.b x (List.mem_of_getElem? hx))) (.cons ((subP rfl)) .nil) rfl tv <| zba 124 rfl rfl rfl rfl rfl rfl rfl rfl rfl rfl (zar hpar rfl) rfl rfl tv <| zbt 125 rfl rfl rfl (zct rfl) rfl (zar hpar rfl) rfl rfl rfl rfl rfl (by simp [zby, zbj]; omega) rfl tv <| zab rfl rfl rfl rfl rfl rfl tv <| zbm rfl rfl rfl rfl rfl rfl rfl tv <| zaf (by kernel_rfl) <| zaa <| zcg rfl rfl rfl (by unfold inI; omega) rfl tv <| zae rfl rfl tv <| zaf tv <| ⟨_, _, ren [(2, 2), (3, 3), (931, 125)], ?_, ⟨i + 1, ?_, rfl, rfl⟩, zaw [(2, 2), (3, 3), (931, 125)] rfl rfl ⟨⟨_, rfl, (.ptr _ _ _ rfl (zag rfl))⟩, ⟨_, rfl, (.ptr _ _ _ rfl (zag rfl))⟩, ⟨_, rfl, (.shr _ _)⟩, ⟨_, rfl, (.lit _)⟩, ⟨_, rfl, (.lit _)⟩, tv⟩ ⟨⟨_, _, rfl, rfl, (zbw rfl)⟩, ⟨_, _, rfl, rfl, (.cons ((.row _ _ rfl (zag rfl))) (.cons ((.lit _)) .nil))⟩, (.inl ⟨_, rfl, zbr rfl (by rw [List.take_add_one, hx, laneCells_app]; rfl)⟩), tv⟩ (zax hpar rfl)⟩
  ·omega
  ·omega
 ·refine zaf tv <| zac <| zau rfl <| zcc <| iteP rfl <| zac ?_
  rw [zbj] at h13
  rw [List.take_of_length_le (show w.lanes.length ≤ i by omega)]
  refine zaa <| zan rfl rfl rfl rfl rfl rfl tv <| zah rfl rfl rfl rfl rfl rfl rfl rfl tv <| zaf tv <| zav <| fin' [(931, 931)] (.inr rfl) (.cons (.cellN rfl rfl rfl rfl rfl) .nil) (zaw [(931, 931)] rfl rfl ⟨⟨_, rfl, (.agg _ _ (.cons (.row _ _ rfl (zag rfl)) (.cons (subI ?_) .nil)))⟩, tv⟩ ⟨(.inl ⟨_, rfl, zbr rfl ?_⟩), tv⟩ (zax rfl rfl))
  all_goals (try rfl)
theorem c128 (w : World') (s : Step) (hw : WOk w) (ht : w.ticks ≤ 1000000) (hs : inI s.m) : VFun G 128 [.agg (zdw w), .agg (stepAV s)] [] (.tup [.agg (zdw (zcu w s).1), .lit (.int .i64 (zcu w s).2)]) [] := by
 have hl1 := hw.len; have htk := hw.tk; have hm1 := Int.emod_nonneg w.ticks (show (w.lanes.length : Int) ≠ 0 by omega); have hm2 := Int.emod_lt_of_pos w.ticks (show (0 : Int) < w.lanes.length by omega)
 refine VFun.intro (fn := Try.f128) rfl rfl (by kernel_rfl) (nb rfl) fun Γ hpar => ?_
 refine zac <| zaa <| zeb 100 rfl rfl rfl (zar hpar rfl) rfl rfl tv <| zeb 101 rfl rfl rfl (zar hpar rfl) rfl rfl tv <| zbf 102 rfl rfl (zar hpar rfl) rfl rfl tv <| zad rfl rfl tv <| zaf tv <| zac <| zaa <| zan rfl rfl rfl rfl rfl rfl tv <| zbq [] [] [] rfl rfl (c130 w hw) zbs tv (.cons ((subP rfl)) .nil) rfl rfl (zce hpar rfl) rfl tv <| zbf 103 rfl rfl (zar hpar rfl) rfl rfl tv <| zah rfl rfl rfl rfl rfl rfl rfl rfl tv <| zaf tv <| zac <| zac <| zaa <| zab rfl rfl rfl rfl rfl rfl tv <| zak rfl rfl rfl rfl rfl rfl tv <| zew rfl rfl rfl tv (fun h15 => ?_) (fun h15 => ?_)
 ·refine zaf tv <| zas rfl <| zac <| zaa <| zab rfl rfl rfl rfl rfl rfl tv <| zak rfl rfl rfl rfl rfl rfl tv <| zab rfl rfl rfl rfl rfl rfl tv <| zak rfl rfl rfl rfl rfl rfl tv <| zeo rfl rfl rfl rfl tv <| zbo rfl (c50w w.ticks (zca w.lanes).length) (.cons ((.lit _)) (.cons ((.lit _)) .nil)) rfl tv <| zae rfl rfl tv <| zbg rfl rfl rfl tv <| zbg rfl rfl rfl tv <| zad rfl rfl tv <| zad rfl rfl tv <| zaf tv <| zac <| zac <| zaa <| zae rfl rfl tv <| zfe rfl rfl rfl tv (fun h26 => ?_) (fun h26 => ?_)
  ·exfalso; apply h26; rw [lineY (by rw [zbj]; omega)]
  ·refine zaf tv <| zau rfl <| zbd <| zac ?_
   obtain ⟨k, hk⟩ : ∃ k : Nat, w.ticks % ((w.lanes.length : Nat) : Int) = k := ⟨(w.ticks % ((w.lanes.length : Nat) : Int)).toNat, by omega⟩
   have hkl : k < w.lanes.length := by omega
   obtain ⟨x, hx⟩ : ∃ x, w.lanes[k]? = some x := ⟨_, List.getElem?_eq_getElem hkl⟩
   have hb : BInv x := hw.b x (List.mem_of_getElem? hx)
   refine zcb <| zab rfl rfl rfl rfl rfl rfl tv <| zak rfl rfl rfl rfl rfl rfl tv <| zae rfl rfl tv <| zab rfl rfl rfl rfl rfl rfl tv <| zak rfl rfl rfl rfl rfl rfl tv <| zae rfl rfl tv <| zci rfl rfl rfl rfl rfl rfl (i := k) (by rw [lineY (by rw [zbj]; omega)]; simp only [zbj]; exact hk) (by rw [zbj]; exact hkl) rfl tv <| zda rfl rfl (zcj hx) rfl rfl rfl rfl tv <| zbo rfl (c116 x hb) (.cons ((subP rfl)) .nil) rfl tv <| zci rfl rfl rfl rfl rfl rfl (i := k) (by rw [lineY (by rw [zbj]; omega)]; simp only [zbj]; exact hk) (by rw [zbj]; exact hkl) rfl tv <| zef rfl rfl rfl (zcj hx) rfl (by exact lane_isP (zec x)) rfl rfl rfl (set_lane w.lanes k x (zec x)) tv <| zaf (by kernel_rfl) <| zac <| zaa <| zab rfl rfl rfl rfl rfl rfl tv <| zak rfl rfl rfl rfl rfl rfl tv <| zcg rfl rfl rfl (by unfold inI; omega) rfl tv <| zab rfl rfl rfl rfl rfl rfl tv <| zbm rfl rfl rfl rfl rfl rfl rfl tv <| zaf tv <| zac <| zaa <| zan rfl rfl rfl rfl rfl rfl tv <| zah rfl rfl rfl rfl rfl rfl rfl rfl tv <| zad rfl rfl tv <| zaf tv <| zav ?_
   rw [ds_tick h15 hk hx]
   refine fin' [] (.inr rfl) (.cons (.cellN rfl rfl rfl rfl rfl) (.cons (.tmp rfl (nb rfl)) .nil)) (zaw [] rfl rfl ⟨⟨_, rfl, (.tup _ _ (.cons (.agg _ _ (.cons (zbn rfl (fzL rfl) ?_) (.cons (subI ?_) .nil))) (.cons (subI ?_) .nil)))⟩, tv⟩ tv (zax rfl rfl))
   all_goals (try rfl)
 ·refine zaf tv <| zau rfl <| zbd <| zac <| zac <| zaa <| zab rfl rfl rfl rfl rfl rfl tv <| zak rfl rfl rfl rfl rfl rfl tv <| zcm rfl rfl rfl tv (fun h46 => ?_) (fun h46 => ?_)
  ·refine zae rfl rfl tv <| zal rfl rfl rfl rfl rfl <| zal rfl rfl rfl rfl rfl <| zal rfl rfl rfl rfl rfl <| zbk rfl rfl rfl tv <| zaf tv <| zas rfl <| zac <| zaa <| zan rfl rfl rfl rfl rfl rfl tv <| zah rfl rfl rfl rfl rfl rfl rfl rfl tv <| zad rfl rfl tv <| zaf tv <| zav ?_
   rw [ds_kind (by omega)]
   refine fin' [] (.inr rfl) (.cons (.cellN rfl rfl rfl rfl rfl) (.cons (.tmp rfl (nb rfl)) .nil)) (zaw [] rfl rfl ⟨⟨_, rfl, (.tup _ _ (.cons (.agg _ _ (.cons (zbn rfl (fzL rfl) ?_) (.cons (subI ?_) .nil))) (.cons (subI ?_) .nil)))⟩, tv⟩ tv (zax rfl rfl))
   all_goals (try rfl)
  ·refine zae rfl rfl tv <| zab rfl rfl rfl rfl rfl rfl (gk rfl) <| zak rfl rfl rfl rfl rfl rfl (gk rfl) <| s_gtr rfl rfl rfl (gk rfl) (fun h50 => ?_) (fun h50 => ?_)
   ·refine zbh rfl rfl rfl tv <| zaf tv <| zas rfl <| zac <| zaa <| zan rfl rfl rfl rfl rfl rfl tv <| zah rfl rfl rfl rfl rfl rfl rfl rfl tv <| zad rfl rfl tv <| zaf tv <| zav ?_
    rw [ds_kind (by omega)]
    refine fin' [] (.inr rfl) (.cons (.cellN rfl rfl rfl rfl rfl) (.cons (.tmp rfl (nb rfl)) .nil)) (zaw [] rfl rfl ⟨⟨_, rfl, (.tup _ _ (.cons (.agg _ _ (.cons (zbn rfl (fzL rfl) ?_) (.cons (subI ?_) .nil))) (.cons (subI ?_) .nil)))⟩, tv⟩ tv (zax rfl rfl))
    all_goals (try rfl)
   ·refine zbh rfl rfl rfl tv <| zaf tv <| zau rfl <| zbd <| zac <| zac <| zaa <| zab rfl rfl rfl rfl rfl rfl tv <| zak rfl rfl rfl rfl rfl rfl tv <| zcm rfl rfl rfl tv (fun h55 => ?_) (fun h55 => ?_)
    ·refine zae rfl rfl tv <| zal rfl rfl rfl rfl rfl <| zal rfl rfl rfl rfl rfl <| zal rfl rfl rfl rfl rfl <| zal rfl rfl rfl rfl rfl <| zal rfl rfl rfl rfl rfl <| zal rfl rfl rfl rfl rfl <| zbk rfl rfl rfl tv <| zaf tv <| zas rfl <| zac <| zaa <| zan rfl rfl rfl rfl rfl rfl tv <| zah rfl rfl rfl rfl rfl rfl rfl rfl tv <| zad rfl rfl tv <| zaf tv <| zav ?_
     rw [ds_none (by omega) h15 (by first | omega | (rw [zbj] at h62; omega))]
     refine fin' [] (.inr rfl) (.cons (.cellN rfl rfl rfl rfl rfl) (.cons (.tmp rfl (nb rfl)) .nil)) (zaw [] rfl rfl ⟨⟨_, rfl, (.tup _ _ (.cons (.agg _ _ (.cons (zbn rfl (fzL rfl) ?_) (.cons (subI ?_) .nil))) (.cons (subI ?_) .nil)))⟩, tv⟩ tv (zax rfl rfl))
     all_goals (try rfl)
    ·refine zae rfl rfl tv <| zab rfl rfl rfl rfl rfl rfl (gk rfl) <| zak rfl rfl rfl rfl rfl rfl (gk rfl) <| zab rfl rfl rfl rfl rfl rfl (gk rfl) <| zak rfl rfl rfl rfl rfl rfl (gk rfl) <| zeo rfl rfl rfl rfl (gk rfl) <| s_geq rfl rfl rfl (gk rfl) (fun h62 => ?_) (fun h62 => ?_)
     ·refine zbh rfl rfl rfl tv <| zaf tv <| zas rfl <| zac <| zaa <| zan rfl rfl rfl rfl rfl rfl tv <| zah rfl rfl rfl rfl rfl rfl rfl rfl tv <| zad rfl rfl tv <| zaf tv <| zav ?_
      rw [ds_none (by omega) h15 (by first | omega | (rw [zbj] at h62; omega))]
      refine fin' [] (.inr rfl) (.cons (.cellN rfl rfl rfl rfl rfl) (.cons (.tmp rfl (nb rfl)) .nil)) (zaw [] rfl rfl ⟨⟨_, rfl, (.tup _ _ (.cons (.agg _ _ (.cons (zbn rfl (fzL rfl) ?_) (.cons (subI ?_) .nil))) (.cons (subI ?_) .nil)))⟩, tv⟩ tv (zax rfl rfl))
      all_goals (try rfl)
     ·refine zbh rfl rfl rfl tv <| zaf tv <| zau rfl <| zbd <| zac ?_
      obtain ⟨k, hk⟩ : ∃ k : Nat, s.tenant = k := ⟨s.tenant.toNat, by omega⟩
      have hkl : k < w.lanes.length := by rw [zbj] at h62; omega
      obtain ⟨x, hx⟩ : ∃ x, w.lanes[k]? = some x := ⟨_, List.getElem?_eq_getElem hkl⟩
      have hb : BInv x := hw.b x (List.mem_of_getElem? hx)
      have hq := hb.s.q; have hn := hb.s.n; have hnq := hb.s.nq
      refine zaa <| zab rfl rfl rfl rfl rfl rfl tv <| zak rfl rfl rfl rfl rfl rfl tv <| zab rfl rfl rfl rfl rfl rfl tv <| zak rfl rfl rfl rfl rfl rfl tv <| zci rfl rfl rfl rfl rfl rfl (i := k) hk (by rw [zbj]; exact hkl) rfl tv <| zda rfl rfl (zcj hx) rfl rfl rfl rfl tv <| zbf 104 rfl rfl (zar hpar rfl) rfl rfl tv <| zah rfl rfl rfl rfl rfl rfl rfl rfl tv <| zaf tv <| zac <| zaa <| zad rfl rfl tv <| zaf tv <| zac <| zac <| zaa <| zab rfl rfl rfl rfl rfl rfl tv <| zak rfl rfl rfl rfl rfl rfl tv <| zaf tv <| zaz <| zac <| zaa <| zew rfl rfl rfl tv (fun h74 => ?_) (fun h74 => ?_)
      ·refine zad rfl rfl tv <| zaf tv <| zas rfl <| zaa <| zab rfl rfl rfl rfl rfl rfl tv <| u_loadN rfl rfl rfl rfl rfl rfl rfl tv <| zab rfl rfl rfl rfl rfl rfl tv <| u_loadN rfl rfl rfl rfl rfl rfl rfl tv <| zbo rfl (c91 x.s s.msg hb.s.ok) (.cons ((subP rfl)) (.cons ((subP rfl)) .nil)) rfl tv <| zae rfl rfl tv <| zbg rfl rfl rfl tv <| zbg rfl rfl rfl tv <| zab rfl rfl rfl rfl rfl rfl tv <| zbm rfl rfl rfl rfl rfl rfl rfl tv <| zad rfl rfl tv <| zaf tv <| zac <| zaa <| zab rfl rfl rfl rfl rfl rfl tv <| zak rfl rfl rfl rfl rfl rfl tv <| zab rfl rfl rfl rfl rfl rfl tv <| zak rfl rfl rfl rfl rfl rfl tv <| zan rfl rfl rfl rfl rfl rfl tv <| zci rfl rfl rfl rfl rfl rfl (i := k) hk (by rw [zbj]; exact hkl) rfl tv <| zef rfl rfl rfl (zcj hx) rfl (by exact lane_isP { x with s := (put x.s s.msg).1 }) rfl rfl rfl (set_lane w.lanes k x { x with s := (put x.s s.msg).1 }) tv <| zaf tv <| zac <| zaa <| zan rfl rfl rfl rfl rfl rfl tv <| zae rfl rfl tv ?_
       refine zah rfl rfl rfl rfl rfl rfl rfl rfl tv <| zad rfl rfl tv <| zaf tv <| zav ?_
       rw [ds_own (by omega) h15 hk hx, sl_put h74]
       refine fin' [] (.inr rfl) (.cons (.cellN rfl rfl rfl rfl rfl) (.cons (.tmp rfl (nb rfl)) .nil)) (zaw [] rfl rfl ⟨⟨_, rfl, (.tup _ _ (.cons (.agg _ _ (.cons (zbn rfl (fzL rfl) ?_) (.cons (subI ?_) .nil))) (.cons (subI ?_) .nil)))⟩, tv⟩ tv (zax rfl rfl))
       all_goals (try rfl)
      ·refine zad rfl rfl tv <| zaf tv <| zau rfl <| zac <| zaa <| zew rfl rfl rfl tv (fun h85 => ?_) (fun h85 => ?_)
       ·refine zad rfl rfl tv <| zaf tv <| zas rfl <| zaa <| zan rfl rfl rfl rfl rfl rfl tv <| zab rfl rfl rfl rfl rfl rfl tv <| zak rfl rfl rfl rfl rfl rfl tv <| zab rfl rfl rfl rfl rfl rfl tv <| zak rfl rfl rfl rfl rfl rfl tv <| zbo rfl (c118 x s.n s.back hb) (.cons ((subP rfl)) (.cons ((.lit _)) (.cons ((.lit _)) .nil))) rfl tv <| zae rfl rfl tv <| zbg rfl rfl rfl tv <| zbg rfl rfl rfl tv <| zah rfl rfl rfl rfl rfl rfl rfl rfl tv <| zad rfl rfl tv <| zaf tv <| zac <| zaa <| zab rfl rfl rfl rfl rfl rfl tv <| zak rfl rfl rfl rfl rfl rfl tv <| zab rfl rfl rfl rfl rfl rfl tv <| zak rfl rfl rfl rfl rfl rfl tv <| zan rfl rfl rfl rfl rfl rfl tv <| zci rfl rfl rfl rfl rfl rfl (i := k) hk (by rw [zbj]; exact hkl) rfl tv <| zef rfl rfl rfl (zcj hx) rfl (by exact lane_isP (zcz x 3 s.n 0 s.back).1) rfl rfl rfl (set_lane w.lanes k x (zcz x 3 s.n 0 s.back).1) tv <| zaf tv <| zac <| zaa <| zan rfl rfl rfl rfl rfl rfl tv <| zae rfl rfl tv ?_
        refine zah rfl rfl rfl rfl rfl rfl rfl rfl tv <| zad rfl rfl tv <| zaf tv <| zav ?_
        rw [ds_own (by omega) h15 hk hx, sl_come h74 (by omega), h85]
        refine fin' [] (.inr rfl) (.cons (.cellN rfl rfl rfl rfl rfl) (.cons (.tmp rfl (nb rfl)) .nil)) (zaw [] rfl rfl ⟨⟨_, rfl, (.tup _ _ (.cons (.agg _ _ (.cons (zbn rfl (fzL rfl) ?_) (.cons (subI ?_) .nil))) (.cons (subI ?_) .nil)))⟩, tv⟩ tv (zax rfl rfl))
        all_goals (try rfl)
       ·refine zad rfl rfl tv <| zaf tv <| zau rfl <| zac <| zaa <| zew rfl rfl rfl tv (fun h96 => ?_) (fun h96 => ?_)
        ·refine zad rfl rfl tv <| zaf tv <| zas rfl <| zaa <| zan rfl rfl rfl rfl rfl rfl tv <| zab rfl rfl rfl rfl rfl rfl tv <| zak rfl rfl rfl rfl rfl rfl tv <| zab rfl rfl rfl rfl rfl rfl tv <| zak rfl rfl rfl rfl rfl rfl tv <| zbo rfl (c120 x s.n s.back hb) (.cons ((subP rfl)) (.cons ((.lit _)) (.cons ((.lit _)) .nil))) rfl tv <| zae rfl rfl tv <| zbg rfl rfl rfl tv <| zbg rfl rfl rfl tv <| zah rfl rfl rfl rfl rfl rfl rfl rfl tv <| zad rfl rfl tv <| zaf tv <| zac <| zaa <| zab rfl rfl rfl rfl rfl rfl tv <| zak rfl rfl rfl rfl rfl rfl tv <| zab rfl rfl rfl rfl rfl rfl tv <| zak rfl rfl rfl rfl rfl rfl tv <| zan rfl rfl rfl rfl rfl rfl tv <| zci rfl rfl rfl rfl rfl rfl (i := k) hk (by rw [zbj]; exact hkl) rfl tv <| zef rfl rfl rfl (zcj hx) rfl (by exact lane_isP (zcz x 4 s.n 0 s.back).1) rfl rfl rfl (set_lane w.lanes k x (zcz x 4 s.n 0 s.back).1) tv <| zaf tv <| zac <| zaa <| zan rfl rfl rfl rfl rfl rfl tv <| zae rfl rfl tv ?_
         refine zah rfl rfl rfl rfl rfl rfl rfl rfl tv <| zad rfl rfl tv <| zaf tv <| zav ?_
         rw [ds_own (by omega) h15 hk hx, sl_come h74 (by omega), h96]
         refine fin' [] (.inr rfl) (.cons (.cellN rfl rfl rfl rfl rfl) (.cons (.tmp rfl (nb rfl)) .nil)) (zaw [] rfl rfl ⟨⟨_, rfl, (.tup _ _ (.cons (.agg _ _ (.cons (zbn rfl (fzL rfl) ?_) (.cons (subI ?_) .nil))) (.cons (subI ?_) .nil)))⟩, tv⟩ tv (zax rfl rfl))
         all_goals (try rfl)
        ·refine zad rfl rfl tv <| zaf tv <| zau rfl <| zac <| zaa <| zew rfl rfl rfl tv (fun h107 => ?_) (fun h107 => ?_)
         ·refine zad rfl rfl tv <| zaf tv <| zas rfl <| zaa <| zan rfl rfl rfl rfl rfl rfl tv <| zab rfl rfl rfl rfl rfl rfl tv <| zak rfl rfl rfl rfl rfl rfl tv <| zab rfl rfl rfl rfl rfl rfl tv <| zak rfl rfl rfl rfl rfl rfl tv <| zbo rfl (c121 x s.n s.back hb) (.cons ((subP rfl)) (.cons ((.lit _)) (.cons ((.lit _)) .nil))) rfl tv <| zae rfl rfl tv <| zbg rfl rfl rfl tv <| zbg rfl rfl rfl tv <| zah rfl rfl rfl rfl rfl rfl rfl rfl tv <| zad rfl rfl tv <| zaf tv <| zac <| zaa <| zab rfl rfl rfl rfl rfl rfl tv <| zak rfl rfl rfl rfl rfl rfl tv <| zab rfl rfl rfl rfl rfl rfl tv <| zak rfl rfl rfl rfl rfl rfl tv <| zan rfl rfl rfl rfl rfl rfl tv <| zci rfl rfl rfl rfl rfl rfl (i := k) hk (by rw [zbj]; exact hkl) rfl tv <| zef rfl rfl rfl (zcj hx) rfl (by exact lane_isP (zcz x 5 s.n 0 s.back).1) rfl rfl rfl (set_lane w.lanes k x (zcz x 5 s.n 0 s.back).1) tv <| zaf tv <| zac <| zaa <| zan rfl rfl rfl rfl rfl rfl tv <| zae rfl rfl tv ?_
          refine zah rfl rfl rfl rfl rfl rfl rfl rfl tv <| zad rfl rfl tv <| zaf tv <| zav ?_
          rw [ds_own (by omega) h15 hk hx, sl_come h74 (by omega), h107]
          refine fin' [] (.inr rfl) (.cons (.cellN rfl rfl rfl rfl rfl) (.cons (.tmp rfl (nb rfl)) .nil)) (zaw [] rfl rfl ⟨⟨_, rfl, (.tup _ _ (.cons (.agg _ _ (.cons (zbn rfl (fzL rfl) ?_) (.cons (subI ?_) .nil))) (.cons (subI ?_) .nil)))⟩, tv⟩ tv (zax rfl rfl))
          all_goals (try rfl)
         ·refine zad rfl rfl tv <| zaf tv <| zau rfl <| zac <| zaa <| zew rfl rfl rfl tv (fun h118 => ?_) (fun h118 => ?_)
          ·refine zad rfl rfl tv <| zaf tv <| zas rfl <| zaa <| zan rfl rfl rfl rfl rfl rfl tv <| zab rfl rfl rfl rfl rfl rfl tv <| zak rfl rfl rfl rfl rfl rfl tv <| zab rfl rfl rfl rfl rfl rfl tv <| zak rfl rfl rfl rfl rfl rfl tv <| zab rfl rfl rfl rfl rfl rfl tv <| zak rfl rfl rfl rfl rfl rfl tv <| zbo rfl (c122 x s.n s.m s.back hb hs) (.cons ((subP rfl)) (.cons ((.lit _)) (.cons ((.lit _)) (.cons ((.lit _)) .nil)))) rfl tv <| zae rfl rfl tv <| zbg rfl rfl rfl tv <| zbg rfl rfl rfl tv <| zah rfl rfl rfl rfl rfl rfl rfl rfl tv <| zad rfl rfl tv <| zaf tv <| zac <| zaa <| zab rfl rfl rfl rfl rfl rfl tv <| zak rfl rfl rfl rfl rfl rfl tv <| zab rfl rfl rfl rfl rfl rfl tv <| zak rfl rfl rfl rfl rfl rfl tv <| zan rfl rfl rfl rfl rfl rfl tv <| zci rfl rfl rfl rfl rfl rfl (i := k) hk (by rw [zbj]; exact hkl) rfl tv <| zef rfl rfl rfl (zcj hx) rfl (by exact lane_isP (zcz x 6 s.n s.m s.back).1) rfl rfl rfl (set_lane w.lanes k x (zcz x 6 s.n s.m s.back).1) tv <| zaf tv <| zac <| zaa ?_
           refine zan rfl rfl rfl rfl rfl rfl tv <| zae rfl rfl tv <| zah rfl rfl rfl rfl rfl rfl rfl rfl tv <| zad rfl rfl tv <| zaf tv <| zav ?_
           rw [ds_own (by omega) h15 hk hx, sl_packet h74, h118]
           refine fin' [] (.inr rfl) (.cons (.cellN rfl rfl rfl rfl rfl) (.cons (.tmp rfl (nb rfl)) .nil)) (zaw [] rfl rfl ⟨⟨_, rfl, (.tup _ _ (.cons (.agg _ _ (.cons (zbn rfl (fzL rfl) ?_) (.cons (subI ?_) .nil))) (.cons (subI ?_) .nil)))⟩, tv⟩ tv (zax rfl rfl))
           all_goals (try rfl)
          ·exfalso; omega
end Go.Proofs.Ytaadloihphpdbaa
