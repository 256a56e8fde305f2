/- Walks. Printed by a small program (walk.py). -/
import Derived.Test.YtaadloihphpdbaaZWWorld3H
set_option linter.unusedVariables false
set_option linter.unusedSimpArgs false
set_option maxRecDepth 4000
namespace Go.Proofs.Ytaadloihphpdbaa
open Go Go.Vc Go.RowKit
theorem c50w (v s : Int) : VFun G 50 [.lit (.int .i64 v), .lit (.int .i64 s)] [] (.tup [.lit (.int .i64 (lineOf v s).1), .lit (.int .i64 (lineOf v s).2)]) [] := by
 refine VFun.intro (fn := Try.f50) rfl rfl (by kernel_rfl) (nb rfl) fun Γ hpar => ?_
 refine zad <| zaa <| zae rfl rfl tv <| zae rfl rfl tv <| zaf tv <| zad <| zad <| zaa <| zac rfl rfl tv <| zcg rfl rfl rfl tv (fun h7 => ?_) (fun h7 => ?_)
 ·refine zac rfl rfl tv <| zag rfl rfl rfl rfl rfl <| zag rfl rfl rfl rfl rfl <| zav rfl rfl rfl tv <| zac rfl rfl tv <| zag rfl rfl rfl rfl rfl <| zag rfl rfl rfl rfl rfl <| zav rfl rfl rfl tv <| zaf tv <| zao rfl <| zad <| zaa <| zae rfl rfl tv <| zae rfl rfl tv <| zaf tv <| zaw ?_
  rw [lineN (by omega)]
  refine fin' [] (.inr rfl) (.cons (.tmp rfl (nb rfl)) (.cons (.tmp rfl (nb rfl)) .nil)) (zay [] rfl rfl ⟨⟨_, rfl, (.tup _ _ (.cons (subI ?_) (.cons (subI ?_) .nil)))⟩, tv⟩ tv (zaz rfl rfl))
  all_goals (try rfl)
 ·refine zac rfl rfl tv <| zac rfl rfl (gk rfl) <| zcg rfl rfl rfl (gk rfl) (fun h10 => ?_) (fun h10 => ?_)
  ·refine zat rfl rfl rfl tv <| zac rfl rfl tv <| zag rfl rfl rfl rfl rfl <| zag rfl rfl rfl rfl rfl <| zav rfl rfl rfl tv <| zaf tv <| zao rfl <| zad <| zaa <| zae rfl rfl tv <| zae rfl rfl tv <| zaf tv <| zaw ?_
   rw [lineN (by omega)]
   refine fin' [] (.inr rfl) (.cons (.tmp rfl (nb rfl)) (.cons (.tmp rfl (nb rfl)) .nil)) (zay [] rfl rfl ⟨⟨_, rfl, (.tup _ _ (.cons (subI ?_) (.cons (subI ?_) .nil)))⟩, tv⟩ tv (zaz rfl rfl))
   all_goals (try rfl)
  ·refine zat rfl rfl rfl tv <| zac rfl rfl tv <| zac rfl rfl (gk rfl) <| zdr rfl rfl rfl (gk rfl) (fun h14 => ?_) (fun h14 => ?_)
   ·refine zat rfl rfl rfl tv <| zaf tv <| zao rfl <| zad <| zaa <| zae rfl rfl tv <| zae rfl rfl tv <| zaf tv <| zaw ?_
    rw [lineN (by omega)]
    refine fin' [] (.inr rfl) (.cons (.tmp rfl (nb rfl)) (.cons (.tmp rfl (nb rfl)) .nil)) (zay [] rfl rfl ⟨⟨_, rfl, (.tup _ _ (.cons (subI ?_) (.cons (subI ?_) .nil)))⟩, tv⟩ tv (zaz rfl rfl))
    all_goals (try rfl)
   ·refine zat rfl rfl rfl tv <| zaf tv <| zap rfl <| zax <| zad <| zaa <| zac rfl rfl tv <| zac rfl rfl tv <| u_remN rfl rfl (by omega) rfl tv <| zae rfl rfl tv <| zae rfl rfl tv <| zaf tv <| zaw ?_
    rw [lineY (by omega)]
    refine fin' [] (.inr rfl) (.cons (.tmp rfl (nb rfl)) (.cons (.tmp rfl (nb rfl)) .nil)) (zay [] rfl rfl ⟨⟨_, rfl, (.tup _ _ (.cons (subI ?_) (.cons (subI ?_) .nil)))⟩, tv⟩ tv (zaz rfl rfl))
    all_goals (try rfl)
theorem c125 (n : Int) : VFun G 125 [.lit (.int .i64 n)] [] (.tup [.agg (zcu (zco n)), .lit (.int .i64 (newErr n))]) [] := by
 refine VFun.intro (fn := Try.f125) rfl rfl (by kernel_rfl) (nb rfl) fun Γ hpar => ?_
 refine zad ?_
 by_cases hn : (0 : Int) < 0 ∨ n < 1 ∨ 3 < n
 ·refine zaa <| zbd 100 rfl rfl (zar hpar rfl) rfl rfl tv <| zae rfl rfl tv <| zaf tv <| zad <| zad <| zaa <| zac rfl rfl tv <| zbi rfl (c50w 0 n) (.cons ((.lit _)) (.cons ((.lit _)) .nil)) rfl tv <| zac rfl rfl tv <| zas rfl rfl rfl tv <| zas rfl rfl rfl tv <| zae rfl rfl tv <| zae rfl rfl tv <| zaf tv <| zad <| zaa <| zac rfl rfl tv <| zdg rfl rfl rfl tv (fun h12 => ?_) (fun h12 => ?_)
  ·refine zaf tv <| zao rfl <| zad <| zaa <| zcz rfl rfl rfl (.see 17 (.same _ .nil)) rfl rfl tv <| zac rfl rfl tv <| zaj rfl rfl rfl rfl rfl rfl rfl rfl tv <| zae rfl rfl tv <| zaf tv <| zaw ?_
   rw [show zco n = ⟨[], 0⟩ from if_pos (by omega), show newErr n = 3 from if_pos (by omega), lineN hn]
   refine fin' [] (.inr rfl) (.cons (.cellN rfl rfl rfl rfl rfl) (.cons (.tmp rfl (nb rfl)) .nil)) (zay [] rfl rfl ⟨⟨_, rfl, (.tup _ _ (.cons (.agg _ _ (.cons (subS ?_) (.cons (subI ?_) .nil))) (.cons (subI ?_) .nil)))⟩, tv⟩ tv (zaz rfl rfl))
   all_goals (try rfl)
  ·exfalso; rw [lineN hn] at h12; cases h12
 ·refine zaa <| zbd 100 rfl rfl (zar hpar rfl) rfl rfl tv <| zae rfl rfl tv <| zaf tv <| zad <| zad <| zaa <| zac rfl rfl tv <| zbi rfl (c50w 0 n) (.cons ((.lit _)) (.cons ((.lit _)) .nil)) rfl tv <| zac rfl rfl tv <| zas rfl rfl rfl tv <| zas rfl rfl rfl tv <| zae rfl rfl tv <| zae rfl rfl tv <| zaf tv <| zad <| zaa <| zac rfl rfl tv <| zdg rfl rfl rfl tv (fun h12 => ?_) (fun h12 => ?_)
  ·exfalso; apply h12; rw [lineY hn]
  ·refine zaf tv <| zap rfl <| zax <| zad ?_
   obtain ⟨k, rfl⟩ : ∃ k : Nat, n = k := ⟨n.toNat, by omega⟩
   refine zaa <| zac rfl rfl tv <| u_makeSlice 101 rfl rfl (n' := k) rfl rfl rfl rfl rfl (by show 248 * k ≤ 140737488355328; omega) (by omega) rfl (zar hpar rfl) rfl tv <| zdi rfl rfl rfl rfl rfl tv <| zaj rfl rfl rfl rfl rfl rfl rfl rfl tv <| zae rfl rfl tv <| zaf tv <| vw_see 101 (zcc (List.replicate k zdl)) rfl (by unfold zcc; rw [List.map_replicate]; exact F2.rep seen_zero k) <| zaw ?_
   rw [show zco k = ⟨List.replicate k zdl, 0⟩ from if_neg (by omega), show newErr k = 0 from if_neg (by omega)]
   refine fin' [] (.inr rfl) (.cons (.cellN rfl rfl rfl rfl rfl) (.cons (.tmp rfl (nb rfl)) .nil)) (zay [] rfl rfl ⟨⟨_, rfl, (.tup _ _ (.cons (.agg _ _ (.cons (zcd rfl (fzL rfl) ?_) (.cons (subI ?_) .nil))) (.cons (subI ?_) .nil)))⟩, tv⟩ tv (zaz rfl rfl))
   all_goals (try rfl)
theorem c130 (w : World') (hw : WOk w) : VFun G 130 [.agg (zcu w)] [] (.agg [.row 931, .lit (.int .i64 w.ticks)]) [(931, .row 39 17 (zcc w.lanes))] := by
 have hl3 := hw.len.2
 refine VFun.intro (fn := Try.f130) rfl rfl (by kernel_rfl) (nb rfl) fun Γ hpar => ?_
 refine zad <| zaa <| zdh 100 rfl rfl rfl (zar hpar rfl) rfl rfl tv <| zbd 101 rfl rfl (zar hpar rfl) rfl rfl tv <| zaf tv <| zad <| zaa <| zab rfl rfl rfl rfl rfl rfl tv <| zah rfl rfl rfl rfl rfl rfl tv <| zdi rfl rfl rfl rfl rfl tv <| zbd 102 rfl rfl (zar hpar rfl) rfl rfl tv <| zaj rfl rfl rfl rfl rfl rfl rfl rfl tv <| zaf tv <| zad <| zad <| zaa <| zab rfl rfl rfl rfl rfl rfl tv <| zah rfl rfl rfl rfl rfl rfl tv <| zby rfl rfl rfl tv <| zac rfl rfl tv <| zaf tv <| zbb <| zbt (fun n_ E => ∃ (i : Nat), ((i ≤ w.lanes.length)) ∧ n_ = w.lanes.length - i ∧ E = ⟨[(2, .ptr 2 0), (3, .ptr 3 0), (10, .shr 17 (zcc w.lanes)), (11, .lit (.int .i64 (zcc w.lanes).length)), (12, .lit (.int .i64 i))], [(2, .box [.lit (.slice none 0 0), .lit (.int .i64 0)]), (3, .box [.row 931, .lit (.int .i64 w.ticks)]), (931, .row 39 17 (zcc (w.lanes.take i)))], 25⟩) (n0 := _) (E0 := _) (⟨0, by omega, rfl, rfl⟩) (ren [(2, 101), (3, 102)]) (zay [(2, 101), (3, 102)] rfl rfl ⟨⟨_, rfl, (.ptr _ _ _ rfl (zak rfl))⟩, ⟨_, rfl, (.ptr _ _ _ rfl (zak rfl))⟩, ⟨_, rfl, (.shr _ _)⟩, ⟨_, rfl, (.lit _)⟩, ⟨_, rfl, (.lit _)⟩, tv⟩ ⟨⟨_, _, rfl, rfl, (zbk rfl)⟩, ⟨_, _, rfl, rfl, (.cons (.nilrow _ _ _ _ rfl rfl) (.cons ((.lit _)) .nil))⟩, (.inr (.inl ⟨rfl, rfl⟩)), tv⟩ (zaz hpar rfl)) (fun n_ E hR => ?_)
 obtain ⟨i, hI, rfl, rfl⟩ := hR
 have hI0 := hI
 refine zad <| zaa <| zcg rfl rfl rfl tv (fun h13 => ?_) (fun h13 => ?_)
 ·refine zaf tv <| zad <| zao rfl <| zax <| zad <| zbb <| zad ?_
  rw [zbg] at h13
  obtain ⟨x, hx⟩ : ∃ x, w.lanes[i]? = some x := ⟨_, List.getElem?_eq_getElem (by omega)⟩
  refine zaa <| zbh rfl rfl rfl rfl rfl rfl (zbr hx) rfl tv <| zbu rfl rfl rfl rfl rfl tv <| zbd 123 rfl rfl (zar hpar rfl) rfl rfl tv <| zaj rfl rfl rfl rfl rfl rfl rfl rfl tv <| zaf tv <| zbo <| zab rfl rfl rfl rfl rfl rfl tv <| zah rfl rfl rfl rfl rfl rfl tv <| zam rfl rfl rfl rfl rfl rfl tv <| zbi rfl (c115r x (hw.b x (List.mem_of_getElem? hx))) (.cons ((subP rfl)) .nil) rfl tv <| zba 124 rfl rfl rfl rfl rfl rfl rfl rfl rfl rfl (zar hpar rfl) rfl rfl tv <| zbn 125 rfl rfl rfl (zdb rfl) rfl (zar hpar rfl) rfl rfl rfl rfl rfl (by simp [zbx, zbg]; omega) rfl tv <| zab rfl rfl rfl rfl rfl rfl tv <| zbl rfl rfl rfl rfl rfl rfl rfl tv <| zaf (by kernel_rfl) <| zaa <| zbz rfl rfl rfl (by unfold inI; omega) rfl tv <| zac rfl rfl tv <| zaf tv <| ⟨_, _, ren [(2, 2), (3, 3), (931, 125)], ?_, ⟨i + 1, ?_, rfl, rfl⟩, zay [(2, 2), (3, 3), (931, 125)] rfl rfl ⟨⟨_, rfl, (.ptr _ _ _ rfl (zak rfl))⟩, ⟨_, rfl, (.ptr _ _ _ rfl (zak rfl))⟩, ⟨_, rfl, (.shr _ _)⟩, ⟨_, rfl, (.lit _)⟩, ⟨_, rfl, (.lit _)⟩, tv⟩ ⟨⟨_, _, rfl, rfl, (zbk rfl)⟩, ⟨_, _, rfl, rfl, (.cons ((.row _ _ rfl (zak rfl))) (.cons ((.lit _)) .nil))⟩, (.inl ⟨_, rfl, zcq rfl (by rw [List.take_add_one, hx, laneCells_app]; rfl)⟩), tv⟩ (zaz hpar rfl)⟩
  ·omega
  ·omega
 ·refine zaf tv <| zad <| zap rfl <| zbw <| iteP rfl <| zad ?_
  rw [zbg] at h13
  rw [List.take_of_length_le (show w.lanes.length ≤ i by omega)]
  refine zaa <| zam rfl rfl rfl rfl rfl rfl tv <| zaj rfl rfl rfl rfl rfl rfl rfl rfl tv <| zaf tv <| zaw <| fin' [(931, 931)] (.inr rfl) (.cons (.cellN rfl rfl rfl rfl rfl) .nil) (zay [(931, 931)] rfl rfl ⟨⟨_, rfl, (.agg _ _ (.cons (.row _ _ rfl (zak rfl)) (.cons (subI ?_) .nil)))⟩, tv⟩ ⟨(.inl ⟨_, rfl, zcq rfl ?_⟩), tv⟩ (zaz rfl rfl))
  all_goals (try rfl)
theorem c128 (w : World') (s : Step) (hw : WOk w) (ht : w.ticks ≤ 1000000) (hs : inI s.m) : VFun G 128 [.agg (zcu w), .agg (stepAV s)] [] (.tup [.agg (zcu (zch w s).1), .lit (.int .i64 (zch w s).2)]) [] := by
 have hl1 := hw.len; have htk := hw.tk; have hm1 := Int.emod_nonneg w.ticks (show (w.lanes.length : Int) ≠ 0 by omega); have hm2 := Int.emod_lt_of_pos w.ticks (show (0 : Int) < w.lanes.length by omega)
 refine VFun.intro (fn := Try.f128) rfl rfl (by kernel_rfl) (nb rfl) fun Γ hpar => ?_
 refine zad <| zaa <| zdh 100 rfl rfl rfl (zar hpar rfl) rfl rfl tv <| zdh 101 rfl rfl rfl (zar hpar rfl) rfl rfl tv <| zbd 102 rfl rfl (zar hpar rfl) rfl rfl tv <| zae rfl rfl tv <| zaf tv <| zad <| zaa <| zam rfl rfl rfl rfl rfl rfl tv <| zck [] [] [] rfl rfl (c130 w hw) zcl tv (.cons ((subP rfl)) .nil) rfl rfl (zcy hpar rfl) rfl tv <| zbd 103 rfl rfl (zar hpar rfl) rfl rfl tv <| zaj rfl rfl rfl rfl rfl rfl rfl rfl tv <| zaf tv <| zad <| zad <| zaa <| zab rfl rfl rfl rfl rfl rfl tv <| zah rfl rfl rfl rfl rfl rfl tv <| zci rfl rfl rfl tv (fun h15 => ?_) (fun h15 => ?_)
 ·refine zaf tv <| zao rfl <| zad <| zaa <| zab rfl rfl rfl rfl rfl rfl tv <| zah rfl rfl rfl rfl rfl rfl tv <| zab rfl rfl rfl rfl rfl rfl tv <| zah rfl rfl rfl rfl rfl rfl tv <| zfs rfl rfl rfl rfl tv <| zbi rfl (c50w w.ticks (zcc w.lanes).length) (.cons ((.lit _)) (.cons ((.lit _)) .nil)) rfl tv <| zac rfl rfl tv <| zas rfl rfl rfl tv <| zas rfl rfl rfl tv <| zae rfl rfl tv <| zae rfl rfl tv <| zaf tv <| zad <| zad <| zaa <| zac rfl rfl tv <| zdg rfl rfl rfl tv (fun h26 => ?_) (fun h26 => ?_)
  ·exfalso; apply h26; rw [lineY (by rw [zbg]; omega)]
  ·refine zaf tv <| zap rfl <| zax <| zad ?_
   obtain ⟨k, hk⟩ : ∃ k : Nat, w.ticks % ((w.lanes.length : Nat) : Int) = k := ⟨(w.ticks % ((w.lanes.length : Nat) : Int)).toNat, by omega⟩
   have hkl : k < w.lanes.length := by omega
   obtain ⟨x, hx⟩ : ∃ x, w.lanes[k]? = some x := ⟨_, List.getElem?_eq_getElem hkl⟩
   have hb : BInv x := hw.b x (List.mem_of_getElem? hx)
   refine zbo <| zab rfl rfl rfl rfl rfl rfl tv <| zah rfl rfl rfl rfl rfl rfl tv <| zac rfl rfl tv <| zab rfl rfl rfl rfl rfl rfl tv <| zah rfl rfl rfl rfl rfl rfl tv <| zac rfl rfl tv <| zcx rfl rfl rfl rfl rfl rfl (i := k) (by rw [lineY (by rw [zbg]; omega)]; simp only [zbg]; exact hk) (by rw [zbg]; exact hkl) rfl tv <| zea rfl rfl (zbr hx) rfl rfl rfl rfl tv <| zbi rfl (c116 x hb) (.cons ((subP rfl)) .nil) rfl tv <| zcx rfl rfl rfl rfl rfl rfl (i := k) (by rw [lineY (by rw [zbg]; omega)]; simp only [zbg]; exact hk) (by rw [zbg]; exact hkl) rfl tv <| zdx rfl rfl rfl (zbr hx) rfl (by exact lane_isP (zep x)) rfl rfl rfl (set_lane w.lanes k x (zep x)) tv <| zaf (by kernel_rfl) <| zad <| zaa <| zab rfl rfl rfl rfl rfl rfl tv <| zah rfl rfl rfl rfl rfl rfl tv <| zbz rfl rfl rfl (by unfold inI; omega) rfl tv <| zab rfl rfl rfl rfl rfl rfl tv <| zbl rfl rfl rfl rfl rfl rfl rfl tv <| zaf tv <| zad <| zaa <| zam rfl rfl rfl rfl rfl rfl tv <| zaj rfl rfl rfl rfl rfl rfl rfl rfl tv <| zae rfl rfl tv <| zaf tv <| zaw ?_
   rw [ds_tick h15 hk hx]
   refine fin' [] (.inr rfl) (.cons (.cellN rfl rfl rfl rfl rfl) (.cons (.tmp rfl (nb rfl)) .nil)) (zay [] rfl rfl ⟨⟨_, rfl, (.tup _ _ (.cons (.agg _ _ (.cons (zcd rfl (fzL rfl) ?_) (.cons (subI ?_) .nil))) (.cons (subI ?_) .nil)))⟩, tv⟩ tv (zaz rfl rfl))
   all_goals (try rfl)
 ·refine zaf tv <| zap rfl <| zax <| zad <| zad <| zaa <| zab rfl rfl rfl rfl rfl rfl tv <| zah rfl rfl rfl rfl rfl rfl tv <| zcg rfl rfl rfl tv (fun h46 => ?_) (fun h46 => ?_)
  ·refine zac rfl rfl tv <| zag rfl rfl rfl rfl rfl <| zag rfl rfl rfl rfl rfl <| zag rfl rfl rfl rfl rfl <| zav rfl rfl rfl tv <| zaf tv <| zao rfl <| zad <| zaa <| zam rfl rfl rfl rfl rfl rfl tv <| zaj rfl rfl rfl rfl rfl rfl rfl rfl tv <| zae rfl rfl tv <| zaf tv <| zaw ?_
   rw [ds_kind (by omega)]
   refine fin' [] (.inr rfl) (.cons (.cellN rfl rfl rfl rfl rfl) (.cons (.tmp rfl (nb rfl)) .nil)) (zay [] rfl rfl ⟨⟨_, rfl, (.tup _ _ (.cons (.agg _ _ (.cons (zcd rfl (fzL rfl) ?_) (.cons (subI ?_) .nil))) (.cons (subI ?_) .nil)))⟩, tv⟩ tv (zaz rfl rfl))
   all_goals (try rfl)
  ·refine zac rfl rfl tv <| zab rfl rfl rfl rfl rfl rfl (gk rfl) <| zah rfl rfl rfl rfl rfl rfl (gk rfl) <| zdr rfl rfl rfl (gk rfl) (fun h50 => ?_) (fun h50 => ?_)
   ·refine zat rfl rfl rfl tv <| zaf tv <| zao rfl <| zad <| zaa <| zam rfl rfl rfl rfl rfl rfl tv <| zaj rfl rfl rfl rfl rfl rfl rfl rfl tv <| zae rfl rfl tv <| zaf tv <| zaw ?_
    rw [ds_kind (by omega)]
    refine fin' [] (.inr rfl) (.cons (.cellN rfl rfl rfl rfl rfl) (.cons (.tmp rfl (nb rfl)) .nil)) (zay [] rfl rfl ⟨⟨_, rfl, (.tup _ _ (.cons (.agg _ _ (.cons (zcd rfl (fzL rfl) ?_) (.cons (subI ?_) .nil))) (.cons (subI ?_) .nil)))⟩, tv⟩ tv (zaz rfl rfl))
    all_goals (try rfl)
   ·refine zat rfl rfl rfl tv <| zaf tv <| zap rfl <| zax <| zad <| zad <| zaa <| zab rfl rfl rfl rfl rfl rfl tv <| zah rfl rfl rfl rfl rfl rfl tv <| zcg rfl rfl rfl tv (fun h55 => ?_) (fun h55 => ?_)
    ·refine zac rfl rfl tv <| zag rfl rfl rfl rfl rfl <| zag rfl rfl rfl rfl rfl <| zag rfl rfl rfl rfl rfl <| zag rfl rfl rfl rfl rfl <| zag rfl rfl rfl rfl rfl <| zag rfl rfl rfl rfl rfl <| zav rfl rfl rfl tv <| zaf tv <| zao rfl <| zad <| zaa <| zam rfl rfl rfl rfl rfl rfl tv <| zaj rfl rfl rfl rfl rfl rfl rfl rfl tv <| zae rfl rfl tv <| zaf tv <| zaw ?_
     rw [ds_none (by omega) h15 (by first | omega | (rw [zbg] at h62; omega))]
     refine fin' [] (.inr rfl) (.cons (.cellN rfl rfl rfl rfl rfl) (.cons (.tmp rfl (nb rfl)) .nil)) (zay [] rfl rfl ⟨⟨_, rfl, (.tup _ _ (.cons (.agg _ _ (.cons (zcd rfl (fzL rfl) ?_) (.cons (subI ?_) .nil))) (.cons (subI ?_) .nil)))⟩, tv⟩ tv (zaz rfl rfl))
     all_goals (try rfl)
    ·refine zac rfl rfl tv <| zab rfl rfl rfl rfl rfl rfl (gk rfl) <| zah rfl rfl rfl rfl rfl rfl (gk rfl) <| zab rfl rfl rfl rfl rfl rfl (gk rfl) <| zah rfl rfl rfl rfl rfl rfl (gk rfl) <| zfs rfl rfl rfl rfl (gk rfl) <| s_geq rfl rfl rfl (gk rfl) (fun h62 => ?_) (fun h62 => ?_)
     ·refine zat rfl rfl rfl tv <| zaf tv <| zao rfl <| zad <| zaa <| zam rfl rfl rfl rfl rfl rfl tv <| zaj rfl rfl rfl rfl rfl rfl rfl rfl tv <| zae rfl rfl tv <| zaf tv <| zaw ?_
      rw [ds_none (by omega) h15 (by first | omega | (rw [zbg] at h62; omega))]
      refine fin' [] (.inr rfl) (.cons (.cellN rfl rfl rfl rfl rfl) (.cons (.tmp rfl (nb rfl)) .nil)) (zay [] rfl rfl ⟨⟨_, rfl, (.tup _ _ (.cons (.agg _ _ (.cons (zcd rfl (fzL rfl) ?_) (.cons (subI ?_) .nil))) (.cons (subI ?_) .nil)))⟩, tv⟩ tv (zaz rfl rfl))
      all_goals (try rfl)
     ·refine zat rfl rfl rfl tv <| zaf tv <| zap rfl <| zax <| zad ?_
      obtain ⟨k, hk⟩ : ∃ k : Nat, s.tenant = k := ⟨s.tenant.toNat, by omega⟩
      have hkl : k < w.lanes.length := by rw [zbg] at h62; omega
      obtain ⟨x, hx⟩ : ∃ x, w.lanes[k]? = some x := ⟨_, List.getElem?_eq_getElem hkl⟩
      have hb : BInv x := hw.b x (List.mem_of_getElem? hx)
      have hq := hb.s.q; have hn := hb.s.n; have hnq := hb.s.nq
      refine zaa <| zab rfl rfl rfl rfl rfl rfl tv <| zah rfl rfl rfl rfl rfl rfl tv <| zab rfl rfl rfl rfl rfl rfl tv <| zah rfl rfl rfl rfl rfl rfl tv <| zcx rfl rfl rfl rfl rfl rfl (i := k) hk (by rw [zbg]; exact hkl) rfl tv <| zea rfl rfl (zbr hx) rfl rfl rfl rfl tv <| zbd 104 rfl rfl (zar hpar rfl) rfl rfl tv <| zaj rfl rfl rfl rfl rfl rfl rfl rfl tv <| zaf tv <| zad <| zaa <| zae rfl rfl tv <| zaf tv <| zad <| zad <| zaa <| zab rfl rfl rfl rfl rfl rfl tv <| zah rfl rfl rfl rfl rfl rfl tv <| zaf tv <| zbb <| zad <| zaa <| zci rfl rfl rfl tv (fun h74 => ?_) (fun h74 => ?_)
      ·refine zae rfl rfl tv <| zaf tv <| zao rfl <| zaa <| zab rfl rfl rfl rfl rfl rfl tv <| zds rfl rfl rfl rfl rfl rfl rfl tv <| zab rfl rfl rfl rfl rfl rfl tv <| zds rfl rfl rfl rfl rfl rfl rfl tv <| zbi rfl (c91 x.s s.msg hb.s.ok) (.cons ((subP rfl)) (.cons ((subP rfl)) .nil)) rfl tv <| zac rfl rfl tv <| zas rfl rfl rfl tv <| zas rfl rfl rfl tv <| zab rfl rfl rfl rfl rfl rfl tv <| zbl rfl rfl rfl rfl rfl rfl rfl tv <| zae rfl rfl tv <| zaf tv <| zad <| zaa <| zab rfl rfl rfl rfl rfl rfl tv <| zah rfl rfl rfl rfl rfl rfl tv <| zab rfl rfl rfl rfl rfl rfl tv <| zah rfl rfl rfl rfl rfl rfl tv <| zam rfl rfl rfl rfl rfl rfl tv <| zcx rfl rfl rfl rfl rfl rfl (i := k) hk (by rw [zbg]; exact hkl) rfl tv <| zdx rfl rfl rfl (zbr hx) rfl (by exact lane_isP { x with s := (put x.s s.msg).1 }) rfl rfl rfl (set_lane w.lanes k x { x with s := (put x.s s.msg).1 }) tv <| zaf tv <| zad <| zaa <| zam rfl rfl rfl rfl rfl rfl tv <| zac rfl rfl tv ?_
       refine zaj rfl rfl rfl rfl rfl rfl rfl rfl tv <| zae rfl rfl tv <| zaf tv <| zaw ?_
       rw [ds_own (by omega) h15 hk hx, sl_put h74]
       refine fin' [] (.inr rfl) (.cons (.cellN rfl rfl rfl rfl rfl) (.cons (.tmp rfl (nb rfl)) .nil)) (zay [] rfl rfl ⟨⟨_, rfl, (.tup _ _ (.cons (.agg _ _ (.cons (zcd rfl (fzL rfl) ?_) (.cons (subI ?_) .nil))) (.cons (subI ?_) .nil)))⟩, tv⟩ tv (zaz rfl rfl))
       all_goals (try rfl)
      ·refine zae rfl rfl tv <| zaf tv <| zap rfl <| zad <| zaa <| zci rfl rfl rfl tv (fun h85 => ?_) (fun h85 => ?_)
       ·refine zae rfl rfl tv <| zaf tv <| zao rfl <| zaa <| zam rfl rfl rfl rfl rfl rfl tv <| zab rfl rfl rfl rfl rfl rfl tv <| zah rfl rfl rfl rfl rfl rfl tv <| zab rfl rfl rfl rfl rfl rfl tv <| zah rfl rfl rfl rfl rfl rfl tv <| zbi rfl (c118 x s.n s.back hb) (.cons ((subP rfl)) (.cons ((.lit _)) (.cons ((.lit _)) .nil))) rfl tv <| zac rfl rfl tv <| zas rfl rfl rfl tv <| zas rfl rfl rfl tv <| zaj rfl rfl rfl rfl rfl rfl rfl rfl tv <| zae rfl rfl tv <| zaf tv <| zad <| zaa <| zab rfl rfl rfl rfl rfl rfl tv <| zah rfl rfl rfl rfl rfl rfl tv <| zab rfl rfl rfl rfl rfl rfl tv <| zah rfl rfl rfl rfl rfl rfl tv <| zam rfl rfl rfl rfl rfl rfl tv <| zcx rfl rfl rfl rfl rfl rfl (i := k) hk (by rw [zbg]; exact hkl) rfl tv <| zdx rfl rfl rfl (zbr hx) rfl (by exact lane_isP (zcp x 3 s.n 0 s.back).1) rfl rfl rfl (set_lane w.lanes k x (zcp x 3 s.n 0 s.back).1) tv <| zaf tv <| zad <| zaa <| zam rfl rfl rfl rfl rfl rfl tv <| zac rfl rfl tv ?_
        refine zaj rfl rfl rfl rfl rfl rfl rfl rfl tv <| zae rfl rfl tv <| zaf tv <| zaw ?_
        rw [ds_own (by omega) h15 hk hx, sl_come h74 (by omega), h85]
        refine fin' [] (.inr rfl) (.cons (.cellN rfl rfl rfl rfl rfl) (.cons (.tmp rfl (nb rfl)) .nil)) (zay [] rfl rfl ⟨⟨_, rfl, (.tup _ _ (.cons (.agg _ _ (.cons (zcd rfl (fzL rfl) ?_) (.cons (subI ?_) .nil))) (.cons (subI ?_) .nil)))⟩, tv⟩ tv (zaz rfl rfl))
        all_goals (try rfl)
       ·refine zae rfl rfl tv <| zaf tv <| zap rfl <| zad <| zaa <| zci rfl rfl rfl tv (fun h96 => ?_) (fun h96 => ?_)
        ·refine zae rfl rfl tv <| zaf tv <| zao rfl <| zaa <| zam rfl rfl rfl rfl rfl rfl tv <| zab rfl rfl rfl rfl rfl rfl tv <| zah rfl rfl rfl rfl rfl rfl tv <| zab rfl rfl rfl rfl rfl rfl tv <| zah rfl rfl rfl rfl rfl rfl tv <| zbi rfl (c120 x s.n s.back hb) (.cons ((subP rfl)) (.cons ((.lit _)) (.cons ((.lit _)) .nil))) rfl tv <| zac rfl rfl tv <| zas rfl rfl rfl tv <| zas rfl rfl rfl tv <| zaj rfl rfl rfl rfl rfl rfl rfl rfl tv <| zae rfl rfl tv <| zaf tv <| zad <| zaa <| zab rfl rfl rfl rfl rfl rfl tv <| zah rfl rfl rfl rfl rfl rfl tv <| zab rfl rfl rfl rfl rfl rfl tv <| zah rfl rfl rfl rfl rfl rfl tv <| zam rfl rfl rfl rfl rfl rfl tv <| zcx rfl rfl rfl rfl rfl rfl (i := k) hk (by rw [zbg]; exact hkl) rfl tv <| zdx rfl rfl rfl (zbr hx) rfl (by exact lane_isP (zcp x 4 s.n 0 s.back).1) rfl rfl rfl (set_lane w.lanes k x (zcp x 4 s.n 0 s.back).1) tv <| zaf tv <| zad <| zaa <| zam rfl rfl rfl rfl rfl rfl tv <| zac rfl rfl tv ?_
         refine zaj rfl rfl rfl rfl rfl rfl rfl rfl tv <| zae rfl rfl tv <| zaf tv <| zaw ?_
         rw [ds_own (by omega) h15 hk hx, sl_come h74 (by omega), h96]
         refine fin' [] (.inr rfl) (.cons (.cellN rfl rfl rfl rfl rfl) (.cons (.tmp rfl (nb rfl)) .nil)) (zay [] rfl rfl ⟨⟨_, rfl, (.tup _ _ (.cons (.agg _ _ (.cons (zcd rfl (fzL rfl) ?_) (.cons (subI ?_) .nil))) (.cons (subI ?_) .nil)))⟩, tv⟩ tv (zaz rfl rfl))
         all_goals (try rfl)
        ·refine zae rfl rfl tv <| zaf tv <| zap rfl <| zad <| zaa <| zci rfl rfl rfl tv (fun h107 => ?_) (fun h107 => ?_)
         ·refine zae rfl rfl tv <| zaf tv <| zao rfl <| zaa <| zam rfl rfl rfl rfl rfl rfl tv <| zab rfl rfl rfl rfl rfl rfl tv <| zah rfl rfl rfl rfl rfl rfl tv <| zab rfl rfl rfl rfl rfl rfl tv <| zah rfl rfl rfl rfl rfl rfl tv <| zbi rfl (c121 x s.n s.back hb) (.cons ((subP rfl)) (.cons ((.lit _)) (.cons ((.lit _)) .nil))) rfl tv <| zac rfl rfl tv <| zas rfl rfl rfl tv <| zas rfl rfl rfl tv <| zaj rfl rfl rfl rfl rfl rfl rfl rfl tv <| zae rfl rfl tv <| zaf tv <| zad <| zaa <| zab rfl rfl rfl rfl rfl rfl tv <| zah rfl rfl rfl rfl rfl rfl tv <| zab rfl rfl rfl rfl rfl rfl tv <| zah rfl rfl rfl rfl rfl rfl tv <| zam rfl rfl rfl rfl rfl rfl tv <| zcx rfl rfl rfl rfl rfl rfl (i := k) hk (by rw [zbg]; exact hkl) rfl tv <| zdx rfl rfl rfl (zbr hx) rfl (by exact lane_isP (zcp x 5 s.n 0 s.back).1) rfl rfl rfl (set_lane w.lanes k x (zcp x 5 s.n 0 s.back).1) tv <| zaf tv <| zad <| zaa <| zam rfl rfl rfl rfl rfl rfl tv <| zac rfl rfl tv ?_
          refine zaj rfl rfl rfl rfl rfl rfl rfl rfl tv <| zae rfl rfl tv <| zaf tv <| zaw ?_
          rw [ds_own (by omega) h15 hk hx, sl_come h74 (by omega), h107]
          refine fin' [] (.inr rfl) (.cons (.cellN rfl rfl rfl rfl rfl) (.cons (.tmp rfl (nb rfl)) .nil)) (zay [] rfl rfl ⟨⟨_, rfl, (.tup _ _ (.cons (.agg _ _ (.cons (zcd rfl (fzL rfl) ?_) (.cons (subI ?_) .nil))) (.cons (subI ?_) .nil)))⟩, tv⟩ tv (zaz rfl rfl))
          all_goals (try rfl)
         ·refine zae rfl rfl tv <| zaf tv <| zap rfl <| zad <| zaa <| zci rfl rfl rfl tv (fun h118 => ?_) (fun h118 => ?_)
          ·refine zae rfl rfl tv <| zaf tv <| zao rfl <| zaa <| zam rfl rfl rfl rfl rfl rfl tv <| zab rfl rfl rfl rfl rfl rfl tv <| zah rfl rfl rfl rfl rfl rfl tv <| zab rfl rfl rfl rfl rfl rfl tv <| zah rfl rfl rfl rfl rfl rfl tv <| zab rfl rfl rfl rfl rfl rfl tv <| zah rfl rfl rfl rfl rfl rfl tv <| zbi rfl (c122 x s.n s.m s.back hb hs) (.cons ((subP rfl)) (.cons ((.lit _)) (.cons ((.lit _)) (.cons ((.lit _)) .nil)))) rfl tv <| zac rfl rfl tv <| zas rfl rfl rfl tv <| zas rfl rfl rfl tv <| zaj rfl rfl rfl rfl rfl rfl rfl rfl tv <| zae rfl rfl tv <| zaf tv <| zad <| zaa <| zab rfl rfl rfl rfl rfl rfl tv <| zah rfl rfl rfl rfl rfl rfl tv <| zab rfl rfl rfl rfl rfl rfl tv <| zah rfl rfl rfl rfl rfl rfl tv <| zam rfl rfl rfl rfl rfl rfl tv <| zcx rfl rfl rfl rfl rfl rfl (i := k) hk (by rw [zbg]; exact hkl) rfl tv <| zdx rfl rfl rfl (zbr hx) rfl (by exact lane_isP (zcp x 6 s.n s.m s.back).1) rfl rfl rfl (set_lane w.lanes k x (zcp x 6 s.n s.m s.back).1) tv <| zaf tv <| zad <| zaa ?_
           refine zam rfl rfl rfl rfl rfl rfl tv <| zac rfl rfl tv <| zaj rfl rfl rfl rfl rfl rfl rfl rfl tv <| zae rfl rfl tv <| zaf tv <| zaw ?_
           rw [ds_own (by omega) h15 hk hx, sl_packet h74, h118]
           refine fin' [] (.inr rfl) (.cons (.cellN rfl rfl rfl rfl rfl) (.cons (.tmp rfl (nb rfl)) .nil)) (zay [] rfl rfl ⟨⟨_, rfl, (.tup _ _ (.cons (.agg _ _ (.cons (zcd rfl (fzL rfl) ?_) (.cons (subI ?_) .nil))) (.cons (subI ?_) .nil)))⟩, tv⟩ tv (zaz rfl rfl))
           all_goals (try rfl)
          ·exfalso; omega
end Go.Proofs.Ytaadloihphpdbaa
