/- Walks of the package fair. Printed by a small program (walk.py). -/
import Derived.Test.YtaadloihphpdbaaZWFair
import Derived.Test.YtaadloihphpdbaaZWWorld3
import Derived.Test.YtaadloihphpdbaaZWWorld2
set_option linter.unusedVariables false
set_option linter.unusedSimpArgs false
set_option maxRecDepth 4000
namespace Go.Proofs.Ytaadloihphpdbaa
open Go Go.Vc Go.RowKit
theorem c99 (w : World') (hw : WOk w) (ht : w.ticks ≤ 900000) : VFun G 99 [.agg (zcu w)] [] (.agg (zcu (zey w))) [] := by
 have hl3 := hw.len
 refine VFun.intro (fn := Try.f99) rfl rfl (by kernel_rfl) (nb rfl) fun Γ hpar => ?_
 refine zad <| zaa <| zdh 100 rfl rfl rfl (zar hpar rfl) rfl rfl tv <| zbd 101 rfl rfl (zar hpar rfl) rfl rfl tv <| zaf tv <| zad <| zaa <| zam rfl rfl rfl rfl rfl rfl tv <| zbi rfl (VFun.resWk (c130 w hw) (ren []) (zay [] rfl rfl ⟨⟨_, rfl, .agg _ _ (.cons (.frz _ _ _ _ rfl (fzL rfl)) (.cons (.lit _) .nil))⟩, tv⟩ tv no_par)) (.cons ((subP rfl)) .nil) rfl tv <| zbd 102 rfl rfl (zar hpar rfl) rfl rfl tv <| zaj rfl rfl rfl rfl rfl rfl rfl rfl tv <| zaf tv <| zad <| zad <| zaa <| zab rfl rfl rfl rfl rfl rfl tv <| zah rfl rfl rfl rfl rfl rfl tv <| zby rfl rfl rfl tv <| zac rfl rfl tv <| zaf tv <| zbb <| zbt (fun n_ E => ∃ (i : Nat), ((i ≤ w.lanes.length)) ∧ n_ = w.lanes.length - i ∧ E = ⟨[(2, .ptr 2 0), (3, .ptr 3 0), (13, .lit (.int .i64 (zcc w.lanes).length)), (14, .lit (.int .i64 i))], [(2, .box [.lit (.slice none 0 0), .lit (.int .i64 0)]), (3, .box (zcu (partW w i)))], 43⟩) (n0 := _) (E0 := _) (⟨0, by omega, rfl, rfl⟩) (ren [(2, 101), (3, 102)]) (zay [(2, 101), (3, 102)] rfl rfl ⟨⟨_, rfl, (.ptr _ _ _ rfl (zak rfl))⟩, ⟨_, rfl, (.ptr _ _ _ rfl (zak rfl))⟩, ⟨_, rfl, (.lit _)⟩, ⟨_, rfl, (.lit _)⟩, tv⟩ ⟨⟨_, _, rfl, rfl, (zbk rfl)⟩, ⟨_, _, rfl, rfl, (.cons (subS (by rw [part_0])) (.cons (subI (by rw [part_0])) .nil))⟩, tv⟩ (zaz hpar rfl)) (fun n_ E hR => ?_)
 obtain ⟨i, hI, rfl, rfl⟩ := hR
 have hI0 := hI
 refine zad <| zaa <| zcg rfl rfl rfl tv (fun h15 => ?_) (fun h15 => ?_)
 ·refine zaf tv <| zad <| zao rfl <| zax <| zad <| zbb <| zad ?_
  rw [zbg] at h15
  obtain ⟨x0, hx0⟩ : ∃ x, w.lanes[i]? = some x := ⟨_, List.getElem?_eq_getElem (by omega)⟩
  have hil : i < w.lanes.length := by omega
  have hb0 : BInv x0 := hw.b x0 (List.mem_of_getElem? hx0)
  refine zaa <| zac rfl rfl tv <| zae rfl rfl tv <| zaf tv <| zad <| zaa <| zba 123 rfl rfl rfl rfl rfl rfl rfl rfl rfl rfl (zar hpar rfl) rfl rfl tv <| zfs rfl rfl rfl rfl tv <| zac rfl rfl tv <| zaf tv <| zbb <| zbt (fun n_ E => ∃ (j : Nat), ((j ≤ 2)) ∧ n_ = 2 - j ∧ E = ⟨[(2, .ptr 2 0), (3, .ptr 3 0), (13, .lit (.int .i64 (zcc w.lanes).length)), (14, .lit (.int .i64 i)), (4, .lit (.int .i64 i)), (17, .row 17), (18, .lit (.int .i64 2)), (19, .lit (.int .i64 j))], [(2, .box [.lit (.slice none 0 0), .lit (.int .i64 0)]), (3, .box (zcu (midW w i (stg j x0)))), (17, .row 4 1 [[.lit (.bool false)], [.lit (.bool true)]])], 43⟩) (n0 := _) (E0 := _) (⟨0, by omega, rfl, rfl⟩) (ren [(2, 2), (3, 3), (17, 123)]) (zay [(2, 2), (3, 3), (17, 123)] rfl rfl ⟨⟨_, rfl, (.ptr _ _ _ rfl (zak rfl))⟩, ⟨_, rfl, (.ptr _ _ _ rfl (zak rfl))⟩, ⟨_, rfl, (.lit _)⟩, ⟨_, rfl, (.lit _)⟩, ⟨_, rfl, (.lit _)⟩, ⟨_, rfl, (.row _ _ rfl (zak rfl))⟩, ⟨_, rfl, (subI (by rfl))⟩, ⟨_, rfl, (subI (by rfl))⟩, tv⟩ ⟨⟨_, _, rfl, rfl, (zbk rfl)⟩, ⟨_, _, rfl, rfl, (.cons (subS (by rw [part_mid hx0]; rfl)) (.cons (subI (by rfl)) .nil))⟩, (.inl ⟨_, rfl, zcq rfl (by rfl)⟩), tv⟩ (zaz hpar rfl)) (fun n_ E hR => ?_)
  obtain ⟨j, hI, rfl, rfl⟩ := hR
  have hj2 := hI
  refine zad <| zaa <| zcg rfl rfl rfl tv (fun h20 => ?_) (fun h20 => ?_)
  ·refine zaf tv <| zad <| zao rfl <| zax <| zad <| zbb <| zad ?_
   rcases (by omega : j = 0 ∨ j = 1) with rfl | rfl
   ·refine zaa <| zcx rfl rfl rfl rfl rfl rfl (i := 0) rfl (by decide) rfl tv <| zff rfl rfl (rfl) rfl rfl rfl rfl tv <| zae rfl rfl tv <| zaf tv <| zbb <| zbt (fun n_ E => ∃ (x : Lane), ((BInv x) ∧ (zed false x = zed false x0)) ∧ n_ = (way x false).length ∧ E = ⟨[(2, .ptr 2 0), (3, .ptr 3 0), (13, .lit (.int .i64 (zcc w.lanes).length)), (14, .lit (.int .i64 i)), (4, .lit (.int .i64 i)), (6, .lit (.bool false)), (17, .row 17), (18, .lit (.int .i64 2)), (19, .lit (.int .i64 0))], [(2, .box [.lit (.slice none 0 0), .lit (.int .i64 0)]), (3, .box (zcu (midW w i x))), (17, .row 4 1 [[.lit (.bool false)], [.lit (.bool true)]])], 43⟩) (n0 := _) (E0 := _) (⟨stg 0 x0, by exact ⟨hb0, rfl⟩, rfl, rfl⟩) (ren [(2, 2), (3, 3), (17, 17)]) (zay [(2, 2), (3, 3), (17, 17)] rfl rfl ⟨⟨_, rfl, (.ptr _ _ _ rfl (zak rfl))⟩, ⟨_, rfl, (.ptr _ _ _ rfl (zak rfl))⟩, ⟨_, rfl, (.lit _)⟩, ⟨_, rfl, (.lit _)⟩, ⟨_, rfl, (.lit _)⟩, ⟨_, rfl, (subB (by rfl))⟩, ⟨_, rfl, (.row _ _ rfl (zak rfl))⟩, ⟨_, rfl, (.lit _)⟩, ⟨_, rfl, (subI (by rfl))⟩, tv⟩ ⟨⟨_, _, rfl, rfl, (zbk rfl)⟩, ⟨_, _, rfl, rfl, (zbk rfl)⟩, (.inl ⟨_, rfl, rfl⟩), tv⟩ (zaz hpar rfl)) (fun n_ E hR => ?_)
    obtain ⟨x, hI, rfl, rfl⟩ := hR
    obtain ⟨hb, hd⟩ := hI
    refine zbb <| zad <| zaa <| zam rfl rfl rfl rfl rfl rfl tv <| zac rfl rfl tv <| zac rfl rfl tv <| zcz rfl rfl rfl (.same _ (.same _ (.same _ (.same _ (.same _ (.same _ (.see 1 .nil))))))) rfl rfl tv <| zbi rfl (c128 (midW w i x) (cmS i false) (mid_ok hw hil hb) (by show w.ticks ≤ _; omega) (cm_in _ _)) (.cons ((subP rfl)) (.cons ((subP rfl)) .nil)) rfl tv <| zac rfl rfl tv <| zas rfl rfl rfl tv <| zas rfl rfl rfl tv <| zbd 164 rfl rfl (zar hpar rfl) rfl rfl tv <| zaj rfl rfl rfl rfl rfl rfl rfl rfl tv <| zae rfl rfl tv <| zaf tv <| zad <| zad <| zaa <| zac rfl rfl tv <| zdg rfl rfl rfl tv (fun h32 => ?_) (fun h32 => ?_)
    ·refine zaf tv <| zao rfl <| zbw <| iteN (by decide) <| iteP rfl ?_
     have hne : ¬ 0 < (way x false).length := fun e => by rw [do_come hil e] at h32; exact absurd rfl h32
     refine zaa <| zbz rfl rfl rfl (by unfold inI; omega) rfl tv <| zac rfl rfl tv <| zaf tv <| ⟨_, _, ren [(2, 2), (3, 3), (17, 17)], ?_, ⟨1, ?_, rfl, rfl⟩, zay [(2, 2), (3, 3), (17, 17)] rfl rfl ⟨⟨_, rfl, (.ptr _ _ _ rfl (zak rfl))⟩, ⟨_, rfl, (.ptr _ _ _ rfl (zak rfl))⟩, ⟨_, rfl, (.lit _)⟩, ⟨_, rfl, (.lit _)⟩, ⟨_, rfl, (.lit _)⟩, ⟨_, rfl, (.row _ _ rfl (zak rfl))⟩, ⟨_, rfl, (.lit _)⟩, ⟨_, rfl, (subI (by rfl))⟩, tv⟩ ⟨⟨_, _, rfl, rfl, (zbk rfl)⟩, ⟨_, _, rfl, rfl, (.cons (subS (by rw [show x = stg 1 x0 by rw [drain_end hne] at hd; exact hd])) (.cons (subI (by rfl)) .nil))⟩, (.inl ⟨_, rfl, zcq rfl (by rfl)⟩), tv⟩ (zaz hpar rfl)⟩
     ·omega
     ·omega
    ·refine zaf tv <| zap rfl <| zax ?_
     have hyes : 0 < (way x false).length := Classical.byContradiction fun e => by rw [do_none hil e] at h32; exact absurd h32 (by decide)
     refine zaa <| zam rfl rfl rfl rfl rfl rfl tv <| zaj rfl rfl rfl rfl rfl rfl rfl rfl tv <| zaf tv <| ⟨_, _, ren [(2, 2), (3, 3), (17, 17)], ?_, ⟨comes x 0 false, ?_, rfl, rfl⟩, zay [(2, 2), (3, 3), (17, 17)] rfl rfl ⟨⟨_, rfl, (.ptr _ _ _ rfl (zak rfl))⟩, ⟨_, rfl, (.ptr _ _ _ rfl (zak rfl))⟩, ⟨_, rfl, (.lit _)⟩, ⟨_, rfl, (.lit _)⟩, ⟨_, rfl, (.lit _)⟩, ⟨_, rfl, (.lit _)⟩, ⟨_, rfl, (.row _ _ rfl (zak rfl))⟩, ⟨_, rfl, (.lit _)⟩, ⟨_, rfl, (.lit _)⟩, tv⟩ ⟨⟨_, _, rfl, rfl, (zbk rfl)⟩, ⟨_, _, rfl, rfl, (.cons (subS (by rw [do_come hil hyes])) (.cons (subI (by rw [do_come hil hyes])) .nil))⟩, (.inl ⟨_, rfl, rfl⟩), tv⟩ (zaz hpar rfl)⟩
     ·exact come_less hyes
     ·exact ⟨binv_comes hb 0 false, by rw [← drain_come hyes]; exact hd⟩
   ·refine zaa <| zcx rfl rfl rfl rfl rfl rfl (i := 1) rfl (by decide) rfl tv <| zff rfl rfl (rfl) rfl rfl rfl rfl tv <| zae rfl rfl tv <| zaf tv <| zbb <| zbt (fun n_ E => ∃ (x : Lane), ((BInv x) ∧ (zed true x = zbj x0)) ∧ n_ = (way x true).length ∧ E = ⟨[(2, .ptr 2 0), (3, .ptr 3 0), (13, .lit (.int .i64 (zcc w.lanes).length)), (14, .lit (.int .i64 i)), (4, .lit (.int .i64 i)), (6, .lit (.bool true)), (17, .row 17), (18, .lit (.int .i64 2)), (19, .lit (.int .i64 1))], [(2, .box [.lit (.slice none 0 0), .lit (.int .i64 0)]), (3, .box (zcu (midW w i x))), (17, .row 4 1 [[.lit (.bool false)], [.lit (.bool true)]])], 43⟩) (n0 := _) (E0 := _) (⟨stg 1 x0, by exact ⟨binv_drain _ _ hb0, rfl⟩, rfl, rfl⟩) (ren [(2, 2), (3, 3), (17, 17)]) (zay [(2, 2), (3, 3), (17, 17)] rfl rfl ⟨⟨_, rfl, (.ptr _ _ _ rfl (zak rfl))⟩, ⟨_, rfl, (.ptr _ _ _ rfl (zak rfl))⟩, ⟨_, rfl, (.lit _)⟩, ⟨_, rfl, (.lit _)⟩, ⟨_, rfl, (.lit _)⟩, ⟨_, rfl, (subB (by rfl))⟩, ⟨_, rfl, (.row _ _ rfl (zak rfl))⟩, ⟨_, rfl, (.lit _)⟩, ⟨_, rfl, (subI (by rfl))⟩, tv⟩ ⟨⟨_, _, rfl, rfl, (zbk rfl)⟩, ⟨_, _, rfl, rfl, (zbk rfl)⟩, (.inl ⟨_, rfl, rfl⟩), tv⟩ (zaz hpar rfl)) (fun n_ E hR => ?_)
    obtain ⟨x, hI, rfl, rfl⟩ := hR
    obtain ⟨hb, hd⟩ := hI
    refine zbb <| zad <| zaa <| zam rfl rfl rfl rfl rfl rfl tv <| zac rfl rfl tv <| zac rfl rfl tv <| zcz rfl rfl rfl (.same _ (.same _ (.same _ (.same _ (.same _ (.same _ (.see 1 .nil))))))) rfl rfl tv <| zbi rfl (c128 (midW w i x) (cmS i true) (mid_ok hw hil hb) (by show w.ticks ≤ _; omega) (cm_in _ _)) (.cons ((subP rfl)) (.cons ((subP rfl)) .nil)) rfl tv <| zac rfl rfl tv <| zas rfl rfl rfl tv <| zas rfl rfl rfl tv <| zbd 164 rfl rfl (zar hpar rfl) rfl rfl tv <| zaj rfl rfl rfl rfl rfl rfl rfl rfl tv <| zae rfl rfl tv <| zaf tv <| zad <| zad <| zaa <| zac rfl rfl tv <| zdg rfl rfl rfl tv (fun h32 => ?_) (fun h32 => ?_)
    ·refine zaf tv <| zao rfl <| zbw <| iteN (by decide) <| iteP rfl ?_
     have hne : ¬ 0 < (way x true).length := fun e => by rw [do_come hil e] at h32; exact absurd rfl h32
     refine zaa <| zbz rfl rfl rfl (by unfold inI; omega) rfl tv <| zac rfl rfl tv <| zaf tv <| ⟨_, _, ren [(2, 2), (3, 3), (17, 17)], ?_, ⟨2, ?_, rfl, rfl⟩, zay [(2, 2), (3, 3), (17, 17)] rfl rfl ⟨⟨_, rfl, (.ptr _ _ _ rfl (zak rfl))⟩, ⟨_, rfl, (.ptr _ _ _ rfl (zak rfl))⟩, ⟨_, rfl, (.lit _)⟩, ⟨_, rfl, (.lit _)⟩, ⟨_, rfl, (.lit _)⟩, ⟨_, rfl, (.row _ _ rfl (zak rfl))⟩, ⟨_, rfl, (.lit _)⟩, ⟨_, rfl, (subI (by rfl))⟩, tv⟩ ⟨⟨_, _, rfl, rfl, (zbk rfl)⟩, ⟨_, _, rfl, rfl, (.cons (subS (by rw [show x = stg 2 x0 by rw [drain_end hne] at hd; exact hd])) (.cons (subI (by rfl)) .nil))⟩, (.inl ⟨_, rfl, zcq rfl (by rfl)⟩), tv⟩ (zaz hpar rfl)⟩
     ·omega
     ·omega
    ·refine zaf tv <| zap rfl <| zax ?_
     have hyes : 0 < (way x true).length := Classical.byContradiction fun e => by rw [do_none hil e] at h32; exact absurd h32 (by decide)
     refine zaa <| zam rfl rfl rfl rfl rfl rfl tv <| zaj rfl rfl rfl rfl rfl rfl rfl rfl tv <| zaf tv <| ⟨_, _, ren [(2, 2), (3, 3), (17, 17)], ?_, ⟨comes x 0 true, ?_, rfl, rfl⟩, zay [(2, 2), (3, 3), (17, 17)] rfl rfl ⟨⟨_, rfl, (.ptr _ _ _ rfl (zak rfl))⟩, ⟨_, rfl, (.ptr _ _ _ rfl (zak rfl))⟩, ⟨_, rfl, (.lit _)⟩, ⟨_, rfl, (.lit _)⟩, ⟨_, rfl, (.lit _)⟩, ⟨_, rfl, (.lit _)⟩, ⟨_, rfl, (.row _ _ rfl (zak rfl))⟩, ⟨_, rfl, (.lit _)⟩, ⟨_, rfl, (.lit _)⟩, tv⟩ ⟨⟨_, _, rfl, rfl, (zbk rfl)⟩, ⟨_, _, rfl, rfl, (.cons (subS (by rw [do_come hil hyes])) (.cons (subI (by rw [do_come hil hyes])) .nil))⟩, (.inl ⟨_, rfl, rfl⟩), tv⟩ (zaz hpar rfl)⟩
     ·exact come_less hyes
     ·exact ⟨binv_comes hb 0 true, by rw [← drain_come hyes]; exact hd⟩
  ·refine zaf tv <| zad <| zap rfl <| zbw <| iteP rfl <| zaa <| zbz rfl rfl rfl (by unfold inI; omega) rfl tv <| zac rfl rfl tv <| zaf tv <| ⟨_, _, ren [(2, 2), (3, 3)], ?_, ⟨i + 1, ?_, rfl, rfl⟩, zay [(2, 2), (3, 3)] rfl rfl ⟨⟨_, rfl, (.ptr _ _ _ rfl (zak rfl))⟩, ⟨_, rfl, (.ptr _ _ _ rfl (zak rfl))⟩, ⟨_, rfl, (.lit _)⟩, ⟨_, rfl, (.lit _)⟩, tv⟩ ⟨⟨_, _, rfl, rfl, (zbk rfl)⟩, ⟨_, _, rfl, rfl, (.cons (subS (by rw [← mid_part hx0]; rw [show j = 2 by omega]; rfl)) (.cons (subI (by rfl)) .nil))⟩, tv⟩ (zaz hpar rfl)⟩
   ·omega
   ·omega
 ·refine zaf tv <| zad <| zap rfl <| zbw <| iteP rfl <| zad ?_
  rw [zbg] at h15
  rw [part_end (show w.lanes.length ≤ i by omega)]
  have hpe := part_ok hw i
  rw [part_end (show w.lanes.length ≤ i by omega)] at hpe
  refine zaa <| zam rfl rfl rfl rfl rfl rfl tv <| zcz rfl rfl rfl (.same _ (.same _ (.same _ (.same _ (.same _ (.same _ (.see 1 .nil))))))) rfl rfl tv <| zbi rfl (c128 ⟨w.lanes.map zbj, w.ticks⟩ tkS hpe (by show w.ticks ≤ _; omega) (cm_in 0 false)) (.cons ((subP rfl)) (.cons ((subP rfl)) .nil)) rfl tv <| zac rfl rfl tv <| zas rfl rfl rfl tv <| zas rfl rfl rfl tv <| zaj rfl rfl rfl rfl rfl rfl rfl rfl tv <| zaf tv <| zad <| zaa <| zam rfl rfl rfl rfl rfl rfl tv <| zaj rfl rfl rfl rfl rfl rfl rfl rfl tv <| zaf tv <| zaw ?_
  rw [← do_tick hw]
  refine fin' [] (.inr rfl) (.cons (.cellN rfl rfl rfl rfl rfl) .nil) (zay [] rfl rfl ⟨⟨_, rfl, (.agg _ _ (.cons (subS ?_) (.cons (subI ?_) .nil)))⟩, tv⟩ tv (zaz rfl rfl))
  all_goals (try rfl)
theorem c88 (w : World') (hw : WOk w) (ht : w.ticks ≤ 800000) : VFun G 88 [.agg (zcu w)] [] (.tup [.agg (zcu (zcr 200 w).1), .lit (.int .i64 (zcr 200 w).2)]) [] := by
 refine VFun.intro (fn := Try.f88) rfl rfl (by kernel_rfl) (nb rfl) fun Γ hpar => ?_
 refine zad <| zaa <| zdh 100 rfl rfl rfl (zar hpar rfl) rfl rfl tv <| zbd 101 rfl rfl (zar hpar rfl) rfl rfl tv <| zae rfl rfl tv <| zaf tv <| zad <| zaa <| zam rfl rfl rfl rfl rfl rfl tv <| zbi rfl (VFun.resWk (c130 w hw) (ren []) (zay [] rfl rfl ⟨⟨_, rfl, .agg _ _ (.cons (.frz _ _ _ _ rfl (fzL rfl)) (.cons (.lit _) .nil))⟩, tv⟩ tv no_par)) (.cons ((subP rfl)) .nil) rfl tv <| zbd 102 rfl rfl (zar hpar rfl) rfl rfl tv <| zaj rfl rfl rfl rfl rfl rfl rfl rfl tv <| zaf tv <| zad <| zaa <| zae rfl rfl tv <| zaf tv <| zad <| zbb <| zbt (fun n_ E => ∃ (k : Nat) (v : World'), ((k ≤ 200) ∧ (WOk v) ∧ (v.ticks ≤ 800000 + k) ∧ ((zcr 200 w).1 = (zcr (200 - k) v).1 ∧ (zcr 200 w).2 = (zcr (200 - k) v).2 + k)) ∧ n_ = 200 - k ∧ E = ⟨[(2, .ptr 2 0), (4, .ptr 4 0), (5, .lit (.int .i64 k))], [(2, .box [.lit (.slice none 0 0), .lit (.int .i64 0)]), (4, .box (zcu v))], 21⟩) (n0 := _) (E0 := _) (⟨0, w, by exact ⟨by omega, hw, by omega, rfl, by simp⟩, rfl, rfl⟩) (ren [(2, 101), (4, 102)]) (zay [(2, 101), (4, 102)] rfl rfl ⟨⟨_, rfl, (.ptr _ _ _ rfl (zak rfl))⟩, ⟨_, rfl, (.ptr _ _ _ rfl (zak rfl))⟩, ⟨_, rfl, (subI (by rfl))⟩, tv⟩ ⟨⟨_, _, rfl, rfl, (zbk rfl)⟩, ⟨_, _, rfl, rfl, (zbk rfl)⟩, tv⟩ (zaz hpar rfl)) (fun n_ E hR => ?_)
 obtain ⟨k, v, hI, rfl, rfl⟩ := hR
 obtain ⟨hk, hv, htv, hse⟩ := hI
 refine zad <| zad <| zaa <| zac rfl rfl tv <| zcg rfl rfl rfl tv (fun h9 => ?_) (fun h9 => ?_)
 ·refine zac rfl rfl tv <| zam rfl rfl rfl rfl rfl rfl (gk rfl) <| zdo [] rfl (c47 v hv.len.2) (.cons ((subP rfl)) .nil) (fun k o h => by simp [Go.Vc.look] at h) rfl (gk rfl) (fun h12 => ?_) (fun h12 => ?_)
  ·refine zdq rfl rfl (gk rfl) <| zav rfl rfl rfl tv <| zaf tv <| zap rfl <| zbw <| iteP rfl <| zad <| zaa <| zam rfl rfl rfl rfl rfl rfl tv <| zac rfl rfl tv <| zaj rfl rfl rfl rfl rfl rfl rfl rfl tv <| zae rfl rfl tv <| zaf tv <| zaw ?_
   rw [hse.1, hse.2]
   rw [settle_still h12]
   refine fin' [] (.inr rfl) (.cons (.cellN rfl rfl rfl rfl rfl) (.cons (.tmp rfl (nb rfl)) .nil)) (zay [] rfl rfl ⟨⟨_, rfl, (.tup _ _ (.cons (.agg _ _ (.cons (subS ?_) (.cons (subI ?_) .nil))) (.cons (subI ?_) .nil)))⟩, tv⟩ tv (zaz rfl rfl))
   all_goals (try rfl)
   all_goals
     simp
  ·refine zdq rfl rfl (gk rfl) <| zav rfl rfl rfl tv <| zaf tv <| zao rfl <| zax <| zbb <| zad <| zaa <| zam rfl rfl rfl rfl rfl rfl tv <| zbi rfl (c99 v hv (by omega)) (.cons ((subP rfl)) .nil) rfl tv <| zaj rfl rfl rfl rfl rfl rfl rfl rfl tv <| zaf tv <| zaa <| zac rfl rfl tv <| zbz rfl rfl rfl (by unfold inI; omega) rfl tv <| zae rfl rfl tv <| zaf tv <| ⟨_, _, ren [(2, 2), (4, 4)], ?_, ⟨k + 1, zey v, ?_, rfl, rfl⟩, zay [(2, 2), (4, 4)] rfl rfl ⟨⟨_, rfl, (.ptr _ _ _ rfl (zak rfl))⟩, ⟨_, rfl, (.ptr _ _ _ rfl (zak rfl))⟩, ⟨_, rfl, (subI (by rfl))⟩, tv⟩ ⟨⟨_, _, rfl, rfl, (zbk rfl)⟩, ⟨_, _, rfl, rfl, (zbk rfl)⟩, tv⟩ (zaz hpar rfl)⟩
   ·omega
   ·refine ⟨by omega, wok_round hv, by rw [round_ticks]; omega, ?_⟩
    have e : 200 - k = (200 - (k + 1)) + 1 := by omega
    rw [e, settle_step h12] at hse
    exact ⟨hse.1, by rw [hse.2]; omega⟩
 ·refine zac rfl rfl tv <| zag rfl rfl rfl rfl rfl <| zag rfl rfl rfl rfl rfl <| zag rfl rfl rfl rfl rfl <| zat rfl rfl rfl tv <| zaf tv <| zap rfl <| zbw <| iteP rfl <| zad <| zaa <| zam rfl rfl rfl rfl rfl rfl tv <| zac rfl rfl tv <| zaj rfl rfl rfl rfl rfl rfl rfl rfl tv <| zae rfl rfl tv <| zaf tv <| zaw ?_
  rw [hse.1, hse.2]
  obtain rfl : k = 200 := by omega
  rw [show (zcr (200 - 200) v) = (v, 0) from rfl]
  refine fin' [] (.inr rfl) (.cons (.cellN rfl rfl rfl rfl rfl) (.cons (.tmp rfl (nb rfl)) .nil)) (zay [] rfl rfl ⟨⟨_, rfl, (.tup _ _ (.cons (.agg _ _ (.cons (subS ?_) (.cons (subI ?_) .nil))) (.cons (subI ?_) .nil)))⟩, tv⟩ tv (zaz rfl rfl))
  all_goals (try rfl)
  all_goals
    simp
theorem c87 (n : Int) (l : List Step) (hm : ∀ s ∈ l, inI s.m) : VFun G 87 [.lit (.int .i64 n), .shr 7 (stepCells l)] [] (.tup [.agg (zcu (fplay n l).1), .shr 1 (intCells (fplay n l).2.1), .lit (.int .i64 (fplay n l).2.2)]) [] := by
 refine VFun.intro (fn := Try.f87) rfl rfl (by kernel_rfl) (nb rfl) fun Γ hpar => ?_
 refine zad <| zaa <| zbd 100 rfl rfl (zar hpar rfl) rfl rfl tv <| zae rfl rfl tv <| zae rfl rfl tv <| zaf tv <| zad <| zaa <| zac rfl rfl tv <| zbi rfl (c125 n) (.cons ((.lit _)) .nil) rfl tv <| zac rfl rfl tv <| zas rfl rfl rfl tv <| zas rfl rfl rfl tv <| zbd 101 rfl rfl (zar hpar rfl) rfl rfl tv <| zaj rfl rfl rfl rfl rfl rfl rfl rfl tv <| zae rfl rfl tv <| zaf tv <| zad <| zad <| zaa <| zac rfl rfl tv <| zdg rfl rfl rfl tv (fun h20 => ?_) (fun h20 => ?_)
 ·refine zaf tv <| zao rfl <| zad <| zaa <| zcz rfl rfl rfl (.see 17 (.same _ .nil)) rfl rfl tv <| zac rfl rfl tv <| zaj rfl rfl rfl rfl rfl rfl rfl rfl tv <| zae rfl rfl tv <| zae rfl rfl tv <| zaf tv <| zaw ?_
  rw [fplay1 h20]
  refine fin' [] (.inr rfl) (.cons (.cellN rfl rfl rfl rfl rfl) (.cons (.tmp rfl (nb rfl)) (.cons (.tmp rfl (nb rfl)) .nil))) (zay [] rfl rfl ⟨⟨_, rfl, (.tup _ _ (.cons (.agg _ _ (.cons (subS ?_) (.cons (subI ?_) .nil))) (.cons (subNs ?_) (.cons (subI ?_) .nil))))⟩, tv⟩ tv (zaz rfl rfl))
  all_goals (try rfl)
 ·refine zaf tv <| zap rfl <| zax <| zad <| zad ?_
  have hn := newErr_ok (n := n) (by omega)
  refine zaa <| zac rfl rfl tv <| zby rfl rfl rfl tv <| zdr rfl rfl rfl tv (fun h25 => ?_) (fun h25 => ?_)
  ·refine zaf tv <| zao rfl <| zad <| zaa <| zcz rfl rfl rfl (.see 17 (.same _ .nil)) rfl rfl tv <| zaj rfl rfl rfl rfl rfl rfl rfl rfl tv <| zae rfl rfl tv <| zae rfl rfl tv <| zaf tv <| zaw ?_
   rw [fplay2 (l := l) (show ¬ newErr n ≠ 0 by omega) (by rw [zbf] at h25; omega)]
   refine fin' [] (.inr rfl) (.cons (.cellN rfl rfl rfl rfl rfl) (.cons (.tmp rfl (nb rfl)) (.cons (.tmp rfl (nb rfl)) .nil))) (zay [] rfl rfl ⟨⟨_, rfl, (.tup _ _ (.cons (.agg _ _ (.cons (subS ?_) (.cons (subI ?_) .nil))) (.cons (subNs ?_) (.cons (subI ?_) .nil))))⟩, tv⟩ tv (zaz rfl rfl))
   all_goals (try rfl)
  ·refine zaf tv <| zap rfl <| zax <| zad ?_
   rw [zbf] at h25
   refine zaa <| zae rfl rfl tv <| zaf tv <| zad <| zad <| zaa <| zac rfl rfl tv <| zby rfl rfl rfl tv <| zac rfl rfl tv <| zaf tv <| zbb <| zbt (fun n_ E => ∃ (i : Nat), ((i ≤ l.length)) ∧ n_ = l.length - i ∧ E = ⟨[(4, .ptr 4 0), (7, .ptr 7 0), (9, .row 9), (27, .shr 7 (stepCells l)), (28, .lit (.int .i64 (stepCells l).length)), (29, .lit (.int .i64 i))], [(4, .box [.lit (.slice none 0 0), .lit (.int .i64 0)]), (7, .box (zcu (plays (zco n) (l.take i)).1)), (9, .row 51 1 (intCells (plays (zco n) (l.take i)).2))], 47⟩) (n0 := _) (E0 := _) (⟨0, by omega, rfl, rfl⟩) (ren [(4, 100), (7, 101)]) (zay [(4, 100), (7, 101)] rfl rfl ⟨⟨_, rfl, (.ptr _ _ _ rfl (zak rfl))⟩, ⟨_, rfl, (.ptr _ _ _ rfl (zak rfl))⟩, ⟨_, rfl, .nilrow _ _ _ _ rfl rfl⟩, ⟨_, rfl, (.shr _ _)⟩, ⟨_, rfl, (.lit _)⟩, ⟨_, rfl, (.lit _)⟩, tv⟩ ⟨⟨_, _, rfl, rfl, (zbk rfl)⟩, ⟨_, _, rfl, rfl, (zbk rfl)⟩, (.inr (.inl ⟨rfl, rfl⟩)), tv⟩ (zaz hpar rfl)) (fun n_ E hR => ?_)
   obtain ⟨i, hI, rfl, rfl⟩ := hR
   have hI0 := hI
   refine zad <| zaa <| zcg rfl rfl rfl tv (fun h30 => ?_) (fun h30 => ?_)
   ·refine zaf tv <| zad <| zao rfl <| zax <| zad <| zbb <| zad ?_
    rw [zbf] at h30
    obtain ⟨s, hs⟩ : ∃ s, l[i]? = some s := ⟨_, List.getElem?_eq_getElem (by omega)⟩
    refine zaa <| zbh rfl rfl rfl rfl rfl rfl (zbq hs) rfl tv <| zbu rfl rfl rfl rfl rfl tv <| zbd 122 rfl rfl (zar hpar rfl) rfl rfl tv <| zaj rfl rfl rfl rfl rfl rfl rfl rfl tv <| zaf tv <| zad ?_
    have hwi : WOk (plays (zco n) (l.take i)).1 := wok_plays _ (wok_new hn.1 hn.2)
    have hti := (plays_ticks (l.take i) (zco n)).2
    rw [show (zco n).ticks = 0 by rw [new_is hn.1 hn.2]] at hti
    have hli := List.length_take_le i l
    have hei := plays_es (l.take i) (zco n)
    refine zaa <| zam rfl rfl rfl rfl rfl rfl tv <| zam rfl rfl rfl rfl rfl rfl tv <| zbi rfl (c128 (plays (zco n) (l.take i)).1 s hwi (by omega) (hm s (List.mem_of_getElem? hs))) (.cons ((subP rfl)) (.cons ((subP rfl)) .nil)) rfl tv <| zac rfl rfl tv <| zas rfl rfl rfl tv <| zas rfl rfl rfl tv <| zbd 123 rfl rfl (zar hpar rfl) rfl rfl tv <| zaj rfl rfl rfl rfl rfl rfl rfl rfl tv <| zae rfl rfl tv <| zaf tv <| zad <| zaa <| zam rfl rfl rfl rfl rfl rfl tv <| zaj rfl rfl rfl rfl rfl rfl rfl rfl tv <| zaf tv <| zaa <| zac rfl rfl tv <| zac rfl rfl tv <| zba 124 rfl rfl rfl rfl rfl rfl rfl rfl rfl rfl (zar hpar rfl) rfl rfl tv <| zbn 125 rfl rfl rfl (zdb rfl) rfl (zar hpar rfl) rfl rfl rfl rfl rfl (by simp [zbx, intCells]; omega) rfl tv <| zae rfl rfl tv <| zaf tv <| zaa <| zbz rfl rfl rfl (by unfold inI; omega) rfl tv <| zac rfl rfl tv <| zaf tv <| ⟨_, _, ren [(4, 4), (7, 7), (9, 125)], ?_, ⟨i + 1, ?_, rfl, rfl⟩, zay [(4, 4), (7, 7), (9, 125)] rfl rfl ⟨⟨_, rfl, (.ptr _ _ _ rfl (zak rfl))⟩, ⟨_, rfl, (.ptr _ _ _ rfl (zak rfl))⟩, ⟨_, rfl, (.row _ _ rfl (zak rfl))⟩, ⟨_, rfl, (.shr _ _)⟩, ⟨_, rfl, (.lit _)⟩, ⟨_, rfl, (.lit _)⟩, tv⟩ ⟨⟨_, _, rfl, rfl, (zbk rfl)⟩, ⟨_, _, rfl, rfl, (.cons (subS (by rw [plays_take hs])) (.cons (subI (by rw [plays_take hs])) .nil))⟩, (.inl ⟨_, rfl, zcq rfl (by rw [plays_take hs]; simp [intCells, zbx, cellsOf])⟩), tv⟩ (zaz hpar rfl)⟩
    ·omega
    ·omega
   ·refine zaf tv <| zad <| zap rfl <| zbw <| iteP rfl <| zad ?_
    rw [zbf] at h30
    have htk : l.take i = l.take 160 := by rw [List.take_of_length_le (show l.length ≤ i by omega), List.take_of_length_le (show l.length ≤ 160 by omega)]
    refine zaa <| zam rfl rfl rfl rfl rfl rfl tv <| zac rfl rfl tv <| zaj rfl rfl rfl rfl rfl rfl rfl rfl tv <| zae rfl rfl tv <| zae rfl rfl tv <| zaf tv <| zaw ?_
    rw [fplay3 (l := l) (show ¬ newErr n ≠ 0 by omega) (by omega)]
    unfold play; rw [← htk]
    refine fin' [] (.inr rfl) (.cons (.cellN rfl rfl rfl rfl rfl) (.cons (.tmp rfl (nb rfl)) (.cons (.tmp rfl (nb rfl)) .nil))) (zay [] rfl rfl ⟨⟨_, rfl, (.tup _ _ (.cons (.agg _ _ (.cons (subS ?_) (.cons (subI ?_) .nil))) (.cons (zcd rfl (fzL rfl) ?_) (.cons (subI ?_) .nil))))⟩, tv⟩ tv (zaz rfl rfl))
    all_goals (try rfl)
end Go.Proofs.Ytaadloihphpdbaa
