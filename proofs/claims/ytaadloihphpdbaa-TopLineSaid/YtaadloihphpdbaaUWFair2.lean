/- Walks of the package fair. Printed by a small program (walk.py). -/
import Derived.Test.YtaadloihphpdbaaUWFair
import Derived.Test.YtaadloihphpdbaaUWWorld3
import Derived.Test.YtaadloihphpdbaaUWWorld2
set_option linter.unusedVariables false
set_option linter.unusedSimpArgs false
set_option maxRecDepth 4000
namespace Go.Proofs.Ytaadloihphpdbaa
open Go Go.Vc Go.RowKit
theorem c99 (w : World') (hw : WOk w) (ht : w.ticks ≤ 900000) : VFun G 99 [.agg (zdw w)] [] (.agg (zdw (zez w))) [] := by
 have hl3 := hw.len
 refine VFun.intro (fn := Try.f99) rfl rfl (by kernel_rfl) (nb rfl) fun Γ hpar => ?_
 refine zac <| zaa <| zeb 100 rfl rfl rfl (zar hpar rfl) rfl rfl tv <| zbf 101 rfl rfl (zar hpar rfl) rfl rfl tv <| zaf tv <| zac <| zaa <| zan rfl rfl rfl rfl rfl rfl tv <| zbo rfl (VFun.resWk (c130 w hw) (ren []) (zaw [] rfl rfl ⟨⟨_, rfl, .agg _ _ (.cons (.frz _ _ _ _ rfl (fzL rfl)) (.cons (.lit _) .nil))⟩, tv⟩ tv no_par)) (.cons ((subP rfl)) .nil) rfl tv <| zbf 102 rfl rfl (zar hpar rfl) rfl rfl tv <| zah rfl rfl rfl rfl rfl rfl rfl rfl tv <| zaf tv <| zac <| zac <| zaa <| zab rfl rfl rfl rfl rfl rfl tv <| zak rfl rfl rfl rfl rfl rfl tv <| zcs rfl rfl rfl tv <| zae rfl rfl tv <| zaf tv <| zaz <| zbx (fun n_ E => ∃ (i : Nat), ((i ≤ w.lanes.length)) ∧ n_ = w.lanes.length - i ∧ E = ⟨[(2, .ptr 2 0), (3, .ptr 3 0), (13, .lit (.int .i64 (zca w.lanes).length)), (14, .lit (.int .i64 i))], [(2, .box [.lit (.slice none 0 0), .lit (.int .i64 0)]), (3, .box (zdw (partW w i)))], 43⟩) (n0 := _) (E0 := _) (⟨0, by omega, rfl, rfl⟩) (ren [(2, 101), (3, 102)]) (zaw [(2, 101), (3, 102)] rfl rfl ⟨⟨_, rfl, (.ptr _ _ _ rfl (zag rfl))⟩, ⟨_, rfl, (.ptr _ _ _ rfl (zag rfl))⟩, ⟨_, rfl, (.lit _)⟩, ⟨_, rfl, (.lit _)⟩, tv⟩ ⟨⟨_, _, rfl, rfl, (zbw rfl)⟩, ⟨_, _, rfl, rfl, (.cons (subS (by rw [part_0])) (.cons (subI (by rw [part_0])) .nil))⟩, tv⟩ (zax hpar rfl)) (fun n_ E hR => ?_)
 obtain ⟨i, hI, rfl, rfl⟩ := hR
 have hI0 := hI
 refine zac <| zaa <| zcm rfl rfl rfl tv (fun h15 => ?_) (fun h15 => ?_)
 ·refine zaf tv <| zac <| zas rfl <| zbd <| zac <| zaz <| zac ?_
  rw [zbj] at h15
  obtain ⟨x0, hx0⟩ : ∃ x, w.lanes[i]? = some x := ⟨_, List.getElem?_eq_getElem (by omega)⟩
  have hil : i < w.lanes.length := by omega
  have hb0 : BInv x0 := hw.b x0 (List.mem_of_getElem? hx0)
  refine zaa <| zae rfl rfl tv <| zad rfl rfl tv <| zaf tv <| zac <| zaa <| zba 123 rfl rfl rfl rfl rfl rfl rfl rfl rfl rfl (zar hpar rfl) rfl rfl tv <| zeo rfl rfl rfl rfl tv <| zae rfl rfl tv <| zaf tv <| zaz <| zbx (fun n_ E => ∃ (j : Nat), ((j ≤ 2)) ∧ n_ = 2 - j ∧ E = ⟨[(2, .ptr 2 0), (3, .ptr 3 0), (13, .lit (.int .i64 (zca w.lanes).length)), (14, .lit (.int .i64 i)), (4, .lit (.int .i64 i)), (17, .row 17), (18, .lit (.int .i64 2)), (19, .lit (.int .i64 j))], [(2, .box [.lit (.slice none 0 0), .lit (.int .i64 0)]), (3, .box (zdw (midW w i (stg j x0)))), (17, .row 4 1 [[.lit (.bool false)], [.lit (.bool true)]])], 43⟩) (n0 := _) (E0 := _) (⟨0, by omega, rfl, rfl⟩) (ren [(2, 2), (3, 3), (17, 123)]) (zaw [(2, 2), (3, 3), (17, 123)] rfl rfl ⟨⟨_, rfl, (.ptr _ _ _ rfl (zag rfl))⟩, ⟨_, rfl, (.ptr _ _ _ rfl (zag rfl))⟩, ⟨_, rfl, (.lit _)⟩, ⟨_, rfl, (.lit _)⟩, ⟨_, rfl, (.lit _)⟩, ⟨_, rfl, (.row _ _ rfl (zag rfl))⟩, ⟨_, rfl, (subI (by rfl))⟩, ⟨_, rfl, (subI (by rfl))⟩, tv⟩ ⟨⟨_, _, rfl, rfl, (zbw rfl)⟩, ⟨_, _, rfl, rfl, (.cons (subS (by rw [part_mid hx0]; rfl)) (.cons (subI (by rfl)) .nil))⟩, (.inl ⟨_, rfl, zbr rfl (by rfl)⟩), tv⟩ (zax hpar rfl)) (fun n_ E hR => ?_)
  obtain ⟨j, hI, rfl, rfl⟩ := hR
  have hj2 := hI
  refine zac <| zaa <| zcm rfl rfl rfl tv (fun h20 => ?_) (fun h20 => ?_)
  ·refine zaf tv <| zac <| zas rfl <| zbd <| zac <| zaz <| zac ?_
   rcases (by omega : j = 0 ∨ j = 1) with rfl | rfl
   ·refine zaa <| zci rfl rfl rfl rfl rfl rfl (i := 0) rfl (by decide) rfl tv <| zdx rfl rfl (rfl) rfl rfl rfl rfl tv <| zad rfl rfl tv <| zaf tv <| zaz <| zbx (fun n_ E => ∃ (x : Lane), ((BInv x) ∧ (zdr false x = zdr false x0)) ∧ n_ = (way x false).length ∧ E = ⟨[(2, .ptr 2 0), (3, .ptr 3 0), (13, .lit (.int .i64 (zca w.lanes).length)), (14, .lit (.int .i64 i)), (4, .lit (.int .i64 i)), (6, .lit (.bool false)), (17, .row 17), (18, .lit (.int .i64 2)), (19, .lit (.int .i64 0))], [(2, .box [.lit (.slice none 0 0), .lit (.int .i64 0)]), (3, .box (zdw (midW w i x))), (17, .row 4 1 [[.lit (.bool false)], [.lit (.bool true)]])], 43⟩) (n0 := _) (E0 := _) (⟨stg 0 x0, by exact ⟨hb0, rfl⟩, rfl, rfl⟩) (ren [(2, 2), (3, 3), (17, 17)]) (zaw [(2, 2), (3, 3), (17, 17)] rfl rfl ⟨⟨_, rfl, (.ptr _ _ _ rfl (zag rfl))⟩, ⟨_, rfl, (.ptr _ _ _ rfl (zag rfl))⟩, ⟨_, rfl, (.lit _)⟩, ⟨_, rfl, (.lit _)⟩, ⟨_, rfl, (.lit _)⟩, ⟨_, rfl, (subB (by rfl))⟩, ⟨_, rfl, (.row _ _ rfl (zag rfl))⟩, ⟨_, rfl, (.lit _)⟩, ⟨_, rfl, (subI (by rfl))⟩, tv⟩ ⟨⟨_, _, rfl, rfl, (zbw rfl)⟩, ⟨_, _, rfl, rfl, (zbw rfl)⟩, (.inl ⟨_, rfl, rfl⟩), tv⟩ (zax hpar rfl)) (fun n_ E hR => ?_)
    obtain ⟨x, hI, rfl, rfl⟩ := hR
    obtain ⟨hb, hd⟩ := hI
    refine zaz <| zac <| zaa <| zan rfl rfl rfl rfl rfl rfl tv <| zae rfl rfl tv <| zae rfl rfl tv <| zfk rfl rfl rfl (.same _ (.same _ (.same _ (.same _ (.same _ (.same _ (.see 1 .nil))))))) rfl rfl tv <| zbo rfl (c128 (midW w i x) (cmS i false) (mid_ok hw hil hb) (by show w.ticks ≤ _; omega) (cm_in _ _)) (.cons ((subP rfl)) (.cons ((subP rfl)) .nil)) rfl tv <| zae rfl rfl tv <| zbg rfl rfl rfl tv <| zbg rfl rfl rfl tv <| zbf 164 rfl rfl (zar hpar rfl) rfl rfl tv <| zah rfl rfl rfl rfl rfl rfl rfl rfl tv <| zad rfl rfl tv <| zaf tv <| zac <| zac <| zaa <| zae rfl rfl tv <| zfe rfl rfl rfl tv (fun h32 => ?_) (fun h32 => ?_)
    ·refine zaf tv <| zas rfl <| zcc <| iteN (by decide) <| iteP rfl ?_
     have hne : ¬ 0 < (way x false).length := fun e => by rw [do_come hil e] at h32; exact absurd rfl h32
     refine zaa <| zcg rfl rfl rfl (by unfold inI; omega) rfl tv <| zae rfl rfl tv <| zaf tv <| ⟨_, _, ren [(2, 2), (3, 3), (17, 17)], ?_, ⟨1, ?_, rfl, rfl⟩, zaw [(2, 2), (3, 3), (17, 17)] rfl rfl ⟨⟨_, rfl, (.ptr _ _ _ rfl (zag rfl))⟩, ⟨_, rfl, (.ptr _ _ _ rfl (zag rfl))⟩, ⟨_, rfl, (.lit _)⟩, ⟨_, rfl, (.lit _)⟩, ⟨_, rfl, (.lit _)⟩, ⟨_, rfl, (.row _ _ rfl (zag rfl))⟩, ⟨_, rfl, (.lit _)⟩, ⟨_, rfl, (subI (by rfl))⟩, tv⟩ ⟨⟨_, _, rfl, rfl, (zbw rfl)⟩, ⟨_, _, rfl, rfl, (.cons (subS (by rw [show x = stg 1 x0 by rw [drain_end hne] at hd; exact hd])) (.cons (subI (by rfl)) .nil))⟩, (.inl ⟨_, rfl, zbr rfl (by rfl)⟩), tv⟩ (zax hpar rfl)⟩
     ·omega
     ·omega
    ·refine zaf tv <| zau rfl <| zbd ?_
     have hyes : 0 < (way x false).length := Classical.byContradiction fun e => by rw [do_none hil e] at h32; exact absurd h32 (by decide)
     refine zaa <| zan rfl rfl rfl rfl rfl rfl tv <| zah rfl rfl rfl rfl rfl rfl rfl rfl tv <| zaf tv <| ⟨_, _, ren [(2, 2), (3, 3), (17, 17)], ?_, ⟨zfp x 0 false, ?_, rfl, rfl⟩, zaw [(2, 2), (3, 3), (17, 17)] rfl rfl ⟨⟨_, rfl, (.ptr _ _ _ rfl (zag rfl))⟩, ⟨_, rfl, (.ptr _ _ _ rfl (zag rfl))⟩, ⟨_, rfl, (.lit _)⟩, ⟨_, rfl, (.lit _)⟩, ⟨_, rfl, (.lit _)⟩, ⟨_, rfl, (.lit _)⟩, ⟨_, rfl, (.row _ _ rfl (zag rfl))⟩, ⟨_, rfl, (.lit _)⟩, ⟨_, rfl, (.lit _)⟩, tv⟩ ⟨⟨_, _, rfl, rfl, (zbw rfl)⟩, ⟨_, _, rfl, rfl, (.cons (subS (by rw [do_come hil hyes])) (.cons (subI (by rw [do_come hil hyes])) .nil))⟩, (.inl ⟨_, rfl, rfl⟩), tv⟩ (zax hpar rfl)⟩
     ·exact come_less hyes
     ·exact ⟨binv_comes hb 0 false, by rw [← drain_come hyes]; exact hd⟩
   ·refine zaa <| zci rfl rfl rfl rfl rfl rfl (i := 1) rfl (by decide) rfl tv <| zdx rfl rfl (rfl) rfl rfl rfl rfl tv <| zad rfl rfl tv <| zaf tv <| zaz <| zbx (fun n_ E => ∃ (x : Lane), ((BInv x) ∧ (zdr true x = zbb x0)) ∧ n_ = (way x true).length ∧ E = ⟨[(2, .ptr 2 0), (3, .ptr 3 0), (13, .lit (.int .i64 (zca w.lanes).length)), (14, .lit (.int .i64 i)), (4, .lit (.int .i64 i)), (6, .lit (.bool true)), (17, .row 17), (18, .lit (.int .i64 2)), (19, .lit (.int .i64 1))], [(2, .box [.lit (.slice none 0 0), .lit (.int .i64 0)]), (3, .box (zdw (midW w i x))), (17, .row 4 1 [[.lit (.bool false)], [.lit (.bool true)]])], 43⟩) (n0 := _) (E0 := _) (⟨stg 1 x0, by exact ⟨binv_drain _ _ hb0, rfl⟩, rfl, rfl⟩) (ren [(2, 2), (3, 3), (17, 17)]) (zaw [(2, 2), (3, 3), (17, 17)] rfl rfl ⟨⟨_, rfl, (.ptr _ _ _ rfl (zag rfl))⟩, ⟨_, rfl, (.ptr _ _ _ rfl (zag rfl))⟩, ⟨_, rfl, (.lit _)⟩, ⟨_, rfl, (.lit _)⟩, ⟨_, rfl, (.lit _)⟩, ⟨_, rfl, (subB (by rfl))⟩, ⟨_, rfl, (.row _ _ rfl (zag rfl))⟩, ⟨_, rfl, (.lit _)⟩, ⟨_, rfl, (subI (by rfl))⟩, tv⟩ ⟨⟨_, _, rfl, rfl, (zbw rfl)⟩, ⟨_, _, rfl, rfl, (zbw rfl)⟩, (.inl ⟨_, rfl, rfl⟩), tv⟩ (zax hpar rfl)) (fun n_ E hR => ?_)
    obtain ⟨x, hI, rfl, rfl⟩ := hR
    obtain ⟨hb, hd⟩ := hI
    refine zaz <| zac <| zaa <| zan rfl rfl rfl rfl rfl rfl tv <| zae rfl rfl tv <| zae rfl rfl tv <| zfk rfl rfl rfl (.same _ (.same _ (.same _ (.same _ (.same _ (.same _ (.see 1 .nil))))))) rfl rfl tv <| zbo rfl (c128 (midW w i x) (cmS i true) (mid_ok hw hil hb) (by show w.ticks ≤ _; omega) (cm_in _ _)) (.cons ((subP rfl)) (.cons ((subP rfl)) .nil)) rfl tv <| zae rfl rfl tv <| zbg rfl rfl rfl tv <| zbg rfl rfl rfl tv <| zbf 164 rfl rfl (zar hpar rfl) rfl rfl tv <| zah rfl rfl rfl rfl rfl rfl rfl rfl tv <| zad rfl rfl tv <| zaf tv <| zac <| zac <| zaa <| zae rfl rfl tv <| zfe rfl rfl rfl tv (fun h32 => ?_) (fun h32 => ?_)
    ·refine zaf tv <| zas rfl <| zcc <| iteN (by decide) <| iteP rfl ?_
     have hne : ¬ 0 < (way x true).length := fun e => by rw [do_come hil e] at h32; exact absurd rfl h32
     refine zaa <| zcg rfl rfl rfl (by unfold inI; omega) rfl tv <| zae rfl rfl tv <| zaf tv <| ⟨_, _, ren [(2, 2), (3, 3), (17, 17)], ?_, ⟨2, ?_, rfl, rfl⟩, zaw [(2, 2), (3, 3), (17, 17)] rfl rfl ⟨⟨_, rfl, (.ptr _ _ _ rfl (zag rfl))⟩, ⟨_, rfl, (.ptr _ _ _ rfl (zag rfl))⟩, ⟨_, rfl, (.lit _)⟩, ⟨_, rfl, (.lit _)⟩, ⟨_, rfl, (.lit _)⟩, ⟨_, rfl, (.row _ _ rfl (zag rfl))⟩, ⟨_, rfl, (.lit _)⟩, ⟨_, rfl, (subI (by rfl))⟩, tv⟩ ⟨⟨_, _, rfl, rfl, (zbw rfl)⟩, ⟨_, _, rfl, rfl, (.cons (subS (by rw [show x = stg 2 x0 by rw [drain_end hne] at hd; exact hd])) (.cons (subI (by rfl)) .nil))⟩, (.inl ⟨_, rfl, zbr rfl (by rfl)⟩), tv⟩ (zax hpar rfl)⟩
     ·omega
     ·omega
    ·refine zaf tv <| zau rfl <| zbd ?_
     have hyes : 0 < (way x true).length := Classical.byContradiction fun e => by rw [do_none hil e] at h32; exact absurd h32 (by decide)
     refine zaa <| zan rfl rfl rfl rfl rfl rfl tv <| zah rfl rfl rfl rfl rfl rfl rfl rfl tv <| zaf tv <| ⟨_, _, ren [(2, 2), (3, 3), (17, 17)], ?_, ⟨zfp x 0 true, ?_, rfl, rfl⟩, zaw [(2, 2), (3, 3), (17, 17)] rfl rfl ⟨⟨_, rfl, (.ptr _ _ _ rfl (zag rfl))⟩, ⟨_, rfl, (.ptr _ _ _ rfl (zag rfl))⟩, ⟨_, rfl, (.lit _)⟩, ⟨_, rfl, (.lit _)⟩, ⟨_, rfl, (.lit _)⟩, ⟨_, rfl, (.lit _)⟩, ⟨_, rfl, (.row _ _ rfl (zag rfl))⟩, ⟨_, rfl, (.lit _)⟩, ⟨_, rfl, (.lit _)⟩, tv⟩ ⟨⟨_, _, rfl, rfl, (zbw rfl)⟩, ⟨_, _, rfl, rfl, (.cons (subS (by rw [do_come hil hyes])) (.cons (subI (by rw [do_come hil hyes])) .nil))⟩, (.inl ⟨_, rfl, rfl⟩), tv⟩ (zax hpar rfl)⟩
     ·exact come_less hyes
     ·exact ⟨binv_comes hb 0 true, by rw [← drain_come hyes]; exact hd⟩
  ·refine zaf tv <| zac <| zau rfl <| zcc <| iteP rfl <| zaa <| zcg rfl rfl rfl (by unfold inI; omega) rfl tv <| zae rfl rfl tv <| zaf tv <| ⟨_, _, ren [(2, 2), (3, 3)], ?_, ⟨i + 1, ?_, rfl, rfl⟩, zaw [(2, 2), (3, 3)] rfl rfl ⟨⟨_, rfl, (.ptr _ _ _ rfl (zag rfl))⟩, ⟨_, rfl, (.ptr _ _ _ rfl (zag rfl))⟩, ⟨_, rfl, (.lit _)⟩, ⟨_, rfl, (.lit _)⟩, tv⟩ ⟨⟨_, _, rfl, rfl, (zbw rfl)⟩, ⟨_, _, rfl, rfl, (.cons (subS (by rw [← mid_part hx0]; rw [show j = 2 by omega]; rfl)) (.cons (subI (by rfl)) .nil))⟩, tv⟩ (zax hpar rfl)⟩
   ·omega
   ·omega
 ·refine zaf tv <| zac <| zau rfl <| zcc <| iteP rfl <| zac ?_
  rw [zbj] at h15
  rw [part_end (show w.lanes.length ≤ i by omega)]
  have hpe := part_ok hw i
  rw [part_end (show w.lanes.length ≤ i by omega)] at hpe
  refine zaa <| zan rfl rfl rfl rfl rfl rfl tv <| zfk rfl rfl rfl (.same _ (.same _ (.same _ (.same _ (.same _ (.same _ (.see 1 .nil))))))) rfl rfl tv <| zbo rfl (c128 ⟨w.lanes.map zbb, w.ticks⟩ tkS hpe (by show w.ticks ≤ _; omega) (cm_in 0 false)) (.cons ((subP rfl)) (.cons ((subP rfl)) .nil)) rfl tv <| zae rfl rfl tv <| zbg rfl rfl rfl tv <| zbg rfl rfl rfl tv <| zah rfl rfl rfl rfl rfl rfl rfl rfl tv <| zaf tv <| zac <| zaa <| zan rfl rfl rfl rfl rfl rfl tv <| zah rfl rfl rfl rfl rfl rfl rfl rfl tv <| zaf tv <| zav ?_
  rw [← do_tick hw]
  refine fin' [] (.inr rfl) (.cons (.cellN rfl rfl rfl rfl rfl) .nil) (zaw [] rfl rfl ⟨⟨_, rfl, (.agg _ _ (.cons (subS ?_) (.cons (subI ?_) .nil)))⟩, tv⟩ tv (zax rfl rfl))
  all_goals (try rfl)
theorem c88 (w : World') (hw : WOk w) (ht : w.ticks ≤ 800000) : VFun G 88 [.agg (zdw w)] [] (.tup [.agg (zdw (zco 200 w).1), .lit (.int .i64 (zco 200 w).2)]) [] := by
 refine VFun.intro (fn := Try.f88) rfl rfl (by kernel_rfl) (nb rfl) fun Γ hpar => ?_
 refine zac <| zaa <| zeb 100 rfl rfl rfl (zar hpar rfl) rfl rfl tv <| zbf 101 rfl rfl (zar hpar rfl) rfl rfl tv <| zad rfl rfl tv <| zaf tv <| zac <| zaa <| zan rfl rfl rfl rfl rfl rfl tv <| zbo rfl (VFun.resWk (c130 w hw) (ren []) (zaw [] rfl rfl ⟨⟨_, rfl, .agg _ _ (.cons (.frz _ _ _ _ rfl (fzL rfl)) (.cons (.lit _) .nil))⟩, tv⟩ tv no_par)) (.cons ((subP rfl)) .nil) rfl tv <| zbf 102 rfl rfl (zar hpar rfl) rfl rfl tv <| zah rfl rfl rfl rfl rfl rfl rfl rfl tv <| zaf tv <| zac <| zaa <| zad rfl rfl tv <| zaf tv <| zac <| zaz <| zbx (fun n_ E => ∃ (k : Nat) (v : World'), ((k ≤ 200) ∧ (WOk v) ∧ (v.ticks ≤ 800000 + k) ∧ ((zco 200 w).1 = (zco (200 - k) v).1 ∧ (zco 200 w).2 = (zco (200 - k) v).2 + k)) ∧ n_ = 200 - k ∧ E = ⟨[(2, .ptr 2 0), (4, .ptr 4 0), (5, .lit (.int .i64 k))], [(2, .box [.lit (.slice none 0 0), .lit (.int .i64 0)]), (4, .box (zdw v))], 21⟩) (n0 := _) (E0 := _) (⟨0, w, by exact ⟨by omega, hw, by omega, rfl, by simp⟩, rfl, rfl⟩) (ren [(2, 101), (4, 102)]) (zaw [(2, 101), (4, 102)] rfl rfl ⟨⟨_, rfl, (.ptr _ _ _ rfl (zag rfl))⟩, ⟨_, rfl, (.ptr _ _ _ rfl (zag rfl))⟩, ⟨_, rfl, (subI (by rfl))⟩, tv⟩ ⟨⟨_, _, rfl, rfl, (zbw rfl)⟩, ⟨_, _, rfl, rfl, (zbw rfl)⟩, tv⟩ (zax hpar rfl)) (fun n_ E hR => ?_)
 obtain ⟨k, v, hI, rfl, rfl⟩ := hR
 obtain ⟨hk, hv, htv, hse⟩ := hI
 refine zac <| zac <| zaa <| zae rfl rfl tv <| zcm rfl rfl rfl tv (fun h9 => ?_) (fun h9 => ?_)
 ·refine zae rfl rfl tv <| zan rfl rfl rfl rfl rfl rfl (gk rfl) <| s_call [] rfl (c47 v hv.len.2) (.cons ((subP rfl)) .nil) (fun k o h => by simp [Go.Vc.look] at h) rfl (gk rfl) (fun h12 => ?_) (fun h12 => ?_)
  ·refine u_not rfl rfl (gk rfl) <| zbk rfl rfl rfl tv <| zaf tv <| zau rfl <| zcc <| iteP rfl <| zac <| zaa <| zan rfl rfl rfl rfl rfl rfl tv <| zae rfl rfl tv <| zah rfl rfl rfl rfl rfl rfl rfl rfl tv <| zad rfl rfl tv <| zaf tv <| zav ?_
   rw [hse.1, hse.2]
   rw [settle_still h12]
   refine fin' [] (.inr rfl) (.cons (.cellN rfl rfl rfl rfl rfl) (.cons (.tmp rfl (nb rfl)) .nil)) (zaw [] rfl rfl ⟨⟨_, rfl, (.tup _ _ (.cons (.agg _ _ (.cons (subS ?_) (.cons (subI ?_) .nil))) (.cons (subI ?_) .nil)))⟩, tv⟩ tv (zax rfl rfl))
   all_goals (try rfl)
   all_goals
     simp
  ·refine u_not rfl rfl (gk rfl) <| zbk rfl rfl rfl tv <| zaf tv <| zas rfl <| zbd <| zaz <| zac <| zaa <| zan rfl rfl rfl rfl rfl rfl tv <| zbo rfl (c99 v hv (by omega)) (.cons ((subP rfl)) .nil) rfl tv <| zah rfl rfl rfl rfl rfl rfl rfl rfl tv <| zaf tv <| zaa <| zae rfl rfl tv <| zcg rfl rfl rfl (by unfold inI; omega) rfl tv <| zad rfl rfl tv <| zaf tv <| ⟨_, _, ren [(2, 2), (4, 4)], ?_, ⟨k + 1, zez v, ?_, rfl, rfl⟩, zaw [(2, 2), (4, 4)] rfl rfl ⟨⟨_, rfl, (.ptr _ _ _ rfl (zag rfl))⟩, ⟨_, rfl, (.ptr _ _ _ rfl (zag rfl))⟩, ⟨_, rfl, (subI (by rfl))⟩, tv⟩ ⟨⟨_, _, rfl, rfl, (zbw rfl)⟩, ⟨_, _, rfl, rfl, (zbw rfl)⟩, tv⟩ (zax hpar rfl)⟩
   ·omega
   ·refine ⟨by omega, wok_round hv, by rw [round_ticks]; omega, ?_⟩
    have e : 200 - k = (200 - (k + 1)) + 1 := by omega
    rw [e, settle_step h12] at hse
    exact ⟨hse.1, by rw [hse.2]; omega⟩
 ·refine zae rfl rfl tv <| zal rfl rfl rfl rfl rfl <| zal rfl rfl rfl rfl rfl <| zal rfl rfl rfl rfl rfl <| zbh rfl rfl rfl tv <| zaf tv <| zau rfl <| zcc <| iteP rfl <| zac <| zaa <| zan rfl rfl rfl rfl rfl rfl tv <| zae rfl rfl tv <| zah rfl rfl rfl rfl rfl rfl rfl rfl tv <| zad rfl rfl tv <| zaf tv <| zav ?_
  rw [hse.1, hse.2]
  obtain rfl : k = 200 := by omega
  rw [show (zco (200 - 200) v) = (v, 0) from rfl]
  refine fin' [] (.inr rfl) (.cons (.cellN rfl rfl rfl rfl rfl) (.cons (.tmp rfl (nb rfl)) .nil)) (zaw [] rfl rfl ⟨⟨_, rfl, (.tup _ _ (.cons (.agg _ _ (.cons (subS ?_) (.cons (subI ?_) .nil))) (.cons (subI ?_) .nil)))⟩, tv⟩ tv (zax rfl rfl))
  all_goals (try rfl)
  all_goals
    simp
theorem c87 (n : Int) (l : List Step) (hm : ∀ s ∈ l, inI s.m) : VFun G 87 [.lit (.int .i64 n), .shr 7 (stepCells l)] [] (.tup [.agg (zdw (fplay n l).1), .shr 1 (zay (fplay n l).2.1), .lit (.int .i64 (fplay n l).2.2)]) [] := by
 refine VFun.intro (fn := Try.f87) rfl rfl (by kernel_rfl) (nb rfl) fun Γ hpar => ?_
 refine zac <| zaa <| zbf 100 rfl rfl (zar hpar rfl) rfl rfl tv <| zad rfl rfl tv <| zad rfl rfl tv <| zaf tv <| zac <| zaa <| zae rfl rfl tv <| zbo rfl (c125 n) (.cons ((.lit _)) .nil) rfl tv <| zae rfl rfl tv <| zbg rfl rfl rfl tv <| zbg rfl rfl rfl tv <| zbf 101 rfl rfl (zar hpar rfl) rfl rfl tv <| zah rfl rfl rfl rfl rfl rfl rfl rfl tv <| zad rfl rfl tv <| zaf tv <| zac <| zac <| zaa <| zae rfl rfl tv <| zfe rfl rfl rfl tv (fun h20 => ?_) (fun h20 => ?_)
 ·refine zaf tv <| zas rfl <| zac <| zaa <| zfk rfl rfl rfl (.see 17 (.same _ .nil)) rfl rfl tv <| zae rfl rfl tv <| zah rfl rfl rfl rfl rfl rfl rfl rfl tv <| zad rfl rfl tv <| zad rfl rfl tv <| zaf tv <| zav ?_
  rw [fplay1 h20]
  refine fin' [] (.inr rfl) (.cons (.cellN rfl rfl rfl rfl rfl) (.cons (.tmp rfl (nb rfl)) (.cons (.tmp rfl (nb rfl)) .nil))) (zaw [] rfl rfl ⟨⟨_, rfl, (.tup _ _ (.cons (.agg _ _ (.cons (subS ?_) (.cons (subI ?_) .nil))) (.cons (subNs ?_) (.cons (subI ?_) .nil))))⟩, tv⟩ tv (zax rfl rfl))
  all_goals (try rfl)
 ·refine zaf tv <| zau rfl <| zbd <| zac <| zac ?_
  have hn := newErr_ok (n := n) (by omega)
  refine zaa <| zae rfl rfl tv <| zcs rfl rfl rfl tv <| s_gtr rfl rfl rfl tv (fun h25 => ?_) (fun h25 => ?_)
  ·refine zaf tv <| zas rfl <| zac <| zaa <| zfk rfl rfl rfl (.see 17 (.same _ .nil)) rfl rfl tv <| zah rfl rfl rfl rfl rfl rfl rfl rfl tv <| zad rfl rfl tv <| zad rfl rfl tv <| zaf tv <| zav ?_
   rw [fplay2 (l := l) (show ¬ newErr n ≠ 0 by omega) (by rw [zbv] at h25; omega)]
   refine fin' [] (.inr rfl) (.cons (.cellN rfl rfl rfl rfl rfl) (.cons (.tmp rfl (nb rfl)) (.cons (.tmp rfl (nb rfl)) .nil))) (zaw [] rfl rfl ⟨⟨_, rfl, (.tup _ _ (.cons (.agg _ _ (.cons (subS ?_) (.cons (subI ?_) .nil))) (.cons (subNs ?_) (.cons (subI ?_) .nil))))⟩, tv⟩ tv (zax rfl rfl))
   all_goals (try rfl)
  ·refine zaf tv <| zau rfl <| zbd <| zac ?_
   rw [zbv] at h25
   refine zaa <| zad rfl rfl tv <| zaf tv <| zac <| zac <| zaa <| zae rfl rfl tv <| zcs rfl rfl rfl tv <| zae rfl rfl tv <| zaf tv <| zaz <| zbx (fun n_ E => ∃ (i : Nat), ((i ≤ l.length)) ∧ n_ = l.length - i ∧ E = ⟨[(4, .ptr 4 0), (7, .ptr 7 0), (9, .row 9), (27, .shr 7 (stepCells l)), (28, .lit (.int .i64 (stepCells l).length)), (29, .lit (.int .i64 i))], [(4, .box [.lit (.slice none 0 0), .lit (.int .i64 0)]), (7, .box (zdw (zff (zdo n) (l.take i)).1)), (9, .row 51 1 (zay (zff (zdo n) (l.take i)).2))], 47⟩) (n0 := _) (E0 := _) (⟨0, by omega, rfl, rfl⟩) (ren [(4, 100), (7, 101)]) (zaw [(4, 100), (7, 101)] rfl rfl ⟨⟨_, rfl, (.ptr _ _ _ rfl (zag rfl))⟩, ⟨_, rfl, (.ptr _ _ _ rfl (zag rfl))⟩, ⟨_, rfl, .nilrow _ _ _ _ rfl rfl⟩, ⟨_, rfl, (.shr _ _)⟩, ⟨_, rfl, (.lit _)⟩, ⟨_, rfl, (.lit _)⟩, tv⟩ ⟨⟨_, _, rfl, rfl, (zbw rfl)⟩, ⟨_, _, rfl, rfl, (zbw rfl)⟩, (.inr (.inl ⟨rfl, rfl⟩)), tv⟩ (zax hpar rfl)) (fun n_ E hR => ?_)
   obtain ⟨i, hI, rfl, rfl⟩ := hR
   have hI0 := hI
   refine zac <| zaa <| zcm rfl rfl rfl tv (fun h30 => ?_) (fun h30 => ?_)
   ·refine zaf tv <| zac <| zas rfl <| zbd <| zac <| zaz <| zac ?_
    rw [zbv] at h30
    obtain ⟨s, hs⟩ : ∃ s, l[i]? = some s := ⟨_, List.getElem?_eq_getElem (by omega)⟩
    refine zaa <| zbz rfl rfl rfl rfl rfl rfl (stepCells_get' hs) rfl tv <| zdi rfl rfl rfl rfl rfl tv <| zbf 122 rfl rfl (zar hpar rfl) rfl rfl tv <| zah rfl rfl rfl rfl rfl rfl rfl rfl tv <| zaf tv <| zac ?_
    have hwi : WOk (zff (zdo n) (l.take i)).1 := wok_plays _ (wok_new hn.1 hn.2)
    have hti := (plays_ticks (l.take i) (zdo n)).2
    rw [show (zdo n).ticks = 0 by rw [new_is hn.1 hn.2]] at hti
    have hli := List.length_take_le i l
    have hei := plays_es (l.take i) (zdo n)
    refine zaa <| zan rfl rfl rfl rfl rfl rfl tv <| zan rfl rfl rfl rfl rfl rfl tv <| zbo rfl (c128 (zff (zdo n) (l.take i)).1 s hwi (by omega) (hm s (List.mem_of_getElem? hs))) (.cons ((subP rfl)) (.cons ((subP rfl)) .nil)) rfl tv <| zae rfl rfl tv <| zbg rfl rfl rfl tv <| zbg rfl rfl rfl tv <| zbf 123 rfl rfl (zar hpar rfl) rfl rfl tv <| zah rfl rfl rfl rfl rfl rfl rfl rfl tv <| zad rfl rfl tv <| zaf tv <| zac <| zaa <| zan rfl rfl rfl rfl rfl rfl tv <| zah rfl rfl rfl rfl rfl rfl rfl rfl tv <| zaf tv <| zaa <| zae rfl rfl tv <| zae rfl rfl tv <| zba 124 rfl rfl rfl rfl rfl rfl rfl rfl rfl rfl (zar hpar rfl) rfl rfl tv <| zbt 125 rfl rfl rfl (zct rfl) rfl (zar hpar rfl) rfl rfl rfl rfl rfl (by simp [zby, zay]; omega) rfl tv <| zad rfl rfl tv <| zaf tv <| zaa <| zcg rfl rfl rfl (by unfold inI; omega) rfl tv <| zae rfl rfl tv <| zaf tv <| ⟨_, _, ren [(4, 4), (7, 7), (9, 125)], ?_, ⟨i + 1, ?_, rfl, rfl⟩, zaw [(4, 4), (7, 7), (9, 125)] rfl rfl ⟨⟨_, rfl, (.ptr _ _ _ rfl (zag rfl))⟩, ⟨_, rfl, (.ptr _ _ _ rfl (zag rfl))⟩, ⟨_, rfl, (.row _ _ rfl (zag rfl))⟩, ⟨_, rfl, (.shr _ _)⟩, ⟨_, rfl, (.lit _)⟩, ⟨_, rfl, (.lit _)⟩, tv⟩ ⟨⟨_, _, rfl, rfl, (zbw rfl)⟩, ⟨_, _, rfl, rfl, (.cons (subS (by rw [plays_take hs])) (.cons (subI (by rw [plays_take hs])) .nil))⟩, (.inl ⟨_, rfl, zbr rfl (by rw [plays_take hs]; simp [zay, zby, cellsOf])⟩), tv⟩ (zax hpar rfl)⟩
    ·omega
    ·omega
   ·refine zaf tv <| zac <| zau rfl <| zcc <| iteP rfl <| zac ?_
    rw [zbv] at h30
    have htk : l.take i = l.take 160 := by rw [List.take_of_length_le (show l.length ≤ i by omega), List.take_of_length_le (show l.length ≤ 160 by omega)]
    refine zaa <| zan rfl rfl rfl rfl rfl rfl tv <| zae rfl rfl tv <| zah rfl rfl rfl rfl rfl rfl rfl rfl tv <| zad rfl rfl tv <| zad rfl rfl tv <| zaf tv <| zav ?_
    rw [fplay3 (l := l) (show ¬ newErr n ≠ 0 by omega) (by omega)]
    unfold play; rw [← htk]
    refine fin' [] (.inr rfl) (.cons (.cellN rfl rfl rfl rfl rfl) (.cons (.tmp rfl (nb rfl)) (.cons (.tmp rfl (nb rfl)) .nil))) (zaw [] rfl rfl ⟨⟨_, rfl, (.tup _ _ (.cons (.agg _ _ (.cons (subS ?_) (.cons (subI ?_) .nil))) (.cons (zbn rfl (fzL rfl) ?_) (.cons (subI ?_) .nil))))⟩, tv⟩ tv (zax rfl rfl))
    all_goals (try rfl)
end Go.Proofs.Ytaadloihphpdbaa
