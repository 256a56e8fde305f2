/- Walks. Printed by a small program (walk.py). -/
import Derived.Test.YtaadloihphpdbaaZWFairH
set_option linter.unusedVariables false
set_option linter.unusedSimpArgs false
set_option maxRecDepth 4000
namespace Go.Proofs.Ytaadloihphpdbaa
open Go Go.Vc Go.RowKit
theorem c132 (w : World') (hw : WOk w) (ht : w.ticks ≤ 900000) : VFun G 132 [.agg (zcu w)] [] (.agg (zcu (zey w))) [] := by
 have hl3 := hw.len
 refine VFun.intro (fn := Try.f132) rfl rfl (by kernel_rfl) (nb rfl) fun Γ hpar => ?_
 refine zad <| zaa <| zdh 100 rfl rfl rfl (zar hpar rfl) rfl rfl tv <| zbd 101 rfl rfl (zar hpar rfl) rfl rfl tv <| zaf tv <| zad <| zad <| zaa <| zab rfl rfl rfl rfl rfl rfl tv <| zah rfl rfl rfl rfl rfl rfl tv <| zby rfl rfl rfl tv <| zac rfl rfl tv <| zaf tv <| zbb <| zbt (fun n_ E => ∃ (i : Nat), ((i ≤ w.lanes.length)) ∧ n_ = w.lanes.length - i ∧ E = ⟨[(1, .ptr 1 0), (2, .ptr 2 0), (6, .lit (.int .i64 (zcc w.lanes).length)), (7, .lit (.int .i64 i))], [(1, .box (zcu (partW w i))), (2, .box [.lit (.slice none 0 0), .lit (.int .i64 0)])], 48⟩) (n0 := _) (E0 := _) (⟨0, by omega, rfl, rfl⟩) (ren [(1, 100), (2, 101)]) (zay [(1, 100), (2, 101)] rfl rfl ⟨⟨_, rfl, (.ptr _ _ _ rfl (zak rfl))⟩, ⟨_, rfl, (.ptr _ _ _ rfl (zak rfl))⟩, ⟨_, rfl, (.lit _)⟩, ⟨_, rfl, (.lit _)⟩, tv⟩ ⟨⟨_, _, rfl, rfl, (.cons (subS (by rw [part_0])) (.cons (subI (by rw [part_0])) .nil))⟩, ⟨_, _, rfl, rfl, (zbk rfl)⟩, tv⟩ (zaz hpar rfl)) (fun n_ E hR => ?_)
 obtain ⟨i, hI, rfl, rfl⟩ := hR
 have hI0 := hI
 refine zad <| zaa <| zcg rfl rfl rfl tv (fun h8 => ?_) (fun h8 => ?_)
 ·refine zaf tv <| zad <| zao rfl <| zax <| zad <| zbb <| zad ?_
  rw [zbg] at h8
  obtain ⟨x0, hx0⟩ : ∃ x, w.lanes[i]? = some x := ⟨_, List.getElem?_eq_getElem (by omega)⟩
  have hil : i < w.lanes.length := by omega
  have hb0 : BInv x0 := hw.b x0 (List.mem_of_getElem? hx0)
  refine zaa <| zac rfl rfl tv <| zae rfl rfl tv <| zaf tv <| zad <| zbb <| zbt (fun n_ E => ∃ (x : Lane), ((BInv x) ∧ (zed false x = zed false x0)) ∧ n_ = (way x false).length ∧ E = ⟨[(1, .ptr 1 0), (2, .ptr 2 0), (3, .lit (.int .i64 i)), (6, .lit (.int .i64 (zcc w.lanes).length)), (7, .lit (.int .i64 i))], [(1, .box (zcu (midW w i x))), (2, .box [.lit (.slice none 0 0), .lit (.int .i64 0)])], 48⟩) (n0 := _) (E0 := _) (⟨x0, by exact ⟨hb0, rfl⟩, rfl, rfl⟩) (ren [(1, 1), (2, 2)]) (zay [(1, 1), (2, 2)] rfl rfl ⟨⟨_, rfl, (.ptr _ _ _ rfl (zak rfl))⟩, ⟨_, rfl, (.ptr _ _ _ rfl (zak rfl))⟩, ⟨_, rfl, (.lit _)⟩, ⟨_, rfl, (.lit _)⟩, ⟨_, rfl, (.lit _)⟩, tv⟩ ⟨⟨_, _, rfl, rfl, (.cons (subS (by rw [part_mid hx0])) (.cons (subI (by rw [part_mid hx0])) .nil))⟩, ⟨_, _, rfl, rfl, (zbk rfl)⟩, tv⟩ (zaz hpar rfl)) (fun n_ E hR => ?_)
  obtain ⟨x, hI, rfl, rfl⟩ := hR
  obtain ⟨hb, hd⟩ := hI
  refine zad <| zad ?_
  have hmx := mid_get hil x
  refine zaa <| zab rfl rfl rfl rfl rfl rfl tv <| zah rfl rfl rfl rfl rfl rfl tv <| zac rfl rfl tv <| zbh rfl rfl rfl rfl rfl rfl (zbr hmx) rfl tv <| zce rfl rfl rfl rfl rfl rfl tv <| zbv rfl rfl rfl rfl rfl tv <| zby rfl rfl rfl tv <| zdr rfl rfl rfl tv (fun h17 => ?_) (fun h17 => ?_)
  ·refine zaf tv <| zao rfl <| zax <| zbb ?_
   have h17 : 0 < (way x false).length := by show 0 < x.there.length; rw [zan] at h17; omega
   refine zaa <| zam rfl rfl rfl rfl rfl rfl tv <| zac rfl rfl tv <| zcz rfl rfl rfl (.same _ (.same _ (.same _ (.same _ (.same _ (.same _ (.see 1 .nil))))))) rfl rfl tv <| zbi rfl (c129 (midW w i x) (cmS i false) (mid_ok hw hil hb) (by show w.ticks ≤ _; omega) (cm_in _ _)) (.cons ((subP rfl)) (.cons ((subP rfl)) .nil)) rfl tv <| zac rfl rfl tv <| zas rfl rfl rfl tv <| zas rfl rfl rfl tv <| zaj rfl rfl rfl rfl rfl rfl rfl rfl tv <| zaf tv <| ⟨_, _, ren [(1, 1), (2, 2)], ?_, ⟨comes x 0 false, ?_, rfl, rfl⟩, zay [(1, 1), (2, 2)] rfl rfl ⟨⟨_, rfl, (.ptr _ _ _ rfl (zak rfl))⟩, ⟨_, rfl, (.ptr _ _ _ rfl (zak rfl))⟩, ⟨_, rfl, (.lit _)⟩, ⟨_, rfl, (.lit _)⟩, ⟨_, rfl, (.lit _)⟩, tv⟩ ⟨⟨_, _, rfl, rfl, (.cons (subS (by rw [do_come hil h17])) (.cons (subI (by rw [do_come hil h17])) .nil))⟩, ⟨_, _, rfl, rfl, (zbk rfl)⟩, tv⟩ (zaz hpar rfl)⟩
   ·exact come_less h17
   ·exact ⟨binv_comes hb 0 false, by rw [← drain_come h17]; exact hd⟩
  ·refine zaf tv <| zap rfl <| zbw <| iteP rfl <| zbb <| zbt (fun n_ E => ∃ (x : Lane), ((BInv x) ∧ (zed true x = zbj x0)) ∧ n_ = (way x true).length ∧ E = ⟨[(1, .ptr 1 0), (2, .ptr 2 0), (3, .lit (.int .i64 i)), (6, .lit (.int .i64 (zcc w.lanes).length)), (7, .lit (.int .i64 i))], [(1, .box (zcu (midW w i x))), (2, .box [.lit (.slice none 0 0), .lit (.int .i64 0)])], 48⟩) (n0 := _) (E0 := _) (⟨x, by exact ⟨hb, by rw [drain_end (show ¬ 0 < (way x false).length by show ¬ 0 < x.there.length; rw [zan] at h17; omega)] at hd; rw [hd]; rfl⟩, rfl, rfl⟩) (ren [(1, 1), (2, 2)]) (zay [(1, 1), (2, 2)] rfl rfl ⟨⟨_, rfl, (.ptr _ _ _ rfl (zak rfl))⟩, ⟨_, rfl, (.ptr _ _ _ rfl (zak rfl))⟩, ⟨_, rfl, (.lit _)⟩, ⟨_, rfl, (.lit _)⟩, ⟨_, rfl, (.lit _)⟩, tv⟩ ⟨⟨_, _, rfl, rfl, (zbk rfl)⟩, ⟨_, _, rfl, rfl, (zbk rfl)⟩, tv⟩ (zaz hpar rfl)) (fun n_ E hR => ?_)
   obtain ⟨x, hI, rfl, rfl⟩ := hR
   obtain ⟨hb, hd⟩ := hI
   refine zad <| zad ?_
   have hmx := mid_get hil x
   refine zaa <| zab rfl rfl rfl rfl rfl rfl tv <| zah rfl rfl rfl rfl rfl rfl tv <| zac rfl rfl tv <| zbh rfl rfl rfl rfl rfl rfl (zbr hmx) rfl tv <| zce rfl rfl rfl rfl rfl rfl tv <| zbv rfl rfl rfl rfl rfl tv <| zby rfl rfl rfl tv <| zdr rfl rfl rfl tv (fun h32 => ?_) (fun h32 => ?_)
   ·refine zaf tv <| zao rfl <| zax <| zbb ?_
    have h32 : 0 < (way x true).length := by show 0 < x.back.length; rw [zan] at h32; omega
    refine zaa <| zam rfl rfl rfl rfl rfl rfl tv <| zac rfl rfl tv <| zcz rfl rfl rfl (.same _ (.same _ (.same _ (.same _ (.same _ (.same _ (.see 1 .nil))))))) rfl rfl tv <| zbi rfl (c129 (midW w i x) (cmS i true) (mid_ok hw hil hb) (by show w.ticks ≤ _; omega) (cm_in _ _)) (.cons ((subP rfl)) (.cons ((subP rfl)) .nil)) rfl tv <| zac rfl rfl tv <| zas rfl rfl rfl tv <| zas rfl rfl rfl tv <| zaj rfl rfl rfl rfl rfl rfl rfl rfl tv <| zaf tv <| ⟨_, _, ren [(1, 1), (2, 2)], ?_, ⟨comes x 0 true, ?_, rfl, rfl⟩, zay [(1, 1), (2, 2)] rfl rfl ⟨⟨_, rfl, (.ptr _ _ _ rfl (zak rfl))⟩, ⟨_, rfl, (.ptr _ _ _ rfl (zak rfl))⟩, ⟨_, rfl, (.lit _)⟩, ⟨_, rfl, (.lit _)⟩, ⟨_, rfl, (.lit _)⟩, tv⟩ ⟨⟨_, _, rfl, rfl, (.cons (subS (by rw [do_come hil h32])) (.cons (subI (by rw [do_come hil h32])) .nil))⟩, ⟨_, _, rfl, rfl, (zbk rfl)⟩, tv⟩ (zaz hpar rfl)⟩
    ·exact come_less h32
    ·exact ⟨binv_comes hb 0 true, by rw [← drain_come h32]; exact hd⟩
   ·refine zaf tv <| zap rfl <| zbw <| iteP rfl ?_
    have hsx : x = zbj x0 := by rw [drain_end (show ¬ 0 < (way x true).length by show ¬ 0 < x.back.length; rw [zan] at h32; omega)] at hd; exact hd
    refine zaa <| zbz rfl rfl rfl (by unfold inI; omega) rfl tv <| zac rfl rfl tv <| zaf tv <| ⟨_, _, ren [(1, 1), (2, 2)], ?_, ⟨i + 1, ?_, rfl, rfl⟩, zay [(1, 1), (2, 2)] rfl rfl ⟨⟨_, rfl, (.ptr _ _ _ rfl (zak rfl))⟩, ⟨_, rfl, (.ptr _ _ _ rfl (zak rfl))⟩, ⟨_, rfl, (.lit _)⟩, ⟨_, rfl, (.lit _)⟩, tv⟩ ⟨⟨_, _, rfl, rfl, (.cons (subS (by rw [← mid_part hx0, ← hsx])) (.cons (subI (by rw [← mid_part hx0, ← hsx])) .nil))⟩, ⟨_, _, rfl, rfl, (zbk rfl)⟩, tv⟩ (zaz hpar rfl)⟩
    ·omega
    ·omega
 ·refine zaf tv <| zad <| zap rfl <| zbw <| iteP rfl <| zad ?_
  rw [zbg] at h8
  rw [part_end (show w.lanes.length ≤ i by omega)]
  have hpe := part_ok hw i
  rw [part_end (show w.lanes.length ≤ i by omega)] at hpe
  refine zaa <| zam rfl rfl rfl rfl rfl rfl tv <| zcz rfl rfl rfl (.same _ (.same _ (.same _ (.same _ (.same _ (.same _ (.see 1 .nil))))))) rfl rfl tv <| zbi rfl (c129 ⟨w.lanes.map zbj, w.ticks⟩ tkS hpe (by show w.ticks ≤ _; omega) (by unfold inI; decide)) (.cons ((subP rfl)) (.cons ((subP rfl)) .nil)) rfl tv <| zac rfl rfl tv <| zas rfl rfl rfl tv <| zas rfl rfl rfl tv <| zaj rfl rfl rfl rfl rfl rfl rfl rfl tv <| zaf tv <| zad <| zaa <| zam rfl rfl rfl rfl rfl rfl tv <| zaj rfl rfl rfl rfl rfl rfl rfl rfl tv <| zaf tv <| zaw ?_
  rw [← do_tick hw]
  refine fin' [] (.inr rfl) (.cons (.cellN rfl rfl rfl rfl rfl) .nil) (zay [] rfl rfl ⟨⟨_, rfl, (.agg _ _ (.cons (subS ?_) (.cons (subI ?_) .nil)))⟩, tv⟩ tv (zaz rfl rfl))
  all_goals (try rfl)
end Go.Proofs.Ytaadloihphpdbaa
