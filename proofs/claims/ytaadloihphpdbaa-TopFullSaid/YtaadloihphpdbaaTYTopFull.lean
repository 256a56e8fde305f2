/- Walk of a law. Printed by a small program (walk.py). -/
import Derived.Test.YtaadloihphpdbaaTWTop
set_option linter.unusedVariables false
set_option linter.unusedSimpArgs false
set_option maxRecDepth 4000
namespace Go.Proofs.Ytaadloihphpdbaa
open Go Go.Vc Go.RowKit
theorem c17 (more : Int) : VFun G 17 [.lit (.int .i64 more)] [] (.lit (.bool true)) [] := by
 refine VFun.intro (fn := Try.f17) rfl rfl (by kernel_rfl) (nb rfl) fun Γ hpar => ?_
 refine zac <| zaa <| zad rfl rfl tv <| zaf tv <| zac <| zac <| zaa <| zbk rfl (c85) .nil rfl tv <| u_not rfl rfl tv <| zaf tv <| zas rfl <| zba <| zac <| zac <| zaa <| zae rfl rfl tv <| zch rfl rfl rfl tv (fun h14 => ?_) (fun h14 => ?_)
 ·refine zae rfl rfl tv <| zal rfl rfl rfl rfl rfl <| zal rfl rfl rfl rfl rfl <| zbi rfl rfl rfl tv <| zaf tv <| zap rfl <| zac <| zaa <| zad rfl rfl tv <| zaf tv <| zav <| fin0 (.inr rfl) (.cons (.tmp rfl (nb rfl)) .nil) (subB ?_)
  ·first | rfl | (rw [zaq]; exact (beq_iff_eq.2 (congrArg Int.ofNat full_end.2.2)).symm)
 ·refine zae rfl rfl tv <| zae rfl rfl (gk rfl) <| zfc rfl rfl rfl (gk rfl) (fun h17 => ?_) (fun h17 => ?_)
  ·refine zbc rfl rfl rfl tv <| zaf tv <| zap rfl <| zac <| zaa <| zad rfl rfl tv <| zaf tv <| zav <| fin0 (.inr rfl) (.cons (.tmp rfl (nb rfl)) .nil) (subB ?_)
   ·first | rfl | (rw [zaq]; exact (beq_iff_eq.2 (congrArg Int.ofNat full_end.2.2)).symm)
  ·refine zbc rfl rfl rfl tv <| zaf tv <| zas rfl <| zba <| zac <| zaa <| zad rfl rfl tv <| zaf tv <| zac <| zac <| zaa <| zae rfl rfl tv <| zca rfl rfl rfl (by unfold inI; omega) rfl tv <| zae rfl rfl tv <| zaf tv <| zaz <| zbt (fun n_ E => ∃ (i : Nat), (((i : Int) ≤ 6 + more)) ∧ n_ = (6 + more).toNat - i ∧ E = ⟨[(0, .lit (.int .i64 more)), (3, .row 5), (20, .lit (.int .i64 (6 + more))), (21, .lit (.int .i64 i))], [(5, .row 50 7 (stepCells (List.replicate i sFull)))], 73⟩) (n0 := _) (E0 := _) (⟨0, by omega, rfl, rfl⟩) (ren []) (zax [] rfl rfl ⟨⟨_, rfl, (.lit _)⟩, ⟨_, rfl, .nilrow _ _ _ _ rfl rfl⟩, ⟨_, rfl, (.lit _)⟩, ⟨_, rfl, (subI (by rfl))⟩, tv⟩ ⟨(.inr (.inl ⟨rfl, rfl⟩)), tv⟩ (zay hpar rfl)) (fun n_ E hR => ?_)
   obtain ⟨i, hI, rfl, rfl⟩ := hR
   have hi := hI
   refine zac <| zaa <| zch rfl rfl rfl tv (fun h22 => ?_) (fun h22 => ?_)
   ·refine zaf tv <| zac <| zap rfl <| zba <| zac <| zaz <| zaa <| zae rfl rfl tv <| zbk rfl (c86 0 [48, 58, 54, 49] (0, [97]) (by decide +kernel) (by decide)) (.cons ((.lit _)) (.cons ((.lit _)) .nil)) rfl tv <| zbf 120 rfl rfl rfl rfl rfl rfl rfl rfl rfl rfl (zar hpar rfl) rfl rfl tv <| zbv 121 rfl rfl rfl (zcv rfl) rfl (zar hpar rfl) rfl rfl rfl rfl rfl (by simp [zcb, zbo]; omega) rfl tv <| zad rfl rfl tv <| zaf tv <| zaa <| zca rfl rfl rfl (by unfold inI; omega) rfl tv <| zae rfl rfl tv <| zaf tv <| ⟨_, _, ren [(5, 121)], ?_, ⟨i + 1, ?_, rfl, rfl⟩, zax [(5, 121)] rfl rfl ⟨⟨_, rfl, (.lit _)⟩, ⟨_, rfl, (.row _ _ rfl (zag rfl))⟩, ⟨_, rfl, (.lit _)⟩, ⟨_, rfl, (.lit _)⟩, tv⟩ ⟨(.inl ⟨_, rfl, zbx rfl (by rw [rep_snoc, zey]; rfl)⟩), tv⟩ (zay hpar rfl)⟩
    ·omega
    ·omega
   ·refine zaf tv <| zac <| zas rfl <| zbz <| iteP rfl <| zac <| vw_wk (E' := ⟨[(0, .lit (.int .i64 more)), (3, .shr 7 (stepCells (List.replicate i sFull)))], [], 73⟩) (ren []) (zax [] rfl rfl ⟨⟨_, rfl, (.lit _)⟩, ⟨_, rfl, .frz _ _ _ _ rfl (fzL rfl)⟩, tv⟩ tv (zay hpar rfl)) ?_
    obtain ⟨k, rfl⟩ : ∃ k : Nat, more = k := ⟨more.toNat, by omega⟩
    obtain rfl : i = 6 + k := by omega
    have k1 : VFun G 87 [.lit (.int .i64 1), .shr 7 (stepCells (List.replicate (6 + k) sFull))] [] (.tup [.agg (zcz wFull), .shr 1 (zaw (eFull k)), .lit (.int .i64 0)]) [] := by
      have e := c87c (n := 1) (l := List.replicate (6 + k) sFull) rep_in (by decide) (by rw [List.length_replicate]; omega)
      rw [full_play k (by omega)] at e
      exact e
    have hlen := eFull_len k
    refine zaa <| zae rfl rfl tv <| zbk rfl (k1) (.cons ((.lit _)) (.cons ((.shr _ _)) .nil)) rfl tv <| zae rfl rfl tv <| zbd rfl rfl rfl tv <| zbd rfl rfl rfl tv <| zbd rfl rfl rfl tv <| zbg 120 rfl rfl (zar hpar rfl) rfl rfl tv <| zai rfl rfl rfl rfl rfl rfl rfl rfl tv <| zad rfl rfl tv <| zad rfl rfl tv <| zaf tv <| zac <| zac <| zaa <| zae rfl rfl tv <| zeh rfl rfl rfl tv (fun h35 => ?_) (fun h35 => ?_)
    ·exact absurd rfl h35
    ·refine zae rfl rfl tv <| zae rfl rfl (gk rfl) <| zcm rfl rfl rfl (gk rfl) <| zae rfl rfl (gk rfl) <| zcm rfl rfl rfl (gk rfl) <| zeh rfl rfl rfl (gk rfl) (fun h41 => ?_) (fun h41 => ?_)
     ·exfalso; apply h41; rw [zam, zbo, List.length_replicate, hlen]
     ·refine zbc rfl rfl rfl tv <| zaf tv <| zas rfl <| zba <| zac <| zac <| zaa <| zae rfl rfl tv <| zcm rfl rfl rfl tv <| zae rfl rfl tv <| zaf tv <| zaz <| zbt (fun n_ E => ∃ (j : Nat), ((j ≤ (eFull k).length)) ∧ n_ = (eFull k).length - j ∧ E = ⟨[(4, .ptr 4 0), (43, .shr 1 (zaw (eFull k))), (44, .lit (.int .i64 (zaw (eFull k)).length)), (45, .lit (.int .i64 j))], [(4, .box (zcz wFull))], 73⟩) (n0 := _) (E0 := _) (⟨0, by omega, rfl, rfl⟩) (ren [(4, 120)]) (zax [(4, 120)] rfl rfl ⟨⟨_, rfl, (.ptr _ _ _ rfl (zag rfl))⟩, ⟨_, rfl, (.shr _ _)⟩, ⟨_, rfl, (.lit _)⟩, ⟨_, rfl, (subI (by rfl))⟩, tv⟩ ⟨⟨_, _, rfl, rfl, (zbs rfl)⟩, tv⟩ (zay hpar rfl)) (fun n_ E hR => ?_)
      obtain ⟨j, hI, rfl, rfl⟩ := hR
      have hj := hI
      refine zac <| zaa <| zch rfl rfl rfl tv (fun h46 => ?_) (fun h46 => ?_)
      ·refine zaf tv <| zac <| zap rfl <| zba <| zac <| zaz <| zac ?_
       rw [zam] at h46
       obtain ⟨e, hge⟩ : ∃ e, (eFull k)[j]? = some e := ⟨_, List.getElem?_eq_getElem (by omega)⟩
       refine zaa <| zae rfl rfl tv <| zbu rfl rfl rfl rfl rfl rfl (zdl hge) rfl tv <| zck rfl rfl rfl rfl rfl tv <| zad rfl rfl tv <| zad rfl rfl tv <| zaf tv <| zac <| zaa <| zae rfl rfl tv <| u_eql rfl rfl rfl tv <| zae rfl rfl tv <| u_lss rfl rfl rfl tv <| s_neqB rfl rfl rfl rfl tv (fun h54 => ?_) (fun h54 => ?_)
       ·exact absurd (eFull_b hge) h54
       ·refine zaf tv <| zas rfl <| zba <| zaa <| zca rfl rfl rfl (by unfold inI; omega) rfl tv <| zae rfl rfl tv <| zaf tv <| ⟨_, _, ren [(4, 4)], ?_, ⟨j + 1, ?_, rfl, rfl⟩, zax [(4, 4)] rfl rfl ⟨⟨_, rfl, (.ptr _ _ _ rfl (zag rfl))⟩, ⟨_, rfl, (.shr _ _)⟩, ⟨_, rfl, (.lit _)⟩, ⟨_, rfl, (.lit _)⟩, tv⟩ ⟨⟨_, _, rfl, rfl, (zbs rfl)⟩, tv⟩ (zay hpar rfl)⟩
        ·omega
        ·omega
      ·refine zaf tv <| zac <| zas rfl <| zbz <| iteP rfl <| zac ?_
       rw [zam] at h46
       refine zaa <| zan rfl rfl rfl rfl rfl rfl tv <| zbk rfl (c88 wFull (wok_play (n := 1) (by decide) (by decide) _) (by decide +kernel)) (.cons ((subP rfl)) .nil) rfl tv <| zae rfl rfl tv <| zbd rfl rfl rfl tv <| zbd rfl rfl rfl tv <| zbg 141 rfl rfl (zar hpar rfl) rfl rfl tv <| zai rfl rfl rfl rfl rfl rfl rfl rfl tv <| zad rfl rfl tv <| zaf tv <| zac <| zaa <| zan rfl rfl rfl rfl rfl rfl tv <| s_call [] rfl (c47 wFullE (by decide +kernel)) (.cons ((subP rfl)) .nil) (fun k o h => by simp [Go.Vc.look] at h) rfl tv (fun h62 => ?_) (fun h62 => ?_)
       ·refine zae rfl rfl tv <| zab rfl rfl rfl rfl rfl rfl (gk rfl) <| zak rfl rfl rfl rfl rfl rfl (gk rfl) <| zbu rfl rfl rfl rfl rfl (i := 0) rfl (zcg (x := wFullE.lanes.getD 0 zdq) (by decide +kernel)) rfl (gk rfl) <| zfa rfl rfl rfl rfl rfl rfl (gk rfl) <| zfa rfl rfl rfl rfl rfl rfl (gk rfl) <| zck rfl rfl rfl rfl rfl (gk rfl) <| zcm rfl rfl rfl (gk rfl) <| u_eql rfl rfl rfl (gk rfl) <| zbi rfl rfl rfl tv <| zad rfl rfl tv <| zaf tv <| zav <| fin0 (.inr rfl) (.cons (.tmp rfl (nb rfl)) .nil) (subB ?_)
        ·first | rfl | (rw [zaq]; exact (beq_iff_eq.2 (congrArg Int.ofNat full_end.2.2)).symm)
       ·exact absurd full_end.1 (by rw [h62]; decide)
end Go.Proofs.Ytaadloihphpdbaa
