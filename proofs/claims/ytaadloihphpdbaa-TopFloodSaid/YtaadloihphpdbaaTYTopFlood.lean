/- Walk of a law. Printed by a small program (walk.py). -/
import Derived.Test.YtaadloihphpdbaaTWTop
set_option linter.unusedVariables false
set_option linter.unusedSimpArgs false
set_option maxRecDepth 4000
namespace Go.Proofs.Ytaadloihphpdbaa
open Go Go.Vc Go.RowKit
theorem c42 (k : Int) (l : List Step) (hm : ∀ s ∈ l, inI s.m) : VFun G 42 [.lit (.int .i64 k), .shr 7 (stepCells l)] [] (.lit (.bool true)) [] := by
 refine VFun.intro (fn := Try.f42) rfl rfl (by kernel_rfl) (nb rfl) fun Γ hpar => ?_
 refine zac <| vw_len (t := 1) rfl fun hl => ?_
 rw [zbo] at hl
 refine zaa <| zad rfl rfl tv <| zaf tv <| zac <| zac <| zaa <| zbk rfl (c85) .nil rfl tv <| u_not rfl rfl tv <| zaf tv <| zas rfl <| zba <| zac <| zac <| zaa <| zae rfl rfl tv <| zch rfl rfl rfl tv (fun h21 => ?_) (fun h21 => ?_)
 ·refine zae rfl rfl tv <| zal rfl rfl rfl rfl rfl <| zal rfl rfl rfl rfl rfl <| zbi rfl rfl rfl tv <| zae rfl rfl tv <| zal rfl rfl rfl rfl rfl <| zal rfl rfl rfl rfl rfl <| zal rfl rfl rfl rfl rfl <| zbi rfl rfl rfl tv <| zaf tv <| zap rfl <| zac <| zaa <| zad rfl rfl tv <| zaf tv <| zav <| fin0 (.inr rfl) (.cons (.tmp rfl (nb rfl)) .nil) (subB ?_)
  ·rfl
 ·refine zae rfl rfl tv <| zae rfl rfl (gk rfl) <| zfc rfl rfl rfl (gk rfl) (fun h24 => ?_) (fun h24 => ?_)
  ·refine zbc rfl rfl rfl tv <| zae rfl rfl tv <| zal rfl rfl rfl rfl rfl <| zal rfl rfl rfl rfl rfl <| zal rfl rfl rfl rfl rfl <| zbi rfl rfl rfl tv <| zaf tv <| zap rfl <| zac <| zaa <| zad rfl rfl tv <| zaf tv <| zav <| fin0 (.inr rfl) (.cons (.tmp rfl (nb rfl)) .nil) (subB ?_)
   ·rfl
  ·refine zbc rfl rfl rfl tv <| zae rfl rfl tv <| zae rfl rfl (gk rfl) <| s_call [] rfl (c134 l hl) (.cons ((.shr _ _)) .nil) (fun k o h => by simp [Go.Vc.look] at h) rfl (gk rfl) (fun h28 => ?_) (fun h28 => ?_)
   ·refine u_not rfl rfl (gk rfl) <| zbc rfl rfl rfl tv <| zaf tv <| zas rfl <| zba <| zac ?_
    have hl100 := calm_len h28
    refine zaa <| zbk rfl (c86 0 [48, 58, 54, 49] (0, [97]) (by decide +kernel) (by decide)) (.cons ((.lit _)) (.cons ((.lit _)) .nil)) rfl tv <| zbk rfl (c86 0 [49, 58, 54, 50] (1, [98]) (by decide +kernel) (by decide)) (.cons ((.lit _)) (.cons ((.lit _)) .nil)) rfl tv <| zbk rfl (c86 0 [48, 58, 54, 51] (0, [99]) (by decide +kernel) (by decide)) (.cons ((.lit _)) (.cons ((.lit _)) .nil)) rfl tv <| zbf 100 rfl rfl rfl rfl rfl rfl rfl rfl rfl rfl (zar hpar rfl) rfl rfl tv <| zad rfl rfl tv <| zaf tv <| zac <| zaa <| zbf 101 rfl rfl rfl rfl rfl rfl rfl rfl rfl rfl (zar hpar rfl) rfl rfl tv <| zae rfl rfl tv <| zbv 102 rfl rfl rfl (zcv rfl) rfl (zar hpar rfl) rfl rfl rfl rfl rfl (by simp [zcb]) rfl tv <| zad rfl rfl tv <| zaf tv <| zac <| zac <| zaa <| zae rfl rfl tv <| zae rfl rfl tv <| zaf tv <| zaz <| zbt (fun n_ E => ∃ (i : Nat), (((i : Int) ≤ k)) ∧ n_ = k.toNat - i ∧ E = ⟨[(1, .shr 7 (stepCells l)), (5, .row 5), (6, .row 6), (38, .lit (.int .i64 k)), (39, .lit (.int .i64 i))], [(5, .row 50 7 (stepCells ownL)), (6, .row 50 7 (stepCells (ownL ++ List.replicate i sFlood)))], 132⟩) (n0 := _) (E0 := _) (⟨0, by omega, rfl, rfl⟩) (ren [(5, 100), (6, 102)]) (zax [(5, 100), (6, 102)] rfl rfl ⟨⟨_, rfl, (.shr _ _)⟩, ⟨_, rfl, (.row _ _ rfl (zag rfl))⟩, ⟨_, rfl, (.row _ _ rfl (zag rfl))⟩, ⟨_, rfl, (.lit _)⟩, ⟨_, rfl, (subI (by rfl))⟩, tv⟩ ⟨(.inl ⟨_, rfl, zbx rfl (by rfl)⟩), (.inl ⟨_, rfl, zbx rfl (by rfl)⟩), tv⟩ (zay hpar rfl)) (fun n_ E hR => ?_)
    obtain ⟨i, hI, rfl, rfl⟩ := hR
    have hi := hI
    refine zac <| zaa <| zch rfl rfl rfl tv (fun h40 => ?_) (fun h40 => ?_)
    ·refine zaf tv <| zac <| zap rfl <| zba <| zac <| zaz <| zaa <| zae rfl rfl tv <| zbk rfl (c86 1 [50, 58, 102, 102, 102, 102, 102, 102, 102, 102, 102, 102, 102, 102] (2, [255, 255, 255, 255, 255, 255]) (by decide +kernel) (by decide)) (.cons ((.lit _)) (.cons ((.lit _)) .nil)) rfl tv <| zbf 123 rfl rfl rfl rfl rfl rfl rfl rfl rfl rfl (zar hpar rfl) rfl rfl tv <| zbv 124 rfl rfl rfl (zcv rfl) rfl (zar hpar rfl) rfl rfl rfl rfl rfl (by simp [zcb, zbo, ownL]; omega) rfl tv <| zad rfl rfl tv <| zaf tv <| zaa <| zca rfl rfl rfl (by unfold inI; omega) rfl tv <| zae rfl rfl tv <| zaf tv <| ⟨_, _, ren [(5, 5), (6, 124)], ?_, ⟨i + 1, ?_, rfl, rfl⟩, zax [(5, 5), (6, 124)] rfl rfl ⟨⟨_, rfl, (.shr _ _)⟩, ⟨_, rfl, (.row _ _ rfl (zag rfl))⟩, ⟨_, rfl, (.row _ _ rfl (zag rfl))⟩, ⟨_, rfl, (.lit _)⟩, ⟨_, rfl, (.lit _)⟩, tv⟩ ⟨(.inl ⟨_, rfl, rfl⟩), (.inl ⟨_, rfl, zbx rfl (by rw [rep_snoc, ← List.append_assoc, zey]; rfl)⟩), tv⟩ (zay hpar rfl)⟩
     ·omega
     ·omega
    ·refine zaf tv <| zac <| zas rfl <| zbz <| iteP rfl <| zac <| zaa <| zae rfl rfl tv <| zbk rfl (c72 l 0 (by omega)) (.cons ((.shr _ _)) (.cons ((.lit _)) .nil)) rfl tv <| zad rfl rfl tv <| zaf tv <| zac ?_
     have hol := onlyOf_len 0 l
     have hown : ownL.length = 3 := rfl
     have hrep : (List.replicate i sFlood).length = i := List.length_replicate
     obtain ⟨W1, hW1⟩ : ∃ W1, W1 = (play 2 (ownL ++ List.replicate i sFlood ++ l)).1 := ⟨_, rfl⟩
     obtain ⟨W2, hW2⟩ : ∃ W2, W2 = (play 2 (ownL ++ zdp 0 l)).1 := ⟨_, rfl⟩
     have hl1 : (ownL ++ List.replicate i sFlood ++ l).length ≤ 160 := by rw [List.length_append, List.length_append]; omega
     have hl2 : (ownL ++ zdp 0 l).length ≤ 160 := by rw [List.length_append]; omega
     have k1 : VFun G 87 [.lit (.int .i64 2), .shr 7 (stepCells (ownL ++ List.replicate i sFlood) ++ stepCells l)] [] (.tup [.agg (zcz W1), .shr 1 (zaw (play 2 (ownL ++ List.replicate i sFlood ++ l)).2), .lit (.int .i64 0)]) [] := by
       have e := c87c (n := 2) (l := ownL ++ List.replicate i sFlood ++ l) (mem_3 own_in rep_in hm) (by decide) hl1
       rw [zfm, ← hW1] at e
       exact e
     have k2 : VFun G 87 [.lit (.int .i64 2), .shr 7 (stepCells ownL ++ stepCells (zdp 0 l))] [] (.tup [.agg (zcz W2), .shr 1 (zaw (play 2 (ownL ++ zdp 0 l)).2), .lit (.int .i64 0)]) [] := by
       have e := c87c (n := 2) (l := ownL ++ zdp 0 l) (mem_2 own_in (only_mem hm)) (by decide) hl2
       rw [zfm, ← hW2] at e
       exact e
     have w1 : WOk W1 ∧ W1.ticks ≤ 160 ∧ W1.lanes.length = 2 := by rw [hW1]; exact ⟨wok_play (n := 2) (by decide) (by decide) _, (play_ticks (n := 2) (by decide) (by decide) _).2, play_len (n := 2) (by decide) (by decide) _⟩
     have w2 : WOk W2 ∧ W2.ticks ≤ 160 ∧ W2.lanes.length = 2 := by rw [hW2]; exact ⟨wok_play (n := 2) (by decide) (by decide) _, (play_ticks (n := 2) (by decide) (by decide) _).2, play_len (n := 2) (by decide) (by decide) _⟩
     refine zaa <| zae rfl rfl tv <| zae rfl rfl tv <| zbv 123 rfl rfl rfl (.shr _ _) rfl (zar hpar rfl) rfl rfl rfl rfl rfl (by simp [zbo]; omega) rfl tv <| zbq [] [123] [123] rfl rfl (k1) (zbe (k0 := 123) rfl zbr) tv (.cons ((.lit _)) (.cons (.frz _ _ _ _ rfl (by decide)) .nil)) rfl rfl (zby hpar rfl) rfl tv <| zae rfl rfl tv <| zbd rfl rfl rfl tv <| zbd rfl rfl rfl tv <| zbd rfl rfl rfl tv <| zbg 124 rfl rfl (zar hpar rfl) rfl rfl tv <| zai rfl rfl rfl rfl rfl rfl rfl rfl tv <| zad rfl rfl tv <| zad rfl rfl tv <| zaf tv <| zac <| zaa <| zae rfl rfl tv <| zae rfl rfl tv <| zbv 125 rfl rfl rfl (.shr _ _) rfl (zar hpar rfl) rfl rfl rfl rfl rfl (by simp [zbo]; omega) rfl tv <| zbq [] [125] [125] rfl rfl (k2) (zbe (k0 := 125) rfl zbr) tv (.cons ((.lit _)) (.cons (.frz _ _ _ _ rfl (by decide)) .nil)) rfl rfl (zby hpar rfl) rfl tv <| zae rfl rfl tv <| zbd rfl rfl rfl tv <| zbd rfl rfl rfl tv <| zbd rfl rfl rfl tv <| zbg 126 rfl rfl (zar hpar rfl) rfl rfl tv <| zai rfl rfl rfl rfl rfl rfl rfl rfl tv <| zad rfl rfl tv <| zad rfl rfl tv <| zaf tv <| zac ?_
     refine zac <| zaa <| zae rfl rfl tv <| zeh rfl rfl rfl tv (fun h65 => ?_) (fun h65 => ?_)
     ·exact absurd rfl h65
     ·refine zae rfl rfl tv <| zae rfl rfl (gk rfl) <| zeh rfl rfl rfl (gk rfl) (fun h68 => ?_) (fun h68 => ?_)
      ·exact absurd rfl h68
      ·refine zbc rfl rfl rfl tv <| zaf tv <| zas rfl <| zba <| zac <| zac <| zaa <| zae rfl rfl tv <| zaf tv <| zaz <| zbt (fun n_ E => ∃ (r : Nat), ((r ≤ 30)) ∧ n_ = 30 - r ∧ E = ⟨[(8, .ptr 8 0), (11, .ptr 11 0), (70, .lit (.int .i64 r))], [(8, .box (zcz (zdf r W1))), (11, .box (zcz (zdf r W2)))], 132⟩) (n0 := _) (E0 := _) (⟨0, by omega, rfl, rfl⟩) (ren [(8, 124), (11, 126)]) (zax [(8, 124), (11, 126)] rfl rfl ⟨⟨_, rfl, (.ptr _ _ _ rfl (zag rfl))⟩, ⟨_, rfl, (.ptr _ _ _ rfl (zag rfl))⟩, ⟨_, rfl, (subI (by rfl))⟩, tv⟩ ⟨⟨_, _, rfl, rfl, (zbs rfl)⟩, ⟨_, _, rfl, rfl, (zbs rfl)⟩, tv⟩ (zay hpar rfl)) (fun n_ E hR => ?_)
       obtain ⟨r, hI, rfl, rfl⟩ := hR
       have hr := hI
       refine zac <| zaa <| zch rfl rfl rfl tv (fun h71 => ?_) (fun h71 => ?_)
       ·refine zaf tv <| zac <| zap rfl <| zba <| zac <| zaz <| zac ?_
        have e1 := roundN_ticks r W1; have e2 := roundN_ticks r W2
        have o1 := wok_roundN r w1.1; have o2 := wok_roundN r w2.1
        have l1 := zfp r W1; have l2 := zfp r W2
        obtain ⟨x, hx⟩ : ∃ x, (zdf r W1).lanes[0]? = some x := ⟨_, List.getElem?_eq_getElem (by omega)⟩
        obtain ⟨y, hy⟩ : ∃ y, (zdf r W2).lanes[0]? = some y := ⟨_, List.getElem?_eq_getElem (by omega)⟩
        have hxb := o1.b x (List.mem_of_getElem? hx); have hyb := o2.b y (List.mem_of_getElem? hy)
        have hxy : x = y := by rw [hW1] at hx; rw [hW2] at hy; exact alone_same (n := 2) (t := 0) (q := 0) (by decide) (by decide) rfl hl1 hl2 (only_flood i l) hx hy
        subst hxy
        have htl := hxb.r.t; have htn := hxb.r.nl
        refine zaa <| zan rfl rfl rfl rfl rfl rfl tv <| zbk rfl (c70y (zdf r W1) 0 0 rfl x hx hxb) (.cons ((subP rfl)) (.cons ((.lit _)) .nil)) rfl tv <| zae rfl rfl tv <| zbd rfl rfl rfl tv <| zbd rfl rfl rfl tv <| zbg 147 rfl rfl (zar hpar rfl) rfl rfl tv <| zai rfl rfl rfl rfl rfl rfl rfl rfl tv <| zad rfl rfl tv <| zaf tv <| zac <| zaa <| zan rfl rfl rfl rfl rfl rfl tv <| zbk rfl (c70y (zdf r W2) 0 0 rfl x hy hyb) (.cons ((subP rfl)) (.cons ((.lit _)) .nil)) rfl tv <| zae rfl rfl tv <| zbd rfl rfl rfl tv <| zbd rfl rfl rfl tv <| zbg 148 rfl rfl (zar hpar rfl) rfl rfl tv <| zai rfl rfl rfl rfl rfl rfl rfl rfl tv <| zad rfl rfl tv <| zaf tv <| zac <| zac <| zaa <| zae rfl rfl tv <| u_not rfl rfl tv <| zae rfl rfl tv <| zae rfl rfl (gk rfl) <| u_not rfl rfl (gk rfl) <| zbc rfl rfl rfl tv ?_
        refine zae rfl rfl tv <| zab rfl rfl rfl rfl rfl rfl (gk rfl) <| zab rfl rfl rfl rfl rfl rfl (gk rfl) <| zak rfl rfl rfl rfl rfl rfl (gk rfl) <| zcm rfl rfl rfl (gk rfl) <| zab rfl rfl rfl rfl rfl rfl (gk rfl) <| zab rfl rfl rfl rfl rfl rfl (gk rfl) <| zak rfl rfl rfl rfl rfl rfl (gk rfl) <| zcm rfl rfl rfl (gk rfl) <| zeh rfl rfl rfl (gk rfl) (fun h97 => ?_) (fun h97 => ?_)
        ·exact absurd rfl h97
        ·refine zbc rfl rfl rfl tv <| zae rfl rfl tv <| zab rfl rfl rfl rfl rfl rfl (gk rfl) <| zak rfl rfl rfl rfl rfl rfl (gk rfl) <| zcm rfl rfl rfl (gk rfl) <| zab rfl rfl rfl rfl rfl rfl (gk rfl) <| zak rfl rfl rfl rfl rfl rfl (gk rfl) <| zcm rfl rfl rfl (gk rfl) <| zeh rfl rfl rfl (gk rfl) (fun h106 => ?_) (fun h106 => ?_)
         ·exact absurd rfl h106
         ·refine zbc rfl rfl rfl tv <| zae rfl rfl tv <| zab rfl rfl rfl rfl rfl rfl (gk rfl) <| zak rfl rfl rfl rfl rfl rfl (gk rfl) <| zcm rfl rfl rfl (gk rfl) <| zab rfl rfl rfl rfl rfl rfl (gk rfl) <| zak rfl rfl rfl rfl rfl rfl (gk rfl) <| zcm rfl rfl rfl (gk rfl) <| zeh rfl rfl rfl (gk rfl) (fun h115 => ?_) (fun h115 => ?_)
          ·exact absurd rfl h115
          ·refine zbc rfl rfl rfl tv <| zae rfl rfl tv <| zab rfl rfl rfl rfl rfl rfl (gk rfl) <| zab rfl rfl rfl rfl rfl rfl (gk rfl) <| zak rfl rfl rfl rfl rfl rfl (gk rfl) <| zab rfl rfl rfl rfl rfl rfl (gk rfl) <| zab rfl rfl rfl rfl rfl rfl (gk rfl) <| zak rfl rfl rfl rfl rfl rfl (gk rfl) <| s_call [] rfl (c66 x.r.told x.r.told (by omega) (by omega)) (.cons ((.shr _ _)) (.cons ((.shr _ _)) .nil)) (fun k o h => by simp [Go.Vc.look] at h) rfl (gk rfl) (fun h124 => ?_) (fun h124 => ?_)
           ·refine u_not rfl rfl (gk rfl) <| zbc rfl rfl rfl tv <| zaf tv <| zas rfl <| zba <| zce <| zan rfl rfl rfl rfl rfl rfl tv <| zbk rfl (c99 (zdf r W1) o1 (by omega)) (.cons ((subP rfl)) .nil) rfl tv <| zan rfl rfl rfl rfl rfl rfl tv <| zbk rfl (c99 (zdf r W2) o2 (by omega)) (.cons ((subP rfl)) .nil) rfl tv <| zai rfl rfl rfl rfl rfl rfl rfl rfl tv <| zai rfl rfl rfl rfl rfl rfl rfl rfl tv <| zaf (by kernel_rfl) <| zaa <| zca rfl rfl rfl (by unfold inI; omega) rfl tv <| zae rfl rfl tv <| zaf tv <| ⟨_, _, ren [(8, 8), (11, 11)], ?_, ⟨r + 1, ?_, rfl, rfl⟩, zax [(8, 8), (11, 11)] rfl rfl ⟨⟨_, rfl, (.ptr _ _ _ rfl (zag rfl))⟩, ⟨_, rfl, (.ptr _ _ _ rfl (zag rfl))⟩, ⟨_, rfl, (subI (by rfl))⟩, tv⟩ ⟨⟨_, _, rfl, rfl, (.cons (subS (by rw [zek])) (.cons (subI (by rw [zek])) .nil))⟩, ⟨_, _, rfl, rfl, (.cons (subS (by rw [zek])) (.cons (subI (by rw [zek])) .nil))⟩, tv⟩ (zay hpar rfl)⟩
            ·omega
            ·omega
           ·exact absurd (fits_self _) (by rw [h124]; decide)
       ·refine zaf tv <| zac <| zas rfl <| zbz <| iteP rfl <| zac <| zaa <| zad rfl rfl tv <| zaf tv <| zav <| fin0 (.inr rfl) (.cons (.tmp rfl (nb rfl)) .nil) (subB ?_)
        ·rfl
   ·refine u_not rfl rfl (gk rfl) <| zbc rfl rfl rfl tv <| zaf tv <| zap rfl <| zac <| zaa <| zad rfl rfl tv <| zaf tv <| zav <| fin0 (.inr rfl) (.cons (.tmp rfl (nb rfl)) .nil) (subB ?_)
    ·rfl
end Go.Proofs.Ytaadloihphpdbaa
