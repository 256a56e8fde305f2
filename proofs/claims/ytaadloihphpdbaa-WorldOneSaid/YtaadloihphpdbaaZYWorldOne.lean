/- Walk of a law. Printed by a small program (walk.py). -/
import Derived.Test.YtaadloihphpdbaaZWWorld4
set_option linter.unusedVariables false
set_option linter.unusedSimpArgs false
set_option maxRecDepth 4000
namespace Go.Proofs.Ytaadloihphpdbaa
open Go Go.Vc Go.RowKit
theorem c36 (n : Int) (l : List Step) (s : Step) (hm : ∀ s ∈ l, inI s.m) (hs : inI s.m) : VFun G 36 [.lit (.int .i64 n), .shr 7 (stepCells l), .agg (stepAV s)] [] (.lit (.bool true)) [] := by
 refine VFun.intro (fn := Try.f36) rfl rfl (by kernel_rfl) (nb rfl) fun Γ hpar => ?_
 refine zad <| zaa <| zdh 100 rfl rfl rfl (zar hpar rfl) rfl rfl tv <| zae rfl rfl tv <| zaf tv <| zad <| zad <| zaa <| zbi rfl (c131) .nil rfl tv <| zdq rfl rfl tv <| zaf tv <| zap rfl <| zax <| zad <| zad <| zaa <| zac rfl rfl tv <| zcg rfl rfl rfl tv (fun h16 => ?_) (fun h16 => ?_)
 ·refine zac rfl rfl tv <| zag rfl rfl rfl rfl rfl <| zag rfl rfl rfl rfl rfl <| zav rfl rfl rfl tv <| zaf tv <| zao rfl <| zad <| zaa <| zae rfl rfl tv <| zaf tv <| zaw <| fin0 (.inr rfl) (.cons (.tmp rfl (nb rfl)) .nil) (subB ?_)
  ·rfl
 ·refine zac rfl rfl tv <| zac rfl rfl (gk rfl) <| zdr rfl rfl rfl (gk rfl) (fun h19 => ?_) (fun h19 => ?_)
  ·refine zat rfl rfl rfl tv <| zaf tv <| zao rfl <| zad <| zaa <| zae rfl rfl tv <| zaf tv <| zaw <| fin0 (.inr rfl) (.cons (.tmp rfl (nb rfl)) .nil) (subB ?_)
   ·rfl
  ·refine zat rfl rfl rfl tv <| zaf tv <| zap rfl <| zax <| zad <| zaa <| zac rfl rfl tv <| zac rfl rfl tv <| zbi rfl (c43 n l (by omega) hm) (.cons ((.lit _)) (.cons ((.shr _ _)) .nil)) rfl tv <| zac rfl rfl tv <| zas rfl rfl rfl tv <| zas rfl rfl rfl tv <| zbd 101 rfl rfl (zar hpar rfl) rfl rfl tv <| zaj rfl rfl rfl rfl rfl rfl rfl rfl tv <| zae rfl rfl tv <| zaf tv <| zad ?_
   have hwk := zeb (n := n) (by omega) (by omega) l
   have htk := (zet (n := n) (by omega) (by omega) l).2
   have hln := zdw (n := n) (by omega) (by omega) l
   have hsl := doStep_len (play n l).1 s
   have hst := doStep_ticks (play n l).1 s
   refine zaa <| zam rfl rfl rfl rfl rfl rfl tv <| zam rfl rfl rfl rfl rfl rfl tv <| zbi rfl (c128 (play n l).1 s hwk (by omega) hs) (.cons ((subP rfl)) (.cons ((subP rfl)) .nil)) rfl tv <| zac rfl rfl tv <| zas rfl rfl rfl tv <| zas rfl rfl rfl tv <| zbd 102 rfl rfl (zar hpar rfl) rfl rfl tv <| zaj rfl rfl rfl rfl rfl rfl rfl rfl tv <| zae rfl rfl tv <| zaf tv <| zad <| zad <| zaa <| zac rfl rfl tv <| zdg rfl rfl rfl tv (fun h34 => ?_) (fun h34 => ?_)
   ·refine zaf tv <| zao rfl <| zad <| zaa <| zam rfl rfl rfl rfl rfl rfl tv <| zam rfl rfl rfl rfl rfl rfl tv <| zbi rfl (c127 (zch (play n l).1 s).1 (play n l).1 (wok_do hwk s).len.2) (.cons ((subP rfl)) (.cons ((subP rfl)) .nil)) rfl tv <| zae rfl rfl tv <| zaf tv <| zaw <| fin0 (.inr rfl) (.cons (.tmp rfl (nb rfl)) .nil) (subB ?_)
    ·rw [ds_err (by omega)]; simp
   ·refine zaf tv <| zap rfl <| zax <| zad <| zaa <| zab rfl rfl rfl rfl rfl rfl tv <| zah rfl rfl rfl rfl rfl rfl tv <| zae rfl rfl tv <| zaf tv <| zad <| zad <| zaa <| zab rfl rfl rfl rfl rfl rfl tv <| zah rfl rfl rfl rfl rfl rfl tv <| zci rfl rfl rfl tv (fun h42 => ?_) (fun h42 => ?_)
    ·refine zaf tv <| zao rfl <| zaa <| zab rfl rfl rfl rfl rfl rfl tv <| zah rfl rfl rfl rfl rfl rfl tv <| zac rfl rfl tv <| u_remN rfl rfl (by have := hwk.tk; omega) rfl tv <| zae rfl rfl tv <| zaf tv <| zad <| zad <| zaa <| zab rfl rfl rfl rfl rfl rfl tv <| zah rfl rfl rfl rfl rfl rfl tv <| zby rfl rfl rfl tv <| zac rfl rfl tv <| zaf tv <| zbb <| zbt (fun n_ E => ∃ (i : Nat), ((i ≤ (play n l).1.lanes.length)) ∧ n_ = (play n l).1.lanes.length - i ∧ E = ⟨[(5, .ptr 5 0), (7, .ptr 7 0), (9, .ptr 9 0), (11, .lit (.int .i64 ((play n l).1.ticks % n))), (49, .lit (.int .i64 (zcc (play n l).1.lanes).length)), (50, .lit (.int .i64 i))], [(5, .box (stepAV s)), (7, .box (zcu (play n l).1)), (9, .box (zcu (zch (play n l).1 s).1))], 92⟩) (n0 := _) (E0 := _) (⟨0, by omega, rfl, rfl⟩) (ren [(5, 100), (7, 101), (9, 102)]) (zay [(5, 100), (7, 101), (9, 102)] rfl rfl ⟨⟨_, rfl, (.ptr _ _ _ rfl (zak rfl))⟩, ⟨_, rfl, (.ptr _ _ _ rfl (zak rfl))⟩, ⟨_, rfl, (.ptr _ _ _ rfl (zak rfl))⟩, ⟨_, rfl, (.lit _)⟩, ⟨_, rfl, (.lit _)⟩, ⟨_, rfl, (.lit _)⟩, tv⟩ ⟨⟨_, _, rfl, rfl, (zbk rfl)⟩, ⟨_, _, rfl, rfl, (zbk rfl)⟩, ⟨_, _, rfl, rfl, (zbk rfl)⟩, tv⟩ (zaz hpar rfl)) (fun n_ E hR => ?_)
     obtain ⟨i, hI, rfl, rfl⟩ := hR
     have hI0 := hI
     refine zad <| zaa <| zcg rfl rfl rfl tv (fun h51 => ?_) (fun h51 => ?_)
     ·refine zaf tv <| zad <| zao rfl <| zax <| zad <| zbb <| zad ?_
      rw [zbg] at h51
      obtain ⟨x, hx⟩ : ∃ x, (play n l).1.lanes[i]? = some x := ⟨_, List.getElem?_eq_getElem (by omega)⟩
      obtain ⟨y, hy⟩ : ∃ y, (zch (play n l).1 s).1.lanes[i]? = some y := ⟨_, List.getElem?_eq_getElem (by omega)⟩
      refine zaa <| zac rfl rfl tv <| zae rfl rfl tv <| zaf tv <| zad <| zbo <| zac rfl rfl tv <| zac rfl rfl tv <| zdg rfl rfl rfl tv (fun h55 => ?_) (fun h55 => ?_)
      ·refine zac rfl rfl tv <| zab rfl rfl rfl rfl rfl rfl (gk rfl) <| zah rfl rfl rfl rfl rfl rfl (gk rfl) <| zac rfl rfl (gk rfl) <| zbh rfl rfl rfl rfl rfl rfl (zbr hy) rfl (gk rfl) <| zbu rfl rfl rfl rfl rfl (gk rfl) <| zab rfl rfl rfl rfl rfl rfl (gk rfl) <| zah rfl rfl rfl rfl rfl rfl (gk rfl) <| zac rfl rfl (gk rfl) <| zbh rfl rfl rfl rfl rfl rfl (zbr hx) rfl (gk rfl) <| zbu rfl rfl rfl rfl rfl (gk rfl) <| zdo [] rfl (c71 y x) (.cons ((subP rfl)) (.cons ((subP rfl)) .nil)) (fun k o h => by simp [Go.Vc.look] at h) rfl (gk rfl) (fun h67 => ?_) (fun h67 => ?_)
       ·refine zdq rfl rfl (gk rfl) <| zav rfl rfl rfl tv <| zaf (by kernel_rfl) <| zap rfl <| zax <| zaa <| zbz rfl rfl rfl (by unfold inI; omega) rfl tv <| zac rfl rfl tv <| zaf tv <| ⟨_, _, ren [(5, 5), (7, 7), (9, 9)], ?_, ⟨i + 1, ?_, rfl, rfl⟩, zay [(5, 5), (7, 7), (9, 9)] rfl rfl ⟨⟨_, rfl, (.ptr _ _ _ rfl (zak rfl))⟩, ⟨_, rfl, (.ptr _ _ _ rfl (zak rfl))⟩, ⟨_, rfl, (.ptr _ _ _ rfl (zak rfl))⟩, ⟨_, rfl, (.lit _)⟩, ⟨_, rfl, (.lit _)⟩, ⟨_, rfl, (.lit _)⟩, tv⟩ ⟨⟨_, _, rfl, rfl, (zbk rfl)⟩, ⟨_, _, rfl, rfl, (zbk rfl)⟩, ⟨_, _, rfl, rfl, (zbk rfl)⟩, tv⟩ (zaz hpar rfl)⟩
        ·omega
        ·omega
       ·exfalso; have hyx := ds_other hx hy (by rw [if_pos h42]; rw [hln, Int.toNat_of_nonneg (by omega)]; exact h55); subst hyx; simp at h67
      ·refine zac rfl rfl tv <| zag rfl rfl rfl rfl rfl <| zag rfl rfl rfl rfl rfl <| zag rfl rfl rfl rfl rfl <| zag rfl rfl rfl rfl rfl <| zag rfl rfl rfl rfl rfl <| zag rfl rfl rfl rfl rfl <| zag rfl rfl rfl rfl rfl <| zag rfl rfl rfl rfl rfl <| zag rfl rfl rfl rfl rfl <| zag rfl rfl rfl rfl rfl <| zag rfl rfl rfl rfl rfl <| zag rfl rfl rfl rfl rfl <| zat rfl rfl rfl tv <| zaf (by kernel_rfl) <| zap rfl <| zax <| zaa <| zbz rfl rfl rfl (by unfold inI; omega) rfl tv <| zac rfl rfl tv <| zaf tv <| ⟨_, _, ren [(5, 5), (7, 7), (9, 9)], ?_, ⟨i + 1, ?_, rfl, rfl⟩, zay [(5, 5), (7, 7), (9, 9)] rfl rfl ⟨⟨_, rfl, (.ptr _ _ _ rfl (zak rfl))⟩, ⟨_, rfl, (.ptr _ _ _ rfl (zak rfl))⟩, ⟨_, rfl, (.ptr _ _ _ rfl (zak rfl))⟩, ⟨_, rfl, (.lit _)⟩, ⟨_, rfl, (.lit _)⟩, ⟨_, rfl, (.lit _)⟩, tv⟩ ⟨⟨_, _, rfl, rfl, (zbk rfl)⟩, ⟨_, _, rfl, rfl, (zbk rfl)⟩, ⟨_, _, rfl, rfl, (zbk rfl)⟩, tv⟩ (zaz hpar rfl)⟩
       ·omega
       ·omega
     ·refine zaf tv <| zad <| zap rfl <| zbw <| iteP rfl <| zad <| zaa <| zab rfl rfl rfl rfl rfl rfl tv <| zah rfl rfl rfl rfl rfl rfl tv <| zab rfl rfl rfl rfl rfl rfl tv <| zah rfl rfl rfl rfl rfl rfl tv <| zbz rfl rfl rfl (by have := hwk.tk; unfold inI; omega) rfl tv <| u_eql rfl rfl rfl tv <| zab rfl rfl rfl rfl rfl rfl tv <| zah rfl rfl rfl rfl rfl rfl tv <| u_eql rfl rfl rfl tv <| s_eqlB rfl rfl rfl rfl tv (fun h80 => ?_) (fun h80 => ?_)
      ·refine zac rfl rfl tv <| zab rfl rfl rfl rfl rfl rfl (gk rfl) <| zah rfl rfl rfl rfl rfl rfl (gk rfl) <| zab rfl rfl rfl rfl rfl rfl (gk rfl) <| zah rfl rfl rfl rfl rfl rfl (gk rfl) <| u_eql rfl rfl rfl (gk rfl) <| zab rfl rfl rfl rfl rfl rfl (gk rfl) <| zah rfl rfl rfl rfl rfl rfl (gk rfl) <| u_neq rfl rfl rfl (gk rfl) <| u_eqlB rfl rfl rfl rfl (gk rfl) <| zav rfl rfl rfl tv <| zae rfl rfl tv <| zaf tv <| zaw <| fin0 (.inr rfl) (.cons (.tmp rfl (nb rfl)) .nil) (subB ?_)
       ·exact (ticks_eq2 hst).symm
      ·exact absurd (ticks_eq1 hst) h80
    ·refine zaf tv <| zap rfl <| zax <| zad <| zad <| zaa <| zab rfl rfl rfl rfl rfl rfl tv <| zah rfl rfl rfl rfl rfl rfl tv <| zby rfl rfl rfl tv <| zac rfl rfl tv <| zaf tv <| zbb <| zbt (fun n_ E => ∃ (i : Nat), ((i ≤ (play n l).1.lanes.length)) ∧ n_ = (play n l).1.lanes.length - i ∧ E = ⟨[(5, .ptr 5 0), (7, .ptr 7 0), (9, .ptr 9 0), (11, .lit (.int .i64 s.tenant)), (49, .lit (.int .i64 (zcc (play n l).1.lanes).length)), (50, .lit (.int .i64 i))], [(5, .box (stepAV s)), (7, .box (zcu (play n l).1)), (9, .box (zcu (zch (play n l).1 s).1))], 92⟩) (n0 := _) (E0 := _) (⟨0, by omega, rfl, rfl⟩) (ren [(5, 100), (7, 101), (9, 102)]) (zay [(5, 100), (7, 101), (9, 102)] rfl rfl ⟨⟨_, rfl, (.ptr _ _ _ rfl (zak rfl))⟩, ⟨_, rfl, (.ptr _ _ _ rfl (zak rfl))⟩, ⟨_, rfl, (.ptr _ _ _ rfl (zak rfl))⟩, ⟨_, rfl, (.lit _)⟩, ⟨_, rfl, (.lit _)⟩, ⟨_, rfl, (.lit _)⟩, tv⟩ ⟨⟨_, _, rfl, rfl, (zbk rfl)⟩, ⟨_, _, rfl, rfl, (zbk rfl)⟩, ⟨_, _, rfl, rfl, (zbk rfl)⟩, tv⟩ (zaz hpar rfl)) (fun n_ E hR => ?_)
     obtain ⟨i, hI, rfl, rfl⟩ := hR
     have hI0 := hI
     refine zad <| zaa <| zcg rfl rfl rfl tv (fun h51 => ?_) (fun h51 => ?_)
     ·refine zaf tv <| zad <| zao rfl <| zax <| zad <| zbb <| zad ?_
      rw [zbg] at h51
      obtain ⟨x, hx⟩ : ∃ x, (play n l).1.lanes[i]? = some x := ⟨_, List.getElem?_eq_getElem (by omega)⟩
      obtain ⟨y, hy⟩ : ∃ y, (zch (play n l).1 s).1.lanes[i]? = some y := ⟨_, List.getElem?_eq_getElem (by omega)⟩
      refine zaa <| zac rfl rfl tv <| zae rfl rfl tv <| zaf tv <| zad <| zbo <| zac rfl rfl tv <| zac rfl rfl tv <| zdg rfl rfl rfl tv (fun h55 => ?_) (fun h55 => ?_)
      ·refine zac rfl rfl tv <| zab rfl rfl rfl rfl rfl rfl (gk rfl) <| zah rfl rfl rfl rfl rfl rfl (gk rfl) <| zac rfl rfl (gk rfl) <| zbh rfl rfl rfl rfl rfl rfl (zbr hy) rfl (gk rfl) <| zbu rfl rfl rfl rfl rfl (gk rfl) <| zab rfl rfl rfl rfl rfl rfl (gk rfl) <| zah rfl rfl rfl rfl rfl rfl (gk rfl) <| zac rfl rfl (gk rfl) <| zbh rfl rfl rfl rfl rfl rfl (zbr hx) rfl (gk rfl) <| zbu rfl rfl rfl rfl rfl (gk rfl) <| zdo [] rfl (c71 y x) (.cons ((subP rfl)) (.cons ((subP rfl)) .nil)) (fun k o h => by simp [Go.Vc.look] at h) rfl (gk rfl) (fun h67 => ?_) (fun h67 => ?_)
       ·refine zdq rfl rfl (gk rfl) <| zav rfl rfl rfl tv <| zaf (by kernel_rfl) <| zap rfl <| zax <| zaa <| zbz rfl rfl rfl (by unfold inI; omega) rfl tv <| zac rfl rfl tv <| zaf tv <| ⟨_, _, ren [(5, 5), (7, 7), (9, 9)], ?_, ⟨i + 1, ?_, rfl, rfl⟩, zay [(5, 5), (7, 7), (9, 9)] rfl rfl ⟨⟨_, rfl, (.ptr _ _ _ rfl (zak rfl))⟩, ⟨_, rfl, (.ptr _ _ _ rfl (zak rfl))⟩, ⟨_, rfl, (.ptr _ _ _ rfl (zak rfl))⟩, ⟨_, rfl, (.lit _)⟩, ⟨_, rfl, (.lit _)⟩, ⟨_, rfl, (.lit _)⟩, tv⟩ ⟨⟨_, _, rfl, rfl, (zbk rfl)⟩, ⟨_, _, rfl, rfl, (zbk rfl)⟩, ⟨_, _, rfl, rfl, (zbk rfl)⟩, tv⟩ (zaz hpar rfl)⟩
        ·omega
        ·omega
       ·exfalso; have hyx := ds_other hx hy (by rw [if_neg h42]; exact h55); subst hyx; simp at h67
      ·refine zac rfl rfl tv <| zag rfl rfl rfl rfl rfl <| zag rfl rfl rfl rfl rfl <| zag rfl rfl rfl rfl rfl <| zag rfl rfl rfl rfl rfl <| zag rfl rfl rfl rfl rfl <| zag rfl rfl rfl rfl rfl <| zag rfl rfl rfl rfl rfl <| zag rfl rfl rfl rfl rfl <| zag rfl rfl rfl rfl rfl <| zag rfl rfl rfl rfl rfl <| zag rfl rfl rfl rfl rfl <| zag rfl rfl rfl rfl rfl <| zat rfl rfl rfl tv <| zaf (by kernel_rfl) <| zap rfl <| zax <| zaa <| zbz rfl rfl rfl (by unfold inI; omega) rfl tv <| zac rfl rfl tv <| zaf tv <| ⟨_, _, ren [(5, 5), (7, 7), (9, 9)], ?_, ⟨i + 1, ?_, rfl, rfl⟩, zay [(5, 5), (7, 7), (9, 9)] rfl rfl ⟨⟨_, rfl, (.ptr _ _ _ rfl (zak rfl))⟩, ⟨_, rfl, (.ptr _ _ _ rfl (zak rfl))⟩, ⟨_, rfl, (.ptr _ _ _ rfl (zak rfl))⟩, ⟨_, rfl, (.lit _)⟩, ⟨_, rfl, (.lit _)⟩, ⟨_, rfl, (.lit _)⟩, tv⟩ ⟨⟨_, _, rfl, rfl, (zbk rfl)⟩, ⟨_, _, rfl, rfl, (zbk rfl)⟩, ⟨_, _, rfl, rfl, (zbk rfl)⟩, tv⟩ (zaz hpar rfl)⟩
       ·omega
       ·omega
     ·refine zaf tv <| zad <| zap rfl <| zbw <| iteP rfl <| zad <| zaa <| zab rfl rfl rfl rfl rfl rfl tv <| zah rfl rfl rfl rfl rfl rfl tv <| zab rfl rfl rfl rfl rfl rfl tv <| zah rfl rfl rfl rfl rfl rfl tv <| zbz rfl rfl rfl (by have := hwk.tk; unfold inI; omega) rfl tv <| u_eql rfl rfl rfl tv <| zab rfl rfl rfl rfl rfl rfl tv <| zah rfl rfl rfl rfl rfl rfl tv <| u_eql rfl rfl rfl tv <| s_eqlB rfl rfl rfl rfl tv (fun h80 => ?_) (fun h80 => ?_)
      ·refine zac rfl rfl tv <| zab rfl rfl rfl rfl rfl rfl (gk rfl) <| zah rfl rfl rfl rfl rfl rfl (gk rfl) <| zab rfl rfl rfl rfl rfl rfl (gk rfl) <| zah rfl rfl rfl rfl rfl rfl (gk rfl) <| u_eql rfl rfl rfl (gk rfl) <| zab rfl rfl rfl rfl rfl rfl (gk rfl) <| zah rfl rfl rfl rfl rfl rfl (gk rfl) <| u_neq rfl rfl rfl (gk rfl) <| u_eqlB rfl rfl rfl rfl (gk rfl) <| zav rfl rfl rfl tv <| zae rfl rfl tv <| zaf tv <| zaw <| fin0 (.inr rfl) (.cons (.tmp rfl (nb rfl)) .nil) (subB ?_)
       ·exact (ticks_eq2 hst).symm
      ·exact absurd (ticks_eq1 hst) h80
end Go.Proofs.Ytaadloihphpdbaa
