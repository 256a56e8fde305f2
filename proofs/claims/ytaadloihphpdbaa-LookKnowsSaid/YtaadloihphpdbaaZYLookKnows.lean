/- Walk of a law. Printed by a small program (walk.py). -/
import Derived.Test.YtaadloihphpdbaaZWLook
set_option linter.unusedVariables false
set_option linter.unusedSimpArgs false
set_option maxRecDepth 4000
namespace Go.Proofs.Ytaadloihphpdbaa
open Go Go.Vc Go.RowKit
theorem c5 (n : Int) (l : List Step) (hm : ∀ s ∈ l, inI s.m) : VFun G 5 [.lit (.int .i64 n), .shr 7 (stepCells l)] [] (.lit (.bool true)) [] := by
 refine VFun.intro (fn := Try.f5) rfl rfl (by kernel_rfl) (nb rfl) fun Γ hpar => ?_
 refine zad <| vw_len (t := 1) rfl fun hl => ?_
 rw [zbf] at hl
 refine zaa <| zae rfl rfl tv <| zaf tv <| zad <| zad <| zaa <| zbi rfl (c49) .nil rfl tv <| zdq rfl rfl tv <| zaf tv <| zap rfl <| zax <| zad <| zad <| zaa <| zac rfl rfl tv <| zby rfl rfl rfl tv <| zac rfl rfl tv <| zaf tv <| zbb <| zbt (fun n_ E => ∃ (i : Nat), ((i ≤ l.length) ∧ ((l.take i).all (fun s => decide (s.kind ≠ 6)) = true)) ∧ n_ = l.length - i ∧ E = ⟨[(0, .lit (.int .i64 n)), (1, .shr 7 (stepCells l)), (15, .shr 7 (stepCells l)), (16, .lit (.int .i64 (stepCells l).length)), (17, .lit (.int .i64 i))], [], 62⟩) (n0 := _) (E0 := _) (⟨0, by exact ⟨Nat.zero_le _, rfl⟩, rfl, rfl⟩) (ren []) (zay [] rfl rfl ⟨⟨_, rfl, (.lit _)⟩, ⟨_, rfl, (.shr _ _)⟩, ⟨_, rfl, (.shr _ _)⟩, ⟨_, rfl, (.lit _)⟩, ⟨_, rfl, (.lit _)⟩, tv⟩ tv (zaz hpar rfl)) (fun n_ E hR => ?_)
 obtain ⟨i, hI, rfl, rfl⟩ := hR
 obtain ⟨hI0, hI1⟩ := hI
 refine zad <| zaa <| zcg rfl rfl rfl tv (fun h18 => ?_) (fun h18 => ?_)
 ·refine zaf tv <| zad <| zao rfl <| zax <| zad <| zbb <| zad ?_
  rw [zbf] at h18
  obtain ⟨s, hs⟩ : ∃ s, l[i]? = some s := ⟨_, List.getElem?_eq_getElem (by omega)⟩
  refine zaa <| zbh rfl rfl rfl rfl rfl rfl (zbq hs) rfl tv <| zbu rfl rfl rfl rfl rfl tv <| zbd 120 rfl rfl (zar hpar rfl) rfl rfl tv <| zaj rfl rfl rfl rfl rfl rfl rfl rfl tv <| zaf tv <| zad <| zaa <| zab rfl rfl rfl rfl rfl rfl tv <| zah rfl rfl rfl rfl rfl rfl tv <| zci rfl rfl rfl tv (fun h23 => ?_) (fun h23 => ?_)
  ·refine zaf tv <| zao rfl <| zad <| zaa <| zae rfl rfl tv <| zaf tv <| zaw <| fin0 (.inr rfl) (.cons (.tmp rfl (nb rfl)) .nil) (subB ?_)
   ·rfl
  ·refine zaf tv <| zap rfl <| zax <| zaa <| zbz rfl rfl rfl (by unfold inI; omega) rfl tv <| zac rfl rfl tv <| zaf tv <| ⟨_, _, ren [], ?_, ⟨i + 1, ?_, rfl, rfl⟩, zay [] rfl rfl ⟨⟨_, rfl, (.lit _)⟩, ⟨_, rfl, (.shr _ _)⟩, ⟨_, rfl, (.shr _ _)⟩, ⟨_, rfl, (.lit _)⟩, ⟨_, rfl, (.lit _)⟩, tv⟩ tv (zaz hpar rfl)⟩
   ·omega
   ·refine ⟨by omega, ?_⟩
    rw [all_take hs, hI1]; simpa using h23
 ·refine zaf tv <| zad <| zap rfl <| zbw <| iteP rfl <| zad <| zad ?_
  rw [zbf] at h18
  rw [List.take_of_length_le (by omega)] at hI1
  have hsp := spoilN_zero hI1
  refine zaa <| zac rfl rfl tv <| zcg rfl rfl rfl tv (fun h26 => ?_) (fun h26 => ?_)
  ·refine zac rfl rfl tv <| zag rfl rfl rfl rfl rfl <| zag rfl rfl rfl rfl rfl <| zav rfl rfl rfl tv <| zaf tv <| zao rfl <| zad <| zaa <| zae rfl rfl tv <| zaf tv <| zaw <| fin0 (.inr rfl) (.cons (.tmp rfl (nb rfl)) .nil) (subB ?_)
   ·rfl
  ·refine zac rfl rfl tv <| zac rfl rfl (gk rfl) <| zdr rfl rfl rfl (gk rfl) (fun h29 => ?_) (fun h29 => ?_)
   ·refine zat rfl rfl rfl tv <| zaf tv <| zao rfl <| zad <| zaa <| zae rfl rfl tv <| zaf tv <| zaw <| fin0 (.inr rfl) (.cons (.tmp rfl (nb rfl)) .nil) (subB ?_)
    ·rfl
   ·refine zat rfl rfl rfl tv <| zaf tv <| zap rfl <| zax <| zad <| zaa <| zac rfl rfl tv <| zac rfl rfl tv <| zbi rfl (c43 n l (by omega) hm) (.cons ((.lit _)) (.cons ((.shr _ _)) .nil)) rfl tv <| zac rfl rfl tv <| zas rfl rfl rfl tv <| zas rfl rfl rfl tv <| zbd 120 rfl rfl (zar hpar rfl) rfl rfl tv <| zaj rfl rfl rfl rfl rfl rfl rfl rfl tv <| zae rfl rfl tv <| zaf tv <| zad <| zad <| zaa <| zab rfl rfl rfl rfl rfl rfl tv <| zah rfl rfl rfl rfl rfl rfl tv <| zby rfl rfl rfl tv <| zac rfl rfl tv <| zaf tv <| zbb <| zbt (fun n_ E => ∃ (i : Nat), ((i ≤ (play n l).1.lanes.length)) ∧ n_ = (play n l).1.lanes.length - i ∧ E = ⟨[(38, .shr 17 (zcc (play n l).1.lanes)), (39, .lit (.int .i64 (zcc (play n l).1.lanes).length)), (40, .lit (.int .i64 i))], [], 62⟩) (n0 := _) (E0 := _) (⟨0, by omega, rfl, rfl⟩) (ren []) (zay [] rfl rfl ⟨⟨_, rfl, (.shr _ _)⟩, ⟨_, rfl, (.lit _)⟩, ⟨_, rfl, (.lit _)⟩, tv⟩ tv (zaz hpar rfl)) (fun n_ E hR => ?_)
    obtain ⟨i, hI, rfl, rfl⟩ := hR
    have hI0 := hI
    refine zad <| zaa <| zcg rfl rfl rfl tv (fun h41 => ?_) (fun h41 => ?_)
    ·refine zaf tv <| zad <| zao rfl <| zax <| zad <| zbb <| zad ?_
     rw [zbg] at h41
     obtain ⟨x, hx⟩ : ∃ x, (play n l).1.lanes[i]? = some x := ⟨_, List.getElem?_eq_getElem (by omega)⟩
     have hb := play_lane_b (by omega) hx
     have hln := zdw (n := n) (by omega) (by omega) l
     have hli := play_lane_i (by omega) hx hsp
     have hto := linv_told hli
     refine zaa <| zbh rfl rfl rfl rfl rfl rfl (zbr hx) rfl tv <| zbu rfl rfl rfl rfl rfl tv <| zbd 141 rfl rfl (zar hpar rfl) rfl rfl tv <| zaj rfl rfl rfl rfl rfl rfl rfl rfl tv <| zaf tv <| zad <| zaa <| zam rfl rfl rfl rfl rfl rfl tv <| zbi rfl (c44 x) (.cons ((subP rfl)) .nil) rfl tv <| zac rfl rfl tv <| zas rfl rfl rfl tv <| zas rfl rfl rfl tv <| zae rfl rfl tv <| zae rfl rfl tv <| zaf tv <| zad <| zaa <| zac rfl rfl tv <| zac rfl rfl tv <| zdr rfl rfl rfl tv (fun h51 => ?_) (fun h51 => ?_)
     ·exfalso; omega
     ·refine zac rfl rfl tv <| zam rfl rfl rfl rfl rfl rfl (gk rfl) <| zdo [] rfl (c45 x) (.cons ((subP rfl)) .nil) (fun k o h => by simp [Go.Vc.look] at h) rfl (gk rfl) (fun h54 => ?_) (fun h54 => ?_)
      ·refine zac rfl rfl (gk rfl) <| zac rfl rfl (gk rfl) <| zac rfl rfl (gk rfl) <| zdg rfl rfl rfl (gk rfl) (fun h58 => ?_) (fun h58 => ?_)
       ·exfalso; have := (linv_idle hli (by assumption)).1; omega
       ·refine zav rfl rfl rfl (gk rfl) <| zat rfl rfl rfl tv <| zaf tv <| zap rfl <| zax <| zaa <| zbz rfl rfl rfl (by unfold inI; omega) rfl tv <| zac rfl rfl tv <| zaf tv <| ⟨_, _, ren [], ?_, ⟨i + 1, ?_, rfl, rfl⟩, zay [] rfl rfl ⟨⟨_, rfl, (.shr _ _)⟩, ⟨_, rfl, (.lit _)⟩, ⟨_, rfl, (.lit _)⟩, tv⟩ tv (zaz hpar rfl)⟩
        ·omega
        ·omega
      ·refine zac rfl rfl (gk rfl) <| zag rfl rfl rfl rfl rfl <| zag rfl rfl rfl rfl rfl <| zag rfl rfl rfl rfl rfl <| zat rfl rfl rfl (gk rfl) <| zat rfl rfl rfl tv <| zaf tv <| zap rfl <| zax <| zaa <| zbz rfl rfl rfl (by unfold inI; omega) rfl tv <| zac rfl rfl tv <| zaf tv <| ⟨_, _, ren [], ?_, ⟨i + 1, ?_, rfl, rfl⟩, zay [] rfl rfl ⟨⟨_, rfl, (.shr _ _)⟩, ⟨_, rfl, (.lit _)⟩, ⟨_, rfl, (.lit _)⟩, tv⟩ tv (zaz hpar rfl)⟩
       ·omega
       ·omega
    ·refine zaf tv <| zad <| zap rfl <| zbw <| iteP rfl <| zad <| zaa <| zae rfl rfl tv <| zaf tv <| zaw <| fin0 (.inr rfl) (.cons (.tmp rfl (nb rfl)) .nil) (subB ?_)
     ·rfl
end Go.Proofs.Ytaadloihphpdbaa
