/- Walk of a law. Printed by a small program (walk.py). -/
import Derived.Test.YtaadloihphpdbaaZWLook
set_option linter.unusedVariables false
set_option linter.unusedSimpArgs false
set_option maxRecDepth 4000
namespace Go.Proofs.Ytaadloihphpdbaa
open Go Go.Vc Go.RowKit
theorem c4 (n : Int) (l : List Step) (hm : ∀ s ∈ l, inI s.m) : VFun G 4 [.lit (.int .i64 n), .shr 7 (stepCells l)] [] (.lit (.bool true)) [] := by
 refine VFun.intro (fn := Try.f4) rfl rfl (by kernel_rfl) (nb rfl) fun Γ hpar => ?_
 refine zad <| zaa <| zae rfl rfl tv <| zaf tv <| zad <| zad <| zaa <| zbi rfl (c49) .nil rfl tv <| zdq rfl rfl tv <| zaf tv <| zap rfl <| zax <| zad <| zad <| zaa <| zac rfl rfl tv <| zcg rfl rfl rfl tv (fun h12 => ?_) (fun h12 => ?_)
 ·refine zac rfl rfl tv <| zag rfl rfl rfl rfl rfl <| zag rfl rfl rfl rfl rfl <| zav rfl rfl rfl tv <| zaf tv <| zao rfl <| zad <| zaa <| zae rfl rfl tv <| zaf tv <| zaw <| fin0 (.inr rfl) (.cons (.tmp rfl (nb rfl)) .nil) (subB ?_)
  ·rfl
 ·refine zac rfl rfl tv <| zac rfl rfl (gk rfl) <| zdr rfl rfl rfl (gk rfl) (fun h15 => ?_) (fun h15 => ?_)
  ·refine zat rfl rfl rfl tv <| zaf tv <| zao rfl <| zad <| zaa <| zae rfl rfl tv <| zaf tv <| zaw <| fin0 (.inr rfl) (.cons (.tmp rfl (nb rfl)) .nil) (subB ?_)
   ·rfl
  ·refine zat rfl rfl rfl tv <| zaf tv <| zap rfl <| zax <| zad <| zaa <| zac rfl rfl tv <| zac rfl rfl tv <| zbi rfl (c43 n l (by omega) hm) (.cons ((.lit _)) (.cons ((.shr _ _)) .nil)) rfl tv <| zac rfl rfl tv <| zas rfl rfl rfl tv <| zas rfl rfl rfl tv <| zbd 100 rfl rfl (zar hpar rfl) rfl rfl tv <| zaj rfl rfl rfl rfl rfl rfl rfl rfl tv <| zae rfl rfl tv <| zaf tv <| zad <| zad <| zaa <| zab rfl rfl rfl rfl rfl rfl tv <| zah rfl rfl rfl rfl rfl rfl tv <| zby rfl rfl rfl tv <| zac rfl rfl tv <| zaf tv <| zbb <| zbt (fun n_ E => ∃ (i : Nat), ((i ≤ (play n l).1.lanes.length)) ∧ n_ = (play n l).1.lanes.length - i ∧ E = ⟨[(24, .shr 17 (zcc (play n l).1.lanes)), (25, .lit (.int .i64 (zcc (play n l).1.lanes).length)), (26, .lit (.int .i64 i))], [], 67⟩) (n0 := _) (E0 := _) (⟨0, by omega, rfl, rfl⟩) (ren []) (zay [] rfl rfl ⟨⟨_, rfl, (.shr _ _)⟩, ⟨_, rfl, (.lit _)⟩, ⟨_, rfl, (.lit _)⟩, tv⟩ tv (zaz hpar rfl)) (fun n_ E hR => ?_)
   obtain ⟨i, hI, rfl, rfl⟩ := hR
   have hI0 := hI
   refine zad <| zaa <| zcg rfl rfl rfl tv (fun h27 => ?_) (fun h27 => ?_)
   ·refine zaf tv <| zad <| zao rfl <| zax <| zad <| zbb <| zad ?_
    rw [zbg] at h27
    obtain ⟨x, hx⟩ : ∃ x, (play n l).1.lanes[i]? = some x := ⟨_, List.getElem?_eq_getElem (by omega)⟩
    have hb := play_lane_b (by omega) hx
    have hln := zdw (n := n) (by omega) (by omega) l
    have hq := hb.s.q; have hf := hb.s.f; have ht := hb.there.1; have hk := hb.back.1; have he := hb.r.el
    refine zaa <| zbh rfl rfl rfl rfl rfl rfl (zbr hx) rfl tv <| zbu rfl rfl rfl rfl rfl tv <| zbd 121 rfl rfl (zar hpar rfl) rfl rfl tv <| zaj rfl rfl rfl rfl rfl rfl rfl rfl tv <| zaf tv <| zad <| zaa <| zam rfl rfl rfl rfl rfl rfl tv <| zdo [] rfl (c46 x) (.cons ((subP rfl)) .nil) (fun k o h => by simp [Go.Vc.look] at h) rfl tv (fun h31 => ?_) (fun h31 => ?_)
    ·refine zdq rfl rfl tv <| zac rfl rfl tv <| zab rfl rfl rfl rfl rfl rfl (gk rfl) <| zab rfl rfl rfl rfl rfl rfl (gk rfl) <| zah rfl rfl rfl rfl rfl rfl (gk rfl) <| zby rfl rfl rfl (gk rfl) <| zdr rfl rfl rfl (gk rfl) (fun h38 => ?_) (fun h38 => ?_)
     ·exfalso; rw [zaq] at h38; omega
     ·refine zat rfl rfl rfl tv <| zac rfl rfl tv <| zab rfl rfl rfl rfl rfl rfl (gk rfl) <| zab rfl rfl rfl rfl rfl rfl (gk rfl) <| zah rfl rfl rfl rfl rfl rfl (gk rfl) <| zby rfl rfl rfl (gk rfl) <| zdr rfl rfl rfl (gk rfl) (fun h45 => ?_) (fun h45 => ?_)
      ·exfalso; rw [zai] at h45; omega
      ·refine zat rfl rfl rfl tv <| zac rfl rfl tv <| zab rfl rfl rfl rfl rfl rfl (gk rfl) <| zah rfl rfl rfl rfl rfl rfl (gk rfl) <| zby rfl rfl rfl (gk rfl) <| zdr rfl rfl rfl (gk rfl) (fun h51 => ?_) (fun h51 => ?_)
       ·exfalso; rw [zan] at h51; omega
       ·refine zat rfl rfl rfl tv <| zac rfl rfl tv <| zab rfl rfl rfl rfl rfl rfl (gk rfl) <| zah rfl rfl rfl rfl rfl rfl (gk rfl) <| zby rfl rfl rfl (gk rfl) <| zdr rfl rfl rfl (gk rfl) (fun h57 => ?_) (fun h57 => ?_)
        ·exfalso; rw [zan] at h57; omega
        ·refine zat rfl rfl rfl tv <| zac rfl rfl tv <| zab rfl rfl rfl rfl rfl rfl (gk rfl) <| zab rfl rfl rfl rfl rfl rfl (gk rfl) <| zah rfl rfl rfl rfl rfl rfl (gk rfl) <| zby rfl rfl rfl (gk rfl) <| zdr rfl rfl rfl (gk rfl) (fun h64 => ?_) (fun h64 => ?_)
         ·exfalso; rw [zal] at h64; omega
         ·refine zat rfl rfl rfl tv <| zaf tv <| zap rfl <| zax <| zaa <| zbz rfl rfl rfl (by unfold inI; omega) rfl tv <| zac rfl rfl tv <| zaf tv <| ⟨_, _, ren [], ?_, ⟨i + 1, ?_, rfl, rfl⟩, zay [] rfl rfl ⟨⟨_, rfl, (.shr _ _)⟩, ⟨_, rfl, (.lit _)⟩, ⟨_, rfl, (.lit _)⟩, tv⟩ tv (zaz hpar rfl)⟩
          ·omega
          ·omega
    ·rw [within_of hb] at h31; cases h31
   ·refine zaf tv <| zad <| zap rfl <| zbw <| iteP rfl <| zad <| zaa <| zae rfl rfl tv <| zaf tv <| zaw <| fin0 (.inr rfl) (.cons (.tmp rfl (nb rfl)) .nil) (subB ?_)
    ·rfl
end Go.Proofs.Ytaadloihphpdbaa
