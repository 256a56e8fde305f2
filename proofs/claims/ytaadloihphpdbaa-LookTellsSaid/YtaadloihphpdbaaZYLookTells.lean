/- Walk of a law. Printed by a small program (walk.py). -/
import Derived.Test.YtaadloihphpdbaaZWLook
set_option linter.unusedVariables false
set_option linter.unusedSimpArgs false
set_option maxRecDepth 4000
namespace Go.Proofs.Ytaadloihphpdbaa
open Go Go.Vc Go.RowKit
theorem c3 (n : Int) (l : List Step) (hm : ∀ s ∈ l, inI s.m) : VFun G 3 [.lit (.int .i64 n), .shr 7 (stepCells l)] [] (.lit (.bool true)) [] := by
 refine VFun.intro (fn := Try.f3) rfl rfl (by kernel_rfl) (nb rfl) fun Γ hpar => ?_
 refine zad <| zaa <| zae rfl rfl tv <| zaf tv <| zad <| zad <| zaa <| zac rfl rfl tv <| zcg rfl rfl rfl tv (fun h12 => ?_) (fun h12 => ?_)
 ·refine zac rfl rfl tv <| zag rfl rfl rfl rfl rfl <| zag rfl rfl rfl rfl rfl <| zav rfl rfl rfl tv <| zaf tv <| zao rfl <| zad <| zaa <| zae rfl rfl tv <| zaf tv <| zaw <| fin0 (.inr rfl) (.cons (.tmp rfl (nb rfl)) .nil) (subB ?_)
  ·first | rfl | simp
 ·refine zac rfl rfl tv <| zac rfl rfl (gk rfl) <| zdr rfl rfl rfl (gk rfl) (fun h15 => ?_) (fun h15 => ?_)
  ·refine zat rfl rfl rfl tv <| zaf tv <| zao rfl <| zad <| zaa <| zae rfl rfl tv <| zaf tv <| zaw <| fin0 (.inr rfl) (.cons (.tmp rfl (nb rfl)) .nil) (subB ?_)
   ·first | rfl | simp
  ·refine zat rfl rfl rfl tv <| zaf tv <| zap rfl <| zax <| zad <| zaa <| zac rfl rfl tv <| zac rfl rfl tv <| zbi rfl (c43 n l (by omega) hm) (.cons ((.lit _)) (.cons ((.shr _ _)) .nil)) rfl tv <| zac rfl rfl tv <| zas rfl rfl rfl tv <| zas rfl rfl rfl tv <| zbd 100 rfl rfl (zar hpar rfl) rfl rfl tv <| zaj rfl rfl rfl rfl rfl rfl rfl rfl tv <| zae rfl rfl tv <| zaf tv <| zad <| zad <| zaa <| zab rfl rfl rfl rfl rfl rfl tv <| zah rfl rfl rfl rfl rfl rfl tv <| zby rfl rfl rfl tv <| zac rfl rfl tv <| zaf tv <| zbb <| zbt (fun n_ E => ∃ (i : Nat), ((i ≤ (play n l).1.lanes.length)) ∧ n_ = (play n l).1.lanes.length - i ∧ E = ⟨[(5, .ptr 5 0), (24, .shr 17 (zcc (play n l).1.lanes)), (25, .lit (.int .i64 (zcc (play n l).1.lanes).length)), (26, .lit (.int .i64 i))], [(5, .box (zcu (play n l).1))], 74⟩) (n0 := _) (E0 := _) (⟨0, by omega, rfl, rfl⟩) (ren [(5, 100)]) (zay [(5, 100)] rfl rfl ⟨⟨_, rfl, (.ptr _ _ _ rfl (zak rfl))⟩, ⟨_, rfl, (.shr _ _)⟩, ⟨_, rfl, (.lit _)⟩, ⟨_, rfl, (.lit _)⟩, tv⟩ ⟨⟨_, _, rfl, rfl, (zbk rfl)⟩, tv⟩ (zaz hpar rfl)) (fun n_ E hR => ?_)
   obtain ⟨i, hI, rfl, rfl⟩ := hR
   have hI0 := hI
   refine zad <| zaa <| zcg rfl rfl rfl tv (fun h27 => ?_) (fun h27 => ?_)
   ·refine zaf tv <| zad <| zao rfl <| zax <| zad <| zbb <| zad ?_
    rw [zbg] at h27
    obtain ⟨x, hx⟩ : ∃ x, (play n l).1.lanes[i]? = some x := ⟨_, List.getElem?_eq_getElem (by omega)⟩
    have hb := play_lane_b (by omega) hx
    have hln := zdw (n := n) (by omega) (by omega) l
    have hq := hb.s.q; have hf := hb.s.f
    refine zaa <| zbh rfl rfl rfl rfl rfl rfl (zbr hx) rfl tv <| zbu rfl rfl rfl rfl rfl tv <| zbd 121 rfl rfl (zar hpar rfl) rfl rfl tv <| zaj rfl rfl rfl rfl rfl rfl rfl rfl tv <| zaf tv <| zad <| zaa <| zam rfl rfl rfl rfl rfl rfl tv <| zbi rfl (c44 x) (.cons ((subP rfl)) .nil) rfl tv <| zac rfl rfl tv <| zas rfl rfl rfl tv <| zas rfl rfl rfl tv <| zae rfl rfl tv <| zae rfl rfl tv <| zaf tv <| zad <| zbo <| zam rfl rfl rfl rfl rfl rfl tv <| zbi rfl (c45 x) (.cons ((subP rfl)) .nil) rfl tv <| zab rfl rfl rfl rfl rfl rfl tv <| zab rfl rfl rfl rfl rfl rfl tv <| zah rfl rfl rfl rfl rfl rfl tv <| zby rfl rfl rfl tv <| zab rfl rfl rfl rfl rfl rfl tv <| zab rfl rfl rfl rfl rfl rfl tv <| zah rfl rfl rfl rfl rfl rfl tv <| zby rfl rfl rfl tv <| zbz rfl rfl rfl (by rw [zaq, zai]; unfold inI; omega) rfl tv <| u_eql rfl rfl rfl tv ?_
    refine s_neqB rfl rfl rfl rfl tv (fun h47 => ?_) (fun h47 => ?_)
    ·exfalso; apply h47; rw [zaq, zai]; exact idle_sum
    ·refine zac rfl rfl tv <| zam rfl rfl rfl rfl rfl rfl (gk rfl) <| zdo [] rfl (c46 x) (.cons ((subP rfl)) .nil) (fun k o h => by simp [Go.Vc.look] at h) rfl (gk rfl) (fun h50 => ?_) (fun h50 => ?_)
     ·refine zdq rfl rfl (gk rfl) <| zat rfl rfl rfl tv <| zac rfl rfl tv <| zac rfl rfl (gk rfl) <| zab rfl rfl rfl rfl rfl rfl (gk rfl) <| zab rfl rfl rfl rfl rfl rfl (gk rfl) <| zah rfl rfl rfl rfl rfl rfl (gk rfl) <| zdg rfl rfl rfl (gk rfl) (fun h58 => ?_) (fun h58 => ?_)
      ·exact absurd rfl h58
      ·refine zat rfl rfl rfl tv <| zac rfl rfl tv <| zac rfl rfl (gk rfl) <| zab rfl rfl rfl rfl rfl rfl (gk rfl) <| zab rfl rfl rfl rfl rfl rfl (gk rfl) <| zah rfl rfl rfl rfl rfl rfl (gk rfl) <| zby rfl rfl rfl (gk rfl) <| zdg rfl rfl rfl (gk rfl) (fun h66 => ?_) (fun h66 => ?_)
       ·rw [zaq] at h66; exact absurd rfl h66
       ·refine zat rfl rfl rfl tv <| zaf (by kernel_rfl) <| zap rfl <| zax <| zaa <| zbz rfl rfl rfl (by unfold inI; omega) rfl tv <| zac rfl rfl tv <| zaf tv <| ⟨_, _, ren [(5, 5)], ?_, ⟨i + 1, ?_, rfl, rfl⟩, zay [(5, 5)] rfl rfl ⟨⟨_, rfl, (.ptr _ _ _ rfl (zak rfl))⟩, ⟨_, rfl, (.shr _ _)⟩, ⟨_, rfl, (.lit _)⟩, ⟨_, rfl, (.lit _)⟩, tv⟩ ⟨⟨_, _, rfl, rfl, (zbk rfl)⟩, tv⟩ (zaz hpar rfl)⟩
        ·omega
        ·omega
     ·rw [within_of hb] at h50; cases h50
   ·refine zaf tv <| zad <| zap rfl <| zbw <| iteP rfl <| zad ?_
    have hwk := zeb (n := n) (by omega) (by omega) l
    refine zbo <| zam rfl rfl rfl rfl rfl rfl tv <| zbi rfl (c47 (play n l).1 hwk.len.2) (.cons ((subP rfl)) .nil) rfl tv <| zam rfl rfl rfl rfl rfl rfl tv <| zbi rfl (c48 (play n l).1 hwk) (.cons ((subP rfl)) .nil) rfl tv <| u_eqlB rfl rfl rfl rfl tv <| zae rfl rfl tv <| zaf (by kernel_rfl) <| zaw <| fin0 (.inr rfl) (.cons (.tmp rfl (nb rfl)) .nil) (subB ?_)
    ·first | rfl | simp
end Go.Proofs.Ytaadloihphpdbaa
