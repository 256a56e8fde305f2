/- Walk of a law. Printed by a small program (walk.py). -/
import Derived.Test.YtaadloihphpdbaaZWFair3
set_option linter.unusedVariables false
set_option linter.unusedSimpArgs false
set_option maxRecDepth 4000
namespace Go.Proofs.Ytaadloihphpdbaa
open Go Go.Vc Go.RowKit
theorem c38 (n : Int) (l : List Step) (hm : ∀ s ∈ l, inI s.m) : VFun G 38 [.lit (.int .i64 n), .shr 7 (stepCells l)] [] (.lit (.bool true)) [] := by
 refine VFun.intro (fn := Try.f38) rfl rfl (by kernel_rfl) (nb rfl) fun Γ hpar => ?_
 refine zad <| vw_len (t := 1) rfl fun hl => ?_
 rw [zbf] at hl
 refine zaa <| zae rfl rfl tv <| zaf tv <| zad <| zad <| zaa <| zbi rfl (c133) .nil rfl tv <| zdq rfl rfl tv <| zaf tv <| zap rfl <| zax <| zad <| zad <| zaa <| zac rfl rfl tv <| zby rfl rfl rfl tv <| zac rfl rfl tv <| zaf tv <| zbb <| zbt (fun n_ E => ∃ (i : Nat), ((i ≤ l.length) ∧ ((l.take i).all (fun s => decide (s.kind ≠ 6)) = true)) ∧ n_ = l.length - i ∧ E = ⟨[(0, .lit (.int .i64 n)), (1, .shr 7 (stepCells l)), (16, .shr 7 (stepCells l)), (17, .lit (.int .i64 (stepCells l).length)), (18, .lit (.int .i64 i))], [], 85⟩) (n0 := _) (E0 := _) (⟨0, by exact ⟨Nat.zero_le _, rfl⟩, rfl, rfl⟩) (ren []) (zay [] rfl rfl ⟨⟨_, rfl, (.lit _)⟩, ⟨_, rfl, (.shr _ _)⟩, ⟨_, rfl, (.shr _ _)⟩, ⟨_, rfl, (.lit _)⟩, ⟨_, rfl, (.lit _)⟩, tv⟩ tv (zaz hpar rfl)) (fun n_ E hR => ?_)
 obtain ⟨i, hI, rfl, rfl⟩ := hR
 obtain ⟨hI0, hI1⟩ := hI
 refine zad <| zaa <| zcg rfl rfl rfl tv (fun h19 => ?_) (fun h19 => ?_)
 ·refine zaf tv <| zad <| zao rfl <| zax <| zad <| zbb <| zad ?_
  rw [zbf] at h19
  obtain ⟨s, hs⟩ : ∃ s, l[i]? = some s := ⟨_, List.getElem?_eq_getElem (by omega)⟩
  refine zaa <| zbh rfl rfl rfl rfl rfl rfl (zbq hs) rfl tv <| zbu rfl rfl rfl rfl rfl tv <| zbd 120 rfl rfl (zar hpar rfl) rfl rfl tv <| zaj rfl rfl rfl rfl rfl rfl rfl rfl tv <| zaf tv <| zad <| zaa <| zab rfl rfl rfl rfl rfl rfl tv <| zah rfl rfl rfl rfl rfl rfl tv <| zci rfl rfl rfl tv (fun h24 => ?_) (fun h24 => ?_)
  ·refine zaf tv <| zao rfl <| zad <| zaa <| zae rfl rfl tv <| zaf tv <| zaw <| fin0 (.inr rfl) (.cons (.tmp rfl (nb rfl)) .nil) (subB ?_)
   ·rfl
  ·refine zaf tv <| zap rfl <| zax <| zaa <| zbz rfl rfl rfl (by unfold inI; omega) rfl tv <| zac rfl rfl tv <| zaf tv <| ⟨_, _, ren [], ?_, ⟨i + 1, ?_, rfl, rfl⟩, zay [] rfl rfl ⟨⟨_, rfl, (.lit _)⟩, ⟨_, rfl, (.shr _ _)⟩, ⟨_, rfl, (.shr _ _)⟩, ⟨_, rfl, (.lit _)⟩, ⟨_, rfl, (.lit _)⟩, tv⟩ tv (zaz hpar rfl)⟩
   ·omega
   ·refine ⟨by omega, ?_⟩
    rw [all_take hs, hI1]; simpa using h24
 ·refine zaf tv <| zad <| zap rfl <| zbw <| iteP rfl <| zad <| zad ?_
  rw [zbf] at h19
  rw [List.take_of_length_le (by omega)] at hI1
  have hsp := spoilN_zero hI1
  refine zaa <| zac rfl rfl tv <| zcg rfl rfl rfl tv (fun h27 => ?_) (fun h27 => ?_)
  ·refine zac rfl rfl tv <| zag rfl rfl rfl rfl rfl <| zag rfl rfl rfl rfl rfl <| zav rfl rfl rfl tv <| zaf tv <| zao rfl <| zad <| zaa <| zae rfl rfl tv <| zaf tv <| zaw <| fin0 (.inr rfl) (.cons (.tmp rfl (nb rfl)) .nil) (subB ?_)
   ·rfl
  ·refine zac rfl rfl tv <| zac rfl rfl (gk rfl) <| zdr rfl rfl rfl (gk rfl) (fun h30 => ?_) (fun h30 => ?_)
   ·refine zat rfl rfl rfl tv <| zaf tv <| zao rfl <| zad <| zaa <| zae rfl rfl tv <| zaf tv <| zaw <| fin0 (.inr rfl) (.cons (.tmp rfl (nb rfl)) .nil) (subB ?_)
    ·rfl
   ·refine zat rfl rfl rfl tv <| zaf tv <| zap rfl <| zax <| zad <| zaa <| zac rfl rfl tv <| zac rfl rfl tv <| zbi rfl (c43 n l (by omega) hm) (.cons ((.lit _)) (.cons ((.shr _ _)) .nil)) rfl tv <| zac rfl rfl tv <| zas rfl rfl rfl tv <| zas rfl rfl rfl tv <| zbd 120 rfl rfl (zar hpar rfl) rfl rfl tv <| zaj rfl rfl rfl rfl rfl rfl rfl rfl tv <| zae rfl rfl tv <| zaf tv <| zad ?_
    have hwk := zeb (n := n) (by omega) (by omega) l
    have htk := (zet (n := n) (by omega) (by omega) l).2
    have hln := zdw (n := n) (by omega) (by omega) l
    have hes := plays_es (l.take 160) (zco n)
    have hlt := List.length_take_le 160 l
    have hpe : (play n l).2.length ≤ 160 := by unfold play; omega
    obtain ⟨q1, q2, q3⟩ := settle_ends hwk (Hs := fun t => zdm t l (play n l).2) (play_all_i (by omega) hsp)
    have hsl := settle_le 200 (play n l).1
    refine zaa <| zam rfl rfl rfl rfl rfl rfl tv <| zbi rfl (c88 (play n l).1 hwk (by omega)) (.cons ((subP rfl)) .nil) rfl tv <| zac rfl rfl tv <| zas rfl rfl rfl tv <| zas rfl rfl rfl tv <| zbd 121 rfl rfl (zar hpar rfl) rfl rfl tv <| zaj rfl rfl rfl rfl rfl rfl rfl rfl tv <| zae rfl rfl tv <| zaf tv <| zad <| zad <| zaa <| zac rfl rfl tv <| zdr rfl rfl rfl tv (fun h44 => ?_) (fun h44 => ?_)
    ·exfalso; omega
    ·refine zac rfl rfl tv <| zab rfl rfl rfl rfl rfl rfl (gk rfl) <| zah rfl rfl rfl rfl rfl rfl (gk rfl) <| zby rfl rfl rfl (gk rfl) <| zac rfl rfl (gk rfl) <| zdg rfl rfl rfl (gk rfl) (fun h50 => ?_) (fun h50 => ?_)
     ·exfalso; rw [zbg] at h50; omega
     ·refine zat rfl rfl rfl tv <| zac rfl rfl tv <| zam rfl rfl rfl rfl rfl rfl (gk rfl) <| zdo [] rfl (c48 (zcr 200 (play n l).1).1 (settle_ok hwk)) (.cons ((subP rfl)) .nil) (fun k o h => by simp [Go.Vc.look] at h) rfl (gk rfl) (fun h54 => ?_) (fun h54 => ?_)
      ·refine zdq rfl rfl (gk rfl) <| zat rfl rfl rfl tv <| zaf tv <| zap rfl <| zax <| zad <| zad <| zaa <| zab rfl rfl rfl rfl rfl rfl tv <| zah rfl rfl rfl rfl rfl rfl tv <| zby rfl rfl rfl tv <| zac rfl rfl tv <| zaf tv <| zbb <| zbt (fun n_ E => ∃ (i : Nat), ((i ≤ (zcr 200 (play n l).1).1.lanes.length)) ∧ n_ = (zcr 200 (play n l).1).1.lanes.length - i ∧ E = ⟨[(1, .shr 7 (stepCells l)), (8, .shr 1 (intCells (play n l).2)), (58, .shr 17 (zcc (zcr 200 (play n l).1).1.lanes)), (59, .lit (.int .i64 (zcc (zcr 200 (play n l).1).1.lanes).length)), (60, .lit (.int .i64 i))], [], 85⟩) (n0 := _) (E0 := _) (⟨0, by omega, rfl, rfl⟩) (ren []) (zay [] rfl rfl ⟨⟨_, rfl, (.shr _ _)⟩, ⟨_, rfl, (.shr _ _)⟩, ⟨_, rfl, (.shr _ _)⟩, ⟨_, rfl, (.lit _)⟩, ⟨_, rfl, (.lit _)⟩, tv⟩ tv (zaz hpar rfl)) (fun n_ E hR => ?_)
       obtain ⟨i, hI, rfl, rfl⟩ := hR
       have hI0 := hI
       refine zad <| zaa <| zcg rfl rfl rfl tv (fun h61 => ?_) (fun h61 => ?_)
       ·refine zaf tv <| zad <| zao rfl <| zax <| zad <| zbb <| zad ?_
        rw [zbg] at h61
        obtain ⟨x, hx⟩ : ∃ x, (zcr 200 (play n l).1).1.lanes[i]? = some x := ⟨_, List.getElem?_eq_getElem (by omega)⟩
        have hli : LInv false (zdm i l (play n l).2) x := by
          have := q3 i (by omega)
          simpa [List.getD, hx] using this
        have hid : idleB x = true := by
          have := stillB_iff.1 q1 i (by omega)
          simpa [List.getD, hx] using this
        have hfi := linv_fits hli
        have hto := (linv_idle hli hid).2
        have hpl := putsOf_len2 (t := i) l (play n l).2
        have hhl := hold_len hli.r.inv
        refine zaa <| zac rfl rfl tv <| zbh rfl rfl rfl rfl rfl rfl (zbr hx) rfl tv <| zbu rfl rfl rfl rfl rfl tv <| zbd 142 rfl rfl (zar hpar rfl) rfl rfl tv <| zae rfl rfl tv <| zaj rfl rfl rfl rfl rfl rfl rfl rfl tv <| zaf tv <| zad <| zaa <| zac rfl rfl tv <| zac rfl rfl tv <| zac rfl rfl tv <| zbi rfl (c74 l (play n l).2 i (by omega)) (.cons ((.shr _ _)) (.cons ((.shr _ _)) (.cons ((.lit _)) .nil))) rfl tv <| zae rfl rfl tv <| zaf tv <| zad <| zaa <| zab rfl rfl rfl rfl rfl rfl tv <| zab rfl rfl rfl rfl rfl rfl tv <| zah rfl rfl rfl rfl rfl rfl tv <| zac rfl rfl tv <| zdo [] rfl (c67 x.r.told (zdm i l (play n l).2) (by omega) (by omega)) (.cons ((.shr _ _)) (.cons ((.shr _ _)) .nil)) (fun k o h => by simp [Go.Vc.look] at h) rfl tv (fun h73 => ?_) (fun h73 => ?_)
        ·refine zdq rfl rfl tv <| zac rfl rfl tv <| zab rfl rfl rfl rfl rfl rfl (gk rfl) <| zab rfl rfl rfl rfl rfl rfl (gk rfl) <| zah rfl rfl rfl rfl rfl rfl (gk rfl) <| zby rfl rfl rfl (gk rfl) <| zac rfl rfl (gk rfl) <| zby rfl rfl rfl (gk rfl) <| zdg rfl rfl rfl (gk rfl) (fun h82 => ?_) (fun h82 => ?_)
         ·exfalso; simp only [zaq] at h82; omega
         ·refine zat rfl rfl rfl tv <| zaf tv <| zap rfl <| zax <| zaa <| zbz rfl rfl rfl (by unfold inI; omega) rfl tv <| zac rfl rfl tv <| zaf tv <| ⟨_, _, ren [], ?_, ⟨i + 1, ?_, rfl, rfl⟩, zay [] rfl rfl ⟨⟨_, rfl, (.shr _ _)⟩, ⟨_, rfl, (.shr _ _)⟩, ⟨_, rfl, (.shr _ _)⟩, ⟨_, rfl, (.lit _)⟩, ⟨_, rfl, (.lit _)⟩, tv⟩ tv (zaz hpar rfl)⟩
          ·omega
          ·omega
        ·rw [hfi] at h73; cases h73
       ·refine zaf tv <| zad <| zap rfl <| zbw <| iteP rfl <| zad <| zaa <| zae rfl rfl tv <| zaf tv <| zaw <| fin0 (.inr rfl) (.cons (.tmp rfl (nb rfl)) .nil) (subB ?_)
        ·rfl
      ·rw [q1] at h54; cases h54
end Go.Proofs.Ytaadloihphpdbaa
