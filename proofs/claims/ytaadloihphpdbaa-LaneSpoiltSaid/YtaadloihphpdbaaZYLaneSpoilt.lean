/- Walk of a law. Printed by a small program (walk.py). -/
import Derived.Test.YtaadloihphpdbaaZWLane6
set_option linter.unusedVariables false
set_option linter.unusedSimpArgs false
set_option maxRecDepth 4000
namespace Go.Proofs.Ytaadloihphpdbaa
open Go Go.Vc Go.RowKit
theorem c32 (n : Int) (l : List Step) (k a : Int) (b : Bool) (hm : ∀ s ∈ l, inI s.m) (ha : inI a) : VFun G 32 [.lit (.int .i64 n), .shr 7 (stepCells l), .lit (.int .i64 k), .lit (.int .i64 a), .lit (.bool b)] [] (.lit (.bool true)) [] := by
 refine VFun.intro (fn := Try.f32) rfl rfl (by kernel_rfl) (nb rfl) fun Γ hpar => ?_
 refine zad <| vw_len (t := 1) rfl fun hl => ?_
 rw [zbf] at hl
 refine zaa <| zae rfl rfl tv <| zaf tv <| zad <| zad <| zaa <| zbi rfl (c123) .nil rfl tv <| zdq rfl rfl tv <| zaf tv <| zap rfl <| zax <| zad <| zad <| zaa <| zac rfl rfl tv <| zby rfl rfl rfl tv <| zac rfl rfl tv <| zaf tv <| zbb <| zbt (fun n_ E => ∃ (i : Nat), ((i ≤ l.length) ∧ ((l.take i).all (fun s => decide (s.kind ≠ 6)) = true)) ∧ n_ = l.length - i ∧ E = ⟨[(0, .lit (.int .i64 n)), (1, .shr 7 (stepCells l)), (2, .lit (.int .i64 k)), (3, .lit (.int .i64 a)), (4, .lit (.bool b)), (23, .shr 7 (stepCells l)), (24, .lit (.int .i64 (stepCells l).length)), (25, .lit (.int .i64 i))], [], 79⟩) (n0 := _) (E0 := _) (⟨0, by exact ⟨Nat.zero_le _, rfl⟩, rfl, rfl⟩) (ren []) (zay [] rfl rfl ⟨⟨_, rfl, (.lit _)⟩, ⟨_, rfl, (.shr _ _)⟩, ⟨_, rfl, (.lit _)⟩, ⟨_, rfl, (.lit _)⟩, ⟨_, rfl, (.lit _)⟩, ⟨_, rfl, (.shr _ _)⟩, ⟨_, rfl, (.lit _)⟩, ⟨_, rfl, (.lit _)⟩, tv⟩ tv (zaz hpar rfl)) (fun n_ E hR => ?_)
 obtain ⟨i, hI, rfl, rfl⟩ := hR
 obtain ⟨hI0, hI1⟩ := hI
 refine zad <| zaa <| zcg rfl rfl rfl tv (fun h26 => ?_) (fun h26 => ?_)
 ·refine zaf tv <| zad <| zao rfl <| zax <| zad <| zbb <| zad ?_
  rw [zbf] at h26
  obtain ⟨s, hs⟩ : ∃ s, l[i]? = some s := ⟨_, List.getElem?_eq_getElem (by omega)⟩
  refine zaa <| zbh rfl rfl rfl rfl rfl rfl (zbq hs) rfl tv <| zbu rfl rfl rfl rfl rfl tv <| zbd 120 rfl rfl (zar hpar rfl) rfl rfl tv <| zaj rfl rfl rfl rfl rfl rfl rfl rfl tv <| zaf tv <| zad <| zaa <| zab rfl rfl rfl rfl rfl rfl tv <| zah rfl rfl rfl rfl rfl rfl tv <| zci rfl rfl rfl tv (fun h31 => ?_) (fun h31 => ?_)
  ·refine zaf tv <| zao rfl <| zad <| zaa <| zae rfl rfl tv <| zaf tv <| zaw <| fin0 (.inr rfl) (.cons (.tmp rfl (nb rfl)) .nil) (subB ?_)
   ·rfl
  ·refine zaf tv <| zap rfl <| zax <| zaa <| zbz rfl rfl rfl (by unfold inI; omega) rfl tv <| zac rfl rfl tv <| zaf tv <| ⟨_, _, ren [], ?_, ⟨i + 1, ?_, rfl, rfl⟩, zay [] rfl rfl ⟨⟨_, rfl, (.lit _)⟩, ⟨_, rfl, (.shr _ _)⟩, ⟨_, rfl, (.lit _)⟩, ⟨_, rfl, (.lit _)⟩, ⟨_, rfl, (.lit _)⟩, ⟨_, rfl, (.shr _ _)⟩, ⟨_, rfl, (.lit _)⟩, ⟨_, rfl, (.lit _)⟩, tv⟩ tv (zaz hpar rfl)⟩
   ·omega
   ·refine ⟨by omega, ?_⟩
    rw [all_take hs, hI1]; simpa using h31
 ·refine zaf tv <| zad <| zap rfl <| zbw <| iteP rfl <| zad ?_
  rw [zbf] at h26
  rw [List.take_of_length_le (by omega)] at hI1
  have hsp := spoilN_zero hI1
  refine zaa <| zac rfl rfl tv <| zac rfl rfl tv <| zbi rfl (c114 n l hm) (.cons ((.lit _)) (.cons ((.shr _ _)) .nil)) rfl tv <| zac rfl rfl tv <| zas rfl rfl rfl tv <| zas rfl rfl rfl tv <| zbd 120 rfl rfl (zar hpar rfl) rfl rfl tv <| zaj rfl rfl rfl rfl rfl rfl rfl rfl tv <| zae rfl rfl tv <| zaf tv <| zad <| zad <| zaa <| s_move rfl rfl tv (fun h39 => ?_) (fun h39 => ?_)
  ·refine zdq rfl rfl tv <| zaf tv <| zap rfl <| zax <| zad ?_
   have hn13 : ¬ (n < 1 ∨ 3 < n) := by have := h39; simp at this; omega
   have hli := laneOf_i (l := l) hn13 (by omega)
   rw [hsp] at hli
   refine zaa <| zam rfl rfl rfl rfl rfl rfl tv <| zac rfl rfl tv <| zac rfl rfl tv <| zac rfl rfl tv <| zbi rfl (c122 (zee n l) k a b (zfe n l) ha) (.cons ((subP rfl)) (.cons ((.lit _)) (.cons ((.lit _)) (.cons ((.lit _)) .nil)))) rfl tv <| zac rfl rfl tv <| zas rfl rfl rfl tv <| zas rfl rfl rfl tv <| zbd 121 rfl rfl (zar hpar rfl) rfl rfl tv <| zaj rfl rfl rfl rfl rfl rfl rfl rfl tv <| zae rfl rfl tv <| zaf tv <| zad <| zad <| zaa <| zac rfl rfl tv <| zdg rfl rfl rfl tv (fun h50 => ?_) (fun h50 => ?_)
   ·refine zaf tv <| zao rfl <| zad <| zaa <| zam rfl rfl rfl rfl rfl rfl tv <| zam rfl rfl rfl rfl rfl rfl tv <| zbi rfl (c71 (zcp (zee n l) 6 k a b).1 (zee n l)) (.cons ((subP rfl)) (.cons ((subP rfl)) .nil)) rfl tv <| zae rfl rfl tv <| zaf tv <| zaw <| fin0 (.inr rfl) (.cons (.tmp rfl (nb rfl)) .nil) (subB ?_)
    ·rw [packet_err (by omega)]; simp
   ·refine zaf tv <| zap rfl <| zax <| zad ?_
    obtain ⟨q1, q2⟩ := spoilt_lost (show LInv false _ _ from hli) (n := k) (a := a) (b := b) (by omega)
    refine zaa <| zam rfl rfl rfl rfl rfl rfl tv <| zac rfl rfl tv <| zac rfl rfl tv <| zbi rfl (c118 (zcp (zee n l) 6 k a b).1 k b (zdy (zfe n l) 6 k a b)) (.cons ((subP rfl)) (.cons ((.lit _)) (.cons ((.lit _)) .nil))) rfl tv <| zac rfl rfl tv <| zas rfl rfl rfl tv <| zas rfl rfl rfl tv <| zbd 122 rfl rfl (zar hpar rfl) rfl rfl tv <| zaj rfl rfl rfl rfl rfl rfl rfl rfl tv <| zae rfl rfl tv <| zaf tv <| zad <| zaa <| zam rfl rfl rfl rfl rfl rfl tv <| zac rfl rfl tv <| zac rfl rfl tv <| zbi rfl (c120 (zee n l) k b (zfe n l)) (.cons ((subP rfl)) (.cons ((.lit _)) (.cons ((.lit _)) .nil))) rfl tv <| zac rfl rfl tv <| zas rfl rfl rfl tv <| zas rfl rfl rfl tv <| zbd 123 rfl rfl (zar hpar rfl) rfl rfl tv <| zaj rfl rfl rfl rfl rfl rfl rfl rfl tv <| zae rfl rfl tv <| zaf tv <| zad <| zaa <| zac rfl rfl tv <| zci rfl rfl rfl tv (fun h69 => ?_) (fun h69 => ?_)
    ·refine zac rfl rfl tv <| zac rfl rfl (gk rfl) <| zci rfl rfl rfl (gk rfl) (fun h72 => ?_) (fun h72 => ?_)
     ·refine zav rfl rfl rfl tv <| zac rfl rfl tv <| zam rfl rfl rfl rfl rfl rfl (gk rfl) <| zam rfl rfl rfl rfl rfl rfl (gk rfl) <| zbi rfl (c71 (zcp (zcp (zee n l) 6 k a b).1 3 k 0 b).1 (zcp (zee n l) 4 k 0 b).1) (.cons ((subP rfl)) (.cons ((subP rfl)) .nil)) rfl (gk rfl) <| zav rfl rfl rfl tv <| zae rfl rfl tv <| zaf tv <| zaw <| fin0 (.inr rfl) (.cons (.tmp rfl (nb rfl)) .nil) (subB ?_)
      ·rw [q1]; simp
     ·exact absurd q2 h72
    ·exact absurd (by rw [q1]; exact q2) h69
  ·refine zdq rfl rfl tv <| zaf tv <| zao rfl <| zad <| zaa <| zae rfl rfl tv <| zaf tv <| zaw <| fin0 (.inr rfl) (.cons (.tmp rfl (nb rfl)) .nil) (subB ?_)
   ·rfl
end Go.Proofs.Ytaadloihphpdbaa
