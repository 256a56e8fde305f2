/- Walk of a law. Printed by a small program (walk.py). -/
import Derived.Test.YtaadloihphpdbaaZWView
set_option linter.unusedVariables false
set_option linter.unusedSimpArgs false
set_option maxRecDepth 4000
namespace Go.Proofs.Ytaadloihphpdbaa
open Go Go.Vc Go.RowKit
theorem c14 (n : Int) (l : List Step) (t : Int) (hm : ∀ s ∈ l, inI s.m) : VFun G 14 [.lit (.int .i64 n), .shr 7 (stepCells l), .lit (.int .i64 t)] [] (.lit (.bool true)) [] := by
 refine VFun.intro (fn := Try.f14) rfl rfl (by kernel_rfl) (nb rfl) fun Γ hpar => ?_
 refine zad <| zaa <| zae rfl rfl tv <| zaf tv <| zad <| zad <| zaa <| zbi rfl (c75) .nil rfl tv <| zdq rfl rfl tv <| zaf tv <| zap rfl <| zax <| zad <| zad <| zaa <| zac rfl rfl tv <| zcg rfl rfl rfl tv (fun h18 => ?_) (fun h18 => ?_)
 ·refine zac rfl rfl tv <| zag rfl rfl rfl rfl rfl <| zag rfl rfl rfl rfl rfl <| zav rfl rfl rfl tv <| zac rfl rfl tv <| zag rfl rfl rfl rfl rfl <| zag rfl rfl rfl rfl rfl <| zav rfl rfl rfl tv <| zac rfl rfl tv <| zag rfl rfl rfl rfl rfl <| zag rfl rfl rfl rfl rfl <| zag rfl rfl rfl rfl rfl <| zav rfl rfl rfl tv <| zac rfl rfl tv <| zag rfl rfl rfl rfl rfl <| zag rfl rfl rfl rfl rfl <| zag rfl rfl rfl rfl rfl <| zav rfl rfl rfl tv <| zaf tv <| zao rfl <| zad <| zaa <| zae rfl rfl tv <| zaf tv <| zaw <| fin0 (.inr rfl) (.cons (.tmp rfl (nb rfl)) .nil) (subB ?_)
  ·first | rfl | (rw [htt]; simp)
 ·refine zac rfl rfl tv <| zac rfl rfl (gk rfl) <| zdr rfl rfl rfl (gk rfl) (fun h21 => ?_) (fun h21 => ?_)
  ·refine zat rfl rfl rfl tv <| zac rfl rfl tv <| zag rfl rfl rfl rfl rfl <| zag rfl rfl rfl rfl rfl <| zav rfl rfl rfl tv <| zac rfl rfl tv <| zag rfl rfl rfl rfl rfl <| zag rfl rfl rfl rfl rfl <| zag rfl rfl rfl rfl rfl <| zav rfl rfl rfl tv <| zac rfl rfl tv <| zag rfl rfl rfl rfl rfl <| zag rfl rfl rfl rfl rfl <| zag rfl rfl rfl rfl rfl <| zav rfl rfl rfl tv <| zaf tv <| zao rfl <| zad <| zaa <| zae rfl rfl tv <| zaf tv <| zaw <| fin0 (.inr rfl) (.cons (.tmp rfl (nb rfl)) .nil) (subB ?_)
   ·first | rfl | (rw [htt]; simp)
  ·refine zat rfl rfl rfl tv <| zac rfl rfl tv <| zac rfl rfl (gk rfl) <| zcg rfl rfl rfl (gk rfl) (fun h25 => ?_) (fun h25 => ?_)
   ·refine zat rfl rfl rfl tv <| zac rfl rfl tv <| zag rfl rfl rfl rfl rfl <| zag rfl rfl rfl rfl rfl <| zag rfl rfl rfl rfl rfl <| zav rfl rfl rfl tv <| zac rfl rfl tv <| zag rfl rfl rfl rfl rfl <| zag rfl rfl rfl rfl rfl <| zag rfl rfl rfl rfl rfl <| zav rfl rfl rfl tv <| zaf tv <| zao rfl <| zad <| zaa <| zae rfl rfl tv <| zaf tv <| zaw <| fin0 (.inr rfl) (.cons (.tmp rfl (nb rfl)) .nil) (subB ?_)
    ·first | rfl | (rw [htt]; simp)
   ·refine zat rfl rfl rfl tv <| zac rfl rfl tv <| zac rfl rfl (gk rfl) <| zac rfl rfl (gk rfl) <| s_geq rfl rfl rfl (gk rfl) (fun h30 => ?_) (fun h30 => ?_)
    ·refine zat rfl rfl rfl tv <| zac rfl rfl tv <| zag rfl rfl rfl rfl rfl <| zag rfl rfl rfl rfl rfl <| zag rfl rfl rfl rfl rfl <| zav rfl rfl rfl tv <| zaf tv <| zao rfl <| zad <| zaa <| zae rfl rfl tv <| zaf tv <| zaw <| fin0 (.inr rfl) (.cons (.tmp rfl (nb rfl)) .nil) (subB ?_)
     ·first | rfl | (rw [htt]; simp)
    ·refine zat rfl rfl rfl tv <| zac rfl rfl tv <| zac rfl rfl (gk rfl) <| zby rfl rfl rfl (gk rfl) <| zdr rfl rfl rfl (gk rfl) (fun h35 => ?_) (fun h35 => ?_)
     ·refine zat rfl rfl rfl tv <| zaf tv <| zao rfl <| zad <| zaa <| zae rfl rfl tv <| zaf tv <| zaw <| fin0 (.inr rfl) (.cons (.tmp rfl (nb rfl)) .nil) (subB ?_)
      ·first | rfl | (rw [htt]; simp)
     ·refine zat rfl rfl rfl tv <| zaf tv <| zap rfl <| zax <| zad ?_
      simp only [zbf] at h35
      refine zaa <| zac rfl rfl tv <| zac rfl rfl tv <| zbi rfl (c43 n l (by omega) hm) (.cons ((.lit _)) (.cons ((.shr _ _)) .nil)) rfl tv <| zac rfl rfl tv <| zas rfl rfl rfl tv <| zas rfl rfl rfl tv <| zbd 100 rfl rfl (zar hpar rfl) rfl rfl tv <| zaj rfl rfl rfl rfl rfl rfl rfl rfl tv <| zae rfl rfl tv <| zaf tv <| zad <| zaa <| zac rfl rfl tv <| zac rfl rfl tv <| zac rfl rfl tv <| zbi rfl (c72 l t (by omega)) (.cons ((.shr _ _)) (.cons ((.lit _)) .nil)) rfl tv <| zbi rfl (c43 n (zcv t l) (by omega) (only_mem hm)) (.cons ((.lit _)) (.cons ((.shr _ _)) .nil)) rfl tv <| zac rfl rfl tv <| zas rfl rfl rfl tv <| zas rfl rfl rfl tv <| zbd 101 rfl rfl (zar hpar rfl) rfl rfl tv <| zaj rfl rfl rfl rfl rfl rfl rfl rfl tv <| zae rfl rfl tv <| zaf tv <| zad ?_
      obtain ⟨q, ht⟩ : ∃ q : Nat, t = q := ⟨t.toNat, by omega⟩
      have hwk := zeb (n := n) (by omega) (by omega) l
      have hwk2 := zeb (n := n) (by omega) (by omega) (zcv t l)
      have hln := zdw (n := n) (by omega) (by omega) l
      have hln2 := zdw (n := n) (by omega) (by omega) (zcv t l)
      have hol := zfj t l
      obtain ⟨x, hx⟩ : ∃ x, (play n l).1.lanes[q]? = some x := ⟨_, List.getElem?_eq_getElem (by omega)⟩
      obtain ⟨y, hy⟩ : ∃ y, (play n (zcv t l)).1.lanes[q]? = some y := ⟨_, List.getElem?_eq_getElem (by omega)⟩
      obtain ⟨hxy, htt⟩ := lanes_same (by omega) (by omega) ht hx hy (by omega) (by omega) (onlyOf_idem t l).symm
      refine zaa <| zam rfl rfl rfl rfl rfl rfl tv <| zac rfl rfl tv <| zbi rfl (c70y (play n l).1 t q ht x hx (hwk.b x (List.mem_of_getElem? hx))) (.cons ((subP rfl)) (.cons ((.lit _)) .nil)) rfl tv <| zac rfl rfl tv <| zas rfl rfl rfl tv <| zas rfl rfl rfl tv <| zbd 102 rfl rfl (zar hpar rfl) rfl rfl tv <| zaj rfl rfl rfl rfl rfl rfl rfl rfl tv <| zae rfl rfl tv <| zaf tv <| zad <| zaa <| zam rfl rfl rfl rfl rfl rfl tv <| zac rfl rfl tv <| zbi rfl (c70y (play n (zcv t l)).1 t q ht y hy (hwk2.b y (List.mem_of_getElem? hy))) (.cons ((subP rfl)) (.cons ((.lit _)) .nil)) rfl tv <| zac rfl rfl tv <| zas rfl rfl rfl tv <| zas rfl rfl rfl tv <| zbd 103 rfl rfl (zar hpar rfl) rfl rfl tv <| zaj rfl rfl rfl rfl rfl rfl rfl rfl tv <| zae rfl rfl tv <| zaf tv <| zad <| zaa <| zac rfl rfl tv <| zac rfl rfl tv <| zac rfl rfl (gk rfl) <| zav rfl rfl rfl tv <| zac rfl rfl tv ?_
      refine zam rfl rfl rfl rfl rfl rfl (gk rfl) <| zam rfl rfl rfl rfl rfl rfl (gk rfl) <| zdo [] rfl (c71 x y) (.cons ((subP rfl)) (.cons ((subP rfl)) .nil)) (fun k o h => by simp [Go.Vc.look] at h) rfl (gk rfl) (fun h70 => ?_) (fun h70 => ?_)
      ·refine zav rfl rfl rfl tv <| zac rfl rfl tv <| zab rfl rfl rfl rfl rfl rfl (gk rfl) <| zah rfl rfl rfl rfl rfl rfl (gk rfl) <| zab rfl rfl rfl rfl rfl rfl (gk rfl) <| zah rfl rfl rfl rfl rfl rfl (gk rfl) <| u_eql rfl rfl rfl (gk rfl) <| zav rfl rfl rfl tv <| zae rfl rfl tv <| zaf tv <| zaw <| fin0 (.inr rfl) (.cons (.tmp rfl (nb rfl)) .nil) (subB ?_)
       ·first | rfl | (rw [htt]; simp)
      ·exfalso; rw [hxy] at h70; simp at h70
end Go.Proofs.Ytaadloihphpdbaa
