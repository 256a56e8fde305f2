/- Walk of a law. Printed by a small program (walk.py). -/
import Derived.Test.YtaadloihphpdbaaZWFair3
set_option linter.unusedVariables false
set_option linter.unusedSimpArgs false
set_option maxRecDepth 4000
namespace Go.Proofs.Ytaadloihphpdbaa
open Go Go.Vc Go.RowKit
theorem c37 (n : Int) (l : List Step) (hm : ∀ s ∈ l, inI s.m) : VFun G 37 [.lit (.int .i64 n), .shr 7 (stepCells l)] [] (.lit (.bool true)) [] := by
 refine VFun.intro (fn := Try.f37) rfl rfl (by kernel_rfl) (nb rfl) fun Γ hpar => ?_
 refine zad <| zaa <| zae rfl rfl tv <| zaf tv <| zad ?_
 by_cases he : newErr n = 0
 all_goals by_cases hl160 : l.length ≤ 160
 ·refine zaa <| zac rfl rfl tv <| zac rfl rfl tv <| zbi rfl (c87c hm he hl160) (.cons ((.lit _)) (.cons ((.shr _ _)) .nil)) rfl tv <| zac rfl rfl tv <| zas rfl rfl rfl tv <| zas rfl rfl rfl tv <| zas rfl rfl rfl tv <| zbd 100 rfl rfl (zar hpar rfl) rfl rfl tv <| zaj rfl rfl rfl rfl rfl rfl rfl rfl tv <| zae rfl rfl tv <| zae rfl rfl tv <| zaf tv <| zad <| zaa <| zac rfl rfl tv <| zbi rfl (c126 n) (.cons ((.lit _)) .nil) rfl tv <| zac rfl rfl tv <| zas rfl rfl rfl tv <| zas rfl rfl rfl tv <| zbd 101 rfl rfl (zar hpar rfl) rfl rfl tv <| zaj rfl rfl rfl rfl rfl rfl rfl rfl tv <| zae rfl rfl tv <| zaf tv <| zad <| zad <| zaa <| zac rfl rfl tv <| zci rfl rfl rfl tv (fun h29 => ?_) (fun h29 => ?_)
  ·refine zac rfl rfl tv <| zac rfl rfl (gk rfl) <| zby rfl rfl rfl (gk rfl) <| zdr rfl rfl rfl (gk rfl) (fun h33 => ?_) (fun h33 => ?_)
   ·exfalso; rw [zbf] at h33; omega
   ·refine zav rfl rfl rfl tv <| zaf tv <| zap rfl <| zax <| zad <| zad <| zaa <| zac rfl rfl tv <| zdg rfl rfl rfl tv (fun h36 => ?_) (fun h36 => ?_)
    ·exact absurd he h36
    ·refine zaf tv <| zap rfl <| zax <| zad ?_
     have hn := newErr_ok (n := n) he
     have hwk := zeb (n := n) (by omega) (by omega) l
     have htk := (zet (n := n) (by omega) (by omega) l).2
     have hln := zdw (n := n) (by omega) (by omega) l
     have hes := plays_es (l.take 160) (zco n)
     have hlt := List.length_take_le 160 l
     have hpe : (play n l).2.length ≤ 160 := by unfold play; omega
     refine zaa <| zac rfl rfl tv <| zac rfl rfl tv <| zbi rfl (c43 n l (by omega) hm) (.cons ((.lit _)) (.cons ((.shr _ _)) .nil)) rfl tv <| zac rfl rfl tv <| zas rfl rfl rfl tv <| zas rfl rfl rfl tv <| zbd 102 rfl rfl (zar hpar rfl) rfl rfl tv <| zaj rfl rfl rfl rfl rfl rfl rfl rfl tv <| zae rfl rfl tv <| zaf tv <| zad <| zad <| zaa <| zac rfl rfl tv <| zdg rfl rfl rfl tv (fun h56 => ?_) (fun h56 => ?_)
     ·exact absurd rfl h56
     ·refine zac rfl rfl tv <| zac rfl rfl (gk rfl) <| zby rfl rfl rfl (gk rfl) <| zac rfl rfl (gk rfl) <| zby rfl rfl rfl (gk rfl) <| zdg rfl rfl rfl (gk rfl) (fun h62 => ?_) (fun h62 => ?_)
      ·exact absurd rfl h62
      ·refine zat rfl rfl rfl tv <| zac rfl rfl tv <| zam rfl rfl rfl rfl rfl rfl (gk rfl) <| zam rfl rfl rfl rfl rfl rfl (gk rfl) <| zdo [] rfl (c127 (play n l).1 (play n l).1 hwk.len.2) (.cons ((subP rfl)) (.cons ((subP rfl)) .nil)) (fun k o h => by simp [Go.Vc.look] at h) rfl (gk rfl) (fun h67 => ?_) (fun h67 => ?_)
       ·refine zdq rfl rfl (gk rfl) <| zat rfl rfl rfl tv <| zaf tv <| zap rfl <| zax <| zad <| zad <| zaa <| zac rfl rfl tv <| zby rfl rfl rfl tv <| zac rfl rfl tv <| zaf tv <| zbb <| zbt (fun n_ E => ∃ (i : Nat), ((i ≤ (play n l).2.length)) ∧ n_ = (play n l).2.length - i ∧ E = ⟨[(6, .shr 1 (intCells (play n l).2)), (10, .ptr 10 0), (11, .shr 1 (intCells (play n l).2)), (71, .lit (.int .i64 (intCells (play n l).2).length)), (72, .lit (.int .i64 i))], [(10, .box (zcu (play n l).1))], 115⟩) (n0 := _) (E0 := _) (⟨0, by omega, rfl, rfl⟩) (ren [(10, 102)]) (zay [(10, 102)] rfl rfl ⟨⟨_, rfl, (.shr _ _)⟩, ⟨_, rfl, (.ptr _ _ _ rfl (zak rfl))⟩, ⟨_, rfl, (.shr _ _)⟩, ⟨_, rfl, (.lit _)⟩, ⟨_, rfl, (.lit _)⟩, tv⟩ ⟨⟨_, _, rfl, rfl, (zbk rfl)⟩, tv⟩ (zaz hpar rfl)) (fun n_ E hR => ?_)
        obtain ⟨i, hI, rfl, rfl⟩ := hR
        have hI0 := hI
        refine zad <| zaa <| zcg rfl rfl rfl tv (fun h73 => ?_) (fun h73 => ?_)
        ·refine zaf tv <| zad <| zao rfl <| zax <| zad <| zbb <| zad ?_
         rw [zal] at h73
         obtain ⟨e, hge⟩ : ∃ e, (play n l).2[i]? = some e := ⟨_, List.getElem?_eq_getElem (by omega)⟩
         refine zaa <| zac rfl rfl tv <| zae rfl rfl tv <| zaf tv <| zad <| zbo <| zac rfl rfl tv <| zac rfl rfl tv <| zbh rfl rfl rfl rfl rfl rfl (zda hge) rfl tv <| zbv rfl rfl rfl rfl rfl tv <| zac rfl rfl tv <| zac rfl rfl tv <| zbh rfl rfl rfl rfl rfl rfl (zda hge) rfl tv <| zbv rfl rfl rfl rfl rfl tv <| zdg rfl rfl rfl tv (fun h83 => ?_) (fun h83 => ?_)
         ·exact absurd rfl h83
         ·refine zaf (by kernel_rfl) <| zap rfl <| zax <| zaa <| zbz rfl rfl rfl (by unfold inI; omega) rfl tv <| zac rfl rfl tv <| zaf tv <| ⟨_, _, ren [(10, 10)], ?_, ⟨i + 1, ?_, rfl, rfl⟩, zay [(10, 10)] rfl rfl ⟨⟨_, rfl, (.shr _ _)⟩, ⟨_, rfl, (.ptr _ _ _ rfl (zak rfl))⟩, ⟨_, rfl, (.shr _ _)⟩, ⟨_, rfl, (.lit _)⟩, ⟨_, rfl, (.lit _)⟩, tv⟩ ⟨⟨_, _, rfl, rfl, (zbk rfl)⟩, tv⟩ (zaz hpar rfl)⟩
          ·omega
          ·omega
        ·refine zaf tv <| zad <| zap rfl <| zbw <| iteP rfl <| zad <| zad <| zbo <| zam rfl rfl rfl rfl rfl rfl tv <| zbi rfl (c99 (play n l).1 hwk (by omega)) (.cons ((subP rfl)) .nil) rfl tv <| zam rfl rfl rfl rfl rfl rfl tv <| zbi rfl (c132 (play n l).1 hwk (by omega)) (.cons ((subP rfl)) .nil) rfl tv <| zdo [] rfl (c127 (zey (play n l).1) (zey (play n l).1) (wok_round hwk).len.2) (.cons ((subP rfl)) (.cons ((subP rfl)) .nil)) (fun k o h => by simp [Go.Vc.look] at h) rfl tv (fun h89 => ?_) (fun h89 => ?_)
         ·refine zdq rfl rfl tv <| zaf (by kernel_rfl) <| zap rfl <| zax <| zad <| zaa <| zam rfl rfl rfl rfl rfl rfl tv <| zbi rfl (c88 (play n l).1 hwk (by omega)) (.cons ((subP rfl)) .nil) rfl tv <| zac rfl rfl tv <| zas rfl rfl rfl tv <| zas rfl rfl rfl tv <| zbd 123 rfl rfl (zar hpar rfl) rfl rfl tv <| zaj rfl rfl rfl rfl rfl rfl rfl rfl tv <| zae rfl rfl tv <| zaf tv <| zad <| zaa <| zae rfl rfl tv <| zaf tv <| zad <| zbb <| zbt (fun n_ E => ∃ (k : Nat) (v : World'), ((k ≤ 200) ∧ (WOk v) ∧ (v.ticks ≤ 800000 + k) ∧ ((zcr 200 (play n l).1).1 = (zcr (200 - k) v).1 ∧ (zcr 200 (play n l).1).2 = (zcr (200 - k) v).2 + k)) ∧ n_ = 200 - k ∧ E = ⟨[(10, .ptr 10 0), (13, .ptr 13 0), (14, .lit (.int .i64 (zcr 200 (play n l).1).2)), (15, .lit (.int .i64 k))], [(10, .box (zcu v)), (13, .box (zcu (zcr 200 (play n l).1).1))], 115⟩) (n0 := _) (E0 := _) (⟨0, (play n l).1, by exact ⟨by omega, hwk, by omega, rfl, by simp⟩, rfl, rfl⟩) (ren [(10, 10), (13, 123)]) (zay [(10, 10), (13, 123)] rfl rfl ⟨⟨_, rfl, (.ptr _ _ _ rfl (zak rfl))⟩, ⟨_, rfl, (.ptr _ _ _ rfl (zak rfl))⟩, ⟨_, rfl, (.lit _)⟩, ⟨_, rfl, (subI (by rfl))⟩, tv⟩ ⟨⟨_, _, rfl, rfl, (zbk rfl)⟩, ⟨_, _, rfl, rfl, (zbk rfl)⟩, tv⟩ (zaz hpar rfl)) (fun n_ E hR => ?_)
          obtain ⟨k, v, hI, rfl, rfl⟩ := hR
          obtain ⟨hk, hv, htv, hse⟩ := hI
          refine zad <| zad <| zaa <| zac rfl rfl tv <| zcg rfl rfl rfl tv (fun h97 => ?_) (fun h97 => ?_)
          ·refine zac rfl rfl tv <| zam rfl rfl rfl rfl rfl rfl (gk rfl) <| zdo [] rfl (c48 v hv) (.cons ((subP rfl)) .nil) (fun k o h => by simp [Go.Vc.look] at h) rfl (gk rfl) (fun h100 => ?_) (fun h100 => ?_)
           ·refine zdq rfl rfl (gk rfl) <| zav rfl rfl rfl tv <| zaf tv <| zap rfl <| zbw <| iteP rfl <| zad ?_
            have hfin : (zcr 200 (play n l).1).1 = v ∧ (zcr 200 (play n l).1).2 = k := by
              rw [settle_still h100] at hse; exact ⟨hse.1, by rw [hse.2]; simp⟩
            refine zaa <| zac rfl rfl tv <| zac rfl rfl tv <| zci rfl rfl rfl tv (fun h109 => ?_) (fun h109 => ?_)
            ·refine zac rfl rfl tv <| zam rfl rfl rfl rfl rfl rfl (gk rfl) <| zam rfl rfl rfl rfl rfl rfl (gk rfl) <| zbi rfl (c127 (zcr 200 (play n l).1).1 v (settle_ok hwk).len.2) (.cons ((subP rfl)) (.cons ((subP rfl)) .nil)) rfl (gk rfl) <| zav rfl rfl rfl tv <| zae rfl rfl tv <| zaf tv <| zaw <| fin0 (.inr rfl) (.cons (.tmp rfl (nb rfl)) .nil) (subB ?_)
             ·first | rfl | (rw [hfin.1]; simp) | (simp [intCells, zcc])
            ·exact absurd hfin.2.symm h109
           ·refine zdq rfl rfl (gk rfl) <| zav rfl rfl rfl tv <| zaf tv <| zao rfl <| zax <| zbb <| zad <| zaa <| zam rfl rfl rfl rfl rfl rfl tv <| zbi rfl (c132 v hv (by omega)) (.cons ((subP rfl)) .nil) rfl tv <| zaj rfl rfl rfl rfl rfl rfl rfl rfl tv <| zaf tv <| zaa <| zac rfl rfl tv <| zbz rfl rfl rfl (by unfold inI; omega) rfl tv <| zae rfl rfl tv <| zaf tv <| ⟨_, _, ren [(10, 10), (13, 13)], ?_, ⟨k + 1, zey v, ?_, rfl, rfl⟩, zay [(10, 10), (13, 13)] rfl rfl ⟨⟨_, rfl, (.ptr _ _ _ rfl (zak rfl))⟩, ⟨_, rfl, (.ptr _ _ _ rfl (zak rfl))⟩, ⟨_, rfl, (.lit _)⟩, ⟨_, rfl, (subI (by rfl))⟩, tv⟩ ⟨⟨_, _, rfl, rfl, (zbk rfl)⟩, ⟨_, _, rfl, rfl, (zbk rfl)⟩, tv⟩ (zaz hpar rfl)⟩
            ·omega
            ·refine ⟨by omega, wok_round hv, by rw [round_ticks]; omega, ?_⟩
             have e : 200 - k = (200 - (k + 1)) + 1 := by omega
             rw [e, settle_step h100] at hse
             exact ⟨hse.1, by rw [hse.2]; omega⟩
          ·refine zac rfl rfl tv <| zag rfl rfl rfl rfl rfl <| zag rfl rfl rfl rfl rfl <| zag rfl rfl rfl rfl rfl <| zat rfl rfl rfl tv <| zaf tv <| zap rfl <| zbw <| iteP rfl <| zad ?_
           have hfin : (zcr 200 (play n l).1).1 = v ∧ (zcr 200 (play n l).1).2 = k := by
             obtain rfl : k = 200 := by omega
             rw [show (zcr (200 - 200) v) = (v, 0) from rfl] at hse
             exact ⟨hse.1, by rw [hse.2]; simp⟩
           refine zaa <| zac rfl rfl tv <| zac rfl rfl tv <| zci rfl rfl rfl tv (fun h109 => ?_) (fun h109 => ?_)
           ·refine zac rfl rfl tv <| zam rfl rfl rfl rfl rfl rfl (gk rfl) <| zam rfl rfl rfl rfl rfl rfl (gk rfl) <| zbi rfl (c127 (zcr 200 (play n l).1).1 v (settle_ok hwk).len.2) (.cons ((subP rfl)) (.cons ((subP rfl)) .nil)) rfl (gk rfl) <| zav rfl rfl rfl tv <| zae rfl rfl tv <| zaf tv <| zaw <| fin0 (.inr rfl) (.cons (.tmp rfl (nb rfl)) .nil) (subB ?_)
            ·first | rfl | (rw [hfin.1]; simp) | (simp [intCells, zcc])
           ·exact absurd hfin.2.symm h109
         ·exact (same_no h89).elim
       ·exact (same_no h67).elim
  ·exact absurd he h29
 ·refine zaa <| zac rfl rfl tv <| zac rfl rfl tv <| zbi rfl (c87b hm he hl160) (.cons ((.lit _)) (.cons ((.shr _ _)) .nil)) rfl tv <| zac rfl rfl tv <| zas rfl rfl rfl tv <| zas rfl rfl rfl tv <| zas rfl rfl rfl tv <| zbd 100 rfl rfl (zar hpar rfl) rfl rfl tv <| zaj rfl rfl rfl rfl rfl rfl rfl rfl tv <| zae rfl rfl tv <| zae rfl rfl tv <| zaf tv <| zad <| zaa <| zac rfl rfl tv <| zbi rfl (c126 n) (.cons ((.lit _)) .nil) rfl tv <| zac rfl rfl tv <| zas rfl rfl rfl tv <| zas rfl rfl rfl tv <| zbd 101 rfl rfl (zar hpar rfl) rfl rfl tv <| zaj rfl rfl rfl rfl rfl rfl rfl rfl tv <| zae rfl rfl tv <| zaf tv <| zad <| zad <| zaa <| zac rfl rfl tv <| zci rfl rfl rfl tv (fun h29 => ?_) (fun h29 => ?_)
  ·refine zac rfl rfl tv <| zac rfl rfl (gk rfl) <| zby rfl rfl rfl (gk rfl) <| zdr rfl rfl rfl (gk rfl) (fun h33 => ?_) (fun h33 => ?_)
   ·refine zav rfl rfl rfl tv <| zaf tv <| zao rfl <| zaa <| zae rfl rfl tv <| zaf tv <| zad <| zad <| zaa <| zac rfl rfl tv <| zdg rfl rfl rfl tv (fun h36 => ?_) (fun h36 => ?_)
    ·refine zaf tv <| zao rfl <| zad <| zaa <| zac rfl rfl tv <| zac rfl rfl tv <| zci rfl rfl rfl tv (fun h39 => ?_) (fun h39 => ?_)
     ·refine zac rfl rfl tv <| zac rfl rfl (gk rfl) <| zby rfl rfl rfl (gk rfl) <| zab rfl rfl rfl rfl rfl rfl (gk rfl) <| zah rfl rfl rfl rfl rfl rfl (gk rfl) <| zby rfl rfl rfl (gk rfl) <| zbz rfl rfl rfl (by simp [intCells, zcc, inI]) rfl (gk rfl) <| u_eql rfl rfl rfl (gk rfl) <| zav rfl rfl rfl tv <| zae rfl rfl tv <| zaf tv <| zaw <| fin0 (.inr rfl) (.cons (.tmp rfl (nb rfl)) .nil) (subB ?_)
      ·first | rfl | (rw [hfin.1]; simp) | (simp [intCells, zcc])
     ·exact absurd rfl h39
    ·exact absurd h36 (by decide)
   ·exfalso; rw [zbf] at h33; omega
  ·exact absurd he h29
 ·refine zaa <| zac rfl rfl tv <| zac rfl rfl tv <| zbi rfl (c87a hm he) (.cons ((.lit _)) (.cons ((.shr _ _)) .nil)) rfl tv <| zac rfl rfl tv <| zas rfl rfl rfl tv <| zas rfl rfl rfl tv <| zas rfl rfl rfl tv <| zbd 100 rfl rfl (zar hpar rfl) rfl rfl tv <| zaj rfl rfl rfl rfl rfl rfl rfl rfl tv <| zae rfl rfl tv <| zae rfl rfl tv <| zaf tv <| zad <| zaa <| zac rfl rfl tv <| zbi rfl (c126 n) (.cons ((.lit _)) .nil) rfl tv <| zac rfl rfl tv <| zas rfl rfl rfl tv <| zas rfl rfl rfl tv <| zbd 101 rfl rfl (zar hpar rfl) rfl rfl tv <| zaj rfl rfl rfl rfl rfl rfl rfl rfl tv <| zae rfl rfl tv <| zaf tv <| zad <| zad <| zaa <| zac rfl rfl tv <| zci rfl rfl rfl tv (fun h29 => ?_) (fun h29 => ?_)
  ·exact absurd h29 he
  ·refine zac rfl rfl tv <| zag rfl rfl rfl rfl rfl <| zag rfl rfl rfl rfl rfl <| zag rfl rfl rfl rfl rfl <| zat rfl rfl rfl tv <| zaf tv <| zap rfl <| zax <| zad <| zad <| zaa <| zac rfl rfl tv <| zdg rfl rfl rfl tv (fun h36 => ?_) (fun h36 => ?_)
   ·refine zaf tv <| zao rfl <| zad <| zaa <| zac rfl rfl tv <| zac rfl rfl tv <| zci rfl rfl rfl tv (fun h39 => ?_) (fun h39 => ?_)
    ·refine zac rfl rfl tv <| zac rfl rfl (gk rfl) <| zby rfl rfl rfl (gk rfl) <| zab rfl rfl rfl rfl rfl rfl (gk rfl) <| zah rfl rfl rfl rfl rfl rfl (gk rfl) <| zby rfl rfl rfl (gk rfl) <| zbz rfl rfl rfl (by simp [intCells, zcc, inI]) rfl (gk rfl) <| u_eql rfl rfl rfl (gk rfl) <| zav rfl rfl rfl tv <| zae rfl rfl tv <| zaf tv <| zaw <| fin0 (.inr rfl) (.cons (.tmp rfl (nb rfl)) .nil) (subB ?_)
     ·first | rfl | (rw [hfin.1]; simp) | (simp [intCells, zcc])
    ·exact absurd rfl h39
   ·exact absurd h36 he
 ·refine zaa <| zac rfl rfl tv <| zac rfl rfl tv <| zbi rfl (c87a hm he) (.cons ((.lit _)) (.cons ((.shr _ _)) .nil)) rfl tv <| zac rfl rfl tv <| zas rfl rfl rfl tv <| zas rfl rfl rfl tv <| zas rfl rfl rfl tv <| zbd 100 rfl rfl (zar hpar rfl) rfl rfl tv <| zaj rfl rfl rfl rfl rfl rfl rfl rfl tv <| zae rfl rfl tv <| zae rfl rfl tv <| zaf tv <| zad <| zaa <| zac rfl rfl tv <| zbi rfl (c126 n) (.cons ((.lit _)) .nil) rfl tv <| zac rfl rfl tv <| zas rfl rfl rfl tv <| zas rfl rfl rfl tv <| zbd 101 rfl rfl (zar hpar rfl) rfl rfl tv <| zaj rfl rfl rfl rfl rfl rfl rfl rfl tv <| zae rfl rfl tv <| zaf tv <| zad <| zad <| zaa <| zac rfl rfl tv <| zci rfl rfl rfl tv (fun h29 => ?_) (fun h29 => ?_)
  ·exact absurd h29 he
  ·refine zac rfl rfl tv <| zag rfl rfl rfl rfl rfl <| zag rfl rfl rfl rfl rfl <| zag rfl rfl rfl rfl rfl <| zat rfl rfl rfl tv <| zaf tv <| zap rfl <| zax <| zad <| zad <| zaa <| zac rfl rfl tv <| zdg rfl rfl rfl tv (fun h36 => ?_) (fun h36 => ?_)
   ·refine zaf tv <| zao rfl <| zad <| zaa <| zac rfl rfl tv <| zac rfl rfl tv <| zci rfl rfl rfl tv (fun h39 => ?_) (fun h39 => ?_)
    ·refine zac rfl rfl tv <| zac rfl rfl (gk rfl) <| zby rfl rfl rfl (gk rfl) <| zab rfl rfl rfl rfl rfl rfl (gk rfl) <| zah rfl rfl rfl rfl rfl rfl (gk rfl) <| zby rfl rfl rfl (gk rfl) <| zbz rfl rfl rfl (by simp [intCells, zcc, inI]) rfl (gk rfl) <| u_eql rfl rfl rfl (gk rfl) <| zav rfl rfl rfl tv <| zae rfl rfl tv <| zaf tv <| zaw <| fin0 (.inr rfl) (.cons (.tmp rfl (nb rfl)) .nil) (subB ?_)
     ·first | rfl | (rw [hfin.1]; simp) | (simp [intCells, zcc])
    ·exact absurd rfl h39
   ·exact absurd h36 he
end Go.Proofs.Ytaadloihphpdbaa
