/- Walks of the document's answer: plays, puts; and of what looks at lanes. Printed by a small program (walk.py). -/
import Derived.Test.YtaadloihphpdbaaZWWorld
set_option linter.unusedVariables false
set_option linter.unusedSimpArgs false
set_option maxRecDepth 4000
namespace Go.Proofs.Ytaadloihphpdbaa
open Go Go.Vc Go.RowKit
theorem c43 (n : Int) (l : List Step) (hn : 1 ≤ n ∧ n ≤ 3) (hm : ∀ s ∈ l, inI s.m) : VFun G 43 [.lit (.int .i64 n), .shr 7 (stepCells l)] [] (.tup [.agg (zcu (play n l).1), .shr 1 (intCells (play n l).2)]) [] := by
 refine VFun.intro (fn := Try.f43) rfl rfl (by kernel_rfl) (nb rfl) fun Γ hpar => ?_
 refine zad <| zaa <| zbd 100 rfl rfl (zar hpar rfl) rfl rfl tv <| zae rfl rfl tv <| zaf tv <| zad <| zaa <| zac rfl rfl tv <| zbi rfl (c126 n) (.cons ((.lit _)) .nil) rfl tv <| zac rfl rfl tv <| zas rfl rfl rfl tv <| zas rfl rfl rfl tv <| zbd 101 rfl rfl (zar hpar rfl) rfl rfl tv <| zaj rfl rfl rfl rfl rfl rfl rfl rfl tv <| zae rfl rfl tv <| zaf tv <| zad <| zaa <| zae rfl rfl tv <| zaf tv <| zad <| zad <| zaa <| zac rfl rfl tv <| zby rfl rfl rfl tv <| zac rfl rfl tv <| zaf tv <| zbb <| zbt (fun n_ E => ∃ (i : Nat), ((i ≤ l.length) ∧ (i ≤ 160)) ∧ n_ = l.length - i ∧ E = ⟨[(4, .ptr 4 0), (6, .ptr 6 0), (8, .row 8), (18, .shr 7 (stepCells l)), (19, .lit (.int .i64 (stepCells l).length)), (20, .lit (.int .i64 i))], [(4, .box [.lit (.slice none 0 0), .lit (.int .i64 0)]), (6, .box (zcu (plays (zco n) (l.take i)).1)), (8, .row 51 1 (intCells (plays (zco n) (l.take i)).2))], 41⟩) (n0 := _) (E0 := _) (⟨0, by omega, rfl, rfl⟩) (ren [(4, 100), (6, 101)]) (zay [(4, 100), (6, 101)] rfl rfl ⟨⟨_, rfl, (.ptr _ _ _ rfl (zak rfl))⟩, ⟨_, rfl, (.ptr _ _ _ rfl (zak rfl))⟩, ⟨_, rfl, .nilrow _ _ _ _ rfl rfl⟩, ⟨_, rfl, (.shr _ _)⟩, ⟨_, rfl, (.lit _)⟩, ⟨_, rfl, (.lit _)⟩, tv⟩ ⟨⟨_, _, rfl, rfl, (zbk rfl)⟩, ⟨_, _, rfl, rfl, (zbk rfl)⟩, (.inr (.inl ⟨rfl, rfl⟩)), tv⟩ (zaz hpar rfl)) (fun n_ E hR => ?_)
 obtain ⟨i, hI, rfl, rfl⟩ := hR
 obtain ⟨hI0, hI1⟩ := hI
 refine zad <| zaa <| zcg rfl rfl rfl tv (fun h21 => ?_) (fun h21 => ?_)
 ·refine zaf tv <| zad <| zao rfl <| zax <| zad <| zbb <| zad ?_
  rw [zbf] at h21
  obtain ⟨s, hs⟩ : ∃ s, l[i]? = some s := ⟨_, List.getElem?_eq_getElem (by omega)⟩
  refine zaa <| zac rfl rfl tv <| zbh rfl rfl rfl rfl rfl rfl (zbq hs) rfl tv <| zbu rfl rfl rfl rfl rfl tv <| zbd 122 rfl rfl (zar hpar rfl) rfl rfl tv <| zae rfl rfl tv <| zaj rfl rfl rfl rfl rfl rfl rfl rfl tv <| zaf tv <| zad <| zad <| zaa <| zac rfl rfl tv <| zci rfl rfl rfl tv (fun h26 => ?_) (fun h26 => ?_)
  ·refine zaf tv <| zao rfl <| zbw <| iteN (by decide) <| iteP rfl <| zad ?_
   have htk : l.take i = l.take 160 := by rw [show i = 160 by omega]
   refine zaa <| zam rfl rfl rfl rfl rfl rfl tv <| zac rfl rfl tv <| zaj rfl rfl rfl rfl rfl rfl rfl rfl tv <| zae rfl rfl tv <| zaf tv <| zaw ?_
   unfold play; rw [← htk]
   refine fin' [] (.inr rfl) (.cons (.cellN rfl rfl rfl rfl rfl) (.cons (.tmp rfl (nb rfl)) .nil)) (zay [] rfl rfl ⟨⟨_, rfl, (.tup _ _ (.cons (.agg _ _ (.cons (subS ?_) (.cons (subI ?_) .nil))) (.cons (zcd rfl (fzL rfl) ?_) .nil)))⟩, tv⟩ tv (zaz rfl rfl))
   all_goals (try rfl)
  ·refine zaf tv <| zap rfl <| zax <| zad ?_
   have hwi : WOk (plays (zco n) (l.take i)).1 := wok_plays _ (wok_new hn.1 hn.2)
   have hti := (plays_ticks (l.take i) (zco n)).2
   rw [show (zco n).ticks = 0 by rw [new_is hn.1 hn.2]] at hti
   have hli := List.length_take_le i l
   have hei := plays_es (l.take i) (zco n)
   refine zaa <| zam rfl rfl rfl rfl rfl rfl tv <| zam rfl rfl rfl rfl rfl rfl tv <| zbi rfl (c129 (plays (zco n) (l.take i)).1 s hwi (by omega) (hm s (List.mem_of_getElem? hs))) (.cons ((subP rfl)) (.cons ((subP rfl)) .nil)) rfl tv <| zac rfl rfl tv <| zas rfl rfl rfl tv <| zas rfl rfl rfl tv <| zbd 123 rfl rfl (zar hpar rfl) rfl rfl tv <| zaj rfl rfl rfl rfl rfl rfl rfl rfl tv <| zae rfl rfl tv <| zaf tv <| zad <| zaa <| zam rfl rfl rfl rfl rfl rfl tv <| zaj rfl rfl rfl rfl rfl rfl rfl rfl tv <| zaf tv <| zaa <| zac rfl rfl tv <| zac rfl rfl tv <| zba 124 rfl rfl rfl rfl rfl rfl rfl rfl rfl rfl (zar hpar rfl) rfl rfl tv <| zbn 125 rfl rfl rfl (zdb rfl) rfl (zar hpar rfl) rfl rfl rfl rfl rfl (by simp [zbx, intCells]; omega) rfl tv <| zae rfl rfl tv <| zaf tv <| zaa <| zbz rfl rfl rfl (by unfold inI; omega) rfl tv <| zac rfl rfl tv <| zaf tv <| ⟨_, _, ren [(4, 4), (6, 6), (8, 125)], ?_, ⟨i + 1, ?_, rfl, rfl⟩, zay [(4, 4), (6, 6), (8, 125)] rfl rfl ⟨⟨_, rfl, (.ptr _ _ _ rfl (zak rfl))⟩, ⟨_, rfl, (.ptr _ _ _ rfl (zak rfl))⟩, ⟨_, rfl, (.row _ _ rfl (zak rfl))⟩, ⟨_, rfl, (.shr _ _)⟩, ⟨_, rfl, (.lit _)⟩, ⟨_, rfl, (.lit _)⟩, tv⟩ ⟨⟨_, _, rfl, rfl, (zbk rfl)⟩, ⟨_, _, rfl, rfl, (.cons (subS (by rw [plays_take hs])) (.cons (subI (by rw [plays_take hs])) .nil))⟩, (.inl ⟨_, rfl, zcq rfl (by rw [plays_take hs]; simp [intCells, zbx, cellsOf])⟩), tv⟩ (zaz hpar rfl)⟩
   ·omega
   ·omega
 ·refine zaf tv <| zad <| zap rfl <| zbw <| iteP rfl <| zad ?_
  rw [zbf] at h21
  have htk : l.take i = l.take 160 := by rw [List.take_of_length_le (show l.length ≤ i by omega), List.take_of_length_le (show l.length ≤ 160 by omega)]
  refine zaa <| zam rfl rfl rfl rfl rfl rfl tv <| zac rfl rfl tv <| zaj rfl rfl rfl rfl rfl rfl rfl rfl tv <| zae rfl rfl tv <| zaf tv <| zaw ?_
  unfold play; rw [← htk]
  refine fin' [] (.inr rfl) (.cons (.cellN rfl rfl rfl rfl rfl) (.cons (.tmp rfl (nb rfl)) .nil)) (zay [] rfl rfl ⟨⟨_, rfl, (.tup _ _ (.cons (.agg _ _ (.cons (subS ?_) (.cons (subI ?_) .nil))) (.cons (zcd rfl (fzL rfl) ?_) .nil)))⟩, tv⟩ tv (zaz rfl rfl))
  all_goals (try rfl)
theorem c45 (l : Lane) : VFun G 45 [.agg (zdu l)] [] (.lit (.bool (idleB l))) [] := by
 refine VFun.intro (fn := Try.f45) rfl rfl (by kernel_rfl) (nb rfl) fun Γ hpar => ?_
 refine zad <| zaa <| zdh 100 rfl rfl rfl (zar hpar rfl) rfl rfl tv <| zae rfl rfl tv <| zaf tv <| zad <| zaa <| zab rfl rfl rfl rfl rfl rfl tv <| zab rfl rfl rfl rfl rfl rfl tv <| zah rfl rfl rfl rfl rfl rfl tv <| zby rfl rfl rfl tv <| zci rfl rfl rfl tv (fun h7 => ?_) (fun h7 => ?_)
 ·refine zac rfl rfl tv <| zab rfl rfl rfl rfl rfl rfl (gk rfl) <| zab rfl rfl rfl rfl rfl rfl (gk rfl) <| zah rfl rfl rfl rfl rfl rfl (gk rfl) <| zby rfl rfl rfl (gk rfl) <| u_eql rfl rfl rfl (gk rfl) <| zav rfl rfl rfl tv <| zae rfl rfl tv <| zaf tv <| zaw <| fin' [] (.inr rfl) (.cons (.tmp rfl (nb rfl)) .nil) (zay [] rfl rfl ⟨⟨_, rfl, (subB ?_)⟩, tv⟩ tv (zaz rfl rfl))
  all_goals (try rfl)
  all_goals
    unfold idleB; rw [← nil_len, ← nil_len]
    simp only [zaq, zai] at *
    rw [Bool.eq_iff_iff]
    simp only [Bool.and_eq_true, decide_eq_true_eq, beq_iff_eq, Bool.false_eq_true, false_iff, iff_false]
    omega
 ·refine zac rfl rfl tv <| zag rfl rfl rfl rfl rfl <| zag rfl rfl rfl rfl rfl <| zag rfl rfl rfl rfl rfl <| zag rfl rfl rfl rfl rfl <| zag rfl rfl rfl rfl rfl <| zat rfl rfl rfl tv <| zae rfl rfl tv <| zaf tv <| zaw <| fin' [] (.inr rfl) (.cons (.tmp rfl (nb rfl)) .nil) (zay [] rfl rfl ⟨⟨_, rfl, (subB ?_)⟩, tv⟩ tv (zaz rfl rfl))
  all_goals (try rfl)
  all_goals
    unfold idleB; rw [← nil_len, ← nil_len]
    simp only [zaq, zai] at *
    rw [Bool.eq_iff_iff]
    simp only [Bool.and_eq_true, decide_eq_true_eq, beq_iff_eq, Bool.false_eq_true, false_iff, iff_false]
    omega
theorem c44 (l : Lane) : VFun G 44 [.agg (zdu l)] [] (.tup [.lit (.int .i64 l.s.next), .lit (.int .i64 l.r.told.length)]) [] := by
 refine VFun.intro (fn := Try.f44) rfl rfl (by kernel_rfl) (nb rfl) fun Γ hpar => ?_
 refine zad <| zaa <| zdh 100 rfl rfl rfl (zar hpar rfl) rfl rfl tv <| zae rfl rfl tv <| zae rfl rfl tv <| zaf tv <| zad <| zbo <| zab rfl rfl rfl rfl rfl rfl tv <| zab rfl rfl rfl rfl rfl rfl tv <| zah rfl rfl rfl rfl rfl rfl tv <| zab rfl rfl rfl rfl rfl rfl tv <| zab rfl rfl rfl rfl rfl rfl tv <| zah rfl rfl rfl rfl rfl rfl tv <| zby rfl rfl rfl tv <| zae rfl rfl tv <| zae rfl rfl tv <| zaf (by kernel_rfl) <| zaw <| fin' [] (.inr rfl) (.cons (.tmp rfl (nb rfl)) (.cons (.tmp rfl (nb rfl)) .nil)) (zay [] rfl rfl ⟨⟨_, rfl, (.tup _ _ (.cons (subI ?_) (.cons (subI ?_) .nil)))⟩, tv⟩ tv (zaz rfl rfl))
 all_goals (try rfl)
 all_goals
   rw [zaq]
theorem c46 (l : Lane) : VFun G 46 [.agg (zdu l)] [] (.lit (.bool (withinB l))) [] := by
 refine VFun.intro (fn := Try.f46) rfl rfl (by kernel_rfl) (nb rfl) fun Γ hpar => ?_
 refine zad <| vw_lenA (t := 0) (j := 13) rfl rfl fun hl1 => ?_
 refine vw_lenA (t := 0) (j := 12) rfl rfl fun hl2 => ?_
 rw [zaq] at hl1
 rw [zai] at hl2
 refine zaa <| zdh 100 rfl rfl rfl (zar hpar rfl) rfl rfl tv <| zae rfl rfl tv <| zaf tv <| zad <| zaa <| zab rfl rfl rfl rfl rfl rfl tv <| zab rfl rfl rfl rfl rfl rfl tv <| zah rfl rfl rfl rfl rfl rfl tv <| zby rfl rfl rfl tv <| s_leq rfl rfl rfl tv (fun h7 => ?_) (fun h7 => ?_)
 ·refine zac rfl rfl tv <| zab rfl rfl rfl rfl rfl rfl (gk rfl) <| zab rfl rfl rfl rfl rfl rfl (gk rfl) <| zah rfl rfl rfl rfl rfl rfl (gk rfl) <| zby rfl rfl rfl (gk rfl) <| s_leq rfl rfl rfl (gk rfl) (fun h13 => ?_) (fun h13 => ?_)
  ·refine zav rfl rfl rfl tv <| zac rfl rfl tv <| zab rfl rfl rfl rfl rfl rfl (gk rfl) <| zab rfl rfl rfl rfl rfl rfl (gk rfl) <| zah rfl rfl rfl rfl rfl rfl (gk rfl) <| s_leq rfl rfl rfl (gk rfl) (fun h19 => ?_) (fun h19 => ?_)
   ·refine zav rfl rfl rfl tv <| zac rfl rfl tv <| zab rfl rfl rfl rfl rfl rfl (gk rfl) <| zab rfl rfl rfl rfl rfl rfl (gk rfl) <| zah rfl rfl rfl rfl rfl rfl (gk rfl) <| zby rfl rfl rfl (gk rfl) <| s_leq rfl rfl rfl (gk rfl) (fun h26 => ?_) (fun h26 => ?_)
    ·refine zav rfl rfl rfl tv <| zac rfl rfl tv <| zab rfl rfl rfl rfl rfl rfl (gk rfl) <| zah rfl rfl rfl rfl rfl rfl (gk rfl) <| zby rfl rfl rfl (gk rfl) <| s_leq rfl rfl rfl (gk rfl) (fun h32 => ?_) (fun h32 => ?_)
     ·refine zav rfl rfl rfl tv <| zac rfl rfl tv <| zab rfl rfl rfl rfl rfl rfl (gk rfl) <| zah rfl rfl rfl rfl rfl rfl (gk rfl) <| zby rfl rfl rfl (gk rfl) <| s_leq rfl rfl rfl (gk rfl) (fun h38 => ?_) (fun h38 => ?_)
      ·refine zav rfl rfl rfl tv <| zac rfl rfl tv <| zab rfl rfl rfl rfl rfl rfl (gk rfl) <| zab rfl rfl rfl rfl rfl rfl (gk rfl) <| zah rfl rfl rfl rfl rfl rfl (gk rfl) <| zby rfl rfl rfl (gk rfl) <| zab rfl rfl rfl rfl rfl rfl (gk rfl) <| zab rfl rfl rfl rfl rfl rfl (gk rfl) <| zah rfl rfl rfl rfl rfl rfl (gk rfl) <| zby rfl rfl rfl (gk rfl) <| zbz rfl rfl rfl (by rw [zaq, zai]; unfold inI; omega) rfl (gk rfl) <| u_leq rfl rfl rfl (gk rfl) <| zav rfl rfl rfl tv <| zae rfl rfl tv <| zaf tv <| zaw <| fin' [] (.inr rfl) (.cons (.tmp rfl (nb rfl)) .nil) (zay [] rfl rfl ⟨⟨_, rfl, (subB ?_)⟩, tv⟩ tv (zaz rfl rfl))
       all_goals (try rfl)
       all_goals
         unfold withinB
         simp only [zaq, zai, zal, zan] at *
         rw [Bool.eq_iff_iff]
         simp only [Bool.and_eq_true, decide_eq_true_eq, Bool.false_eq_true, false_iff, iff_false]
         omega
      ·refine zav rfl rfl rfl tv <| zac rfl rfl tv <| zag rfl rfl rfl rfl rfl <| zag rfl rfl rfl rfl rfl <| zag rfl rfl rfl rfl rfl <| zag rfl rfl rfl rfl rfl <| zag rfl rfl rfl rfl rfl <| zag rfl rfl rfl rfl rfl <| zag rfl rfl rfl rfl rfl <| zag rfl rfl rfl rfl rfl <| zag rfl rfl rfl rfl rfl <| zag rfl rfl rfl rfl rfl <| zat rfl rfl rfl tv <| zae rfl rfl tv <| zaf tv <| zaw <| fin' [] (.inr rfl) (.cons (.tmp rfl (nb rfl)) .nil) (zay [] rfl rfl ⟨⟨_, rfl, (subB ?_)⟩, tv⟩ tv (zaz rfl rfl))
       all_goals (try rfl)
       all_goals
         unfold withinB
         simp only [zaq, zai, zal, zan] at *
         rw [Bool.eq_iff_iff]
         simp only [Bool.and_eq_true, decide_eq_true_eq, Bool.false_eq_true, false_iff, iff_false]
         omega
     ·refine zav rfl rfl rfl tv <| zac rfl rfl tv <| zag rfl rfl rfl rfl rfl <| zag rfl rfl rfl rfl rfl <| zag rfl rfl rfl rfl rfl <| zag rfl rfl rfl rfl rfl <| zat rfl rfl rfl tv <| zac rfl rfl tv <| zag rfl rfl rfl rfl rfl <| zag rfl rfl rfl rfl rfl <| zag rfl rfl rfl rfl rfl <| zag rfl rfl rfl rfl rfl <| zag rfl rfl rfl rfl rfl <| zag rfl rfl rfl rfl rfl <| zag rfl rfl rfl rfl rfl <| zag rfl rfl rfl rfl rfl <| zag rfl rfl rfl rfl rfl <| zag rfl rfl rfl rfl rfl <| zat rfl rfl rfl tv <| zae rfl rfl tv <| zaf tv <| zaw <| fin' [] (.inr rfl) (.cons (.tmp rfl (nb rfl)) .nil) (zay [] rfl rfl ⟨⟨_, rfl, (subB ?_)⟩, tv⟩ tv (zaz rfl rfl))
      all_goals (try rfl)
      all_goals
        unfold withinB
        simp only [zaq, zai, zal, zan] at *
        rw [Bool.eq_iff_iff]
        simp only [Bool.and_eq_true, decide_eq_true_eq, Bool.false_eq_true, false_iff, iff_false]
        omega
    ·refine zav rfl rfl rfl tv <| zac rfl rfl tv <| zag rfl rfl rfl rfl rfl <| zag rfl rfl rfl rfl rfl <| zag rfl rfl rfl rfl rfl <| zag rfl rfl rfl rfl rfl <| zat rfl rfl rfl tv <| zac rfl rfl tv <| zag rfl rfl rfl rfl rfl <| zag rfl rfl rfl rfl rfl <| zag rfl rfl rfl rfl rfl <| zag rfl rfl rfl rfl rfl <| zat rfl rfl rfl tv <| zac rfl rfl tv <| zag rfl rfl rfl rfl rfl <| zag rfl rfl rfl rfl rfl <| zag rfl rfl rfl rfl rfl <| zag rfl rfl rfl rfl rfl <| zag rfl rfl rfl rfl rfl <| zag rfl rfl rfl rfl rfl <| zag rfl rfl rfl rfl rfl <| zag rfl rfl rfl rfl rfl <| zag rfl rfl rfl rfl rfl <| zag rfl rfl rfl rfl rfl <| zat rfl rfl rfl tv <| zae rfl rfl tv <| zaf tv <| zaw <| fin' [] (.inr rfl) (.cons (.tmp rfl (nb rfl)) .nil) (zay [] rfl rfl ⟨⟨_, rfl, (subB ?_)⟩, tv⟩ tv (zaz rfl rfl))
     all_goals (try rfl)
     all_goals
       unfold withinB
       simp only [zaq, zai, zal, zan] at *
       rw [Bool.eq_iff_iff]
       simp only [Bool.and_eq_true, decide_eq_true_eq, Bool.false_eq_true, false_iff, iff_false]
       omega
   ·refine zav rfl rfl rfl tv <| zac rfl rfl tv <| zag rfl rfl rfl rfl rfl <| zag rfl rfl rfl rfl rfl <| zag rfl rfl rfl rfl rfl <| zag rfl rfl rfl rfl rfl <| zag rfl rfl rfl rfl rfl <| zat rfl rfl rfl tv <| zac rfl rfl tv <| zag rfl rfl rfl rfl rfl <| zag rfl rfl rfl rfl rfl <| zag rfl rfl rfl rfl rfl <| zag rfl rfl rfl rfl rfl <| zat rfl rfl rfl tv <| zac rfl rfl tv <| zag rfl rfl rfl rfl rfl <| zag rfl rfl rfl rfl rfl <| zag rfl rfl rfl rfl rfl <| zag rfl rfl rfl rfl rfl <| zat rfl rfl rfl tv <| zac rfl rfl tv <| zag rfl rfl rfl rfl rfl <| zag rfl rfl rfl rfl rfl <| zag rfl rfl rfl rfl rfl <| zag rfl rfl rfl rfl rfl <| zag rfl rfl rfl rfl rfl <| zag rfl rfl rfl rfl rfl <| zag rfl rfl rfl rfl rfl <| zag rfl rfl rfl rfl rfl <| zag rfl rfl rfl rfl rfl ?_
    refine zag rfl rfl rfl rfl rfl <| zat rfl rfl rfl tv <| zae rfl rfl tv <| zaf tv <| zaw <| fin' [] (.inr rfl) (.cons (.tmp rfl (nb rfl)) .nil) (zay [] rfl rfl ⟨⟨_, rfl, (subB ?_)⟩, tv⟩ tv (zaz rfl rfl))
    all_goals (try rfl)
    all_goals
      unfold withinB
      simp only [zaq, zai, zal, zan] at *
      rw [Bool.eq_iff_iff]
      simp only [Bool.and_eq_true, decide_eq_true_eq, Bool.false_eq_true, false_iff, iff_false]
      omega
  ·refine zav rfl rfl rfl tv <| zac rfl rfl tv <| zag rfl rfl rfl rfl rfl <| zag rfl rfl rfl rfl rfl <| zag rfl rfl rfl rfl rfl <| zag rfl rfl rfl rfl rfl <| zat rfl rfl rfl tv <| zac rfl rfl tv <| zag rfl rfl rfl rfl rfl <| zag rfl rfl rfl rfl rfl <| zag rfl rfl rfl rfl rfl <| zag rfl rfl rfl rfl rfl <| zag rfl rfl rfl rfl rfl <| zat rfl rfl rfl tv <| zac rfl rfl tv <| zag rfl rfl rfl rfl rfl <| zag rfl rfl rfl rfl rfl <| zag rfl rfl rfl rfl rfl <| zag rfl rfl rfl rfl rfl <| zat rfl rfl rfl tv <| zac rfl rfl tv <| zag rfl rfl rfl rfl rfl <| zag rfl rfl rfl rfl rfl <| zag rfl rfl rfl rfl rfl <| zag rfl rfl rfl rfl rfl <| zat rfl rfl rfl tv <| zac rfl rfl tv <| zag rfl rfl rfl rfl rfl <| zag rfl rfl rfl rfl rfl <| zag rfl rfl rfl rfl rfl ?_
   refine zag rfl rfl rfl rfl rfl <| zag rfl rfl rfl rfl rfl <| zag rfl rfl rfl rfl rfl <| zag rfl rfl rfl rfl rfl <| zag rfl rfl rfl rfl rfl <| zag rfl rfl rfl rfl rfl <| zag rfl rfl rfl rfl rfl <| zat rfl rfl rfl tv <| zae rfl rfl tv <| zaf tv <| zaw <| fin' [] (.inr rfl) (.cons (.tmp rfl (nb rfl)) .nil) (zay [] rfl rfl ⟨⟨_, rfl, (subB ?_)⟩, tv⟩ tv (zaz rfl rfl))
   all_goals (try rfl)
   all_goals
     unfold withinB
     simp only [zaq, zai, zal, zan] at *
     rw [Bool.eq_iff_iff]
     simp only [Bool.and_eq_true, decide_eq_true_eq, Bool.false_eq_true, false_iff, iff_false]
     omega
 ·refine zac rfl rfl tv <| zag rfl rfl rfl rfl rfl <| zag rfl rfl rfl rfl rfl <| zag rfl rfl rfl rfl rfl <| zag rfl rfl rfl rfl rfl <| zag rfl rfl rfl rfl rfl <| zat rfl rfl rfl tv <| zac rfl rfl tv <| zag rfl rfl rfl rfl rfl <| zag rfl rfl rfl rfl rfl <| zag rfl rfl rfl rfl rfl <| zag rfl rfl rfl rfl rfl <| zat rfl rfl rfl tv <| zac rfl rfl tv <| zag rfl rfl rfl rfl rfl <| zag rfl rfl rfl rfl rfl <| zag rfl rfl rfl rfl rfl <| zag rfl rfl rfl rfl rfl <| zag rfl rfl rfl rfl rfl <| zat rfl rfl rfl tv <| zac rfl rfl tv <| zag rfl rfl rfl rfl rfl <| zag rfl rfl rfl rfl rfl <| zag rfl rfl rfl rfl rfl <| zag rfl rfl rfl rfl rfl <| zat rfl rfl rfl tv <| zac rfl rfl tv <| zag rfl rfl rfl rfl rfl <| zag rfl rfl rfl rfl rfl <| zag rfl rfl rfl rfl rfl ?_
  refine zag rfl rfl rfl rfl rfl <| zat rfl rfl rfl tv <| zac rfl rfl tv <| zag rfl rfl rfl rfl rfl <| zag rfl rfl rfl rfl rfl <| zag rfl rfl rfl rfl rfl <| zag rfl rfl rfl rfl rfl <| zag rfl rfl rfl rfl rfl <| zag rfl rfl rfl rfl rfl <| zag rfl rfl rfl rfl rfl <| zag rfl rfl rfl rfl rfl <| zag rfl rfl rfl rfl rfl <| zag rfl rfl rfl rfl rfl <| zat rfl rfl rfl tv <| zae rfl rfl tv <| zaf tv <| zaw <| fin' [] (.inr rfl) (.cons (.tmp rfl (nb rfl)) .nil) (zay [] rfl rfl ⟨⟨_, rfl, (subB ?_)⟩, tv⟩ tv (zaz rfl rfl))
  all_goals (try rfl)
  all_goals
    unfold withinB
    simp only [zaq, zai, zal, zan] at *
    rw [Bool.eq_iff_iff]
    simp only [Bool.and_eq_true, decide_eq_true_eq, Bool.false_eq_true, false_iff, iff_false]
    omega
theorem c47 (w : World') (hw : w.lanes.length ≤ 3) : VFun G 47 [.agg (zcu w)] [] (.lit (.bool (stillB w))) [] := by
 refine VFun.intro (fn := Try.f47) rfl rfl (by kernel_rfl) (nb rfl) fun Γ hpar => ?_
 refine zad <| zaa <| zdh 100 rfl rfl rfl (zar hpar rfl) rfl rfl tv <| zae rfl rfl tv <| zaf tv <| zad <| zad <| zaa <| zab rfl rfl rfl rfl rfl rfl tv <| zah rfl rfl rfl rfl rfl rfl tv <| zby rfl rfl rfl tv <| zac rfl rfl tv <| zaf tv <| zbb <| zbt (fun n_ E => ∃ (i : Nat), ((i ≤ w.lanes.length) ∧ ((w.lanes.take i).all idleB = true)) ∧ n_ = w.lanes.length - i ∧ E = ⟨[(6, .shr 17 (zcc w.lanes)), (7, .lit (.int .i64 (zcc w.lanes).length)), (8, .lit (.int .i64 i))], [], 16⟩) (n0 := _) (E0 := _) (⟨0, by exact ⟨Nat.zero_le _, rfl⟩, rfl, rfl⟩) (ren []) (zay [] rfl rfl ⟨⟨_, rfl, (.shr _ _)⟩, ⟨_, rfl, (.lit _)⟩, ⟨_, rfl, (.lit _)⟩, tv⟩ tv (zaz hpar rfl)) (fun n_ E hR => ?_)
 obtain ⟨i, hI, rfl, rfl⟩ := hR
 obtain ⟨hI0, hI1⟩ := hI
 refine zad <| zaa <| zcg rfl rfl rfl tv (fun h9 => ?_) (fun h9 => ?_)
 ·refine zaf tv <| zad <| zao rfl <| zax <| zad <| zbb <| zad ?_
  rw [zbg] at h9
  obtain ⟨x, hx⟩ : ∃ x, w.lanes[i]? = some x := ⟨_, List.getElem?_eq_getElem (by omega)⟩
  refine zaa <| zbh rfl rfl rfl rfl rfl rfl (zbr hx) rfl tv <| zbu rfl rfl rfl rfl rfl tv <| zbd 121 rfl rfl (zar hpar rfl) rfl rfl tv <| zaj rfl rfl rfl rfl rfl rfl rfl rfl tv <| zaf tv <| zad <| zaa <| zam rfl rfl rfl rfl rfl rfl tv <| zdo [] rfl (c45 x) (.cons ((subP rfl)) .nil) (fun k o h => by simp [Go.Vc.look] at h) rfl tv (fun h13 => ?_) (fun h13 => ?_)
  ·refine zdq rfl rfl tv <| zaf tv <| zap rfl <| zax <| zaa <| zbz rfl rfl rfl (by unfold inI; omega) rfl tv <| zac rfl rfl tv <| zaf tv <| ⟨_, _, ren [], ?_, ⟨i + 1, ?_, rfl, rfl⟩, zay [] rfl rfl ⟨⟨_, rfl, (.shr _ _)⟩, ⟨_, rfl, (.lit _)⟩, ⟨_, rfl, (.lit _)⟩, tv⟩ tv (zaz hpar rfl)⟩
   ·omega
   ·refine ⟨by omega, ?_⟩
    rw [all_take hx, hI1, Bool.true_and]; exact h13
  ·refine zdq rfl rfl tv <| zaf tv <| zao rfl <| zad <| zaa <| zae rfl rfl tv <| zaf tv <| zaw <| fin0 (.inr rfl) (.cons (.tmp rfl (nb rfl)) .nil) (subB ?_)
   ·exact all_no hx h13
 ·refine zaf tv <| zad <| zap rfl <| zbw <| iteP rfl <| zad ?_
  rw [zbg] at h9
  refine zaa <| zae rfl rfl tv <| zaf tv <| zaw <| fin0 (.inr rfl) (.cons (.tmp rfl (nb rfl)) .nil) (subB ?_)
  ·rw [List.take_of_length_le (by omega)] at hI1; exact hI1
theorem c48 (w : World') (hw : WOk w) : VFun G 48 [.agg (zcu w)] [] (.lit (.bool (stillB w))) [] := by
 have hw3 := hw.len.2
 refine VFun.intro (fn := Try.f48) rfl rfl (by kernel_rfl) (nb rfl) fun Γ hpar => ?_
 refine zad <| zaa <| zdh 100 rfl rfl rfl (zar hpar rfl) rfl rfl tv <| zae rfl rfl tv <| zaf tv <| zad <| zad <| zaa <| zab rfl rfl rfl rfl rfl rfl tv <| zah rfl rfl rfl rfl rfl rfl tv <| zby rfl rfl rfl tv <| zac rfl rfl tv <| zaf tv <| zbb <| zbt (fun n_ E => ∃ (i : Nat), ((i ≤ w.lanes.length) ∧ ((w.lanes.take i).all idleB = true)) ∧ n_ = w.lanes.length - i ∧ E = ⟨[(6, .shr 17 (zcc w.lanes)), (7, .lit (.int .i64 (zcc w.lanes).length)), (8, .lit (.int .i64 i))], [], 23⟩) (n0 := _) (E0 := _) (⟨0, by exact ⟨Nat.zero_le _, rfl⟩, rfl, rfl⟩) (ren []) (zay [] rfl rfl ⟨⟨_, rfl, (.shr _ _)⟩, ⟨_, rfl, (.lit _)⟩, ⟨_, rfl, (.lit _)⟩, tv⟩ tv (zaz hpar rfl)) (fun n_ E hR => ?_)
 obtain ⟨i, hI, rfl, rfl⟩ := hR
 obtain ⟨hI0, hI1⟩ := hI
 refine zad <| zaa <| zcg rfl rfl rfl tv (fun h9 => ?_) (fun h9 => ?_)
 ·refine zaf tv <| zad <| zao rfl <| zax <| zad <| zbb <| zad ?_
  rw [zbg] at h9
  obtain ⟨x, hx⟩ : ∃ x, w.lanes[i]? = some x := ⟨_, List.getElem?_eq_getElem (by omega)⟩
  have hbx := hw.b x (List.mem_of_getElem? hx)
  have hq := hbx.s.q; have hf := hbx.s.f
  refine zaa <| zbh rfl rfl rfl rfl rfl rfl (zbr hx) rfl tv <| zbu rfl rfl rfl rfl rfl tv <| zbd 121 rfl rfl (zar hpar rfl) rfl rfl tv <| zaj rfl rfl rfl rfl rfl rfl rfl rfl tv <| zaf tv <| zad <| zaa <| zab rfl rfl rfl rfl rfl rfl tv <| zab rfl rfl rfl rfl rfl rfl tv <| zah rfl rfl rfl rfl rfl rfl tv <| zby rfl rfl rfl tv <| zab rfl rfl rfl rfl rfl rfl tv <| zab rfl rfl rfl rfl rfl rfl tv <| zah rfl rfl rfl rfl rfl rfl tv <| zby rfl rfl rfl tv <| zbz rfl rfl rfl (by rw [zaq, zai]; unfold inI; omega) rfl tv <| zdr rfl rfl rfl tv (fun h21 => ?_) (fun h21 => ?_)
  ·refine zaf tv <| zao rfl <| zad <| zaa <| zae rfl rfl tv <| zaf tv <| zaw <| fin0 (.inr rfl) (.cons (.tmp rfl (nb rfl)) .nil) (subB ?_)
   ·refine all_no hx ?_
    simp only [zaq, zai] at h21; unfold idleB; rw [← nil_len, ← nil_len, Bool.and_eq_false_iff]; simp only [decide_eq_false_iff_not]; omega
  ·refine zaf tv <| zap rfl <| zax <| zaa <| zbz rfl rfl rfl (by unfold inI; omega) rfl tv <| zac rfl rfl tv <| zaf tv <| ⟨_, _, ren [], ?_, ⟨i + 1, ?_, rfl, rfl⟩, zay [] rfl rfl ⟨⟨_, rfl, (.shr _ _)⟩, ⟨_, rfl, (.lit _)⟩, ⟨_, rfl, (.lit _)⟩, tv⟩ tv (zaz hpar rfl)⟩
   ·omega
   ·refine ⟨by omega, ?_⟩
    simp only [zaq, zai] at h21
    rw [all_take hx, hI1, Bool.true_and]; unfold idleB; rw [← nil_len, ← nil_len, Bool.and_eq_true, decide_eq_true_eq, decide_eq_true_eq]; omega
 ·refine zaf tv <| zad <| zap rfl <| zbw <| iteP rfl <| zad ?_
  rw [zbg] at h9
  refine zaa <| zae rfl rfl tv <| zaf tv <| zaw <| fin0 (.inr rfl) (.cons (.tmp rfl (nb rfl)) .nil) (subB ?_)
  ·rw [List.take_of_length_le (by omega)] at hI1; exact hI1
theorem c127 (w v : World') (hw : w.lanes.length ≤ 3) : VFun G 127 [.agg (zcu w), .agg (zcu v)] [] (.lit (.bool (w == v))) [] := by
 refine VFun.intro (fn := Try.f127) rfl rfl (by kernel_rfl) (nb rfl) fun Γ hpar => ?_
 refine zad <| zaa <| zdh 100 rfl rfl rfl (zar hpar rfl) rfl rfl tv <| zdh 101 rfl rfl rfl (zar hpar rfl) rfl rfl tv <| zae rfl rfl tv <| zaf tv <| zad <| zad <| zaa <| zab rfl rfl rfl rfl rfl rfl tv <| zah rfl rfl rfl rfl rfl rfl tv <| zab rfl rfl rfl rfl rfl rfl tv <| zah rfl rfl rfl rfl rfl rfl tv <| zdg rfl rfl rfl tv (fun h10 => ?_) (fun h10 => ?_)
 ·refine zac rfl rfl tv <| zag rfl rfl rfl rfl rfl <| zag rfl rfl rfl rfl rfl <| zag rfl rfl rfl rfl rfl <| zag rfl rfl rfl rfl rfl <| zag rfl rfl rfl rfl rfl <| zag rfl rfl rfl rfl rfl <| zag rfl rfl rfl rfl rfl <| zav rfl rfl rfl tv <| zaf tv <| zao rfl <| zad <| zaa <| zae rfl rfl tv <| zaf tv <| zaw <| fin0 (.inr rfl) (.cons (.tmp rfl (nb rfl)) .nil) (subB ?_)
  ·refine beq_eq_false_iff_ne.2 (fun e => ?_)
   subst e
   first | exact h10 rfl | exact h18 rfl
 ·refine zac rfl rfl tv <| zab rfl rfl rfl rfl rfl rfl (gk rfl) <| zah rfl rfl rfl rfl rfl rfl (gk rfl) <| zby rfl rfl rfl (gk rfl) <| zab rfl rfl rfl rfl rfl rfl (gk rfl) <| zah rfl rfl rfl rfl rfl rfl (gk rfl) <| zby rfl rfl rfl (gk rfl) <| zdg rfl rfl rfl (gk rfl) (fun h18 => ?_) (fun h18 => ?_)
  ·refine zat rfl rfl rfl tv <| zaf tv <| zao rfl <| zad <| zaa <| zae rfl rfl tv <| zaf tv <| zaw <| fin0 (.inr rfl) (.cons (.tmp rfl (nb rfl)) .nil) (subB ?_)
   ·refine beq_eq_false_iff_ne.2 (fun e => ?_)
    subst e
    first | exact h10 rfl | exact h18 rfl
  ·refine zat rfl rfl rfl tv <| zaf tv <| zap rfl <| zax <| zad <| zad ?_
   simp only [zbg] at h18
   refine zaa <| zab rfl rfl rfl rfl rfl rfl tv <| zah rfl rfl rfl rfl rfl rfl tv <| zby rfl rfl rfl tv <| zac rfl rfl tv <| zaf tv <| zbb <| zbt (fun n_ E => ∃ (i : Nat), ((i ≤ w.lanes.length) ∧ (w.lanes.take i = v.lanes.take i)) ∧ n_ = w.lanes.length - i ∧ E = ⟨[(2, .ptr 2 0), (3, .ptr 3 0), (22, .lit (.int .i64 (zcc w.lanes).length)), (23, .lit (.int .i64 i))], [(2, .box (zcu w)), (3, .box (zcu v))], 39⟩) (n0 := _) (E0 := _) (⟨0, by exact ⟨Nat.zero_le _, rfl⟩, rfl, rfl⟩) (ren [(2, 100), (3, 101)]) (zay [(2, 100), (3, 101)] rfl rfl ⟨⟨_, rfl, (.ptr _ _ _ rfl (zak rfl))⟩, ⟨_, rfl, (.ptr _ _ _ rfl (zak rfl))⟩, ⟨_, rfl, (.lit _)⟩, ⟨_, rfl, (.lit _)⟩, tv⟩ ⟨⟨_, _, rfl, rfl, (zbk rfl)⟩, ⟨_, _, rfl, rfl, (zbk rfl)⟩, tv⟩ (zaz hpar rfl)) (fun n_ E hR => ?_)
   obtain ⟨i, hI, rfl, rfl⟩ := hR
   obtain ⟨hI0, hI1⟩ := hI
   refine zad <| zaa <| zcg rfl rfl rfl tv (fun h24 => ?_) (fun h24 => ?_)
   ·refine zaf tv <| zad <| zao rfl <| zax <| zad <| zbb <| zad ?_
    rw [zbg] at h24
    obtain ⟨x, hx⟩ : ∃ x, w.lanes[i]? = some x := ⟨_, List.getElem?_eq_getElem (by omega)⟩
    obtain ⟨y, hy⟩ : ∃ y, v.lanes[i]? = some y := ⟨_, List.getElem?_eq_getElem (by omega)⟩
    refine zaa <| zac rfl rfl tv <| zae rfl rfl tv <| zaf tv <| zad <| zbo <| zab rfl rfl rfl rfl rfl rfl tv <| zah rfl rfl rfl rfl rfl rfl tv <| zac rfl rfl tv <| zbh rfl rfl rfl rfl rfl rfl (zbr hx) rfl tv <| zbu rfl rfl rfl rfl rfl tv <| zab rfl rfl rfl rfl rfl rfl tv <| zah rfl rfl rfl rfl rfl rfl tv <| zac rfl rfl tv <| zbh rfl rfl rfl rfl rfl rfl (zbr hy) rfl tv <| zbu rfl rfl rfl rfl rfl tv <| zdo [] rfl (c71 x y) (.cons ((subP rfl)) (.cons ((subP rfl)) .nil)) (fun k o h => by simp [Go.Vc.look] at h) rfl tv (fun h36 => ?_) (fun h36 => ?_)
    ·refine zdq rfl rfl tv <| zaf (by kernel_rfl) <| zap rfl <| zax <| zaa <| zbz rfl rfl rfl (by unfold inI; omega) rfl tv <| zac rfl rfl tv <| zaf tv <| ⟨_, _, ren [(2, 2), (3, 3)], ?_, ⟨i + 1, ?_, rfl, rfl⟩, zay [(2, 2), (3, 3)] rfl rfl ⟨⟨_, rfl, (.ptr _ _ _ rfl (zak rfl))⟩, ⟨_, rfl, (.ptr _ _ _ rfl (zak rfl))⟩, ⟨_, rfl, (.lit _)⟩, ⟨_, rfl, (.lit _)⟩, tv⟩ ⟨⟨_, _, rfl, rfl, (zbk rfl)⟩, ⟨_, _, rfl, rfl, (zbk rfl)⟩, tv⟩ (zaz hpar rfl)⟩
     ·omega
     ·refine ⟨by omega, ?_⟩
      rw [List.take_add_one, List.take_add_one, hI1, hx, hy]
      rw [show x = y by simpa using h36]
    ·refine zdq rfl rfl tv <| zaf (by kernel_rfl) <| zao rfl <| zad <| zaa <| zae rfl rfl tv <| zaf tv <| zaw <| fin0 (.inr rfl) (.cons (.tmp rfl (nb rfl)) .nil) (subB ?_)
     ·refine beq_eq_false_iff_ne.2 (fun e => ?_)
      rw [e, hy] at hx
      cases hx
      simp at h36
   ·refine zaf tv <| zad <| zap rfl <| zbw <| iteP rfl <| zad ?_
    rw [zbg] at h24
    refine zaa <| zae rfl rfl tv <| zaf tv <| zaw <| fin0 (.inr rfl) (.cons (.tmp rfl (nb rfl)) .nil) (subB ?_)
    ·refine beq_iff_eq.2 ?_
     rw [List.take_of_length_le (by omega), List.take_of_length_le (by omega)] at hI1
     have h10' : w.ticks = v.ticks := by omega
     cases w; cases v; simp_all
theorem c74 (l : List Step) (es : List Int) (t : Int) (hl : es.length ≤ 1000000) : VFun G 74 [.shr 7 (stepCells l), .shr 1 (intCells es), .lit (.int .i64 t)] [] (.shr 2 (zbe (zdm t l es))) [] := by
 refine VFun.intro (fn := Try.f74) rfl rfl (by kernel_rfl) (nb rfl) fun Γ hpar => ?_
 refine zad <| vw_len (t := 0) rfl fun hl0 => ?_
 rw [zbf] at hl0
 refine zaa <| zae rfl rfl tv <| zaf tv <| zad <| zaa <| zae rfl rfl tv <| zaf tv <| zad <| zad <| zaa <| zac rfl rfl tv <| zby rfl rfl rfl tv <| zac rfl rfl tv <| zaf tv <| zbb <| zbt (fun n_ E => ∃ (i : Nat), ((i ≤ l.length)) ∧ n_ = l.length - i ∧ E = ⟨[(1, .shr 1 (intCells es)), (2, .lit (.int .i64 t)), (7, .row 7), (10, .shr 7 (stepCells l)), (11, .lit (.int .i64 (stepCells l).length)), (12, .lit (.int .i64 i))], [(7, .row 48 2 (zbe (putsI t l es i)))], 46⟩) (n0 := _) (E0 := _) (⟨0, by omega, rfl, rfl⟩) (ren []) (zay [] rfl rfl ⟨⟨_, rfl, (.shr _ _)⟩, ⟨_, rfl, (.lit _)⟩, ⟨_, rfl, .nilrow _ _ _ _ rfl rfl⟩, ⟨_, rfl, (.shr _ _)⟩, ⟨_, rfl, (.lit _)⟩, ⟨_, rfl, (.lit _)⟩, tv⟩ ⟨(.inr (.inl ⟨rfl, rfl⟩)), tv⟩ (zaz hpar rfl)) (fun n_ E hR => ?_)
 obtain ⟨i, hI, rfl, rfl⟩ := hR
 have hI0 := hI
 refine zad <| zaa <| zcg rfl rfl rfl tv (fun h13 => ?_) (fun h13 => ?_)
 ·refine zaf tv <| zad <| zao rfl <| zax <| zad <| zbb <| zad ?_
  rw [zbf] at h13
  obtain ⟨s, hs⟩ : ∃ s, l[i]? = some s := ⟨_, List.getElem?_eq_getElem (by omega)⟩
  refine zaa <| zac rfl rfl tv <| zbh rfl rfl rfl rfl rfl rfl (zbq hs) rfl tv <| zbu rfl rfl rfl rfl rfl tv <| zbd 120 rfl rfl (zar hpar rfl) rfl rfl tv <| zae rfl rfl tv <| zaj rfl rfl rfl rfl rfl rfl rfl rfl tv <| zaf tv <| zad <| zaa <| zac rfl rfl tv <| zac rfl rfl tv <| zby rfl rfl rfl tv <| zcg rfl rfl rfl tv (fun h20 => ?_) (fun h20 => ?_)
  ·refine zac rfl rfl tv <| zac rfl rfl (gk rfl) <| zac rfl rfl (gk rfl) ?_
   obtain ⟨e, he⟩ : ∃ e, es[i]? = some e := ⟨_, List.getElem?_eq_getElem (by rw [zal] at h20; omega)⟩
   refine zbh rfl rfl rfl rfl rfl rfl (zda he) rfl (gk rfl) <| zbv rfl rfl rfl rfl rfl (gk rfl) <| zci rfl rfl rfl (gk rfl) (fun h26 => ?_) (fun h26 => ?_)
   ·refine zav rfl rfl rfl tv <| zac rfl rfl tv <| zab rfl rfl rfl rfl rfl rfl (gk rfl) <| zah rfl rfl rfl rfl rfl rfl (gk rfl) <| zci rfl rfl rfl (gk rfl) (fun h31 => ?_) (fun h31 => ?_)
    ·refine zav rfl rfl rfl tv <| zac rfl rfl tv <| zab rfl rfl rfl rfl rfl rfl (gk rfl) <| zah rfl rfl rfl rfl rfl rfl (gk rfl) <| zac rfl rfl (gk rfl) <| zci rfl rfl rfl (gk rfl) (fun h37 => ?_) (fun h37 => ?_)
     ·refine zav rfl rfl rfl tv <| zaf tv <| zao rfl <| zaa <| zac rfl rfl tv <| zab rfl rfl rfl rfl rfl rfl tv <| zds rfl rfl rfl rfl rfl rfl rfl tv <| zba 121 rfl rfl rfl rfl rfl rfl rfl rfl rfl rfl (zar hpar rfl) rfl rfl tv <| zbn 122 rfl rfl rfl (zdb rfl) rfl (zar hpar rfl) rfl rfl rfl rfl rfl (by have := putsI_len2 (t := t) (l := l) (es := es) (i := i); simp [zbx, zaq]; omega) rfl tv <| zae rfl rfl tv <| zaf tv <| zaa <| zbz rfl rfl rfl (by unfold inI; omega) rfl tv <| zac rfl rfl tv <| zaf tv <| ⟨_, _, ren [(7, 122)], ?_, ⟨i + 1, ?_, rfl, rfl⟩, zay [(7, 122)] rfl rfl ⟨⟨_, rfl, (.shr _ _)⟩, ⟨_, rfl, (.lit _)⟩, ⟨_, rfl, (.row _ _ rfl (zak rfl))⟩, ⟨_, rfl, (.shr _ _)⟩, ⟨_, rfl, (.lit _)⟩, ⟨_, rfl, (.lit _)⟩, tv⟩ ⟨(.inl ⟨_, rfl, zcq rfl (by rw [putsI_some hs he, if_pos ⟨by first | exact h26 | omega, by unfold isPut; simp; exact ⟨by first | exact h31 | omega, by first | exact h37 | omega⟩⟩, zcs]; rfl)⟩), tv⟩ (zaz hpar rfl)⟩
      ·omega
      ·omega
     ·refine zav rfl rfl rfl tv <| zaf tv <| zap rfl <| zax <| zaa <| zbz rfl rfl rfl (by unfold inI; omega) rfl tv <| zac rfl rfl tv <| zaf tv <| ⟨_, _, ren [(7, 7)], ?_, ⟨i + 1, ?_, rfl, rfl⟩, zay [(7, 7)] rfl rfl ⟨⟨_, rfl, (.shr _ _)⟩, ⟨_, rfl, (.lit _)⟩, ⟨_, rfl, (.row _ _ rfl (zak rfl))⟩, ⟨_, rfl, (.shr _ _)⟩, ⟨_, rfl, (.lit _)⟩, ⟨_, rfl, (.lit _)⟩, tv⟩ ⟨(.inl ⟨_, rfl, zcq rfl (by rw [putsI_some hs he, if_neg (by unfold isPut; simp; omega), List.append_nil])⟩), tv⟩ (zaz hpar rfl)⟩
      ·omega
      ·omega
    ·refine zav rfl rfl rfl tv <| zac rfl rfl tv <| zag rfl rfl rfl rfl rfl <| zag rfl rfl rfl rfl rfl <| zag rfl rfl rfl rfl rfl <| zag rfl rfl rfl rfl rfl <| zat rfl rfl rfl tv <| zaf tv <| zap rfl <| zax <| zaa <| zbz rfl rfl rfl (by unfold inI; omega) rfl tv <| zac rfl rfl tv <| zaf tv <| ⟨_, _, ren [(7, 7)], ?_, ⟨i + 1, ?_, rfl, rfl⟩, zay [(7, 7)] rfl rfl ⟨⟨_, rfl, (.shr _ _)⟩, ⟨_, rfl, (.lit _)⟩, ⟨_, rfl, (.row _ _ rfl (zak rfl))⟩, ⟨_, rfl, (.shr _ _)⟩, ⟨_, rfl, (.lit _)⟩, ⟨_, rfl, (.lit _)⟩, tv⟩ ⟨(.inl ⟨_, rfl, zcq rfl (by rw [putsI_some hs he, if_neg (by unfold isPut; simp; omega), List.append_nil])⟩), tv⟩ (zaz hpar rfl)⟩
     ·omega
     ·omega
   ·refine zav rfl rfl rfl tv <| zac rfl rfl tv <| zag rfl rfl rfl rfl rfl <| zag rfl rfl rfl rfl rfl <| zag rfl rfl rfl rfl rfl <| zat rfl rfl rfl tv <| zac rfl rfl tv <| zag rfl rfl rfl rfl rfl <| zag rfl rfl rfl rfl rfl <| zag rfl rfl rfl rfl rfl <| zag rfl rfl rfl rfl rfl <| zat rfl rfl rfl tv <| zaf tv <| zap rfl <| zax <| zaa <| zbz rfl rfl rfl (by unfold inI; omega) rfl tv <| zac rfl rfl tv <| zaf tv <| ⟨_, _, ren [(7, 7)], ?_, ⟨i + 1, ?_, rfl, rfl⟩, zay [(7, 7)] rfl rfl ⟨⟨_, rfl, (.shr _ _)⟩, ⟨_, rfl, (.lit _)⟩, ⟨_, rfl, (.row _ _ rfl (zak rfl))⟩, ⟨_, rfl, (.shr _ _)⟩, ⟨_, rfl, (.lit _)⟩, ⟨_, rfl, (.lit _)⟩, tv⟩ ⟨(.inl ⟨_, rfl, zcq rfl (by rw [putsI_some hs he, if_neg (by unfold isPut; simp; omega), List.append_nil])⟩), tv⟩ (zaz hpar rfl)⟩
    ·omega
    ·omega
  ·refine zac rfl rfl tv <| zag rfl rfl rfl rfl rfl <| zag rfl rfl rfl rfl rfl <| zag rfl rfl rfl rfl rfl <| zag rfl rfl rfl rfl rfl <| zag rfl rfl rfl rfl rfl <| zat rfl rfl rfl tv <| zac rfl rfl tv <| zag rfl rfl rfl rfl rfl <| zag rfl rfl rfl rfl rfl <| zag rfl rfl rfl rfl rfl <| zat rfl rfl rfl tv <| zac rfl rfl tv <| zag rfl rfl rfl rfl rfl <| zag rfl rfl rfl rfl rfl <| zag rfl rfl rfl rfl rfl <| zag rfl rfl rfl rfl rfl <| zat rfl rfl rfl tv <| zaf tv <| zap rfl <| zax <| zaa <| zbz rfl rfl rfl (by unfold inI; omega) rfl tv <| zac rfl rfl tv <| zaf tv <| ⟨_, _, ren [(7, 7)], ?_, ⟨i + 1, ?_, rfl, rfl⟩, zay [(7, 7)] rfl rfl ⟨⟨_, rfl, (.shr _ _)⟩, ⟨_, rfl, (.lit _)⟩, ⟨_, rfl, (.row _ _ rfl (zak rfl))⟩, ⟨_, rfl, (.shr _ _)⟩, ⟨_, rfl, (.lit _)⟩, ⟨_, rfl, (.lit _)⟩, tv⟩ ⟨(.inl ⟨_, rfl, zcq rfl (by rw [zal] at h20; rw [putsI_none (by omega)])⟩), tv⟩ (zaz hpar rfl)⟩
   ·omega
   ·omega
 ·refine zaf tv <| zad <| zap rfl <| zbw <| iteP rfl <| zad ?_
  rw [zbf] at h13
  rw [putsI_all (show l.length ≤ i by omega)]
  refine zaa <| zac rfl rfl tv <| zae rfl rfl tv <| zaf tv <| zaw <| fin' [] (.inr rfl) (.cons (.tmp rfl (nb rfl)) .nil) (zay [] rfl rfl ⟨⟨_, rfl, (zcd rfl (fzL rfl) ?_)⟩, tv⟩ tv (zaz rfl rfl))
  all_goals (try rfl)
end Go.Proofs.Ytaadloihphpdbaa
