/- Walk of a law. Printed by a small program (walk.py). -/
import Derived.Test.YtaadloihphpdbaaZWView2
set_option linter.unusedVariables false
set_option linter.unusedSimpArgs false
set_option maxRecDepth 4000
namespace Go.Proofs.Ytaadloihphpdbaa
open Go Go.Vc Go.RowKit
theorem c15 (n : Int) (mine theirs : List Step) (xs : List Int) (t : Int) (hm : ∀ s ∈ mine, inI s.m) (ho : ∀ s ∈ theirs, inI s.m) : VFun G 15 [.lit (.int .i64 n), .shr 7 (stepCells mine), .shr 7 (stepCells theirs), .shr 1 (intCells xs), .lit (.int .i64 t)] [] (.lit (.bool true)) [] := by
 refine VFun.intro (fn := Try.f15) rfl rfl (by kernel_rfl) (nb rfl) fun Γ hpar => ?_
 refine zad <| vw_len (t := 1) rfl fun hl1 => ?_
 refine vw_len (t := 2) rfl fun hl2 => ?_
 rw [zbf] at hl1 hl2
 refine zaa <| zae rfl rfl tv <| zaf tv <| zad <| zad <| zaa <| zbi rfl (c75) .nil rfl tv <| zdq rfl rfl tv <| zaf tv <| zap rfl <| zax <| zad <| zad <| zaa <| zac rfl rfl tv <| zcg rfl rfl rfl tv (fun h28 => ?_) (fun h28 => ?_)
 ·refine zac rfl rfl tv <| zag rfl rfl rfl rfl rfl <| zag rfl rfl rfl rfl rfl <| zav rfl rfl rfl tv <| zac rfl rfl tv <| zag rfl rfl rfl rfl rfl <| zag rfl rfl rfl rfl rfl <| zav rfl rfl rfl tv <| zac rfl rfl tv <| zag rfl rfl rfl rfl rfl <| zag rfl rfl rfl rfl rfl <| zag rfl rfl rfl rfl rfl <| zav rfl rfl rfl tv <| zac rfl rfl tv <| zag rfl rfl rfl rfl rfl <| zag rfl rfl rfl rfl rfl <| zag rfl rfl rfl rfl rfl <| zag rfl rfl rfl rfl rfl <| zag rfl rfl rfl rfl rfl <| zag rfl rfl rfl rfl rfl <| zav rfl rfl rfl tv <| zaf tv <| zao rfl <| zad <| zaa <| zae rfl rfl tv <| zaf tv <| zaw <| fin0 (.inr rfl) (.cons (.tmp rfl (nb rfl)) .nil) (subB ?_)
  ·first | rfl | (rw [hxy]; simp)
 ·refine zac rfl rfl tv <| zac rfl rfl (gk rfl) <| zdr rfl rfl rfl (gk rfl) (fun h31 => ?_) (fun h31 => ?_)
  ·refine zat rfl rfl rfl tv <| zac rfl rfl tv <| zag rfl rfl rfl rfl rfl <| zag rfl rfl rfl rfl rfl <| zav rfl rfl rfl tv <| zac rfl rfl tv <| zag rfl rfl rfl rfl rfl <| zag rfl rfl rfl rfl rfl <| zag rfl rfl rfl rfl rfl <| zav rfl rfl rfl tv <| zac rfl rfl tv <| zag rfl rfl rfl rfl rfl <| zag rfl rfl rfl rfl rfl <| zag rfl rfl rfl rfl rfl <| zag rfl rfl rfl rfl rfl <| zag rfl rfl rfl rfl rfl <| zag rfl rfl rfl rfl rfl <| zav rfl rfl rfl tv <| zaf tv <| zao rfl <| zad <| zaa <| zae rfl rfl tv <| zaf tv <| zaw <| fin0 (.inr rfl) (.cons (.tmp rfl (nb rfl)) .nil) (subB ?_)
   ·first | rfl | (rw [hxy]; simp)
  ·refine zat rfl rfl rfl tv <| zac rfl rfl tv <| zac rfl rfl (gk rfl) <| zcg rfl rfl rfl (gk rfl) (fun h35 => ?_) (fun h35 => ?_)
   ·refine zat rfl rfl rfl tv <| zac rfl rfl tv <| zag rfl rfl rfl rfl rfl <| zag rfl rfl rfl rfl rfl <| zag rfl rfl rfl rfl rfl <| zav rfl rfl rfl tv <| zac rfl rfl tv <| zag rfl rfl rfl rfl rfl <| zag rfl rfl rfl rfl rfl <| zag rfl rfl rfl rfl rfl <| zag rfl rfl rfl rfl rfl <| zag rfl rfl rfl rfl rfl <| zag rfl rfl rfl rfl rfl <| zav rfl rfl rfl tv <| zaf tv <| zao rfl <| zad <| zaa <| zae rfl rfl tv <| zaf tv <| zaw <| fin0 (.inr rfl) (.cons (.tmp rfl (nb rfl)) .nil) (subB ?_)
    ·first | rfl | (rw [hxy]; simp)
   ·refine zat rfl rfl rfl tv <| zac rfl rfl tv <| zac rfl rfl (gk rfl) <| zac rfl rfl (gk rfl) <| s_geq rfl rfl rfl (gk rfl) (fun h40 => ?_) (fun h40 => ?_)
    ·refine zat rfl rfl rfl tv <| zac rfl rfl tv <| zag rfl rfl rfl rfl rfl <| zag rfl rfl rfl rfl rfl <| zag rfl rfl rfl rfl rfl <| zag rfl rfl rfl rfl rfl <| zag rfl rfl rfl rfl rfl <| zag rfl rfl rfl rfl rfl <| zav rfl rfl rfl tv <| zaf tv <| zao rfl <| zad <| zaa <| zae rfl rfl tv <| zaf tv <| zaw <| fin0 (.inr rfl) (.cons (.tmp rfl (nb rfl)) .nil) (subB ?_)
     ·first | rfl | (rw [hxy]; simp)
    ·refine zat rfl rfl rfl tv <| zac rfl rfl tv <| zac rfl rfl (gk rfl) <| zby rfl rfl rfl (gk rfl) <| zac rfl rfl (gk rfl) <| zby rfl rfl rfl (gk rfl) <| zbz rfl rfl rfl (by simp only [zbf]; unfold inI; omega) rfl (gk rfl) <| zdr rfl rfl rfl (gk rfl) (fun h48 => ?_) (fun h48 => ?_)
     ·refine zat rfl rfl rfl tv <| zaf tv <| zao rfl <| zad <| zaa <| zae rfl rfl tv <| zaf tv <| zaw <| fin0 (.inr rfl) (.cons (.tmp rfl (nb rfl)) .nil) (subB ?_)
      ·first | rfl | (rw [hxy]; simp)
     ·refine zat rfl rfl rfl tv <| zaf tv <| zap rfl <| zax <| zad <| zad ?_
      simp only [zbf] at h48
      refine zaa <| zac rfl rfl tv <| zby rfl rfl rfl tv <| zac rfl rfl tv <| zaf tv <| zbb <| zbt (fun n_ E => ∃ (i : Nat), ((i ≤ theirs.length) ∧ ((theirs.take i).all (fun s => !mineB t s) = true)) ∧ n_ = theirs.length - i ∧ E = ⟨[(0, .lit (.int .i64 n)), (1, .shr 7 (stepCells mine)), (2, .shr 7 (stepCells theirs)), (3, .shr 1 (intCells xs)), (4, .lit (.int .i64 t)), (50, .shr 7 (stepCells theirs)), (51, .lit (.int .i64 (stepCells theirs).length)), (52, .lit (.int .i64 i))], [], 145⟩) (n0 := _) (E0 := _) (⟨0, by exact ⟨Nat.zero_le _, rfl⟩, rfl, rfl⟩) (ren []) (zay [] rfl rfl ⟨⟨_, rfl, (.lit _)⟩, ⟨_, rfl, (.shr _ _)⟩, ⟨_, rfl, (.shr _ _)⟩, ⟨_, rfl, (.shr _ _)⟩, ⟨_, rfl, (.lit _)⟩, ⟨_, rfl, (.shr _ _)⟩, ⟨_, rfl, (.lit _)⟩, ⟨_, rfl, (.lit _)⟩, tv⟩ tv (zaz hpar rfl)) (fun n_ E hR => ?_)
      obtain ⟨i, hI, rfl, rfl⟩ := hR
      obtain ⟨hI0, hI1⟩ := hI
      refine zad <| zaa <| zcg rfl rfl rfl tv (fun h53 => ?_) (fun h53 => ?_)
      ·refine zaf tv <| zad <| zao rfl <| zax <| zad <| zbb <| zad ?_
       rw [zbf] at h53
       obtain ⟨s, hs⟩ : ∃ s, theirs[i]? = some s := ⟨_, List.getElem?_eq_getElem (by omega)⟩
       refine zaa <| zbh rfl rfl rfl rfl rfl rfl (zbq hs) rfl tv <| zbu rfl rfl rfl rfl rfl tv <| zbd 120 rfl rfl (zar hpar rfl) rfl rfl tv <| zaj rfl rfl rfl rfl rfl rfl rfl rfl tv <| zaf tv <| zad <| zaa <| zab rfl rfl rfl rfl rfl rfl tv <| zah rfl rfl rfl rfl rfl rfl tv <| zac rfl rfl tv <| zci rfl rfl rfl tv (fun h59 => ?_) (fun h59 => ?_)
       ·refine zac rfl rfl tv <| zag rfl rfl rfl rfl rfl <| zag rfl rfl rfl rfl rfl <| zag rfl rfl rfl rfl rfl <| zav rfl rfl rfl tv <| zaf tv <| zao rfl <| zad <| zaa <| zae rfl rfl tv <| zaf tv <| zaw <| fin0 (.inr rfl) (.cons (.tmp rfl (nb rfl)) .nil) (subB ?_)
        ·first | rfl | (rw [hxy]; simp)
       ·refine zac rfl rfl tv <| zab rfl rfl rfl rfl rfl rfl (gk rfl) <| zah rfl rfl rfl rfl rfl rfl (gk rfl) <| zci rfl rfl rfl (gk rfl) (fun h63 => ?_) (fun h63 => ?_)
        ·refine zat rfl rfl rfl tv <| zaf tv <| zao rfl <| zad <| zaa <| zae rfl rfl tv <| zaf tv <| zaw <| fin0 (.inr rfl) (.cons (.tmp rfl (nb rfl)) .nil) (subB ?_)
         ·first | rfl | (rw [hxy]; simp)
        ·refine zat rfl rfl rfl tv <| zaf tv <| zap rfl <| zax <| zaa <| zbz rfl rfl rfl (by unfold inI; omega) rfl tv <| zac rfl rfl tv <| zaf tv <| ⟨_, _, ren [], ?_, ⟨i + 1, ?_, rfl, rfl⟩, zay [] rfl rfl ⟨⟨_, rfl, (.lit _)⟩, ⟨_, rfl, (.shr _ _)⟩, ⟨_, rfl, (.shr _ _)⟩, ⟨_, rfl, (.shr _ _)⟩, ⟨_, rfl, (.lit _)⟩, ⟨_, rfl, (.shr _ _)⟩, ⟨_, rfl, (.lit _)⟩, ⟨_, rfl, (.lit _)⟩, tv⟩ tv (zaz hpar rfl)⟩
         ·omega
         ·refine ⟨by omega, ?_⟩
          rw [all_take hs, hI1, mine_n (by omega) (by omega)]; rfl
      ·refine zaf tv <| zad <| zap rfl <| zbw <| iteP rfl <| zad ?_
       rw [zbf] at h53
       have hno : theirs.all (fun s => !mineB t s) = true := by rw [List.take_of_length_le (by omega)] at hI1; exact hI1
       refine zaa <| zae rfl rfl tv <| zaf tv <| zad <| zaa <| zae rfl rfl tv <| zaf tv <| zad <| zad <| zaa <| zac rfl rfl tv <| zby rfl rfl rfl tv <| zac rfl rfl tv <| zaf tv <| zbb <| zbt (fun n_ E => ∃ (i : Nat) (j : Nat) (L : List Step), ((i ≤ mine.length) ∧ (j ≤ theirs.length) ∧ (zcv t L = zcv t (mine.take i)) ∧ (L.length = i + j) ∧ (∀ x ∈ L, inI x.m)) ∧ n_ = mine.length - i ∧ E = ⟨[(0, .lit (.int .i64 n)), (1, .shr 7 (stepCells mine)), (2, .shr 7 (stepCells theirs)), (3, .shr 1 (intCells xs)), (4, .lit (.int .i64 t)), (13, .row 13), (14, .lit (.int .i64 j)), (66, .shr 7 (stepCells mine)), (67, .lit (.int .i64 (stepCells mine).length)), (68, .lit (.int .i64 i))], [(13, .row 50 7 (stepCells L))], 145⟩) (n0 := _) (E0 := _) (⟨0, 0, [], by exact ⟨Nat.zero_le _, Nat.zero_le _, rfl, rfl, by simp⟩, rfl, rfl⟩) (ren []) (zay [] rfl rfl ⟨⟨_, rfl, (.lit _)⟩, ⟨_, rfl, (.shr _ _)⟩, ⟨_, rfl, (.shr _ _)⟩, ⟨_, rfl, (.shr _ _)⟩, ⟨_, rfl, (.lit _)⟩, ⟨_, rfl, .nilrow _ _ _ _ rfl rfl⟩, ⟨_, rfl, (.lit _)⟩, ⟨_, rfl, (.shr _ _)⟩, ⟨_, rfl, (.lit _)⟩, ⟨_, rfl, (.lit _)⟩, tv⟩ ⟨(.inr (.inl ⟨rfl, rfl⟩)), tv⟩ (zaz hpar rfl)) (fun n_ E hR => ?_)
       obtain ⟨i, j, L, hI, rfl, rfl⟩ := hR
       obtain ⟨hJ0, hJ1, hJ2, hJ3, hJ4⟩ := hI
       refine zad <| zaa <| zcg rfl rfl rfl tv (fun h69 => ?_) (fun h69 => ?_)
       ·refine zaf tv <| zad <| zao rfl <| zax <| zad <| zbb <| zad ?_
        rw [zbf] at h69
        obtain ⟨s, hs⟩ : ∃ s, mine[i]? = some s := ⟨_, List.getElem?_eq_getElem (by omega)⟩
        refine zaa <| zac rfl rfl tv <| zbh rfl rfl rfl rfl rfl rfl (zbq hs) rfl tv <| zbu rfl rfl rfl rfl rfl tv <| zbd 140 rfl rfl (zar hpar rfl) rfl rfl tv <| zae rfl rfl tv <| zaj rfl rfl rfl rfl rfl rfl rfl rfl tv <| zaf tv <| zad <| zbb <| zbt (fun n_ E => ∃ (j : Nat) (L : List Step), ((i ≤ mine.length) ∧ (j ≤ theirs.length) ∧ (zcv t L = zcv t (mine.take i)) ∧ (L.length = i + j) ∧ (∀ x ∈ L, inI x.m)) ∧ n_ = theirs.length - j ∧ E = ⟨[(0, .lit (.int .i64 n)), (1, .shr 7 (stepCells mine)), (2, .shr 7 (stepCells theirs)), (3, .shr 1 (intCells xs)), (4, .lit (.int .i64 t)), (13, .row 13), (14, .lit (.int .i64 j)), (15, .lit (.int .i64 i)), (16, .ptr 16 0), (66, .shr 7 (stepCells mine)), (67, .lit (.int .i64 (stepCells mine).length)), (68, .lit (.int .i64 i))], [(13, .row 50 7 (stepCells L)), (16, .box (stepAV s))], 145⟩) (n0 := _) (E0 := _) (⟨j, L, by exact ⟨hJ0, hJ1, hJ2, hJ3, hJ4⟩, rfl, rfl⟩) (ren [(13, 13), (16, 140)]) (zay [(13, 13), (16, 140)] rfl rfl ⟨⟨_, rfl, (.lit _)⟩, ⟨_, rfl, (.shr _ _)⟩, ⟨_, rfl, (.shr _ _)⟩, ⟨_, rfl, (.shr _ _)⟩, ⟨_, rfl, (.lit _)⟩, ⟨_, rfl, (.row _ _ rfl (zak rfl))⟩, ⟨_, rfl, (.lit _)⟩, ⟨_, rfl, (.lit _)⟩, ⟨_, rfl, (.ptr _ _ _ rfl (zak rfl))⟩, ⟨_, rfl, (.shr _ _)⟩, ⟨_, rfl, (.lit _)⟩, ⟨_, rfl, (.lit _)⟩, tv⟩ ⟨(.inl ⟨_, rfl, rfl⟩), ⟨_, _, rfl, rfl, (zbk rfl)⟩, tv⟩ (zaz hpar rfl)) (fun n_ E hR => ?_)
        obtain ⟨j, L, hI, rfl, rfl⟩ := hR
        obtain ⟨hJ0, hJ1, hJ2, hJ3, hJ4⟩ := hI
        refine zad <| zad <| zaa <| zac rfl rfl tv <| zac rfl rfl tv <| zby rfl rfl rfl tv <| zcg rfl rfl rfl tv (fun h76 => ?_) (fun h76 => ?_)
        ·refine zac rfl rfl tv <| zac rfl rfl (gk rfl) <| zac rfl rfl (gk rfl) ?_
         obtain ⟨z, hz⟩ : ∃ z, xs[i]? = some z := ⟨_, List.getElem?_eq_getElem (by rw [zal] at h76; omega)⟩
         refine zbh rfl rfl rfl rfl rfl rfl (zda hz) rfl (gk rfl) <| zbv rfl rfl rfl rfl rfl (gk rfl) <| zdr rfl rfl rfl (gk rfl) (fun h82 => ?_) (fun h82 => ?_)
         ·refine zav rfl rfl rfl tv <| zac rfl rfl tv <| zac rfl rfl (gk rfl) <| zac rfl rfl (gk rfl) <| zby rfl rfl rfl (gk rfl) <| zcg rfl rfl rfl (gk rfl) (fun h88 => ?_) (fun h88 => ?_)
          ·refine zav rfl rfl rfl tv <| zaf tv <| zao rfl <| zax <| zbb <| zad ?_
           rw [zbf] at h88
           obtain ⟨s2, hs2⟩ : ∃ s, theirs[j]? = some s := ⟨_, List.getElem?_eq_getElem (by omega)⟩
           refine zaa <| zac rfl rfl tv <| zac rfl rfl tv <| zac rfl rfl tv <| zbh rfl rfl rfl rfl rfl rfl (zbq hs2) rfl tv <| zbu rfl rfl rfl rfl rfl tv <| zba 161 rfl rfl rfl rfl rfl rfl rfl rfl rfl rfl (zar hpar rfl) rfl rfl tv <| zbn 162 rfl rfl rfl (zdb rfl) rfl (zar hpar rfl) rfl rfl rfl rfl rfl (by simp [zbx, zbf]; omega) rfl tv <| zae rfl rfl tv <| zaf tv <| zad <| zaa <| zac rfl rfl tv <| zbz rfl rfl rfl (by unfold inI; omega) rfl tv <| zae rfl rfl tv <| zaf tv <| zad <| zaa <| zac rfl rfl tv <| u_remN rfl rfl (by omega) rfl tv <| zac rfl rfl tv <| zac rfl rfl tv <| zbh rfl rfl rfl rfl rfl rfl (zda hz) rfl tv <| zbv rfl rfl rfl rfl rfl tv <| u_remN rfl rfl (by omega) rfl tv <| zci rfl rfl rfl tv (fun h106 => ?_) (fun h106 => ?_)
           ·refine zaf tv <| zao rfl <| zbw <| iteN (by decide) <| iteP rfl <| zaa <| zac rfl rfl tv <| zam rfl rfl rfl rfl rfl rfl tv <| zba 163 rfl rfl rfl rfl rfl rfl rfl rfl rfl rfl (zar hpar rfl) rfl rfl tv <| zbn 164 rfl rfl rfl (zdb rfl) rfl (zar hpar rfl) rfl rfl rfl rfl rfl (by simp [zbx, zbf]; omega) rfl tv <| zae rfl rfl tv <| zaf tv <| zaa <| zbz rfl rfl rfl (by unfold inI; omega) rfl tv <| zac rfl rfl tv <| zaf tv <| ⟨_, _, ren [(13, 164)], ?_, ⟨i + 1, j + 1, L ++ [s2] ++ [s], ?_, rfl, rfl⟩, zay [(13, 164)] rfl rfl ⟨⟨_, rfl, (.lit _)⟩, ⟨_, rfl, (.shr _ _)⟩, ⟨_, rfl, (.shr _ _)⟩, ⟨_, rfl, (.shr _ _)⟩, ⟨_, rfl, (.lit _)⟩, ⟨_, rfl, (.row _ _ rfl (zak rfl))⟩, ⟨_, rfl, (.lit _)⟩, ⟨_, rfl, (.shr _ _)⟩, ⟨_, rfl, (.lit _)⟩, ⟨_, rfl, (.lit _)⟩, tv⟩ ⟨(.inl ⟨_, rfl, zcq rfl (by rw [zeg, zeg]; rfl)⟩), tv⟩ (zaz hpar rfl)⟩
            ·omega
            ·refine ⟨by omega, by omega, swap_next (swap_other hJ2 hno hs2) hs, by simp; omega, mem_snoc (mem_snoc hJ4 (ho s2 (List.mem_of_getElem? hs2))) (hm s (List.mem_of_getElem? hs))⟩
           ·refine zaf tv <| zap rfl <| zax <| ⟨_, _, ren [(13, 162), (16, 16)], ?_, ⟨j + 1, L ++ [s2], ?_, rfl, rfl⟩, zay [(13, 162), (16, 16)] rfl rfl ⟨⟨_, rfl, (.lit _)⟩, ⟨_, rfl, (.shr _ _)⟩, ⟨_, rfl, (.shr _ _)⟩, ⟨_, rfl, (.shr _ _)⟩, ⟨_, rfl, (.lit _)⟩, ⟨_, rfl, (.row _ _ rfl (zak rfl))⟩, ⟨_, rfl, (.lit _)⟩, ⟨_, rfl, (.lit _)⟩, ⟨_, rfl, (.ptr _ _ _ rfl (zak rfl))⟩, ⟨_, rfl, (.shr _ _)⟩, ⟨_, rfl, (.lit _)⟩, ⟨_, rfl, (.lit _)⟩, tv⟩ ⟨(.inl ⟨_, rfl, zcq rfl (by rw [zeg]; rfl)⟩), ⟨_, _, rfl, rfl, (zbk rfl)⟩, tv⟩ (zaz hpar rfl)⟩
            ·omega
            ·refine ⟨by omega, by omega, swap_other hJ2 hno hs2, by simp; omega, mem_snoc hJ4 (ho s2 (List.mem_of_getElem? hs2))⟩
          ·refine zav rfl rfl rfl tv <| zaf tv <| zap rfl <| zbw <| iteP rfl <| zaa <| zac rfl rfl tv <| zam rfl rfl rfl rfl rfl rfl tv <| zba 161 rfl rfl rfl rfl rfl rfl rfl rfl rfl rfl (zar hpar rfl) rfl rfl tv <| zbn 162 rfl rfl rfl (zdb rfl) rfl (zar hpar rfl) rfl rfl rfl rfl rfl (by simp [zbx, zbf]; omega) rfl tv <| zae rfl rfl tv <| zaf tv <| zaa <| zbz rfl rfl rfl (by unfold inI; omega) rfl tv <| zac rfl rfl tv <| zaf tv <| ⟨_, _, ren [(13, 162)], ?_, ⟨i + 1, j, L ++ [s], ?_, rfl, rfl⟩, zay [(13, 162)] rfl rfl ⟨⟨_, rfl, (.lit _)⟩, ⟨_, rfl, (.shr _ _)⟩, ⟨_, rfl, (.shr _ _)⟩, ⟨_, rfl, (.shr _ _)⟩, ⟨_, rfl, (.lit _)⟩, ⟨_, rfl, (.row _ _ rfl (zak rfl))⟩, ⟨_, rfl, (.lit _)⟩, ⟨_, rfl, (.shr _ _)⟩, ⟨_, rfl, (.lit _)⟩, ⟨_, rfl, (.lit _)⟩, tv⟩ ⟨(.inl ⟨_, rfl, zcq rfl (by rw [zeg]; rfl)⟩), tv⟩ (zaz hpar rfl)⟩
           ·omega
           ·refine ⟨by omega, by omega, swap_next hJ2 hs, by simp; omega, mem_snoc hJ4 (hm s (List.mem_of_getElem? hs))⟩
         ·refine zav rfl rfl rfl tv <| zac rfl rfl tv <| zag rfl rfl rfl rfl rfl <| zag rfl rfl rfl rfl rfl <| zag rfl rfl rfl rfl rfl <| zag rfl rfl rfl rfl rfl <| zat rfl rfl rfl tv <| zaf tv <| zap rfl <| zbw <| iteP rfl <| zaa <| zac rfl rfl tv <| zam rfl rfl rfl rfl rfl rfl tv <| zba 161 rfl rfl rfl rfl rfl rfl rfl rfl rfl rfl (zar hpar rfl) rfl rfl tv <| zbn 162 rfl rfl rfl (zdb rfl) rfl (zar hpar rfl) rfl rfl rfl rfl rfl (by simp [zbx, zbf]; omega) rfl tv <| zae rfl rfl tv <| zaf tv <| zaa <| zbz rfl rfl rfl (by unfold inI; omega) rfl tv <| zac rfl rfl tv <| zaf tv <| ⟨_, _, ren [(13, 162)], ?_, ⟨i + 1, j, L ++ [s], ?_, rfl, rfl⟩, zay [(13, 162)] rfl rfl ⟨⟨_, rfl, (.lit _)⟩, ⟨_, rfl, (.shr _ _)⟩, ⟨_, rfl, (.shr _ _)⟩, ⟨_, rfl, (.shr _ _)⟩, ⟨_, rfl, (.lit _)⟩, ⟨_, rfl, (.row _ _ rfl (zak rfl))⟩, ⟨_, rfl, (.lit _)⟩, ⟨_, rfl, (.shr _ _)⟩, ⟨_, rfl, (.lit _)⟩, ⟨_, rfl, (.lit _)⟩, tv⟩ ⟨(.inl ⟨_, rfl, zcq rfl (by rw [zeg]; rfl)⟩), tv⟩ (zaz hpar rfl)⟩
          ·omega
          ·refine ⟨by omega, by omega, swap_next hJ2 hs, by simp; omega, mem_snoc hJ4 (hm s (List.mem_of_getElem? hs))⟩
        ·refine zac rfl rfl tv <| zag rfl rfl rfl rfl rfl <| zag rfl rfl rfl rfl rfl <| zag rfl rfl rfl rfl rfl <| zag rfl rfl rfl rfl rfl <| zag rfl rfl rfl rfl rfl <| zat rfl rfl rfl tv <| zac rfl rfl tv <| zag rfl rfl rfl rfl rfl <| zag rfl rfl rfl rfl rfl <| zag rfl rfl rfl rfl rfl <| zag rfl rfl rfl rfl rfl <| zat rfl rfl rfl tv <| zaf tv <| zap rfl <| zbw <| iteP rfl <| zaa <| zac rfl rfl tv <| zam rfl rfl rfl rfl rfl rfl tv <| zba 161 rfl rfl rfl rfl rfl rfl rfl rfl rfl rfl (zar hpar rfl) rfl rfl tv <| zbn 162 rfl rfl rfl (zdb rfl) rfl (zar hpar rfl) rfl rfl rfl rfl rfl (by simp [zbx, zbf]; omega) rfl tv <| zae rfl rfl tv <| zaf tv <| zaa <| zbz rfl rfl rfl (by unfold inI; omega) rfl tv <| zac rfl rfl tv <| zaf tv <| ⟨_, _, ren [(13, 162)], ?_, ⟨i + 1, j, L ++ [s], ?_, rfl, rfl⟩, zay [(13, 162)] rfl rfl ⟨⟨_, rfl, (.lit _)⟩, ⟨_, rfl, (.shr _ _)⟩, ⟨_, rfl, (.shr _ _)⟩, ⟨_, rfl, (.shr _ _)⟩, ⟨_, rfl, (.lit _)⟩, ⟨_, rfl, (.row _ _ rfl (zak rfl))⟩, ⟨_, rfl, (.lit _)⟩, ⟨_, rfl, (.shr _ _)⟩, ⟨_, rfl, (.lit _)⟩, ⟨_, rfl, (.lit _)⟩, tv⟩ ⟨(.inl ⟨_, rfl, zcq rfl (by rw [zeg]; rfl)⟩), tv⟩ (zaz hpar rfl)⟩
         ·omega
         ·refine ⟨by omega, by omega, swap_next hJ2 hs, by simp; omega, mem_snoc hJ4 (hm s (List.mem_of_getElem? hs))⟩
       ·refine zaf tv <| zad <| zap rfl <| zbw <| iteP rfl <| zad ?_
        rw [zbf] at h69
        refine zaa <| zac rfl rfl tv <| zac rfl rfl tv <| zck [] [13] [13] rfl rfl (c43 n L (by omega) hJ4) (zbp (k0 := 13) rfl zcl) tv (.cons ((.lit _)) (.cons (.frz _ _ _ _ rfl (by decide)) .nil)) rfl rfl (zcy hpar rfl) rfl tv <| zac rfl rfl tv <| zas rfl rfl rfl tv <| zas rfl rfl rfl tv <| zbd 140 rfl rfl (zar hpar rfl) rfl rfl tv <| zaj rfl rfl rfl rfl rfl rfl rfl rfl tv <| zae rfl rfl tv <| zaf tv <| zad <| zaa <| zac rfl rfl tv <| zac rfl rfl tv <| zbi rfl (c43 n mine (by omega) hm) (.cons ((.lit _)) (.cons ((.shr _ _)) .nil)) rfl tv <| zac rfl rfl tv <| zas rfl rfl rfl tv <| zas rfl rfl rfl tv <| zbd 141 rfl rfl (zar hpar rfl) rfl rfl tv <| zaj rfl rfl rfl rfl rfl rfl rfl rfl tv <| zae rfl rfl tv <| zaf tv <| zad ?_
        obtain ⟨q, ht⟩ : ∃ q : Nat, t = q := ⟨t.toNat, by omega⟩
        have hwk := zeb (n := n) (by omega) (by omega) L
        have hwk2 := zeb (n := n) (by omega) (by omega) mine
        have hln := zdw (n := n) (by omega) (by omega) L
        have hln2 := zdw (n := n) (by omega) (by omega) mine
        obtain ⟨x, hx⟩ : ∃ x, (play n L).1.lanes[q]? = some x := ⟨_, List.getElem?_eq_getElem (by omega)⟩
        obtain ⟨y, hy⟩ : ∃ y, (play n mine).1.lanes[q]? = some y := ⟨_, List.getElem?_eq_getElem (by omega)⟩
        obtain ⟨hxy, htt⟩ := lanes_same (by omega) (by omega) ht hx hy (by omega) (by omega) (by rw [hJ2, List.take_of_length_le (by omega)])
        refine zaa <| zam rfl rfl rfl rfl rfl rfl tv <| zac rfl rfl tv <| zbi rfl (c70y (play n L).1 t q ht x hx (hwk.b x (List.mem_of_getElem? hx))) (.cons ((subP rfl)) (.cons ((.lit _)) .nil)) rfl tv <| zac rfl rfl tv <| zas rfl rfl rfl tv <| zas rfl rfl rfl tv <| zbd 142 rfl rfl (zar hpar rfl) rfl rfl tv <| zaj rfl rfl rfl rfl rfl rfl rfl rfl tv <| zae rfl rfl tv <| zaf tv <| zad <| zaa <| zam rfl rfl rfl rfl rfl rfl tv <| zac rfl rfl tv <| zbi rfl (c70y (play n mine).1 t q ht y hy (hwk2.b y (List.mem_of_getElem? hy))) (.cons ((subP rfl)) (.cons ((.lit _)) .nil)) rfl tv <| zac rfl rfl tv <| zas rfl rfl rfl tv <| zas rfl rfl rfl tv <| zbd 143 rfl rfl (zar hpar rfl) rfl rfl tv <| zaj rfl rfl rfl rfl rfl rfl rfl rfl tv <| zae rfl rfl tv <| zaf tv <| zad <| zaa <| zac rfl rfl tv <| zac rfl rfl tv <| zac rfl rfl (gk rfl) <| zav rfl rfl rfl tv <| zac rfl rfl tv ?_
        refine zam rfl rfl rfl rfl rfl rfl (gk rfl) <| zam rfl rfl rfl rfl rfl rfl (gk rfl) <| zbi rfl (c71 x y) (.cons ((subP rfl)) (.cons ((subP rfl)) .nil)) rfl (gk rfl) <| zav rfl rfl rfl tv <| zae rfl rfl tv <| zaf tv <| zaw <| fin0 (.inr rfl) (.cons (.tmp rfl (nb rfl)) .nil) (subB ?_)
        ·first | rfl | (rw [hxy]; simp)
end Go.Proofs.Ytaadloihphpdbaa
