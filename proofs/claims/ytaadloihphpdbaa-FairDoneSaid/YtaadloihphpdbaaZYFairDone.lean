/- Walk of a law. Printed by a small program (walk.py). -/
import Derived.Test.YtaadloihphpdbaaZWFair3
set_option linter.unusedVariables false
set_option linter.unusedSimpArgs false
set_option maxRecDepth 4000
namespace Go.Proofs.Ytaadloihphpdbaa
open Go Go.Vc Go.RowKit
theorem c39 (n : Int) (l : List Step) (z : Int) (hm : ∀ s ∈ l, inI s.m) : VFun G 39 [.lit (.int .i64 n), .shr 7 (stepCells l), .lit (.int .i64 z)] [] (.lit (.bool true)) [] := by
 refine VFun.intro (fn := Try.f39) rfl rfl (by kernel_rfl) (nb rfl) fun Γ hpar => ?_
 refine zad <| zaa <| zae rfl rfl tv <| zaf tv <| zad <| zad <| zaa <| zbi rfl (c133) .nil rfl tv <| zdq rfl rfl tv <| zaf tv <| zap rfl <| zax <| zad <| zad <| zaa <| zac rfl rfl tv <| zcg rfl rfl rfl tv (fun h16 => ?_) (fun h16 => ?_)
 ·refine zac rfl rfl tv <| zag rfl rfl rfl rfl rfl <| zag rfl rfl rfl rfl rfl <| zav rfl rfl rfl tv <| zac rfl rfl tv <| zag rfl rfl rfl rfl rfl <| zag rfl rfl rfl rfl rfl <| zav rfl rfl rfl tv <| zac rfl rfl tv <| zag rfl rfl rfl rfl rfl <| zag rfl rfl rfl rfl rfl <| zav rfl rfl rfl tv <| zaf tv <| zao rfl <| zad <| zaa <| zae rfl rfl tv <| zaf tv <| zaw <| fin0 (.inr rfl) (.cons (.tmp rfl (nb rfl)) .nil) (subB ?_)
  ·rfl
 ·refine zac rfl rfl tv <| zac rfl rfl (gk rfl) <| zdr rfl rfl rfl (gk rfl) (fun h19 => ?_) (fun h19 => ?_)
  ·refine zat rfl rfl rfl tv <| zac rfl rfl tv <| zag rfl rfl rfl rfl rfl <| zag rfl rfl rfl rfl rfl <| zav rfl rfl rfl tv <| zac rfl rfl tv <| zag rfl rfl rfl rfl rfl <| zag rfl rfl rfl rfl rfl <| zav rfl rfl rfl tv <| zaf tv <| zao rfl <| zad <| zaa <| zae rfl rfl tv <| zaf tv <| zaw <| fin0 (.inr rfl) (.cons (.tmp rfl (nb rfl)) .nil) (subB ?_)
   ·rfl
  ·refine zat rfl rfl rfl tv <| zac rfl rfl tv <| zac rfl rfl (gk rfl) <| zcg rfl rfl rfl (gk rfl) (fun h23 => ?_) (fun h23 => ?_)
   ·refine zat rfl rfl rfl tv <| zac rfl rfl tv <| zag rfl rfl rfl rfl rfl <| zag rfl rfl rfl rfl rfl <| zav rfl rfl rfl tv <| zaf tv <| zao rfl <| zad <| zaa <| zae rfl rfl tv <| zaf tv <| zaw <| fin0 (.inr rfl) (.cons (.tmp rfl (nb rfl)) .nil) (subB ?_)
    ·rfl
   ·refine zat rfl rfl rfl tv <| zac rfl rfl tv <| zac rfl rfl (gk rfl) <| zdr rfl rfl rfl (gk rfl) (fun h27 => ?_) (fun h27 => ?_)
    ·refine zat rfl rfl rfl tv <| zaf tv <| zao rfl <| zad <| zaa <| zae rfl rfl tv <| zaf tv <| zaw <| fin0 (.inr rfl) (.cons (.tmp rfl (nb rfl)) .nil) (subB ?_)
     ·rfl
    ·refine zat rfl rfl rfl tv <| zaf tv <| zap rfl <| zax <| zad <| zaa <| zac rfl rfl tv <| zac rfl rfl tv <| zbi rfl (c43 n l (by omega) hm) (.cons ((.lit _)) (.cons ((.shr _ _)) .nil)) rfl tv <| zac rfl rfl tv <| zas rfl rfl rfl tv <| zas rfl rfl rfl tv <| zbd 100 rfl rfl (zar hpar rfl) rfl rfl tv <| zaj rfl rfl rfl rfl rfl rfl rfl rfl tv <| zae rfl rfl tv <| zaf tv <| zad ?_
     have hwk := zeb (n := n) (by omega) (by omega) l
     have htk := (zet (n := n) (by omega) (by omega) l).2
     have hln := zdw (n := n) (by omega) (by omega) l
     have hsl := settle_le 200 (play n l).1
     have hsk := settle_ok (n := 200) hwk
     have hsn := settle_len 200 (play n l).1
     refine zaa <| zam rfl rfl rfl rfl rfl rfl tv <| zbi rfl (c88 (play n l).1 hwk (by omega)) (.cons ((subP rfl)) .nil) rfl tv <| zac rfl rfl tv <| zas rfl rfl rfl tv <| zas rfl rfl rfl tv <| zbd 101 rfl rfl (zar hpar rfl) rfl rfl tv <| zaj rfl rfl rfl rfl rfl rfl rfl rfl tv <| zae rfl rfl tv <| zaf tv <| zad <| zad <| zaa <| zac rfl rfl tv <| u_mul rfl rfl rfl (by unfold inI; omega) rfl tv <| zbz rfl rfl rfl (by unfold inI; omega) rfl tv <| zac rfl rfl tv <| zaf tv <| zbb <| zbt (fun n_ E => ∃ (j : Nat), (((j : Int) ≤ 2 * n + 2)) ∧ n_ = (2 * n + 2).toNat - j ∧ E = ⟨[(2, .lit (.int .i64 z)), (9, .ptr 9 0), (42, .lit (.int .i64 (2 * n + 2))), (43, .lit (.int .i64 j))], [(9, .box (zcu (zct j (zcr 200 (play n l).1).1)))], 84⟩) (n0 := _) (E0 := _) (⟨0, by omega, rfl, rfl⟩) (ren [(9, 101)]) (zay [(9, 101)] rfl rfl ⟨⟨_, rfl, (.lit _)⟩, ⟨_, rfl, (.ptr _ _ _ rfl (zak rfl))⟩, ⟨_, rfl, (subI (by rfl))⟩, ⟨_, rfl, (subI (by rfl))⟩, tv⟩ ⟨⟨_, _, rfl, rfl, (zbk rfl)⟩, tv⟩ (zaz hpar rfl)) (fun n_ E hR => ?_)
     obtain ⟨j, hI, rfl, rfl⟩ := hR
     have hj := hI
     refine zad <| zaa <| zcg rfl rfl rfl tv (fun h44 => ?_) (fun h44 => ?_)
     ·refine zaf tv <| zad <| zao rfl <| zax <| zad <| zbb ?_
      have hjk := wok_roundN j hsk
      have hjt := zfl j (zcr 200 (play n l).1).1
      refine zaa <| zam rfl rfl rfl rfl rfl rfl tv <| zbi rfl (c99 (zct j (zcr 200 (play n l).1).1) hjk (by omega)) (.cons ((subP rfl)) .nil) rfl tv <| zaj rfl rfl rfl rfl rfl rfl rfl rfl tv <| zaf tv <| zaa <| zbz rfl rfl rfl (by unfold inI; omega) rfl tv <| zac rfl rfl tv <| zaf tv <| ⟨_, _, ren [(9, 9)], ?_, ⟨j + 1, ?_, rfl, rfl⟩, zay [(9, 9)] rfl rfl ⟨⟨_, rfl, (.lit _)⟩, ⟨_, rfl, (.ptr _ _ _ rfl (zak rfl))⟩, ⟨_, rfl, (.lit _)⟩, ⟨_, rfl, (subI (by rfl))⟩, tv⟩ ⟨⟨_, _, rfl, rfl, (.cons (subS (by rw [zfp])) (.cons (subI (by rw [zfp])) .nil))⟩, tv⟩ (zaz hpar rfl)⟩
      ·omega
      ·omega
     ·refine zaf tv <| zad <| zap rfl <| zbw <| iteP rfl <| zad ?_
      have hjk := wok_roundN j hsk
      have hjt := zfl j (zcr 200 (play n l).1).1
      have hjl := zdv j (zcr 200 (play n l).1).1
      refine zaa <| zam rfl rfl rfl rfl rfl rfl tv <| zbd 122 rfl rfl (zar hpar rfl) rfl rfl tv <| zaj rfl rfl rfl rfl rfl rfl rfl rfl tv <| zaf tv <| zad <| zad <| zaa <| zac rfl rfl tv <| zac rfl rfl tv <| zaf tv <| zbb <| zbt (fun n_ E => ∃ (m : Nat), (((m : Int) ≤ z)) ∧ n_ = z.toNat - m ∧ E = ⟨[(2, .lit (.int .i64 z)), (9, .ptr 9 0), (11, .ptr 11 0), (49, .lit (.int .i64 z)), (50, .lit (.int .i64 m))], [(9, .box (zcu (zct j (zcr 200 (play n l).1).1))), (11, .box (zcu (zct m (zct j (zcr 200 (play n l).1).1))))], 84⟩) (n0 := _) (E0 := _) (⟨0, by omega, rfl, rfl⟩) (ren [(9, 9), (11, 122)]) (zay [(9, 9), (11, 122)] rfl rfl ⟨⟨_, rfl, (.lit _)⟩, ⟨_, rfl, (.ptr _ _ _ rfl (zak rfl))⟩, ⟨_, rfl, (.ptr _ _ _ rfl (zak rfl))⟩, ⟨_, rfl, (.lit _)⟩, ⟨_, rfl, (subI (by rfl))⟩, tv⟩ ⟨⟨_, _, rfl, rfl, (zbk rfl)⟩, ⟨_, _, rfl, rfl, (zbk rfl)⟩, tv⟩ (zaz hpar rfl)) (fun n_ E hR => ?_)
      obtain ⟨m, hI, rfl, rfl⟩ := hR
      have hm2 := hI
      refine zad <| zaa <| zcg rfl rfl rfl tv (fun h51 => ?_) (fun h51 => ?_)
      ·refine zaf tv <| zad <| zao rfl <| zax <| zad <| zbb ?_
       have hmk := wok_roundN m hjk
       have hmt := zfl m (zct j (zcr 200 (play n l).1).1)
       refine zaa <| zam rfl rfl rfl rfl rfl rfl tv <| zbi rfl (c99 (zct m (zct j (zcr 200 (play n l).1).1)) hmk (by omega)) (.cons ((subP rfl)) .nil) rfl tv <| zaj rfl rfl rfl rfl rfl rfl rfl rfl tv <| zaf tv <| zaa <| zbz rfl rfl rfl (by unfold inI; omega) rfl tv <| zac rfl rfl tv <| zaf tv <| ⟨_, _, ren [(9, 9), (11, 11)], ?_, ⟨m + 1, ?_, rfl, rfl⟩, zay [(9, 9), (11, 11)] rfl rfl ⟨⟨_, rfl, (.lit _)⟩, ⟨_, rfl, (.ptr _ _ _ rfl (zak rfl))⟩, ⟨_, rfl, (.ptr _ _ _ rfl (zak rfl))⟩, ⟨_, rfl, (.lit _)⟩, ⟨_, rfl, (subI (by rfl))⟩, tv⟩ ⟨⟨_, _, rfl, rfl, (zbk rfl)⟩, ⟨_, _, rfl, rfl, (.cons (subS (by rw [zfp])) (.cons (subI (by rw [zfp])) .nil))⟩, tv⟩ (zaz hpar rfl)⟩
       ·omega
       ·omega
      ·refine zaf tv <| zad <| zap rfl <| zbw <| iteP rfl <| zad <| zad ?_
       have hmt := zfl m (zct j (zcr 200 (play n l).1).1)
       have hml := zdv m (zct j (zcr 200 (play n l).1).1)
       refine zaa <| zam rfl rfl rfl rfl rfl rfl tv <| zdo [] rfl (c48 (zct j (zcr 200 (play n l).1).1) hjk) (.cons ((subP rfl)) .nil) (fun k o h => by simp [Go.Vc.look] at h) rfl tv (fun h56 => ?_) (fun h56 => ?_)
       ·refine zdq rfl rfl tv <| zaf tv <| zap rfl <| zax <| zad <| zad <| zaa <| zab rfl rfl rfl rfl rfl rfl tv <| zah rfl rfl rfl rfl rfl rfl tv <| zab rfl rfl rfl rfl rfl rfl tv <| zah rfl rfl rfl rfl rfl rfl tv <| zac rfl rfl tv <| zbz rfl rfl rfl (by have := hjk.tk; unfold inI; omega) rfl tv <| zdg rfl rfl rfl tv (fun h64 => ?_) (fun h64 => ?_)
        ·exfalso; omega
        ·refine zaf tv <| zap rfl <| zax <| zad <| zad <| zaa <| zab rfl rfl rfl rfl rfl rfl tv <| zah rfl rfl rfl rfl rfl rfl tv <| zby rfl rfl rfl tv <| zac rfl rfl tv <| zaf tv <| zbb <| zbt (fun n_ E => ∃ (i : Nat), ((i ≤ (zct j (zcr 200 (play n l).1).1).lanes.length)) ∧ n_ = (zct j (zcr 200 (play n l).1).1).lanes.length - i ∧ E = ⟨[(9, .ptr 9 0), (11, .ptr 11 0), (67, .lit (.int .i64 (zcc (zct j (zcr 200 (play n l).1).1).lanes).length)), (68, .lit (.int .i64 i))], [(9, .box (zcu (zct j (zcr 200 (play n l).1).1))), (11, .box (zcu (zct m (zct j (zcr 200 (play n l).1).1))))], 84⟩) (n0 := _) (E0 := _) (⟨0, by omega, rfl, rfl⟩) (ren [(9, 9), (11, 11)]) (zay [(9, 9), (11, 11)] rfl rfl ⟨⟨_, rfl, (.ptr _ _ _ rfl (zak rfl))⟩, ⟨_, rfl, (.ptr _ _ _ rfl (zak rfl))⟩, ⟨_, rfl, (.lit _)⟩, ⟨_, rfl, (.lit _)⟩, tv⟩ ⟨⟨_, _, rfl, rfl, (zbk rfl)⟩, ⟨_, _, rfl, rfl, (zbk rfl)⟩, tv⟩ (zaz hpar rfl)) (fun n_ E hR => ?_)
         obtain ⟨i, hI, rfl, rfl⟩ := hR
         have hI0 := hI
         refine zad <| zaa <| zcg rfl rfl rfl tv (fun h69 => ?_) (fun h69 => ?_)
         ·refine zaf tv <| zad <| zao rfl <| zax <| zad <| zbb <| zad ?_
          rw [zbg] at h69
          obtain ⟨x, hx⟩ : ∃ x, (zct j (zcr 200 (play n l).1).1).lanes[i]? = some x := ⟨_, List.getElem?_eq_getElem (by omega)⟩
          obtain ⟨y, hy⟩ : ∃ y, (zct m (zct j (zcr 200 (play n l).1).1)).lanes[i]? = some y := ⟨_, List.getElem?_eq_getElem (by omega)⟩
          have hxy : x = y := done_same hwk (by omega) h56 hx hy
          refine zaa <| zac rfl rfl tv <| zae rfl rfl tv <| zaf tv <| zad <| zbo <| zab rfl rfl rfl rfl rfl rfl tv <| zah rfl rfl rfl rfl rfl rfl tv <| zac rfl rfl tv <| zbh rfl rfl rfl rfl rfl rfl (zbr hx) rfl tv <| zbu rfl rfl rfl rfl rfl tv <| zab rfl rfl rfl rfl rfl rfl tv <| zah rfl rfl rfl rfl rfl rfl tv <| zac rfl rfl tv <| zbh rfl rfl rfl rfl rfl rfl (zbr hy) rfl tv <| zbu rfl rfl rfl rfl rfl tv <| zdo [] rfl (c71 x y) (.cons ((subP rfl)) (.cons ((subP rfl)) .nil)) (fun k o h => by simp [Go.Vc.look] at h) rfl tv (fun h81 => ?_) (fun h81 => ?_)
          ·refine zdq rfl rfl tv <| zaf (by kernel_rfl) <| zap rfl <| zax <| zaa <| zbz rfl rfl rfl (by unfold inI; omega) rfl tv <| zac rfl rfl tv <| zaf tv <| ⟨_, _, ren [(9, 9), (11, 11)], ?_, ⟨i + 1, ?_, rfl, rfl⟩, zay [(9, 9), (11, 11)] rfl rfl ⟨⟨_, rfl, (.ptr _ _ _ rfl (zak rfl))⟩, ⟨_, rfl, (.ptr _ _ _ rfl (zak rfl))⟩, ⟨_, rfl, (.lit _)⟩, ⟨_, rfl, (.lit _)⟩, tv⟩ ⟨⟨_, _, rfl, rfl, (zbk rfl)⟩, ⟨_, _, rfl, rfl, (zbk rfl)⟩, tv⟩ (zaz hpar rfl)⟩
           ·omega
           ·omega
          ·exfalso; rw [hxy] at h81; simp at h81
         ·refine zaf tv <| zad <| zap rfl <| zbw <| iteP rfl <| zad <| zaa <| zae rfl rfl tv <| zaf tv <| zaw <| fin0 (.inr rfl) (.cons (.tmp rfl (nb rfl)) .nil) (subB ?_)
          ·rfl
       ·refine zdq rfl rfl tv <| zaf tv <| zao rfl <| zad <| zaa <| zae rfl rfl tv <| zaf tv <| zaw <| fin0 (.inr rfl) (.cons (.tmp rfl (nb rfl)) .nil) (subB ?_)
        ·rfl
end Go.Proofs.Ytaadloihphpdbaa
