/- Walk of a law. Printed by a small program (walk.py). -/
import Derived.Test.YtaadloihphpdbaaZWFair3
set_option linter.unusedVariables false
set_option linter.unusedSimpArgs false
set_option maxRecDepth 4000
namespace Go.Proofs.Ytaadloihphpdbaa
open Go Go.Vc Go.RowKit
theorem c40 (n : Int) (l : List Step) (t r : Int) (hm : ∀ s ∈ l, inI s.m) : VFun G 40 [.lit (.int .i64 n), .shr 7 (stepCells l), .lit (.int .i64 t), .lit (.int .i64 r)] [] (.lit (.bool true)) [] := by
 refine VFun.intro (fn := Try.f40) rfl rfl (by kernel_rfl) (nb rfl) fun Γ hpar => ?_
 refine zad <| zaa <| zae rfl rfl tv <| zaf tv <| zad <| zad <| zaa <| zbi rfl (c133) .nil rfl tv <| zdq rfl rfl tv <| zaf tv <| zap rfl <| zax <| zad <| zad <| zaa <| zac rfl rfl tv <| zcg rfl rfl rfl tv (fun h19 => ?_) (fun h19 => ?_)
 ·refine zac rfl rfl tv <| zag rfl rfl rfl rfl rfl <| zag rfl rfl rfl rfl rfl <| zav rfl rfl rfl tv <| zac rfl rfl tv <| zag rfl rfl rfl rfl rfl <| zag rfl rfl rfl rfl rfl <| zav rfl rfl rfl tv <| zac rfl rfl tv <| zag rfl rfl rfl rfl rfl <| zag rfl rfl rfl rfl rfl <| zag rfl rfl rfl rfl rfl <| zav rfl rfl rfl tv <| zac rfl rfl tv <| zag rfl rfl rfl rfl rfl <| zag rfl rfl rfl rfl rfl <| zav rfl rfl rfl tv <| zac rfl rfl tv <| zag rfl rfl rfl rfl rfl <| zag rfl rfl rfl rfl rfl <| zav rfl rfl rfl tv <| zac rfl rfl tv <| zag rfl rfl rfl rfl rfl <| zag rfl rfl rfl rfl rfl <| zag rfl rfl rfl rfl rfl <| zav rfl rfl rfl tv <| zaf tv <| zao rfl <| zad <| zaa ?_
  refine zae rfl rfl tv <| zaf tv <| zaw <| fin0 (.inr rfl) (.cons (.tmp rfl (nb rfl)) .nil) (subB ?_)
  ·first | rfl | (rw [hxy]; simp)
 ·refine zac rfl rfl tv <| zac rfl rfl (gk rfl) <| zdr rfl rfl rfl (gk rfl) (fun h22 => ?_) (fun h22 => ?_)
  ·refine zat rfl rfl rfl tv <| zac rfl rfl tv <| zag rfl rfl rfl rfl rfl <| zag rfl rfl rfl rfl rfl <| zav rfl rfl rfl tv <| zac rfl rfl tv <| zag rfl rfl rfl rfl rfl <| zag rfl rfl rfl rfl rfl <| zag rfl rfl rfl rfl rfl <| zav rfl rfl rfl tv <| zac rfl rfl tv <| zag rfl rfl rfl rfl rfl <| zag rfl rfl rfl rfl rfl <| zav rfl rfl rfl tv <| zac rfl rfl tv <| zag rfl rfl rfl rfl rfl <| zag rfl rfl rfl rfl rfl <| zav rfl rfl rfl tv <| zac rfl rfl tv <| zag rfl rfl rfl rfl rfl <| zag rfl rfl rfl rfl rfl <| zag rfl rfl rfl rfl rfl <| zav rfl rfl rfl tv <| zaf tv <| zao rfl <| zad <| zaa <| zae rfl rfl tv <| zaf tv <| zaw ?_
   refine fin0 (.inr rfl) (.cons (.tmp rfl (nb rfl)) .nil) (subB ?_)
   ·first | rfl | (rw [hxy]; simp)
  ·refine zat rfl rfl rfl tv <| zac rfl rfl tv <| zac rfl rfl (gk rfl) <| zcg rfl rfl rfl (gk rfl) (fun h26 => ?_) (fun h26 => ?_)
   ·refine zat rfl rfl rfl tv <| zac rfl rfl tv <| zag rfl rfl rfl rfl rfl <| zag rfl rfl rfl rfl rfl <| zag rfl rfl rfl rfl rfl <| zav rfl rfl rfl tv <| zac rfl rfl tv <| zag rfl rfl rfl rfl rfl <| zag rfl rfl rfl rfl rfl <| zav rfl rfl rfl tv <| zac rfl rfl tv <| zag rfl rfl rfl rfl rfl <| zag rfl rfl rfl rfl rfl <| zav rfl rfl rfl tv <| zac rfl rfl tv <| zag rfl rfl rfl rfl rfl <| zag rfl rfl rfl rfl rfl <| zag rfl rfl rfl rfl rfl <| zav rfl rfl rfl tv <| zaf tv <| zao rfl <| zad <| zaa <| zae rfl rfl tv <| zaf tv <| zaw <| fin0 (.inr rfl) (.cons (.tmp rfl (nb rfl)) .nil) (subB ?_)
    ·first | rfl | (rw [hxy]; simp)
   ·refine zat rfl rfl rfl tv <| zac rfl rfl tv <| zac rfl rfl (gk rfl) <| zac rfl rfl (gk rfl) <| s_geq rfl rfl rfl (gk rfl) (fun h31 => ?_) (fun h31 => ?_)
    ·refine zat rfl rfl rfl tv <| zac rfl rfl tv <| zag rfl rfl rfl rfl rfl <| zag rfl rfl rfl rfl rfl <| zav rfl rfl rfl tv <| zac rfl rfl tv <| zag rfl rfl rfl rfl rfl <| zag rfl rfl rfl rfl rfl <| zav rfl rfl rfl tv <| zac rfl rfl tv <| zag rfl rfl rfl rfl rfl <| zag rfl rfl rfl rfl rfl <| zag rfl rfl rfl rfl rfl <| zav rfl rfl rfl tv <| zaf tv <| zao rfl <| zad <| zaa <| zae rfl rfl tv <| zaf tv <| zaw <| fin0 (.inr rfl) (.cons (.tmp rfl (nb rfl)) .nil) (subB ?_)
     ·first | rfl | (rw [hxy]; simp)
    ·refine zat rfl rfl rfl tv <| zac rfl rfl tv <| zac rfl rfl (gk rfl) <| zcg rfl rfl rfl (gk rfl) (fun h35 => ?_) (fun h35 => ?_)
     ·refine zat rfl rfl rfl tv <| zac rfl rfl tv <| zag rfl rfl rfl rfl rfl <| zag rfl rfl rfl rfl rfl <| zav rfl rfl rfl tv <| zac rfl rfl tv <| zag rfl rfl rfl rfl rfl <| zag rfl rfl rfl rfl rfl <| zag rfl rfl rfl rfl rfl <| zav rfl rfl rfl tv <| zaf tv <| zao rfl <| zad <| zaa <| zae rfl rfl tv <| zaf tv <| zaw <| fin0 (.inr rfl) (.cons (.tmp rfl (nb rfl)) .nil) (subB ?_)
      ·first | rfl | (rw [hxy]; simp)
     ·refine zat rfl rfl rfl tv <| zac rfl rfl tv <| zac rfl rfl (gk rfl) <| zdr rfl rfl rfl (gk rfl) (fun h39 => ?_) (fun h39 => ?_)
      ·refine zat rfl rfl rfl tv <| zac rfl rfl tv <| zag rfl rfl rfl rfl rfl <| zag rfl rfl rfl rfl rfl <| zag rfl rfl rfl rfl rfl <| zav rfl rfl rfl tv <| zaf tv <| zao rfl <| zad <| zaa <| zae rfl rfl tv <| zaf tv <| zaw <| fin0 (.inr rfl) (.cons (.tmp rfl (nb rfl)) .nil) (subB ?_)
       ·first | rfl | (rw [hxy]; simp)
      ·refine zat rfl rfl rfl tv <| zac rfl rfl tv <| zac rfl rfl (gk rfl) <| zby rfl rfl rfl (gk rfl) <| zdr rfl rfl rfl (gk rfl) (fun h44 => ?_) (fun h44 => ?_)
       ·refine zat rfl rfl rfl tv <| zaf tv <| zao rfl <| zad <| zaa <| zae rfl rfl tv <| zaf tv <| zaw <| fin0 (.inr rfl) (.cons (.tmp rfl (nb rfl)) .nil) (subB ?_)
        ·first | rfl | (rw [hxy]; simp)
       ·refine zat rfl rfl rfl tv <| zaf tv <| zap rfl <| zax <| zad ?_
        simp only [zbf] at h44
        refine zaa <| zae rfl rfl tv <| zaf tv <| zad <| zad <| zaa <| zac rfl rfl tv <| zby rfl rfl rfl tv <| zac rfl rfl tv <| zaf tv <| zbb <| zbt (fun n_ E => ∃ (i : Nat), ((i ≤ l.length)) ∧ n_ = l.length - i ∧ E = ⟨[(0, .lit (.int .i64 n)), (1, .shr 7 (stepCells l)), (2, .lit (.int .i64 t)), (3, .lit (.int .i64 r)), (9, .row 9), (46, .shr 7 (stepCells l)), (47, .lit (.int .i64 (stepCells l).length)), (48, .lit (.int .i64 i))], [(9, .row 50 7 (stepCells (zcv t (l.take i))))], 111⟩) (n0 := _) (E0 := _) (⟨0, by omega, rfl, rfl⟩) (ren []) (zay [] rfl rfl ⟨⟨_, rfl, (.lit _)⟩, ⟨_, rfl, (.shr _ _)⟩, ⟨_, rfl, (.lit _)⟩, ⟨_, rfl, (.lit _)⟩, ⟨_, rfl, .nilrow _ _ _ _ rfl rfl⟩, ⟨_, rfl, (.shr _ _)⟩, ⟨_, rfl, (.lit _)⟩, ⟨_, rfl, (.lit _)⟩, tv⟩ ⟨(.inr (.inl ⟨rfl, rfl⟩)), tv⟩ (zaz hpar rfl)) (fun n_ E hR => ?_)
        obtain ⟨i, hI, rfl, rfl⟩ := hR
        have hI0 := hI
        refine zad <| zaa <| zcg rfl rfl rfl tv (fun h49 => ?_) (fun h49 => ?_)
        ·refine zaf tv <| zad <| zao rfl <| zax <| zad <| zbb <| zad ?_
         rw [zbf] at h49
         obtain ⟨s, hs⟩ : ∃ s, l[i]? = some s := ⟨_, List.getElem?_eq_getElem (by omega)⟩
         refine zaa <| zbh rfl rfl rfl rfl rfl rfl (zbq hs) rfl tv <| zbu rfl rfl rfl rfl rfl tv <| zbd 120 rfl rfl (zar hpar rfl) rfl rfl tv <| zaj rfl rfl rfl rfl rfl rfl rfl rfl tv <| zaf tv <| zad <| zaa <| zab rfl rfl rfl rfl rfl rfl tv <| zah rfl rfl rfl rfl rfl rfl tv <| zci rfl rfl rfl tv (fun h54 => ?_) (fun h54 => ?_)
         ·refine zac rfl rfl tv <| zag rfl rfl rfl rfl rfl <| zag rfl rfl rfl rfl rfl <| zag rfl rfl rfl rfl rfl <| zag rfl rfl rfl rfl rfl <| zav rfl rfl rfl tv <| zaf tv <| zao rfl <| zaa <| zac rfl rfl tv <| zam rfl rfl rfl rfl rfl rfl tv <| zba 121 rfl rfl rfl rfl rfl rfl rfl rfl rfl rfl (zar hpar rfl) rfl rfl tv <| zbn 122 rfl rfl rfl (zdb rfl) rfl (zar hpar rfl) rfl rfl rfl rfl rfl (by have h1 := zfj t (l.take i); have h2 := List.length_take_le i l; simp [zbx, zbf]; omega) rfl tv <| zae rfl rfl tv <| zaf tv <| zaa <| zbz rfl rfl rfl (by unfold inI; omega) rfl tv <| zac rfl rfl tv <| zaf tv <| ⟨_, _, ren [(9, 122)], ?_, ⟨i + 1, ?_, rfl, rfl⟩, zay [(9, 122)] rfl rfl ⟨⟨_, rfl, (.lit _)⟩, ⟨_, rfl, (.shr _ _)⟩, ⟨_, rfl, (.lit _)⟩, ⟨_, rfl, (.lit _)⟩, ⟨_, rfl, (.row _ _ rfl (zak rfl))⟩, ⟨_, rfl, (.shr _ _)⟩, ⟨_, rfl, (.lit _)⟩, ⟨_, rfl, (.lit _)⟩, tv⟩ ⟨(.inl ⟨_, rfl, zcq rfl (by rw [only_y hs (mine_y (by first | exact .inl (by omega) | exact .inr (by omega))), zeg]; rfl)⟩), tv⟩ (zaz hpar rfl)⟩
          ·omega
          ·omega
         ·refine zac rfl rfl tv <| zab rfl rfl rfl rfl rfl rfl (gk rfl) <| zah rfl rfl rfl rfl rfl rfl (gk rfl) <| zac rfl rfl (gk rfl) <| zci rfl rfl rfl (gk rfl) (fun h59 => ?_) (fun h59 => ?_)
          ·refine zat rfl rfl rfl tv <| zaf tv <| zao rfl <| zaa <| zac rfl rfl tv <| zam rfl rfl rfl rfl rfl rfl tv <| zba 121 rfl rfl rfl rfl rfl rfl rfl rfl rfl rfl (zar hpar rfl) rfl rfl tv <| zbn 122 rfl rfl rfl (zdb rfl) rfl (zar hpar rfl) rfl rfl rfl rfl rfl (by have h1 := zfj t (l.take i); have h2 := List.length_take_le i l; simp [zbx, zbf]; omega) rfl tv <| zae rfl rfl tv <| zaf tv <| zaa <| zbz rfl rfl rfl (by unfold inI; omega) rfl tv <| zac rfl rfl tv <| zaf tv <| ⟨_, _, ren [(9, 122)], ?_, ⟨i + 1, ?_, rfl, rfl⟩, zay [(9, 122)] rfl rfl ⟨⟨_, rfl, (.lit _)⟩, ⟨_, rfl, (.shr _ _)⟩, ⟨_, rfl, (.lit _)⟩, ⟨_, rfl, (.lit _)⟩, ⟨_, rfl, (.row _ _ rfl (zak rfl))⟩, ⟨_, rfl, (.shr _ _)⟩, ⟨_, rfl, (.lit _)⟩, ⟨_, rfl, (.lit _)⟩, tv⟩ ⟨(.inl ⟨_, rfl, zcq rfl (by rw [only_y hs (mine_y (by first | exact .inl (by omega) | exact .inr (by omega))), zeg]; rfl)⟩), tv⟩ (zaz hpar rfl)⟩
           ·omega
           ·omega
          ·refine zat rfl rfl rfl tv <| zaf tv <| zap rfl <| zax <| zaa <| zbz rfl rfl rfl (by unfold inI; omega) rfl tv <| zac rfl rfl tv <| zaf tv <| ⟨_, _, ren [(9, 9)], ?_, ⟨i + 1, ?_, rfl, rfl⟩, zay [(9, 9)] rfl rfl ⟨⟨_, rfl, (.lit _)⟩, ⟨_, rfl, (.shr _ _)⟩, ⟨_, rfl, (.lit _)⟩, ⟨_, rfl, (.lit _)⟩, ⟨_, rfl, (.row _ _ rfl (zak rfl))⟩, ⟨_, rfl, (.shr _ _)⟩, ⟨_, rfl, (.lit _)⟩, ⟨_, rfl, (.lit _)⟩, tv⟩ ⟨(.inl ⟨_, rfl, zcq rfl (by rw [only_n hs (mine_n (by omega) (by omega))])⟩), tv⟩ (zaz hpar rfl)⟩
           ·omega
           ·omega
        ·refine zaf tv <| zad <| zap rfl <| zbw <| iteP rfl <| zad ?_
         rw [zbf] at h49
         rw [List.take_of_length_le (show l.length ≤ i by omega)]
         refine zaa <| zac rfl rfl tv <| zac rfl rfl tv <| zbi rfl (c43 n l (by omega) hm) (.cons ((.lit _)) (.cons ((.shr _ _)) .nil)) rfl tv <| zac rfl rfl tv <| zas rfl rfl rfl tv <| zas rfl rfl rfl tv <| zbd 120 rfl rfl (zar hpar rfl) rfl rfl tv <| zaj rfl rfl rfl rfl rfl rfl rfl rfl tv <| zae rfl rfl tv <| zaf tv <| zad <| zaa <| zac rfl rfl tv <| zac rfl rfl tv <| zck [] [9] [9] rfl rfl (c43 n (zcv t l) (by omega) (only_mem hm)) (zbp (k0 := 9) rfl zcl) tv (.cons ((.lit _)) (.cons (.frz _ _ _ _ rfl (by decide)) .nil)) rfl rfl (zcy hpar rfl) rfl tv <| zac rfl rfl tv <| zas rfl rfl rfl tv <| zas rfl rfl rfl tv <| zbd 121 rfl rfl (zar hpar rfl) rfl rfl tv <| zaj rfl rfl rfl rfl rfl rfl rfl rfl tv <| zae rfl rfl tv <| zaf tv <| zad <| zad ?_
         have hwk := zeb (n := n) (by omega) (by omega) l
         have htk := (zet (n := n) (by omega) (by omega) l).2
         have hln := zdw (n := n) (by omega) (by omega) l
         have hwk2 := zeb (n := n) (by omega) (by omega) (zcv t l)
         have htk2 := (zet (n := n) (by omega) (by omega) (zcv t l)).2
         have hln2 := zdw (n := n) (by omega) (by omega) (zcv t l)
         have hol := zfj t l
         refine zaa <| zac rfl rfl tv <| zac rfl rfl tv <| zaf tv <| zbb <| zbt (fun n_ E => ∃ (k : Nat), (((k : Int) ≤ r)) ∧ n_ = r.toNat - k ∧ E = ⟨[(0, .lit (.int .i64 n)), (2, .lit (.int .i64 t)), (12, .ptr 12 0), (14, .ptr 14 0), (78, .lit (.int .i64 r)), (79, .lit (.int .i64 k))], [(12, .box (zcu (zct k (play n l).1))), (14, .box (zcu (zct k (play n (zcv t l)).1)))], 111⟩) (n0 := _) (E0 := _) (⟨0, by omega, rfl, rfl⟩) (ren [(12, 120), (14, 121)]) (zay [(12, 120), (14, 121)] rfl rfl ⟨⟨_, rfl, (.lit _)⟩, ⟨_, rfl, (.lit _)⟩, ⟨_, rfl, (.ptr _ _ _ rfl (zak rfl))⟩, ⟨_, rfl, (.ptr _ _ _ rfl (zak rfl))⟩, ⟨_, rfl, (.lit _)⟩, ⟨_, rfl, (subI (by rfl))⟩, tv⟩ ⟨⟨_, _, rfl, rfl, (zbk rfl)⟩, ⟨_, _, rfl, rfl, (zbk rfl)⟩, tv⟩ (zaz hpar rfl)) (fun n_ E hR => ?_)
         obtain ⟨k, hI, rfl, rfl⟩ := hR
         have hk := hI
         refine zad <| zaa <| zcg rfl rfl rfl tv (fun h80 => ?_) (fun h80 => ?_)
         ·refine zaf tv <| zad <| zao rfl <| zax <| zad <| zbb ?_
          have e1 := zfl k (play n l).1; have e2 := zfl k (play n (zcv t l)).1
          have o1 := wok_roundN k hwk; have o2 := wok_roundN k hwk2
          refine zbo <| zam rfl rfl rfl rfl rfl rfl tv <| zbi rfl (c99 (zct k (play n l).1) o1 (by omega)) (.cons ((subP rfl)) .nil) rfl tv <| zam rfl rfl rfl rfl rfl rfl tv <| zbi rfl (c99 (zct k (play n (zcv t l)).1) o2 (by omega)) (.cons ((subP rfl)) .nil) rfl tv <| zaj rfl rfl rfl rfl rfl rfl rfl rfl tv <| zaj rfl rfl rfl rfl rfl rfl rfl rfl tv <| zaf (by kernel_rfl) <| zaa <| zbz rfl rfl rfl (by unfold inI; omega) rfl tv <| zac rfl rfl tv <| zaf tv <| ⟨_, _, ren [(12, 12), (14, 14)], ?_, ⟨k + 1, ?_, rfl, rfl⟩, zay [(12, 12), (14, 14)] rfl rfl ⟨⟨_, rfl, (.lit _)⟩, ⟨_, rfl, (.lit _)⟩, ⟨_, rfl, (.ptr _ _ _ rfl (zak rfl))⟩, ⟨_, rfl, (.ptr _ _ _ rfl (zak rfl))⟩, ⟨_, rfl, (.lit _)⟩, ⟨_, rfl, (subI (by rfl))⟩, tv⟩ ⟨⟨_, _, rfl, rfl, (.cons (subS (by rw [zfp])) (.cons (subI (by rw [zfp])) .nil))⟩, ⟨_, _, rfl, rfl, (.cons (subS (by rw [zfp])) (.cons (subI (by rw [zfp])) .nil))⟩, tv⟩ (zaz hpar rfl)⟩
          ·omega
          ·omega
         ·refine zaf tv <| zad <| zap rfl <| zbw <| iteP rfl <| zad ?_
          obtain ⟨q, ht⟩ : ∃ q : Nat, t = q := ⟨t.toNat, by omega⟩
          have l1 := zdv k (play n l).1; have l2 := zdv k (play n (zcv t l)).1
          obtain ⟨x, hx⟩ : ∃ x, (zct k (play n l).1).lanes[q]? = some x := ⟨_, List.getElem?_eq_getElem (by omega)⟩
          obtain ⟨y, hy⟩ : ∃ y, (zct k (play n (zcv t l)).1).lanes[q]? = some y := ⟨_, List.getElem?_eq_getElem (by omega)⟩
          have hxy : x = y := alone_same (by omega) (by omega) ht (by omega) (by omega) (onlyOf_idem t l).symm hx hy
          refine zbo <| zab rfl rfl rfl rfl rfl rfl tv <| zah rfl rfl rfl rfl rfl rfl tv <| zby rfl rfl rfl tv <| zac rfl rfl tv <| zci rfl rfl rfl tv (fun h90 => ?_) (fun h90 => ?_)
          ·refine zac rfl rfl tv <| zab rfl rfl rfl rfl rfl rfl (gk rfl) <| zah rfl rfl rfl rfl rfl rfl (gk rfl) <| zby rfl rfl rfl (gk rfl) <| zac rfl rfl (gk rfl) <| zci rfl rfl rfl (gk rfl) (fun h96 => ?_) (fun h96 => ?_)
           ·refine zav rfl rfl rfl tv <| zac rfl rfl tv <| zab rfl rfl rfl rfl rfl rfl (gk rfl) <| zah rfl rfl rfl rfl rfl rfl (gk rfl) <| zac rfl rfl (gk rfl) <| zbh rfl rfl rfl rfl rfl ht (zbr hx) rfl (gk rfl) <| zbu rfl rfl rfl rfl rfl (gk rfl) <| zab rfl rfl rfl rfl rfl rfl (gk rfl) <| zah rfl rfl rfl rfl rfl rfl (gk rfl) <| zac rfl rfl (gk rfl) <| zbh rfl rfl rfl rfl rfl ht (zbr hy) rfl (gk rfl) <| zbu rfl rfl rfl rfl rfl (gk rfl) <| zbi rfl (c71 x y) (.cons ((subP rfl)) (.cons ((subP rfl)) .nil)) rfl (gk rfl) <| zav rfl rfl rfl tv <| zae rfl rfl tv <| zaf (by kernel_rfl) <| zaw <| fin0 (.inr rfl) (.cons (.tmp rfl (nb rfl)) .nil) (subB ?_)
            ·first | rfl | (rw [hxy]; simp)
           ·exfalso; apply h96; rw [zbg]; omega
          ·exfalso; apply h90; rw [zbg]; omega
end Go.Proofs.Ytaadloihphpdbaa
