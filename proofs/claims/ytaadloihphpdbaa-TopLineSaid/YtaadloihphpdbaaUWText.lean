/- Walks of the package text: how messages are printed, and read. Printed by a small program (walk.py). -/
import Derived.Test.YtaadloihphpdbaaUVcT
import Derived.Test.YtaadloihphpdbaaUPText
import Derived.Test.YtaadloihphpdbaaUVcTab
import Derived.Test.YtaadloihphpdbaaUWPlain
import Derived.Test.YtaadloihphpdbaaUWChunk
set_option linter.unusedVariables false
set_option linter.unusedSimpArgs false
set_option maxRecDepth 4000
namespace Go.Proofs.Ytaadloihphpdbaa
open Go Go.Vc Go.RowKit
theorem headD_0 {l : List UInt8} (h : 0 < l.length) : l.headD 0 = l[0]'h := by
  match l, h with
  | a :: r, _ => rfl
theorem noHead {s : List UInt8} (h : cutF s 58 = true → (cutB s 58).length = 1 → 48 ≤ ((cutB s 58).headD 0).toNat ∧ ((cutB s 58).headD 0).toNat ≤ 57 → (cutA s 58).length % 2 = 0 → False) : headOk s = false := by
  cases hh : headOk s with
  | false => rfl
  | true =>
    rw [cut_head] at hh
    simp only [Bool.and_eq_true, decide_eq_true_eq] at hh
    obtain ⟨⟨⟨q1, q2⟩, q3⟩, q4⟩ := hh
    exact (h q1 q2 q3 q4).elim
theorem c169 (s : List UInt8) (c : UInt8) : VFun G 169 [.lit (.string (tx s)), .lit (.string (tx [c]))] [] (.lit (.int .i64 (Lib.indexByte s c))) [] := by
 refine VFun.intro (fn := Try.f169) rfl rfl (by kernel_rfl) (nb rfl) fun Γ hpar => ?_
 refine zac <| zaa <| zad rfl rfl tv <| zaf tv <| zac <| zaa <| zae rfl rfl tv <| u_lenT rfl rfl rfl tv <| zad rfl rfl tv <| zaf tv <| zac <| zaz <| zac <| zaa <| zae rfl rfl tv <| zew rfl rfl rfl tv (fun h18 => ?_) (fun h18 => ?_)
 ·rw [zep] at h18; simp at h18
 ·refine zae rfl rfl tv <| zae rfl rfl (gk rfl) <| zae rfl rfl (gk rfl) <| s_eqlT rfl rfl rfl (gk rfl) (fun h22 => ?_) (fun h22 => ?_)
  ·refine zbh rfl rfl rfl tv <| zad rfl rfl tv <| zaf tv <| zas rfl <| zac <| zaa <| zad rfl rfl tv <| zaf tv <| zav <| fin0 (.inr rfl) (.cons (.tmp rfl (nb rfl)) .nil) (subI ?_)
   ·have e : s = [c] := by rw [tx_toList, tx_toList] at h22; exact h22.symm
    subst e
    simp [Lib.indexByte]
  ·refine zbh rfl rfl rfl tv <| zad rfl rfl tv <| zaf tv <| zau rfl <| zac <| zaa <| zae rfl rfl tv <| zew rfl rfl rfl tv (fun h26 => ?_) (fun h26 => ?_)
   ·refine zad rfl rfl tv <| zaf tv <| zas rfl <| zac <| zaa <| zae rfl rfl tv <| zae rfl rfl tv <| u_indexX (bs := [c]) (i := 0) rfl rfl rfl rfl (by rfl) (by exact Nat.zero_lt_one) rfl tv <| zbo rfl (c163 _ _) (.cons ((.lit _)) (.cons ((.lit _)) .nil)) rfl tv <| zad rfl rfl tv <| zaf tv <| zav <| fin0 (.inr rfl) (.cons (.tmp rfl (nb rfl)) .nil) (subI ?_)
    ·rfl
   ·rw [zep] at h26; simp at h26
theorem c147 (s : List UInt8) (c : UInt8) : VFun G 147 [.lit (.string (tx s)), .lit (.int .u8 (c.toNat : Int))] [] (.lit (.int .i64 (Lib.indexByte s c))) [] := by
 refine VFun.intro (fn := Try.f147) rfl rfl (by kernel_rfl) (nb rfl) fun Γ hpar => ?_
 refine zac <| zaa <| zad rfl rfl tv <| zaf tv <| zac <| zaa <| zae rfl rfl tv <| zae rfl rfl tv <| zbo rfl (c163 _ _) (.cons ((.lit _)) (.cons ((.lit _)) .nil)) rfl tv <| zad rfl rfl tv <| zaf tv <| zav <| fin0 (.inr rfl) (.cons (.tmp rfl (nb rfl)) .nil) (subI ?_)
 ·rfl
theorem c162 (s : List UInt8) (c : UInt8) (hs : s.length ≤ 4611686018427387904) : VFun G 162 [.lit (.string (tx s)), .lit (.string (tx [c]))] [] (.tup [.lit (.string (tx (cutB s c))), .lit (.string (tx (cutA s c))), .lit (.bool (cutF s c))]) [] := by
 refine VFun.intro (fn := Try.f162) rfl rfl (by kernel_rfl) (nb rfl) fun Γ hpar => ?_
 refine zac <| zaa <| zad rfl rfl tv <| zad rfl rfl tv <| zad rfl rfl tv <| zaf tv <| zac <| zac <| zaa <| zae rfl rfl tv <| zae rfl rfl tv <| zbo rfl (c169 _ _) (.cons ((.lit _)) (.cons ((.lit _)) .nil)) rfl tv <| zad rfl rfl tv <| zaf tv <| zac ?_
 have hge := Lib.indexByte_ge s c
 refine zaa <| zae rfl rfl tv <| s_geq rfl rfl rfl tv (fun h12 => ?_) (fun h12 => ?_)
 ·refine zaf tv <| zas rfl <| zac ?_
  have hlt := idx_lt s c h12
  refine zcb <| zae rfl rfl tv <| zae rfl rfl tv <| u_sliceXHi (Lib.indexByte s c).toNat (bs := s) rfl rfl rfl (by omega) (by omega) rfl rfl tv <| zae rfl rfl tv <| zae rfl rfl tv <| zae rfl rfl tv <| u_lenT rfl rfl rfl tv <| zcg rfl rfl rfl (by unfold inI; rw [zep]; simp only [List.length_cons, List.length_nil]; omega) rfl tv <| u_sliceXLo ((Lib.indexByte s c).toNat + 1) (bs := s) rfl rfl rfl (by rw [zep]; simp only [List.length_cons, List.length_nil]; omega) (by omega) rfl rfl tv <| zad rfl rfl tv <| zad rfl rfl tv <| zad rfl rfl tv <| zaf (by kernel_rfl) <| zav <| fin0 (.inr rfl) (.cons (.tmp rfl (nb rfl)) (.cons (.tmp rfl (nb rfl)) (.cons (.tmp rfl (nb rfl)) .nil))) (.tup _ _ (.cons (subT ?_) (.cons (subT ?_) (.cons (subB ?_) .nil))))
  ·rw [cutB, if_pos h12]
  ·rw [cutA, if_pos h12]
  ·exact decide_eq_true h12
 ·refine zaf tv <| zau rfl <| zbd <| zac <| zaa <| zae rfl rfl tv <| zad rfl rfl tv <| zad rfl rfl tv <| zad rfl rfl tv <| zaf tv <| zav <| fin0 (.inr rfl) (.cons (.tmp rfl (nb rfl)) (.cons (.tmp rfl (nb rfl)) (.cons (.tmp rfl (nb rfl)) .nil))) (.tup _ _ (.cons (subT ?_) (.cons (subT ?_) (.cons (subB ?_) .nil))))
  ·rw [cutB, if_neg (by omega)]
  ·rw [cutA, if_neg (by omega)]; rfl
  ·exact decide_eq_false (by omega)
theorem c146 (s : List UInt8) (hs : s.length ≤ 4611686018427387904) : VFun G 146 [.lit (.string (tx s)), .lit (.string (tx [58]))] [] (.tup [.lit (.string (tx (cutB s 58))), .lit (.string (tx (cutA s 58))), .lit (.bool (cutF s 58))]) [] := by
 refine VFun.intro (fn := Try.f146) rfl rfl (by kernel_rfl) (nb rfl) fun Γ hpar => ?_
 refine zac <| zaa <| zad rfl rfl tv <| zad rfl rfl tv <| zad rfl rfl tv <| zaf tv <| zac <| zaa <| zae rfl rfl tv <| zae rfl rfl tv <| zbo rfl (c162 _ 58 (by omega)) (.cons ((.lit _)) (.cons ((.lit _)) .nil)) rfl tv <| zbg rfl rfl rfl tv <| zbg rfl rfl rfl tv <| zbg rfl rfl rfl tv <| zad rfl rfl tv <| zad rfl rfl tv <| zad rfl rfl tv <| zaf tv <| zav <| fin0 (.inr rfl) (.cons (.tmp rfl (nb rfl)) (.cons (.tmp rfl (nb rfl)) (.cons (.tmp rfl (nb rfl)) .nil))) (.tup _ _ (.cons (subT ?_) (.cons (subT ?_) (.cons (subB ?_) .nil))))
 ·rfl
 ·rfl
 ·rfl
theorem c101 (s : List UInt8) (hs : s.length ≤ 140737488351232) : VFun G 101 [.lit (.string (tx s))] [] (.tup [.agg [.lit (.int .i64 (parseT s).1.1), .shr 1 (byteCells (parseT s).1.2)], .lit (.int .i64 (parseT s).2)]) [] := by
 refine VFun.intro (fn := Try.f101) rfl rfl (by kernel_rfl) (nb rfl) fun Γ hpar => ?_
 refine zac <| zaa <| zbf 100 rfl rfl (zar hpar rfl) rfl rfl tv <| zad rfl rfl tv <| zaf tv <| zac <| zaa <| zae rfl rfl tv <| zbo rfl (c146 _ (by omega)) (.cons ((.lit _)) (.cons ((.lit _)) .nil)) rfl tv <| zae rfl rfl tv <| zbg rfl rfl rfl tv <| zbg rfl rfl rfl tv <| zbg rfl rfl rfl tv <| zad rfl rfl tv <| zad rfl rfl tv <| zad rfl rfl tv <| zaf tv <| zac <| zac <| zaa <| s_move rfl rfl tv (fun h18 => ?_) (fun h18 => ?_)
 ·refine u_not rfl rfl tv <| zae rfl rfl tv <| zae rfl rfl (gk rfl) <| u_lenT rfl rfl rfl (gk rfl) <| zfe rfl rfl rfl (gk rfl) (fun h23 => ?_) (fun h23 => ?_)
  ·refine zbh rfl rfl rfl tv <| zae rfl rfl tv <| zal rfl rfl rfl rfl rfl <| zal rfl rfl rfl rfl rfl <| zal rfl rfl rfl rfl rfl <| zbk rfl rfl rfl tv <| zae rfl rfl tv <| zal rfl rfl rfl rfl rfl <| zal rfl rfl rfl rfl rfl <| zal rfl rfl rfl rfl rfl <| zbk rfl rfl rfl tv <| zae rfl rfl tv <| zal rfl rfl rfl rfl rfl <| zal rfl rfl rfl rfl rfl <| zal rfl rfl rfl rfl rfl <| zal rfl rfl rfl rfl rfl <| zbk rfl rfl rfl tv <| zaf tv <| zas rfl <| zac <| zaa <| zch rfl rfl rfl rfl rfl tv <| zah rfl rfl rfl rfl rfl rfl rfl rfl tv <| zad rfl rfl tv <| zaf tv <| zav ?_
   rw [parse_head (noHead fun q1 q2 q3 q4 => by rw [zep] at h23; omega)]
   refine fin' [] (.inr rfl) (.cons (.cellN rfl rfl rfl rfl rfl) (.cons (.tmp rfl (nb rfl)) .nil)) (zaw [] rfl rfl ⟨⟨_, rfl, (.tup _ _ (.cons (.agg _ _ (.cons (subI ?_) (.cons (subNs ?_) .nil))) (.cons (subI ?_) .nil)))⟩, tv⟩ tv (zax rfl rfl))
   all_goals (try rfl)
  ·refine zbh rfl rfl rfl tv <| zae rfl rfl tv <| zae rfl rfl (gk rfl) <| u_indexX (bs := (cutB s 58)) (i := 0) rfl rfl rfl rfl (by rfl) (by rw [zep] at h23; omega) rfl (gk rfl) <| zcm rfl rfl rfl (gk rfl) (fun h28 => ?_) (fun h28 => ?_)
   ·refine zbh rfl rfl rfl tv <| zae rfl rfl tv <| zal rfl rfl rfl rfl rfl <| zal rfl rfl rfl rfl rfl <| zal rfl rfl rfl rfl rfl <| zbk rfl rfl rfl tv <| zae rfl rfl tv <| zal rfl rfl rfl rfl rfl <| zal rfl rfl rfl rfl rfl <| zal rfl rfl rfl rfl rfl <| zal rfl rfl rfl rfl rfl <| zbk rfl rfl rfl tv <| zaf tv <| zas rfl <| zac <| zaa <| zch rfl rfl rfl rfl rfl tv <| zah rfl rfl rfl rfl rfl rfl rfl rfl tv <| zad rfl rfl tv <| zaf tv <| zav ?_
    rw [parse_head (noHead fun q1 q2 q3 q4 => by rw [headD_0 (by omega)] at q3; omega)]
    refine fin' [] (.inr rfl) (.cons (.cellN rfl rfl rfl rfl rfl) (.cons (.tmp rfl (nb rfl)) .nil)) (zaw [] rfl rfl ⟨⟨_, rfl, (.tup _ _ (.cons (.agg _ _ (.cons (subI ?_) (.cons (subNs ?_) .nil))) (.cons (subI ?_) .nil)))⟩, tv⟩ tv (zax rfl rfl))
    all_goals (try rfl)
   ·refine zbh rfl rfl rfl tv <| zae rfl rfl tv <| zae rfl rfl (gk rfl) <| u_indexX (bs := (cutB s 58)) (i := 0) rfl rfl rfl rfl (by rfl) (by rw [zep] at h23; omega) rfl (gk rfl) <| s_gtr rfl rfl rfl (gk rfl) (fun h33 => ?_) (fun h33 => ?_)
    ·refine zbh rfl rfl rfl tv <| zae rfl rfl tv <| zal rfl rfl rfl rfl rfl <| zal rfl rfl rfl rfl rfl <| zal rfl rfl rfl rfl rfl <| zal rfl rfl rfl rfl rfl <| zbk rfl rfl rfl tv <| zaf tv <| zas rfl <| zac <| zaa <| zch rfl rfl rfl rfl rfl tv <| zah rfl rfl rfl rfl rfl rfl rfl rfl tv <| zad rfl rfl tv <| zaf tv <| zav ?_
     rw [parse_head (noHead fun q1 q2 q3 q4 => by rw [headD_0 (by omega)] at q3; omega)]
     refine fin' [] (.inr rfl) (.cons (.cellN rfl rfl rfl rfl rfl) (.cons (.tmp rfl (nb rfl)) .nil)) (zaw [] rfl rfl ⟨⟨_, rfl, (.tup _ _ (.cons (.agg _ _ (.cons (subI ?_) (.cons (subNs ?_) .nil))) (.cons (subI ?_) .nil)))⟩, tv⟩ tv (zax rfl rfl))
     all_goals (try rfl)
    ·refine zbh rfl rfl rfl tv <| zae rfl rfl tv <| zae rfl rfl (gk rfl) <| u_lenT rfl rfl rfl (gk rfl) <| u_remN rfl rfl (by omega) rfl (gk rfl) <| zfe rfl rfl rfl (gk rfl) (fun h39 => ?_) (fun h39 => ?_)
     ·refine zbh rfl rfl rfl tv <| zaf tv <| zas rfl <| zac <| zaa <| zch rfl rfl rfl rfl rfl tv <| zah rfl rfl rfl rfl rfl rfl rfl rfl tv <| zad rfl rfl tv <| zaf tv <| zav ?_
      rw [parse_head (noHead fun q1 q2 q3 q4 => by rw [zep] at h39; omega)]
      refine fin' [] (.inr rfl) (.cons (.cellN rfl rfl rfl rfl rfl) (.cons (.tmp rfl (nb rfl)) .nil)) (zaw [] rfl rfl ⟨⟨_, rfl, (.tup _ _ (.cons (.agg _ _ (.cons (subI ?_) (.cons (subNs ?_) .nil))) (.cons (subI ?_) .nil)))⟩, tv⟩ tv (zax rfl rfl))
      all_goals (try rfl)
     ·refine zbh rfl rfl rfl tv <| zaf tv <| zau rfl <| zbd <| zac ?_
      have hlA : (cutB s 58).length = 1 := by rw [zep] at h23; omega
      have hok : headOk s = true := by
        rw [cut_head]
        simp only [Bool.and_eq_true, decide_eq_true_eq]
        refine ⟨⟨⟨h18, hlA⟩, ?_⟩, by rw [zep] at h39; omega⟩
        rw [headD_0 (by omega)]; omega
      obtain ⟨ea, eb⟩ := cut_parts hok
      obtain ⟨c, hB⟩ := List.length_eq_one_iff.1 hlA
      have hc : 48 ≤ c.toNat ∧ c.toNat ≤ 57 := by simp only [hB] at h28 h33; simp at h28 h33; omega
      rw [hB] at eb
      obtain ⟨r, hr⟩ : ∃ r, r = s.drop 2 := ⟨_, rfl⟩
      rw [ea, ← hr] at h39
      have hrA : cutA s 58 = r := by rw [ea, hr]
      rw [zep] at h39
      have hrs : r.length ≤ s.length := by rw [hr, List.length_drop]; omega
      refine zaa <| zae rfl rfl tv <| u_indexX (bs := (cutB s 58)) (i := 0) rfl rfl rfl rfl (by rfl) (by omega) rfl tv <| u_subU8 rfl rfl (by omega) rfl tv <| u_convUp rfl (by unfold inI; omega) rfl rfl rfl tv <| zch rfl rfl rfl rfl rfl tv <| zbf 101 rfl rfl (zar hpar rfl) rfl rfl tv <| zah rfl rfl rfl rfl rfl rfl rfl rfl tv <| zaf tv <| zac <| zac <| zaa <| zad rfl rfl tv <| zaf tv <| zaz <| zbx (fun n_ E => ∃ (i : Nat) (acc : List UInt8), ((i ≤ r.length) ∧ (i % 2 = 0) ∧ (hexAt r i acc)) ∧ n_ = r.length - i ∧ E = ⟨[(2, .ptr 2 0), (5, .lit (.string (tx r))), (7, .ptr 7 0), (8, .lit (.int .i64 (i : Int)))], [(2, .box [.lit (.int .i64 0), .lit (.slice none 0 0)]), (7, .box [.lit (.int .i64 ((c.toNat : Int) - 48)), .row 8]), (8, .row 5 1 (byteCells acc))], 86⟩) (n0 := _) (E0 := _) (⟨0, [], by exact ⟨Nat.zero_le _, rfl, hexAt_0 r⟩, rfl, rfl⟩) (ren [(2, 100), (7, 101)]) (zaw [(2, 100), (7, 101)] rfl rfl ⟨⟨_, rfl, (.ptr _ _ _ rfl (zag rfl))⟩, ⟨_, rfl, (subT (by rw [hrA]))⟩, ⟨_, rfl, (.ptr _ _ _ rfl (zag rfl))⟩, ⟨_, rfl, (.lit _)⟩, tv⟩ ⟨⟨_, _, rfl, rfl, (zbw rfl)⟩, ⟨_, _, rfl, rfl, (.cons (subI (by simp [hB])) (.cons (.nilrow _ _ _ _ rfl rfl) .nil))⟩, (.inr (.inl ⟨rfl, rfl⟩)), tv⟩ (zax hpar rfl)) (fun n_ E hR => ?_)
      obtain ⟨i, acc, hI, rfl, rfl⟩ := hR
      obtain ⟨hle, hev, hx⟩ := hI
      refine zac <| zac <| zaa <| zae rfl rfl tv <| zae rfl rfl tv <| u_lenT rfl rfl rfl tv <| zcm rfl rfl rfl tv (fun h50 => ?_) (fun h50 => ?_)
      ·refine zaf tv <| zas rfl <| zbd <| zac <| zaz <| zac ?_
       rw [zep] at h50
       refine zcb <| zae rfl rfl tv <| zae rfl rfl tv <| u_indexX (bs := r) (i := i) rfl rfl rfl rfl (by rfl) (by omega) rfl tv <| zbo rfl ((show VFun G 147 [.lit (.string (tx hexL)), .lit (.int .u8 ((r[i]'(by omega)).toNat : Int))] [] (.lit (.int .i64 (hexI (r[i]'(by omega))))) [] from c147 hexL _)) (.cons ((.lit _)) (.cons ((.lit _)) .nil)) rfl tv <| zae rfl rfl tv <| zae rfl rfl tv <| zcg rfl rfl rfl (by unfold inI; omega) rfl tv <| u_indexX (bs := r) (i := (i + 1)) rfl rfl rfl rfl (by rfl) (by omega) rfl tv <| zbo rfl ((show VFun G 147 [.lit (.string (tx hexL)), .lit (.int .u8 ((r[i + 1]'(by omega)).toNat : Int))] [] (.lit (.int .i64 (hexI (r[i + 1]'(by omega))))) [] from c147 hexL _)) (.cons ((.lit _)) (.cons ((.lit _)) .nil)) rfl tv <| zad rfl rfl tv <| zad rfl rfl tv <| zaf (by kernel_rfl) <| zac <| zac <| zaa <| zae rfl rfl tv <| zcm rfl rfl rfl tv (fun h63 => ?_) (fun h63 => ?_)
       ·refine zae rfl rfl tv <| zal rfl rfl rfl rfl rfl <| zal rfl rfl rfl rfl rfl <| zbk rfl rfl rfl tv <| zaf tv <| zas rfl <| zac <| zaa <| zch rfl rfl rfl rfl rfl tv <| zah rfl rfl rfl rfl rfl rfl rfl rfl tv <| zad rfl rfl tv <| zaf tv <| zav ?_
        rw [parse_hexes hok (by rw [← hr]; exact hexAt_bad hx (by omega) (.inl h63))]
        refine fin' [] (.inr rfl) (.cons (.cellN rfl rfl rfl rfl rfl) (.cons (.tmp rfl (nb rfl)) .nil)) (zaw [] rfl rfl ⟨⟨_, rfl, (.tup _ _ (.cons (.agg _ _ (.cons (subI ?_) (.cons (subNs ?_) .nil))) (.cons (subI ?_) .nil)))⟩, tv⟩ tv (zax rfl rfl))
        all_goals (try rfl)
       ·refine zae rfl rfl tv <| zae rfl rfl (gk rfl) <| zcm rfl rfl rfl (gk rfl) (fun h66 => ?_) (fun h66 => ?_)
        ·refine zbh rfl rfl rfl tv <| zaf tv <| zas rfl <| zac <| zaa <| zch rfl rfl rfl rfl rfl tv <| zah rfl rfl rfl rfl rfl rfl rfl rfl tv <| zad rfl rfl tv <| zaf tv <| zav ?_
         rw [parse_hexes hok (by rw [← hr]; exact hexAt_bad hx (by omega) (.inr h66))]
         refine fin' [] (.inr rfl) (.cons (.cellN rfl rfl rfl rfl rfl) (.cons (.tmp rfl (nb rfl)) .nil)) (zaw [] rfl rfl ⟨⟨_, rfl, (.tup _ _ (.cons (.agg _ _ (.cons (subI ?_) (.cons (subNs ?_) .nil))) (.cons (subI ?_) .nil)))⟩, tv⟩ tv (zax rfl rfl))
         all_goals (try rfl)
        ·refine zbh rfl rfl rfl tv <| zaf tv <| zau rfl <| zbd ?_
         have g1 := hexI_ge (r[i]'(by omega)); have g2 := hexI_lt (r[i]'(by omega)); have g3 := hexI_ge (r[i + 1]'(by omega)); have g4 := hexI_lt (r[i + 1]'(by omega)); have g5 := hx.2
         refine zaa <| zab rfl rfl rfl rfl rfl rfl tv <| zak rfl rfl rfl rfl rfl rfl tv <| zae rfl rfl tv <| u_mul rfl rfl rfl (by unfold inI; omega) rfl tv <| zae rfl rfl tv <| zcg rfl rfl rfl (by unfold inI; omega) rfl tv <| zdp rfl rfl rfl rfl tv <| zba 122 rfl rfl rfl rfl rfl rfl rfl rfl rfl rfl (zar hpar rfl) rfl rfl tv <| zbt 123 rfl rfl rfl (zct rfl) rfl (zar hpar rfl) rfl rfl rfl rfl rfl (by simp [zby, byteCells_length]; omega) rfl tv <| zab rfl rfl rfl rfl rfl rfl tv <| zbm rfl rfl rfl rfl rfl rfl rfl tv <| zaf tv <| zaa <| zae rfl rfl tv <| zcg rfl rfl rfl (by unfold inI; omega) rfl tv <| zad rfl rfl tv <| zaf tv <| ⟨_, _, ren [(2, 2), (7, 7), (8, 123)], ?_, ⟨i + 2, acc ++ [u8 (16 * hexI (r[i]'(by omega)) + hexI (r[i + 1]'(by omega)))], ?_, rfl, rfl⟩, zaw [(2, 2), (7, 7), (8, 123)] rfl rfl ⟨⟨_, rfl, (.ptr _ _ _ rfl (zag rfl))⟩, ⟨_, rfl, (.lit _)⟩, ⟨_, rfl, (.ptr _ _ _ rfl (zag rfl))⟩, ⟨_, rfl, (.lit _)⟩, tv⟩ ⟨⟨_, _, rfl, rfl, (zbw rfl)⟩, ⟨_, _, rfl, rfl, (.cons ((.lit _)) (.cons ((.row _ _ rfl (zag rfl))) .nil))⟩, (.inl ⟨_, rfl, zbr rfl (by simp [byteCells, zby, cellsOf, zdd])⟩), tv⟩ (zax hpar rfl)⟩
         ·omega
         ·exact ⟨by omega, by omega, hexAt_next hx (by omega) (by omega)⟩
      ·refine zaf tv <| zau rfl <| zcc <| iteP rfl <| zac <| zac ?_
       rw [zep] at h50
       refine zaa <| zan rfl rfl rfl rfl rfl rfl tv <| u_callB [(8, _)] rfl (c78 (_, _)) (.cons ((.agg _ _ (.cons ((.lit _)) (.cons (.frz _ _ _ _ rfl (zag rfl)) .nil)))) .nil) (sub1 rfl) rfl rfl tv <| zad rfl rfl tv <| zaf tv <| zac <| zaa <| zae rfl rfl tv <| zfe rfl rfl rfl tv (fun h82 => ?_) (fun h82 => ?_)
       ·refine zaf tv <| zas rfl <| zac <| zaa <| zch rfl rfl rfl rfl rfl tv <| zae rfl rfl tv <| zah rfl rfl rfl rfl rfl rfl rfl rfl tv <| zad rfl rfl tv <| zaf tv <| zav ?_
        rw [parse_some (k := (c.toNat : Int) - 48) hok (by rw [← hr]; exact hexAt_end hx (by omega)) (by rw [← eb]; rfl), if_neg h82]
        refine fin' [] (.inr rfl) (.cons (.cellN rfl rfl rfl rfl rfl) (.cons (.tmp rfl (nb rfl)) .nil)) (zaw [] rfl rfl ⟨⟨_, rfl, (.tup _ _ (.cons (.agg _ _ (.cons (subI ?_) (.cons (subNs ?_) .nil))) (.cons (subI ?_) .nil)))⟩, tv⟩ tv (zax rfl rfl))
        all_goals (try rfl)
       ·refine zaf tv <| zau rfl <| zbd <| zac <| zaa <| zan rfl rfl rfl rfl rfl rfl tv <| zah rfl rfl rfl rfl rfl rfl rfl rfl tv <| zad rfl rfl tv <| zaf tv <| zav ?_
        rw [parse_some (k := (c.toNat : Int) - 48) hok (by rw [← hr]; exact hexAt_end hx (by omega)) (by rw [← eb]; rfl), if_pos h82]
        refine fin' [] (.inr rfl) (.cons (.cellN rfl rfl rfl rfl rfl) (.cons (.tmp rfl (nb rfl)) .nil)) (zaw [] rfl rfl ⟨⟨_, rfl, (.tup _ _ (.cons (.agg _ _ (.cons (subI ?_) (.cons (zbn rfl (fzL rfl) ?_) .nil))) (.cons (subI ?_) .nil)))⟩, tv⟩ tv (zax rfl rfl))
        all_goals (try rfl)
 ·refine u_not rfl rfl tv <| zae rfl rfl tv <| zal rfl rfl rfl rfl rfl <| zal rfl rfl rfl rfl rfl <| zal rfl rfl rfl rfl rfl <| zbk rfl rfl rfl tv <| zae rfl rfl tv <| zal rfl rfl rfl rfl rfl <| zal rfl rfl rfl rfl rfl <| zal rfl rfl rfl rfl rfl <| zbk rfl rfl rfl tv <| zae rfl rfl tv <| zal rfl rfl rfl rfl rfl <| zal rfl rfl rfl rfl rfl <| zal rfl rfl rfl rfl rfl <| zbk rfl rfl rfl tv <| zae rfl rfl tv <| zal rfl rfl rfl rfl rfl <| zal rfl rfl rfl rfl rfl <| zal rfl rfl rfl rfl rfl <| zal rfl rfl rfl rfl rfl <| zbk rfl rfl rfl tv <| zaf tv <| zas rfl <| zac <| zaa <| zch rfl rfl rfl rfl rfl tv <| zah rfl rfl rfl rfl rfl rfl rfl rfl tv <| zad rfl rfl tv <| zaf tv ?_
  refine zav ?_
  rw [parse_head (noHead fun q1 q2 q3 q4 => by rw [q1] at h18; cases h18)]
  refine fin' [] (.inr rfl) (.cons (.cellN rfl rfl rfl rfl rfl) (.cons (.tmp rfl (nb rfl)) .nil)) (zaw [] rfl rfl ⟨⟨_, rfl, (.tup _ _ (.cons (.agg _ _ (.cons (subI ?_) (.cons (subNs ?_) .nil))) (.cons (subI ?_) .nil)))⟩, tv⟩ tv (zax rfl rfl))
  all_goals (try rfl)
end Go.Proofs.Ytaadloihphpdbaa
