/- Walk of a law. Printed by a small program (walk.py). -/
import Derived.Test.YtaadloihphpdbaaTWTop
set_option linter.unusedVariables false
set_option linter.unusedSimpArgs false
set_option maxRecDepth 4000
namespace Go.Proofs.Ytaadloihphpdbaa
open Go Go.Vc Go.RowKit
theorem c22 (n t m : Int) : VFun G 22 [.lit (.int .i64 n), .lit (.int .i64 t), .lit (.int .i64 m)] [] (.lit (.bool true)) [] := by
 refine VFun.intro (fn := Try.f22) rfl rfl (by kernel_rfl) (nb rfl) fun Γ hpar => ?_
 refine zac <| zaa <| zad rfl rfl tv <| zaf tv <| zac <| zac <| zaa <| zbk rfl (c85) .nil rfl tv <| u_not rfl rfl tv <| zaf tv <| zas rfl <| zba <| zac <| zac <| zaa <| zae rfl rfl tv <| zch rfl rfl rfl tv (fun h18 => ?_) (fun h18 => ?_)
 ·refine zae rfl rfl tv <| zal rfl rfl rfl rfl rfl <| zal rfl rfl rfl rfl rfl <| zbi rfl rfl rfl tv <| zae rfl rfl tv <| zal rfl rfl rfl rfl rfl <| zal rfl rfl rfl rfl rfl <| zbi rfl rfl rfl tv <| zae rfl rfl tv <| zal rfl rfl rfl rfl rfl <| zal rfl rfl rfl rfl rfl <| zal rfl rfl rfl rfl rfl <| zbi rfl rfl rfl tv <| zae rfl rfl tv <| zal rfl rfl rfl rfl rfl <| zal rfl rfl rfl rfl rfl <| zbi rfl rfl rfl tv <| zae rfl rfl tv <| zal rfl rfl rfl rfl rfl <| zal rfl rfl rfl rfl rfl <| zbi rfl rfl rfl tv <| zaf tv <| zap rfl <| zac <| zaa <| zad rfl rfl tv <| zaf tv <| zav <| fin0 (.inr rfl) (.cons (.tmp rfl (nb rfl)) .nil) (subB ?_)
  ·first | rfl | exact (beq_iff_eq.2 rfl).symm
 ·refine zae rfl rfl tv <| zae rfl rfl (gk rfl) <| zfc rfl rfl rfl (gk rfl) (fun h21 => ?_) (fun h21 => ?_)
  ·refine zbc rfl rfl rfl tv <| zae rfl rfl tv <| zal rfl rfl rfl rfl rfl <| zal rfl rfl rfl rfl rfl <| zbi rfl rfl rfl tv <| zae rfl rfl tv <| zal rfl rfl rfl rfl rfl <| zal rfl rfl rfl rfl rfl <| zal rfl rfl rfl rfl rfl <| zbi rfl rfl rfl tv <| zae rfl rfl tv <| zal rfl rfl rfl rfl rfl <| zal rfl rfl rfl rfl rfl <| zbi rfl rfl rfl tv <| zae rfl rfl tv <| zal rfl rfl rfl rfl rfl <| zal rfl rfl rfl rfl rfl <| zbi rfl rfl rfl tv <| zaf tv <| zap rfl <| zac <| zaa <| zad rfl rfl tv <| zaf tv <| zav <| fin0 (.inr rfl) (.cons (.tmp rfl (nb rfl)) .nil) (subB ?_)
   ·first | rfl | exact (beq_iff_eq.2 rfl).symm
  ·refine zbc rfl rfl rfl tv <| zae rfl rfl tv <| zae rfl rfl (gk rfl) <| zch rfl rfl rfl (gk rfl) (fun h25 => ?_) (fun h25 => ?_)
   ·refine zbc rfl rfl rfl tv <| zae rfl rfl tv <| zal rfl rfl rfl rfl rfl <| zal rfl rfl rfl rfl rfl <| zal rfl rfl rfl rfl rfl <| zbi rfl rfl rfl tv <| zae rfl rfl tv <| zal rfl rfl rfl rfl rfl <| zal rfl rfl rfl rfl rfl <| zbi rfl rfl rfl tv <| zae rfl rfl tv <| zal rfl rfl rfl rfl rfl <| zal rfl rfl rfl rfl rfl <| zbi rfl rfl rfl tv <| zaf tv <| zap rfl <| zac <| zaa <| zad rfl rfl tv <| zaf tv <| zav <| fin0 (.inr rfl) (.cons (.tmp rfl (nb rfl)) .nil) (subB ?_)
    ·first | rfl | exact (beq_iff_eq.2 rfl).symm
   ·refine zbc rfl rfl rfl tv <| zae rfl rfl tv <| zae rfl rfl (gk rfl) <| zae rfl rfl (gk rfl) <| zfq rfl rfl rfl (gk rfl) (fun h30 => ?_) (fun h30 => ?_)
    ·refine zbc rfl rfl rfl tv <| zae rfl rfl tv <| zal rfl rfl rfl rfl rfl <| zal rfl rfl rfl rfl rfl <| zbi rfl rfl rfl tv <| zae rfl rfl tv <| zal rfl rfl rfl rfl rfl <| zal rfl rfl rfl rfl rfl <| zbi rfl rfl rfl tv <| zaf tv <| zap rfl <| zac <| zaa <| zad rfl rfl tv <| zaf tv <| zav <| fin0 (.inr rfl) (.cons (.tmp rfl (nb rfl)) .nil) (subB ?_)
     ·first | rfl | exact (beq_iff_eq.2 rfl).symm
    ·refine zbc rfl rfl rfl tv <| zae rfl rfl tv <| zae rfl rfl (gk rfl) <| zch rfl rfl rfl (gk rfl) (fun h34 => ?_) (fun h34 => ?_)
     ·refine zbc rfl rfl rfl tv <| zae rfl rfl tv <| zal rfl rfl rfl rfl rfl <| zal rfl rfl rfl rfl rfl <| zbi rfl rfl rfl tv <| zaf tv <| zap rfl <| zac <| zaa <| zad rfl rfl tv <| zaf tv <| zav <| fin0 (.inr rfl) (.cons (.tmp rfl (nb rfl)) .nil) (subB ?_)
      ·first | rfl | exact (beq_iff_eq.2 rfl).symm
     ·refine zbc rfl rfl rfl tv <| zae rfl rfl tv <| zae rfl rfl (gk rfl) <| zfc rfl rfl rfl (gk rfl) (fun h38 => ?_) (fun h38 => ?_)
      ·refine zbc rfl rfl rfl tv <| zaf tv <| zap rfl <| zac <| zaa <| zad rfl rfl tv <| zaf tv <| zav <| fin0 (.inr rfl) (.cons (.tmp rfl (nb rfl)) .nil) (subB ?_)
       ·first | rfl | exact (beq_iff_eq.2 rfl).symm
      ·refine zbc rfl rfl rfl tv <| zaf tv <| zas rfl <| zba <| zac ?_
       obtain ⟨N, rfl⟩ : ∃ N : Nat, n = N := ⟨n.toNat, by omega⟩
       obtain ⟨T, rfl⟩ : ∃ T : Nat, t = T := ⟨t.toNat, by omega⟩
       obtain ⟨M, rfl⟩ : ∃ M : Nat, m = M := ⟨m.toNat, by omega⟩
       refine zaa <| zad rfl rfl tv <| zaf tv <| zac <| zac <| zaa <| zae rfl rfl tv <| zae rfl rfl tv <| zaf tv <| zaz <| zbt (fun n_ E => ∃ (i : Nat), ((i ≤ M)) ∧ n_ = M - i ∧ E = ⟨[(0, .lit (.int .i64 (N : Int))), (1, .lit (.int .i64 (T : Int))), (7, .row 5), (40, .lit (.int .i64 (M : Int))), (41, .lit (.int .i64 i))], [(5, .row 50 7 (stepCells (floodS N T i)))], 102⟩) (n0 := _) (E0 := _) (⟨0, by omega, rfl, rfl⟩) (ren []) (zax [] rfl rfl ⟨⟨_, rfl, (.lit _)⟩, ⟨_, rfl, (.lit _)⟩, ⟨_, rfl, .nilrow _ _ _ _ rfl rfl⟩, ⟨_, rfl, (.lit _)⟩, ⟨_, rfl, (subI (by rfl))⟩, tv⟩ ⟨(.inr (.inl ⟨rfl, rfl⟩)), tv⟩ (zay hpar rfl)) (fun n_ E hR => ?_)
       obtain ⟨i, hI, rfl, rfl⟩ := hR
       have hi := hI
       refine zac <| zaa <| zch rfl rfl rfl tv (fun h42 => ?_) (fun h42 => ?_)
       ·refine zaf tv <| zac <| zap rfl <| zba <| zac <| zaz <| zac <| zaa <| zae rfl rfl tv <| zad rfl rfl tv <| zaf tv <| zac <| zaa <| zae rfl rfl tv <| zae rfl rfl tv <| u_rem rfl rfl (by omega) rfl tv <| zad rfl rfl tv <| zaf tv <| zac <| zaa <| zae rfl rfl tv <| zae rfl rfl tv <| zeh rfl rfl rfl tv (fun h49 => ?_) (fun h49 => ?_)
        ·refine zaf tv <| zap rfl <| zaa <| zae rfl rfl tv <| zae rfl rfl tv <| zbk rfl (c86 ((i : Int) % (N : Int)) [50, 58, 102, 102, 102, 102] (2, [255, 255]) (by decide +kernel) (by decide)) (.cons ((.lit _)) (.cons ((.lit _)) .nil)) rfl tv <| zbf 120 rfl rfl rfl rfl rfl rfl rfl rfl rfl rfl (zar hpar rfl) rfl rfl tv <| zbv 121 rfl rfl rfl (zcv rfl) rfl (zar hpar rfl) rfl rfl rfl rfl rfl (by have hfl := floodS_len N T i; simp [zcb, zbo]; omega) rfl tv <| zad rfl rfl tv <| zaf tv <| zaa <| zca rfl rfl rfl (by unfold inI; omega) rfl tv <| zae rfl rfl tv <| zaf tv <| ⟨_, _, ren [(5, 121)], ?_, ⟨i + 1, ?_, rfl, rfl⟩, zax [(5, 121)] rfl rfl ⟨⟨_, rfl, (.lit _)⟩, ⟨_, rfl, (.lit _)⟩, ⟨_, rfl, (.row _ _ rfl (zag rfl))⟩, ⟨_, rfl, (.lit _)⟩, ⟨_, rfl, (.lit _)⟩, tv⟩ ⟨(.inl ⟨_, rfl, zbx rfl (by rw [floodS_y h49, zey]; rfl)⟩), tv⟩ (zay hpar rfl)⟩
         ·omega
         ·omega
        ·refine zaf tv <| zas rfl <| zba <| zaa <| zca rfl rfl rfl (by unfold inI; omega) rfl tv <| zae rfl rfl tv <| zaf tv <| ⟨_, _, ren [(5, 5)], ?_, ⟨i + 1, ?_, rfl, rfl⟩, zax [(5, 5)] rfl rfl ⟨⟨_, rfl, (.lit _)⟩, ⟨_, rfl, (.lit _)⟩, ⟨_, rfl, (.row _ _ rfl (zag rfl))⟩, ⟨_, rfl, (.lit _)⟩, ⟨_, rfl, (.lit _)⟩, tv⟩ ⟨(.inl ⟨_, rfl, zbx rfl (by rw [floodS_n h49])⟩), tv⟩ (zay hpar rfl)⟩
         ·omega
         ·omega
       ·refine zaf tv <| zac <| zas rfl <| zbz <| iteP rfl <| zac ?_
        have him : i = M := by omega
        subst him
        have hfl := floodS_len N T i
        have hnn : (1 : Int) ≤ N ∧ (N : Int) ≤ 3 := by omega
        have k1 : VFun G 87 [.lit (.int .i64 (N : Int)), .shr 7 (stepCells (floodS N T i) ++ [stepAV (putS (T : Int) (0, [97]))])] [] (.tup [.agg (zcz (play (N : Int) (soonL N T i)).1), .shr 1 (zaw (play (N : Int) (soonL N T i)).2), .lit (.int .i64 0)]) [] := by
          have e := c87c (n := (N : Int)) (l := soonL N T i) (by intro s hs; rcases List.mem_append.1 hs with hs | hs; exact floodS_in N T i s hs; rw [List.mem_singleton.1 hs]; exact put_in) (by unfold zfi; rw [if_neg (by omega)]) (by unfold soonL; rw [List.length_append]; simp; omega)
          rw [show stepCells (soonL N T i) = _ from zey _ _] at e
          exact e
        have hwk := wok_play (n := (N : Int)) hnn.1 hnn.2 (soonL N T i)
        have htk := (play_ticks (n := (N : Int)) hnn.1 hnn.2 (soonL N T i)).2
        have hln := play_len (n := (N : Int)) hnn.1 hnn.2 (soonL N T i)
        refine zaa <| zae rfl rfl tv <| zae rfl rfl tv <| zae rfl rfl tv <| zbk rfl (c86 (T : Int) [48, 58, 54, 49] (0, [97]) (by decide +kernel) (by decide)) (.cons ((.lit _)) (.cons ((.lit _)) .nil)) rfl tv <| zbf 120 rfl rfl rfl rfl rfl rfl rfl rfl rfl rfl (zar hpar rfl) rfl rfl tv <| zbv 121 rfl rfl rfl (zcv rfl) rfl (zar hpar rfl) rfl rfl rfl rfl rfl (by simp [zcb, zbo]; omega) rfl tv <| zbq [] [121] [121] rfl rfl (k1) (zbe (k0 := 121) rfl zbr) tv (.cons ((.lit _)) (.cons (.frz _ _ _ _ rfl (by decide)) .nil)) rfl rfl (zby hpar rfl) rfl tv <| zae rfl rfl tv <| zbd rfl rfl rfl tv <| zbd rfl rfl rfl tv <| zbd rfl rfl rfl tv <| zbg 122 rfl rfl (zar hpar rfl) rfl rfl tv <| zai rfl rfl rfl rfl rfl rfl rfl rfl tv <| zad rfl rfl tv <| zad rfl rfl tv <| zaf tv <| zac <| zac <| zaa <| zae rfl rfl tv <| zca rfl rfl rfl (by unfold inI; omega) rfl tv <| zae rfl rfl tv <| zaf tv <| zaz <| zbt (fun n_ E => ∃ (k : Nat), ((k ≤ N + 1)) ∧ n_ = N + 1 - k ∧ E = ⟨[(1, .lit (.int .i64 (T : Int))), (10, .ptr 10 0), (12, .lit (.int .i64 0)), (68, .lit (.int .i64 ((N : Int) + 1))), (69, .lit (.int .i64 k))], [(10, .box (zcz (zdf k (play (N : Int) (soonL N T i)).1)))], 102⟩) (n0 := _) (E0 := _) (⟨0, by omega, rfl, rfl⟩) (ren [(10, 122)]) (zax [(10, 122)] rfl rfl ⟨⟨_, rfl, (.lit _)⟩, ⟨_, rfl, (.ptr _ _ _ rfl (zag rfl))⟩, ⟨_, rfl, (.lit _)⟩, ⟨_, rfl, (.lit _)⟩, ⟨_, rfl, (subI (by rfl))⟩, tv⟩ ⟨⟨_, _, rfl, rfl, (zbs rfl)⟩, tv⟩ (zay hpar rfl)) (fun n_ E hR => ?_)
        obtain ⟨k, hI, rfl, rfl⟩ := hR
        have hk := hI
        refine zac <| zaa <| zch rfl rfl rfl tv (fun h70 => ?_) (fun h70 => ?_)
        ·refine zaf tv <| zac <| zap rfl <| zba <| zac <| zaz ?_
         have e1 := roundN_ticks k (play (N : Int) (soonL N T i)).1
         have o1 := wok_roundN k hwk
         refine zaa <| zan rfl rfl rfl rfl rfl rfl tv <| zbk rfl (c99 (zdf k (play (N : Int) (soonL N T i)).1) o1 (by omega)) (.cons ((subP rfl)) .nil) rfl tv <| zai rfl rfl rfl rfl rfl rfl rfl rfl tv <| zaf tv <| zaa <| zca rfl rfl rfl (by unfold inI; omega) rfl tv <| zae rfl rfl tv <| zaf tv <| ⟨_, _, ren [(10, 10)], ?_, ⟨k + 1, ?_, rfl, rfl⟩, zax [(10, 10)] rfl rfl ⟨⟨_, rfl, (.lit _)⟩, ⟨_, rfl, (.ptr _ _ _ rfl (zag rfl))⟩, ⟨_, rfl, (.lit _)⟩, ⟨_, rfl, (.lit _)⟩, ⟨_, rfl, (subI (by rfl))⟩, tv⟩ ⟨⟨_, _, rfl, rfl, (.cons (subS (by rw [zek])) (.cons (subI (by rw [zek])) .nil))⟩, tv⟩ (zay hpar rfl)⟩
         ·omega
         ·omega
        ·refine zaf tv <| zac <| zas rfl <| zbz <| iteP rfl <| zac ?_
         have hkN : k = N + 1 := by omega
         subst hkN
         have o1 := wok_roundN (N + 1) hwk
         have l1 := zfp (N + 1) (play (N : Int) (soonL N T i)).1
         obtain ⟨x, hx⟩ : ∃ x, (zdf (N + 1) (play (N : Int) (soonL N T i)).1).lanes[T]? = some x := ⟨_, List.getElem?_eq_getElem (by omega)⟩
         have hxb := o1.b x (List.mem_of_getElem? hx)
         have htold : x.r.told = [(0, [97])] := by
           have hd := soon_end N T i (by omega) (by omega) (by omega) (by omega)
           rw [List.getD, hx] at hd
           exact hd
         refine zaa <| zan rfl rfl rfl rfl rfl rfl tv <| zae rfl rfl tv <| zbk rfl (c70y (zdf (N + 1) (play (N : Int) (soonL N T i)).1) T T rfl x hx hxb) (.cons ((subP rfl)) (.cons ((.lit _)) .nil)) rfl tv <| zae rfl rfl tv <| zbd rfl rfl rfl tv <| zbd rfl rfl rfl tv <| zbg 143 rfl rfl (zar hpar rfl) rfl rfl tv <| zai rfl rfl rfl rfl rfl rfl rfl rfl tv <| zad rfl rfl tv <| zaf tv <| zac <| zaa <| zae rfl rfl tv <| zdo rfl rfl rfl tv (fun h81 => ?_) (fun h81 => ?_)
         ·refine zae rfl rfl tv <| zae rfl rfl (gk rfl) <| zbi rfl rfl rfl tv <| zae rfl rfl tv <| zab rfl rfl rfl rfl rfl rfl (gk rfl) <| zab rfl rfl rfl rfl rfl rfl (gk rfl) <| zak rfl rfl rfl rfl rfl rfl (gk rfl) <| zcm rfl rfl rfl (gk rfl) <| zdo rfl rfl rfl (gk rfl) (fun h90 => ?_) (fun h90 => ?_)
          ·refine zbi rfl rfl rfl tv <| zae rfl rfl tv <| zab rfl rfl rfl rfl rfl rfl (gk rfl) <| zab rfl rfl rfl rfl rfl rfl (gk rfl) <| zak rfl rfl rfl rfl rfl rfl (gk rfl) <| zbu rfl rfl rfl rfl rfl (i := 0) rfl (show (zau x.r.told)[0]? = some (msgAV (0, [97])) by rw [htold]; rfl) rfl (gk rfl) <| zfa rfl rfl rfl rfl rfl rfl (gk rfl) <| zck rfl rfl rfl rfl rfl (gk rfl) <| u_convT rfl (by rfl) rfl rfl rfl rfl (gk rfl) <| u_eqlT rfl rfl rfl (gk rfl) <| zbi rfl rfl rfl tv <| zad rfl rfl tv <| zaf tv <| zav <| fin0 (.inr rfl) (.cons (.tmp rfl (nb rfl)) .nil) (subB ?_)
           ·first | rfl | exact (beq_iff_eq.2 rfl).symm
          ·rw [zaq, htold] at h90; exact absurd rfl h90
         ·exact absurd rfl h81
end Go.Proofs.Ytaadloihphpdbaa
