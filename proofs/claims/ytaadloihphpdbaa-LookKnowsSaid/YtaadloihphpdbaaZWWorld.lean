/- Walks. Printed by a small program (walk.py). -/
import Derived.Test.YtaadloihphpdbaaZWWorldH
set_option linter.unusedVariables false
set_option linter.unusedSimpArgs false
set_option maxRecDepth 4000
namespace Go.Proofs.Ytaadloihphpdbaa
open Go Go.Vc Go.RowKit
theorem c126 (n : Int) : VFun G 126 [.lit (.int .i64 n)] [] (.tup [.agg (zcu (zco n)), .lit (.int .i64 (newErr n))]) [] := by
 refine VFun.intro (fn := Try.f126) rfl rfl (by kernel_rfl) (nb rfl) fun Γ hpar => ?_
 refine zad <| zaa <| zbd 100 rfl rfl (zar hpar rfl) rfl rfl tv <| zae rfl rfl tv <| zaf tv <| zad <| zad <| zaa <| zac rfl rfl tv <| zcg rfl rfl rfl tv (fun h5 => ?_) (fun h5 => ?_)
 ·refine zac rfl rfl tv <| zag rfl rfl rfl rfl rfl <| zag rfl rfl rfl rfl rfl <| zav rfl rfl rfl tv <| zaf tv <| zao rfl <| zad <| zaa <| zcz rfl rfl rfl (.see 17 (.same _ .nil)) rfl rfl tv <| zaj rfl rfl rfl rfl rfl rfl rfl rfl tv <| zae rfl rfl tv <| zaf tv <| zaw ?_
  rw [show zco n = ⟨[], 0⟩ from if_pos (by omega), show newErr n = 3 from if_pos (by omega)]
  refine fin' [] (.inr rfl) (.cons (.cellN rfl rfl rfl rfl rfl) (.cons (.tmp rfl (nb rfl)) .nil)) (zay [] rfl rfl ⟨⟨_, rfl, (.tup _ _ (.cons (.agg _ _ (.cons (subS ?_) (.cons (subI ?_) .nil))) (.cons (subI ?_) .nil)))⟩, tv⟩ tv (zaz rfl rfl))
  all_goals (try rfl)
 ·refine zac rfl rfl tv <| zac rfl rfl (gk rfl) <| zdr rfl rfl rfl (gk rfl) (fun h8 => ?_) (fun h8 => ?_)
  ·refine zat rfl rfl rfl tv <| zaf tv <| zao rfl <| zad <| zaa <| zcz rfl rfl rfl (.see 17 (.same _ .nil)) rfl rfl tv <| zaj rfl rfl rfl rfl rfl rfl rfl rfl tv <| zae rfl rfl tv <| zaf tv <| zaw ?_
   rw [show zco n = ⟨[], 0⟩ from if_pos (by omega), show newErr n = 3 from if_pos (by omega)]
   refine fin' [] (.inr rfl) (.cons (.cellN rfl rfl rfl rfl rfl) (.cons (.tmp rfl (nb rfl)) .nil)) (zay [] rfl rfl ⟨⟨_, rfl, (.tup _ _ (.cons (.agg _ _ (.cons (subS ?_) (.cons (subI ?_) .nil))) (.cons (subI ?_) .nil)))⟩, tv⟩ tv (zaz rfl rfl))
   all_goals (try rfl)
  ·refine zat rfl rfl rfl tv <| zaf tv <| zap rfl <| zax <| zad ?_
   obtain ⟨k, rfl⟩ : ∃ k : Nat, n = k := ⟨n.toNat, by omega⟩
   refine zaa <| zac rfl rfl tv <| u_makeSlice 101 rfl rfl (n' := k) rfl rfl rfl rfl rfl (by show 248 * k ≤ 140737488355328; omega) (by omega) rfl (zar hpar rfl) rfl tv <| zdi rfl rfl rfl rfl rfl tv <| zaj rfl rfl rfl rfl rfl rfl rfl rfl tv <| zae rfl rfl tv <| zaf tv <| vw_see 101 (zcc (List.replicate k zdl)) rfl (by unfold zcc; rw [List.map_replicate]; exact F2.rep seen_zero k) <| zaw ?_
   rw [show zco k = ⟨List.replicate k zdl, 0⟩ from if_neg (by omega), show newErr k = 0 from if_neg (by omega)]
   refine fin' [] (.inr rfl) (.cons (.cellN rfl rfl rfl rfl rfl) (.cons (.tmp rfl (nb rfl)) .nil)) (zay [] rfl rfl ⟨⟨_, rfl, (.tup _ _ (.cons (.agg _ _ (.cons (zcd rfl (fzL rfl) ?_) (.cons (subI ?_) .nil))) (.cons (subI ?_) .nil)))⟩, tv⟩ tv (zaz rfl rfl))
   all_goals (try rfl)
theorem c129 (w : World') (s : Step) (hw : WOk w) (ht : w.ticks ≤ 1000000) (hs : inI s.m) : VFun G 129 [.agg (zcu w), .agg (stepAV s)] [] (.tup [.agg (zcu (zch w s).1), .lit (.int .i64 (zch w s).2)]) [] := by
 have hl1 := hw.len; have htk := hw.tk; have hm1 := Int.emod_nonneg w.ticks (show (w.lanes.length : Int) ≠ 0 by omega); have hm2 := Int.emod_lt_of_pos w.ticks (show (0 : Int) < w.lanes.length by omega)
 refine VFun.intro (fn := Try.f129) rfl rfl (by kernel_rfl) (nb rfl) fun Γ hpar => ?_
 refine zad <| zaa <| zdh 100 rfl rfl rfl (zar hpar rfl) rfl rfl tv <| zdh 101 rfl rfl rfl (zar hpar rfl) rfl rfl tv <| zbd 102 rfl rfl (zar hpar rfl) rfl rfl tv <| zae rfl rfl tv <| zaf tv <| zad <| zad <| zaa <| zab rfl rfl rfl rfl rfl rfl tv <| zah rfl rfl rfl rfl rfl rfl tv <| zcg rfl rfl rfl tv (fun h11 => ?_) (fun h11 => ?_)
 ·refine zac rfl rfl tv <| zag rfl rfl rfl rfl rfl <| zag rfl rfl rfl rfl rfl <| zag rfl rfl rfl rfl rfl <| zav rfl rfl rfl tv <| zaf tv <| zao rfl <| zad <| zaa <| zam rfl rfl rfl rfl rfl rfl tv <| zaj rfl rfl rfl rfl rfl rfl rfl rfl tv <| zae rfl rfl tv <| zaf tv <| zaw ?_
  rw [ds_kind (by omega)]
  refine fin' [] (.inr rfl) (.cons (.cellN rfl rfl rfl rfl rfl) (.cons (.tmp rfl (nb rfl)) .nil)) (zay [] rfl rfl ⟨⟨_, rfl, (.tup _ _ (.cons (.agg _ _ (.cons (subS ?_) (.cons (subI ?_) .nil))) (.cons (subI ?_) .nil)))⟩, tv⟩ tv (zaz rfl rfl))
  all_goals (try rfl)
 ·refine zac rfl rfl tv <| zab rfl rfl rfl rfl rfl rfl (gk rfl) <| zah rfl rfl rfl rfl rfl rfl (gk rfl) <| zdr rfl rfl rfl (gk rfl) (fun h15 => ?_) (fun h15 => ?_)
  ·refine zat rfl rfl rfl tv <| zaf tv <| zao rfl <| zad <| zaa <| zam rfl rfl rfl rfl rfl rfl tv <| zaj rfl rfl rfl rfl rfl rfl rfl rfl tv <| zae rfl rfl tv <| zaf tv <| zaw ?_
   rw [ds_kind (by omega)]
   refine fin' [] (.inr rfl) (.cons (.cellN rfl rfl rfl rfl rfl) (.cons (.tmp rfl (nb rfl)) .nil)) (zay [] rfl rfl ⟨⟨_, rfl, (.tup _ _ (.cons (.agg _ _ (.cons (subS ?_) (.cons (subI ?_) .nil))) (.cons (subI ?_) .nil)))⟩, tv⟩ tv (zaz rfl rfl))
   all_goals (try rfl)
  ·refine zat rfl rfl rfl tv <| zaf tv <| zap rfl <| zax <| zad <| zaa <| zab rfl rfl rfl rfl rfl rfl tv <| zah rfl rfl rfl rfl rfl rfl tv <| zae rfl rfl tv <| zaf tv <| zad <| zad <| zaa <| zab rfl rfl rfl rfl rfl rfl tv <| zah rfl rfl rfl rfl rfl rfl tv <| zci rfl rfl rfl tv (fun h22 => ?_) (fun h22 => ?_)
   ·refine zaf tv <| zao rfl <| zad <| zaa <| zab rfl rfl rfl rfl rfl rfl tv <| zah rfl rfl rfl rfl rfl rfl tv <| zab rfl rfl rfl rfl rfl rfl tv <| zah rfl rfl rfl rfl rfl rfl tv <| zby rfl rfl rfl tv <| u_remN rfl rfl (by rw [zbg]; omega) rfl tv <| zae rfl rfl tv <| zaf tv <| zaa <| zab rfl rfl rfl rfl rfl rfl tv <| zah rfl rfl rfl rfl rfl rfl tv <| zbz rfl rfl rfl (by unfold inI; omega) rfl tv <| zab rfl rfl rfl rfl rfl rfl tv <| zbl rfl rfl rfl rfl rfl rfl rfl tv <| zaf tv <| zad <| zad <| zaa <| zac rfl rfl tv <| zcg rfl rfl rfl tv (fun h34 => ?_) (fun h34 => ?_)
    ·exfalso; rw [zbg] at h34; omega
    ·refine zac rfl rfl tv <| zac rfl rfl (gk rfl) <| zab rfl rfl rfl rfl rfl rfl (gk rfl) <| zah rfl rfl rfl rfl rfl rfl (gk rfl) <| zby rfl rfl rfl (gk rfl) <| s_geq rfl rfl rfl (gk rfl) (fun h40 => ?_) (fun h40 => ?_)
     ·exfalso; simp only [zbg] at h40; omega
     ·refine zat rfl rfl rfl tv <| zaf tv <| zap rfl <| zax <| zad ?_
      obtain ⟨k, hk⟩ : ∃ k : Nat, w.ticks % ((w.lanes.length : Nat) : Int) = k := ⟨(w.ticks % ((w.lanes.length : Nat) : Int)).toNat, by omega⟩
      have hkl : k < w.lanes.length := by omega
      obtain ⟨x, hx⟩ : ∃ x, w.lanes[k]? = some x := ⟨_, List.getElem?_eq_getElem hkl⟩
      have hb : BInv x := hw.b x (List.mem_of_getElem? hx)
      have hq := hb.s.q; have hn := hb.s.n; have hnq := hb.s.nq
      refine zaa <| zab rfl rfl rfl rfl rfl rfl tv <| zah rfl rfl rfl rfl rfl rfl tv <| zac rfl rfl tv <| zbh rfl rfl rfl rfl rfl (i := k) (by first | exact hk | (rw [zbg]; exact hk)) (zbr hx) rfl tv <| zbu rfl rfl rfl rfl rfl tv <| zbd 103 rfl rfl (zar hpar rfl) rfl rfl tv <| zaj rfl rfl rfl rfl rfl rfl rfl rfl tv <| zae rfl rfl tv <| zaf tv <| zad <| zad <| zaa <| zab rfl rfl rfl rfl rfl rfl tv <| zah rfl rfl rfl rfl rfl rfl tv <| zaf tv <| zbb <| zad <| zaa <| zci rfl rfl rfl tv (fun h64 => ?_) (fun h64 => ?_)
      ·refine zae rfl rfl tv <| zaf tv <| zao rfl <| zaa <| zam rfl rfl rfl rfl rfl rfl tv <| zbi rfl (c117 x hb) (.cons ((subP rfl)) .nil) rfl tv <| zaj rfl rfl rfl rfl rfl rfl rfl rfl tv <| zaf tv <| zad <| zaa <| zba 104 rfl rfl rfl rfl rfl rfl rfl rfl rfl rfl (zar hpar rfl) rfl rfl tv <| zab rfl rfl rfl rfl rfl rfl tv <| zah rfl rfl rfl rfl rfl rfl tv <| zbn 105 rfl rfl rfl (.shr _ _) rfl (zar hpar rfl) rfl rfl rfl rfl rfl (by simp [zbx, zbg]; omega) rfl tv <| zab rfl rfl rfl rfl rfl rfl tv <| zbl rfl rfl rfl rfl rfl rfl rfl tv <| zaf tv <| zad <| zaa <| zab rfl rfl rfl rfl rfl rfl tv <| zah rfl rfl rfl rfl rfl rfl tv <| zac rfl rfl tv <| zam rfl rfl rfl rfl rfl rfl tv <| zcx rfl rfl rfl rfl rfl rfl (i := k) (by first | exact hk | (rw [zbg]; exact hk)) (by simp [zbx, zbg]; exact hkl) rfl tv <| zdx rfl rfl rfl (zbr hx) rfl (by exact lane_isP (zep x)) rfl rfl rfl (set_lane w.lanes k x (zep x)) tv <| zaf tv <| zad <| zaa <| zam rfl rfl rfl rfl rfl rfl tv <| zac rfl rfl tv ?_
       refine zaj rfl rfl rfl rfl rfl rfl rfl rfl tv <| zae rfl rfl tv <| zaf tv <| zaw ?_
       rw [ds_tick h22 hk hx]
       refine fin' [] (.inr rfl) (.cons (.cellN rfl rfl rfl rfl rfl) (.cons (.tmp rfl (nb rfl)) .nil)) (zay [] rfl rfl ⟨⟨_, rfl, (.tup _ _ (.cons (.agg _ _ (.cons (zcd rfl (fzL rfl) ?_) (.cons (subI ?_) .nil))) (.cons (subI ?_) .nil)))⟩, tv⟩ tv (zaz rfl rfl))
       all_goals (try rfl)
      ·exact absurd h22 h64
   ·refine zaf tv <| zap rfl <| zax <| zad <| zad <| zaa <| zac rfl rfl tv <| zcg rfl rfl rfl tv (fun h34 => ?_) (fun h34 => ?_)
    ·refine zac rfl rfl tv <| zag rfl rfl rfl rfl rfl <| zag rfl rfl rfl rfl rfl <| zag rfl rfl rfl rfl rfl <| zag rfl rfl rfl rfl rfl <| zag rfl rfl rfl rfl rfl <| zav rfl rfl rfl tv <| zaf tv <| zao rfl <| zad <| zaa <| zam rfl rfl rfl rfl rfl rfl tv <| zaj rfl rfl rfl rfl rfl rfl rfl rfl tv <| zae rfl rfl tv <| zaf tv <| zaw ?_
     rw [ds_none (by omega) h22 (by first | omega | (rw [zbg] at h40; omega))]
     refine fin' [] (.inr rfl) (.cons (.cellN rfl rfl rfl rfl rfl) (.cons (.tmp rfl (nb rfl)) .nil)) (zay [] rfl rfl ⟨⟨_, rfl, (.tup _ _ (.cons (.agg _ _ (.cons (subS ?_) (.cons (subI ?_) .nil))) (.cons (subI ?_) .nil)))⟩, tv⟩ tv (zaz rfl rfl))
     all_goals (try rfl)
    ·refine zac rfl rfl tv <| zac rfl rfl (gk rfl) <| zab rfl rfl rfl rfl rfl rfl (gk rfl) <| zah rfl rfl rfl rfl rfl rfl (gk rfl) <| zby rfl rfl rfl (gk rfl) <| s_geq rfl rfl rfl (gk rfl) (fun h40 => ?_) (fun h40 => ?_)
     ·refine zat rfl rfl rfl tv <| zaf tv <| zao rfl <| zad <| zaa <| zam rfl rfl rfl rfl rfl rfl tv <| zaj rfl rfl rfl rfl rfl rfl rfl rfl tv <| zae rfl rfl tv <| zaf tv <| zaw ?_
      rw [ds_none (by omega) h22 (by first | omega | (rw [zbg] at h40; omega))]
      refine fin' [] (.inr rfl) (.cons (.cellN rfl rfl rfl rfl rfl) (.cons (.tmp rfl (nb rfl)) .nil)) (zay [] rfl rfl ⟨⟨_, rfl, (.tup _ _ (.cons (.agg _ _ (.cons (subS ?_) (.cons (subI ?_) .nil))) (.cons (subI ?_) .nil)))⟩, tv⟩ tv (zaz rfl rfl))
      all_goals (try rfl)
     ·refine zat rfl rfl rfl tv <| zaf tv <| zap rfl <| zax <| zad ?_
      obtain ⟨k, hk⟩ : ∃ k : Nat, s.tenant = k := ⟨s.tenant.toNat, by omega⟩
      have hkl : k < w.lanes.length := by rw [zbg] at h40; omega
      obtain ⟨x, hx⟩ : ∃ x, w.lanes[k]? = some x := ⟨_, List.getElem?_eq_getElem hkl⟩
      have hb : BInv x := hw.b x (List.mem_of_getElem? hx)
      have hq := hb.s.q; have hn := hb.s.n; have hnq := hb.s.nq
      refine zaa <| zab rfl rfl rfl rfl rfl rfl tv <| zah rfl rfl rfl rfl rfl rfl tv <| zac rfl rfl tv <| zbh rfl rfl rfl rfl rfl (i := k) (by first | exact hk | (rw [zbg]; exact hk)) (zbr hx) rfl tv <| zbu rfl rfl rfl rfl rfl tv <| zbd 103 rfl rfl (zar hpar rfl) rfl rfl tv <| zaj rfl rfl rfl rfl rfl rfl rfl rfl tv <| zae rfl rfl tv <| zaf tv <| zad <| zad <| zaa <| zab rfl rfl rfl rfl rfl rfl tv <| zah rfl rfl rfl rfl rfl rfl tv <| zaf tv <| zbb <| zad <| zaa <| zci rfl rfl rfl tv (fun h64 => ?_) (fun h64 => ?_)
      ·exact absurd h64 h22
      ·refine zae rfl rfl tv <| zaf tv <| zap rfl <| zad <| zaa <| zci rfl rfl rfl tv (fun h68 => ?_) (fun h68 => ?_)
       ·refine zae rfl rfl tv <| zaf tv <| zao rfl <| zaa <| zab rfl rfl rfl rfl rfl rfl tv <| zds rfl rfl rfl rfl rfl rfl rfl tv <| zab rfl rfl rfl rfl rfl rfl tv <| zds rfl rfl rfl rfl rfl rfl rfl tv <| zbi rfl (c92 x.s s.msg (by omega) (by omega)) (.cons ((subP rfl)) (.cons ((subP rfl)) .nil)) rfl tv <| zac rfl rfl tv <| zas rfl rfl rfl tv <| zas rfl rfl rfl tv <| zab rfl rfl rfl rfl rfl rfl tv <| zbl rfl rfl rfl rfl rfl rfl rfl tv <| zae rfl rfl tv <| zaf tv <| zad <| zaa <| zba 104 rfl rfl rfl rfl rfl rfl rfl rfl rfl rfl (zar hpar rfl) rfl rfl tv <| zab rfl rfl rfl rfl rfl rfl tv <| zah rfl rfl rfl rfl rfl rfl tv <| zbn 105 rfl rfl rfl (.shr _ _) rfl (zar hpar rfl) rfl rfl rfl rfl rfl (by simp [zbx, zbg]; omega) rfl tv <| zab rfl rfl rfl rfl rfl rfl tv <| zbl rfl rfl rfl rfl rfl rfl rfl tv <| zaf tv <| zad <| zaa <| zab rfl rfl rfl rfl rfl rfl tv <| zah rfl rfl rfl rfl rfl rfl tv <| zac rfl rfl tv ?_
        refine zam rfl rfl rfl rfl rfl rfl tv <| zcx rfl rfl rfl rfl rfl rfl (i := k) (by first | exact hk | (rw [zbg]; exact hk)) (by simp [zbx, zbg]; exact hkl) rfl tv <| zdx rfl rfl rfl (zbr hx) rfl (by exact lane_isP ({ x with s := (put x.s s.msg).1 })) rfl rfl rfl (set_lane w.lanes k x ({ x with s := (put x.s s.msg).1 })) tv <| zaf tv <| zad <| zaa <| zam rfl rfl rfl rfl rfl rfl tv <| zac rfl rfl tv <| zaj rfl rfl rfl rfl rfl rfl rfl rfl tv <| zae rfl rfl tv <| zaf tv <| zaw ?_
        rw [ds_own (by omega) h22 hk hx, sl_put h68]
        refine fin' [] (.inr rfl) (.cons (.cellN rfl rfl rfl rfl rfl) (.cons (.tmp rfl (nb rfl)) .nil)) (zay [] rfl rfl ⟨⟨_, rfl, (.tup _ _ (.cons (.agg _ _ (.cons (zcd rfl (fzL rfl) ?_) (.cons (subI ?_) .nil))) (.cons (subI ?_) .nil)))⟩, tv⟩ tv (zaz rfl rfl))
        all_goals (try rfl)
       ·refine zae rfl rfl tv <| zaf tv <| zap rfl <| zaa <| zam rfl rfl rfl rfl rfl rfl tv <| zab rfl rfl rfl rfl rfl rfl tv <| zah rfl rfl rfl rfl rfl rfl tv <| zab rfl rfl rfl rfl rfl rfl tv <| zah rfl rfl rfl rfl rfl rfl tv <| zab rfl rfl rfl rfl rfl rfl tv <| zah rfl rfl rfl rfl rfl rfl tv <| zab rfl rfl rfl rfl rfl rfl tv <| zah rfl rfl rfl rfl rfl rfl tv <| zbi rfl (c119 x s.kind s.n s.m s.back hb hs) (.cons ((subP rfl)) (.cons ((.lit _)) (.cons ((.lit _)) (.cons ((.lit _)) (.cons ((.lit _)) .nil))))) rfl tv <| zac rfl rfl tv <| zas rfl rfl rfl tv <| zas rfl rfl rfl tv <| zaj rfl rfl rfl rfl rfl rfl rfl rfl tv <| zae rfl rfl tv <| zaf tv <| zad <| zaa <| zba 104 rfl rfl rfl rfl rfl rfl rfl rfl rfl rfl (zar hpar rfl) rfl rfl tv <| zab rfl rfl rfl rfl rfl rfl tv <| zah rfl rfl rfl rfl rfl rfl tv <| zbn 105 rfl rfl rfl (.shr _ _) rfl (zar hpar rfl) rfl rfl rfl rfl rfl (by simp [zbx, zbg]; omega) rfl tv <| zab rfl rfl rfl rfl rfl rfl tv <| zbl rfl rfl rfl rfl rfl rfl rfl tv <| zaf tv <| zad ?_
        refine zaa <| zab rfl rfl rfl rfl rfl rfl tv <| zah rfl rfl rfl rfl rfl rfl tv <| zac rfl rfl tv <| zam rfl rfl rfl rfl rfl rfl tv <| zcx rfl rfl rfl rfl rfl rfl (i := k) (by first | exact hk | (rw [zbg]; exact hk)) (by simp [zbx, zbg]; exact hkl) rfl tv <| zdx rfl rfl rfl (zbr hx) rfl (by exact lane_isP ((zcp x s.kind s.n s.m s.back).1)) rfl rfl rfl (set_lane w.lanes k x ((zcp x s.kind s.n s.m s.back).1)) tv <| zaf tv <| zad <| zaa <| zam rfl rfl rfl rfl rfl rfl tv <| zac rfl rfl tv <| zaj rfl rfl rfl rfl rfl rfl rfl rfl tv <| zae rfl rfl tv <| zaf tv <| zaw ?_
        rw [ds_own (by omega) h22 hk hx, sl_packet h68]
        refine fin' [] (.inr rfl) (.cons (.cellN rfl rfl rfl rfl rfl) (.cons (.tmp rfl (nb rfl)) .nil)) (zay [] rfl rfl ⟨⟨_, rfl, (.tup _ _ (.cons (.agg _ _ (.cons (zcd rfl (fzL rfl) ?_) (.cons (subI ?_) .nil))) (.cons (subI ?_) .nil)))⟩, tv⟩ tv (zaz rfl rfl))
        all_goals (try rfl)
end Go.Proofs.Ytaadloihphpdbaa
