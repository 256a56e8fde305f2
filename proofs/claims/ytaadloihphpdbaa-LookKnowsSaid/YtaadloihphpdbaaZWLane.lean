/- Walks. Printed by a small program (walk.py). -/
import Derived.Test.YtaadloihphpdbaaZWLaneH
set_option linter.unusedVariables false
set_option linter.unusedSimpArgs false
set_option maxRecDepth 4000
namespace Go.Proofs.Ytaadloihphpdbaa
open Go Go.Vc Go.RowKit
theorem c138 (P Q : zcw) : VFun G 138 [.shr 1 (zbc P), .shr 1 (zbc Q)] [] (.lit (.bool (P == Q))) [] := by
 refine VFun.intro (fn := Try.f138) rfl rfl (by kernel_rfl) (nb rfl) fun Γ hpar => ?_
 refine zad <| vw_len (t := 0) rfl fun hl => ?_
 rw [zan] at hl
 refine zaa <| zae rfl rfl tv <| zaf tv <| zad <| zad <| zaa <| zac rfl rfl tv <| zby rfl rfl rfl tv <| zac rfl rfl tv <| zby rfl rfl rfl tv <| zdg rfl rfl rfl tv (fun h10 => ?_) (fun h10 => ?_)
 ·refine zaf tv <| zao rfl <| zad ?_
  simp only [zan] at h10
  refine zaa <| zae rfl rfl tv <| zaf tv <| zaw <| fin0 (.inr rfl) (.cons (.tmp rfl (nb rfl)) .nil) (subB ?_)
  ·refine beq_eq_false_iff_ne.2 (fun e => h10 (by rw [e]))
 ·refine zaf tv <| zap rfl <| zax <| zad <| zad ?_
  simp only [zan] at h10
  have hab : P.length = Q.length := by omega
  refine zaa <| zac rfl rfl tv <| zby rfl rfl rfl tv <| zac rfl rfl tv <| zaf tv <| zbb <| zbt (fun n_ E => ∃ (i : Nat), ((i ≤ P.length) ∧ (P.take i = Q.take i)) ∧ n_ = P.length - i ∧ E = ⟨[(0, .shr 1 (zbc P)), (1, .shr 1 (zbc Q)), (12, .lit (.int .i64 (zbc P).length)), (13, .lit (.int .i64 i))], [], 28⟩) (n0 := _) (E0 := _) (⟨0, by exact ⟨Nat.zero_le _, rfl⟩, rfl, rfl⟩) (ren []) (zay [] rfl rfl ⟨⟨_, rfl, (.shr _ _)⟩, ⟨_, rfl, (.shr _ _)⟩, ⟨_, rfl, (.lit _)⟩, ⟨_, rfl, (.lit _)⟩, tv⟩ tv (zaz hpar rfl)) (fun n_ E hR => ?_)
  obtain ⟨i, hI, rfl, rfl⟩ := hR
  obtain ⟨hI0, hI1⟩ := hI
  refine zad <| zaa <| zcg rfl rfl rfl tv (fun h14 => ?_) (fun h14 => ?_)
  ·refine zaf tv <| zad <| zao rfl <| zax <| zad <| zbb <| zad <| zaa <| zac rfl rfl tv <| zae rfl rfl tv <| zaf tv <| zad ?_
   rw [zan] at h14
   refine zbo <| zac rfl rfl tv <| zac rfl rfl tv <| zbh rfl rfl rfl rfl rfl rfl (packCells_get (by omega)) rfl tv <| zbv rfl rfl rfl rfl rfl tv <| u_convT rfl (by rfl) rfl rfl rfl rfl tv <| zac rfl rfl tv <| zac rfl rfl tv <| zbh rfl rfl rfl rfl rfl rfl (packCells_get (by omega)) rfl tv <| zbv rfl rfl rfl rfl rfl tv <| u_convT rfl (by rfl) rfl rfl rfl rfl tv <| s_neqT rfl rfl rfl tv (fun h26 => ?_) (fun h26 => ?_)
   ·refine zaf (by kernel_rfl) <| zao rfl <| zad <| zaa <| zae rfl rfl tv <| zaf tv <| zaw <| fin0 (.inr rfl) (.cons (.tmp rfl (nb rfl)) .nil) (subB ?_)
    ·refine beq_eq_false_iff_ne.2 (fun e => ?_)
     subst e
     simp at h26
   ·refine zaf (by kernel_rfl) <| zap rfl <| zax <| zaa <| zbz rfl rfl rfl (by unfold inI; omega) rfl tv <| zac rfl rfl tv <| zaf tv <| ⟨_, _, ren [], ?_, ⟨i + 1, ?_, rfl, rfl⟩, zay [] rfl rfl ⟨⟨_, rfl, (.shr _ _)⟩, ⟨_, rfl, (.shr _ _)⟩, ⟨_, rfl, (.lit _)⟩, ⟨_, rfl, (.lit _)⟩, tv⟩ tv (zaz hpar rfl)⟩
    ·omega
    ·refine ⟨by omega, ?_⟩
     rw [List.take_add_one, List.take_add_one, hI1, List.getElem?_eq_getElem (by omega), List.getElem?_eq_getElem (by omega)]
     simp [bytesT] at h26
     rw [h26]
  ·refine zaf tv <| zad <| zap rfl <| zbw <| iteP rfl <| zad ?_
   rw [zan] at h14
   refine zaa <| zae rfl rfl tv <| zaf tv <| zaw <| fin0 (.inr rfl) (.cons (.tmp rfl (nb rfl)) .nil) (subB ?_)
   ·refine beq_iff_eq.2 ?_
    rw [List.take_of_length_le (by omega), List.take_of_length_le (by omega)] at hI1
    exact hI1
theorem c71 (l m : Lane) : VFun G 71 [.agg (zdu l), .agg (zdu m)] [] (.lit (.bool (l == m))) [] := by
 refine VFun.intro (fn := Try.f71) rfl rfl (by kernel_rfl) (nb rfl) fun Γ hpar => ?_
 refine zad <| zaa <| zdh 100 rfl rfl rfl (zar hpar rfl) rfl rfl tv <| zdh 101 rfl rfl rfl (zar hpar rfl) rfl rfl tv <| zae rfl rfl tv <| zaf tv <| zad <| zaa <| zab rfl rfl rfl rfl rfl rfl tv <| zds rfl rfl rfl rfl rfl rfl rfl tv <| zab rfl rfl rfl rfl rfl rfl tv <| zds rfl rfl rfl rfl rfl rfl rfl tv <| zdo [] rfl (c93 l.s m.s) (.cons ((subP rfl)) (.cons ((subP rfl)) .nil)) (fun k o h => by simp [Go.Vc.look] at h) rfl tv (fun h9 => ?_) (fun h9 => ?_)
 ·refine zac rfl rfl tv <| zab rfl rfl rfl rfl rfl rfl (gk rfl) <| zds rfl rfl rfl rfl rfl rfl rfl (gk rfl) <| zab rfl rfl rfl rfl rfl rfl (gk rfl) <| zds rfl rfl rfl rfl rfl rfl rfl (gk rfl) <| zdo [] rfl (c109 l.r m.r) (.cons ((subP rfl)) (.cons ((subP rfl)) .nil)) (fun k o h => by simp [Go.Vc.look] at h) rfl (gk rfl) (fun h15 => ?_) (fun h15 => ?_)
  ·refine zav rfl rfl rfl tv <| zac rfl rfl tv <| zab rfl rfl rfl rfl rfl rfl (gk rfl) <| zah rfl rfl rfl rfl rfl rfl (gk rfl) <| zab rfl rfl rfl rfl rfl rfl (gk rfl) <| zah rfl rfl rfl rfl rfl rfl (gk rfl) <| zdo [] rfl (c138 l.there m.there) (.cons ((.shr _ _)) (.cons ((.shr _ _)) .nil)) (fun k o h => by simp [Go.Vc.look] at h) rfl (gk rfl) (fun h22 => ?_) (fun h22 => ?_)
   ·refine zav rfl rfl rfl tv <| zac rfl rfl tv <| zab rfl rfl rfl rfl rfl rfl (gk rfl) <| zah rfl rfl rfl rfl rfl rfl (gk rfl) <| zab rfl rfl rfl rfl rfl rfl (gk rfl) <| zah rfl rfl rfl rfl rfl rfl (gk rfl) <| zbi rfl (c138 l.back m.back) (.cons ((.shr _ _)) (.cons ((.shr _ _)) .nil)) rfl (gk rfl) <| zav rfl rfl rfl tv <| zae rfl rfl tv <| zaf tv <| zaw <| fin' [] (.inr rfl) (.cons (.tmp rfl (nb rfl)) .nil) (zay [] rfl rfl ⟨⟨_, rfl, (subB ?_)⟩, tv⟩ tv (zaz rfl rfl))
    all_goals (try rfl)
    all_goals
      rw [lane_eq]
      simp_all
   ·refine zav rfl rfl rfl tv <| zac rfl rfl tv <| zag rfl rfl rfl rfl rfl <| zag rfl rfl rfl rfl rfl <| zag rfl rfl rfl rfl rfl <| zag rfl rfl rfl rfl rfl <| zag rfl rfl rfl rfl rfl <| zat rfl rfl rfl tv <| zae rfl rfl tv <| zaf tv <| zaw <| fin' [] (.inr rfl) (.cons (.tmp rfl (nb rfl)) .nil) (zay [] rfl rfl ⟨⟨_, rfl, (subB ?_)⟩, tv⟩ tv (zaz rfl rfl))
    all_goals (try rfl)
    all_goals
      rw [lane_eq]
      simp_all
  ·refine zav rfl rfl rfl tv <| zac rfl rfl tv <| zag rfl rfl rfl rfl rfl <| zag rfl rfl rfl rfl rfl <| zag rfl rfl rfl rfl rfl <| zag rfl rfl rfl rfl rfl <| zag rfl rfl rfl rfl rfl <| zat rfl rfl rfl tv <| zac rfl rfl tv <| zag rfl rfl rfl rfl rfl <| zag rfl rfl rfl rfl rfl <| zag rfl rfl rfl rfl rfl <| zag rfl rfl rfl rfl rfl <| zag rfl rfl rfl rfl rfl <| zat rfl rfl rfl tv <| zae rfl rfl tv <| zaf tv <| zaw <| fin' [] (.inr rfl) (.cons (.tmp rfl (nb rfl)) .nil) (zay [] rfl rfl ⟨⟨_, rfl, (subB ?_)⟩, tv⟩ tv (zaz rfl rfl))
   all_goals (try rfl)
   all_goals
     rw [lane_eq]
     simp_all
 ·refine zac rfl rfl tv <| zag rfl rfl rfl rfl rfl <| zag rfl rfl rfl rfl rfl <| zag rfl rfl rfl rfl rfl <| zag rfl rfl rfl rfl rfl <| zag rfl rfl rfl rfl rfl <| zat rfl rfl rfl tv <| zac rfl rfl tv <| zag rfl rfl rfl rfl rfl <| zag rfl rfl rfl rfl rfl <| zag rfl rfl rfl rfl rfl <| zag rfl rfl rfl rfl rfl <| zag rfl rfl rfl rfl rfl <| zat rfl rfl rfl tv <| zac rfl rfl tv <| zag rfl rfl rfl rfl rfl <| zag rfl rfl rfl rfl rfl <| zag rfl rfl rfl rfl rfl <| zag rfl rfl rfl rfl rfl <| zag rfl rfl rfl rfl rfl <| zat rfl rfl rfl tv <| zae rfl rfl tv <| zaf tv <| zaw <| fin' [] (.inr rfl) (.cons (.tmp rfl (nb rfl)) .nil) (zay [] rfl rfl ⟨⟨_, rfl, (subB ?_)⟩, tv⟩ tv (zaz rfl rfl))
  all_goals (try rfl)
  all_goals
    rw [lane_eq]
    simp_all
theorem c157 (l : Lane) (b : Bool) : VFun G 157 [.agg (zdu l), .lit (.bool b)] [] (.shr 1 (zbc (way l b))) [] := by
 refine VFun.intro (fn := Try.f157) rfl rfl (by kernel_rfl) (nb rfl) fun Γ hpar => ?_
 refine zad <| zaa <| zdh 100 rfl rfl rfl (zar hpar rfl) rfl rfl tv <| zae rfl rfl tv <| zaf tv <| zad <| zad <| zaa <| s_move rfl rfl tv (fun h5 => ?_) (fun h5 => ?_)
 ·refine zaf tv <| zao rfl <| zad <| zaa <| zab rfl rfl rfl rfl rfl rfl tv <| zah rfl rfl rfl rfl rfl rfl tv <| zae rfl rfl tv <| zaf tv <| zaw ?_
  subst h5
  refine fin' [] (.inr rfl) (.cons (.tmp rfl (nb rfl)) .nil) (zay [] rfl rfl ⟨⟨_, rfl, (subS ?_)⟩, tv⟩ tv (zaz rfl rfl))
  all_goals (try rfl)
 ·refine zaf tv <| zap rfl <| zax <| zad <| zaa <| zab rfl rfl rfl rfl rfl rfl tv <| zah rfl rfl rfl rfl rfl rfl tv <| zae rfl rfl tv <| zaf tv <| zaw ?_
  subst h5
  refine fin' [] (.inr rfl) (.cons (.tmp rfl (nb rfl)) .nil) (zay [] rfl rfl ⟨⟨_, rfl, (subS ?_)⟩, tv⟩ tv (zaz rfl rfl))
  all_goals (try rfl)
theorem c158 (l : Lane) (b : Bool) (P : zcw) : VFun G 158 [.agg (zdu l), .lit (.bool b), .shr 1 (zbc P)] [] (.agg (zdu (withP l b P))) [] := by
 refine VFun.intro (fn := Try.f158) rfl rfl (by kernel_rfl) (nb rfl) fun Γ hpar => ?_
 refine zad <| zaa <| zdh 100 rfl rfl rfl (zar hpar rfl) rfl rfl tv <| zbd 101 rfl rfl (zar hpar rfl) rfl rfl tv <| zaf tv <| zad <| zad <| zaa <| s_move rfl rfl tv (fun h7 => ?_) (fun h7 => ?_)
 ·refine zaf tv <| zao rfl <| zaa <| zac rfl rfl tv <| zab rfl rfl rfl rfl rfl rfl tv <| zbl rfl rfl rfl rfl rfl rfl rfl tv <| zaf tv <| zad <| zaa <| zam rfl rfl rfl rfl rfl rfl tv <| zaj rfl rfl rfl rfl rfl rfl rfl rfl tv <| zaf tv <| zaw ?_
  subst h7
  refine fin' [] (.inr rfl) (.cons (.cellN rfl rfl rfl rfl rfl) .nil) (zay [] rfl rfl ⟨⟨_, rfl, (.agg _ _ (.cons (subS ?_) (.cons (subI ?_) (.cons (subI ?_) (.cons (subI ?_) (.cons (subI ?_) (.cons (subS ?_) (.cons (subI ?_) (.cons (subI ?_) (.cons (subS ?_) (.cons (subI ?_) (.cons (subI ?_) (.cons (subI ?_) (.cons (subS ?_) (.cons (subS ?_) (.cons (subB ?_) (.cons (subS ?_) (.cons (subS ?_) .nil))))))))))))))))))⟩, tv⟩ tv (zaz rfl rfl))
  all_goals (try rfl)
 ·refine zaf tv <| zap rfl <| zaa <| zac rfl rfl tv <| zab rfl rfl rfl rfl rfl rfl tv <| zbl rfl rfl rfl rfl rfl rfl rfl tv <| zaf tv <| zad <| zaa <| zam rfl rfl rfl rfl rfl rfl tv <| zaj rfl rfl rfl rfl rfl rfl rfl rfl tv <| zaf tv <| zaw ?_
  subst h7
  refine fin' [] (.inr rfl) (.cons (.cellN rfl rfl rfl rfl rfl) .nil) (zay [] rfl rfl ⟨⟨_, rfl, (.agg _ _ (.cons (subS ?_) (.cons (subI ?_) (.cons (subI ?_) (.cons (subI ?_) (.cons (subI ?_) (.cons (subS ?_) (.cons (subI ?_) (.cons (subI ?_) (.cons (subS ?_) (.cons (subI ?_) (.cons (subI ?_) (.cons (subI ?_) (.cons (subS ?_) (.cons (subS ?_) (.cons (subB ?_) (.cons (subS ?_) (.cons (subS ?_) .nil))))))))))))))))))⟩, tv⟩ tv (zaz rfl rfl))
  all_goals (try rfl)
theorem c159 (P : zcw) (k : Nat) (hk : k < P.length) (hl : P.length ≤ 1000000) : VFun G 159 [.shr 1 (zbc P), .lit (.int .i64 k)] [] (.shr 1 (zbc (P.eraseIdx k))) [] := by
 refine VFun.intro (fn := Try.f159) rfl rfl (by kernel_rfl) (nb rfl) fun Γ hpar => ?_
 refine zad <| zaa <| zae rfl rfl tv <| zaf tv <| zad <| zbo <| zba 100 rfl rfl rfl rfl rfl rfl rfl rfl rfl rfl (zar hpar rfl) rfl rfl tv <| zac rfl rfl tv <| zac rfl rfl tv <| u_sliceHi k rfl rfl (by rfl) (by simp only [zan]; omega) rfl rfl rfl rfl tv <| zbn 101 rfl rfl rfl (.shr _ _) rfl (zar hpar rfl) rfl rfl rfl rfl rfl (by simp [zbx, zan]; omega) rfl tv <| zac rfl rfl tv <| zac rfl rfl tv <| zbz rfl rfl rfl (by unfold inI; omega) rfl tv <| zev (k + 1) rfl rfl (by omega) (by simp only [zan]; omega) rfl rfl rfl rfl tv <| zbn 102 rfl rfl rfl (.shr _ _) rfl (zar hpar rfl) rfl rfl rfl rfl rfl (by simp [zbx, zan]; omega) rfl tv <| zae rfl rfl tv <| zaf (by kernel_rfl) <| zaw <| fin' [] (.inr rfl) (.cons (.tmp rfl (nb rfl)) .nil) (zay [] rfl rfl ⟨⟨_, rfl, (zcd rfl (fzL rfl) ?_)⟩, tv⟩ tv (zaz rfl rfl))
 all_goals (try rfl)
 all_goals
   rw [erase_packs]; rfl
theorem c154 (P : zcw) (b : List UInt8) (hl : P.length ≤ 1000000) : VFun G 154 [.shr 1 (zbc P), .shr 1 (Vc.byteCells b)] [] (.shr 1 (zbc (putP P b))) [] := by
 refine VFun.intro (fn := Try.f154) rfl rfl (by kernel_rfl) (nb rfl) fun Γ hpar => ?_
 refine zad <| zaa <| zae rfl rfl tv <| zaf tv <| zad <| zad <| zaa <| zac rfl rfl tv <| zby rfl rfl rfl tv <| zdr rfl rfl rfl tv (fun h7 => ?_) (fun h7 => ?_)
 ·refine zaf tv <| zao rfl <| zad ?_
  rw [zan] at h7
  refine zaa <| zac rfl rfl tv <| zae rfl rfl tv <| zaf tv <| zaw <| fin' [] (.inr rfl) (.cons (.tmp rfl (nb rfl)) .nil) (zay [] rfl rfl ⟨⟨_, rfl, (subS ?_)⟩, tv⟩ tv (zaz rfl rfl))
  all_goals (try rfl)
  all_goals
    rw [putP_full (by omega)]
 ·refine zaf tv <| zap rfl <| zax <| zad ?_
  rw [zan] at h7
  refine zaa <| zba 100 rfl rfl rfl rfl rfl rfl rfl rfl rfl rfl (zar hpar rfl) rfl rfl tv <| zac rfl rfl tv <| zbn 101 rfl rfl rfl (.shr _ _) rfl (zar hpar rfl) rfl rfl rfl rfl rfl (by simp [zbx, zan]; omega) rfl tv <| zac rfl rfl tv <| zba 102 rfl rfl rfl rfl rfl rfl rfl rfl rfl rfl (zar hpar rfl) rfl rfl tv <| zbn 103 rfl rfl rfl (zdb rfl) rfl (zar hpar rfl) rfl rfl rfl rfl rfl (by simp [zbx, zan]; omega) rfl tv <| zae rfl rfl tv <| zaf tv <| zaw <| fin' [] (.inr rfl) (.cons (.tmp rfl (nb rfl)) .nil) (zay [] rfl rfl ⟨⟨_, rfl, (zcd rfl (fzL rfl) ?_)⟩, tv⟩ tv (zaz rfl rfl))
  all_goals (try rfl)
  all_goals
    rw [putP_room (by omega), zez]; rfl
theorem c117 (l : Lane) (hl : BInv l) : VFun G 117 [.agg (zdu l)] [] (.agg (zdu (zep l))) [] := by
 have h1 := said_len hl.s; have h2 := rsaid_len hl.r; have h3 := hl.there.1; have h4 := hl.back.1
 refine VFun.intro (fn := Try.f117) rfl rfl (by kernel_rfl) (nb rfl) fun Γ hpar => ?_
 refine zad <| zaa <| zdh 100 rfl rfl rfl (zar hpar rfl) rfl rfl tv <| zbd 101 rfl rfl (zar hpar rfl) rfl rfl tv <| zaf tv <| zad <| zaa <| zab rfl rfl rfl rfl rfl rfl tv <| zds rfl rfl rfl rfl rfl rfl rfl tv <| zbi rfl (c96' l.s hl.s) (.cons ((subP rfl)) .nil) rfl tv <| zac rfl rfl tv <| zas rfl rfl rfl tv <| zas rfl rfl rfl tv <| zas rfl rfl rfl tv <| zbd 102 rfl rfl (zar hpar rfl) rfl rfl tv <| zbd 103 rfl rfl (zar hpar rfl) rfl rfl tv <| zaj rfl rfl rfl rfl rfl rfl rfl rfl tv <| zaj rfl rfl rfl rfl rfl rfl rfl rfl tv <| zae rfl rfl tv <| zaf tv <| zad <| zaa <| zam rfl rfl rfl rfl rfl rfl tv <| zab rfl rfl rfl rfl rfl rfl tv <| zbl rfl rfl rfl rfl rfl rfl rfl tv <| zaf tv <| zad <| zad <| zaa <| s_move rfl rfl tv (fun h16 => ?_) (fun h16 => ?_)
 ·refine zaf tv <| zao rfl <| zbo <| zab rfl rfl rfl rfl rfl rfl tv <| zah rfl rfl rfl rfl rfl rfl tv <| zam rfl rfl rfl rfl rfl rfl tv <| zbi rfl (c84 (say l.s).2.1 (by omega) (by omega)) (.cons ((subP rfl)) .nil) rfl tv <| zbi rfl (c154 l.there (bytes (say l.s).2.1) (by omega)) (.cons ((.shr _ _)) (.cons ((.shr _ _)) .nil)) rfl tv <| zab rfl rfl rfl rfl rfl rfl tv <| zbl rfl rfl rfl rfl rfl rfl rfl tv <| zaf (by kernel_rfl) <| zad <| zaa <| zab rfl rfl rfl rfl rfl rfl tv <| zds rfl rfl rfl rfl rfl rfl rfl tv <| zbi rfl (c108 l.r) (.cons ((subP rfl)) .nil) rfl tv <| zac rfl rfl tv <| zas rfl rfl rfl tv <| zas rfl rfl rfl tv <| zas rfl rfl rfl tv <| zbd 104 rfl rfl (zar hpar rfl) rfl rfl tv <| zaj rfl rfl rfl rfl rfl rfl rfl rfl tv <| zaj rfl rfl rfl rfl rfl rfl rfl rfl tv <| zae rfl rfl tv <| zaf tv <| zad <| zaa <| zam rfl rfl rfl rfl rfl rfl tv <| zab rfl rfl rfl rfl rfl rfl tv <| zbl rfl rfl rfl rfl rfl rfl rfl tv ?_
  refine zaf tv <| zad <| zad <| zaa <| s_move rfl rfl tv (fun h32 => ?_) (fun h32 => ?_)
  ·refine zaf tv <| zao rfl <| zbo <| zab rfl rfl rfl rfl rfl rfl tv <| zah rfl rfl rfl rfl rfl rfl tv <| zam rfl rfl rfl rfl rfl rfl tv <| zbi rfl (c84 (rsay l.r).2.1 (by omega) (by omega)) (.cons ((subP rfl)) .nil) rfl tv <| zbi rfl (c154 l.back (bytes (rsay l.r).2.1) (by omega)) (.cons ((.shr _ _)) (.cons ((.shr _ _)) .nil)) rfl tv <| zab rfl rfl rfl rfl rfl rfl tv <| zbl rfl rfl rfl rfl rfl rfl rfl tv <| zaf (by kernel_rfl) <| zad <| zaa <| zam rfl rfl rfl rfl rfl rfl tv <| zaj rfl rfl rfl rfl rfl rfl rfl rfl tv <| zaf tv <| zaw ?_
   rw [speak_is h16 h32]
   refine fin' [] (.inr rfl) (.cons (.cellN rfl rfl rfl rfl rfl) .nil) (zay [] rfl rfl ⟨⟨_, rfl, (.agg _ _ (.cons (subS ?_) (.cons (subI ?_) (.cons (subI ?_) (.cons (subI ?_) (.cons (subI ?_) (.cons (subS ?_) (.cons (subI ?_) (.cons (subI ?_) (.cons (subS ?_) (.cons (subI ?_) (.cons (subI ?_) (.cons (subI ?_) (.cons (subS ?_) (.cons (subS ?_) (.cons (subB ?_) (.cons (subS ?_) (.cons (subS ?_) .nil))))))))))))))))))⟩, tv⟩ tv (zaz rfl rfl))
   all_goals (try rfl)
  ·refine zaf tv <| zap rfl <| zax <| zad <| zaa <| zam rfl rfl rfl rfl rfl rfl tv <| zaj rfl rfl rfl rfl rfl rfl rfl rfl tv <| zaf tv <| zaw ?_
   rw [speak_is h16 h32]
   refine fin' [] (.inr rfl) (.cons (.cellN rfl rfl rfl rfl rfl) .nil) (zay [] rfl rfl ⟨⟨_, rfl, (.agg _ _ (.cons (subS ?_) (.cons (subI ?_) (.cons (subI ?_) (.cons (subI ?_) (.cons (subI ?_) (.cons (subS ?_) (.cons (subI ?_) (.cons (subI ?_) (.cons (subS ?_) (.cons (subI ?_) (.cons (subI ?_) (.cons (subI ?_) (.cons (subS ?_) (.cons (subS ?_) (.cons (subB ?_) (.cons (subS ?_) (.cons (subS ?_) .nil))))))))))))))))))⟩, tv⟩ tv (zaz rfl rfl))
   all_goals (try rfl)
 ·refine zaf tv <| zap rfl <| zax <| zad <| zaa <| zab rfl rfl rfl rfl rfl rfl tv <| zds rfl rfl rfl rfl rfl rfl rfl tv <| zbi rfl (c108 l.r) (.cons ((subP rfl)) .nil) rfl tv <| zac rfl rfl tv <| zas rfl rfl rfl tv <| zas rfl rfl rfl tv <| zas rfl rfl rfl tv <| zbd 104 rfl rfl (zar hpar rfl) rfl rfl tv <| zaj rfl rfl rfl rfl rfl rfl rfl rfl tv <| zaj rfl rfl rfl rfl rfl rfl rfl rfl tv <| zae rfl rfl tv <| zaf tv <| zad <| zaa <| zam rfl rfl rfl rfl rfl rfl tv <| zab rfl rfl rfl rfl rfl rfl tv <| zbl rfl rfl rfl rfl rfl rfl rfl tv <| zaf tv <| zad <| zad <| zaa <| s_move rfl rfl tv (fun h32 => ?_) (fun h32 => ?_)
  ·refine zaf tv <| zao rfl <| zbo <| zab rfl rfl rfl rfl rfl rfl tv <| zah rfl rfl rfl rfl rfl rfl tv <| zam rfl rfl rfl rfl rfl rfl tv <| zbi rfl (c84 (rsay l.r).2.1 (by omega) (by omega)) (.cons ((subP rfl)) .nil) rfl tv <| zbi rfl (c154 l.back (bytes (rsay l.r).2.1) (by omega)) (.cons ((.shr _ _)) (.cons ((.shr _ _)) .nil)) rfl tv <| zab rfl rfl rfl rfl rfl rfl tv <| zbl rfl rfl rfl rfl rfl rfl rfl tv <| zaf (by kernel_rfl) <| zad <| zaa <| zam rfl rfl rfl rfl rfl rfl tv <| zaj rfl rfl rfl rfl rfl rfl rfl rfl tv <| zaf tv <| zaw ?_
   rw [speak_is h16 h32]
   refine fin' [] (.inr rfl) (.cons (.cellN rfl rfl rfl rfl rfl) .nil) (zay [] rfl rfl ⟨⟨_, rfl, (.agg _ _ (.cons (subS ?_) (.cons (subI ?_) (.cons (subI ?_) (.cons (subI ?_) (.cons (subI ?_) (.cons (subS ?_) (.cons (subI ?_) (.cons (subI ?_) (.cons (subS ?_) (.cons (subI ?_) (.cons (subI ?_) (.cons (subI ?_) (.cons (subS ?_) (.cons (subS ?_) (.cons (subB ?_) (.cons (subS ?_) (.cons (subS ?_) .nil))))))))))))))))))⟩, tv⟩ tv (zaz rfl rfl))
   all_goals (try rfl)
  ·refine zaf tv <| zap rfl <| zax <| zad <| zaa <| zam rfl rfl rfl rfl rfl rfl tv <| zaj rfl rfl rfl rfl rfl rfl rfl rfl tv <| zaf tv <| zaw ?_
   rw [speak_is h16 h32]
   refine fin' [] (.inr rfl) (.cons (.cellN rfl rfl rfl rfl rfl) .nil) (zay [] rfl rfl ⟨⟨_, rfl, (.agg _ _ (.cons (subS ?_) (.cons (subI ?_) (.cons (subI ?_) (.cons (subI ?_) (.cons (subI ?_) (.cons (subS ?_) (.cons (subI ?_) (.cons (subI ?_) (.cons (subS ?_) (.cons (subI ?_) (.cons (subI ?_) (.cons (subI ?_) (.cons (subS ?_) (.cons (subS ?_) (.cons (subB ?_) (.cons (subS ?_) (.cons (subS ?_) .nil))))))))))))))))))⟩, tv⟩ tv (zaz rfl rfl))
   all_goals (try rfl)
end Go.Proofs.Ytaadloihphpdbaa
