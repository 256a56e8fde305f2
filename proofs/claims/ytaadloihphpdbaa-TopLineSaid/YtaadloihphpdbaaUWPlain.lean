/- Walks of messages: how they are compared. Printed by a small program (walk.py). -/
import Derived.Test.YtaadloihphpdbaaUVcB
import Derived.Test.YtaadloihphpdbaaUPModel
import Derived.Test.YtaadloihphpdbaaUVcTab
set_option linter.unusedVariables false
set_option linter.unusedSimpArgs false
set_option maxRecDepth 4000
namespace Go.Proofs.Ytaadloihphpdbaa
open Go Go.Vc Go.RowKit
theorem c135 (a b : List UInt8) : VFun G 135 [.shr 1 (byteCells a), .shr 1 (byteCells b)] [] (.lit (.bool (a == b))) [] := by
 refine VFun.intro (fn := Try.f135) rfl rfl (by kernel_rfl) (nb rfl) fun Γ hpar => ?_
 refine zac <| vw_len (t := 0) rfl fun hl => ?_
 rw [byteCells_length] at hl
 refine zaa <| zad rfl rfl tv <| zaf tv <| zac <| zac <| zaa <| zae rfl rfl tv <| zcs rfl rfl rfl tv <| zae rfl rfl tv <| zcs rfl rfl rfl tv <| zfe rfl rfl rfl tv (fun h10 => ?_) (fun h10 => ?_)
 ·refine zaf tv <| zas rfl <| zac ?_
  simp only [byteCells_length] at h10
  refine zaa <| zad rfl rfl tv <| zaf tv <| zav <| fin0 (.inr rfl) (.cons (.tmp rfl (nb rfl)) .nil) (subB ?_)
  ·refine beq_eq_false_iff_ne.2 (fun e => h10 (by rw [e]))
 ·refine zaf tv <| zau rfl <| zbd <| zac <| zac ?_
  simp only [byteCells_length] at h10
  have hab : a.length = b.length := by omega
  refine zaa <| zae rfl rfl tv <| zcs rfl rfl rfl tv <| zae rfl rfl tv <| zaf tv <| zaz <| zbx (fun n_ E => ∃ (i : Nat), ((i ≤ a.length) ∧ (a.take i = b.take i)) ∧ n_ = a.length - i ∧ E = ⟨[(0, .shr 1 (byteCells a)), (1, .shr 1 (byteCells b)), (12, .lit (.int .i64 (byteCells a).length)), (13, .lit (.int .i64 i))], [], 26⟩) (n0 := _) (E0 := _) (⟨0, by exact ⟨Nat.zero_le _, rfl⟩, rfl, rfl⟩) (ren []) (zaw [] rfl rfl ⟨⟨_, rfl, (.shr _ _)⟩, ⟨_, rfl, (.shr _ _)⟩, ⟨_, rfl, (.lit _)⟩, ⟨_, rfl, (.lit _)⟩, tv⟩ tv (zax hpar rfl)) (fun n_ E hR => ?_)
  obtain ⟨i, hI, rfl, rfl⟩ := hR
  obtain ⟨hI0, hI1⟩ := hI
  refine zac <| zaa <| zcm rfl rfl rfl tv (fun h14 => ?_) (fun h14 => ?_)
  ·refine zaf tv <| zac <| zas rfl <| zbd <| zac <| zaz <| zac <| zaa <| zae rfl rfl tv <| zad rfl rfl tv <| zaf tv <| zac ?_
   rw [byteCells_length] at h14
   refine zcb <| zae rfl rfl tv <| zae rfl rfl tv <| zbz rfl rfl rfl rfl rfl rfl (zey (by omega)) rfl tv <| zcr rfl rfl rfl rfl rfl tv <| zae rfl rfl tv <| zae rfl rfl tv <| zbz rfl rfl rfl rfl rfl rfl (zey (by omega)) rfl tv <| zcr rfl rfl rfl rfl rfl tv <| zfe rfl rfl rfl tv (fun h24 => ?_) (fun h24 => ?_)
   ·refine zaf (by kernel_rfl) <| zas rfl <| zac <| zaa <| zad rfl rfl tv <| zaf tv <| zav <| fin0 (.inr rfl) (.cons (.tmp rfl (nb rfl)) .nil) (subB ?_)
    ·refine beq_eq_false_iff_ne.2 (fun e => ?_)
     subst e
     exact h24 rfl
   ·refine zaf (by kernel_rfl) <| zau rfl <| zbd <| zaa <| zcg rfl rfl rfl (by unfold inI; omega) rfl tv <| zae rfl rfl tv <| zaf tv <| ⟨_, _, ren [], ?_, ⟨i + 1, ?_, rfl, rfl⟩, zaw [] rfl rfl ⟨⟨_, rfl, (.shr _ _)⟩, ⟨_, rfl, (.shr _ _)⟩, ⟨_, rfl, (.lit _)⟩, ⟨_, rfl, (.lit _)⟩, tv⟩ tv (zax hpar rfl)⟩
    ·omega
    ·refine ⟨by omega, ?_⟩
     rw [List.take_add_one, List.take_add_one, hI1, List.getElem?_eq_getElem (by omega), List.getElem?_eq_getElem (by omega)]
     rw [UInt8.toNat_inj.1 (Int.ofNat.inj h24)]
  ·refine zaf tv <| zac <| zau rfl <| zcc <| iteP rfl <| zac ?_
   rw [byteCells_length] at h14
   refine zaa <| zad rfl rfl tv <| zaf tv <| zav <| fin0 (.inr rfl) (.cons (.tmp rfl (nb rfl)) .nil) (subB ?_)
   ·refine beq_iff_eq.2 ?_
    rw [List.take_of_length_le (by omega), List.take_of_length_le (by omega)] at hI1
    exact hI1
theorem c61 (m n : Msg) : VFun G 61 [.agg [.lit (.int .i64 m.1), .shr 1 (byteCells m.2)], .agg [.lit (.int .i64 n.1), .shr 1 (byteCells n.2)]] [] (.lit (.bool (m == n))) [] := by
 refine VFun.intro (fn := Try.f61) rfl rfl (by kernel_rfl) (nb rfl) fun Γ hpar => ?_
 refine zac <| zaa <| zeb 100 rfl rfl rfl (zar hpar rfl) rfl rfl tv <| zeb 101 rfl rfl rfl (zar hpar rfl) rfl rfl tv <| zad rfl rfl tv <| zaf tv <| zac <| zaa <| zab rfl rfl rfl rfl rfl rfl tv <| zak rfl rfl rfl rfl rfl rfl tv <| zab rfl rfl rfl rfl rfl rfl tv <| zak rfl rfl rfl rfl rfl rfl tv <| zew rfl rfl rfl tv (fun h9 => ?_) (fun h9 => ?_)
 ·refine zae rfl rfl tv <| zab rfl rfl rfl rfl rfl rfl (gk rfl) <| zak rfl rfl rfl rfl rfl rfl (gk rfl) <| zab rfl rfl rfl rfl rfl rfl (gk rfl) <| zak rfl rfl rfl rfl rfl rfl (gk rfl) <| zbo rfl (c135 _ _) (.cons ((.shr _ _)) (.cons ((.shr _ _)) .nil)) rfl (gk rfl) <| zbk rfl rfl rfl tv <| zad rfl rfl tv <| zaf tv <| zav <| fin0 (.inr rfl) (.cons (.tmp rfl (nb rfl)) .nil) (subB ?_)
  ·exact Bool.eq_iff_iff.2 (by simp [Prod.ext_iff, h9])
 ·refine zae rfl rfl tv <| zal rfl rfl rfl rfl rfl <| zal rfl rfl rfl rfl rfl <| zal rfl rfl rfl rfl rfl <| zal rfl rfl rfl rfl rfl <| zal rfl rfl rfl rfl rfl <| zbh rfl rfl rfl tv <| zad rfl rfl tv <| zaf tv <| zav <| fin0 (.inr rfl) (.cons (.tmp rfl (nb rfl)) .nil) (subB ?_)
  ·exact Bool.eq_iff_iff.2 (by simp [Prod.ext_iff, h9])
theorem c136a (K : Nat) : VFun G 136 [.lit (.slice none 0 0)] [] (.row K) [(K, .row 5 1 (byteCells []))] := by
 refine VFun.intro (fn := Try.f136) rfl rfl (by kernel_rfl) (nb rfl) fun Γ hpar => ?_
 refine zac <| zaa <| zad rfl rfl tv <| zaf tv <| zac <| zac <| zaa <| zae rfl rfl tv <| u_eqlNil rfl rfl rfl rfl tv <| zaf tv <| zas rfl <| zac <| zaa <| zad rfl rfl tv <| zaf tv <| zav <| fin1n (.inr rfl) (.cons (.tmp rfl (nb rfl)) .nil) ?_ (subRowN)
 ·rfl
theorem c136b (K : Nat) (b : UInt8) (r : List UInt8) : VFun G 136 [.shr 1 (byteCells (b :: r))] [] (.row K) [(K, .row 5 1 (byteCells (b :: r)))] := by
 refine VFun.intro (fn := Try.f136) rfl rfl (by kernel_rfl) (nb rfl) fun Γ hpar => ?_
 refine zac <| vw_len (t := 0) rfl fun hl => ?_
 refine zaa <| zad rfl rfl tv <| zaf tv <| zac <| zac <| zaa <| zae rfl rfl tv <| u_eqlNilC rfl rfl rfl rfl tv <| zaf tv <| zau rfl <| zbd <| zac <| zaa <| zba 100 rfl rfl rfl rfl rfl rfl rfl rfl rfl rfl (zar hpar rfl) rfl rfl tv <| zae rfl rfl tv <| zbt 101 rfl rfl rfl (.shr _ _) rfl (zar hpar rfl) rfl rfl rfl rfl rfl (by have h1 := hl; rw [byteCells_length] at h1; simp only [byteCells_length, zby, List.map_nil, List.length_nil]; omega) rfl tv <| zad rfl rfl tv <| zaf tv <| zav <| fin1 (.inr rfl) (.cons (.tmp rfl (nb rfl)) .nil) rfl ?_ (subRow)
 ·rfl
theorem c136c (K : Nat) (p : Addr) (cap : Nat) : VFun G 136 [.lit (.slice (some p) 0 cap)] [] (.row K) [(K, .row 5 1 (byteCells []))] := by
 refine VFun.intro (fn := Try.f136) rfl rfl (by kernel_rfl) (nb rfl) fun Γ hpar => ?_
 refine zac <| zaa <| zad rfl rfl tv <| zaf tv <| zac <| zac <| zaa <| zae rfl rfl tv <| u_eqlNil rfl rfl rfl rfl tv <| zaf tv <| zau rfl <| zbd <| zac <| zaa <| zba 100 rfl rfl rfl rfl rfl rfl rfl rfl rfl rfl (zar hpar rfl) rfl rfl tv <| zae rfl rfl tv <| u_append0 101 rfl rfl rfl rfl (zar hpar rfl) rfl rfl rfl rfl rfl (by decide) rfl tv <| zad rfl rfl tv <| zaf tv <| zav <| fin1 (.inr rfl) (.cons (.tmp rfl (nb rfl)) .nil) rfl ?_ (subRow)
 ·rfl
theorem c136 (K : Nat) (bs : List UInt8) : VFun G 136 [.shr 1 (byteCells bs)] [] (.row K) [(K, .row 5 1 (byteCells bs))] := by
  refine VFun.nilcase (fun h => ?_) (fun u us h => ?_) (fun h p cap => ?_)
  · have : bs = [] := by simpa [byteCells] using h
    subst this; exact c136a K
  · cases bs with
    | nil => cases h
    | cons b r => cases h; exact c136b K b r
  · have : bs = [] := by simpa [byteCells] using h
    subst this; exact c136c K p cap
theorem c64 (l : List Msg) (s : Int) (hl : l.length ≤ 4398046511000) : VFun G 64 [.shr 2 (zaq l), .lit (.int .i64 s)] [] (.shr 2 (zaq (zbu s l))) [] := by
 refine VFun.intro (fn := Try.f64) rfl rfl (by kernel_rfl) (nb rfl) fun Γ hpar => ?_
 refine zac <| zaa <| zad rfl rfl tv <| zaf tv <| zac <| zaa <| zad rfl rfl tv <| zaf tv <| zac <| zac <| zaa <| zae rfl rfl tv <| zcs rfl rfl rfl tv <| zae rfl rfl tv <| zaf tv <| zaz <| zbx (fun n_ E => ∃ (i : Nat), ((i ≤ l.length)) ∧ n_ = l.length - i ∧ E = ⟨[(1, .lit (.int .i64 s)), (8, .shr 2 (zaq l)), (9, .lit (.int .i64 (zaq l).length)), (10, .lit (.int .i64 i)), (5, .row 5)], [(5, .row 48 2 (zaq (zbu s (l.take i))))], 29⟩) (n0 := _) (E0 := _) (⟨0, by omega, rfl, rfl⟩) (ren []) (zaw [] rfl rfl ⟨⟨_, rfl, (.lit _)⟩, ⟨_, rfl, (.shr _ _)⟩, ⟨_, rfl, (.lit _)⟩, ⟨_, rfl, (.lit _)⟩, ⟨_, rfl, .nilrow _ _ _ _ rfl rfl⟩, tv⟩ ⟨(.inr (.inl ⟨rfl, rfl⟩)), tv⟩ (zax hpar rfl)) (fun n_ E hR => ?_)
 obtain ⟨i, hI, rfl, rfl⟩ := hR
 have hI0 := hI
 refine zac <| zaa <| zcm rfl rfl rfl tv (fun h11 => ?_) (fun h11 => ?_)
 ·refine zaf tv <| zac <| zas rfl <| zbd <| zac <| zaz <| zac ?_
  rw [zap] at h11
  refine zaa <| zbz rfl rfl rfl rfl rfl rfl (msgCells_get (by omega)) rfl tv <| zdi rfl rfl rfl rfl rfl tv <| zbf 120 rfl rfl (zar hpar rfl) rfl rfl tv <| zah rfl rfl rfl rfl rfl rfl rfl rfl tv <| zaf tv <| zac <| zaa <| zab rfl rfl rfl rfl rfl rfl tv <| zak rfl rfl rfl rfl rfl rfl tv <| zae rfl rfl tv <| zew rfl rfl rfl tv (fun h17 => ?_) (fun h17 => ?_)
  ·refine zaf tv <| zas rfl <| zcb <| zae rfl rfl tv <| zab rfl rfl rfl rfl rfl rfl tv <| zak rfl rfl rfl rfl rfl rfl tv <| zab rfl rfl rfl rfl rfl rfl tv <| zak rfl rfl rfl rfl rfl rfl tv <| zbo rfl (VFun.read (c136 0 _)) (.cons ((.shr _ _)) .nil) rfl tv <| zch rfl rfl rfl rfl rfl tv <| zba 121 rfl rfl rfl rfl rfl rfl rfl rfl rfl rfl (zar hpar rfl) rfl rfl tv <| zbt 122 rfl rfl rfl (zct rfl) rfl (zar hpar rfl) rfl rfl rfl rfl rfl (by have h1 := ofStream_len s (l.take i); rw [List.length_take] at h1; rw [zap]; simp [zby]; omega) rfl tv <| zad rfl rfl tv <| zaf (by kernel_rfl) <| zaa <| zcg rfl rfl rfl (by unfold inI; omega) rfl tv <| zae rfl rfl tv <| zaf tv <| ⟨_, _, ren [(5, 122)], ?_, ⟨i + 1, ?_, rfl, rfl⟩, zaw [(5, 122)] rfl rfl ⟨⟨_, rfl, (.lit _)⟩, ⟨_, rfl, (.shr _ _)⟩, ⟨_, rfl, (.lit _)⟩, ⟨_, rfl, (.lit _)⟩, ⟨_, rfl, (.row _ _ rfl (zag rfl))⟩, tv⟩ ⟨(.inl ⟨_, rfl, zbr rfl (by rw [ofStreamY (by omega) h17, zej]; rfl)⟩), tv⟩ (zax hpar rfl)⟩
   ·omega
   ·omega
  ·refine zaf tv <| zau rfl <| zbd <| zaa <| zcg rfl rfl rfl (by unfold inI; omega) rfl tv <| zae rfl rfl tv <| zaf tv <| ⟨_, _, ren [(5, 5)], ?_, ⟨i + 1, ?_, rfl, rfl⟩, zaw [(5, 5)] rfl rfl ⟨⟨_, rfl, (.lit _)⟩, ⟨_, rfl, (.shr _ _)⟩, ⟨_, rfl, (.lit _)⟩, ⟨_, rfl, (.lit _)⟩, ⟨_, rfl, (.row _ _ rfl (zag rfl))⟩, tv⟩ ⟨(.inl ⟨_, rfl, zbr rfl (by rw [ofStreamN (by omega) h17])⟩), tv⟩ (zax hpar rfl)⟩
   ·omega
   ·omega
 ·refine zaf tv <| zac <| zau rfl <| zcc <| iteP rfl <| zac ?_
  rw [zap] at h11
  refine zaa <| zae rfl rfl tv <| zad rfl rfl tv <| zaf tv <| zav <| fin0 (.inr rfl) (.cons (.tmp rfl (nb rfl)) .nil) (zbn rfl (fzL rfl) ?_)
  ·rw [List.take_of_length_le (by omega)]
theorem c137 (a b : List Msg) : VFun G 137 [.shr 2 (zaq a), .shr 2 (zaq b), .clo 61 []] [] (.lit (.bool (a == b))) [] := by
 refine VFun.intro (fn := Try.f137) rfl rfl (by kernel_rfl) (nb rfl) fun Γ hpar => ?_
 refine zac <| vw_len (t := 0) rfl fun hl => ?_
 rw [zap] at hl
 refine zaa <| zad rfl rfl tv <| zaf tv <| zac <| zac <| zaa <| zae rfl rfl tv <| zcs rfl rfl rfl tv <| zae rfl rfl tv <| zcs rfl rfl rfl tv <| zfe rfl rfl rfl tv (fun h14 => ?_) (fun h14 => ?_)
 ·refine zaf tv <| zas rfl <| zac ?_
  simp only [zap] at h14
  refine zaa <| zad rfl rfl tv <| zaf tv <| zav <| fin0 (.inr rfl) (.cons (.tmp rfl (nb rfl)) .nil) (subB ?_)
  ·refine beq_eq_false_iff_ne.2 (fun e => h14 (by rw [e]))
 ·refine zaf tv <| zau rfl <| zbd <| zac <| zac ?_
  simp only [zap] at h14
  have hab : a.length = b.length := by omega
  refine zaa <| zae rfl rfl tv <| zcs rfl rfl rfl tv <| zae rfl rfl tv <| zaf tv <| zaz <| zbx (fun n_ E => ∃ (i : Nat), ((i ≤ a.length) ∧ (a.take i = b.take i)) ∧ n_ = a.length - i ∧ E = ⟨[(1, .shr 2 (zaq b)), (2, .clo 61 []), (15, .shr 2 (zaq a)), (16, .lit (.int .i64 (zaq a).length)), (17, .lit (.int .i64 i))], [], 32⟩) (n0 := _) (E0 := _) (⟨0, by exact ⟨Nat.zero_le _, rfl⟩, rfl, rfl⟩) (ren []) (zaw [] rfl rfl ⟨⟨_, rfl, (.shr _ _)⟩, ⟨_, rfl, (.clo _ _ _ .nil)⟩, ⟨_, rfl, (.shr _ _)⟩, ⟨_, rfl, (.lit _)⟩, ⟨_, rfl, (.lit _)⟩, tv⟩ tv (zax hpar rfl)) (fun n_ E hR => ?_)
  obtain ⟨i, hI, rfl, rfl⟩ := hR
  obtain ⟨hI0, hI1⟩ := hI
  refine zac <| zaa <| zcm rfl rfl rfl tv (fun h18 => ?_) (fun h18 => ?_)
  ·refine zaf tv <| zac <| zas rfl <| zbd <| zac <| zaz <| zac ?_
   rw [zap] at h18
   refine zaa <| zae rfl rfl tv <| zbz rfl rfl rfl rfl rfl rfl (msgCells_get (by omega)) rfl tv <| zdi rfl rfl rfl rfl rfl tv <| zbf 120 rfl rfl (zar hpar rfl) rfl rfl tv <| zad rfl rfl tv <| zah rfl rfl rfl rfl rfl rfl rfl rfl tv <| zaf tv <| zac <| zaa <| zae rfl rfl tv <| zae rfl rfl tv <| zbz rfl rfl rfl rfl rfl rfl (msgCells_get (by omega)) rfl tv <| zdi rfl rfl rfl rfl rfl tv <| zbf 121 rfl rfl (zar hpar rfl) rfl rfl tv <| zah rfl rfl rfl rfl rfl rfl rfl rfl tv <| zaf tv <| zac <| zaa <| zae rfl rfl tv <| zan rfl rfl rfl rfl rfl rfl tv <| zan rfl rfl rfl rfl rfl rfl tv <| u_callVF rfl rfl (c61 (a[i]'(by omega)) (b[i]'(by omega))) (.cons ((subP rfl)) (.cons ((subP rfl)) .nil)) rfl tv <| u_not rfl rfl tv <| zaf tv <| vw_cond rfl (fun hc1 => ?_) (fun hc1 => ?_)
   ·refine zac <| zaa <| zad rfl rfl tv <| zaf tv <| zav <| fin0 (.inr rfl) (.cons (.tmp rfl (nb rfl)) .nil) (subB ?_)
    ·refine beq_eq_false_iff_ne.2 (fun e => ?_)
     subst e
     simp at hc1
   ·refine zbd <| zaa <| zcg rfl rfl rfl (by unfold inI; omega) rfl tv <| zae rfl rfl tv <| zaf tv <| ⟨_, _, ren [], ?_, ⟨i + 1, ?_, rfl, rfl⟩, zaw [] rfl rfl ⟨⟨_, rfl, (.shr _ _)⟩, ⟨_, rfl, (.clo _ _ _ .nil)⟩, ⟨_, rfl, (.shr _ _)⟩, ⟨_, rfl, (.lit _)⟩, ⟨_, rfl, (.lit _)⟩, tv⟩ tv (zax hpar rfl)⟩
    ·omega
    ·refine ⟨by omega, ?_⟩
     rw [List.take_add_one, List.take_add_one, hI1, List.getElem?_eq_getElem (by omega), List.getElem?_eq_getElem (by omega)]
     rw [beq_iff_eq.1 (show (a[i] == b[i]) = true by simpa using hc1)]
  ·refine zaf tv <| zac <| zau rfl <| zcc <| iteP rfl <| zac ?_
   rw [zap] at h18
   refine zaa <| zad rfl rfl tv <| zaf tv <| zav <| fin0 (.inr rfl) (.cons (.tmp rfl (nb rfl)) .nil) (subB ?_)
   ·refine beq_iff_eq.2 ?_
    rw [List.take_of_length_le (by omega), List.take_of_length_le (by omega)] at hI1
    exact hI1
theorem c66 (t p : List Msg) (ht : t.length ≤ 4398046511000) (hp : p.length ≤ 4398046511000) : VFun G 66 [.shr 2 (zaq t), .shr 2 (zaq p)] [] (.lit (.bool (fits t p))) [] := by
 refine VFun.intro (fn := Try.f66) rfl rfl (by kernel_rfl) (nb rfl) fun Γ hpar => ?_
 refine zac <| zaa <| zad rfl rfl tv <| zaf tv <| zac <| zac <| zaa <| zae rfl rfl tv <| zaf tv <| zaz <| zbx (fun n_ E => ∃ (i : Nat), ((i ≤ 3) ∧ (∀ j : Nat, j < i → fits1 (j : Int) t p = true)) ∧ n_ = 3 - i ∧ E = ⟨[(0, .shr 2 (zaq t)), (1, .shr 2 (zaq p)), (8, .lit (.int .i64 i))], [], 35⟩) (n0 := _) (E0 := _) (⟨0, by exact ⟨by decide, fun j hj => absurd hj (Nat.not_lt_zero _)⟩, rfl, rfl⟩) (ren []) (zaw [] rfl rfl ⟨⟨_, rfl, (.shr _ _)⟩, ⟨_, rfl, (.shr _ _)⟩, ⟨_, rfl, (.lit _)⟩, tv⟩ tv (zax hpar rfl)) (fun n_ E hR => ?_)
 obtain ⟨i, hI, rfl, rfl⟩ := hR
 obtain ⟨hI0, hI1⟩ := hI
 refine zac <| zaa <| zcm rfl rfl rfl tv (fun h9 => ?_) (fun h9 => ?_)
 ·refine zaf tv <| zac <| zas rfl <| zbd <| zac <| zaz <| zac <| zaa <| zae rfl rfl tv <| zad rfl rfl tv <| zaf tv <| zac <| zaa <| zae rfl rfl tv <| zae rfl rfl tv <| zbo rfl (c64 _ _ (by omega)) (.cons ((.shr _ _)) (.cons ((.lit _)) .nil)) rfl tv <| zae rfl rfl tv <| zae rfl rfl tv <| zbo rfl (c64 _ _ (by omega)) (.cons ((.shr _ _)) (.cons ((.lit _)) .nil)) rfl tv <| zad rfl rfl tv <| zad rfl rfl tv <| zaf tv <| zac <| zaa <| zae rfl rfl tv <| zcs rfl rfl rfl tv <| zae rfl rfl tv <| zcs rfl rfl rfl tv <| s_gtr rfl rfl rfl tv (fun h21 => ?_) (fun h21 => ?_)
  ·refine zae rfl rfl tv <| zal rfl rfl rfl rfl rfl <| zal rfl rfl rfl rfl rfl <| zal rfl rfl rfl rfl rfl <| zal rfl rfl rfl rfl rfl <| zal rfl rfl rfl rfl rfl <| zal rfl rfl rfl rfl rfl <| zal rfl rfl rfl rfl rfl <| zal rfl rfl rfl rfl rfl <| zal rfl rfl rfl rfl rfl <| zal rfl rfl rfl rfl rfl <| zbk rfl rfl rfl tv <| zaf tv <| zas rfl <| zac <| zaa <| zad rfl rfl tv <| zaf tv <| zav <| fin0 (.inr rfl) (.cons (.tmp rfl (nb rfl)) .nil) (subB ?_)
   ·simp only [zap] at h21
    exact fitsN (i := i) (by omega) (by unfold fits1; rw [decide_eq_false (by omega)]; rfl)
  ·refine zae rfl rfl tv <| zae rfl rfl (gk rfl) <| zae rfl rfl (gk rfl) <| zae rfl rfl (gk rfl) <| zcs rfl rfl rfl (gk rfl) <| zae rfl rfl (gk rfl) <| zcs rfl rfl rfl (gk rfl) <| u_min rfl rfl rfl (gk rfl) <| u_sliceHi (zbu i t).length rfl rfl (by simp only [zap] at h21 ⊢; rw [if_neg (by omega)]) (by simp only [zap] at h21 ⊢; omega) rfl rfl rfl rfl (gk rfl) <| s_call [] rfl (c137 (zbu i t) ((zbu i p).take (zbu i t).length)) (.cons ((.shr _ _)) (.cons (subS (msgCells_take _ _).symm) (.cons ((.clo _ _ _ .nil)) .nil))) (fun k o h => by simp [Go.Vc.look] at h) rfl (gk rfl) (fun h31 => ?_) (fun h31 => ?_)
   ·refine u_not rfl rfl (gk rfl) <| zbh rfl rfl rfl tv <| zaf tv <| zau rfl <| zbd <| zaa <| zcg rfl rfl rfl (by unfold inI; omega) rfl tv <| zae rfl rfl tv <| zaf tv <| ⟨_, _, ren [], ?_, ⟨i + 1, ?_, rfl, rfl⟩, zaw [] rfl rfl ⟨⟨_, rfl, (.shr _ _)⟩, ⟨_, rfl, (.shr _ _)⟩, ⟨_, rfl, (.lit _)⟩, tv⟩ tv (zax hpar rfl)⟩
    ·omega
    ·refine ⟨by omega, fun j hj => ?_⟩
     rcases Nat.lt_or_ge j i with h | h
     · exact hI1 j h
     · simp only [zap] at h21
       rw [show j = i by omega]; unfold fits1; rw [decide_eq_true (by omega), h31]; rfl
   ·refine u_not rfl rfl (gk rfl) <| zbh rfl rfl rfl tv <| zaf tv <| zas rfl <| zac <| zaa <| zad rfl rfl tv <| zaf tv <| zav <| fin0 (.inr rfl) (.cons (.tmp rfl (nb rfl)) .nil) (subB ?_)
    ·refine fitsN (i := i) (by omega) ?_
     unfold fits1; rw [h31, Bool.and_false]
 ·refine zaf tv <| zac <| zau rfl <| zcc <| iteP rfl <| zac <| zaa <| zad rfl rfl tv <| zaf tv <| zav <| fin0 (.inr rfl) (.cons (.tmp rfl (nb rfl)) .nil) (subB ?_)
  ·exact fitsY fun j hj => hI1 j (by omega)
theorem c68 (t p : List Msg) (ht : t.length ≤ 4398046511000) (hp : p.length ≤ 4398046511000) : VFun G 68 [.shr 2 (zaq t), .shr 2 (zaq p)] [] (.lit (.bool (fits t p && decide (t.length = p.length)))) [] := by
 refine VFun.intro (fn := Try.f68) rfl rfl (by kernel_rfl) (nb rfl) fun Γ hpar => ?_
 refine zac <| zaa <| zad rfl rfl tv <| zaf tv <| zac <| zaa <| zae rfl rfl tv <| zae rfl rfl tv <| s_call [] rfl (c66 _ _ (by omega) (by omega)) (.cons ((.shr _ _)) (.cons ((.shr _ _)) .nil)) (fun k o h => by simp [Go.Vc.look] at h) rfl tv (fun h7 => ?_) (fun h7 => ?_)
 ·refine zae rfl rfl tv <| zae rfl rfl (gk rfl) <| zcs rfl rfl rfl (gk rfl) <| zae rfl rfl (gk rfl) <| zcs rfl rfl rfl (gk rfl) <| u_eql rfl rfl rfl (gk rfl) <| zbk rfl rfl rfl tv <| zad rfl rfl tv <| zaf tv <| zav <| fin0 (.inr rfl) (.cons (.tmp rfl (nb rfl)) .nil) (subB ?_)
  ·rw [h7, Bool.true_and, zap, zap]; exact Bool.eq_iff_iff.2 (by simp; omega)
 ·refine zae rfl rfl tv <| zal rfl rfl rfl rfl rfl <| zal rfl rfl rfl rfl rfl <| zal rfl rfl rfl rfl rfl <| zal rfl rfl rfl rfl rfl <| zal rfl rfl rfl rfl rfl <| zbh rfl rfl rfl tv <| zad rfl rfl tv <| zaf tv <| zav <| fin0 (.inr rfl) (.cons (.tmp rfl (nb rfl)) .nil) (subB ?_)
  ·rw [h7]; rfl
end Go.Proofs.Ytaadloihphpdbaa
