/- Walks of messages: how they are compared. Printed by a small program (walk.py). -/
import Derived.Test.YtaadloihphpdbaaZVcB
import Derived.Test.YtaadloihphpdbaaZPModel
import Derived.Test.YtaadloihphpdbaaZVcTab
set_option linter.unusedVariables false
set_option linter.unusedSimpArgs false
set_option maxRecDepth 4000
namespace Go.Proofs.Ytaadloihphpdbaa
open Go Go.Vc Go.RowKit
theorem c60 (m : Msg) : VFun G 60 [.agg [.lit (.int .i64 m.1), .shr 1 (byteCells m.2)]] [] (.lit (.int .i64 (zdt m))) [] := by
 refine VFun.intro (fn := Try.f60) rfl rfl (by kernel_rfl) (nb rfl) fun Γ hpar => ?_
 refine zad <| zaa <| zdh 100 rfl rfl rfl (zar hpar rfl) rfl rfl tv <| zae rfl rfl tv <| zaf tv <| zad <| zad <| zaa <| zab rfl rfl rfl rfl rfl rfl tv <| zah rfl rfl rfl rfl rfl rfl tv <| zcg rfl rfl rfl tv (fun h5 => ?_) (fun h5 => ?_)
 ·refine zac rfl rfl tv <| zag rfl rfl rfl rfl rfl <| zag rfl rfl rfl rfl rfl <| zag rfl rfl rfl rfl rfl <| zav rfl rfl rfl tv <| zaf tv <| zao rfl <| zad <| zaa <| zae rfl rfl tv <| zaf tv <| zaw <| fin0 (.inr rfl) (.cons (.tmp rfl (nb rfl)) .nil) (subI ?_)
  ·exact wrongMsg1 (by omega)
 ·refine zac rfl rfl tv <| zab rfl rfl rfl rfl rfl rfl (gk rfl) <| zah rfl rfl rfl rfl rfl rfl (gk rfl) <| zdr rfl rfl rfl (gk rfl) (fun h9 => ?_) (fun h9 => ?_)
  ·refine zat rfl rfl rfl tv <| zaf tv <| zao rfl <| zad <| zaa <| zae rfl rfl tv <| zaf tv <| zaw <| fin0 (.inr rfl) (.cons (.tmp rfl (nb rfl)) .nil) (subI ?_)
   ·exact wrongMsg1 (by omega)
  ·refine zat rfl rfl rfl tv <| zaf tv <| zap rfl <| zax <| zad <| zad <| zaa <| zab rfl rfl rfl rfl rfl rfl tv <| zah rfl rfl rfl rfl rfl rfl tv <| zby rfl rfl rfl tv <| zdr rfl rfl rfl tv (fun h14 => ?_) (fun h14 => ?_)
   ·refine zaf tv <| zao rfl <| zad <| zaa <| zae rfl rfl tv <| zaf tv <| zaw <| fin0 (.inr rfl) (.cons (.tmp rfl (nb rfl)) .nil) (subI ?_)
    ·rw [byteCells_length] at h14; exact wrongMsg2 (by omega) (by omega)
   ·refine zaf tv <| zap rfl <| zax <| zad <| zaa <| zae rfl rfl tv <| zaf tv <| zaw <| fin0 (.inr rfl) (.cons (.tmp rfl (nb rfl)) .nil) (subI ?_)
    ·rw [byteCells_length] at h14; exact wrongMsg3 (by omega) (by omega)
theorem c62 (m n : Msg) : VFun G 62 [.agg [.lit (.int .i64 m.1), .shr 1 (byteCells m.2)], .agg [.lit (.int .i64 n.1), .shr 1 (byteCells n.2)]] [] (.lit (.bool (m == n))) [] := by
 refine VFun.intro (fn := Try.f62) rfl rfl (by kernel_rfl) (nb rfl) fun Γ hpar => ?_
 refine zad <| zaa <| zdh 100 rfl rfl rfl (zar hpar rfl) rfl rfl tv <| zdh 101 rfl rfl rfl (zar hpar rfl) rfl rfl tv <| zae rfl rfl tv <| zaf tv <| zad <| zaa <| zab rfl rfl rfl rfl rfl rfl tv <| zah rfl rfl rfl rfl rfl rfl tv <| zab rfl rfl rfl rfl rfl rfl tv <| zah rfl rfl rfl rfl rfl rfl tv <| zci rfl rfl rfl tv (fun h9 => ?_) (fun h9 => ?_)
 ·refine zac rfl rfl tv <| zab rfl rfl rfl rfl rfl rfl (gk rfl) <| zah rfl rfl rfl rfl rfl rfl (gk rfl) <| u_convT rfl (by rfl) rfl rfl rfl rfl (gk rfl) <| zab rfl rfl rfl rfl rfl rfl (gk rfl) <| zah rfl rfl rfl rfl rfl rfl (gk rfl) <| u_convT rfl (by rfl) rfl rfl rfl rfl (gk rfl) <| u_eqlT rfl rfl rfl (gk rfl) <| zav rfl rfl rfl tv <| zae rfl rfl tv <| zaf tv <| zaw <| fin0 (.inr rfl) (.cons (.tmp rfl (nb rfl)) .nil) (subB ?_)
  ·exact Bool.eq_iff_iff.2 (by simp [Prod.ext_iff, h9, bytesT])
 ·refine zac rfl rfl tv <| zag rfl rfl rfl rfl rfl <| zag rfl rfl rfl rfl rfl <| zag rfl rfl rfl rfl rfl <| zag rfl rfl rfl rfl rfl <| zag rfl rfl rfl rfl rfl <| zag rfl rfl rfl rfl rfl <| zag rfl rfl rfl rfl rfl <| zat rfl rfl rfl tv <| zae rfl rfl tv <| zaf tv <| zaw <| fin0 (.inr rfl) (.cons (.tmp rfl (nb rfl)) .nil) (subB ?_)
  ·exact Bool.eq_iff_iff.2 (by simp [Prod.ext_iff, h9, bytesT])
theorem c63 (a b : List Msg) : VFun G 63 [.shr 2 (zbe a), .shr 2 (zbe b)] [] (.lit (.bool (a == b))) [] := by
 refine VFun.intro (fn := Try.f63) rfl rfl (by kernel_rfl) (nb rfl) fun Γ hpar => ?_
 refine zad <| vw_len (t := 0) rfl fun hl => ?_
 rw [zaq] at hl
 refine zaa <| zae rfl rfl tv <| zaf tv <| zad <| zad <| zaa <| zac rfl rfl tv <| zby rfl rfl rfl tv <| zac rfl rfl tv <| zby rfl rfl rfl tv <| zdg rfl rfl rfl tv (fun h10 => ?_) (fun h10 => ?_)
 ·refine zaf tv <| zao rfl <| zad ?_
  simp only [zaq] at h10
  refine zaa <| zae rfl rfl tv <| zaf tv <| zaw <| fin0 (.inr rfl) (.cons (.tmp rfl (nb rfl)) .nil) (subB ?_)
  ·refine beq_eq_false_iff_ne.2 (fun e => h10 (by rw [e]))
 ·refine zaf tv <| zap rfl <| zax <| zad <| zad ?_
  simp only [zaq] at h10
  have hab : a.length = b.length := by omega
  refine zaa <| zac rfl rfl tv <| zby rfl rfl rfl tv <| zac rfl rfl tv <| zaf tv <| zbb <| zbt (fun n_ E => ∃ (i : Nat), ((i ≤ a.length) ∧ (a.take i = b.take i)) ∧ n_ = a.length - i ∧ E = ⟨[(0, .shr 2 (zbe a)), (1, .shr 2 (zbe b)), (12, .lit (.int .i64 (zbe a).length)), (13, .lit (.int .i64 i))], [], 27⟩) (n0 := _) (E0 := _) (⟨0, by exact ⟨Nat.zero_le _, rfl⟩, rfl, rfl⟩) (ren []) (zay [] rfl rfl ⟨⟨_, rfl, (.shr _ _)⟩, ⟨_, rfl, (.shr _ _)⟩, ⟨_, rfl, (.lit _)⟩, ⟨_, rfl, (.lit _)⟩, tv⟩ tv (zaz hpar rfl)) (fun n_ E hR => ?_)
  obtain ⟨i, hI, rfl, rfl⟩ := hR
  obtain ⟨hI0, hI1⟩ := hI
  refine zad <| zaa <| zcg rfl rfl rfl tv (fun h14 => ?_) (fun h14 => ?_)
  ·refine zaf tv <| zad <| zao rfl <| zax <| zad <| zbb <| zad <| zaa <| zac rfl rfl tv <| zae rfl rfl tv <| zaf tv <| zad ?_
   rw [zaq] at h14
   refine zbo <| zac rfl rfl tv <| zac rfl rfl tv <| zbh rfl rfl rfl rfl rfl rfl (msgCells_get (by omega)) rfl tv <| zbu rfl rfl rfl rfl rfl tv <| zac rfl rfl tv <| zac rfl rfl tv <| zbh rfl rfl rfl rfl rfl rfl (msgCells_get (by omega)) rfl tv <| zbu rfl rfl rfl rfl rfl tv <| zdo [] rfl (c62 (a[i]'(by omega)) (b[i]'(by omega))) (.cons ((subP rfl)) (.cons ((subP rfl)) .nil)) (fun k o h => by simp [Go.Vc.look] at h) rfl tv (fun h24 => ?_) (fun h24 => ?_)
   ·refine zdq rfl rfl tv <| zaf (by kernel_rfl) <| zap rfl <| zax <| zaa <| zbz rfl rfl rfl (by unfold inI; omega) rfl tv <| zac rfl rfl tv <| zaf tv <| ⟨_, _, ren [], ?_, ⟨i + 1, ?_, rfl, rfl⟩, zay [] rfl rfl ⟨⟨_, rfl, (.shr _ _)⟩, ⟨_, rfl, (.shr _ _)⟩, ⟨_, rfl, (.lit _)⟩, ⟨_, rfl, (.lit _)⟩, tv⟩ tv (zaz hpar rfl)⟩
    ·omega
    ·refine ⟨by omega, ?_⟩
     rw [List.take_add_one, List.take_add_one, hI1, List.getElem?_eq_getElem (by omega), List.getElem?_eq_getElem (by omega)]
     rw [beq_iff_eq.1 h24]
   ·refine zdq rfl rfl tv <| zaf (by kernel_rfl) <| zao rfl <| zad <| zaa <| zae rfl rfl tv <| zaf tv <| zaw <| fin0 (.inr rfl) (.cons (.tmp rfl (nb rfl)) .nil) (subB ?_)
    ·refine beq_eq_false_iff_ne.2 (fun e => ?_)
     subst e
     simp at h24
  ·refine zaf tv <| zad <| zap rfl <| zbw <| iteP rfl <| zad ?_
   rw [zaq] at h14
   refine zaa <| zae rfl rfl tv <| zaf tv <| zaw <| fin0 (.inr rfl) (.cons (.tmp rfl (nb rfl)) .nil) (subB ?_)
   ·refine beq_iff_eq.2 ?_
    rw [List.take_of_length_le (by omega), List.take_of_length_le (by omega)] at hI1
    exact hI1
theorem c65 (l : List Msg) (s : Int) (hl : l.length ≤ 4398046511000) : VFun G 65 [.shr 2 (zbe l), .lit (.int .i64 s)] [] (.shr 2 (zbe (zcn s l))) [] := by
 refine VFun.intro (fn := Try.f65) rfl rfl (by kernel_rfl) (nb rfl) fun Γ hpar => ?_
 refine zad <| zaa <| zae rfl rfl tv <| zaf tv <| zad <| zaa <| zae rfl rfl tv <| zaf tv <| zad <| zad <| zaa <| zac rfl rfl tv <| zby rfl rfl rfl tv <| zac rfl rfl tv <| zaf tv <| zbb <| zbt (fun n_ E => ∃ (i : Nat), ((i ≤ l.length)) ∧ n_ = l.length - i ∧ E = ⟨[(1, .lit (.int .i64 s)), (8, .shr 2 (zbe l)), (9, .lit (.int .i64 (zbe l).length)), (10, .lit (.int .i64 i)), (5, .row 5)], [(5, .row 48 2 (zbe (zcn s (l.take i))))], 24⟩) (n0 := _) (E0 := _) (⟨0, by omega, rfl, rfl⟩) (ren []) (zay [] rfl rfl ⟨⟨_, rfl, (.lit _)⟩, ⟨_, rfl, (.shr _ _)⟩, ⟨_, rfl, (.lit _)⟩, ⟨_, rfl, (.lit _)⟩, ⟨_, rfl, .nilrow _ _ _ _ rfl rfl⟩, tv⟩ ⟨(.inr (.inl ⟨rfl, rfl⟩)), tv⟩ (zaz hpar rfl)) (fun n_ E hR => ?_)
 obtain ⟨i, hI, rfl, rfl⟩ := hR
 have hI0 := hI
 refine zad <| zaa <| zcg rfl rfl rfl tv (fun h11 => ?_) (fun h11 => ?_)
 ·refine zaf tv <| zad <| zao rfl <| zax <| zad <| zbb <| zad ?_
  rw [zaq] at h11
  refine zaa <| zbh rfl rfl rfl rfl rfl rfl (msgCells_get (by omega)) rfl tv <| zbu rfl rfl rfl rfl rfl tv <| zbd 120 rfl rfl (zar hpar rfl) rfl rfl tv <| zaj rfl rfl rfl rfl rfl rfl rfl rfl tv <| zaf tv <| zad <| zaa <| zab rfl rfl rfl rfl rfl rfl tv <| zah rfl rfl rfl rfl rfl rfl tv <| zac rfl rfl tv <| zci rfl rfl rfl tv (fun h17 => ?_) (fun h17 => ?_)
  ·refine zaf tv <| zao rfl <| zaa <| zac rfl rfl tv <| zam rfl rfl rfl rfl rfl rfl tv <| zba 121 rfl rfl rfl rfl rfl rfl rfl rfl rfl rfl (zar hpar rfl) rfl rfl tv <| zbn 122 rfl rfl rfl (zdb rfl) rfl (zar hpar rfl) rfl rfl rfl rfl rfl (by have h1 := ofStream_len s (l.take i); rw [List.length_take] at h1; rw [zaq]; simp [zbx]; omega) rfl tv <| zae rfl rfl tv <| zaf tv <| zaa <| zbz rfl rfl rfl (by unfold inI; omega) rfl tv <| zac rfl rfl tv <| zaf tv <| ⟨_, _, ren [(5, 122)], ?_, ⟨i + 1, ?_, rfl, rfl⟩, zay [(5, 122)] rfl rfl ⟨⟨_, rfl, (.lit _)⟩, ⟨_, rfl, (.shr _ _)⟩, ⟨_, rfl, (.lit _)⟩, ⟨_, rfl, (.lit _)⟩, ⟨_, rfl, (.row _ _ rfl (zak rfl))⟩, tv⟩ ⟨(.inl ⟨_, rfl, zcq rfl (by rw [ofStreamY (by omega) h17, msgCells_snoc]; rfl)⟩), tv⟩ (zaz hpar rfl)⟩
   ·omega
   ·omega
  ·refine zaf tv <| zap rfl <| zax <| zaa <| zbz rfl rfl rfl (by unfold inI; omega) rfl tv <| zac rfl rfl tv <| zaf tv <| ⟨_, _, ren [(5, 5)], ?_, ⟨i + 1, ?_, rfl, rfl⟩, zay [(5, 5)] rfl rfl ⟨⟨_, rfl, (.lit _)⟩, ⟨_, rfl, (.shr _ _)⟩, ⟨_, rfl, (.lit _)⟩, ⟨_, rfl, (.lit _)⟩, ⟨_, rfl, (.row _ _ rfl (zak rfl))⟩, tv⟩ ⟨(.inl ⟨_, rfl, zcq rfl (by rw [ofStreamN (by omega) h17])⟩), tv⟩ (zaz hpar rfl)⟩
   ·omega
   ·omega
 ·refine zaf tv <| zad <| zap rfl <| zbw <| iteP rfl <| zad ?_
  rw [zaq] at h11
  refine zaa <| zac rfl rfl tv <| zae rfl rfl tv <| zaf tv <| zaw <| fin0 (.inr rfl) (.cons (.tmp rfl (nb rfl)) .nil) (zcd rfl (fzL rfl) ?_)
  ·rw [List.take_of_length_le (by omega)]
theorem c67 (t p : List Msg) (ht : t.length ≤ 4398046511000) (hp : p.length ≤ 4398046511000) : VFun G 67 [.shr 2 (zbe t), .shr 2 (zbe p)] [] (.lit (.bool (fits t p))) [] := by
 refine VFun.intro (fn := Try.f67) rfl rfl (by kernel_rfl) (nb rfl) fun Γ hpar => ?_
 refine zad <| zaa <| zae rfl rfl tv <| zaf tv <| zad <| zad <| zaa <| zac rfl rfl tv <| zaf tv <| zbb <| zbt (fun n_ E => ∃ (i : Nat), ((i ≤ 3) ∧ (∀ j : Nat, j < i → fits1 (j : Int) t p = true)) ∧ n_ = 3 - i ∧ E = ⟨[(0, .shr 2 (zbe t)), (1, .shr 2 (zbe p)), (8, .lit (.int .i64 i))], [], 32⟩) (n0 := _) (E0 := _) (⟨0, by exact ⟨by decide, fun j hj => absurd hj (Nat.not_lt_zero _)⟩, rfl, rfl⟩) (ren []) (zay [] rfl rfl ⟨⟨_, rfl, (.shr _ _)⟩, ⟨_, rfl, (.shr _ _)⟩, ⟨_, rfl, (.lit _)⟩, tv⟩ tv (zaz hpar rfl)) (fun n_ E hR => ?_)
 obtain ⟨i, hI, rfl, rfl⟩ := hR
 obtain ⟨hI0, hI1⟩ := hI
 refine zad <| zaa <| zcg rfl rfl rfl tv (fun h9 => ?_) (fun h9 => ?_)
 ·refine zaf tv <| zad <| zao rfl <| zax <| zad <| zbb <| zad <| zaa <| zac rfl rfl tv <| zae rfl rfl tv <| zaf tv <| zad <| zaa <| zac rfl rfl tv <| zac rfl rfl tv <| zbi rfl (c65 _ _ (by omega)) (.cons ((.shr _ _)) (.cons ((.lit _)) .nil)) rfl tv <| zac rfl rfl tv <| zac rfl rfl tv <| zbi rfl (c65 _ _ (by omega)) (.cons ((.shr _ _)) (.cons ((.lit _)) .nil)) rfl tv <| zae rfl rfl tv <| zae rfl rfl tv <| zaf tv <| zad <| zaa <| zac rfl rfl tv <| zby rfl rfl rfl tv <| zac rfl rfl tv <| zby rfl rfl rfl tv <| zdr rfl rfl rfl tv (fun h21 => ?_) (fun h21 => ?_)
  ·refine zac rfl rfl tv <| zag rfl rfl rfl rfl rfl <| zag rfl rfl rfl rfl rfl <| zag rfl rfl rfl rfl rfl <| zag rfl rfl rfl rfl rfl <| zag rfl rfl rfl rfl rfl <| zag rfl rfl rfl rfl rfl <| zag rfl rfl rfl rfl rfl <| zav rfl rfl rfl tv <| zaf tv <| zao rfl <| zad <| zaa <| zae rfl rfl tv <| zaf tv <| zaw <| fin0 (.inr rfl) (.cons (.tmp rfl (nb rfl)) .nil) (subB ?_)
   ·simp only [zaq] at h21
    exact fitsN (i := i) (by omega) (by unfold fits1; rw [decide_eq_false (by omega)]; rfl)
  ·refine zac rfl rfl tv <| zac rfl rfl (gk rfl) <| zac rfl rfl (gk rfl) <| zac rfl rfl (gk rfl) <| zby rfl rfl rfl (gk rfl) <| u_sliceHi (zcn i t).length rfl rfl (by rw [zaq]) (by simp only [zaq] at h21 ⊢; omega) rfl rfl rfl rfl (gk rfl) <| zdo [] rfl (c63 (zcn i t) ((zcn i p).take (zcn i t).length)) (.cons ((.shr _ _)) (.cons (subS (msgCells_take _ _).symm) .nil)) (fun k o h => by simp [Go.Vc.look] at h) rfl (gk rfl) (fun h28 => ?_) (fun h28 => ?_)
   ·refine zdq rfl rfl (gk rfl) <| zat rfl rfl rfl tv <| zaf tv <| zap rfl <| zax <| zaa <| zbz rfl rfl rfl (by unfold inI; omega) rfl tv <| zac rfl rfl tv <| zaf tv <| ⟨_, _, ren [], ?_, ⟨i + 1, ?_, rfl, rfl⟩, zay [] rfl rfl ⟨⟨_, rfl, (.shr _ _)⟩, ⟨_, rfl, (.shr _ _)⟩, ⟨_, rfl, (.lit _)⟩, tv⟩ tv (zaz hpar rfl)⟩
    ·omega
    ·refine ⟨by omega, fun j hj => ?_⟩
     rcases Nat.lt_or_ge j i with h | h
     · exact hI1 j h
     · simp only [zaq] at h21
       rw [show j = i by omega]; unfold fits1; rw [decide_eq_true (by omega), h28]; rfl
   ·refine zdq rfl rfl (gk rfl) <| zat rfl rfl rfl tv <| zaf tv <| zao rfl <| zad <| zaa <| zae rfl rfl tv <| zaf tv <| zaw <| fin0 (.inr rfl) (.cons (.tmp rfl (nb rfl)) .nil) (subB ?_)
    ·refine fitsN (i := i) (by omega) ?_
     unfold fits1; rw [h28, Bool.and_false]
 ·refine zaf tv <| zad <| zap rfl <| zbw <| iteP rfl <| zad <| zaa <| zae rfl rfl tv <| zaf tv <| zaw <| fin0 (.inr rfl) (.cons (.tmp rfl (nb rfl)) .nil) (subB ?_)
  ·exact fitsY fun j hj => hI1 j (by omega)
theorem c136a (K : Nat) : VFun G 136 [.lit (.slice none 0 0)] [] (.row K) [(K, .row 5 1 (byteCells []))] := by
 refine VFun.intro (fn := Try.f136) rfl rfl (by kernel_rfl) (nb rfl) fun Γ hpar => ?_
 refine zad <| zaa <| zae rfl rfl tv <| zaf tv <| zad <| zad <| zaa <| zac rfl rfl tv <| u_eqlNil rfl rfl rfl rfl tv <| zaf tv <| zao rfl <| zad <| zaa <| zae rfl rfl tv <| zaf tv <| zaw <| fin1n (.inr rfl) (.cons (.tmp rfl (nb rfl)) .nil) ?_ (subRowN)
 ·rfl
theorem c136b (K : Nat) (b : UInt8) (r : List UInt8) : VFun G 136 [.shr 1 (byteCells (b :: r))] [] (.row K) [(K, .row 5 1 (byteCells (b :: r)))] := by
 refine VFun.intro (fn := Try.f136) rfl rfl (by kernel_rfl) (nb rfl) fun Γ hpar => ?_
 refine zad <| vw_len (t := 0) rfl fun hl => ?_
 refine zaa <| zae rfl rfl tv <| zaf tv <| zad <| zad <| zaa <| zac rfl rfl tv <| u_eqlNilC rfl rfl rfl rfl tv <| zaf tv <| zap rfl <| zax <| zad <| zaa <| zba 100 rfl rfl rfl rfl rfl rfl rfl rfl rfl rfl (zar hpar rfl) rfl rfl tv <| zac rfl rfl tv <| zbn 101 rfl rfl rfl (.shr _ _) rfl (zar hpar rfl) rfl rfl rfl rfl rfl (by have h1 := hl; rw [byteCells_length] at h1; simp only [byteCells_length, zbx, List.map_nil, List.length_nil]; omega) rfl tv <| zae rfl rfl tv <| zaf tv <| zaw <| fin1 (.inr rfl) (.cons (.tmp rfl (nb rfl)) .nil) rfl ?_ (subRow)
 ·rfl
theorem c136c (K : Nat) (p : Addr) (cap : Nat) : VFun G 136 [.lit (.slice (some p) 0 cap)] [] (.row K) [(K, .row 5 1 (byteCells []))] := by
 refine VFun.intro (fn := Try.f136) rfl rfl (by kernel_rfl) (nb rfl) fun Γ hpar => ?_
 refine zad <| zaa <| zae rfl rfl tv <| zaf tv <| zad <| zad <| zaa <| zac rfl rfl tv <| u_eqlNil rfl rfl rfl rfl tv <| zaf tv <| zap rfl <| zax <| zad <| zaa <| zba 100 rfl rfl rfl rfl rfl rfl rfl rfl rfl rfl (zar hpar rfl) rfl rfl tv <| zac rfl rfl tv <| u_append0 101 rfl rfl rfl rfl (zar hpar rfl) rfl rfl rfl rfl rfl (by decide) rfl tv <| zae rfl rfl tv <| zaf tv <| zaw <| fin1 (.inr rfl) (.cons (.tmp rfl (nb rfl)) .nil) rfl ?_ (subRow)
 ·rfl
theorem c136 (K : Nat) (bs : List UInt8) : VFun G 136 [.shr 1 (byteCells bs)] [] (.row K) [(K, .row 5 1 (byteCells bs))] := by
  refine VFun.nilcase (fun h => ?_) (fun u us h => ?_) (fun h p cap => ?_)
  · have : bs = [] := by simpa [byteCells] using h
    subst this; exact c136a K
  · cases bs with
    | nil => cases h
    | cons b r => cases h; exact c136b K b r
  · have : bs = [] := by simpa [byteCells] using h
    subst this; exact c136c K p cap
end Go.Proofs.Ytaadloihphpdbaa
