/- What the laws of chapter 9 need. Printed by a small program (walk.py). -/
import Derived.Test.YtaadloihphpdbaaZWWorld3
import Derived.Test.YtaadloihphpdbaaZWChunkH
set_option linter.unusedVariables false
set_option linter.unusedSimpArgs false
set_option maxRecDepth 4000
namespace Go.Proofs.Ytaadloihphpdbaa
open Go Go.Vc Go.RowKit
theorem ds_or {s : Step} (h1 : s.kind ≠ 1) (L : Nat) : (∃ e, ∀ w : World', w.lanes.length = L → zch w s = (w, e)) ∨ (∃ t : Nat, t < L ∧ s.tenant = t ∧ ∀ w : World', w.lanes.length = L → zch w s = (⟨w.lanes.set t (zdp (w.lanes.getD t zdl) s).1, w.ticks⟩, (zdp (w.lanes.getD t zdl) s).2)) := by
  by_cases h2 : s.kind < 1 ∨ 6 < s.kind
  · exact .inl ⟨1, fun w _ => ds_kind h2⟩
  · by_cases h3 : s.tenant < 0 ∨ (L : Int) ≤ s.tenant
    · exact .inl ⟨6, fun w hw => ds_none h2 h1 (by rw [hw]; exact h3)⟩
    · refine .inr ⟨s.tenant.toNat, by omega, by omega, fun w hw => ?_⟩
      unfold zch; rw [if_neg h2, if_neg h1, if_neg (by rw [hw]; exact h3)]
theorem getD_set_ne {l : List Lane} {i t : Nat} {a : Lane} (h : i ≠ t) : (l.set i a).getD t zdl = l.getD t zdl := by
  simp only [List.getD, List.getElem?_set, if_neg h]
theorem world_apart {w : World'} {a b : Step} (hab : a.tenant ≠ b.tenant) (ha : a.kind ≠ 1) (hb : b.kind ≠ 1) :
    (zch w a).2 = (zch (zch w b).1 a).2 ∧ (zch (zch w a).1 b).2 = (zch w b).2 ∧ (zch (zch w a).1 b).1 = (zch (zch w b).1 a).1 := by
  have la := doStep_len w a
  have lb := doStep_len w b
  rcases ds_or ha w.lanes.length with ⟨e, h⟩ | ⟨t, ht, hta, h⟩
  · rw [h w rfl, h _ lb]; exact ⟨rfl, rfl, rfl⟩
  · rcases ds_or hb w.lanes.length with ⟨e, g⟩ | ⟨u, hu, htb, g⟩
    · rw [g w rfl, g _ la]; exact ⟨rfl, rfl, rfl⟩
    · have hne : t ≠ u := by omega
      rw [h _ lb, g _ la, h w rfl, g w rfl]
      simp only
      rw [getD_set_ne hne, getD_set_ne (Ne.symm hne)]
      exact ⟨rfl, rfl, by rw [List.set_comm _ _ hne]⟩
theorem put_err {s : Sender} {m : Msg} (h : (put s m).2 ≠ 0) : (put s m).1 = s := by
  unfold put at h ⊢
  split
  · rfl
  · rename_i h1
    rw [if_neg h1] at h
    split
    · rfl
    · rename_i h2
      rw [if_neg h2] at h
      split
      · rfl
      · rename_i h3
        rw [if_neg h3] at h; exact absurd rfl h
theorem packet_err {l : Lane} {kind n a : Int} {b : Bool} (h : (zcp l kind n a b).2 ≠ 0) : (zcp l kind n a b).1 = l := by
  unfold zcp at h ⊢
  simp only at h ⊢
  split
  · rfl
  · rename_i h1
    rw [if_neg h1] at h
    split
    · rename_i h2; rw [if_pos h2] at h; exact absurd rfl h
    · rename_i h2
      rw [if_neg h2] at h
      split
      · rename_i h3; rw [if_pos h3] at h; exact absurd rfl h
      · rename_i h3
        rw [if_neg h3] at h
        split
        · rename_i h4
          rw [if_pos h4] at h
          split
          · rfl
          · rename_i h5; rw [if_neg h5] at h; exact absurd rfl h
        · rename_i h4; rw [if_neg h4] at h; exact absurd rfl h
theorem step_err {l : Lane} {s : Step} (h : (zdp l s).2 ≠ 0) : (zdp l s).1 = l := by
  unfold zdp at h ⊢
  split
  · rename_i h2; rw [if_pos h2] at h; simp only at h ⊢; rw [put_err h]
  · rename_i h2; rw [if_neg h2] at h; exact packet_err h
theorem ds_err {w : World'} {s : Step} (h : (zch w s).2 ≠ 0) : (zch w s).1 = w := by
  by_cases h1 : s.kind = 1
  · exfalso; apply h; unfold zch; rw [if_neg (by omega), if_pos h1]
  · rcases ds_or h1 w.lanes.length with ⟨e, g⟩ | ⟨t, ht, hta, g⟩
    · rw [g w rfl]
    · rw [g w rfl] at h ⊢
      have := step_err h
      simp only at this ⊢
      rw [this]
      have e : w.lanes.set t (w.lanes.getD t zdl) = w.lanes := by
        have e1 : w.lanes.getD t zdl = w.lanes[t] := by simp [List.getD, List.getElem?_eq_getElem ht]
        rw [e1, List.set_getElem_self]
      rw [e]
theorem ds_other {w : World'} {s : Step} {i : Nat} {x y : Lane} (hx : w.lanes[i]? = some x) (hy : (zch w s).1.lanes[i]? = some y) (h : ¬ (i : Int) = if s.kind = 1 then w.ticks % (w.lanes.length : Int) else s.tenant) : y = x := by
  have hi := (List.getElem?_eq_some_iff.1 hx).1
  have e := congrArg Prod.fst (doStep_at (w := w) (s := s) hi)
  have e1 : (atL (zch w s).1 i).1 = y := by show (zch w s).1.lanes.getD i zdl = y; rw [List.getD, hy]; rfl
  have e2 : (atL w i).1 = x := by show w.lanes.getD i zdl = x; rw [List.getD, hx]; rfl
  rw [e1] at e
  unfold lstep at e
  by_cases h1 : s.kind = 1
  · rw [if_pos h1] at h
    rw [if_pos h1] at e
    have hne : ¬ (w.ticks % (w.lanes.length : Int)).toNat = i := by
      have := Int.emod_nonneg w.ticks (show (w.lanes.length : Int) ≠ 0 by omega)
      omega
    rw [show (atL w i).2 = w.ticks from rfl, if_neg hne] at e
    rw [e, ← e2]
  · rw [if_neg h1] at h
    rw [if_neg h1, if_neg (by omega)] at e
    rw [e, e2]
theorem ticks_eq1 {t t' k : Int} (h : t' = t + if k = 1 then 1 else 0) : (t' == t + 1) = (k == 1) := by
  rw [h, Bool.eq_iff_iff]; simp only [beq_iff_eq]; split <;> omega
theorem ticks_eq2 {t t' k : Int} (h : t' = t + if k = 1 then 1 else 0) : ((t' == t) == (k != 1)) = true := by
  rw [h, beq_iff_eq, Bool.eq_iff_iff]; simp only [beq_iff_eq, bne_iff_ne]; split <;> omega
theorem new_le (n : Int) : (zco n).lanes.length ≤ 3 := by
  unfold zco
  split
  · simp
  · simp; omega
theorem newErr_ok {n : Int} (h : newErr n = 0) : 1 ≤ n ∧ n ≤ 3 := by
  unfold newErr at h
  split at h
  · cases h
  · omega
end Go.Proofs.Ytaadloihphpdbaa
