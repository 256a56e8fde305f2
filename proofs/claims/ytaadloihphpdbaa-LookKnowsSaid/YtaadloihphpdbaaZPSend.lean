/- The sender, as pure data: what always holds of it. No program in sight. -/
import Derived.Test.YtaadloihphpdbaaZPModel
set_option linter.unusedVariables false
set_option linter.unusedSimpArgs false
namespace Go.Proofs.Ytaadloihphpdbaa
open Go Go.Vc
structure SInv (s : Sender) : Prop where
  q : s.queue.length ≤ 6
  f : s.flight.length ≤ 4
  t : 0 ≤ s.turn ∧ s.turn ≤ 4
  n : 0 ≤ s.next
  nq : s.next + s.queue.length ≤ 40
  m : ∀ m ∈ s.queue, zdt m = 0
  c : ∀ c ∈ s.flight, zdk c = 0 ∧ c.kind = 1 ∧ c.num < s.next
  p : (0 ≤ s.places.a ∧ s.places.a ≤ s.next) ∧ (0 ≤ s.places.b ∧ s.places.b ≤ s.next) ∧ (0 ≤ s.places.c ∧ s.places.c ≤ s.next)
theorem rightMsg {m : Msg} (h : zdt m = 0) : (m.1 = 0 ∨ m.1 = 1 ∨ m.1 = 2) ∧ m.2.length ≤ 6 := by
  unfold zdt at h
  split at h
  · omega
  · split at h <;> omega
theorem sinv0 : SInv zfn := ⟨by simp [zfn], by simp [zfn], by simp [zfn], by simp [zfn], by simp [zfn], by simp [zfn], by simp [zfn], by simp [zfn, places0]⟩
theorem sinv_put {s : Sender} (h : SInv s) (m : Msg) : SInv (put s m).1 := by
  unfold put
  split
  · exact h
  · rename_i h1
    split
    · exact h
    · split
      · exact h
      · refine ⟨by simp; omega, h.f, h.t, h.n, by simp; omega, ?_, h.c, h.p⟩
        intro x hx
        rcases List.mem_append.1 hx with hx | hx
        · exact h.m x hx
        · rw [List.mem_singleton.1 hx]; exact Decidable.of_not_not h1
theorem say_is (s : Sender) : (s.queue = [] ∧ s.flight = [] ∧ say s = (s, zft, false)) ∨ (∃ m q, s.queue = m :: q ∧ s.flight.length < 4 ∧ say s = sayNew s m q) ∨ (0 < s.flight.length ∧ (s.queue ≠ [] → ¬ s.flight.length < 4) ∧ say s = sayOld s) := by
  unfold say
  cases hq : s.queue with
  | nil =>
    by_cases hf : s.flight = []
    · exact .inl ⟨rfl, hf, if_pos hf⟩
    · exact .inr (.inr ⟨List.length_pos_iff.2 hf, fun h => absurd rfl h, if_neg hf⟩)
  | cons m q =>
    by_cases hf : s.flight.length < 4
    · exact .inr (.inl ⟨m, q, rfl, hf, if_pos hf⟩)
    · exact .inr (.inr ⟨by omega, fun _ => hf, if_neg hf⟩)
theorem sayOld_get {s : Sender} (h : SInv s) (hf : 0 < s.flight.length) : ∃ k : Nat, ∃ hk : k < s.flight.length, s.turn % s.flight.length = k ∧ sayOld s = ({ s with turn := k + 1 }, s.flight[k], true) := by
  have h1 := Int.emod_nonneg s.turn (show (s.flight.length : Int) ≠ 0 by omega)
  have h2 := Int.emod_lt_of_pos s.turn (show (0 : Int) < s.flight.length by omega)
  refine ⟨(s.turn % s.flight.length).toNat, by omega, by omega, ?_⟩
  have h3 : (s.turn % s.flight.length).toNat < s.flight.length := by omega
  unfold sayOld
  simp only [List.getD, List.getElem?_eq_getElem h3, Option.getD_some]
  rw [Int.toNat_of_nonneg h1]
theorem places_bound {s : Sender} (h : SInv s) {m : Msg} (hm : zdt m = 0) : 0 ≤ s.places.get m.1 ∧ s.places.get m.1 ≤ s.next := by
  have hp := h.p
  unfold Places.get
  split
  · exact hp.1
  · split
    · exact hp.2.1
    · exact hp.2.2
theorem new_right {s : Sender} (h : SInv s) {m : Msg} {q : List Msg} (hq : s.queue = m :: q) : zdk (zfd s m) = 0 := by
  have hm := h.m m (by rw [hq]; simp)
  have hp := places_bound h hm
  have hn := h.n; have hnq := h.nq
  rw [hq] at hnq
  simp only [List.length_cons] at hnq
  unfold zfd zdk
  rw [if_neg (by simp), if_neg (by simp only; omega), if_pos rfl, if_neg (by simp only; omega), if_neg (by simp)]
  exact hm
theorem sinv_say {s : Sender} (h : SInv s) : SInv (say s).1 := by
  rcases say_is s with ⟨_, _, e⟩ | ⟨m, q, hq, hl, e⟩ | ⟨hl, _, e⟩
  · rw [e]; exact h
  · rw [e]
    have h1 := h.q; have h2 := h.nq; have h3 := h.n; have h4 := h.p
    rw [hq] at h1 h2
    simp only [List.length_cons] at h1 h2
    refine ⟨by simp [sayNew]; omega, by simp [sayNew]; omega, h.t, by simp [sayNew]; omega, by simp [sayNew]; omega, ?_, ?_, ?_⟩
    · intro x hx; exact h.m x (by rw [hq]; exact List.mem_cons_of_mem _ hx)
    · intro c hc
      rcases List.mem_append.1 hc with hc | hc
      · have := h.c c hc
        exact ⟨this.1, this.2.1, by simp only [sayNew]; omega⟩
      · rw [List.mem_singleton.1 hc]
        exact ⟨new_right h hq, rfl, by simp only [sayNew, zfd]; omega⟩
    · simp only [sayNew, Places.bump]
      split
      · simp only; omega
      · split
        · simp only; omega
        · simp only; omega
  · obtain ⟨k, hk, _, e2⟩ := sayOld_get h hl
    rw [e, e2]
    have := h.f
    exact ⟨h.q, h.f, by simp only; omega, h.n, h.nq, h.m, h.c, h.p⟩
theorem sinv_hear {s : Sender} (h : SInv s) (c : Chunk) : SInv (hear s c) := by
  unfold hear
  split
  · exact h
  · refine ⟨h.q, ?_, h.t, h.n, h.nq, h.m, ?_, h.p⟩
    · have := List.length_filter_le (fun x => !told c x) s.flight
      have := h.f
      simp only; omega
    · intro x hx
      exact h.c x (List.mem_filter.1 hx).1
theorem say_right {s : Sender} (h : SInv s) (hs : (say s).2.2 = true) : zdk (say s).2.1 = 0 ∧ (say s).2.1.kind = 1 := by
  rcases say_is s with ⟨_, _, e⟩ | ⟨m, q, hq, hl, e⟩ | ⟨hl, _, e⟩
  · rw [e] at hs; cases hs
  · rw [e]; exact ⟨new_right h hq, rfl⟩
  · obtain ⟨k, hk, _, e2⟩ := sayOld_get h hl
    rw [e, e2]
    have := h.c _ (List.getElem_mem hk)
    exact ⟨this.1, this.2.1⟩
theorem said_not {s : Sender} (hs : SInv s) (ho : (say s).2.2 = false) : s.queue = [] ∧ s.flight = [] ∧ say s = (s, zft, false) := by
  rcases say_is s with h | ⟨m, q, hq, hl, e⟩ | ⟨hl, _, e⟩
  · exact h
  · rw [e] at ho; cases ho
  · obtain ⟨k, hk, _, e2⟩ := sayOld_get hs hl
    rw [e, e2] at ho; cases ho
end Go.Proofs.Ytaadloihphpdbaa
