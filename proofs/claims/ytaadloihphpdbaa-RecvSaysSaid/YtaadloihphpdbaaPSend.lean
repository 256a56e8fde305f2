/- The sender, as pure data: what always holds of it. No program in sight. -/
import Derived.Test.YtaadloihphpdbaaPModel
set_option linter.unusedVariables false
set_option linter.unusedSimpArgs false
namespace Go.Proofs.Ytaadloihphpdbaa
open Go Go.Vc

/-- What always holds of a sender. -/
structure SInv (s : Sender) : Prop where
  q : s.queue.length ≤ 6
  f : s.flight.length ≤ 4
  t : 0 ≤ s.turn ∧ s.turn ≤ 4
  n : 0 ≤ s.next
  nq : s.next + s.queue.length ≤ 40
  m : ∀ m ∈ s.queue, wrongMsg m = 0
  c : ∀ c ∈ s.flight, wrong c = 0 ∧ c.kind = 1 ∧ c.num < s.next
  p : (0 ≤ s.places.a ∧ s.places.a ≤ s.next) ∧ (0 ≤ s.places.b ∧ s.places.b ≤ s.next) ∧ (0 ≤ s.places.c ∧ s.places.c ≤ s.next)

theorem rightMsg {m : Msg} (h : wrongMsg m = 0) : (m.1 = 0 ∨ m.1 = 1 ∨ m.1 = 2) ∧ m.2.length ≤ 6 := by
  unfold wrongMsg at h
  split at h
  · omega
  · split at h <;> omega
theorem sinv0 : SInv sender0 := ⟨by simp [sender0], by simp [sender0], by simp [sender0], by simp [sender0], by simp [sender0], by simp [sender0], by simp [sender0], by simp [sender0, places0]⟩
theorem sinv_put {s : Sender} (h : SInv s) (m : Msg) : SInv (put s m).1 := by
  unfold put
  split
  · exact h
  · rename_i h1
    split
    · exact h
    · split
      · exact h
      · refine ⟨by simp; omega, h.f, h.t, h.n, by simp; omega, ?_, h.c, h.p⟩
        intro x hx
        rcases List.mem_append.1 hx with hx | hx
        · exact h.m x hx
        · rw [List.mem_singleton.1 hx]; exact Decidable.of_not_not h1
/-- The three ways to say. -/
theorem say_is (s : Sender) : (s.queue = [] ∧ s.flight = [] ∧ say s = (s, chunk0, false)) ∨ (∃ m q, s.queue = m :: q ∧ s.flight.length < 4 ∧ say s = sayNew s m q) ∨ (0 < s.flight.length ∧ (s.queue ≠ [] → ¬ s.flight.length < 4) ∧ say s = sayOld s) := by
  unfold say
  cases hq : s.queue with
  | nil =>
    by_cases hf : s.flight = []
    · exact .inl ⟨rfl, hf, if_pos hf⟩
    · exact .inr (.inr ⟨List.length_pos_iff.2 hf, fun h => absurd rfl h, if_neg hf⟩)
  | cons m q =>
    by_cases hf : s.flight.length < 4
    · exact .inr (.inl ⟨m, q, rfl, hf, if_pos hf⟩)
    · exact .inr (.inr ⟨by omega, fun _ => hf, if_neg hf⟩)
theorem sayOld_get {s : Sender} (h : SInv s) (hf : 0 < s.flight.length) : ∃ k : Nat, ∃ hk : k < s.flight.length, s.turn % s.flight.length = k ∧ sayOld s = ({ s with turn := k + 1 }, s.flight[k], true) := by
  have h1 := Int.emod_nonneg s.turn (show (s.flight.length : Int) ≠ 0 by omega)
  have h2 := Int.emod_lt_of_pos s.turn (show (0 : Int) < s.flight.length by omega)
  refine ⟨(s.turn % s.flight.length).toNat, by omega, by omega, ?_⟩
  have h3 : (s.turn % s.flight.length).toNat < s.flight.length := by omega
  unfold sayOld
  simp only [List.getD, List.getElem?_eq_getElem h3, Option.getD_some]
  rw [Int.toNat_of_nonneg h1]
theorem places_bound {s : Sender} (h : SInv s) {m : Msg} (hm : wrongMsg m = 0) : 0 ≤ s.places.get m.1 ∧ s.places.get m.1 ≤ s.next := by
  have hp := h.p
  unfold Places.get
  split
  · exact hp.1
  · split
    · exact hp.2.1
    · exact hp.2.2
theorem new_right {s : Sender} (h : SInv s) {m : Msg} {q : List Msg} (hq : s.queue = m :: q) : wrong (newChunk s m) = 0 := by
  have hm := h.m m (by rw [hq]; simp)
  have hp := places_bound h hm
  have hn := h.n; have hnq := h.nq
  rw [hq] at hnq
  simp only [List.length_cons] at hnq
  unfold newChunk wrong
  rw [if_neg (by simp), if_neg (by simp only; omega), if_pos rfl, if_neg (by simp only; omega), if_neg (by simp)]
  exact hm
theorem sinv_say {s : Sender} (h : SInv s) : SInv (say s).1 := by
  rcases say_is s with ⟨_, _, e⟩ | ⟨m, q, hq, hl, e⟩ | ⟨hl, _, e⟩
  · rw [e]; exact h
  · rw [e]
    have h1 := h.q; have h2 := h.nq; have h3 := h.n; have h4 := h.p
    rw [hq] at h1 h2
    simp only [List.length_cons] at h1 h2
    refine ⟨by simp [sayNew]; omega, by simp [sayNew]; omega, h.t, by simp [sayNew]; omega, by simp [sayNew]; omega, ?_, ?_, ?_⟩
    · intro x hx; exact h.m x (by rw [hq]; exact List.mem_cons_of_mem _ hx)
    · intro c hc
      rcases List.mem_append.1 hc with hc | hc
      · have := h.c c hc
        exact ⟨this.1, this.2.1, by simp only [sayNew]; omega⟩
      · rw [List.mem_singleton.1 hc]
        exact ⟨new_right h hq, rfl, by simp only [sayNew, newChunk]; omega⟩
    · simp only [sayNew, Places.bump]
      split
      · simp only; omega
      · split
        · simp only; omega
        · simp only; omega
  · obtain ⟨k, hk, _, e2⟩ := sayOld_get h hl
    rw [e, e2]
    have := h.f
    exact ⟨h.q, h.f, by simp only; omega, h.n, h.nq, h.m, h.c, h.p⟩
theorem sinv_hear {s : Sender} (h : SInv s) (c : Chunk) : SInv (hear s c) := by
  unfold hear
  split
  · exact h
  · refine ⟨h.q, ?_, h.t, h.n, h.nq, h.m, ?_, h.p⟩
    · have := List.length_filter_le (fun x => !told c x) s.flight
      have := h.f
      simp only; omega
    · intro x hx
      exact h.c x (List.mem_filter.1 hx).1
/-- What is said is right. -/
theorem say_right {s : Sender} (h : SInv s) (hs : (say s).2.2 = true) : wrong (say s).2.1 = 0 ∧ (say s).2.1.kind = 1 := by
  rcases say_is s with ⟨_, _, e⟩ | ⟨m, q, hq, hl, e⟩ | ⟨hl, _, e⟩
  · rw [e] at hs; cases hs
  · rw [e]; exact ⟨new_right h hq, rfl⟩
  · obtain ⟨k, hk, _, e2⟩ := sayOld_get h hl
    rw [e, e2]
    have := h.c _ (List.getElem_mem hk)
    exact ⟨this.1, this.2.1⟩

/-! A sender, built by picks. -/
def sayN : Nat → Sender → Sender
  | 0, s => s
  | n + 1, s => (say (sayN n s)).1
def bpick (s : Sender) (x : Int) : Sender :=
  if x < 0 then s else if x < 50 then sayN (x % 5).toNat s else if x < 90 then hear s ⟨2, x - 50, 0, 0, [], []⟩ else s
def bstep (s : Sender) (m : Msg) (x : Option Int) : Sender := match x with
  | none => (put s m).1
  | some x => bpick (put s m).1 x
def buildS (ms : List Msg) (xs : List Int) : Nat → Sender
  | 0 => sender0
  | i + 1 => bstep (buildS ms xs i) (ms.getD i (0, [])) xs[i]?
theorem sinv_sayN {s : Sender} (h : SInv s) : ∀ n, SInv (sayN n s)
  | 0 => h
  | n + 1 => sinv_say (sinv_sayN h n)
theorem sinv_bpick {s : Sender} (h : SInv s) (x : Int) : SInv (bpick s x) := by
  unfold bpick
  split
  · exact h
  · split
    · exact sinv_sayN h _
    · split
      · exact sinv_hear h _
      · exact h
theorem sinv_build (ms : List Msg) (xs : List Int) : ∀ i, SInv (buildS ms xs i)
  | 0 => sinv0
  | i + 1 => by
    show SInv (bstep _ _ _)
    unfold bstep
    split
    · exact sinv_put (sinv_build ms xs i) _
    · exact sinv_bpick (sinv_put (sinv_build ms xs i) _) _

/-! What was heard is not said again. -/
def Heard (c : Chunk) (n0 : Int) (s : Sender) : Prop := n0 ≤ s.next ∧ ∀ x ∈ s.flight, x.num < n0 → told c x = false
theorem heard_hear {s : Sender} (h : SInv s) {c : Chunk} (hc : c.kind = 2) : Heard c s.next (hear s c) := by
  unfold hear
  rw [if_neg (by omega)]
  refine ⟨by simp, fun x hx _ => ?_⟩
  have := (List.mem_filter.1 hx).2
  simpa using this
theorem heard_say {s : Sender} {c : Chunk} {n0 : Int} (hs : SInv s) (h : Heard c n0 s) : Heard c n0 (say s).1 := by
  rcases say_is s with ⟨_, _, e⟩ | ⟨m, q, hq, hl, e⟩ | ⟨hl, _, e⟩
  · rw [e]; exact h
  · rw [e]
    refine ⟨by have := h.1; simp only [sayNew]; omega, fun x hx hn => ?_⟩
    rcases List.mem_append.1 hx with hx | hx
    · exact h.2 x hx hn
    · rw [List.mem_singleton.1 hx] at hn
      have := h.1
      simp only [newChunk] at hn; omega
  · obtain ⟨k, hk, _, e2⟩ := sayOld_get hs hl
    rw [e, e2]; exact h
theorem heard_said {s : Sender} {c : Chunk} {n0 : Int} (hs : SInv s) (h : Heard c n0 s) (ho : (say s).2.2 = true) (hn : (say s).2.1.num < n0) : told c (say s).2.1 = false := by
  rcases say_is s with ⟨_, _, e⟩ | ⟨m, q, hq, hl, e⟩ | ⟨hl, _, e⟩
  · rw [e] at ho; cases ho
  · rw [e] at hn ⊢
    have := h.1
    simp only [sayNew, newChunk] at hn; omega
  · obtain ⟨k, hk, _, e2⟩ := sayOld_get hs hl
    rw [e, e2] at hn ⊢
    exact h.2 _ (List.getElem_mem hk) hn
theorem heard_sayN {s : Sender} {c : Chunk} {n0 : Int} (hs : SInv s) (h : Heard c n0 s) : ∀ i, Heard c n0 (sayN i s)
  | 0 => h
  | i + 1 => heard_say (sinv_sayN hs i) (heard_sayN hs h i)
/-- What is said: the next one, or one on the way. -/
theorem said_how {s : Sender} (hs : SInv s) (ho : (say s).2.2 = true) :
    (∃ m q, s.queue = m :: q ∧ wrongMsg m = 0 ∧ say s = sayNew s m q) ∨ ((say s).2.1 ∈ s.flight ∧ (say s).2.1.num < s.next ∧ (say s).1.next = s.next ∧ (say s).1.flight = s.flight ∧ (say s).1.queue = s.queue) := by
  rcases say_is s with ⟨_, _, e⟩ | ⟨m, q, hq, hl, e⟩ | ⟨hl, _, e⟩
  · rw [e] at ho; cases ho
  · exact .inl ⟨m, q, hq, hs.m m (by rw [hq]; simp), e⟩
  · obtain ⟨k, hk, _, e2⟩ := sayOld_get hs hl
    rw [e, e2]
    exact .inr ⟨List.getElem_mem hk, (hs.c _ (List.getElem_mem hk)).2.2, rfl, rfl, rfl⟩
theorem said_not {s : Sender} (hs : SInv s) (ho : (say s).2.2 = false) : s.queue = [] ∧ s.flight = [] ∧ say s = (s, chunk0, false) := by
  rcases say_is s with h | ⟨m, q, hq, hl, e⟩ | ⟨hl, _, e⟩
  · exact h
  · rw [e] at ho; cases ho
  · obtain ⟨k, hk, _, e2⟩ := sayOld_get hs hl
    rw [e, e2] at ho; cases ho
end Go.Proofs.Ytaadloihphpdbaa
