import Derived.Test.YtaadloihphpdbaaTPModel
set_option linter.unusedVariables false
set_option linter.unusedSimpArgs false
/- Chunks, as bytes, and back: in plain terms. -/
namespace Go.Proofs.Ytaadloihphpdbaa
open Go Go.Vc Go.RowKit
theorem u8_of (b : UInt8) : u8 (b.toNat : Int) = b := by
  apply UInt8.toNat_inj.1
  have := zfk (b.toNat : Int)
  have := b.toNat_lt
  omega
theorem wrongMsg_ok {m : Msg} (h : zcl m = 0) : (0 ≤ m.1 ∧ m.1 ≤ 2) ∧ m.2.length ≤ 6 := by
  unfold zcl at h
  split at h
  · cases h
  · split at h
    · cases h
    · omega
theorem wrong_ok {c : Chunk} (h : zdd c = 0) : (0 ≤ c.num ∧ c.num ≤ 40) ∧
    ((c.kind = 1 ∧ c.num ≤ 39 ∧ (0 ≤ c.place ∧ c.place ≤ c.num) ∧ c.early = [] ∧ (0 ≤ c.stream ∧ c.stream ≤ 2) ∧ c.data.length ≤ 6) ∨
     (c.kind = 2 ∧ c.stream = 0 ∧ c.place = 0 ∧ c.data = [] ∧ c.early.length ≤ 3 ∧ rising c.num c.early = true)) := by
  unfold zdd at h
  split at h
  · cases h
  · rename_i h1
    split at h
    · cases h
    · rename_i h2
      refine ⟨by omega, ?_⟩
      split at h
      · rename_i h3
        split at h
        · cases h
        · rename_i h4
          split at h
          · cases h
          · rename_i h5
            obtain ⟨h6, h7⟩ := wrongMsg_ok h
            exact .inl ⟨h3, by omega, by omega, List.eq_nil_of_length_eq_zero (by omega), h6, h7⟩
      · rename_i h3
        split at h
        · cases h
        · rename_i h4
          split at h
          · cases h
          · rename_i h5
            split at h
            · rename_i h6
              exact .inr ⟨by omega, by omega, by omega, List.eq_nil_of_length_eq_zero (by omega), by omega, h6⟩
            · cases h
theorem u8_ints (l : List UInt8) : (ints l).map u8 = l := by
  unfold ints
  rw [List.map_map]
  conv => rhs; rw [← List.map_id l]
  exact List.map_congr_left fun x _ => by simp [u8_of]
theorem body_data {c : Chunk} (hk : c.kind = 1) (he : c.early = []) : body c = u8 1 :: u8 c.num :: u8 c.stream :: u8 c.place :: c.data := by
  unfold body; rw [if_pos hk, hk, he]; simp
theorem body_ack {c : Chunk} (hk : c.kind = 2) : body c = u8 2 :: u8 c.num :: c.early.map u8 := by
  unfold body; rw [if_neg (by omega), hk]; simp
theorem sealed_opened {b : List UInt8} (h : opens b = true) : zfn (zdz b) = b := by
  have h0 := h
  unfold zdz
  rw [if_pos h]
  unfold opens at h0
  exact beq_iff_eq.1 ((Bool.and_eq_true _ _).mp h0).2
theorem body_parsed {x : List UInt8} (hs : short x = false) (hw : zdd (zfh x) = 0) : body (zfh x) = x := by
  match x, hs with
  | k :: n :: r, hs =>
    by_cases hk : k.toNat = 1
    · match r, hs with
      | s :: p :: d, hs =>
        have e : zfh (k :: n :: s :: p :: d) = ⟨1, n.toNat, s.toNat, p.toNat, d, []⟩ := by simp [zfh, hk]
        rw [e, body_data rfl rfl]
        have ek : u8 1 = k := by rw [← u8_of k, hk]; rfl
        simp [u8_of, ek]
      | [], hs => simp [short, hk] at hs
      | [a], hs => simp [short, hk] at hs
    · have e : zfh (k :: n :: r) = ⟨k.toNat, n.toNat, 0, 0, [], ints r⟩ := by simp [zfh, hk]
      rw [e]
      unfold body
      rw [if_neg (by show ¬ (k.toNat : Int) = 1; omega)]
      simp [u8_of, u8_ints]
  | [], hs => simp [short] at hs
  | [a], hs => simp [short] at hs
theorem bytes_read {b : List UInt8} (h : (read b).2 = 0) : zdd (read b).1 = 0 ∧ bytes (read b).1 = b := by
  unfold read at h ⊢
  by_cases ho : opens b = false
  · rw [if_pos ho] at h; cases h
  · rw [if_neg ho] at h ⊢
    by_cases hs : short (zdz b) = true
    · rw [if_pos hs] at h; cases h
    · rw [if_neg hs] at h ⊢
      by_cases hw : zdd (zfh (zdz b)) ≠ 0
      · rw [if_pos hw] at h; exact absurd h hw
      · rw [if_neg hw]
        have hw' : zdd (zfh (zdz b)) = 0 := Classical.byContradiction hw
        refine ⟨hw', ?_⟩
        show zfn (body (zfh (zdz b))) = b
        rw [body_parsed (by simpa using hs) hw', sealed_opened (by simpa using ho)]
end Go.Proofs.Ytaadloihphpdbaa

/- The sender, as pure data: what always holds of it. No program in sight. -/
namespace Go.Proofs.Ytaadloihphpdbaa
open Go Go.Vc
structure SInv (s : Sender) : Prop where
  q : s.queue.length ≤ 6
  f : s.flight.length ≤ 4
  t : 0 ≤ s.turn ∧ s.turn ≤ 4
  n : 0 ≤ s.next
  nq : s.next + s.queue.length ≤ 40
  m : ∀ m ∈ s.queue, zcl m = 0
  c : ∀ c ∈ s.flight, zdd c = 0 ∧ c.kind = 1 ∧ c.num < s.next
  p : (0 ≤ s.places.a ∧ s.places.a ≤ s.next) ∧ (0 ≤ s.places.b ∧ s.places.b ≤ s.next) ∧ (0 ≤ s.places.c ∧ s.places.c ≤ s.next)
theorem rightMsg {m : Msg} (h : zcl m = 0) : (m.1 = 0 ∨ m.1 = 1 ∨ m.1 = 2) ∧ m.2.length ≤ 6 := by
  unfold zcl at h
  split at h
  · omega
  · split at h <;> omega
theorem sinv0 : SInv sender0 := ⟨by simp [sender0], by simp [sender0], by simp [sender0], by simp [sender0], by simp [sender0], by simp [sender0], by simp [sender0], by simp [sender0, places0]⟩
theorem sinv_put {s : Sender} (h : SInv s) (m : Msg) : SInv (put s m).1 := by
  unfold put
  split
  · exact h
  · rename_i h1
    split
    · exact h
    · split
      · exact h
      · refine ⟨by simp; omega, h.f, h.t, h.n, by simp; omega, ?_, h.c, h.p⟩
        intro x hx
        rcases List.mem_append.1 hx with hx | hx
        · exact h.m x hx
        · rw [List.mem_singleton.1 hx]; exact Decidable.of_not_not h1
theorem say_is (s : Sender) : (s.queue = [] ∧ s.flight = [] ∧ say s = (s, zff, false)) ∨ (∃ m q, s.queue = m :: q ∧ s.flight.length < 4 ∧ say s = sayNew s m q) ∨ (0 < s.flight.length ∧ (s.queue ≠ [] → ¬ s.flight.length < 4) ∧ say s = sayOld s) := by
  unfold say
  cases hq : s.queue with
  | nil =>
    by_cases hf : s.flight = []
    · exact .inl ⟨rfl, hf, if_pos hf⟩
    · exact .inr (.inr ⟨List.length_pos_iff.2 hf, fun h => absurd rfl h, if_neg hf⟩)
  | cons m q =>
    by_cases hf : s.flight.length < 4
    · exact .inr (.inl ⟨m, q, rfl, hf, if_pos hf⟩)
    · exact .inr (.inr ⟨by omega, fun _ => hf, if_neg hf⟩)
theorem sayOld_get {s : Sender} (h : SInv s) (hf : 0 < s.flight.length) : ∃ k : Nat, ∃ hk : k < s.flight.length, s.turn % s.flight.length = k ∧ sayOld s = ({ s with turn := k + 1 }, s.flight[k], true) := by
  have h1 := Int.emod_nonneg s.turn (show (s.flight.length : Int) ≠ 0 by omega)
  have h2 := Int.emod_lt_of_pos s.turn (show (0 : Int) < s.flight.length by omega)
  refine ⟨(s.turn % s.flight.length).toNat, by omega, by omega, ?_⟩
  have h3 : (s.turn % s.flight.length).toNat < s.flight.length := by omega
  unfold sayOld
  simp only [List.getD, List.getElem?_eq_getElem h3, Option.getD_some]
  rw [Int.toNat_of_nonneg h1]
theorem places_bound {s : Sender} (h : SInv s) {m : Msg} (hm : zcl m = 0) : 0 ≤ s.places.get m.1 ∧ s.places.get m.1 ≤ s.next := by
  have hp := h.p
  unfold Places.get
  split
  · exact hp.1
  · split
    · exact hp.2.1
    · exact hp.2.2
theorem new_right {s : Sender} (h : SInv s) {m : Msg} {q : List Msg} (hq : s.queue = m :: q) : zdd (zes s m) = 0 := by
  have hm := h.m m (by rw [hq]; simp)
  have hp := places_bound h hm
  have hn := h.n; have hnq := h.nq
  rw [hq] at hnq
  simp only [List.length_cons] at hnq
  unfold zes zdd
  rw [if_neg (by simp), if_neg (by simp only; omega), if_pos rfl, if_neg (by simp only; omega), if_neg (by simp)]
  exact hm
theorem sinv_say {s : Sender} (h : SInv s) : SInv (say s).1 := by
  rcases say_is s with ⟨_, _, e⟩ | ⟨m, q, hq, hl, e⟩ | ⟨hl, _, e⟩
  · rw [e]; exact h
  · rw [e]
    have h1 := h.q; have h2 := h.nq; have h3 := h.n; have h4 := h.p
    rw [hq] at h1 h2
    simp only [List.length_cons] at h1 h2
    refine ⟨by simp [sayNew]; omega, by simp [sayNew]; omega, h.t, by simp [sayNew]; omega, by simp [sayNew]; omega, ?_, ?_, ?_⟩
    · intro x hx; exact h.m x (by rw [hq]; exact List.mem_cons_of_mem _ hx)
    · intro c hc
      rcases List.mem_append.1 hc with hc | hc
      · have := h.c c hc
        exact ⟨this.1, this.2.1, by simp only [sayNew]; omega⟩
      · rw [List.mem_singleton.1 hc]
        exact ⟨new_right h hq, rfl, by simp only [sayNew, zes]; omega⟩
    · simp only [sayNew, Places.bump]
      split
      · simp only; omega
      · split
        · simp only; omega
        · simp only; omega
  · obtain ⟨k, hk, _, e2⟩ := sayOld_get h hl
    rw [e, e2]
    have := h.f
    exact ⟨h.q, h.f, by simp only; omega, h.n, h.nq, h.m, h.c, h.p⟩
theorem sinv_hear {s : Sender} (h : SInv s) (c : Chunk) : SInv (hear s c) := by
  unfold hear
  split
  · exact h
  · refine ⟨h.q, ?_, h.t, h.n, h.nq, h.m, ?_, h.p⟩
    · have := List.length_filter_le (fun x => !told c x) s.flight
      have := h.f
      simp only; omega
    · intro x hx
      exact h.c x (List.mem_filter.1 hx).1
theorem say_right {s : Sender} (h : SInv s) (hs : (say s).2.2 = true) : zdd (say s).2.1 = 0 ∧ (say s).2.1.kind = 1 := by
  rcases say_is s with ⟨_, _, e⟩ | ⟨m, q, hq, hl, e⟩ | ⟨hl, _, e⟩
  · rw [e] at hs; cases hs
  · rw [e]; exact ⟨new_right h hq, rfl⟩
  · obtain ⟨k, hk, _, e2⟩ := sayOld_get h hl
    rw [e, e2]
    have := h.c _ (List.getElem_mem hk)
    exact ⟨this.1, this.2.1⟩
theorem said_not {s : Sender} (hs : SInv s) (ho : (say s).2.2 = false) : s.queue = [] ∧ s.flight = [] ∧ say s = (s, zff, false) := by
  rcases say_is s with h | ⟨m, q, hq, hl, e⟩ | ⟨hl, _, e⟩
  · exact h
  · rw [e] at ho; cases ho
  · obtain ⟨k, hk, _, e2⟩ := sayOld_get hs hl
    rw [e, e2] at ho; cases ho
end Go.Proofs.Ytaadloihphpdbaa

/- The receiver, as pure data: what always holds of it. No program in sight. -/
namespace Go.Proofs.Ytaadloihphpdbaa
open Go Go.Vc
theorem tell1_len {s t : Tale} (h : tell1 s = some t) : t.1.length + 1 = s.1.length := by
  unfold tell1 at h
  split at h
  · cases h
  · rename_i c hc
    cases h
    have hm : s.1.findIdx (zdy s.2.1) < s.1.length := List.findIdx_lt_length_of_exists ⟨c, List.mem_of_find?_eq_some hc, by simpa using List.find?_some hc⟩
    show (s.1.eraseIdx _).length + 1 = _
    rw [List.length_eraseIdx, if_pos hm]; omega
theorem tellAll_step {s t : Tale} (h : tell1 s = some t) : zew s = zew t := by
  unfold zew
  have := tell1_len h
  rw [← this]
  show (match tell1 s with | none => s | some t => tellN _ t) = _
  rw [h]
theorem tellAll_none {s : Tale} (h : tell1 s = none) : zew s = s := by
  unfold zew
  cases hl : s.1.length with
  | zero => rfl
  | succ n =>
    show (match tell1 s with | none => s | some t => tellN n t) = s
    rw [h]
theorem tellAll_ind {P : Tale → Prop} (hP : ∀ s t, P s → tell1 s = some t → P t) : ∀ (n : Nat) (s : Tale), s.1.length = n → P s → P (zew s) ∧ tell1 (zew s) = none
  | n, s, hn, hs => by
    cases h : tell1 s with
    | none => rw [tellAll_none h]; exact ⟨hs, h⟩
    | some t =>
      rw [tellAll_step h]
      have := tell1_len h
      exact tellAll_ind hP t.1.length t rfl (hP s t hs h)
  termination_by n => n
  decreasing_by omega
theorem tell1_some {s t : Tale} (h : tell1 s = some t) : ∃ k, ∃ hk : k < s.1.length, zdy s.2.1 s.1[k] = true ∧ t = (s.1.eraseIdx k, s.2.1.bump s.1[k].stream, s.2.2 ++ [(s.1[k].stream, s.1[k].data)]) := by
  unfold tell1 at h
  split at h
  · cases h
  · rename_i c hc
    have hm : s.1.findIdx (zdy s.2.1) < s.1.length := List.findIdx_lt_length_of_exists ⟨c, List.mem_of_find?_eq_some hc, by simpa using List.find?_some hc⟩
    have hg : s.1[s.1.findIdx (zdy s.2.1)] = c := by
      have h1 := List.find?_eq_some_iff_getElem.1 hc
      obtain ⟨h2, i, hi, h3, h4⟩ := h1
      have : s.1.findIdx (zdy s.2.1) = i := by
        rw [List.findIdx_eq hi]
        refine ⟨by rw [h3]; exact h2, fun j hj => by simpa using h4 j hj⟩
      subst h3
      congr 1
    refine ⟨_, hm, by rw [hg]; simpa using List.find?_some hc, ?_⟩
    cases h
    rw [hg]
theorem tell1_at {h : List Chunk} {p : Places} {T : List Msg} {k : Nat} (hk : k < h.length) (hr : zdy p h[k] = true) (hf : ∀ j (hj : j < k), zdy p (h[j]'(by omega)) = false) :
    tell1 (h, p, T) = some (h.eraseIdx k, p.bump h[k].stream, T ++ [(h[k].stream, h[k].data)]) := by
  have e1 : h.find? (zdy p) = some h[k] := List.find?_eq_some_iff_getElem.2 ⟨hr, k, hk, rfl, fun j hj => by simpa using hf j hj⟩
  have e2 : h.findIdx (zdy p) = k := by rw [List.findIdx_eq hk]; exact ⟨hr, hf⟩
  unfold tell1
  simp only [e1, e2]
theorem tell1_no {h : List Chunk} {p : Places} {T : List Msg} (hf : ∀ c ∈ h, zdy p c = false) : tell1 (h, p, T) = none := by
  unfold tell1
  have : h.find? (zdy p) = none := List.find?_eq_none.2 fun c hc => by rw [hf c hc]; simp
  simp only [this]
theorem tw_lt {n : Int} : ∀ {l : List Int}, l.Pairwise (· < ·) → ∀ {k : Nat} {x : Int}, l[k]? = some x → (x < n ↔ k < (l.takeWhile fun x => decide (x < n)).length)
  | [], _, k, x, h => by simp at h
  | a :: t, hs, k, x, h => by
    have hs' := List.pairwise_cons.1 hs
    by_cases ha : a < n
    · rw [List.takeWhile_cons_of_pos (by simpa using ha), List.length_cons]
      cases k with
      | zero => simp at h; subst h; simp [ha]
      | succ k =>
        have := tw_lt (n := n) hs'.2 (k := k) (x := x) (by simpa using h)
        omega
    · rw [List.takeWhile_cons_of_neg (by simpa using ha)]
      cases k with
      | zero => simp at h; subst h; simp; omega
      | succ k =>
        have hx : x ∈ t := List.mem_of_getElem? (by simpa using h)
        have := hs'.1 x hx
        simp; omega
theorem tw_mem {n : Int} {l : List Int} (hs : l.Pairwise (· < ·)) : n ∈ l ↔ l[(l.takeWhile fun x => decide (x < n)).length]? = some n := by
  constructor
  · intro h
    obtain ⟨k, hk⟩ := List.mem_iff_getElem?.1 h
    have h1 : ¬ k < (l.takeWhile fun x => decide (x < n)).length := fun e => absurd ((tw_lt hs hk).2 e) (by omega)
    by_cases h2 : (l.takeWhile fun x => decide (x < n)).length = k
    · rw [h2]; exact hk
    · have hkl := (List.getElem?_eq_some_iff.1 hk).1
      have hq : (l.takeWhile fun x => decide (x < n)).length < l.length := by omega
      have hlt := List.pairwise_iff_getElem.1 hs _ _ hq hkl (by omega)
      rw [(List.getElem?_eq_some_iff.1 hk).2] at hlt
      exact absurd ((tw_lt hs (List.getElem?_eq_getElem hq)).1 hlt) (by omega)
  · intro h; exact List.mem_of_getElem? h
theorem bs_yes {n : Int} {l : List Int} (hs : l.Pairwise (· < ·)) {q : Nat} (hq : q = (l.takeWhile fun x => decide (x < n)).length) (h : l[q]? = some n) : l.contains n = true := by
  subst hq; simpa using (tw_mem hs).2 h
theorem bs_no {n : Int} {l : List Int} (hs : l.Pairwise (· < ·)) {q : Nat} (hq : q = (l.takeWhile fun x => decide (x < n)).length) (h : l[q]? ≠ some n) : l.contains n = false := by
  subst hq
  cases hc : l.contains n with
  | false => rfl
  | true => exact absurd ((tw_mem hs).1 (by simpa using hc)) h
theorem insertS_mem {n x : Int} {l : List Int} : x ∈ zdv n l ↔ x = n ∨ x ∈ l := by
  have e := List.takeWhile_append_dropWhile (p := fun x => decide (x < n)) (l := l)
  unfold zdv
  constructor
  · intro h
    rcases List.mem_append.1 h with h | h
    · exact .inr (by rw [← e]; exact List.mem_append_left _ h)
    · rcases List.mem_cons.1 h with h | h
      · exact .inl h
      · exact .inr (by rw [← e]; exact List.mem_append_right _ h)
  · rintro (rfl | h)
    · simp
    · rw [← e] at h
      rcases List.mem_append.1 h with h | h
      · exact List.mem_append_left _ h
      · exact List.mem_append_right _ (List.mem_cons_of_mem _ h)
theorem insertS_length {n : Int} {l : List Int} : (zdv n l).length = l.length + 1 := by
  have e := List.takeWhile_append_dropWhile (p := fun x => decide (x < n)) (l := l)
  unfold zdv
  rw [List.length_append, List.length_cons]
  have := congrArg List.length e
  rw [List.length_append] at this
  omega
theorem insertS_sorted {n : Int} : ∀ {l : List Int}, l.Pairwise (· < ·) → n ∉ l → (zdv n l).Pairwise (· < ·)
  | [], _, _ => by simp [zdv]
  | a :: t, hs, hn => by
    have hs' := List.pairwise_cons.1 hs
    have hne : a ≠ n := fun e => hn (by simp [e])
    have hnt : n ∉ t := fun e => hn (by simp [e])
    by_cases ha : a < n
    · have e : zdv n (a :: t) = a :: zdv n t := by
        unfold zdv
        rw [List.takeWhile_cons_of_pos (by simpa using ha), List.dropWhile_cons_of_pos (by simpa using ha)]; rfl
      rw [e]
      refine List.pairwise_cons.2 ⟨fun x hx => ?_, insertS_sorted hs'.2 hnt⟩
      rcases insertS_mem.1 hx with rfl | hx
      · exact ha
      · exact hs'.1 x hx
    · have e : zdv n (a :: t) = n :: a :: t := by
        unfold zdv
        rw [List.takeWhile_cons_of_neg (by simpa using ha), List.dropWhile_cons_of_neg (by simpa using ha)]; rfl
      rw [e]
      refine List.pairwise_cons.2 ⟨fun x hx => ?_, hs⟩
      rcases List.mem_cons.1 hx with rfl | hx
      · omega
      · have := hs'.1 x hx; omega
theorem strip_cons_eq {x : Int} {l : List Int} : zfb (x :: l) x = zfb l (x + 1) := by show (if x = x then _ else _) = _; rw [if_pos rfl]
theorem zeo {n x : Int} {l : List Int} (h : n ≠ x) : zfb (n :: l) x = (n :: l, x) := by show (if n = x then _ else _) = _; rw [if_neg h]
theorem strip_spec : ∀ {l : List Int} {x : Int}, l.Pairwise (· < ·) → (∀ y ∈ l, x ≤ y ∧ y < 40) → x ≤ 40 →
    (zfb l x).1.Pairwise (· < ·) ∧ (∀ y ∈ (zfb l x).1, (zfb l x).2 < y ∧ y < 40 ∧ y ∈ l) ∧ (zfb l x).2 ≤ 40 ∧ x ≤ (zfb l x).2 ∧ (zfb l x).2 + (zfb l x).1.length = x + l.length ∧ (x ∈ l → x < (zfb l x).2) ∧
      ∀ y, (x ≤ y ∧ y < (zfb l x).2 ∨ y ∈ (zfb l x).1) ↔ y ∈ l
  | [], x, _, _, hx => ⟨List.Pairwise.nil, by simp [zfb], hx, Int.le_refl _, rfl, by simp, fun y => by simp [zfb]⟩
  | n :: l, x, hs, hy, hx => by
    have hs' := List.pairwise_cons.1 hs
    by_cases hn : n = x
    · subst hn
      rw [strip_cons_eq]
      have hb := hy n (by simp)
      obtain ⟨h1, h2, h3, h4, h5, h6, h7⟩ := strip_spec (l := l) (x := n + 1) hs'.2 (fun y hy' => ⟨by have := hs'.1 y hy'; omega, (hy y (by simp [hy'])).2⟩) (by omega)
      refine ⟨h1, fun y hy' => ⟨(h2 y hy').1, (h2 y hy').2.1, by simp [(h2 y hy').2.2]⟩, h3, by omega, by rw [h5, List.length_cons]; omega, fun _ => by omega, fun y => ?_⟩
      rw [List.mem_cons, ← h7 y]
      constructor
      · rintro (h | h)
        · by_cases hyn : y = n
          · exact .inl hyn
          · exact .inr (.inl ⟨by omega, h.2⟩)
        · exact .inr (.inr h)
      · rintro (rfl | h | h)
        · exact .inl ⟨by omega, by omega⟩
        · exact .inl ⟨by omega, h.2⟩
        · exact .inr h
    · rw [zeo hn]
      have hb := hy n (by simp)
      refine ⟨hs, fun y hy' => ?_, hx, Int.le_refl _, rfl, fun hm => ?_, fun y => ?_⟩
      · have := hy y hy'
        refine ⟨?_, this.2, hy'⟩
        rcases List.mem_cons.1 hy' with rfl | h
        · show x < y
          omega
        · have := hs'.1 y h
          show x < y
          omega
      · rcases List.mem_cons.1 hm with h | h
        · exact absurd h.symm hn
        · have := hs'.1 x h
          omega
      · constructor
        · rintro (h | h)
          · have h2 : y < x := h.2
            omega
          · exact h
        · exact .inr
theorem sorted_len : ∀ {l : List Int} {a b : Int}, l.Pairwise (· < ·) → (∀ y ∈ l, a < y ∧ y < b) → a < b → a + l.length < b
  | [], _, _, _, _, h => by simpa using h
  | n :: l, a, b, hs, hy, h => by
    have hs' := List.pairwise_cons.1 hs
    have hb := hy n (by simp)
    have := sorted_len (l := l) (a := n) (b := b) hs'.2 (fun y hy' => ⟨hs'.1 y hy', (hy y (by simp [hy'])).2⟩) hb.2
    rw [List.length_cons]; omega
structure RInv (r : Receiver) : Prop where
  n : 0 ≤ r.next ∧ r.next ≤ 40
  s : r.early.Pairwise (· < ·)
  e : ∀ x ∈ r.early, r.next < x ∧ x < 40
  el : r.early.length ≤ 3
  t : (r.told.length : Int) + r.hold.length = r.next + r.early.length
  p : 0 ≤ r.places.a ∧ 0 ≤ r.places.b ∧ 0 ≤ r.places.c ∧ r.places.a + r.places.b + r.places.c = r.told.length
  h : ∀ c ∈ r.hold, zdd c = 0 ∧ c.kind = 1
theorem RInv.nl {r : Receiver} (h : RInv r) : r.next + r.early.length ≤ 40 := by
  cases he : r.early with
  | nil => have := h.n; simp; omega
  | cons y t =>
    have hb := h.e y (by rw [he]; simp)
    have := sorted_len (l := r.early) (a := r.next) (b := 40) h.s h.e (by omega)
    rw [he] at this; omega
theorem rinv0 : RInv zer := ⟨by simp [zer], by simp [zer], by simp [zer], by simp [zer], by simp [zer], by simp [zer, places0], by simp [zer]⟩
structure MChunk (c : Chunk) : Prop where
  k : c.kind = 1
  w : zdd c = 0
theorem MChunk.num {c : Chunk} (h : MChunk c) : 0 ≤ c.num ∧ c.num ≤ 39 ∧ c.early = [] ∧ zcl (c.stream, c.data) = 0 ∧ 0 ≤ c.place ∧ c.place ≤ c.num := by
  have hk := h.k; have hw := h.w
  unfold zdd at hw
  rw [if_neg (by omega)] at hw
  split at hw
  · omega
  · split at hw
    · omega
    · split at hw
      · omega
      · rename_i h1 h2 h3
        exact ⟨by omega, by omega, List.eq_nil_of_length_eq_zero (by omega), hw, by omega, by omega⟩
theorem stream3 {c : Chunk} (h : zdd c = 0) (hk : c.kind = 1) : c.stream = 0 ∨ c.stream = 1 ∨ c.stream = 2 := by
  have := (MChunk.num ⟨hk, h⟩).2.2.2.1
  unfold zcl at this
  split at this
  · omega
  · simp only at *; omega
def TaleOk (N : Int) (s : Tale) : Prop := (s.2.2.length : Int) + s.1.length = N ∧ (0 ≤ s.2.1.a ∧ 0 ≤ s.2.1.b ∧ 0 ≤ s.2.1.c ∧ s.2.1.a + s.2.1.b + s.2.1.c = s.2.2.length) ∧ ∀ c ∈ s.1, zdd c = 0 ∧ c.kind = 1
theorem taleOk_step {N : Int} {s t : Tale} (h : TaleOk N s) (ht : tell1 s = some t) : TaleOk N t := by
  obtain ⟨k, hk, hr, rfl⟩ := tell1_some ht
  obtain ⟨h1, h2, h3⟩ := h
  have hl := tell1_len ht
  simp only at hl
  refine ⟨by simp only [List.length_append, List.length_singleton]; omega, ?_, fun c hc => h3 c (List.mem_of_mem_eraseIdx hc)⟩
  simp only [List.length_append, List.length_singleton, Places.bump]
  split
  · simp only; omega
  · split
    · simp only; omega
    · simp only; omega
theorem rinv_hear {r : Receiver} (h : RInv r) {c : Chunk} (hc : zdd c = 0) : RInv (rhear r c) := by
  unfold rhear
  split
  · exact h
  · rename_i hk
    have hk : c.kind = 1 := Decidable.of_not_not hk
    split
    · exact ⟨h.n, h.s, h.e, h.el, h.t, h.p, h.h⟩
    · rename_i hr
      unfold refuses at hr
      have hm := MChunk.num ⟨hk, hc⟩
      have hn := h.n
      have hnl := h.nl
      have hne : c.num ∉ r.early := fun e => hr (.inr (.inl e))
      have hge : r.next ≤ c.num := by
        by_cases hx : c.num < r.next
        · exact absurd (.inl hx) hr
        · omega
      obtain ⟨g1, g2, g3, g4, g5, g6, g7⟩ := strip_spec (l := zdv c.num r.early) (x := r.next) (insertS_sorted h.s hne) (fun y hy => by
        rcases insertS_mem.1 hy with rfl | hy
        · exact ⟨hge, by omega⟩
        · have := h.e y hy; omega) hn.2
      rw [insertS_length] at g5
      have ht := h.t
      obtain ⟨⟨t1, t2, t3⟩, _⟩ := tellAll_ind (P := TaleOk (r.next + r.early.length + 1)) (fun s t => taleOk_step) _ (r.hold ++ [c], r.places, r.told) rfl
        ⟨by simp only [List.length_append, List.length_singleton]; omega, h.p, fun x hx => by
          rcases List.mem_append.1 hx with hx | hx
          · exact h.h x hx
          · rw [List.mem_singleton.1 hx]; exact ⟨hc, hk⟩⟩
      refine ⟨⟨by simp only [takes]; omega, g3⟩, g1, fun x hx => ⟨(g2 x hx).1, (g2 x hx).2.1⟩, ?_, ?_, t2, t3⟩
      · simp only [takes]
        have hel := h.el
        by_cases hx : c.num = r.next
        · have := g6 (by rw [← hx]; exact insertS_mem.2 (.inl rfl))
          omega
        · have : ¬ 2 < r.early.length := fun e => hr (.inr (.inr ⟨by omega, e⟩))
          omega
      · simp only [takes]; omega
theorem rinv_say {r : Receiver} (h : RInv r) : RInv (rsay r).1 := by
  unfold rsay
  split
  · exact ⟨h.n, h.s, h.e, h.el, h.t, h.p, h.h⟩
  · exact h
end Go.Proofs.Ytaadloihphpdbaa

/- A lane, as pure data: whatever is lost, comes twice, or late, what is told is the beginning of what was put, stream by stream. No program in sight. -/
namespace Go.Proofs.Ytaadloihphpdbaa
open Go Go.Vc
def cnt (st : Int) (H : List Msg) (k : Nat) : Nat := (zct st (H.take k)).length
def chk (H : List Msg) (k : Nat) : Chunk := ⟨1, k, (H.getD k (0, [])).1, cnt (H.getD k (0, [])).1 H k, (H.getD k (0, [])).2, []⟩
structure HOk (H : List Msg) : Prop where
  len : H.length ≤ 40
  right : ∀ m ∈ H, zcl m = 0
theorem HOk.st {H : List Msg} (h : HOk H) {k : Nat} (hk : k < H.length) : H[k].1 = 0 ∨ H[k].1 = 1 ∨ H[k].1 = 2 := (rightMsg (h.right _ (List.getElem_mem hk))).1
def got (r : Receiver) (x : Int) : Prop := x < r.next ∨ x ∈ r.early
structure TInv (H : List Msg) (R : Nat → Prop) (s : Tale) : Prop where
  hold : ∀ c ∈ s.1, ∃ k, ∃ hk : k < H.length, c = chk H k ∧ R k ∧ s.2.1.get H[k].1 ≤ cnt H[k].1 H k
  nd : s.1.Pairwise (· ≠ ·)
  rc : ∀ k (hk : k < H.length), (cnt H[k].1 H k : Int) < s.2.1.get H[k].1 → R k
  all : ∀ k (hk : k < H.length), R k → (cnt H[k].1 H k : Int) < s.2.1.get H[k].1 ∨ chk H k ∈ s.1
  tl : ∀ st, (st = 0 ∨ st = 1 ∨ st = 2) → 0 ≤ s.2.1.get st ∧ s.2.1.get st ≤ (zct st H).length ∧ zct st s.2.2 = (zct st H).take (s.2.1.get st).toNat
structure ROk (H : List Msg) (r : Receiver) : Prop where
  inv : RInv r
  lt : ∀ x : Int, 0 ≤ x → got r x → x < H.length
  tale : TInv H (fun k => got r k) (r.hold, r.places, r.told)
  no : tell1 (r.hold, r.places, r.told) = none
structure SHist (H : List Msg) (s : Sender) : Prop where
  inv : SInv s
  len : (H.length : Int) = s.next + s.queue.length
  q : s.queue = H.drop s.next.toNat
  fl : ∀ c ∈ s.flight, ∃ k : Nat, (k : Int) < s.next ∧ c = chk H k
  pl : ∀ st, (st = 0 ∨ st = 1 ∨ st = 2) → s.places.get st = cnt st H s.next.toNat
theorem SHist.hd {H : List Msg} {s : Sender} (h : SHist H s) {m : Msg} {q : List Msg} (hq : s.queue = m :: q) : ∃ hk : s.next.toNat < H.length, H[s.next.toNat] = m ∧ q = H.drop (s.next.toNat + 1) := by
  have h1 := h.len; have h2 := h.inv.n; have h3 := h.q
  rw [hq] at h1 h3
  simp only [List.length_cons] at h1
  have hk : s.next.toNat < H.length := by omega
  rw [List.drop_eq_getElem_cons hk] at h3
  injection h3 with h4 h5
  exact ⟨hk, h4.symm, h5⟩
def genuine (H : List Msg) (n : Int) (p : List UInt8) : Prop := ∃ k : Nat, (k : Int) < n ∧ p = bytes (chk H k)
def answer (r : Receiver) (p : List UInt8) : Prop := ∃ c : Chunk, c.kind = 2 ∧ zdd c = 0 ∧ p = bytes c ∧ ∀ x : Int, 0 ≤ x → x < c.num ∨ x ∈ c.early → got r x
structure LInv (sp : Bool) (H : List Msg) (l : Lane) : Prop where
  h : HOk H
  s : SHist H l.s
  r : ROk H l.r
  lt : ∀ x : Int, 0 ≤ x → got l.r x → x < l.s.next
  ack : ∀ k : Nat, (k : Int) < l.s.next → got l.r k ∨ chk H k ∈ l.s.flight
  there : ∀ p ∈ l.there, genuine H l.s.next p ∨ (sp = true ∧ (read p).2 ≠ 0)
  back : ∀ p ∈ l.back, answer l.r p ∨ (sp = true ∧ (read p).2 ≠ 0)
theorem LInv.nl {sp : Bool} {H : List Msg} {l : Lane} (h : LInv sp H l) : l.s.next ≤ H.length := by
  have := h.s.len; omega
theorem mem_putP {l : zcc} {b p : List UInt8} (h : p ∈ putP l b) : p ∈ l ∨ p = b := by
  unfold putP at h
  split at h
  · exact .inl h
  · rcases List.mem_append.1 h with h | h
    · exact .inl h
    · exact .inr (List.mem_singleton.1 h)
theorem rising_of : ∀ {l : List Int} {n : Int}, l.Pairwise (· < ·) → (∀ x ∈ l, n < x ∧ x < 40) → rising n l = true
  | [], _, _, _ => rfl
  | a :: t, n, hs, hb => by
    have hs' := List.pairwise_cons.1 hs
    have h1 := hb a (by simp)
    have h2 := rising_of (l := t) (n := a) hs'.2 (fun x hx => ⟨hs'.1 x hx, (hb x (by simp [hx])).2⟩)
    simp [rising, h1.1, h1.2, h2]
theorem ack_right {r : Receiver} (h : RInv r) : zdd ⟨2, r.next, 0, 0, [], r.early⟩ = 0 := by
  have h1 := h.n; have h2 := h.el
  have h3 := rising_of h.s h.e
  unfold zdd
  rw [if_neg (by simp), if_neg (by simp only; omega), if_neg (by simp), if_neg (by simp), if_neg (by simp; omega), if_pos h3]
theorem getD_mem {P : zcc} {k : Nat} (hk : k < P.length) : P.getD k [] ∈ P := by
  have : P.getD k [] = P[k] := by simp [List.getD, List.getElem?_eq_getElem hk]
  rw [this]; exact List.getElem_mem hk
theorem mem_set {P : zcc} {k : Nat} {q p : List UInt8} (h : p ∈ P.set k q) : p ∈ P ∨ p = q := List.mem_or_eq_of_mem_set h
end Go.Proofs.Ytaadloihphpdbaa

/- Worlds, as pure data: what always holds; what a step does to one lane alone; what a tenant put. No program in sight. -/
namespace Go.Proofs.Ytaadloihphpdbaa
open Go Go.Vc
structure BInv (l : Lane) : Prop where
  s : SInv l.s
  r : RInv l.r
  there : l.there.length ≤ 6 ∧ ∀ p ∈ l.there, p.length ≤ 16
  back : l.back.length ≤ 6 ∧ ∀ p ∈ l.back, p.length ≤ 16
theorem binv0 : BInv zdq := ⟨sinv0, rinv0, by simp [zdq], by simp [zdq]⟩
theorem bytes_le {c : Chunk} (h : zdd c = 0) : (bytes c).length ≤ 12 := by
  unfold bytes
  rw [sealed_length]
  obtain ⟨hn, ⟨hk, h39, hp, he, hs, hd⟩ | ⟨hk, hs, hp, hd, hl, hr⟩⟩ := wrong_ok h
  · rw [body_data hk he]; simp; omega
  · rw [body_ack hk]; simp; omega
def POk (P : zcc) : Prop := P.length ≤ 6 ∧ ∀ p ∈ P, p.length ≤ 16
theorem pok_put {P : zcc} (h : POk P) {b : List UInt8} (hb : b.length ≤ 16) : POk (putP P b) := by
  refine ⟨?_, fun p hp => ?_⟩
  · unfold putP
    split
    · exact h.1
    · rw [List.length_append]; simp; omega
  · rcases mem_putP hp with e | e
    · exact h.2 p e
    · rw [e]; exact hb
theorem pok_erase {P : zcc} (h : POk P) (k : Nat) : POk (P.eraseIdx k) :=
  ⟨Nat.le_trans (List.eraseIdx_sublist _ _).length_le h.1, fun p hp => h.2 p (List.mem_of_mem_eraseIdx hp)⟩
theorem pok_set {P : zcc} (h : POk P) (k : Nat) {b : List UInt8} (hb : b.length ≤ 16) : POk (P.set k b) :=
  ⟨by rw [List.length_set]; exact h.1, fun p hp => (mem_set hp).elim (h.2 p) fun e => by rw [e]; exact hb⟩
theorem BInv.way {l : Lane} (h : BInv l) (b : Bool) : POk (way l b) := by cases b; exact h.there; exact h.back
theorem binv_with {l : Lane} (h : BInv l) (b : Bool) {P : zcc} (hP : POk P) : BInv (withP l b P) := by
  cases b
  · exact ⟨h.s, h.r, hP, h.back⟩
  · exact ⟨h.s, h.r, h.there, hP⟩
theorem binv_speak {l : Lane} (h : BInv l) : BInv (speak l) := by
  refine ⟨sinv_say h.s, rinv_say h.r, ?_, ?_⟩
  · show POk (if (say l.s).2.2 then putP l.there (bytes (say l.s).2.1) else l.there)
    split
    · rename_i ho
      have := bytes_le (say_right h.s ho).1
      exact pok_put h.there (by omega)
    · exact h.there
  · show POk (if (rsay l.r).2.2 then putP l.back (bytes (rsay l.r).2.1) else l.back)
    split
    · rename_i ho
      have e3 : (rsay l.r).2.1 = ⟨2, l.r.next, 0, 0, [], l.r.early⟩ := by
        unfold rsay at ho ⊢
        split
        · rfl
        · rename_i hx; rw [if_neg hx] at ho; cases ho
      have := bytes_le (ack_right h.r)
      exact pok_put h.back (by rw [e3]; omega)
    · exact h.back
theorem binv_comes {l : Lane} (h : BInv l) (k : Nat) (b : Bool) : BInv (comes l k b) := by
  have hw := binv_with h b (pok_erase (h.way b) k)
  unfold comes
  simp only
  split
  · exact hw
  · rename_i hr
    have hr : (read ((Go.Proofs.Ytaadloihphpdbaa.way l b).getD k [])).2 = 0 := Decidable.of_not_not hr
    have hc := (bytes_read hr).1
    split
    · exact ⟨sinv_hear hw.s _, hw.r, hw.there, hw.back⟩
    · exact ⟨hw.s, rinv_hear hw.r hc, hw.there, hw.back⟩
theorem binv_packet {l : Lane} (h : BInv l) (kind n a : Int) (b : Bool) : BInv (zcu l kind n a b).1 := by
  unfold zcu
  simp only
  split
  · exact h
  · rename_i h1
    have hk : n.toNat < (Go.Proofs.Ytaadloihphpdbaa.way l b).length := by omega
    have hp := (h.way b).2 _ (getD_mem hk)
    split
    · exact binv_with h b (pok_erase (h.way b) _)
    · split
      · exact binv_with h b (pok_put (h.way b) hp)
      · split
        · split
          · exact h
          · refine binv_with h b (pok_set (h.way b) _ ?_)
            unfold spoilAt; rw [List.length_set]; exact hp
        · exact binv_comes h _ _
theorem binv_step {l : Lane} (h : BInv l) (s : Step) : BInv (zdx l s).1 := by
  unfold zdx
  split
  · exact ⟨sinv_put h.s _, h.r, h.there, h.back⟩
  · exact binv_packet h _ _ _ _
def lstep (n t : Nat) (x : Lane × Int) (s : Step) : Lane × Int :=
  if s.kind = 1 then (if (x.2 % n).toNat = t then speak x.1 else x.1, x.2 + 1)
  else if (1 ≤ s.kind ∧ s.kind ≤ 6) ∧ s.tenant = t then ((zdx x.1 s).1, x.2) else x
def atL (w : World') (t : Nat) : Lane × Int := (w.lanes.getD t zdq, w.ticks)
theorem getD_set {l : List Lane} {i t : Nat} {a : Lane} (ht : t < l.length) : (l.set i a).getD t zdq = if i = t then a else l.getD t zdq := by
  simp only [List.getD, List.getElem?_set]
  by_cases h : i = t
  · subst h; simp [ht]
  · simp [h]
theorem doStep_len (w : World') (s : Step) : (zcw w s).1.lanes.length = w.lanes.length := by
  unfold zcw
  split
  · rfl
  · split
    · simp
    · split
      · rfl
      · simp
theorem doStep_at {w : World'} {s : Step} {t : Nat} (ht : t < w.lanes.length) : atL (zcw w s).1 t = lstep w.lanes.length t (atL w t) s := by
  unfold zcw lstep
  by_cases h1 : s.kind < 1 ∨ 6 < s.kind
  · rw [if_pos h1, if_neg (by omega), if_neg (by omega)]
  · rw [if_neg h1]
    by_cases h2 : s.kind = 1
    · rw [if_pos h2, if_pos h2]
      show (((w.lanes.set (whose w) _).getD t zdq, w.ticks + 1) : Lane × Int) = _
      rw [getD_set ht]
      show _ = ((if whose w = t then speak (w.lanes.getD t zdq) else w.lanes.getD t zdq), w.ticks + 1)
      by_cases h3 : whose w = t
      · rw [if_pos h3, if_pos h3, h3]
      · rw [if_neg h3, if_neg h3]
    · rw [if_neg h2, if_neg h2]
      by_cases h3 : s.tenant < 0 ∨ (w.lanes.length : Int) ≤ s.tenant
      · rw [if_pos h3, if_neg (by omega)]
      · rw [if_neg h3]
        show (((w.lanes.set s.tenant.toNat _).getD t zdq, w.ticks) : Lane × Int) = _
        rw [getD_set ht]
        by_cases h4 : s.tenant = t
        · have h5 : s.tenant.toNat = t := by omega
          rw [if_pos h5, if_pos ⟨by omega, h4⟩, h5]; rfl
        · rw [if_neg (by omega), if_neg (by omega)]; rfl
theorem plays_len : ∀ (l : List Step) (w : World'), (zet w l).1.lanes.length = w.lanes.length
  | [], w => rfl
  | s :: r, w => (plays_len r _).trans (doStep_len w s)
theorem plays_es : ∀ (l : List Step) (w : World'), (zet w l).2.length = l.length
  | [], w => rfl
  | s :: r, w => by show (_ :: (zet _ r).2).length = _; rw [List.length_cons, plays_es r, List.length_cons]
theorem plays_at {t : Nat} : ∀ (l : List Step) (w : World'), t < w.lanes.length → atL (zet w l).1 t = l.foldl (lstep w.lanes.length t) (atL w t)
  | [], w, ht => rfl
  | s :: r, w, ht => by
    show atL (zet (zcw w s).1 r).1 t = r.foldl _ (lstep _ t (atL w t) s)
    rw [plays_at r _ (by rw [doStep_len]; exact ht), doStep_len, doStep_at ht]
structure WOk (w : World') : Prop where
  len : 1 ≤ w.lanes.length ∧ w.lanes.length ≤ 3
  tk : 0 ≤ w.ticks
  b : ∀ l ∈ w.lanes, BInv l
theorem WOk.get {w : World'} (h : WOk w) {t : Nat} (ht : t < w.lanes.length) : BInv (w.lanes.getD t zdq) := by
  have : w.lanes.getD t zdq = w.lanes[t] := by simp [List.getD, List.getElem?_eq_getElem ht]
  rw [this]; exact h.b _ (List.getElem_mem ht)
theorem WOk.whose {w : World'} (h : WOk w) : whose w < w.lanes.length := by
  unfold Go.Proofs.Ytaadloihphpdbaa.whose
  have h1 := h.len
  have := Int.emod_lt_of_pos w.ticks (show (0 : Int) < w.lanes.length by omega)
  omega
theorem wok_set {w : World'} (h : WOk w) {t : Nat} {l : Lane} {k : Int} (hl : BInv l) (hk : 0 ≤ k) : WOk ⟨w.lanes.set t l, k⟩ := by
  refine ⟨by simp only [List.length_set]; exact h.len, hk, fun x hx => ?_⟩
  rcases List.mem_or_eq_of_mem_set hx with e | e
  · exact h.b x e
  · rw [e]; exact hl
theorem wok_do {w : World'} (h : WOk w) (s : Step) : WOk (zcw w s).1 := by
  unfold zcw
  have ht := h.tk
  split
  · exact h
  · split
    · exact wok_set h (binv_speak (h.get h.whose)) (by omega)
    · split
      · exact h
      · exact wok_set h (binv_step (h.get (by omega)) s) ht
theorem wok_plays : ∀ (l : List Step) {w : World'}, WOk w → WOk (zet w l).1
  | [], w, h => h
  | s :: r, w, h => wok_plays r (wok_do h s)
theorem doStep_ticks (w : World') (s : Step) : (zcw w s).1.ticks = w.ticks + if s.kind = 1 then 1 else 0 := by
  unfold zcw
  split
  · rw [if_neg (by omega)]; simp
  · split
    · rfl
    · split <;> simp
theorem plays_ticks : ∀ (l : List Step) (w : World'), w.ticks ≤ (zet w l).1.ticks ∧ (zet w l).1.ticks ≤ w.ticks + l.length
  | [], w => by simp [zet]
  | s :: r, w => by
    have h1 := plays_ticks r (zcw w s).1
    have h2 := doStep_ticks w s
    rw [h2] at h1
    show _ ≤ (zet (zcw w s).1 r).1.ticks ∧ (zet (zcw w s).1 r).1.ticks ≤ _
    rw [List.length_cons]
    split at h1 <;> omega
theorem new_is {n : Int} (h1 : 1 ≤ n) (h3 : n ≤ 3) : zde n = ⟨List.replicate n.toNat zdq, 0⟩ := by unfold zde; rw [if_neg (by omega)]
theorem wok_new {n : Int} (h1 : 1 ≤ n) (h3 : n ≤ 3) : WOk (zde n) := by
  rw [new_is h1 h3]
  refine ⟨by simp only [List.length_replicate]; omega, Int.le_refl _, fun l hl => ?_⟩
  rw [List.eq_of_mem_replicate hl]; exact binv0
theorem new_len {n : Int} (h1 : 1 ≤ n) (h3 : n ≤ 3) : (zde n).lanes.length = n.toNat := by rw [new_is h1 h3]; simp
theorem new_at {n : Int} (h1 : 1 ≤ n) (h3 : n ≤ 3) {t : Nat} (ht : t < n.toNat) : atL (zde n) t = (zdq, 0) := by
  rw [new_is h1 h3]
  show ((List.replicate n.toNat zdq).getD t zdq, (0 : Int)) = _
  simp [List.getD, ht]
theorem wok_play {n : Int} (h1 : 1 ≤ n) (h3 : n ≤ 3) (l : List Step) : WOk (play n l).1 := wok_plays _ (wok_new h1 h3)
theorem play_len {n : Int} (h1 : 1 ≤ n) (h3 : n ≤ 3) (l : List Step) : (play n l).1.lanes.length = n.toNat := (plays_len _ _).trans (new_len h1 h3)
theorem play_at {n : Int} (h1 : 1 ≤ n) (h3 : n ≤ 3) (l : List Step) {t : Nat} (ht : t < n.toNat) : atL (play n l).1 t = (l.take 160).foldl (lstep n.toNat t) (zdq, 0) := by
  unfold play
  rw [plays_at _ _ (by rw [new_len h1 h3]; exact ht), new_len h1 h3, new_at h1 h3 ht]
theorem play_ticks {n : Int} (h1 : 1 ≤ n) (h3 : n ≤ 3) (l : List Step) : 0 ≤ (play n l).1.ticks ∧ (play n l).1.ticks ≤ 160 := by
  have := plays_ticks (l.take 160) (zde n)
  have e : (zde n).ticks = 0 := by rw [new_is h1 h3]
  have := List.length_take_le 160 l
  unfold play
  omega
def mineB (t : Int) (s : Step) : Bool := decide (s.kind = 1) || decide (s.tenant = t)
def zdp (t : Int) (l : List Step) : List Step := l.filter (mineB t)
theorem lstep_other {n t : Nat} {x : Lane × Int} {s : Step} (h : mineB t s = false) : lstep n t x s = x := by
  unfold mineB at h
  simp only [Bool.or_eq_false_iff, decide_eq_false_iff_not] at h
  unfold lstep
  rw [if_neg h.1, if_neg (fun e => h.2 e.2)]
theorem foldl_only {n t : Nat} : ∀ (l : List Step) (x : Lane × Int), (zdp t l).foldl (lstep n t) x = l.foldl (lstep n t) x
  | [], x => rfl
  | s :: r, x => by
    unfold zdp
    cases h : mineB t s with
    | true => rw [List.filter_cons_of_pos h]; exact foldl_only r _
    | false =>
      rw [List.filter_cons_of_neg (by rw [h]; decide), List.foldl_cons, lstep_other h]
      exact foldl_only r x
theorem onlyOf_len (t : Int) (l : List Step) : (zdp t l).length ≤ l.length := List.length_filter_le _ _
theorem play_same {n : Int} (h1 : 1 ≤ n) (h3 : n ≤ 3) {l m : List Step} {t : Nat} (ht : t < n.toNat) (hl : l.length ≤ 160) (hm : m.length ≤ 160) (h : zdp t l = zdp t m) :
    atL (play n l).1 t = atL (play n m).1 t := by
  rw [play_at h1 h3 l ht, play_at h1 h3 m ht, List.take_of_length_le hl, List.take_of_length_le hm, ← foldl_only l, ← foldl_only m, h]
end Go.Proofs.Ytaadloihphpdbaa

/- Fair rounds, as pure data: in so many of them each lane is idle, or nothing will ever come of it. No program in sight. -/
namespace Go.Proofs.Ytaadloihphpdbaa
open Go Go.Vc
theorem way_with (l : Lane) (b : Bool) (P : zcc) : way (withP l b P) b = P ∧ way (withP l b P) (!b) = way l (!b) := by cases b <;> exact ⟨rfl, rfl⟩
theorem way_comes (l : Lane) (k : Nat) (b : Bool) : way (comes l k b) b = (way l b).eraseIdx k ∧ way (comes l k b) (!b) = way l (!b) := by
  unfold comes
  simp only
  split
  · exact way_with l b _
  · cases b <;> exact ⟨rfl, rfl⟩
theorem drain_step (n : Nat) (b : Bool) (l : Lane) : drain (n + 1) b l = if way l b = [] then l else drain n b (comes l 0 b) := rfl
theorem binv_drain (b : Bool) : ∀ (n : Nat) {l : Lane}, BInv l → BInv (drain n b l)
  | 0, l, h => h
  | n + 1, l, h => by
    rw [drain_step]
    split
    · exact h
    · exact binv_drain b n (binv_comes h 0 b)
theorem binv_settle {l : Lane} (h : BInv l) : BInv (zcn l) := binv_drain _ _ (binv_drain _ _ h)
def gotB (r : Receiver) (x : Int) : Bool := decide (x < r.next) || r.early.contains x
theorem drain0 {b : Bool} {l : Lane} (h : way l b = []) : zej b l = l := by unfold zej; rw [h]; rfl
def idleS (s : Sender) : Prop := s.queue = [] ∧ s.flight = []
def blocked (s : Sender) (r : Receiver) : Prop := 2 < r.early.length ∧ r.next < s.next ∧ (∀ c ∈ s.flight, c.num ≠ r.next) ∧ ∃ c ∈ s.flight, gotB r c.num = false
def fin (s : Sender) (r : Receiver) : Prop := idleS s ∨ blocked s r
def lround (n t : Nat) (x : Lane × Int) : Lane × Int := (if (x.2 % n).toNat = t then speak (zcn x.1) else zcn x.1, x.2 + 1)
def lrounds (n t : Nat) : Nat → Lane × Int → Lane × Int
  | 0, x => x
  | k + 1, x => lrounds n t k (lround n t x)
structure Quiet (l : Lane) : Prop where
  i : idleB l = true
  there : l.there = []
  back : l.back = []
  owes : l.r.owes = false
def zdf : Nat → World' → World'
  | 0, w => w
  | k + 1, w => zdf k (zeq w)
theorem roundW_len (w : World') : (zeq w).lanes.length = w.lanes.length := by unfold zeq tick; simp
theorem roundW_at {w : World'} {t : Nat} (ht : t < w.lanes.length) : atL (zeq w) t = lround w.lanes.length t (atL w t) := by
  have hm : ∀ i, i < w.lanes.length → (w.lanes.map zcn).getD i zdq = zcn (w.lanes.getD i zdq) := by
    intro i hi; simp [List.getD, List.getElem?_eq_getElem hi]
  unfold zeq tick
  show ((((w.lanes.map zcn).set _ _).getD t zdq, w.ticks + 1) : Lane × Int) = _
  rw [getD_set (by simpa using ht)]
  have e : whose ⟨w.lanes.map zcn, w.ticks⟩ = (w.ticks % w.lanes.length).toNat := by unfold whose; simp
  rw [e]
  show _ = ((if (w.ticks % w.lanes.length).toNat = t then speak (zcn (w.lanes.getD t zdq)) else zcn (w.lanes.getD t zdq)), w.ticks + 1)
  by_cases h3 : (w.ticks % w.lanes.length).toNat = t
  · rw [if_pos h3, if_pos h3, h3, hm t ht]
  · rw [if_neg h3, if_neg h3, hm t ht]
theorem zfp : ∀ (k : Nat) (w : World'), (zdf k w).lanes.length = w.lanes.length
  | 0, w => rfl
  | k + 1, w => (zfp k _).trans (roundW_len w)
theorem roundN_at {t : Nat} : ∀ (k : Nat) {w : World'}, t < w.lanes.length → atL (zdf k w) t = lrounds w.lanes.length t k (atL w t)
  | 0, w, _ => rfl
  | k + 1, w, ht => by
    show atL (zdf k (zeq w)) t = lrounds _ t k (lround _ t (atL w t))
    rw [roundN_at k (by rw [roundW_len]; exact ht), roundW_len, roundW_at ht]
theorem zek : ∀ (k : Nat) (w : World'), zdf (k + 1) w = zeq (zdf k w)
  | 0, w => rfl
  | k + 1, w => zek k (zeq w)
theorem roundN_ticks : ∀ (k : Nat) (w : World'), (zdf k w).ticks = w.ticks + k
  | 0, w => by simp [zdf]
  | k + 1, w => by
    show (zdf k (zeq w)).ticks = _
    rw [roundN_ticks k]
    show w.ticks + 1 + (k : Int) = w.ticks + ((k + 1 : Nat) : Int)
    omega
theorem wok_round {w : World'} (h : WOk w) : WOk (zeq w) := by
  have h1 : WOk ⟨w.lanes.map zcn, w.ticks⟩ := by
    refine ⟨by simp only [List.length_map]; exact h.len, h.tk, fun l hl => ?_⟩
    obtain ⟨x, hx, rfl⟩ := List.mem_map.1 hl
    exact binv_settle (h.b x hx)
  have := h.tk
  exact wok_set h1 (binv_speak (h1.get h1.whose)) (by show 0 ≤ w.ticks + 1; omega)
theorem wok_roundN : ∀ (k : Nat) {w : World'}, WOk w → WOk (zdf k w)
  | 0, w, h => h
  | k + 1, w, h => wok_roundN k (wok_round h)
end Go.Proofs.Ytaadloihphpdbaa
