import Derived.Test.YtaadloihphpdbaaUPModel
set_option linter.unusedVariables false
set_option linter.unusedSimpArgs false
/- Chunks, as bytes, and back: in plain terms. -/
namespace Go.Proofs.Ytaadloihphpdbaa
open Go Go.Vc Go.RowKit
theorem u8_of (b : UInt8) : u8 (b.toNat : Int) = b := by
  apply UInt8.toNat_inj.1
  have := zdd (b.toNat : Int)
  have := b.toNat_lt
  omega
theorem toNat_u8 {n : Int} (h : 0 ≤ n ∧ n < 256) : ((u8 n).toNat : Int) = n := by rw [zdd]; omega
theorem wrongMsg_ok {m : Msg} (h : zcp m = 0) : (0 ≤ m.1 ∧ m.1 ≤ 2) ∧ m.2.length ≤ 6 := by
  unfold zcp at h
  split at h
  · cases h
  · split at h
    · cases h
    · omega
theorem wrong_ok {c : Chunk} (h : zdc c = 0) : (0 ≤ c.num ∧ c.num ≤ 40) ∧
    ((c.kind = 1 ∧ c.num ≤ 39 ∧ (0 ≤ c.place ∧ c.place ≤ c.num) ∧ c.early = [] ∧ (0 ≤ c.stream ∧ c.stream ≤ 2) ∧ c.data.length ≤ 6) ∨
     (c.kind = 2 ∧ c.stream = 0 ∧ c.place = 0 ∧ c.data = [] ∧ c.early.length ≤ 3 ∧ rising c.num c.early = true)) := by
  unfold zdc at h
  split at h
  · cases h
  · rename_i h1
    split at h
    · cases h
    · rename_i h2
      refine ⟨by omega, ?_⟩
      split at h
      · rename_i h3
        split at h
        · cases h
        · rename_i h4
          split at h
          · cases h
          · rename_i h5
            obtain ⟨h6, h7⟩ := wrongMsg_ok h
            exact .inl ⟨h3, by omega, by omega, List.eq_nil_of_length_eq_zero (by omega), h6, h7⟩
      · rename_i h3
        split at h
        · cases h
        · rename_i h4
          split at h
          · cases h
          · rename_i h5
            split at h
            · rename_i h6
              exact .inr ⟨by omega, by omega, by omega, List.eq_nil_of_length_eq_zero (by omega), by omega, h6⟩
            · cases h
theorem rising_in : ∀ {l : List Int} {n : Int}, rising n l = true → ∀ x ∈ l, n < x ∧ x < 40
  | [], _, _, x, hx => by simp at hx
  | m :: r, n, h, x, hx => by
    simp only [rising, Bool.and_eq_true, decide_eq_true_eq] at h
    simp only [List.mem_cons] at hx
    rcases hx with rfl | hx
    · exact ⟨h.1, h.2.1⟩
    · have := rising_in h.2.2 x hx
      exact ⟨by omega, this.2⟩
theorem ints_u8 {l : List Int} (h : ∀ x ∈ l, 0 ≤ x ∧ x < 256) : ints (l.map u8) = l := by
  unfold ints
  rw [List.map_map]
  conv => rhs; rw [← List.map_id l]
  exact List.map_congr_left fun x hx => by simpa using toNat_u8 (h x hx)
theorem u8_ints (l : List UInt8) : (ints l).map u8 = l := by
  unfold ints
  rw [List.map_map]
  conv => rhs; rw [← List.map_id l]
  exact List.map_congr_left fun x _ => by simp [u8_of]
theorem body_data {c : Chunk} (hk : c.kind = 1) (he : c.early = []) : body c = u8 1 :: u8 c.num :: u8 c.stream :: u8 c.place :: c.data := by
  unfold body; rw [if_pos hk, hk, he]; simp
theorem body_ack {c : Chunk} (hk : c.kind = 2) : body c = u8 2 :: u8 c.num :: c.early.map u8 := by
  unfold body; rw [if_neg (by omega), hk]; simp
theorem parsed_body {c : Chunk} (h : zdc c = 0) : zfo (body c) = c ∧ short (body c) = false := by
  obtain ⟨hn, ⟨hk, h39, hp, he, hs, hd⟩ | ⟨hk, hs, hp, hd, hl, hr⟩⟩ := wrong_ok h
  · rw [body_data hk he]
    have e1 : (u8 1).toNat = 1 := by decide
    refine ⟨?_, ?_⟩
    · unfold zfo
      simp only [e1, if_true]
      rw [toNat_u8 (by omega), toNat_u8 (by omega), toNat_u8 (by omega), ← he]
      cases c; simp_all
    · simp [short]
  · rw [body_ack hk]
    have e2 : (u8 2).toNat = 2 := by decide
    refine ⟨?_, ?_⟩
    · unfold zfo
      simp only [e2]
      rw [if_neg (by decide), toNat_u8 (by omega), ints_u8 (fun x hx => by have := rising_in hr x hx; omega)]
      cases c; simp_all
    · simp [short, e2]
theorem read_bytes {c : Chunk} (h : zdc c = 0) : read (bytes c) = (c, 0) := by
  obtain ⟨h1, h2⟩ := parsed_body h
  unfold read bytes
  rw [opens_sealed, opened_sealed, h1, h2, h]
  simp
theorem sealed_opened {b : List UInt8} (h : opens b = true) : zcl (zed b) = b := by
  have h0 := h
  unfold zed
  rw [if_pos h]
  unfold opens at h0
  exact beq_iff_eq.1 ((Bool.and_eq_true _ _).mp h0).2
theorem body_parsed {x : List UInt8} (hs : short x = false) (hw : zdc (zfo x) = 0) : body (zfo x) = x := by
  match x, hs with
  | k :: n :: r, hs =>
    by_cases hk : k.toNat = 1
    · match r, hs with
      | s :: p :: d, hs =>
        have e : zfo (k :: n :: s :: p :: d) = ⟨1, n.toNat, s.toNat, p.toNat, d, []⟩ := by simp [zfo, hk]
        rw [e, body_data rfl rfl]
        have ek : u8 1 = k := by rw [← u8_of k, hk]; rfl
        simp [u8_of, ek]
      | [], hs => simp [short, hk] at hs
      | [a], hs => simp [short, hk] at hs
    · have e : zfo (k :: n :: r) = ⟨k.toNat, n.toNat, 0, 0, [], ints r⟩ := by simp [zfo, hk]
      rw [e]
      unfold body
      rw [if_neg (by show ¬ (k.toNat : Int) = 1; omega)]
      simp [u8_of, u8_ints]
  | [], hs => simp [short] at hs
  | [a], hs => simp [short] at hs
theorem bytes_read {b : List UInt8} (h : (read b).2 = 0) : zdc (read b).1 = 0 ∧ bytes (read b).1 = b := by
  unfold read at h ⊢
  by_cases ho : opens b = false
  · rw [if_pos ho] at h; cases h
  · rw [if_neg ho] at h ⊢
    by_cases hs : short (zed b) = true
    · rw [if_pos hs] at h; cases h
    · rw [if_neg hs] at h ⊢
      by_cases hw : zdc (zfo (zed b)) ≠ 0
      · rw [if_pos hw] at h; exact absurd h hw
      · rw [if_neg hw]
        have hw' : zdc (zfo (zed b)) = 0 := Classical.byContradiction hw
        refine ⟨hw', ?_⟩
        show zcl (body (zfo (zed b))) = b
        rw [body_parsed (by simpa using hs) hw', sealed_opened (by simpa using ho)]
theorem spoilt_read {x : List UInt8} {i : Nat} {b : UInt8} (hi : i < (zcl x).length) (hb : (zcl x)[i] ≠ b) : opens ((zcl x).set i b) = false := by
  have := byte_found x i (b.toNat : Int) (by have := b.toNat_lt; omega) hi (fun e => hb (UInt8.toNat_inj.1 (Int.ofNat.inj e)))
  rwa [u8_of] at this
theorem spoilt {c : Chunk} {i : Nat} {x : UInt8} (hi : i < (bytes c).length) (hx : (bytes c)[i] ≠ x) : read ((bytes c).set i x) = (zfj, 7) := by
  have h := spoilt_read (x := body c) hi hx
  unfold read
  rw [if_pos (show opens ((bytes c).set i x) = false from h)]
end Go.Proofs.Ytaadloihphpdbaa

/- The sender, as pure data: what always holds of it. No program in sight. -/
namespace Go.Proofs.Ytaadloihphpdbaa
open Go Go.Vc
structure SInv (s : Sender) : Prop where
  q : s.queue.length ≤ 6
  f : s.flight.length ≤ 4
  t : 0 ≤ s.turn ∧ s.turn ≤ 4
  n : 0 ≤ s.next
  nq : s.next + s.queue.length ≤ 40
  m : ∀ m ∈ s.queue, zcp m = 0
  c : ∀ c ∈ s.flight, zdc c = 0 ∧ c.kind = 1 ∧ c.num < s.next
  p : (0 ≤ s.places.a ∧ s.places.a ≤ s.next) ∧ (0 ≤ s.places.b ∧ s.places.b ≤ s.next) ∧ (0 ≤ s.places.c ∧ s.places.c ≤ s.next)
theorem rightMsg {m : Msg} (h : zcp m = 0) : (m.1 = 0 ∨ m.1 = 1 ∨ m.1 = 2) ∧ m.2.length ≤ 6 := by
  unfold zcp at h
  split at h
  · omega
  · split at h <;> omega
theorem sinv0 : SInv zer := ⟨by simp [zer], by simp [zer], by simp [zer], by simp [zer], by simp [zer], by simp [zer], by simp [zer], by simp [zer, places0]⟩
theorem sinv_put {s : Sender} (h : SInv s) (m : Msg) : SInv (put s m).1 := by
  unfold put
  split
  · exact h
  · rename_i h1
    split
    · exact h
    · split
      · exact h
      · refine ⟨by simp; omega, h.f, h.t, h.n, by simp; omega, ?_, h.c, h.p⟩
        intro x hx
        rcases List.mem_append.1 hx with hx | hx
        · exact h.m x hx
        · rw [List.mem_singleton.1 hx]; exact Decidable.of_not_not h1
theorem say_is (s : Sender) : (s.queue = [] ∧ s.flight = [] ∧ say s = (s, zfj, false)) ∨ (∃ m q, s.queue = m :: q ∧ s.flight.length < 4 ∧ say s = sayNew s m q) ∨ (0 < s.flight.length ∧ (s.queue ≠ [] → ¬ s.flight.length < 4) ∧ say s = sayOld s) := by
  unfold say
  cases hq : s.queue with
  | nil =>
    by_cases hf : s.flight = []
    · exact .inl ⟨rfl, hf, if_pos hf⟩
    · exact .inr (.inr ⟨List.length_pos_iff.2 hf, fun h => absurd rfl h, if_neg hf⟩)
  | cons m q =>
    by_cases hf : s.flight.length < 4
    · exact .inr (.inl ⟨m, q, rfl, hf, if_pos hf⟩)
    · exact .inr (.inr ⟨by omega, fun _ => hf, if_neg hf⟩)
theorem zfh {s : Sender} (h : SInv s) (hf : 0 < s.flight.length) : ∃ k : Nat, ∃ hk : k < s.flight.length, s.turn % s.flight.length = k ∧ sayOld s = ({ s with turn := k + 1 }, s.flight[k], true) := by
  have h1 := Int.emod_nonneg s.turn (show (s.flight.length : Int) ≠ 0 by omega)
  have h2 := Int.emod_lt_of_pos s.turn (show (0 : Int) < s.flight.length by omega)
  refine ⟨(s.turn % s.flight.length).toNat, by omega, by omega, ?_⟩
  have h3 : (s.turn % s.flight.length).toNat < s.flight.length := by omega
  unfold sayOld
  simp only [List.getD, List.getElem?_eq_getElem h3, Option.getD_some]
  rw [Int.toNat_of_nonneg h1]
theorem places_bound {s : Sender} (h : SInv s) {m : Msg} (hm : zcp m = 0) : 0 ≤ s.places.get m.1 ∧ s.places.get m.1 ≤ s.next := by
  have hp := h.p
  unfold Places.get
  split
  · exact hp.1
  · split
    · exact hp.2.1
    · exact hp.2.2
theorem new_right {s : Sender} (h : SInv s) {m : Msg} {q : List Msg} (hq : s.queue = m :: q) : zdc (zdv s m) = 0 := by
  have hm := h.m m (by rw [hq]; simp)
  have hp := places_bound h hm
  have hn := h.n; have hnq := h.nq
  rw [hq] at hnq
  simp only [List.length_cons] at hnq
  unfold zdv zdc
  rw [if_neg (by simp), if_neg (by simp only; omega), if_pos rfl, if_neg (by simp only; omega), if_neg (by simp)]
  exact hm
theorem sinv_say {s : Sender} (h : SInv s) : SInv (say s).1 := by
  rcases say_is s with ⟨_, _, e⟩ | ⟨m, q, hq, hl, e⟩ | ⟨hl, _, e⟩
  · rw [e]; exact h
  · rw [e]
    have h1 := h.q; have h2 := h.nq; have h3 := h.n; have h4 := h.p
    rw [hq] at h1 h2
    simp only [List.length_cons] at h1 h2
    refine ⟨by simp [sayNew]; omega, by simp [sayNew]; omega, h.t, by simp [sayNew]; omega, by simp [sayNew]; omega, ?_, ?_, ?_⟩
    · intro x hx; exact h.m x (by rw [hq]; exact List.mem_cons_of_mem _ hx)
    · intro c hc
      rcases List.mem_append.1 hc with hc | hc
      · have := h.c c hc
        exact ⟨this.1, this.2.1, by simp only [sayNew]; omega⟩
      · rw [List.mem_singleton.1 hc]
        exact ⟨new_right h hq, rfl, by simp only [sayNew, zdv]; omega⟩
    · simp only [sayNew, Places.bump]
      split
      · simp only; omega
      · split
        · simp only; omega
        · simp only; omega
  · obtain ⟨k, hk, _, e2⟩ := zfh h hl
    rw [e, e2]
    have := h.f
    exact ⟨h.q, h.f, by simp only; omega, h.n, h.nq, h.m, h.c, h.p⟩
theorem sinv_hear {s : Sender} (h : SInv s) (c : Chunk) : SInv (hear s c) := by
  unfold hear
  split
  · exact h
  · refine ⟨h.q, ?_, h.t, h.n, h.nq, h.m, ?_, h.p⟩
    · have := List.length_filter_le (fun x => !told c x) s.flight
      have := h.f
      simp only; omega
    · intro x hx
      exact h.c x (List.mem_filter.1 hx).1
theorem say_right {s : Sender} (h : SInv s) (hs : (say s).2.2 = true) : zdc (say s).2.1 = 0 ∧ (say s).2.1.kind = 1 := by
  rcases say_is s with ⟨_, _, e⟩ | ⟨m, q, hq, hl, e⟩ | ⟨hl, _, e⟩
  · rw [e] at hs; cases hs
  · rw [e]; exact ⟨new_right h hq, rfl⟩
  · obtain ⟨k, hk, _, e2⟩ := zfh h hl
    rw [e, e2]
    have := h.c _ (List.getElem_mem hk)
    exact ⟨this.1, this.2.1⟩
theorem said_not {s : Sender} (hs : SInv s) (ho : (say s).2.2 = false) : s.queue = [] ∧ s.flight = [] ∧ say s = (s, zfj, false) := by
  rcases say_is s with h | ⟨m, q, hq, hl, e⟩ | ⟨hl, _, e⟩
  · exact h
  · rw [e] at ho; cases ho
  · obtain ⟨k, hk, _, e2⟩ := zfh hs hl
    rw [e, e2] at ho; cases ho
end Go.Proofs.Ytaadloihphpdbaa

/- The receiver, as pure data: what always holds of it. No program in sight. -/
namespace Go.Proofs.Ytaadloihphpdbaa
open Go Go.Vc
theorem tell1_len {s t : Tale} (h : tell1 s = some t) : t.1.length + 1 = s.1.length := by
  unfold tell1 at h
  split at h
  · cases h
  · rename_i c hc
    cases h
    have hm : s.1.findIdx (zdz s.2.1) < s.1.length := List.findIdx_lt_length_of_exists ⟨c, List.mem_of_find?_eq_some hc, by simpa using List.find?_some hc⟩
    show (s.1.eraseIdx _).length + 1 = _
    rw [List.length_eraseIdx, if_pos hm]; omega
theorem tellAll_step {s t : Tale} (h : tell1 s = some t) : tellAll s = tellAll t := by
  unfold tellAll
  have := tell1_len h
  rw [← this]
  show (match tell1 s with | none => s | some t => tellN _ t) = _
  rw [h]
theorem tellAll_none {s : Tale} (h : tell1 s = none) : tellAll s = s := by
  unfold tellAll
  cases hl : s.1.length with
  | zero => rfl
  | succ n =>
    show (match tell1 s with | none => s | some t => tellN n t) = s
    rw [h]
theorem tellAll_ind {P : Tale → Prop} (hP : ∀ s t, P s → tell1 s = some t → P t) : ∀ (n : Nat) (s : Tale), s.1.length = n → P s → P (tellAll s) ∧ tell1 (tellAll s) = none
  | n, s, hn, hs => by
    cases h : tell1 s with
    | none => rw [tellAll_none h]; exact ⟨hs, h⟩
    | some t =>
      rw [tellAll_step h]
      have := tell1_len h
      exact tellAll_ind hP t.1.length t rfl (hP s t hs h)
  termination_by n => n
  decreasing_by omega
theorem tell1_some {s t : Tale} (h : tell1 s = some t) : ∃ k, ∃ hk : k < s.1.length, zdz s.2.1 s.1[k] = true ∧ t = (s.1.eraseIdx k, s.2.1.bump s.1[k].stream, s.2.2 ++ [(s.1[k].stream, s.1[k].data)]) := by
  unfold tell1 at h
  split at h
  · cases h
  · rename_i c hc
    have hm : s.1.findIdx (zdz s.2.1) < s.1.length := List.findIdx_lt_length_of_exists ⟨c, List.mem_of_find?_eq_some hc, by simpa using List.find?_some hc⟩
    have hg : s.1[s.1.findIdx (zdz s.2.1)] = c := by
      have h1 := List.find?_eq_some_iff_getElem.1 hc
      obtain ⟨h2, i, hi, h3, h4⟩ := h1
      have : s.1.findIdx (zdz s.2.1) = i := by
        rw [List.findIdx_eq hi]
        refine ⟨by rw [h3]; exact h2, fun j hj => by simpa using h4 j hj⟩
      subst h3
      congr 1
    refine ⟨_, hm, by rw [hg]; simpa using List.find?_some hc, ?_⟩
    cases h
    rw [hg]
theorem tell1_at {h : List Chunk} {p : Places} {T : List Msg} {k : Nat} (hk : k < h.length) (hr : zdz p h[k] = true) (hf : ∀ j (hj : j < k), zdz p (h[j]'(by omega)) = false) :
    tell1 (h, p, T) = some (h.eraseIdx k, p.bump h[k].stream, T ++ [(h[k].stream, h[k].data)]) := by
  have e1 : h.find? (zdz p) = some h[k] := List.find?_eq_some_iff_getElem.2 ⟨hr, k, hk, rfl, fun j hj => by simpa using hf j hj⟩
  have e2 : h.findIdx (zdz p) = k := by rw [List.findIdx_eq hk]; exact ⟨hr, hf⟩
  unfold tell1
  simp only [e1, e2]
theorem tell1_no {h : List Chunk} {p : Places} {T : List Msg} (hf : ∀ c ∈ h, zdz p c = false) : tell1 (h, p, T) = none := by
  unfold tell1
  have : h.find? (zdz p) = none := List.find?_eq_none.2 fun c hc => by rw [hf c hc]; simp
  simp only [this]
theorem tw_lt {n : Int} : ∀ {l : List Int}, l.Pairwise (· < ·) → ∀ {k : Nat} {x : Int}, l[k]? = some x → (x < n ↔ k < (l.takeWhile fun x => decide (x < n)).length)
  | [], _, k, x, h => by simp at h
  | a :: t, hs, k, x, h => by
    have hs' := List.pairwise_cons.1 hs
    by_cases ha : a < n
    · rw [List.takeWhile_cons_of_pos (by simpa using ha), List.length_cons]
      cases k with
      | zero => simp at h; subst h; simp [ha]
      | succ k =>
        have := tw_lt (n := n) hs'.2 (k := k) (x := x) (by simpa using h)
        omega
    · rw [List.takeWhile_cons_of_neg (by simpa using ha)]
      cases k with
      | zero => simp at h; subst h; simp; omega
      | succ k =>
        have hx : x ∈ t := List.mem_of_getElem? (by simpa using h)
        have := hs'.1 x hx
        simp; omega
theorem tw_mem {n : Int} {l : List Int} (hs : l.Pairwise (· < ·)) : n ∈ l ↔ l[(l.takeWhile fun x => decide (x < n)).length]? = some n := by
  constructor
  · intro h
    obtain ⟨k, hk⟩ := List.mem_iff_getElem?.1 h
    have h1 : ¬ k < (l.takeWhile fun x => decide (x < n)).length := fun e => absurd ((tw_lt hs hk).2 e) (by omega)
    by_cases h2 : (l.takeWhile fun x => decide (x < n)).length = k
    · rw [h2]; exact hk
    · have hkl := (List.getElem?_eq_some_iff.1 hk).1
      have hq : (l.takeWhile fun x => decide (x < n)).length < l.length := by omega
      have hlt := List.pairwise_iff_getElem.1 hs _ _ hq hkl (by omega)
      rw [(List.getElem?_eq_some_iff.1 hk).2] at hlt
      exact absurd ((tw_lt hs (List.getElem?_eq_getElem hq)).1 hlt) (by omega)
  · intro h; exact List.mem_of_getElem? h
theorem bs_yes {n : Int} {l : List Int} (hs : l.Pairwise (· < ·)) {q : Nat} (hq : q = (l.takeWhile fun x => decide (x < n)).length) (h : l[q]? = some n) : l.contains n = true := by
  subst hq; simpa using (tw_mem hs).2 h
theorem bs_no {n : Int} {l : List Int} (hs : l.Pairwise (· < ·)) {q : Nat} (hq : q = (l.takeWhile fun x => decide (x < n)).length) (h : l[q]? ≠ some n) : l.contains n = false := by
  subst hq
  cases hc : l.contains n with
  | false => rfl
  | true => exact absurd ((tw_mem hs).1 (by simpa using hc)) h
theorem insertS_mem {n x : Int} {l : List Int} : x ∈ zdt n l ↔ x = n ∨ x ∈ l := by
  have e := List.takeWhile_append_dropWhile (p := fun x => decide (x < n)) (l := l)
  unfold zdt
  constructor
  · intro h
    rcases List.mem_append.1 h with h | h
    · exact .inr (by rw [← e]; exact List.mem_append_left _ h)
    · rcases List.mem_cons.1 h with h | h
      · exact .inl h
      · exact .inr (by rw [← e]; exact List.mem_append_right _ h)
  · rintro (rfl | h)
    · simp
    · rw [← e] at h
      rcases List.mem_append.1 h with h | h
      · exact List.mem_append_left _ h
      · exact List.mem_append_right _ (List.mem_cons_of_mem _ h)
theorem insertS_length {n : Int} {l : List Int} : (zdt n l).length = l.length + 1 := by
  have e := List.takeWhile_append_dropWhile (p := fun x => decide (x < n)) (l := l)
  unfold zdt
  rw [List.length_append, List.length_cons]
  have := congrArg List.length e
  rw [List.length_append] at this
  omega
theorem insertS_sorted {n : Int} : ∀ {l : List Int}, l.Pairwise (· < ·) → n ∉ l → (zdt n l).Pairwise (· < ·)
  | [], _, _ => by simp [zdt]
  | a :: t, hs, hn => by
    have hs' := List.pairwise_cons.1 hs
    have hne : a ≠ n := fun e => hn (by simp [e])
    have hnt : n ∉ t := fun e => hn (by simp [e])
    by_cases ha : a < n
    · have e : zdt n (a :: t) = a :: zdt n t := by
        unfold zdt
        rw [List.takeWhile_cons_of_pos (by simpa using ha), List.dropWhile_cons_of_pos (by simpa using ha)]; rfl
      rw [e]
      refine List.pairwise_cons.2 ⟨fun x hx => ?_, insertS_sorted hs'.2 hnt⟩
      rcases insertS_mem.1 hx with rfl | hx
      · exact ha
      · exact hs'.1 x hx
    · have e : zdt n (a :: t) = n :: a :: t := by
        unfold zdt
        rw [List.takeWhile_cons_of_neg (by simpa using ha), List.dropWhile_cons_of_neg (by simpa using ha)]; rfl
      rw [e]
      refine List.pairwise_cons.2 ⟨fun x hx => ?_, hs⟩
      rcases List.mem_cons.1 hx with rfl | hx
      · omega
      · have := hs'.1 x hx; omega
theorem strip_cons_eq {x : Int} {l : List Int} : zfr (x :: l) x = zfr l (x + 1) := by show (if x = x then _ else _) = _; rw [if_pos rfl]
theorem zfl {n x : Int} {l : List Int} (h : n ≠ x) : zfr (n :: l) x = (n :: l, x) := by show (if n = x then _ else _) = _; rw [if_neg h]
theorem strip_spec : ∀ {l : List Int} {x : Int}, l.Pairwise (· < ·) → (∀ y ∈ l, x ≤ y ∧ y < 40) → x ≤ 40 →
    (zfr l x).1.Pairwise (· < ·) ∧ (∀ y ∈ (zfr l x).1, (zfr l x).2 < y ∧ y < 40 ∧ y ∈ l) ∧ (zfr l x).2 ≤ 40 ∧ x ≤ (zfr l x).2 ∧ (zfr l x).2 + (zfr l x).1.length = x + l.length ∧ (x ∈ l → x < (zfr l x).2) ∧
      ∀ y, (x ≤ y ∧ y < (zfr l x).2 ∨ y ∈ (zfr l x).1) ↔ y ∈ l
  | [], x, _, _, hx => ⟨List.Pairwise.nil, by simp [zfr], hx, Int.le_refl _, rfl, by simp, fun y => by simp [zfr]⟩
  | n :: l, x, hs, hy, hx => by
    have hs' := List.pairwise_cons.1 hs
    by_cases hn : n = x
    · subst hn
      rw [strip_cons_eq]
      have hb := hy n (by simp)
      obtain ⟨h1, h2, h3, h4, h5, h6, h7⟩ := strip_spec (l := l) (x := n + 1) hs'.2 (fun y hy' => ⟨by have := hs'.1 y hy'; omega, (hy y (by simp [hy'])).2⟩) (by omega)
      refine ⟨h1, fun y hy' => ⟨(h2 y hy').1, (h2 y hy').2.1, by simp [(h2 y hy').2.2]⟩, h3, by omega, by rw [h5, List.length_cons]; omega, fun _ => by omega, fun y => ?_⟩
      rw [List.mem_cons, ← h7 y]
      constructor
      · rintro (h | h)
        · by_cases hyn : y = n
          · exact .inl hyn
          · exact .inr (.inl ⟨by omega, h.2⟩)
        · exact .inr (.inr h)
      · rintro (rfl | h | h)
        · exact .inl ⟨by omega, by omega⟩
        · exact .inl ⟨by omega, h.2⟩
        · exact .inr h
    · rw [zfl hn]
      have hb := hy n (by simp)
      refine ⟨hs, fun y hy' => ?_, hx, Int.le_refl _, rfl, fun hm => ?_, fun y => ?_⟩
      · have := hy y hy'
        refine ⟨?_, this.2, hy'⟩
        rcases List.mem_cons.1 hy' with rfl | h
        · show x < y
          omega
        · have := hs'.1 y h
          show x < y
          omega
      · rcases List.mem_cons.1 hm with h | h
        · exact absurd h.symm hn
        · have := hs'.1 x h
          omega
      · constructor
        · rintro (h | h)
          · have h2 : y < x := h.2
            omega
          · exact h
        · exact .inr
theorem sorted_len : ∀ {l : List Int} {a b : Int}, l.Pairwise (· < ·) → (∀ y ∈ l, a < y ∧ y < b) → a < b → a + l.length < b
  | [], _, _, _, _, h => by simpa using h
  | n :: l, a, b, hs, hy, h => by
    have hs' := List.pairwise_cons.1 hs
    have hb := hy n (by simp)
    have := sorted_len (l := l) (a := n) (b := b) hs'.2 (fun y hy' => ⟨hs'.1 y hy', (hy y (by simp [hy'])).2⟩) hb.2
    rw [List.length_cons]; omega
structure RInv (r : Receiver) : Prop where
  n : 0 ≤ r.next ∧ r.next ≤ 40
  s : r.early.Pairwise (· < ·)
  e : ∀ x ∈ r.early, r.next < x ∧ x < 40
  el : r.early.length ≤ 3
  t : (r.told.length : Int) + r.hold.length = r.next + r.early.length
  p : 0 ≤ r.places.a ∧ 0 ≤ r.places.b ∧ 0 ≤ r.places.c ∧ r.places.a + r.places.b + r.places.c = r.told.length
  h : ∀ c ∈ r.hold, zdc c = 0 ∧ c.kind = 1
theorem RInv.nl {r : Receiver} (h : RInv r) : r.next + r.early.length ≤ 40 := by
  cases he : r.early with
  | nil => have := h.n; simp; omega
  | cons y t =>
    have hb := h.e y (by rw [he]; simp)
    have := sorted_len (l := r.early) (a := r.next) (b := 40) h.s h.e (by omega)
    rw [he] at this; omega
theorem rinv0 : RInv receiver0 := ⟨by simp [receiver0], by simp [receiver0], by simp [receiver0], by simp [receiver0], by simp [receiver0], by simp [receiver0, places0], by simp [receiver0]⟩
structure MChunk (c : Chunk) : Prop where
  k : c.kind = 1
  w : zdc c = 0
theorem MChunk.num {c : Chunk} (h : MChunk c) : 0 ≤ c.num ∧ c.num ≤ 39 ∧ c.early = [] ∧ zcp (c.stream, c.data) = 0 ∧ 0 ≤ c.place ∧ c.place ≤ c.num := by
  have hk := h.k; have hw := h.w
  unfold zdc at hw
  rw [if_neg (by omega)] at hw
  split at hw
  · omega
  · split at hw
    · omega
    · split at hw
      · omega
      · rename_i h1 h2 h3
        exact ⟨by omega, by omega, List.eq_nil_of_length_eq_zero (by omega), hw, by omega, by omega⟩
theorem stream3 {c : Chunk} (h : zdc c = 0) (hk : c.kind = 1) : c.stream = 0 ∨ c.stream = 1 ∨ c.stream = 2 := by
  have := (MChunk.num ⟨hk, h⟩).2.2.2.1
  unfold zcp at this
  split at this
  · omega
  · simp only at *; omega
def TaleOk (N : Int) (s : Tale) : Prop := (s.2.2.length : Int) + s.1.length = N ∧ (0 ≤ s.2.1.a ∧ 0 ≤ s.2.1.b ∧ 0 ≤ s.2.1.c ∧ s.2.1.a + s.2.1.b + s.2.1.c = s.2.2.length) ∧ ∀ c ∈ s.1, zdc c = 0 ∧ c.kind = 1
theorem taleOk_step {N : Int} {s t : Tale} (h : TaleOk N s) (ht : tell1 s = some t) : TaleOk N t := by
  obtain ⟨k, hk, hr, rfl⟩ := tell1_some ht
  obtain ⟨h1, h2, h3⟩ := h
  have hl := tell1_len ht
  simp only at hl
  refine ⟨by simp only [List.length_append, List.length_singleton]; omega, ?_, fun c hc => h3 c (List.mem_of_mem_eraseIdx hc)⟩
  simp only [List.length_append, List.length_singleton, Places.bump]
  split
  · simp only; omega
  · split
    · simp only; omega
    · simp only; omega
theorem rinv_hear {r : Receiver} (h : RInv r) {c : Chunk} (hc : zdc c = 0) : RInv (zfc r c) := by
  unfold zfc
  split
  · exact h
  · rename_i hk
    have hk : c.kind = 1 := Decidable.of_not_not hk
    split
    · exact ⟨h.n, h.s, h.e, h.el, h.t, h.p, h.h⟩
    · rename_i hr
      unfold zdy at hr
      have hm := MChunk.num ⟨hk, hc⟩
      have hn := h.n
      have hnl := h.nl
      have hne : c.num ∉ r.early := fun e => hr (.inr (.inl e))
      have hge : r.next ≤ c.num := by
        by_cases hx : c.num < r.next
        · exact absurd (.inl hx) hr
        · omega
      obtain ⟨g1, g2, g3, g4, g5, g6, g7⟩ := strip_spec (l := zdt c.num r.early) (x := r.next) (insertS_sorted h.s hne) (fun y hy => by
        rcases insertS_mem.1 hy with rfl | hy
        · exact ⟨hge, by omega⟩
        · have := h.e y hy; omega) hn.2
      rw [insertS_length] at g5
      have ht := h.t
      obtain ⟨⟨t1, t2, t3⟩, _⟩ := tellAll_ind (P := TaleOk (r.next + r.early.length + 1)) (fun s t => taleOk_step) _ (r.hold ++ [c], r.places, r.told) rfl
        ⟨by simp only [List.length_append, List.length_singleton]; omega, h.p, fun x hx => by
          rcases List.mem_append.1 hx with hx | hx
          · exact h.h x hx
          · rw [List.mem_singleton.1 hx]; exact ⟨hc, hk⟩⟩
      refine ⟨⟨by simp only [takes]; omega, g3⟩, g1, fun x hx => ⟨(g2 x hx).1, (g2 x hx).2.1⟩, ?_, ?_, t2, t3⟩
      · simp only [takes]
        have hel := h.el
        by_cases hx : c.num = r.next
        · have := g6 (by rw [← hx]; exact insertS_mem.2 (.inl rfl))
          omega
        · have : ¬ 2 < r.early.length := fun e => hr (.inr (.inr ⟨by omega, e⟩))
          omega
      · simp only [takes]; omega
theorem rinv_say {r : Receiver} (h : RInv r) : RInv (rsay r).1 := by
  unfold rsay
  split
  · exact ⟨h.n, h.s, h.e, h.el, h.t, h.p, h.h⟩
  · exact h
end Go.Proofs.Ytaadloihphpdbaa

/- A lane, as pure data: whatever is lost, comes twice, or late, what is told is the beginning of what was put, stream by stream. No program in sight. -/
namespace Go.Proofs.Ytaadloihphpdbaa
open Go Go.Vc
def cnt (st : Int) (H : List Msg) (k : Nat) : Nat := (zbu st (H.take k)).length
def chk (H : List Msg) (k : Nat) : Chunk := ⟨1, k, (H.getD k (0, [])).1, cnt (H.getD k (0, [])).1 H k, (H.getD k (0, [])).2, []⟩
structure HOk (H : List Msg) : Prop where
  len : H.length ≤ 40
  right : ∀ m ∈ H, zcp m = 0
theorem hok0 : HOk [] := ⟨by simp, by simp⟩
theorem HOk.st {H : List Msg} (h : HOk H) {k : Nat} (hk : k < H.length) : H[k].1 = 0 ∨ H[k].1 = 1 ∨ H[k].1 = 2 := (rightMsg (h.right _ (List.getElem_mem hk))).1
theorem cnt_le (st : Int) (H : List Msg) (k : Nat) : cnt st H k ≤ k := by
  unfold cnt
  have h1 := ofStream_len st (H.take k)
  have h2 := List.length_take_le k H
  omega
theorem cnt_succ {H : List Msg} {k : Nat} (hk : k < H.length) (st : Int) : cnt st H (k + 1) = cnt st H k + (if H[k].1 = st then 1 else 0) := by
  unfold cnt
  by_cases h : H[k].1 = st
  · rw [ofStreamY hk h, if_pos h]; simp
  · rw [ofStreamN hk h, if_neg h]; simp
theorem cnt_mono {st : Int} {H : List Msg} {j k : Nat} (h : j ≤ k) : cnt st H j ≤ cnt st H k := by
  unfold cnt zbu
  have e : H.take j = (H.take k).take j := by rw [List.take_take, Nat.min_eq_left h]
  rw [e]
  exact ((List.take_sublist _ _).filter _).length_le
theorem cnt_hit {st : Int} {H : List Msg} {p : Nat} : ∀ {k : Nat}, k ≤ H.length → p < cnt st H k → ∃ j, ∃ hj : j < H.length, j < k ∧ H[j].1 = st ∧ cnt st H j = p
  | 0, _, h => by simp [cnt, zbu] at h
  | k + 1, hk, h => by
    have hk' : k < H.length := by omega
    have e := cnt_succ hk' st
    by_cases hp : p < cnt st H k
    · obtain ⟨j, hj, h1, h2⟩ := cnt_hit (k := k) (by omega) hp
      exact ⟨j, hj, by omega, h2⟩
    · by_cases hs : H[k].1 = st
      · rw [if_pos hs] at e; exact ⟨k, hk', by omega, hs, by omega⟩
      · rw [if_neg hs] at e; omega
theorem stream_get {H : List Msg} {k : Nat} (hk : k < H.length) {st : Int} (hs : H[k].1 = st) : (zbu st H)[cnt st H k]? = some H[k] := by
  have e : H = H.take k ++ H[k] :: H.drop (k + 1) := by simp
  have e2 : zbu st H = zbu st (H.take k) ++ H[k] :: zbu st (H.drop (k + 1)) :=
    (congrArg (zbu st) e).trans (by unfold zbu; rw [List.filter_append, List.filter_cons_of_pos (by simpa using hs)])
  rw [e2, cnt, List.getElem?_append_right (Nat.le_refl _), Nat.sub_self]; rfl
theorem cnt_lt {H : List Msg} {k : Nat} (hk : k < H.length) {st : Int} (hs : H[k].1 = st) : cnt st H k < (zbu st H).length := by
  have := stream_get hk hs
  exact (List.getElem?_eq_some_iff.1 this).1
theorem cnt_slt {H : List Msg} {j k : Nat} (hj : j < H.length) (hjk : j < k) : cnt H[j].1 H j < cnt H[j].1 H k := by
  have h1 := cnt_succ hj H[j].1
  rw [if_pos rfl] at h1
  have h2 : cnt H[j].1 H (j + 1) ≤ cnt H[j].1 H k := cnt_mono (by omega)
  omega
theorem cnt_inj {H : List Msg} {j k : Nat} (hj : j < H.length) (hk : k < H.length) (hs : H[j].1 = H[k].1) (h : cnt H[j].1 H j = cnt H[k].1 H k) : j = k := by
  rcases Nat.lt_trichotomy j k with h1 | h1 | h1
  · have := cnt_slt hj h1
    rw [hs] at h this; omega
  · exact h1
  · have := cnt_slt hk h1
    rw [hs] at h; omega
theorem cnt_app {st : Int} {H L : List Msg} {k : Nat} (hk : k ≤ H.length) : cnt st (H ++ L) k = cnt st H k := by
  unfold cnt; rw [List.take_append_of_le_length hk]
theorem chk_eq {H : List Msg} {k : Nat} (hk : k < H.length) : chk H k = ⟨1, k, H[k].1, cnt H[k].1 H k, H[k].2, []⟩ := by
  have e : H.getD k (0, []) = H[k] := by simp [List.getD, List.getElem?_eq_getElem hk]
  unfold chk; rw [e]
theorem chk_num (H : List Msg) (k : Nat) : (chk H k).num = k := rfl
theorem chk_kind (H : List Msg) (k : Nat) : (chk H k).kind = 1 := rfl
theorem chk_app {H L : List Msg} {k : Nat} (hk : k < H.length) : chk (H ++ L) k = chk H k := by
  rw [chk_eq hk, chk_eq (show k < (H ++ L).length by rw [List.length_append]; omega)]
  have e1 : (H ++ L)[k]'(by rw [List.length_append]; omega) = H[k] := List.getElem_append_left hk
  rw [e1, cnt_app (by omega)]
theorem chk_right {H : List Msg} (h : HOk H) {k : Nat} (hk : k < H.length) : zdc (chk H k) = 0 := by
  have h1 := h.len
  have h2 := h.right _ (List.getElem_mem hk)
  have h3 := cnt_le H[k].1 H k
  rw [chk_eq hk]; unfold zdc
  rw [if_neg (by simp), if_neg (by simp only; omega), if_pos rfl, if_neg (by simp only; omega), if_neg (by simp)]
  exact h2
theorem get_bump (p : Places) {s t : Int} (hs : s = 0 ∨ s = 1 ∨ s = 2) (ht : t = 0 ∨ t = 1 ∨ t = 2) : (p.bump s).get t = if t = s then p.get t + 1 else p.get t := by
  rcases hs with rfl | rfl | rfl <;> rcases ht with rfl | rfl | rfl <;> simp [Places.bump, Places.get]
def got (r : Receiver) (x : Int) : Prop := x < r.next ∨ x ∈ r.early
structure TInv (H : List Msg) (R : Nat → Prop) (s : Tale) : Prop where
  hold : ∀ c ∈ s.1, ∃ k, ∃ hk : k < H.length, c = chk H k ∧ R k ∧ s.2.1.get H[k].1 ≤ cnt H[k].1 H k
  nd : s.1.Pairwise (· ≠ ·)
  rc : ∀ k (hk : k < H.length), (cnt H[k].1 H k : Int) < s.2.1.get H[k].1 → R k
  all : ∀ k (hk : k < H.length), R k → (cnt H[k].1 H k : Int) < s.2.1.get H[k].1 ∨ chk H k ∈ s.1
  tl : ∀ st, (st = 0 ∨ st = 1 ∨ st = 2) → 0 ≤ s.2.1.get st ∧ s.2.1.get st ≤ (zbu st H).length ∧ zbu st s.2.2 = (zbu st H).take (s.2.1.get st).toNat
theorem tinv_step {H : List Msg} {R : Nat → Prop} (hH : HOk H) {s t : Tale} (h : TInv H R s) (ht : tell1 s = some t) : TInv H R t := by
  obtain ⟨i, hi, hr, rfl⟩ := tell1_some ht
  obtain ⟨k, hk, hc, hRk, hlo⟩ := h.hold _ (List.getElem_mem hi)
  have hst : (s.1[i]).stream = H[k].1 := by rw [hc, chk_eq hk]
  have hda : (s.1[i]).data = H[k].2 := by rw [hc, chk_eq hk]
  have hpl : (s.1[i]).place = (cnt H[k].1 H k : Int) := by rw [hc, chk_eq hk]
  have hr' : (cnt H[k].1 H k : Int) = s.2.1.get H[k].1 := by
    have : (s.1[i]).place = s.2.1.get (s.1[i]).stream := by simpa [zdz] using hr
    rw [hpl, hst] at this; exact this
  have hs3 := hH.st hk
  have hlt := cnt_lt hk rfl
  refine ⟨fun c hc' => ?_, h.nd.sublist (List.eraseIdx_sublist _ _), fun j hj hlt2 => ?_, fun j hj hR => ?_, fun st h3 => ?_⟩
  · obtain ⟨q, hq, hqi, hqx⟩ := List.mem_eraseIdx_iff_getElem.1 hc'
    obtain ⟨j, hj, e, hRj, hlj⟩ := h.hold c (hqx ▸ List.getElem_mem hq)
    refine ⟨j, hj, e, hRj, ?_⟩
    have hj3 := hH.st hj
    simp only [hst]
    rw [get_bump _ hs3 hj3]
    split
    · rename_i hjk
      have hne : j ≠ k := by
        intro ejk
        subst ejk
        have e3 : s.1[q] = s.1[i] := by rw [hqx, e, hc]
        rcases Nat.lt_or_gt_of_ne hqi with h5 | h5
        · exact List.pairwise_iff_getElem.1 h.nd q i hq hi h5 e3
        · exact List.pairwise_iff_getElem.1 h.nd i q hi hq h5 e3.symm
      have hne2 : cnt H[j].1 H j ≠ cnt H[k].1 H k := fun e4 => hne (cnt_inj hj hk hjk e4)
      rw [hjk] at hlj hne2 ⊢
      omega
    · exact hlj
  · have hj3 := hH.st hj
    simp only [hst] at hlt2
    rw [get_bump _ hs3 hj3] at hlt2
    split at hlt2
    · rename_i hjk
      by_cases h5 : (cnt H[j].1 H j : Int) < s.2.1.get H[j].1
      · exact h.rc j hj h5
      · have e4 : cnt H[j].1 H j = cnt H[k].1 H k := by
          rw [hjk] at h5 hlt2 ⊢
          omega
        have := cnt_inj hj hk hjk e4
        subst this
        exact hRk
    · exact h.rc j hj hlt2
  · have hj3 := hH.st hj
    simp only [hst]
    rw [get_bump _ hs3 hj3]
    rcases h.all j hj hR with h1 | h1
    · left; split <;> omega
    · by_cases he : chk H j = s.1[i]
      · left
        rw [hc] at he
        have e1 : (j : Int) = k := by rw [← chk_num H j, he, chk_num]
        have e2 : j = k := by omega
        subst e2
        rw [if_pos rfl]; omega
      · right
        obtain ⟨q, hq, hqx⟩ := List.mem_iff_getElem.1 h1
        refine List.mem_eraseIdx_iff_getElem.2 ⟨q, hq, ?_, hqx⟩
        intro e; subst e; exact he hqx.symm
  · obtain ⟨a1, a2, a3⟩ := h.tl st h3
    simp only [hst, hda]
    rw [get_bump _ hs3 h3]
    by_cases e : st = H[k].1
    · subst e
      rw [if_pos rfl]
      have ec : (s.2.1.get H[k].1).toNat = cnt H[k].1 H k := by omega
      refine ⟨by omega, by omega, ?_⟩
      have e5 : (s.2.1.get H[k].1 + 1).toNat = cnt H[k].1 H k + 1 := by omega
      rw [e5, List.take_add_one, stream_get hk rfl]
      unfold zbu at a3 ⊢
      rw [List.filter_append, a3, ec]
      simp
    · rw [if_neg e]
      refine ⟨a1, a2, ?_⟩
      unfold zbu at a3 ⊢
      rw [List.filter_append, a3]
      have : ¬ H[k].1 = st := fun h => e h.symm
      simp [this]
structure ROk (H : List Msg) (r : Receiver) : Prop where
  inv : RInv r
  lt : ∀ x : Int, 0 ≤ x → got r x → x < H.length
  tale : TInv H (fun k => got r k) (r.hold, r.places, r.told)
  no : tell1 (r.hold, r.places, r.told) = none
theorem rok0 (H : List Msg) : ROk H receiver0 := by
  have hg : ∀ x : Int, 0 ≤ x → ¬ got receiver0 x := by
    rintro x hx (h | h)
    · simp only [receiver0] at h; omega
    · simp [receiver0] at h
  refine ⟨rinv0, fun x hx h => absurd h (hg x hx), ⟨by simp [receiver0], List.Pairwise.nil, fun k hk h => ?_, fun k _ h => absurd h (hg k (by omega)), fun st h3 => ?_⟩, rfl⟩
  · have : places0.get H[k].1 = 0 := by unfold Places.get; simp [places0]
    rw [show (receiver0.hold, receiver0.places, receiver0.told).2.1 = places0 from rfl, this] at h
    omega
  have : places0.get st = 0 := by rcases h3 with rfl | rfl | rfl <;> rfl
  show 0 ≤ places0.get st ∧ places0.get st ≤ ((zbu st H).length : Int) ∧ zbu st [] = (zbu st H).take (places0.get st).toNat
  rw [this]
  exact ⟨Int.le_refl _, by omega, by simp [zbu]⟩
theorem ofStream_app (st : Int) (H L : List Msg) : zbu st (H ++ L) = zbu st H ++ zbu st L := by unfold zbu; rw [List.filter_append]
theorem rok_app {H : List Msg} {r : Receiver} (h : ROk H r) (L : List Msg) (hL : HOk (H ++ L)) : ROk (H ++ L) r := by
  refine ⟨h.inv, fun x hx hg => by have := h.lt x hx hg; rw [List.length_append]; omega, ⟨fun c hc => ?_, h.tale.nd, fun k hk hlt => ?_, fun k hk hg => ?_, fun st h3 => ?_⟩, h.no⟩
  · obtain ⟨k, hk, e, hg, hl⟩ := h.tale.hold c hc
    have e1 : (H ++ L)[k]'(by rw [List.length_append]; omega) = H[k] := List.getElem_append_left hk
    exact ⟨k, by rw [List.length_append]; omega, by rw [chk_app hk]; exact e, hg, by rw [e1, cnt_app (by omega)]; exact hl⟩
  · by_cases hk' : k < H.length
    · have e1 : (H ++ L)[k] = H[k] := List.getElem_append_left hk'
      rw [e1, cnt_app (by omega)] at hlt
      exact h.tale.rc k hk' hlt
    · exfalso
      have h5 : cnt (H ++ L)[k].1 (H ++ L) H.length ≤ cnt (H ++ L)[k].1 (H ++ L) k := cnt_mono (by omega)
      rw [cnt_app (Nat.le_refl _)] at h5
      have h6 : cnt (H ++ L)[k].1 H H.length = (zbu (H ++ L)[k].1 H).length := by unfold cnt; rw [List.take_length]
      have h8 : r.places.get (H ++ L)[k].1 ≤ (zbu (H ++ L)[k].1 H).length := (h.tale.tl _ (hL.st hk)).2.1
      have hlt' : (cnt (H ++ L)[k].1 (H ++ L) k : Int) < r.places.get (H ++ L)[k].1 := hlt
      omega
  · have hk' : k < H.length := by have := h.lt k (by omega) hg; omega
    have e1 : (H ++ L)[k] = H[k] := List.getElem_append_left hk'
    rw [e1, chk_app hk', cnt_app (by omega)]
    exact h.tale.all k hk' hg
  · obtain ⟨a1, a2, a3⟩ := h.tale.tl st h3
    refine ⟨a1, by rw [ofStream_app, List.length_append]; omega, ?_⟩
    rw [ofStream_app, List.take_append_of_le_length (by omega)]
    exact a3
theorem got_takes {r : Receiver} (hr : RInv r) {c : Chunk} (hc : zdc c = 0) (hk : c.kind = 1) (hn : ¬ zdy r c.num) (x : Int) : got (takes r c) x ↔ got r x ∨ x = c.num := by
  unfold zdy at hn
  have hm := MChunk.num ⟨hk, hc⟩
  have hne : c.num ∉ r.early := fun e => hn (.inr (.inl e))
  have hge : r.next ≤ c.num := by
    by_cases hx : c.num < r.next
    · exact absurd (.inl hx) hn
    · omega
  obtain ⟨g1, g2, g3, g4, g5, g6, g7⟩ := strip_spec (l := zdt c.num r.early) (x := r.next) (insertS_sorted hr.s hne) (fun y hy => by
    rcases insertS_mem.1 hy with rfl | hy
    · exact ⟨hge, by omega⟩
    · have := hr.e y hy; omega) hr.n.2
  show (x < (zfr (zdt c.num r.early) r.next).2 ∨ x ∈ (zfr (zdt c.num r.early) r.next).1) ↔ (x < r.next ∨ x ∈ r.early) ∨ x = c.num
  by_cases hx : x < r.next
  · exact ⟨fun _ => .inl (.inl hx), fun _ => .inl (by omega)⟩
  · have := g7 x
    rw [insertS_mem] at this
    constructor
    · rintro (h | h)
      · rcases this.1 (.inl ⟨by omega, h⟩) with e | e
        · exact .inr e
        · exact .inl (.inr e)
      · rcases this.1 (.inr h) with e | e
        · exact .inr e
        · exact .inl (.inr e)
    · intro h
      have : x = c.num ∨ x ∈ r.early := by
        rcases h with (h | h) | h
        · omega
        · exact .inr h
        · exact .inl h
      rcases (g7 x).2 (insertS_mem.2 this) with h | h
      · exact .inl h.2
      · exact .inr h
theorem got_hear {r : Receiver} (hr : RInv r) {c : Chunk} (hc : zdc c = 0) {x : Int} : (got r x → got (zfc r c) x) ∧ (got (zfc r c) x → got r x ∨ (x = c.num ∧ c.kind = 1)) := by
  unfold zfc
  split
  · exact ⟨id, .inl⟩
  · rename_i hk
    have hk : c.kind = 1 := Decidable.of_not_not hk
    split
    · exact ⟨id, .inl⟩
    · rename_i hn
      have := got_takes hr hc hk hn x
      exact ⟨fun h => this.2 (.inl h), fun h => (this.1 h).imp id fun e => ⟨e, hk⟩⟩
theorem rok_hear {H : List Msg} (hH : HOk H) {r : Receiver} (h : ROk H r) {k : Nat} (hk : k < H.length) : ROk H (zfc r (chk H k)) := by
  have hc := chk_right hH hk
  have hi := rinv_hear h.inv hc
  suffices hh : (∀ x : Int, 0 ≤ x → got (zfc r (chk H k)) x → x < H.length) ∧ TInv H (fun j => got (zfc r (chk H k)) j) ((zfc r (chk H k)).hold, (zfc r (chk H k)).places, (zfc r (chk H k)).told) ∧ tell1 ((zfc r (chk H k)).hold, (zfc r (chk H k)).places, (zfc r (chk H k)).told) = none from ⟨hi, hh.1, hh.2.1, hh.2.2⟩
  refine ⟨fun x hx hg => ?_, ?_⟩
  · rcases (got_hear h.inv hc).2 hg with h1 | ⟨h1, _⟩
    · exact h.lt x hx h1
    · rw [h1, chk_num]; omega
  · unfold zfc
    rw [if_neg (by rw [chk_kind]; decide)]
    split
    · exact ⟨⟨h.tale.hold, h.tale.nd, h.tale.rc, h.tale.all, h.tale.tl⟩, h.no⟩
    · rename_i hn
      have hg := got_takes h.inv hc (chk_kind H k) hn
      have h0 : TInv H (fun j => got (takes r (chk H k)) j) (r.hold ++ [chk H k], r.places, r.told) := by
        have hnk : ¬ got r k := fun e => hn (e.elim .inl fun e => .inr (.inl e))
        refine ⟨fun c hc' => ?_, ?_, fun j hj hlt => (hg _).2 (.inl (h.tale.rc j hj hlt)), fun j hj hR => ?_, h.tale.tl⟩
        · rcases List.mem_append.1 hc' with h1 | h1
          · obtain ⟨j, hj, e, hR, hl⟩ := h.tale.hold c h1
            exact ⟨j, hj, e, (hg _).2 (.inl hR), hl⟩
          · refine ⟨k, hk, List.mem_singleton.1 h1, (hg _).2 (.inr rfl), ?_⟩
            by_cases hx : (cnt H[k].1 H k : Int) < r.places.get H[k].1
            · exact absurd (h.tale.rc k hk hx) hnk
            · show r.places.get H[k].1 ≤ _
              omega
        · refine List.pairwise_append.2 ⟨h.tale.nd, List.pairwise_singleton _ _, fun a ha b hb => ?_⟩
          rw [List.mem_singleton.1 hb]
          rintro rfl
          obtain ⟨j, hj, e, hR, hl⟩ := h.tale.hold _ ha
          have e1 : (k : Int) = j := by rw [← chk_num H k, e, chk_num]
          exact hnk (by rw [e1]; exact hR)
        · rcases (hg _).1 hR with h1 | h1
          · rcases h.tale.all j hj h1 with h2 | h2
            · exact .inl h2
            · exact .inr (List.mem_append_left _ h2)
          · rw [chk_num] at h1
            have : j = k := by omega
            subst this
            exact .inr (List.mem_append_right _ (List.mem_singleton.2 rfl))
      obtain ⟨h1, h2⟩ := tellAll_ind (P := TInv H (fun j => got (takes r (chk H k)) j)) (fun s t => tinv_step hH) _ _ rfl h0
      exact ⟨⟨h1.hold, h1.nd, h1.rc, h1.all, h1.tl⟩, h2⟩
theorem rok_say {H : List Msg} {r : Receiver} (h : ROk H r) : ROk H (rsay r).1 ∧ ∀ x, got (rsay r).1 x ↔ got r x := by
  unfold rsay
  split
  · exact ⟨⟨rinv_say' h.inv, h.lt, ⟨h.tale.hold, h.tale.nd, h.tale.rc, h.tale.all, h.tale.tl⟩, h.no⟩, fun _ => Iff.rfl⟩
  · exact ⟨h, fun _ => Iff.rfl⟩
where rinv_say' {r : Receiver} (h : RInv r) : RInv { r with owes := false } := ⟨h.n, h.s, h.e, h.el, h.t, h.p, h.h⟩
theorem rok_fits {H : List Msg} {r : Receiver} (h : ROk H r) : fits r.told H = true := by
  apply fitsY
  intro j hj
  obtain ⟨a1, a2, a3⟩ := h.tale.tl (j : Int) (by omega)
  have a3' : zbu (j : Int) r.told = (zbu (j : Int) H).take (r.places.get j).toNat := a3
  have a2' : (r.places.get j).toNat ≤ (zbu (j : Int) H).length := by simp only at a2; omega
  unfold fits1
  rw [a3', List.length_take, Nat.min_eq_left a2']
  simp [a2']
theorem rok_all {H : List Msg} (hH : HOk H) {r : Receiver} (h : ROk H r) {n : Nat} (hn : n ≤ H.length) (hlt : ∀ x : Int, 0 ≤ x → got r x → x < n) (hall : ∀ k : Nat, k < n → got r k) :
    r.hold = [] ∧ r.early = [] ∧ r.next = n ∧ r.told.length = n := by
  have hnx : r.next = n := by
    have h1 : ¬ got r r.next := by
      rintro (h1 | h1)
      · omega
      · have := h.inv.e _ h1; omega
    have h2 := h.inv.n
    have h3 : ¬ r.next < n := fun e => h1 (by have := hall r.next.toNat (by omega); rwa [Int.toNat_of_nonneg h2.1] at this)
    have h4 : ¬ n < r.next := fun e => by
      have := hlt n (by omega) (.inl e)
      omega
    omega
  have he : r.early = [] := by
    cases hE : r.early with
    | nil => rfl
    | cons y t =>
      have h1 : y ∈ r.early := by rw [hE]; simp
      have h2 := h.inv.e y h1
      have h3 := h.inv.n
      have := hlt y (by omega) (.inr h1)
      omega
  have hho : r.hold = [] := by
    cases hO : r.hold with
    | nil => rfl
    | cons c t =>
      exfalso
      obtain ⟨k, hk, e, hR, hl⟩ := h.tale.hold c (by show c ∈ r.hold; rw [hO]; simp)
      have hp : r.places.get H[k].1 ≤ cnt H[k].1 H k := hl
      have hp0 : 0 ≤ r.places.get H[k].1 := (h.tale.tl _ (hH.st hk)).1
      have hno : ∀ c ∈ r.hold, zdz r.places c = false := by
        intro c' hc'
        have := h.no
        unfold tell1 at this
        split at this
        · rename_i hf
          have := List.find?_eq_none.1 hf c' hc'
          simpa using this
        · cases this
      have hkn : (k : Int) < n := hlt k (by omega) hR
      have hc1 : (r.places.get H[k].1).toNat < cnt H[k].1 H (k + 1) := by
        have := cnt_succ hk H[k].1
        rw [if_pos rfl] at this
        omega
      obtain ⟨j, hj, hjk, hjs, hjc⟩ := cnt_hit (st := H[k].1) (k := k + 1) (by omega) hc1
      have hRj := hall j (by omega)
      rcases h.tale.all j hj hRj with h5 | h5
      · have h5' : (cnt H[j].1 H j : Int) < r.places.get H[j].1 := h5
        rw [hjs] at h5'; omega
      · have h6 := hno _ h5
        unfold zdz at h6
        rw [chk_eq hj] at h6
        simp only [hjs, hjc] at h6
        have := of_decide_eq_false h6
        omega
  refine ⟨hho, he, hnx, ?_⟩
  have := h.inv.t
  rw [hho, he] at this
  simp at this
  omega
structure SHist (H : List Msg) (s : Sender) : Prop where
  inv : SInv s
  len : (H.length : Int) = s.next + s.queue.length
  q : s.queue = H.drop s.next.toNat
  fl : ∀ c ∈ s.flight, ∃ k : Nat, (k : Int) < s.next ∧ c = chk H k
  pl : ∀ st, (st = 0 ∨ st = 1 ∨ st = 2) → s.places.get st = cnt st H s.next.toNat
theorem shist0 : SHist [] zer := by
  refine ⟨sinv0, by simp [zer], by simp [zer], by simp [zer], fun st h3 => ?_⟩
  rcases h3 with rfl | rfl | rfl <;> simp [zer, places0, Places.get, cnt, zbu]
theorem SHist.hd {H : List Msg} {s : Sender} (h : SHist H s) {m : Msg} {q : List Msg} (hq : s.queue = m :: q) : ∃ hk : s.next.toNat < H.length, H[s.next.toNat] = m ∧ q = H.drop (s.next.toNat + 1) := by
  have h1 := h.len; have h2 := h.inv.n; have h3 := h.q
  rw [hq] at h1 h3
  simp only [List.length_cons] at h1
  have hk : s.next.toNat < H.length := by omega
  rw [List.drop_eq_getElem_cons hk] at h3
  injection h3 with h4 h5
  exact ⟨hk, h4.symm, h5⟩
theorem SHist.new {H : List Msg} {s : Sender} (h : SHist H s) (hH : HOk H) {m : Msg} {q : List Msg} (hq : s.queue = m :: q) : zdv s m = chk H s.next.toNat := by
  obtain ⟨hk, e, _⟩ := h.hd hq
  rw [chk_eq hk, e]
  have h3 := hH.st hk
  rw [e] at h3
  unfold zdv
  rw [h.pl _ h3, Int.toNat_of_nonneg h.inv.n]
theorem SHist.said {H : List Msg} {s : Sender} (h : SHist H s) (hH : HOk H) (ho : (say s).2.2 = true) : ∃ k : Nat, (k : Int) < (say s).1.next ∧ (say s).2.1 = chk H k := by
  rcases say_is s with ⟨_, _, e⟩ | ⟨m, q, hq, hl, e⟩ | ⟨hl, _, e⟩
  · rw [e] at ho; cases ho
  · rw [e]
    refine ⟨s.next.toNat, ?_, h.new hH hq⟩
    have := h.inv.n
    show _ < s.next + 1
    omega
  · obtain ⟨k, hk, _, e2⟩ := zfh h.inv hl
    rw [e, e2]
    exact h.fl _ (List.getElem_mem hk)
theorem say_next (s : Sender) : s.next ≤ (say s).1.next := by
  rcases say_is s with ⟨_, _, e⟩ | ⟨m, q, hq, hl, e⟩ | ⟨hl, _, e⟩
  · rw [e]; exact Int.le_refl _
  · rw [e]; show s.next ≤ s.next + 1; omega
  · rw [e]; exact Int.le_refl _
theorem shist_say {H : List Msg} {s : Sender} (h : SHist H s) (hH : HOk H) : SHist H (say s).1 ∧ (∀ c ∈ s.flight, c ∈ (say s).1.flight) ∧ ∀ k : Nat, (k : Int) < (say s).1.next → (k : Int) < s.next ∨ chk H k ∈ (say s).1.flight := by
  have hi := sinv_say h.inv
  rcases say_is s with ⟨_, _, e⟩ | ⟨m, q, hq, hl, e⟩ | ⟨hl, _, e⟩
  · rw [e]; exact ⟨h, fun c hc => hc, fun k hk => .inl hk⟩
  · rw [e] at hi ⊢
    obtain ⟨hk, e1, e2⟩ := h.hd hq
    have hn := h.inv.n
    have h1 := h.len
    rw [hq, List.length_cons] at h1
    have e3 : (s.next + 1).toNat = s.next.toNat + 1 := by omega
    have h3 := hH.st hk
    refine ⟨⟨hi, by show _ = s.next + 1 + (q.length : Int); omega, by show q = H.drop (s.next + 1).toNat; rw [e3]; exact e2, fun c hc => ?_, fun st hst => ?_⟩, fun c hc => List.mem_append_left _ hc, fun k hk2 => ?_⟩
    · rcases List.mem_append.1 hc with hc | hc
      · obtain ⟨k, hk1, hk2⟩ := h.fl c hc
        exact ⟨k, by show _ < s.next + 1; omega, hk2⟩
      · exact ⟨s.next.toNat, by show _ < s.next + 1; omega, (List.mem_singleton.1 hc).trans (h.new hH hq)⟩
    · show (s.places.bump m.1).get st = cnt st H (s.next + 1).toNat
      rw [e3, cnt_succ hk, get_bump _ (by rw [← e1]; exact h3) hst, h.pl st hst, e1]
      by_cases hx : st = m.1
      · subst hx; simp
      · rw [if_neg hx, if_neg (fun e => hx e.symm)]; simp
    · have hk3 : (k : Int) < s.next + 1 := hk2
      by_cases hx : (k : Int) < s.next
      · exact .inl hx
      · right
        have : k = s.next.toNat := by omega
        subst this
        show _ ∈ s.flight ++ [zdv s m]
        rw [← h.new hH hq]; simp
  · rw [e] at hi ⊢
    obtain ⟨k, hk, _, e2⟩ := zfh h.inv hl
    rw [e2] at hi ⊢
    exact ⟨⟨hi, h.len, h.q, h.fl, h.pl⟩, fun c hc => hc, fun k hk => .inl hk⟩
theorem shist_hear {H : List Msg} {s : Sender} (h : SHist H s) (c : Chunk) : SHist H (hear s c) ∧ (hear s c).next = s.next ∧ ∀ x ∈ s.flight, x ∈ (hear s c).flight ∨ (c.kind = 2 ∧ told c x = true) := by
  have hi := sinv_hear h.inv c
  unfold hear at hi ⊢
  split at hi
  · rename_i hk
    rw [if_pos hk]
    exact ⟨h, rfl, fun x hx => .inl hx⟩
  · rename_i hk
    rw [if_neg hk]
    refine ⟨⟨hi, h.len, h.q, fun x hx => h.fl x (List.mem_filter.1 hx).1, h.pl⟩, rfl, fun x hx => ?_⟩
    cases ht : told c x with
    | true => exact .inr ⟨by omega, rfl⟩
    | false => exact .inl (List.mem_filter.2 ⟨hx, by rw [ht]; rfl⟩)
theorem shist_put {H : List Msg} {s : Sender} (h : SHist H s) (hH : HOk H) (m : Msg) :
    ((put s m).2 ≠ 0 ∧ (put s m).1 = s) ∨ ((put s m).2 = 0 ∧ HOk (H ++ [m]) ∧ SHist (H ++ [m]) (put s m).1 ∧ (put s m).1.next = s.next ∧ (put s m).1.flight = s.flight) := by
  have hi := sinv_put h.inv m
  unfold put at hi ⊢
  by_cases h1 : zcp m ≠ 0
  · rw [if_pos h1]; exact .inl ⟨h1, rfl⟩
  · rw [if_neg h1] at hi ⊢
    by_cases h2 : 5 < s.queue.length
    · rw [if_pos h2]; exact .inl ⟨by simp, rfl⟩
    · rw [if_neg h2] at hi ⊢
      by_cases h3 : 39 < s.next + s.queue.length
      · rw [if_pos h3]; exact .inl ⟨by simp, rfl⟩
      · rw [if_neg h3] at hi ⊢
        have hl := h.len
        have hn := h.inv.n
        refine .inr ⟨rfl, ⟨by rw [List.length_append]; simp; omega, fun x hx => ?_⟩, ⟨hi, ?_, ?_, fun c hc => ?_, fun st hst => ?_⟩, rfl, rfl⟩
        · rcases List.mem_append.1 hx with hx | hx
          · exact hH.right x hx
          · rw [List.mem_singleton.1 hx]; exact Decidable.of_not_not h1
        · simp only [List.length_append, List.length_singleton]; omega
        · show s.queue ++ [m] = (H ++ [m]).drop s.next.toNat
          rw [List.drop_append_of_le_length (by omega), ← h.q]
        · obtain ⟨k, hk, e⟩ := h.fl c hc
          exact ⟨k, hk, by rw [chk_app (by omega)]; exact e⟩
        · show s.places.get st = _
          rw [h.pl st hst]
          show _ = ((cnt st (H ++ [m]) s.next.toNat : Nat) : Int)
          rw [cnt_app (by omega)]
def genuine (H : List Msg) (n : Int) (p : List UInt8) : Prop := ∃ k : Nat, (k : Int) < n ∧ p = bytes (chk H k)
def answer (r : Receiver) (p : List UInt8) : Prop := ∃ c : Chunk, c.kind = 2 ∧ zdc c = 0 ∧ p = bytes c ∧ ∀ x : Int, 0 ≤ x → x < c.num ∨ x ∈ c.early → got r x
structure LInv (sp : Bool) (H : List Msg) (l : Lane) : Prop where
  h : HOk H
  s : SHist H l.s
  r : ROk H l.r
  lt : ∀ x : Int, 0 ≤ x → got l.r x → x < l.s.next
  ack : ∀ k : Nat, (k : Int) < l.s.next → got l.r k ∨ chk H k ∈ l.s.flight
  there : ∀ p ∈ l.there, genuine H l.s.next p ∨ (sp = true ∧ (read p).2 ≠ 0)
  back : ∀ p ∈ l.back, answer l.r p ∨ (sp = true ∧ (read p).2 ≠ 0)
theorem LInv.nl {sp : Bool} {H : List Msg} {l : Lane} (h : LInv sp H l) : l.s.next ≤ H.length := by
  have := h.s.len; omega
theorem linv0 (sp : Bool) : LInv sp [] zdm := by
  refine ⟨hok0, shist0, rok0 _, fun x hx hg => ?_, fun k hk => ?_, by simp [zdm], by simp [zdm]⟩
  · have := (rok0 []).lt x hx hg
    simp only [zdm, zer, List.length_nil] at *; omega
  · simp only [zdm, zer] at hk; omega
theorem LInv.weak {H : List Msg} {l : Lane} (h : LInv false H l) (sp : Bool) : LInv sp H l :=
  ⟨h.h, h.s, h.r, h.lt, h.ack, fun p hp => (h.there p hp).elim .inl fun e => absurd e.1 (by decide), fun p hp => (h.back p hp).elim .inl fun e => absurd e.1 (by decide)⟩
theorem genuine_mono {H : List Msg} {n n' : Int} (hn : n ≤ n') {p : List UInt8} (h : genuine H n p) : genuine H n' p := by
  obtain ⟨k, hk, e⟩ := h; exact ⟨k, by omega, e⟩
theorem answer_mono {r r' : Receiver} (hr : ∀ x : Int, got r x → got r' x) {p : List UInt8} (h : answer r p) : answer r' p := by
  obtain ⟨c, h1, h2, h3, h4⟩ := h; exact ⟨c, h1, h2, h3, fun x hx e => hr x (h4 x hx e)⟩
theorem mem_putP {l : zcf} {b p : List UInt8} (h : p ∈ putP l b) : p ∈ l ∨ p = b := by
  unfold putP at h
  split at h
  · exact .inl h
  · rcases List.mem_append.1 h with h | h
    · exact .inl h
    · exact .inr (List.mem_singleton.1 h)
theorem linv_put {sp : Bool} {H : List Msg} {l : Lane} (h : LInv sp H l) (m : Msg) : LInv sp (if (put l.s m).2 = 0 then H ++ [m] else H) { l with s := (put l.s m).1 } := by
  rcases shist_put h.s h.h m with ⟨h1, h2⟩ | ⟨h1, h2, h3, h4, h5⟩
  · rw [if_neg h1, h2]; exact h
  · rw [if_pos h1]
    have hnl := h.nl
    refine ⟨h2, h3, rok_app h.r _ h2, ?_, ?_, ?_, h.back⟩
    · intro x hx hg; simp only [h4]; exact h.lt x hx hg
    · intro k hk
      simp only [h4] at hk
      simp only [h5]
      rw [chk_app (by omega)]
      exact h.ack k hk
    · intro p hp
      rcases h.there p hp with ⟨k, hk, e⟩ | e
      · exact .inl ⟨k, by simp only [h4]; exact hk, by rw [chk_app (by omega)]; exact e⟩
      · exact .inr e
theorem rising_of : ∀ {l : List Int} {n : Int}, l.Pairwise (· < ·) → (∀ x ∈ l, n < x ∧ x < 40) → rising n l = true
  | [], _, _, _ => rfl
  | a :: t, n, hs, hb => by
    have hs' := List.pairwise_cons.1 hs
    have h1 := hb a (by simp)
    have h2 := rising_of (l := t) (n := a) hs'.2 (fun x hx => ⟨hs'.1 x hx, (hb x (by simp [hx])).2⟩)
    simp [rising, h1.1, h1.2, h2]
theorem ack_right {r : Receiver} (h : RInv r) : zdc ⟨2, r.next, 0, 0, [], r.early⟩ = 0 := by
  have h1 := h.n; have h2 := h.el
  have h3 := rising_of h.s h.e
  unfold zdc
  rw [if_neg (by simp), if_neg (by simp only; omega), if_neg (by simp), if_neg (by simp), if_neg (by simp; omega), if_pos h3]
theorem linv_speak {sp : Bool} {H : List Msg} {l : Lane} (h : LInv sp H l) : LInv sp H (zec l) := by
  obtain ⟨h1, h2, h3⟩ := shist_say h.s h.h
  obtain ⟨h4, h5⟩ := rok_say h.r
  have hn := say_next l.s
  refine ⟨h.h, h1, h4, fun x hx hg => ?_, fun k hk => ?_, fun p hp => ?_, fun p hp => ?_⟩
  · have := h.lt x hx ((h5 x).1 hg)
    show x < (say l.s).1.next
    omega
  · rcases h3 k hk with e | e
    · rcases h.ack k e with e | e
      · exact .inl ((h5 k).2 e)
      · exact .inr (h2 _ e)
    · exact .inr e
  · have hp' : p ∈ (if (say l.s).2.2 then putP l.there (bytes (say l.s).2.1) else l.there) := hp
    split at hp'
    · rename_i ho
      rcases mem_putP hp' with e | e
      · exact (h.there p e).imp (genuine_mono hn) id
      · left
        obtain ⟨k, hk, e2⟩ := h.s.said h.h ho
        exact ⟨k, hk, by rw [e, e2]⟩
    · exact (h.there p hp').imp (genuine_mono hn) id
  · have hp' : p ∈ (if (rsay l.r).2.2 then putP l.back (bytes (rsay l.r).2.1) else l.back) := hp
    have hmono : ∀ x : Int, got l.r x → got (rsay l.r).1 x := fun x e => (h5 x).2 e
    split at hp'
    · rename_i ho
      rcases mem_putP hp' with e | e
      · exact (h.back p e).imp (answer_mono hmono) id
      · left
        have e3 : (rsay l.r).2.1 = ⟨2, l.r.next, 0, 0, [], l.r.early⟩ := by
          unfold rsay at ho ⊢
          split
          · rfl
          · rename_i hx; rw [if_neg hx] at ho; cases ho
        exact ⟨_, rfl, ack_right h.r.inv, by rw [e, e3], fun x hx e4 => hmono x e4⟩
    · exact (h.back p hp').imp (answer_mono hmono) id
theorem linv_with {sp sp' : Bool} {H : List Msg} {l : Lane} (h : LInv sp H l) (hsp : sp = true → sp' = true) (b : Bool) {P : zcf} (hP : ∀ p ∈ P, p ∈ way l b ∨ (sp' = true ∧ (read p).2 ≠ 0)) : LInv sp' H (withP l b P) := by
  have ht : ∀ p ∈ l.there, genuine H l.s.next p ∨ (sp' = true ∧ (read p).2 ≠ 0) := fun p hp => (h.there p hp).imp id fun e => ⟨hsp e.1, e.2⟩
  have hb : ∀ p ∈ l.back, answer l.r p ∨ (sp' = true ∧ (read p).2 ≠ 0) := fun p hp => (h.back p hp).imp id fun e => ⟨hsp e.1, e.2⟩
  cases b with
  | true => exact ⟨h.h, h.s, h.r, h.lt, h.ack, ht, fun p hp => (hP p hp).elim (hb p) .inr⟩
  | false => exact ⟨h.h, h.s, h.r, h.lt, h.ack, fun p hp => (hP p hp).elim (ht p) .inr, hb⟩
theorem getD_mem {P : zcf} {k : Nat} (hk : k < P.length) : P.getD k [] ∈ P := by
  have : P.getD k [] = P[k] := by simp [List.getD, List.getElem?_eq_getElem hk]
  rw [this]; exact List.getElem_mem hk
theorem linv_comes {sp : Bool} {H : List Msg} {l : Lane} (h : LInv sp H l) {k : Nat} {b : Bool} (hk : k < (way l b).length) : LInv sp H (zfp l k b) := by
  have hw : LInv sp H (withP l b ((way l b).eraseIdx k)) := linv_with h id b fun p hp => .inl (List.mem_of_mem_eraseIdx hp)
  have hm := getD_mem hk
  unfold zfp
  simp only
  split
  · exact hw
  · rename_i hr
    have hr : (read ((way l b).getD k [])).2 = 0 := Decidable.of_not_not hr
    cases b with
    | true =>
      simp only [if_true]
      have hm' : (way l true).getD k [] ∈ l.back := hm
      rcases h.back _ hm' with ⟨c, h1, h2, h3, h4⟩ | e
      · rw [h3, read_bytes h2]
        have hs : (withP l true ((way l true).eraseIdx k)).s = l.s := rfl
        obtain ⟨g1, g2, g3⟩ := shist_hear h.s c
        refine ⟨h.h, g1, h.r, fun x hx hg => ?_, fun j hj => ?_, fun p hp => ?_, hw.back⟩
        · show x < (hear l.s c).next
          rw [g2]; exact h.lt x hx hg
        · have hj' : (j : Int) < l.s.next := by rw [← g2]; exact hj
          rcases h.ack j hj' with e | e
          · exact .inl e
          · rcases g3 _ e with e2 | ⟨_, e2⟩
            · exact .inr e2
            · left
              refine h4 j (by omega) ?_
              unfold told at e2
              rw [chk_num] at e2
              simpa using e2
        · rcases h.there p hp with e | e
          · exact .inl (by show genuine H (hear l.s c).next p; rw [g2]; exact e)
          · exact .inr e
      · exact absurd hr e.2
    | false =>
      simp only [Bool.false_eq_true, if_false]
      have hm' : (way l false).getD k [] ∈ l.there := hm
      rcases h.there _ hm' with ⟨j, hj, h3⟩ | e
      · have hjl : j < H.length := by have := h.nl; omega
        have hc := chk_right h.h hjl
        rw [h3, read_bytes hc]
        have hmono : ∀ x : Int, got l.r x → got (zfc l.r (chk H j)) x := fun x e => (got_hear h.r.inv hc).1 e
        refine ⟨h.h, h.s, rok_hear h.h h.r hjl, fun x hx hg => ?_, fun i hi => ?_, hw.there, fun p hp => ?_⟩
        · rcases (got_hear h.r.inv hc).2 hg with e | ⟨e, _⟩
          · exact h.lt x hx e
          · rw [e, chk_num]; exact hj
        · exact (h.ack i hi).imp (hmono i) id
        · exact (h.back p hp).imp (answer_mono hmono) id
      · exact absurd hr e.2
theorem xor1_ne : ∀ n : Fin 256, n.val ^^^ 1 ≠ n.val := by decide +kernel
theorem flip1_ne (x : UInt8) : x ≠ flip1 x := by
  intro h
  have h2 := congrArg UInt8.toNat h
  unfold flip1 at h2
  rw [UInt8.toNat_xor] at h2
  exact xor1_ne ⟨x.toNat, x.toNat_lt⟩ h2.symm
theorem spoil_bytes {c : Chunk} {i : Nat} (hi : i < (bytes c).length) : read (spoilAt (bytes c) i) = (zfj, 7) := by
  unfold spoilAt
  have e : (bytes c).getD i 0 = (bytes c)[i] := by simp [List.getD, List.getElem?_eq_getElem hi]
  rw [e]
  exact spoilt hi (flip1_ne _)
theorem mem_set {P : zcf} {k : Nat} {q p : List UInt8} (h : p ∈ P.set k q) : p ∈ P ∨ p = q := List.mem_or_eq_of_mem_set h
theorem linv_packet {sp : Bool} {H : List Msg} {l : Lane} (h : LInv sp H l) (kind n a : Int) (b : Bool) (hs : kind = 6 → sp = false) : LInv (sp || decide (kind = 6)) H (zcz l kind n a b).1 := by
  have hself : LInv (sp || decide (kind = 6)) H l := by
    cases sp with
    | true => exact h
    | false => exact h.weak _
  unfold zcz
  simp only
  split
  · exact hself
  · rename_i h1
    have hk : n.toNat < (way l b).length := by omega
    split
    · rename_i h2
      exact linv_with hself id b fun p hp => .inl (List.mem_of_mem_eraseIdx hp)
    · split
      · refine linv_with hself id b fun p hp => .inl ?_
        rcases mem_putP hp with e | e
        · exact e
        · rw [e]; exact getD_mem hk
      · split
        · rename_i h6
          split
          · exact hself
          · rename_i h7
            have hsp := hs h6
            subst hsp
            refine linv_with h (by intro e; cases e) b fun p hp => ?_
            rcases mem_set hp with e | e
            · exact .inl e
            · right
              refine ⟨by simp [h6], ?_⟩
              have hm := getD_mem hk
              have hx : ∃ c, (way l b).getD n.toNat [] = bytes c := by
                cases b with
                | true =>
                  rcases h.back _ hm with ⟨c, _, _, e3, _⟩ | e3
                  · exact ⟨c, e3⟩
                  · exact absurd e3.1 (by decide)
                | false =>
                  rcases h.there _ hm with ⟨k, _, e3⟩ | e3
                  · exact ⟨_, e3⟩
                  · exact absurd e3.1 (by decide)
              obtain ⟨c, e3⟩ := hx
              rw [e3] at h7
              rw [e, e3, spoil_bytes (by omega)]
              decide
        · have := linv_comes hself (k := n.toNat) (b := b) hk
          exact this
theorem linv_step {sp : Bool} {H : List Msg} {l : Lane} (h : LInv sp H l) (s : Step) (hs : s.kind = 6 → sp = false) :
    LInv (sp || decide (s.kind = 6)) (if s.kind = 2 ∧ (zcy l s).2 = 0 then H ++ [s.msg] else H) (zcy l s).1 := by
  unfold zcy
  by_cases h2 : s.kind = 2
  · rw [if_pos h2]
    have e : (sp || decide (s.kind = 6)) = sp := by rw [decide_eq_false (by omega)]; simp
    rw [e]
    have := linv_put h s.msg
    simpa [h2] using this
  · rw [if_neg h2, if_neg (fun e => h2 e.1)]
    exact linv_packet h s.kind s.n s.m s.back hs
theorem linv_fits {sp : Bool} {H : List Msg} {l : Lane} (h : LInv sp H l) : fits l.r.told H = true := rok_fits h.r
theorem linv_idle {sp : Bool} {H : List Msg} {l : Lane} (h : LInv sp H l) (hi : idleB l = true) : (l.r.told.length : Int) = l.s.next ∧ l.r.told.length = H.length := by
  unfold idleB at hi
  simp only [Bool.and_eq_true, decide_eq_true_eq] at hi
  have h0 := h.s.inv.n
  have hl := h.s.len
  rw [hi.1] at hl
  simp only [List.length_nil] at hl
  have := rok_all h.h h.r (n := H.length) (Nat.le_refl _) (fun x hx hg => by have := h.lt x hx hg; omega) (fun k hk => by
    rcases h.ack k (by omega) with e | e
    · exact e
    · rw [hi.2] at e; simp at e)
  omega
end Go.Proofs.Ytaadloihphpdbaa

/- Worlds, as pure data: what always holds; what a step does to one lane alone; what a tenant put. No program in sight. -/
namespace Go.Proofs.Ytaadloihphpdbaa
open Go Go.Vc
structure BInv (l : Lane) : Prop where
  s : SInv l.s
  r : RInv l.r
  there : l.there.length ≤ 6 ∧ ∀ p ∈ l.there, p.length ≤ 16
  back : l.back.length ≤ 6 ∧ ∀ p ∈ l.back, p.length ≤ 16
theorem binv0 : BInv zdm := ⟨sinv0, rinv0, by simp [zdm], by simp [zdm]⟩
theorem bytes_le {c : Chunk} (h : zdc c = 0) : (bytes c).length ≤ 12 := by
  unfold bytes
  rw [zeh]
  obtain ⟨hn, ⟨hk, h39, hp, he, hs, hd⟩ | ⟨hk, hs, hp, hd, hl, hr⟩⟩ := wrong_ok h
  · rw [body_data hk he]; simp; omega
  · rw [body_ack hk]; simp; omega
def POk (P : zcf) : Prop := P.length ≤ 6 ∧ ∀ p ∈ P, p.length ≤ 16
theorem pok_put {P : zcf} (h : POk P) {b : List UInt8} (hb : b.length ≤ 16) : POk (putP P b) := by
  refine ⟨?_, fun p hp => ?_⟩
  · unfold putP
    split
    · exact h.1
    · rw [List.length_append]; simp; omega
  · rcases mem_putP hp with e | e
    · exact h.2 p e
    · rw [e]; exact hb
theorem pok_erase {P : zcf} (h : POk P) (k : Nat) : POk (P.eraseIdx k) :=
  ⟨Nat.le_trans (List.eraseIdx_sublist _ _).length_le h.1, fun p hp => h.2 p (List.mem_of_mem_eraseIdx hp)⟩
theorem pok_set {P : zcf} (h : POk P) (k : Nat) {b : List UInt8} (hb : b.length ≤ 16) : POk (P.set k b) :=
  ⟨by rw [List.length_set]; exact h.1, fun p hp => (mem_set hp).elim (h.2 p) fun e => by rw [e]; exact hb⟩
theorem BInv.way {l : Lane} (h : BInv l) (b : Bool) : POk (way l b) := by cases b; exact h.there; exact h.back
theorem binv_with {l : Lane} (h : BInv l) (b : Bool) {P : zcf} (hP : POk P) : BInv (withP l b P) := by
  cases b
  · exact ⟨h.s, h.r, hP, h.back⟩
  · exact ⟨h.s, h.r, h.there, hP⟩
theorem binv_speak {l : Lane} (h : BInv l) : BInv (zec l) := by
  refine ⟨sinv_say h.s, rinv_say h.r, ?_, ?_⟩
  · show POk (if (say l.s).2.2 then putP l.there (bytes (say l.s).2.1) else l.there)
    split
    · rename_i ho
      have := bytes_le (say_right h.s ho).1
      exact pok_put h.there (by omega)
    · exact h.there
  · show POk (if (rsay l.r).2.2 then putP l.back (bytes (rsay l.r).2.1) else l.back)
    split
    · rename_i ho
      have e3 : (rsay l.r).2.1 = ⟨2, l.r.next, 0, 0, [], l.r.early⟩ := by
        unfold rsay at ho ⊢
        split
        · rfl
        · rename_i hx; rw [if_neg hx] at ho; cases ho
      have := bytes_le (ack_right h.r)
      exact pok_put h.back (by rw [e3]; omega)
    · exact h.back
theorem binv_comes {l : Lane} (h : BInv l) (k : Nat) (b : Bool) : BInv (zfp l k b) := by
  have hw := binv_with h b (pok_erase (h.way b) k)
  unfold zfp
  simp only
  split
  · exact hw
  · rename_i hr
    have hr : (read ((Go.Proofs.Ytaadloihphpdbaa.way l b).getD k [])).2 = 0 := Decidable.of_not_not hr
    have hc := (bytes_read hr).1
    split
    · exact ⟨sinv_hear hw.s _, hw.r, hw.there, hw.back⟩
    · exact ⟨hw.s, rinv_hear hw.r hc, hw.there, hw.back⟩
theorem binv_packet {l : Lane} (h : BInv l) (kind n a : Int) (b : Bool) : BInv (zcz l kind n a b).1 := by
  unfold zcz
  simp only
  split
  · exact h
  · rename_i h1
    have hk : n.toNat < (Go.Proofs.Ytaadloihphpdbaa.way l b).length := by omega
    have hp := (h.way b).2 _ (getD_mem hk)
    split
    · exact binv_with h b (pok_erase (h.way b) _)
    · split
      · exact binv_with h b (pok_put (h.way b) hp)
      · split
        · split
          · exact h
          · refine binv_with h b (pok_set (h.way b) _ ?_)
            unfold spoilAt; rw [List.length_set]; exact hp
        · exact binv_comes h _ _
theorem binv_step {l : Lane} (h : BInv l) (s : Step) : BInv (zcy l s).1 := by
  unfold zcy
  split
  · exact ⟨sinv_put h.s _, h.r, h.there, h.back⟩
  · exact binv_packet h _ _ _ _
def lstep (n t : Nat) (x : Lane × Int) (s : Step) : Lane × Int :=
  if s.kind = 1 then (if (x.2 % n).toNat = t then zec x.1 else x.1, x.2 + 1)
  else if (1 ≤ s.kind ∧ s.kind ≤ 6) ∧ s.tenant = t then ((zcy x.1 s).1, x.2) else x
def atL (w : World') (t : Nat) : Lane × Int := (w.lanes.getD t zdm, w.ticks)
theorem getD_set {l : List Lane} {i t : Nat} {a : Lane} (ht : t < l.length) : (l.set i a).getD t zdm = if i = t then a else l.getD t zdm := by
  simp only [List.getD, List.getElem?_set]
  by_cases h : i = t
  · subst h; simp [ht]
  · simp [h]
theorem doStep_len (w : World') (s : Step) : (zcu w s).1.lanes.length = w.lanes.length := by
  unfold zcu
  split
  · rfl
  · split
    · simp
    · split
      · rfl
      · simp
theorem doStep_at {w : World'} {s : Step} {t : Nat} (ht : t < w.lanes.length) : atL (zcu w s).1 t = lstep w.lanes.length t (atL w t) s := by
  unfold zcu lstep
  by_cases h1 : s.kind < 1 ∨ 6 < s.kind
  · rw [if_pos h1, if_neg (by omega), if_neg (by omega)]
  · rw [if_neg h1]
    by_cases h2 : s.kind = 1
    · rw [if_pos h2, if_pos h2]
      show (((w.lanes.set (whose w) _).getD t zdm, w.ticks + 1) : Lane × Int) = _
      rw [getD_set ht]
      show _ = ((if whose w = t then zec (w.lanes.getD t zdm) else w.lanes.getD t zdm), w.ticks + 1)
      by_cases h3 : whose w = t
      · rw [if_pos h3, if_pos h3, h3]
      · rw [if_neg h3, if_neg h3]
    · rw [if_neg h2, if_neg h2]
      by_cases h3 : s.tenant < 0 ∨ (w.lanes.length : Int) ≤ s.tenant
      · rw [if_pos h3, if_neg (by omega)]
      · rw [if_neg h3]
        show (((w.lanes.set s.tenant.toNat _).getD t zdm, w.ticks) : Lane × Int) = _
        rw [getD_set ht]
        by_cases h4 : s.tenant = t
        · have h5 : s.tenant.toNat = t := by omega
          rw [if_pos h5, if_pos ⟨by omega, h4⟩, h5]; rfl
        · rw [if_neg (by omega), if_neg (by omega)]; rfl
theorem doStep_err {w : World'} {s : Step} {t : Nat} (ht : t < w.lanes.length) (hp : isPut t s = true) : (zcu w s).2 = (zcy (atL w t).1 s).2 := by
  unfold isPut at hp
  simp only [Bool.and_eq_true, decide_eq_true_eq] at hp
  unfold zcu
  rw [if_neg (by omega), if_neg (by omega), if_neg (by omega)]
  have : s.tenant.toNat = t := by omega
  rw [this]; rfl
theorem plays_len : ∀ (l : List Step) (w : World'), (zff w l).1.lanes.length = w.lanes.length
  | [], w => rfl
  | s :: r, w => (plays_len r _).trans (doStep_len w s)
theorem plays_es : ∀ (l : List Step) (w : World'), (zff w l).2.length = l.length
  | [], w => rfl
  | s :: r, w => by show (_ :: (zff _ r).2).length = _; rw [List.length_cons, plays_es r, List.length_cons]
theorem plays_at {t : Nat} : ∀ (l : List Step) (w : World'), t < w.lanes.length → atL (zff w l).1 t = l.foldl (lstep w.lanes.length t) (atL w t)
  | [], w, ht => rfl
  | s :: r, w, ht => by
    show atL (zff (zcu w s).1 r).1 t = r.foldl _ (lstep _ t (atL w t) s)
    rw [plays_at r _ (by rw [doStep_len]; exact ht), doStep_len, doStep_at ht]
def lputs (n t : Nat) : Lane × Int → List Step → List Msg
  | _, [] => []
  | x, s :: r => (if isPut t s = true ∧ (zcy x.1 s).2 = 0 then [s.msg] else []) ++ lputs n t (lstep n t x s) r
theorem putsOf_at {t : Nat} : ∀ (l : List Step) (w : World'), t < w.lanes.length → putsOf t l (zff w l).2 = lputs w.lanes.length t (atL w t) l
  | [], w, ht => rfl
  | s :: r, w, ht => by
    show (if (zcu w s).2 = 0 ∧ isPut t s = true then s.msg :: putsOf t r (zff (zcu w s).1 r).2 else putsOf t r (zff (zcu w s).1 r).2) = _
    rw [putsOf_at r _ (by rw [doStep_len]; exact ht), doStep_len, doStep_at ht]
    show _ = (if isPut t s = true ∧ (zcy (atL w t).1 s).2 = 0 then [s.msg] else []) ++ _
    by_cases hp : isPut t s = true
    · rw [doStep_err ht hp]
      by_cases he : (zcy (atL w t).1 s).2 = 0
      · rw [if_pos ⟨he, hp⟩, if_pos ⟨hp, he⟩]; rfl
      · rw [if_neg (fun e => he e.1), if_neg (fun e => he e.2)]; rfl
    · rw [if_neg (fun e => hp e.2), if_neg (fun e => hp e.1)]; rfl
def spoilN (l : List Step) : Nat := l.countP fun s => decide (s.kind = 6)
theorem LInv.weak' {sp sp' : Bool} {H : List Msg} {l : Lane} (h : LInv sp H l) (hs : sp = true → sp' = true) : LInv sp' H l := by
  cases sp with
  | true => rw [hs rfl]; exact h
  | false => exact h.weak _
theorem linv_lstep {sp : Bool} {H : List Msg} {n t : Nat} {x : Lane × Int} (h : LInv sp H x.1) (s : Step) (hs : s.kind = 6 → sp = false) :
    LInv (sp || decide (s.kind = 6)) (H ++ (if isPut t s = true ∧ (zcy x.1 s).2 = 0 then [s.msg] else [])) (lstep n t x s).1 := by
  unfold lstep
  by_cases h1 : s.kind = 1
  · rw [if_pos h1]
    have e : isPut t s = false := by unfold isPut; rw [decide_eq_false (by omega)]; rfl
    rw [e, if_neg (by simp), List.append_nil]
    refine LInv.weak' (sp := sp) ?_ (by intro e; rw [e]; rfl)
    show LInv sp H (if _ then _ else _)
    split
    · exact linv_speak h
    · exact h
  · rw [if_neg h1]
    by_cases h2 : (1 ≤ s.kind ∧ s.kind ≤ 6) ∧ s.tenant = t
    · rw [if_pos h2]
      have := linv_step h s hs
      by_cases h3 : s.kind = 2
      · have e : isPut t s = true := by unfold isPut; rw [decide_eq_true h3, decide_eq_true h2.2]; rfl
        rw [e]
        by_cases h4 : (zcy x.1 s).2 = 0
        · rw [if_pos ⟨h3, h4⟩] at this; rw [if_pos ⟨rfl, h4⟩]; exact this
        · rw [if_neg (fun e => h4 e.2)] at this; rw [if_neg (fun e => h4 e.2), List.append_nil]; exact this
      · have e : isPut t s = false := by unfold isPut; rw [decide_eq_false h3]; rfl
        rw [if_neg (fun e => h3 e.1)] at this
        rw [e, if_neg (by simp), List.append_nil]; exact this
    · rw [if_neg h2]
      have e : ¬ isPut t s = true := by
        unfold isPut
        simp only [Bool.and_eq_true, decide_eq_true_eq]
        omega
      rw [if_neg (fun e2 => e e2.1), List.append_nil]
      exact h.weak' (by intro e; rw [e]; rfl)
theorem linv_lsteps {n t : Nat} : ∀ (l : List Step) {sp : Bool} {H : List Msg} {x : Lane × Int}, LInv sp H x.1 → (if sp then 1 else 0) + spoilN l ≤ 1 →
    LInv (sp || decide (0 < spoilN l)) (H ++ lputs n t x l) (l.foldl (lstep n t) x).1
  | [], sp, H, x, h, _ => by
    show LInv _ (H ++ []) x.1
    rw [List.append_nil]
    exact h.weak' (by intro e; rw [e]; rfl)
  | s :: r, sp, H, x, h, hc => by
    have e : spoilN (s :: r) = spoilN r + if s.kind = 6 then 1 else 0 := by
      unfold spoilN; rw [List.countP_cons]; simp
    rw [e] at hc ⊢
    have h1 := linv_lstep (n := n) (t := t) h s (by
      intro e6
      rw [if_pos e6] at hc
      cases sp with
      | true => rw [if_pos rfl] at hc; omega
      | false => rfl)
    have h2 := linv_lsteps (n := n) (t := t) r h1 (by
      by_cases e6 : s.kind = 6
      · rw [if_pos e6] at hc
        rw [decide_eq_true e6, Bool.or_true, if_pos rfl]
        omega
      · rw [if_neg e6] at hc
        rw [decide_eq_false e6, Bool.or_false]
        omega)
    rw [List.append_assoc] at h2
    refine LInv.weak' (h2 : LInv _ (H ++ lputs n t x (s :: r)) _) ?_
    cases sp with
    | true => intro _; rfl
    | false =>
      by_cases e6 : s.kind = 6
      · rw [if_pos e6]; intro _; simp
      · rw [if_neg e6, decide_eq_false e6]; intro h3; simpa using h3
structure WOk (w : World') : Prop where
  len : 1 ≤ w.lanes.length ∧ w.lanes.length ≤ 3
  tk : 0 ≤ w.ticks
  b : ∀ l ∈ w.lanes, BInv l
theorem WOk.get {w : World'} (h : WOk w) {t : Nat} (ht : t < w.lanes.length) : BInv (w.lanes.getD t zdm) := by
  have : w.lanes.getD t zdm = w.lanes[t] := by simp [List.getD, List.getElem?_eq_getElem ht]
  rw [this]; exact h.b _ (List.getElem_mem ht)
theorem WOk.whose {w : World'} (h : WOk w) : whose w < w.lanes.length := by
  unfold Go.Proofs.Ytaadloihphpdbaa.whose
  have h1 := h.len
  have := Int.emod_lt_of_pos w.ticks (show (0 : Int) < w.lanes.length by omega)
  omega
theorem wok_set {w : World'} (h : WOk w) {t : Nat} {l : Lane} {k : Int} (hl : BInv l) (hk : 0 ≤ k) : WOk ⟨w.lanes.set t l, k⟩ := by
  refine ⟨by simp only [List.length_set]; exact h.len, hk, fun x hx => ?_⟩
  rcases List.mem_or_eq_of_mem_set hx with e | e
  · exact h.b x e
  · rw [e]; exact hl
theorem wok_do {w : World'} (h : WOk w) (s : Step) : WOk (zcu w s).1 := by
  unfold zcu
  have ht := h.tk
  split
  · exact h
  · split
    · exact wok_set h (binv_speak (h.get h.whose)) (by omega)
    · split
      · exact h
      · exact wok_set h (binv_step (h.get (by omega)) s) ht
theorem wok_plays : ∀ (l : List Step) {w : World'}, WOk w → WOk (zff w l).1
  | [], w, h => h
  | s :: r, w, h => wok_plays r (wok_do h s)
theorem doStep_ticks (w : World') (s : Step) : (zcu w s).1.ticks = w.ticks + if s.kind = 1 then 1 else 0 := by
  unfold zcu
  split
  · rw [if_neg (by omega)]; simp
  · split
    · rfl
    · split <;> simp
theorem plays_ticks : ∀ (l : List Step) (w : World'), w.ticks ≤ (zff w l).1.ticks ∧ (zff w l).1.ticks ≤ w.ticks + l.length
  | [], w => by simp [zff]
  | s :: r, w => by
    have h1 := plays_ticks r (zcu w s).1
    have h2 := doStep_ticks w s
    rw [h2] at h1
    show _ ≤ (zff (zcu w s).1 r).1.ticks ∧ (zff (zcu w s).1 r).1.ticks ≤ _
    rw [List.length_cons]
    split at h1 <;> omega
theorem new_is {n : Int} (h1 : 1 ≤ n) (h3 : n ≤ 3) : zdo n = ⟨List.replicate n.toNat zdm, 0⟩ := by unfold zdo; rw [if_neg (by omega)]
theorem wok_new {n : Int} (h1 : 1 ≤ n) (h3 : n ≤ 3) : WOk (zdo n) := by
  rw [new_is h1 h3]
  refine ⟨by simp only [List.length_replicate]; omega, Int.le_refl _, fun l hl => ?_⟩
  rw [List.eq_of_mem_replicate hl]; exact binv0
theorem new_len {n : Int} (h1 : 1 ≤ n) (h3 : n ≤ 3) : (zdo n).lanes.length = n.toNat := by rw [new_is h1 h3]; simp
theorem new_at {n : Int} (h1 : 1 ≤ n) (h3 : n ≤ 3) {t : Nat} (ht : t < n.toNat) : atL (zdo n) t = (zdm, 0) := by
  rw [new_is h1 h3]
  show ((List.replicate n.toNat zdm).getD t zdm, (0 : Int)) = _
  simp [List.getD, ht]
theorem wok_play {n : Int} (h1 : 1 ≤ n) (h3 : n ≤ 3) (l : List Step) : WOk (play n l).1 := wok_plays _ (wok_new h1 h3)
theorem play_len {n : Int} (h1 : 1 ≤ n) (h3 : n ≤ 3) (l : List Step) : (play n l).1.lanes.length = n.toNat := (plays_len _ _).trans (new_len h1 h3)
theorem play_at {n : Int} (h1 : 1 ≤ n) (h3 : n ≤ 3) (l : List Step) {t : Nat} (ht : t < n.toNat) : atL (play n l).1 t = (l.take 160).foldl (lstep n.toNat t) (zdm, 0) := by
  unfold play
  rw [plays_at _ _ (by rw [new_len h1 h3]; exact ht), new_len h1 h3, new_at h1 h3 ht]
theorem play_ticks {n : Int} (h1 : 1 ≤ n) (h3 : n ≤ 3) (l : List Step) : 0 ≤ (play n l).1.ticks ∧ (play n l).1.ticks ≤ 160 := by
  have := plays_ticks (l.take 160) (zdo n)
  have e : (zdo n).ticks = 0 := by rw [new_is h1 h3]
  have := List.length_take_le 160 l
  unfold play
  omega
theorem play_puts {n : Int} (h1 : 1 ≤ n) (h3 : n ≤ 3) (l : List Step) {t : Nat} (ht : t < n.toNat) : putsOf t (l.take 160) (play n l).2 = lputs n.toNat t (zdm, 0) (l.take 160) := by
  unfold play
  rw [putsOf_at _ _ (by rw [new_len h1 h3]; exact ht), new_len h1 h3, new_at h1 h3 ht]
theorem putsOf_take {t : Int} : ∀ (n : Nat) (l : List Step) (es : List Int), es.length = (l.take n).length → putsOf t l es = putsOf t (l.take n) es
  | _, [], es, _ => by simp
  | 0, s :: l, es, h => by
    have : es = [] := List.eq_nil_of_length_eq_zero (by simpa using h)
    subst this; simp [putsOf]
  | n + 1, s :: l, [], h => by simp at h
  | n + 1, s :: l, e :: es, h => by
    rw [List.take_succ_cons]
    have := putsOf_take (t := t) n l es (by simpa using h)
    unfold putsOf
    rw [this]
theorem play_putsOf {n : Int} (h1 : 1 ≤ n) (h3 : n ≤ 3) (l : List Step) {t : Nat} (ht : t < n.toNat) : putsOf t l (play n l).2 = lputs n.toNat t (zdm, 0) (l.take 160) := by
  rw [← play_puts h1 h3 l ht]
  refine putsOf_take 160 l _ ?_
  unfold play; rw [plays_es]
theorem spoilN_take (n : Nat) (l : List Step) : spoilN (l.take n) ≤ spoilN l := by
  unfold spoilN
  exact (List.take_sublist n l).countP_le
theorem play_linv {n : Int} (h1 : 1 ≤ n) (h3 : n ≤ 3) (l : List Step) {t : Nat} (ht : t < n.toNat) (hs : spoilN l ≤ 1) :
    LInv (decide (0 < spoilN l)) (putsOf t l (play n l).2) ((play n l).1.lanes.getD t zdm) := by
  have h := linv_lsteps (n := n.toNat) (t := t) (l.take 160) (sp := false) (H := []) (x := (zdm, 0)) (linv0 _) (by
    have := spoilN_take 160 l
    simp; omega)
  rw [List.nil_append, ← play_putsOf h1 h3 l ht, ← play_at h1 h3 l ht, Bool.false_or] at h
  refine h.weak' ?_
  have := spoilN_take 160 l
  intro e
  have := of_decide_eq_true e
  exact decide_eq_true (by omega)
end Go.Proofs.Ytaadloihphpdbaa

/- Fair rounds, as pure data: in so many of them each lane is idle, or nothing will ever come of it. No program in sight. -/
namespace Go.Proofs.Ytaadloihphpdbaa
open Go Go.Vc
theorem way_with (l : Lane) (b : Bool) (P : zcf) : way (withP l b P) b = P ∧ way (withP l b P) (!b) = way l (!b) := by cases b <;> exact ⟨rfl, rfl⟩
theorem way_comes (l : Lane) (k : Nat) (b : Bool) : way (zfp l k b) b = (way l b).eraseIdx k ∧ way (zfp l k b) (!b) = way l (!b) := by
  unfold zfp
  simp only
  split
  · exact way_with l b _
  · cases b <;> exact ⟨rfl, rfl⟩
theorem drain_step (n : Nat) (b : Bool) (l : Lane) : drain (n + 1) b l = if way l b = [] then l else drain n b (zfp l 0 b) := rfl
theorem way_drain (b : Bool) : ∀ (n : Nat) (l : Lane), (way l b).length = n → way (drain n b l) b = [] ∧ way (drain n b l) (!b) = way l (!b)
  | 0, l, h => ⟨List.eq_nil_of_length_eq_zero h, rfl⟩
  | n + 1, l, h => by
    rw [drain_step, if_neg (by intro e; rw [e] at h; simp at h)]
    have h1 := way_comes l 0 b
    have h2 := way_drain b n (zfp l 0 b) (by
      rw [h1.1, List.length_eraseIdx, if_pos (by omega)]; omega)
    rw [h1.2] at h2
    exact h2
theorem settle_ways (l : Lane) : (zbb l).there = [] ∧ (zbb l).back = [] := by
  have h1 := way_drain false _ l rfl
  have h2 := way_drain true _ (zdr false l) rfl
  exact ⟨h2.2.trans h1.1, h2.1⟩
theorem settle_id {l : Lane} (h1 : l.there = []) (h2 : l.back = []) : zbb l = l := by
  unfold zbb zdr
  have e1 : way l false = [] := h1
  have e2 : way l true = [] := h2
  rw [e1]
  show drain (way l true).length true l = l
  rw [e2]; rfl
theorem settle_idem (l : Lane) : zbb (zbb l) = zbb l := settle_id (settle_ways l).1 (settle_ways l).2
theorem binv_drain (b : Bool) : ∀ (n : Nat) {l : Lane}, BInv l → BInv (drain n b l)
  | 0, l, h => h
  | n + 1, l, h => by
    rw [drain_step]
    split
    · exact h
    · exact binv_drain b n (binv_comes h 0 b)
theorem zdk {l : Lane} (h : BInv l) : BInv (zbb l) := binv_drain _ _ (binv_drain _ _ h)
theorem linv_drain {sp : Bool} {H : List Msg} (b : Bool) : ∀ (n : Nat) {l : Lane}, LInv sp H l → LInv sp H (drain n b l)
  | 0, l, h => h
  | n + 1, l, h => by
    rw [drain_step]
    split
    · exact h
    · rename_i hne
      exact linv_drain b n (linv_comes h (by have := List.length_pos_iff.2 hne; omega))
theorem linv_settle {sp : Bool} {H : List Msg} {l : Lane} (h : LInv sp H l) : LInv sp H (zbb l) := linv_drain _ _ (linv_drain _ _ h)
def gotB (r : Receiver) (x : Int) : Bool := decide (x < r.next) || r.early.contains x
theorem gotB_iff (r : Receiver) (x : Int) : gotB r x = true ↔ got r x := by unfold gotB got; simp
def notF (s : Sender) (r : Receiver) : List Chunk := s.flight.filter fun x => !gotB r x.num
def zdu (s : Sender) (r : Receiver) : Receiver := if (say s).2.2 then zfc (rsay r).1 (say s).2.1 else (rsay r).1
def zds (s : Sender) (r : Receiver) : Sender := if r.owes then { (say s).1 with flight := notF (say s).1 r } else (say s).1
theorem hear_ack (s : Sender) (r : Receiver) : hear s ⟨2, r.next, 0, 0, [], r.early⟩ = { s with flight := notF s r } := by
  unfold hear; rw [if_neg (by simp)]; rfl
theorem rsay_owes (r : Receiver) : (rsay r).2.2 = r.owes := by
  unfold rsay
  split
  · rename_i h; rw [h]
  · rename_i h; simpa using h
theorem rsay_ack {r : Receiver} (h : r.owes = true) : (rsay r).2.1 = ⟨2, r.next, 0, 0, [], r.early⟩ := by unfold rsay; rw [if_pos h]
theorem drain1 {b : Bool} {l : Lane} {p : List UInt8} (h : way l b = [p]) : zdr b l = zfp l 0 b := by
  unfold zdr
  rw [h]
  show drain 1 b l = _
  rw [drain_step, if_neg (by rw [h]; simp)]; rfl
theorem drain0 {b : Bool} {l : Lane} (h : way l b = []) : zdr b l = l := by unfold zdr; rw [h]; rfl
theorem comes1 {l : Lane} {c : Chunk} (h : l.there = [bytes c]) (hc : zdc c = 0) : zfp l 0 false = ⟨l.s, zfc l.r c, [], l.back⟩ := by
  have e : way l false = [bytes c] := h
  unfold zfp
  simp only [e]
  have e2 : ([bytes c] : zcf).getD 0 [] = bytes c := rfl
  rw [e2, read_bytes hc]
  simp [withP]
theorem comes2 {l : Lane} {c : Chunk} (h : l.back = [bytes c]) (hc : zdc c = 0) : zfp l 0 true = ⟨hear l.s c, l.r, l.there, []⟩ := by
  have e : way l true = [bytes c] := h
  unfold zfp
  simp only [e]
  have e2 : ([bytes c] : zcf).getD 0 [] = bytes c := rfl
  rw [e2, read_bytes hc]
  simp [withP]
theorem turn_is {X : Lane} (hX : BInv X) (ht : X.there = []) (hb : X.back = []) : zbb (zec X) = ⟨zds X.s X.r, zdu X.s X.r, [], []⟩ := by
  have h1 : zdr false (zec X) = ⟨(say X.s).1, zdu X.s X.r, [], (zec X).back⟩ := by
    cases ho : (say X.s).2.2 with
    | false =>
      have e : (zec X).there = [] := by show (if (say X.s).2.2 then _ else X.there) = []; rw [ho]; exact ht
      rw [drain0 (show way (zec X) false = [] from e)]
      unfold zdu; rw [ho]
      show zec X = ⟨(zec X).s, (zec X).r, [], (zec X).back⟩
      rw [← e]
    | true =>
      have e : (zec X).there = [bytes (say X.s).2.1] := by
        show (if (say X.s).2.2 then putP X.there _ else X.there) = _
        rw [ho, ht]; rfl
      rw [drain1 (show way (zec X) false = [_] from e), comes1 e (say_right hX.s ho).1]
      unfold zdu; rw [ho]; rfl
  unfold zbb
  rw [h1]
  cases hw : X.r.owes with
  | false =>
    have e : (zec X).back = [] := by show (if (rsay X.r).2.2 then _ else X.back) = []; rw [rsay_owes, hw]; exact hb
    rw [e, drain0 rfl]
    unfold zds; rw [hw]; rfl
  | true =>
    have e : (zec X).back = [bytes ⟨2, X.r.next, 0, 0, [], X.r.early⟩] := by
      show (if (rsay X.r).2.2 then putP X.back (bytes (rsay X.r).2.1) else X.back) = _
      rw [rsay_owes, hw, hb, rsay_ack hw]; rfl
    rw [e, drain1 (p := bytes ⟨2, X.r.next, 0, 0, [], X.r.early⟩) rfl, comes2 rfl (ack_right hX.r), hear_ack]
    unfold zds; rw [hw]; rfl
def idleS (s : Sender) : Prop := s.queue = [] ∧ s.flight = []
def blocked (s : Sender) (r : Receiver) : Prop := 2 < r.early.length ∧ r.next < s.next ∧ (∀ c ∈ s.flight, c.num ≠ r.next) ∧ ∃ c ∈ s.flight, gotB r c.num = false
def fin (s : Sender) (r : Receiver) : Prop := idleS s ∨ blocked s r
theorem say_idle {s : Sender} (h : idleS s) : say s = (s, zfj, false) := by
  unfold say; rw [h.1, h.2]; simp
theorem nextR_got (s : Sender) (r : Receiver) : (rsay r).1.next = r.next ∧ (rsay r).1.early = r.early ∧ (rsay r).1.owes = false := by
  unfold rsay
  split
  · exact ⟨rfl, rfl, rfl⟩
  · rename_i h; exact ⟨rfl, rfl, by simpa using h⟩
theorem said_num {s : Sender} (hs : SInv s) (ho : (say s).2.2 = true) : (say s).2.1.kind = 1 ∧ ((say s).2.1 ∈ s.flight ∨ (say s).2.1.num = s.next) := by
  refine ⟨(say_right hs ho).2, ?_⟩
  rcases say_is s with ⟨_, _, e⟩ | ⟨m, q, hq, hl, e⟩ | ⟨hl, _, e⟩
  · rw [e] at ho; cases ho
  · right; rw [e]; rfl
  · left
    obtain ⟨k, hk, _, e2⟩ := zfh hs hl
    rw [e, e2]; exact List.getElem_mem hk
theorem say_flight (s : Sender) (hs : SInv s) : (∀ c ∈ s.flight, c ∈ (say s).1.flight) ∧ ∀ c ∈ (say s).1.flight, c ∈ s.flight ∨ c.num = s.next := by
  rcases say_is s with ⟨_, _, e⟩ | ⟨m, q, hq, hl, e⟩ | ⟨hl, _, e⟩
  · rw [e]; exact ⟨fun c hc => hc, fun c hc => .inl hc⟩
  · rw [e]
    refine ⟨fun c hc => List.mem_append_left _ hc, fun c hc => ?_⟩
    rcases List.mem_append.1 hc with hc | hc
    · exact .inl hc
    · exact .inr (by rw [List.mem_singleton.1 hc]; rfl)
  · obtain ⟨k, hk, _, e2⟩ := zfh hs hl
    rw [e, e2]; exact ⟨fun c hc => hc, fun c hc => .inl hc⟩
theorem hear_refused {r : Receiver} {c : Chunk} (hk : c.kind = 1) (h : zdy r c.num) : zfc r c = { r with owes := true } := by
  unfold zfc; rw [if_neg (by omega), if_pos h]
theorem refuses_say {r : Receiver} (x : Int) : zdy (rsay r).1 x ↔ zdy r x := by
  have := nextR_got ⟨[], 0, places0, [], 0⟩ r
  unfold zdy; rw [this.1, this.2.1]
theorem hear_owes {r : Receiver} {c : Chunk} (hk : c.kind = 1) : (zfc r c).owes = true := by
  unfold zfc; rw [if_neg (by omega)]
  split <;> rfl
theorem nextR_owes {s : Sender} (hs : SInv s) (r : Receiver) (ho : (say s).2.2 = true) : (zdu s r).owes = true := by
  unfold zdu; rw [if_pos ho]; exact hear_owes (said_num hs ho).1
theorem nextR_ref {s : Sender} (hs : SInv s) (r : Receiver) (ho : (say s).2.2 = true) (h : zdy r (say s).2.1.num) : (zdu s r).next = r.next ∧ (zdu s r).early = r.early := by
  unfold zdu; rw [if_pos ho, hear_refused (said_num hs ho).1 ((refuses_say _).2 h)]
  exact ⟨(nextR_got s r).1, (nextR_got s r).2.1⟩
theorem nextR_acc {s : Sender} (hs : SInv s) {r : Receiver} (hr : RInv r) (ho : (say s).2.2 = true) (h : ¬ zdy r (say s).2.1.num) (x : Int) : gotB (zdu s r) x = (gotB r x || decide (x = (say s).2.1.num)) := by
  have h1 := say_right hs ho
  have h2 : ¬ zdy (rsay r).1 (say s).2.1.num := fun e => h ((refuses_say _).1 e)
  have h3 := got_takes (rinv_say hr) h1.1 h1.2 h2 x
  have h4 : zdu s r = takes (rsay r).1 (say s).2.1 := by
    unfold zdu zfc; rw [if_pos ho, if_neg (by omega), if_neg h2]
  have h5 := nextR_got s r
  have h6 : got (rsay r).1 x ↔ got r x := by unfold got; rw [h5.1, h5.2.1]
  rw [Bool.eq_iff_iff, h4, gotB_iff, h3, h6]
  simp [gotB_iff]
theorem gotB_congr {r r' : Receiver} (h1 : r'.next = r.next) (h2 : r'.early = r.early) (x : Int) : gotB r' x = gotB r x := by unfold gotB; rw [h1, h2]
theorem nextS_mem {s : Sender} {r : Receiver} {c : Chunk} : (c ∈ (zds s r).flight → c ∈ (say s).1.flight) ∧ (c ∈ (say s).1.flight → gotB r c.num = false → c ∈ (zds s r).flight) := by
  unfold zds
  split
  · refine ⟨fun h => (List.mem_filter.1 h).1, fun h h2 => List.mem_filter.2 ⟨h, by rw [h2]; rfl⟩⟩
  · exact ⟨id, fun h _ => h⟩
theorem nextS_rest (s : Sender) (r : Receiver) : (zds s r).queue = (say s).1.queue ∧ (zds s r).next = (say s).1.next ∧ (zds s r).turn = (say s).1.turn := by
  unfold zds; split <;> exact ⟨rfl, rfl, rfl⟩
theorem idle_next {s : Sender} (r : Receiver) (h : idleS s) : idleS (zds s r) := by
  have e := say_idle h
  have h1 := nextS_rest s r
  refine ⟨by rw [h1.1, e]; exact h.1, ?_⟩
  rw [List.eq_nil_iff_forall_not_mem]
  intro c hc
  have := nextS_mem.1 hc
  rw [e, h.2] at this; simp at this
theorem blocked_next {s : Sender} (hs : SInv s) {r : Receiver} (h : blocked s r) : blocked (zds s r) (zdu s r) := by
  obtain ⟨h1, h2, h3, c, hc, hg⟩ := h
  have hf := say_flight s hs
  have hn := say_next s
  have hsr := nextS_rest s r
  have hR : (zdu s r).next = r.next ∧ (zdu s r).early = r.early := by
    cases ho : (say s).2.2 with
    | false =>
      have := nextR_got s r
      unfold zdu; rw [ho]; exact ⟨this.1, this.2.1⟩
    | true =>
      refine nextR_ref hs r ho ?_
      unfold zdy
      rcases (said_num hs ho).2 with e | e
      · have := h3 _ e
        by_cases hx : (say s).2.1.num < r.next
        · exact .inl hx
        · exact .inr (.inr ⟨by omega, h1⟩)
      · exact .inr (.inr ⟨by omega, h1⟩)
  refine ⟨by rw [hR.2]; exact h1, by rw [hR.1, hsr.2.1]; omega, fun x hx => ?_, c, nextS_mem.2 (hf.1 c hc) hg, by rw [gotB_congr hR.1 hR.2]; exact hg⟩
  rw [hR.1]
  rcases hf.2 x (nextS_mem.1 hx) with e | e
  · exact h3 x e
  · omega
theorem fin_next {s : Sender} (hs : SInv s) {r : Receiver} (h : fin s r) : fin (zds s r) (zdu s r) := h.imp (idle_next r) (blocked_next hs)
def Accept (r : Receiver) (c : Chunk) : Prop := c.num = r.next ∨ r.early.length ≤ 2
def Target (s : Sender) (r : Receiver) (j : Nat) : Prop := ∃ c, s.flight[((s.turn + j) % s.flight.length).toNat]? = some c ∧ Accept r c
def Cost (s : Sender) (r : Receiver) (c : Nat) : Prop :=
  (s.queue ≠ [] ∧ s.flight.length < 4 ∧ 2 ≤ c) ∨
  ((s.queue = [] ∨ s.flight.length = 4) ∧ (∃ x ∈ s.flight, gotB r x.num = true) ∧ 3 ≤ c) ∨
  ((s.queue = [] ∨ s.flight.length = 4) ∧ s.flight ≠ [] ∧ (∀ x ∈ s.flight, gotB r x.num = false) ∧ ∃ j, j ≤ c ∧ Target s r j)
def Pot (s : Sender) (r : Receiver) (N : Nat) : Prop := ∃ c, Cost s r c ∧ 4 * (notF s r).length + 6 * s.queue.length + c ≤ N
theorem reach {t : Int} {f p : Nat} (ht : 0 ≤ t) (hp : p < f) (hf : f ≤ 4) : ∃ j : Nat, j + 1 ≤ f ∧ ((t + j) % f).toNat = p := by
  refine ⟨if (t % f).toNat ≤ p then p - (t % f).toNat else p + f - (t % f).toNat, ?_⟩
  rcases (by omega : f = 1 ∨ f = 2 ∨ f = 3 ∨ f = 4) with rfl | rfl | rfl | rfl
  all_goals
    constructor
    · split <;> omega
    · split <;> omega
theorem target_any {s : Sender} (hs : SInv s) {r : Receiver} (hne : s.flight ≠ []) (hg : ∀ x ∈ s.flight, gotB r x.num = false) (hb : ¬ blocked s r) : ∃ j, j + 1 ≤ s.flight.length ∧ Target s r j := by
  have hpos := List.length_pos_iff.2 hne
  by_cases h2 : r.early.length ≤ 2
  · refine ⟨0, by omega, ?_⟩
    have h3 : ((s.turn + (0 : Nat)) % s.flight.length).toNat < s.flight.length := by
      have := Int.emod_lt_of_pos (s.turn + (0 : Nat)) (show (0 : Int) < s.flight.length by omega)
      omega
    exact ⟨_, List.getElem?_eq_getElem h3, .inr h2⟩
  · have hex : ∃ c ∈ s.flight, c.num = r.next := by
      apply Classical.byContradiction
      intro hno
      refine hb ⟨by omega, ?_, fun c hc e => hno ⟨c, hc, e⟩, ?_⟩
      · obtain ⟨c, hc⟩ := List.exists_mem_of_ne_nil _ hne
        have h5 := (hs.c c hc).2.2
        have h6 := hg c hc
        have h7 : ¬ c.num < r.next := fun e => by
          have := (gotB_iff r c.num).2 (.inl e)
          rw [h6] at this; cases this
        omega
      · obtain ⟨c, hc⟩ := List.exists_mem_of_ne_nil _ hne
        exact ⟨c, hc, hg c hc⟩
    obtain ⟨c, hc, hcn⟩ := hex
    obtain ⟨p, hp, hpc⟩ := List.mem_iff_getElem.1 hc
    have hf := hs.f
    obtain ⟨j, hj, he⟩ := reach hs.t.1 hp hf
    exact ⟨j, hj, c, by rw [he, List.getElem?_eq_getElem hp, hpc], .inl hcn⟩
theorem cost_any {s : Sender} (hs : SInv s) {r : Receiver} (hf : ¬ fin s r) : Cost s r 3 := by
  have hfl := hs.f
  by_cases h1 : s.queue ≠ [] ∧ s.flight.length < 4
  · exact .inl ⟨h1.1, h1.2, by omega⟩
  · have h2 : s.queue = [] ∨ s.flight.length = 4 := by
      by_cases hq : s.queue = []
      · exact .inl hq
      · exact .inr (by have h9 : ¬ s.flight.length < 4 := fun e => h1 ⟨hq, e⟩; omega)
    right
    by_cases h3 : ∃ x ∈ s.flight, gotB r x.num = true
    · exact .inl ⟨h2, h3, by omega⟩
    · right
      have hg : ∀ x ∈ s.flight, gotB r x.num = false := fun x hx => by
        cases hh : gotB r x.num with
        | false => rfl
        | true => exact absurd ⟨x, hx, hh⟩ h3
      have hne : s.flight ≠ [] := by
        intro e
        rcases h2 with h2 | h2
        · exact hf (.inl ⟨h2, e⟩)
        · rw [e] at h2; simp at h2
      obtain ⟨j, hj, ht⟩ := target_any hs hne hg (fun e => hf (.inr e))
      exact ⟨h2, hne, hg, j, by omega, ht⟩
theorem filter_len_lt {p q : Chunk → Bool} : ∀ {l : List Chunk} {c : Chunk}, c ∈ l → p c = true → q c = false → (∀ x ∈ l, q x = true → p x = true) → (l.filter q).length < (l.filter p).length
  | [], c, h, _, _, _ => by simp at h
  | a :: t, c, h, hp, hq, hi => by
    have ht : (t.filter q).length ≤ (t.filter p).length := by
      have : t.filter q = (t.filter p).filter q := by
        rw [List.filter_filter]
        refine List.filter_congr fun x hx => ?_
        cases hqx : q x with
        | false => simp
        | true => rw [hi x (List.mem_cons_of_mem _ hx) hqx]; rfl
      rw [this]; exact List.length_filter_le _ _
    by_cases hca : c = a
    · subst hca
      rw [List.filter_cons_of_pos hp, List.filter_cons_of_neg (by rw [hq]; decide), List.length_cons]; omega
    · have hct : c ∈ t := (List.mem_cons.1 h).resolve_left hca
      have ih := filter_len_lt hct hp hq (fun x hx => hi x (List.mem_cons_of_mem _ hx))
      cases hqa : q a with
      | true =>
        rw [List.filter_cons_of_pos hqa, List.filter_cons_of_pos (hi a (List.mem_cons_self ..) hqa), List.length_cons, List.length_cons]; omega
      | false =>
        rw [List.filter_cons_of_neg (by rw [hqa]; decide)]
        cases hpa : p a with
        | true => rw [List.filter_cons_of_pos hpa, List.length_cons]; omega
        | false => rw [List.filter_cons_of_neg (by rw [hpa]; decide)]; exact ih
theorem filter_len_le {p q : Chunk → Bool} {l : List Chunk} (hi : ∀ x ∈ l, q x = true → p x = true) : (l.filter q).length ≤ (l.filter p).length := by
  have : l.filter q = (l.filter p).filter q := by
    rw [List.filter_filter]
    refine List.filter_congr fun x hx => ?_
    cases hqx : q x with
    | false => simp
    | true => rw [hi x hx hqx]; rfl
  rw [this]; exact List.length_filter_le _ _
theorem notF_next {s : Sender} {r : Receiver} (hw : r.owes = true) (hmono : ∀ x, gotB r x = true → gotB (zdu s r) x = true) : notF (zds s r) (zdu s r) = (say s).1.flight.filter fun x => !gotB (zdu s r) x.num := by
  unfold zds
  rw [if_pos hw]
  show ((say s).1.flight.filter fun x => !gotB r x.num).filter (fun x => !gotB (zdu s r) x.num) = _
  rw [List.filter_filter]
  refine List.filter_congr fun x hx => ?_
  cases h : gotB r x.num with
  | false => simp
  | true => rw [hmono _ h]; rfl
theorem pot_step {s : Sender} {r : Receiver} (hs : SInv s) (hr : RInv r) (hw : r.owes = true) (hf : ¬ fin s r) {N : Nat} (hp : Pot s r N) (hs' : SInv (zds s r)) :
    (zdu s r).owes = true ∧ (fin (zds s r) (zdu s r) ∨ ∃ N', N' < N ∧ Pot (zds s r) (zdu s r) N') := by
  have hsaid : (say s).2.2 = true := by
    cases ho : (say s).2.2 with
    | true => rfl
    | false => have := said_not hs ho; exact absurd (.inl ⟨this.1, this.2.1⟩) hf
  refine ⟨nextR_owes hs r hsaid, ?_⟩
  by_cases hfin : fin (zds s r) (zdu s r)
  · exact .inl hfin
  · right
    have hany := cost_any hs' hfin
    obtain ⟨c, hc, hN⟩ := hp
    have hrest := nextS_rest s r
    have hmono : ∀ x, gotB r x = true → gotB (zdu s r) x = true := by
      intro x hx
      by_cases hrf : zdy r (say s).2.1.num
      · have := nextR_ref hs r hsaid hrf
        rw [gotB_congr this.1 this.2]; exact hx
      · rw [nextR_acc hs hr hsaid hrf, hx]; rfl
    have hnf := notF_next hw hmono
    rcases say_is s with ⟨_, _, e⟩ | ⟨m, q, hq, hl, e⟩ | ⟨hl, hl4, e⟩
    · rw [e] at hsaid; cases hsaid
    · 
      have hqn : (zds s r).queue = q := by rw [hrest.1, e]; rfl
      have hu : (notF (zds s r) (zdu s r)).length ≤ (notF s r).length + 1 := by
        rw [hnf, e]
        show ((s.flight ++ [zdv s m]).filter _).length ≤ _
        rw [List.filter_append, List.length_append]
        have h1 : (s.flight.filter fun x => !gotB (zdu s r) x.num).length ≤ (notF s r).length := filter_len_le fun x hx h => by
          cases hh : gotB r x.num with
          | false => rfl
          | true => rw [hmono _ hh] at h; cases h
        have h2 := List.length_filter_le (fun x => !gotB (zdu s r) x.num) [zdv s m]
        simp only [List.length_singleton] at h2
        omega
      have hc2 : 2 ≤ c := by
        rcases hc with hc | hc | hc
        · exact hc.2.2
        · omega
        · rcases hc.1 with h | h
          · rw [hq] at h; cases h
          · omega
      rw [hq, List.length_cons] at hN
      exact ⟨4 * (notF (zds s r) (zdu s r)).length + 6 * (zds s r).queue.length + 3, by rw [hqn]; omega, 3, hany, Nat.le_refl _⟩
    · 
      obtain ⟨k, hk, hkt, e2⟩ := zfh hs hl
      have e3 : say s = ({ s with turn := k + 1 }, s.flight[k], true) := e.trans e2
      have hqn : (zds s r).queue = s.queue := by rw [hrest.1, e3]
      have hnf' : notF (zds s r) (zdu s r) = s.flight.filter fun x => !gotB (zdu s r) x.num := by rw [hnf, e3]
      have hcyc : s.queue = [] ∨ s.flight.length = 4 := by
        have h4 := hs.f
        by_cases hq : s.queue = []
        · exact .inl hq
        · exact .inr (by have := hl4 hq; omega)
      by_cases hrf : zdy r s.flight[k].num
      · 
        have hR := nextR_ref hs r hsaid (by rw [e3]; exact hrf)
        have hgc := gotB_congr hR.1 hR.2
        have hu : (notF (zds s r) (zdu s r)).length = (notF s r).length := by
          rw [hnf']
          unfold notF
          congr 1
          exact List.filter_congr fun x _ => by rw [hgc]
        have hfl' : (zds s r).flight = notF s r := by
          unfold zds; rw [if_pos hw, e3]
          show (List.filter _ s.flight) = _
          rfl
        have hng : ∀ x ∈ (zds s r).flight, gotB (zdu s r) x.num = false := by
          intro x hx
          rw [hfl'] at hx
          have := (List.mem_filter.1 hx).2
          rw [hgc]; simpa using this
        rcases hc with ⟨h1, h2, _⟩ | ⟨h1, ⟨x, hx, hgx⟩, h3⟩ | ⟨h1, h2, h3, j, hj, ht⟩
        · rcases hcyc with h | h
          · exact absurd h h1
          · omega
        · 
          have hlt : (notF s r).length < s.flight.length := by
            have := filter_len_lt (p := fun _ => true) (q := fun x => !gotB r x.num) (l := s.flight) hx rfl (by rw [hgx]; rfl) (fun _ _ _ => rfl)
            rw [List.filter_eq_self.2 (fun _ _ => rfl)] at this
            exact this
          have hf4 := hs.f
          refine ⟨4 * (notF (zds s r) (zdu s r)).length + 6 * (zds s r).queue.length + 2, by rw [hu, hqn]; omega, 2, ?_, Nat.le_refl _⟩
          by_cases hq : s.queue = []
          · have hne : (zds s r).flight ≠ [] := fun e5 => hfin (.inl ⟨by rw [hqn]; exact hq, e5⟩)
            obtain ⟨j, hj, ht⟩ := target_any hs' hne hng (fun e5 => hfin (.inr e5))
            rw [hfl'] at hj
            exact .inr (.inr ⟨.inl (by rw [hqn]; exact hq), hne, hng, j, by omega, ht⟩)
          · exact .inl ⟨by rw [hqn]; exact hq, by rw [hfl']; omega, by omega⟩
        · 
          have hsame : (zds s r).flight = s.flight := by
            rw [hfl']; unfold notF
            exact List.filter_eq_self.2 fun x hx => by rw [h3 x hx]; rfl
          have hacc : ∀ c', s.flight[((s.turn + (0 : Nat)) % s.flight.length).toNat]? = some c' → ¬ Accept r c' := by
            intro c' hc' ha
            have hkk : ((s.turn + (0 : Nat)) % s.flight.length).toNat = k := by
              rw [show s.turn + ((0 : Nat) : Int) = s.turn by omega, hkt]; omega
            rw [hkk, List.getElem?_eq_getElem hk] at hc'
            have hc'' := Option.some.inj hc'
            subst hc''
            have hg := h3 _ (List.getElem_mem hk)
            have hng2 : ¬ got r s.flight[k].num := fun e5 => by
              have := (gotB_iff r _).2 e5
              rw [hg] at this; cases this
            rcases hrf with e5 | e5 | ⟨e5, e6⟩
            · exact hng2 (.inl e5)
            · exact hng2 (.inr e5)
            · rcases ha with e7 | e7 <;> omega
          have hj0 : j ≠ 0 := by
            rintro rfl
            obtain ⟨c', h5, h6⟩ := ht
            exact hacc c' h5 h6
          refine ⟨4 * (notF (zds s r) (zdu s r)).length + 6 * (zds s r).queue.length + (j - 1), by rw [hu, hqn]; omega, j - 1, ?_, Nat.le_refl _⟩
          refine .inr (.inr ⟨by rw [hqn, hsame]; exact hcyc, by rw [hsame]; exact h2, hng, j - 1, Nat.le_refl _, ?_⟩)
          obtain ⟨c', h5, h6⟩ := ht
          refine ⟨c', ?_, ?_⟩
          · rw [hsame, hrest.2.2, e3]
            show s.flight[(((k : Int) + 1 + ((j - 1 : Nat) : Int)) % s.flight.length).toNat]? = some c'
            have e5 : ((k : Int) + 1 + ((j - 1 : Nat) : Int)) % s.flight.length = (s.turn + j) % s.flight.length := by
              have : (k : Int) + 1 + ((j - 1 : Nat) : Int) = k + j := by omega
              rw [this, ← hkt, Int.emod_add_emod]
            rw [e5]; exact h5
          · unfold Accept at h6 ⊢
            rw [hR.1, hR.2]; exact h6
      · 
        have hacc := nextR_acc hs hr hsaid (by rw [e3]; exact hrf)
        rw [e3] at hacc
        have hg : gotB r s.flight[k].num = false := by
          cases hh : gotB r s.flight[k].num with
          | false => rfl
          | true =>
            exfalso
            rcases (gotB_iff r _).1 hh with e5 | e5
            · exact hrf (.inl e5)
            · exact hrf (.inr (.inl e5))
        have hu : (notF (zds s r) (zdu s r)).length < (notF s r).length := by
          rw [hnf']
          refine filter_len_lt (List.getElem_mem hk) (by rw [hg]; rfl) ?_ (fun x hx h => ?_)
          · rw [hacc]; simp
          · cases hh : gotB r x.num with
            | false => rfl
            | true => rw [hmono _ hh] at h; cases h
        exact ⟨4 * (notF (zds s r) (zdu s r)).length + 6 * (zds s r).queue.length + 3, by rw [hqn]; omega, 3, hany, Nat.le_refl _⟩
def zfa (n t : Nat) (x : Lane × Int) : Lane × Int := (if (x.2 % n).toNat = t then zec (zbb x.1) else zbb x.1, x.2 + 1)
def FinL (l : Lane) : Prop := fin (zbb l).s (zbb l).r
def Good (N : Nat) (l : Lane) : Prop := FinL l ∨ ((zbb l).r.owes = true ∧ Pot (zbb l).s (zbb l).r N)
theorem zft {l : Lane} (h : BInv l) : zbb (zec (zbb l)) = ⟨zds (zbb l).s (zbb l).r, zdu (zbb l).s (zbb l).r, [], []⟩ :=
  turn_is (zdk h) (settle_ways l).1 (settle_ways l).2
theorem finL_turn {l : Lane} (h : BInv l) (hf : FinL l) : FinL (zec (zbb l)) := by
  unfold FinL
  rw [zft h]
  exact fin_next (zdk h).s hf
theorem binv_turn {l : Lane} (h : BInv l) : BInv (zec (zbb l)) := binv_speak (zdk h)
theorem good_turn {N : Nat} {l : Lane} (h : BInv l) (hg : Good N l) : (N = 0 → FinL (zec (zbb l))) ∧ Good (N - 1) (zec (zbb l)) := by
  have hb := zdk h
  have hb2 := zdk (binv_turn h)
  rw [zft h] at hb2
  by_cases hf : FinL l
  · have := finL_turn h hf
    exact ⟨fun _ => this, .inl this⟩
  · rcases hg with hg | ⟨hw, hp⟩
    · exact absurd hg hf
    · obtain ⟨h1, h2⟩ := pot_step hb.s hb.r hw hf hp hb2.s
      rcases h2 with h2 | ⟨N', hN, h2⟩
      · have h3 : FinL (zec (zbb l)) := by unfold FinL; rw [zft h]; exact h2
        exact ⟨fun _ => h3, .inl h3⟩
      · refine ⟨fun e => by omega, .inr ?_⟩
        rw [zft h]
        obtain ⟨c, hc, hN2⟩ := h2
        exact ⟨h1, c, hc, Nat.le_trans hN2 (by omega)⟩
theorem good_first {l : Lane} (h : BInv l) : Good 55 (zec (zbb l)) := by
  have hb := zdk h
  have hb2 := zdk (binv_turn h)
  have ht := zft h
  by_cases hf : FinL (zec (zbb l))
  · exact .inl hf
  · right
    have hf' : ¬ fin (zds (zbb l).s (zbb l).r) (zdu (zbb l).s (zbb l).r) := by
      intro e; apply hf; unfold FinL; rw [ht]; exact e
    rw [ht] at hb2 ⊢
    have hsaid : (say (zbb l).s).2.2 = true := by
      cases ho : (say (zbb l).s).2.2 with
      | true => rfl
      | false =>
        have := said_not hb.s ho
        exact absurd (.inl (idle_next _ ⟨this.1, this.2.1⟩)) hf'
    refine ⟨nextR_owes hb.s _ hsaid, 3, cost_any hb2.s hf', ?_⟩
    have h1 := hb2.s.f
    have h2 := hb2.s.q
    have h3 : (notF (zds (zbb l).s (zbb l).r) (zdu (zbb l).s (zbb l).r)).length ≤ _ := List.length_filter_le _ _
    simp only at h1 h2
    show 4 * (notF (zds (zbb l).s (zbb l).r) (zdu (zbb l).s (zbb l).r)).length + 6 * (zds (zbb l).s (zbb l).r).queue.length + 3 ≤ 55
    omega
theorem good_le {N M : Nat} (h : N ≤ M) {l : Lane} (hg : Good N l) : Good M l := hg.imp id fun ⟨h1, c, h2, h3⟩ => ⟨h1, c, h2, by omega⟩
theorem lround_b {n t : Nat} {x : Lane × Int} (h : BInv x.1) : BInv (zfa n t x).1 := by
  unfold zfa; simp only
  split
  · exact binv_turn h
  · exact zdk h
theorem lround_fin {n t : Nat} {x : Lane × Int} (h : BInv x.1) (hf : FinL x.1) : FinL (zfa n t x).1 := by
  unfold zfa; simp only
  split
  · exact finL_turn h hf
  · unfold FinL; rw [settle_idem]; exact hf
theorem lround_good {n t N : Nat} {x : Lane × Int} (h : BInv x.1) (hg : Good N x.1) : Good N (zfa n t x).1 := by
  unfold zfa; simp only
  split
  · exact good_le (by omega) (good_turn h hg).2
  · unfold Good FinL; rw [settle_idem]; exact hg
def zdg (n t : Nat) : Nat → Lane × Int → Lane × Int
  | 0, x => x
  | k + 1, x => zdg n t k (zfa n t x)
theorem lrounds_b {n t : Nat} : ∀ (k : Nat) {x : Lane × Int}, BInv x.1 → BInv (zdg n t k x).1
  | 0, x, h => h
  | k + 1, x, h => lrounds_b k (lround_b h)
theorem lrounds_fin {n t : Nat} : ∀ (k : Nat) {x : Lane × Int}, BInv x.1 → FinL x.1 → FinL (zdg n t k x).1
  | 0, x, _, h => h
  | k + 1, x, hb, h => lrounds_fin k (lround_b hb) (lround_fin hb h)
theorem zfg {n t : Nat} : ∀ (j k : Nat) (x : Lane × Int), zdg n t (j + k) x = zdg n t k (zdg n t j x)
  | 0, k, x => by rw [Nat.zero_add]; rfl
  | j + 1, k, x => by rw [Nat.succ_add]; exact zfg j k (zfa n t x)
theorem lrounds_tick {n t : Nat} : ∀ (k : Nat) (x : Lane × Int), (zdg n t k x).2 = x.2 + k
  | 0, x => by simp [zdg]
  | k + 1, x => by
    show (zdg n t k (zfa n t x)).2 = _
    rw [lrounds_tick k]
    show x.2 + 1 + (k : Int) = x.2 + ((k + 1 : Nat) : Int)
    omega
theorem own3 {n t : Nat} (hn : n ≤ 3) (ht : t < n) {k : Int} (hk : 0 ≤ k) : ∃ j, j < 3 ∧ ((k + (j : Nat)) % n).toNat = t := by
  rcases (by omega : n = 1 ∨ n = 2 ∨ n = 3) with rfl | rfl | rfl
  · exact ⟨0, by omega, by omega⟩
  · by_cases h : (k % 2).toNat = t
    · exact ⟨0, by omega, by omega⟩
    · exact ⟨1, by omega, by omega⟩
  · by_cases h : (k % 3).toNat = t
    · exact ⟨0, by omega, by omega⟩
    · by_cases h2 : ((k + 1) % 3).toNat = t
      · exact ⟨1, by omega, by omega⟩
      · exact ⟨2, by omega, by omega⟩
theorem lround_own {n t : Nat} {x : Lane × Int} (h : (x.2 % n).toNat = t) : (zfa n t x).1 = zec (zbb x.1) := by unfold zfa; simp only; rw [if_pos h]
theorem three {n t : Nat} (hn : n ≤ 3) (ht : t < n) {x : Lane × Int} (hk : 0 ≤ x.2) (hb : BInv x.1) {P Q : Lane → Prop} (hturn : ∀ l, BInv l → P l → Q (zec (zbb l))) (hP : ∀ y : Lane × Int, BInv y.1 → P y.1 → P (zfa n t y).1) (hQ : ∀ y : Lane × Int, BInv y.1 → Q y.1 → Q (zfa n t y).1) (h : P x.1) : Q (zdg n t 3 x).1 := by
  obtain ⟨j, hj, he⟩ := own3 hn ht hk
  have hPs : ∀ (k : Nat) (y : Lane × Int), BInv y.1 → P y.1 → P (zdg n t k y).1 := by
    intro k
    induction k with
    | zero => intro y _ h; exact h
    | succ k ih => intro y hb h; exact ih _ (lround_b hb) (hP y hb h)
  have hQs : ∀ (k : Nat) (y : Lane × Int), BInv y.1 → Q y.1 → Q (zdg n t k y).1 := by
    intro k
    induction k with
    | zero => intro y _ h; exact h
    | succ k ih => intro y hb h; exact ih _ (lround_b hb) (hQ y hb h)
  have e : (3 : Nat) = j + (1 + (2 - j)) := by omega
  rw [e, zfg, zfg]
  have hy : BInv (zdg n t j x).1 := lrounds_b j hb
  have hyt := lrounds_tick (n := n) (t := t) j x
  have h1 : Q (zfa n t (zdg n t j x)).1 := by
    rw [lround_own (by rw [hyt]; exact he)]
    exact hturn _ hy (hPs j x hb h)
  exact hQs _ _ (lround_b hy) h1
theorem fin_rounds {n t : Nat} (hn : n ≤ 3) (ht : t < n) : ∀ (N : Nat) {x : Lane × Int}, 0 ≤ x.2 → BInv x.1 → Good N x.1 → FinL (zdg n t (3 * (N + 1)) x).1
  | 0, x, hk, hb, hg => three hn ht hk hb (P := Good 0) (Q := FinL) (fun l hl h => (good_turn hl h).1 rfl) (fun y hy h => lround_good hy h) (fun y hy h => lround_fin hy h) hg
  | N + 1, x, hk, hb, hg => by
    have h1 := three hn ht hk hb (P := Good (N + 1)) (Q := Good N) (fun l hl h => (good_turn hl h).2) (fun y hy h => lround_good hy h) (fun y hy h => lround_good hy h) hg
    have e : 3 * (N + 1 + 1) = 3 + 3 * (N + 1) := by omega
    rw [e, zfg]
    have hb3 : BInv (zdg n t 3 x).1 := lrounds_b 3 hb
    exact fin_rounds hn ht N (by rw [lrounds_tick]; omega) hb3 h1
theorem fin_171 {n t : Nat} (hn : n ≤ 3) (ht : t < n) {x : Lane × Int} (hk : 0 ≤ x.2) (hb : BInv x.1) {k : Nat} (h : 171 ≤ k) : FinL (zdg n t k x).1 := by
  have e : k = 3 + (3 * (55 + 1) + (k - 171)) := by omega
  rw [e, zfg, zfg]
  have hb3 : BInv (zdg n t 3 x).1 := lrounds_b 3 hb
  have h1 := three hn ht hk hb (P := fun _ => True) (Q := Good 55) (fun l hl _ => good_first hl) (fun y hy _ => trivial) (fun y hy h => lround_good hy h) trivial
  have h2 := fin_rounds hn ht 55 (by rw [lrounds_tick]; omega) hb3 h1
  exact lrounds_fin _ (lrounds_b _ hb3) h2
def BlkL (l : Lane) : Prop := blocked (zbb l).s (zbb l).r
theorem idle_speak {l : Lane} (h : idleB l = true) : idleB (zec l) = true := by
  unfold idleB at h
  simp only [Bool.and_eq_true, decide_eq_true_eq] at h
  have e := say_idle (s := l.s) h
  unfold idleB
  show (decide ((say l.s).1.queue = []) && decide ((say l.s).1.flight = [])) = true
  rw [e]; simp [h.1, h.2]
theorem idle_iff {l : Lane} : idleB l = true ↔ idleS l.s := by unfold idleB idleS; simp
theorem lround_blk {n t : Nat} {x : Lane × Int} (h : BInv x.1) (hf : BlkL x.1) : BlkL (zfa n t x).1 := by
  unfold zfa; simp only
  split
  · unfold BlkL; rw [zft h]; exact blocked_next (zdk h).s hf
  · unfold BlkL; rw [settle_idem]; exact hf
theorem lrounds_succ {n t : Nat} (k : Nat) (x : Lane × Int) : zdg n t (k + 1) x = zfa n t (zdg n t k x) := by rw [zfg]; rfl
theorem done_200 {n t : Nat} (hn : n ≤ 3) (ht : t < n) {x : Lane × Int} (hk : 0 ≤ x.2) (hb : BInv x.1) {k : Nat} (h200 : 200 ≤ k) : idleB (zdg n t k x).1 = true ∨ BlkL (zdg n t k x).1 := by
  obtain ⟨k, rfl⟩ : ∃ j, k = j + 1 := ⟨k - 1, by omega⟩
  have h := fin_171 hn ht hk hb (k := k) (by omega)
  have hb2 := lrounds_b (n := n) (t := t) k hb
  rw [lrounds_succ]
  rcases h with h | h
  · left
    have h' : idleB (zbb (zdg n t k x).1) = true := idle_iff.2 h
    unfold zfa; simp only
    split
    · exact idle_speak h'
    · exact h'
  · right
    exact lround_blk hb2 h
theorem linv_not_blk {H : List Msg} {l : Lane} (h : LInv false H l) : ¬ BlkL l := by
  intro hb
  have hs := linv_settle h
  obtain ⟨_, h2, h3, _⟩ := hb
  have hn := hs.r.inv.n
  have h4 := hs.ack (zbb l).r.next.toNat (by omega)
  rw [Int.toNat_of_nonneg hn.1] at h4
  rcases h4 with e | e
  · rcases e with e | e
    · omega
    · have := hs.r.inv.e _ e; omega
  · exact h3 _ e (by rw [chk_num]; omega)
theorem linv_lround {sp : Bool} {H : List Msg} {n t : Nat} {x : Lane × Int} (h : LInv sp H x.1) : LInv sp H (zfa n t x).1 := by
  unfold zfa; simp only
  split
  · exact linv_speak (linv_settle h)
  · exact linv_settle h
theorem linv_lrounds {sp : Bool} {H : List Msg} {n t : Nat} : ∀ (k : Nat) {x : Lane × Int}, LInv sp H x.1 → LInv sp H (zdg n t k x).1
  | 0, x, h => h
  | k + 1, x, h => linv_lrounds k (linv_lround h)
structure Quiet (l : Lane) : Prop where
  i : idleB l = true
  there : l.there = []
  back : l.back = []
  owes : l.r.owes = false
def roundN : Nat → World' → World'
  | 0, w => w
  | k + 1, w => roundN k (zez w)
theorem roundW_len (w : World') : (zez w).lanes.length = w.lanes.length := by unfold zez tick; simp
theorem roundW_at {w : World'} {t : Nat} (ht : t < w.lanes.length) : atL (zez w) t = zfa w.lanes.length t (atL w t) := by
  have hm : ∀ i, i < w.lanes.length → (w.lanes.map zbb).getD i zdm = zbb (w.lanes.getD i zdm) := by
    intro i hi; simp [List.getD, List.getElem?_eq_getElem hi]
  unfold zez tick
  show ((((w.lanes.map zbb).set _ _).getD t zdm, w.ticks + 1) : Lane × Int) = _
  rw [getD_set (by simpa using ht)]
  have e : whose ⟨w.lanes.map zbb, w.ticks⟩ = (w.ticks % w.lanes.length).toNat := by unfold whose; simp
  rw [e]
  show _ = ((if (w.ticks % w.lanes.length).toNat = t then zec (zbb (w.lanes.getD t zdm)) else zbb (w.lanes.getD t zdm)), w.ticks + 1)
  by_cases h3 : (w.ticks % w.lanes.length).toNat = t
  · rw [if_pos h3, if_pos h3, h3, hm t ht]
  · rw [if_neg h3, if_neg h3, hm t ht]
theorem roundN_len : ∀ (k : Nat) (w : World'), (roundN k w).lanes.length = w.lanes.length
  | 0, w => rfl
  | k + 1, w => (roundN_len k _).trans (roundW_len w)
theorem roundN_at {t : Nat} : ∀ (k : Nat) {w : World'}, t < w.lanes.length → atL (roundN k w) t = zdg w.lanes.length t k (atL w t)
  | 0, w, _ => rfl
  | k + 1, w, ht => by
    show atL (roundN k (zez w)) t = zdg _ t k (zfa _ t (atL w t))
    rw [roundN_at k (by rw [roundW_len]; exact ht), roundW_len, roundW_at ht]
theorem wok_round {w : World'} (h : WOk w) : WOk (zez w) := by
  have h1 : WOk ⟨w.lanes.map zbb, w.ticks⟩ := by
    refine ⟨by simp only [List.length_map]; exact h.len, h.tk, fun l hl => ?_⟩
    obtain ⟨x, hx, rfl⟩ := List.mem_map.1 hl
    exact zdk (h.b x hx)
  have := h.tk
  exact wok_set h1 (binv_speak (h1.get h1.whose)) (by show 0 ≤ w.ticks + 1; omega)
theorem settle_is : ∀ (n : Nat) (w : World'), ∃ k, k ≤ n ∧ (zco n w).1 = roundN k w ∧ (zco n w).2 = k ∧ (k < n → zfm (roundN k w) = true)
  | 0, w => ⟨0, Nat.le_refl _, rfl, rfl, fun h => by omega⟩
  | n + 1, w => by
    by_cases h : zfm w = true
    · refine ⟨0, by omega, ?_, ?_, fun _ => h⟩
      · show (if zfm w then (w, (0 : Int)) else _).1 = w; rw [if_pos h]
      · show (if zfm w then (w, (0 : Int)) else _).2 = 0; rw [if_pos h]
    · obtain ⟨k, h1, h2, h3, h4⟩ := settle_is n (zez w)
      refine ⟨k + 1, by omega, ?_, ?_, fun hk => h4 (by omega)⟩
      · show (if zfm w then (w, (0 : Int)) else ((zco n (zez w)).1, (zco n (zez w)).2 + 1)).1 = _
        rw [if_neg h]; exact h2
      · show (if zfm w then (w, (0 : Int)) else ((zco n (zez w)).1, (zco n (zez w)).2 + 1)).2 = _
        rw [if_neg h]
        show (zco n (zez w)).2 + 1 = ((k + 1 : Nat) : Int)
        rw [h3]; omega
theorem stillB_iff {w : World'} : zfm w = true ↔ ∀ t, t < w.lanes.length → idleB (w.lanes.getD t zdm) = true := by
  unfold zfm
  rw [List.all_eq_true]
  constructor
  · intro h t ht
    have : w.lanes.getD t zdm = w.lanes[t] := by simp [List.getD, List.getElem?_eq_getElem ht]
    rw [this]; exact h _ (List.getElem_mem ht)
  · intro h x hx
    obtain ⟨t, ht, e⟩ := List.mem_iff_getElem.1 hx
    have := h t ht
    have e2 : w.lanes.getD t zdm = w.lanes[t] := by simp [List.getD, List.getElem?_eq_getElem ht]
    rw [e2, e] at this; exact this
theorem settle_ends {w : World'} (hw : WOk w) {Hs : Nat → List Msg} (h : ∀ t, t < w.lanes.length → LInv false (Hs t) (w.lanes.getD t zdm)) :
    zfm (zco 200 w).1 = true ∧ (zco 200 w).1.lanes.length = w.lanes.length ∧ ∀ t, t < w.lanes.length → LInv false (Hs t) ((zco 200 w).1.lanes.getD t zdm) := by
  obtain ⟨k, h1, h2, h3, h4⟩ := settle_is 200 w
  rw [h2]
  have hL : ∀ t, t < w.lanes.length → LInv false (Hs t) ((roundN k w).lanes.getD t zdm) := by
    intro t ht
    have e := congrArg Prod.fst (roundN_at k ht)
    show LInv false (Hs t) (atL (roundN k w) t).1
    rw [e]; exact linv_lrounds k (h t ht)
  refine ⟨?_, roundN_len k w, hL⟩
  by_cases hk : k < 200
  · exact h4 hk
  · rw [stillB_iff, roundN_len]
    intro t ht
    have e := congrArg Prod.fst (roundN_at k ht)
    show idleB (atL (roundN k w) t).1 = true
    have hd := done_200 hw.len.2 ht (x := atL w t) hw.tk (hw.get ht) (k := k) (by omega)
    rw [← e] at hd
    rcases hd with hd | hd
    · exact hd
    · exact absurd hd (linv_not_blk (hL t ht))
end Go.Proofs.Ytaadloihphpdbaa
