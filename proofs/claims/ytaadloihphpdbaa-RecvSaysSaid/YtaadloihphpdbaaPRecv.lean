/- The receiver, as pure data: what always holds of it. No program in sight. -/
import Derived.Test.YtaadloihphpdbaaPModel
set_option linter.unusedVariables false
set_option linter.unusedSimpArgs false
namespace Go.Proofs.Ytaadloihphpdbaa
open Go Go.Vc

/-! ### Telling -/
theorem tell1_len {s t : Tale} (h : tell1 s = some t) : t.1.length + 1 = s.1.length := by
  unfold tell1 at h
  split at h
  · cases h
  · rename_i c hc
    cases h
    have hm : s.1.findIdx (readyB s.2.1) < s.1.length := List.findIdx_lt_length_of_exists ⟨c, List.mem_of_find?_eq_some hc, by simpa using List.find?_some hc⟩
    show (s.1.eraseIdx _).length + 1 = _
    rw [List.length_eraseIdx, if_pos hm]; omega
theorem tellAll_step {s t : Tale} (h : tell1 s = some t) : tellAll s = tellAll t := by
  unfold tellAll
  have := tell1_len h
  rw [← this]
  show (match tell1 s with | none => s | some t => tellN _ t) = _
  rw [h]
theorem tellAll_none {s : Tale} (h : tell1 s = none) : tellAll s = s := by
  unfold tellAll
  cases hl : s.1.length with
  | zero => rfl
  | succ n =>
    show (match tell1 s with | none => s | some t => tellN n t) = s
    rw [h]
/-- What holds of one that is told, holds behind all. -/
theorem tellAll_ind {P : Tale → Prop} (hP : ∀ s t, P s → tell1 s = some t → P t) : ∀ (n : Nat) (s : Tale), s.1.length = n → P s → P (tellAll s) ∧ tell1 (tellAll s) = none
  | n, s, hn, hs => by
    cases h : tell1 s with
    | none => rw [tellAll_none h]; exact ⟨hs, h⟩
    | some t =>
      rw [tellAll_step h]
      have := tell1_len h
      exact tellAll_ind hP t.1.length t rfl (hP s t hs h)
  termination_by n => n
  decreasing_by omega
theorem tell1_some {s t : Tale} (h : tell1 s = some t) : ∃ k, ∃ hk : k < s.1.length, readyB s.2.1 s.1[k] = true ∧ t = (s.1.eraseIdx k, s.2.1.bump s.1[k].stream, s.2.2 ++ [(s.1[k].stream, s.1[k].data)]) := by
  unfold tell1 at h
  split at h
  · cases h
  · rename_i c hc
    have hm : s.1.findIdx (readyB s.2.1) < s.1.length := List.findIdx_lt_length_of_exists ⟨c, List.mem_of_find?_eq_some hc, by simpa using List.find?_some hc⟩
    have hg : s.1[s.1.findIdx (readyB s.2.1)] = c := by
      have h1 := List.find?_eq_some_iff_getElem.1 hc
      obtain ⟨h2, i, hi, h3, h4⟩ := h1
      have : s.1.findIdx (readyB s.2.1) = i := by
        rw [List.findIdx_eq hi]
        refine ⟨by rw [h3]; exact h2, fun j hj => by simpa using h4 j hj⟩
      subst h3
      congr 1
    refine ⟨_, hm, by rw [hg]; simpa using List.find?_some hc, ?_⟩
    cases h
    rw [hg]
theorem tell1_at {h : List Chunk} {p : Places} {T : List Msg} {k : Nat} (hk : k < h.length) (hr : readyB p h[k] = true) (hf : ∀ j (hj : j < k), readyB p (h[j]'(by omega)) = false) :
    tell1 (h, p, T) = some (h.eraseIdx k, p.bump h[k].stream, T ++ [(h[k].stream, h[k].data)]) := by
  have e1 : h.find? (readyB p) = some h[k] := List.find?_eq_some_iff_getElem.2 ⟨hr, k, hk, rfl, fun j hj => by simpa using hf j hj⟩
  have e2 : h.findIdx (readyB p) = k := by rw [List.findIdx_eq hk]; exact ⟨hr, hf⟩
  unfold tell1
  simp only [e1, e2]
theorem tell1_no {h : List Chunk} {p : Places} {T : List Msg} (hf : ∀ c ∈ h, readyB p c = false) : tell1 (h, p, T) = none := by
  unfold tell1
  have : h.find? (readyB p) = none := List.find?_eq_none.2 fun c hc => by rw [hf c hc]; simp
  simp only [this]

/-! ### Numbers in their order -/
theorem tw_lt {n : Int} : ∀ {l : List Int}, l.Pairwise (· < ·) → ∀ {k : Nat} {x : Int}, l[k]? = some x → (x < n ↔ k < (l.takeWhile fun x => decide (x < n)).length)
  | [], _, k, x, h => by simp at h
  | a :: t, hs, k, x, h => by
    have hs' := List.pairwise_cons.1 hs
    by_cases ha : a < n
    · rw [List.takeWhile_cons_of_pos (by simpa using ha), List.length_cons]
      cases k with
      | zero => simp at h; subst h; simp [ha]
      | succ k =>
        have := tw_lt (n := n) hs'.2 (k := k) (x := x) (by simpa using h)
        omega
    · rw [List.takeWhile_cons_of_neg (by simpa using ha)]
      cases k with
      | zero => simp at h; subst h; simp; omega
      | succ k =>
        have hx : x ∈ t := List.mem_of_getElem? (by simpa using h)
        have := hs'.1 x hx
        simp; omega
theorem tw_mem {n : Int} {l : List Int} (hs : l.Pairwise (· < ·)) : n ∈ l ↔ l[(l.takeWhile fun x => decide (x < n)).length]? = some n := by
  constructor
  · intro h
    obtain ⟨k, hk⟩ := List.mem_iff_getElem?.1 h
    have h1 : ¬ k < (l.takeWhile fun x => decide (x < n)).length := fun e => absurd ((tw_lt hs hk).2 e) (by omega)
    by_cases h2 : (l.takeWhile fun x => decide (x < n)).length = k
    · rw [h2]; exact hk
    · have hkl := (List.getElem?_eq_some_iff.1 hk).1
      have hq : (l.takeWhile fun x => decide (x < n)).length < l.length := by omega
      have hlt := List.pairwise_iff_getElem.1 hs _ _ hq hkl (by omega)
      rw [(List.getElem?_eq_some_iff.1 hk).2] at hlt
      exact absurd ((tw_lt hs (List.getElem?_eq_getElem hq)).1 hlt) (by omega)
  · intro h; exact List.mem_of_getElem? h
theorem bs_yes {n : Int} {l : List Int} (hs : l.Pairwise (· < ·)) {q : Nat} (hq : q = (l.takeWhile fun x => decide (x < n)).length) (h : l[q]? = some n) : l.contains n = true := by
  subst hq; simpa using (tw_mem hs).2 h
theorem bs_no {n : Int} {l : List Int} (hs : l.Pairwise (· < ·)) {q : Nat} (hq : q = (l.takeWhile fun x => decide (x < n)).length) (h : l[q]? ≠ some n) : l.contains n = false := by
  subst hq
  cases hc : l.contains n with
  | false => rfl
  | true => exact absurd ((tw_mem hs).1 (by simpa using hc)) h
theorem insertS_mem {n x : Int} {l : List Int} : x ∈ insertS n l ↔ x = n ∨ x ∈ l := by
  have e := List.takeWhile_append_dropWhile (p := fun x => decide (x < n)) (l := l)
  unfold insertS
  constructor
  · intro h
    rcases List.mem_append.1 h with h | h
    · exact .inr (by rw [← e]; exact List.mem_append_left _ h)
    · rcases List.mem_cons.1 h with h | h
      · exact .inl h
      · exact .inr (by rw [← e]; exact List.mem_append_right _ h)
  · rintro (rfl | h)
    · simp
    · rw [← e] at h
      rcases List.mem_append.1 h with h | h
      · exact List.mem_append_left _ h
      · exact List.mem_append_right _ (List.mem_cons_of_mem _ h)
theorem insertS_length {n : Int} {l : List Int} : (insertS n l).length = l.length + 1 := by
  have e := List.takeWhile_append_dropWhile (p := fun x => decide (x < n)) (l := l)
  unfold insertS
  rw [List.length_append, List.length_cons]
  have := congrArg List.length e
  rw [List.length_append] at this
  omega
theorem insertS_sorted {n : Int} : ∀ {l : List Int}, l.Pairwise (· < ·) → n ∉ l → (insertS n l).Pairwise (· < ·)
  | [], _, _ => by simp [insertS]
  | a :: t, hs, hn => by
    have hs' := List.pairwise_cons.1 hs
    have hne : a ≠ n := fun e => hn (by simp [e])
    have hnt : n ∉ t := fun e => hn (by simp [e])
    by_cases ha : a < n
    · have e : insertS n (a :: t) = a :: insertS n t := by
        unfold insertS
        rw [List.takeWhile_cons_of_pos (by simpa using ha), List.dropWhile_cons_of_pos (by simpa using ha)]; rfl
      rw [e]
      refine List.pairwise_cons.2 ⟨fun x hx => ?_, insertS_sorted hs'.2 hnt⟩
      rcases insertS_mem.1 hx with rfl | hx
      · exact ha
      · exact hs'.1 x hx
    · have e : insertS n (a :: t) = n :: a :: t := by
        unfold insertS
        rw [List.takeWhile_cons_of_neg (by simpa using ha), List.dropWhile_cons_of_neg (by simpa using ha)]; rfl
      rw [e]
      refine List.pairwise_cons.2 ⟨fun x hx => ?_, hs⟩
      rcases List.mem_cons.1 hx with rfl | hx
      · omega
      · have := hs'.1 x hx; omega
theorem strip_cons_eq {x : Int} {l : List Int} : strip (x :: l) x = strip l (x + 1) := by show (if x = x then _ else _) = _; rw [if_pos rfl]
theorem strip_cons_ne {n x : Int} {l : List Int} (h : n ≠ x) : strip (n :: l) x = (n :: l, x) := by show (if n = x then _ else _) = _; rw [if_neg h]
/-- What is stripped. -/
theorem strip_spec : ∀ {l : List Int} {x : Int}, l.Pairwise (· < ·) → (∀ y ∈ l, x ≤ y ∧ y < 40) → x ≤ 40 →
    (strip l x).1.Pairwise (· < ·) ∧ (∀ y ∈ (strip l x).1, (strip l x).2 < y ∧ y < 40 ∧ y ∈ l) ∧ (strip l x).2 ≤ 40 ∧ x ≤ (strip l x).2 ∧ (strip l x).2 + (strip l x).1.length = x + l.length ∧ (x ∈ l → x < (strip l x).2) ∧
      ∀ y, (x ≤ y ∧ y < (strip l x).2 ∨ y ∈ (strip l x).1) ↔ y ∈ l
  | [], x, _, _, hx => ⟨List.Pairwise.nil, by simp [strip], hx, Int.le_refl _, rfl, by simp, fun y => by simp [strip]⟩
  | n :: l, x, hs, hy, hx => by
    have hs' := List.pairwise_cons.1 hs
    by_cases hn : n = x
    · subst hn
      rw [strip_cons_eq]
      have hb := hy n (by simp)
      obtain ⟨h1, h2, h3, h4, h5, h6, h7⟩ := strip_spec (l := l) (x := n + 1) hs'.2 (fun y hy' => ⟨by have := hs'.1 y hy'; omega, (hy y (by simp [hy'])).2⟩) (by omega)
      refine ⟨h1, fun y hy' => ⟨(h2 y hy').1, (h2 y hy').2.1, by simp [(h2 y hy').2.2]⟩, h3, by omega, by rw [h5, List.length_cons]; omega, fun _ => by omega, fun y => ?_⟩
      rw [List.mem_cons, ← h7 y]
      constructor
      · rintro (h | h)
        · by_cases hyn : y = n
          · exact .inl hyn
          · exact .inr (.inl ⟨by omega, h.2⟩)
        · exact .inr (.inr h)
      · rintro (rfl | h | h)
        · exact .inl ⟨by omega, by omega⟩
        · exact .inl ⟨by omega, h.2⟩
        · exact .inr h
    · rw [strip_cons_ne hn]
      have hb := hy n (by simp)
      refine ⟨hs, fun y hy' => ?_, hx, Int.le_refl _, rfl, fun hm => ?_, fun y => ?_⟩
      · have := hy y hy'
        refine ⟨?_, this.2, hy'⟩
        rcases List.mem_cons.1 hy' with rfl | h
        · show x < y
          omega
        · have := hs'.1 y h
          show x < y
          omega
      · rcases List.mem_cons.1 hm with h | h
        · exact absurd h.symm hn
        · have := hs'.1 x h
          omega
      · constructor
        · rintro (h | h)
          · have h2 : y < x := h.2
            omega
          · exact h
        · exact .inr
theorem sorted_len : ∀ {l : List Int} {a b : Int}, l.Pairwise (· < ·) → (∀ y ∈ l, a < y ∧ y < b) → a < b → a + l.length < b
  | [], _, _, _, _, h => by simpa using h
  | n :: l, a, b, hs, hy, h => by
    have hs' := List.pairwise_cons.1 hs
    have hb := hy n (by simp)
    have := sorted_len (l := l) (a := n) (b := b) hs'.2 (fun y hy' => ⟨hs'.1 y hy', (hy y (by simp [hy'])).2⟩) hb.2
    rw [List.length_cons]; omega

/-! ### What always holds of a receiver -/
structure RInv (r : Receiver) : Prop where
  n : 0 ≤ r.next ∧ r.next ≤ 40
  s : r.early.Pairwise (· < ·)
  e : ∀ x ∈ r.early, r.next < x ∧ x < 40
  el : r.early.length ≤ 3
  t : (r.told.length : Int) + r.hold.length = r.next + r.early.length
  p : 0 ≤ r.places.a ∧ 0 ≤ r.places.b ∧ 0 ≤ r.places.c ∧ r.places.a + r.places.b + r.places.c = r.told.length
  h : ∀ c ∈ r.hold, wrong c = 0 ∧ c.kind = 1
theorem RInv.nl {r : Receiver} (h : RInv r) : r.next + r.early.length ≤ 40 := by
  cases he : r.early with
  | nil => have := h.n; simp; omega
  | cons y t =>
    have hb := h.e y (by rw [he]; simp)
    have := sorted_len (l := r.early) (a := r.next) (b := 40) h.s h.e (by omega)
    rw [he] at this; omega
theorem rinv0 : RInv receiver0 := ⟨by simp [receiver0], by simp [receiver0], by simp [receiver0], by simp [receiver0], by simp [receiver0], by simp [receiver0, places0], by simp [receiver0]⟩
/-- A right chunk of a message. -/
structure MChunk (c : Chunk) : Prop where
  k : c.kind = 1
  w : wrong c = 0
theorem MChunk.num {c : Chunk} (h : MChunk c) : 0 ≤ c.num ∧ c.num ≤ 39 ∧ c.early = [] ∧ wrongMsg (c.stream, c.data) = 0 ∧ 0 ≤ c.place ∧ c.place ≤ c.num := by
  have hk := h.k; have hw := h.w
  unfold wrong at hw
  rw [if_neg (by omega)] at hw
  split at hw
  · omega
  · split at hw
    · omega
    · split at hw
      · omega
      · rename_i h1 h2 h3
        exact ⟨by omega, by omega, List.eq_nil_of_length_eq_zero (by omega), hw, by omega, by omega⟩
theorem stream3 {c : Chunk} (h : wrong c = 0) (hk : c.kind = 1) : c.stream = 0 ∨ c.stream = 1 ∨ c.stream = 2 := by
  have := (MChunk.num ⟨hk, h⟩).2.2.2.1
  unfold wrongMsg at this
  split at this
  · omega
  · simp only at *; omega
def TaleOk (N : Int) (s : Tale) : Prop := (s.2.2.length : Int) + s.1.length = N ∧ (0 ≤ s.2.1.a ∧ 0 ≤ s.2.1.b ∧ 0 ≤ s.2.1.c ∧ s.2.1.a + s.2.1.b + s.2.1.c = s.2.2.length) ∧ ∀ c ∈ s.1, wrong c = 0 ∧ c.kind = 1
theorem taleOk_step {N : Int} {s t : Tale} (h : TaleOk N s) (ht : tell1 s = some t) : TaleOk N t := by
  obtain ⟨k, hk, hr, rfl⟩ := tell1_some ht
  obtain ⟨h1, h2, h3⟩ := h
  have hl := tell1_len ht
  simp only at hl
  refine ⟨by simp only [List.length_append, List.length_singleton]; omega, ?_, fun c hc => h3 c (List.mem_of_mem_eraseIdx hc)⟩
  simp only [List.length_append, List.length_singleton, Places.bump]
  split
  · simp only; omega
  · split
    · simp only; omega
    · simp only; omega
theorem rinv_hear {r : Receiver} (h : RInv r) {c : Chunk} (hc : wrong c = 0) : RInv (rhear r c) := by
  unfold rhear
  split
  · exact h
  · rename_i hk
    have hk : c.kind = 1 := Decidable.of_not_not hk
    split
    · exact ⟨h.n, h.s, h.e, h.el, h.t, h.p, h.h⟩
    · rename_i hr
      unfold refuses at hr
      have hm := MChunk.num ⟨hk, hc⟩
      have hn := h.n
      have hnl := h.nl
      have hne : c.num ∉ r.early := fun e => hr (.inr (.inl e))
      have hge : r.next ≤ c.num := by
        by_cases hx : c.num < r.next
        · exact absurd (.inl hx) hr
        · omega
      obtain ⟨g1, g2, g3, g4, g5, g6, g7⟩ := strip_spec (l := insertS c.num r.early) (x := r.next) (insertS_sorted h.s hne) (fun y hy => by
        rcases insertS_mem.1 hy with rfl | hy
        · exact ⟨hge, by omega⟩
        · have := h.e y hy; omega) hn.2
      rw [insertS_length] at g5
      have ht := h.t
      obtain ⟨⟨t1, t2, t3⟩, _⟩ := tellAll_ind (P := TaleOk (r.next + r.early.length + 1)) (fun s t => taleOk_step) _ (r.hold ++ [c], r.places, r.told) rfl
        ⟨by simp only [List.length_append, List.length_singleton]; omega, h.p, fun x hx => by
          rcases List.mem_append.1 hx with hx | hx
          · exact h.h x hx
          · rw [List.mem_singleton.1 hx]; exact ⟨hc, hk⟩⟩
      refine ⟨⟨by simp only [takes]; omega, g3⟩, g1, fun x hx => ⟨(g2 x hx).1, (g2 x hx).2.1⟩, ?_, ?_, t2, t3⟩
      · simp only [takes]
        have hel := h.el
        by_cases hx : c.num = r.next
        · have := g6 (by rw [← hx]; exact insertS_mem.2 (.inl rfl))
          omega
        · have : ¬ 2 < r.early.length := fun e => hr (.inr (.inr ⟨by omega, e⟩))
          omega
      · simp only [takes]; omega
theorem rinv_say {r : Receiver} (h : RInv r) : RInv (rsay r).1 := by
  unfold rsay
  split
  · exact ⟨h.n, h.s, h.e, h.el, h.t, h.p, h.h⟩
  · exact h
end Go.Proofs.Ytaadloihphpdbaa
