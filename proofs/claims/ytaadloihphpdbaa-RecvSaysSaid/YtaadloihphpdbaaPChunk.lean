/- Chunks, as bytes, and back: in plain terms. -/
import Derived.Test.YtaadloihphpdbaaPModel
set_option linter.unusedVariables false
namespace Go.Proofs.Ytaadloihphpdbaa
open Go Go.Vc Go.RowKit

theorem u8_of (b : UInt8) : u8 (b.toNat : Int) = b := by
  apply UInt8.toNat_inj.1
  have := u8_toNat (b.toNat : Int)
  have := b.toNat_lt
  omega
theorem toNat_u8 {n : Int} (h : 0 ≤ n ∧ n < 256) : ((u8 n).toNat : Int) = n := by rw [u8_toNat]; omega
theorem toNat_u8' {n : Int} (h : 0 ≤ n ∧ n < 256) : (u8 n).toNat = n.toNat := by have := toNat_u8 h; omega

theorem wrongMsg_ok {m : Msg} (h : wrongMsg m = 0) : (0 ≤ m.1 ∧ m.1 ≤ 2) ∧ m.2.length ≤ 6 := by
  unfold wrongMsg at h
  split at h
  · cases h
  · split at h
    · cases h
    · omega

/-- What a right chunk is. -/
theorem wrong_ok {c : Chunk} (h : wrong c = 0) : (0 ≤ c.num ∧ c.num ≤ 40) ∧
    ((c.kind = 1 ∧ c.num ≤ 39 ∧ (0 ≤ c.place ∧ c.place ≤ c.num) ∧ c.early = [] ∧ (0 ≤ c.stream ∧ c.stream ≤ 2) ∧ c.data.length ≤ 6) ∨
     (c.kind = 2 ∧ c.stream = 0 ∧ c.place = 0 ∧ c.data = [] ∧ c.early.length ≤ 3 ∧ rising c.num c.early = true)) := by
  unfold wrong at h
  split at h
  · cases h
  · rename_i h1
    split at h
    · cases h
    · rename_i h2
      refine ⟨by omega, ?_⟩
      split at h
      · rename_i h3
        split at h
        · cases h
        · rename_i h4
          split at h
          · cases h
          · rename_i h5
            obtain ⟨h6, h7⟩ := wrongMsg_ok h
            exact .inl ⟨h3, by omega, by omega, List.eq_nil_of_length_eq_zero (by omega), h6, h7⟩
      · rename_i h3
        split at h
        · cases h
        · rename_i h4
          split at h
          · cases h
          · rename_i h5
            split at h
            · rename_i h6
              exact .inr ⟨by omega, by omega, by omega, List.eq_nil_of_length_eq_zero (by omega), by omega, h6⟩
            · cases h

theorem wrongMsg_lt (m : Msg) : 0 ≤ wrongMsg m := by unfold wrongMsg; split; decide; split <;> decide

theorem rising_in : ∀ {l : List Int} {n : Int}, rising n l = true → ∀ x ∈ l, n < x ∧ x < 40
  | [], _, _, x, hx => by simp at hx
  | m :: r, n, h, x, hx => by
    simp only [rising, Bool.and_eq_true, decide_eq_true_eq] at h
    simp only [List.mem_cons] at hx
    rcases hx with rfl | hx
    · exact ⟨h.1, h.2.1⟩
    · have := rising_in h.2.2 x hx
      exact ⟨by omega, this.2⟩

theorem ints_u8 {l : List Int} (h : ∀ x ∈ l, 0 ≤ x ∧ x < 256) : ints (l.map u8) = l := by
  unfold ints
  rw [List.map_map]
  conv => rhs; rw [← List.map_id l]
  exact List.map_congr_left fun x hx => by simpa using toNat_u8 (h x hx)
theorem u8_ints (l : List UInt8) : (ints l).map u8 = l := by
  unfold ints
  rw [List.map_map]
  conv => rhs; rw [← List.map_id l]
  exact List.map_congr_left fun x _ => by simp [u8_of]

theorem body_data {c : Chunk} (hk : c.kind = 1) (he : c.early = []) : body c = u8 1 :: u8 c.num :: u8 c.stream :: u8 c.place :: c.data := by
  unfold body; rw [if_pos hk, hk, he]; simp
theorem body_ack {c : Chunk} (hk : c.kind = 2) : body c = u8 2 :: u8 c.num :: c.early.map u8 := by
  unfold body; rw [if_neg (by omega), hk]; simp

theorem parsed_body {c : Chunk} (h : wrong c = 0) : parsed (body c) = c ∧ short (body c) = false := by
  obtain ⟨hn, ⟨hk, h39, hp, he, hs, hd⟩ | ⟨hk, hs, hp, hd, hl, hr⟩⟩ := wrong_ok h
  · rw [body_data hk he]
    have e1 : (u8 1).toNat = 1 := by decide
    refine ⟨?_, ?_⟩
    · unfold parsed
      simp only [e1, if_true]
      rw [toNat_u8 (by omega), toNat_u8 (by omega), toNat_u8 (by omega), ← he]
      cases c; simp_all
    · simp [short]
  · rw [body_ack hk]
    have e2 : (u8 2).toNat = 2 := by decide
    refine ⟨?_, ?_⟩
    · unfold parsed
      simp only [e2]
      rw [if_neg (by decide), toNat_u8 (by omega), ints_u8 (fun x hx => by have := rising_in hr x hx; omega)]
      cases c; simp_all
    · simp [short, e2]

/-- There, and back. -/
theorem read_bytes {c : Chunk} (h : wrong c = 0) : read (bytes c) = (c, 0) := by
  obtain ⟨h1, h2⟩ := parsed_body h
  unfold read bytes
  rw [opens_sealed, opened_sealed, h1, h2, h]
  simp

theorem sealed_opened {b : List UInt8} (h : opens b = true) : sealedUp (opened b) = b := by
  have h0 := h
  unfold opened
  rw [if_pos h]
  unfold opens at h0
  exact beq_iff_eq.1 ((Bool.and_eq_true _ _).mp h0).2

theorem body_parsed {x : List UInt8} (hs : short x = false) (hw : wrong (parsed x) = 0) : body (parsed x) = x := by
  match x, hs with
  | k :: n :: r, hs =>
    by_cases hk : k.toNat = 1
    · match r, hs with
      | s :: p :: d, hs =>
        have e : parsed (k :: n :: s :: p :: d) = ⟨1, n.toNat, s.toNat, p.toNat, d, []⟩ := by simp [parsed, hk]
        rw [e, body_data rfl rfl]
        have ek : u8 1 = k := by rw [← u8_of k, hk]; rfl
        simp [u8_of, ek]
      | [], hs => simp [short, hk] at hs
      | [a], hs => simp [short, hk] at hs
    · have e : parsed (k :: n :: r) = ⟨k.toNat, n.toNat, 0, 0, [], ints r⟩ := by simp [parsed, hk]
      rw [e]
      unfold body
      rw [if_neg (by show ¬ (k.toNat : Int) = 1; omega)]
      simp [u8_of, u8_ints]
  | [], hs => simp [short] at hs
  | [a], hs => simp [short] at hs

theorem bytes_read {b : List UInt8} (h : (read b).2 = 0) : wrong (read b).1 = 0 ∧ bytes (read b).1 = b := by
  unfold read at h ⊢
  by_cases ho : opens b = false
  · rw [if_pos ho] at h; cases h
  · rw [if_neg ho] at h ⊢
    by_cases hs : short (opened b) = true
    · rw [if_pos hs] at h; cases h
    · rw [if_neg hs] at h ⊢
      by_cases hw : wrong (parsed (opened b)) ≠ 0
      · rw [if_pos hw] at h; exact absurd h hw
      · rw [if_neg hw]
        have hw' : wrong (parsed (opened b)) = 0 := Classical.byContradiction hw
        refine ⟨hw', ?_⟩
        show sealedUp (body (parsed (opened b))) = b
        rw [body_parsed (by simpa using hs) hw', sealed_opened (by simpa using ho)]

theorem bytes_inj {a b : Chunk} (ha : wrong a = 0) (hb : wrong b = 0) (h : bytes a = bytes b) : a = b := by
  have h1 := read_bytes ha
  have h2 := read_bytes hb
  rw [h, h2] at h1
  exact (Prod.ext_iff.1 h1).1.symm

theorem bytes_len {c : Chunk} : 4 ≤ (bytes c).length := by
  unfold bytes; rw [sealed_length]; unfold body; simp

theorem spoilt_read {x : List UInt8} {i : Nat} {b : UInt8} (hi : i < (sealedUp x).length) (hb : (sealedUp x)[i] ≠ b) : opens ((sealedUp x).set i b) = false := by
  have := byte_found x i (b.toNat : Int) (by have := b.toNat_lt; omega) hi (fun e => hb (UInt8.toNat_inj.1 (Int.ofNat.inj e)))
  rwa [u8_of] at this
theorem spoilt {c : Chunk} {i : Nat} {x : UInt8} (hi : i < (bytes c).length) (hx : (bytes c)[i] ≠ x) : read ((bytes c).set i x) = (chunk0, 7) := by
  have h := spoilt_read (x := body c) hi hx
  unfold read
  rw [if_pos (show opens ((bytes c).set i x) = false from h)]
end Go.Proofs.Ytaadloihphpdbaa
