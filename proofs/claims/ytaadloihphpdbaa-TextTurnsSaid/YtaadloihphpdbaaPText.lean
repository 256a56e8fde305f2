/- Texts of messages: what is printed, what is read. No program is in sight. -/
import Derived.Test.YtaadloihphpdbaaPModel
import Derived.Test.YtaadloihphpdbaaVcT
set_option linter.unusedVariables false
set_option linter.unusedSimpArgs false
namespace Go.Proofs.Ytaadloihphpdbaa
open Go Go.Vc Go.RowKit
def hexL : List UInt8 := [48, 49, 50, 51, 52, 53, 54, 55, 56, 57, 97, 98, 99, 100, 101, 102]
def hexD (n : Nat) : UInt8 := hexL.getD n 0
def hexI (c : UInt8) : Int := Lib.indexByte hexL c
/-- A byte's two digits. -/
def hex2 (b : UInt8) : List UInt8 := [hexD (b.toNat / 16), hexD (b.toNat % 16)]
def printT (m : Msg) : List UInt8 := hexD m.1.toNat :: 58 :: m.2.flatMap hex2
/-- Digits read. -/
def hexes : List UInt8 → Option (List UInt8)
  | [] => some []
  | [_] => none
  | a :: b :: r => if hexI a < 0 ∨ hexI b < 0 then none else (hexes r).map (u8 (16 * hexI a + hexI b) :: ·)
def headOk (s : List UInt8) : Bool := match s with
  | a :: b :: r => decide (48 ≤ a.toNat ∧ a.toNat ≤ 57) && decide (b = 58) && decide (r.length % 2 = 0)
  | _ => false
def noMsg : Msg := (0, [])
def parseT (s : List UInt8) : Msg × Int :=
  if headOk s then match hexes (s.drop 2) with
    | none => (noMsg, 2)
    | some d => if wrongMsg (((s.headD 0).toNat : Int) - 48, d) = 0 then ((((s.headD 0).toNat : Int) - 48, d), 0) else (noMsg, wrongMsg (((s.headD 0).toNat : Int) - 48, d))
  else (noMsg, 2)
theorem hexL_len : hexL.length = 16 := rfl
theorem hexD_get (n : Nat) (h : n < 16) : hexL[n]'h = hexD n := by
  unfold hexD; rw [List.getD_eq_getElem?_getD, List.getElem?_eq_getElem h]; rfl
theorem u8Fin (P : UInt8 → Prop) (h : ∀ n : Fin 256, P (UInt8.ofNat n.1)) (c : UInt8) : P c := by
  have := h ⟨c.toNat, c.toNat_lt⟩
  simpa using this
theorem hexI_D (n : Nat) (h : n < 16) : hexI (hexD n) = (n : Int) := by
  have : ∀ n : Fin 16, hexI (hexD n.1) = ((n.1 : Nat) : Int) := by decide +kernel
  exact this ⟨n, h⟩
theorem hexD_I (c : UInt8) : 0 ≤ hexI c → hexI c < 16 ∧ hexD (hexI c).toNat = c := by
  refine u8Fin (fun c => 0 ≤ hexI c → hexI c < 16 ∧ hexD (hexI c).toNat = c) ?_ c
  decide +kernel
theorem hexI_ge (c : UInt8) : -1 ≤ hexI c := Lib.indexByte_ge _ _
theorem hexI_lt (c : UInt8) : hexI c < 16 := by
  by_cases h : 0 ≤ hexI c
  · exact (hexD_I c h).1
  · omega
theorem hexD_small (n : Nat) (h : n < 16) : (hexD n).toNat < 128 := by
  have : ∀ n : Fin 16, (hexD n.1).toNat < 128 := by decide +kernel
  exact this ⟨n, h⟩
/-- The last place where a digit stands, of the first ones. -/
def upTo (c : UInt8) : Nat → Int
  | 0 => -1
  | i + 1 => if hexD i = c then (i : Int) else upTo c i
theorem upTo_all (c : UInt8) : upTo c 16 = hexI c := by
  refine u8Fin (fun c => upTo c 16 = hexI c) ?_ c
  decide +kernel
theorem upTo_in (c : UInt8) : ∀ i, -1 ≤ upTo c i ∧ upTo c i < (i : Int)
  | 0 => by simp [upTo]
  | i + 1 => by
    have := upTo_in c i
    unfold upTo
    split <;> omega
theorem hexes_2 (a b : UInt8) (r : List UInt8) : hexes (a :: b :: r) = if hexI a < 0 ∨ hexI b < 0 then none else (hexes r).map (u8 (16 * hexI a + hexI b) :: ·) := rfl
theorem u8_hex (b : UInt8) : u8 (16 * hexI (hexD (b.toNat / 16)) + hexI (hexD (b.toNat % 16))) = b := by
  have := b.toNat_lt
  rw [hexI_D _ (by omega), hexI_D _ (by omega)]
  rw [u8_eq]; omega
theorem hexes_print : ∀ d : List UInt8, hexes (d.flatMap hex2) = some d
  | [] => rfl
  | b :: r => by
    have := b.toNat_lt
    rw [List.flatMap_cons]
    show hexes (hexD (b.toNat / 16) :: hexD (b.toNat % 16) :: r.flatMap hex2) = _
    rw [hexes_2, hexI_D _ (by omega), hexI_D _ (by omega), if_neg (by omega), hexes_print r]
    have e := u8_hex b
    rw [hexI_D _ (by omega), hexI_D _ (by omega)] at e
    rw [Option.map_some, e]
theorem hexes_back : ∀ (s d : List UInt8), hexes s = some d → d.flatMap hex2 = s
  | [], d, h => by simp [hexes] at h; subst h; rfl
  | [_], d, h => by simp [hexes] at h
  | a :: b :: r, d, h => by
    rw [hexes_2] at h
    split at h
    · cases h
    · rename_i hn
      obtain ⟨d', hd, rfl⟩ := Option.map_eq_some_iff.1 h
      rw [List.flatMap_cons, hexes_back r d' hd]
      have ha := hexD_I a (by omega); have hb := hexD_I b (by omega)
      have h0 : 0 ≤ hexI a ∧ hexI a < 16 := ⟨by omega, ha.1⟩
      have h1 : 0 ≤ hexI b ∧ hexI b < 16 := ⟨by omega, hb.1⟩
      have e : (u8 (16 * hexI a + hexI b)).toNat = (hexI a).toNat * 16 + (hexI b).toNat := by
        have := u8_toNat (16 * hexI a + hexI b)
        omega
      unfold hex2
      rw [e, show ((hexI a).toNat * 16 + (hexI b).toNat) / 16 = (hexI a).toNat by omega, show ((hexI a).toNat * 16 + (hexI b).toNat) % 16 = (hexI b).toNat by omega, ha.2, hb.2]
      rfl
theorem flat_len (d : List UInt8) : (d.flatMap hex2).length = 2 * d.length := by
  induction d with
  | nil => rfl
  | cons b r ih => rw [List.flatMap_cons, List.length_append, ih]; simp [hex2]; omega
theorem hexDig (k : Nat) (h : k < 10) : (hexD k).toNat = 48 + k := by
  have : ∀ n : Fin 10, (hexD n.1).toNat = 48 + n.1 := by decide +kernel
  exact this ⟨k, h⟩
theorem rightMsg_is {m : Msg} (h : wrongMsg m = 0) : 0 ≤ m.1 ∧ m.1 ≤ 2 ∧ m.2.length ≤ 6 := by
  unfold wrongMsg at h
  split at h
  · cases h
  · split at h
    · cases h
    · omega
/-- A right message comes back. -/
theorem parse_print {m : Msg} (h : wrongMsg m = 0) : parseT (printT m) = (m, 0) := by
  obtain ⟨h0, h1, h2⟩ := rightMsg_is h
  have hd := hexDig m.1.toNat (by omega)
  have hk : headOk (printT m) = true := by
    unfold printT headOk
    simp only [flat_len, hd]
    simp; omega
  have e : (((printT m).headD 0).toNat : Int) - 48 = m.1 := by
    show ((hexD m.1.toNat).toNat : Int) - 48 = m.1
    rw [hd]; omega
  unfold parseT
  rw [if_pos hk, e]
  have : hexes ((printT m).drop 2) = some m.2 := hexes_print m.2
  rw [this]
  show (if wrongMsg m = 0 then (m, (0 : Int)) else _) = _
  rw [if_pos h]
theorem parse_head {s : List UInt8} (h : headOk s = false) : parseT s = (noMsg, 2) := by
  unfold parseT; rw [if_neg (by rw [h]; decide)]
theorem parse_hexes {s : List UInt8} (h : headOk s = true) (hx : hexes (s.drop 2) = none) : parseT s = (noMsg, 2) := by
  unfold parseT; rw [if_pos h, hx]
theorem parse_some {s d : List UInt8} {k : Int} (h : headOk s = true) (hx : hexes (s.drop 2) = some d) (hk : ((s.headD 0).toNat : Int) - 48 = k) : parseT s = if wrongMsg (k, d) = 0 then ((k, d), 0) else (noMsg, wrongMsg (k, d)) := by
  subst hk; unfold parseT; rw [if_pos h, hx]
/-- What is read is its message's text. -/
theorem print_parse {s : List UInt8} (h : (parseT s).2 = 0) : printT (parseT s).1 = s ∧ wrongMsg (parseT s).1 = 0 := by
  by_cases hk : headOk s = true
  · match hx : hexes (s.drop 2) with
    | none => rw [parse_hexes hk hx] at h; cases h
    | some d =>
      match s, hk, hx with
      | a :: b :: r, hk, hx =>
        rw [parse_some hk hx (show _ = (a.toNat : Int) - 48 from rfl)] at h ⊢
        by_cases hw : wrongMsg ((a.toNat : Int) - 48, d) = 0
        · rw [if_pos hw]
          refine ⟨?_, hw⟩
          unfold headOk at hk
          simp at hk
          obtain ⟨⟨⟨h1, h2⟩, rfl⟩, h3⟩ := hk
          unfold printT
          simp only
          rw [hexes_back r d hx]
          have e : hexD ((a.toNat : Int) - 48).toNat = a := by
            apply UInt8.toNat_inj.1
            have := hexDig ((a.toNat : Int) - 48).toNat (by omega)
            omega
          rw [e]
        · rw [if_neg hw] at h
          exact absurd h hw
  · rw [parse_head (by simpa using hk)] at h
    cases h
theorem print_inj {m n : Msg} (h : wrongMsg m = 0) (h' : wrongMsg n = 0) : (printT m == printT n) = (m == n) := by
  by_cases e : m = n
  · subst e; simp
  · have : printT m ≠ printT n := fun ep => e (by have h1 := parse_print h; rw [ep, parse_print h'] at h1; exact (Prod.mk.inj h1).1.symm)
    rw [beq_eq_false_iff_ne.2 e, beq_eq_false_iff_ne.2 this]
/-- What stands ahead of the first of a byte, and behind it. -/
def cutB (s : List UInt8) (c : UInt8) : List UInt8 := if 0 ≤ Lib.indexByte s c then s.take (Lib.indexByte s c).toNat else s
def cutA (s : List UInt8) (c : UInt8) : List UInt8 := if 0 ≤ Lib.indexByte s c then s.drop ((Lib.indexByte s c).toNat + 1) else []
def cutF (s : List UInt8) (c : UInt8) : Bool := decide (0 ≤ Lib.indexByte s c)
theorem idx_lt (s : List UInt8) (c : UInt8) (h : 0 ≤ Lib.indexByte s c) : (Lib.indexByte s c).toNat < s.length := by
  obtain ⟨k, hk⟩ := Int.eq_ofNat_of_zero_le h
  have := (Lib.indexByte_some hk).1
  rw [hk, Int.toNat_natCast]
  exact (List.getElem?_eq_some_iff.1 this).1
/-- The head of a text that can be read. -/
theorem cut_head (s : List UInt8) : headOk s = (cutF s 58 && decide ((cutB s 58).length = 1) && decide (48 ≤ ((cutB s 58).headD 0).toNat ∧ ((cutB s 58).headD 0).toNat ≤ 57) && decide ((cutA s 58).length % 2 = 0)) := by
  unfold cutF cutB cutA
  by_cases h : 0 ≤ Lib.indexByte s 58
  · obtain ⟨k, hk⟩ := Int.eq_ofNat_of_zero_le h
    have hs := Lib.indexByte_some hk
    have hl : k < s.length := (List.getElem?_eq_some_iff.1 hs.1).1
    rw [if_pos h, if_pos h, hk, Int.toNat_natCast, List.length_take, List.length_drop]
    match k, s with
    | 0, a :: r =>
      have : a = 58 := by simpa using hs.1
      subst this
      match r with
      | [] => simp [headOk]
      | b :: r => simp [headOk]
    | 1, a :: b :: r =>
      have hb : b = 58 := by simpa using hs.1
      subst hb
      simp [headOk]
    | k + 2, [] => simp at hl
    | k + 2, [_] => simp at hl
    | k + 2, a :: b :: r =>
      have hb : b ≠ 58 := by
        have := hs.2 1 (by omega)
        simpa using this
      simp only [List.length_cons] at hl ⊢
      have : ¬ (min (k + 2) (r.length + 1 + 1) = 1) := by omega
      simp [headOk, hb, this]
    | 0, [] => simp at hl
    | 1, [] => simp at hl
    | 1, [_] => simp at hl
  · have hn : Lib.indexByte s 58 = -1 := by have := Lib.indexByte_ge s 58; omega
    have hb := Lib.indexByte_none hn 1
    rw [decide_eq_false h]
    match s with
    | [] => rfl
    | [_] => rfl
    | a :: b :: r =>
      have : b ≠ 58 := by simpa using hb
      simp [headOk, this]
theorem cut_parts {s : List UInt8} (h : headOk s = true) : cutA s 58 = s.drop 2 ∧ (cutB s 58).headD 0 = s.headD 0 := by
  have h2 := h
  rw [cut_head] at h2
  unfold cutF cutB cutA at *
  by_cases h3 : 0 ≤ Lib.indexByte s 58
  · rw [if_pos h3, if_pos h3] at *
    have hl := idx_lt s 58 h3
    have : (Lib.indexByte s 58).toNat = 1 := by
      simp only [Bool.and_eq_true, decide_eq_true_eq, List.length_take] at h2
      omega
    rw [this]
    refine ⟨rfl, ?_⟩
    match s, hl with
    | a :: r, _ => rfl
  · rw [decide_eq_false h3] at h2; cases h2
/-- How far digits were read. -/
def hexAt (r : List UInt8) (i : Nat) (acc : List UInt8) : Prop := hexes r = (hexes (r.drop i)).map (acc ++ ·) ∧ 2 * acc.length = i
theorem hexAt_0 (r : List UInt8) : hexAt r 0 [] := by
  refine ⟨?_, rfl⟩
  cases h : hexes r <;> simp [h]
theorem drop2 {r : List UInt8} {i : Nat} (h : i + 1 < r.length) : r.drop i = r[i]'(by omega) :: r[i + 1]'h :: r.drop (i + 2) := by
  rw [List.drop_eq_getElem_cons (show i < r.length by omega), List.drop_eq_getElem_cons h]
theorem hexAt_bad {r acc : List UInt8} {i : Nat} (h : hexAt r i acc) (hi : i + 1 < r.length) (hb : hexI (r[i]'(by omega)) < 0 ∨ hexI (r[i + 1]'hi) < 0) : hexes r = none := by
  rw [h.1, drop2 hi, hexes_2, if_pos hb]; rfl
theorem hexAt_next {r acc : List UInt8} {i : Nat} (h : hexAt r i acc) (hi : i + 1 < r.length) (hb : ¬ (hexI (r[i]'(by omega)) < 0 ∨ hexI (r[i + 1]'hi) < 0)) : hexAt r (i + 2) (acc ++ [u8 (16 * hexI (r[i]'(by omega)) + hexI (r[i + 1]'hi))]) := by
  refine ⟨?_, by have := h.2; simp; omega⟩
  rw [h.1, drop2 hi, hexes_2, if_neg hb, Option.map_map]
  cases hexes (r.drop (i + 2)) <;> simp
theorem hexAt_end {r acc : List UInt8} {i : Nat} (h : hexAt r i acc) (hi : r.length ≤ i) : hexes r = some acc := by
  rw [h.1, List.drop_eq_nil_of_le hi]; simp [hexes]
/-- The same, with the first digit of a pair read. -/
def refAt (r : List UInt8) (i : Nat) (acc : List UInt8) (v : Int) : Prop := (i % 2 = 0 ∧ v = 0 ∧ hexAt r i acc) ∨ (i % 2 = 1 ∧ v = hexI (r.getD (i - 1) 0) ∧ 0 ≤ v ∧ v < 16 ∧ hexAt r (i - 1) acc)
theorem refAt_in {r acc : List UInt8} {i : Nat} {v : Int} (h : refAt r i acc v) : 0 ≤ v ∧ v < 16 ∧ 2 * acc.length ≤ i := by
  rcases h with ⟨h1, h2, h3⟩ | ⟨h1, h2, h3, h4, h5⟩
  · have := h3.2; omega
  · have := h5.2; omega
theorem getD_get {r : List UInt8} {i : Nat} (h : i < r.length) : r.getD i 0 = r[i]'h := by
  rw [List.getD_eq_getElem?_getD, List.getElem?_eq_getElem h]; rfl
theorem refAt_bad {r acc : List UInt8} {i : Nat} {v : Int} (h : refAt r i acc v) (hr : r.length % 2 = 0) (hi : i < r.length) (hb : hexI (r[i]'hi) < 0) : hexes r = none := by
  rcases h with ⟨h1, h2, h3⟩ | ⟨h1, h2, h3, h4, h5⟩
  · exact hexAt_bad h3 (by omega) (.inl hb)
  · obtain ⟨j, rfl⟩ : ∃ j, i = j + 1 := ⟨i - 1, by omega⟩
    exact hexAt_bad h5 (show j + 1 < r.length from hi) (.inr hb)
theorem refAt_odd {r acc : List UInt8} {i : Nat} {v : Int} (h : refAt r i acc v) (ho : i % 2 = 1) (hi : i < r.length) (hb : ¬ hexI (r[i]'hi) < 0) : refAt r (i + 1) (acc ++ [u8 (16 * v + hexI (r[i]'hi))]) 0 := by
  rcases h with ⟨h1, h2, h3⟩ | ⟨h1, h2, h3, h4, h5⟩
  · omega
  · obtain ⟨j, rfl⟩ : ∃ j, i = j + 1 := ⟨i - 1, by omega⟩
    refine .inl ⟨by omega, rfl, ?_⟩
    rw [Nat.add_sub_cancel, getD_get (by omega)] at h2
    have := hexAt_next h5 (show j + 1 < r.length from hi) (by rw [h2] at h3; simp only [Nat.add_sub_cancel]; omega)
    simp only [Nat.add_sub_cancel] at this
    rw [h2]; exact this
theorem refAt_even {r acc : List UInt8} {i : Nat} {v : Int} (h : refAt r i acc v) (ho : ¬ i % 2 = 1) (hi : i < r.length) (hb : ¬ hexI (r[i]'hi) < 0) : refAt r (i + 1) acc (16 * v + hexI (r[i]'hi)) := by
  rcases h with ⟨h1, h2, h3⟩ | ⟨h1, h2, h3, h4, h5⟩
  · have := hexI_lt (r[i]'hi)
    refine .inr ⟨by omega, ?_, by omega, by omega, h3⟩
    rw [Nat.add_sub_cancel, getD_get hi]; omega
  · omega
theorem refAt_end {r acc : List UInt8} {i : Nat} {v : Int} (h : refAt r i acc v) (hr : r.length % 2 = 0) (hi : i = r.length) : hexes r = some acc := by
  rcases h with ⟨h1, h2, h3⟩ | ⟨h1, h2, h3, h4, h5⟩
  · exact hexAt_end h3 (by omega)
  · omega
theorem upTo_step (c : UInt8) (k : Nat) (h : k < 16) : upTo c (k + 1) = if (hexL[k]'h).toNat = c.toNat then (k : Int) else upTo c k := by
  rw [hexD_get k h]
  show (if hexD k = c then _ else _) = _
  by_cases e : hexD k = c
  · rw [if_pos e, if_pos (by rw [e])]
  · rw [if_neg e, if_neg (fun h => e (UInt8.toNat_inj.1 h))]
theorem head_3 (c b : UInt8) (r : List UInt8) (h1 : 48 ≤ c.toNat) (h2 : c.toNat ≤ 57) (h3 : b.toNat = 58) (h4 : r.length % 2 = 0) : headOk (c :: b :: r) = true := by
  have : b = 58 := UInt8.toNat_inj.1 h3
  subst this
  simp [headOk, h1, h2, h4]
theorem head_no {s : List UInt8} (h : s.length < 2 ∨ (∃ x, s[0]? = some x ∧ (x.toNat < 48 ∨ 57 < x.toNat)) ∨ (∃ x, s[1]? = some x ∧ x.toNat ≠ 58) ∨ s.length % 2 = 1) : headOk s = false := by
  cases hh : headOk s with
  | false => rfl
  | true =>
    match s with
    | [] => cases hh
    | [_] => cases hh
    | a :: b :: r =>
      simp [headOk] at hh
      obtain ⟨⟨h1, rfl⟩, h3⟩ := hh
      rcases h with h | ⟨x, e, h⟩ | ⟨x, e, h⟩ | h
      · simp at h; omega
      · simp at e; subst e; omega
      · simp at e; subst e; exact absurd rfl h
      · simp at h; omega
theorem hexL_get (m : Nat) (h : m < 16) : ((hexL[m]'h).toNat : Int) = ((hexD m).toNat : Int) := by rw [hexD_get m h]
end Go.Proofs.Ytaadloihphpdbaa
