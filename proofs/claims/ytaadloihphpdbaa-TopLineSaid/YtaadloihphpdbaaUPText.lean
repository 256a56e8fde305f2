/- Texts of messages: what is printed, what is read. No program is in sight. -/
import Derived.Test.YtaadloihphpdbaaUPModel
import Derived.Test.YtaadloihphpdbaaUVcT
set_option linter.unusedVariables false
set_option linter.unusedSimpArgs false
namespace Go.Proofs.Ytaadloihphpdbaa
open Go Go.Vc Go.RowKit
def hexL : List UInt8 := [48, 49, 50, 51, 52, 53, 54, 55, 56, 57, 97, 98, 99, 100, 101, 102]
def hexD (n : Nat) : UInt8 := hexL.getD n 0
def hexI (c : UInt8) : Int := Lib.indexByte hexL c
def hexes : List UInt8 → Option (List UInt8)
  | [] => some []
  | [_] => none
  | a :: b :: r => if hexI a < 0 ∨ hexI b < 0 then none else (hexes r).map (u8 (16 * hexI a + hexI b) :: ·)
def headOk (s : List UInt8) : Bool := match s with
  | a :: b :: r => decide (48 ≤ a.toNat ∧ a.toNat ≤ 57) && decide (b = 58) && decide (r.length % 2 = 0)
  | _ => false
def noMsg : Msg := (0, [])
def parseT (s : List UInt8) : Msg × Int :=
  if headOk s then match hexes (s.drop 2) with
    | none => (noMsg, 2)
    | some d => if zcp (((s.headD 0).toNat : Int) - 48, d) = 0 then ((((s.headD 0).toNat : Int) - 48, d), 0) else (noMsg, zcp (((s.headD 0).toNat : Int) - 48, d))
  else (noMsg, 2)
theorem u8Fin (P : UInt8 → Prop) (h : ∀ n : Fin 256, P (UInt8.ofNat n.1)) (c : UInt8) : P c := by
  have := h ⟨c.toNat, c.toNat_lt⟩
  simpa using this
theorem hexD_I (c : UInt8) : 0 ≤ hexI c → hexI c < 16 ∧ hexD (hexI c).toNat = c := by
  refine u8Fin (fun c => 0 ≤ hexI c → hexI c < 16 ∧ hexD (hexI c).toNat = c) ?_ c
  decide +kernel
theorem hexI_ge (c : UInt8) : -1 ≤ hexI c := Lib.indexByte_ge _ _
theorem hexI_lt (c : UInt8) : hexI c < 16 := by
  by_cases h : 0 ≤ hexI c
  · exact (hexD_I c h).1
  · omega
theorem hexes_2 (a b : UInt8) (r : List UInt8) : hexes (a :: b :: r) = if hexI a < 0 ∨ hexI b < 0 then none else (hexes r).map (u8 (16 * hexI a + hexI b) :: ·) := rfl
theorem parse_head {s : List UInt8} (h : headOk s = false) : parseT s = (noMsg, 2) := by
  unfold parseT; rw [if_neg (by rw [h]; decide)]
theorem parse_hexes {s : List UInt8} (h : headOk s = true) (hx : hexes (s.drop 2) = none) : parseT s = (noMsg, 2) := by
  unfold parseT; rw [if_pos h, hx]
theorem parse_some {s d : List UInt8} {k : Int} (h : headOk s = true) (hx : hexes (s.drop 2) = some d) (hk : ((s.headD 0).toNat : Int) - 48 = k) : parseT s = if zcp (k, d) = 0 then ((k, d), 0) else (noMsg, zcp (k, d)) := by
  subst hk; unfold parseT; rw [if_pos h, hx]
def cutB (s : List UInt8) (c : UInt8) : List UInt8 := if 0 ≤ Lib.indexByte s c then s.take (Lib.indexByte s c).toNat else s
def cutA (s : List UInt8) (c : UInt8) : List UInt8 := if 0 ≤ Lib.indexByte s c then s.drop ((Lib.indexByte s c).toNat + 1) else []
def cutF (s : List UInt8) (c : UInt8) : Bool := decide (0 ≤ Lib.indexByte s c)
theorem idx_lt (s : List UInt8) (c : UInt8) (h : 0 ≤ Lib.indexByte s c) : (Lib.indexByte s c).toNat < s.length := by
  obtain ⟨k, hk⟩ := Int.eq_ofNat_of_zero_le h
  have := (Lib.indexByte_some hk).1
  rw [hk, Int.toNat_natCast]
  exact (List.getElem?_eq_some_iff.1 this).1
theorem cut_head (s : List UInt8) : headOk s = (cutF s 58 && decide ((cutB s 58).length = 1) && decide (48 ≤ ((cutB s 58).headD 0).toNat ∧ ((cutB s 58).headD 0).toNat ≤ 57) && decide ((cutA s 58).length % 2 = 0)) := by
  unfold cutF cutB cutA
  by_cases h : 0 ≤ Lib.indexByte s 58
  · obtain ⟨k, hk⟩ := Int.eq_ofNat_of_zero_le h
    have hs := Lib.indexByte_some hk
    have hl : k < s.length := (List.getElem?_eq_some_iff.1 hs.1).1
    rw [if_pos h, if_pos h, hk, Int.toNat_natCast, List.length_take, List.length_drop]
    match k, s with
    | 0, a :: r =>
      have : a = 58 := by simpa using hs.1
      subst this
      match r with
      | [] => simp [headOk]
      | b :: r => simp [headOk]
    | 1, a :: b :: r =>
      have hb : b = 58 := by simpa using hs.1
      subst hb
      simp [headOk]
    | k + 2, [] => simp at hl
    | k + 2, [_] => simp at hl
    | k + 2, a :: b :: r =>
      have hb : b ≠ 58 := by
        have := hs.2 1 (by omega)
        simpa using this
      simp only [List.length_cons] at hl ⊢
      have : ¬ (min (k + 2) (r.length + 1 + 1) = 1) := by omega
      simp [headOk, hb, this]
    | 0, [] => simp at hl
    | 1, [] => simp at hl
    | 1, [_] => simp at hl
  · have hn : Lib.indexByte s 58 = -1 := by have := Lib.indexByte_ge s 58; omega
    have hb := Lib.indexByte_none hn 1
    rw [decide_eq_false h]
    match s with
    | [] => rfl
    | [_] => rfl
    | a :: b :: r =>
      have : b ≠ 58 := by simpa using hb
      simp [headOk, this]
theorem cut_parts {s : List UInt8} (h : headOk s = true) : cutA s 58 = s.drop 2 ∧ (cutB s 58).headD 0 = s.headD 0 := by
  have h2 := h
  rw [cut_head] at h2
  unfold cutF cutB cutA at *
  by_cases h3 : 0 ≤ Lib.indexByte s 58
  · rw [if_pos h3, if_pos h3] at *
    have hl := idx_lt s 58 h3
    have : (Lib.indexByte s 58).toNat = 1 := by
      simp only [Bool.and_eq_true, decide_eq_true_eq, List.length_take] at h2
      omega
    rw [this]
    refine ⟨rfl, ?_⟩
    match s, hl with
    | a :: r, _ => rfl
  · rw [decide_eq_false h3] at h2; cases h2
def hexAt (r : List UInt8) (i : Nat) (acc : List UInt8) : Prop := hexes r = (hexes (r.drop i)).map (acc ++ ·) ∧ 2 * acc.length = i
theorem hexAt_0 (r : List UInt8) : hexAt r 0 [] := by
  refine ⟨?_, rfl⟩
  cases h : hexes r <;> simp [h]
theorem drop2 {r : List UInt8} {i : Nat} (h : i + 1 < r.length) : r.drop i = r[i]'(by omega) :: r[i + 1]'h :: r.drop (i + 2) := by
  rw [List.drop_eq_getElem_cons (show i < r.length by omega), List.drop_eq_getElem_cons h]
theorem hexAt_bad {r acc : List UInt8} {i : Nat} (h : hexAt r i acc) (hi : i + 1 < r.length) (hb : hexI (r[i]'(by omega)) < 0 ∨ hexI (r[i + 1]'hi) < 0) : hexes r = none := by
  rw [h.1, drop2 hi, hexes_2, if_pos hb]; rfl
theorem hexAt_next {r acc : List UInt8} {i : Nat} (h : hexAt r i acc) (hi : i + 1 < r.length) (hb : ¬ (hexI (r[i]'(by omega)) < 0 ∨ hexI (r[i + 1]'hi) < 0)) : hexAt r (i + 2) (acc ++ [u8 (16 * hexI (r[i]'(by omega)) + hexI (r[i + 1]'hi))]) := by
  refine ⟨?_, by have := h.2; simp; omega⟩
  rw [h.1, drop2 hi, hexes_2, if_neg hb, Option.map_map]
  cases hexes (r.drop (i + 2)) <;> simp
theorem hexAt_end {r acc : List UInt8} {i : Nat} (h : hexAt r i acc) (hi : r.length ≤ i) : hexes r = some acc := by
  rw [h.1, List.drop_eq_nil_of_le hi]; simp [hexes]
end Go.Proofs.Ytaadloihphpdbaa
