/- What the walk of lane.Spoil needs. Printed by a small program (walk.py). -/
import Derived.Test.YtaadloihphpdbaaUWLane3
set_option linter.unusedVariables false
set_option linter.unusedSimpArgs false
set_option maxRecDepth 4000
namespace Go.Proofs.Ytaadloihphpdbaa
open Go Go.Vc Go.RowKit
theorem bits_xor1 : ∀ n : Fin 256, bits .xor .u8 (n.val : Int) 1 = ((n.val ^^^ 1 : Nat) : Int) := by decide +kernel
theorem store_xor {p : List UInt8} {j : Nat} {b : UInt8} (hb : p[j]? = some b) (u : AV) : (Vc.byteCells p).set j (wrA [u] 0 [.lit (.int .u8 (bits .xor .u8 b.toNat 1))]) = Vc.byteCells (spoilAt p j) := by
  have h1 : bits .xor .u8 (b.toNat : Int) 1 = ((flip1 b).toNat : Int) := by
    unfold flip1; rw [UInt8.toNat_xor]; exact bits_xor1 ⟨b.toNat, b.toNat_lt⟩
  have h3 := (flip1 b).toNat_lt
  rw [h1, spoil_is hb, set_u8 p j _ (by omega) u, u8_of]
theorem packs_sub' {ob ob' : List (Nat × AO)} {ρ : Nat → Option Nat} {fz : Nat → Prop} {q : List UInt8} {c : AV} (hs : Vc.Sub ob ob' ρ fz (.shr 1 (Vc.byteCells q)) c) {P : zcf} {n : Nat} (h : P[n]? = some q) : F2 (F2 (Vc.Sub ob ob' ρ fz)) (zat P) ((zat P).set n [c]) := by
  have e : P.set n q = P := by
    apply List.ext_getElem? ; intro i
    rw [List.getElem?_set]
    by_cases hi : n = i
    · subst hi; rw [if_pos rfl, h, if_pos (List.getElem?_eq_some_iff.1 h).1]
    · rw [if_neg hi]
  have := packs_sub hs P n
  rwa [e] at this
theorem hdr_at {P : zcf} {n : Nat} {q : List UInt8} (h : P[n]? = some q) (c : AV) : zat (P.take n) ++ [[c]] = (zat (P.take (n + 1))).set n [c] := by
  have hl := (List.getElem?_eq_some_iff.1 h).1
  rw [List.take_add_one, h]
  unfold zat
  simp only [Option.toList, List.map_append, List.map_cons, List.map_nil]
  rw [List.set_append_right _ _ (by simp; omega)]
  simp [Nat.min_eq_left (Nat.le_of_lt hl)]
theorem hdr_next {P : zcf} {n i : Nat} {p : List UInt8} (h : P[i]? = some p) (hn : n < i) (c : AV) : (zat (P.take i)).set n [c] ++ [[.shr 1 (Vc.byteCells p)]] = (zat (P.take (i + 1))).set n [c] := by
  have hl := (List.getElem?_eq_some_iff.1 h).1
  rw [List.take_add_one, h]
  unfold zat
  simp only [Option.toList, List.map_append, List.map_cons, List.map_nil]
  rw [List.set_append_left _ _ (by simp; omega)]
end Go.Proofs.Ytaadloihphpdbaa
