/- What the walks of lanes need. Printed by a small program (walk.py). -/
import Derived.Test.YtaadloihphpdbaaZWRecv3
import Derived.Test.YtaadloihphpdbaaZWSendH
import Derived.Test.YtaadloihphpdbaaZPWorld
import Derived.Test.YtaadloihphpdbaaZVcH
set_option linter.unusedVariables false
set_option linter.unusedSimpArgs false
set_option maxRecDepth 4000
namespace Go.Proofs.Ytaadloihphpdbaa
open Go Go.Vc Go.RowKit
theorem zdc {P : zcw} {k : Nat} {p : List UInt8} (h : P[k]? = some p) : (zbc P)[k]? = some [.shr 1 (Vc.byteCells p)] := by simp [zbc, h]
theorem zbr {l : List Lane} {k : Nat} {x : Lane} (h : l[k]? = some x) : (zcc l)[k]? = some (zdu x) := by simp [zcc, h]
theorem zbq {l : List Step} {k : Nat} {x : Step} (h : l[k]? = some x) : (stepCells l)[k]? = some (stepAV x) := by simp [stepCells, h]
theorem erase_packs {P : zcw} {k : Nat} : zbc (P.eraseIdx k) = (zbc P).take k ++ (zbc P).drop (k + 1) := by
  unfold zbc; rw [List.eraseIdx_eq_take_drop_succ, List.map_append, List.map_take, List.map_drop]
theorem packs_isP {P : zcw} : ∀ x ∈ zbc P, ∀ c ∈ x, isP c = true := by
  intro x hx c hc
  obtain ⟨b, _, rfl⟩ := List.mem_map.1 hx
  rw [List.mem_singleton.1 hc]; rfl
theorem packs_refl {ob ob' : List (Nat × AO)} {ρ : Nat → Option Nat} {fz : Nat → Prop} : ∀ (P : zcw), F2 (F2 (Vc.Sub ob ob' ρ fz)) (zbc P) (zbc P)
  | [] => .nil
  | p :: P => .cons (.cons (.shr _ _) .nil) (packs_refl P)
theorem packs_sub {ob ob' : List (Nat × AO)} {ρ : Nat → Option Nat} {fz : Nat → Prop} {q : List UInt8} {c : AV} (hs : Vc.Sub ob ob' ρ fz (.shr 1 (Vc.byteCells q)) c) : ∀ (P : zcw) (k : Nat), F2 (F2 (Vc.Sub ob ob' ρ fz)) (zbc (P.set k q)) ((zbc P).set k [c])
  | [], k => .nil
  | p :: P, 0 => .cons (.cons hs .nil) (packs_refl P)
  | p :: P, k + 1 => .cons (.cons (.shr _ _) .nil) (packs_sub hs P k)
theorem zfi {ob ob' : List (Nat × AO)} {ρ : Nat → Option Nat} {fz : Nat → Prop} {c c' : AV} (hs : Vc.Sub ob ob' ρ fz c' c) : ∀ (P : zcw) (k : Nat), F2 (F2 (Vc.Sub ob ob' ρ fz)) ((zbc P).set k [c']) ((zbc P).set k [c])
  | [], k => .nil
  | p :: P, 0 => .cons (.cons hs .nil) (packs_refl P)
  | p :: P, k + 1 => .cons (.cons (.shr _ _) .nil) (zfi hs P k)
theorem xor1_is : ∀ n : Fin 256, n.val ^^^ 1 = if n.val % 2 = 0 then n.val + 1 else n.val - 1 := by decide +kernel
theorem flip_even {b : UInt8} (h : ((b.toNat : Int) % 2) = 0) : flip1 b = u8 ((b.toNat : Int) + 1) := by
  apply UInt8.toNat_inj.1
  have h1 := xor1_is ⟨b.toNat, b.toNat_lt⟩
  have h2 := zew ((b.toNat : Int) + 1)
  have h3 := b.toNat_lt
  unfold flip1
  rw [UInt8.toNat_xor]
  show b.toNat ^^^ 1 = _
  simp only at h1
  rw [h1, if_pos (by omega)]; omega
theorem flip_odd {b : UInt8} (h : ¬ ((b.toNat : Int) % 2) = 0) : flip1 b = u8 ((b.toNat : Int) - 1) := by
  apply UInt8.toNat_inj.1
  have h1 := xor1_is ⟨b.toNat, b.toNat_lt⟩
  have h2 := zew ((b.toNat : Int) - 1)
  have h3 := b.toNat_lt
  unfold flip1
  rw [UInt8.toNat_xor]
  show b.toNat ^^^ 1 = _
  simp only at h1
  rw [h1, if_neg (by omega)]; omega
theorem wrap_u8 {n : Int} (h : 0 ≤ n ∧ n ≤ 255) : IntKind.u8.wrap n = n := by
  simp only [IntKind.wrap, IntKind.bits, IntKind.signed, Bool.false_and, Bool.false_eq_true, if_false]
  omega
theorem spoil_is {p : List UInt8} {j : Nat} {b : UInt8} (h : p[j]? = some b) : spoilAt p j = p.set j (flip1 b) := by
  unfold spoilAt; rw [List.getD, h]; rfl
theorem store_even {p : List UInt8} {j : Nat} {b : UInt8} (hb : p[j]? = some b) (h : ((b.toNat : Int) % 2) = 0) (u : AV) : (Vc.byteCells p).set j (wrA [u] 0 [.lit (.int .u8 (IntKind.u8.wrap ((b.toNat : Int) + 1)))]) = Vc.byteCells (spoilAt p j) := by
  have h3 := b.toNat_lt
  rw [wrap_u8 (by omega), spoil_is hb, flip_even h]
  exact set_u8 p j _ (by omega) u
theorem store_odd {p : List UInt8} {j : Nat} {b : UInt8} (hb : p[j]? = some b) (h : ¬ ((b.toNat : Int) % 2) = 0) (u : AV) : (Vc.byteCells p).set j (wrA [u] 0 [.lit (.int .u8 (IntKind.u8.wrap ((b.toNat : Int) - 1)))]) = Vc.byteCells (spoilAt p j) := by
  have h3 := b.toNat_lt
  rw [wrap_u8 (by omega), spoil_is hb, flip_odd h]
  exact set_u8 p j _ (by omega) u
theorem zei {p : List UInt8} {j : Nat} {b : UInt8} (h : p[j]? = some b) : (Vc.byteCells p)[j]? = some [.lit (.int .u8 b.toNat)] := by simp [Vc.byteCells, h]
theorem putP_full {P : zcw} {b : List UInt8} (h : 5 < P.length) : putP P b = P := by unfold putP; rw [if_pos h]
theorem putP_room {P : zcw} {b : List UInt8} (h : ¬ 5 < P.length) : putP P b = P ++ [b] := by unfold putP; rw [if_neg h]
theorem said_len {s : Sender} (hs : SInv s) : (say s).2.1.data.length ≤ 6 ∧ (say s).2.1.early.length ≤ 3 ∧ ((say s).2.1.kind = 1 → (say s).2.1.early = []) := by
  cases ho : (say s).2.2 with
  | false => rw [(said_not hs ho).2.2]; simp [zft]
  | true =>
    obtain ⟨hn, ⟨hk, h39, hp, he, hs, hd⟩ | ⟨hk, hs, hp, hd, hl, hr⟩⟩ := wrong_ok (say_right hs ho).1
    · rw [he]; exact ⟨hd, by simp, fun _ => rfl⟩
    · rw [hd]; exact ⟨by simp, hl, fun e => by omega⟩
theorem rsaid_len {r : Receiver} (hr : RInv r) : (rsay r).2.1.data.length ≤ 6 ∧ (rsay r).2.1.early.length ≤ 3 ∧ ((rsay r).2.1.kind = 1 → (rsay r).2.1.early = []) := by
  unfold rsay
  split
  · exact ⟨by simp, hr.el, fun e => by simp at e⟩
  · simp [zft]
theorem speak_is {l : Lane} {a b : Bool} (ha : (say l.s).2.2 = a) (hb : (rsay l.r).2.2 = b) : zep l = ⟨(say l.s).1, (rsay l.r).1, if a then putP l.there (bytes (say l.s).2.1) else l.there, if b then putP l.back (bytes (rsay l.r).2.1) else l.back⟩ := by unfold zep; rw [ha, hb]
theorem zfh {l : Lane} {kind n a : Int} {b : Bool} (h : n < 0 ∨ ((way l b).length : Int) ≤ n) : zcp l kind n a b = (l, 6) := by unfold zcp; simp only; rw [if_pos h]
theorem pk_lose {l : Lane} {kind a : Int} {k : Nat} {b : Bool} (hk : k < (way l b).length) (h : kind = 4) : zcp l kind k a b = (withP l b ((way l b).eraseIdx k), 0) := by unfold zcp; simp only; rw [if_neg (by omega), if_pos h]; rfl
theorem pk_twice {l : Lane} {kind a : Int} {k : Nat} {b : Bool} {p : List UInt8} (hk : (way l b)[k]? = some p) (h : kind = 5) : zcp l kind k a b = (withP l b (putP (way l b) p), 0) := by
  have := (List.getElem?_eq_some_iff.1 hk).1
  unfold zcp; simp only; rw [if_neg (by omega), if_neg (by omega), if_pos h]
  rw [show (way l b).getD ((k : Int).toNat) [] = p by simp only [Int.toNat_natCast, List.getD, hk, Option.getD_some]]
theorem pk_range {l : Lane} {kind a : Int} {k : Nat} {b : Bool} {p : List UInt8} (hk : (way l b)[k]? = some p) (h : kind = 6) (ha : a < 0 ∨ (p.length : Int) ≤ a) : zcp l kind k a b = (l, 3) := by
  have := (List.getElem?_eq_some_iff.1 hk).1
  have e : (way l b).getD ((k : Int).toNat) [] = p := by simp only [Int.toNat_natCast, List.getD, hk, Option.getD_some]
  unfold zcp; simp only; rw [if_neg (by omega), if_neg (by omega), if_neg (by omega), if_pos h, e, if_pos ha]
theorem pk_spoil {l : Lane} {kind : Int} {k j : Nat} {b : Bool} {p : List UInt8} (hk : (way l b)[k]? = some p) (h : kind = 6) (ha : j < p.length) : zcp l kind k j b = (withP l b ((way l b).set k (spoilAt p j)), 0) := by
  have := (List.getElem?_eq_some_iff.1 hk).1
  have e : (way l b).getD ((k : Int).toNat) [] = p := by simp only [Int.toNat_natCast, List.getD, hk, Option.getD_some]
  unfold zcp; simp only; rw [if_neg (by omega), if_neg (by omega), if_neg (by omega), if_pos h, e, if_neg (by omega)]; rfl
theorem pk_come {l : Lane} {kind a : Int} {k : Nat} {b : Bool} (hk : k < (way l b).length) (h4 : ¬ kind = 4) (h5 : ¬ kind = 5) (h6 : ¬ kind = 6) : zcp l kind k a b = (comes l k b, 0) := by
  unfold zcp; simp only; rw [if_neg (by omega), if_neg h4, if_neg h5, if_neg h6]; rfl
theorem cm_bad {l : Lane} {k : Nat} {b : Bool} {p : List UInt8} (hk : (way l b)[k]? = some p) (h : ¬ (read p).2 = 0) : comes l k b = withP l b ((way l b).eraseIdx k) := by
  have e : (way l b).getD k [] = p := by simp only [List.getD, hk, Option.getD_some]
  unfold comes; simp only; rw [e, if_pos h]
theorem cm_back {l : Lane} {k : Nat} {p : List UInt8} (hk : (way l true)[k]? = some p) (h : (read p).2 = 0) : comes l k true = ⟨hear l.s (read p).1, l.r, l.there, l.back.eraseIdx k⟩ := by
  have e : (way l true).getD k [] = p := by simp only [List.getD, hk, Option.getD_some]
  unfold comes; simp only; rw [e, if_neg (by omega), if_pos tv]; rfl
theorem cm_there {l : Lane} {k : Nat} {p : List UInt8} (hk : (way l false)[k]? = some p) (h : (read p).2 = 0) : comes l k false = ⟨l.s, rhear l.r (read p).1, l.there.eraseIdx k, l.back⟩ := by
  have e : (way l false).getD k [] = p := by simp only [List.getD, hk, Option.getD_some]
  unfold comes; simp only; rw [e, if_neg (by omega), if_neg (by decide)]; rfl
theorem lane_eq (l m : Lane) : (l == m) = (l.s == m.s && (l.r == m.r && (l.there == m.there && l.back == m.back))) := by
  rw [Bool.eq_iff_iff]; cases l; cases m; simp
end Go.Proofs.Ytaadloihphpdbaa
