/- What the walks of lanes need. Printed by a small program (walk.py). -/
import Derived.Test.YtaadloihphpdbaaUWRecv3
import Derived.Test.YtaadloihphpdbaaUWSendH
import Derived.Test.YtaadloihphpdbaaUPRound
import Derived.Test.YtaadloihphpdbaaUVcH
set_option linter.unusedVariables false
set_option linter.unusedSimpArgs false
set_option maxRecDepth 4000
namespace Go.Proofs.Ytaadloihphpdbaa
open Go Go.Vc Go.RowKit
theorem zde {P : zcf} {k : Nat} {p : List UInt8} (h : P[k]? = some p) : (zat P)[k]? = some [.shr 1 (Vc.byteCells p)] := by simp [zat, h]
theorem zcj {l : List Lane} {k : Nat} {x : Lane} (h : l[k]? = some x) : (zca l)[k]? = some (zee x) := by simp [zca, h]
theorem stepCells_get' {l : List Step} {k : Nat} {x : Step} (h : l[k]? = some x) : (stepCells l)[k]? = some (stepAV x) := by simp [stepCells, h]
theorem erase_packs {P : zcf} {k : Nat} : zat (P.eraseIdx k) = (zat P).take k ++ (zat P).drop (k + 1) := by
  unfold zat; rw [List.eraseIdx_eq_take_drop_succ, List.map_append, List.map_take, List.map_drop]
theorem packs_isP {P : zcf} : ∀ x ∈ zat P, ∀ c ∈ x, isP c = true := by
  intro x hx c hc
  obtain ⟨b, _, rfl⟩ := List.mem_map.1 hx
  rw [List.mem_singleton.1 hc]; rfl
theorem packs_refl {ob ob' : List (Nat × AO)} {ρ : Nat → Option Nat} {fz : Nat → Prop} : ∀ (P : zcf), F2 (F2 (Vc.Sub ob ob' ρ fz)) (zat P) (zat P)
  | [] => .nil
  | p :: P => .cons (.cons (.shr _ _) .nil) (packs_refl P)
theorem packs_sub {ob ob' : List (Nat × AO)} {ρ : Nat → Option Nat} {fz : Nat → Prop} {q : List UInt8} {c : AV} (hs : Vc.Sub ob ob' ρ fz (.shr 1 (Vc.byteCells q)) c) : ∀ (P : zcf) (k : Nat), F2 (F2 (Vc.Sub ob ob' ρ fz)) (zat (P.set k q)) ((zat P).set k [c])
  | [], k => .nil
  | p :: P, 0 => .cons (.cons hs .nil) (packs_refl P)
  | p :: P, k + 1 => .cons (.cons (.shr _ _) .nil) (packs_sub hs P k)
theorem zea {ob ob' : List (Nat × AO)} {ρ : Nat → Option Nat} {fz : Nat → Prop} {c c' : AV} (hs : Vc.Sub ob ob' ρ fz c' c) : ∀ (P : zcf) (k : Nat), F2 (F2 (Vc.Sub ob ob' ρ fz)) ((zat P).set k [c']) ((zat P).set k [c])
  | [], k => .nil
  | p :: P, 0 => .cons (.cons hs .nil) (packs_refl P)
  | p :: P, k + 1 => .cons (.cons (.shr _ _) .nil) (zea hs P k)
theorem spoil_is {p : List UInt8} {j : Nat} {b : UInt8} (h : p[j]? = some b) : spoilAt p j = p.set j (flip1 b) := by
  unfold spoilAt; rw [List.getD, h]; rfl
theorem byteCells_get' {p : List UInt8} {j : Nat} {b : UInt8} (h : p[j]? = some b) : (Vc.byteCells p)[j]? = some [.lit (.int .u8 b.toNat)] := by simp [Vc.byteCells, h]
theorem putP_full {P : zcf} {b : List UInt8} (h : 5 < P.length) : putP P b = P := by unfold putP; rw [if_pos h]
theorem putP_room {P : zcf} {b : List UInt8} (h : ¬ 5 < P.length) : putP P b = P ++ [b] := by unfold putP; rw [if_neg h]
theorem said_len {s : Sender} (hs : SInv s) : (say s).2.1.data.length ≤ 6 ∧ (say s).2.1.early.length ≤ 3 ∧ ((say s).2.1.kind = 1 → (say s).2.1.early = []) := by
  cases ho : (say s).2.2 with
  | false => rw [(said_not hs ho).2.2]; simp [zfj]
  | true =>
    obtain ⟨hn, ⟨hk, h39, hp, he, hs, hd⟩ | ⟨hk, hs, hp, hd, hl, hr⟩⟩ := wrong_ok (say_right hs ho).1
    · rw [he]; exact ⟨hd, by simp, fun _ => rfl⟩
    · rw [hd]; exact ⟨by simp, hl, fun e => by omega⟩
theorem rsaid_len {r : Receiver} (hr : RInv r) : (rsay r).2.1.data.length ≤ 6 ∧ (rsay r).2.1.early.length ≤ 3 ∧ ((rsay r).2.1.kind = 1 → (rsay r).2.1.early = []) := by
  unfold rsay
  split
  · exact ⟨by simp, hr.el, fun e => by simp at e⟩
  · simp [zfj]
theorem speak_is {l : Lane} {a b : Bool} (ha : (say l.s).2.2 = a) (hb : (rsay l.r).2.2 = b) : zec l = ⟨(say l.s).1, (rsay l.r).1, if a then putP l.there (bytes (say l.s).2.1) else l.there, if b then putP l.back (bytes (rsay l.r).2.1) else l.back⟩ := by unfold zec; rw [ha, hb]
theorem zes {l : Lane} {kind n a : Int} {b : Bool} (h : n < 0 ∨ ((way l b).length : Int) ≤ n) : zcz l kind n a b = (l, 6) := by unfold zcz; simp only; rw [if_pos h]
theorem pk_lose {l : Lane} {kind a : Int} {k : Nat} {b : Bool} (hk : k < (way l b).length) (h : kind = 4) : zcz l kind k a b = (withP l b ((way l b).eraseIdx k), 0) := by unfold zcz; simp only; rw [if_neg (by omega), if_pos h]; rfl
theorem pk_twice {l : Lane} {kind a : Int} {k : Nat} {b : Bool} {p : List UInt8} (hk : (way l b)[k]? = some p) (h : kind = 5) : zcz l kind k a b = (withP l b (putP (way l b) p), 0) := by
  have := (List.getElem?_eq_some_iff.1 hk).1
  unfold zcz; simp only; rw [if_neg (by omega), if_neg (by omega), if_pos h]
  rw [show (way l b).getD ((k : Int).toNat) [] = p by simp only [Int.toNat_natCast, List.getD, hk, Option.getD_some]]
theorem pk_range {l : Lane} {kind a : Int} {k : Nat} {b : Bool} {p : List UInt8} (hk : (way l b)[k]? = some p) (h : kind = 6) (ha : a < 0 ∨ (p.length : Int) ≤ a) : zcz l kind k a b = (l, 3) := by
  have := (List.getElem?_eq_some_iff.1 hk).1
  have e : (way l b).getD ((k : Int).toNat) [] = p := by simp only [Int.toNat_natCast, List.getD, hk, Option.getD_some]
  unfold zcz; simp only; rw [if_neg (by omega), if_neg (by omega), if_neg (by omega), if_pos h, e, if_pos ha]
theorem pk_spoil {l : Lane} {kind : Int} {k j : Nat} {b : Bool} {p : List UInt8} (hk : (way l b)[k]? = some p) (h : kind = 6) (ha : j < p.length) : zcz l kind k j b = (withP l b ((way l b).set k (spoilAt p j)), 0) := by
  have := (List.getElem?_eq_some_iff.1 hk).1
  have e : (way l b).getD ((k : Int).toNat) [] = p := by simp only [Int.toNat_natCast, List.getD, hk, Option.getD_some]
  unfold zcz; simp only; rw [if_neg (by omega), if_neg (by omega), if_neg (by omega), if_pos h, e, if_neg (by omega)]; rfl
theorem pk_come {l : Lane} {kind a : Int} {k : Nat} {b : Bool} (hk : k < (way l b).length) (h4 : ¬ kind = 4) (h5 : ¬ kind = 5) (h6 : ¬ kind = 6) : zcz l kind k a b = (zfp l k b, 0) := by
  unfold zcz; simp only; rw [if_neg (by omega), if_neg h4, if_neg h5, if_neg h6]; rfl
theorem cm_bad {l : Lane} {k : Nat} {b : Bool} {p : List UInt8} (hk : (way l b)[k]? = some p) (h : ¬ (read p).2 = 0) : zfp l k b = withP l b ((way l b).eraseIdx k) := by
  have e : (way l b).getD k [] = p := by simp only [List.getD, hk, Option.getD_some]
  unfold zfp; simp only; rw [e, if_pos h]
theorem cm_back {l : Lane} {k : Nat} {p : List UInt8} (hk : (way l true)[k]? = some p) (h : (read p).2 = 0) : zfp l k true = ⟨hear l.s (read p).1, l.r, l.there, l.back.eraseIdx k⟩ := by
  have e : (way l true).getD k [] = p := by simp only [List.getD, hk, Option.getD_some]
  unfold zfp; simp only; rw [e, if_neg (by omega), if_pos tv]; rfl
theorem cm_there {l : Lane} {k : Nat} {p : List UInt8} (hk : (way l false)[k]? = some p) (h : (read p).2 = 0) : zfp l k false = ⟨l.s, zfc l.r (read p).1, l.there.eraseIdx k, l.back⟩ := by
  have e : (way l false).getD k [] = p := by simp only [List.getD, hk, Option.getD_some]
  unfold zfp; simp only; rw [e, if_neg (by omega), if_neg (by decide)]; rfl
end Go.Proofs.Ytaadloihphpdbaa
