/- What comes in: bytes, as the walks see them. -/
import Derived.Test.YtaadloihphpdbaaVcLaw
import Derived.Test.YtaadloihphpdbaaVcBytes
import Derived.SizedLaws
set_option linter.unusedVariables false
namespace Go.Proofs.Ytaadloihphpdbaa
open Go Go.Vc Go.RowKit Go.ChangeShapes Go.WideShapes Go.ChangeAt

theorem shape_lt {w : World} {b : Nat} {x : TypeId × Nat} (h : w.shape? b = some x) : b < w.heap.size := by
  rcases Nat.lt_or_ge b w.heap.size with h1 | h1
  · exact h1
  · rw [World.shape?] at h
    rw [Array.getElem?_eq_none h1] at h
    cases h

theorem wfB {n : Int} (h : (Lit.int .u8 n).wf = true) : 0 ≤ n ∧ n ≤ 255 := by
  have h2 : (decide (IntKind.min .u8 ≤ n) && decide (n ≤ IntKind.max .u8)) = true := h
  have := (Bool.and_eq_true _ _).mp h2
  have := And.intro (of_decide_eq_true this.1) (of_decide_eq_true this.2)
  have e1 : IntKind.min .u8 = 0 := by decide
  have e2 : IntKind.max .u8 = 255 := by decide
  rw [e1, e2] at this; exact this

theorem lits_len {H : Type} (k : IntKind) (l : List Int) : (lits (H := H) k l).length = l.length := by simp [lits]

set_option maxRecDepth 100000 in
theorem open_bytesAV {H : Type} {enc : TypeId × Value → H} {W : World} {base : Nat} {v : Value} {d : DataW H} {p : List MemPlace} (hval : Value.okWide Try.prog W .any base 46 v) (h : DataW.Trod enc Try.prog W 0 (fun _ => true) true 46 v d p)
    (hz : ∀ elems spare, d = .slice elems spare → (elems.length + spare.length) * Try.prog.bytesOf 5 ≤ reachBytes) :
    ∃ bs : List UInt8, VRep (SW W) (fun _ => none) W (.shr 1 (byteCells bs)) v ∧ bs.length ≤ 140737488351232 := by
  have hv := hval
  obtain ⟨a, len, cap, rfl⟩ := okWide_slice Try.underlying46 hval
  obtain ⟨fuel, hf⟩ := h
  rcases open_ints Try.underlying46 Try.underlying5 (by kernel_rfl) hf with ⟨hcs, _⟩ | ⟨x, l, c, zs, hcs, _, hl, hm, hzl, hx, hcell, hwz⟩
  · simp [Value.cells] at hcs
    obtain ⟨rfl, rfl, rfl⟩ := hcs
    exact ⟨[], .pure _ _ (.nil 1), Nat.zero_le _⟩
  · simp [Value.cells] at hcs
    obtain ⟨rfl, rfl, rfl⟩ := hcs
    simp only [if_true] at hzl
    have hh : W.has Try.prog .any base x 5 cap := by
      simp only [Value.okWide, Try.underlying46, Cell.okWide, Cell.ok] at hv
      exact hv.2.2
    obtain ⟨_, hspot, row, cells, hsh, _⟩ := hh
    have hlt := shape_lt hsh
    obtain ⟨b, off, spot⟩ := x
    have hspot' : spot = none := hspot
    subst hspot'
    have hd : d = .slice (lits .u8 (zs.take len)) (lits .u8 (zs.drop len)) := by
      have := congrArg Prod.fst hx; exact this
    have hsize := hz _ _ hd
    rw [lits_len, lits_len, List.length_take, List.length_drop, show Try.prog.bytesOf 5 = 1 by kernel_rfl, show reachBytes = 140737488351232 from rfl] at hsize
    have hlen : ((zs.take len).map fun n => UInt8.ofNat n.toNat).length = len := by simp; omega
    have hle : len ≤ 140737488351232 := by omega
    refine ⟨(zs.take len).map fun n => UInt8.ofNat n.toNat, .pure _ _ ?_, by omega⟩
    have hbl : (byteCells ((zs.take len).map fun n => UInt8.ofNat n.toNat)).length = len := by rw [byteCells_length, hlen]
    have hin : ∀ n ∈ zs, 0 ≤ n ∧ n ≤ 255 := by
      intro n hn
      have h2 : (decide (IntKind.min .u8 ≤ n) && decide (n ≤ IntKind.max .u8)) = true := hwz n hn
      have := (Bool.and_eq_true _ _).mp h2
      have h3 := And.intro (of_decide_eq_true this.1) (of_decide_eq_true this.2)
      have e1 : IntKind.min .u8 = 0 := by decide
      have e2 : IntKind.max .u8 = 255 := by decide
      rw [e1, e2] at h3; exact h3
    have key : ∀ (i : Nat) (y : List AV) (j : Nat) (c : AV), (byteCells ((zs.take len).map fun n => UInt8.ofNat n.toNat))[i]? = some y → y[j]? = some c → j = 0 ∧ i < len ∧ c = .lit (.int .u8 (zs.getD i 0)) := by
      intro i y j c hy hc
      simp only [byteCells, List.map_map, List.getElem?_map, Option.map_eq_some_iff] at hy
      obtain ⟨n, hn, rfl⟩ := hy
      have hj : j = 0 := by
        cases j with
        | zero => rfl
        | succ j => simp at hc
      subst hj
      simp only [Function.comp_def, List.getElem?_cons_zero, Option.some.injEq] at hc
      obtain ⟨hi1, hi2⟩ := List.getElem?_eq_some_iff.1 hn
      rw [List.length_take] at hi1
      rw [List.getElem_take] at hi2
      have hmem : n ∈ zs := by rw [← hi2]; exact List.getElem_mem _
      have hr := hin n hmem
      refine ⟨rfl, by omega, ?_⟩
      rw [← hc, List.getD_eq_getElem?_getD, List.getElem?_eq_getElem (by omega), Option.getD_some, hi2]
      congr 2
      have h256 : n.toNat < 256 := by omega
      rw [UInt8.toNat_ofNat_of_lt' (by simpa using h256)]
      omega
    have hp := PRep.shr (S := SW W) (w := W) 1 (byteCells ((zs.take len).map fun n => UInt8.ofNat n.toNat)) b off cap (fun i _ => .int .u8 (zs.getD i 0)) hlt (by rw [hbl]; exact hl) (by rw [hbl]; unfold maxSl; omega)
      (fun i y hy => by simp only [byteCells, List.getElem?_map, Option.map_eq_some_iff] at hy; obtain ⟨n, _, rfl⟩ := hy; rfl)
      (fun i y j c hy hc => by
        obtain ⟨rfl, hi, rfl⟩ := key i y j c hy hc
        have := hcell i (by omega)
        rw [Addr.add_lit] at this
        rw [Nat.mul_one, Nat.add_zero]; exact this)
      (fun i y j c hy hc => by
        obtain ⟨rfl, hi, rfl⟩ := key i y j c hy hc
        exact .lit _ rfl)
    rw [hbl] at hp
    exact hp
end Go.Proofs.Ytaadloihphpdbaa
