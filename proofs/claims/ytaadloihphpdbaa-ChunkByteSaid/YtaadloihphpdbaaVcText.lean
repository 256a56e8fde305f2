/- Texts as bytes. -/
import Derived.Lib.ConvBytes
import Derived.Test.YtaadloihphpdbaaVcEnd
set_option linter.unusedVariables false
set_option linter.unusedSimpArgs false
namespace Go.Vc
open Go Go.RowKit

section
variable {G : Prg} {Γ : Ctx} {E : Env} {dst : Option Tmp} {ty : TypeId} {pos : String} {aft : Array Edge} {gd : Option (Nat × Bool)}
theorem op_convTB {s t e : TypeId} {x : Operand} {bs : List UInt8} (hx : evo (look E.sl) x = some (.lit (.string ⟨bs.toArray⟩))) (hs' : G.T.kind s = .str) (ht : G.T.kind t = .slice e) (he : G.T.kind e = .int .u8) (hl : bs.length ≤ 140737488355328) (hd : ∀ d, dst = some d → d < E.n) :
    OpS G Γ ⟨dst, .convert s t x, ty, pos, aft, gd⟩ E (.shr 1 (byteCells bs)) [] (sl1 x) [] :=
  OpS.turns hd fun E' hn h1 h2 S O β a w hs => by
    have hxe := hs.lit ((evo_congr h1).trans hx)
    have hrun := Lib.run_convert_string_bytes (P := G.P) w s t e ⟨bs.toArray⟩ (underlying_str G.ok hs') (underlying_slice G.ok ht) (underlying_int G.ok he)
    have hsz : (ByteArray.mk bs.toArray).size = bs.length := by simp [ByteArray.size]
    rw [hsz] at hrun
    have hfr : Fr (fun _ => False) w (Lib.bytesWorld w e ⟨bs.toArray⟩) := by
      refine ⟨?_, ?_, ?_, by rw [Lib.bytesWorld_size]; omega, fun b hb _ => Lib.bytesWorld_at_old w e _ b hb⟩
      all_goals simp [Lib.bytesWorld, World.freeze, World.alloc, World.drew, -World.alloc_eq, -World.drew_eq]
    have hg := hs.grow (S' := fun b => S b ∨ b = w.heap.size) hfr (fun b hb => .inl hb) (fun b hb => by
      rw [Lib.bytesWorld_size]
      rcases hb with hb | rfl
      · exact ⟨.inl hb, by have := hs.h.sh b hb; omega⟩
      · exact ⟨.inr (Nat.le_refl _), by omega⟩)
    refine ⟨_, _, _, O, β, .inl (by simp only [execOp, hxe, Sem.run_bind, hrun, Result.andThen_ok]; rfl), ?_, hg⟩
    refine .pure _ _ ?_
    have hbl : (byteCells bs).length = bs.length := byteCells_length bs
    have key : ∀ (i : Nat) (y : List AV) (j : Nat) (c : AV), (byteCells bs)[i]? = some y → y[j]? = some c → j = 0 ∧ i < bs.length ∧ c = .lit (.int .u8 ((bs.getD i 0).toNat : Int)) := by
      intro i y j c hy hc
      simp only [byteCells, List.getElem?_map, Option.map_eq_some_iff] at hy
      obtain ⟨n, hn, rfl⟩ := hy
      have hj : j = 0 := by
        cases j with
        | zero => rfl
        | succ j => simp at hc
      subst hj
      simp only [List.getElem?_cons_zero, Option.some.injEq] at hc
      refine ⟨rfl, (List.getElem?_eq_some_iff.1 hn).1, ?_⟩
      rw [← hc]; simp [List.getD, hn]
    have hge := grownCap_ge w bs.length 0 e
    have hp := PRep.shr (S := fun b => S b ∨ b = w.heap.size) (w := Lib.bytesWorld w e ⟨bs.toArray⟩) 1 (byteCells bs) w.heap.size 0 (grownCap w bs.length 0 e) (fun i _ => .int .u8 ((bs.getD i 0).toNat : Int)) (.inr rfl) (by rw [hbl]; simpa using hge) (by rw [hbl]; simpa [maxSl] using hl)
      (fun i y hy => by simp only [byteCells, List.getElem?_map, Option.map_eq_some_iff] at hy; obtain ⟨n, _, rfl⟩ := hy; rfl)
      (fun i y j c hy hc => by
        obtain ⟨rfl, hi, rfl⟩ := key i y j c hy hc
        have := Lib.bytesWorld_cell w e ⟨bs.toArray⟩ i (by rw [hsz]; exact hi)
        rw [Nat.zero_add, Nat.mul_one, Nat.add_zero]; simpa using this)
      (fun i y j c hy hc => by
        obtain ⟨rfl, hi, rfl⟩ := key i y j c hy hc
        exact .lit _ rfl)
    rw [hbl] at hp
    exact hp
end

section
variable {G : Prg} {Γ : Ctx} {ops : Array Oper} {fin : List Lg → Prop} {K : Env → Prop} {os : List Oper} {log : List Lg} {sl : List (Nat × AV)} {ob : List (Nat × AO)} {nn : Nat} {d : Nat} {ty : TypeId} {pos : String} {aft : Array Edge} {gd : Option (Nat × Bool)}
theorem u_convTB {s t e : TypeId} {x : Operand} {v : ByteArray} {bs : List UInt8} (hx : evo (look sl) x = some (.lit (.string v))) (hv : v = ⟨bs.toArray⟩) (hs' : G.T.kind s = .str) (ht : G.T.kind t = .slice e) (he : G.T.kind e = .int .u8) (hl : bs.length ≤ 140737488355328) (hd : Nat.blt d nn = true) (hg : GOk ops sl nn gd)
    (kk' : VR G Γ ops fin K os (log ++ [⟨some d, gsl ops gd ++ (sl1 x), [], []⟩]) ⟨(d, .shr 1 (byteCells bs)) :: sl, ob, nn⟩) : VR G Γ ops fin K (⟨some d, .convert s t x, ty, pos, aft, gd⟩ :: os) log ⟨sl, ob, nn⟩ := by
  subst hv
  exact u_op (op_convTB (G := G) (Γ := Γ) (E := ⟨sl, ob, nn⟩) (dst := some d) (ty := ty) (pos := pos) (aft := aft) (gd := gd) hx hs' ht he hl (dlt hd)) hg kk'
end

theorem text_app (a b : List UInt8) : (⟨a.toArray⟩ : ByteArray) ++ ⟨b.toArray⟩ = ⟨(a ++ b).toArray⟩ := by
  apply ByteArray.ext
  simp
theorem text_size (a : List UInt8) : (⟨a.toArray⟩ : ByteArray).size = a.length := by simp [ByteArray.size]
end Go.Vc
