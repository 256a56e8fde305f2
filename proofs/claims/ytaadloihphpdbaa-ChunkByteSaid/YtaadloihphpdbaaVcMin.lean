/- The built-in functions min and max of two ints. -/
import Derived.Test.YtaadloihphpdbaaVcAid2
set_option linter.unusedVariables false
namespace Go.Vc
open Go Go.RowKit

section
variable {G : Prg} {Γ : Ctx} {E : Env} {dst : Option Tmp} {ty : TypeId} {pos : String} {aft : Array Edge} {gd : Option (Nat × Bool)}
theorem op_min {t t' : TypeId} {x y : Operand} {k : IntKind} {m n : Int} (hx : evo (look E.sl) x = some (.lit (.int k m))) (hy : evo (look E.sl) y = some (.lit (.int k n))) (hd : ∀ d, dst = some d → d < E.n) :
    OpS G Γ ⟨dst, .call { callee := .builtin .min, args := #[x, y], argTypes := #[t, t'] }, ty, pos, aft, gd⟩ E (.lit (.int k (if n < m then n else m))) [] (sl1 x ++ sl1 y) [] :=
  OpS.val hd fun E' hn h1 h2 S O β a w hs => by
    have hxe := hs.lit ((evo_congr fun t ht => h1 t (by simp [ht])).trans hx)
    have hye := hs.lit ((evo_congr fun t ht => h1 t (by simp [ht])).trans hy)
    refine ⟨.int k (if n < m then n else m), ?_, .pure _ _ (.lit _ rfl)⟩
    by_cases h : n < m <;> simp [execOp, resolve, invoke, builtin, hxe, hye, Builtin.min_, Builtin.min2, h]
theorem op_max {t t' : TypeId} {x y : Operand} {k : IntKind} {m n : Int} (hx : evo (look E.sl) x = some (.lit (.int k m))) (hy : evo (look E.sl) y = some (.lit (.int k n))) (hd : ∀ d, dst = some d → d < E.n) :
    OpS G Γ ⟨dst, .call { callee := .builtin .max, args := #[x, y], argTypes := #[t, t'] }, ty, pos, aft, gd⟩ E (.lit (.int k (if m < n then n else m))) [] (sl1 x ++ sl1 y) [] :=
  OpS.val hd fun E' hn h1 h2 S O β a w hs => by
    have hxe := hs.lit ((evo_congr fun t ht => h1 t (by simp [ht])).trans hx)
    have hye := hs.lit ((evo_congr fun t ht => h1 t (by simp [ht])).trans hy)
    refine ⟨.int k (if m < n then n else m), ?_, .pure _ _ (.lit _ rfl)⟩
    by_cases h : m < n <;> simp [execOp, resolve, invoke, builtin, hxe, hye, Builtin.max_, Builtin.max2, h]
end

section
variable {G : Prg} {Γ : Ctx} {ops : Array Oper} {fin : List Lg → Prop} {K : Env → Prop} {os : List Oper} {log : List Lg} {sl : List (Nat × AV)} {ob : List (Nat × AO)} {nn : Nat} {d : Nat} {ty : TypeId} {pos : String} {aft : Array Edge} {gd : Option (Nat × Bool)}
variable {t t' : TypeId} {x y : Operand} {k : IntKind} {m n : Int}
theorem u_min (hx : evo (look sl) x = some (.lit (.int k m))) (hy : evo (look sl) y = some (.lit (.int k n))) (hd : Nat.blt d nn = true) (hg : GOk ops sl nn gd)
    (kk' : VR G Γ ops fin K os (log ++ [⟨some d, gsl ops gd ++ (sl1 x ++ sl1 y), [], []⟩]) ⟨(d, .lit (.int k (if n < m then n else m))) :: sl, ob, nn⟩) :
    VR G Γ ops fin K (⟨some d, .call { callee := .builtin .min, args := #[x, y], argTypes := #[t, t'] }, ty, pos, aft, gd⟩ :: os) log ⟨sl, ob, nn⟩ :=
  u_op (op_min (G := G) (Γ := Γ) (E := ⟨sl, ob, nn⟩) (dst := some d) (ty := ty) (pos := pos) (aft := aft) (gd := gd) hx hy (dlt hd)) hg kk'
theorem u_max (hx : evo (look sl) x = some (.lit (.int k m))) (hy : evo (look sl) y = some (.lit (.int k n))) (hd : Nat.blt d nn = true) (hg : GOk ops sl nn gd)
    (kk' : VR G Γ ops fin K os (log ++ [⟨some d, gsl ops gd ++ (sl1 x ++ sl1 y), [], []⟩]) ⟨(d, .lit (.int k (if m < n then n else m))) :: sl, ob, nn⟩) :
    VR G Γ ops fin K (⟨some d, .call { callee := .builtin .max, args := #[x, y], argTypes := #[t, t'] }, ty, pos, aft, gd⟩ :: os) log ⟨sl, ob, nn⟩ :=
  u_op (op_max (G := G) (Γ := Γ) (E := ⟨sl, ob, nn⟩) (dst := some d) (ty := ty) (pos := pos) (aft := aft) (gd := gd) hx hy (dlt hd)) hg kk'
end
end Go.Vc
