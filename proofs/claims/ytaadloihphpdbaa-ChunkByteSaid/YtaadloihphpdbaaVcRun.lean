/- What each operation of the model does to concrete values, as one equation each. -/
import Derived.Test.YtaadloihphpdbaaVcSim
set_option linter.unusedSimpArgs false
namespace Go.Vc
open Go Go.RowKit

inductive TK where
  | int (k : IntKind) | bool | str
  | struct (fs : List (Nat × TypeId))
  | arr (n : Nat) (e : TypeId)
  | slice (e : TypeId)
  | ptr (e : TypeId)
  | map (k e : TypeId)
  | fn
  | other

def TK.agg : TK → Bool
  | .struct _ | .arr _ _ => true
  | _ => false

/-- A small table of the types that occur. -/
structure Tab where
  kind : TypeId → TK
  size : TypeId → Nat
  bytes : TypeId → Nat
  zero : TypeId → List Value

def TK.ok (P : Program) (t : TypeId) : TK → Prop
  | .int k => P.underlying t = some (.int k)
  | .bool => P.underlying t = some .bool
  | .str => P.underlying t = some .string
  | .struct l => ∃ fs, P.underlying t = some (.struct fs) ∧ fs.toList.map (fun f => (f.offset, f.type)) = l
  | .arr n e => P.underlying t = some (.array n e)
  | .slice e => P.underlying t = some (.slice e)
  | .ptr e => P.underlying t = some (.pointer e)
  | .map k e => P.underlying t = some (.map k e)
  | .fn => ∃ a b c, P.underlying t = some (.func a b c)
  | .other => True

def TK.known : TK → Bool
  | .other => false
  | _ => true

def Tab.ok (T : Tab) (P : Program) : Prop :=
  ∀ t, (T.kind t).known = true → TK.ok P t (T.kind t) ∧ ∃ i z, P.info? t = some i ∧ i.size = T.size t ∧ i.bytes = T.bytes t ∧ i.zero = some z ∧ z.cells.toList = T.zero t ∧ (∀ x ∈ T.zero t, x.oneCell' = true) ∧
    ((T.kind t).agg = false → ∃ v, T.zero t = [v]) ∧ (T.zero t).length = T.size t

section
variable {T : Tab} {P : Program} (hT : T.ok P) (w : World)
include hT

theorem run_sizeOf {t : TypeId} (h : (T.kind t).known = true) : (sizeOf t).run P w = .ok (T.size t) w := by
  obtain ⟨_, i, z, hi, hs, _⟩ := hT t h
  simp [sizeOf, typeInfo, hi, hs]

theorem run_zeroValue {t : TypeId} (h : (T.kind t).known = true) : ∃ z : Value, (zeroValue t).run P w = .ok z w ∧ z.cells.toList = T.zero t := by
  obtain ⟨_, i, z, hi, hs, _, hz, hc, _⟩ := hT t h
  exact ⟨z, by simp [zeroValue, typeInfo, hi, hz], hc⟩

theorem underlying_slice {t e : TypeId} (h : T.kind t = .slice e) : P.underlying t = some (.slice e) := by
  have := (hT t (by rw [h]; rfl)).1
  rw [h] at this; exact this
theorem underlying_arr {t e : TypeId} {n : Nat} (h : T.kind t = .arr n e) : P.underlying t = some (.array n e) := by
  have := (hT t (by rw [h]; rfl)).1
  rw [h] at this; exact this
theorem underlying_int {t : TypeId} {k : IntKind} (h : T.kind t = .int k) : P.underlying t = some (.int k) := by
  have := (hT t (by rw [h]; rfl)).1
  rw [h] at this; exact this
theorem underlying_bool {t : TypeId} (h : T.kind t = .bool) : P.underlying t = some .bool := by
  have := (hT t (by rw [h]; rfl)).1
  rw [h] at this; exact this
theorem underlying_str {t : TypeId} (h : T.kind t = .str) : P.underlying t = some .string := by
  have := (hT t (by rw [h]; rfl)).1
  rw [h] at this; exact this
theorem underlying_struct {t : TypeId} {l : List (Nat × TypeId)} (h : T.kind t = .struct l) : ∃ fs, P.underlying t = some (.struct fs) ∧ fs.toList.map (fun f => (f.offset, f.type)) = l := by
  have := (hT t (by rw [h]; rfl)).1
  rw [h] at this; exact this

theorem run_isAgg {t : TypeId} (h : (T.kind t).known = true) : (isAgg t).run P w = .ok (T.kind t).agg w := by
  have := (hT t h).1
  cases hk : T.kind t with
  | other => rw [hk] at h; cases h
  | struct l => rw [hk] at this; obtain ⟨fs, hu, _⟩ := this; simp [isAgg, run_underlying hu, TK.agg]
  | fn => rw [hk] at this; obtain ⟨a, b, c, hu⟩ := this; simp [isAgg, run_underlying hu, TK.agg]
  | _ => rw [hk] at this; have hu := this; simp [isAgg, run_underlying hu, TK.agg]

end

theorem toList_getElem? (a : Array Value) (j : Nat) : a.toList[j]? = a[j]? := by simp

section
variable {T : Tab} {P : Program} (hT : T.ok P) (w : World)

theorem add_none (b o n : Nat) : Addr.add ⟨b, o, none⟩ n = ⟨b, o + n, none⟩ := Addr.add_lit b o n

/-- Cells read: one. -/
theorem run_load1 (hT : T.ok P) {t : TypeId} (h : (T.kind t).known = true) (ha : (T.kind t).agg = false) (b o : Nat) (v : Value) (hc : w.cell? ⟨b, o, none⟩ = some v) :
    (Instr.loadAt t (.pointer (some ⟨b, o, none⟩))).run P w = .ok v w := by
  simp [Instr.loadAt, Instr.sureAddr, loadVar, run_isAgg hT w h, ha, hc]

/-- Cells read: a struct, an array. -/
theorem run_loadN (hT : T.ok P) {t : TypeId} (h : (T.kind t).known = true) (ha : (T.kind t).agg = true) (b o : Nat) (vs : List Value) (hl : vs.length = T.size t)
    (hc : ∀ (j : Nat) (v : Value), vs[j]? = some v → w.cell? ⟨b, o + j, none⟩ = some v) :
    (Instr.loadAt t (.pointer (some ⟨b, o, none⟩))).run P w = .ok (.agg vs.toArray) w := by
  have hL := run_loadCells_list (P := P) w ⟨b, o, none⟩ vs (fun j v hj => by rw [add_none]; exact hc j v hj)
  rw [hl] at hL
  simp [Instr.loadAt, Instr.sureAddr, loadVar, run_isAgg hT w h, ha, run_sizeOf hT w h, hL]

/-- Cells written. -/
theorem run_storeN (hT : T.ok P) {t : TypeId} (h : (T.kind t).known = true) (b o : Nat) (x : Value) (cur : Array Value) (e : TypeId) (hl : x.cells.size = T.size t)
    (hg : w.heap[b]? = some (.cells cur e (0, 0))) (hb : o + x.cells.size ≤ cur.size) (h1 : ∀ v ∈ x.cells.toList, v.oneCell' = true) :
    (Instr.storeAt t (.pointer (some ⟨b, o, none⟩)) x).run P w = .ok () (w.setRow b (cur.toList.take o ++ x.cells.toList ++ cur.toList.drop (o + x.cells.size)).toArray) := by
  have hs := run_storeCells_at P b o e x.cells.toList 0 cur w hg (by simpa using hb) h1
  simp only [Nat.add_zero, Array.length_toList] at hs
  simp [Instr.storeAt, Instr.sureAddr, storeVar, run_sizeOf hT w h, hl, hs]

theorem Fr_setRow (w : World) (b : Nat) (cs : Array Value) : Fr (fun c => c = b) w (w.setRow b cs) :=
  ⟨rfl, rfl, rfl, by simp, fun c _ hc => setRow_other w b c cs hc⟩
end
end Go.Vc
