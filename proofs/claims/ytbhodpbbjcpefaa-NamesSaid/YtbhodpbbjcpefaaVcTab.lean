/- The table of the types that occur, and that it is right. -/
import Derived.Test.YtbhodpbbjcpefaaVcB
import Derived.Test.YtbhodpbbjcpefaaProg
set_option linter.unusedVariables false
namespace Go.Proofs.Ytbhodpbbjcpefaa
open Go Go.Vc
def kinds : List (Nat × TK) := [(3, .int .i64), (4, .bool), (22, .int .i64), (23, .slice 22), (24, .slice 3)]
def sizes : List (Nat × Nat) := [(3, 1), (4, 1), (22, 1), (23, 1), (24, 1)]
def bytesL : List (Nat × Nat) := [(3, 8), (4, 1), (22, 8), (23, 24), (24, 24)]
def zeros : List (Nat × List Value) := [(3, [.int .i64 0]), (4, [.bool false]), (22, [.int .i64 0]), (23, [.slice none 0 0]), (24, [.slice none 0 0])]
def tab : Tab := { kind := fun t => (Vc.look kinds t).getD .other, size := fun t => (Vc.look sizes t).getD 0, bytes := fun t => (Vc.look bytesL t).getD 0, zero := fun t => (Vc.look zeros t).getD [] }
def TabAt (t : Nat) : Prop := TK.ok Try.prog t (tab.kind t) ∧ ∃ i z, Try.prog.info? t = some i ∧ i.size = tab.size t ∧ i.bytes = tab.bytes t ∧ i.zero = some z ∧ z.cells.toList = tab.zero t ∧ (∀ x ∈ tab.zero t, x.oneCell' = true) ∧ ((tab.kind t).agg = false → ∃ v, tab.zero t = [v]) ∧ (tab.zero t).length = tab.size t
theorem all_one {l : List Value} (h : (l.all fun x => x.oneCell') = true) : ∀ x ∈ l, x.oneCell' = true := fun x hx => List.all_eq_true.1 h x hx
theorem tab3 : TabAt 3 := ⟨Try.underlying3, Try.t3, .int .i64 0, by kernel_rfl, by kernel_rfl, by kernel_rfl, by kernel_rfl, rfl, all_one rfl, fun _ => ⟨_, rfl⟩, rfl⟩
theorem tab4 : TabAt 4 := ⟨Try.underlying4, Try.t4, .bool false, by kernel_rfl, by kernel_rfl, by kernel_rfl, by kernel_rfl, rfl, all_one rfl, fun _ => ⟨_, rfl⟩, rfl⟩
theorem tab22 : TabAt 22 := ⟨Try.underlying22, Try.t22, .int .i64 0, by kernel_rfl, by kernel_rfl, by kernel_rfl, by kernel_rfl, rfl, all_one rfl, fun _ => ⟨_, rfl⟩, rfl⟩
theorem tab23 : TabAt 23 := ⟨Try.underlying23, Try.t23, .slice none 0 0, by kernel_rfl, by kernel_rfl, by kernel_rfl, by kernel_rfl, rfl, all_one rfl, fun _ => ⟨_, rfl⟩, rfl⟩
theorem tab24 : TabAt 24 := ⟨Try.underlying24, Try.t24, .slice none 0 0, by kernel_rfl, by kernel_rfl, by kernel_rfl, by kernel_rfl, rfl, all_one rfl, fun _ => ⟨_, rfl⟩, rfl⟩
theorem look_mem {α : Type} : ∀ (l : List (Nat × α)) (k : Nat) (v : α), Vc.look l k = some v → k ∈ l.map (·.1)
  | [], k, v, h => by simp [Vc.look] at h
  | p :: l, k, v, h => by
    rw [look_cons] at h
    by_cases he : p.1 = k
    · simp [he]
    · rw [if_neg he] at h
      have := look_mem l k v h
      simp only [List.map_cons, List.mem_cons]; exact .inr this
theorem tab_ok : tab.ok Try.prog := by
  intro t ht
  have hk : t ∈ kinds.map (·.1) := by
    cases h : Vc.look kinds t with
    | none =>
      have : tab.kind t = .other := by show (Vc.look kinds t).getD .other = _; rw [h]; rfl
      rw [this] at ht; cases ht
    | some k => exact look_mem kinds t k h
  simp only [kinds, List.map_cons, List.map_nil, List.mem_cons, List.not_mem_nil, or_false] at hk
  rcases hk with rfl | rfl | rfl | rfl | rfl
  · exact tab3
  · exact tab4
  · exact tab22
  · exact tab23
  · exact tab24
theorem mixed : Try.prog.follows .mixedOrders = true := by kernel_rfl
/-- The program. -/
noncomputable def G : Prg := ⟨Try.prog, tab, tab_ok, mixed⟩
end Go.Proofs.Ytbhodpbbjcpefaa
