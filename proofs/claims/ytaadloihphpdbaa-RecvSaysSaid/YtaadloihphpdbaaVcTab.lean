/- The table of the types that occur, and that it is right. -/
import Derived.Test.YtaadloihphpdbaaVcB
import Derived.Test.YtaadloihphpdbaaProg
set_option linter.unusedVariables false
namespace Go.Proofs.Ytaadloihphpdbaa
open Go Go.Vc
def kinds : List (Nat × TK) := [(3, .int .i64), (4, .bool), (5, .int .u8), (9, .str), (21, .int .i32), (22, .slice 50), (23, .slice 39), (24, .struct [(0, 23), (1, 3)]), (25, .struct [(0, 23), (1, 3)]), (26, .slice 51), (29, .slice 48), (30, .arr 3 3), (31, .slice 77), (32, .struct [(0, 29), (1, 3), (2, 30), (5, 31), (6, 3)]), (33, .struct [(0, 29), (1, 3), (2, 30), (5, 31), (6, 3)]), (34, .slice 3), (35, .struct [(0, 3), (1, 34), (2, 30), (5, 31), (6, 29), (7, 4)]), (36, .struct [(0, 3), (1, 34), (2, 30), (5, 31), (6, 29), (7, 4)]), (37, .slice 46), (38, .struct [(0, 33), (7, 36), (15, 37), (16, 37)]), (39, .struct [(0, 33), (7, 36), (15, 37), (16, 37)]), (46, .slice 5), (47, .struct [(0, 3), (1, 46)]), (48, .struct [(0, 3), (1, 46)]), (49, .struct [(0, 3), (1, 3), (2, 3), (3, 3), (4, 4), (5, 48)]), (50, .struct [(0, 3), (1, 3), (2, 3), (3, 3), (4, 4), (5, 48)]), (51, .int .i64), (76, .struct [(0, 3), (1, 3), (2, 3), (3, 3), (4, 46), (5, 34)]), (77, .struct [(0, 3), (1, 3), (2, 3), (3, 3), (4, 46), (5, 34)]), (118, .map 3 4), (137, .slice 29), (139, .int .u64), (150, .slice 4), (154, .slice 9), (159, .ptr 36), (163, .ptr 37), (166, .ptr 39), (178, .int .u32)]
def sizes : List (Nat × Nat) := [(3, 1), (4, 1), (5, 1), (9, 1), (21, 1), (22, 1), (23, 1), (24, 2), (25, 2), (26, 1), (29, 1), (30, 3), (31, 1), (32, 7), (33, 7), (34, 1), (35, 8), (36, 8), (37, 1), (38, 17), (39, 17), (46, 1), (47, 2), (48, 2), (49, 7), (50, 7), (51, 1), (76, 6), (77, 6), (118, 1), (137, 1), (139, 1), (150, 1), (154, 1), (159, 1), (163, 1), (166, 1), (178, 1)]
def bytesL : List (Nat × Nat) := [(3, 8), (4, 1), (5, 1), (9, 16), (21, 4), (22, 24), (23, 24), (24, 32), (25, 32), (26, 24), (29, 24), (30, 24), (31, 24), (32, 88), (33, 88), (34, 24), (35, 112), (36, 112), (37, 24), (38, 248), (39, 248), (46, 24), (47, 32), (48, 32), (49, 72), (50, 72), (51, 8), (76, 80), (77, 80), (118, 8), (137, 24), (139, 8), (150, 24), (154, 24), (159, 8), (163, 8), (166, 8), (178, 4)]
def zeros : List (Nat × List Value) := [(3, [.int .i64 0]), (4, [.bool false]), (5, [.int .u8 0]), (9, [.string ⟨#[]⟩]), (21, [.int .i32 0]), (22, [.slice none 0 0]), (23, [.slice none 0 0]), (24, [.slice none 0 0, .int .i64 0]), (25, [.slice none 0 0, .int .i64 0]), (26, [.slice none 0 0]), (29, [.slice none 0 0]), (30, [.int .i64 0, .int .i64 0, .int .i64 0]), (31, [.slice none 0 0]), (32, [.slice none 0 0, .int .i64 0, .int .i64 0, .int .i64 0, .int .i64 0, .slice none 0 0, .int .i64 0]), (33, [.slice none 0 0, .int .i64 0, .int .i64 0, .int .i64 0, .int .i64 0, .slice none 0 0, .int .i64 0]), (34, [.slice none 0 0]), (35, [.int .i64 0, .slice none 0 0, .int .i64 0, .int .i64 0, .int .i64 0, .slice none 0 0, .slice none 0 0, .bool false]), (36, [.int .i64 0, .slice none 0 0, .int .i64 0, .int .i64 0, .int .i64 0, .slice none 0 0, .slice none 0 0, .bool false]), (37, [.slice none 0 0]), (38, [.slice none 0 0, .int .i64 0, .int .i64 0, .int .i64 0, .int .i64 0, .slice none 0 0, .int .i64 0, .int .i64 0, .slice none 0 0, .int .i64 0, .int .i64 0, .int .i64 0, .slice none 0 0, .slice none 0 0, .bool false, .slice none 0 0, .slice none 0 0]), (39, [.slice none 0 0, .int .i64 0, .int .i64 0, .int .i64 0, .int .i64 0, .slice none 0 0, .int .i64 0, .int .i64 0, .slice none 0 0, .int .i64 0, .int .i64 0, .int .i64 0, .slice none 0 0, .slice none 0 0, .bool false, .slice none 0 0, .slice none 0 0]), (46, [.slice none 0 0]), (47, [.int .i64 0, .slice none 0 0]), (48, [.int .i64 0, .slice none 0 0]), (49, [.int .i64 0, .int .i64 0, .int .i64 0, .int .i64 0, .bool false, .int .i64 0, .slice none 0 0]), (50, [.int .i64 0, .int .i64 0, .int .i64 0, .int .i64 0, .bool false, .int .i64 0, .slice none 0 0]), (51, [.int .i64 0]), (76, [.int .i64 0, .int .i64 0, .int .i64 0, .int .i64 0, .slice none 0 0, .slice none 0 0]), (77, [.int .i64 0, .int .i64 0, .int .i64 0, .int .i64 0, .slice none 0 0, .slice none 0 0]), (118, [.map none]), (137, [.slice none 0 0]), (139, [.int .u64 0]), (150, [.slice none 0 0]), (154, [.slice none 0 0]), (159, [.pointer none]), (163, [.pointer none]), (166, [.pointer none]), (178, [.int .u32 0])]
def tab : Tab := { kind := fun t => (Vc.look kinds t).getD .other, size := fun t => (Vc.look sizes t).getD 0, bytes := fun t => (Vc.look bytesL t).getD 0, zero := fun t => (Vc.look zeros t).getD [] }
def TabAt (t : Nat) : Prop := TK.ok Try.prog t (tab.kind t) ∧ ∃ i z, Try.prog.info? t = some i ∧ i.size = tab.size t ∧ i.bytes = tab.bytes t ∧ i.zero = some z ∧ z.cells.toList = tab.zero t ∧ (∀ x ∈ tab.zero t, x.oneCell' = true) ∧ ((tab.kind t).agg = false → ∃ v, tab.zero t = [v]) ∧ (tab.zero t).length = tab.size t
theorem all_one {l : List Value} (h : (l.all fun x => x.oneCell') = true) : ∀ x ∈ l, x.oneCell' = true := fun x hx => List.all_eq_true.1 h x hx
theorem tab3 : TabAt 3 := ⟨Try.underlying3, Try.t3, .int .i64 0, by kernel_rfl, by kernel_rfl, by kernel_rfl, by kernel_rfl, rfl, all_one rfl, fun _ => ⟨_, rfl⟩, rfl⟩
theorem tab4 : TabAt 4 := ⟨Try.underlying4, Try.t4, .bool false, by kernel_rfl, by kernel_rfl, by kernel_rfl, by kernel_rfl, rfl, all_one rfl, fun _ => ⟨_, rfl⟩, rfl⟩
theorem tab5 : TabAt 5 := ⟨Try.underlying5, Try.t5, .int .u8 0, by kernel_rfl, by kernel_rfl, by kernel_rfl, by kernel_rfl, rfl, all_one rfl, fun _ => ⟨_, rfl⟩, rfl⟩
theorem tab9 : TabAt 9 := ⟨Try.underlying9, Try.t9, .string ⟨#[]⟩, by kernel_rfl, by kernel_rfl, by kernel_rfl, by kernel_rfl, rfl, all_one rfl, fun _ => ⟨_, rfl⟩, rfl⟩
theorem tab21 : TabAt 21 := ⟨Try.underlying21, Try.t21, .int .i32 0, by kernel_rfl, by kernel_rfl, by kernel_rfl, by kernel_rfl, rfl, all_one rfl, fun _ => ⟨_, rfl⟩, rfl⟩
theorem tab22 : TabAt 22 := ⟨Try.underlying22, Try.t22, .slice none 0 0, by kernel_rfl, by kernel_rfl, by kernel_rfl, by kernel_rfl, rfl, all_one rfl, fun _ => ⟨_, rfl⟩, rfl⟩
theorem tab23 : TabAt 23 := ⟨Try.underlying23, Try.t23, .slice none 0 0, by kernel_rfl, by kernel_rfl, by kernel_rfl, by kernel_rfl, rfl, all_one rfl, fun _ => ⟨_, rfl⟩, rfl⟩
theorem tab24 : TabAt 24 := ⟨⟨_, Try.underlying24, rfl⟩, Try.t24, .agg #[.slice none 0 0, .int .i64 0], by kernel_rfl, by kernel_rfl, by kernel_rfl, by kernel_rfl, rfl, all_one rfl, (fun h => by cases h), rfl⟩
theorem tab25 : TabAt 25 := ⟨⟨_, Try.underlying25, rfl⟩, Try.t25, .agg #[.slice none 0 0, .int .i64 0], by kernel_rfl, by kernel_rfl, by kernel_rfl, by kernel_rfl, rfl, all_one rfl, (fun h => by cases h), rfl⟩
theorem tab26 : TabAt 26 := ⟨Try.underlying26, Try.t26, .slice none 0 0, by kernel_rfl, by kernel_rfl, by kernel_rfl, by kernel_rfl, rfl, all_one rfl, fun _ => ⟨_, rfl⟩, rfl⟩
theorem tab29 : TabAt 29 := ⟨Try.underlying29, Try.t29, .slice none 0 0, by kernel_rfl, by kernel_rfl, by kernel_rfl, by kernel_rfl, rfl, all_one rfl, fun _ => ⟨_, rfl⟩, rfl⟩
theorem tab30 : TabAt 30 := ⟨Try.underlying30, Try.t30, .agg #[.int .i64 0, .int .i64 0, .int .i64 0], by kernel_rfl, by kernel_rfl, by kernel_rfl, by kernel_rfl, rfl, all_one rfl, (fun h => by cases h), rfl⟩
theorem tab31 : TabAt 31 := ⟨Try.underlying31, Try.t31, .slice none 0 0, by kernel_rfl, by kernel_rfl, by kernel_rfl, by kernel_rfl, rfl, all_one rfl, fun _ => ⟨_, rfl⟩, rfl⟩
theorem tab32 : TabAt 32 := ⟨⟨_, Try.underlying32, rfl⟩, Try.t32, .agg #[.slice none 0 0, .int .i64 0, .int .i64 0, .int .i64 0, .int .i64 0, .slice none 0 0, .int .i64 0], by kernel_rfl, by kernel_rfl, by kernel_rfl, by kernel_rfl, rfl, all_one rfl, (fun h => by cases h), rfl⟩
theorem tab33 : TabAt 33 := ⟨⟨_, Try.underlying33, rfl⟩, Try.t33, .agg #[.slice none 0 0, .int .i64 0, .int .i64 0, .int .i64 0, .int .i64 0, .slice none 0 0, .int .i64 0], by kernel_rfl, by kernel_rfl, by kernel_rfl, by kernel_rfl, rfl, all_one rfl, (fun h => by cases h), rfl⟩
theorem tab34 : TabAt 34 := ⟨Try.underlying34, Try.t34, .slice none 0 0, by kernel_rfl, by kernel_rfl, by kernel_rfl, by kernel_rfl, rfl, all_one rfl, fun _ => ⟨_, rfl⟩, rfl⟩
theorem tab35 : TabAt 35 := ⟨⟨_, Try.underlying35, rfl⟩, Try.t35, .agg #[.int .i64 0, .slice none 0 0, .int .i64 0, .int .i64 0, .int .i64 0, .slice none 0 0, .slice none 0 0, .bool false], by kernel_rfl, by kernel_rfl, by kernel_rfl, by kernel_rfl, rfl, all_one rfl, (fun h => by cases h), rfl⟩
theorem tab36 : TabAt 36 := ⟨⟨_, Try.underlying36, rfl⟩, Try.t36, .agg #[.int .i64 0, .slice none 0 0, .int .i64 0, .int .i64 0, .int .i64 0, .slice none 0 0, .slice none 0 0, .bool false], by kernel_rfl, by kernel_rfl, by kernel_rfl, by kernel_rfl, rfl, all_one rfl, (fun h => by cases h), rfl⟩
theorem tab37 : TabAt 37 := ⟨Try.underlying37, Try.t37, .slice none 0 0, by kernel_rfl, by kernel_rfl, by kernel_rfl, by kernel_rfl, rfl, all_one rfl, fun _ => ⟨_, rfl⟩, rfl⟩
theorem tab38 : TabAt 38 := ⟨⟨_, Try.underlying38, rfl⟩, Try.t38, .agg #[.slice none 0 0, .int .i64 0, .int .i64 0, .int .i64 0, .int .i64 0, .slice none 0 0, .int .i64 0, .int .i64 0, .slice none 0 0, .int .i64 0, .int .i64 0, .int .i64 0, .slice none 0 0, .slice none 0 0, .bool false, .slice none 0 0, .slice none 0 0], by kernel_rfl, by kernel_rfl, by kernel_rfl, by kernel_rfl, rfl, all_one rfl, (fun h => by cases h), rfl⟩
theorem tab39 : TabAt 39 := ⟨⟨_, Try.underlying39, rfl⟩, Try.t39, .agg #[.slice none 0 0, .int .i64 0, .int .i64 0, .int .i64 0, .int .i64 0, .slice none 0 0, .int .i64 0, .int .i64 0, .slice none 0 0, .int .i64 0, .int .i64 0, .int .i64 0, .slice none 0 0, .slice none 0 0, .bool false, .slice none 0 0, .slice none 0 0], by kernel_rfl, by kernel_rfl, by kernel_rfl, by kernel_rfl, rfl, all_one rfl, (fun h => by cases h), rfl⟩
theorem tab46 : TabAt 46 := ⟨Try.underlying46, Try.t46, .slice none 0 0, by kernel_rfl, by kernel_rfl, by kernel_rfl, by kernel_rfl, rfl, all_one rfl, fun _ => ⟨_, rfl⟩, rfl⟩
theorem tab47 : TabAt 47 := ⟨⟨_, Try.underlying47, rfl⟩, Try.t47, .agg #[.int .i64 0, .slice none 0 0], by kernel_rfl, by kernel_rfl, by kernel_rfl, by kernel_rfl, rfl, all_one rfl, (fun h => by cases h), rfl⟩
theorem tab48 : TabAt 48 := ⟨⟨_, Try.underlying48, rfl⟩, Try.t48, .agg #[.int .i64 0, .slice none 0 0], by kernel_rfl, by kernel_rfl, by kernel_rfl, by kernel_rfl, rfl, all_one rfl, (fun h => by cases h), rfl⟩
theorem tab49 : TabAt 49 := ⟨⟨_, Try.underlying49, rfl⟩, Try.t49, .agg #[.int .i64 0, .int .i64 0, .int .i64 0, .int .i64 0, .bool false, .int .i64 0, .slice none 0 0], by kernel_rfl, by kernel_rfl, by kernel_rfl, by kernel_rfl, rfl, all_one rfl, (fun h => by cases h), rfl⟩
theorem tab50 : TabAt 50 := ⟨⟨_, Try.underlying50, rfl⟩, Try.t50, .agg #[.int .i64 0, .int .i64 0, .int .i64 0, .int .i64 0, .bool false, .int .i64 0, .slice none 0 0], by kernel_rfl, by kernel_rfl, by kernel_rfl, by kernel_rfl, rfl, all_one rfl, (fun h => by cases h), rfl⟩
theorem tab51 : TabAt 51 := ⟨Try.underlying51, Try.t51, .int .i64 0, by kernel_rfl, by kernel_rfl, by kernel_rfl, by kernel_rfl, rfl, all_one rfl, fun _ => ⟨_, rfl⟩, rfl⟩
theorem tab76 : TabAt 76 := ⟨⟨_, Try.underlying76, rfl⟩, Try.t76, .agg #[.int .i64 0, .int .i64 0, .int .i64 0, .int .i64 0, .slice none 0 0, .slice none 0 0], by kernel_rfl, by kernel_rfl, by kernel_rfl, by kernel_rfl, rfl, all_one rfl, (fun h => by cases h), rfl⟩
theorem tab77 : TabAt 77 := ⟨⟨_, Try.underlying77, rfl⟩, Try.t77, .agg #[.int .i64 0, .int .i64 0, .int .i64 0, .int .i64 0, .slice none 0 0, .slice none 0 0], by kernel_rfl, by kernel_rfl, by kernel_rfl, by kernel_rfl, rfl, all_one rfl, (fun h => by cases h), rfl⟩
theorem tab118 : TabAt 118 := ⟨Try.underlying118, Try.t118, .map none, by kernel_rfl, by kernel_rfl, by kernel_rfl, by kernel_rfl, rfl, all_one rfl, fun _ => ⟨_, rfl⟩, rfl⟩
theorem tab137 : TabAt 137 := ⟨Try.underlying137, Try.t137, .slice none 0 0, by kernel_rfl, by kernel_rfl, by kernel_rfl, by kernel_rfl, rfl, all_one rfl, fun _ => ⟨_, rfl⟩, rfl⟩
theorem tab139 : TabAt 139 := ⟨Try.underlying139, Try.t139, .int .u64 0, by kernel_rfl, by kernel_rfl, by kernel_rfl, by kernel_rfl, rfl, all_one rfl, fun _ => ⟨_, rfl⟩, rfl⟩
theorem tab150 : TabAt 150 := ⟨Try.underlying150, Try.t150, .slice none 0 0, by kernel_rfl, by kernel_rfl, by kernel_rfl, by kernel_rfl, rfl, all_one rfl, fun _ => ⟨_, rfl⟩, rfl⟩
theorem tab154 : TabAt 154 := ⟨Try.underlying154, Try.t154, .slice none 0 0, by kernel_rfl, by kernel_rfl, by kernel_rfl, by kernel_rfl, rfl, all_one rfl, fun _ => ⟨_, rfl⟩, rfl⟩
theorem tab159 : TabAt 159 := ⟨Try.underlying159, Try.t159, .pointer none, by kernel_rfl, by kernel_rfl, by kernel_rfl, by kernel_rfl, rfl, all_one rfl, fun _ => ⟨_, rfl⟩, rfl⟩
theorem tab163 : TabAt 163 := ⟨Try.underlying163, Try.t163, .pointer none, by kernel_rfl, by kernel_rfl, by kernel_rfl, by kernel_rfl, rfl, all_one rfl, fun _ => ⟨_, rfl⟩, rfl⟩
theorem tab166 : TabAt 166 := ⟨Try.underlying166, Try.t166, .pointer none, by kernel_rfl, by kernel_rfl, by kernel_rfl, by kernel_rfl, rfl, all_one rfl, fun _ => ⟨_, rfl⟩, rfl⟩
theorem tab178 : TabAt 178 := ⟨Try.underlying178, Try.t178, .int .u32 0, by kernel_rfl, by kernel_rfl, by kernel_rfl, by kernel_rfl, rfl, all_one rfl, fun _ => ⟨_, rfl⟩, rfl⟩
theorem look_mem {α : Type} : ∀ (l : List (Nat × α)) (k : Nat) (v : α), Vc.look l k = some v → k ∈ l.map (·.1)
  | [], k, v, h => by simp [Vc.look] at h
  | p :: l, k, v, h => by
    rw [look_cons] at h
    by_cases he : p.1 = k
    · simp [he]
    · rw [if_neg he] at h
      have := look_mem l k v h
      simp only [List.map_cons, List.mem_cons]; exact .inr this
theorem tab_ok : tab.ok Try.prog := by
  intro t ht
  have hk : t ∈ kinds.map (·.1) := by
    cases h : Vc.look kinds t with
    | none =>
      have : tab.kind t = .other := by show (Vc.look kinds t).getD .other = _; rw [h]; rfl
      rw [this] at ht; cases ht
    | some k => exact look_mem kinds t k h
  simp only [kinds, List.map_cons, List.map_nil, List.mem_cons, List.not_mem_nil, or_false] at hk
  rcases hk with rfl | rfl | rfl | rfl | rfl | rfl | rfl | rfl | rfl | rfl | rfl | rfl | rfl | rfl | rfl | rfl | rfl | rfl | rfl | rfl | rfl | rfl | rfl | rfl | rfl | rfl | rfl | rfl | rfl | rfl | rfl | rfl | rfl | rfl | rfl | rfl | rfl | rfl
  · exact tab3
  · exact tab4
  · exact tab5
  · exact tab9
  · exact tab21
  · exact tab22
  · exact tab23
  · exact tab24
  · exact tab25
  · exact tab26
  · exact tab29
  · exact tab30
  · exact tab31
  · exact tab32
  · exact tab33
  · exact tab34
  · exact tab35
  · exact tab36
  · exact tab37
  · exact tab38
  · exact tab39
  · exact tab46
  · exact tab47
  · exact tab48
  · exact tab49
  · exact tab50
  · exact tab51
  · exact tab76
  · exact tab77
  · exact tab118
  · exact tab137
  · exact tab139
  · exact tab150
  · exact tab154
  · exact tab159
  · exact tab163
  · exact tab166
  · exact tab178
theorem mixed : Try.prog.follows .mixedOrders = true := by kernel_rfl
/-- The program. -/
noncomputable def G : Prg := ⟨Try.prog, tab, tab_ok, mixed⟩
end Go.Proofs.Ytaadloihphpdbaa
