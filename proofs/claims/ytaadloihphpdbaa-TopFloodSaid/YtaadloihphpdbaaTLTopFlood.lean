/- Proved: TopFlood holds for every input (lktop.TopFlood returns true, and what it reads is as it was); no condition. -/
import Derived.Test.YtaadloihphpdbaaTVcLaw
import Derived.Test.YtaadloihphpdbaaTYTopFlood
import Derived.Test.YtaadloihphpdbaaTVcOpen
set_option linter.unusedVariables false
namespace Go.Proofs.Ytaadloihphpdbaa.lawTopFlood
open Go Go.Vc Go.RowKit Go.ChangeShapes Go.WideShapes Go.ChangeAt

theorem closed : joinedFacts Try.prog 42 Try.f42 Rows.topFloodSpec Rows.topFloodRow = true := by
  unfold joinedFacts
  rw [mayEnter, make_is, lifts_is]
  kernel_rfl

theorem walk (w : World) (a0 : Int) (w0 : (Lit.int .i64 a0).wf = true) (a1 : List Step) (u1 : Value) (w1 : (a1.length * 72 ≤ reachBytes ∧ ∀ s ∈ a1, inI s.kind ∧ inI s.tenant ∧ inI s.n ∧ inI s.m ∧ inI s.msg.1 ∧ s.msg.2.length ≤ reachBytes)) (g1 : VRep (SW w) (fun _ => none) w (.shr 7 (stepCells a1)) u1) :
    Calls Try.prog 42 #[.int .i64 a0, u1] w fun e w' => e = .returned (.bool true) ∧ Below w.heap.size w w' :=
  VFun.law (c42 a0 a1 (fun s hs => (w1.2 s hs).2.2.2.1)) (vs := [.int .i64 a0, u1]) (.cons (.pure _ _ (.lit _ rfl)) (.cons (g1) .nil))

set_option maxRecDepth 100000 in
theorem lifted (os : Os) (started : os.Started) (H : Type) (enc : TypeId × Value → H) :
    ReturnsInHanded {} Try.checked os 42 .any (Rows.topFloodSpec.pre6 enc Try.prog Try.f42 Rows.topFloodRow.domain false) (Rows.topFloodSpec.post enc Try.prog Try.f42 false true false false) := by
  refine returnsInHanded_of_change_sized (C := Try.checked) own started (by kernel_rfl) Try.func42
    (ChangeSpec.witness6 (enc := enc) (C := Try.checked) false ⟨#[], #[.int .i64 0, .slice none 0 0], []⟩ 8 (by kernel_rfl) (by kernel_rfl) (by kernel_rfl) (by kernel_rfl)) ?_
  intro W base args ds gs before hval0 hW hcnd hsz _
  have hval : ∀ (j : Nat) t v, Try.f42.params[j]? = some t → args[j]? = some v → Value.okWide Try.prog W .any base t v := hval0
  have hW' := hW
  obtain ⟨p, q, hA0, hV, rfl, hfz, hnd⟩ := hW
  have hA : DataW.TrodAll enc Try.prog W 0 (fun _ => true) true Try.f42.params.toList args.toList ds p := hA0
  rw [Try.params42] at hA hval
  obtain ⟨v0, vs0, d0, ds0, p0, q0, hargs, rfl, rfl, h0, r0⟩ := trodAll_cons hA
  obtain ⟨v1, vs1, d1, ds1, p1, q1, rfl, rfl, rfl, h1, r1⟩ := trodAll_cons r0
  obtain ⟨rfl, rfl, rfl⟩ := trodAll_nil r1
  obtain rfl : args = #[v0, v1] := by cases args; simp_all
  obtain ⟨rfl, rfl⟩ := trodVars_none hV
  obtain ⟨a0, rfl, rfl, rfl, w0⟩ := open_int Try.underlying3 (hval 0 3 v0 rfl rfl) h0
  have k1 := h1
  have lt1 : ∀ x ∈ p1, x.block < W.heap.size := by obtain ⟨m, hm⟩ := k1; exact DataW.trod_lt m _ _ _ hm
  obtain ⟨s1, y1, f1⟩ := open_any (t := 22) (by kernel_rfl) h1 (weigh hsz (n := 1) rfl rfl)
  obtain ⟨a1, rfl, w1⟩ := shp_steps y1
  have g1 := rep_slice Try.underlying22 (hval 1 22 v1 rfl rfl) f1
  clear hA0 hval0
  refine (walk W a0 w0 a1 v1 w1 g1).mono fun e W' ⟨he, bel⟩ => ?_
  subst he
  exact ⟨_, rfl, _, _, _, [], _, [], hW', trodAll_mk1 (shut_bool Try.underlying4 _), (trodAll_cons_mk (shut_int Try.underlying3 w0) (trodAll_cons_mk (Below.trod laidOut (by kernel_rfl) (of_decide_eq_true (by kernel_rfl)) k1 bel lt1) trodAll_mk0)), rfl, bel.frame _, fun h => by cases h⟩

theorem over : Rows.topFloodRow.holds Try.pinned (OpenSpec.ofChange Rows.topFloodSpec) :=
  OpenClaim.holds_of_wide 42 Try.f42 rfl rfl rfl rfl rfl rfl rfl ⟨rfl, rfl, rfl, rfl, rfl⟩ rfl rfl rfl rfl rfl (by kernel_rfl) Try.func42 closed
    (of_decide_eq_true (by kernel_rfl)) (by unfold Func.isWrapper; first | (rw [if_pos (by decide +kernel)]; kernel_rfl) | (rw [if_neg (by decide +kernel)]; exact ⟨rfl, rfl⟩))
    (fun os started H enc _ => lifted os started H enc)

/-- The statement. -/
theorem proved : Rows.TopFloodSaid := over
#print axioms proved
end Go.Proofs.Ytaadloihphpdbaa.lawTopFlood
