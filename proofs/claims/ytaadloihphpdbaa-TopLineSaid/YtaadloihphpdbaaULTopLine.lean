/- Proved: TopLine holds for every input (lktop.TopLine returns true, and what it reads is as it was); no condition. -/
import Derived.Test.YtaadloihphpdbaaUVcLaw
import Derived.Test.YtaadloihphpdbaaUYTopLine
import Derived.Test.YtaadloihphpdbaaUVcOpen
set_option linter.unusedVariables false
namespace Go.Proofs.Ytaadloihphpdbaa.lawTopLine
open Go Go.Vc Go.RowKit Go.ChangeShapes Go.WideShapes Go.ChangeAt

theorem closed : joinedFacts Try.prog 41 Try.f41 Rows.topLineSpec Rows.topLineRow = true := by
  unfold joinedFacts
  rw [mayEnter, make_is, lifts_is]
  kernel_rfl

theorem walk (w : World) (a0 : Int) (w0 : (Lit.int .i64 a0).wf = true) (a1 : Int) (w1 : (Lit.int .i64 a1).wf = true) (a2 : List Step) (u2 : Value) (w2 : (a2.length * 72 ≤ reachBytes ∧ ∀ s ∈ a2, inI s.kind ∧ inI s.tenant ∧ inI s.n ∧ inI s.m ∧ inI s.msg.1 ∧ s.msg.2.length ≤ reachBytes)) (g2 : VRep (SW w) (fun _ => none) w (.shr 7 (stepCells a2)) u2) :
    Calls Try.prog 41 #[.int .i64 a0, .int .i64 a1, u2] w fun e w' => e = .returned (.bool true) ∧ Below w.heap.size w w' :=
  VFun.law (c41 a0 a1 a2 (fun s hs => (w2.2 s hs).2.2.2.1)) (vs := [.int .i64 a0, .int .i64 a1, u2]) (.cons (.pure _ _ (.lit _ rfl)) (.cons (.pure _ _ (.lit _ rfl)) (.cons (g2) .nil)))

set_option maxRecDepth 100000 in
theorem lifted (os : Os) (started : os.Started) (H : Type) (enc : TypeId × Value → H) :
    ReturnsInHanded {} Try.checked os 41 .any (Rows.topLineSpec.pre6 enc Try.prog Try.f41 Rows.topLineRow.domain false) (Rows.topLineSpec.post enc Try.prog Try.f41 false true false false) := by
  refine returnsInHanded_of_change_sized (C := Try.checked) own started (by kernel_rfl) Try.func41
    (ChangeSpec.witness6 (enc := enc) (C := Try.checked) false ⟨#[], #[.int .i64 0, .int .i64 0, .slice none 0 0], []⟩ 8 (by kernel_rfl) (by kernel_rfl) (by kernel_rfl) (by kernel_rfl)) ?_
  intro W base args ds gs before hval0 hW hcnd hsz _
  have hval : ∀ (j : Nat) t v, Try.f41.params[j]? = some t → args[j]? = some v → Value.okWide Try.prog W .any base t v := hval0
  have hW' := hW
  obtain ⟨p, q, hA0, hV, rfl, hfz, hnd⟩ := hW
  have hA : DataW.TrodAll enc Try.prog W 0 (fun _ => true) true Try.f41.params.toList args.toList ds p := hA0
  rw [Try.params41] at hA hval
  obtain ⟨v0, vs0, d0, ds0, p0, q0, hargs, rfl, rfl, h0, r0⟩ := trodAll_cons hA
  obtain ⟨v1, vs1, d1, ds1, p1, q1, rfl, rfl, rfl, h1, r1⟩ := trodAll_cons r0
  obtain ⟨v2, vs2, d2, ds2, p2, q2, rfl, rfl, rfl, h2, r2⟩ := trodAll_cons r1
  obtain ⟨rfl, rfl, rfl⟩ := trodAll_nil r2
  obtain rfl : args = #[v0, v1, v2] := by cases args; simp_all
  obtain ⟨rfl, rfl⟩ := trodVars_none hV
  obtain ⟨a0, rfl, rfl, rfl, w0⟩ := open_int Try.underlying3 (hval 0 3 v0 rfl rfl) h0
  obtain ⟨a1, rfl, rfl, rfl, w1⟩ := open_int Try.underlying3 (hval 1 3 v1 rfl rfl) h1
  have k2 := h2
  have lt2 : ∀ x ∈ p2, x.block < W.heap.size := by obtain ⟨m, hm⟩ := k2; exact DataW.trod_lt m _ _ _ hm
  obtain ⟨s2, y2, f2⟩ := open_any (t := 22) (by kernel_rfl) h2 (weigh hsz (n := 2) rfl rfl)
  obtain ⟨a2, rfl, w2⟩ := shp_steps y2
  have g2 := rep_slice Try.underlying22 (hval 2 22 v2 rfl rfl) f2
  clear hA0 hval0
  refine (walk W a0 w0 a1 w1 a2 v2 w2 g2).mono fun e W' ⟨he, bel⟩ => ?_
  subst he
  exact ⟨_, rfl, _, _, _, [], _, [], hW', trodAll_mk1 (shut_bool Try.underlying4 _), (trodAll_cons_mk (shut_int Try.underlying3 w0) (trodAll_cons_mk (shut_int Try.underlying3 w1) (trodAll_cons_mk (Below.trod laidOut (by kernel_rfl) (of_decide_eq_true (by kernel_rfl)) k2 bel lt2) trodAll_mk0))), rfl, bel.frame _, fun h => by cases h⟩

theorem over : Rows.topLineRow.holds Try.pinned (OpenSpec.ofChange Rows.topLineSpec) :=
  OpenClaim.holds_of_wide 41 Try.f41 rfl rfl rfl rfl rfl rfl rfl ⟨rfl, rfl, rfl, rfl, rfl⟩ rfl rfl rfl rfl rfl (by kernel_rfl) Try.func41 closed
    (of_decide_eq_true (by kernel_rfl)) (by unfold Func.isWrapper; first | (rw [if_pos (by decide +kernel)]; kernel_rfl) | (rw [if_neg (by decide +kernel)]; exact ⟨rfl, rfl⟩))
    (fun os started H enc _ => lifted os started H enc)

/-- The statement. -/
theorem proved : Rows.TopLineSaid := over
#print axioms proved
end Go.Proofs.Ytaadloihphpdbaa.lawTopLine
