/- Proved: SendHeard holds for every input (lklaw5.SendHeard returns true, and what it reads is as it was); no condition. -/
import Derived.Test.YtaadloihphpdbaaVcLaw
import Derived.Test.YtaadloihphpdbaaWSend4
import Derived.Test.YtaadloihphpdbaaVcOpen
set_option linter.unusedVariables false
namespace Go.Proofs.Ytaadloihphpdbaa.lawSendHeard
open Go Go.Vc Go.RowKit Go.ChangeShapes Go.WideShapes Go.ChangeAt

theorem closed : joinedFacts Try.prog 23 Try.f23 Rows.sendHeardSpec Rows.sendHeardRow = true := by
  unfold joinedFacts
  rw [mayEnter, make_is, lifts_is]
  kernel_rfl

theorem walk (w : World) (a0 : List Msg) (u0 : Value) (w0 : (a0.length * 32 ≤ reachBytes ∧ ∀ m ∈ a0, inI m.1 ∧ m.2.length ≤ reachBytes)) (g0 : VRep (SW w) (fun _ => none) w (.shr 2 (msgCells a0)) u0) (a1 : List Int) (u1 : Value) (w1 : (a1.length * 8 ≤ reachBytes ∧ ∀ n ∈ a1, inI n)) (g1 : VRep (SW w) (fun _ => none) w (.shr 1 (intCells a1)) u1) (a2 : Chunk) (u2 : Value) (w2 : ((inI a2.kind ∧ inI a2.num ∧ inI a2.stream ∧ inI a2.place) ∧ a2.data.length ≤ reachBytes ∧ a2.early.length * 8 ≤ reachBytes ∧ ∀ n ∈ a2.early, inI n)) (g2 : VRep (SW w) (fun _ => none) w (.agg (chunkAV a2)) u2) (a3 : Int) (w3 : (Lit.int .i64 a3).wf = true) :
    Calls Try.prog 23 #[u0, u1, u2, .int .i64 a3] w fun e w' => e = .returned (.bool true) ∧ Below w.heap.size w w' :=
  VFun.law (c23 a0 a1 a2 a3 (by unfold reachBytes at w2; omega)) (vs := [u0, u1, u2, .int .i64 a3]) (.cons (g0) (.cons (g1) (.cons (g2) (.cons (.pure _ _ (.lit _ rfl)) .nil))))

set_option maxRecDepth 100000 in
theorem lifted (os : Os) (started : os.Started) (H : Type) (enc : TypeId × Value → H) :
    ReturnsInHanded {} Try.checked os 23 .any (Rows.sendHeardSpec.pre6 enc Try.prog Try.f23 Rows.sendHeardRow.domain false) (Rows.sendHeardSpec.post enc Try.prog Try.f23 false true false false) := by
  refine returnsInHanded_of_change_sized (C := Try.checked) own started (by kernel_rfl) Try.func23
    (ChangeSpec.witness6 (enc := enc) (C := Try.checked) false ⟨#[], #[.slice none 0 0, .slice none 0 0, .agg #[.int .i64 0, .int .i64 0, .int .i64 0, .int .i64 0, .slice none 0 0, .slice none 0 0], .int .i64 0], []⟩ 8 (by kernel_rfl) (by kernel_rfl) (by kernel_rfl) (by kernel_rfl)) ?_
  intro W base args ds gs before hval0 hW hcnd hsz _
  have hval : ∀ (j : Nat) t v, Try.f23.params[j]? = some t → args[j]? = some v → Value.okWide Try.prog W .any base t v := hval0
  have hW' := hW
  obtain ⟨p, q, hA0, hV, rfl, hfz, hnd⟩ := hW
  have hA : DataW.TrodAll enc Try.prog W 0 (fun _ => true) true Try.f23.params.toList args.toList ds p := hA0
  rw [Try.params23] at hA hval
  obtain ⟨v0, vs0, d0, ds0, p0, q0, hargs, rfl, rfl, h0, r0⟩ := trodAll_cons hA
  obtain ⟨v1, vs1, d1, ds1, p1, q1, rfl, rfl, rfl, h1, r1⟩ := trodAll_cons r0
  obtain ⟨v2, vs2, d2, ds2, p2, q2, rfl, rfl, rfl, h2, r2⟩ := trodAll_cons r1
  obtain ⟨v3, vs3, d3, ds3, p3, q3, rfl, rfl, rfl, h3, r3⟩ := trodAll_cons r2
  obtain ⟨rfl, rfl, rfl⟩ := trodAll_nil r3
  obtain rfl : args = #[v0, v1, v2, v3] := by cases args; simp_all
  obtain ⟨rfl, rfl⟩ := trodVars_none hV
  have k0 := h0
  have lt0 : ∀ x ∈ p0, x.block < W.heap.size := by obtain ⟨m, hm⟩ := k0; exact DataW.trod_lt m _ _ _ hm
  obtain ⟨s0, y0, f0⟩ := open_any (t := 29) (by kernel_rfl) h0 (weigh hsz (n := 0) rfl rfl)
  obtain ⟨a0, rfl, w0⟩ := shp_msgs y0
  have g0 := rep_slice Try.underlying29 (hval 0 29 v0 rfl rfl) f0
  have k1 := h1
  have lt1 : ∀ x ∈ p1, x.block < W.heap.size := by obtain ⟨m, hm⟩ := k1; exact DataW.trod_lt m _ _ _ hm
  obtain ⟨s1, y1, f1⟩ := open_any (t := 34) (by kernel_rfl) h1 (weigh hsz (n := 1) rfl rfl)
  obtain ⟨a1, rfl, w1⟩ := shp_ints y1
  have g1 := rep_slice Try.underlying34 (hval 1 34 v1 rfl rfl) f1
  have k2 := h2
  have lt2 : ∀ x ∈ p2, x.block < W.heap.size := by obtain ⟨m, hm⟩ := k2; exact DataW.trod_lt m _ _ _ hm
  obtain ⟨s2, y2, f2⟩ := open_any (t := 77) (by kernel_rfl) h2 (weigh hsz (n := 2) rfl rfl)
  obtain ⟨a2, rfl, w2⟩ := shp_chunk y2
  have g2 := rep_agg Try.underlying77 (hval 2 77 v2 rfl rfl) f2
  obtain ⟨a3, rfl, rfl, rfl, w3⟩ := open_int Try.underlying3 (hval 3 3 v3 rfl rfl) h3
  clear hA0 hval0
  refine (walk W a0 v0 w0 g0 a1 v1 w1 g1 a2 v2 w2 g2 a3 w3).mono fun e W' ⟨he, bel⟩ => ?_
  subst he
  exact ⟨_, rfl, _, _, _, [], _, [], hW', trodAll_mk1 (shut_bool Try.underlying4 _), (trodAll_cons_mk (Below.trod laidOut (by kernel_rfl) (of_decide_eq_true (by kernel_rfl)) k0 bel lt0) (trodAll_cons_mk (Below.trod laidOut (by kernel_rfl) (of_decide_eq_true (by kernel_rfl)) k1 bel lt1) (trodAll_cons_mk (Below.trod laidOut (by kernel_rfl) (of_decide_eq_true (by kernel_rfl)) k2 bel lt2) (trodAll_cons_mk (shut_int Try.underlying3 w3) trodAll_mk0)))), rfl, bel.frame _, fun h => by cases h⟩

theorem over : Rows.sendHeardRow.holds Try.pinned (OpenSpec.ofChange Rows.sendHeardSpec) :=
  OpenClaim.holds_of_wide 23 Try.f23 rfl rfl rfl rfl rfl rfl rfl ⟨rfl, rfl, rfl, rfl, rfl⟩ rfl rfl rfl rfl rfl (by kernel_rfl) Try.func23 closed
    (of_decide_eq_true (by kernel_rfl)) (by unfold Func.isWrapper; first | (rw [if_pos (by decide +kernel)]; kernel_rfl) | (rw [if_neg (by decide +kernel)]; exact ⟨rfl, rfl⟩))
    (fun os started H enc _ => lifted os started H enc)

/-- The statement. -/
theorem proved : Rows.SendHeardSaid := over
#print axioms proved
end Go.Proofs.Ytaadloihphpdbaa.lawSendHeard
