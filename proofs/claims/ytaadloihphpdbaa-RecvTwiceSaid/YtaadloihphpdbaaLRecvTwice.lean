/- Proved: RecvTwice holds for every input (lklaw6.RecvTwice returns true, and what it reads is as it was); no condition. -/
import Derived.Test.YtaadloihphpdbaaVcLaw
import Derived.Test.YtaadloihphpdbaaWRecv4
import Derived.Test.YtaadloihphpdbaaVcOpen
set_option linter.unusedVariables false
namespace Go.Proofs.Ytaadloihphpdbaa.lawRecvTwice
open Go Go.Vc Go.RowKit Go.ChangeShapes Go.WideShapes Go.ChangeAt

theorem closed : joinedFacts Try.prog 29 Try.f29 Rows.recvTwiceSpec Rows.recvTwiceRow = true := by
  unfold joinedFacts
  rw [mayEnter, make_is, lifts_is]
  kernel_rfl

theorem walk (w : World) (a0 : List Chunk) (u0 : Value) (w0 : (a0.length * 80 ≤ reachBytes ∧ ∀ c ∈ a0, ((inI c.kind ∧ inI c.num ∧ inI c.stream ∧ inI c.place) ∧ c.data.length ≤ reachBytes ∧ c.early.length * 8 ≤ reachBytes ∧ ∀ n ∈ c.early, inI n))) (g0 : VRep (SW w) (fun _ => none) w (.shr 6 (chunkCells a0)) u0) (a1 : Chunk) (u1 : Value) (w1 : ((inI a1.kind ∧ inI a1.num ∧ inI a1.stream ∧ inI a1.place) ∧ a1.data.length ≤ reachBytes ∧ a1.early.length * 8 ≤ reachBytes ∧ ∀ n ∈ a1.early, inI n)) (g1 : VRep (SW w) (fun _ => none) w (.agg (chunkAV a1)) u1) :
    Calls Try.prog 29 #[u0, u1] w fun e w' => e = .returned (.bool true) ∧ Below w.heap.size w w' :=
  VFun.law (c29 a0 a1) (vs := [u0, u1]) (.cons (g0) (.cons (g1) .nil))

set_option maxRecDepth 100000 in
theorem lifted (os : Os) (started : os.Started) (H : Type) (enc : TypeId × Value → H) :
    ReturnsInHanded {} Try.checked os 29 .any (Rows.recvTwiceSpec.pre6 enc Try.prog Try.f29 Rows.recvTwiceRow.domain false) (Rows.recvTwiceSpec.post enc Try.prog Try.f29 false true false false) := by
  refine returnsInHanded_of_change_sized (C := Try.checked) own started (by kernel_rfl) Try.func29
    (ChangeSpec.witness6 (enc := enc) (C := Try.checked) false ⟨#[], #[.slice none 0 0, .agg #[.int .i64 0, .int .i64 0, .int .i64 0, .int .i64 0, .slice none 0 0, .slice none 0 0]], []⟩ 8 (by kernel_rfl) (by kernel_rfl) (by kernel_rfl) (by kernel_rfl)) ?_
  intro W base args ds gs before hval0 hW hcnd hsz _
  have hval : ∀ (j : Nat) t v, Try.f29.params[j]? = some t → args[j]? = some v → Value.okWide Try.prog W .any base t v := hval0
  have hW' := hW
  obtain ⟨p, q, hA0, hV, rfl, hfz, hnd⟩ := hW
  have hA : DataW.TrodAll enc Try.prog W 0 (fun _ => true) true Try.f29.params.toList args.toList ds p := hA0
  rw [Try.params29] at hA hval
  obtain ⟨v0, vs0, d0, ds0, p0, q0, hargs, rfl, rfl, h0, r0⟩ := trodAll_cons hA
  obtain ⟨v1, vs1, d1, ds1, p1, q1, rfl, rfl, rfl, h1, r1⟩ := trodAll_cons r0
  obtain ⟨rfl, rfl, rfl⟩ := trodAll_nil r1
  obtain rfl : args = #[v0, v1] := by cases args; simp_all
  obtain ⟨rfl, rfl⟩ := trodVars_none hV
  have k0 := h0
  have lt0 : ∀ x ∈ p0, x.block < W.heap.size := by obtain ⟨m, hm⟩ := k0; exact DataW.trod_lt m _ _ _ hm
  obtain ⟨s0, y0, f0⟩ := open_any (t := 31) (by kernel_rfl) h0 (weigh hsz (n := 0) rfl rfl)
  obtain ⟨a0, rfl, w0⟩ := shp_chunks y0
  have g0 := rep_slice Try.underlying31 (hval 0 31 v0 rfl rfl) f0
  have k1 := h1
  have lt1 : ∀ x ∈ p1, x.block < W.heap.size := by obtain ⟨m, hm⟩ := k1; exact DataW.trod_lt m _ _ _ hm
  obtain ⟨s1, y1, f1⟩ := open_any (t := 77) (by kernel_rfl) h1 (weigh hsz (n := 1) rfl rfl)
  obtain ⟨a1, rfl, w1⟩ := shp_chunk y1
  have g1 := rep_agg Try.underlying77 (hval 1 77 v1 rfl rfl) f1
  clear hA0 hval0
  refine (walk W a0 v0 w0 g0 a1 v1 w1 g1).mono fun e W' ⟨he, bel⟩ => ?_
  subst he
  exact ⟨_, rfl, _, _, _, [], _, [], hW', trodAll_mk1 (shut_bool Try.underlying4 _), (trodAll_cons_mk (Below.trod laidOut (by kernel_rfl) (of_decide_eq_true (by kernel_rfl)) k0 bel lt0) (trodAll_cons_mk (Below.trod laidOut (by kernel_rfl) (of_decide_eq_true (by kernel_rfl)) k1 bel lt1) trodAll_mk0)), rfl, bel.frame _, fun h => by cases h⟩

theorem over : Rows.recvTwiceRow.holds Try.pinned (OpenSpec.ofChange Rows.recvTwiceSpec) :=
  OpenClaim.holds_of_wide 29 Try.f29 rfl rfl rfl rfl rfl rfl rfl ⟨rfl, rfl, rfl, rfl, rfl⟩ rfl rfl rfl rfl rfl (by kernel_rfl) Try.func29 closed
    (of_decide_eq_true (by kernel_rfl)) (by unfold Func.isWrapper; first | (rw [if_pos (by decide +kernel)]; kernel_rfl) | (rw [if_neg (by decide +kernel)]; exact ⟨rfl, rfl⟩))
    (fun os started H enc _ => lifted os started H enc)

/-- The statement. -/
theorem proved : Rows.RecvTwiceSaid := over
#print axioms proved
end Go.Proofs.Ytaadloihphpdbaa.lawRecvTwice
