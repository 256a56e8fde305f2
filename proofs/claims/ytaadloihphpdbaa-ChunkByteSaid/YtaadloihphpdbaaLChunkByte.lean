/- Proved: ChunkByte holds for every input (lklaw2.ChunkByte returns true, and what it reads is as it was); no condition. -/
import Derived.Test.YtaadloihphpdbaaVcLaw
import Derived.Test.YtaadloihphpdbaaWChunk4
import Derived.Test.YtaadloihphpdbaaVcOpen
set_option linter.unusedVariables false
namespace Go.Proofs.Ytaadloihphpdbaa.lawChunkByte
open Go Go.Vc Go.RowKit Go.ChangeShapes Go.WideShapes Go.ChangeAt

theorem closed : joinedFacts Try.prog 20 Try.f20 Rows.chunkByteSpec Rows.chunkByteRow = true := by
  unfold joinedFacts
  rw [mayEnter, make_is, lifts_is]
  kernel_rfl

theorem walk (w : World) (a0 : Chunk) (u0 : Value) (w0 : ((inI a0.kind ∧ inI a0.num ∧ inI a0.stream ∧ inI a0.place) ∧ a0.data.length ≤ reachBytes ∧ a0.early.length * 8 ≤ reachBytes ∧ ∀ n ∈ a0.early, inI n)) (g0 : VRep (SW w) (fun _ => none) w (.agg (chunkAV a0)) u0) (a1 : Int) (w1 : (Lit.int .i64 a1).wf = true) (a2 : Int) (w2 : (Lit.int .u8 a2).wf = true) :
    Calls Try.prog 20 #[u0, .int .i64 a1, .int .u8 a2] w fun e w' => e = .returned (.bool true) ∧ Below w.heap.size w w' :=
  VFun.law (c20 a0 a1 a2 (wfB w2)) (vs := [u0, .int .i64 a1, .int .u8 a2]) (.cons (g0) (.cons (.pure _ _ (.lit _ rfl)) (.cons (.pure _ _ (.lit _ rfl)) .nil)))

set_option maxRecDepth 100000 in
theorem lifted (os : Os) (started : os.Started) (H : Type) (enc : TypeId × Value → H) :
    ReturnsInHanded {} Try.checked os 20 .any (Rows.chunkByteSpec.pre6 enc Try.prog Try.f20 Rows.chunkByteRow.domain false) (Rows.chunkByteSpec.post enc Try.prog Try.f20 false true false false) := by
  refine returnsInHanded_of_change_sized (C := Try.checked) own started (by kernel_rfl) Try.func20
    (ChangeSpec.witness6 (enc := enc) (C := Try.checked) false ⟨#[], #[.agg #[.int .i64 0, .int .i64 0, .int .i64 0, .int .i64 0, .slice none 0 0, .slice none 0 0], .int .i64 0, .int .u8 0], []⟩ 8 (by kernel_rfl) (by kernel_rfl) (by kernel_rfl) (by kernel_rfl)) ?_
  intro W base args ds gs before hval0 hW hcnd hsz _
  have hval : ∀ (j : Nat) t v, Try.f20.params[j]? = some t → args[j]? = some v → Value.okWide Try.prog W .any base t v := hval0
  have hW' := hW
  obtain ⟨p, q, hA0, hV, rfl, hfz, hnd⟩ := hW
  have hA : DataW.TrodAll enc Try.prog W 0 (fun _ => true) true Try.f20.params.toList args.toList ds p := hA0
  rw [Try.params20] at hA hval
  obtain ⟨v0, vs0, d0, ds0, p0, q0, hargs, rfl, rfl, h0, r0⟩ := trodAll_cons hA
  obtain ⟨v1, vs1, d1, ds1, p1, q1, rfl, rfl, rfl, h1, r1⟩ := trodAll_cons r0
  obtain ⟨v2, vs2, d2, ds2, p2, q2, rfl, rfl, rfl, h2, r2⟩ := trodAll_cons r1
  obtain ⟨rfl, rfl, rfl⟩ := trodAll_nil r2
  obtain rfl : args = #[v0, v1, v2] := by cases args; simp_all
  obtain ⟨rfl, rfl⟩ := trodVars_none hV
  have k0 := h0
  have lt0 : ∀ x ∈ p0, x.block < W.heap.size := by obtain ⟨m, hm⟩ := k0; exact DataW.trod_lt m _ _ _ hm
  obtain ⟨s0, y0, f0⟩ := open_any (t := 77) (by kernel_rfl) h0 (weigh hsz (n := 0) rfl rfl)
  obtain ⟨a0, rfl, w0⟩ := shp_chunk y0
  have g0 := rep_agg Try.underlying77 (hval 0 77 v0 rfl rfl) f0
  obtain ⟨a1, rfl, rfl, rfl, w1⟩ := open_int Try.underlying3 (hval 1 3 v1 rfl rfl) h1
  obtain ⟨a2, rfl, rfl, rfl, w2⟩ := open_int Try.underlying5 (hval 2 5 v2 rfl rfl) h2
  clear hA0 hval0
  refine (walk W a0 v0 w0 g0 a1 w1 a2 w2).mono fun e W' ⟨he, bel⟩ => ?_
  subst he
  exact ⟨_, rfl, _, _, _, [], _, [], hW', trodAll_mk1 (shut_bool Try.underlying4 _), (trodAll_cons_mk (Below.trod laidOut (by kernel_rfl) (of_decide_eq_true (by kernel_rfl)) k0 bel lt0) (trodAll_cons_mk (shut_int Try.underlying3 w1) (trodAll_cons_mk (shut_int Try.underlying5 w2) trodAll_mk0))), rfl, bel.frame _, fun h => by cases h⟩

theorem over : Rows.chunkByteRow.holds Try.pinned (OpenSpec.ofChange Rows.chunkByteSpec) :=
  OpenClaim.holds_of_wide 20 Try.f20 rfl rfl rfl rfl rfl rfl rfl ⟨rfl, rfl, rfl, rfl, rfl⟩ rfl rfl rfl rfl rfl (by kernel_rfl) Try.func20 closed
    (of_decide_eq_true (by kernel_rfl)) (by unfold Func.isWrapper; first | (rw [if_pos (by decide +kernel)]; kernel_rfl) | (rw [if_neg (by decide +kernel)]; exact ⟨rfl, rfl⟩))
    (fun os started H enc _ => lifted os started H enc)

/-- The statement. -/
theorem proved : Rows.ChunkByteSaid := over
#print axioms proved
end Go.Proofs.Ytaadloihphpdbaa.lawChunkByte
