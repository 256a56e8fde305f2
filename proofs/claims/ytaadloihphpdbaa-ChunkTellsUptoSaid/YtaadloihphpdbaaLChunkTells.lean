/- Proved: ChunkTells holds for every input of at most 1048576 values (lklaw2.ChunkTells returns true, and what it reads is as it was); its one condition is that bound. -/
import Derived.Test.YtaadloihphpdbaaVcLaw
import Derived.Test.YtaadloihphpdbaaVcUpto
import Derived.Test.YtaadloihphpdbaaWChunk4
import Derived.Test.YtaadloihphpdbaaVcOpen
set_option linter.unusedVariables false
namespace Go.Proofs.Ytaadloihphpdbaa.lawChunkTells
open Go Go.Vc Go.RowKit Go.ChangeShapes Go.WideShapes Go.ChangeAt

theorem closed : joinedFacts Try.prog 16 Try.f16 (Rows.OpenSpec.upto Rows.chunkTellsSpec).bare Rows.chunkTellsUptoRow = true := by
  unfold joinedFacts
  rw [mayEnter, make_is, lifts_is]
  kernel_rfl

theorem walk (w : World) (a0 : Chunk) (u0 : Value) (w0 : ((inI a0.kind ∧ inI a0.num ∧ inI a0.stream ∧ inI a0.place) ∧ a0.data.length ≤ reachBytes ∧ a0.early.length * 8 ≤ reachBytes ∧ ∀ n ∈ a0.early, inI n)) (g0 : VRep (SW w) (fun _ => none) w (.agg (chunkAV a0)) u0) (a1 : Msg) (u1 : Value) (w1 : (inI a1.1 ∧ a1.2.length ≤ reachBytes)) (g1 : VRep (SW w) (fun _ => none) w (.agg (msgAV a1)) u1) (a2 : List UInt8) (u2 : Value) (w2 : a2.length ≤ reachBytes) (g2 : VRep (SW w) (fun _ => none) w (.shr 1 (byteCells a2)) u2) (b2 : a2.length ≤ 1048576) :
    Calls Try.prog 16 #[u0, u1, u2] w fun e w' => e = .returned (.bool true) ∧ Below w.heap.size w w' :=
  VFun.law (c16 a0 a1 a2 (by unfold reachBytes at w0; omega) (by omega)) (vs := [u0, u1, u2]) (.cons (g0) (.cons (g1) (.cons (g2) .nil)))

set_option maxRecDepth 100000 in
theorem lifted (os : Os) (started : os.Started) (H : Type) (enc : TypeId × Value → H) (F : Stop.Interp) :
    ReturnsInHanded {} Try.checked os 16 .any ((Rows.OpenSpec.upto Rows.chunkTellsSpec).pre6 enc Try.prog Try.f16 Rows.chunkTellsUptoRow.domain false) (((Rows.OpenSpec.upto Rows.chunkTellsSpec).at F).post enc Try.prog Try.f16 false true false false) := by
  refine returnsInHanded_of_cond_sized (C := Try.checked) (s := Rows.OpenSpec.upto Rows.chunkTellsSpec) (k := Rows.uptoSmall) rfl own started (by kernel_rfl) Try.func16
    (OpenSpec.witness (enc := enc) (C := Try.checked) (s := Rows.OpenSpec.upto Rows.chunkTellsSpec) (k := Rows.uptoSmall) rfl false ⟨#[], #[.agg #[.int .i64 0, .int .i64 0, .int .i64 0, .int .i64 0, .slice none 0 0, .slice none 0 0], .agg #[.int .i64 0, .slice none 0 0], .slice none 0 0], []⟩ 8 (by kernel_rfl) (by kernel_rfl) (by kernel_rfl)
      (x := ([.agg [.lit (.int .i64 0), .lit (.int .i64 0), .lit (.int .i64 0), .lit (.int .i64 0), .nil, .nil], .agg [.lit (.int .i64 0), .nil], .nil], [], [])) (by kernel_rfl) rfl (by kernel_rfl)) ?_
  intro W base args ds gs before hval0 hW hcnd hk hsz _
  have hval : ∀ (j : Nat) t v, Try.f16.params[j]? = some t → args[j]? = some v → Value.okWide Try.prog W .any base t v := hval0
  have hW' := hW
  obtain ⟨p, q, hA0, hV, rfl, hfz, hnd⟩ := hW
  have hA : DataW.TrodAll enc Try.prog W 0 (fun _ => true) true Try.f16.params.toList args.toList ds p := hA0
  rw [Try.params16] at hA hval
  obtain ⟨v0, vs0, d0, ds0, p0, q0, hargs, rfl, rfl, h0, r0⟩ := trodAll_cons hA
  obtain ⟨v1, vs1, d1, ds1, p1, q1, rfl, rfl, rfl, h1, r1⟩ := trodAll_cons r0
  obtain ⟨v2, vs2, d2, ds2, p2, q2, rfl, rfl, rfl, h2, r2⟩ := trodAll_cons r1
  obtain ⟨rfl, rfl, rfl⟩ := trodAll_nil r2
  obtain rfl : args = #[v0, v1, v2] := by cases args; simp_all
  obtain ⟨rfl, rfl⟩ := trodVars_none hV
  have k0 := h0
  have lt0 : ∀ x ∈ p0, x.block < W.heap.size := by obtain ⟨m, hm⟩ := k0; exact DataW.trod_lt m _ _ _ hm
  obtain ⟨s0, y0, f0⟩ := open_any (t := 77) (by kernel_rfl) h0 (weigh hsz (n := 0) rfl rfl)
  obtain ⟨a0, rfl, w0⟩ := shp_chunk y0
  have g0 := rep_agg Try.underlying77 (hval 0 77 v0 rfl rfl) f0
  have k1 := h1
  have lt1 : ∀ x ∈ p1, x.block < W.heap.size := by obtain ⟨m, hm⟩ := k1; exact DataW.trod_lt m _ _ _ hm
  obtain ⟨s1, y1, f1⟩ := open_any (t := 48) (by kernel_rfl) h1 (weigh hsz (n := 1) rfl rfl)
  obtain ⟨a1, rfl, w1⟩ := shp_msg y1
  have g1 := rep_agg Try.underlying48 (hval 1 48 v1 rfl rfl) f1
  have k2 := h2
  have lt2 : ∀ x ∈ p2, x.block < W.heap.size := by obtain ⟨m, hm⟩ := k2; exact DataW.trod_lt m _ _ _ hm
  obtain ⟨s2, y2, f2⟩ := open_any (t := 46) (by kernel_rfl) h2 (weigh hsz (n := 2) rfl rfl)
  obtain ⟨a2, rfl, w2⟩ := shp_bytes y2
  have g2 := rep_slice Try.underlying46 (hval 2 46 v2 rfl rfl) f2
  have b2 : a2.length ≤ 1048576 := by simpa [stepCells, msgCells, chunkCells, intCells, byteCells] using upto_len Try.underlying46 k2 g2 (bulk_bound hk (by simp))
  clear hA0 hval0
  refine (walk W a0 v0 w0 g0 a1 v1 w1 g1 a2 v2 w2 g2 b2).mono fun e W' ⟨he, bel⟩ => ?_
  subst he
  exact ⟨_, rfl, _, _, _, [], _, [], hW', trodAll_mk1 (shut_bool Try.underlying4 _), (trodAll_cons_mk (Below.trod laidOut (by kernel_rfl) (of_decide_eq_true (by kernel_rfl)) k0 bel lt0) (trodAll_cons_mk (Below.trod laidOut (by kernel_rfl) (of_decide_eq_true (by kernel_rfl)) k1 bel lt1) (trodAll_cons_mk (Below.trod laidOut (by kernel_rfl) (of_decide_eq_true (by kernel_rfl)) k2 bel lt2) trodAll_mk0))), rfl, bel.frame _, fun h => by cases h⟩

/-- The statement. -/
theorem proved : Rows.ChunkTellsUptoSaid :=
  OpenClaim.holds_of_cond 16 Try.f16 rfl rfl rfl rfl rfl rfl rfl ⟨rfl, rfl, rfl, rfl, rfl⟩ rfl rfl rfl rfl rfl (by kernel_rfl) Try.func16 closed
    (of_decide_eq_true (by kernel_rfl)) (by unfold Func.isWrapper; first | (rw [if_pos (by decide +kernel)]; kernel_rfl) | (rw [if_neg (by decide +kernel)]; exact ⟨rfl, rfl⟩))
    (fun os started H enc _ F => lifted os started H enc F)
#print axioms proved
end Go.Proofs.Ytaadloihphpdbaa.lawChunkTells
