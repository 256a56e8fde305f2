/- Proved: TextTurns holds for every input (lklaw3.TextTurns returns true, and what it reads is as it was); no condition. -/
import Derived.Test.YtaadloihphpdbaaVcLaw
import Derived.Test.YtaadloihphpdbaaWText
import Derived.Test.YtaadloihphpdbaaVcOpen
set_option linter.unusedVariables false
namespace Go.Proofs.Ytaadloihphpdbaa.lawTextTurns
open Go Go.Vc Go.RowKit Go.ChangeShapes Go.WideShapes Go.ChangeAt

theorem closed : joinedFacts Try.prog 26 Try.f26 Rows.textTurnsSpec Rows.textTurnsRow = true := by
  unfold joinedFacts
  rw [mayEnter, make_is, lifts_is]
  kernel_rfl

theorem walk (w : World) (a0 : ByteArray) (w0 : a0.size ≤ reachBytes) (a1 : Msg) (u1 : Value) (w1 : (inI a1.1 ∧ a1.2.length ≤ reachBytes)) (g1 : VRep (SW w) (fun _ => none) w (.agg (msgAV a1)) u1) (a2 : Msg) (u2 : Value) (w2 : (inI a2.1 ∧ a2.2.length ≤ reachBytes)) (g2 : VRep (SW w) (fun _ => none) w (.agg (msgAV a2)) u2) :
    Calls Try.prog 26 #[.string a0, u1, u2] w fun e w' => e = .returned (.bool true) ∧ Below w.heap.size w w' :=
  VFun.law (c26 a0.data.toList (by have e : a0.data.toList.length = a0.size := rfl; unfold reachBytes at w0; omega) a1 a2) (vs := [.string a0, u1, u2]) (.cons (.pure _ _ (.lit _ rfl)) (.cons (g1) (.cons (g2) .nil)))

set_option maxRecDepth 100000 in
theorem lifted (os : Os) (started : os.Started) (H : Type) (enc : TypeId × Value → H) :
    ReturnsInHanded {} Try.checked os 26 .any (Rows.textTurnsSpec.pre6 enc Try.prog Try.f26 Rows.textTurnsRow.domain false) (Rows.textTurnsSpec.post enc Try.prog Try.f26 false true false false) := by
  refine returnsInHanded_of_change_sized (C := Try.checked) own started (by kernel_rfl) Try.func26
    (ChangeSpec.witness6 (enc := enc) (C := Try.checked) false ⟨#[], #[.string ⟨#[]⟩, .agg #[.int .i64 0, .slice none 0 0], .agg #[.int .i64 0, .slice none 0 0]], []⟩ 8 (by kernel_rfl) (by kernel_rfl) (by kernel_rfl) (by kernel_rfl)) ?_
  intro W base args ds gs before hval0 hW hcnd hsz _
  have hval : ∀ (j : Nat) t v, Try.f26.params[j]? = some t → args[j]? = some v → Value.okWide Try.prog W .any base t v := hval0
  have hW' := hW
  obtain ⟨p, q, hA0, hV, rfl, hfz, hnd⟩ := hW
  have hA : DataW.TrodAll enc Try.prog W 0 (fun _ => true) true Try.f26.params.toList args.toList ds p := hA0
  rw [Try.params26] at hA hval
  obtain ⟨v0, vs0, d0, ds0, p0, q0, hargs, rfl, rfl, h0, r0⟩ := trodAll_cons hA
  obtain ⟨v1, vs1, d1, ds1, p1, q1, rfl, rfl, rfl, h1, r1⟩ := trodAll_cons r0
  obtain ⟨v2, vs2, d2, ds2, p2, q2, rfl, rfl, rfl, h2, r2⟩ := trodAll_cons r1
  obtain ⟨rfl, rfl, rfl⟩ := trodAll_nil r2
  obtain rfl : args = #[v0, v1, v2] := by cases args; simp_all
  obtain ⟨rfl, rfl⟩ := trodVars_none hV
  obtain ⟨a0, rfl, rfl, rfl, z0⟩ := ChangeMaps.open_string Try.underlying9 (hval 0 9 v0 rfl rfl) h0
  have w0 : a0.size ≤ reachBytes := by simpa using sized_string hsz (j := 0) (t := 9) (bytes := a0.data.toList) rfl rfl
  have k1 := h1
  have lt1 : ∀ x ∈ p1, x.block < W.heap.size := by obtain ⟨m, hm⟩ := k1; exact DataW.trod_lt m _ _ _ hm
  obtain ⟨s1, y1, f1⟩ := open_any (t := 48) (by kernel_rfl) h1 (weigh hsz (n := 1) rfl rfl)
  obtain ⟨a1, rfl, w1⟩ := shp_msg y1
  have g1 := rep_agg Try.underlying48 (hval 1 48 v1 rfl rfl) f1
  have k2 := h2
  have lt2 : ∀ x ∈ p2, x.block < W.heap.size := by obtain ⟨m, hm⟩ := k2; exact DataW.trod_lt m _ _ _ hm
  obtain ⟨s2, y2, f2⟩ := open_any (t := 48) (by kernel_rfl) h2 (weigh hsz (n := 2) rfl rfl)
  obtain ⟨a2, rfl, w2⟩ := shp_msg y2
  have g2 := rep_agg Try.underlying48 (hval 2 48 v2 rfl rfl) f2
  clear hA0 hval0
  refine (walk W a0 w0 a1 v1 w1 g1 a2 v2 w2 g2).mono fun e W' ⟨he, bel⟩ => ?_
  subst he
  exact ⟨_, rfl, _, _, _, [], _, [], hW', trodAll_mk1 (shut_bool Try.underlying4 _), (trodAll_cons_mk (ChangeMaps.shut_string Try.underlying9 z0) (trodAll_cons_mk (Below.trod laidOut (by kernel_rfl) (of_decide_eq_true (by kernel_rfl)) k1 bel lt1) (trodAll_cons_mk (Below.trod laidOut (by kernel_rfl) (of_decide_eq_true (by kernel_rfl)) k2 bel lt2) trodAll_mk0))), rfl, bel.frame _, fun h => by cases h⟩

theorem over : Rows.textTurnsRow.holds Try.pinned (OpenSpec.ofChange Rows.textTurnsSpec) :=
  OpenClaim.holds_of_wide 26 Try.f26 rfl rfl rfl rfl rfl rfl rfl ⟨rfl, rfl, rfl, rfl, rfl⟩ rfl rfl rfl rfl rfl (by kernel_rfl) Try.func26 closed
    (of_decide_eq_true (by kernel_rfl)) (by unfold Func.isWrapper; first | (rw [if_pos (by decide +kernel)]; kernel_rfl) | (rw [if_neg (by decide +kernel)]; exact ⟨rfl, rfl⟩))
    (fun os started H enc _ => lifted os started H enc)

/-- The statement. -/
theorem proved : Rows.TextTurnsSaid := over
#print axioms proved
end Go.Proofs.Ytaadloihphpdbaa.lawTextTurns
