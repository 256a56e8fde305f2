/- Proved: RecvOrder holds for every input (lklaw6.RecvOrder returns true, and what it reads is as it was); no condition. -/
import Derived.Test.YtaadloihphpdbaaVcLaw
import Derived.Test.YtaadloihphpdbaaWRecv4
import Derived.Test.YtaadloihphpdbaaVcOpen
set_option linter.unusedVariables false
namespace Go.Proofs.Ytaadloihphpdbaa.lawRecvOrder
open Go Go.Vc Go.RowKit Go.ChangeShapes Go.WideShapes Go.ChangeAt

theorem closed : joinedFacts Try.prog 30 Try.f30 Rows.recvOrderSpec Rows.recvOrderRow = true := by
  unfold joinedFacts
  rw [mayEnter, make_is, lifts_is]
  kernel_rfl

theorem walk (w : World) (a0 : List Msg) (u0 : Value) (w0 : (a0.length * 32 ≤ reachBytes ∧ ∀ m ∈ a0, inI m.1 ∧ m.2.length ≤ reachBytes)) (g0 : VRep (SW w) (fun _ => none) w (.shr 2 (msgCells a0)) u0) (a1 : List Int) (u1 : Value) (w1 : (a1.length * 8 ≤ reachBytes ∧ ∀ n ∈ a1, inI n)) (g1 : VRep (SW w) (fun _ => none) w (.shr 1 (intCells a1)) u1) :
    Calls Try.prog 30 #[u0, u1] w fun e w' => e = .returned (.bool true) ∧ Below w.heap.size w w' :=
  VFun.law (c30 a0 a1) (vs := [u0, u1]) (.cons (g0) (.cons (g1) .nil))

set_option maxRecDepth 100000 in
theorem lifted (os : Os) (started : os.Started) (H : Type) (enc : TypeId × Value → H) :
    ReturnsInHanded {} Try.checked os 30 .any (Rows.recvOrderSpec.pre6 enc Try.prog Try.f30 Rows.recvOrderRow.domain false) (Rows.recvOrderSpec.post enc Try.prog Try.f30 false true false false) := by
  refine returnsInHanded_of_change_sized (C := Try.checked) own started (by kernel_rfl) Try.func30
    (ChangeSpec.witness6 (enc := enc) (C := Try.checked) false ⟨#[], #[.slice none 0 0, .slice none 0 0], []⟩ 8 (by kernel_rfl) (by kernel_rfl) (by kernel_rfl) (by kernel_rfl)) ?_
  intro W base args ds gs before hval0 hW hcnd hsz _
  have hval : ∀ (j : Nat) t v, Try.f30.params[j]? = some t → args[j]? = some v → Value.okWide Try.prog W .any base t v := hval0
  have hW' := hW
  obtain ⟨p, q, hA0, hV, rfl, hfz, hnd⟩ := hW
  have hA : DataW.TrodAll enc Try.prog W 0 (fun _ => true) true Try.f30.params.toList args.toList ds p := hA0
  rw [Try.params30] at hA hval
  obtain ⟨v0, vs0, d0, ds0, p0, q0, hargs, rfl, rfl, h0, r0⟩ := trodAll_cons hA
  obtain ⟨v1, vs1, d1, ds1, p1, q1, rfl, rfl, rfl, h1, r1⟩ := trodAll_cons r0
  obtain ⟨rfl, rfl, rfl⟩ := trodAll_nil r1
  obtain rfl : args = #[v0, v1] := by cases args; simp_all
  obtain ⟨rfl, rfl⟩ := trodVars_none hV
  have k0 := h0
  have lt0 : ∀ x ∈ p0, x.block < W.heap.size := by obtain ⟨m, hm⟩ := k0; exact DataW.trod_lt m _ _ _ hm
  obtain ⟨s0, y0, f0⟩ := open_any (t := 29) (by kernel_rfl) h0 (weigh hsz (n := 0) rfl rfl)
  obtain ⟨a0, rfl, w0⟩ := shp_msgs y0
  have g0 := rep_slice Try.underlying29 (hval 0 29 v0 rfl rfl) f0
  have k1 := h1
  have lt1 : ∀ x ∈ p1, x.block < W.heap.size := by obtain ⟨m, hm⟩ := k1; exact DataW.trod_lt m _ _ _ hm
  obtain ⟨s1, y1, f1⟩ := open_any (t := 34) (by kernel_rfl) h1 (weigh hsz (n := 1) rfl rfl)
  obtain ⟨a1, rfl, w1⟩ := shp_ints y1
  have g1 := rep_slice Try.underlying34 (hval 1 34 v1 rfl rfl) f1
  clear hA0 hval0
  refine (walk W a0 v0 w0 g0 a1 v1 w1 g1).mono fun e W' ⟨he, bel⟩ => ?_
  subst he
  exact ⟨_, rfl, _, _, _, [], _, [], hW', trodAll_mk1 (shut_bool Try.underlying4 _), (trodAll_cons_mk (Below.trod laidOut (by kernel_rfl) (of_decide_eq_true (by kernel_rfl)) k0 bel lt0) (trodAll_cons_mk (Below.trod laidOut (by kernel_rfl) (of_decide_eq_true (by kernel_rfl)) k1 bel lt1) trodAll_mk0)), rfl, bel.frame _, fun h => by cases h⟩

theorem over : Rows.recvOrderRow.holds Try.pinned (OpenSpec.ofChange Rows.recvOrderSpec) :=
  OpenClaim.holds_of_wide 30 Try.f30 rfl rfl rfl rfl rfl rfl rfl ⟨rfl, rfl, rfl, rfl, rfl⟩ rfl rfl rfl rfl rfl (by kernel_rfl) Try.func30 closed
    (of_decide_eq_true (by kernel_rfl)) (by unfold Func.isWrapper; first | (rw [if_pos (by decide +kernel)]; kernel_rfl) | (rw [if_neg (by decide +kernel)]; exact ⟨rfl, rfl⟩))
    (fun os started H enc _ => lifted os started H enc)

/-- The statement. -/
theorem proved : Rows.RecvOrderSaid := over
#print axioms proved
end Go.Proofs.Ytaadloihphpdbaa.lawRecvOrder
