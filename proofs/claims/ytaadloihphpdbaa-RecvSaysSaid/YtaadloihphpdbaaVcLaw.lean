/- The frame of the laws: closed facts of the program, and how a contract becomes what a row asks. -/
import Derived.Test.YtaadloihphpdbaaRows
import Derived.Test.YtaadloihphpdbaaVcB
import Derived.Test.YtaadloihphpdbaaVcTab
import Derived.WalkKit
import Derived.ProofKit
import Derived.OpenShut
import Derived.ShutString
import Derived.ChangeOld
import Derived.Below
set_option linter.unusedVariables false
namespace Go.Proofs.Ytaadloihphpdbaa
open Go Go.Vc Go.RowKit Go.ChangeShapes Go.WideShapes Go.ChangeAt

theorem own : ownKnob Try.prog.godebug = none := by kernel_rfl
theorem laidOut : laidOutB Try.prog = true := by kernel_rfl

theorem wordsSigns_app : ∀ (w r : List Char), (w.all fun c => !(c == Char.ofNat 32)) = true → wordsSigns (w ++ Char.ofNat 32 :: r) = w :: wordsSigns r
  | [], r, _ => rfl
  | c :: w, r, h => by
    have h' : (!(c == Char.ofNat 32)) = true ∧ (w.all fun c => !(c == Char.ofNat 32)) = true := by simpa using h
    have hc : c ≠ Char.ofNat 32 := by
      intro e; rw [e] at h'; exact absurd h'.1 (by decide)
    have ih := wordsSigns_app w r h'.2
    show wordsSigns (c :: (w ++ Char.ofNat 32 :: r)) = _
    rw [wordsSigns]
    · rw [ih]
    · exact hc

/-- The text, parted behind its first n signs. -/
def partsAt (n : Nat) (l : List Char) : Prop := l = l.take n ++ Char.ofNat 32 :: l.drop (n + 1) ∧ ((l.take n).all fun c => !(c == Char.ofNat 32)) = true

theorem wordsSigns_at {n : Nat} {l : List Char} (h : partsAt n l) : wordsSigns l = l.take n :: wordsSigns (l.drop (n + 1)) := by
  have := wordsSigns_app (l.take n) (l.drop (n + 1)) h.2
  rwa [← h.1] at this

set_option maxRecDepth 100000 in
theorem words : ∃ rest, behindMainWord (wordsSigns Try.prog.initOrder.toList) = "cut".toList :: rest := by
  obtain ⟨l, hl, h1, h2, h3, h4, h5, h6⟩ : ∃ l, Try.prog.initOrder = String.ofList l ∧ partsAt 7 l ∧ partsAt 64 (l.drop 8) ∧ partsAt 3 ((l.drop 8).drop 65) ∧ (l.take 7 == "harness".toList) = true ∧ isSumSigns ((l.drop 8).take 64) = true ∧ ((l.drop 8).drop 65).take 3 = "cut".toList :=
    ⟨_, rfl, ⟨by kernel_rfl, by kernel_rfl⟩, ⟨by kernel_rfl, by kernel_rfl⟩, ⟨by kernel_rfl, by kernel_rfl⟩, by kernel_rfl, by kernel_rfl, by kernel_rfl⟩
  rw [hl, String.toList_ofList, wordsSigns_at h1, wordsSigns_at h2, wordsSigns_at h3, h6]
  refine ⟨wordsSigns (List.drop (3 + 1) (List.drop 65 (List.drop 8 l))), ?_⟩
  generalize List.drop (3 + 1) (List.drop 65 (List.drop 8 l)) = z
  unfold behindMainWord
  simp only [h4, h5, Bool.true_or, Bool.and_self, if_true]

theorem strips (rest : List (List Char)) : stripLifts liftWords ("cut".toList :: rest) = ([], "cut".toList :: rest) := by kernel_rfl
theorem may1 : Try.prog.laysLater = false := by kernel_rfl
theorem may2 : Try.prog.bearsReflect = false := by kernel_rfl
theorem may3 : Try.prog.doorFits [] = true := by kernel_rfl
section
variable {P : Program} {rest : List (List Char)} (h : behindMainWord (wordsSigns P.initOrder.toList) = "cut".toList :: rest)
include h
theorem mayEnter_of (h1 : P.laysLater = false) (h2 : P.bearsReflect = false) (h3 : P.doorFits [] = true) : P.mayEnter = true := by
  unfold Program.mayEnter
  rw [h]
  simp only [strips, h3]
  simp [h1, h2]
theorem make_of : P.make = some .cut := by
  unfold Program.make
  rw [h]
  kernel_rfl
theorem head_of : P.headLifts = [] := by
  unfold Program.headLifts
  rw [h, strips]
  kernel_rfl
theorem lifts_of : P.liftsFinal = false := by
  unfold Program.liftsFinal
  rw [h, head_of h]
  kernel_rfl
end
theorem mayEnter : Try.prog.mayEnter = true := let ⟨_, h⟩ := words; mayEnter_of h may1 may2 may3
theorem make_is : Try.prog.make = some .cut := let ⟨_, h⟩ := words; make_of h
theorem lifts_is : Try.prog.liftsFinal = false := let ⟨_, h⟩ := words; lifts_of h

theorem Fr.below {w w' : World} (h : Fr (fun _ => False) w w') : Below w.heap.size w w' := ⟨h.os, h.tape, h.output, h.size, fun k hk => h.block k hk id⟩

theorem wfI {n : Int} (h : (Lit.int .i64 n).wf = true) : inI n := by
  have h2 : (decide (IntKind.min .i64 ≤ n) && decide (n ≤ IntKind.max .i64)) = true := h
  have := (Bool.and_eq_true _ _).mp h2
  have := And.intro (of_decide_eq_true this.1) (of_decide_eq_true this.2)
  have e1 : IntKind.min .i64 = -9223372036854775808 := by decide
  have e2 : IntKind.max .i64 = 9223372036854775807 := by decide
  rw [e1, e2] at this; exact this

/-- What there is may be read. -/
def SW (w : World) : Nat → Prop := fun b => b < w.heap.size

theorem VFun.law {f : FuncId} {args : List AV} (h : VFun G f args [] (.lit (.bool true)) []) {vs : List Value} {w : World} (hA : F2 (fun c x => VRep (SW w) (fun _ => none) w c x) args vs) :
    Calls Try.prog f vs.toArray w fun e w' => e = .returned (.bool true) ∧ Below w.heap.size w w' := by
  refine (h.2 (SW w) (fun _ _ => False) (fun _ => none) w vs (hrep_nil fun b hb => hb) hA).mono ?_
  rintro e w' ⟨x, rfl, S', O', β', hH, hx, _, _, _, _, hfr⟩
  obtain ⟨rfl, _⟩ := hx.lit_inv
  exact ⟨rfl, Fr.below (hfr.weaken fun b ⟨_, hf⟩ => hf)⟩
end Go.Proofs.Ytaadloihphpdbaa
