/- Aids for printed walks: ends with objects, calls that are lent some, ways that meet again. -/
import Derived.Test.YtaadloihphpdbaaVcRsl
set_option linter.unusedVariables false
set_option linter.unusedSimpArgs false
namespace Go.Vc
open Go Go.RowKit

theorem inc_nil {ob : List (Nat × AO)} : ∀ k o, look ([] : List (Nat × AO)) k = some o → look ob k = some o := fun k o h => by simp [look] at h
theorem inc_cons {ob r : List (Nat × AO)} {k0 : Nat} {o0 : AO} (h : look ob k0 = some o0) (hr : ∀ k o, look r k = some o → look ob k = some o) : ∀ k o, look ((k0, o0) :: r) k = some o → look ob k = some o := by
  intro k o hk
  rw [look_cons] at hk
  by_cases he : k0 = k
  · rw [if_pos he] at hk; cases hk; subst he; exact h
  · rw [if_neg he] at hk; exact hr k o hk

theorem newPar {l : List Nat} {par : List (Nat × AO)} {rl : List (Nat × Nat)} {ob' : List (Nat × AO)} (hp : l = par.map (·.1)) (h : freshPar rl ob' par = true) : ∀ k, look ob' k ≠ none → ren rl k = none → k ∉ l := by
  intro k hk hr hm
  obtain ⟨p, hpm, rfl⟩ := look_mem hk
  have := List.all_eq_true.1 h p hpm
  simp only [Bool.or_eq_true] at this
  rcases this with h1 | h1
  · exact isSome_ne h1 hr
  · rw [hp] at hm
    exact look_of_key hm (isNone_eq h1)

/-- What was handed in keeps its name. -/
theorem parOk {l : List Nat} {par : List (Nat × AO)} (hp : l = par.map (·.1)) {rl : List (Nat × Nat)} {E' E : Env} (h : (par.all fun p => (look E'.ob p.1).isNone || ((match look rl p.1 with | some k => Nat.beq p.1 k | none => false) && (look E.ob p.1).isSome)) = true) :
    ∀ k, k ∈ l → look E'.ob k ≠ none → ren rl k = some k ∧ look E.ob k ≠ none := by
  intro k hk hn
  rw [hp] at hk
  obtain ⟨p, hpm, rfl⟩ := List.mem_map.1 hk
  have := List.all_eq_true.1 h p hpm
  simp only [Bool.or_eq_true, Bool.and_eq_true] at this
  rcases this with h1 | ⟨h1, h2⟩
  · exact absurd (isNone_eq h1) hn
  · refine ⟨?_, isSome_ne h2⟩
    unfold ren
    cases hl : look rl p.1 with
    | none => rw [hl] at h1; cases h1
    | some j => rw [hl] at h1; rw [Nat.eq_of_beq_eq_true h1]

section
variable {G : Prg} {Γ : Ctx} {Q : Exit → Env → Prop} {E : Env}
/-- Ways that meet again, seen as one. -/
theorem vw_meet {x y : Code} (A : Prop) (E0 : Env) (h : VW G Γ x (fun e E' => match e with | .normal => A ∧ ∃ ρ, Wk ρ Γ.par E' E0 | e => Q e E') E) (h2 : A → VW G Γ y Q E0) : VW G Γ (.seq x y) Q E := by
  refine vw_seq (vw_mono h ?_)
  intro e E' he
  cases e with
  | normal => obtain ⟨ha, ρ, hw⟩ := he; exact vw_wk ρ hw (h2 ha)
  | _ => exact he

theorem fin' {rs : List ResultVar} {rv : List AV} {res : AV} {e : Exit} {l : List Nat} {ob' : List (Nat × AO)} (rl : List (Nat × Nat)) (he : e = .normal ∨ e = .ret) (hr : F2 (ResV G E) rs rv) (hw : Wk (ren rl) l ⟨[(0, resAV rv)], E.ob, 0⟩ ⟨[(0, res)], ob', 0⟩) :
    (e = .normal ∨ e = .ret) ∧ ∃ rv ρ, F2 (ResV G E) rs rv ∧ Wk ρ l ⟨[(0, resAV rv)], E.ob, 0⟩ ⟨[(0, res)], ob', 0⟩ := ⟨he, rv, ren rl, hr, hw⟩
end

section
variable {ob ob' : List (Nat × AO)} {ρ : Nat → Option Nat} {fz : Nat → Prop}
theorem subC {k : IntKind} {m n : Int} (h : m = n) {as bs : List AV} (r : F2 (Sub ob ob' ρ fz) as bs) : F2 (Sub ob ob' ρ fz) (.lit (.int k m) :: as) (.lit (.int k n) :: bs) := .cons (subI h) r
end

/-- A contract says less of its result; objects were lent. -/
theorem VFun.resWkO {G : Prg} {f : FuncId} {args : List AV} {ob : List (Nat × AO)} {res res2 : AV} {ob1 ob2 : List (Nat × AO)} (h : VFun G f args ob res ob1) (ρ : Nat → Option Nat) (hk : Wk ρ (ob.map (·.1)) ⟨[(0, res)], ob1, 0⟩ ⟨[(0, res2)], ob2, 0⟩) : VFun G f args ob res2 ob2 := by
  refine ⟨h.1, fun S O β w vs hH hA => (h.2 S O β w vs hH hA).mono ?_⟩
  rintro e w' ⟨x, rfl, S', O', β', hH', hx', hS1, hS2, hO', hb, hfr⟩
  obtain ⟨v, hv, hsub⟩ := hk.sl 0 res2 (by rw [look_cons, if_pos rfl])
  have hv' : v = res := by
    have : look [(0, res)] 0 = some v := hv
    rw [look_cons, if_pos rfl] at this; cases this; rfl
  subst hv'
  refine ⟨x, rfl, _, _, _, hH'.wk hk.inj (fun i j hi hj hf => hf i hi hj) hk.ob, hx'.wk hH' hsub, fun b hb => .inl (hS1 b hb), ?_, ?_, ?_, hfr⟩
  · rintro b (hb | ⟨k, _, hb⟩)
    · exact hS2 b hb
    · rcases hO' k b hb with h1 | h1
      · exact .inr (.inl h1)
      · exact .inr (.inr h1)
  · rintro i b ⟨_, k, _, hb⟩
    exact hO' k b hb
  · intro k h1 h2
    obtain ⟨h3, h4⟩ := hk.par k (look_key h1) h2
    exact (wkB_some h3 h2).trans (hb k h1 h4)
end Go.Vc
