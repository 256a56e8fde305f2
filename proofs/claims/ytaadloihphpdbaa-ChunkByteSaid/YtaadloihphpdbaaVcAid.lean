/- Aids for walks: comparisons that part the way; loops; ends. -/
import Derived.Test.YtaadloihphpdbaaVcUse
set_option linter.unusedSimpArgs false
set_option linter.unusedVariables false
namespace Go.Vc
open Go Go.RowKit

section
variable {G : Prg} {Γ : Ctx} {ops : Array Oper} {fin : List Lg → Prop} {K : Env → Prop} {os : List Oper} {log : List Lg} {sl : List (Nat × AV)} {ob : List (Nat × AO)} {nn : Nat} {d : Nat} {ty : TypeId} {pos : String} {aft : Array Edge} {gd : Option (Nat × Bool)}

section
variable {t yt : TypeId} {x y : Operand} {k : IntKind} {m n : Int} (hx : evo (look sl) x = some (.lit (.int k m))) (hy : evo (look sl) y = some (.lit (.int k n))) (hd : Nat.blt d nn = true) (hg : GOk ops sl nn gd)
include hx hy hd hg
theorem s_lss (hT : m < n → VR G Γ ops fin K os (log ++ [⟨some d, gsl ops gd ++ (sl1 x ++ sl1 y), [], []⟩]) ⟨(d, .lit (.bool true)) :: sl, ob, nn⟩) (hF : n ≤ m → VR G Γ ops fin K os (log ++ [⟨some d, gsl ops gd ++ (sl1 x ++ sl1 y), [], []⟩]) ⟨(d, .lit (.bool false)) :: sl, ob, nn⟩) :
    VR G Γ ops fin K (⟨some d, .binOp .lss t x y yt, ty, pos, aft, gd⟩ :: os) log ⟨sl, ob, nn⟩ := by
  refine u_lss hx hy hd hg ?_
  by_cases h : m < n
  · rw [decide_eq_true h]; exact hT h
  · rw [decide_eq_false h]; exact hF (by omega)
theorem s_leq (hT : m ≤ n → VR G Γ ops fin K os (log ++ [⟨some d, gsl ops gd ++ (sl1 x ++ sl1 y), [], []⟩]) ⟨(d, .lit (.bool true)) :: sl, ob, nn⟩) (hF : n < m → VR G Γ ops fin K os (log ++ [⟨some d, gsl ops gd ++ (sl1 x ++ sl1 y), [], []⟩]) ⟨(d, .lit (.bool false)) :: sl, ob, nn⟩) :
    VR G Γ ops fin K (⟨some d, .binOp .leq t x y yt, ty, pos, aft, gd⟩ :: os) log ⟨sl, ob, nn⟩ := by
  refine u_leq hx hy hd hg ?_
  by_cases h : m ≤ n
  · rw [decide_eq_true h]; exact hT h
  · rw [decide_eq_false h]; exact hF (by omega)
theorem s_gtr (hT : n < m → VR G Γ ops fin K os (log ++ [⟨some d, gsl ops gd ++ (sl1 x ++ sl1 y), [], []⟩]) ⟨(d, .lit (.bool true)) :: sl, ob, nn⟩) (hF : m ≤ n → VR G Γ ops fin K os (log ++ [⟨some d, gsl ops gd ++ (sl1 x ++ sl1 y), [], []⟩]) ⟨(d, .lit (.bool false)) :: sl, ob, nn⟩) :
    VR G Γ ops fin K (⟨some d, .binOp .gtr t x y yt, ty, pos, aft, gd⟩ :: os) log ⟨sl, ob, nn⟩ := by
  refine u_gtr hx hy hd hg ?_
  by_cases h : n < m
  · rw [decide_eq_true h]; exact hT h
  · rw [decide_eq_false h]; exact hF (by omega)
theorem s_geq (hT : n ≤ m → VR G Γ ops fin K os (log ++ [⟨some d, gsl ops gd ++ (sl1 x ++ sl1 y), [], []⟩]) ⟨(d, .lit (.bool true)) :: sl, ob, nn⟩) (hF : m < n → VR G Γ ops fin K os (log ++ [⟨some d, gsl ops gd ++ (sl1 x ++ sl1 y), [], []⟩]) ⟨(d, .lit (.bool false)) :: sl, ob, nn⟩) :
    VR G Γ ops fin K (⟨some d, .binOp .geq t x y yt, ty, pos, aft, gd⟩ :: os) log ⟨sl, ob, nn⟩ := by
  refine u_geq hx hy hd hg ?_
  by_cases h : n ≤ m
  · rw [decide_eq_true h]; exact hT h
  · rw [decide_eq_false h]; exact hF (by omega)
theorem s_eql (hT : m = n → VR G Γ ops fin K os (log ++ [⟨some d, gsl ops gd ++ (sl1 x ++ sl1 y), [], []⟩]) ⟨(d, .lit (.bool true)) :: sl, ob, nn⟩) (hF : m ≠ n → VR G Γ ops fin K os (log ++ [⟨some d, gsl ops gd ++ (sl1 x ++ sl1 y), [], []⟩]) ⟨(d, .lit (.bool false)) :: sl, ob, nn⟩) :
    VR G Γ ops fin K (⟨some d, .binOp .eql t x y yt, ty, pos, aft, gd⟩ :: os) log ⟨sl, ob, nn⟩ := by
  refine u_eql hx hy hd hg ?_
  by_cases h : m = n
  · rw [beq_iff_eq.2 h]; exact hT h
  · rw [beq_eq_false_iff_ne.2 h]; exact hF h
theorem s_neq (hT : m ≠ n → VR G Γ ops fin K os (log ++ [⟨some d, gsl ops gd ++ (sl1 x ++ sl1 y), [], []⟩]) ⟨(d, .lit (.bool true)) :: sl, ob, nn⟩) (hF : m = n → VR G Γ ops fin K os (log ++ [⟨some d, gsl ops gd ++ (sl1 x ++ sl1 y), [], []⟩]) ⟨(d, .lit (.bool false)) :: sl, ob, nn⟩) :
    VR G Γ ops fin K (⟨some d, .binOp .neq t x y yt, ty, pos, aft, gd⟩ :: os) log ⟨sl, ob, nn⟩ := by
  refine u_neq hx hy hd hg ?_
  by_cases h : m = n
  · rw [show (m != n) = false by simp [h]]; exact hF h
  · rw [show (m != n) = true by simp [h]]; exact hT h
end

/-- A call that answers yes or no. -/
theorem s_call {f : FuncId} {xs : List Operand} {args as : List AV} {b : Bool} {ats : Array TypeId} (ob0 : List (Nat × AO)) (hx : evoA (look sl) xs = some as) (hV : VFun G f args [] (.lit (.bool b)) []) (hsub : F2 (Sub ob0 [] (fun _ => none) (fun k => look ob0 k ≠ none)) args as)
    (hob : ∀ k o, look ob0 k = some o → look ob k = some o) (hd : Nat.blt d nn = true) (hg : GOk ops sl nn gd)
    (hT : b = true → VR G Γ ops fin K os (log ++ [⟨some d, gsl ops gd ++ (xs.flatMap sl1), ob0.map (·.1), []⟩]) ⟨(d, .lit (.bool true)) :: sl, ob, nn⟩) (hF : b = false → VR G Γ ops fin K os (log ++ [⟨some d, gsl ops gd ++ (xs.flatMap sl1), ob0.map (·.1), []⟩]) ⟨(d, .lit (.bool false)) :: sl, ob, nn⟩) :
    VR G Γ ops fin K (⟨some d, .call { callee := .value (.func f), args := xs.toArray, argTypes := ats }, ty, pos, aft, gd⟩ :: os) log ⟨sl, ob, nn⟩ := by
  refine u_callB ob0 hx hV hsub hob rfl hd hg ?_
  cases b
  · exact hF rfl
  · exact hT rfl

/-- A pick whose test is known. -/
theorem u_pickT {c x y : Operand} {v : AV} (hc : evo (look sl) c = some (.lit (.bool true))) (hx : evo (look sl) x = some v) (hd : Nat.blt d nn = true) (hg : GOk ops sl nn gd) (kk' : VR G Γ ops fin K os (log ++ [⟨some d, gsl ops gd ++ (sl1 c ++ sl1 x ++ sl1 y), [], []⟩]) ⟨(d, v) :: sl, ob, nn⟩) :
    VR G Γ ops fin K (⟨some d, .pick c x y, ty, pos, aft, gd⟩ :: os) log ⟨sl, ob, nn⟩ := u_pick (b := true) hc hx hd hg kk'
theorem u_pickF {c x y : Operand} {v : AV} (hc : evo (look sl) c = some (.lit (.bool false))) (hy : evo (look sl) y = some v) (hd : Nat.blt d nn = true) (hg : GOk ops sl nn gd) (kk' : VR G Γ ops fin K os (log ++ [⟨some d, gsl ops gd ++ (sl1 c ++ sl1 x ++ sl1 y), [], []⟩]) ⟨(d, v) :: sl, ob, nn⟩) :
    VR G Γ ops fin K (⟨some d, .pick c x y, ty, pos, aft, gd⟩ :: os) log ⟨sl, ob, nn⟩ := u_pick (b := false) hc hy hd hg kk'
end

/-! ### Seeing less, as lists -/
def WkS (E : Env) (ob' : List (Nat × AO)) (ρ : Nat → Option Nat) : List (Nat × AV) → Prop
  | [] => True
  | (t, v') :: r => (∃ v, look E.sl t = some v ∧ Sub E.ob ob' ρ (fzAll ρ ob') v' v) ∧ WkS E ob' ρ r

theorem WkS.get {E : Env} {ob' : List (Nat × AO)} {ρ : Nat → Option Nat} : ∀ {sl' : List (Nat × AV)}, WkS E ob' ρ sl' → ∀ t v', look sl' t = some v' → ∃ v, look E.sl t = some v ∧ Sub E.ob ob' ρ (fzAll ρ ob') v' v
  | [], _, t, v', h => by simp [look] at h
  | (t0, v0) :: r, hw, t, v', h => by
    rw [look_cons] at h
    by_cases he : t0 = t
    · rw [if_pos he] at h; cases h; subst he; exact hw.1
    · rw [if_neg he] at h; exact WkS.get hw.2 t v' h

def WkO (E : Env) (ob' : List (Nat × AO)) (ρ : Nat → Option Nat) : List (Nat × AO) → Prop
  | [] => True
  | (i, o') :: r => SubO E.ob ob' ρ (fzAll ρ ob') i o' ∧ WkO E ob' ρ r

theorem WkO.get {E : Env} {ob' : List (Nat × AO)} {ρ : Nat → Option Nat} : ∀ {l : List (Nat × AO)}, WkO E ob' ρ l → ∀ i o', look l i = some o' → SubO E.ob ob' ρ (fzAll ρ ob') i o'
  | [], _, t, v', h => by simp [look] at h
  | (t0, v0) :: r, hw, t, v', h => by
    rw [look_cons] at h
    by_cases he : t0 = t
    · rw [if_pos he] at h; cases h; subst he; exact hw.1
    · rw [if_neg he] at h; exact WkO.get hw.2 t v' h

/-- New names for elder ones, as a list of pairs. -/
def ren (l : List (Nat × Nat)) : Nat → Option Nat := look l

def injL (l : List (Nat × Nat)) : Bool := match l with
  | [] => true
  | p :: r => (r.all fun q => !(Nat.beq p.2 q.2)) && injL r

theorem ren_inj : ∀ (l : List (Nat × Nat)), injL l = true → ∀ i j k, ren l i = some k → ren l j = some k → i = j
  | [], _, i, j, k, h, _ => by simp [ren, look] at h
  | p :: r, hl, i, j, k, hi, hj => by
    have hl' : (r.all fun q => !(Nat.beq p.2 q.2)) = true ∧ injL r = true := by simpa [injL] using hl
    have memr : ∀ (l : List (Nat × Nat)) (i k : Nat), look l i = some k → ∃ q ∈ l, q.2 = k := by
      intro l
      induction l with
      | nil => intro i k h; simp [look] at h
      | cons q l ih =>
        intro i k h
        rw [look_cons] at h
        by_cases he : q.1 = i
        · rw [if_pos he] at h; cases h; exact ⟨q, by simp, rfl⟩
        · rw [if_neg he] at h; obtain ⟨q', h1, h2⟩ := ih i k h; exact ⟨q', by simp [h1], h2⟩
    have no : ∀ i k, look r i = some k → p.2 ≠ k := by
      intro i k h e
      obtain ⟨q, hq, hk⟩ := memr r i k h
      have := List.all_eq_true.1 hl'.1 q hq
      rw [hk, ← e] at this
      simp [Nat.beq_refl] at this
    unfold ren at hi hj
    rw [look_cons] at hi hj
    by_cases h1 : p.1 = i
    · rw [if_pos h1] at hi
      by_cases h2 : p.1 = j
      · exact h1.symm.trans h2
      · rw [if_neg h2] at hj; cases hi; exact absurd rfl (no j _ hj)
    · rw [if_neg h1] at hi
      by_cases h2 : p.1 = j
      · rw [if_pos h2] at hj; cases hj; exact absurd rfl (no i _ hi)
      · rw [if_neg h2] at hj; exact ren_inj r hl'.2 i j k hi hj

theorem mk_wk {par : List Nat} {E E' : Env} (l : List (Nat × Nat)) (hi : injL l = true) (hn : E'.n = E.n) (hs : WkS E E'.ob (ren l) E'.sl) (ho : WkO E E'.ob (ren l) E'.ob) (hp : ∀ k, k ∈ par → look E'.ob k ≠ none → ren l k = some k ∧ look E.ob k ≠ none) : Wk (ren l) par E E' :=
  ⟨hn, fun i j k _ _ h1 h2 => ren_inj l hi i j k h1 h2, ho.get, hs.get, hp⟩

theorem no_par {E' E : Env} {ρ : Nat → Option Nat} : ∀ k, k ∈ ([] : List Nat) → look E'.ob k ≠ none → ρ k = some k ∧ look E.ob k ≠ none := fun k h => by simp at h

section
variable {G : Prg} {Γ : Ctx} {Q : Exit → Env → Prop} {E : Env}

/-- A loop, its head seen as F x for an x that meets I. -/
theorem vw_loopI {c : Code} {α : Type} (I : α → Prop) (F : α → Env) (m : α → Nat) (x0 : α) (h0 : I x0) (ρ : Nat → Option Nat) (hk : Wk ρ Γ.par E (F x0))
    (round : ∀ x, I x → VW G Γ c (fun e E' => match e with | .normal => ∃ y ρ', I y ∧ m y < m x ∧ Wk ρ' Γ.par E' (F y) | e => Q e E') (F x)) : VW G Γ (.loop c) Q E := by
  refine vw_loop (α := {x : α // I x}) (fun x => F x.1) (fun x => m x.1) ⟨x0, h0⟩ ρ hk fun x => vw_mono (round x.1 x.2) ?_
  intro e E' h
  cases e with
  | normal => obtain ⟨y, ρ', hy, hm, hw⟩ := h; exact ⟨⟨y, hy⟩, ρ', hm, hw⟩
  | _ => exact h

/-- The end of a function without objects handed in or out. -/
theorem fin0 {rs : List ResultVar} {rv : List AV} {res : AV} {e : Exit} (he : e = .normal ∨ e = .ret) (hr : F2 (ResV G E) rs rv) (hs : Sub E.ob [] (ren []) (fzAll (ren []) []) res (resAV rv)) :
    (e = .normal ∨ e = .ret) ∧ ∃ rv ρ, F2 (ResV G E) rs rv ∧ Wk ρ (([] : List (Nat × AO)).map (·.1)) ⟨[(0, resAV rv)], E.ob, 0⟩ ⟨[(0, res)], [], 0⟩ :=
  ⟨he, rv, ren [], hr, mk_wk [] rfl rfl ⟨⟨_, rfl, hs⟩, trivial⟩ trivial no_par⟩

theorem fz0 {k : Nat} : fzAll (ren []) [] k := fun i h => absurd rfl h
end

/-- Sub for lists of literals and such. -/
theorem F2.one {α γ : Type} {R : α → γ → Prop} {a : α} {b : γ} (h : R a b) : F2 R [a] [b] := .cons h .nil
end Go.Vc
