/- More aids for printed walks: loops and joins by a relation, ends, what is decided by counting. -/
import Derived.Test.YtaadloihphpdbaaVcAid
set_option linter.unusedSimpArgs false
set_option linter.unusedVariables false
namespace Go.Vc
open Go Go.RowKit

section
variable {G : Prg} {Γ : Ctx} {Q : Exit → Env → Prop} {E : Env}

theorem vw_loopR {c : Code} (R : Nat → Env → Prop) {n0 : Nat} {E0 : Env} (h0 : R n0 E0) (ρ : Nat → Option Nat) (hk : Wk ρ Γ.par E E0)
    (round : ∀ n E, R n E → VW G Γ c (fun e E' => match e with | .normal => ∃ n' E'' ρ', n' < n ∧ R n' E'' ∧ Wk ρ' Γ.par E' E'' | e => Q e E') E) : VW G Γ (.loop c) Q E := by
  refine vw_loop (α := {x : Nat × Env // R x.1 x.2}) (fun x => x.1.2) (fun x => x.1.1) ⟨(n0, E0), h0⟩ ρ hk fun x => vw_mono (round x.1.1 x.1.2 x.2) ?_
  intro e E' h
  cases e with
  | normal => obtain ⟨n', E'', ρ', hm, hr, hw⟩ := h; exact ⟨⟨(n', E''), hr⟩, ρ', hm, hw⟩
  | _ => exact h

/-- What comes first ends in one of R's environments, seen less. -/
theorem vw_join {x y : Code} (R : Env → Prop) (h : VW G Γ x (fun e E' => match e with | .normal => ∃ E'' ρ, R E'' ∧ Wk ρ Γ.par E' E'' | e => Q e E') E) (h2 : ∀ E', R E' → VW G Γ y Q E') : VW G Γ (.seq x y) Q E := by
  refine vw_seq (vw_mono h ?_)
  intro e E' he
  cases e with
  | normal => obtain ⟨E'', ρ, hr, hw⟩ := he; exact vw_wk ρ hw (h2 E'' hr)
  | _ => exact he

theorem vw_condT {c : Operand} {x y : Code} (hc : evo (look E.sl) c = some (.lit (.bool true))) (h : VW G Γ x Q E) : VW G Γ (.cond c x y) Q E :=
  vw_cond hc (fun _ => h) (fun e => by cases e)
theorem vw_condF {c : Operand} {x y : Code} (hc : evo (look E.sl) c = some (.lit (.bool false))) (h : VW G Γ y Q E) : VW G Γ (.cond c x y) Q E :=
  vw_cond hc (fun e => by cases e) (fun _ => h)
end

theorem iteP {c : Prop} [Decidable c] {a b : Prop} (h : c) (ha : a) : if c then a else b := by rw [if_pos h]; exact ha
theorem iteN {c : Prop} [Decidable c] {a b : Prop} (h : ¬ c) (hb : b) : if c then a else b := by rw [if_neg h]; exact hb

theorem lookNe {α : Type} {l : List (Nat × α)} {k : Nat} {o : α} (h : look l k = some o) : look l k ≠ none := by rw [h]; simp
theorem rowEq {ob : List (Nat × AO)} {k : Nat} {e : TypeId} {sz : Nat} {xs ys : List (List AV)} (h : look ob k = some (.row e sz xs)) (he : xs = ys) : look ob k = some (.row e sz ys) := he ▸ h

def fzB (ob' : List (Nat × AO)) (l : List (Nat × Nat)) (k : Nat) : Bool := ob'.all fun p => match look l p.1 with
  | some j => !(Nat.beq j k)
  | none => true

theorem look_mem {α : Type} : ∀ {l : List (Nat × α)} {i : Nat}, look l i ≠ none → ∃ p ∈ l, p.1 = i
  | [], i, h => absurd rfl h
  | p :: r, i, h => by
    rw [look_cons] at h
    by_cases he : p.1 = i
    · exact ⟨p, by simp, he⟩
    · rw [if_neg he] at h; obtain ⟨q, h1, h2⟩ := look_mem h; exact ⟨q, by simp [h1], h2⟩

theorem fzL {ob' : List (Nat × AO)} {l : List (Nat × Nat)} {k : Nat} (h : fzB ob' l k = true) : fzAll (ren l) ob' k := by
  intro i hi he
  obtain ⟨p, hp, rfl⟩ := look_mem hi
  have := List.all_eq_true.1 h p hp
  unfold ren at he
  rw [he] at this
  simp [Nat.beq_refl] at this

theorem notPar {l : List Nat} {k : Nat} {ob : List (Nat × AO)} (hp : l = ob.map (·.1)) (h : (ob.all fun p => !(Nat.beq p.1 k)) = true) : k ∉ l := by
  rw [hp]
  intro hm
  obtain ⟨p, hp, rfl⟩ := List.mem_map.1 hm
  have := List.all_eq_true.1 h p hp
  simp [Nat.beq_refl] at this

theorem no_par' {l : List Nat} (hp : l = (([] : List (Nat × AO)).map (·.1))) {E' E : Env} {ρ : Nat → Option Nat} : ∀ k, k ∈ l → look E'.ob k ≠ none → ρ k = some k ∧ look E.ob k ≠ none := fun k h => by rw [hp] at h; simp at h

theorem srcRow {ob : List (Nat × AO)} {k : Nat} {e : TypeId} {sz : Nat} {ys : List (List AV)} (h : look ob k = some (.row e sz ys)) : SrcA ob (.row k) sz ys [k] := .row k e sz ys h

theorem sub1 {ob : List (Nat × AO)} {k0 : Nat} {o0 : AO} (h : look ob k0 = some o0) : ∀ k o, look [(k0, o0)] k = some o → look ob k = some o := by
  intro k o hk
  rw [look_cons] at hk
  by_cases he : k0 = k
  · rw [if_pos he] at hk; cases hk; subst he; exact h
  · rw [if_neg he] at hk; simp [look] at hk

theorem sub2 {ob : List (Nat × AO)} {k0 k1 : Nat} {o0 o1 : AO} (h : look ob k0 = some o0) (h1 : look ob k1 = some o1) : ∀ k o, look [(k0, o0), (k1, o1)] k = some o → look ob k = some o := by
  intro k o hk
  rw [look_cons] at hk
  by_cases he : k0 = k
  · rw [if_pos he] at hk; cases hk; subst he; exact h
  · rw [if_neg he] at hk; exact sub1 h1 k o hk

section
variable {ob ob' : List (Nat × AO)} {ρ : Nat → Option Nat} {fz : Nat → Prop}
theorem subI {k : IntKind} {m n : Int} (h : m = n) : Sub ob ob' ρ fz (.lit (.int k m)) (.lit (.int k n)) := h ▸ .lit _
theorem subB {m n : Bool} (h : m = n) : Sub ob ob' ρ fz (.lit (.bool m)) (.lit (.bool n)) := h ▸ .lit _
theorem subT {m n : ByteArray} (h : m = n) : Sub ob ob' ρ fz (.lit (.string m)) (.lit (.string n)) := h ▸ .lit _
theorem subS {sz : Nat} {xs ys : List (List AV)} (h : xs = ys) : Sub ob ob' ρ fz (.shr sz xs) (.shr sz ys) := h ▸ .shr _ _
theorem subFz {sz k : Nat} {e : TypeId} {xs ys : List (List AV)} (hk : look ob k = some (.row e sz ys)) (hf : fz k) (h : xs = ys) : Sub ob ob' ρ fz (.shr sz xs) (.row k) := h ▸ .frz _ _ _ _ hk hf
theorem subNs {sz : Nat} {xs : List (List AV)} (h : xs = []) : Sub ob ob' ρ fz (.shr sz xs) (.lit (.slice none 0 0)) := h ▸ .nilshr _
end

section
variable {G : Prg} {Γ : Ctx} {ops : Array Oper} {fin : List Lg → Prop} {K : Env → Prop} {os : List Oper} {log : List Lg} {sl : List (Nat × AV)} {ob : List (Nat × AO)} {nn : Nat} {d : Nat} {ty : TypeId} {pos : String} {aft : Array Edge} {gd : Option (Nat × Bool)}
variable {t yt : TypeId} {x y : Operand}
theorem s_eqlB {m n : Bool} (hx : evo (look sl) x = some (.lit (.bool m))) (hy : evo (look sl) y = some (.lit (.bool n))) (ht : G.T.kind t = .bool) (hd : Nat.blt d nn = true) (hg : GOk ops sl nn gd)
    (hT : m = n → VR G Γ ops fin K os (log ++ [⟨some d, gsl ops gd ++ (sl1 x ++ sl1 y), [], []⟩]) ⟨(d, .lit (.bool true)) :: sl, ob, nn⟩) (hF : m ≠ n → VR G Γ ops fin K os (log ++ [⟨some d, gsl ops gd ++ (sl1 x ++ sl1 y), [], []⟩]) ⟨(d, .lit (.bool false)) :: sl, ob, nn⟩) :
    VR G Γ ops fin K (⟨some d, .binOp .eql t x y yt, ty, pos, aft, gd⟩ :: os) log ⟨sl, ob, nn⟩ := by
  refine u_eqlB hx hy ht hd hg ?_
  by_cases h : m = n
  · rw [beq_iff_eq.2 h]; exact hT h
  · rw [beq_eq_false_iff_ne.2 h]; exact hF h
theorem s_neqB {m n : Bool} (hx : evo (look sl) x = some (.lit (.bool m))) (hy : evo (look sl) y = some (.lit (.bool n))) (ht : G.T.kind t = .bool) (hd : Nat.blt d nn = true) (hg : GOk ops sl nn gd)
    (hT : m ≠ n → VR G Γ ops fin K os (log ++ [⟨some d, gsl ops gd ++ (sl1 x ++ sl1 y), [], []⟩]) ⟨(d, .lit (.bool true)) :: sl, ob, nn⟩) (hF : m = n → VR G Γ ops fin K os (log ++ [⟨some d, gsl ops gd ++ (sl1 x ++ sl1 y), [], []⟩]) ⟨(d, .lit (.bool false)) :: sl, ob, nn⟩) :
    VR G Γ ops fin K (⟨some d, .binOp .neq t x y yt, ty, pos, aft, gd⟩ :: os) log ⟨sl, ob, nn⟩ := by
  refine u_neqB hx hy ht hd hg ?_
  by_cases h : m = n
  · rw [show (m != n) = false by simp [h]]; exact hF h
  · rw [show (m != n) = true by simp [h]]; exact hT h
theorem s_eqlT {m n : ByteArray} (hx : evo (look sl) x = some (.lit (.string m))) (hy : evo (look sl) y = some (.lit (.string n))) (hd : Nat.blt d nn = true) (hg : GOk ops sl nn gd)
    (hT : m.toList = n.toList → VR G Γ ops fin K os (log ++ [⟨some d, gsl ops gd ++ (sl1 x ++ sl1 y), [], []⟩]) ⟨(d, .lit (.bool true)) :: sl, ob, nn⟩) (hF : m.toList ≠ n.toList → VR G Γ ops fin K os (log ++ [⟨some d, gsl ops gd ++ (sl1 x ++ sl1 y), [], []⟩]) ⟨(d, .lit (.bool false)) :: sl, ob, nn⟩) :
    VR G Γ ops fin K (⟨some d, .binOp .eql t x y yt, ty, pos, aft, gd⟩ :: os) log ⟨sl, ob, nn⟩ := by
  refine u_eqlT hx hy hd hg ?_
  by_cases h : m.toList = n.toList
  · rw [beq_iff_eq.2 h]; exact hT h
  · rw [beq_eq_false_iff_ne.2 h]; exact hF h
theorem s_neqT {m n : ByteArray} (hx : evo (look sl) x = some (.lit (.string m))) (hy : evo (look sl) y = some (.lit (.string n))) (hd : Nat.blt d nn = true) (hg : GOk ops sl nn gd)
    (hT : m.toList ≠ n.toList → VR G Γ ops fin K os (log ++ [⟨some d, gsl ops gd ++ (sl1 x ++ sl1 y), [], []⟩]) ⟨(d, .lit (.bool true)) :: sl, ob, nn⟩) (hF : m.toList = n.toList → VR G Γ ops fin K os (log ++ [⟨some d, gsl ops gd ++ (sl1 x ++ sl1 y), [], []⟩]) ⟨(d, .lit (.bool false)) :: sl, ob, nn⟩) :
    VR G Γ ops fin K (⟨some d, .binOp .neq t x y yt, ty, pos, aft, gd⟩ :: os) log ⟨sl, ob, nn⟩ := by
  refine u_neqT hx hy hd hg ?_
  by_cases h : m.toList = n.toList
  · rw [beq_iff_eq.2 h]; exact hF h
  · rw [beq_eq_false_iff_ne.2 h]; exact hT h
end

section
variable {G : Prg} {Γ : Ctx} {ops : Array Oper} {fin : List Lg → Prop} {K : Env → Prop} {os : List Oper} {log : List Lg} {sl : List (Nat × AV)} {ob : List (Nat × AO)} {nn : Nat} {d : Nat} {ty : TypeId} {pos : String} {aft : Array Edge} {gd : Option (Nat × Bool)}
variable {t yt : TypeId} {x y : Operand} {k : IntKind} {m n : Int}
theorem u_remN (hx : evo (look sl) x = some (.lit (.int k m))) (hy : evo (look sl) y = some (.lit (.int k n))) (h0 : 0 ≤ m ∧ 0 < n) (hd : Nat.blt d nn = true) (hg : GOk ops sl nn gd)
    (kk' : VR G Γ ops fin K os (log ++ [⟨some d, gsl ops gd ++ (sl1 x ++ sl1 y), [], []⟩]) ⟨(d, .lit (.int k (m % n))) :: sl, ob, nn⟩) :
    VR G Γ ops fin K (⟨some d, .binOp .rem t x y yt, ty, pos, aft, gd⟩ :: os) log ⟨sl, ob, nn⟩ := by
  refine u_rem hx hy (by omega) hd hg ?_
  rw [Int.tmod_eq_emod_of_nonneg h0.1]; exact kk'
theorem u_quoN (hx : evo (look sl) x = some (.lit (.int .i64 m))) (hy : evo (look sl) y = some (.lit (.int .i64 n))) (h0 : 0 ≤ m ∧ 0 < n ∧ inI m) (hd : Nat.blt d nn = true) (hg : GOk ops sl nn gd)
    (kk' : VR G Γ ops fin K os (log ++ [⟨some d, gsl ops gd ++ (sl1 x ++ sl1 y), [], []⟩]) ⟨(d, .lit (.int .i64 (m / n))) :: sl, ob, nn⟩) :
    VR G Γ ops fin K (⟨some d, .binOp .quo t x y yt, ty, pos, aft, gd⟩ :: os) log ⟨sl, ob, nn⟩ := by
  refine u_quo hx hy (by omega) hd hg ?_
  have h1 : m.tdiv n = m / n := Int.tdiv_eq_ediv_of_nonneg h0.1
  have h2 : 0 ≤ m / n := Int.ediv_nonneg h0.1 (by omega)
  have h3 : m / n ≤ m := Int.ediv_le_self n h0.1
  rw [h1, wrap_inI (by have := h0.2.2; unfold inI at *; omega)]; exact kk'
end

/-! ### Rows of ints -/
def intCells (l : List Int) : List (List AV) := l.map fun n => [.lit (.int .i64 n)]
theorem intCells_length (l : List Int) : (intCells l).length = l.length := by simp [intCells]
theorem intCells_snoc (l : List Int) (n : Int) : intCells l ++ [[.lit (.int .i64 n)]] = intCells (l ++ [n]) := by simp [intCells]
theorem intCells_get {l : List Int} {i : Nat} {n : Int} (h : l[i]? = some n) : (intCells l)[i]? = some [.lit (.int .i64 n)] := by simp [intCells, h]
end Go.Vc
