/- Calls of a function value. -/
import Derived.Test.YtaadloihphpdbaaVcNil
set_option linter.unusedVariables false
set_option linter.unusedSimpArgs false
namespace Go.Vc
open Go Go.RowKit
section
variable {G : Prg} {Γ : Ctx} {S : Nat → Prop} {O : Nat → Nat → Prop} {β : Beta} {E : Env} {a : Act} {w : World} {dst : Option Tmp} {ty : TypeId} {pos : String} {aft : Array Edge} {gd : Option (Nat × Bool)} {ats : Array TypeId}
/-- The general form: what is called by value. -/
theorem op_callVF {f : FuncId} {fx : Operand} {xs : List Operand} {args as : List AV} {res : AV} (hV : VFun G f args [] res []) {ob0 : List (Nat × AO)} (hfx : evo (look E.sl) fx = some (.clo f [])) (hx : evoA (look E.sl) xs = some as) (hsub : F2 (Sub ob0 [] (fun _ => none) (fun k => look ob0 k ≠ none)) args as)
    (hob : ∀ k o, look ob0 k = some o → look E.ob k = some o) (hsc : ob0 = [] ∨ scal2 res = true) (hd : ∀ d, dst = some d → d < E.n) :
    OpS G Γ ⟨dst, .call { callee := .value fx, args := xs.toArray, argTypes := ats }, ty, pos, aft, gd⟩ E res [] (sl1 fx ++ xs.flatMap sl1) (ob0.map (·.1)) := by
  intro E' hn h1 h2 S O β a w hs K Q hK
  obtain ⟨hcal, hV⟩ := hV
  have h1f : ∀ t, t ∈ sl1 fx → look E'.sl t = look E.sl t := fun t ht => h1 t (by simp only [List.mem_append]; exact .inl ht)
  have h1 : ∀ t, t ∈ xs.flatMap sl1 → look E'.sl t = look E.sl t := fun t ht => h1 t (by simp only [List.mem_append]; exact .inr ht)
  have hfe : a.eval fx = .func (.func f) #[] #[] := by
    obtain ⟨us, he, hl, _⟩ := (hs.ev ((evo_congr h1f).trans hfx)).clo_inv
    cases us with
    | nil => exact he
    | cons u r => simp at hl
  have hob' : ∀ k o, look ob0 k = some o → look E'.ob k = some o := by
    intro k o hk
    have hmem : k ∈ ob0.map (·.1) := by
      have key : ∀ (l : List (Nat × AO)) (o : AO), look l k = some o → k ∈ l.map (·.1) := by
        intro l
        induction l with
        | nil => intro o h; simp [look] at h
        | cons p l ih =>
          intro o h
          rw [look_cons] at h
          by_cases he : p.1 = k
          · simp [he]
          · rw [if_neg he] at h; simp [ih o h]
      exact key ob0 o hk
    exact (h2 k hmem).trans (hob k o hk)
  have hsz : ∀ b, wkS S O (fun k => look ob0 k ≠ none) b → b < w.heap.size := by
    rintro b (hb | ⟨k, _, hb⟩)
    · exact hs.h.sh b hb
    · exact (hs.h.ow k b hb).1
  have hz : ∀ (k : Nat) (e : TypeId) (sz : Nat) (xs : List (List AV)) (l : Loc), look ob0 k = some (.row e sz xs) → look ob0 k ≠ none → β k = some l → PRep (wkS S O (fun k => look ob0 k ≠ none)) w (.shr sz xs) l.slice :=
    fun k e sz xs l h3 h4 h5 => frozen_row hs.h (hob' k _ h3) h4 h5
  have hargs : F2 (fun c x => VRep (wkS S O (fun k => look ob0 k ≠ none)) (fun _ => none) w c x) args (xs.map a.eval) :=
    F2.sub (fun c' c x hr hc => by
      have := hc.wk' (ob' := []) (ρ := fun _ => none) hz hr
      have e : wkB β (fun _ => none) [] = fun _ => none := by funext i; simp [wkB, look]
      rw [e] at this; exact this) hsub (evoA_rep hs xs as ((evoA_congr xs h1).trans hx))
  have hcall := hV _ (fun _ _ => False) (fun _ => none) w (xs.map a.eval) (hrep_nil hsz) hargs
  unfold Oper.wp
  have hex : (execOp a.eval ⟨dst, .call { callee := .value fx, args := xs.toArray, argTypes := ats }, ty, pos, aft, gd⟩).run G.P w = .ok (.enter f (xs.map a.eval).toArray) w := by
    have := run_callF hcal (xs.map a.eval).toArray w
    simp [execOp, resolve, Deferred.ofValue, invoke, hfe, this]
  rw [hex, Oper.upon_enter]
  refine hcall.mono ?_
  rintro e w' ⟨x, rfl, S', O', β', hH', hx', hS1, hS2, _, _, hfr⟩
  have hfr' : Fr (fun _ => False) w w' := hfr.weaken (fun b ⟨_, hf⟩ => hf)
  have hbn : ∀ k, β' k = none := fun k => (hH'.dom k rfl).1
  rcases hsc with rfl | hsc
  · have hS2' : ∀ b, S' b → (S b ∨ w.heap.size ≤ b) ∧ b < w'.heap.size := by
      intro b hb
      refine ⟨?_, hH'.sh b hb⟩
      rcases hS2 b hb with (h3 | ⟨k, hk, _⟩) | ⟨_, hf⟩ | h3
      · exact .inl h3
      · exact absurd rfl hk
      · exact hf.elim
      · exact .inr h3
    have hg := hs.grow hfr' (fun b hb => hS1 b (.inl hb)) hS2'
    exact hK _ _ ⟨S', O, β, hg.put (hx'.mono (fun b hb => ⟨hb, rfl⟩) (fun k l hk => by rw [hbn k] at hk; cases hk)) (fun d hd' => by rw [hn]; exact hd d hd')⟩
  · have hg := hs.grow (S' := S) hfr' (fun b hb => hb) (fun b hb => ⟨.inl hb, Nat.lt_of_lt_of_le (hs.h.sh b hb) hfr'.size⟩)
    exact hK _ _ ⟨S, O, β, hg.put (hx'.scal2 hsc) (fun d hd' => by rw [hn]; exact hd d hd')⟩
end

section
variable {G : Prg} {Γ : Ctx} {ops : Array Oper} {fin : List Lg → Prop} {K : Env → Prop} {os : List Oper} {log : List Lg} {sl : List (Nat × AV)} {ob : List (Nat × AO)} {nn : Nat} {d : Nat} {ty : TypeId} {pos : String} {aft : Array Edge} {gd : Option (Nat × Bool)}
theorem u_callVF {f : FuncId} {fx : Operand} {xs : List Operand} {args as : List AV} {res : AV} {ats : Array TypeId} (hfx : evo (look sl) fx = some (.clo f [])) (hx : evoA (look sl) xs = some as) (hV : VFun G f args [] res []) (hsub : F2 (Sub [] [] (fun _ => none) (fun k => look ([] : List (Nat × AO)) k ≠ none)) args as) (hd : Nat.blt d nn = true) (hg : GOk ops sl nn gd)
    (kk' : VR G Γ ops fin K os (log ++ [⟨some d, gsl ops gd ++ (sl1 fx ++ xs.flatMap sl1), [], []⟩]) ⟨(d, res) :: sl, ob, nn⟩) : VR G Γ ops fin K (⟨some d, .call { callee := .value fx, args := xs.toArray, argTypes := ats }, ty, pos, aft, gd⟩ :: os) log ⟨sl, ob, nn⟩ :=
  u_op (op_callVF (G := G) (Γ := Γ) (E := ⟨sl, ob, nn⟩) (dst := some d) (ty := ty) (pos := pos) (aft := aft) (gd := gd) (ob0 := []) hV hfx hx hsub (fun k o h => by simp [Go.Vc.look] at h) (.inl rfl) (dlt hd)) hg kk'
end
end Go.Vc
