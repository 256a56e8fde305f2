/- Calls whose results own rows: the rule, and how a function's end hands them out. -/
import Derived.Test.YtaadloihphpdbaaVcMin
set_option linter.unusedVariables false
set_option linter.unusedSimpArgs false
namespace Go.Vc
open Go Go.RowKit

section
variable {G : Prg} {Γ : Ctx} {S : Nat → Prop} {O : Nat → Nat → Prop} {β : Beta} {E : Env} {a : Act} {w : World}

/-- What a call made is laid beside what there was. -/
theorem SimAt.merge (h : SimAt Γ S O β E a w) {S' : Nat → Prop} {O' : Nat → Nat → Prop} {β' : Beta} {w' : World} {lv : List (Nat × AO)} (hw : Fr (fun _ => False) w w') (h1 : ∀ b, S b → S' b) (h2 : ∀ b, S' b → (S b ∨ w.heap.size ≤ b) ∧ b < w'.heap.size)
    (hH : HRep S' O' β' w' lv) (hO : ∀ k b, O' k b → w.heap.size ≤ b) (hf : ∀ k, look lv k ≠ none → look E.ob k = none ∧ k ∉ Γ.par) :
    SimAt Γ S' (fun k b => O k b ∨ O' k b) (fun k => match look lv k with | none => β k | some _ => β' k) ⟨E.sl, lv ++ E.ob, E.n⟩ a w' := by
  have hS : ∀ c, S c → S' c ∧ w'.heap[c]? = w.heap[c]? := fun c hc => ⟨h1 c hc, hw.block c (h.h.sh c hc) id⟩
  have hβ : ∀ k l, β k = some l → (match look lv k with | none => β k | some _ => β' k) = some l := by
    intro k l hk
    cases hl : look lv k with
    | none => exact hk
    | some o =>
      have := (hf k (by rw [hl]; simp)).1
      rw [(h.h.dom k this).1] at hk; cases hk
  have hβ' : ∀ k l, β' k = some l → (match look lv k with | none => β k | some _ => β' k) = some l := by
    intro k l hk
    cases hl : look lv k with
    | none => rw [(hH.dom k hl).1] at hk; cases hk
    | some o => exact hk
  refine ⟨⟨fun b hb => (h2 b hb).2, ?_, ?_, ?_, ?_⟩, ?_, h.n, h.df, fun b hb => h1 b (h.s0 b hb), ?_, ?_, ?_, ?_⟩
  · rintro k b (hb | hb)
    · have := h.h.ow k b hb
      refine ⟨Nat.lt_of_lt_of_le this.1 hw.size, fun hs => ?_⟩
      rcases (h2 b hs).1 with hs' | hs'
      · exact this.2 hs'
      · omega
    · exact hH.ow k b hb
  · rintro k k' b (hb | hb) (hb' | hb')
    · exact h.h.dj k k' b hb hb'
    · have := (h.h.ow k b hb).1; have := hO k' b hb'; omega
    · have := (h.h.ow k' b hb').1; have := hO k b hb; omega
    · exact hH.dj k k' b hb hb'
  · intro k hk
    have hk' : look (lv ++ E.ob) k = none := hk
    rw [look_append] at hk'
    cases hl : look lv k with
    | some o => rw [hl] at hk'; cases hk'
    | none =>
      rw [hl] at hk'
      have hd := h.h.dom k hk'
      refine ⟨hd.1, ?_⟩
      rintro b (hb | hb)
      · exact hd.2 b hb
      · exact (hH.dom k hl).2 b hb
  · intro k o hk
    have hk' : look (lv ++ E.ob) k = some o := hk
    rw [look_append] at hk'
    cases hl : look lv k with
    | some o' =>
      rw [hl] at hk'; cases hk'
      exact (hH.objs k _ hl).mono (fun b hb => ⟨hb, rfl⟩) hβ' fun b hb => ⟨.inr hb, rfl⟩
    | none =>
      rw [hl] at hk'
      exact (h.h.objs k o hk').mono hS hβ fun b hb => ⟨.inl hb, hw.block b (h.h.ow k b hb).1 id⟩
  · intro t v hl; exact (h.sl t v hl).mono hS hβ
  · intro b hb
    rcases (h2 b hb).1 with hb' | hb'
    · exact h.s1 b hb'
    · exact .inr (.inr (Nat.le_trans h.fr.size hb'))
  · rintro k b (hb | hb)
    · exact h.o1 k b hb
    · exact .inr (Nat.le_trans h.fr.size (hO k b hb))
  · intro k hk hn
    have hl : look lv k = none := by
      cases hl : look lv k with
      | none => rfl
      | some o => exact absurd hk (hf k (by rw [hl]; simp)).2
    have hn' : look E.ob k ≠ none := by
      have : look (lv ++ E.ob) k ≠ none := hn
      rw [look_append, hl] at this; exact this
    show (match look lv k with | none => β k | some _ => β' k) = _
    rw [hl]; exact h.b0 k hk hn'
  · exact h.fr.trans hw fun b hb => hb.elim

/-- Cells without an address. -/
def scalR (xs : List (List AV)) : Prop := ∀ x ∈ xs, ∀ c ∈ x, scal c = true
def scalOb : List (Nat × AO) → Prop
  | [] => True
  | (_, .row _ _ xs) :: r => scalR xs ∧ scalOb r
  | _ :: _ => False
def scal3 : AV → Bool
  | .tup vs => vs.all fun v => scal v || (match v with | .row _ => true | _ => false)
  | .row _ => true
  | v => scal v

theorem scalOb.get : ∀ {l : List (Nat × AO)}, scalOb l → ∀ k o, look l k = some o → ∃ e sz xs, o = .row e sz xs ∧ scalR xs
  | [], _, k, o, h => by simp [look] at h
  | (k0, o0) :: r, hs, k, o, h => by
    cases o0 with
    | box cs => exact hs.elim
    | dead => exact hs.elim
    | rowv e sz xs => exact hs.elim
    | row e sz xs =>
      rw [look_cons] at h
      by_cases he : k0 = k
      · rw [if_pos he] at h; cases h; exact ⟨e, sz, xs, rfl, hs.1⟩
      · rw [if_neg he] at h; exact scalOb.get hs.2 k o h

theorem PRep.scalS {S S' : Nat → Prop} {w w' : World} {c : AV} {x : Value} (h : PRep S w c x) (hc : scal c = true) : PRep S' w' c x := by
  cases c with
  | lit v => cases h with | lit _ h1 => exact .lit _ h1
  | _ => simp [scal] at hc

theorem HRep.scalS {S S' : Nat → Prop} {lv : List (Nat × AO)} (h : HRep S' O β w lv) (hs : scalOb lv) (hS : ∀ b, S b → b < w.heap.size ∧ ∀ k, ¬ O k b) : HRep S O β w lv := by
  refine ⟨fun b hb => (hS b hb).1, fun k b hb => ⟨(h.ow k b hb).1, fun hs' => (hS b hs').2 k hb⟩, h.dj, h.dom, ?_⟩
  intro k o ho
  obtain ⟨e, sz, xs, rfl, hx⟩ := hs.get k o ho
  obtain ⟨h0, hm, hr⟩ := h.objs k _ ho
  refine ⟨h0, hm, ?_⟩
  rcases hr with hr | ⟨b, cap, vs, h1, h2, h3, h4, h5, h6, h7⟩
  · exact .inl hr
  · exact .inr ⟨b, cap, vs, h1, h2, h3, h4, h5, h6, fun i x j c hxi hc => let ⟨v, hv, hp⟩ := h7 i x j c hxi hc; ⟨v, hv, hp.scalS (hx x (List.mem_of_getElem? hxi) c (List.mem_of_getElem? hc))⟩⟩

theorem VRep.scal3 {S' : Nat → Prop} {c : AV} {x : Value} (h : VRep S β w c x) (hc : scal3 c = true) : VRep S' β w c x := by
  have one : ∀ c x, VRep S β w c x → (Go.Vc.scal c || (match c with | .row _ => true | _ => false)) = true → VRep S' β w c x := by
    intro c x h hc
    cases c with
    | lit v => exact h.scal rfl
    | row k => cases h with
      | pure _ _ hp => cases hp
      | row _ l hl => exact .row k l hl
    | _ => simp [Go.Vc.scal] at hc
  cases c with
  | tup vs =>
    obtain ⟨us, rfl, hl, hr⟩ := h.tup_inv
    exact .tup _ _ hl fun j c x hc' hx => one c x (hr j c x hc' hx) (List.all_eq_true.1 hc c (List.mem_of_getElem? hc'))
  | lit v => exact h.scal rfl
  | row k => exact one _ _ h rfl
  | _ => simp [Go.Vc.scal3, Go.Vc.scal] at hc

variable {dst : Option Tmp} {ty : TypeId} {pos : String} {aft : Array Edge} {gd : Option (Nat × Bool)} {ats : Array TypeId}

/-- What is called by value, and hands out rows of its own. -/
theorem op_callN {f : FuncId} {xs : List Operand} {args as : List AV} {res : AV} {lv : List (Nat × AO)} (hV : VFun G f args [] res lv) {ob0 : List (Nat × AO)} (hx : evoA (look E.sl) xs = some as) (hsub : F2 (Sub ob0 [] (fun _ => none) (fun k => look ob0 k ≠ none)) args as)
    (hob : ∀ k o, look ob0 k = some o → look E.ob k = some o) (hsc : ob0 = [] ∨ (scal3 res = true ∧ scalOb lv)) (hf : ∀ k, look lv k ≠ none → look E.ob k = none ∧ k ∉ Γ.par) (hd : ∀ d, dst = some d → d < E.n) :
    OpS G Γ ⟨dst, .call { callee := .value (.func f), args := xs.toArray, argTypes := ats }, ty, pos, aft, gd⟩ E res lv (xs.flatMap sl1) (ob0.map (·.1) ++ lv.map (·.1)) := by
  intro E' hn h1 h2 S O β a w hs K Q hK
  obtain ⟨hcal, hV⟩ := hV
  have key : ∀ (l : List (Nat × AO)) (k : Nat) (o : AO), look l k = some o → k ∈ l.map (·.1) := by
    intro l k
    induction l with
    | nil => intro o h; simp [look] at h
    | cons p l ih =>
      intro o h
      rw [look_cons] at h
      by_cases he : p.1 = k
      · simp [he]
      · rw [if_neg he] at h; simp [ih o h]
  have hob' : ∀ k o, look ob0 k = some o → look E'.ob k = some o := fun k o hk => (h2 k (by simp only [List.mem_append]; exact .inl (key ob0 k o hk))).trans (hob k o hk)
  have hf' : ∀ k, look lv k ≠ none → look E'.ob k = none ∧ k ∉ Γ.par := by
    intro k hk
    obtain ⟨o, ho⟩ : ∃ o, look lv k = some o := by cases h : look lv k with | none => exact absurd h hk | some o => exact ⟨o, rfl⟩
    exact ⟨(h2 k (by simp only [List.mem_append]; exact .inr (key lv k o ho))).trans (hf k hk).1, (hf k hk).2⟩
  have hsz : ∀ b, wkS S O (fun k => look ob0 k ≠ none) b → b < w.heap.size := by
    rintro b (hb | ⟨k, _, hb⟩)
    · exact hs.h.sh b hb
    · exact (hs.h.ow k b hb).1
  have hz : ∀ (k : Nat) (e : TypeId) (sz : Nat) (xs : List (List AV)) (l : Loc), look ob0 k = some (.row e sz xs) → look ob0 k ≠ none → β k = some l → PRep (wkS S O (fun k => look ob0 k ≠ none)) w (.shr sz xs) l.slice :=
    fun k e sz xs l h3 h4 h5 => frozen_row hs.h (hob' k _ h3) h4 h5
  have hargs : F2 (fun c x => VRep (wkS S O (fun k => look ob0 k ≠ none)) (fun _ => none) w c x) args (xs.map a.eval) :=
    F2.sub (fun c' c x hr hc => by
      have := hc.wk' (ob' := []) (ρ := fun _ => none) hz hr
      have e : wkB β (fun _ => none) [] = fun _ => none := by funext i; simp [wkB, look]
      rw [e] at this; exact this) hsub (evoA_rep hs xs as ((evoA_congr xs h1).trans hx))
  have hcall := hV _ (fun _ _ => False) (fun _ => none) w (xs.map a.eval) (hrep_nil hsz) hargs
  unfold Oper.wp
  have hex : (execOp a.eval ⟨dst, .call { callee := .value (.func f), args := xs.toArray, argTypes := ats }, ty, pos, aft, gd⟩).run G.P w = .ok (.enter f (xs.map a.eval).toArray) w := by
    have := run_callF hcal (xs.map a.eval).toArray w
    simp [execOp, resolve, Deferred.ofValue, invoke, Act.eval, this]
  rw [hex, Oper.upon_enter]
  refine hcall.mono ?_
  rintro e w' ⟨x, rfl, S', O', β', hH', hx', hS1, hS2, hO', _, hfr⟩
  have hfr' : Fr (fun _ => False) w w' := hfr.weaken (fun b ⟨_, hf⟩ => hf)
  have hOf : ∀ k b, O' k b → w.heap.size ≤ b := fun k b hb => by
    rcases hO' k b hb with ⟨_, hf⟩ | hf
    · exact hf.elim
    · exact hf
  have hβ' : ∀ k l, β' k = some l → (match look lv k with | none => β k | some _ => β' k) = some l := by
    intro k l hk
    cases hl : look lv k with
    | none => rw [(hH'.dom k hl).1] at hk; cases hk
    | some o => exact hk
  have fin : ∀ Sn : Nat → Prop, (∀ b, S b → Sn b) → (∀ b, Sn b → (S b ∨ w.heap.size ≤ b) ∧ b < w'.heap.size) → HRep Sn O' β' w' lv → VRep Sn β' w' res x → K (a.put dst x) w' := by
    intro Sn g1 g2 g3 g4
    have hg := hs.merge hfr' g1 g2 g3 hOf hf'
    have := hg.put (g4.mono (fun b hb => ⟨hb, rfl⟩) hβ') (dst := dst) (fun d hd' => by show d < E'.n; rw [hn]; exact hd d hd')
    exact hK _ _ ⟨Sn, fun k b => O k b ∨ O' k b, fun k => match look lv k with | none => β k | some _ => β' k, this⟩
  rcases hsc with rfl | ⟨hsc, hso⟩
  · refine fin S' (fun b hb => hS1 b (.inl hb)) ?_ hH' hx'
    intro b hb
    refine ⟨?_, hH'.sh b hb⟩
    rcases hS2 b hb with (h3 | ⟨k, hk, _⟩) | ⟨_, hf⟩ | h3
    · exact .inl h3
    · exact absurd rfl hk
    · exact hf.elim
    · exact .inr h3
  · have hlt : ∀ b, S b → b < w.heap.size := hs.h.sh
    refine fin S (fun _ hb => hb) (fun b hb => ⟨.inl hb, Nat.lt_of_lt_of_le (hlt b hb) hfr'.size⟩) (hH'.scalS hso fun b hb => ⟨Nat.lt_of_lt_of_le (hlt b hb) hfr'.size, fun k hk => ?_⟩) (hx'.scal3 hsc)
    have := hOf k b hk; have := hlt b hb; omega
end

section
variable {G : Prg} {Γ : Ctx} {ops : Array Oper} {fin : List Lg → Prop} {K : Env → Prop} {os : List Oper} {log : List Lg} {sl : List (Nat × AV)} {ob : List (Nat × AO)} {nn : Nat} {d : Nat} {ty : TypeId} {pos : String} {aft : Array Edge} {gd : Option (Nat × Bool)}
theorem u_callN {f : FuncId} {xs : List Operand} {args as : List AV} {res : AV} {ats : Array TypeId} {k1 : Nat} {o1 : AO} (ob0 : List (Nat × AO)) (hx : evoA (look sl) xs = some as) (hV : VFun G f args [] res [(k1, o1)]) (hsub : F2 (Sub ob0 [] (fun _ => none) (fun k => look ob0 k ≠ none)) args as)
    (hob : ∀ k o, look ob0 k = some o → look ob k = some o) (hsc : ob0 = [] ∨ (scal3 res = true ∧ scalOb [(k1, o1)])) (hk : look ob k1 = none) (hp : k1 ∉ Γ.par) (hd : Nat.blt d nn = true) (hg : GOk ops sl nn gd)
    (kk' : VR G Γ ops fin K os (log ++ [⟨some d, gsl ops gd ++ (xs.flatMap sl1), ob0.map (·.1) ++ [k1], [k1]⟩]) ⟨(d, res) :: sl, (k1, o1) :: ob, nn⟩) :
    VR G Γ ops fin K (⟨some d, .call { callee := .value (.func f), args := xs.toArray, argTypes := ats }, ty, pos, aft, gd⟩ :: os) log ⟨sl, ob, nn⟩ := by
  refine u_op (op_callN (G := G) (Γ := Γ) (E := ⟨sl, ob, nn⟩) (dst := some d) (ty := ty) (pos := pos) (aft := aft) (gd := gd) hV hx hsub hob hsc ?_ (dlt hd)) hg kk'
  intro k hk'
  rw [look_cons] at hk'
  by_cases he : k1 = k
  · subst he; exact ⟨hk, hp⟩
  · rw [if_neg he] at hk'; exact absurd rfl hk'

variable {Q : Exit → Env → Prop} {E : Env}
theorem look_self {α : Type} {k : Nat} {o : α} {l : List (Nat × α)} : look ((k, o) :: l) k = some o := by rw [look_cons, if_pos rfl]

/-- The end of a function that hands out one row, under the name k1. -/
theorem fin1 {rs : List ResultVar} {rv : List AV} {res : AV} {e : Exit} {k1 i1 : Nat} {ty1 : TypeId} {sz : Nat} {xs ys : List (List AV)} (he : e = .normal ∨ e = .ret) (hr : F2 (ResV G E) rs rv) (hk : look E.ob i1 = some (.row ty1 sz ys)) (hxy : ys = xs)
    (hs : Sub E.ob [(k1, .row ty1 sz xs)] (ren [(k1, i1)]) (fzAll (ren [(k1, i1)]) [(k1, .row ty1 sz xs)]) res (resAV rv)) :
    (e = .normal ∨ e = .ret) ∧ ∃ rv ρ, F2 (ResV G E) rs rv ∧ Wk ρ (([] : List (Nat × AO)).map (·.1)) ⟨[(0, resAV rv)], E.ob, 0⟩ ⟨[(0, res)], [(k1, .row ty1 sz xs)], 0⟩ :=
  ⟨he, rv, ren [(k1, i1)], hr, mk_wk [(k1, i1)] rfl rfl ⟨⟨_, rfl, hs⟩, trivial⟩ ⟨.inl ⟨i1, look_self, hxy ▸ hk⟩, trivial⟩ no_par⟩
/-- .. that row being nil. -/
theorem fin1n {rs : List ResultVar} {rv : List AV} {res : AV} {e : Exit} {k1 : Nat} {ty1 : TypeId} {sz : Nat} {xs : List (List AV)} (he : e = .normal ∨ e = .ret) (hr : F2 (ResV G E) rs rv) (hxy : xs = [])
    (hs : Sub E.ob [(k1, .row ty1 sz xs)] (ren []) (fzAll (ren []) [(k1, .row ty1 sz xs)]) res (resAV rv)) :
    (e = .normal ∨ e = .ret) ∧ ∃ rv ρ, F2 (ResV G E) rs rv ∧ Wk ρ (([] : List (Nat × AO)).map (·.1)) ⟨[(0, resAV rv)], E.ob, 0⟩ ⟨[(0, res)], [(k1, .row ty1 sz xs)], 0⟩ :=
  ⟨he, rv, ren [], hr, mk_wk [] rfl rfl ⟨⟨_, rfl, hs⟩, trivial⟩ ⟨.inr (.inl ⟨rfl, hxy⟩), trivial⟩ no_par⟩
theorem subRow {ob : List (Nat × AO)} {k1 i1 : Nat} {o : AO} {fz : Nat → Prop} : Sub ob [(k1, o)] (ren [(k1, i1)]) fz (.row k1) (.row i1) := .row k1 i1 look_self (by rw [look_self]; simp)
theorem subRowN {ob : List (Nat × AO)} {k1 : Nat} {e : TypeId} {sz : Nat} {xs : List (List AV)} {fz : Nat → Prop} : Sub ob [(k1, .row e sz xs)] (ren []) fz (.row k1) (.lit (.slice none 0 0)) := .nilrow _ _ _ _ rfl look_self
end

theorem scal_bytes (bs : List UInt8) : scalR (byteCells bs) := by
  intro x hx c hc
  obtain ⟨b, _, rfl⟩ := List.mem_map.1 hx
  simp at hc; subst hc; rfl
theorem scal_ints (l : List Int) : scalR (intCells l) := by
  intro x hx c hc
  obtain ⟨b, _, rfl⟩ := List.mem_map.1 hx
  simp at hc; subst hc; rfl
end Go.Vc
