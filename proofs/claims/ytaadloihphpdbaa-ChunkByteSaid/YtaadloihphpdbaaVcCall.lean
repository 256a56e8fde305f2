/- Functions: what a contract says, how it is proved, how it is used. -/
import Derived.Test.YtaadloihphpdbaaVcCode
set_option linter.unusedSimpArgs false
set_option linter.unusedVariables false
namespace Go.Vc
open Go Go.RowKit

/-- CONTRACT: called with what stands for 'args', while the objects 'ob' (named in the arguments) lie there, the function returns what stands for 'res', and 'ob'' lie there. -/
def VFun (G : Prg) (f : FuncId) (args : List AV) (ob : List (Nat × AO)) (res : AV) (ob' : List (Nat × AO)) : Prop :=
  (∃ fn, G.P.funcs[f]? = some fn ∧ (fn.name == "runtime.NumGoroutine") = false ∧ fn.body.isNone = false) ∧
  ∀ (S : Nat → Prop) (O : Nat → Nat → Prop) (β : Beta) (w : World) (vs : List Value), HRep S O β w ob → F2 (fun c x => VRep S β w c x) args vs →
    Calls G.P f vs.toArray w fun e w' => ∃ x, e = .returned x ∧ ∃ S' O' β', HRep S' O' β' w' ob' ∧ VRep S' β' w' res x ∧ (∀ b, S b → S' b) ∧ (∀ b, S' b → S b ∨ (∃ k, O k b) ∨ w.heap.size ≤ b) ∧
      (∀ k b, O' k b → (∃ k, O k b) ∨ w.heap.size ≤ b) ∧ (∀ k, look ob k ≠ none → look ob' k ≠ none → β' k = β k) ∧ Fr (fun b => ∃ k, O k b) w w'

/-- What a result variable holds. -/
inductive ResV (G : Prg) (E : Env) : ResultVar → AV → Prop
  | tmp {t : Nat} {v : AV} : look E.sl t = some v → t < E.n → ResV G E (.tmp t) v
  | cell1 {p k : Nat} {ty : TypeId} {v : AV} : look E.sl p = some (.ptr k 0) → look E.ob k = some (.box [v]) → (G.T.kind ty).known = true → (G.T.kind ty).agg = false → ResV G E (.cell p ty) v
  | cellN {p k : Nat} {ty : TypeId} {cs : List AV} : look E.sl p = some (.ptr k 0) → look E.ob k = some (.box cs) → (G.T.kind ty).known = true → (G.T.kind ty).agg = true → cs.length = G.T.size ty → ResV G E (.cell p ty) (.agg cs)

def resAV : List AV → AV
  | [v] => v
  | vs => .tup vs

section
variable {G : Prg} {Γ : Ctx} {S : Nat → Prop} {O : Nat → Nat → Prop} {β : Beta} {E : Env} {a : Act} {w : World}

theorem ResV.run (h : SimAt Γ S O β E a w) {r : ResultVar} {v : AV} (hr : ResV G E r v) : ∃ x, ((match r with | .tmp t => pure (a.tmps.getD t undef) | .cell p ty => Instr.loadAt ty (a.tmps.getD p undef) : Sem Value)).run G.P w = .ok x w ∧ VRep S β w v x := by
  cases hr with
  | tmp h1 h2 => exact ⟨_, rfl, h.sl _ _ h1⟩
  | cell1 h1 h2 h3 h4 =>
    obtain ⟨b, cap, n, hb, hxe⟩ := (h.sl _ _ h1).ptr_inv
    obtain ⟨t', vs, hO, hg, hl, hr, ho⟩ := h.boxAt h2 hb
    have hi : vs[0]? = some (vs[0]'(by rw [hl]; simp)) := List.getElem?_eq_getElem _
    refine ⟨vs[0]'(by rw [hl]; simp), ?_, hr 0 _ _ rfl hi⟩
    simp only [hxe]
    exact run_load1 w G.ok h3 h4 b 0 _ (by rw [cell_of_row w b 0 _ t' (0, 0) hg, arr_get]; exact hi)
  | cellN h1 h2 h3 h4 h5 =>
    obtain ⟨b, cap, n, hb, hxe⟩ := (h.sl _ _ h1).ptr_inv
    obtain ⟨t', vs, hO, hg, hl, hr, ho⟩ := h.boxAt h2 hb
    refine ⟨.agg vs.toArray, ?_, .agg _ _ hl hr ho⟩
    simp only [hxe]
    exact run_loadN w G.ok h3 h4 b 0 vs (by omega) (fun j v hj => by rw [cell_of_row w b _ _ t' (0, 0) hg, arr_get, Nat.zero_add]; exact hj)

def resOf (tmps : Array Value) : ResultVar → Sem Value
  | .tmp t => pure (tmps.getD t undef)
  | .cell a t => do loadVar t (← asAddr (tmps.getD a undef))

theorem ResV.run' (h : SimAt Γ S O β E a w) {r : ResultVar} {v : AV} (hr : ResV G E r v) : ∃ x, (resOf a.tmps r).run G.P w = .ok x w ∧ VRep S β w v x := by
  obtain ⟨x, h1, h2⟩ := hr.run h
  refine ⟨x, ?_, h2⟩
  cases hr with
  | tmp => exact h1
  | cell1 h3 =>
    obtain ⟨b, cap, n, hb, hxe⟩ := (h.sl _ _ h3).ptr_inv
    simp only [hxe, Instr.loadAt, Instr.sureAddr] at h1
    simp only [resOf, hxe, asAddr]
    exact h1
  | cellN h3 =>
    obtain ⟨b, cap, n, hb, hxe⟩ := (h.sl _ _ h3).ptr_inv
    simp only [hxe, Instr.loadAt, Instr.sureAddr] at h1
    simp only [resOf, hxe, asAddr]
    exact h1

theorem ResV.runs (h : SimAt Γ S O β E a w) {rs : List ResultVar} {rv : List AV} (hr : F2 (ResV G E) rs rv) : ∃ xs, (rs.mapM (resOf a.tmps)).run G.P w = .ok xs w ∧ F2 (fun c x => VRep S β w c x) rv xs := by
  induction hr with
  | nil => exact ⟨[], rfl, .nil⟩
  | cons h1 _ ih =>
    obtain ⟨x, h2, h3⟩ := h1.run' h
    obtain ⟨xs, h4, h5⟩ := ih
    exact ⟨x :: xs, by simp [h2, h4], .cons h3 h5⟩

theorem results_eq (fn : Func) (tmps : Array Value) : results fn tmps = (do
    let vs ← fn.results.mapM (resOf tmps)
    pure (if h : vs.size = 1 then vs[0] else .tuple vs)) := by
  unfold results
  congr 1

theorem resAV_rep {rv : List AV} {xs : List Value} (h : F2 (fun c x => VRep S β w c x) rv xs) : VRep S β w (resAV rv) (if h : xs.toArray.size = 1 then xs.toArray[0] else .tuple xs.toArray) := by
  have tup : ∀ (rv : List AV) (xs : List Value), F2 (fun c x => VRep S β w c x) rv xs → VRep S β w (.tup rv) (.tuple xs.toArray) := by
    intro rv xs h
    refine .tup rv xs h.length.symm (fun j c x hc hx => ?_)
    obtain ⟨b, hb, hr⟩ := h.get j c hc
    rw [hx] at hb; cases hb; exact hr
  have h0 := tup rv xs h
  cases h with
  | nil => exact h0
  | cons h1 h2 =>
    cases h2 with
    | nil => simpa [resAV] using h1
    | cons h3 h4 => simpa [resAV] using h0

def argSl : Nat → List AV → List (Nat × AV)
  | _, [] => []
  | i, a :: r => (i, a) :: argSl (i + 1) r

theorem look_argSl : ∀ (args : List AV) (i t : Nat) (v : AV), look (argSl i args) t = some v → i ≤ t ∧ args[t - i]? = some v
  | [], i, t, v, h => by simp [argSl, look] at h
  | a :: r, i, t, v, h => by
    rw [argSl, look_cons] at h
    by_cases he : i = t
    · rw [if_pos he] at h; cases h; subst he; simp
    · rw [if_neg he] at h
      obtain ⟨h1, h2⟩ := look_argSl r (i + 1) t v h
      refine ⟨by omega, ?_⟩
      rw [show t - i = (t - (i + 1)) + 1 by omega]
      simpa using h2

/-- How a contract is proved: over the body, from an environment of the arguments alone. -/
theorem VFun.intro {f : FuncId} {fn : Func} {c : Code} {args : List AV} {ob : List (Nat × AO)} {res : AV} {ob' : List (Nat × AO)} (hf : G.P.funcs[f]? = some fn) (hb : fn.body = some c) (hname : (fn.name == "runtime.NumGoroutine") = false) (hn : args.length ≤ fn.ntmps)
    (h : ∀ Γ : Ctx, Γ.par = ob.map (·.1) → VW G Γ c (fun e E' => (e = .normal ∨ e = .ret) ∧ ∃ rv ρ, F2 (ResV G E') fn.results.toList rv ∧ Wk ρ (ob.map (·.1)) ⟨[(0, resAV rv)], E'.ob, 0⟩ ⟨[(0, res)], ob', 0⟩) ⟨argSl 0 args, ob, fn.ntmps⟩) :
    VFun G f args ob res ob' := by
  refine ⟨⟨fn, hf, hname, by rw [hb]; rfl⟩, ?_⟩
  intro S O β w vs hH hA
  have hlen : args.length = vs.length := hA.length
  refine calls_of_wp hf hb ?_
  have hs0 : Sim ⟨w, S, fun b => ∃ k, O k b, β, ob.map (·.1)⟩ ⟨argSl 0 args, ob, fn.ntmps⟩ { tmps := vs.toArray ++ Array.replicate (fn.ntmps - vs.toArray.size) undef, defers := [] } w := by
    refine ⟨S, O, β, hH, ?_, ?_, rfl, fun b hb => hb, fun b hb => .inl hb, fun k b hb => .inl ⟨k, hb⟩, fun k _ _ => rfl, Fr.refl _ _⟩
    · intro t v hl
      obtain ⟨_, h2⟩ := look_argSl args 0 t v hl
      simp only [Nat.sub_zero] at h2
      obtain ⟨x, hx, hr⟩ := hA.get t v h2
      have hlt : t < vs.length := (List.getElem?_eq_some_iff.1 hx).1
      have : (vs.toArray ++ Array.replicate (fn.ntmps - vs.toArray.size) undef).getD t undef = x := by
        rw [Array.getD_eq_getD_getElem?, Array.getElem?_append_left (by simpa using hlt)]
        simp [hx]
      rw [this]; exact hr
    · simp only [Array.size_append, List.size_toArray, Array.size_replicate]
      show vs.length + (fn.ntmps - vs.length) = fn.ntmps
      omega
  refine wp_mono (h ⟨w, S, fun b => ∃ k, O k b, β, ob.map (·.1)⟩ rfl _ _ hs0) ?_
  rintro e a' w' ⟨E', ⟨he, rv, ρ, hrv, hwk⟩, S1, O1, β1, hs⟩
  obtain ⟨xs, hxs, hxr⟩ := ResV.runs hs hrv
  have hres : (results fn a'.tmps).run G.P w' = .ok (if h : xs.toArray.size = 1 then xs.toArray[0] else .tuple xs.toArray) w' := by
    rw [results_eq, Array.mapM_eq_mapM_toList]
    simp [hxs]
  have hval := resAV_rep hxr
  obtain ⟨v, hv, hsub⟩ := hwk.sl 0 res (by rw [look_cons, if_pos rfl])
  have hv' : v = resAV rv := by
    have : look [(0, resAV rv)] 0 = some v := hv
    rw [look_cons, if_pos rfl] at this; cases this; rfl
  subst hv'
  have hR := hval.wk hs.h hsub
  have hH' := hs.h.wk hwk.inj (fun i j hi hj hf => hf i hi hj) hwk.ob
  have hpost : ∃ x, Ending.returned (if h : xs.toArray.size = 1 then xs.toArray[0] else .tuple xs.toArray) = .returned x ∧ ∃ S' O' β', HRep S' O' β' w' ob' ∧ VRep S' β' w' res x ∧ (∀ b, S b → S' b) ∧ (∀ b, S' b → S b ∨ (∃ k, O k b) ∨ w.heap.size ≤ b) ∧
      (∀ k b, O' k b → (∃ k, O k b) ∨ w.heap.size ≤ b) ∧ (∀ k, look ob k ≠ none → look ob' k ≠ none → β' k = β k) ∧ Fr (fun b => ∃ k, O k b) w w' := by
    refine ⟨_, rfl, _, _, _, hH', hR, fun b hb => .inl (hs.s0 b hb), ?_, ?_, ?_, hs.fr⟩
    · rintro b (hb | ⟨k, _, hb⟩)
      · exact hs.s1 b hb
      · rcases hs.o1 k b hb with h1 | h1
        · exact .inr (.inl h1)
        · exact .inr (.inr h1)
    · rintro i b ⟨_, k, _, hb⟩
      exact hs.o1 k b hb
    · intro k hk hk'
      have hmem : k ∈ ob.map (·.1) := by
        have key : ∀ (l : List (Nat × AO)), look l k ≠ none → k ∈ l.map (·.1) := by
          intro l
          induction l with
          | nil => intro h; exact absurd rfl h
          | cons p l ih =>
            intro h
            rw [look_cons] at h
            by_cases he : p.1 = k
            · simp [he]
            · rw [if_neg he] at h; simp [ih h]
        exact key ob hk
      obtain ⟨h1, h2⟩ := hwk.par k hmem hk'
      exact (wkB_some h1 hk').trans (hs.b0 k hmem h2)
  rcases he with rfl | rfl
  · exact ⟨hs.df, _, hres, hpost⟩
  · exact ⟨hs.df, _, hres, hpost⟩

/-! ### Calls -/
def evoA (sv : Nat → Option AV) : List Operand → Option (List AV)
  | [] => some []
  | x :: r => match evo sv x, evoA sv r with
    | some v, some l => some (v :: l)
    | _, _ => none

theorem evoA_congr {sv sv' : Nat → Option AV} : ∀ (l : List Operand), (∀ t, t ∈ l.flatMap sl1 → sv' t = sv t) → evoA sv' l = evoA sv l
  | [], _ => rfl
  | x :: r, h => by
    simp only [evoA]
    rw [evo_congr (x := x) (fun t ht => h t (by simp [ht])), evoA_congr r (fun t ht => h t (by simp only [List.flatMap_cons, List.mem_append]; exact .inr ht))]

theorem evoA_rep (hs : SimAt Γ S O β E a w) : ∀ (l : List Operand) (as : List AV), evoA (look E.sl) l = some as → F2 (fun c x => VRep S β w c x) as (l.map a.eval) := by
  intro l
  induction l with
  | nil => intro as h; simp only [evoA, Option.some.injEq] at h; subst h; exact .nil
  | cons x r ih =>
    intro as h
    simp only [evoA] at h
    cases h1 : evo (look E.sl) x with
    | none => rw [h1] at h; cases h
    | some v =>
      cases h2 : evoA (look E.sl) r with
      | none => rw [h1, h2] at h; cases h
      | some l' =>
        rw [h1, h2] at h
        simp only [Option.some.injEq] at h
        subst h
        exact .cons (hs.ev h1) (ih l' h2)

theorem F2.sub {R : AV → AV → Prop} {A B : AV → Value → Prop} (h : ∀ c' c x, R c' c → A c x → B c' x) {as' as : List AV} {vs : List Value} (h1 : F2 R as' as) (h2 : F2 A as vs) : F2 B as' vs := by
  induction h1 generalizing vs with
  | nil => cases h2; exact .nil
  | cons hr _ ih => cases h2 with | cons ha hb => exact .cons (h _ _ _ hr ha) (ih hb)

theorem run_callF {f : FuncId} (h : ∃ fn, G.P.funcs[f]? = some fn ∧ (fn.name == "runtime.NumGoroutine") = false ∧ fn.body.isNone = false) (args : Array Value) (w : World) : (callFunc f args).run G.P w = .ok (.enter f args) w := by
  obtain ⟨fn, h1, h2, h3⟩ := h
  simp only [callFunc, Sem.run_bind, run_program, Result.andThen_ok, h1, h2, h3]
  rfl

/-- Values without an address: true of them whatever is readable. -/
def scal : AV → Bool
  | .lit _ => true
  | _ => false
def scal2 : AV → Bool
  | .tup vs => vs.all scal
  | v => scal v

theorem VRep.scal {S' : Nat → Prop} {β' : Beta} {w' : World} {c : AV} {x : Value} (h : VRep S β w c x) (hc : scal c = true) : VRep S' β' w' c x := by
  cases c with
  | lit v => obtain ⟨rfl, h1⟩ := h.lit_inv; exact .pure _ _ (.lit _ h1)
  | _ => simp [Go.Vc.scal] at hc

theorem VRep.scal2 {S' : Nat → Prop} {β' : Beta} {w' : World} {c : AV} {x : Value} (h : VRep S β w c x) (hc : scal2 c = true) : VRep S' β' w' c x := by
  cases c with
  | tup vs =>
    obtain ⟨us, rfl, hl, hr⟩ := h.tup_inv
    exact .tup _ _ hl fun j c x hc' hx => (hr j c x hc' hx).scal (List.all_eq_true.1 hc c (List.mem_of_getElem? hc'))
  | lit v => exact h.scal rfl
  | _ => simp [Go.Vc.scal2, Go.Vc.scal] at hc

section
variable {dst : Option Tmp} {ty : TypeId} {pos : String} {aft : Array Edge} {gd : Option (Nat × Bool)} {ats : Array TypeId}

theorem hrep_nil {S' : Nat → Prop} (h : ∀ b, S' b → b < w.heap.size) : HRep S' (fun _ _ => False) (fun _ => none) w [] :=
  ⟨h, fun _ _ hf => hf.elim, fun _ _ _ hf => hf.elim, fun _ _ => ⟨rfl, fun _ hf => hf⟩, fun k o ho => by simp [look] at ho⟩

/-- The general form: what is called by value. -/
theorem op_callV {f : FuncId} {xs : List Operand} {args as : List AV} {res : AV} (hV : VFun G f args [] res []) {ob0 : List (Nat × AO)} (hx : evoA (look E.sl) xs = some as) (hsub : F2 (Sub ob0 [] (fun _ => none) (fun k => look ob0 k ≠ none)) args as)
    (hob : ∀ k o, look ob0 k = some o → look E.ob k = some o) (hsc : ob0 = [] ∨ scal2 res = true) (hd : ∀ d, dst = some d → d < E.n) :
    OpS G Γ ⟨dst, .call { callee := .value (.func f), args := xs.toArray, argTypes := ats }, ty, pos, aft, gd⟩ E res [] (xs.flatMap sl1) (ob0.map (·.1)) := by
  intro E' hn h1 h2 S O β a w hs K Q hK
  obtain ⟨hcal, hV⟩ := hV
  have hob' : ∀ k o, look ob0 k = some o → look E'.ob k = some o := by
    intro k o hk
    have hmem : k ∈ ob0.map (·.1) := by
      have key : ∀ (l : List (Nat × AO)) (o : AO), look l k = some o → k ∈ l.map (·.1) := by
        intro l
        induction l with
        | nil => intro o h; simp [look] at h
        | cons p l ih =>
          intro o h
          rw [look_cons] at h
          by_cases he : p.1 = k
          · simp [he]
          · rw [if_neg he] at h; simp [ih o h]
      exact key ob0 o hk
    exact (h2 k hmem).trans (hob k o hk)
  have hsz : ∀ b, wkS S O (fun k => look ob0 k ≠ none) b → b < w.heap.size := by
    rintro b (hb | ⟨k, _, hb⟩)
    · exact hs.h.sh b hb
    · exact (hs.h.ow k b hb).1
  have hz : ∀ (k : Nat) (e : TypeId) (sz : Nat) (xs : List (List AV)) (l : Loc), look ob0 k = some (.row e sz xs) → look ob0 k ≠ none → β k = some l → PRep (wkS S O (fun k => look ob0 k ≠ none)) w (.shr sz xs) l.slice :=
    fun k e sz xs l h3 h4 h5 => frozen_row hs.h (hob' k _ h3) h4 h5
  have hargs : F2 (fun c x => VRep (wkS S O (fun k => look ob0 k ≠ none)) (fun _ => none) w c x) args (xs.map a.eval) :=
    F2.sub (fun c' c x hr hc => by
      have := hc.wk' (ob' := []) (ρ := fun _ => none) hz hr
      have e : wkB β (fun _ => none) [] = fun _ => none := by funext i; simp [wkB, look]
      rw [e] at this; exact this) hsub (evoA_rep hs xs as ((evoA_congr xs h1).trans hx))
  have hcall := hV _ (fun _ _ => False) (fun _ => none) w (xs.map a.eval) (hrep_nil hsz) hargs
  unfold Oper.wp
  have hex : (execOp a.eval ⟨dst, .call { callee := .value (.func f), args := xs.toArray, argTypes := ats }, ty, pos, aft, gd⟩).run G.P w = .ok (.enter f (xs.map a.eval).toArray) w := by
    have := run_callF hcal (xs.map a.eval).toArray w
    simp [execOp, resolve, Deferred.ofValue, invoke, Act.eval, this]
  rw [hex, Oper.upon_enter]
  refine hcall.mono ?_
  rintro e w' ⟨x, rfl, S', O', β', hH', hx', hS1, hS2, _, _, hfr⟩
  have hfr' : Fr (fun _ => False) w w' := hfr.weaken (fun b ⟨_, hf⟩ => hf)
  have hbn : ∀ k, β' k = none := fun k => (hH'.dom k rfl).1
  rcases hsc with rfl | hsc
  · have hS2' : ∀ b, S' b → (S b ∨ w.heap.size ≤ b) ∧ b < w'.heap.size := by
      intro b hb
      refine ⟨?_, hH'.sh b hb⟩
      rcases hS2 b hb with (h3 | ⟨k, hk, _⟩) | ⟨_, hf⟩ | h3
      · exact .inl h3
      · exact absurd rfl hk
      · exact hf.elim
      · exact .inr h3
    have hg := hs.grow hfr' (fun b hb => hS1 b (.inl hb)) hS2'
    exact hK _ _ ⟨S', O, β, hg.put (hx'.mono (fun b hb => ⟨hb, rfl⟩) (fun k l hk => by rw [hbn k] at hk; cases hk)) (fun d hd' => by rw [hn]; exact hd d hd')⟩
  · have hg := hs.grow (S' := S) hfr' (fun b hb => hb) (fun b hb => ⟨.inl hb, Nat.lt_of_lt_of_le (hs.h.sh b hb) hfr'.size⟩)
    exact hK _ _ ⟨S, O, β, hg.put (hx'.scal2 hsc) (fun d hd' => by rw [hn]; exact hd d hd')⟩
end
end
end Go.Vc
