/- Regions, code, calls, and the lemmas by which the printed walks go. -/
import Derived.Test.YtaadloihphpdbaaVcA
import Derived.KernelRfl
import Derived.Laws.Strings
import Derived.Laws.Cover3
import Derived.Lib.ConvBytes
import Derived.ChangeArms
import Derived.ChangeSlices
import Derived.SizedLaws
/-! Regions, also those that draw their order; code; functions. -/
set_option linter.unusedSimpArgs false
set_option linter.unusedVariables false
namespace Go.Vc
open Go Go.RowKit

/-- A slot that an operation passed over left behind. -/
def skips (want : Bool) : AV → Bool
  | .lit (.bool b) => b != want
  | .tup [] => true
  | _ => false

def wants (want : Bool) : AV → Bool
  | .lit (.bool b) => b == want
  | _ => false

/-- One operation of a region: it is done, or it is passed over. -/
def GOp (G : Prg) (Γ : Ctx) (ops : Array Oper) (o : Oper) (E : Env) (val : AV) (upd : List (Nat × AO)) (rs ro : List Nat) : Prop :=
  match o.guard with
  | none => OpS G Γ o E val upd rs ro
  | some (j, want) => ∃ t v, (ops[j]?).bind (·.dst) = some t ∧ t < E.n ∧ look E.sl t = some v ∧ t ∈ rs ∧ ((wants want v = true ∧ OpS G Γ o E val upd rs ro) ∨ (skips want v = true ∧ val = .tup [] ∧ upd = [] ∧ ∀ d, o.dst = some d → d < E.n))

/-- The walk through a region's operations, in the order of the text; what each read and wrote is written down. -/
def VR (G : Prg) (Γ : Ctx) (ops : Array Oper) (fin : List Lg → Prop) (K : Env → Prop) : List Oper → List Lg → Env → Prop
  | [], log, E => fin log ∧ K E
  | o :: os, log, E => ∃ val upd rs ro, GOp G Γ ops o E val upd rs ro ∧ VR G Γ ops fin K os (log ++ [⟨o.dst, rs, ro, upd.map (·.1)⟩]) (E.app o.dst val upd)

theorem SimAt.slot {Γ : Ctx} {S : Nat → Prop} {O : Nat → Nat → Prop} {β : Beta} {E : Env} {a : Act} {w : World} (h : SimAt Γ S O β E a w) {t : Nat} {v : AV} (hv : look E.sl t = some v) (ht : t < E.n) : ∃ x, a.tmps[t]? = some x ∧ VRep S β w v x := by
  have hlt : t < a.tmps.size := by rw [h.n]; exact ht
  refine ⟨a.tmps[t], by simp [hlt], ?_⟩
  have := h.sl t v hv
  simpa [hlt] using this

theorem yielded_of {ops : Array Oper} {tmps : Array Value} {j t : Nat} (h : (ops[j]?).bind (·.dst) = some t) {x : Value} (hx : tmps[t]? = some x) : yielded ops tmps j = (match x with | .bool b => some b | _ => none) := by
  unfold yielded
  rw [h]
  simp only [Option.bind_some, hx]
  cases x <;> rfl

/-- One operation, sound, from an environment that looks alike where it looks. -/
theorem GOp.sound {G : Prg} {Γ : Ctx} {ops : Array Oper} {o : Oper} {E E' : Env} {val : AV} {upd : List (Nat × AO)} {rs ro : List Nat} (h : GOp G Γ ops o E val upd rs ro) (hn : E'.n = E.n) (h1 : ∀ t, t ∈ rs → look E'.sl t = look E.sl t) (h2 : ∀ k, k ∈ ro → look E'.ob k = look E.ob k)
    {a : Act} {w : World} (hs : Sim Γ E' a w) {Q : Exit → Act → World → Prop} {K : Act → World → Prop} (hK : ∀ a' w', Sim Γ (E'.app o.dst val upd) a' w' → K a' w') :
    (if Region.wanted o (yielded ops a.tmps) then o.wp G.P a w K Q ∨ (o.asks G.P a w ∧ LetsOut Q) else K (a.put o.dst undef) w) := by
  obtain ⟨S, O, β, hs⟩ := hs
  unfold GOp at h
  cases hg : o.guard with
  | none =>
    rw [hg] at h
    rw [if_pos (by simp [Region.wanted, hg])]
    exact .inl (h E' hn h1 h2 S O β a w hs K Q hK)
  | some p =>
    obtain ⟨j, want⟩ := p
    rw [hg] at h
    obtain ⟨t, v, ht, hlt, hv, htr, hc⟩ := h
    have hv' : look E'.sl t = some v := (h1 t htr).trans hv
    obtain ⟨x, hx, hr⟩ := hs.slot hv' (by rw [hn]; exact hlt)
    have hy := yielded_of (tmps := a.tmps) ht hx
    rcases hc with ⟨hw, ho⟩ | ⟨hw, rfl, rfl, hd⟩
    · have hxb : x = .bool want := by
        cases v with
        | lit u =>
          obtain ⟨rfl, _⟩ := hr.lit_inv
          cases x with
          | bool b =>
            have hw' : (b == want) = true := hw
            rw [beq_iff_eq.1 hw']
          | _ => exact Bool.noConfusion (show false = true from hw)
        | _ => simp [wants] at hw
      subst hxb
      have hwt : Region.wanted o (yielded ops a.tmps) = true := by
        simp only [Region.wanted, hg, hy, beq_self_eq_true]
      rw [if_pos hwt]
      exact .inl (ho E' hn h1 h2 S O β a w hs K Q hK)
    · have hno : Region.wanted o (yielded ops a.tmps) = false := by
        simp only [Region.wanted, hg, hy]
        cases v with
        | lit u =>
          obtain ⟨rfl, _⟩ := hr.lit_inv
          cases x with
          | bool b =>
            have hw' : (b != want) = true := hw
            simp only [beq_eq_false_iff_ne, ne_eq, Option.some.injEq]
            simpa using hw'
          | _ => exact Bool.noConfusion (show false = true from hw)
        | tup l =>
          cases l with
          | nil => obtain ⟨vs, rfl, _⟩ := hr.tup_inv; rfl
          | cons => simp [skips] at hw
        | _ => simp [skips] at hw
      rw [if_neg (by rw [hno]; simp)]
      refine hK _ _ ⟨S, O, β, ?_⟩
      exact hs.put (v := .tup []) (.tup [] [] rfl (fun j c x hc => by simp at hc)) (fun d hd' => by rw [hn]; exact hd d hd')

/-- Code over an abstract environment. -/
def VW (G : Prg) (Γ : Ctx) (c : Code) (Q : Exit → Env → Prop) (E : Env) : Prop :=
  ∀ a w, Sim Γ E a w → c.wp G.P (fun e a' w' => ∃ E', Q e E' ∧ Sim Γ E' a' w') a w

section
variable {G : Prg} {Γ : Ctx} {Q : Exit → Env → Prop} {E : Env}

theorem VR.list {ops : Array Oper} {fin : List Lg → Prop} {K : Env → Prop} (hKQ : ∀ E, K E → Q .normal E) : ∀ (os : List Oper) (log : List Lg) (E : Env), VR G Γ ops fin K os log E → ∀ a w, Sim Γ E a w → wpList G.P ops (fun e a' w' => ∃ E', Q e E' ∧ Sim Γ E' a' w') os a w := by
  intro os
  induction os with
  | nil => intro log E h a w hs; exact ⟨E, hKQ E h.2, hs⟩
  | cons o os ih =>
    intro log E h a w hs
    obtain ⟨val, upd, rs, ro, hg, hr⟩ := h
    exact hg.sound rfl (fun _ _ => rfl) (fun _ _ => rfl) hs fun a' w' hs' => ih _ _ hr a' w' hs'

/-- A region that keeps to its text. -/
theorem vw_region {id : Nat} {l : List Oper} (h : VR G Γ l.toArray (fun _ => True) (Q .normal) l [] E) : VW G Γ (.region id l.toArray false) Q E :=
  fun a w hs => wp_region_lit (VR.list (fun _ h => h) l [] E h a w hs)

theorem vw_seq {x y : Code} (h : VW G Γ x (fun e E' => match e with | .normal => VW G Γ y Q E' | e => Q e E') E) : VW G Γ (.seq x y) Q E := by
  intro a w hs
  refine wp_seq (wp_mono (h a w hs) ?_)
  rintro e a' w' ⟨E', hq, hs'⟩
  cases e with
  | normal => exact hq a' w' hs'
  | _ => exact ⟨E', hq, hs'⟩

theorem vw_skip (h : Q .normal E) : VW G Γ .skip Q E := fun a w hs => wp_skip ⟨E, h, hs⟩
theorem vw_ret (h : Q .ret E) : VW G Γ .ret Q E := fun a w hs => wp_ret ⟨E, h, hs⟩
theorem vw_exit {id : Nat} (h : Q (.exit id) E) : VW G Γ (.exit id) Q E := fun a w hs => wp_exit ⟨E, h, hs⟩
theorem vw_block {id : Nat} {c : Code} (h : VW G Γ c (fun e E' => match e with | .exit i => if i = id then Q .normal E' else Q (.exit i) E' | e => Q e E') E) : VW G Γ (.block id c) Q E := by
  intro a w hs
  refine wp_block (wp_mono (h a w hs) ?_)
  rintro e a' w' ⟨E', hq, hs'⟩
  cases e with
  | exit i =>
    by_cases hi : i = id
    · simp only [Exit.inBlock, hi, if_true]; exact ⟨E', by simpa [hi] using hq, hs'⟩
    · simp only [Exit.inBlock, hi, if_false]; exact ⟨E', by simpa [hi] using hq, hs'⟩
  | _ => exact ⟨E', hq, hs'⟩

theorem vw_cond {c : Operand} {x y : Code} {b : Bool} (hc : evo (look E.sl) c = some (.lit (.bool b))) (ht : b = true → VW G Γ x Q E) (hf : b = false → VW G Γ y Q E) : VW G Γ (.cond c x y) Q E := by
  intro a w hs
  have hs0 := hs
  obtain ⟨S, O, β, hs'⟩ := hs
  refine wp_cond_split (hs'.lit hc) (fun h => ht h a w hs0) (fun h => hf h a w hs0)

theorem vw_mono {c : Code} {Q' : Exit → Env → Prop} (h : VW G Γ c Q E) (hq : ∀ e E', Q e E' → Q' e E') : VW G Γ c Q' E :=
  fun a w hs => wp_mono (h a w hs) fun e a' w' ⟨E', h1, h2⟩ => ⟨E', hq e E' h1, h2⟩

/-- One may see less. -/
theorem vw_wk {c : Code} (ρ : Nat → Option Nat) {E' : Env} (hk : Wk ρ Γ.par E E') (h : VW G Γ c Q E') : VW G Γ c Q E := fun a w hs => h a w (hs.wk hk)

/-- A loop: whatever 'I x' says holds at each round's head, up to seeing less; 'm x' falls. -/
theorem vw_loop {c : Code} {α : Type} (F : α → Env) (m : α → Nat) (x0 : α) (ρ : Nat → Option Nat) (hk : Wk ρ Γ.par E (F x0))
    (round : ∀ x, VW G Γ c (fun e E' => match e with | .normal => ∃ y ρ', m y < m x ∧ Wk ρ' Γ.par E' (F y) | e => Q e E') (F x)) : VW G Γ (.loop c) Q E := by
  intro a w hs b k cs
  have key : ∀ n x a w, m x = n → Sim Γ (F x) a w → ∃ e a' w', (∃ E', Q e E' ∧ Sim Γ E' a' w') ∧ Arrives G.P (lone (b.at a (.code c :: .inLoop c :: k)) cs w) b k cs e a' w' := by
    intro n
    induction n using Nat.strongRecOn with
    | _ n ih =>
      intro x a w hm hs
      obtain ⟨e, a₁, w₁, ⟨E₁, hq, hs₁⟩, harr⟩ := round x a w hs b (.inLoop c :: k) cs
      cases e with
      | normal =>
        obtain ⟨y, ρ', hlt, hwk⟩ := hq
        obtain ⟨e₂, a₂, w₂, hq₂, harr₂⟩ := ih (m y) (hm ▸ hlt) y a₁ w₁ rfl (hs₁.wk hwk)
        exact ⟨e₂, a₂, w₂, hq₂, .of_steps (Steps.trans harr (.one step_inLoop)) harr₂⟩
      | exit id => exact ⟨_, a₁, w₁, ⟨E₁, hq, hs₁⟩, .pass (x := .inLoop c) rfl (fun _ _ => .inl (by simp)) harr⟩
      | goto l => exact ⟨_, a₁, w₁, ⟨E₁, hq, hs₁⟩, .pass (x := .inLoop c) rfl (fun _ _ => .inl (by simp)) harr⟩
      | ret => exact ⟨_, a₁, w₁, ⟨E₁, hq, hs₁⟩, .pass (x := .inLoop c) rfl (fun _ _ => .inl (by simp)) harr⟩
      | panic ch => exact ⟨_, a₁, w₁, ⟨E₁, hq, hs₁⟩, .pass (x := .inLoop c) rfl (fun _ _ => .inl (by simp)) harr⟩
      | outgrown => exact ⟨_, a₁, w₁, ⟨E₁, hq, hs₁⟩, .pass (x := .inLoop c) rfl (fun _ _ => .inl (by simp)) harr⟩
  obtain ⟨e, a', w', hq, harr⟩ := key _ x0 a w rfl (hs.wk hk)
  exact ⟨e, a', w', hq, .of_steps (.one step_loop) harr⟩
end
end Go.Vc

/-! Functions: what a contract says, how it is proved, how it is used. -/
set_option linter.unusedSimpArgs false
set_option linter.unusedVariables false
namespace Go.Vc
open Go Go.RowKit

/-- CONTRACT: called with what stands for 'args', while the objects 'ob' (named in the arguments) lie there, the function returns what stands for 'res', and 'ob'' lie there. -/
def VFun (G : Prg) (f : FuncId) (args : List AV) (ob : List (Nat × AO)) (res : AV) (ob' : List (Nat × AO)) : Prop :=
  (∃ fn, G.P.funcs[f]? = some fn ∧ (fn.name == "runtime.NumGoroutine") = false ∧ fn.body.isNone = false) ∧
  ∀ (S : Nat → Prop) (O : Nat → Nat → Prop) (β : Beta) (w : World) (vs : List Value), HRep S O β w ob → F2 (fun c x => VRep S β w c x) args vs →
    Calls G.P f vs.toArray w fun e w' => ∃ x, e = .returned x ∧ ∃ S' O' β', HRep S' O' β' w' ob' ∧ VRep S' β' w' res x ∧ (∀ b, S b → S' b) ∧ (∀ b, S' b → S b ∨ (∃ k, O k b) ∨ w.heap.size ≤ b) ∧
      (∀ k b, O' k b → (∃ k, O k b) ∨ w.heap.size ≤ b) ∧ (∀ k, look ob k ≠ none → look ob' k ≠ none → β' k = β k) ∧ Fr (fun b => ∃ k, O k b) w w'

/-- What a result variable holds. -/
inductive ResV (G : Prg) (E : Env) : ResultVar → AV → Prop
  | tmp {t : Nat} {v : AV} : look E.sl t = some v → t < E.n → ResV G E (.tmp t) v
  | cell1 {p k : Nat} {ty : TypeId} {v : AV} : look E.sl p = some (.ptr k 0) → look E.ob k = some (.box [v]) → (G.T.kind ty).known = true → (G.T.kind ty).agg = false → ResV G E (.cell p ty) v
  | cellN {p k : Nat} {ty : TypeId} {cs : List AV} : look E.sl p = some (.ptr k 0) → look E.ob k = some (.box cs) → (G.T.kind ty).known = true → (G.T.kind ty).agg = true → cs.length = G.T.size ty → ResV G E (.cell p ty) (.agg cs)

def resAV : List AV → AV
  | [v] => v
  | vs => .tup vs

section
variable {G : Prg} {Γ : Ctx} {S : Nat → Prop} {O : Nat → Nat → Prop} {β : Beta} {E : Env} {a : Act} {w : World}

theorem ResV.run (h : SimAt Γ S O β E a w) {r : ResultVar} {v : AV} (hr : ResV G E r v) : ∃ x, ((match r with | .tmp t => pure (a.tmps.getD t undef) | .cell p ty => Instr.loadAt ty (a.tmps.getD p undef) : Sem Value)).run G.P w = .ok x w ∧ VRep S β w v x := by
  cases hr with
  | tmp h1 h2 => exact ⟨_, rfl, h.sl _ _ h1⟩
  | cell1 h1 h2 h3 h4 =>
    obtain ⟨b, cap, n, hb, hxe⟩ := (h.sl _ _ h1).ptr_inv
    obtain ⟨t', vs, hO, hg, hl, hr, ho⟩ := h.boxAt h2 hb
    have hi : vs[0]? = some (vs[0]'(by rw [hl]; simp)) := List.getElem?_eq_getElem _
    refine ⟨vs[0]'(by rw [hl]; simp), ?_, hr 0 _ _ rfl hi⟩
    simp only [hxe]
    exact run_load1 w G.ok h3 h4 b 0 _ (by rw [cell_of_row w b 0 _ t' (0, 0) hg, arr_get]; exact hi)
  | cellN h1 h2 h3 h4 h5 =>
    obtain ⟨b, cap, n, hb, hxe⟩ := (h.sl _ _ h1).ptr_inv
    obtain ⟨t', vs, hO, hg, hl, hr, ho⟩ := h.boxAt h2 hb
    refine ⟨.agg vs.toArray, ?_, .agg _ _ hl hr ho⟩
    simp only [hxe]
    exact run_loadN w G.ok h3 h4 b 0 vs (by omega) (fun j v hj => by rw [cell_of_row w b _ _ t' (0, 0) hg, arr_get, Nat.zero_add]; exact hj)

def resOf (tmps : Array Value) : ResultVar → Sem Value
  | .tmp t => pure (tmps.getD t undef)
  | .cell a t => do loadVar t (← asAddr (tmps.getD a undef))

theorem ResV.run' (h : SimAt Γ S O β E a w) {r : ResultVar} {v : AV} (hr : ResV G E r v) : ∃ x, (resOf a.tmps r).run G.P w = .ok x w ∧ VRep S β w v x := by
  obtain ⟨x, h1, h2⟩ := hr.run h
  refine ⟨x, ?_, h2⟩
  cases hr with
  | tmp => exact h1
  | cell1 h3 =>
    obtain ⟨b, cap, n, hb, hxe⟩ := (h.sl _ _ h3).ptr_inv
    simp only [hxe, Instr.loadAt, Instr.sureAddr] at h1
    simp only [resOf, hxe, asAddr]
    exact h1
  | cellN h3 =>
    obtain ⟨b, cap, n, hb, hxe⟩ := (h.sl _ _ h3).ptr_inv
    simp only [hxe, Instr.loadAt, Instr.sureAddr] at h1
    simp only [resOf, hxe, asAddr]
    exact h1

theorem ResV.runs (h : SimAt Γ S O β E a w) {rs : List ResultVar} {rv : List AV} (hr : F2 (ResV G E) rs rv) : ∃ xs, (rs.mapM (resOf a.tmps)).run G.P w = .ok xs w ∧ F2 (fun c x => VRep S β w c x) rv xs := by
  induction hr with
  | nil => exact ⟨[], rfl, .nil⟩
  | cons h1 _ ih =>
    obtain ⟨x, h2, h3⟩ := h1.run' h
    obtain ⟨xs, h4, h5⟩ := ih
    exact ⟨x :: xs, by simp [h2, h4], .cons h3 h5⟩

theorem results_eq (fn : Func) (tmps : Array Value) : results fn tmps = (do
    let vs ← fn.results.mapM (resOf tmps)
    pure (if h : vs.size = 1 then vs[0] else .tuple vs)) := by
  unfold results
  congr 1

theorem resAV_rep {rv : List AV} {xs : List Value} (h : F2 (fun c x => VRep S β w c x) rv xs) : VRep S β w (resAV rv) (if h : xs.toArray.size = 1 then xs.toArray[0] else .tuple xs.toArray) := by
  have tup : ∀ (rv : List AV) (xs : List Value), F2 (fun c x => VRep S β w c x) rv xs → VRep S β w (.tup rv) (.tuple xs.toArray) := by
    intro rv xs h
    refine .tup rv xs h.length.symm (fun j c x hc hx => ?_)
    obtain ⟨b, hb, hr⟩ := h.get j c hc
    rw [hx] at hb; cases hb; exact hr
  have h0 := tup rv xs h
  cases h with
  | nil => exact h0
  | cons h1 h2 =>
    cases h2 with
    | nil => simpa [resAV] using h1
    | cons h3 h4 => simpa [resAV] using h0

def argSl : Nat → List AV → List (Nat × AV)
  | _, [] => []
  | i, a :: r => (i, a) :: argSl (i + 1) r

theorem look_argSl : ∀ (args : List AV) (i t : Nat) (v : AV), look (argSl i args) t = some v → i ≤ t ∧ args[t - i]? = some v
  | [], i, t, v, h => by simp [argSl, look] at h
  | a :: r, i, t, v, h => by
    rw [argSl, look_cons] at h
    by_cases he : i = t
    · rw [if_pos he] at h; cases h; subst he; simp
    · rw [if_neg he] at h
      obtain ⟨h1, h2⟩ := look_argSl r (i + 1) t v h
      refine ⟨by omega, ?_⟩
      rw [show t - i = (t - (i + 1)) + 1 by omega]
      simpa using h2

/-- How a contract is proved: over the body, from an environment of the arguments alone. -/
theorem VFun.intro {f : FuncId} {fn : Func} {c : Code} {args : List AV} {ob : List (Nat × AO)} {res : AV} {ob' : List (Nat × AO)} (hf : G.P.funcs[f]? = some fn) (hb : fn.body = some c) (hname : (fn.name == "runtime.NumGoroutine") = false) (hn : args.length ≤ fn.ntmps)
    (h : ∀ Γ : Ctx, Γ.par = ob.map (·.1) → VW G Γ c (fun e E' => (e = .normal ∨ e = .ret) ∧ ∃ rv ρ, F2 (ResV G E') fn.results.toList rv ∧ Wk ρ (ob.map (·.1)) ⟨[(0, resAV rv)], E'.ob, 0⟩ ⟨[(0, res)], ob', 0⟩) ⟨argSl 0 args, ob, fn.ntmps⟩) :
    VFun G f args ob res ob' := by
  refine ⟨⟨fn, hf, hname, by rw [hb]; rfl⟩, ?_⟩
  intro S O β w vs hH hA
  have hlen : args.length = vs.length := hA.length
  refine calls_of_wp hf hb ?_
  have hs0 : Sim ⟨w, S, fun b => ∃ k, O k b, β, ob.map (·.1)⟩ ⟨argSl 0 args, ob, fn.ntmps⟩ { tmps := vs.toArray ++ Array.replicate (fn.ntmps - vs.toArray.size) undef, defers := [] } w := by
    refine ⟨S, O, β, hH, ?_, ?_, rfl, fun b hb => hb, fun b hb => .inl hb, fun k b hb => .inl ⟨k, hb⟩, fun k _ _ => rfl, Fr.refl _ _⟩
    · intro t v hl
      obtain ⟨_, h2⟩ := look_argSl args 0 t v hl
      simp only [Nat.sub_zero] at h2
      obtain ⟨x, hx, hr⟩ := hA.get t v h2
      have hlt : t < vs.length := (List.getElem?_eq_some_iff.1 hx).1
      have : (vs.toArray ++ Array.replicate (fn.ntmps - vs.toArray.size) undef).getD t undef = x := by
        rw [Array.getD_eq_getD_getElem?, Array.getElem?_append_left (by simpa using hlt)]
        simp [hx]
      rw [this]; exact hr
    · simp only [Array.size_append, List.size_toArray, Array.size_replicate]
      show vs.length + (fn.ntmps - vs.length) = fn.ntmps
      omega
  refine wp_mono (h ⟨w, S, fun b => ∃ k, O k b, β, ob.map (·.1)⟩ rfl _ _ hs0) ?_
  rintro e a' w' ⟨E', ⟨he, rv, ρ, hrv, hwk⟩, S1, O1, β1, hs⟩
  obtain ⟨xs, hxs, hxr⟩ := ResV.runs hs hrv
  have hres : (results fn a'.tmps).run G.P w' = .ok (if h : xs.toArray.size = 1 then xs.toArray[0] else .tuple xs.toArray) w' := by
    rw [results_eq, Array.mapM_eq_mapM_toList]
    simp [hxs]
  have hval := resAV_rep hxr
  obtain ⟨v, hv, hsub⟩ := hwk.sl 0 res (by rw [look_cons, if_pos rfl])
  have hv' : v = resAV rv := by
    have : look [(0, resAV rv)] 0 = some v := hv
    rw [look_cons, if_pos rfl] at this; cases this; rfl
  subst hv'
  have hR := hval.wk hs.h hsub
  have hH' := hs.h.wk hwk.inj (fun i j hi hj hf => hf i hi hj) hwk.ob
  have hpost : ∃ x, Ending.returned (if h : xs.toArray.size = 1 then xs.toArray[0] else .tuple xs.toArray) = .returned x ∧ ∃ S' O' β', HRep S' O' β' w' ob' ∧ VRep S' β' w' res x ∧ (∀ b, S b → S' b) ∧ (∀ b, S' b → S b ∨ (∃ k, O k b) ∨ w.heap.size ≤ b) ∧
      (∀ k b, O' k b → (∃ k, O k b) ∨ w.heap.size ≤ b) ∧ (∀ k, look ob k ≠ none → look ob' k ≠ none → β' k = β k) ∧ Fr (fun b => ∃ k, O k b) w w' := by
    refine ⟨_, rfl, _, _, _, hH', hR, fun b hb => .inl (hs.s0 b hb), ?_, ?_, ?_, hs.fr⟩
    · rintro b (hb | ⟨k, _, hb⟩)
      · exact hs.s1 b hb
      · rcases hs.o1 k b hb with h1 | h1
        · exact .inr (.inl h1)
        · exact .inr (.inr h1)
    · rintro i b ⟨_, k, _, hb⟩
      exact hs.o1 k b hb
    · intro k hk hk'
      have hmem : k ∈ ob.map (·.1) := by
        have key : ∀ (l : List (Nat × AO)), look l k ≠ none → k ∈ l.map (·.1) := by
          intro l
          induction l with
          | nil => intro h; exact absurd rfl h
          | cons p l ih =>
            intro h
            rw [look_cons] at h
            by_cases he : p.1 = k
            · simp [he]
            · rw [if_neg he] at h; simp [ih h]
        exact key ob hk
      obtain ⟨h1, h2⟩ := hwk.par k hmem hk'
      exact (wkB_some h1 hk').trans (hs.b0 k hmem h2)
  rcases he with rfl | rfl
  · exact ⟨hs.df, _, hres, hpost⟩
  · exact ⟨hs.df, _, hres, hpost⟩

/-! ### Calls -/
def evoA (sv : Nat → Option AV) : List Operand → Option (List AV)
  | [] => some []
  | x :: r => match evo sv x, evoA sv r with
    | some v, some l => some (v :: l)
    | _, _ => none

theorem evoA_congr {sv sv' : Nat → Option AV} : ∀ (l : List Operand), (∀ t, t ∈ l.flatMap sl1 → sv' t = sv t) → evoA sv' l = evoA sv l
  | [], _ => rfl
  | x :: r, h => by
    simp only [evoA]
    rw [evo_congr (x := x) (fun t ht => h t (by simp [ht])), evoA_congr r (fun t ht => h t (by simp only [List.flatMap_cons, List.mem_append]; exact .inr ht))]

theorem evoA_rep (hs : SimAt Γ S O β E a w) : ∀ (l : List Operand) (as : List AV), evoA (look E.sl) l = some as → F2 (fun c x => VRep S β w c x) as (l.map a.eval) := by
  intro l
  induction l with
  | nil => intro as h; simp only [evoA, Option.some.injEq] at h; subst h; exact .nil
  | cons x r ih =>
    intro as h
    simp only [evoA] at h
    cases h1 : evo (look E.sl) x with
    | none => rw [h1] at h; cases h
    | some v =>
      cases h2 : evoA (look E.sl) r with
      | none => rw [h1, h2] at h; cases h
      | some l' =>
        rw [h1, h2] at h
        simp only [Option.some.injEq] at h
        subst h
        exact .cons (hs.ev h1) (ih l' h2)

theorem F2.sub {R : AV → AV → Prop} {A B : AV → Value → Prop} (h : ∀ c' c x, R c' c → A c x → B c' x) {as' as : List AV} {vs : List Value} (h1 : F2 R as' as) (h2 : F2 A as vs) : F2 B as' vs := by
  induction h1 generalizing vs with
  | nil => cases h2; exact .nil
  | cons hr _ ih => cases h2 with | cons ha hb => exact .cons (h _ _ _ hr ha) (ih hb)

theorem run_callF {f : FuncId} (h : ∃ fn, G.P.funcs[f]? = some fn ∧ (fn.name == "runtime.NumGoroutine") = false ∧ fn.body.isNone = false) (args : Array Value) (w : World) : (callFunc f args).run G.P w = .ok (.enter f args) w := by
  obtain ⟨fn, h1, h2, h3⟩ := h
  simp only [callFunc, Sem.run_bind, run_program, Result.andThen_ok, h1, h2, h3]
  rfl

/-- Values without an address: true of them whatever is readable. -/
def scal : AV → Bool
  | .lit _ => true
  | _ => false
def scal2 : AV → Bool
  | .tup vs => vs.all scal
  | v => scal v

theorem VRep.scal {S' : Nat → Prop} {β' : Beta} {w' : World} {c : AV} {x : Value} (h : VRep S β w c x) (hc : scal c = true) : VRep S' β' w' c x := by
  cases c with
  | lit v => obtain ⟨rfl, h1⟩ := h.lit_inv; exact .pure _ _ (.lit _ h1)
  | _ => simp [Go.Vc.scal] at hc

theorem VRep.scal2 {S' : Nat → Prop} {β' : Beta} {w' : World} {c : AV} {x : Value} (h : VRep S β w c x) (hc : scal2 c = true) : VRep S' β' w' c x := by
  cases c with
  | tup vs =>
    obtain ⟨us, rfl, hl, hr⟩ := h.tup_inv
    exact .tup _ _ hl fun j c x hc' hx => (hr j c x hc' hx).scal (List.all_eq_true.1 hc c (List.mem_of_getElem? hc'))
  | lit v => exact h.scal rfl
  | _ => simp [Go.Vc.scal2, Go.Vc.scal] at hc

section
variable {dst : Option Tmp} {ty : TypeId} {pos : String} {aft : Array Edge} {gd : Option (Nat × Bool)} {ats : Array TypeId}

theorem hrep_nil {S' : Nat → Prop} (h : ∀ b, S' b → b < w.heap.size) : HRep S' (fun _ _ => False) (fun _ => none) w [] :=
  ⟨h, fun _ _ hf => hf.elim, fun _ _ _ hf => hf.elim, fun _ _ => ⟨rfl, fun _ hf => hf⟩, fun k o ho => by simp [look] at ho⟩

/-- The general form: what is called by value. -/
theorem op_callV {f : FuncId} {xs : List Operand} {args as : List AV} {res : AV} (hV : VFun G f args [] res []) {ob0 : List (Nat × AO)} (hx : evoA (look E.sl) xs = some as) (hsub : F2 (Sub ob0 [] (fun _ => none) (fun k => look ob0 k ≠ none)) args as)
    (hob : ∀ k o, look ob0 k = some o → look E.ob k = some o) (hsc : ob0 = [] ∨ scal2 res = true) (hd : ∀ d, dst = some d → d < E.n) :
    OpS G Γ ⟨dst, .call { callee := .value (.func f), args := xs.toArray, argTypes := ats }, ty, pos, aft, gd⟩ E res [] (xs.flatMap sl1) (ob0.map (·.1)) := by
  intro E' hn h1 h2 S O β a w hs K Q hK
  obtain ⟨hcal, hV⟩ := hV
  have hob' : ∀ k o, look ob0 k = some o → look E'.ob k = some o := by
    intro k o hk
    have hmem : k ∈ ob0.map (·.1) := by
      have key : ∀ (l : List (Nat × AO)) (o : AO), look l k = some o → k ∈ l.map (·.1) := by
        intro l
        induction l with
        | nil => intro o h; simp [look] at h
        | cons p l ih =>
          intro o h
          rw [look_cons] at h
          by_cases he : p.1 = k
          · simp [he]
          · rw [if_neg he] at h; simp [ih o h]
      exact key ob0 o hk
    exact (h2 k hmem).trans (hob k o hk)
  have hsz : ∀ b, wkS S O (fun k => look ob0 k ≠ none) b → b < w.heap.size := by
    rintro b (hb | ⟨k, _, hb⟩)
    · exact hs.h.sh b hb
    · exact (hs.h.ow k b hb).1
  have hz : ∀ (k : Nat) (e : TypeId) (sz : Nat) (xs : List (List AV)) (l : Loc), look ob0 k = some (.row e sz xs) → look ob0 k ≠ none → β k = some l → PRep (wkS S O (fun k => look ob0 k ≠ none)) w (.shr sz xs) l.slice :=
    fun k e sz xs l h3 h4 h5 => frozen_row hs.h (hob' k _ h3) h4 h5
  have hargs : F2 (fun c x => VRep (wkS S O (fun k => look ob0 k ≠ none)) (fun _ => none) w c x) args (xs.map a.eval) :=
    F2.sub (fun c' c x hr hc => by
      have := hc.wk' (ob' := []) (ρ := fun _ => none) hz hr
      have e : wkB β (fun _ => none) [] = fun _ => none := by funext i; simp [wkB, look]
      rw [e] at this; exact this) hsub (evoA_rep hs xs as ((evoA_congr xs h1).trans hx))
  have hcall := hV _ (fun _ _ => False) (fun _ => none) w (xs.map a.eval) (hrep_nil hsz) hargs
  unfold Oper.wp
  have hex : (execOp a.eval ⟨dst, .call { callee := .value (.func f), args := xs.toArray, argTypes := ats }, ty, pos, aft, gd⟩).run G.P w = .ok (.enter f (xs.map a.eval).toArray) w := by
    have := run_callF hcal (xs.map a.eval).toArray w
    simp [execOp, resolve, Deferred.ofValue, invoke, Act.eval, this]
  rw [hex, Oper.upon_enter]
  refine hcall.mono ?_
  rintro e w' ⟨x, rfl, S', O', β', hH', hx', hS1, hS2, _, _, hfr⟩
  have hfr' : Fr (fun _ => False) w w' := hfr.weaken (fun b ⟨_, hf⟩ => hf)
  have hbn : ∀ k, β' k = none := fun k => (hH'.dom k rfl).1
  rcases hsc with rfl | hsc
  · have hS2' : ∀ b, S' b → (S b ∨ w.heap.size ≤ b) ∧ b < w'.heap.size := by
      intro b hb
      refine ⟨?_, hH'.sh b hb⟩
      rcases hS2 b hb with (h3 | ⟨k, hk, _⟩) | ⟨_, hf⟩ | h3
      · exact .inl h3
      · exact absurd rfl hk
      · exact hf.elim
      · exact .inr h3
    have hg := hs.grow hfr' (fun b hb => hS1 b (.inl hb)) hS2'
    exact hK _ _ ⟨S', O, β, hg.put (hx'.mono (fun b hb => ⟨hb, rfl⟩) (fun k l hk => by rw [hbn k] at hk; cases hk)) (fun d hd' => by rw [hn]; exact hd d hd')⟩
  · have hg := hs.grow (S' := S) hfr' (fun b hb => hb) (fun b hb => ⟨.inl hb, Nat.lt_of_lt_of_le (hs.h.sh b hb) hfr'.size⟩)
    exact hK _ _ ⟨S, O, β, hg.put (hx'.scal2 hsc) (fun d hd' => by rw [hn]; exact hd d hd')⟩
end
end
end Go.Vc

/-! Regions that draw their order: one walk in the order of the text serves every order, where what touches one thing is in order anyway. -/
set_option linter.unusedSimpArgs false
set_option linter.unusedVariables false
namespace Go.Vc
open Go Go.RowKit

def mask (acc : List Nat) (o : Oper) : Nat := o.after.toList.foldl (fun s e => if Region.binds .any e then s ||| 2 ^ e.on ||| acc.getD e.on 0 else s) 0
def ancs : List Oper → List Nat → List Nat
  | [], acc => acc
  | o :: os, acc => ancs os (acc ++ [mask acc o])

theorem ancs_spec : ∀ (l : List Oper) (acc : List Nat), (ancs l acc).length = acc.length + l.length ∧ (∀ i, i < acc.length → (ancs l acc)[i]? = acc[i]?) ∧
    ∀ i o, l[i]? = some o → (ancs l acc)[acc.length + i]? = some (mask ((ancs l acc).take (acc.length + i)) o)
  | [], acc => ⟨rfl, fun _ _ => rfl, fun i o h => by simp at h⟩
  | o :: os, acc => by
    obtain ⟨h1, h2, h3⟩ := ancs_spec os (acc ++ [mask acc o])
    simp only [List.length_append, List.length_cons, List.length_nil] at h1 h2 h3
    refine ⟨by simp only [ancs, List.length_cons]; omega, fun i hi => ?_, fun i o' ho => ?_⟩
    · simp only [ancs]
      rw [h2 i (by omega), List.getElem?_append_left hi]
    · cases i with
      | zero =>
        simp at ho; subst ho
        simp only [ancs, Nat.add_zero]
        rw [h2 acc.length (by omega), List.getElem?_append_right (Nat.le_refl _)]
        simp only [Nat.sub_self, List.getElem?_cons_zero, Option.some.injEq]
        congr 1
        apply List.ext_getElem?
        intro j
        by_cases hj : j < acc.length
        · rw [List.getElem?_take, if_pos hj, h2 j (by omega), List.getElem?_append_left hj]
        · rw [List.getElem?_take, if_neg hj, List.getElem?_eq_none (by omega)]
      | succ i =>
        have := h3 i o' (by simpa using ho)
        simp only [ancs]
        rw [show acc.length + (i + 1) = acc.length + (0 + 1) + i by omega]
        exact this

theorem mask_bit {acc : List Nat} {o : Oper} {j : Nat} (h : (mask acc o).testBit j = true) : ∃ e ∈ o.after.toList, Region.binds .any e = true ∧ (j = e.on ∨ (acc.getD e.on 0).testBit j = true) := by
  have key : ∀ (es : List Edge) (s : Nat), (es.foldl (fun s e => if Region.binds .any e then s ||| 2 ^ e.on ||| acc.getD e.on 0 else s) s).testBit j = true →
      s.testBit j = true ∨ ∃ e ∈ es, Region.binds .any e = true ∧ (j = e.on ∨ (acc.getD e.on 0).testBit j = true) := by
    intro es
    induction es with
    | nil => intro s hs; exact .inl hs
    | cons e es ih =>
      intro s hs
      rcases ih _ hs with h1 | ⟨e', he', hb, hj⟩
      · dsimp only at h1
        by_cases hb : Region.binds .any e = true
        · rw [if_pos hb] at h1
          rw [Nat.testBit_or, Nat.testBit_or, Nat.testBit_two_pow] at h1
          simp only [Bool.or_eq_true, decide_eq_true_eq] at h1
          rcases h1 with (h1 | h1) | h1
          · exact .inl h1
          · exact .inr ⟨e, by simp, hb, .inl h1.symm⟩
          · exact .inr ⟨e, by simp, hb, .inr h1⟩
        · rw [if_neg hb] at h1; exact .inl h1
      · exact .inr ⟨e', by simp [he'], hb, hj⟩
  rcases key _ _ h with h | h
  · simp at h
  · exact h

/-- Both touch one thing, and one of them turns it. -/
def dep (x y : Lg) : Bool :=
  (match x.dst with | some d => y.rs.contains d || y.dst == some d | none => false) || (match y.dst with | some d => x.rs.contains d | none => false) ||
  x.wo.any (fun k => y.ro.contains k || y.wo.contains k) || y.wo.any (fun k => x.ro.contains k)

def chk1 (anc : Nat) (y : Lg) : List Lg → Nat → Bool
  | [], _ => true
  | x :: xs, j => (!dep x y || anc.testBit j) && chk1 anc y xs (j + 1)

def chkGo : List Nat → List Lg → List Lg → Bool
  | a :: as, pre, y :: ys => chk1 a y pre 0 && chkGo as (pre ++ [y]) ys
  | [], _, [] => true
  | _, _, _ => false

def backs (l : List Oper) : Bool := (l.zipIdx.all fun p => p.1.after.toList.all fun e => !Region.binds .any e || Nat.blt e.on p.2)

/-- Whatever touches one thing is in order. -/
def chk (l : List Oper) (log : List Lg) : Bool := backs l && chkGo (ancs l []) [] log

theorem chk1_spec {anc : Nat} {y : Lg} : ∀ (xs : List Lg) (j0 : Nat), chk1 anc y xs j0 = true → ∀ j x, xs[j]? = some x → dep x y = true → anc.testBit (j0 + j) = true
  | [], _, _, j, x, h, _ => by simp at h
  | x0 :: xs, j0, h, j, x, hx, hd => by
    simp only [chk1, Bool.and_eq_true, Bool.or_eq_true, Bool.not_eq_true'] at h
    cases j with
    | zero => simp at hx; subst hx; rcases h.1 with h1 | h1; rw [hd] at h1; cases h1; simpa using h1
    | succ j =>
      have := chk1_spec xs (j0 + 1) h.2 j x (by simpa using hx) hd
      rwa [show j0 + (j + 1) = j0 + 1 + j by omega]

theorem chkGo_spec : ∀ (as : List Nat) (pre ys : List Lg), chkGo as pre ys = true → as.length = ys.length ∧ ∀ i y a, ys[i]? = some y → as[i]? = some a → ∀ j x, j < pre.length + i → (pre ++ ys)[j]? = some x → dep x y = true → a.testBit j = true
  | [], pre, [], _ => ⟨rfl, fun i y a h => by simp at h⟩
  | a :: as, pre, y :: ys, h => by
    simp only [chkGo, Bool.and_eq_true] at h
    obtain ⟨h1, h2⟩ := chkGo_spec as (pre ++ [y]) ys h.2
    refine ⟨by simp [h1], fun i y' a' hy ha j x hj hx hd => ?_⟩
    cases i with
    | zero =>
      simp at hy ha; subst hy ha
      have hx' : pre[j]? = some x := by rwa [List.getElem?_append_left (by omega)] at hx
      simpa using chk1_spec pre 0 h.1 j x hx' hd
    | succ i =>
      refine h2 i y' a' (by simpa using hy) (by simpa using ha) j x (by simp; omega) (by simpa [List.append_assoc] using hx) hd
  | [], _, _ :: _, h => by simp [chkGo] at h
  | _ :: _, _, [], h => by simp [chkGo] at h

/-! ### Effects, whatever their order -/
structure Ef where
  o : Oper
  val : AV
  upd : List (Nat × AO)
  rs : List Nat
  ro : List Nat

def Ef.lg (e : Ef) : Lg := ⟨e.o.dst, e.rs, e.ro, e.upd.map (·.1)⟩
def apps (E : Env) (L : List Ef) : Env := L.foldl (fun E e => E.app e.o.dst e.val e.upd) E

theorem apps_snoc (E : Env) (L : List Ef) (e : Ef) : apps E (L ++ [e]) = (apps E L).app e.o.dst e.val e.upd := by simp [apps]
theorem apps_n (E : Env) (L : List Ef) : (apps E L).n = E.n := by
  induction L generalizing E with
  | nil => rfl
  | cons e L ih => exact (ih _).trans rfl

theorem look_append {α : Type} (l m : List (Nat × α)) (k : Nat) : look (l ++ m) k = (match look l k with | some v => some v | none => look m k) := by
  induction l with
  | nil => simp [look]
  | cons p l ih =>
    rw [List.cons_append, look_cons, look_cons]
    by_cases h : p.1 = k
    · simp [h]
    · simp [h, ih]

theorem look_notin {α : Type} (l : List (Nat × α)) (k : Nat) (h : k ∉ l.map (·.1)) : look l k = none := by
  induction l with
  | nil => rfl
  | cons p l ih =>
    simp only [List.map_cons, List.mem_cons, not_or] at h
    rw [look_cons, if_neg (Ne.symm h.1)]; exact ih h.2

def wrS (t : Nat) (e : Ef) : Bool := e.o.dst == some t
def wrO (k : Nat) (e : Ef) : Bool := (e.upd.map (·.1)).contains k

theorem app_sl (E : Env) (e : Ef) (t : Nat) : look (E.app e.o.dst e.val e.upd).sl t = if wrS t e then some e.val else look E.sl t := by
  unfold Env.app wrS
  cases hd : e.o.dst with
  | none => simp
  | some d =>
    simp only [look_cons]
    by_cases h : d = t
    · simp [h]
    · simp [h]

theorem app_ob (E : Env) (e : Ef) (k : Nat) (h : wrO k e = false) : look (E.app e.o.dst e.val e.upd).ob k = look E.ob k := by
  show look (e.upd ++ E.ob) k = _
  rw [look_append, look_notin e.upd k (by simpa [wrO] using h)]

theorem sl_filter (t : Nat) : ∀ (L : List Ef) (E E' : Env), look E.sl t = look E'.sl t → look (apps E L).sl t = look (apps E' (L.filter (wrS t))).sl t
  | [], _, _, h => h
  | e :: L, E, E', h => by
    by_cases hw : wrS t e = true
    · rw [List.filter_cons_of_pos hw]
      exact sl_filter t L _ _ (by rw [app_sl, app_sl, if_pos hw, if_pos hw])
    · rw [List.filter_cons_of_neg hw]
      exact sl_filter t L _ E' (by rw [app_sl, if_neg hw]; exact h)

theorem ob_filter (k : Nat) : ∀ (L : List Ef) (E E' : Env), look E.ob k = look E'.ob k → look (apps E L).ob k = look (apps E' (L.filter (wrO k))).ob k
  | [], _, _, h => h
  | e :: L, E, E', h => by
    by_cases hw : wrO k e = true
    · rw [List.filter_cons_of_pos hw]
      refine ob_filter k L _ _ ?_
      show look (e.upd ++ E.ob) k = look (e.upd ++ E'.ob) k
      rw [look_append, look_append, h]
    · rw [List.filter_cons_of_neg hw]
      exact ob_filter k L _ E' (by rw [app_ob _ _ _ (by simpa using hw)]; exact h)

theorem sorted_ext : ∀ (l m : List Nat), l.Pairwise (· < ·) → m.Pairwise (· < ·) → (∀ x, x ∈ l ↔ x ∈ m) → l = m
  | [], [], _, _, _ => rfl
  | [], b :: m, _, _, h => by have := (h b).2 (by simp); simp at this
  | a :: l, [], _, _, h => by have := (h a).1 (by simp); simp at this
  | a :: l, b :: m, hl, hm, h => by
    rw [List.pairwise_cons] at hl hm
    have hab : a = b := by
      have h1 := (h a).1 (by simp)
      have h2 := (h b).2 (by simp)
      simp only [List.mem_cons] at h1 h2
      rcases h1 with h1 | h1
      · exact h1
      · rcases h2 with h2 | h2
        · exact h2.symm
        · have := hm.1 a h1; have := hl.1 b h2; omega
    subst hab
    congr 1
    refine sorted_ext l m hl.2 hm.2 fun x => ?_
    have := h x
    simp only [List.mem_cons] at this
    constructor
    · intro hx
      rcases this.1 (.inr hx) with h1 | h1
      · subst h1; exact absurd (hl.1 x hx) (Nat.lt_irrefl _)
      · exact h1
    · intro hx
      rcases this.2 (.inr hx) with h1 | h1
      · subst h1; exact absurd (hm.1 x hx) (Nat.lt_irrefl _)
      · exact h1

/-! ### Any order -/
section
variable {l : List Oper} {effs : List Ef}

/-- What has been done so far, in its order: each operation once, behind all that it waits for. -/
inductive Good (l : List Oper) : List Nat → Prop
  | nil : Good l []
  | snoc {D : List Nat} {i : Nat} {o : Oper} : Good l D → l[i]? = some o → i ∉ D → (∀ e ∈ o.after.toList, Region.binds .any e = true → e.on ∈ D) → Good l (D ++ [i])

theorem Good.closed {D : List Nat} (h : Good l D) : ∀ i ∈ D, ∀ o, l[i]? = some o → ∀ e ∈ o.after.toList, Region.binds .any e = true → e.on ∈ D := by
  induction h with
  | nil => intro i hi; simp at hi
  | snoc hD ho hn he ih =>
    intro i hi o' ho' e hee hb
    simp only [List.mem_append, List.mem_singleton] at hi ⊢
    rcases hi with hi | rfl
    · exact .inl (ih i hi o' ho' e hee hb)
    · rw [ho] at ho'; cases ho'; exact .inl (he e hee hb)

theorem anc_mem {D : List Nat} (hc : ∀ i ∈ D, ∀ o, l[i]? = some o → ∀ e ∈ o.after.toList, Region.binds .any e = true → e.on ∈ D) (hb : backs l = true) :
    ∀ (i : Nat) (o : Oper), l[i]? = some o → (∀ e ∈ o.after.toList, Region.binds .any e = true → e.on ∈ D) → ∀ a, (ancs l [])[i]? = some a → ∀ j, a.testBit j = true → j ∈ D := by
  intro i
  induction i using Nat.strongRecOn with
  | _ i ih =>
    intro o ho he a ha j hj
    obtain ⟨h1, _, h3⟩ := ancs_spec l []
    have hi := h3 i o ho
    simp only [List.length_nil, Nat.zero_add] at hi h1
    rw [ha] at hi
    cases hi
    obtain ⟨e, hee, hbi, hj'⟩ := mask_bit hj
    have hlt : e.on < i := by
      have hm : (o, i) ∈ l.zipIdx := by
        rw [List.mem_zipIdx_iff_getElem?]; exact ho
      have := List.all_eq_true.1 hb (o, i) hm
      have := List.all_eq_true.1 this e hee
      simp only [Bool.or_eq_true, Bool.not_eq_true', hbi] at this
      rcases this with h | h
      · cases h
      · exact Nat.blt_eq.mp h
    rcases hj' with rfl | hj'
    · exact he e hee hbi
    · have hil : i < l.length := (List.getElem?_eq_some_iff.1 ho).1
      have hlo : e.on < l.length := by omega
      have hg : ((ancs l []).take i).getD e.on 0 = (ancs l [])[e.on]'(by omega) := by
        simp [List.getD, List.getElem?_take, hlt, List.getElem?_eq_getElem (show e.on < (ancs l []).length by omega)]
      rw [hg] at hj'
      exact ih e.on hlt l[e.on] (List.getElem?_eq_getElem hlo) (hc e.on (he e hee hbi) _ (List.getElem?_eq_getElem hlo)) _ (List.getElem?_eq_getElem (by omega)) j hj'

theorem Good.lt {D : List Nat} (h : Good l D) : ∀ i ∈ D, i < l.length := by
  induction h with
  | nil => intro i hi; simp at hi
  | snoc hD ho hn he ih =>
    intro i hi
    simp only [List.mem_append, List.mem_singleton] at hi
    rcases hi with hi | rfl
    · exact ih i hi
    · exact (List.getElem?_eq_some_iff.1 ho).1

/-- Two that touch one thing stand in order: the elder is done wherever the younger is. -/
theorem dep_before {D : List Nat} (hk : chk l (effs.map Ef.lg) = true) (hD : Good l D) {i j : Nat} {x y : Ef} (hx : effs[j]? = some x) (hy : effs[i]? = some y) (hji : j < i) (hd : dep x.lg y.lg = true) (hi : i ∈ D ∨ ∃ o, l[i]? = some o ∧ ∀ e ∈ o.after.toList, Region.binds .any e = true → e.on ∈ D) : j ∈ D := by
  unfold chk at hk
  rw [Bool.and_eq_true] at hk
  obtain ⟨h1, h2⟩ := chkGo_spec _ _ _ hk.2
  have hlen := (ancs_spec l []).1
  have hil : i < effs.length := (List.getElem?_eq_some_iff.1 hy).1
  have hal : i < (ancs l []).length := by rw [h1]; simpa using hil
  have hb := h2 i y.lg _ (by simp [hy]) (List.getElem?_eq_getElem hal) j x.lg (by simpa using hji) (by simp [hx]) hd
  have hlo : i < l.length := by simp only [List.length_nil, Nat.zero_add] at hlen; omega
  rcases hi with hi | ⟨o, ho, he⟩
  · exact anc_mem hD.closed hk.1 i l[i] (List.getElem?_eq_getElem hlo) (hD.closed i hi _ (List.getElem?_eq_getElem hlo)) _ (List.getElem?_eq_getElem hal) j hb
  · exact anc_mem hD.closed hk.1 i o ho he _ (List.getElem?_eq_getElem hal) j hb

def effAt (effs : List Ef) (D : List Nat) : List Ef := D.filterMap fun i => effs[i]?

/-- Those of D that touch a thing, in D's own order, are those of the text, if they are the same ones. -/
theorem same_filter (hk : chk l (effs.map Ef.lg) = true) (hl : effs.length = l.length) (p : Ef → Bool) (hp : ∀ x y, p x = true → p y = true → dep x.lg y.lg = true) {D : List Nat} (hD : Good l D) (i : Nat)
    (hm : ∀ j x, effs[j]? = some x → p x = true → (j ∈ D ↔ j < i)) : (effAt effs D).filter p = (effs.take i).filter p := by
  let q : Nat → Bool := fun j => match effs[j]? with | some x => p x | none => false
  have hs : (D.filter q).Pairwise (· < ·) := by
    clear hm
    induction hD with
    | nil => simp
    | snoc hD0 ho hn he ih =>
      rename_i D0 i0 o0
      rw [List.filter_append, List.pairwise_append]
      refine ⟨ih, ?_, ?_⟩
      · by_cases hq : q i0 = true
        · simp [hq]
        · simp [hq]
      · intro j hj j' hj'
        simp only [List.mem_filter, List.mem_singleton] at hj hj'
        obtain ⟨hj, hqj⟩ := hj
        obtain ⟨rfl, hqj'⟩ := hj'
        rcases Nat.lt_trichotomy j j' with h | h | h
        · exact h
        · subst h; exact absurd hj hn
        · exfalso
          simp only [q] at hqj hqj'
          cases hx : effs[j]? with
          | none => rw [hx] at hqj; cases hqj
          | some x =>
            cases hy : effs[j']? with
            | none => rw [hy] at hqj'; cases hqj'
            | some y =>
              rw [hx] at hqj; rw [hy] at hqj'
              exact hn (dep_before hk hD0 hy hx h (hp _ _ hqj' hqj) (.inl hj))
  have hs2 : ((List.range l.length).filter fun j => q j && decide (j < i)).Pairwise (· < ·) := List.Pairwise.filter _ List.pairwise_lt_range
  have heq : D.filter q = (List.range l.length).filter fun j => q j && decide (j < i) := by
    refine sorted_ext _ _ hs hs2 fun j => ?_
    simp only [List.mem_filter, List.mem_range, Bool.and_eq_true, decide_eq_true_eq]
    constructor
    · rintro ⟨h1, h2⟩
      have h2' := h2
      simp only [q] at h2'
      cases hx : effs[j]? with
      | none => rw [hx] at h2'; cases h2'
      | some x => rw [hx] at h2'; exact ⟨hD.lt j h1, h2, (hm j x hx h2').1 h1⟩
    · rintro ⟨h1, h2, h3⟩
      have h2' := h2
      simp only [q] at h2'
      cases hx : effs[j]? with
      | none => rw [hx] at h2'; cases h2'
      | some x => rw [hx] at h2'; exact ⟨(hm j x hx h2').2 h3, h2⟩
  have e1 : ∀ D : List Nat, (effAt effs D).filter p = (D.filter q).filterMap fun i => effs[i]? := by
    intro D
    induction D with
    | nil => rfl
    | cons j D ih =>
      simp only [effAt, List.filterMap_cons] at ih ⊢
      cases hx : effs[j]? with
      | none =>
        have : q j = false := by simp [q, hx]
        rw [List.filter_cons_of_neg (by simp [this])]; exact ih
      | some x =>
        by_cases hpx : p x = true
        · have : q j = true := by simp [q, hx, hpx]
          rw [List.filter_cons_of_pos hpx, List.filter_cons_of_pos this, List.filterMap_cons, hx, ih]
        · have : q j = false := by simp [q, hx, hpx]
          rw [List.filter_cons_of_neg hpx, List.filter_cons_of_neg (by simp [this]), ih]
  have e2 : effs.take i = effAt effs ((List.range l.length).filter fun j => decide (j < i)) := by
    have key : ∀ (n : Nat) , effAt effs (List.range n) = effs.take n := by
      intro n
      induction n with
      | zero => rfl
      | succ n ih =>
        rw [List.range_succ]
        unfold effAt at ih ⊢
        rw [List.filterMap_append, ih, List.take_add_one]
        congr 1
    have hr : ((List.range l.length).filter fun j => decide (j < i)) = List.range (min i l.length) := by
      refine sorted_ext _ _ (List.Pairwise.filter _ List.pairwise_lt_range) List.pairwise_lt_range fun j => ?_
      simp only [List.mem_filter, List.mem_range, decide_eq_true_eq]; omega
    rw [hr, key]
    by_cases h : i ≤ l.length
    · rw [Nat.min_eq_left h]
    · rw [Nat.min_eq_right (by omega), List.take_of_length_le (by omega), List.take_of_length_le (by omega)]
  rw [e1, heq, e2, e1, List.filter_filter]
end

section
variable {G : Prg} {Γ : Ctx} {Q : Exit → Env → Prop} {E : Env}

/-- The walk of the text, as a list of effects. -/
theorem VR.effs {ops : Array Oper} {fin : List Lg → Prop} {K : Env → Prop} : ∀ (os : List Oper) (log : List Lg) (E : Env), VR G Γ ops fin K os log E →
    ∃ effs : List Ef, effs.length = os.length ∧ (∀ i e, effs[i]? = some e → os[i]? = some e.o ∧ GOp G Γ ops e.o (apps E (effs.take i)) e.val e.upd e.rs e.ro) ∧ fin (log ++ effs.map Ef.lg) ∧ K (apps E effs)
  | [], log, E, h => ⟨[], rfl, fun i e he => by simp at he, by simpa using h.1, h.2⟩
  | o :: os, log, E, h => by
    obtain ⟨val, upd, rs, ro, hg, hr⟩ := h
    obtain ⟨effs, h1, h2, h3, h4⟩ := VR.effs os _ _ hr
    refine ⟨⟨o, val, upd, rs, ro⟩ :: effs, by simp [h1], fun i e he => ?_, by simpa [Ef.lg] using h3, h4⟩
    cases i with
    | zero => simp at he; subst he; exact ⟨rfl, hg⟩
    | succ i =>
      obtain ⟨h5, h6⟩ := h2 i e (by simpa using he)
      exact ⟨by simpa using h5, h6⟩

theorem dep_wrS {t : Nat} {x y : Ef} (hx : wrS t x = true) (hy : wrS t y = true) : dep x.lg y.lg = true := by
  simp only [wrS, beq_iff_eq] at hx hy
  simp [dep, Ef.lg, hx, hy]
theorem dep_wrO {k : Nat} {x y : Ef} (hx : wrO k x = true) (hy : wrO k y = true) : dep x.lg y.lg = true := by
  simp only [wrO, List.contains_iff_mem] at hx hy
  simp only [dep, Ef.lg, Bool.or_eq_true, List.any_eq_true]
  refine .inl (.inr ⟨k, hx, ?_⟩)
  right; simpa using hy
theorem dep_rdS {t : Nat} {x y : Ef} (hx : wrS t x = true) (hy : t ∈ y.rs) : dep x.lg y.lg = true ∧ dep y.lg x.lg = true := by
  simp only [wrS, beq_iff_eq] at hx
  constructor <;> simp [dep, Ef.lg, hx, hy]
theorem dep_rdO {k : Nat} {x y : Ef} (hx : wrO k x = true) (hy : k ∈ y.ro) : dep x.lg y.lg = true ∧ dep y.lg x.lg = true := by
  simp only [wrO, List.contains_iff_mem] at hx
  constructor
  · simp only [dep, Ef.lg, Bool.or_eq_true, List.any_eq_true]
    exact .inl (.inr ⟨k, hx, .inl (by simpa using hy)⟩)
  · simp only [dep, Ef.lg, Bool.or_eq_true, List.any_eq_true]
    exact .inr ⟨k, hx, by simpa using hy⟩

/-- A region that draws its order. -/
theorem vw_draw {id : Nat} {l : List Oper} (h : VR G Γ l.toArray (fun log => chk l log = true) (Q .normal) l [] E) : VW G Γ (.region id l.toArray true) Q E := by
  intro a w hs
  obtain ⟨effs, hlen, hef, hk, hK⟩ := VR.effs l [] E h
  simp only [List.nil_append] at hk
  refine wp_region_any G.mixed ?_
  -- at the end everything has been done
  have fin : ∀ D, Good l D → (∀ i, i < l.length → i ∈ D) → ∀ a w, Sim Γ (apps E (effAt effs D)) a w → Sim Γ (apps E effs) a w := by
    intro D hD hall a w hs
    have hsl : ∀ t, look (apps E (effAt effs D)).sl t = look (apps E effs).sl t := by
      intro t
      rw [sl_filter t _ E E rfl, sl_filter t effs E E rfl, same_filter hk hlen (wrS t) (fun x y => dep_wrS) hD l.length (fun j x hx _ => ⟨fun hj => hD.lt j hj, fun hj => hall j hj⟩), List.take_of_length_le (by omega)]
    have hob : ∀ k, look (apps E (effAt effs D)).ob k = look (apps E effs).ob k := by
      intro k
      rw [ob_filter k _ E E rfl, ob_filter k effs E E rfl, same_filter hk hlen (wrO k) (fun x y => dep_wrO) hD l.length (fun j x hx _ => ⟨fun hj => hD.lt j hj, fun hj => hall j hj⟩), List.take_of_length_le (by omega)]
    obtain ⟨S, O, β, hs⟩ := hs
    exact ⟨S, O, β, ⟨hs.h.sh, hs.h.ow, hs.h.dj, fun k hk' => hs.h.dom k ((hob k).trans hk'), fun k o hk' => hs.h.objs k o ((hob k).trans hk')⟩, fun t v hv => hs.sl t v ((hsl t).trans hv), by rw [hs.n, apps_n, apps_n], hs.df, hs.s0, hs.s1, hs.o1,
      fun k hk' hn => hs.b0 k hk' (by rw [hob k]; exact hn), hs.fr⟩
  have main : ∀ (fuel : Nat) (D : List Nat) (listed : Array Bool) (a : Act) (w : World), Good l D → listed.size = l.length → (∀ i, i < l.length → (listed.getD i false = true ↔ i ∈ D)) → l.length ≤ fuel + D.length → D.Nodup → Sim Γ (apps E (effAt effs D)) a w →
      wpAny G.P .any l.toArray (fun e a' w' => ∃ E', Q e E' ∧ Sim Γ E' a' w') fuel listed a w := by
    have done : ∀ (D : List Nat) (listed : Array Bool), Good l D → listed.size = l.length → (∀ i, i < l.length → (listed.getD i false = true ↔ i ∈ D)) → Region.ready .any l.toArray listed = [] → ∀ i, i < l.length → i ∈ D := by
      intro D listed hD hsz hli hr i
      induction i using Nat.strongRecOn with
      | _ i ih =>
        intro hi
        refine Classical.byContradiction fun hn => ?_
        have hm : i ∈ Region.ready .any l.toArray listed := by
          rw [mem_ready]
          refine ⟨?_, l[i], by simp [hi], fun e he hb => ?_⟩
          · have : ¬ listed.getD i false = true := fun h => hn ((hli i hi).1 h)
            have hlt : i < listed.size := by omega
            simp only [Array.getD_eq_getD_getElem?, Array.getElem?_eq_getElem hlt, Option.getD_some] at this ⊢
            simpa using this
          · have hbk : backs l = true := by unfold chk at hk; rw [Bool.and_eq_true] at hk; exact hk.1
            have hm : (l[i], i) ∈ l.zipIdx := by rw [List.mem_zipIdx_iff_getElem?]; exact List.getElem?_eq_getElem hi
            have := List.all_eq_true.1 hbk _ hm
            have := List.all_eq_true.1 this e (by simpa using he)
            simp only [Bool.or_eq_true, Bool.not_eq_true', hb] at this
            rcases this with h | h
            · cases h
            · have hlt := Nat.blt_eq.mp h
              exact (hli e.on (by omega)).2 (ih e.on hlt (by omega))
        rw [hr] at hm
        simp at hm
    intro fuel
    induction fuel with
    | zero =>
      intro D listed a w hD hsz hli hf hnd hs
      have hall : ∀ i, i < l.length → i ∈ D := by
        intro i hi
        refine Classical.byContradiction fun hn => ?_
        have h1 : (i :: D).Nodup := List.nodup_cons.2 ⟨hn, hnd⟩
        have h2 : (i :: D) ⊆ List.range l.length := by
          intro j hj
          simp only [List.mem_cons] at hj
          rw [List.mem_range]
          rcases hj with rfl | hj
          · exact hi
          · exact hD.lt j hj
        have := h1.length_le_of_subset h2
        simp at this
        omega
      refine ⟨?_, apps E effs, hK, fin D hD hall a w hs⟩
      refine List.eq_nil_iff_forall_not_mem.2 fun i hi => ?_
      rw [mem_ready] at hi
      obtain ⟨h1, o, ho, _⟩ := hi
      have hil : i < l.length := by have := (List.getElem?_eq_some_iff.1 (show l[i]? = some o by simpa using ho)).1; exact this
      have h2 := (hli i hil).2 (hall i hil)
      have hlt : i < listed.size := by omega
      simp only [Array.getD_eq_getD_getElem?, Array.getElem?_eq_getElem hlt, Option.getD_some] at h1 h2
      rw [h2] at h1; cases h1
    | succ fuel ih =>
      intro D listed a w hD hsz hli hf hnd hs
      refine ⟨fun hr => ⟨apps E effs, hK, fin D hD (done D listed hD hsz hli hr) a w hs⟩, fun i hi => ?_⟩
      rw [mem_ready] at hi
      obtain ⟨h1, o, ho, hall⟩ := hi
      have ho' : l[i]? = some o := by simpa using ho
      have hil : i < l.length := (List.getElem?_eq_some_iff.1 ho').1
      have hlt : i < listed.size := by omega
      have hnD : i ∉ D := fun hm => by
        have h2 := (hli i hil).2 hm
        simp only [Array.getD_eq_getD_getElem?, Array.getElem?_eq_getElem hlt, Option.getD_some] at h1 h2
        rw [h2] at h1; cases h1
      have hbk : backs l = true := by unfold chk at hk; rw [Bool.and_eq_true] at hk; exact hk.1
      have hdeps : ∀ e ∈ o.after.toList, Region.binds .any e = true → e.on ∈ D := by
        intro e he hb
        have hm : (o, i) ∈ l.zipIdx := by rw [List.mem_zipIdx_iff_getElem?]; exact ho'
        have := List.all_eq_true.1 hbk _ hm
        have := List.all_eq_true.1 this e he
        simp only [Bool.or_eq_true, Bool.not_eq_true', hb] at this
        rcases this with h | h
        · cases h
        · have hlt := Nat.blt_eq.mp h
          exact (hli e.on (by omega)).1 (hall e (by simpa using he) hb)
      have heff : effs[i]? = some (effs[i]'(by omega)) := List.getElem?_eq_getElem (by omega)
      obtain ⟨h3, h4⟩ := hef i _ heff
      have hoe : (effs[i]'(by omega)).o = o := by rw [ho'] at h3; cases h3; rfl
      -- where it looks, the world of this order is the world of the text
      have hlook : ∀ (p : Ef → Bool) (hp : ∀ x y, p x = true → p y = true → dep x.lg y.lg = true) (hr : ∀ x, p x = true → dep x.lg (effs[i]'(by omega)).lg = true ∧ dep (effs[i]'(by omega)).lg x.lg = true), (effAt effs D).filter p = (effs.take i).filter p := by
        intro p hp hr
        refine same_filter hk hlen p hp hD i fun j x hx hpx => ?_
        constructor
        · intro hj
          rcases Nat.lt_trichotomy j i with h | h | h
          · exact h
          · subst h; exact absurd hj hnD
          · exact absurd (dep_before hk hD heff hx h (hr x hpx).2 (.inl hj)) hnD
        · intro hj
          exact dep_before hk hD hx heff hj (hr x hpx).1 (.inr ⟨o, ho', hdeps⟩)
      have hsl : ∀ t, t ∈ (effs[i]'(by omega)).rs → look (apps E (effAt effs D)).sl t = look (apps E (effs.take i)).sl t := by
        intro t ht
        rw [sl_filter t _ E E rfl, sl_filter t (effs.take i) E E rfl, hlook (wrS t) (fun x y => dep_wrS) (fun x hx => dep_rdS hx ht)]
      have hob : ∀ k, k ∈ (effs[i]'(by omega)).ro → look (apps E (effAt effs D)).ob k = look (apps E (effs.take i)).ob k := by
        intro k hk'
        rw [ob_filter k _ E E rfl, ob_filter k (effs.take i) E E rfl, hlook (wrO k) (fun x y => dep_wrO) (fun x hx => dep_rdO hx hk')]
      unfold wpOp
      rw [ho]
      simp only
      rw [hoe] at h4
      refine h4.sound (by rw [apps_n, apps_n]) hsl hob hs fun a' w' hs' => ?_
      have hgood : Good l (D ++ [i]) := .snoc hD ho' hnD hdeps
      refine ih (D ++ [i]) _ a' w' hgood (by simpa using hsz) (fun j hj => ?_) (by simp; omega) ?_ ?_
      · simp only [List.mem_append, List.mem_singleton]
        by_cases hij : i = j
        · subst hij
          simp [hlt]
        · rw [getD_set_ne false hij, hli j hj]
          constructor
          · exact .inl
          · rintro (h | h)
            · exact h
            · exact absurd h.symm hij
      · rw [List.nodup_append]
        refine ⟨hnd, by simp, ?_⟩
        intro x hx y hy
        simp only [List.mem_singleton] at hy
        subst hy
        intro e; subst e; exact hnD hx
      · have e : effAt effs (D ++ [i]) = effAt effs D ++ [effs[i]'(by omega)] := by
          unfold effAt
          rw [List.filterMap_append]
          simp [heff]
        rw [e, apps_snoc, hoe]
        exact hs'
  exact main l.toArray.size [] _ a _ .nil (by simp) (fun i hi => by simp [hi]) (by simp) (by simp) (by simpa [effAt, apps] using hs.drew)
end
end Go.Vc

/-! For each operation the lemma that a walk goes by. Printed by a small program (mkuse.py). -/
set_option linter.unusedSimpArgs false
set_option linter.unusedVariables false
namespace Go.Vc
open Go Go.RowKit

theorem OpS.more {G : Prg} {Γ : Ctx} {o : Oper} {E : Env} {val : AV} {upd : List (Nat × AO)} {rs ro : List Nat} (h : OpS G Γ o E val upd rs ro) (rs' : List Nat) : OpS G Γ o E val upd (rs' ++ rs) ro :=
  fun E' hn h1 h2 => h E' hn (fun t ht => h1 t (by simp [ht])) h2

/-- The slot that a guard asks. -/
def gsl (ops : Array Oper) : Option (Nat × Bool) → List Nat
  | none => []
  | some (j, _) => ((ops[j]?).bind (·.dst)).toList

/-- The guard says yes. -/
def GOk (ops : Array Oper) (sl : List (Nat × AV)) (n : Nat) : Option (Nat × Bool) → Prop
  | none => True
  | some (j, want) => ∃ t v, (ops[j]?).bind (·.dst) = some t ∧ Nat.blt t n = true ∧ look sl t = some v ∧ wants want v = true

section
variable {G : Prg} {Γ : Ctx} {ops : Array Oper} {fin : List Lg → Prop} {K : Env → Prop} {os : List Oper} {log : List Lg} {sl : List (Nat × AV)} {ob : List (Nat × AO)} {nn : Nat} {d : Nat} {ty : TypeId} {pos : String} {aft : Array Edge} {gd : Option (Nat × Bool)}

theorem u_op {o : Oper} {val : AV} {upd : List (Nat × AO)} {rs ro : List Nat} (h : OpS G Γ o ⟨sl, ob, nn⟩ val upd rs ro) (hg : GOk ops sl nn o.guard)
    (k : VR G Γ ops fin K os (log ++ [⟨o.dst, gsl ops o.guard ++ rs, ro, upd.map (·.1)⟩]) (Env.app ⟨sl, ob, nn⟩ o.dst val upd)) : VR G Γ ops fin K (o :: os) log ⟨sl, ob, nn⟩ := by
  refine ⟨val, upd, gsl ops o.guard ++ rs, ro, ?_, k⟩
  unfold GOp
  cases hgd : o.guard with
  | none => exact h.more _
  | some p =>
    obtain ⟨j, want⟩ := p
    rw [hgd] at hg
    obtain ⟨t, v, h1, h2, h3, h4⟩ := hg
    exact ⟨t, v, h1, Nat.blt_eq.mp h2, h3, by simp [gsl, h1], .inl ⟨h4, h.more _⟩⟩

/-- What is passed over. -/
theorem u_skip {o : Op} {j t : Nat} {want : Bool} {v : AV} (h1 : (ops[j]?).bind (·.dst) = some t) (h2 : Nat.blt t nn = true) (h3 : look sl t = some v) (h4 : skips want v = true) (hd : Nat.blt d nn = true)
    (k : VR G Γ ops fin K os (log ++ [⟨some d, [t], [], []⟩]) ⟨(d, .tup []) :: sl, ob, nn⟩) : VR G Γ ops fin K (⟨some d, o, ty, pos, aft, some (j, want)⟩ :: os) log ⟨sl, ob, nn⟩ :=
  ⟨.tup [], [], [t], [], ⟨t, v, h1, Nat.blt_eq.mp h2, h3, by simp, .inr ⟨h4, rfl, rfl, fun d' hd' => by cases hd'; exact Nat.blt_eq.mp hd⟩⟩, k⟩

theorem u_end (h1 : fin log) (h2 : K ⟨sl, ob, nn⟩) : VR G Γ ops fin K [] log ⟨sl, ob, nn⟩ := ⟨h1, h2⟩
theorem dlt (h : Nat.blt d nn = true) : ∀ d', some d = some d' → d' < nn := fun d' e => by cases e; exact Nat.blt_eq.mp h
theorem dno : ∀ d', (none : Option Tmp) = some d' → d' < nn := fun d' e => by cases e

theorem u_move {x : Operand} {v : AV} (hx : evo (look sl) x = some (v)) (hd : Nat.blt d nn = true) (hg : GOk ops sl nn gd) (kk' : VR G Γ ops fin K os (log ++ [⟨some d, gsl ops gd ++ (sl1 x), [], []⟩]) ⟨(d, v) :: sl, ob, nn⟩) : VR G Γ ops fin K (⟨some d, .move x, ty, pos, aft, gd⟩ :: os) log ⟨sl, ob, nn⟩ := by
  exact u_op (op_move (G := G) (Γ := Γ) (E := ⟨sl, ob, nn⟩) (dst := some d) (ty := ty) (pos := pos) (aft := aft) (gd := gd) hx (dlt hd)) hg kk'
theorem u_assign {x : Operand} {v : AV} (hx : evo (look sl) x = some (v)) (hd : Nat.blt d nn = true) (hg : GOk ops sl nn gd) (kk' : VR G Γ ops fin K os (log ++ [⟨some d, gsl ops gd ++ (sl1 x), [], []⟩]) ⟨(d, v) :: sl, ob, nn⟩) : VR G Γ ops fin K (⟨some d, .assign x, ty, pos, aft, gd⟩ :: os) log ⟨sl, ob, nn⟩ := by
  exact u_op (op_assign (G := G) (Γ := Γ) (E := ⟨sl, ob, nn⟩) (dst := some d) (ty := ty) (pos := pos) (aft := aft) (gd := gd) hx (dlt hd)) hg kk'
theorem u_nilCheck {x : Operand} {k off : Nat} (hx : evo (look sl) x = some (.ptr k off)) (hd : Nat.blt d nn = true) (hg : GOk ops sl nn gd) (kk' : VR G Γ ops fin K os (log ++ [⟨some d, gsl ops gd ++ (sl1 x), [], []⟩]) ⟨(d, .ptr k off) :: sl, ob, nn⟩) : VR G Γ ops fin K (⟨some d, .nilCheck x, ty, pos, aft, gd⟩ :: os) log ⟨sl, ob, nn⟩ := by
  exact u_op (op_nilCheck (G := G) (Γ := Γ) (E := ⟨sl, ob, nn⟩) (dst := some d) (ty := ty) (pos := pos) (aft := aft) (gd := gd) hx (dlt hd)) hg kk'
theorem u_pick {c x y : Operand} {b : Bool} {v : AV} (hc : evo (look sl) c = some (.lit (.bool b))) (hx : evo (look sl) (if b then x else y) = some v) (hd : Nat.blt d nn = true) (hg : GOk ops sl nn gd) (kk' : VR G Γ ops fin K os (log ++ [⟨some d, gsl ops gd ++ (sl1 c ++ sl1 x ++ sl1 y), [], []⟩]) ⟨(d, v) :: sl, ob, nn⟩) : VR G Γ ops fin K (⟨some d, .pick c x y, ty, pos, aft, gd⟩ :: os) log ⟨sl, ob, nn⟩ := by
  exact u_op (op_pick (G := G) (Γ := Γ) (E := ⟨sl, ob, nn⟩) (dst := some d) (ty := ty) (pos := pos) (aft := aft) (gd := gd) hc hx (dlt hd)) hg kk'
theorem u_not {x : Operand} {b : Bool} {t : TypeId} (hx : evo (look sl) x = some (.lit (.bool b))) (hd : Nat.blt d nn = true) (hg : GOk ops sl nn gd) (kk' : VR G Γ ops fin K os (log ++ [⟨some d, gsl ops gd ++ (sl1 x), [], []⟩]) ⟨(d, .lit (.bool (!b))) :: sl, ob, nn⟩) : VR G Γ ops fin K (⟨some d, .unOp .not t x, ty, pos, aft, gd⟩ :: os) log ⟨sl, ob, nn⟩ := by
  exact u_op (op_not (G := G) (Γ := Γ) (E := ⟨sl, ob, nn⟩) (dst := some d) (ty := ty) (pos := pos) (aft := aft) (gd := gd) hx (dlt hd)) hg kk'
theorem u_extract {x : Operand} {vs : List AV} {i : Nat} {v : AV} (hx : evo (look sl) x = some (.tup vs)) (hv : vs[i]? = some v) (hd : Nat.blt d nn = true) (hg : GOk ops sl nn gd) (kk' : VR G Γ ops fin K os (log ++ [⟨some d, gsl ops gd ++ (sl1 x), [], []⟩]) ⟨(d, v) :: sl, ob, nn⟩) : VR G Γ ops fin K (⟨some d, .extract x i, ty, pos, aft, gd⟩ :: os) log ⟨sl, ob, nn⟩ := by
  exact u_op (op_extract (G := G) (Γ := Γ) (E := ⟨sl, ob, nn⟩) (dst := some d) (ty := ty) (pos := pos) (aft := aft) (gd := gd) hx hv (dlt hd)) hg kk'
theorem u_makeFunc {f : FuncId} {caps : Array Operand} {vs : List AV} (hx : caps.toList.map (evo (look sl)) = vs.map some) (hd : Nat.blt d nn = true) (hg : GOk ops sl nn gd) (kk' : VR G Γ ops fin K os (log ++ [⟨some d, gsl ops gd ++ (caps.toList.flatMap sl1), [], []⟩]) ⟨(d, .clo f vs) :: sl, ob, nn⟩) : VR G Γ ops fin K (⟨some d, .makeFunc (.func f) #[] caps, ty, pos, aft, gd⟩ :: os) log ⟨sl, ob, nn⟩ := by
  exact u_op (op_makeFunc (G := G) (Γ := Γ) (E := ⟨sl, ob, nn⟩) (dst := some d) (ty := ty) (pos := pos) (aft := aft) (gd := gd) hx (dlt hd)) hg kk'
theorem u_alloc {t : TypeId} (k : Nat) {cs : List AV} (hkn : (G.T.kind t).known = true) (hk : look ob k = none) (hp : k ∉ Γ.par) (hcs : (G.T.zero t).map .lit = cs) (hd : Nat.blt d nn = true) (hg : GOk ops sl nn gd) (kk' : VR G Γ ops fin K os (log ++ [⟨some d, gsl ops gd ++ ([]), [k], [k]⟩]) ⟨(d, .ptr k 0) :: sl, (k, .box cs) :: ob, nn⟩) : VR G Γ ops fin K (⟨some d, .alloc t, ty, pos, aft, gd⟩ :: os) log ⟨sl, ob, nn⟩ := by
  subst hcs
  exact u_op (op_alloc (G := G) (Γ := Γ) (E := ⟨sl, ob, nn⟩) (dst := some d) (ty := ty) (pos := pos) (aft := aft) (gd := gd) k hkn hk hp (dlt hd)) hg kk'
theorem u_box {t : TypeId} {x : Operand} {v : AV} (k : Nat) {cs : List AV} (hx : evo (look sl) x = some (v)) (hb : boxable v = true) (hk : look ob k = none) (hp : k ∉ Γ.par) (hcs : cellsOf v = cs) (hd : Nat.blt d nn = true) (hg : GOk ops sl nn gd) (kk' : VR G Γ ops fin K os (log ++ [⟨some d, gsl ops gd ++ (sl1 x), [k], [k]⟩]) ⟨(d, .ptr k 0) :: sl, (k, .box cs) :: ob, nn⟩) : VR G Γ ops fin K (⟨some d, .box t x, ty, pos, aft, gd⟩ :: os) log ⟨sl, ob, nn⟩ := by
  subst hcs
  exact u_op (op_box (G := G) (Γ := Γ) (E := ⟨sl, ob, nn⟩) (dst := some d) (ty := ty) (pos := pos) (aft := aft) (gd := gd) k hx hb hk hp (dlt hd)) hg kk'
theorem u_load1 {t : TypeId} {x : Operand} {k off : Nat} {cs : List AV} {v : AV} (hx : evo (look sl) x = some (.ptr k off)) (hk : look ob k = some (.box cs)) (hv : cs[off]? = some v) (hkn : (G.T.kind t).known = true) (ha : (G.T.kind t).agg = false) (hd : Nat.blt d nn = true) (hg : GOk ops sl nn gd) (kk' : VR G Γ ops fin K os (log ++ [⟨some d, gsl ops gd ++ (sl1 x), [k], []⟩]) ⟨(d, v) :: sl, ob, nn⟩) : VR G Γ ops fin K (⟨some d, .load t x, ty, pos, aft, gd⟩ :: os) log ⟨sl, ob, nn⟩ := by
  exact u_op (op_load1 (G := G) (Γ := Γ) (E := ⟨sl, ob, nn⟩) (dst := some d) (ty := ty) (pos := pos) (aft := aft) (gd := gd) hx hk hv hkn ha (dlt hd)) hg kk'
theorem u_loadN {t : TypeId} {x : Operand} {k off sz : Nat} {cs : List AV} (hx : evo (look sl) x = some (.ptr k off)) (hk : look ob k = some (.box cs)) (hsz : G.T.size t = sz) (hv : Nat.ble (off + sz) cs.length = true) (hkn : (G.T.kind t).known = true) (ha : (G.T.kind t).agg = true) (hd : Nat.blt d nn = true) (hg : GOk ops sl nn gd) (kk' : VR G Γ ops fin K os (log ++ [⟨some d, gsl ops gd ++ (sl1 x), [k], []⟩]) ⟨(d, .agg ((cs.drop off).take sz)) :: sl, ob, nn⟩) : VR G Γ ops fin K (⟨some d, .load t x, ty, pos, aft, gd⟩ :: os) log ⟨sl, ob, nn⟩ := by
  subst hsz
  exact u_op (op_loadN (G := G) (Γ := Γ) (E := ⟨sl, ob, nn⟩) (dst := some d) (ty := ty) (pos := pos) (aft := aft) (gd := gd) hx hk (Nat.le_of_ble_eq_true hv) hkn ha (dlt hd)) hg kk'
theorem u_loadAll {t : TypeId} {x : Operand} {k : Nat} {cs : List AV} (hx : evo (look sl) x = some (.ptr k 0)) (hk : look ob k = some (.box cs)) (hv : cs.length = G.T.size t) (hkn : (G.T.kind t).known = true) (ha : (G.T.kind t).agg = true) (hd : Nat.blt d nn = true) (hg : GOk ops sl nn gd) (kk' : VR G Γ ops fin K os (log ++ [⟨some d, gsl ops gd ++ (sl1 x), [k], []⟩]) ⟨(d, .agg cs) :: sl, ob, nn⟩) : VR G Γ ops fin K (⟨some d, .load t x, ty, pos, aft, gd⟩ :: os) log ⟨sl, ob, nn⟩ := by
  exact u_op (op_loadAll (G := G) (Γ := Γ) (E := ⟨sl, ob, nn⟩) (dst := some d) (ty := ty) (pos := pos) (aft := aft) (gd := gd) hx hk hv hkn ha (dlt hd)) hg kk'
theorem u_loadRow1 {t e : TypeId} {x : Operand} {k sz i j : Nat} {xs : List (List AV)} {u : List AV} {v : AV} (hx : evo (look sl) x = some (.rptr k sz i j)) (hk : look ob k = some (.row e sz xs)) (hu : xs[i]? = some u) (hv : u[j]? = some v) (hkn : (G.T.kind t).known = true) (ha : (G.T.kind t).agg = false) (hd : Nat.blt d nn = true) (hg : GOk ops sl nn gd) (kk' : VR G Γ ops fin K os (log ++ [⟨some d, gsl ops gd ++ (sl1 x), [k], []⟩]) ⟨(d, v) :: sl, ob, nn⟩) : VR G Γ ops fin K (⟨some d, .load t x, ty, pos, aft, gd⟩ :: os) log ⟨sl, ob, nn⟩ := by
  exact u_op (op_loadRow1 (G := G) (Γ := Γ) (E := ⟨sl, ob, nn⟩) (dst := some d) (ty := ty) (pos := pos) (aft := aft) (gd := gd) hx hk hu hv hkn ha (dlt hd)) hg kk'
theorem u_loadRowAll {t e : TypeId} {x : Operand} {k sz i : Nat} {xs : List (List AV)} {u : List AV} (hx : evo (look sl) x = some (.rptr k sz i 0)) (hk : look ob k = some (.row e sz xs)) (hu : xs[i]? = some u) (hv : u.length = G.T.size t) (hkn : (G.T.kind t).known = true) (ha : (G.T.kind t).agg = true) (hd : Nat.blt d nn = true) (hg : GOk ops sl nn gd) (kk' : VR G Γ ops fin K os (log ++ [⟨some d, gsl ops gd ++ (sl1 x), [k], []⟩]) ⟨(d, .agg u) :: sl, ob, nn⟩) : VR G Γ ops fin K (⟨some d, .load t x, ty, pos, aft, gd⟩ :: os) log ⟨sl, ob, nn⟩ := by
  have := op_loadRowN (G := G) (Γ := Γ) (E := ⟨sl, ob, nn⟩) (dst := some d) (ty := ty) (pos := pos) (aft := aft) (gd := gd) hx hk hu (by omega) hkn ha (dlt hd); rw [List.drop_zero, List.take_of_length_le (by omega)] at this
  exact u_op (this) hg kk'
theorem u_loadS1 {t : TypeId} {x : Operand} {cs : List AV} {v : AV} (hx : evo (look sl) x = some (.sptr cs)) (hv : cs.head? = some v) (hkn : (G.T.kind t).known = true) (ha : (G.T.kind t).agg = false) (hd : Nat.blt d nn = true) (hg : GOk ops sl nn gd) (kk' : VR G Γ ops fin K os (log ++ [⟨some d, gsl ops gd ++ (sl1 x), [], []⟩]) ⟨(d, v) :: sl, ob, nn⟩) : VR G Γ ops fin K (⟨some d, .load t x, ty, pos, aft, gd⟩ :: os) log ⟨sl, ob, nn⟩ := by
  obtain ⟨r, rfl⟩ : ∃ r, cs = v :: r := by cases cs with | nil => simp at hv | cons a b => simp at hv; subst hv; exact ⟨b, rfl⟩
  exact u_op (op_loadS1 (G := G) (Γ := Γ) (E := ⟨sl, ob, nn⟩) (dst := some d) (ty := ty) (pos := pos) (aft := aft) (gd := gd) hx hkn ha (dlt hd)) hg kk'
theorem u_loadSAll {t : TypeId} {x : Operand} {cs : List AV} (hx : evo (look sl) x = some (.sptr cs)) (hv : cs.length = G.T.size t) (hkn : (G.T.kind t).known = true) (ha : (G.T.kind t).agg = true) (hd : Nat.blt d nn = true) (hg : GOk ops sl nn gd) (kk' : VR G Γ ops fin K os (log ++ [⟨some d, gsl ops gd ++ (sl1 x), [], []⟩]) ⟨(d, .agg cs) :: sl, ob, nn⟩) : VR G Γ ops fin K (⟨some d, .load t x, ty, pos, aft, gd⟩ :: os) log ⟨sl, ob, nn⟩ := by
  exact u_op (op_loadSAll (G := G) (Γ := Γ) (E := ⟨sl, ob, nn⟩) (dst := some d) (ty := ty) (pos := pos) (aft := aft) (gd := gd) hx hv hkn ha (dlt hd)) hg kk'
theorem u_loadSN {t : TypeId} {x : Operand} {cs : List AV} {sz : Nat} (hx : evo (look sl) x = some (.sptr cs)) (hsz : G.T.size t = sz) (hv : Nat.ble sz cs.length = true) (hkn : (G.T.kind t).known = true) (ha : (G.T.kind t).agg = true) (hd : Nat.blt d nn = true) (hg : GOk ops sl nn gd) (kk' : VR G Γ ops fin K os (log ++ [⟨some d, gsl ops gd ++ (sl1 x), [], []⟩]) ⟨(d, .agg (cs.take sz)) :: sl, ob, nn⟩) : VR G Γ ops fin K (⟨some d, .load t x, ty, pos, aft, gd⟩ :: os) log ⟨sl, ob, nn⟩ := by
  subst hsz
  exact u_op (op_loadSN (G := G) (Γ := Γ) (E := ⟨sl, ob, nn⟩) (dst := some d) (ty := ty) (pos := pos) (aft := aft) (gd := gd) hx (Nat.le_of_ble_eq_true hv) hkn ha (dlt hd)) hg kk'
theorem u_store {t : TypeId} {x y : Operand} {k off : Nat} {cs : List AV} {v : AV} (hx : evo (look sl) x = some (.ptr k off)) (hy : evo (look sl) y = some (v)) (hk : look ob k = some (.box cs)) (hb : boxable v = true) (hl : (cellsOf v).length = G.T.size t) (ho : Nat.ble (off + (cellsOf v).length) cs.length = true) (hkn : (G.T.kind t).known = true) (hg : GOk ops sl nn gd) (kk' : VR G Γ ops fin K os (log ++ [⟨none, gsl ops gd ++ (sl1 x ++ sl1 y), [k], [k]⟩]) ⟨sl, (k, .box (wrA cs off (cellsOf v))) :: ob, nn⟩) : VR G Γ ops fin K (⟨none, .store t x y, ty, pos, aft, gd⟩ :: os) log ⟨sl, ob, nn⟩ := by
  exact u_op (op_store (G := G) (Γ := Γ) (E := ⟨sl, ob, nn⟩) (dst := none) (ty := ty) (pos := pos) (aft := aft) (gd := gd) hx hy hk hb hl (Nat.le_of_ble_eq_true ho) rfl hkn dno) hg kk'
theorem u_storeAll {t : TypeId} {x y : Operand} {k : Nat} {cs vs : List AV} {v : AV} (hx : evo (look sl) x = some (.ptr k 0)) (hy : evo (look sl) y = some (v)) (hk : look ob k = some (.box cs)) (hb : boxable v = true) (hvs : cellsOf v = vs) (hl : vs.length = G.T.size t) (ho : vs.length = cs.length) (hkn : (G.T.kind t).known = true) (hg : GOk ops sl nn gd) (kk' : VR G Γ ops fin K os (log ++ [⟨none, gsl ops gd ++ (sl1 x ++ sl1 y), [k], [k]⟩]) ⟨sl, (k, .box vs) :: ob, nn⟩) : VR G Γ ops fin K (⟨none, .store t x y, ty, pos, aft, gd⟩ :: os) log ⟨sl, ob, nn⟩ := by
  subst hvs
  exact u_op (op_storeAll (G := G) (Γ := Γ) (E := ⟨sl, ob, nn⟩) (dst := none) (ty := ty) (pos := pos) (aft := aft) (gd := gd) hx hy hk hb hl ho hkn dno) hg kk'
theorem u_storeRow {t e : TypeId} {x y : Operand} {k sz i j : Nat} {xs : List (List AV)} {u : List AV} {v : AV} (hx : evo (look sl) x = some (.rptr k sz i j)) (hy : evo (look sl) y = some (v)) (hk : look ob k = some (.row e sz xs)) (hu : xs[i]? = some u) (hb : boxable v = true) (hP : ∀ c ∈ cellsOf v, isP c = true) (hl : (cellsOf v).length = G.T.size t) (ho : Nat.ble (j + (cellsOf v).length) sz = true) (hkn : (G.T.kind t).known = true) (hg : GOk ops sl nn gd) (kk' : VR G Γ ops fin K os (log ++ [⟨none, gsl ops gd ++ (sl1 x ++ sl1 y), [k], [k]⟩]) ⟨sl, (k, .row e sz (xs.set i (wrA u j (cellsOf v)))) :: ob, nn⟩) : VR G Γ ops fin K (⟨none, .store t x y, ty, pos, aft, gd⟩ :: os) log ⟨sl, ob, nn⟩ := by
  exact u_op (op_storeRow (G := G) (Γ := Γ) (E := ⟨sl, ob, nn⟩) (dst := none) (ty := ty) (pos := pos) (aft := aft) (gd := gd) hx hy hk hu hb hP hl (Nat.le_of_ble_eq_true ho) hkn dno) hg kk'
theorem u_fieldAddr {s : TypeId} {x : Operand} {f k o off m : Nat} {fs : List (Nat × TypeId)} {ft : TypeId} (hx : evo (look sl) x = some (.ptr k o)) (hs : G.T.kind s = .struct fs) (hf : fs[f]? = some (off, ft)) (hft : (G.T.kind ft).known = true) (hz : G.T.size ft = m + 1) (hd : Nat.blt d nn = true) (hg : GOk ops sl nn gd) (kk' : VR G Γ ops fin K os (log ++ [⟨some d, gsl ops gd ++ (sl1 x), [], []⟩]) ⟨(d, .ptr k (o + off)) :: sl, ob, nn⟩) : VR G Γ ops fin K (⟨some d, .fieldAddr s x f, ty, pos, aft, gd⟩ :: os) log ⟨sl, ob, nn⟩ := by
  exact u_op (op_fieldAddr (G := G) (Γ := Γ) (E := ⟨sl, ob, nn⟩) (dst := some d) (ty := ty) (pos := pos) (aft := aft) (gd := gd) hx hs hf hft (by omega) (dlt hd)) hg kk'
theorem u_fieldAddrR {s : TypeId} {x : Operand} {f k sz i j off m : Nat} {fs : List (Nat × TypeId)} {ft : TypeId} (hx : evo (look sl) x = some (.rptr k sz i j)) (hs : G.T.kind s = .struct fs) (hf : fs[f]? = some (off, ft)) (hft : (G.T.kind ft).known = true) (hz : G.T.size ft = m + 1) (hd : Nat.blt d nn = true) (hg : GOk ops sl nn gd) (kk' : VR G Γ ops fin K os (log ++ [⟨some d, gsl ops gd ++ (sl1 x), [], []⟩]) ⟨(d, .rptr k sz i (j + off)) :: sl, ob, nn⟩) : VR G Γ ops fin K (⟨some d, .fieldAddr s x f, ty, pos, aft, gd⟩ :: os) log ⟨sl, ob, nn⟩ := by
  exact u_op (op_fieldAddrR (G := G) (Γ := Γ) (E := ⟨sl, ob, nn⟩) (dst := some d) (ty := ty) (pos := pos) (aft := aft) (gd := gd) hx hs hf hft (by omega) (dlt hd)) hg kk'
theorem u_fieldAddrS {s : TypeId} {x : Operand} {f off m : Nat} {cs : List AV} {fs : List (Nat × TypeId)} {ft : TypeId} (hx : evo (look sl) x = some (.sptr cs)) (hs : G.T.kind s = .struct fs) (hf : fs[f]? = some (off, ft)) (hft : (G.T.kind ft).known = true) (hz : G.T.size ft = m + 1) (hd : Nat.blt d nn = true) (hg : GOk ops sl nn gd) (kk' : VR G Γ ops fin K os (log ++ [⟨some d, gsl ops gd ++ (sl1 x), [], []⟩]) ⟨(d, .sptr (cs.drop off)) :: sl, ob, nn⟩) : VR G Γ ops fin K (⟨some d, .fieldAddr s x f, ty, pos, aft, gd⟩ :: os) log ⟨sl, ob, nn⟩ := by
  exact u_op (op_fieldAddrS (G := G) (Γ := Γ) (E := ⟨sl, ob, nn⟩) (dst := some d) (ty := ty) (pos := pos) (aft := aft) (gd := gd) hx hs hf hft (by omega) (dlt hd)) hg kk'
theorem u_indexS {t e : TypeId} {x y : Operand} {sz i : Nat} {kk : IntKind} {z : Int} {xs : List (List AV)} {u : List AV} (hx : evo (look sl) x = some (.shr sz xs)) (hy : evo (look sl) y = some (.lit (.int kk z))) (ht : G.T.kind t = .slice e) (he : (G.T.kind e).known = true) (hsz : G.T.size e = sz) (hz : z = i) (hu : xs[i]? = some u) (hd : Nat.blt d nn = true) (hg : GOk ops sl nn gd) (kk' : VR G Γ ops fin K os (log ++ [⟨some d, gsl ops gd ++ (sl1 x ++ sl1 y), [], []⟩]) ⟨(d, .sptr u) :: sl, ob, nn⟩) : VR G Γ ops fin K (⟨some d, .indexAddr t x y, ty, pos, aft, gd⟩ :: os) log ⟨sl, ob, nn⟩ := by
  exact u_op (op_indexS (G := G) (Γ := Γ) (E := ⟨sl, ob, nn⟩) (dst := some d) (ty := ty) (pos := pos) (aft := aft) (gd := gd) hx hy ht he hsz hz hu (dlt hd)) hg kk'
theorem u_indexR {t e e' : TypeId} {x y : Operand} {sz i k : Nat} {kk : IntKind} {z : Int} {xs : List (List AV)} (hx : evo (look sl) x = some (.row k)) (hy : evo (look sl) y = some (.lit (.int kk z))) (hk : look ob k = some (.row e' sz xs)) (ht : G.T.kind t = .slice e) (he : (G.T.kind e).known = true) (hsz : G.T.size e = sz) (hz : z = i) (hu : i < xs.length) (hd : Nat.blt d nn = true) (hg : GOk ops sl nn gd) (kk' : VR G Γ ops fin K os (log ++ [⟨some d, gsl ops gd ++ (sl1 x ++ sl1 y), [k], []⟩]) ⟨(d, .rptr k sz i 0) :: sl, ob, nn⟩) : VR G Γ ops fin K (⟨some d, .indexAddr t x y, ty, pos, aft, gd⟩ :: os) log ⟨sl, ob, nn⟩ := by
  exact u_op (op_indexR (G := G) (Γ := Γ) (E := ⟨sl, ob, nn⟩) (dst := some d) (ty := ty) (pos := pos) (aft := aft) (gd := gd) hx hy hk ht he hsz hz hu (dlt hd)) hg kk'
theorem u_indexA {t e : TypeId} {x y : Operand} {len i k o : Nat} {kk : IntKind} {z : Int} (hx : evo (look sl) x = some (.ptr k o)) (hy : evo (look sl) y = some (.lit (.int kk z))) (ht : G.T.kind t = .arr len e) (he : (G.T.kind e).known = true) (hsz : G.T.size e = 1) (hz : z = i) (hu : i < len) (hd : Nat.blt d nn = true) (hg : GOk ops sl nn gd) (kk' : VR G Γ ops fin K os (log ++ [⟨some d, gsl ops gd ++ (sl1 x ++ sl1 y), [], []⟩]) ⟨(d, .ptr k (o + i)) :: sl, ob, nn⟩) : VR G Γ ops fin K (⟨some d, .indexAddr t x y, ty, pos, aft, gd⟩ :: os) log ⟨sl, ob, nn⟩ := by
  have := op_indexA (G := G) (Γ := Γ) (E := ⟨sl, ob, nn⟩) (dst := some d) (ty := ty) (pos := pos) (aft := aft) (gd := gd) hx hy ht he hz hu (dlt hd); rw [hsz, Nat.mul_one] at this
  exact u_op (this) hg kk'
theorem u_indexAS {t e : TypeId} {x y : Operand} {len i : Nat} {cs : List AV} {kk : IntKind} {z : Int} (hx : evo (look sl) x = some (.sptr cs)) (hy : evo (look sl) y = some (.lit (.int kk z))) (ht : G.T.kind t = .arr len e) (he : (G.T.kind e).known = true) (hsz : G.T.size e = 1) (hz : z = i) (hu : i < len) (hd : Nat.blt d nn = true) (hg : GOk ops sl nn gd) (kk' : VR G Γ ops fin K os (log ++ [⟨some d, gsl ops gd ++ (sl1 x ++ sl1 y), [], []⟩]) ⟨(d, .sptr (cs.drop i)) :: sl, ob, nn⟩) : VR G Γ ops fin K (⟨some d, .indexAddr t x y, ty, pos, aft, gd⟩ :: os) log ⟨sl, ob, nn⟩ := by
  have := op_indexAS (G := G) (Γ := Γ) (E := ⟨sl, ob, nn⟩) (dst := some d) (ty := ty) (pos := pos) (aft := aft) (gd := gd) hx hy ht he hz hu (dlt hd); rw [hsz, Nat.mul_one] at this
  exact u_op (this) hg kk'
theorem u_indexT {t : TypeId} {x y : Operand} {s : ByteArray} {kk : IntKind} {z : Int} {i : Nat} {b : UInt8} (hx : evo (look sl) x = some (.lit (.string s))) (hy : evo (look sl) y = some (.lit (.int kk z))) (ht : G.T.kind t = .str) (hz : z = i) (hb : s[i]? = some b) (hd : Nat.blt d nn = true) (hg : GOk ops sl nn gd) (kk' : VR G Γ ops fin K os (log ++ [⟨some d, gsl ops gd ++ (sl1 x ++ sl1 y), [], []⟩]) ⟨(d, .lit (.int .u8 b.toNat)) :: sl, ob, nn⟩) : VR G Γ ops fin K (⟨some d, .index t x y, ty, pos, aft, gd⟩ :: os) log ⟨sl, ob, nn⟩ := by
  exact u_op (op_indexT (G := G) (Γ := Γ) (E := ⟨sl, ob, nn⟩) (dst := some d) (ty := ty) (pos := pos) (aft := aft) (gd := gd) hx hy ht hz hb (dlt hd)) hg kk'
theorem u_eql {t yt : TypeId} {x y : Operand} {k : IntKind} {m n : Int} (hx : evo (look sl) x = some (.lit (.int k m))) (hy : evo (look sl) y = some (.lit (.int k n))) (hd : Nat.blt d nn = true) (hg : GOk ops sl nn gd) (kk' : VR G Γ ops fin K os (log ++ [⟨some d, gsl ops gd ++ (sl1 x ++ sl1 y), [], []⟩]) ⟨(d, .lit (.bool (m == n))) :: sl, ob, nn⟩) : VR G Γ ops fin K (⟨some d, .binOp .eql t x y yt, ty, pos, aft, gd⟩ :: os) log ⟨sl, ob, nn⟩ := by
  exact u_op (op_eql (G := G) (Γ := Γ) (E := ⟨sl, ob, nn⟩) (dst := some d) (ty := ty) (pos := pos) (aft := aft) (gd := gd) hx hy (dlt hd)) hg kk'
theorem u_neq {t yt : TypeId} {x y : Operand} {k : IntKind} {m n : Int} (hx : evo (look sl) x = some (.lit (.int k m))) (hy : evo (look sl) y = some (.lit (.int k n))) (hd : Nat.blt d nn = true) (hg : GOk ops sl nn gd) (kk' : VR G Γ ops fin K os (log ++ [⟨some d, gsl ops gd ++ (sl1 x ++ sl1 y), [], []⟩]) ⟨(d, .lit (.bool (m != n))) :: sl, ob, nn⟩) : VR G Γ ops fin K (⟨some d, .binOp .neq t x y yt, ty, pos, aft, gd⟩ :: os) log ⟨sl, ob, nn⟩ := by
  exact u_op (op_neq (G := G) (Γ := Γ) (E := ⟨sl, ob, nn⟩) (dst := some d) (ty := ty) (pos := pos) (aft := aft) (gd := gd) hx hy (dlt hd)) hg kk'
theorem u_lss {t yt : TypeId} {x y : Operand} {k : IntKind} {m n : Int} (hx : evo (look sl) x = some (.lit (.int k m))) (hy : evo (look sl) y = some (.lit (.int k n))) (hd : Nat.blt d nn = true) (hg : GOk ops sl nn gd) (kk' : VR G Γ ops fin K os (log ++ [⟨some d, gsl ops gd ++ (sl1 x ++ sl1 y), [], []⟩]) ⟨(d, .lit (.bool (decide (m < n)))) :: sl, ob, nn⟩) : VR G Γ ops fin K (⟨some d, .binOp .lss t x y yt, ty, pos, aft, gd⟩ :: os) log ⟨sl, ob, nn⟩ := by
  exact u_op (op_lss (G := G) (Γ := Γ) (E := ⟨sl, ob, nn⟩) (dst := some d) (ty := ty) (pos := pos) (aft := aft) (gd := gd) hx hy (dlt hd)) hg kk'
theorem u_leq {t yt : TypeId} {x y : Operand} {k : IntKind} {m n : Int} (hx : evo (look sl) x = some (.lit (.int k m))) (hy : evo (look sl) y = some (.lit (.int k n))) (hd : Nat.blt d nn = true) (hg : GOk ops sl nn gd) (kk' : VR G Γ ops fin K os (log ++ [⟨some d, gsl ops gd ++ (sl1 x ++ sl1 y), [], []⟩]) ⟨(d, .lit (.bool (decide (m ≤ n)))) :: sl, ob, nn⟩) : VR G Γ ops fin K (⟨some d, .binOp .leq t x y yt, ty, pos, aft, gd⟩ :: os) log ⟨sl, ob, nn⟩ := by
  exact u_op (op_leq (G := G) (Γ := Γ) (E := ⟨sl, ob, nn⟩) (dst := some d) (ty := ty) (pos := pos) (aft := aft) (gd := gd) hx hy (dlt hd)) hg kk'
theorem u_gtr {t yt : TypeId} {x y : Operand} {k : IntKind} {m n : Int} (hx : evo (look sl) x = some (.lit (.int k m))) (hy : evo (look sl) y = some (.lit (.int k n))) (hd : Nat.blt d nn = true) (hg : GOk ops sl nn gd) (kk' : VR G Γ ops fin K os (log ++ [⟨some d, gsl ops gd ++ (sl1 x ++ sl1 y), [], []⟩]) ⟨(d, .lit (.bool (decide (n < m)))) :: sl, ob, nn⟩) : VR G Γ ops fin K (⟨some d, .binOp .gtr t x y yt, ty, pos, aft, gd⟩ :: os) log ⟨sl, ob, nn⟩ := by
  exact u_op (op_gtr (G := G) (Γ := Γ) (E := ⟨sl, ob, nn⟩) (dst := some d) (ty := ty) (pos := pos) (aft := aft) (gd := gd) hx hy (dlt hd)) hg kk'
theorem u_geq {t yt : TypeId} {x y : Operand} {k : IntKind} {m n : Int} (hx : evo (look sl) x = some (.lit (.int k m))) (hy : evo (look sl) y = some (.lit (.int k n))) (hd : Nat.blt d nn = true) (hg : GOk ops sl nn gd) (kk' : VR G Γ ops fin K os (log ++ [⟨some d, gsl ops gd ++ (sl1 x ++ sl1 y), [], []⟩]) ⟨(d, .lit (.bool (decide (n ≤ m)))) :: sl, ob, nn⟩) : VR G Γ ops fin K (⟨some d, .binOp .geq t x y yt, ty, pos, aft, gd⟩ :: os) log ⟨sl, ob, nn⟩ := by
  exact u_op (op_geq (G := G) (Γ := Γ) (E := ⟨sl, ob, nn⟩) (dst := some d) (ty := ty) (pos := pos) (aft := aft) (gd := gd) hx hy (dlt hd)) hg kk'
theorem u_addW {t yt : TypeId} {x y : Operand} {k : IntKind} {m n : Int} (hx : evo (look sl) x = some (.lit (.int k m))) (hy : evo (look sl) y = some (.lit (.int k n))) (hd : Nat.blt d nn = true) (hg : GOk ops sl nn gd) (kk' : VR G Γ ops fin K os (log ++ [⟨some d, gsl ops gd ++ (sl1 x ++ sl1 y), [], []⟩]) ⟨(d, .lit (.int k (k.wrap (m + n)))) :: sl, ob, nn⟩) : VR G Γ ops fin K (⟨some d, .binOp .add t x y yt, ty, pos, aft, gd⟩ :: os) log ⟨sl, ob, nn⟩ := by
  exact u_op (op_add (G := G) (Γ := Γ) (E := ⟨sl, ob, nn⟩) (dst := some d) (ty := ty) (pos := pos) (aft := aft) (gd := gd) hx hy (dlt hd)) hg kk'
theorem u_subW {t yt : TypeId} {x y : Operand} {k : IntKind} {m n : Int} (hx : evo (look sl) x = some (.lit (.int k m))) (hy : evo (look sl) y = some (.lit (.int k n))) (hd : Nat.blt d nn = true) (hg : GOk ops sl nn gd) (kk' : VR G Γ ops fin K os (log ++ [⟨some d, gsl ops gd ++ (sl1 x ++ sl1 y), [], []⟩]) ⟨(d, .lit (.int k (k.wrap (m - n)))) :: sl, ob, nn⟩) : VR G Γ ops fin K (⟨some d, .binOp .sub t x y yt, ty, pos, aft, gd⟩ :: os) log ⟨sl, ob, nn⟩ := by
  exact u_op (op_sub (G := G) (Γ := Γ) (E := ⟨sl, ob, nn⟩) (dst := some d) (ty := ty) (pos := pos) (aft := aft) (gd := gd) hx hy (dlt hd)) hg kk'
theorem u_mulW {t yt : TypeId} {x y : Operand} {k : IntKind} {m n : Int} (hx : evo (look sl) x = some (.lit (.int k m))) (hy : evo (look sl) y = some (.lit (.int k n))) (hd : Nat.blt d nn = true) (hg : GOk ops sl nn gd) (kk' : VR G Γ ops fin K os (log ++ [⟨some d, gsl ops gd ++ (sl1 x ++ sl1 y), [], []⟩]) ⟨(d, .lit (.int k (k.wrap (m * n)))) :: sl, ob, nn⟩) : VR G Γ ops fin K (⟨some d, .binOp .mul t x y yt, ty, pos, aft, gd⟩ :: os) log ⟨sl, ob, nn⟩ := by
  exact u_op (op_mul (G := G) (Γ := Γ) (E := ⟨sl, ob, nn⟩) (dst := some d) (ty := ty) (pos := pos) (aft := aft) (gd := gd) hx hy (dlt hd)) hg kk'
theorem u_add {t yt : TypeId} {x y : Operand} {m n z : Int} (hx : evo (look sl) x = some (.lit (.int .i64 m))) (hy : evo (look sl) y = some (.lit (.int .i64 n))) (hz : m + n = z) (hr : inI z) (hd : Nat.blt d nn = true) (hg : GOk ops sl nn gd) (kk' : VR G Γ ops fin K os (log ++ [⟨some d, gsl ops gd ++ (sl1 x ++ sl1 y), [], []⟩]) ⟨(d, .lit (.int .i64 z)) :: sl, ob, nn⟩) : VR G Γ ops fin K (⟨some d, .binOp .add t x y yt, ty, pos, aft, gd⟩ :: os) log ⟨sl, ob, nn⟩ := by
  subst hz
  exact u_op (op_addI (G := G) (Γ := Γ) (E := ⟨sl, ob, nn⟩) (dst := some d) (ty := ty) (pos := pos) (aft := aft) (gd := gd) hx hy hr (dlt hd)) hg kk'
theorem u_sub {t yt : TypeId} {x y : Operand} {m n z : Int} (hx : evo (look sl) x = some (.lit (.int .i64 m))) (hy : evo (look sl) y = some (.lit (.int .i64 n))) (hz : m - n = z) (hr : inI z) (hd : Nat.blt d nn = true) (hg : GOk ops sl nn gd) (kk' : VR G Γ ops fin K os (log ++ [⟨some d, gsl ops gd ++ (sl1 x ++ sl1 y), [], []⟩]) ⟨(d, .lit (.int .i64 z)) :: sl, ob, nn⟩) : VR G Γ ops fin K (⟨some d, .binOp .sub t x y yt, ty, pos, aft, gd⟩ :: os) log ⟨sl, ob, nn⟩ := by
  subst hz
  exact u_op (op_subI (G := G) (Γ := Γ) (E := ⟨sl, ob, nn⟩) (dst := some d) (ty := ty) (pos := pos) (aft := aft) (gd := gd) hx hy hr (dlt hd)) hg kk'
theorem u_mul {t yt : TypeId} {x y : Operand} {m n z : Int} (hx : evo (look sl) x = some (.lit (.int .i64 m))) (hy : evo (look sl) y = some (.lit (.int .i64 n))) (hz : m * n = z) (hr : inI z) (hd : Nat.blt d nn = true) (hg : GOk ops sl nn gd) (kk' : VR G Γ ops fin K os (log ++ [⟨some d, gsl ops gd ++ (sl1 x ++ sl1 y), [], []⟩]) ⟨(d, .lit (.int .i64 z)) :: sl, ob, nn⟩) : VR G Γ ops fin K (⟨some d, .binOp .mul t x y yt, ty, pos, aft, gd⟩ :: os) log ⟨sl, ob, nn⟩ := by
  subst hz
  exact u_op (op_mulI (G := G) (Γ := Γ) (E := ⟨sl, ob, nn⟩) (dst := some d) (ty := ty) (pos := pos) (aft := aft) (gd := gd) hx hy hr (dlt hd)) hg kk'
theorem u_quo {t yt : TypeId} {x y : Operand} {k : IntKind} {m n : Int} (hx : evo (look sl) x = some (.lit (.int k m))) (hy : evo (look sl) y = some (.lit (.int k n))) (h0 : n ≠ 0) (hd : Nat.blt d nn = true) (hg : GOk ops sl nn gd) (kk' : VR G Γ ops fin K os (log ++ [⟨some d, gsl ops gd ++ (sl1 x ++ sl1 y), [], []⟩]) ⟨(d, .lit (.int k (k.wrap (m.tdiv n)))) :: sl, ob, nn⟩) : VR G Γ ops fin K (⟨some d, .binOp .quo t x y yt, ty, pos, aft, gd⟩ :: os) log ⟨sl, ob, nn⟩ := by
  exact u_op (op_quo (G := G) (Γ := Γ) (E := ⟨sl, ob, nn⟩) (dst := some d) (ty := ty) (pos := pos) (aft := aft) (gd := gd) hx hy (dlt hd) h0) hg kk'
theorem u_rem {t yt : TypeId} {x y : Operand} {k : IntKind} {m n : Int} (hx : evo (look sl) x = some (.lit (.int k m))) (hy : evo (look sl) y = some (.lit (.int k n))) (h0 : n ≠ 0) (hd : Nat.blt d nn = true) (hg : GOk ops sl nn gd) (kk' : VR G Γ ops fin K os (log ++ [⟨some d, gsl ops gd ++ (sl1 x ++ sl1 y), [], []⟩]) ⟨(d, .lit (.int k (m.tmod n))) :: sl, ob, nn⟩) : VR G Γ ops fin K (⟨some d, .binOp .rem t x y yt, ty, pos, aft, gd⟩ :: os) log ⟨sl, ob, nn⟩ := by
  exact u_op (op_rem (G := G) (Γ := Γ) (E := ⟨sl, ob, nn⟩) (dst := some d) (ty := ty) (pos := pos) (aft := aft) (gd := gd) hx hy (dlt hd) h0) hg kk'
theorem u_and {t yt : TypeId} {x y : Operand} {k : IntKind} {m n : Int} (hx : evo (look sl) x = some (.lit (.int k m))) (hy : evo (look sl) y = some (.lit (.int k n))) (hd : Nat.blt d nn = true) (hg : GOk ops sl nn gd) (kk' : VR G Γ ops fin K os (log ++ [⟨some d, gsl ops gd ++ (sl1 x ++ sl1 y), [], []⟩]) ⟨(d, .lit (.int k (bits .and k m n))) :: sl, ob, nn⟩) : VR G Γ ops fin K (⟨some d, .binOp .and t x y yt, ty, pos, aft, gd⟩ :: os) log ⟨sl, ob, nn⟩ := by
  exact u_op (op_and (G := G) (Γ := Γ) (E := ⟨sl, ob, nn⟩) (dst := some d) (ty := ty) (pos := pos) (aft := aft) (gd := gd) hx hy (dlt hd)) hg kk'
theorem u_xor {t yt : TypeId} {x y : Operand} {k : IntKind} {m n : Int} (hx : evo (look sl) x = some (.lit (.int k m))) (hy : evo (look sl) y = some (.lit (.int k n))) (hd : Nat.blt d nn = true) (hg : GOk ops sl nn gd) (kk' : VR G Γ ops fin K os (log ++ [⟨some d, gsl ops gd ++ (sl1 x ++ sl1 y), [], []⟩]) ⟨(d, .lit (.int k (bits .xor k m n))) :: sl, ob, nn⟩) : VR G Γ ops fin K (⟨some d, .binOp .xor t x y yt, ty, pos, aft, gd⟩ :: os) log ⟨sl, ob, nn⟩ := by
  exact u_op (op_xor (G := G) (Γ := Γ) (E := ⟨sl, ob, nn⟩) (dst := some d) (ty := ty) (pos := pos) (aft := aft) (gd := gd) hx hy (dlt hd)) hg kk'
theorem u_shr {t yt : TypeId} {x y : Operand} {k yk : IntKind} {m n : Int} (hx : evo (look sl) x = some (.lit (.int k m))) (hy : evo (look sl) y = some (.lit (.int yk n))) (h0 : 0 ≤ n) (hd : Nat.blt d nn = true) (hg : GOk ops sl nn gd) (kk' : VR G Γ ops fin K os (log ++ [⟨some d, gsl ops gd ++ (sl1 x ++ sl1 y), [], []⟩]) ⟨(d, .lit (.int k (m.fdiv (2 ^ (min n.toNat k.bits))))) :: sl, ob, nn⟩) : VR G Γ ops fin K (⟨some d, .binOp .shr t x y yt, ty, pos, aft, gd⟩ :: os) log ⟨sl, ob, nn⟩ := by
  exact u_op (op_shr (G := G) (Γ := Γ) (E := ⟨sl, ob, nn⟩) (dst := some d) (ty := ty) (pos := pos) (aft := aft) (gd := gd) hx hy h0 (dlt hd)) hg kk'
theorem u_eqlB {t yt : TypeId} {x y : Operand} {m n : Bool} (hx : evo (look sl) x = some (.lit (.bool m))) (hy : evo (look sl) y = some (.lit (.bool n))) (ht : G.T.kind t = .bool) (hd : Nat.blt d nn = true) (hg : GOk ops sl nn gd) (kk' : VR G Γ ops fin K os (log ++ [⟨some d, gsl ops gd ++ (sl1 x ++ sl1 y), [], []⟩]) ⟨(d, .lit (.bool (m == n))) :: sl, ob, nn⟩) : VR G Γ ops fin K (⟨some d, .binOp .eql t x y yt, ty, pos, aft, gd⟩ :: os) log ⟨sl, ob, nn⟩ := by
  exact u_op (op_eqlB (G := G) (Γ := Γ) (E := ⟨sl, ob, nn⟩) (dst := some d) (ty := ty) (pos := pos) (aft := aft) (gd := gd) hx hy ht (dlt hd)) hg kk'
theorem u_neqB {t yt : TypeId} {x y : Operand} {m n : Bool} (hx : evo (look sl) x = some (.lit (.bool m))) (hy : evo (look sl) y = some (.lit (.bool n))) (ht : G.T.kind t = .bool) (hd : Nat.blt d nn = true) (hg : GOk ops sl nn gd) (kk' : VR G Γ ops fin K os (log ++ [⟨some d, gsl ops gd ++ (sl1 x ++ sl1 y), [], []⟩]) ⟨(d, .lit (.bool (m != n))) :: sl, ob, nn⟩) : VR G Γ ops fin K (⟨some d, .binOp .neq t x y yt, ty, pos, aft, gd⟩ :: os) log ⟨sl, ob, nn⟩ := by
  exact u_op (op_neqB (G := G) (Γ := Γ) (E := ⟨sl, ob, nn⟩) (dst := some d) (ty := ty) (pos := pos) (aft := aft) (gd := gd) hx hy ht (dlt hd)) hg kk'
theorem u_eqlT {t yt : TypeId} {x y : Operand} {m n : ByteArray} (hx : evo (look sl) x = some (.lit (.string m))) (hy : evo (look sl) y = some (.lit (.string n))) (hd : Nat.blt d nn = true) (hg : GOk ops sl nn gd) (kk' : VR G Γ ops fin K os (log ++ [⟨some d, gsl ops gd ++ (sl1 x ++ sl1 y), [], []⟩]) ⟨(d, .lit (.bool (m.toList == n.toList))) :: sl, ob, nn⟩) : VR G Γ ops fin K (⟨some d, .binOp .eql t x y yt, ty, pos, aft, gd⟩ :: os) log ⟨sl, ob, nn⟩ := by
  exact u_op (op_eqlT (G := G) (Γ := Γ) (E := ⟨sl, ob, nn⟩) (dst := some d) (ty := ty) (pos := pos) (aft := aft) (gd := gd) hx hy (dlt hd)) hg kk'
theorem u_neqT {t yt : TypeId} {x y : Operand} {m n : ByteArray} (hx : evo (look sl) x = some (.lit (.string m))) (hy : evo (look sl) y = some (.lit (.string n))) (hd : Nat.blt d nn = true) (hg : GOk ops sl nn gd) (kk' : VR G Γ ops fin K os (log ++ [⟨some d, gsl ops gd ++ (sl1 x ++ sl1 y), [], []⟩]) ⟨(d, .lit (.bool (!(m.toList == n.toList)))) :: sl, ob, nn⟩) : VR G Γ ops fin K (⟨some d, .binOp .neq t x y yt, ty, pos, aft, gd⟩ :: os) log ⟨sl, ob, nn⟩ := by
  exact u_op (op_neqT (G := G) (Γ := Γ) (E := ⟨sl, ob, nn⟩) (dst := some d) (ty := ty) (pos := pos) (aft := aft) (gd := gd) hx hy (dlt hd)) hg kk'
theorem u_addT {t yt : TypeId} {x y : Operand} {m n : ByteArray} (hx : evo (look sl) x = some (.lit (.string m))) (hy : evo (look sl) y = some (.lit (.string n))) (hl : m.size + n.size ≤ 9223372036854775807) (hd : Nat.blt d nn = true) (hg : GOk ops sl nn gd) (kk' : VR G Γ ops fin K os (log ++ [⟨some d, gsl ops gd ++ (sl1 x ++ sl1 y), [], []⟩]) ⟨(d, .lit (.string (m ++ n))) :: sl, ob, nn⟩) : VR G Γ ops fin K (⟨some d, .binOp .add t x y yt, ty, pos, aft, gd⟩ :: os) log ⟨sl, ob, nn⟩ := by
  exact u_op (op_addT (G := G) (Γ := Γ) (E := ⟨sl, ob, nn⟩) (dst := some d) (ty := ty) (pos := pos) (aft := aft) (gd := gd) hx hy (dlt hd) hl) hg kk'
theorem u_convI {s d' : TypeId} {x : Operand} {k k' : IntKind} {n : Int} (hx : evo (look sl) x = some (.lit (.int k n))) (hs : (G.T.kind s).known = true) (hk : G.T.kind d' = .int k') (hd : Nat.blt d nn = true) (hg : GOk ops sl nn gd) (kk' : VR G Γ ops fin K os (log ++ [⟨some d, gsl ops gd ++ (sl1 x), [], []⟩]) ⟨(d, .lit (.int k' (k'.wrap n))) :: sl, ob, nn⟩) : VR G Γ ops fin K (⟨some d, .convert s d' x, ty, pos, aft, gd⟩ :: os) log ⟨sl, ob, nn⟩ := by
  exact u_op (op_convI (G := G) (Γ := Γ) (E := ⟨sl, ob, nn⟩) (dst := some d) (ty := ty) (pos := pos) (aft := aft) (gd := gd) hx hs hk (dlt hd)) hg kk'
theorem u_convT {s t e : TypeId} {x : Operand} {bs : List UInt8} {ys : List (List AV)} (hx : evo (look sl) x = some (.shr 1 ys)) (hy : ys = byteCells bs) (hs' : G.T.kind s = .slice e) (he : G.T.kind e = .int .u8) (ht : G.T.kind t = .str) (hd : Nat.blt d nn = true) (hg : GOk ops sl nn gd) (kk' : VR G Γ ops fin K os (log ++ [⟨some d, gsl ops gd ++ (sl1 x), [], []⟩]) ⟨(d, .lit (.string ⟨bs.toArray⟩)) :: sl, ob, nn⟩) : VR G Γ ops fin K (⟨some d, .convert s t x, ty, pos, aft, gd⟩ :: os) log ⟨sl, ob, nn⟩ := by
  exact u_op (op_convT (G := G) (Γ := Γ) (E := ⟨sl, ob, nn⟩) (dst := some d) (ty := ty) (pos := pos) (aft := aft) (gd := gd) hx hy hs' he ht (dlt hd)) hg kk'
theorem u_len {t e : TypeId} {x : Operand} {sz : Nat} {xs : List (List AV)} (hx : evo (look sl) x = some (.shr sz xs)) (ht : G.T.kind t = .slice e) (hd : Nat.blt d nn = true) (hg : GOk ops sl nn gd) (kk' : VR G Γ ops fin K os (log ++ [⟨some d, gsl ops gd ++ (sl1 x), [], []⟩]) ⟨(d, .lit (.int .i64 xs.length)) :: sl, ob, nn⟩) : VR G Γ ops fin K (⟨some d, .call { callee := .builtin .len, args := #[x], argTypes := #[t] }, ty, pos, aft, gd⟩ :: os) log ⟨sl, ob, nn⟩ := by
  exact u_op (op_len (G := G) (Γ := Γ) (E := ⟨sl, ob, nn⟩) (dst := some d) (ty := ty) (pos := pos) (aft := aft) (gd := gd) hx ht (dlt hd)) hg kk'
theorem u_lenNil {t e : TypeId} {x : Operand} (hx : evo (look sl) x = some (.lit (.slice none 0 0))) (ht : G.T.kind t = .slice e) (hd : Nat.blt d nn = true) (hg : GOk ops sl nn gd) (kk' : VR G Γ ops fin K os (log ++ [⟨some d, gsl ops gd ++ (sl1 x), [], []⟩]) ⟨(d, .lit (.int .i64 0)) :: sl, ob, nn⟩) : VR G Γ ops fin K (⟨some d, .call { callee := .builtin .len, args := #[x], argTypes := #[t] }, ty, pos, aft, gd⟩ :: os) log ⟨sl, ob, nn⟩ := by
  exact u_op (op_lenNil (G := G) (Γ := Γ) (E := ⟨sl, ob, nn⟩) (dst := some d) (ty := ty) (pos := pos) (aft := aft) (gd := gd) hx ht (dlt hd)) hg kk'
theorem u_lenR {t e e' : TypeId} {x : Operand} {k sz : Nat} {xs : List (List AV)} (hx : evo (look sl) x = some (.row k)) (hk : look ob k = some (.row e' sz xs)) (ht : G.T.kind t = .slice e) (hd : Nat.blt d nn = true) (hg : GOk ops sl nn gd) (kk' : VR G Γ ops fin K os (log ++ [⟨some d, gsl ops gd ++ (sl1 x), [k], []⟩]) ⟨(d, .lit (.int .i64 xs.length)) :: sl, ob, nn⟩) : VR G Γ ops fin K (⟨some d, .call { callee := .builtin .len, args := #[x], argTypes := #[t] }, ty, pos, aft, gd⟩ :: os) log ⟨sl, ob, nn⟩ := by
  exact u_op (op_lenR (G := G) (Γ := Γ) (E := ⟨sl, ob, nn⟩) (dst := some d) (ty := ty) (pos := pos) (aft := aft) (gd := gd) hx hk ht (dlt hd)) hg kk'
theorem u_lenT {t : TypeId} {x : Operand} {s : ByteArray} (hx : evo (look sl) x = some (.lit (.string s))) (ht : G.T.kind t = .str) (hd : Nat.blt d nn = true) (hg : GOk ops sl nn gd) (kk' : VR G Γ ops fin K os (log ++ [⟨some d, gsl ops gd ++ (sl1 x), [], []⟩]) ⟨(d, .lit (.int .i64 s.size)) :: sl, ob, nn⟩) : VR G Γ ops fin K (⟨some d, .call { callee := .builtin .len, args := #[x], argTypes := #[t] }, ty, pos, aft, gd⟩ :: os) log ⟨sl, ob, nn⟩ := by
  exact u_op (op_lenT (G := G) (Γ := Γ) (E := ⟨sl, ob, nn⟩) (dst := some d) (ty := ty) (pos := pos) (aft := aft) (gd := gd) hx ht (dlt hd)) hg kk'
theorem u_field1 {s : TypeId} {x : Operand} {f off : Nat} {cs : List AV} {fs : List (Nat × TypeId)} {ft : TypeId} {v : AV} (hx : evo (look sl) x = some (.agg cs)) (hs : G.T.kind s = .struct fs) (hf : fs[f]? = some (off, ft)) (hft : (G.T.kind ft).known = true) (ha : (G.T.kind ft).agg = false) (hv : cs[off]? = some v) (hd : Nat.blt d nn = true) (hg : GOk ops sl nn gd) (kk' : VR G Γ ops fin K os (log ++ [⟨some d, gsl ops gd ++ (sl1 x), [], []⟩]) ⟨(d, v) :: sl, ob, nn⟩) : VR G Γ ops fin K (⟨some d, .field s x f, ty, pos, aft, gd⟩ :: os) log ⟨sl, ob, nn⟩ := by
  exact u_op (op_field1 (G := G) (Γ := Γ) (E := ⟨sl, ob, nn⟩) (dst := some d) (ty := ty) (pos := pos) (aft := aft) (gd := gd) hx hs hf hft ha hv (dlt hd)) hg kk'
theorem u_fieldN {s : TypeId} {x : Operand} {f off sz : Nat} {cs : List AV} {fs : List (Nat × TypeId)} {ft : TypeId} (hx : evo (look sl) x = some (.agg cs)) (hs : G.T.kind s = .struct fs) (hf : fs[f]? = some (off, ft)) (hft : (G.T.kind ft).known = true) (ha : (G.T.kind ft).agg = true) (hsz : G.T.size ft = sz) (hv : Nat.ble (off + sz) cs.length = true) (hd : Nat.blt d nn = true) (hg : GOk ops sl nn gd) (kk' : VR G Γ ops fin K os (log ++ [⟨some d, gsl ops gd ++ (sl1 x), [], []⟩]) ⟨(d, .agg ((cs.drop off).take sz)) :: sl, ob, nn⟩) : VR G Γ ops fin K (⟨some d, .field s x f, ty, pos, aft, gd⟩ :: os) log ⟨sl, ob, nn⟩ := by
  subst hsz
  exact u_op (op_fieldN (G := G) (Γ := Γ) (E := ⟨sl, ob, nn⟩) (dst := some d) (ty := ty) (pos := pos) (aft := aft) (gd := gd) hx hs hf hft ha (Nat.le_of_ble_eq_true hv) (dlt hd)) hg kk'
theorem u_append {t e : TypeId} {x y : Operand} {k sz m B : Nat} (dk : Nat) {xs ys : List (List AV)} {v : AV} {ro : List Nat} (hx : evo (look sl) x = some (.row k)) (hy : evo (look sl) y = some (v)) (hk : look ob k = some (.row e sz xs)) (hsrc : SrcA ob v sz ys ro) (hd' : look ob dk = none) (hp : dk ∉ Γ.par) (ht : G.T.kind t = .slice e) (he : (G.T.kind e).known = true) (hsz : G.T.size e = sz) (h0 : sz = m + 1) (hB : G.T.bytes e = B + 1) (hsm : (xs.length + ys.length) * (B + 1) ≤ 140737488355328) (hd : Nat.blt d nn = true) (hg : GOk ops sl nn gd) (kk' : VR G Γ ops fin K os (log ++ [⟨some d, gsl ops gd ++ (sl1 x ++ sl1 y), [k, dk] ++ ro, [dk, k]⟩]) ⟨(d, .row dk) :: sl, (dk, .row e sz (xs ++ ys)) :: (k, .dead) :: ob, nn⟩) : VR G Γ ops fin K (⟨some d, .call { callee := .builtin .append, args := #[x, y], argTypes := #[t, t] }, ty, pos, aft, gd⟩ :: os) log ⟨sl, ob, nn⟩ := by
  exact u_op (op_append (ty' := 0) (G := G) (Γ := Γ) (E := ⟨sl, ob, nn⟩) (d := dk) (dst := some d) (ty := ty) (pos := pos) (aft := aft) (gd := gd) hx hy hk hsrc hd' hp ht he hsz (by omega) (by rw [hB]; exact hsm) (by omega) (dlt hd)) hg kk'
theorem u_appendN {t e : TypeId} {x y : Operand} {sz m B : Nat} (dk k : Nat) {ys : List (List AV)} {v : AV} {ro : List Nat} (hx : evo (look sl) x = some (.lit (.slice none 0 0))) (hy : evo (look sl) y = some (v)) (hsrc : SrcA ob v sz ys ro) (hk0 : look ob k = none) (hd' : look ob dk = none) (hkd : dk ≠ k) (hp : dk ∉ Γ.par) (hpk : k ∉ Γ.par) (hro : k ∉ ro) (ht : G.T.kind t = .slice e) (he : (G.T.kind e).known = true) (hsz : G.T.size e = sz) (h0 : sz = m + 1) (hB : G.T.bytes e = B + 1) (hsm : ys.length * (B + 1) ≤ 140737488355328) (hd : Nat.blt d nn = true) (hg : GOk ops sl nn gd) (kk' : VR G Γ ops fin K os (log ++ [⟨some d, gsl ops gd ++ (sl1 x ++ sl1 y), [k, dk] ++ ro, [dk, k, k]⟩]) ⟨(d, .row dk) :: sl, (dk, .row e sz ys) :: (k, .dead) :: (k, .row e sz []) :: ob, nn⟩) : VR G Γ ops fin K (⟨some d, .call { callee := .builtin .append, args := #[x, y], argTypes := #[t, t] }, ty, pos, aft, gd⟩ :: os) log ⟨sl, ob, nn⟩ := by
  exact u_op (op_appendN (G := G) (Γ := Γ) (E := ⟨sl, ob, nn⟩) (d := dk) (k := k) (dst := some d) (ty := ty) (pos := pos) (aft := aft) (gd := gd) hx hy hsrc hk0 hd' hkd hp hpk hro ht he hsz (by omega) (by rw [hB]; exact hsm) (by omega) (dlt hd)) hg kk'
theorem u_build {t : TypeId} {parts : List (Nat × Operand)} {fs : List (Nat × TypeId)} {pv : List (Nat × AV)} {cs : List AV} (ht : G.T.kind t = .struct fs) (hp : evoL (look sl) parts = some pv) (hf : fillA G.T fs ((G.T.zero t).map .lit) pv = some cs) (hk : (fs.all fun p => (G.T.kind p.2).known) = true) (hd : Nat.blt d nn = true) (hg : GOk ops sl nn gd) (kk' : VR G Γ ops fin K os (log ++ [⟨some d, gsl ops gd ++ (parts.flatMap fun p => sl1 p.2), [], []⟩]) ⟨(d, .agg cs) :: sl, ob, nn⟩) : VR G Γ ops fin K (⟨some d, .build t parts.toArray, ty, pos, aft, gd⟩ :: os) log ⟨sl, ob, nn⟩ := by
  exact u_op (op_build (G := G) (Γ := Γ) (E := ⟨sl, ob, nn⟩) (dst := some d) (ty := ty) (pos := pos) (aft := aft) (gd := gd) ht hp hf hk (dlt hd)) hg kk'
theorem u_buildSlice {t e : TypeId} {len sz : Nat} (k : Nat) {parts : List (Nat × Operand)} {pv : List (Nat × AV)} {xs : List (List AV)} (ht : G.T.kind t = .slice e) (he : (G.T.kind e).known = true) (hsz : G.T.size e = sz) (hp : evoL (look sl) parts = some pv) (hi : idxOk 0 pv = true) (hl : pv.length = len) (hlen : Nat.ble (len * sz) 16777216 = true) (hm : Nat.ble len 16777216 = true) (hb : (pv.all fun p => boxable p.2 && Nat.beq (cellsOf p.2).length sz && (cellsOf p.2).all isP) = true) (hk : look ob k = none) (hpk : k ∉ Γ.par) (hxs : cellsL pv = xs) (hd : Nat.blt d nn = true) (hg : GOk ops sl nn gd) (kk' : VR G Γ ops fin K os (log ++ [⟨some d, gsl ops gd ++ (parts.flatMap fun p => sl1 p.2), [k], [k]⟩]) ⟨(d, .row k) :: sl, (k, .row e sz xs) :: ob, nn⟩) : VR G Γ ops fin K (⟨some d, .buildSlice t len parts.toArray, ty, pos, aft, gd⟩ :: os) log ⟨sl, ob, nn⟩ := by
  subst hxs
  exact u_op (op_buildSlice (G := G) (Γ := Γ) (E := ⟨sl, ob, nn⟩) (k := k) (dst := some d) (ty := ty) (pos := pos) (aft := aft) (gd := gd) ht he hsz hp hi hl (Nat.le_of_ble_eq_true hlen) (Nat.le_of_ble_eq_true hm) hb hk hpk (dlt hd)) hg kk'
theorem u_makeSlice {t e : TypeId} {x y : Operand} {n' sz : Nat} (k : Nat) {kl kc : IntKind} {m m' : Int} (hx : evo (look sl) x = some (.lit (.int kl m))) (hy : evo (look sl) y = some ((.lit (.int kc m')))) (hm : m = n') (hm' : m' = n') (ht : G.T.kind t = .slice e) (he : (G.T.kind e).known = true) (hsz : G.T.size e = sz) (hsm : G.T.bytes e * n' ≤ 140737488355328) (hn' : n' ≤ 140737488355328) (hk : look ob k = none) (hpk : k ∉ Γ.par) (hd : Nat.blt d nn = true) (hg : GOk ops sl nn gd) (kk' : VR G Γ ops fin K os (log ++ [⟨some d, gsl ops gd ++ (sl1 x ++ sl1 y), [k], [k]⟩]) ⟨(d, .row k) :: sl, (k, .row e sz (List.replicate n' ((G.T.zero e).map .lit))) :: ob, nn⟩) : VR G Γ ops fin K (⟨some d, .makeSlice t x y, ty, pos, aft, gd⟩ :: os) log ⟨sl, ob, nn⟩ := by
  exact u_op (op_makeSlice (G := G) (Γ := Γ) (E := ⟨sl, ob, nn⟩) (k := k) (dst := some d) (ty := ty) (pos := pos) (aft := aft) (gd := gd) hx hy hm hm' ht he hsz hsm hn' hk hpk (dlt hd)) hg kk'
theorem u_slice {t e : TypeId} {x : Operand} {lo hi : Option Operand} {sz l h : Nat} {xs : List (List AV)} (hx : evo (look sl) x = some (.shr sz xs)) (hlo : evB (look sl) lo 0 l) (hhi : evB (look sl) hi xs.length h) (hlh : l ≤ h) (hh : h ≤ xs.length) (ht : G.T.kind t = .slice e) (he : (G.T.kind e).known = true) (hsz : G.T.size e = sz) (hd : Nat.blt d nn = true) (hg : GOk ops sl nn gd) (kk' : VR G Γ ops fin K os (log ++ [⟨some d, gsl ops gd ++ (sl1 x ++ slO lo ++ slO hi), [], []⟩]) ⟨(d, .shr sz ((xs.take h).drop l)) :: sl, ob, nn⟩) : VR G Γ ops fin K (⟨some d, .slice t x lo hi none, ty, pos, aft, gd⟩ :: os) log ⟨sl, ob, nn⟩ := by
  exact u_op (op_slice (G := G) (Γ := Γ) (E := ⟨sl, ob, nn⟩) (dst := some d) (ty := ty) (pos := pos) (aft := aft) (gd := gd) hx hlo hhi hlh hh ht he hsz (dlt hd)) hg kk'
theorem u_sliceT {t : TypeId} {x : Operand} {lo hi : Option Operand} {s : ByteArray} {l h : Nat} (hx : evo (look sl) x = some (.lit (.string s))) (hlo : evB (look sl) lo 0 l) (hhi : evB (look sl) hi s.size h) (hlh : l ≤ h) (hh : h ≤ s.size) (ht : G.T.kind t = .str) (hd : Nat.blt d nn = true) (hg : GOk ops sl nn gd) (kk' : VR G Γ ops fin K os (log ++ [⟨some d, gsl ops gd ++ (sl1 x ++ slO lo ++ slO hi), [], []⟩]) ⟨(d, .lit (.string (s.extract l h))) :: sl, ob, nn⟩) : VR G Γ ops fin K (⟨some d, .slice t x lo hi none, ty, pos, aft, gd⟩ :: os) log ⟨sl, ob, nn⟩ := by
  exact u_op (op_sliceT (G := G) (Γ := Γ) (E := ⟨sl, ob, nn⟩) (dst := some d) (ty := ty) (pos := pos) (aft := aft) (gd := gd) hx hlo hhi hlh hh ht (dlt hd)) hg kk'
theorem u_call {f : FuncId} {xs : List Operand} {args as : List AV} {res : AV} {ats : Array TypeId} (hx : evoA (look sl) xs = some as) (hV : VFun G f args [] res []) (hsub : F2 (Sub [] [] (fun _ => none) (fun k => look ([] : List (Nat × AO)) k ≠ none)) args as) (hd : Nat.blt d nn = true) (hg : GOk ops sl nn gd) (kk' : VR G Γ ops fin K os (log ++ [⟨some d, gsl ops gd ++ (xs.flatMap sl1), [], []⟩]) ⟨(d, res) :: sl, ob, nn⟩) : VR G Γ ops fin K (⟨some d, .call { callee := .value (.func f), args := xs.toArray, argTypes := ats }, ty, pos, aft, gd⟩ :: os) log ⟨sl, ob, nn⟩ := by
  exact u_op (op_callV (G := G) (Γ := Γ) (E := ⟨sl, ob, nn⟩) (dst := some d) (ty := ty) (pos := pos) (aft := aft) (gd := gd) (ob0 := []) hV hx hsub (fun k o h => by simp [Go.Vc.look] at h) (.inl rfl) (dlt hd)) hg kk'
theorem u_callB {f : FuncId} {xs : List Operand} {args as : List AV} {res : AV} {ats : Array TypeId} (ob0 : List (Nat × AO)) (hx : evoA (look sl) xs = some as) (hV : VFun G f args [] res []) (hsub : F2 (Sub ob0 [] (fun _ => none) (fun k => look ob0 k ≠ none)) args as) (hob : ∀ k o, look ob0 k = some o → look ob k = some o) (hsc : scal2 res = true) (hd : Nat.blt d nn = true) (hg : GOk ops sl nn gd) (kk' : VR G Γ ops fin K os (log ++ [⟨some d, gsl ops gd ++ (xs.flatMap sl1), ob0.map (·.1), []⟩]) ⟨(d, res) :: sl, ob, nn⟩) : VR G Γ ops fin K (⟨some d, .call { callee := .value (.func f), args := xs.toArray, argTypes := ats }, ty, pos, aft, gd⟩ :: os) log ⟨sl, ob, nn⟩ := by
  exact u_op (op_callV (G := G) (Γ := Γ) (E := ⟨sl, ob, nn⟩) (dst := some d) (ty := ty) (pos := pos) (aft := aft) (gd := gd) (ob0 := ob0) hV hx hsub hob (.inr hsc) (dlt hd)) hg kk'
end
end Go.Vc

/-! Aids for walks: comparisons that part the way; loops; ends. -/
set_option linter.unusedSimpArgs false
set_option linter.unusedVariables false
namespace Go.Vc
open Go Go.RowKit

section
variable {G : Prg} {Γ : Ctx} {ops : Array Oper} {fin : List Lg → Prop} {K : Env → Prop} {os : List Oper} {log : List Lg} {sl : List (Nat × AV)} {ob : List (Nat × AO)} {nn : Nat} {d : Nat} {ty : TypeId} {pos : String} {aft : Array Edge} {gd : Option (Nat × Bool)}

section
variable {t yt : TypeId} {x y : Operand} {k : IntKind} {m n : Int} (hx : evo (look sl) x = some (.lit (.int k m))) (hy : evo (look sl) y = some (.lit (.int k n))) (hd : Nat.blt d nn = true) (hg : GOk ops sl nn gd)
include hx hy hd hg
theorem s_lss (hT : m < n → VR G Γ ops fin K os (log ++ [⟨some d, gsl ops gd ++ (sl1 x ++ sl1 y), [], []⟩]) ⟨(d, .lit (.bool true)) :: sl, ob, nn⟩) (hF : n ≤ m → VR G Γ ops fin K os (log ++ [⟨some d, gsl ops gd ++ (sl1 x ++ sl1 y), [], []⟩]) ⟨(d, .lit (.bool false)) :: sl, ob, nn⟩) :
    VR G Γ ops fin K (⟨some d, .binOp .lss t x y yt, ty, pos, aft, gd⟩ :: os) log ⟨sl, ob, nn⟩ := by
  refine u_lss hx hy hd hg ?_
  by_cases h : m < n
  · rw [decide_eq_true h]; exact hT h
  · rw [decide_eq_false h]; exact hF (by omega)
theorem s_leq (hT : m ≤ n → VR G Γ ops fin K os (log ++ [⟨some d, gsl ops gd ++ (sl1 x ++ sl1 y), [], []⟩]) ⟨(d, .lit (.bool true)) :: sl, ob, nn⟩) (hF : n < m → VR G Γ ops fin K os (log ++ [⟨some d, gsl ops gd ++ (sl1 x ++ sl1 y), [], []⟩]) ⟨(d, .lit (.bool false)) :: sl, ob, nn⟩) :
    VR G Γ ops fin K (⟨some d, .binOp .leq t x y yt, ty, pos, aft, gd⟩ :: os) log ⟨sl, ob, nn⟩ := by
  refine u_leq hx hy hd hg ?_
  by_cases h : m ≤ n
  · rw [decide_eq_true h]; exact hT h
  · rw [decide_eq_false h]; exact hF (by omega)
theorem s_gtr (hT : n < m → VR G Γ ops fin K os (log ++ [⟨some d, gsl ops gd ++ (sl1 x ++ sl1 y), [], []⟩]) ⟨(d, .lit (.bool true)) :: sl, ob, nn⟩) (hF : m ≤ n → VR G Γ ops fin K os (log ++ [⟨some d, gsl ops gd ++ (sl1 x ++ sl1 y), [], []⟩]) ⟨(d, .lit (.bool false)) :: sl, ob, nn⟩) :
    VR G Γ ops fin K (⟨some d, .binOp .gtr t x y yt, ty, pos, aft, gd⟩ :: os) log ⟨sl, ob, nn⟩ := by
  refine u_gtr hx hy hd hg ?_
  by_cases h : n < m
  · rw [decide_eq_true h]; exact hT h
  · rw [decide_eq_false h]; exact hF (by omega)
theorem s_geq (hT : n ≤ m → VR G Γ ops fin K os (log ++ [⟨some d, gsl ops gd ++ (sl1 x ++ sl1 y), [], []⟩]) ⟨(d, .lit (.bool true)) :: sl, ob, nn⟩) (hF : m < n → VR G Γ ops fin K os (log ++ [⟨some d, gsl ops gd ++ (sl1 x ++ sl1 y), [], []⟩]) ⟨(d, .lit (.bool false)) :: sl, ob, nn⟩) :
    VR G Γ ops fin K (⟨some d, .binOp .geq t x y yt, ty, pos, aft, gd⟩ :: os) log ⟨sl, ob, nn⟩ := by
  refine u_geq hx hy hd hg ?_
  by_cases h : n ≤ m
  · rw [decide_eq_true h]; exact hT h
  · rw [decide_eq_false h]; exact hF (by omega)
theorem s_eql (hT : m = n → VR G Γ ops fin K os (log ++ [⟨some d, gsl ops gd ++ (sl1 x ++ sl1 y), [], []⟩]) ⟨(d, .lit (.bool true)) :: sl, ob, nn⟩) (hF : m ≠ n → VR G Γ ops fin K os (log ++ [⟨some d, gsl ops gd ++ (sl1 x ++ sl1 y), [], []⟩]) ⟨(d, .lit (.bool false)) :: sl, ob, nn⟩) :
    VR G Γ ops fin K (⟨some d, .binOp .eql t x y yt, ty, pos, aft, gd⟩ :: os) log ⟨sl, ob, nn⟩ := by
  refine u_eql hx hy hd hg ?_
  by_cases h : m = n
  · rw [beq_iff_eq.2 h]; exact hT h
  · rw [beq_eq_false_iff_ne.2 h]; exact hF h
theorem s_neq (hT : m ≠ n → VR G Γ ops fin K os (log ++ [⟨some d, gsl ops gd ++ (sl1 x ++ sl1 y), [], []⟩]) ⟨(d, .lit (.bool true)) :: sl, ob, nn⟩) (hF : m = n → VR G Γ ops fin K os (log ++ [⟨some d, gsl ops gd ++ (sl1 x ++ sl1 y), [], []⟩]) ⟨(d, .lit (.bool false)) :: sl, ob, nn⟩) :
    VR G Γ ops fin K (⟨some d, .binOp .neq t x y yt, ty, pos, aft, gd⟩ :: os) log ⟨sl, ob, nn⟩ := by
  refine u_neq hx hy hd hg ?_
  by_cases h : m = n
  · rw [show (m != n) = false by simp [h]]; exact hF h
  · rw [show (m != n) = true by simp [h]]; exact hT h
end

/-- A call that answers yes or no. -/
theorem s_call {f : FuncId} {xs : List Operand} {args as : List AV} {b : Bool} {ats : Array TypeId} (ob0 : List (Nat × AO)) (hx : evoA (look sl) xs = some as) (hV : VFun G f args [] (.lit (.bool b)) []) (hsub : F2 (Sub ob0 [] (fun _ => none) (fun k => look ob0 k ≠ none)) args as)
    (hob : ∀ k o, look ob0 k = some o → look ob k = some o) (hd : Nat.blt d nn = true) (hg : GOk ops sl nn gd)
    (hT : b = true → VR G Γ ops fin K os (log ++ [⟨some d, gsl ops gd ++ (xs.flatMap sl1), ob0.map (·.1), []⟩]) ⟨(d, .lit (.bool true)) :: sl, ob, nn⟩) (hF : b = false → VR G Γ ops fin K os (log ++ [⟨some d, gsl ops gd ++ (xs.flatMap sl1), ob0.map (·.1), []⟩]) ⟨(d, .lit (.bool false)) :: sl, ob, nn⟩) :
    VR G Γ ops fin K (⟨some d, .call { callee := .value (.func f), args := xs.toArray, argTypes := ats }, ty, pos, aft, gd⟩ :: os) log ⟨sl, ob, nn⟩ := by
  refine u_callB ob0 hx hV hsub hob rfl hd hg ?_
  cases b
  · exact hF rfl
  · exact hT rfl

/-- A pick whose test is known. -/
theorem u_pickT {c x y : Operand} {v : AV} (hc : evo (look sl) c = some (.lit (.bool true))) (hx : evo (look sl) x = some v) (hd : Nat.blt d nn = true) (hg : GOk ops sl nn gd) (kk' : VR G Γ ops fin K os (log ++ [⟨some d, gsl ops gd ++ (sl1 c ++ sl1 x ++ sl1 y), [], []⟩]) ⟨(d, v) :: sl, ob, nn⟩) :
    VR G Γ ops fin K (⟨some d, .pick c x y, ty, pos, aft, gd⟩ :: os) log ⟨sl, ob, nn⟩ := u_pick (b := true) hc hx hd hg kk'
theorem u_pickF {c x y : Operand} {v : AV} (hc : evo (look sl) c = some (.lit (.bool false))) (hy : evo (look sl) y = some v) (hd : Nat.blt d nn = true) (hg : GOk ops sl nn gd) (kk' : VR G Γ ops fin K os (log ++ [⟨some d, gsl ops gd ++ (sl1 c ++ sl1 x ++ sl1 y), [], []⟩]) ⟨(d, v) :: sl, ob, nn⟩) :
    VR G Γ ops fin K (⟨some d, .pick c x y, ty, pos, aft, gd⟩ :: os) log ⟨sl, ob, nn⟩ := u_pick (b := false) hc hy hd hg kk'
end

/-! ### Seeing less, as lists -/
def WkS (E : Env) (ob' : List (Nat × AO)) (ρ : Nat → Option Nat) : List (Nat × AV) → Prop
  | [] => True
  | (t, v') :: r => (∃ v, look E.sl t = some v ∧ Sub E.ob ob' ρ (fzAll ρ ob') v' v) ∧ WkS E ob' ρ r

theorem WkS.get {E : Env} {ob' : List (Nat × AO)} {ρ : Nat → Option Nat} : ∀ {sl' : List (Nat × AV)}, WkS E ob' ρ sl' → ∀ t v', look sl' t = some v' → ∃ v, look E.sl t = some v ∧ Sub E.ob ob' ρ (fzAll ρ ob') v' v
  | [], _, t, v', h => by simp [look] at h
  | (t0, v0) :: r, hw, t, v', h => by
    rw [look_cons] at h
    by_cases he : t0 = t
    · rw [if_pos he] at h; cases h; subst he; exact hw.1
    · rw [if_neg he] at h; exact WkS.get hw.2 t v' h

def WkO (E : Env) (ob' : List (Nat × AO)) (ρ : Nat → Option Nat) : List (Nat × AO) → Prop
  | [] => True
  | (i, o') :: r => SubO E.ob ob' ρ (fzAll ρ ob') i o' ∧ WkO E ob' ρ r

theorem WkO.get {E : Env} {ob' : List (Nat × AO)} {ρ : Nat → Option Nat} : ∀ {l : List (Nat × AO)}, WkO E ob' ρ l → ∀ i o', look l i = some o' → SubO E.ob ob' ρ (fzAll ρ ob') i o'
  | [], _, t, v', h => by simp [look] at h
  | (t0, v0) :: r, hw, t, v', h => by
    rw [look_cons] at h
    by_cases he : t0 = t
    · rw [if_pos he] at h; cases h; subst he; exact hw.1
    · rw [if_neg he] at h; exact WkO.get hw.2 t v' h

/-- New names for elder ones, as a list of pairs. -/
def ren (l : List (Nat × Nat)) : Nat → Option Nat := look l

def injL (l : List (Nat × Nat)) : Bool := match l with
  | [] => true
  | p :: r => (r.all fun q => !(Nat.beq p.2 q.2)) && injL r

theorem ren_inj : ∀ (l : List (Nat × Nat)), injL l = true → ∀ i j k, ren l i = some k → ren l j = some k → i = j
  | [], _, i, j, k, h, _ => by simp [ren, look] at h
  | p :: r, hl, i, j, k, hi, hj => by
    have hl' : (r.all fun q => !(Nat.beq p.2 q.2)) = true ∧ injL r = true := by simpa [injL] using hl
    have memr : ∀ (l : List (Nat × Nat)) (i k : Nat), look l i = some k → ∃ q ∈ l, q.2 = k := by
      intro l
      induction l with
      | nil => intro i k h; simp [look] at h
      | cons q l ih =>
        intro i k h
        rw [look_cons] at h
        by_cases he : q.1 = i
        · rw [if_pos he] at h; cases h; exact ⟨q, by simp, rfl⟩
        · rw [if_neg he] at h; obtain ⟨q', h1, h2⟩ := ih i k h; exact ⟨q', by simp [h1], h2⟩
    have no : ∀ i k, look r i = some k → p.2 ≠ k := by
      intro i k h e
      obtain ⟨q, hq, hk⟩ := memr r i k h
      have := List.all_eq_true.1 hl'.1 q hq
      rw [hk, ← e] at this
      simp [Nat.beq_refl] at this
    unfold ren at hi hj
    rw [look_cons] at hi hj
    by_cases h1 : p.1 = i
    · rw [if_pos h1] at hi
      by_cases h2 : p.1 = j
      · exact h1.symm.trans h2
      · rw [if_neg h2] at hj; cases hi; exact absurd rfl (no j _ hj)
    · rw [if_neg h1] at hi
      by_cases h2 : p.1 = j
      · rw [if_pos h2] at hj; cases hj; exact absurd rfl (no i _ hi)
      · rw [if_neg h2] at hj; exact ren_inj r hl'.2 i j k hi hj

theorem mk_wk {par : List Nat} {E E' : Env} (l : List (Nat × Nat)) (hi : injL l = true) (hn : E'.n = E.n) (hs : WkS E E'.ob (ren l) E'.sl) (ho : WkO E E'.ob (ren l) E'.ob) (hp : ∀ k, k ∈ par → look E'.ob k ≠ none → ren l k = some k ∧ look E.ob k ≠ none) : Wk (ren l) par E E' :=
  ⟨hn, fun i j k _ _ h1 h2 => ren_inj l hi i j k h1 h2, ho.get, hs.get, hp⟩

theorem no_par {E' E : Env} {ρ : Nat → Option Nat} : ∀ k, k ∈ ([] : List Nat) → look E'.ob k ≠ none → ρ k = some k ∧ look E.ob k ≠ none := fun k h => by simp at h

section
variable {G : Prg} {Γ : Ctx} {Q : Exit → Env → Prop} {E : Env}

/-- A loop, its head seen as F x for an x that meets I. -/
theorem vw_loopI {c : Code} {α : Type} (I : α → Prop) (F : α → Env) (m : α → Nat) (x0 : α) (h0 : I x0) (ρ : Nat → Option Nat) (hk : Wk ρ Γ.par E (F x0))
    (round : ∀ x, I x → VW G Γ c (fun e E' => match e with | .normal => ∃ y ρ', I y ∧ m y < m x ∧ Wk ρ' Γ.par E' (F y) | e => Q e E') (F x)) : VW G Γ (.loop c) Q E := by
  refine vw_loop (α := {x : α // I x}) (fun x => F x.1) (fun x => m x.1) ⟨x0, h0⟩ ρ hk fun x => vw_mono (round x.1 x.2) ?_
  intro e E' h
  cases e with
  | normal => obtain ⟨y, ρ', hy, hm, hw⟩ := h; exact ⟨⟨y, hy⟩, ρ', hm, hw⟩
  | _ => exact h

/-- The end of a function without objects handed in or out. -/
theorem fin0 {rs : List ResultVar} {rv : List AV} {res : AV} {e : Exit} (he : e = .normal ∨ e = .ret) (hr : F2 (ResV G E) rs rv) (hs : Sub E.ob [] (ren []) (fzAll (ren []) []) res (resAV rv)) :
    (e = .normal ∨ e = .ret) ∧ ∃ rv ρ, F2 (ResV G E) rs rv ∧ Wk ρ (([] : List (Nat × AO)).map (·.1)) ⟨[(0, resAV rv)], E.ob, 0⟩ ⟨[(0, res)], [], 0⟩ :=
  ⟨he, rv, ren [], hr, mk_wk [] rfl rfl ⟨⟨_, rfl, hs⟩, trivial⟩ trivial no_par⟩

theorem fz0 {k : Nat} : fzAll (ren []) [] k := fun i h => absurd rfl h
end

/-- Sub for lists of literals and such. -/
theorem F2.one {α γ : Type} {R : α → γ → Prop} {a : α} {b : γ} (h : R a b) : F2 R [a] [b] := .cons h .nil
end Go.Vc

/-! More aids for printed walks: loops and joins by a relation, ends, what is decided by counting. -/
set_option linter.unusedSimpArgs false
set_option linter.unusedVariables false
namespace Go.Vc
open Go Go.RowKit

section
variable {G : Prg} {Γ : Ctx} {Q : Exit → Env → Prop} {E : Env}

theorem vw_loopR {c : Code} (R : Nat → Env → Prop) {n0 : Nat} {E0 : Env} (h0 : R n0 E0) (ρ : Nat → Option Nat) (hk : Wk ρ Γ.par E E0)
    (round : ∀ n E, R n E → VW G Γ c (fun e E' => match e with | .normal => ∃ n' E'' ρ', n' < n ∧ R n' E'' ∧ Wk ρ' Γ.par E' E'' | e => Q e E') E) : VW G Γ (.loop c) Q E := by
  refine vw_loop (α := {x : Nat × Env // R x.1 x.2}) (fun x => x.1.2) (fun x => x.1.1) ⟨(n0, E0), h0⟩ ρ hk fun x => vw_mono (round x.1.1 x.1.2 x.2) ?_
  intro e E' h
  cases e with
  | normal => obtain ⟨n', E'', ρ', hm, hr, hw⟩ := h; exact ⟨⟨(n', E''), hr⟩, ρ', hm, hw⟩
  | _ => exact h

/-- What comes first ends in one of R's environments, seen less. -/
theorem vw_join {x y : Code} (R : Env → Prop) (h : VW G Γ x (fun e E' => match e with | .normal => ∃ E'' ρ, R E'' ∧ Wk ρ Γ.par E' E'' | e => Q e E') E) (h2 : ∀ E', R E' → VW G Γ y Q E') : VW G Γ (.seq x y) Q E := by
  refine vw_seq (vw_mono h ?_)
  intro e E' he
  cases e with
  | normal => obtain ⟨E'', ρ, hr, hw⟩ := he; exact vw_wk ρ hw (h2 E'' hr)
  | _ => exact he

theorem vw_condT {c : Operand} {x y : Code} (hc : evo (look E.sl) c = some (.lit (.bool true))) (h : VW G Γ x Q E) : VW G Γ (.cond c x y) Q E :=
  vw_cond hc (fun _ => h) (fun e => by cases e)
theorem vw_condF {c : Operand} {x y : Code} (hc : evo (look E.sl) c = some (.lit (.bool false))) (h : VW G Γ y Q E) : VW G Γ (.cond c x y) Q E :=
  vw_cond hc (fun e => by cases e) (fun _ => h)
end

theorem iteP {c : Prop} [Decidable c] {a b : Prop} (h : c) (ha : a) : if c then a else b := by rw [if_pos h]; exact ha
theorem iteN {c : Prop} [Decidable c] {a b : Prop} (h : ¬ c) (hb : b) : if c then a else b := by rw [if_neg h]; exact hb

theorem lookNe {α : Type} {l : List (Nat × α)} {k : Nat} {o : α} (h : look l k = some o) : look l k ≠ none := by rw [h]; simp
theorem rowEq {ob : List (Nat × AO)} {k : Nat} {e : TypeId} {sz : Nat} {xs ys : List (List AV)} (h : look ob k = some (.row e sz xs)) (he : xs = ys) : look ob k = some (.row e sz ys) := he ▸ h

def fzB (ob' : List (Nat × AO)) (l : List (Nat × Nat)) (k : Nat) : Bool := ob'.all fun p => match look l p.1 with
  | some j => !(Nat.beq j k)
  | none => true

theorem look_mem {α : Type} : ∀ {l : List (Nat × α)} {i : Nat}, look l i ≠ none → ∃ p ∈ l, p.1 = i
  | [], i, h => absurd rfl h
  | p :: r, i, h => by
    rw [look_cons] at h
    by_cases he : p.1 = i
    · exact ⟨p, by simp, he⟩
    · rw [if_neg he] at h; obtain ⟨q, h1, h2⟩ := look_mem h; exact ⟨q, by simp [h1], h2⟩

theorem fzL {ob' : List (Nat × AO)} {l : List (Nat × Nat)} {k : Nat} (h : fzB ob' l k = true) : fzAll (ren l) ob' k := by
  intro i hi he
  obtain ⟨p, hp, rfl⟩ := look_mem hi
  have := List.all_eq_true.1 h p hp
  unfold ren at he
  rw [he] at this
  simp [Nat.beq_refl] at this

theorem notPar {l : List Nat} {k : Nat} {ob : List (Nat × AO)} (hp : l = ob.map (·.1)) (h : (ob.all fun p => !(Nat.beq p.1 k)) = true) : k ∉ l := by
  rw [hp]
  intro hm
  obtain ⟨p, hp, rfl⟩ := List.mem_map.1 hm
  have := List.all_eq_true.1 h p hp
  simp [Nat.beq_refl] at this

theorem no_par' {l : List Nat} (hp : l = (([] : List (Nat × AO)).map (·.1))) {E' E : Env} {ρ : Nat → Option Nat} : ∀ k, k ∈ l → look E'.ob k ≠ none → ρ k = some k ∧ look E.ob k ≠ none := fun k h => by rw [hp] at h; simp at h

theorem srcRow {ob : List (Nat × AO)} {k : Nat} {e : TypeId} {sz : Nat} {ys : List (List AV)} (h : look ob k = some (.row e sz ys)) : SrcA ob (.row k) sz ys [k] := .row k e sz ys h

theorem sub1 {ob : List (Nat × AO)} {k0 : Nat} {o0 : AO} (h : look ob k0 = some o0) : ∀ k o, look [(k0, o0)] k = some o → look ob k = some o := by
  intro k o hk
  rw [look_cons] at hk
  by_cases he : k0 = k
  · rw [if_pos he] at hk; cases hk; subst he; exact h
  · rw [if_neg he] at hk; simp [look] at hk

theorem sub2 {ob : List (Nat × AO)} {k0 k1 : Nat} {o0 o1 : AO} (h : look ob k0 = some o0) (h1 : look ob k1 = some o1) : ∀ k o, look [(k0, o0), (k1, o1)] k = some o → look ob k = some o := by
  intro k o hk
  rw [look_cons] at hk
  by_cases he : k0 = k
  · rw [if_pos he] at hk; cases hk; subst he; exact h
  · rw [if_neg he] at hk; exact sub1 h1 k o hk

section
variable {ob ob' : List (Nat × AO)} {ρ : Nat → Option Nat} {fz : Nat → Prop}
theorem subI {k : IntKind} {m n : Int} (h : m = n) : Sub ob ob' ρ fz (.lit (.int k m)) (.lit (.int k n)) := h ▸ .lit _
theorem subB {m n : Bool} (h : m = n) : Sub ob ob' ρ fz (.lit (.bool m)) (.lit (.bool n)) := h ▸ .lit _
theorem subT {m n : ByteArray} (h : m = n) : Sub ob ob' ρ fz (.lit (.string m)) (.lit (.string n)) := h ▸ .lit _
theorem subS {sz : Nat} {xs ys : List (List AV)} (h : xs = ys) : Sub ob ob' ρ fz (.shr sz xs) (.shr sz ys) := h ▸ .shr _ _
theorem subFz {sz k : Nat} {e : TypeId} {xs ys : List (List AV)} (hk : look ob k = some (.row e sz ys)) (hf : fz k) (h : xs = ys) : Sub ob ob' ρ fz (.shr sz xs) (.row k) := h ▸ .frz _ _ _ _ hk hf
theorem subNs {sz : Nat} {xs : List (List AV)} (h : xs = []) : Sub ob ob' ρ fz (.shr sz xs) (.lit (.slice none 0 0)) := h ▸ .nilshr _
end

section
variable {G : Prg} {Γ : Ctx} {ops : Array Oper} {fin : List Lg → Prop} {K : Env → Prop} {os : List Oper} {log : List Lg} {sl : List (Nat × AV)} {ob : List (Nat × AO)} {nn : Nat} {d : Nat} {ty : TypeId} {pos : String} {aft : Array Edge} {gd : Option (Nat × Bool)}
variable {t yt : TypeId} {x y : Operand}
theorem s_eqlB {m n : Bool} (hx : evo (look sl) x = some (.lit (.bool m))) (hy : evo (look sl) y = some (.lit (.bool n))) (ht : G.T.kind t = .bool) (hd : Nat.blt d nn = true) (hg : GOk ops sl nn gd)
    (hT : m = n → VR G Γ ops fin K os (log ++ [⟨some d, gsl ops gd ++ (sl1 x ++ sl1 y), [], []⟩]) ⟨(d, .lit (.bool true)) :: sl, ob, nn⟩) (hF : m ≠ n → VR G Γ ops fin K os (log ++ [⟨some d, gsl ops gd ++ (sl1 x ++ sl1 y), [], []⟩]) ⟨(d, .lit (.bool false)) :: sl, ob, nn⟩) :
    VR G Γ ops fin K (⟨some d, .binOp .eql t x y yt, ty, pos, aft, gd⟩ :: os) log ⟨sl, ob, nn⟩ := by
  refine u_eqlB hx hy ht hd hg ?_
  by_cases h : m = n
  · rw [beq_iff_eq.2 h]; exact hT h
  · rw [beq_eq_false_iff_ne.2 h]; exact hF h
theorem s_neqB {m n : Bool} (hx : evo (look sl) x = some (.lit (.bool m))) (hy : evo (look sl) y = some (.lit (.bool n))) (ht : G.T.kind t = .bool) (hd : Nat.blt d nn = true) (hg : GOk ops sl nn gd)
    (hT : m ≠ n → VR G Γ ops fin K os (log ++ [⟨some d, gsl ops gd ++ (sl1 x ++ sl1 y), [], []⟩]) ⟨(d, .lit (.bool true)) :: sl, ob, nn⟩) (hF : m = n → VR G Γ ops fin K os (log ++ [⟨some d, gsl ops gd ++ (sl1 x ++ sl1 y), [], []⟩]) ⟨(d, .lit (.bool false)) :: sl, ob, nn⟩) :
    VR G Γ ops fin K (⟨some d, .binOp .neq t x y yt, ty, pos, aft, gd⟩ :: os) log ⟨sl, ob, nn⟩ := by
  refine u_neqB hx hy ht hd hg ?_
  by_cases h : m = n
  · rw [show (m != n) = false by simp [h]]; exact hF h
  · rw [show (m != n) = true by simp [h]]; exact hT h
theorem s_eqlT {m n : ByteArray} (hx : evo (look sl) x = some (.lit (.string m))) (hy : evo (look sl) y = some (.lit (.string n))) (hd : Nat.blt d nn = true) (hg : GOk ops sl nn gd)
    (hT : m.toList = n.toList → VR G Γ ops fin K os (log ++ [⟨some d, gsl ops gd ++ (sl1 x ++ sl1 y), [], []⟩]) ⟨(d, .lit (.bool true)) :: sl, ob, nn⟩) (hF : m.toList ≠ n.toList → VR G Γ ops fin K os (log ++ [⟨some d, gsl ops gd ++ (sl1 x ++ sl1 y), [], []⟩]) ⟨(d, .lit (.bool false)) :: sl, ob, nn⟩) :
    VR G Γ ops fin K (⟨some d, .binOp .eql t x y yt, ty, pos, aft, gd⟩ :: os) log ⟨sl, ob, nn⟩ := by
  refine u_eqlT hx hy hd hg ?_
  by_cases h : m.toList = n.toList
  · rw [beq_iff_eq.2 h]; exact hT h
  · rw [beq_eq_false_iff_ne.2 h]; exact hF h
theorem s_neqT {m n : ByteArray} (hx : evo (look sl) x = some (.lit (.string m))) (hy : evo (look sl) y = some (.lit (.string n))) (hd : Nat.blt d nn = true) (hg : GOk ops sl nn gd)
    (hT : m.toList ≠ n.toList → VR G Γ ops fin K os (log ++ [⟨some d, gsl ops gd ++ (sl1 x ++ sl1 y), [], []⟩]) ⟨(d, .lit (.bool true)) :: sl, ob, nn⟩) (hF : m.toList = n.toList → VR G Γ ops fin K os (log ++ [⟨some d, gsl ops gd ++ (sl1 x ++ sl1 y), [], []⟩]) ⟨(d, .lit (.bool false)) :: sl, ob, nn⟩) :
    VR G Γ ops fin K (⟨some d, .binOp .neq t x y yt, ty, pos, aft, gd⟩ :: os) log ⟨sl, ob, nn⟩ := by
  refine u_neqT hx hy hd hg ?_
  by_cases h : m.toList = n.toList
  · rw [beq_iff_eq.2 h]; exact hF h
  · rw [beq_eq_false_iff_ne.2 h]; exact hT h
end

section
variable {G : Prg} {Γ : Ctx} {ops : Array Oper} {fin : List Lg → Prop} {K : Env → Prop} {os : List Oper} {log : List Lg} {sl : List (Nat × AV)} {ob : List (Nat × AO)} {nn : Nat} {d : Nat} {ty : TypeId} {pos : String} {aft : Array Edge} {gd : Option (Nat × Bool)}
variable {t yt : TypeId} {x y : Operand} {k : IntKind} {m n : Int}
theorem u_remN (hx : evo (look sl) x = some (.lit (.int k m))) (hy : evo (look sl) y = some (.lit (.int k n))) (h0 : 0 ≤ m ∧ 0 < n) (hd : Nat.blt d nn = true) (hg : GOk ops sl nn gd)
    (kk' : VR G Γ ops fin K os (log ++ [⟨some d, gsl ops gd ++ (sl1 x ++ sl1 y), [], []⟩]) ⟨(d, .lit (.int k (m % n))) :: sl, ob, nn⟩) :
    VR G Γ ops fin K (⟨some d, .binOp .rem t x y yt, ty, pos, aft, gd⟩ :: os) log ⟨sl, ob, nn⟩ := by
  refine u_rem hx hy (by omega) hd hg ?_
  rw [Int.tmod_eq_emod_of_nonneg h0.1]; exact kk'
theorem u_quoN (hx : evo (look sl) x = some (.lit (.int .i64 m))) (hy : evo (look sl) y = some (.lit (.int .i64 n))) (h0 : 0 ≤ m ∧ 0 < n ∧ inI m) (hd : Nat.blt d nn = true) (hg : GOk ops sl nn gd)
    (kk' : VR G Γ ops fin K os (log ++ [⟨some d, gsl ops gd ++ (sl1 x ++ sl1 y), [], []⟩]) ⟨(d, .lit (.int .i64 (m / n))) :: sl, ob, nn⟩) :
    VR G Γ ops fin K (⟨some d, .binOp .quo t x y yt, ty, pos, aft, gd⟩ :: os) log ⟨sl, ob, nn⟩ := by
  refine u_quo hx hy (by omega) hd hg ?_
  have h1 : m.tdiv n = m / n := Int.tdiv_eq_ediv_of_nonneg h0.1
  have h2 : 0 ≤ m / n := Int.ediv_nonneg h0.1 (by omega)
  have h3 : m / n ≤ m := Int.ediv_le_self n h0.1
  rw [h1, wrap_inI (by have := h0.2.2; unfold inI at *; omega)]; exact kk'
end

/-! ### Rows of ints -/
def intCells (l : List Int) : List (List AV) := l.map fun n => [.lit (.int .i64 n)]
theorem intCells_length (l : List Int) : (intCells l).length = l.length := by simp [intCells]
theorem intCells_snoc (l : List Int) (n : Int) : intCells l ++ [[.lit (.int .i64 n)]] = intCells (l ++ [n]) := by simp [intCells]
theorem intCells_get {l : List Int} {i : Nat} {n : Int} (h : l[i]? = some n) : (intCells l)[i]? = some [.lit (.int .i64 n)] := by simp [intCells, h]
end Go.Vc

/-! The built-in functions min and max of two ints. -/
set_option linter.unusedVariables false
namespace Go.Vc
open Go Go.RowKit

section
variable {G : Prg} {Γ : Ctx} {E : Env} {dst : Option Tmp} {ty : TypeId} {pos : String} {aft : Array Edge} {gd : Option (Nat × Bool)}
theorem op_min {t t' : TypeId} {x y : Operand} {k : IntKind} {m n : Int} (hx : evo (look E.sl) x = some (.lit (.int k m))) (hy : evo (look E.sl) y = some (.lit (.int k n))) (hd : ∀ d, dst = some d → d < E.n) :
    OpS G Γ ⟨dst, .call { callee := .builtin .min, args := #[x, y], argTypes := #[t, t'] }, ty, pos, aft, gd⟩ E (.lit (.int k (if n < m then n else m))) [] (sl1 x ++ sl1 y) [] :=
  OpS.val hd fun E' hn h1 h2 S O β a w hs => by
    have hxe := hs.lit ((evo_congr fun t ht => h1 t (by simp [ht])).trans hx)
    have hye := hs.lit ((evo_congr fun t ht => h1 t (by simp [ht])).trans hy)
    refine ⟨.int k (if n < m then n else m), ?_, .pure _ _ (.lit _ rfl)⟩
    by_cases h : n < m <;> simp [execOp, resolve, invoke, builtin, hxe, hye, Builtin.min_, Builtin.min2, h]
theorem op_max {t t' : TypeId} {x y : Operand} {k : IntKind} {m n : Int} (hx : evo (look E.sl) x = some (.lit (.int k m))) (hy : evo (look E.sl) y = some (.lit (.int k n))) (hd : ∀ d, dst = some d → d < E.n) :
    OpS G Γ ⟨dst, .call { callee := .builtin .max, args := #[x, y], argTypes := #[t, t'] }, ty, pos, aft, gd⟩ E (.lit (.int k (if m < n then n else m))) [] (sl1 x ++ sl1 y) [] :=
  OpS.val hd fun E' hn h1 h2 S O β a w hs => by
    have hxe := hs.lit ((evo_congr fun t ht => h1 t (by simp [ht])).trans hx)
    have hye := hs.lit ((evo_congr fun t ht => h1 t (by simp [ht])).trans hy)
    refine ⟨.int k (if m < n then n else m), ?_, .pure _ _ (.lit _ rfl)⟩
    by_cases h : m < n <;> simp [execOp, resolve, invoke, builtin, hxe, hye, Builtin.max_, Builtin.max2, h]
end

section
variable {G : Prg} {Γ : Ctx} {ops : Array Oper} {fin : List Lg → Prop} {K : Env → Prop} {os : List Oper} {log : List Lg} {sl : List (Nat × AV)} {ob : List (Nat × AO)} {nn : Nat} {d : Nat} {ty : TypeId} {pos : String} {aft : Array Edge} {gd : Option (Nat × Bool)}
variable {t t' : TypeId} {x y : Operand} {k : IntKind} {m n : Int}
theorem u_min (hx : evo (look sl) x = some (.lit (.int k m))) (hy : evo (look sl) y = some (.lit (.int k n))) (hd : Nat.blt d nn = true) (hg : GOk ops sl nn gd)
    (kk' : VR G Γ ops fin K os (log ++ [⟨some d, gsl ops gd ++ (sl1 x ++ sl1 y), [], []⟩]) ⟨(d, .lit (.int k (if n < m then n else m))) :: sl, ob, nn⟩) :
    VR G Γ ops fin K (⟨some d, .call { callee := .builtin .min, args := #[x, y], argTypes := #[t, t'] }, ty, pos, aft, gd⟩ :: os) log ⟨sl, ob, nn⟩ :=
  u_op (op_min (G := G) (Γ := Γ) (E := ⟨sl, ob, nn⟩) (dst := some d) (ty := ty) (pos := pos) (aft := aft) (gd := gd) hx hy (dlt hd)) hg kk'
theorem u_max (hx : evo (look sl) x = some (.lit (.int k m))) (hy : evo (look sl) y = some (.lit (.int k n))) (hd : Nat.blt d nn = true) (hg : GOk ops sl nn gd)
    (kk' : VR G Γ ops fin K os (log ++ [⟨some d, gsl ops gd ++ (sl1 x ++ sl1 y), [], []⟩]) ⟨(d, .lit (.int k (if m < n then n else m))) :: sl, ob, nn⟩) :
    VR G Γ ops fin K (⟨some d, .call { callee := .builtin .max, args := #[x, y], argTypes := #[t, t'] }, ty, pos, aft, gd⟩ :: os) log ⟨sl, ob, nn⟩ :=
  u_op (op_max (G := G) (Γ := Γ) (E := ⟨sl, ob, nn⟩) (dst := some d) (ty := ty) (pos := pos) (aft := aft) (gd := gd) hx hy (dlt hd)) hg kk'
end
end Go.Vc

/-! Calls whose results own rows: the rule, and how a function's end hands them out. -/
set_option linter.unusedVariables false
set_option linter.unusedSimpArgs false
namespace Go.Vc
open Go Go.RowKit

section
variable {G : Prg} {Γ : Ctx} {S : Nat → Prop} {O : Nat → Nat → Prop} {β : Beta} {E : Env} {a : Act} {w : World}

/-- What a call made is laid beside what there was. -/
theorem SimAt.merge (h : SimAt Γ S O β E a w) {S' : Nat → Prop} {O' : Nat → Nat → Prop} {β' : Beta} {w' : World} {lv : List (Nat × AO)} (hw : Fr (fun _ => False) w w') (h1 : ∀ b, S b → S' b) (h2 : ∀ b, S' b → (S b ∨ w.heap.size ≤ b) ∧ b < w'.heap.size)
    (hH : HRep S' O' β' w' lv) (hO : ∀ k b, O' k b → w.heap.size ≤ b) (hf : ∀ k, look lv k ≠ none → look E.ob k = none ∧ k ∉ Γ.par) :
    SimAt Γ S' (fun k b => O k b ∨ O' k b) (fun k => match look lv k with | none => β k | some _ => β' k) ⟨E.sl, lv ++ E.ob, E.n⟩ a w' := by
  have hS : ∀ c, S c → S' c ∧ w'.heap[c]? = w.heap[c]? := fun c hc => ⟨h1 c hc, hw.block c (h.h.sh c hc) id⟩
  have hβ : ∀ k l, β k = some l → (match look lv k with | none => β k | some _ => β' k) = some l := by
    intro k l hk
    cases hl : look lv k with
    | none => exact hk
    | some o =>
      have := (hf k (by rw [hl]; simp)).1
      rw [(h.h.dom k this).1] at hk; cases hk
  have hβ' : ∀ k l, β' k = some l → (match look lv k with | none => β k | some _ => β' k) = some l := by
    intro k l hk
    cases hl : look lv k with
    | none => rw [(hH.dom k hl).1] at hk; cases hk
    | some o => exact hk
  refine ⟨⟨fun b hb => (h2 b hb).2, ?_, ?_, ?_, ?_⟩, ?_, h.n, h.df, fun b hb => h1 b (h.s0 b hb), ?_, ?_, ?_, ?_⟩
  · rintro k b (hb | hb)
    · have := h.h.ow k b hb
      refine ⟨Nat.lt_of_lt_of_le this.1 hw.size, fun hs => ?_⟩
      rcases (h2 b hs).1 with hs' | hs'
      · exact this.2 hs'
      · omega
    · exact hH.ow k b hb
  · rintro k k' b (hb | hb) (hb' | hb')
    · exact h.h.dj k k' b hb hb'
    · have := (h.h.ow k b hb).1; have := hO k' b hb'; omega
    · have := (h.h.ow k' b hb').1; have := hO k b hb; omega
    · exact hH.dj k k' b hb hb'
  · intro k hk
    have hk' : look (lv ++ E.ob) k = none := hk
    rw [look_append] at hk'
    cases hl : look lv k with
    | some o => rw [hl] at hk'; cases hk'
    | none =>
      rw [hl] at hk'
      have hd := h.h.dom k hk'
      refine ⟨hd.1, ?_⟩
      rintro b (hb | hb)
      · exact hd.2 b hb
      · exact (hH.dom k hl).2 b hb
  · intro k o hk
    have hk' : look (lv ++ E.ob) k = some o := hk
    rw [look_append] at hk'
    cases hl : look lv k with
    | some o' =>
      rw [hl] at hk'; cases hk'
      exact (hH.objs k _ hl).mono (fun b hb => ⟨hb, rfl⟩) hβ' fun b hb => ⟨.inr hb, rfl⟩
    | none =>
      rw [hl] at hk'
      exact (h.h.objs k o hk').mono hS hβ fun b hb => ⟨.inl hb, hw.block b (h.h.ow k b hb).1 id⟩
  · intro t v hl; exact (h.sl t v hl).mono hS hβ
  · intro b hb
    rcases (h2 b hb).1 with hb' | hb'
    · exact h.s1 b hb'
    · exact .inr (.inr (Nat.le_trans h.fr.size hb'))
  · rintro k b (hb | hb)
    · exact h.o1 k b hb
    · exact .inr (Nat.le_trans h.fr.size (hO k b hb))
  · intro k hk hn
    have hl : look lv k = none := by
      cases hl : look lv k with
      | none => rfl
      | some o => exact absurd hk (hf k (by rw [hl]; simp)).2
    have hn' : look E.ob k ≠ none := by
      have : look (lv ++ E.ob) k ≠ none := hn
      rw [look_append, hl] at this; exact this
    show (match look lv k with | none => β k | some _ => β' k) = _
    rw [hl]; exact h.b0 k hk hn'
  · exact h.fr.trans hw fun b hb => hb.elim

/-- Cells without an address. -/
def scalR (xs : List (List AV)) : Prop := ∀ x ∈ xs, ∀ c ∈ x, scal c = true
def scalOb : List (Nat × AO) → Prop
  | [] => True
  | (_, .row _ _ xs) :: r => scalR xs ∧ scalOb r
  | _ :: _ => False
def scal3 : AV → Bool
  | .tup vs => vs.all fun v => scal v || (match v with | .row _ => true | _ => false)
  | .row _ => true
  | v => scal v

theorem scalOb.get : ∀ {l : List (Nat × AO)}, scalOb l → ∀ k o, look l k = some o → ∃ e sz xs, o = .row e sz xs ∧ scalR xs
  | [], _, k, o, h => by simp [look] at h
  | (k0, o0) :: r, hs, k, o, h => by
    cases o0 with
    | box cs => exact hs.elim
    | dead => exact hs.elim
    | rowv e sz xs => exact hs.elim
    | rowh hdr e sz xs => exact hs.elim
    | set l => exact hs.elim
    | raw P => exact hs.elim
    | row e sz xs =>
      rw [look_cons] at h
      by_cases he : k0 = k
      · rw [if_pos he] at h; cases h; exact ⟨e, sz, xs, rfl, hs.1⟩
      · rw [if_neg he] at h; exact scalOb.get hs.2 k o h

theorem PRep.scalS {S S' : Nat → Prop} {w w' : World} {c : AV} {x : Value} (h : PRep S w c x) (hc : scal c = true) : PRep S' w' c x := by
  cases c with
  | lit v => cases h with | lit _ h1 => exact .lit _ h1
  | _ => simp [scal] at hc

theorem HRep.scalS {S S' : Nat → Prop} {lv : List (Nat × AO)} (h : HRep S' O β w lv) (hs : scalOb lv) (hS : ∀ b, S b → b < w.heap.size ∧ ∀ k, ¬ O k b) : HRep S O β w lv := by
  refine ⟨fun b hb => (hS b hb).1, fun k b hb => ⟨(h.ow k b hb).1, fun hs' => (hS b hs').2 k hb⟩, h.dj, h.dom, ?_⟩
  intro k o ho
  obtain ⟨e, sz, xs, rfl, hx⟩ := hs.get k o ho
  obtain ⟨h0, hm, hr⟩ := h.objs k _ ho
  refine ⟨h0, hm, ?_⟩
  rcases hr with hr | ⟨b, cap, vs, h1, h2, h3, h4, h5, h6, h7⟩
  · exact .inl hr
  · exact .inr ⟨b, cap, vs, h1, h2, h3, h4, h5, h6, fun i x j c hxi hc => let ⟨v, hv, hp⟩ := h7 i x j c hxi hc; ⟨v, hv, hp.scalS (hx x (List.mem_of_getElem? hxi) c (List.mem_of_getElem? hc))⟩⟩

theorem VRep.scal3 {S' : Nat → Prop} {c : AV} {x : Value} (h : VRep S β w c x) (hc : scal3 c = true) : VRep S' β w c x := by
  have one : ∀ c x, VRep S β w c x → (Go.Vc.scal c || (match c with | .row _ => true | _ => false)) = true → VRep S' β w c x := by
    intro c x h hc
    cases c with
    | lit v => exact h.scal rfl
    | row k => cases h with
      | pure _ _ hp => cases hp
      | row _ l hl => exact .row k l hl
    | _ => simp [Go.Vc.scal] at hc
  cases c with
  | tup vs =>
    obtain ⟨us, rfl, hl, hr⟩ := h.tup_inv
    exact .tup _ _ hl fun j c x hc' hx => one c x (hr j c x hc' hx) (List.all_eq_true.1 hc c (List.mem_of_getElem? hc'))
  | lit v => exact h.scal rfl
  | row k => exact one _ _ h rfl
  | _ => simp [Go.Vc.scal3, Go.Vc.scal] at hc

variable {dst : Option Tmp} {ty : TypeId} {pos : String} {aft : Array Edge} {gd : Option (Nat × Bool)} {ats : Array TypeId}

/-- What is called by value, and hands out rows of its own. -/
theorem op_callN {f : FuncId} {xs : List Operand} {args as : List AV} {res : AV} {lv : List (Nat × AO)} (hV : VFun G f args [] res lv) {ob0 : List (Nat × AO)} (hx : evoA (look E.sl) xs = some as) (hsub : F2 (Sub ob0 [] (fun _ => none) (fun k => look ob0 k ≠ none)) args as)
    (hob : ∀ k o, look ob0 k = some o → look E.ob k = some o) (hsc : ob0 = [] ∨ (scal3 res = true ∧ scalOb lv)) (hf : ∀ k, look lv k ≠ none → look E.ob k = none ∧ k ∉ Γ.par) (hd : ∀ d, dst = some d → d < E.n) :
    OpS G Γ ⟨dst, .call { callee := .value (.func f), args := xs.toArray, argTypes := ats }, ty, pos, aft, gd⟩ E res lv (xs.flatMap sl1) (ob0.map (·.1) ++ lv.map (·.1)) := by
  intro E' hn h1 h2 S O β a w hs K Q hK
  obtain ⟨hcal, hV⟩ := hV
  have key : ∀ (l : List (Nat × AO)) (k : Nat) (o : AO), look l k = some o → k ∈ l.map (·.1) := by
    intro l k
    induction l with
    | nil => intro o h; simp [look] at h
    | cons p l ih =>
      intro o h
      rw [look_cons] at h
      by_cases he : p.1 = k
      · simp [he]
      · rw [if_neg he] at h; simp [ih o h]
  have hob' : ∀ k o, look ob0 k = some o → look E'.ob k = some o := fun k o hk => (h2 k (by simp only [List.mem_append]; exact .inl (key ob0 k o hk))).trans (hob k o hk)
  have hf' : ∀ k, look lv k ≠ none → look E'.ob k = none ∧ k ∉ Γ.par := by
    intro k hk
    obtain ⟨o, ho⟩ : ∃ o, look lv k = some o := by cases h : look lv k with | none => exact absurd h hk | some o => exact ⟨o, rfl⟩
    exact ⟨(h2 k (by simp only [List.mem_append]; exact .inr (key lv k o ho))).trans (hf k hk).1, (hf k hk).2⟩
  have hsz : ∀ b, wkS S O (fun k => look ob0 k ≠ none) b → b < w.heap.size := by
    rintro b (hb | ⟨k, _, hb⟩)
    · exact hs.h.sh b hb
    · exact (hs.h.ow k b hb).1
  have hz : ∀ (k : Nat) (e : TypeId) (sz : Nat) (xs : List (List AV)) (l : Loc), look ob0 k = some (.row e sz xs) → look ob0 k ≠ none → β k = some l → PRep (wkS S O (fun k => look ob0 k ≠ none)) w (.shr sz xs) l.slice :=
    fun k e sz xs l h3 h4 h5 => frozen_row hs.h (hob' k _ h3) h4 h5
  have hargs : F2 (fun c x => VRep (wkS S O (fun k => look ob0 k ≠ none)) (fun _ => none) w c x) args (xs.map a.eval) :=
    F2.sub (fun c' c x hr hc => by
      have := hc.wk' (ob' := []) (ρ := fun _ => none) hz hr
      have e : wkB β (fun _ => none) [] = fun _ => none := by funext i; simp [wkB, look]
      rw [e] at this; exact this) hsub (evoA_rep hs xs as ((evoA_congr xs h1).trans hx))
  have hcall := hV _ (fun _ _ => False) (fun _ => none) w (xs.map a.eval) (hrep_nil hsz) hargs
  unfold Oper.wp
  have hex : (execOp a.eval ⟨dst, .call { callee := .value (.func f), args := xs.toArray, argTypes := ats }, ty, pos, aft, gd⟩).run G.P w = .ok (.enter f (xs.map a.eval).toArray) w := by
    have := run_callF hcal (xs.map a.eval).toArray w
    simp [execOp, resolve, Deferred.ofValue, invoke, Act.eval, this]
  rw [hex, Oper.upon_enter]
  refine hcall.mono ?_
  rintro e w' ⟨x, rfl, S', O', β', hH', hx', hS1, hS2, hO', _, hfr⟩
  have hfr' : Fr (fun _ => False) w w' := hfr.weaken (fun b ⟨_, hf⟩ => hf)
  have hOf : ∀ k b, O' k b → w.heap.size ≤ b := fun k b hb => by
    rcases hO' k b hb with ⟨_, hf⟩ | hf
    · exact hf.elim
    · exact hf
  have hβ' : ∀ k l, β' k = some l → (match look lv k with | none => β k | some _ => β' k) = some l := by
    intro k l hk
    cases hl : look lv k with
    | none => rw [(hH'.dom k hl).1] at hk; cases hk
    | some o => exact hk
  have fin : ∀ Sn : Nat → Prop, (∀ b, S b → Sn b) → (∀ b, Sn b → (S b ∨ w.heap.size ≤ b) ∧ b < w'.heap.size) → HRep Sn O' β' w' lv → VRep Sn β' w' res x → K (a.put dst x) w' := by
    intro Sn g1 g2 g3 g4
    have hg := hs.merge hfr' g1 g2 g3 hOf hf'
    have := hg.put (g4.mono (fun b hb => ⟨hb, rfl⟩) hβ') (dst := dst) (fun d hd' => by show d < E'.n; rw [hn]; exact hd d hd')
    exact hK _ _ ⟨Sn, fun k b => O k b ∨ O' k b, fun k => match look lv k with | none => β k | some _ => β' k, this⟩
  rcases hsc with rfl | ⟨hsc, hso⟩
  · refine fin S' (fun b hb => hS1 b (.inl hb)) ?_ hH' hx'
    intro b hb
    refine ⟨?_, hH'.sh b hb⟩
    rcases hS2 b hb with (h3 | ⟨k, hk, _⟩) | ⟨_, hf⟩ | h3
    · exact .inl h3
    · exact absurd rfl hk
    · exact hf.elim
    · exact .inr h3
  · have hlt : ∀ b, S b → b < w.heap.size := hs.h.sh
    refine fin S (fun _ hb => hb) (fun b hb => ⟨.inl hb, Nat.lt_of_lt_of_le (hlt b hb) hfr'.size⟩) (hH'.scalS hso fun b hb => ⟨Nat.lt_of_lt_of_le (hlt b hb) hfr'.size, fun k hk => ?_⟩) (hx'.scal3 hsc)
    have := hOf k b hk; have := hlt b hb; omega
end

section
variable {G : Prg} {Γ : Ctx} {ops : Array Oper} {fin : List Lg → Prop} {K : Env → Prop} {os : List Oper} {log : List Lg} {sl : List (Nat × AV)} {ob : List (Nat × AO)} {nn : Nat} {d : Nat} {ty : TypeId} {pos : String} {aft : Array Edge} {gd : Option (Nat × Bool)}
theorem u_callN {f : FuncId} {xs : List Operand} {args as : List AV} {res : AV} {ats : Array TypeId} {k1 : Nat} {o1 : AO} (ob0 : List (Nat × AO)) (hx : evoA (look sl) xs = some as) (hV : VFun G f args [] res [(k1, o1)]) (hsub : F2 (Sub ob0 [] (fun _ => none) (fun k => look ob0 k ≠ none)) args as)
    (hob : ∀ k o, look ob0 k = some o → look ob k = some o) (hsc : ob0 = [] ∨ (scal3 res = true ∧ scalOb [(k1, o1)])) (hk : look ob k1 = none) (hp : k1 ∉ Γ.par) (hd : Nat.blt d nn = true) (hg : GOk ops sl nn gd)
    (kk' : VR G Γ ops fin K os (log ++ [⟨some d, gsl ops gd ++ (xs.flatMap sl1), ob0.map (·.1) ++ [k1], [k1]⟩]) ⟨(d, res) :: sl, (k1, o1) :: ob, nn⟩) :
    VR G Γ ops fin K (⟨some d, .call { callee := .value (.func f), args := xs.toArray, argTypes := ats }, ty, pos, aft, gd⟩ :: os) log ⟨sl, ob, nn⟩ := by
  refine u_op (op_callN (G := G) (Γ := Γ) (E := ⟨sl, ob, nn⟩) (dst := some d) (ty := ty) (pos := pos) (aft := aft) (gd := gd) hV hx hsub hob hsc ?_ (dlt hd)) hg kk'
  intro k hk'
  rw [look_cons] at hk'
  by_cases he : k1 = k
  · subst he; exact ⟨hk, hp⟩
  · rw [if_neg he] at hk'; exact absurd rfl hk'

variable {Q : Exit → Env → Prop} {E : Env}
theorem look_self {α : Type} {k : Nat} {o : α} {l : List (Nat × α)} : look ((k, o) :: l) k = some o := by rw [look_cons, if_pos rfl]

/-- The end of a function that hands out one row, under the name k1. -/
theorem fin1 {rs : List ResultVar} {rv : List AV} {res : AV} {e : Exit} {k1 i1 : Nat} {ty1 : TypeId} {sz : Nat} {xs ys : List (List AV)} (he : e = .normal ∨ e = .ret) (hr : F2 (ResV G E) rs rv) (hk : look E.ob i1 = some (.row ty1 sz ys)) (hxy : ys = xs)
    (hs : Sub E.ob [(k1, .row ty1 sz xs)] (ren [(k1, i1)]) (fzAll (ren [(k1, i1)]) [(k1, .row ty1 sz xs)]) res (resAV rv)) :
    (e = .normal ∨ e = .ret) ∧ ∃ rv ρ, F2 (ResV G E) rs rv ∧ Wk ρ (([] : List (Nat × AO)).map (·.1)) ⟨[(0, resAV rv)], E.ob, 0⟩ ⟨[(0, res)], [(k1, .row ty1 sz xs)], 0⟩ :=
  ⟨he, rv, ren [(k1, i1)], hr, mk_wk [(k1, i1)] rfl rfl ⟨⟨_, rfl, hs⟩, trivial⟩ ⟨.inl ⟨i1, look_self, hxy ▸ hk⟩, trivial⟩ no_par⟩
/-- .. that row being nil. -/
theorem fin1n {rs : List ResultVar} {rv : List AV} {res : AV} {e : Exit} {k1 : Nat} {ty1 : TypeId} {sz : Nat} {xs : List (List AV)} (he : e = .normal ∨ e = .ret) (hr : F2 (ResV G E) rs rv) (hxy : xs = [])
    (hs : Sub E.ob [(k1, .row ty1 sz xs)] (ren []) (fzAll (ren []) [(k1, .row ty1 sz xs)]) res (resAV rv)) :
    (e = .normal ∨ e = .ret) ∧ ∃ rv ρ, F2 (ResV G E) rs rv ∧ Wk ρ (([] : List (Nat × AO)).map (·.1)) ⟨[(0, resAV rv)], E.ob, 0⟩ ⟨[(0, res)], [(k1, .row ty1 sz xs)], 0⟩ :=
  ⟨he, rv, ren [], hr, mk_wk [] rfl rfl ⟨⟨_, rfl, hs⟩, trivial⟩ ⟨.inr (.inl ⟨rfl, hxy⟩), trivial⟩ no_par⟩
theorem subRow {ob : List (Nat × AO)} {k1 i1 : Nat} {o : AO} {fz : Nat → Prop} : Sub ob [(k1, o)] (ren [(k1, i1)]) fz (.row k1) (.row i1) := .row k1 i1 look_self (by rw [look_self]; simp)
theorem subRowN {ob : List (Nat × AO)} {k1 : Nat} {e : TypeId} {sz : Nat} {xs : List (List AV)} {fz : Nat → Prop} : Sub ob [(k1, .row e sz xs)] (ren []) fz (.row k1) (.lit (.slice none 0 0)) := .nilrow _ _ _ _ rfl look_self
end

theorem scal_bytes (bs : List UInt8) : scalR (byteCells bs) := by
  intro x hx c hc
  obtain ⟨b, _, rfl⟩ := List.mem_map.1 hx
  simp at hc; subst hc; rfl
theorem scal_ints (l : List Int) : scalR (intCells l) := by
  intro x hx c hc
  obtain ⟨b, _, rfl⟩ := List.mem_map.1 hx
  simp at hc; subst hc; rfl
end Go.Vc

/-! Bytes: more of what is done with them. -/
set_option linter.unusedVariables false
set_option linter.unusedSimpArgs false
namespace Go.Vc
open Go Go.RowKit

section
variable {G : Prg} {Γ : Ctx} {E : Env} {dst : Option Tmp} {ty : TypeId} {pos : String} {aft : Array Edge} {gd : Option (Nat × Bool)}
theorem op_convTR {s t e e' : TypeId} {x : Operand} {k : Nat} {bs : List UInt8} {ys : List (List AV)} (hx : evo (look E.sl) x = some (.row k)) (hk : look E.ob k = some (.row e' 1 ys)) (hy : ys = byteCells bs) (hs' : G.T.kind s = .slice e) (he : G.T.kind e = .int .u8) (ht : G.T.kind t = .str) (hd : ∀ d, dst = some d → d < E.n) :
    OpS G Γ ⟨dst, .convert s t x, ty, pos, aft, gd⟩ E (.lit (.string ⟨bs.toArray⟩)) [] (sl1 x) [k] :=
  OpS.val hd fun E' hn h1 h2 S O β a w hs => by
    subst hy
    have hv := hs.ev ((evo_congr h1).trans hx)
    obtain ⟨l, hl, hxe0⟩ := hv.row_inv
    have hsh : VRep (wkS S O (fun j => j = k)) β w (.shr 1 (byteCells bs)) (a.eval x) := by
      rw [hxe0]; exact .pure _ _ (frozen_row (fz := fun j => j = k) hs.h ((h2 k (by simp)).trans hk) rfl hl)
    refine ⟨.string ⟨bs.toArray⟩, ?_, .pure _ _ (.lit _ rfl)⟩
    rcases hsh.shr_inv with ⟨hxe, hnil⟩ | ⟨p, hxe, hnil⟩ | ⟨b, off, cap, f, hxe, hb, hcap, hm, hl, hc, hp⟩
    · have hbs : bs = [] := by simpa [byteCells] using hnil
      subst hbs
      have := run_convert_bytes_string (P := G.P) w s t e none 0 0 (underlying_slice G.ok hs') (underlying_int G.ok he) (underlying_str G.ok ht)
      simp only [execOp, hxe, Sem.run_bind, this]
      rfl
    · have hbs : bs = [] := by simpa [byteCells] using hnil
      subst hbs
      have := run_convert_bytes_string (P := G.P) w s t e (some p) 0 0 (underlying_slice G.ok hs') (underlying_int G.ok he) (underlying_str G.ok ht)
      simp only [execOp, hxe, Sem.run_bind, this]
      rfl
    · have hlen : (byteCells bs).length = bs.length := by simp [byteCells]
      have hf : ∀ (i : Nat) (u : UInt8), bs[i]? = some u → w.cell? ⟨b, off + i, none⟩ = some (.int .u8 (u.toNat : Int)) := by
        intro i u hu
        have hu' : (byteCells bs)[i]? = some [.lit (.int .u8 u.toNat)] := by simp [byteCells, hu]
        have h3 := hc i _ 0 _ hu' rfl
        have h4 := hp i _ 0 _ hu' rfl
        generalize f i 0 = y at h3 h4
        cases h4 with
        | lit _ _ => simpa using h3
      have hL := run_loadCells_list (P := G.P) w ⟨b, off, none⟩ (bs.map fun u => (Value.int .u8 (u.toNat : Int))) (fun j v hj => by
        rw [add_none]
        rw [List.getElem?_map] at hj
        cases hq : bs[j]? with
        | none => rw [hq] at hj; cases hj
        | some u => rw [hq] at hj; simp at hj; subst hj; exact hf j u hq)
      have hb2 := run_bytesToString (P := G.P) w ⟨b, off, none⟩ bs.length cap (bs.map fun u => ((u.toNat : Nat) : Int)) (by rw [List.map_map]; rw [List.length_map] at hL; exact hL)
      have := run_convert_bytes_string (P := G.P) w s t e (some ⟨b, off, none⟩) bs.length cap (underlying_slice G.ok hs') (underlying_int G.ok he) (underlying_str G.ok ht)
      rw [foldl_push] at hb2
      have e0 : (ByteArray.empty.data.toList ++ bs).toArray = bs.toArray := by
        have : ByteArray.empty.data.toList = [] := rfl
        rw [this, List.nil_append]
      rw [e0] at hb2
      simp only [execOp, hxe, hlen, Sem.run_bind, this, hb2, Result.andThen_ok]
      rfl
end

section
variable {G : Prg} {Γ : Ctx} {ops : Array Oper} {fin : List Lg → Prop} {K : Env → Prop} {os : List Oper} {log : List Lg} {sl : List (Nat × AV)} {ob : List (Nat × AO)} {nn : Nat} {d : Nat} {ty : TypeId} {pos : String} {aft : Array Edge} {gd : Option (Nat × Bool)}
theorem u_convTR {s t e e' : TypeId} {x : Operand} {k : Nat} {bs : List UInt8} {ys : List (List AV)} (hx : evo (look sl) x = some (.row k)) (hk : look ob k = some (.row e' 1 ys)) (hy : ys = byteCells bs) (hs' : G.T.kind s = .slice e) (he : G.T.kind e = .int .u8) (ht : G.T.kind t = .str) (hd : Nat.blt d nn = true) (hg : GOk ops sl nn gd)
    (kk' : VR G Γ ops fin K os (log ++ [⟨some d, gsl ops gd ++ (sl1 x), [k], []⟩]) ⟨(d, .lit (.string ⟨bs.toArray⟩)) :: sl, ob, nn⟩) : VR G Γ ops fin K (⟨some d, .convert s t x, ty, pos, aft, gd⟩ :: os) log ⟨sl, ob, nn⟩ :=
  u_op (op_convTR (G := G) (Γ := Γ) (E := ⟨sl, ob, nn⟩) (dst := some d) (ty := ty) (pos := pos) (aft := aft) (gd := gd) hx hk hy hs' he ht (dlt hd)) hg kk'
theorem u_convUp {s d' : TypeId} {x : Operand} {n : Int} (hx : evo (look sl) x = some (.lit (.int .u8 n))) (hr : inI n) (hs : (G.T.kind s).known = true) (hk : G.T.kind d' = .int .i64) (hd : Nat.blt d nn = true) (hg : GOk ops sl nn gd)
    (kk' : VR G Γ ops fin K os (log ++ [⟨some d, gsl ops gd ++ (sl1 x), [], []⟩]) ⟨(d, .lit (.int .i64 n)) :: sl, ob, nn⟩) : VR G Γ ops fin K (⟨some d, .convert s d' x, ty, pos, aft, gd⟩ :: os) log ⟨sl, ob, nn⟩ := by
  refine u_convI hx hs hk hd hg ?_
  rw [wrap_inI hr]; exact kk'
theorem u_convB {s d' : TypeId} {x : Operand} {n : Int} (hx : evo (look sl) x = some (.lit (.int .i64 n))) (hs : (G.T.kind s).known = true) (hk : G.T.kind d' = .int .u8) (hd : Nat.blt d nn = true) (hg : GOk ops sl nn gd)
    (kk' : VR G Γ ops fin K os (log ++ [⟨some d, gsl ops gd ++ (sl1 x), [], []⟩]) ⟨(d, .lit (.int .u8 (n % 256))) :: sl, ob, nn⟩) : VR G Γ ops fin K (⟨some d, .convert s d' x, ty, pos, aft, gd⟩ :: os) log ⟨sl, ob, nn⟩ := by
  refine u_convI hx hs hk hd hg ?_
  rw [show IntKind.u8.wrap n = n % 256 by rw [IntKind.wrap_u8]]; exact kk'
theorem u_shr8 {t yt : TypeId} {x y : Operand} {yk : IntKind} {m : Int} (hx : evo (look sl) x = some (.lit (.int .i64 m))) (hy : evo (look sl) y = some (.lit (.int yk 8))) (hd : Nat.blt d nn = true) (hg : GOk ops sl nn gd)
    (kk' : VR G Γ ops fin K os (log ++ [⟨some d, gsl ops gd ++ (sl1 x ++ sl1 y), [], []⟩]) ⟨(d, .lit (.int .i64 (m / 256))) :: sl, ob, nn⟩) : VR G Γ ops fin K (⟨some d, .binOp .shr t x y yt, ty, pos, aft, gd⟩ :: os) log ⟨sl, ob, nn⟩ := by
  refine u_shr hx hy (by decide) hd hg ?_
  rw [show (2 : Int) ^ (min (8 : Int).toNat IntKind.i64.bits) = 256 by decide, Int.fdiv_eq_ediv_of_nonneg m (by decide)]; exact kk'
theorem u_sliceHi {t e : TypeId} {x y : Operand} {sz : Nat} {z : Int} {xs : List (List AV)} (h : Nat) (hx : evo (look sl) x = some (.shr sz xs)) (hy : evo (look sl) y = some (.lit (.int .i64 z))) (hz : z = h) (hh : h ≤ xs.length) (ht : G.T.kind t = .slice e) (he : (G.T.kind e).known = true) (hsz : G.T.size e = sz) (hd : Nat.blt d nn = true) (hg : GOk ops sl nn gd)
    (kk' : VR G Γ ops fin K os (log ++ [⟨some d, gsl ops gd ++ (sl1 x ++ slO none ++ slO (some y)), [], []⟩]) ⟨(d, .shr sz (xs.take h)) :: sl, ob, nn⟩) : VR G Γ ops fin K (⟨some d, .slice t x none (some y) none, ty, pos, aft, gd⟩ :: os) log ⟨sl, ob, nn⟩ := by
  subst hz
  exact u_slice (lo := none) (hi := some y) (l := 0) hx rfl hy (Nat.zero_le _) hh ht he hsz hd hg kk'
theorem u_sliceLo {t e : TypeId} {x y : Operand} {sz : Nat} {z : Int} {xs : List (List AV)} (h : Nat) (hx : evo (look sl) x = some (.shr sz xs)) (hy : evo (look sl) y = some (.lit (.int .i64 z))) (hz : z = h) (hh : h ≤ xs.length) (ht : G.T.kind t = .slice e) (he : (G.T.kind e).known = true) (hsz : G.T.size e = sz) (hd : Nat.blt d nn = true) (hg : GOk ops sl nn gd)
    (kk' : VR G Γ ops fin K os (log ++ [⟨some d, gsl ops gd ++ (sl1 x ++ slO (some y) ++ slO none), [], []⟩]) ⟨(d, .shr sz (xs.drop h)) :: sl, ob, nn⟩) : VR G Γ ops fin K (⟨some d, .slice t x (some y) none none, ty, pos, aft, gd⟩ :: os) log ⟨sl, ob, nn⟩ := by
  subst hz
  refine u_slice (lo := some y) (hi := none) (l := h) (h := xs.length) hx hy rfl hh (Nat.le_refl _) ht he hsz hd hg ?_
  rw [List.take_length]; exact kk'
theorem u_storeRowE {t e : TypeId} {x y : Operand} {k sz i j : Nat} {xs ys : List (List AV)} {u : List AV} {v : AV} (hx : evo (look sl) x = some (.rptr k sz i j)) (hy : evo (look sl) y = some v) (hk : look ob k = some (.row e sz xs)) (hu : xs[i]? = some u) (hb : boxable v = true) (hP : ∀ c ∈ cellsOf v, isP c = true) (hl : (cellsOf v).length = G.T.size t) (ho : Nat.ble (j + (cellsOf v).length) sz = true) (hkn : (G.T.kind t).known = true)
    (he : xs.set i (wrA u j (cellsOf v)) = ys) (hg : GOk ops sl nn gd)
    (kk' : VR G Γ ops fin K os (log ++ [⟨none, gsl ops gd ++ (sl1 x ++ sl1 y), [k], [k]⟩]) ⟨sl, (k, .row e sz ys) :: ob, nn⟩) : VR G Γ ops fin K (⟨none, .store t x y, ty, pos, aft, gd⟩ :: os) log ⟨sl, ob, nn⟩ := by
  subst he
  exact u_storeRow hx hy hk hu hb hP hl ho hkn hg kk'
end

theorem byteCells_length (bs : List UInt8) : (byteCells bs).length = bs.length := by simp [byteCells]
theorem byteCells_append (a b : List UInt8) : byteCells (a ++ b) = byteCells a ++ byteCells b := by simp [byteCells]
theorem byteCells_take (n : Nat) (a : List UInt8) : (byteCells a).take n = byteCells (a.take n) := by simp [byteCells]
theorem byteCells_drop (n : Nat) (a : List UInt8) : (byteCells a).drop n = byteCells (a.drop n) := by simp [byteCells]
theorem byteCells_get {bs : List UInt8} {i : Nat} (h : i < bs.length) : (byteCells bs)[i]? = some [.lit (.int .u8 (bs[i]'h).toNat)] := by simp [byteCells, h]
theorem byteCells_set (bs : List UInt8) (i : Nat) (b : UInt8) : (byteCells bs).set i [.lit (.int .u8 b.toNat)] = byteCells (bs.set i b) := by
  simp [byteCells, List.map_set]
/-- The byte of a number. -/
def u8 (z : Int) : UInt8 := UInt8.ofNat (z % 256).toNat
theorem u8_toNat (z : Int) : ((u8 z).toNat : Int) = z % 256 := by
  unfold u8
  have h : (z % 256).toNat < 256 := by omega
  rw [UInt8.toNat_ofNat_of_lt' (by simpa using h)]
  omega
theorem u8_cell (z : Int) : [[AV.lit (.int .u8 (z % 256))]] = byteCells [u8 z] := by
  simp [byteCells, u8_toNat]

theorem bytesT (l : List UInt8) : (ByteArray.mk l.toArray).toList = l := by
  simp [ByteArray.toList_eq]

/-- A contract says less of its result. -/
theorem VFun.resWk {G : Prg} {f : FuncId} {args : List AV} {res res2 : AV} {ob1 ob2 : List (Nat × AO)} (h : VFun G f args [] res ob1) (ρ : Nat → Option Nat) (hk : Wk ρ [] ⟨[(0, res)], ob1, 0⟩ ⟨[(0, res2)], ob2, 0⟩) : VFun G f args [] res2 ob2 := by
  refine ⟨h.1, fun S O β w vs hH hA => (h.2 S O β w vs hH hA).mono ?_⟩
  rintro e w' ⟨x, rfl, S', O', β', hH', hx', hS1, hS2, hO', hb, hfr⟩
  obtain ⟨v, hv, hsub⟩ := hk.sl 0 res2 (by rw [look_cons, if_pos rfl])
  have hv' : v = res := by
    have : look [(0, res)] 0 = some v := hv
    rw [look_cons, if_pos rfl] at this; cases this; rfl
  subst hv'
  refine ⟨x, rfl, _, _, _, hH'.wk hk.inj (fun i j hi hj hf => hf i hi hj) hk.ob, hx'.wk hH' hsub, fun b hb => .inl (hS1 b hb), ?_, ?_, fun k hk => absurd rfl hk, hfr⟩
  · rintro b (hb | ⟨k, _, hb⟩)
    · exact hS2 b hb
    · rcases hO' k b hb with h1 | h1
      · exact .inr (.inl h1)
      · exact .inr (.inr h1)
  · rintro i b ⟨_, k, _, hb⟩
    exact hO' k b hb

/-- A row handed out is only read. -/
theorem VFun.read {G : Prg} {f : FuncId} {args : List AV} {k : Nat} {e : TypeId} {sz : Nat} {xs : List (List AV)} (h : VFun G f args [] (.row k) [(k, .row e sz xs)]) : VFun G f args [] (.shr sz xs) [] :=
  h.resWk (ren []) (mk_wk [] rfl rfl ⟨⟨_, rfl, .frz _ _ _ _ look_self (fzL rfl)⟩, trivial⟩ trivial no_par)
end Go.Vc

/-! The conversion of bytes to bytes: the row is marked, and from then on only read. -/
set_option linter.unusedVariables false
set_option linter.unusedSimpArgs false
namespace Go.Vc
open Go Go.RowKit

theorem freeze_at {w : World} {b k : Nat} {C : Array Value} {e : TypeId} (h : w.heap[b]? = some (.cells C e (0, 0))) :
    ∃ w', w.freeze ⟨b, k, none⟩ 1 = w' ∧ w'.os = w.os ∧ w'.tape = w.tape ∧ w'.output = w.output ∧ w'.heap.size = w.heap.size ∧ (∀ c, c ≠ b → w'.heap[c]? = w.heap[c]?) ∧ w'.heap[b]? = some (.cells C e (k, k + 1)) := by
  refine ⟨_, rfl, ?_⟩
  unfold World.freeze
  rw [if_neg (by decide)]
  refine ⟨rfl, rfl, rfl, by simp, fun c hc => ?_, ?_⟩
  · simp [Array.getElem?_modify, Ne.symm hc]
  · simp [Array.getElem?_modify, h]

section
variable {G : Prg} {Γ : Ctx} {E : Env} {dst : Option Tmp} {ty : TypeId} {pos : String} {aft : Array Edge} {gd : Option (Nat × Bool)}
theorem op_mark {t e e' : TypeId} {x : Operand} {k sz : Nat} {y : List AV} {ys : List (List AV)} (hx : evo (look E.sl) x = some (.row k)) (hk : look E.ob k = some (.row e' sz (y :: ys))) (hp : k ∉ Γ.par) (ht : G.T.kind t = .slice e) (he : G.T.kind e = .int .u8) (hd : ∀ d, dst = some d → d < E.n) :
    OpS G Γ ⟨dst, .convert t t x, ty, pos, aft, gd⟩ E (.shr sz (y :: ys)) [(k, .dead)] (sl1 x) [k] :=
  OpS.turns hd fun E' hn h1 h2 S O β a w hs => by
    have hk' := (h2 k (by simp)).trans hk
    obtain ⟨l, hl, hxe⟩ := (hs.ev ((evo_congr h1).trans hx)).row_inv
    obtain ⟨h0, hm, hr⟩ := hs.h.objs k _ hk'
    rcases hr with ⟨_, hnil⟩ | ⟨b, cap, vs, g1, g2, g3, g4, g5, g6, g7⟩
    · cases hnil
    rw [hl] at g1; cases g1
    obtain ⟨w', hw', w1, w2, w3, w4, w5, w6⟩ := freeze_at (k := vs.toArray.size) g3
    have hsh : w.shape? b = some (e', vs.toArray.size) := by unfold World.shape?; rw [g3]
    have hfr : Fr (fun c => c = b) w w' := ⟨w1, w2, w3, by omega, fun c _ hc => w5 c hc⟩
    have hrun : (execOp a.eval ⟨dst, .convert t t x, ty, pos, aft, gd⟩).run G.P w = .ok (.value (Loc.at b cap (y :: ys).length).slice) w' := by
      rw [← hw']
      simp [execOp, hxe, Loc.slice, convert, run_underlying (underlying_slice G.ok ht), run_underlying (underlying_int G.ok he), markStringish, hsh]
    have hS : ∀ c, S c → (S c ∨ c = b) ∧ w'.heap[c]? = w.heap[c]? := fun c hc => ⟨.inl hc, w5 c (fun e => (hs.h.ow k b g2).2 (e ▸ hc))⟩
    have hO : ∀ j c, O j c → j ≠ k → c ≠ b := fun j c hc hj e => hj (hs.h.dj j k b (e ▸ hc) g2)
    have hrow : ∀ i, w'.cell? ⟨b, i, none⟩ = vs[i]? := fun i => by
      rw [cell_of_row w' b _ _ e' _ w6]; simp
    refine ⟨_, w', fun c => S c ∨ c = b, fun j c => O j c ∧ j ≠ k, β, .inl hrun, ?_, ?_⟩
    · refine .pure _ _ ?_
      refine .shr sz (y :: ys) b 0 cap (fun i j => vs.getD (i * sz + j) undef) (.inr rfl) g4 hm h0 (fun i u j c hu hc => ?_) (fun i u j c hu hc => ?_)
      · obtain ⟨v, hv, _⟩ := g7 i u j c hu hc
        rw [Nat.zero_add, hrow]
        simp [List.getD, hv]
      · obtain ⟨v, hv, hpv⟩ := g7 i u j c hu hc
        have : vs.getD (i * sz + j) undef = v := by simp [List.getD, hv]
        rw [this]
        exact hpv.mono hS
    · refine ⟨⟨?_, ?_, fun j j' c hc hc' => hs.h.dj j j' c hc.1 hc'.1, ?_, ?_⟩, ?_, hs.n, hs.df, fun c hc => .inl (hs.s0 c hc), ?_, fun j c hc => hs.o1 j c hc.1, ?_, ?_⟩
      · rintro c (hc | rfl)
        · rw [w4]; exact hs.h.sh c hc
        · rw [w4]; exact (hs.h.ow k _ g2).1
      · rintro j c ⟨hc, hj⟩
        refine ⟨by rw [w4]; exact (hs.h.ow j c hc).1, ?_⟩
        rintro (hsc | rfl)
        · exact (hs.h.ow j c hc).2 hsc
        · exact hO j _ hc hj rfl
      · intro j hj
        have hj' : look ((k, AO.dead) :: E'.ob) j = none := hj
        rw [look_cons] at hj'
        by_cases hkj : k = j
        · rw [if_pos hkj] at hj'; cases hj'
        · rw [if_neg hkj] at hj'
          have := hs.h.dom j hj'
          exact ⟨this.1, fun c hc => this.2 c hc.1⟩
      · intro j o hj
        have hj' : look ((k, AO.dead) :: E'.ob) j = some o := hj
        rw [look_cons] at hj'
        by_cases hkj : k = j
        · rw [if_pos hkj] at hj'; cases hj'; subst hkj; exact ⟨_, hl⟩
        · rw [if_neg hkj] at hj'
          exact (hs.h.objs j o hj').mono hS (fun _ _ h => h) fun c hc => ⟨⟨hc, Ne.symm hkj⟩, w5 c (hO j c hc (Ne.symm hkj))⟩
      · intro s v hv
        exact (hs.sl s v hv).mono hS fun _ _ h => h
      · rintro c (hc | rfl)
        · exact hs.s1 c hc
        · rcases hs.o1 k _ g2 with h3 | h3
          · exact .inr (.inl h3)
          · exact .inr (.inr h3)
      · intro j hj hn'
        refine hs.b0 j hj fun e => hn' ?_
        have hkj : k ≠ j := fun e => hp (e ▸ hj)
        show look ((k, AO.dead) :: E'.ob) j = none
        rw [look_cons, if_neg hkj]; exact e
      · exact hs.fr.trans hfr fun c hc => by subst hc; exact hs.o1 k c g2
end

section
variable {G : Prg} {Γ : Ctx} {ops : Array Oper} {fin : List Lg → Prop} {K : Env → Prop} {os : List Oper} {log : List Lg} {sl : List (Nat × AV)} {ob : List (Nat × AO)} {nn : Nat} {d : Nat} {ty : TypeId} {pos : String} {aft : Array Edge} {gd : Option (Nat × Bool)}
theorem u_mark {t e e' : TypeId} {x : Operand} {k sz : Nat} {y : List AV} {ys : List (List AV)} (hx : evo (look sl) x = some (.row k)) (hk : look ob k = some (.row e' sz (y :: ys))) (hp : k ∉ Γ.par) (ht : G.T.kind t = .slice e) (he : G.T.kind e = .int .u8) (hd : Nat.blt d nn = true) (hg : GOk ops sl nn gd)
    (kk' : VR G Γ ops fin K os (log ++ [⟨some d, gsl ops gd ++ (sl1 x), [k], [k]⟩]) ⟨(d, .shr sz (y :: ys)) :: sl, (k, .dead) :: ob, nn⟩) : VR G Γ ops fin K (⟨some d, .convert t t x, ty, pos, aft, gd⟩ :: os) log ⟨sl, ob, nn⟩ :=
  u_op (op_mark (G := G) (Γ := Γ) (E := ⟨sl, ob, nn⟩) (dst := some d) (ty := ty) (pos := pos) (aft := aft) (gd := gd) hx hk hp ht he (dlt hd)) hg kk'
theorem s_move {x : Operand} {b : Bool} (hx : evo (look sl) x = some (.lit (.bool b))) (hd : Nat.blt d nn = true) (hg : GOk ops sl nn gd) (hT : b = true → VR G Γ ops fin K os (log ++ [⟨some d, gsl ops gd ++ (sl1 x), [], []⟩]) ⟨(d, .lit (.bool true)) :: sl, ob, nn⟩)
    (hF : b = false → VR G Γ ops fin K os (log ++ [⟨some d, gsl ops gd ++ (sl1 x), [], []⟩]) ⟨(d, .lit (.bool false)) :: sl, ob, nn⟩) : VR G Γ ops fin K (⟨some d, .move x, ty, pos, aft, gd⟩ :: os) log ⟨sl, ob, nn⟩ := by
  refine u_move hx hd hg ?_
  cases b
  · exact hF rfl
  · exact hT rfl
end

/-- No slice has more elements than any has. -/
theorem vw_len {G : Prg} {Γ : Ctx} {c : Code} {Q : Exit → Env → Prop} {E : Env} {t sz : Nat} {xs : List (List AV)} (ht : look E.sl t = some (.shr sz xs)) (h : xs.length ≤ 140737488355328 → VW G Γ c Q E) : VW G Γ c Q E := by
  intro a w hs
  obtain ⟨S, O, β, h'⟩ := hs
  refine h ?_ a w ⟨S, O, β, h'⟩
  rcases (h'.sl t _ ht).shr_inv with ⟨_, rfl⟩ | ⟨_, _, rfl⟩ | ⟨b, off, cap, f, hxe, hb, hcap, hm, hl, hc, hp⟩
  · exact Nat.zero_le _
  · exact Nat.zero_le _
  · exact hm
theorem vw_lenA {G : Prg} {Γ : Ctx} {c : Code} {Q : Exit → Env → Prop} {E : Env} {t sz j : Nat} {cs : List AV} {xs : List (List AV)} (ht : look E.sl t = some (.agg cs)) (hj : cs[j]? = some (.shr sz xs)) (h : xs.length ≤ 140737488355328 → VW G Γ c Q E) : VW G Γ c Q E := by
  intro a w hs
  obtain ⟨S, O, β, h'⟩ := hs
  refine h ?_ a w ⟨S, O, β, h'⟩
  obtain ⟨vs, _, hl, hr, _⟩ := (h'.sl t _ ht).agg_inv
  have hlt : j < vs.length := by rw [hl]; exact (List.getElem?_eq_some_iff.1 hj).1
  rcases (hr j _ _ hj (List.getElem?_eq_getElem hlt)).shr_inv with ⟨_, rfl⟩ | ⟨_, _, rfl⟩ | ⟨b, off, cap, f, hxe, hb, hcap, hm, hl, hc, hp⟩
  · exact Nat.zero_le _
  · exact Nat.zero_le _
  · exact hm
end Go.Vc

/-! Slices that may be nil: asked, and appended. -/
set_option linter.unusedVariables false
set_option linter.unusedSimpArgs false
namespace Go.Vc
open Go Go.RowKit

section
variable {G : Prg} {Γ : Ctx} {E : Env} {dst : Option Tmp} {ty : TypeId} {pos : String} {aft : Array Edge} {gd : Option (Nat × Bool)}
theorem op_eqlNil {t e yt : TypeId} {x y : Operand} {p : Option Addr} {n c : Nat} (hx : evo (look E.sl) x = some (.lit (.slice p n c))) (hy : evo (look E.sl) y = some (.lit (.slice none 0 0))) (ht : G.T.kind t = .slice e) (hd : ∀ d, dst = some d → d < E.n) :
    OpS G Γ ⟨dst, .binOp .eql t x y yt, ty, pos, aft, gd⟩ E (.lit (.bool p.isNone)) [] (sl1 x ++ sl1 y) [] :=
  op_bin hx hy (fun w => by simp [eqGuard_at_slice, binOp, run_equal_slice_nil w t e p n c (underlying_slice G.ok ht)]) rfl hd
theorem op_eqlNilC {t e yt : TypeId} {x y : Operand} {sz : Nat} {u : List AV} {us : List (List AV)} (hx : evo (look E.sl) x = some (.shr sz (u :: us))) (hy : evo (look E.sl) y = some (.lit (.slice none 0 0))) (ht : G.T.kind t = .slice e) (hd : ∀ d, dst = some d → d < E.n) :
    OpS G Γ ⟨dst, .binOp .eql t x y yt, ty, pos, aft, gd⟩ E (.lit (.bool false)) [] (sl1 x ++ sl1 y) [] :=
  OpS.val hd fun E' hn h1 h2 S O β a w hs => by
    have hye := hs.lit ((evo_congr fun t ht => h1 t (by simp [ht])).trans hy)
    rcases (hs.ev ((evo_congr fun t ht => h1 t (by simp [ht])).trans hx)).shr_inv with ⟨_, hnil⟩ | ⟨_, _, hnil⟩ | ⟨b, off, cap, f, hxe, _⟩
    · cases hnil
    · cases hnil
    · refine ⟨.bool false, ?_, .pure _ _ (.lit _ rfl)⟩
      have := run_equal_slice_nil w t e (some ⟨b, off, none⟩) (u :: us).length cap (underlying_slice G.ok ht)
      simp only [List.length_cons] at this hxe
      simp [execOp, hxe, hye, eqGuard_at_slice, binOp, this]
theorem op_append0 {t e : TypeId} {x y : Operand} {k d sz cap : Nat} {p : Addr} {xs : List (List AV)} (hx : evo (look E.sl) x = some (.row k)) (hy : evo (look E.sl) y = some (.lit (.slice (some p) 0 cap))) (hk : look E.ob k = some (.row e sz xs)) (hd' : look E.ob d = none) (hp : d ∉ Γ.par)
    (ht : G.T.kind t = .slice e) (he : (G.T.kind e).known = true) (hsz : G.T.size e = sz) (h0 : 0 < sz) (hsmall : xs.length * G.T.bytes e ≤ 140737488355328) (hb : 0 < G.T.bytes e) (hd : ∀ d, dst = some d → d < E.n) :
    OpS G Γ ⟨dst, .call { callee := .builtin .append, args := #[x, y], argTypes := #[t, t] }, ty, pos, aft, gd⟩ E (.row d) [(d, .row e sz xs), (k, .dead)] (sl1 x ++ sl1 y) ([k, d]) :=
  OpS.turns hd fun E' hn h1 h2 S O β a w hs => by
    have hk' := (h2 k (by simp)).trans hk
    have hdn := (h2 d (by simp)).trans hd'
    obtain ⟨l, hl, hxe⟩ := (hs.ev ((evo_congr fun t ht => h1 t (by simp [ht])).trans hx)).row_inv
    have hye := hs.lit ((evo_congr fun t ht => h1 t (by simp [ht])).trans hy)
    have hz : Src S w (a.eval y) sz [] [] := ⟨by simp, by simp, by simp, by simp, .inr (.inl ⟨p, cap, hye, rfl⟩)⟩
    have hsm : xs.length + ([] : List (List AV)).length ≤ maxSl := by
      have : xs.length ≤ xs.length * G.T.bytes e := Nat.le_mul_of_pos_right _ hb
      simp only [maxSl, List.length_nil]; omega
    obtain ⟨l', w', N, hrun, hfr, hN, ho⟩ := run_app hs hk' hdn ht he hsz h0 (by simpa using hsmall) hsm hl hz ty
    rw [List.append_nil] at ho
    refine ⟨l'.slice, w', S, _, _, .inl ?_, .row d l' (addB_same _ _ _), hs.rebind hk' hdn hp hfr hN l' _ ho⟩
    simp [execOp, resolve, invoke, builtin, hxe, hrun]
end

section
variable {G : Prg} {Γ : Ctx} {ops : Array Oper} {fin : List Lg → Prop} {K : Env → Prop} {os : List Oper} {log : List Lg} {sl : List (Nat × AV)} {ob : List (Nat × AO)} {nn : Nat} {d : Nat} {ty : TypeId} {pos : String} {aft : Array Edge} {gd : Option (Nat × Bool)}
theorem u_eqlNil {t e yt : TypeId} {x y : Operand} {p : Option Addr} {n c : Nat} (hx : evo (look sl) x = some (.lit (.slice p n c))) (hy : evo (look sl) y = some (.lit (.slice none 0 0))) (ht : G.T.kind t = .slice e) (hd : Nat.blt d nn = true) (hg : GOk ops sl nn gd)
    (kk' : VR G Γ ops fin K os (log ++ [⟨some d, gsl ops gd ++ (sl1 x ++ sl1 y), [], []⟩]) ⟨(d, .lit (.bool p.isNone)) :: sl, ob, nn⟩) : VR G Γ ops fin K (⟨some d, .binOp .eql t x y yt, ty, pos, aft, gd⟩ :: os) log ⟨sl, ob, nn⟩ :=
  u_op (op_eqlNil (G := G) (Γ := Γ) (E := ⟨sl, ob, nn⟩) (dst := some d) (ty := ty) (pos := pos) (aft := aft) (gd := gd) hx hy ht (dlt hd)) hg kk'
theorem u_eqlNilC {t e yt : TypeId} {x y : Operand} {sz : Nat} {u : List AV} {us : List (List AV)} (hx : evo (look sl) x = some (.shr sz (u :: us))) (hy : evo (look sl) y = some (.lit (.slice none 0 0))) (ht : G.T.kind t = .slice e) (hd : Nat.blt d nn = true) (hg : GOk ops sl nn gd)
    (kk' : VR G Γ ops fin K os (log ++ [⟨some d, gsl ops gd ++ (sl1 x ++ sl1 y), [], []⟩]) ⟨(d, .lit (.bool false)) :: sl, ob, nn⟩) : VR G Γ ops fin K (⟨some d, .binOp .eql t x y yt, ty, pos, aft, gd⟩ :: os) log ⟨sl, ob, nn⟩ :=
  u_op (op_eqlNilC (G := G) (Γ := Γ) (E := ⟨sl, ob, nn⟩) (dst := some d) (ty := ty) (pos := pos) (aft := aft) (gd := gd) hx hy ht (dlt hd)) hg kk'
theorem u_append0 {t e : TypeId} {x y : Operand} {k sz m B cap : Nat} {p : Addr} (dk : Nat) {xs : List (List AV)} (hx : evo (look sl) x = some (.row k)) (hy : evo (look sl) y = some (.lit (.slice (some p) 0 cap))) (hk : look ob k = some (.row e sz xs)) (hd' : look ob dk = none) (hp : dk ∉ Γ.par) (ht : G.T.kind t = .slice e) (he : (G.T.kind e).known = true) (hsz : G.T.size e = sz) (h0 : sz = m + 1) (hB : G.T.bytes e = B + 1) (hsm : xs.length * (B + 1) ≤ 140737488355328) (hd : Nat.blt d nn = true) (hg : GOk ops sl nn gd)
    (kk' : VR G Γ ops fin K os (log ++ [⟨some d, gsl ops gd ++ (sl1 x ++ sl1 y), [k, dk], [dk, k]⟩]) ⟨(d, .row dk) :: sl, (dk, .row e sz xs) :: (k, .dead) :: ob, nn⟩) : VR G Γ ops fin K (⟨some d, .call { callee := .builtin .append, args := #[x, y], argTypes := #[t, t] }, ty, pos, aft, gd⟩ :: os) log ⟨sl, ob, nn⟩ :=
  u_op (op_append0 (G := G) (Γ := Γ) (E := ⟨sl, ob, nn⟩) (dst := some d) (ty := ty) (pos := pos) (aft := aft) (gd := gd) hx hy hk hd' hp ht he hsz (by omega) (by rw [hB]; exact hsm) (by omega) (dlt hd)) hg kk'
end

/-- A contract for a slice that may be nil, out of three. -/
theorem VFun.nilcase {G : Prg} {f : FuncId} {sz : Nat} {xs : List (List AV)} {res : AV} {ob1 : List (Nat × AO)} (h1 : xs = [] → VFun G f [.lit (.slice none 0 0)] [] res ob1) (h2 : ∀ u us, xs = u :: us → VFun G f [.shr sz (u :: us)] [] res ob1)
    (h3 : xs = [] → ∀ (p : Addr) (cap : Nat), VFun G f [.lit (.slice (some p) 0 cap)] [] res ob1) : VFun G f [.shr sz xs] [] res ob1 := by
  have hcal : ∃ fn, G.P.funcs[f]? = some fn ∧ (fn.name == "runtime.NumGoroutine") = false ∧ fn.body.isNone = false := by
    cases xs with
    | nil => exact (h1 rfl).1
    | cons u us => exact (h2 u us rfl).1
  refine ⟨hcal, fun S O β w vs hH hA => ?_⟩
  cases xs with
  | cons u us => exact (h2 u us rfl).2 S O β w vs hH hA
  | nil =>
    cases hA with
    | cons hv hr =>
      cases hr
      rcases hv.shr_inv with ⟨rfl, _⟩ | ⟨p, rfl, _⟩ | ⟨b, off, cap, f', rfl, _⟩
      · exact (h1 rfl).2 S O β w _ hH (.cons (.pure _ _ (.lit _ rfl)) .nil)
      · exact (h3 rfl p 0).2 S O β w _ hH (.cons (.pure _ _ (.lit _ rfl)) .nil)
      · exact (h3 rfl ⟨b, off, none⟩ cap).2 S O β w _ hH (.cons (.pure _ _ (.lit _ rfl)) .nil)
end Go.Vc

/-! Calls of a function value. -/
set_option linter.unusedVariables false
set_option linter.unusedSimpArgs false
namespace Go.Vc
open Go Go.RowKit
section
variable {G : Prg} {Γ : Ctx} {S : Nat → Prop} {O : Nat → Nat → Prop} {β : Beta} {E : Env} {a : Act} {w : World} {dst : Option Tmp} {ty : TypeId} {pos : String} {aft : Array Edge} {gd : Option (Nat × Bool)} {ats : Array TypeId}
/-- The general form: what is called by value. -/
theorem op_callVF {f : FuncId} {fx : Operand} {xs : List Operand} {args as : List AV} {res : AV} (hV : VFun G f args [] res []) {ob0 : List (Nat × AO)} (hfx : evo (look E.sl) fx = some (.clo f [])) (hx : evoA (look E.sl) xs = some as) (hsub : F2 (Sub ob0 [] (fun _ => none) (fun k => look ob0 k ≠ none)) args as)
    (hob : ∀ k o, look ob0 k = some o → look E.ob k = some o) (hsc : ob0 = [] ∨ scal2 res = true) (hd : ∀ d, dst = some d → d < E.n) :
    OpS G Γ ⟨dst, .call { callee := .value fx, args := xs.toArray, argTypes := ats }, ty, pos, aft, gd⟩ E res [] (sl1 fx ++ xs.flatMap sl1) (ob0.map (·.1)) := by
  intro E' hn h1 h2 S O β a w hs K Q hK
  obtain ⟨hcal, hV⟩ := hV
  have h1f : ∀ t, t ∈ sl1 fx → look E'.sl t = look E.sl t := fun t ht => h1 t (by simp only [List.mem_append]; exact .inl ht)
  have h1 : ∀ t, t ∈ xs.flatMap sl1 → look E'.sl t = look E.sl t := fun t ht => h1 t (by simp only [List.mem_append]; exact .inr ht)
  have hfe : a.eval fx = .func (.func f) #[] #[] := by
    obtain ⟨us, he, hl, _⟩ := (hs.ev ((evo_congr h1f).trans hfx)).clo_inv
    cases us with
    | nil => exact he
    | cons u r => simp at hl
  have hob' : ∀ k o, look ob0 k = some o → look E'.ob k = some o := by
    intro k o hk
    have hmem : k ∈ ob0.map (·.1) := by
      have key : ∀ (l : List (Nat × AO)) (o : AO), look l k = some o → k ∈ l.map (·.1) := by
        intro l
        induction l with
        | nil => intro o h; simp [look] at h
        | cons p l ih =>
          intro o h
          rw [look_cons] at h
          by_cases he : p.1 = k
          · simp [he]
          · rw [if_neg he] at h; simp [ih o h]
      exact key ob0 o hk
    exact (h2 k hmem).trans (hob k o hk)
  have hsz : ∀ b, wkS S O (fun k => look ob0 k ≠ none) b → b < w.heap.size := by
    rintro b (hb | ⟨k, _, hb⟩)
    · exact hs.h.sh b hb
    · exact (hs.h.ow k b hb).1
  have hz : ∀ (k : Nat) (e : TypeId) (sz : Nat) (xs : List (List AV)) (l : Loc), look ob0 k = some (.row e sz xs) → look ob0 k ≠ none → β k = some l → PRep (wkS S O (fun k => look ob0 k ≠ none)) w (.shr sz xs) l.slice :=
    fun k e sz xs l h3 h4 h5 => frozen_row hs.h (hob' k _ h3) h4 h5
  have hargs : F2 (fun c x => VRep (wkS S O (fun k => look ob0 k ≠ none)) (fun _ => none) w c x) args (xs.map a.eval) :=
    F2.sub (fun c' c x hr hc => by
      have := hc.wk' (ob' := []) (ρ := fun _ => none) hz hr
      have e : wkB β (fun _ => none) [] = fun _ => none := by funext i; simp [wkB, look]
      rw [e] at this; exact this) hsub (evoA_rep hs xs as ((evoA_congr xs h1).trans hx))
  have hcall := hV _ (fun _ _ => False) (fun _ => none) w (xs.map a.eval) (hrep_nil hsz) hargs
  unfold Oper.wp
  have hex : (execOp a.eval ⟨dst, .call { callee := .value fx, args := xs.toArray, argTypes := ats }, ty, pos, aft, gd⟩).run G.P w = .ok (.enter f (xs.map a.eval).toArray) w := by
    have := run_callF hcal (xs.map a.eval).toArray w
    simp [execOp, resolve, Deferred.ofValue, invoke, hfe, this]
  rw [hex, Oper.upon_enter]
  refine hcall.mono ?_
  rintro e w' ⟨x, rfl, S', O', β', hH', hx', hS1, hS2, _, _, hfr⟩
  have hfr' : Fr (fun _ => False) w w' := hfr.weaken (fun b ⟨_, hf⟩ => hf)
  have hbn : ∀ k, β' k = none := fun k => (hH'.dom k rfl).1
  rcases hsc with rfl | hsc
  · have hS2' : ∀ b, S' b → (S b ∨ w.heap.size ≤ b) ∧ b < w'.heap.size := by
      intro b hb
      refine ⟨?_, hH'.sh b hb⟩
      rcases hS2 b hb with (h3 | ⟨k, hk, _⟩) | ⟨_, hf⟩ | h3
      · exact .inl h3
      · exact absurd rfl hk
      · exact hf.elim
      · exact .inr h3
    have hg := hs.grow hfr' (fun b hb => hS1 b (.inl hb)) hS2'
    exact hK _ _ ⟨S', O, β, hg.put (hx'.mono (fun b hb => ⟨hb, rfl⟩) (fun k l hk => by rw [hbn k] at hk; cases hk)) (fun d hd' => by rw [hn]; exact hd d hd')⟩
  · have hg := hs.grow (S' := S) hfr' (fun b hb => hb) (fun b hb => ⟨.inl hb, Nat.lt_of_lt_of_le (hs.h.sh b hb) hfr'.size⟩)
    exact hK _ _ ⟨S, O, β, hg.put (hx'.scal2 hsc) (fun d hd' => by rw [hn]; exact hd d hd')⟩
end

section
variable {G : Prg} {Γ : Ctx} {ops : Array Oper} {fin : List Lg → Prop} {K : Env → Prop} {os : List Oper} {log : List Lg} {sl : List (Nat × AV)} {ob : List (Nat × AO)} {nn : Nat} {d : Nat} {ty : TypeId} {pos : String} {aft : Array Edge} {gd : Option (Nat × Bool)}
theorem u_callVF {f : FuncId} {fx : Operand} {xs : List Operand} {args as : List AV} {res : AV} {ats : Array TypeId} (hfx : evo (look sl) fx = some (.clo f [])) (hx : evoA (look sl) xs = some as) (hV : VFun G f args [] res []) (hsub : F2 (Sub [] [] (fun _ => none) (fun k => look ([] : List (Nat × AO)) k ≠ none)) args as) (hd : Nat.blt d nn = true) (hg : GOk ops sl nn gd)
    (kk' : VR G Γ ops fin K os (log ++ [⟨some d, gsl ops gd ++ (sl1 fx ++ xs.flatMap sl1), [], []⟩]) ⟨(d, res) :: sl, ob, nn⟩) : VR G Γ ops fin K (⟨some d, .call { callee := .value fx, args := xs.toArray, argTypes := ats }, ty, pos, aft, gd⟩ :: os) log ⟨sl, ob, nn⟩ :=
  u_op (op_callVF (G := G) (Γ := Γ) (E := ⟨sl, ob, nn⟩) (dst := some d) (ty := ty) (pos := pos) (aft := aft) (gd := gd) (ob0 := []) hV hfx hx hsub (fun k o h => by simp [Go.Vc.look] at h) (.inl rfl) (dlt hd)) hg kk'
end
end Go.Vc

/-! Calls that are lent objects: what is handed over by pointer, or moved; what is only read is given up. -/
set_option linter.unusedVariables false
set_option linter.unusedSimpArgs false
namespace Go.Vc
open Go Go.RowKit

def idL : List (Nat × Nat) → Bool
  | [] => true
  | p :: r => Nat.beq p.1 p.2 && idL r

theorem ren_id : ∀ {l : List (Nat × Nat)}, idL l = true → ∀ {i k : Nat}, ren l i = some k → i = k
  | [], _, i, k, h => by simp [ren, look] at h
  | (a, b) :: r, hl, i, k, h => by
    have hl' : Nat.beq a b = true ∧ idL r = true := by simpa [idL] using hl
    have hab := Nat.eq_of_beq_eq_true hl'.1
    unfold ren at h
    rw [look_cons] at h
    by_cases he : a = i
    · rw [if_pos he] at h; cases h; exact he.symm.trans hab
    · rw [if_neg he] at h; exact ren_id hl'.2 h

theorem look_key {α : Type} : ∀ {l : List (Nat × α)} {k : Nat}, look l k ≠ none → k ∈ l.map (·.1)
  | [], k, h => absurd rfl h
  | p :: l, k, h => by
    rw [look_cons] at h
    by_cases he : p.1 = k
    · simp [he]
    · rw [if_neg he] at h; simp [look_key h]

theorem look_of_key {α : Type} : ∀ {l : List (Nat × α)} {k : Nat}, k ∈ l.map (·.1) → look l k ≠ none
  | [], k, h => by simp at h
  | p :: l, k, h => by
    rw [look_cons]
    by_cases he : p.1 = k
    · rw [if_pos he]; simp
    · rw [if_neg he]
      simp only [List.map_cons, List.mem_cons] at h
      rcases h with h | h
      · exact absurd h.symm he
      · exact look_of_key h

def deads : List Nat → List (Nat × AO)
  | [] => []
  | k :: r => (k, .dead) :: deads r

theorem look_deads : ∀ {l : List Nat} {k : Nat} {o : AO}, look (deads l) k = some o → o = .dead ∧ k ∈ l
  | [], k, o, h => by simp [deads, look] at h
  | a :: r, k, o, h => by
    rw [deads, look_cons] at h
    by_cases he : a = k
    · rw [if_pos he] at h; cases h; exact ⟨rfl, by simp [he]⟩
    · rw [if_neg he] at h
      obtain ⟨h1, h2⟩ := look_deads h
      exact ⟨h1, by simp [h2]⟩

theorem deads_look : ∀ {l : List Nat} {k : Nat}, k ∈ l → look (deads l) k = some .dead
  | [], k, h => by simp at h
  | a :: r, k, h => by
    rw [deads, look_cons]
    by_cases he : a = k
    · rw [if_pos he]
    · rw [if_neg he]
      simp only [List.mem_cons] at h
      rcases h with h | h
      · exact absurd h.symm he
      · exact deads_look h

def WkOf (ob ob' : List (Nat × AO)) (ρ : Nat → Option Nat) (fz : Nat → Prop) : List (Nat × AO) → Prop
  | [] => True
  | (i, o') :: r => SubO ob ob' ρ fz i o' ∧ WkOf ob ob' ρ fz r

theorem WkOf.get {ob ob' : List (Nat × AO)} {ρ : Nat → Option Nat} {fz : Nat → Prop} : ∀ {l : List (Nat × AO)}, WkOf ob ob' ρ fz l → ∀ i o', look l i = some o' → SubO ob ob' ρ fz i o'
  | [], _, t, v', h => by simp [look] at h
  | (t0, v0) :: r, hw, t, v', h => by
    rw [look_cons] at h
    by_cases he : t0 = t
    · rw [if_pos he] at h; cases h; subst he; exact hw.1
    · rw [if_neg he] at h; exact WkOf.get hw.2 t v' h

/-- What is lent: all in one test. rl: the lent ones' names; bor: those that are given up to be read; dd: those that are no more behind the call. -/
def lendOk (rl : List (Nat × Nat)) (bor dd : List Nat) (ob0 ob ob' : List (Nat × AO)) : Bool :=
  idL rl && (bor.all fun k => ((look rl k).isNone && (look ob' k).isNone) && (look ob0 k).isSome) && (dd.all fun k => (look rl k).isSome || bor.any (Nat.beq k)) &&
  (rl.all fun p => (look ob p.1).isSome && ((look ob' p.1).isSome || dd.any (Nat.beq p.1))) && (bor.all fun k => dd.any (Nat.beq k))

/-- What is new behind the call is new to the caller. -/
def freshOk (rl : List (Nat × Nat)) (ob' obE : List (Nat × AO)) : Bool := ob'.all fun p => (look rl p.1).isSome || (look obE p.1).isNone
def freshPar (rl : List (Nat × Nat)) (ob' par : List (Nat × AO)) : Bool := ob'.all fun p => (look rl p.1).isSome || (look par p.1).isNone

theorem any_beq {l : List Nat} {k : Nat} (h : l.any (Nat.beq k) = true) : k ∈ l := by
  obtain ⟨x, hx, he⟩ := List.any_eq_true.1 h
  rw [Nat.eq_of_beq_eq_true he]; exact hx

theorem isSome_ne {α : Type} {o : Option α} (h : o.isSome = true) : o ≠ none := by cases o with | none => cases h | some => simp
theorem isNone_eq {α : Type} {o : Option α} (h : o.isNone = true) : o = none := by cases o with | none => rfl | some => cases h

section
variable {G : Prg} {Γ : Ctx} {S : Nat → Prop} {O : Nat → Nat → Prop} {β : Beta} {E : Env} {a : Act} {w : World}
variable {dst : Option Tmp} {ty : TypeId} {pos : String} {aft : Array Edge} {gd : Option (Nat × Bool)} {ats : Array TypeId}

theorem op_callO {f : FuncId} {fx : Operand} {xs : List Operand} {args as caps : List AV} {res : AV} {ob ob' ob0 : List (Nat × AO)} (rl : List (Nat × Nat)) (bor dd : List Nat) (hV : VFun G f args ob res ob')
    (hfx : evo (look E.sl) fx = some (.clo f caps)) (hx : evoA (look E.sl) xs = some as) (hinc : ∀ k o, look ob0 k = some o → look E.ob k = some o)
    (hob : WkOf ob0 ob (ren rl) (fun k => k ∈ bor) ob) (hsub : F2 (Sub ob0 ob (ren rl) (fun k => k ∈ bor)) args (as ++ caps)) (hok : lendOk rl bor dd ob0 ob ob' = true)
    (hf1 : freshOk rl ob' E.ob = true) (hf2 : ∀ k, look ob' k ≠ none → ren rl k = none → k ∉ Γ.par) (hd : ∀ d, dst = some d → d < E.n) :
    OpS G Γ ⟨dst, .call { callee := .value fx, args := xs.toArray, argTypes := ats }, ty, pos, aft, gd⟩ E res (ob' ++ deads dd) (sl1 fx ++ xs.flatMap sl1) (ob0.map (·.1) ++ ob'.map (·.1) ++ dd) := by
  intro E' hn h1 h2 S O β a w hs K Q hK
  obtain ⟨hcal, hV⟩ := hV
  unfold lendOk at hok
  simp only [Bool.and_eq_true] at hok
  obtain ⟨⟨⟨⟨k1, k2⟩, k3⟩, k4⟩, k5⟩ := hok
  have hid : ∀ {i k : Nat}, ren rl i = some k → i = k := fun h => ren_id k1 h
  have hbor : ∀ k ∈ bor, ren rl k = none ∧ look ob' k = none := fun k hk => by
    have := List.all_eq_true.1 k2 k hk
    simp only [Bool.and_eq_true] at this
    exact ⟨isNone_eq this.1.1, isNone_eq this.1.2⟩
  have hno0 : ∀ k ∈ bor, look ob0 k ≠ none := fun k hk => by
    have := List.all_eq_true.1 k2 k hk
    simp only [Bool.and_eq_true] at this
    exact isSome_ne this.2
  have hdd : ∀ k ∈ dd, ren rl k ≠ none ∨ k ∈ bor := fun k hk => by
    have := List.all_eq_true.1 k3 k hk
    simp only [Bool.or_eq_true] at this
    rcases this with h | h
    · exact .inl (isSome_ne h)
    · exact .inr (any_beq h)
  have hrl : ∀ k, ren rl k ≠ none → look ob k ≠ none ∧ (look ob' k ≠ none ∨ k ∈ dd) := fun k hk => by
    obtain ⟨p, hp, rfl⟩ := look_mem hk
    have := List.all_eq_true.1 k4 p hp
    simp only [Bool.and_eq_true, Bool.or_eq_true] at this
    exact ⟨isSome_ne this.1, this.2.imp isSome_ne any_beq⟩
  have hbd : ∀ k ∈ bor, k ∈ dd := fun k hk => any_beq (List.all_eq_true.1 k5 k hk)
  have hinc' : ∀ k o, look ob0 k = some o → look E'.ob k = some o := fun k o hk =>
    (h2 k (by simp only [List.mem_append]; exact .inl (.inl (look_key (by rw [hk]; simp))))).trans (hinc k o hk)
  have hno : ∀ k ∈ bor, look E'.ob k ≠ none := fun k hk => by
    cases h : look ob0 k with
    | none => exact absurd h (hno0 k hk)
    | some o => rw [hinc' k o h]; simp
  have hnew : ∀ k, look ob' k ≠ none → ren rl k = none → look E'.ob k = none := fun k hk hr => by
    rw [h2 k (by simp only [List.mem_append]; exact .inl (.inr (look_key hk)))]
    obtain ⟨p, hp, rfl⟩ := look_mem hk
    have := List.all_eq_true.1 hf1 p hp
    simp only [Bool.or_eq_true] at this
    rcases this with h | h
    · exact absurd hr (isSome_ne h)
    · exact isNone_eq h
  have hH1 := HRep.wk0 (fz := fun k => k ∈ bor) (ρ := ren rl) (ob' := ob) hs.h hinc' (fun i j k _ _ hi hj => (hid hi).trans (hid hj).symm)
    (fun i k _ hi hb => by have := (hbor k hb).1; rw [← hid hi] at this; rw [this] at hi; cases hi) hob.get
  have hz : ∀ (k : Nat) (e : TypeId) (sz : Nat) (xs : List (List AV)) (l : Loc), look ob0 k = some (.row e sz xs) → k ∈ bor → β k = some l → PRep (wkS S O (fun k => k ∈ bor)) w (.shr sz xs) l.slice :=
    fun k e sz xs l h3 h4 h5 => frozen_row (fz := fun k => k ∈ bor) hs.h (hinc' k _ h3) h4 h5
  have hcv := hs.ev ((evo_congr fun t ht => h1 t (by simp only [List.mem_append]; exact .inl ht)).trans hfx)
  obtain ⟨us, hfe, hul, hur⟩ := hcv.clo_inv
  have happ : ∀ {as : List AV} {vs : List Value} {bs : List AV} {us : List Value}, F2 (fun c x => VRep S β w c x) as vs → F2 (fun c x => VRep S β w c x) bs us → F2 (fun c x => VRep S β w c x) (as ++ bs) (vs ++ us) := by
    intro as vs bs us h g
    induction h with
    | nil => exact g
    | cons h1 _ ih => exact .cons h1 ih
  have hcaps : F2 (fun c x => VRep S β w c x) caps us := by
    clear hfe hcv hsub hfx
    induction caps generalizing us with
    | nil => cases us with | nil => exact .nil | cons => simp at hul
    | cons c r ih => cases us with
      | nil => simp at hul
      | cons u us => exact .cons (hur 0 c u rfl rfl) (ih us (by simpa using hul) fun j c' x hc hx => hur (j + 1) c' x (by simpa using hc) (by simpa using hx))
  have hall := happ (evoA_rep hs xs as ((evoA_congr xs fun t ht => h1 t (by simp only [List.mem_append]; exact .inr ht)).trans hx)) hcaps
  have hargs : F2 (fun c x => VRep (wkS S O (fun k => k ∈ bor)) (wkB β (ren rl) ob) w c x) args (xs.map a.eval ++ us) := F2.sub (R := Sub ob0 ob (ren rl) (fun k => k ∈ bor)) (A := fun c x => VRep S β w c x) (B := fun c x => VRep (wkS S O (fun k => k ∈ bor)) (wkB β (ren rl) ob) w c x) (fun c' c x hr hc => VRep.wk' hz hr hc) hsub hall
  have hcall := hV _ _ _ w (xs.map a.eval ++ us) hH1 hargs
  unfold Oper.wp
  have hex : (execOp a.eval ⟨dst, .call { callee := .value fx, args := xs.toArray, argTypes := ats }, ty, pos, aft, gd⟩).run G.P w = .ok (.enter f (xs.map a.eval ++ us).toArray) w := by
    have := run_callF hcal (xs.map a.eval ++ us).toArray w
    simp [execOp, resolve, Deferred.ofValue, invoke, hfe]
    simpa using this
  rw [hex, Oper.upon_enter]
  refine hcall.mono ?_
  rintro e w' ⟨x, rfl, S', O', β', hH', hx', hS1, hS2, hO', hb, hfr⟩
  have hL : ∀ b, (∃ k, wkO O (ren rl) ob k b) → ∃ k, ren rl k = some k ∧ O k b := by
    rintro b ⟨k, _, k', hk, hb⟩
    have := hid hk; subst this
    exact ⟨k, hk, hb⟩
  have hSL : ∀ b, S b → ¬ ∃ k, wkO O (ren rl) ob k b := fun b hb hl => by
    obtain ⟨k, _, hk⟩ := hL b hl
    exact (hs.h.ow k b hk).2 hb
  have hOL : ∀ k b, O k b → ren rl k = none → ¬ ∃ k, wkO O (ren rl) ob k b := fun k b hb hr hl => by
    obtain ⟨j, hj, hjb⟩ := hL b hl
    have := hs.h.dj k j b hb hjb
    subst this; rw [hr] at hj; cases hj
  have hbig : ∀ b, b < w.heap.size → (¬ ∃ k, wkO O (ren rl) ob k b) → w'.heap[b]? = w.heap[b]? := fun b hb hn => hfr.block b hb hn
  let β2 : Beta := fun k => match look ob' k with | none => β k | some _ => β' k
  let O2 : Nat → Nat → Prop := fun k b => O' k b ∨ (O k b ∧ ren rl k = none ∧ k ∉ bor)
  have hβ : ∀ k l, β k = some l → β2 k = some l := by
    intro k l hk
    show (match look ob' k with | none => β k | some _ => β' k) = some l
    cases hl : look ob' k with
    | none => exact hk
    | some o =>
      cases hr : ren rl k with
      | none => rw [(hs.h.dom k (hnew k (by rw [hl]; simp) hr)).1] at hk; cases hk
      | some k' =>
        have := hid hr; subst this
        have hne := (hrl k (by rw [hr]; simp)).1
        have e1 := hb k hne (by rw [hl]; simp)
        rw [wkB_some hr hne] at e1
        exact e1.trans hk
  have hβ' : ∀ k l, β' k = some l → β2 k = some l := by
    intro k l hk
    show (match look ob' k with | none => β k | some _ => β' k) = some l
    cases hl : look ob' k with
    | none => rw [(hH'.dom k hl).1] at hk; cases hk
    | some o => exact hk
  have hS : ∀ c, S c → S' c ∧ w'.heap[c]? = w.heap[c]? := fun c hc => ⟨hS1 c (.inl hc), hbig c (hs.h.sh c hc) (hSL c hc)⟩
  have hSnew : ∀ b, S' b → (S b ∨ (∃ k, (k ∈ bor ∨ ren rl k = some k) ∧ O k b)) ∨ w.heap.size ≤ b := by
    intro b hb
    rcases hS2 b hb with (h3 | ⟨k, hk, h3⟩) | h3 | h3
    · exact .inl (.inl h3)
    · exact .inl (.inr ⟨k, .inl hk, h3⟩)
    · obtain ⟨k, hk, h4⟩ := hL b h3
      exact .inl (.inr ⟨k, .inr hk, h4⟩)
    · exact .inr h3
  have hOnew : ∀ k b, O' k b → (∃ j, ren rl j = some j ∧ O j b) ∨ w.heap.size ≤ b := by
    intro k b hb
    rcases hO' k b hb with h3 | h3
    · exact .inl (hL b h3)
    · exact .inr h3
  have hkeep : ∀ k b, O k b → ren rl k = none → k ∉ bor → ¬ S' b := by
    intro k b hb hr hnb hs'
    rcases hSnew b hs' with (h3 | ⟨j, hj, h3⟩) | h3
    · exact (hs.h.ow k b hb).2 h3
    · have := hs.h.dj k j b hb h3
      subst this
      rcases hj with hj | hj
      · exact hnb hj
      · rw [hr] at hj; cases hj
    · have := (hs.h.ow k b hb).1; omega
  have hsim : SimAt Γ S' O2 β2 ⟨E'.sl, ob' ++ deads dd ++ E'.ob, E'.n⟩ a w' := by
    refine ⟨⟨hH'.sh, ?_, ?_, ?_, ?_⟩, ?_, hs.n, hs.df, fun b hb => hS1 b (.inl (hs.s0 b hb)), ?_, ?_, ?_, ?_⟩
    · rintro k b (hb | ⟨hb, hr, hnb⟩)
      · exact hH'.ow k b hb
      · exact ⟨Nat.lt_of_lt_of_le (hs.h.ow k b hb).1 hfr.size, hkeep k b hb hr hnb⟩
    · rintro k k' b (hb | ⟨hb, hr, hnb⟩) (hb' | ⟨hb', hr', hnb'⟩)
      · exact hH'.dj k k' b hb hb'
      · rcases hOnew k b hb with ⟨j, hj, h3⟩ | h3
        · have := hs.h.dj j k' b h3 hb'
          subst this; rw [hr'] at hj; cases hj
        · have := (hs.h.ow k' b hb').1; omega
      · rcases hOnew k' b hb' with ⟨j, hj, h3⟩ | h3
        · have := hs.h.dj j k b h3 hb
          subst this; rw [hr] at hj; cases hj
        · have := (hs.h.ow k b hb).1; omega
      · exact hs.h.dj k k' b hb hb'
    · intro k hk
      have hk' : look (ob' ++ deads dd ++ E'.ob) k = none := hk
      rw [look_append, look_append] at hk'
      cases hl : look ob' k with
      | some o => rw [hl] at hk'; cases hk'
      | none =>
        rw [hl] at hk'
        cases hl2 : look (deads dd) k with
        | some o => rw [hl2] at hk'; cases hk'
        | none =>
          rw [hl2] at hk'
          have hd0 := hs.h.dom k hk'
          refine ⟨?_, ?_⟩
          · show (match look ob' k with | none => β k | some _ => β' k) = none
            rw [hl]; exact hd0.1
          · rintro b (hb | ⟨hb, _⟩)
            · exact (hH'.dom k hl).2 b hb
            · exact hd0.2 b hb
    · intro k o hk
      have hk' : look (ob' ++ deads dd ++ E'.ob) k = some o := hk
      rw [look_append, look_append] at hk'
      cases hl : look ob' k with
      | some o' =>
        rw [hl] at hk'; cases hk'
        exact (hH'.objs k _ hl).mono (fun b hb => ⟨hb, rfl⟩) hβ' fun b hb => ⟨.inl hb, rfl⟩
      | none =>
        rw [hl] at hk'
        cases hl2 : look (deads dd) k with
        | some o' =>
          rw [hl2] at hk'; cases hk'
          obtain ⟨rfl, hkd⟩ := look_deads hl2
          have hbound : ∃ l, β k = some l := by
            rcases hdd k hkd with hr | hbk
            · cases hr' : ren rl k with
              | none => exact absurd hr' hr
              | some k' =>
                have := hid hr'; subst this
                have hne := (hrl k hr).1
                cases ho : look ob k with
                | none => exact absurd ho hne
                | some o1 =>
                  obtain ⟨l, hl⟩ := (hH1.objs k o1 ho).bound
                  rw [wkB_some hr' hne] at hl
                  exact ⟨l, hl⟩
            · cases ho : look E'.ob k with
              | some o1 => exact (hs.h.objs k o1 ho).bound
              | none => exact absurd ho (hno k hbk)
          obtain ⟨l, hl3⟩ := hbound
          exact ⟨l, hβ k l hl3⟩
        | none =>
          rw [hl2] at hk'
          have hr : ren rl k = none := by
            cases hr : ren rl k with
            | none => rfl
            | some k' =>
              rcases (hrl k (by rw [hr]; simp)).2 with h3 | h3
              · exact absurd hl h3
              · rw [deads_look h3] at hl2; cases hl2
          have hnb : k ∉ bor := fun hb => by rw [deads_look (hbd k hb)] at hl2; cases hl2
          exact (hs.h.objs k o hk').mono hS hβ fun b hb => ⟨.inr ⟨hb, hr, hnb⟩, hbig b (hs.h.ow k b hb).1 (hOL k b hb hr)⟩
    · intro t v hl; exact (hs.sl t v hl).mono hS hβ
    · intro b hb
      rcases hSnew b hb with (h3 | ⟨k, _, h3⟩) | h3
      · exact hs.s1 b h3
      · rcases hs.o1 k b h3 with h4 | h4
        · exact .inr (.inl h4)
        · exact .inr (.inr h4)
      · exact .inr (.inr (Nat.le_trans hs.fr.size h3))
    · rintro k b (hb | ⟨hb, _⟩)
      · rcases hOnew k b hb with ⟨j, _, h3⟩ | h3
        · exact hs.o1 j b h3
        · exact .inr (Nat.le_trans hs.fr.size h3)
      · exact hs.o1 k b hb
    · intro k hk hn'
      have hE : look E'.ob k ≠ none := by
        intro hE
        have hn2 : look (ob' ++ deads dd ++ E'.ob) k ≠ none := hn'
        rw [look_append, look_append, hE] at hn2
        cases hl : look ob' k with
        | some o =>
          cases hr : ren rl k with
          | none => exact hf2 k (by rw [hl]; simp) hr hk
          | some k' =>
            have := hid hr; subst this
            have hne := (hrl k (by rw [hr]; simp)).1
            cases ho : look ob k with
            | none => exact hne ho
            | some o1 =>
              obtain ⟨l, hl4⟩ := (hH1.objs k o1 ho).bound
              rw [wkB_some hr hne, (hs.h.dom k hE).1] at hl4; cases hl4
        | none =>
          rw [hl] at hn2
          cases hl2 : look (deads dd) k with
          | none => rw [hl2] at hn2; exact hn2 rfl
          | some o =>
            obtain ⟨_, hkd⟩ := look_deads hl2
            rcases hdd k hkd with hr | hbk
            · cases hr' : ren rl k with
              | none => exact hr hr'
              | some k' =>
                have := hid hr'; subst this
                have hne := (hrl k hr).1
                cases ho : look ob k with
                | none => exact hne ho
                | some o1 =>
                  obtain ⟨l, hl4⟩ := (hH1.objs k o1 ho).bound
                  rw [wkB_some hr' hne, (hs.h.dom k hE).1] at hl4; cases hl4
            · exact hno k hbk hE
      have hb0 := hs.b0 k hk hE
      cases hbk : β k with
      | none =>
        cases ho : look E'.ob k with
        | none => exact absurd ho hE
        | some o => obtain ⟨l, hl⟩ := (hs.h.objs k o ho).bound; rw [hbk] at hl; cases hl
      | some l => rw [hβ k l hbk, ← hb0, hbk]
    · exact hs.fr.trans hfr fun b hb => by
        obtain ⟨k, _, h3⟩ := hL b hb
        exact hs.o1 k b h3
  have := hsim.put (hx'.mono (fun b hb => ⟨hb, rfl⟩) hβ') (dst := dst) (fun d hd' => by show d < E'.n; rw [hn]; exact hd d hd')
  exact hK _ _ ⟨S', O2, β2, this⟩
end
end Go.Vc

/-! Parts of a row that is owned: slices over it, moved together, cleared, cut off. -/
set_option linter.unusedVariables false
set_option linter.unusedSimpArgs false
namespace Go.Vc
open Go Go.RowKit

theorem lt_mul_of {i n j sz : Nat} (hi : i < n) (hj : j < sz) : i * sz + j < n * sz := by
  have h1 : (i + 1) * sz ≤ n * sz := Nat.mul_le_mul_right _ hi
  rw [Nat.add_mul, Nat.one_mul] at h1; omega

section
variable {G : Prg} {Γ : Ctx} {S : Nat → Prop} {O : Nat → Nat → Prop} {β : Beta} {E : Env} {a : Act} {w : World}

/-- Elements of a row, written over. -/
theorem SimAt.overRow (h : SimAt Γ S O β E a w) {k : Nat} {e : TypeId} {sz : Nat} {xs : List (List AV)} (hk : look E.ob k = some (.row e sz xs)) {b cap n : Nat} (hb : β k = some (.at b cap n)) (i : Nat) (ys : List (List AV)) (zs : List Value)
    (hil : i + ys.length ≤ xs.length) (hzl : zs.length = ys.length * sz) (hsy : ∀ (i : Nat) (y : List AV), ys[i]? = some y → y.length = sz)
    (hz : ∀ (i : Nat) (y : List AV) (j : Nat) (c : AV), ys[i]? = some y → y[j]? = some c → ∃ v, zs[i * sz + j]? = some v ∧ PRep S w c v) {vs : List Value} (hg : w.heap[b]? = some (.cells vs.toArray e (0, 0))) :
    SimAt Γ S O β ⟨E.sl, (k, .row e sz (xs.take i ++ ys ++ xs.drop (i + ys.length))) :: E.ob, E.n⟩ a (w.setRow b (vs.take (i * sz) ++ zs ++ vs.drop (i * sz + zs.length)).toArray) := by
  obtain ⟨vs', hn, hO, hg', hcap, hcm, hvl, hsz, hm, hr⟩ := h.rowAt hk hb
  rw [hg] at hg'
  obtain rfl : vs = vs' := by
    have := Option.some.inj hg'
    injection this with h1
    simpa using congrArg Array.toList h1
  have hold : ∀ (b' : Nat), S b' → S b' ∧ (w.setRow b (vs.take (i * sz) ++ zs ++ vs.drop (i * sz + zs.length)).toArray).heap[b']? = w.heap[b']? := fun b' hb' => ⟨hb', setRow_other w b b' _ (fun e => (h.h.ow k b hO).2 (e ▸ hb'))⟩
  have hle : i * sz + zs.length ≤ vs.length := by
    rw [hzl, ← Nat.add_mul, hvl]; exact Nat.mul_le_mul_right _ (by omega)
  refine h.turn hO (by rw [hk]; simp) (Fr_setRow w b _) (setRow_size w b _) _ ?_
  have hlen : (xs.take i ++ ys ++ xs.drop (i + ys.length)).length = xs.length := by
    simp only [List.length_append, List.length_take, List.length_drop]; omega
  refine ⟨?_, by rw [hlen]; exact hm, .inr ⟨b, cap, _, by rw [hlen, ← hn]; exact hb, hO, setRow_heap w b _ _ e _ hg, by rw [hlen]; exact hcap, hcm, ?_, ?_⟩⟩
  · intro q x hx
    rw [getElem?_tad _ _ _ hil] at hx
    split at hx
    · exact hsz q x hx
    · split at hx
      · exact hsy _ x hx
      · exact hsz q x hx
  · simp only [List.length_append, List.length_take, List.length_drop]; omega
  · intro q x j c hx hc
    have hxl : x.length = sz := by
      rw [getElem?_tad _ _ _ hil] at hx
      split at hx
      · exact hsz q x hx
      · split at hx
        · exact hsy _ x hx
        · exact hsz q x hx
    have hj : j < sz := by have := (List.getElem?_eq_some_iff.1 hc).1; omega
    rw [getElem?_tad _ _ _ hle]
    rw [getElem?_tad _ _ _ hil] at hx
    by_cases h1 : q < i
    · rw [if_pos h1] at hx
      rw [if_pos (lt_mul_of h1 hj)]
      obtain ⟨v, hv, hp⟩ := hr q x j c hx hc
      exact ⟨v, hv, hp.mono hold⟩
    · rw [if_neg h1] at hx
      have h1' : ¬ q * sz + j < i * sz := by have := Nat.mul_le_mul_right sz (Nat.le_of_not_lt h1); omega
      rw [if_neg h1']
      by_cases h2 : q < i + ys.length
      · rw [if_pos h2] at hx
        have h3 := lt_mul_of h2 hj
        rw [Nat.add_mul, ← hzl] at h3
        rw [if_pos h3]
        obtain ⟨v, hv, hp⟩ := hz (q - i) x j c hx hc
        refine ⟨v, ?_, hp.mono hold⟩
        rw [← hv]; congr 1
        rw [Nat.sub_mul]
        have := Nat.mul_le_mul_right sz (Nat.le_of_not_lt h1); omega
      · rw [if_neg h2] at hx
        have h3 := Nat.mul_le_mul_right sz (Nat.le_of_not_lt h2)
        rw [Nat.add_mul, ← hzl] at h3
        rw [if_neg (by omega)]
        obtain ⟨v, hv, hp⟩ := hr q x j c hx hc
        exact ⟨v, hv, hp.mono hold⟩

theorem SimAt.rowNe (h : SimAt Γ S O β E a w) {k : Nat} {e : TypeId} {sz : Nat} {xs : List (List AV)} (hk : look E.ob k = some (.row e sz xs)) (hne : 0 < xs.length) {l : Loc} (hl : β k = some l) : ∃ b cap, l = .at b cap xs.length := by
  obtain ⟨_, _, hr⟩ := h.h.objs k _ hk
  rcases hr with ⟨_, rfl⟩ | ⟨b, cap, vs, h5, _⟩
  · simp at hne
  · rw [hl] at h5; cases h5; exact ⟨b, cap, rfl⟩
end

section
variable {G : Prg} {Γ : Ctx} {E : Env} {dst : Option Tmp} {ty : TypeId} {pos : String} {aft : Array Edge} {gd : Option (Nat × Bool)}

theorem cut_addr (cap l b sz : Nat) : (if cap = l then (some ⟨b, 0, none⟩ : Option Addr) else (some ⟨b, 0, none⟩ : Option Addr).map (·.add (l * sz))) = some ⟨b, if cap = l then 0 else l * sz, none⟩ := by
  split
  · rfl
  · simp [add_none]

theorem op_sliceR {t e e' : TypeId} {x : Operand} {lo hi : Option Operand} {k sz l h : Nat} {xs : List (List AV)} (hx : evo (look E.sl) x = some (.row k)) (hk : look E.ob k = some (.row e' sz xs)) (hne : 0 < xs.length) (hlo : evB (look E.sl) lo 0 l) (hhi : evB (look E.sl) hi xs.length h) (hlh : l ≤ h) (hh : h ≤ xs.length)
    (ht : G.T.kind t = .slice e) (he : (G.T.kind e).known = true) (hsz : G.T.size e = sz) (hd : ∀ d, dst = some d → d < E.n) : OpS G Γ ⟨dst, .slice t x lo hi none, ty, pos, aft, gd⟩ E (.rsl k sz l h) [] (sl1 x ++ slO lo ++ slO hi) [k] :=
  OpS.val hd fun E' hn h1 h2 S O β a w hs => by
    have hk' := (h2 k (by simp)).trans hk
    have hlo' : lo.map a.eval = some (.int .i64 l) ∨ (lo.map a.eval = none ∧ l = 0) := by
      cases lo with
      | none => exact .inr ⟨rfl, hlo⟩
      | some y => exact .inl (by rw [Option.map_some, hs.lit ((evo_congr fun t ht => h1 t (by simp [slO, ht])).trans hlo)])
    have hhi' : hi.map a.eval = some (.int .i64 h) ∨ (hi.map a.eval = none ∧ h = xs.length) := by
      cases hi with
      | none => exact .inr ⟨rfl, hhi⟩
      | some y => exact .inl (by rw [Option.map_some, hs.lit ((evo_congr fun t ht => h1 t (by simp [slO, ht])).trans hhi)])
    obtain ⟨l0, hl, hxe⟩ := (hs.ev ((evo_congr fun t ht => h1 t (by simp [ht])).trans hx)).row_inv
    obtain ⟨b, cap, rfl⟩ := hs.rowNe hk' hne hl
    obtain ⟨vs, _, hO, hg, hcap, _⟩ := hs.rowAt hk' hl
    have := run_cut (G := G) ht he (some ⟨b, 0, none⟩) xs.length cap (lo.map a.eval) (hi.map a.eval) l h hlo' hhi' hlh (by omega) w
    rw [hsz, cut_addr] at this
    exact ⟨_, by simp only [execOp, hxe, Loc.slice, Option.map_none, Sem.run_bind, this, Result.andThen_ok]; rfl, .rsl k sz l h b cap _ hl hlh (by omega)⟩

theorem op_sliceRS {t e e' : TypeId} {x : Operand} {lo hi : Option Operand} {k sz l h m : Nat} {xs : List (List AV)} (hx : evo (look E.sl) x = some (.rsl k sz 0 m)) (hk : look E.ob k = some (.row e' sz xs)) (hlo : evB (look E.sl) lo 0 l) (hhi : evB (look E.sl) hi m h) (hlh : l ≤ h) (hh : h ≤ xs.length)
    (ht : G.T.kind t = .slice e) (he : (G.T.kind e).known = true) (hsz : G.T.size e = sz) (hd : ∀ d, dst = some d → d < E.n) : OpS G Γ ⟨dst, .slice t x lo hi none, ty, pos, aft, gd⟩ E (.rsl k sz l h) [] (sl1 x ++ slO lo ++ slO hi) [k] :=
  OpS.val hd fun E' hn h1 h2 S O β a w hs => by
    have hk' := (h2 k (by simp)).trans hk
    have hlo' : lo.map a.eval = some (.int .i64 l) ∨ (lo.map a.eval = none ∧ l = 0) := by
      cases lo with
      | none => exact .inr ⟨rfl, hlo⟩
      | some y => exact .inl (by rw [Option.map_some, hs.lit ((evo_congr fun t ht => h1 t (by simp [slO, ht])).trans hlo)])
    have hhi' : hi.map a.eval = some (.int .i64 h) ∨ (hi.map a.eval = none ∧ h = m) := by
      cases hi with
      | none => exact .inr ⟨rfl, hhi⟩
      | some y => exact .inl (by rw [Option.map_some, hs.lit ((evo_congr fun t ht => h1 t (by simp [slO, ht])).trans hhi)])
    obtain ⟨b, cap, n, hl, _, _, hxe⟩ := (hs.ev ((evo_congr fun t ht => h1 t (by simp [ht])).trans hx)).rsl_inv
    obtain ⟨vs, rfl, hO, hg, hcap, _⟩ := hs.rowAt hk' hl
    have e0 : (if cap = 0 then 0 else 0 * sz) = 0 := by split <;> simp
    rw [e0, Nat.sub_zero, Nat.sub_zero] at hxe
    have := run_cut (G := G) ht he (some ⟨b, 0, none⟩) m cap (lo.map a.eval) (hi.map a.eval) l h hlo' hhi' hlh (by omega) w
    rw [hsz, cut_addr] at this
    exact ⟨_, by simp only [execOp, hxe, Option.map_none, Sem.run_bind, this, Result.andThen_ok]; rfl, .rsl k sz l h b cap _ hl hlh (by omega)⟩

/-- s[i:j:len(s)], asked for its bounds alone. -/
theorem op_slice3R {t e e' : TypeId} {x y z u : Operand} {k sz i j : Nat} {xs : List (List AV)} (hx : evo (look E.sl) x = some (.row k)) (hk : look E.ob k = some (.row e' sz xs)) (hne : 0 < xs.length) (hy : evo (look E.sl) y = some (.lit (.int .i64 i))) (hz : evo (look E.sl) z = some (.lit (.int .i64 j))) (hu : evo (look E.sl) u = some (.lit (.int .i64 xs.length)))
    (hij : i ≤ j) (hj : j ≤ xs.length) (ht : G.T.kind t = .slice e) (he : (G.T.kind e).known = true) (hd : ∀ d, dst = some d → d < E.n) : OpS G Γ ⟨dst, .slice t x (some y) (some z) (some u), ty, pos, aft, gd⟩ E .any [] (sl1 x ++ sl1 y ++ sl1 z ++ sl1 u) [k] :=
  OpS.val hd fun E' hn h1 h2 S O β a w hs => by
    have hk' := (h2 k (by simp)).trans hk
    have hye := hs.lit ((evo_congr fun t ht => h1 t (by simp [ht])).trans hy)
    have hze := hs.lit ((evo_congr fun t ht => h1 t (by simp [ht])).trans hz)
    have hue := hs.lit ((evo_congr fun t ht => h1 t (by simp [ht])).trans hu)
    obtain ⟨l0, hl, hxe⟩ := (hs.ev ((evo_congr fun t ht => h1 t (by simp [ht])).trans hx)).row_inv
    obtain ⟨b, cap, rfl⟩ := hs.rowNe hk' hne hl
    obtain ⟨vs, _, hO, hg, hcap, _⟩ := hs.rowAt hk' hl
    have g1 : (0 : Int) ≤ (i : Int) ∧ (i : Int) ≤ (j : Int) := by omega
    have g2 : (0 : Int) ≤ (j : Int) ∧ (j : Int) ≤ (xs.length : Int) := by omega
    have g3 : (0 : Int) ≤ (xs.length : Int) ∧ (xs.length : Int) ≤ (cap : Int) := by omega
    refine ⟨.slice (if xs.length = i then some ⟨b, 0, none⟩ else (some ⟨b, 0, none⟩ : Option Addr).map (·.add (i * G.T.size e))) (j - i) (xs.length - i), ?_, .any _⟩
    · simp [execOp, hxe, hye, hze, hue, Loc.slice, Instr.sliceAt, Instr.slice, run_underlying (underlying_slice G.ok ht), Instr.sliceBounds, Instr.sliceBound, asIntOf, run_sizeOf G.ok w he, hij, hj, hcap]

theorem op_lenRS {t e : TypeId} {x : Operand} {k sz i j : Nat} (hx : evo (look E.sl) x = some (.rsl k sz i j)) (ht : G.T.kind t = .slice e) (hd : ∀ d, dst = some d → d < E.n) :
    OpS G Γ ⟨dst, .call { callee := .builtin .len, args := #[x], argTypes := #[t] }, ty, pos, aft, gd⟩ E (.lit (.int .i64 (j - i : Nat))) [] (sl1 x) [] :=
  OpS.val hd fun E' hn h1 h2 S O β a w hs => by
    obtain ⟨b, cap, n, hl, _, _, hxe⟩ := (hs.ev ((evo_congr h1).trans hx)).rsl_inv
    exact ⟨.int .i64 (j - i : Nat), by simp [execOp, resolve, invoke, builtin, hxe, Builtin.len_, run_underlying (underlying_slice G.ok ht), goInt], .pure _ _ (.lit _ rfl)⟩

/-- append(s[:i], s[j:]...) -/
theorem op_delR {t e : TypeId} {x y : Operand} {k sz i j : Nat} {xs : List (List AV)} (hx : evo (look E.sl) x = some (.rsl k sz 0 i)) (hy : evo (look E.sl) y = some (.rsl k sz j xs.length)) (hk : look E.ob k = some (.row e sz xs)) (hij : i ≤ j) (hjn : j ≤ xs.length)
    (ht : G.T.kind t = .slice e) (he : (G.T.kind e).known = true) (hsz : G.T.size e = sz) (h0 : 0 < sz) (hd : ∀ d, dst = some d → d < E.n) :
    OpS G Γ ⟨dst, .call { callee := .builtin .append, args := #[x, y], argTypes := #[t, t] }, ty, pos, aft, gd⟩ E (.rsl k sz 0 (i + (xs.length - j))) [(k, .row e sz (xs.take i ++ xs.drop j ++ xs.drop (i + (xs.length - j))))] (sl1 x ++ sl1 y) [k] :=
  OpS.turns hd fun E' hn h1 h2 S O β a w hs => by
    have hk' := (h2 k (by simp)).trans hk
    obtain ⟨b, cap, n, hl, _, _, hxe⟩ := (hs.ev ((evo_congr fun t ht => h1 t (by simp [ht])).trans hx)).rsl_inv
    obtain ⟨b2, cap2, n2, hl2, _, _, hye⟩ := (hs.ev ((evo_congr fun t ht => h1 t (by simp [ht])).trans hy)).rsl_inv
    rw [hl] at hl2; cases hl2
    obtain ⟨vs, rfl, hO, hg, hcap, hcm, hvl, hsx, hm, hr⟩ := hs.rowAt hk' hl
    obtain ⟨ti, z, hi, his, hib, hiz, hzc⟩ := info_of (G := G) he
    have hu := underlying_slice G.ok ht
    have e0 : (if cap = 0 then 0 else 0 * sz) = 0 := by split <;> simp
    rw [e0, Nat.sub_zero, Nat.sub_zero] at hxe
    by_cases hj : j = xs.length
    · have hrun : (Builtin.append_ #[t, t] ty #[a.eval x, a.eval y]).run G.P w = .ok (.slice (some ⟨b, 0, none⟩) i cap) w := by
        have hic : i ≤ cap := by omega
        rw [hxe, hye, hj, Nat.sub_self]
        simp [Builtin.append_, run_underlying hu, sizeOf, typeInfo, hi, Builtin.lenOf, Builtin.firstCells, loadCells, loadCellsFrom, storeCells, hic]
      have hz := hs.overRow hk' hl i [] [] (by simp; omega) (by simp) (by simp) (by simp) hg
      refine ⟨.slice (some ⟨b, 0, none⟩) i cap, w, S, O, β, .inl (by simp [execOp, resolve, invoke, builtin, hrun]), ?_, ?_⟩
      · have hm' : i + (xs.length - j) = i := by omega
        have := VRep.rsl (S := S) (w := w) k sz 0 i b cap xs.length hl (Nat.zero_le _) (by omega)
        rw [e0, Nat.sub_zero, Nat.sub_zero] at this
        rw [hm']; exact this
      · have e1 : xs.take i ++ xs.drop j ++ xs.drop (i + (xs.length - j)) = xs := by
          rw [List.drop_eq_nil_of_le (by omega), List.append_nil, show i + (xs.length - j) = i by omega, List.take_append_drop]
        rw [e1]
        refine hs.turn hO (by rw [hk']; simp) (Fr.refl _ _) rfl _ ?_
        exact hs.h.objs k _ hk'
    · have hjl : j < xs.length := by omega
      have hcj : ¬ cap = j := by omega
      rw [if_neg hcj] at hye
      have hdl : (xs.drop j).length = xs.length - j := List.length_drop
      have hle : xs.length * sz ≤ vs.length := by rw [hvl]; exact Nat.mul_le_mul_right _ hcap
      have hjm : j * sz ≤ xs.length * sz := Nat.mul_le_mul_right _ hjn
      have hzl : ((vs.drop (j * sz)).take ((xs.length - j) * sz)).length = (xs.length - j) * sz := by
        rw [List.length_take, List.length_drop, Nat.sub_mul]; omega
      have hget : ∀ q, q < (xs.length - j) * sz → ((vs.drop (j * sz)).take ((xs.length - j) * sz))[q]? = vs[j * sz + q]? := fun q hq => by
        rw [List.getElem?_take, if_pos hq, List.getElem?_drop]
      have hcells : ∀ (q : Nat) (v : Value), ((vs.drop (j * sz)).take ((xs.length - j) * sz))[q]? = some v → w.cell? ((⟨b, j * sz, none⟩ : Addr).add q) = some v := by
        intro q v hv
        have hq := (List.getElem?_eq_some_iff.1 hv).1
        rw [hzl] at hq
        rw [hget q hq] at hv
        rw [add_none, cell_of_row w b _ _ e (0, 0) hg, arr_get]; exact hv
      have hrep : ∀ (q : Nat) (y : List AV) (m : Nat) (c : AV), (xs.drop j)[q]? = some y → y[m]? = some c → ∃ v, ((vs.drop (j * sz)).take ((xs.length - j) * sz))[q * sz + m]? = some v ∧ PRep S w c v := by
        intro q y m c hy hc
        rw [List.getElem?_drop] at hy
        have hql : j + q < xs.length := (List.getElem?_eq_some_iff.1 hy).1
        have hmz : m < sz := by have := hsx _ y hy; have := (List.getElem?_eq_some_iff.1 hc).1; omega
        obtain ⟨v, hv, hp⟩ := hr (j + q) y m c hy hc
        refine ⟨v, ?_, hp⟩
        rw [hget _ (lt_mul_of (by omega) hmz), ← hv]
        congr 1
        rw [Nat.add_mul]; omega
      have hone : ∀ u ∈ (vs.drop (j * sz)).take ((xs.length - j) * sz), u.oneCell' = true := by
        intro u hu'
        obtain ⟨q, hq, rfl⟩ := List.getElem_of_mem hu'
        have hq' : q < (xs.length - j) * sz := by rw [← hzl]; exact hq
        obtain ⟨i', j', rfl, hi', hj'⟩ := divmod_lt hq'
        have hy : (xs.drop j)[i']? = some ((xs.drop j)[i']'(by rw [hdl]; exact hi')) := List.getElem?_eq_getElem _
        have hyl := hsx (j + i') _ (by rw [← List.getElem?_drop]; exact hy)
        obtain ⟨v, hv, hp⟩ := hrep i' _ j' _ hy (List.getElem?_eq_getElem (by omega))
        rw [List.getElem?_eq_getElem hq] at hv; cases hv
        exact hp.one
      have hfit : i * ti.size + ((vs.drop (j * sz)).take ((xs.length - j) * sz)).length ≤ vs.toArray.size := by
        rw [hzl, his, hsz, ← Nat.add_mul]; simp only [List.size_toArray]
        exact Nat.le_trans (Nat.mul_le_mul_right _ (by omega)) hle
      have hrun := run_append_room (P := G.P) w t ty e ti hu hi b i cap vs.toArray hg ⟨b, j * sz, none⟩ (xs.length - j) (cap - j) _ (by rw [hzl, his, hsz]) hcells hone (by omega) hfit
      rw [his, hsz] at hrun
      have hsim := hs.overRow hk' hl i (xs.drop j) _ (by rw [hdl]; omega) (by rw [hzl, hdl]) (fun q y hy => by rw [List.getElem?_drop] at hy; exact hsx _ y hy) hrep hg
      rw [hdl] at hsim
      refine ⟨.slice (some ⟨b, 0, none⟩) (i + (xs.length - j)) cap, _, S, O, β, .inl (by simp [execOp, resolve, invoke, builtin, hxe, hye, hrun]), ?_, hsim⟩
      have := VRep.rsl (S := S) (w := w.setRow b (vs.take (i * sz) ++ (vs.drop (j * sz)).take ((xs.length - j) * sz) ++ vs.drop (i * sz + ((vs.drop (j * sz)).take ((xs.length - j) * sz)).length)).toArray) k sz 0 (i + (xs.length - j)) b cap xs.length hl (Nat.zero_le _) (by omega)
      rw [e0, Nat.sub_zero, Nat.sub_zero] at this
      exact this

/-- clear(s[i:j]) -/
theorem op_clearR {t e : TypeId} {x : Operand} {k sz i j : Nat} {xs : List (List AV)} (hx : evo (look E.sl) x = some (.rsl k sz i j)) (hk : look E.ob k = some (.row e sz xs)) (hjn : j ≤ xs.length)
    (ht : G.T.kind t = .slice e) (he : (G.T.kind e).known = true) (hsz : G.T.size e = sz) (hd : ∀ d, dst = some d → d < E.n) :
    OpS G Γ ⟨dst, .call { callee := .builtin .clear, args := #[x], argTypes := #[t] }, ty, pos, aft, gd⟩ E (.tup []) [(k, .row e sz (xs.take i ++ List.replicate (j - i) ((G.T.zero e).map .lit) ++ xs.drop (i + (j - i))))] (sl1 x) [k] :=
  OpS.turns hd fun E' hn h1 h2 S O β a w hs => by
    have hk' := (h2 k (by simp)).trans hk
    obtain ⟨b, cap, n, hl, hij, hjc, hxe⟩ := (hs.ev ((evo_congr h1).trans hx)).rsl_inv
    obtain ⟨vs, rfl, hO, hg, hcap, hcm, hvl, hsx, hm, hr⟩ := hs.rowAt hk' hl
    have hu := underlying_slice G.ok ht
    obtain ⟨z, hz, hzc⟩ := run_zeroValue G.ok w he
    have hone := oneCell_of_kind G.ok he
    have hzsz : (G.T.zero e).length = sz := by
      obtain ⟨_, ti, z', _, _, _, _, _, _, _, h8⟩ := G.ok e he
      rw [h8, hsz]
    have e1 : xs.take i ++ List.replicate (j - i) ((G.T.zero e).map AV.lit) ++ xs.drop (i + (j - i)) = xs.take i ++ List.replicate (j - i) ((G.T.zero e).map AV.lit) ++ xs.drop (i + (List.replicate (j - i) ((G.T.zero e).map AV.lit)).length) := by rw [List.length_replicate]
    rw [e1]
    by_cases hij' : i = j
    · subst hij'
      refine ⟨.tuple #[], w, S, O, β, .inl ?_, .tup [] [] rfl (fun j c x hc => by simp at hc), ?_⟩
      · simp [execOp, resolve, invoke, builtin, hxe, Builtin.clear_, run_underlying hu]
      · have hz := hs.overRow hk' hl i [] [] (by simp; omega) (by simp) (by simp) (by simp) hg
        rw [Nat.sub_self, List.replicate_zero]
        refine hs.turn hO (by rw [hk']; simp) (Fr.refl _ _) rfl _ ?_
        have := hs.h.objs k _ hk'
        rw [List.append_nil, List.length_nil, Nat.add_zero, List.take_append_drop]; exact this
    · have hcj : ¬ cap = i := by omega
      rw [if_neg hcj] at hxe
      have hpos : 0 < j - i := by omega
      have hzl : (Builtin.zeroCells z.cells (j - i)).toList.length = (j - i) * sz := by
        rw [Array.length_toList, size_zeroCells', ← hzsz, ← hzc]; simp
      have hle : i * sz + (Builtin.zeroCells z.cells (j - i)).toList.length ≤ vs.length := by
        rw [hzl, ← Nat.add_mul, hvl]; exact Nat.mul_le_mul_right _ (by omega)
      have hzg : ∀ q m, q < j - i → m < sz → (Builtin.zeroCells z.cells (j - i)).toList[q * sz + m]? = (G.T.zero e)[m]? := by
        intro q m hq hmz
        have hz0 : z.cells.size = sz := by rw [← hzsz, ← hzc]; simp
        have hlt : q * sz + m < (j - i) * sz := lt_mul_of hq hmz
        have hmod : (q * sz + m) % sz = m := by rw [Nat.add_comm, Nat.mul_comm, Nat.add_mul_mod_self_left]; exact Nat.mod_eq_of_lt hmz
        have hzm : z.cells[m]? = (G.T.zero e)[m]? := by rw [← toList_getElem?, hzc]
        rw [← hzm]
        simp only [Builtin.zeroCells, Array.getElem?_toList, Array.getElem?_map, Array.getElem?_range, hz0, hlt, if_true, Option.map_some, hmod]
        rw [getElem!_def, Array.getElem?_eq_getElem (by rw [hz0]; exact hmz)]
      have hz1 : ∀ v ∈ (Builtin.zeroCells z.cells (j - i)).toList, v.oneCell' = true := by
        intro v hv
        obtain ⟨q, hq, rfl⟩ := List.getElem_of_mem hv
        rw [hzl] at hq
        obtain ⟨i', j', rfl, hi', hj'⟩ := divmod_lt hq
        have := hzg i' j' hi' hj'
        rw [List.getElem?_eq_getElem (by rw [hzl]; exact hq)] at this
        exact hone _ (List.mem_of_getElem? this.symm)
      have hst := run_storeCells_at G.P b (i * sz) e (Builtin.zeroCells z.cells (j - i)).toList 0 vs.toArray w hg (by simpa using hle) hz1
      simp only [Nat.add_zero, List.toList_toArray] at hst
      have hsim := hs.overRow hk' hl i (List.replicate (j - i) ((G.T.zero e).map .lit)) (Builtin.zeroCells z.cells (j - i)).toList (by rw [List.length_replicate]; omega) (by rw [hzl, List.length_replicate])
        (fun q y hy => by
          rw [List.getElem?_replicate] at hy
          split at hy
          · cases hy; rw [List.length_map, hzsz]
          · cases hy)
        (fun q y m c hy hc => by
          rw [List.getElem?_replicate] at hy
          split at hy
          · rename_i hq
            cases hy
            rw [List.getElem?_map] at hc
            cases hzm : (G.T.zero e)[m]? with
            | none => rw [hzm] at hc; cases hc
            | some v =>
              rw [hzm] at hc; simp only [Option.map_some, Option.some.injEq] at hc; subst hc
              have hml : m < sz := by rw [← hzsz]; exact (List.getElem?_eq_some_iff.1 hzm).1
              exact ⟨v, (hzg q m hq hml).trans hzm, .lit v (hone v (List.mem_of_getElem? hzm))⟩
          · cases hy) hg
      refine ⟨.tuple #[], _, S, O, β, .inl ?_, .tup [] [] rfl (fun j c x hc => by simp at hc), hsim⟩
      obtain ⟨m, hm⟩ : ∃ m, j - i = m + 1 := ⟨j - i - 1, by omega⟩
      rw [hm] at hst hxe ⊢
      simp [execOp, resolve, invoke, builtin, hxe, Builtin.clear_, run_underlying hu, hz, hst]

/-- What is left of a row, under a new name. -/
theorem vw_narrow {c : Code} {Q : Exit → Env → Prop} {t k sz m : Nat} (d : Nat) {e : TypeId} {xs : List (List AV)} (ht : look E.sl t = some (.rsl k sz 0 m)) (hk : look E.ob k = some (.row e sz xs)) (hm : m ≤ xs.length) (hd : look E.ob d = none) (hp : d ∉ Γ.par)
    (h : VW G Γ c Q ⟨(t, .row d) :: E.sl, (d, .row e sz (xs.take m)) :: (k, .dead) :: E.ob, E.n⟩) : VW G Γ c Q E := by
  intro a w hs
  obtain ⟨S, O, β, hs⟩ := hs
  refine h a w ?_
  obtain ⟨b, cap, n, hl, _, _, hxe⟩ := (hs.sl t _ ht).rsl_inv
  obtain ⟨vs, rfl, hO, hg, hcap, hcm, hvl, hsx, hm', hr⟩ := hs.rowAt hk hl
  have hml : (xs.take m).length = m := by rw [List.length_take]; omega
  have o1 : ∀ (i : Nat) (x : List AV), (xs.take m)[i]? = some x → x.length = sz := by
    intro i x hx
    rw [List.getElem?_take] at hx
    split at hx
    · exact hsx i x hx
    · cases hx
  have o2 : ∀ (i : Nat) (x : List AV) (j : Nat) (c : AV), (xs.take m)[i]? = some x → x[j]? = some c → ∃ v, vs[i * sz + j]? = some v ∧ PRep S w c v := by
    intro i x j c hx hc
    rw [List.getElem?_take] at hx
    split at hx
    · exact hr i x j c hx hc
    · cases hx
  have hreb := hs.rebind hk hd hp (w' := w) (Fr.refl _ _) (N := fun b => O k b) (fun b hb => .inl hb) (.at b cap m) (.row e sz (xs.take m)) ⟨o1, by omega, .inr ⟨b, cap, vs, by rw [hml]; exact addB_same _ _ _, .inr ⟨rfl, hO⟩, hg, by omega, hcm, hvl, o2⟩⟩
  refine ⟨_, _, _, ⟨hreb.h, ?_, hreb.n, hreb.df, hreb.s0, hreb.s1, hreb.o1, hreb.b0, hreb.fr⟩⟩
  intro t' v hv
  have hv' : look ((t, AV.row d) :: E.sl) t' = some v := hv
  rw [look_cons] at hv'
  by_cases he : t = t'
  · rw [if_pos he] at hv'; cases hv'; subst he
    have e0 : (if cap = 0 then 0 else 0 * sz) = 0 := by split <;> simp
    rw [hxe, e0, Nat.sub_zero, Nat.sub_zero]
    exact .row d (.at b cap m) (addB_same _ _ _)
  · rw [if_neg he] at hv'; exact hreb.sl t' v hv'
end

section
variable {G : Prg} {Γ : Ctx} {ops : Array Oper} {fin : List Lg → Prop} {K : Env → Prop} {os : List Oper} {log : List Lg} {sl : List (Nat × AV)} {ob : List (Nat × AO)} {nn : Nat} {d : Nat} {ty : TypeId} {pos : String} {aft : Array Edge} {gd : Option (Nat × Bool)}
theorem u_callO {f : FuncId} {fx : Operand} {xs : List Operand} {args as caps : List AV} {res : AV} {obc ob' ob0 : List (Nat × AO)} {ats : Array TypeId} (rl : List (Nat × Nat)) (bor dd : List Nat) (hfx : evo (look sl) fx = some (.clo f caps)) (hx : evoA (look sl) xs = some as) (hV : VFun G f args obc res ob')
    (hinc : ∀ k o, look ob0 k = some o → look ob k = some o) (hob : WkOf ob0 obc (ren rl) (fun k => k ∈ bor) obc) (hsub : F2 (Sub ob0 obc (ren rl) (fun k => k ∈ bor)) args (as ++ caps)) (hok : lendOk rl bor dd ob0 obc ob' = true)
    (hf1 : freshOk rl ob' ob = true) (hf2 : ∀ k, look ob' k ≠ none → ren rl k = none → k ∉ Γ.par) (hd : Nat.blt d nn = true) (hg : GOk ops sl nn gd)
    (kk' : VR G Γ ops fin K os (log ++ [⟨some d, gsl ops gd ++ (sl1 fx ++ xs.flatMap sl1), ob0.map (·.1) ++ ob'.map (·.1) ++ dd, (ob' ++ deads dd).map (·.1)⟩]) ⟨(d, res) :: sl, ob' ++ deads dd ++ ob, nn⟩) :
    VR G Γ ops fin K (⟨some d, .call { callee := .value fx, args := xs.toArray, argTypes := ats }, ty, pos, aft, gd⟩ :: os) log ⟨sl, ob, nn⟩ :=
  u_op (op_callO (G := G) (Γ := Γ) (E := ⟨sl, ob, nn⟩) (dst := some d) (ty := ty) (pos := pos) (aft := aft) (gd := gd) rl bor dd hV hfx hx hinc hob hsub hok hf1 hf2 (dlt hd)) hg kk'
theorem u_callP {f : FuncId} {fx : Operand} {xs : List Operand} {args as caps : List AV} {res : AV} {obc ob' ob0 : List (Nat × AO)} {ats : Array TypeId} (rl : List (Nat × Nat)) (bor dd : List Nat) (hfx : evo (look sl) fx = some (.clo f caps)) (hx : evoA (look sl) xs = some as) (hV : VFun G f args obc res ob')
    (hinc : ∀ k o, look ob0 k = some o → look ob k = some o) (hob : WkOf ob0 obc (ren rl) (fun k => k ∈ bor) obc) (hsub : F2 (Sub ob0 obc (ren rl) (fun k => k ∈ bor)) args (as ++ caps)) (hok : lendOk rl bor dd ob0 obc ob' = true)
    (hf1 : freshOk rl ob' ob = true) (hf2 : ∀ k, look ob' k ≠ none → ren rl k = none → k ∉ Γ.par) (hg : GOk ops sl nn gd)
    (kk' : VR G Γ ops fin K os (log ++ [⟨none, gsl ops gd ++ (sl1 fx ++ xs.flatMap sl1), ob0.map (·.1) ++ ob'.map (·.1) ++ dd, (ob' ++ deads dd).map (·.1)⟩]) ⟨sl, ob' ++ deads dd ++ ob, nn⟩) :
    VR G Γ ops fin K (⟨none, .call { callee := .value fx, args := xs.toArray, argTypes := ats }, ty, pos, aft, gd⟩ :: os) log ⟨sl, ob, nn⟩ :=
  u_op (op_callO (G := G) (Γ := Γ) (E := ⟨sl, ob, nn⟩) (dst := none) (ty := ty) (pos := pos) (aft := aft) (gd := gd) rl bor dd hV hfx hx hinc hob hsub hok hf1 hf2 dno) hg kk'
/-- The objects, written out anew. -/
theorem u_ob {ob2 : List (Nat × AO)} (h : ob = ob2) (kk' : VR G Γ ops fin K os log ⟨sl, ob2, nn⟩) : VR G Γ ops fin K os log ⟨sl, ob, nn⟩ := h ▸ kk'
theorem u_sliceRHi {t e e' : TypeId} {x y : Operand} {k sz : Nat} {z : Int} {xs : List (List AV)} (h : Nat) (hx : evo (look sl) x = some (.row k)) (hk : look ob k = some (.row e' sz xs)) (hne : 0 < xs.length) (hy : evo (look sl) y = some (.lit (.int .i64 z))) (hz : z = h) (hh : h ≤ xs.length) (ht : G.T.kind t = .slice e) (he : (G.T.kind e).known = true) (hsz : G.T.size e = sz) (hd : Nat.blt d nn = true) (hg : GOk ops sl nn gd)
    (kk' : VR G Γ ops fin K os (log ++ [⟨some d, gsl ops gd ++ (sl1 x ++ slO none ++ slO (some y)), [k], []⟩]) ⟨(d, .rsl k sz 0 h) :: sl, ob, nn⟩) : VR G Γ ops fin K (⟨some d, .slice t x none (some y) none, ty, pos, aft, gd⟩ :: os) log ⟨sl, ob, nn⟩ := by
  subst hz
  exact u_op (op_sliceR (G := G) (Γ := Γ) (E := ⟨sl, ob, nn⟩) (dst := some d) (ty := ty) (pos := pos) (aft := aft) (gd := gd) (lo := none) (hi := some y) (l := 0) hx hk hne rfl hy (Nat.zero_le _) hh ht he hsz (dlt hd)) hg kk'
theorem u_sliceRLo {t e e' : TypeId} {x y : Operand} {k sz : Nat} {z : Int} {xs : List (List AV)} (h : Nat) (hx : evo (look sl) x = some (.row k)) (hk : look ob k = some (.row e' sz xs)) (hne : 0 < xs.length) (hy : evo (look sl) y = some (.lit (.int .i64 z))) (hz : z = h) (hh : h ≤ xs.length) (ht : G.T.kind t = .slice e) (he : (G.T.kind e).known = true) (hsz : G.T.size e = sz) (hd : Nat.blt d nn = true) (hg : GOk ops sl nn gd)
    (kk' : VR G Γ ops fin K os (log ++ [⟨some d, gsl ops gd ++ (sl1 x ++ slO (some y) ++ slO none), [k], []⟩]) ⟨(d, .rsl k sz h xs.length) :: sl, ob, nn⟩) : VR G Γ ops fin K (⟨some d, .slice t x (some y) none none, ty, pos, aft, gd⟩ :: os) log ⟨sl, ob, nn⟩ := by
  subst hz
  exact u_op (op_sliceR (G := G) (Γ := Γ) (E := ⟨sl, ob, nn⟩) (dst := some d) (ty := ty) (pos := pos) (aft := aft) (gd := gd) (lo := some y) (hi := none) (l := h) (h := xs.length) hx hk hne hy rfl hh (Nat.le_refl _) ht he hsz (dlt hd)) hg kk'
theorem u_sliceRS {t e e' : TypeId} {x y y' : Operand} {k sz m : Nat} {z z' : Int} {xs : List (List AV)} (l h : Nat) (hx : evo (look sl) x = some (.rsl k sz 0 m)) (hk : look ob k = some (.row e' sz xs)) (hy : evo (look sl) y = some (.lit (.int .i64 z))) (hy' : evo (look sl) y' = some (.lit (.int .i64 z'))) (hz : z = l) (hz' : z' = h) (hlh : l ≤ h) (hh : h ≤ xs.length) (ht : G.T.kind t = .slice e) (he : (G.T.kind e).known = true) (hsz : G.T.size e = sz) (hd : Nat.blt d nn = true) (hg : GOk ops sl nn gd)
    (kk' : VR G Γ ops fin K os (log ++ [⟨some d, gsl ops gd ++ (sl1 x ++ slO (some y) ++ slO (some y')), [k], []⟩]) ⟨(d, .rsl k sz l h) :: sl, ob, nn⟩) : VR G Γ ops fin K (⟨some d, .slice t x (some y) (some y') none, ty, pos, aft, gd⟩ :: os) log ⟨sl, ob, nn⟩ := by
  subst hz hz'
  exact u_op (op_sliceRS (G := G) (Γ := Γ) (E := ⟨sl, ob, nn⟩) (dst := some d) (ty := ty) (pos := pos) (aft := aft) (gd := gd) (lo := some y) (hi := some y') (l := l) (h := h) hx hk hy hy' hlh hh ht he hsz (dlt hd)) hg kk'
theorem u_slice3R {t e e' : TypeId} {x y z u : Operand} {k sz : Nat} {m m' m'' : Int} {xs : List (List AV)} (i j : Nat) (hx : evo (look sl) x = some (.row k)) (hk : look ob k = some (.row e' sz xs)) (hne : 0 < xs.length) (hy : evo (look sl) y = some (.lit (.int .i64 m))) (hz : evo (look sl) z = some (.lit (.int .i64 m'))) (hu : evo (look sl) u = some (.lit (.int .i64 m'')))
    (hm : m = i) (hm' : m' = j) (hm'' : m'' = xs.length) (hij : i ≤ j) (hj : j ≤ xs.length) (ht : G.T.kind t = .slice e) (he : (G.T.kind e).known = true) (hd : Nat.blt d nn = true) (hg : GOk ops sl nn gd)
    (kk' : VR G Γ ops fin K os (log ++ [⟨some d, gsl ops gd ++ (sl1 x ++ sl1 y ++ sl1 z ++ sl1 u), [k], []⟩]) ⟨(d, .any) :: sl, ob, nn⟩) : VR G Γ ops fin K (⟨some d, .slice t x (some y) (some z) (some u), ty, pos, aft, gd⟩ :: os) log ⟨sl, ob, nn⟩ := by
  subst hm hm' hm''
  exact u_op (op_slice3R (G := G) (Γ := Γ) (E := ⟨sl, ob, nn⟩) (dst := some d) (ty := ty) (pos := pos) (aft := aft) (gd := gd) hx hk hne hy hz hu hij hj ht he (dlt hd)) hg kk'
theorem u_lenRS {t e : TypeId} {x : Operand} {k sz i j : Nat} (hx : evo (look sl) x = some (.rsl k sz i j)) (ht : G.T.kind t = .slice e) (hd : Nat.blt d nn = true) (hg : GOk ops sl nn gd)
    (kk' : VR G Γ ops fin K os (log ++ [⟨some d, gsl ops gd ++ (sl1 x), [], []⟩]) ⟨(d, .lit (.int .i64 (j - i : Nat))) :: sl, ob, nn⟩) : VR G Γ ops fin K (⟨some d, .call { callee := .builtin .len, args := #[x], argTypes := #[t] }, ty, pos, aft, gd⟩ :: os) log ⟨sl, ob, nn⟩ :=
  u_op (op_lenRS (G := G) (Γ := Γ) (E := ⟨sl, ob, nn⟩) (dst := some d) (ty := ty) (pos := pos) (aft := aft) (gd := gd) hx ht (dlt hd)) hg kk'
theorem u_delR {t e : TypeId} {x y : Operand} {k sz i j q m : Nat} {xs ys : List (List AV)} (hx : evo (look sl) x = some (.rsl k sz 0 i)) (hy : evo (look sl) y = some (.rsl k sz j q)) (hk : look ob k = some (.row e sz xs)) (hq : q = xs.length) (hij : i ≤ j) (hjn : j ≤ xs.length) (ht : G.T.kind t = .slice e) (he : (G.T.kind e).known = true) (hsz : G.T.size e = sz) (h0 : sz = m + 1)
    (hys : xs.take i ++ xs.drop j ++ xs.drop (i + (xs.length - j)) = ys) (hd : Nat.blt d nn = true) (hg : GOk ops sl nn gd)
    (kk' : VR G Γ ops fin K os (log ++ [⟨some d, gsl ops gd ++ (sl1 x ++ sl1 y), [k], [k]⟩]) ⟨(d, .rsl k sz 0 (i + (xs.length - j))) :: sl, (k, .row e sz ys) :: ob, nn⟩) : VR G Γ ops fin K (⟨some d, .call { callee := .builtin .append, args := #[x, y], argTypes := #[t, t] }, ty, pos, aft, gd⟩ :: os) log ⟨sl, ob, nn⟩ := by
  subst hq hys
  exact u_op (op_delR (G := G) (Γ := Γ) (E := ⟨sl, ob, nn⟩) (dst := some d) (ty := ty) (pos := pos) (aft := aft) (gd := gd) hx hy hk hij hjn ht he hsz (by omega) (dlt hd)) hg kk'
theorem u_clearR {t e : TypeId} {x : Operand} {k sz i j : Nat} {xs ys : List (List AV)} (hx : evo (look sl) x = some (.rsl k sz i j)) (hk : look ob k = some (.row e sz xs)) (hjn : j ≤ xs.length) (ht : G.T.kind t = .slice e) (he : (G.T.kind e).known = true) (hsz : G.T.size e = sz)
    (hys : xs.take i ++ List.replicate (j - i) ((G.T.zero e).map .lit) ++ xs.drop (i + (j - i)) = ys) (hg : GOk ops sl nn gd)
    (kk' : VR G Γ ops fin K os (log ++ [⟨none, gsl ops gd ++ (sl1 x), [k], [k]⟩]) ⟨sl, (k, .row e sz ys) :: ob, nn⟩) : VR G Γ ops fin K (⟨none, .call { callee := .builtin .clear, args := #[x], argTypes := #[t] }, ty, pos, aft, gd⟩ :: os) log ⟨sl, ob, nn⟩ := by
  subst hys
  exact u_op (op_clearR (G := G) (Γ := Γ) (E := ⟨sl, ob, nn⟩) (dst := none) (ty := ty) (pos := pos) (aft := aft) (gd := gd) hx hk hjn ht he hsz dno) hg kk'
end
end Go.Vc

/-! Aids for printed walks: ends with objects, calls that are lent some, ways that meet again. -/
set_option linter.unusedVariables false
set_option linter.unusedSimpArgs false
namespace Go.Vc
open Go Go.RowKit

theorem inc_nil {ob : List (Nat × AO)} : ∀ k o, look ([] : List (Nat × AO)) k = some o → look ob k = some o := fun k o h => by simp [look] at h
theorem inc_cons {ob r : List (Nat × AO)} {k0 : Nat} {o0 : AO} (h : look ob k0 = some o0) (hr : ∀ k o, look r k = some o → look ob k = some o) : ∀ k o, look ((k0, o0) :: r) k = some o → look ob k = some o := by
  intro k o hk
  rw [look_cons] at hk
  by_cases he : k0 = k
  · rw [if_pos he] at hk; cases hk; subst he; exact h
  · rw [if_neg he] at hk; exact hr k o hk

theorem newPar {l : List Nat} {par : List (Nat × AO)} {rl : List (Nat × Nat)} {ob' : List (Nat × AO)} (hp : l = par.map (·.1)) (h : freshPar rl ob' par = true) : ∀ k, look ob' k ≠ none → ren rl k = none → k ∉ l := by
  intro k hk hr hm
  obtain ⟨p, hpm, rfl⟩ := look_mem hk
  have := List.all_eq_true.1 h p hpm
  simp only [Bool.or_eq_true] at this
  rcases this with h1 | h1
  · exact isSome_ne h1 hr
  · rw [hp] at hm
    exact look_of_key hm (isNone_eq h1)

/-- What was handed in keeps its name. -/
theorem parOk {l : List Nat} {par : List (Nat × AO)} (hp : l = par.map (·.1)) {rl : List (Nat × Nat)} {E' E : Env} (h : (par.all fun p => (look E'.ob p.1).isNone || ((match look rl p.1 with | some k => Nat.beq p.1 k | none => false) && (look E.ob p.1).isSome)) = true) :
    ∀ k, k ∈ l → look E'.ob k ≠ none → ren rl k = some k ∧ look E.ob k ≠ none := by
  intro k hk hn
  rw [hp] at hk
  obtain ⟨p, hpm, rfl⟩ := List.mem_map.1 hk
  have := List.all_eq_true.1 h p hpm
  simp only [Bool.or_eq_true, Bool.and_eq_true] at this
  rcases this with h1 | ⟨h1, h2⟩
  · exact absurd (isNone_eq h1) hn
  · refine ⟨?_, isSome_ne h2⟩
    unfold ren
    cases hl : look rl p.1 with
    | none => rw [hl] at h1; cases h1
    | some j => rw [hl] at h1; rw [Nat.eq_of_beq_eq_true h1]

section
variable {G : Prg} {Γ : Ctx} {Q : Exit → Env → Prop} {E : Env}
/-- Ways that meet again, seen as one. -/
theorem vw_meet {x y : Code} (A : Prop) (E0 : Env) (h : VW G Γ x (fun e E' => match e with | .normal => A ∧ ∃ ρ, Wk ρ Γ.par E' E0 | e => Q e E') E) (h2 : A → VW G Γ y Q E0) : VW G Γ (.seq x y) Q E := by
  refine vw_seq (vw_mono h ?_)
  intro e E' he
  cases e with
  | normal => obtain ⟨ha, ρ, hw⟩ := he; exact vw_wk ρ hw (h2 ha)
  | _ => exact he

theorem fin' {rs : List ResultVar} {rv : List AV} {res : AV} {e : Exit} {l : List Nat} {ob' : List (Nat × AO)} (rl : List (Nat × Nat)) (he : e = .normal ∨ e = .ret) (hr : F2 (ResV G E) rs rv) (hw : Wk (ren rl) l ⟨[(0, resAV rv)], E.ob, 0⟩ ⟨[(0, res)], ob', 0⟩) :
    (e = .normal ∨ e = .ret) ∧ ∃ rv ρ, F2 (ResV G E) rs rv ∧ Wk ρ l ⟨[(0, resAV rv)], E.ob, 0⟩ ⟨[(0, res)], ob', 0⟩ := ⟨he, rv, ren rl, hr, hw⟩
end

section
variable {ob ob' : List (Nat × AO)} {ρ : Nat → Option Nat} {fz : Nat → Prop}
theorem subC {k : IntKind} {m n : Int} (h : m = n) {as bs : List AV} (r : F2 (Sub ob ob' ρ fz) as bs) : F2 (Sub ob ob' ρ fz) (.lit (.int k m) :: as) (.lit (.int k n) :: bs) := .cons (subI h) r
end

/-- A contract says less of its result; objects were lent. -/
theorem VFun.resWkO {G : Prg} {f : FuncId} {args : List AV} {ob : List (Nat × AO)} {res res2 : AV} {ob1 ob2 : List (Nat × AO)} (h : VFun G f args ob res ob1) (ρ : Nat → Option Nat) (hk : Wk ρ (ob.map (·.1)) ⟨[(0, res)], ob1, 0⟩ ⟨[(0, res2)], ob2, 0⟩) : VFun G f args ob res2 ob2 := by
  refine ⟨h.1, fun S O β w vs hH hA => (h.2 S O β w vs hH hA).mono ?_⟩
  rintro e w' ⟨x, rfl, S', O', β', hH', hx', hS1, hS2, hO', hb, hfr⟩
  obtain ⟨v, hv, hsub⟩ := hk.sl 0 res2 (by rw [look_cons, if_pos rfl])
  have hv' : v = res := by
    have : look [(0, res)] 0 = some v := hv
    rw [look_cons, if_pos rfl] at this; cases this; rfl
  subst hv'
  refine ⟨x, rfl, _, _, _, hH'.wk hk.inj (fun i j hi hj hf => hf i hi hj) hk.ob, hx'.wk hH' hsub, fun b hb => .inl (hS1 b hb), ?_, ?_, ?_, hfr⟩
  · rintro b (hb | ⟨k, _, hb⟩)
    · exact hS2 b hb
    · rcases hO' k b hb with h1 | h1
      · exact .inr (.inl h1)
      · exact .inr (.inr h1)
  · rintro i b ⟨_, k, _, hb⟩
    exact hO' k b hb
  · intro k h1 h2
    obtain ⟨h3, h4⟩ := hk.par k (look_key h1) h2
    exact (wkB_some h3 h2).trans (hb k h1 h4)
end Go.Vc

/-! Texts as bytes. -/
set_option linter.unusedVariables false
set_option linter.unusedSimpArgs false
namespace Go.Vc
open Go Go.RowKit

section
variable {G : Prg} {Γ : Ctx} {E : Env} {dst : Option Tmp} {ty : TypeId} {pos : String} {aft : Array Edge} {gd : Option (Nat × Bool)}
theorem op_convTB {s t e : TypeId} {x : Operand} {bs : List UInt8} (hx : evo (look E.sl) x = some (.lit (.string ⟨bs.toArray⟩))) (hs' : G.T.kind s = .str) (ht : G.T.kind t = .slice e) (he : G.T.kind e = .int .u8) (hl : bs.length ≤ 140737488355328) (hd : ∀ d, dst = some d → d < E.n) :
    OpS G Γ ⟨dst, .convert s t x, ty, pos, aft, gd⟩ E (.shr 1 (byteCells bs)) [] (sl1 x) [] :=
  OpS.turns hd fun E' hn h1 h2 S O β a w hs => by
    have hxe := hs.lit ((evo_congr h1).trans hx)
    have hrun := Lib.run_convert_string_bytes (P := G.P) w s t e ⟨bs.toArray⟩ (underlying_str G.ok hs') (underlying_slice G.ok ht) (underlying_int G.ok he)
    have hsz : (ByteArray.mk bs.toArray).size = bs.length := by simp [ByteArray.size]
    rw [hsz] at hrun
    have hfr : Fr (fun _ => False) w (Lib.bytesWorld w e ⟨bs.toArray⟩) := by
      refine ⟨?_, ?_, ?_, by rw [Lib.bytesWorld_size]; omega, fun b hb _ => Lib.bytesWorld_at_old w e _ b hb⟩
      all_goals simp [Lib.bytesWorld, World.freeze, World.alloc, World.drew, -World.alloc_eq, -World.drew_eq]
    have hg := hs.grow (S' := fun b => S b ∨ b = w.heap.size) hfr (fun b hb => .inl hb) (fun b hb => by
      rw [Lib.bytesWorld_size]
      rcases hb with hb | rfl
      · exact ⟨.inl hb, by have := hs.h.sh b hb; omega⟩
      · exact ⟨.inr (Nat.le_refl _), by omega⟩)
    refine ⟨_, _, _, O, β, .inl (by simp only [execOp, hxe, Sem.run_bind, hrun, Result.andThen_ok]; rfl), ?_, hg⟩
    refine .pure _ _ ?_
    have hbl : (byteCells bs).length = bs.length := byteCells_length bs
    have key : ∀ (i : Nat) (y : List AV) (j : Nat) (c : AV), (byteCells bs)[i]? = some y → y[j]? = some c → j = 0 ∧ i < bs.length ∧ c = .lit (.int .u8 ((bs.getD i 0).toNat : Int)) := by
      intro i y j c hy hc
      simp only [byteCells, List.getElem?_map, Option.map_eq_some_iff] at hy
      obtain ⟨n, hn, rfl⟩ := hy
      have hj : j = 0 := by
        cases j with
        | zero => rfl
        | succ j => simp at hc
      subst hj
      simp only [List.getElem?_cons_zero, Option.some.injEq] at hc
      refine ⟨rfl, (List.getElem?_eq_some_iff.1 hn).1, ?_⟩
      rw [← hc]; simp [List.getD, hn]
    have hge := grownCap_ge w bs.length 0 e
    have hp := PRep.shr (S := fun b => S b ∨ b = w.heap.size) (w := Lib.bytesWorld w e ⟨bs.toArray⟩) 1 (byteCells bs) w.heap.size 0 (grownCap w bs.length 0 e) (fun i _ => .int .u8 ((bs.getD i 0).toNat : Int)) (.inr rfl) (by rw [hbl]; simpa using hge) (by rw [hbl]; simpa [maxSl] using hl)
      (fun i y hy => by simp only [byteCells, List.getElem?_map, Option.map_eq_some_iff] at hy; obtain ⟨n, _, rfl⟩ := hy; rfl)
      (fun i y j c hy hc => by
        obtain ⟨rfl, hi, rfl⟩ := key i y j c hy hc
        have := Lib.bytesWorld_cell w e ⟨bs.toArray⟩ i (by rw [hsz]; exact hi)
        rw [Nat.zero_add, Nat.mul_one, Nat.add_zero]; simpa using this)
      (fun i y j c hy hc => by
        obtain ⟨rfl, hi, rfl⟩ := key i y j c hy hc
        exact .lit _ rfl)
    rw [hbl] at hp
    exact hp
end

section
variable {G : Prg} {Γ : Ctx} {ops : Array Oper} {fin : List Lg → Prop} {K : Env → Prop} {os : List Oper} {log : List Lg} {sl : List (Nat × AV)} {ob : List (Nat × AO)} {nn : Nat} {d : Nat} {ty : TypeId} {pos : String} {aft : Array Edge} {gd : Option (Nat × Bool)}
theorem u_convTB {s t e : TypeId} {x : Operand} {v : ByteArray} {bs : List UInt8} (hx : evo (look sl) x = some (.lit (.string v))) (hv : v = ⟨bs.toArray⟩) (hs' : G.T.kind s = .str) (ht : G.T.kind t = .slice e) (he : G.T.kind e = .int .u8) (hl : bs.length ≤ 140737488355328) (hd : Nat.blt d nn = true) (hg : GOk ops sl nn gd)
    (kk' : VR G Γ ops fin K os (log ++ [⟨some d, gsl ops gd ++ (sl1 x), [], []⟩]) ⟨(d, .shr 1 (byteCells bs)) :: sl, ob, nn⟩) : VR G Γ ops fin K (⟨some d, .convert s t x, ty, pos, aft, gd⟩ :: os) log ⟨sl, ob, nn⟩ := by
  subst hv
  exact u_op (op_convTB (G := G) (Γ := Γ) (E := ⟨sl, ob, nn⟩) (dst := some d) (ty := ty) (pos := pos) (aft := aft) (gd := gd) hx hs' ht he hl (dlt hd)) hg kk'
end

theorem text_app (a b : List UInt8) : (⟨a.toArray⟩ : ByteArray) ++ ⟨b.toArray⟩ = ⟨(a ++ b).toArray⟩ := by
  apply ByteArray.ext
  simp
theorem text_size (a : List UInt8) : (⟨a.toArray⟩ : ByteArray).size = a.length := by simp [ByteArray.size]
end Go.Vc

/-! What comes in, of whatever shape: numbers, truth values, structs, and slices of them, as the walks see them. -/
set_option linter.unusedVariables false
namespace Go.Vc
open Go Go.RowKit Go.ChangeShapes

mutual
inductive Shp (T : Tab) : TypeId → List AV → Prop
  | int {t : TypeId} {k : IntKind} {n : Int} : T.kind t = .int k → (Lit.int k n).wf = true → Shp T t [.lit (.int k n)]
  | bool {t : TypeId} {b : Bool} : T.kind t = .bool → Shp T t [.lit (.bool b)]
  | slice {t e : TypeId} {xs : List (List AV)} : T.kind t = .slice e → xs.length * T.bytes e ≤ reachBytes → (∀ x, x ∈ xs → Shp T e x) → Shp T t [.shr (T.size e) xs]
  | struct {t : TypeId} {fs : List (Nat × TypeId)} {as : List AV} : T.kind t = .struct fs → ShpL T fs as → Shp T t as
inductive ShpL (T : Tab) : List (Nat × TypeId) → List AV → Prop
  | nil : ShpL T [] []
  | cons {off : Nat} {t : TypeId} {r : List (Nat × TypeId)} {a as : List AV} : Shp T t a → ShpL T r as → ShpL T ((off, t) :: r) (a ++ as)
end

section
variable {T : Tab}
theorem Shp.int_inv {t : TypeId} {k : IntKind} {as : List AV} (hk : T.kind t = .int k) (h : Shp T t as) : ∃ n, as = [.lit (.int k n)] ∧ (Lit.int k n).wf = true := by
  cases h with
  | int h1 h2 => rw [hk] at h1; cases h1; exact ⟨_, rfl, h2⟩
  | bool h1 => rw [hk] at h1; cases h1
  | slice h1 => rw [hk] at h1; cases h1
  | struct h1 => rw [hk] at h1; cases h1
theorem Shp.bool_inv {t : TypeId} {as : List AV} (hk : T.kind t = .bool) (h : Shp T t as) : ∃ b, as = [.lit (.bool b)] := by
  cases h with
  | int h1 => rw [hk] at h1; cases h1
  | bool h1 => exact ⟨_, rfl⟩
  | slice h1 => rw [hk] at h1; cases h1
  | struct h1 => rw [hk] at h1; cases h1
theorem Shp.slice_inv {t e : TypeId} {as : List AV} (hk : T.kind t = .slice e) (h : Shp T t as) : ∃ xs, as = [.shr (T.size e) xs] ∧ xs.length * T.bytes e ≤ reachBytes ∧ ∀ x, x ∈ xs → Shp T e x := by
  cases h with
  | int h1 => rw [hk] at h1; cases h1
  | bool h1 => rw [hk] at h1; cases h1
  | slice h1 h2 h3 => rw [hk] at h1; cases h1; exact ⟨_, rfl, h2, h3⟩
  | struct h1 => rw [hk] at h1; cases h1
theorem Shp.struct_inv {t : TypeId} {fs : List (Nat × TypeId)} {as : List AV} (hk : T.kind t = .struct fs) (h : Shp T t as) : ShpL T fs as := by
  cases h with
  | int h1 => rw [hk] at h1; cases h1
  | bool h1 => rw [hk] at h1; cases h1
  | slice h1 => rw [hk] at h1; cases h1
  | struct h1 h2 => rw [hk] at h1; cases h1; exact h2
theorem ShpL.cons_inv {off : Nat} {t : TypeId} {r : List (Nat × TypeId)} {as : List AV} (h : ShpL T ((off, t) :: r) as) : ∃ a bs, as = a ++ bs ∧ Shp T t a ∧ ShpL T r bs := by
  cases h with
  | cons h1 h2 => exact ⟨_, _, rfl, h1, h2⟩
theorem ShpL.nil_inv {as : List AV} (h : ShpL T [] as) : as = [] := by
  cases h; rfl

/-- Elements that each are of one form. -/
theorem map_of_all {α : Type} {enc : α → List AV} : ∀ {xs : List (List AV)}, (∀ x, x ∈ xs → ∃ m, x = enc m) → ∃ l : List α, xs = l.map enc
  | [], _ => ⟨[], rfl⟩
  | x :: r, h => by
    obtain ⟨m, rfl⟩ := h x (by simp)
    obtain ⟨l, rfl⟩ := map_of_all (xs := r) fun y hy => h y (by simp [hy])
    exact ⟨m :: l, rfl⟩

theorem map_of_allP {α : Type} {enc : α → List AV} {Q : α → Prop} : ∀ {xs : List (List AV)}, (∀ x, x ∈ xs → ∃ m, x = enc m ∧ Q m) → ∃ l : List α, xs = l.map enc ∧ ∀ m, m ∈ l → Q m
  | [], _ => ⟨[], rfl, by simp⟩
  | x :: r, h => by
    obtain ⟨m, rfl, hm⟩ := h x (by simp)
    obtain ⟨l, rfl, hl⟩ := map_of_allP (xs := r) fun y hy => h y (by simp [hy])
    exact ⟨m :: l, rfl, fun y hy => by
      simp only [List.mem_cons] at hy
      rcases hy with rfl | hy
      · exact hm
      · exact hl y hy⟩

theorem Shp.bytes_inv {t e : TypeId} {as : List AV} (hk : T.kind t = .slice e) (he : T.kind e = .int .u8) (hs : T.size e = 1) (hb : T.bytes e = 1) (h : Shp T t as) : ∃ bs : List UInt8, as = [.shr 1 (byteCells bs)] ∧ bs.length ≤ reachBytes := by
  obtain ⟨xs, rfl, hl, hx⟩ := h.slice_inv hk
  obtain ⟨l, rfl⟩ := map_of_all (enc := fun b : UInt8 => [AV.lit (.int .u8 b.toNat)]) (xs := xs) fun x hm => by
    obtain ⟨n, rfl, hw⟩ := (hx x hm).int_inv he
    have h2 : (decide (IntKind.min .u8 ≤ n) && decide (n ≤ IntKind.max .u8)) = true := hw
    have := (Bool.and_eq_true _ _).mp h2
    have h3 := And.intro (of_decide_eq_true this.1) (of_decide_eq_true this.2)
    have e1 : IntKind.min .u8 = 0 := by decide
    have e2 : IntKind.max .u8 = 255 := by decide
    rw [e1, e2] at h3
    refine ⟨UInt8.ofNat n.toNat, ?_⟩
    have h256 : n.toNat < 256 := by omega
    rw [UInt8.toNat_ofNat_of_lt' (by simpa using h256)]
    congr 3; omega
  rw [hs]
  exact ⟨l, rfl, by rw [hb, List.length_map] at hl; omega⟩

theorem wf_i64 {n : Int} (h : (Lit.int .i64 n).wf = true) : inI n := by
  have h2 : (decide (IntKind.min .i64 ≤ n) && decide (n ≤ IntKind.max .i64)) = true := h
  have := (Bool.and_eq_true _ _).mp h2
  have := And.intro (of_decide_eq_true this.1) (of_decide_eq_true this.2)
  have e1 : IntKind.min .i64 = -9223372036854775808 := by decide
  have e2 : IntKind.max .i64 = 9223372036854775807 := by decide
  rw [e1, e2] at this; exact this

theorem Shp.ints_inv {t e : TypeId} {as : List AV} (hk : T.kind t = .slice e) (he : T.kind e = .int .i64) (hs : T.size e = 1) (hb : T.bytes e = 8) (h : Shp T t as) : ∃ l : List Int, as = [.shr 1 (intCells l)] ∧ l.length * 8 ≤ reachBytes ∧ ∀ n, n ∈ l → inI n := by
  obtain ⟨xs, rfl, hl, hx⟩ := h.slice_inv hk
  obtain ⟨l, rfl, hq⟩ := map_of_allP (enc := fun n : Int => [AV.lit (.int .i64 n)]) (Q := inI) (xs := xs) fun x hm => by
    obtain ⟨n, rfl, hw⟩ := (hx x hm).int_inv he
    exact ⟨n, rfl, wf_i64 hw⟩
  rw [hs]
  exact ⟨l, rfl, by rw [hb, List.length_map] at hl; exact hl, hq⟩

def contig (T : Tab) : Nat → List (Nat × TypeId) → Nat → Bool
  | off, [], tot => Nat.beq off tot
  | off, p :: r, tot => Nat.beq p.1 off && contig T (off + T.size p.2) r tot

/-- Of numbers, truth values, structs and slices alone. -/
def plainB (T : Tab) : Nat → TypeId → Bool
  | 0, _ => false
  | n + 1, t => match T.kind t with
    | .int _ | .bool => true
    | .slice e => (T.kind e).known && (Nat.blt 0 (T.size e) && (Nat.blt 0 (T.bytes e) && plainB T n e))
    | .struct fs => contig T 0 fs (T.size t) && fs.all fun p => (T.kind p.2).known && plainB T n p.2
    | _ => false
end

theorem weightsAll_of {H : Type} {P : Program} {e : TypeId} : ∀ {l : List (DataW H)} {d : DataW H}, d ∈ l → ∀ n ∈ d.weights P e, n ∈ DataW.weightsAll P e l
  | d0 :: r, d, hd, n, hn => by
    simp only [DataW.weightsAll, List.mem_append]
    simp only [List.mem_cons] at hd
    rcases hd with rfl | hd
    · exact .inl hn
    · exact .inr (weightsAll_of hd n hn)
theorem weightsEach_of {H : Type} {P : Program} : ∀ {ts : List TypeId} {ds : List (DataW H)} {j : Nat} {t : TypeId} {d : DataW H}, ts[j]? = some t → ds[j]? = some d → ∀ n ∈ d.weights P t, n ∈ DataW.weightsEach P ts ds := DataW.weights_mem_each

section
variable {T : Tab} {P : Program} {H : Type} {enc : TypeId × Value → H} {w : World} {held : Bool}

theorem cellsOf_eq (hT : T.ok P) {t : TypeId} (h : (T.kind t).known = true) : P.cellsOf t = T.size t := by
  obtain ⟨_, i, z, hi, hs, _⟩ := hT t h
  simp [Program.cellsOf, hi, hs]
theorem bytesOf_eq (hT : T.ok P) {t : TypeId} (h : (T.kind t).known = true) : P.bytesOf t = T.bytes t := by
  obtain ⟨_, i, z, hi, _, hb, _⟩ := hT t h
  simp [Program.bytesOf, hi, hb]

theorem cell_in {a : Addr} {v : Value} (h : w.cell? a = some v) : a.block < w.heap.size ∧ a.spot = none := by
  unfold World.cell? at h
  cases hb : w.heap[a.block]? with
  | none => rw [hb] at h; cases h
  | some o =>
    refine ⟨(Array.getElem?_eq_some_iff.1 hb).1, ?_⟩
    rw [hb] at h
    cases hs : a.spot with
    | none => rfl
    | some s => cases o <;> simp [hs] at h

theorem F2.of_get {α γ : Type} {R : α → γ → Prop} : ∀ {as : List α} {bs : List γ}, as.length = bs.length → (∀ (j : Nat) (a : α) (b : γ), as[j]? = some a → bs[j]? = some b → R a b) → F2 R as bs
  | [], [], _, _ => .nil
  | [], _ :: _, h, _ => by simp at h
  | _ :: _, [], h, _ => by simp at h
  | a :: as, b :: bs, h, hr => .cons (hr 0 a b rfl rfl) (F2.of_get (by simpa using h) fun j a' b' ha hb => hr (j + 1) a' b' (by simpa using ha) (by simpa using hb))

theorem F2.app {α γ : Type} {R : α → γ → Prop} {as as' : List α} {bs bs' : List γ} (h : F2 R as bs) (h' : F2 R as' bs') : F2 R (as ++ as') (bs ++ bs') := by
  induction h with
  | nil => exact h'
  | cons h1 _ ih => exact .cons h1 ih

theorem open_shp (hT : T.ok P) : ∀ (m fuel : Nat) (t : TypeId) (cs : List Value) (x : DataW H × List MemPlace), DataW.trod enc P w 0 (fun _ => true) held fuel t cs = some x → plainB T m t = true → (∀ n ∈ x.1.weights P t, n ≤ reachBytes) →
    ∃ as, Shp T t as ∧ F2 (PRep (fun b => b < w.heap.size) w) as cs := by
  intro m
  induction m with
  | zero => intro fuel t cs x _ h; cases h
  | succ m ih =>
    intro fuel t cs x h hp hw
    unfold plainB at hp
    cases hk : T.kind t with
    | int k =>
      obtain ⟨n, rfl, rfl, hwf⟩ := DataW.trod_int (underlying_int hT hk) h
      exact ⟨[.lit (.int k n)], .int hk hwf, .cons (.lit _ rfl) .nil⟩
    | bool =>
      obtain ⟨b, rfl, rfl⟩ := DataW.trod_bool (underlying_bool hT hk) h
      exact ⟨[.lit (.bool b)], .bool hk, .cons (.lit _ rfl) .nil⟩
    | slice e =>
      rw [hk] at hp
      simp only [Bool.and_eq_true] at hp
      obtain ⟨hke, hsz, hby, hpe⟩ := hp
      have hsz' : 0 < T.size e := Nat.blt_eq.mp hsz
      have hu := underlying_slice hT hk
      have hce := cellsOf_eq hT hke
      rcases DataW.trod_slice hu h with ⟨rfl, rfl⟩ | ⟨a, len, cap, elems, rest, n, _, rfl, rfl, _, hlc, hcm, hel, hget, hsp, _⟩
      · exact ⟨[.shr (T.size e) []], .slice hk (by simp) (by simp), .cons (.nil _) .nil⟩
      obtain ⟨hrl, hrest⟩ := hsp rfl
      have hwt : (elems.length + rest.length) * T.bytes e ≤ reachBytes := by
        have := hw ((elems.length + rest.length) * P.bytesOf e) (by simp only [DataW.weights, hu, List.length_map]; simp)
        rwa [bytesOf_eq hT hke] at this
      have hwe : ∀ y ∈ elems, ∀ n ∈ y.1.weights P e, n ≤ reachBytes := fun y hy n hn => hw n (by
        simp only [DataW.weights, hu, List.mem_cons, List.mem_append]
        exact .inr (.inl (weightsAll_of (List.mem_map_of_mem hy) n hn)))
      by_cases hc0 : cap = 0
      · subst hc0
        obtain rfl : len = 0 := by omega
        exact ⟨[.shr (T.size e) []], .slice hk (by simp) (by simp), .cons (.void _ a) .nil⟩
      have hfirst : a.block < w.heap.size ∧ a.spot = none := by
        have key : ∀ y : DataW H × List MemPlace, (w.cells? 0 (a.add (0 * P.cellsOf e)) (P.cellsOf e)).bind (DataW.trod enc P w 0 (fun _ => true) held n e) = some y → a.block < w.heap.size ∧ a.spot = none := by
          intro y hy
          rw [Option.bind_eq_some_iff] at hy
          obtain ⟨cs, hcs, _⟩ := hy
          obtain ⟨_, hl, hg⟩ := World.cells?_some hcs
          have h0 := hg 0 (by omega)
          rw [List.getElem?_eq_getElem (by omega)] at h0
          have := cell_in h0
          simpa [Addr.add] using this
        by_cases hl0 : 0 < len
        · have := hget 0 hl0
          rw [List.getElem?_eq_getElem (by omega)] at this
          exact key _ this
        · obtain rfl : len = 0 := by omega
          have := hrest 0 (by omega)
          rw [List.getElem?_eq_getElem (by omega)] at this
          exact key _ (by simpa using this)
      obtain ⟨b, off, spot⟩ := a
      obtain ⟨hb, rfl⟩ := hfirst
      have each : ∀ i : Fin len, ∃ (xs : List AV) (cs : List Value), Shp T e xs ∧ F2 (PRep (fun b => b < w.heap.size) w) xs cs ∧ cs.length = T.size e ∧ ∀ j, j < T.size e → w.cell? ⟨b, off + (i.1 * T.size e + j), none⟩ = cs[j]? := by
        intro i
        have hi := hget i.1 i.2
        rw [List.getElem?_eq_getElem (by omega), Option.bind_eq_some_iff] at hi
        obtain ⟨cs, hcs, ht⟩ := hi
        obtain ⟨_, hl, hg⟩ := World.cells?_some hcs
        obtain ⟨as, h1, h2⟩ := ih n e cs _ ht hpe (hwe _ (List.getElem_mem _))
        rw [hce] at hl hg
        refine ⟨as, cs, h1, h2, hl, fun j hj => ?_⟩
        have := hg j hj
        rw [add_none, add_none, Nat.add_assoc] at this
        exact this
      let fx : Fin len → List AV := fun i => Classical.choose (each i)
      let fc : Fin len → List Value := fun i => Classical.choose (Classical.choose_spec (each i))
      have hf : ∀ i, Shp T e (fx i) ∧ F2 (PRep (fun b => b < w.heap.size) w) (fx i) (fc i) ∧ (fc i).length = T.size e ∧ ∀ j, j < T.size e → w.cell? ⟨b, off + (i.1 * T.size e + j), none⟩ = (fc i)[j]? :=
        fun i => Classical.choose_spec (Classical.choose_spec (each i))
      have hxl : (List.ofFn fx).length = len := List.length_ofFn
      have hxg : ∀ (i : Nat) (x : List AV), (List.ofFn fx)[i]? = some x → ∃ h : i < len, x = fx ⟨i, h⟩ := by
        intro i x hx
        have hi : i < len := by rw [← hxl]; exact (List.getElem?_eq_some_iff.1 hx).1
        refine ⟨hi, ?_⟩
        rw [List.getElem?_ofFn] at hx
        simp only [hi, dif_pos, Option.some.injEq] at hx
        exact hx.symm
      refine ⟨[.shr (T.size e) (List.ofFn fx)], .slice hk ?_ ?_, .cons ?_ .nil⟩
      · rw [hxl]
        refine Nat.le_trans (Nat.mul_le_mul_right _ ?_) hwt
        omega
      · intro x hx
        rw [List.mem_ofFn] at hx
        obtain ⟨i, rfl⟩ := hx
        exact (hf i).1
      · have hmx : (List.ofFn fx).length ≤ maxSl := by
          rw [hxl]
          have h1 : len ≤ (elems.length + rest.length) * T.bytes e := by
            refine Nat.le_trans ?_ (Nat.le_mul_of_pos_right _ (Nat.blt_eq.mp hby))
            omega
          have h2 : reachBytes ≤ maxSl := by decide
          omega
        have := PRep.shr (S := fun b => b < w.heap.size) (w := w) (T.size e) (List.ofFn fx) b off cap (fun i j => if h : i < len then (fc ⟨i, h⟩).getD j undef else undef) hb (by omega) hmx
          (fun i x hx => by obtain ⟨hi, rfl⟩ := hxg i x hx; rw [(hf _).2.1.length, (hf _).2.2.1])
          (fun i x j c hx hc => by
            obtain ⟨hi, rfl⟩ := hxg i x hx
            have hj : j < T.size e := by
              have := (List.getElem?_eq_some_iff.1 hc).1
              rw [(hf _).2.1.length, (hf _).2.2.1] at this; exact this
            rw [(hf ⟨i, hi⟩).2.2.2 j hj, dif_pos hi, List.getElem?_eq_getElem (by rw [(hf _).2.2.1]; exact hj)]
            simp [List.getD, List.getElem?_eq_getElem (show j < (fc ⟨i, hi⟩).length by rw [(hf _).2.2.1]; exact hj)])
          (fun i x j c hx hc => by
            obtain ⟨hi, rfl⟩ := hxg i x hx
            obtain ⟨v, hv, hr⟩ := (hf ⟨i, hi⟩).2.1.get j c hc
            rw [dif_pos hi]
            simpa [List.getD, hv] using hr)
        rw [hxl] at this
        exact this
    | struct fs =>
      rw [hk] at hp
      simp only [Bool.and_eq_true] at hp
      obtain ⟨hcg, hall⟩ := hp
      obtain ⟨gs, hu, hg⟩ := underlying_struct hT hk
      obtain ⟨xs, n, _, rfl, hcl, hxl, hget⟩ := DataW.trod_struct hu h
      have hkt : (T.kind t).known = true := by rw [hk]; rfl
      rw [cellsOf_eq hT hkt] at hcl
      have field : ∀ (i : Nat) (p : Nat × TypeId), fs[i]? = some p → ∃ as, Shp T p.2 as ∧ F2 (PRep (fun b => b < w.heap.size) w) as ((cs.drop p.1).take (T.size p.2)) := by
        intro i p hi
        have hpm := List.all_eq_true.1 hall p (List.mem_of_getElem? hi)
        simp only [Bool.and_eq_true] at hpm
        obtain ⟨fl, h1, h2, h3⟩ := field_of (f := i) (off := p.1) (ft := p.2) hi hg
        have ht := hget i fl h1
        have hil : i < xs.length := by rw [hxl]; exact (Array.getElem?_eq_some_iff.1 h1).1
        rw [List.getElem?_eq_getElem hil, h2, h3, cellsOf_eq hT hpm.1] at ht
        refine ih n p.2 _ _ ht hpm.2 fun q hq => hw q ?_
        simp only [DataW.weights, hu]
        refine weightsEach_of (j := i) (t := p.2) (d := xs[i].1) ?_ ?_ q hq
        · rw [List.getElem?_map, Array.getElem?_toList, h1, Option.map_some, h3]
        · rw [List.getElem?_map, List.getElem?_eq_getElem hil]; rfl
      have build : ∀ (l : List (Nat × TypeId)) (off i0 : Nat), contig T off l (T.size t) = true → (∀ (i : Nat) (p : Nat × TypeId), l[i]? = some p → fs[i0 + i]? = some p) → ∃ as, ShpL T l as ∧ F2 (PRep (fun b => b < w.heap.size) w) as (cs.drop off) := by
        intro l
        induction l with
        | nil =>
          intro off i0 hc _
          have : off = T.size t := Nat.eq_of_beq_eq_true hc
          exact ⟨[], .nil, by rw [List.drop_eq_nil_of_le (by omega)]; exact .nil⟩
        | cons p r ihr =>
          intro off i0 hc hf
          obtain ⟨o, ft⟩ := p
          simp only [contig, Bool.and_eq_true] at hc
          obtain rfl : o = off := Nat.eq_of_beq_eq_true hc.1
          obtain ⟨a, ha, hfa⟩ := field (i0 + 0) (o, ft) (hf 0 _ rfl)
          obtain ⟨as, has, hfas⟩ := ihr (o + T.size ft) (i0 + 1) hc.2 fun i p hi => by
            have := hf (i + 1) p (by simpa using hi)
            rwa [show i0 + 1 + i = i0 + (i + 1) by omega]
          refine ⟨a ++ as, .cons ha has, ?_⟩
          have e : cs.drop o = (cs.drop o).take (T.size ft) ++ cs.drop (o + T.size ft) := by
            rw [← List.drop_drop, List.take_append_drop]
          rw [e]
          exact hfa.app hfas
      obtain ⟨as, h1, h2⟩ := build fs 0 0 hcg fun i p hi => by rwa [Nat.zero_add]
      exact ⟨as, .struct hk h1, by simpa using h2⟩
    | str => rw [hk] at hp; cases hp
    | arr n e => rw [hk] at hp; cases hp
    | ptr e => rw [hk] at hp; cases hp
    | map k e => rw [hk] at hp; cases hp
    | fn => rw [hk] at hp; cases hp
    | other => rw [hk] at hp; cases hp
end
theorem nb {a b : Nat} (h : Nat.ble a b = true) : a ≤ b := Nat.le_of_ble_eq_true h
mutual
def plain : AV → Bool
  | .lit _ => true
  | .shr _ _ => true
  | .agg cs => plainL cs
  | .tup cs => plainL cs
  | _ => false
def plainL : List AV → Bool
  | [] => true
  | c :: r => plain c && plainL r
end
mutual
theorem subP {ob ob' : List (Nat × AO)} {ρ : Nat → Option Nat} {fz : Nat → Prop} : ∀ {c : AV}, plain c = true → Sub ob ob' ρ fz c c
  | .lit _, _ => .lit _
  | .shr _ _, _ => .shr _ _
  | .agg cs, h => .agg _ _ (subPL h)
  | .tup cs, h => .tup _ _ (subPL h)
theorem subPL {ob ob' : List (Nat × AO)} {ρ : Nat → Option Nat} {fz : Nat → Prop} : ∀ {cs : List AV}, plainL cs = true → F2 (Sub ob ob' ρ fz) cs cs
  | [], _ => .nil
  | c :: r, h => .cons (subP ((Bool.and_eq_true _ _).mp h).1) (subPL ((Bool.and_eq_true _ _).mp h).2)
end

end Go.Vc
