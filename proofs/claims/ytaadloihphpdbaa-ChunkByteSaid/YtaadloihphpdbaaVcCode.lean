/- Regions, also those that draw their order; code; functions. -/
import Derived.Test.YtaadloihphpdbaaVcOps8
set_option linter.unusedSimpArgs false
set_option linter.unusedVariables false
namespace Go.Vc
open Go Go.RowKit

/-- A slot that an operation passed over left behind. -/
def skips (want : Bool) : AV → Bool
  | .lit (.bool b) => b != want
  | .tup [] => true
  | _ => false

def wants (want : Bool) : AV → Bool
  | .lit (.bool b) => b == want
  | _ => false

/-- One operation of a region: it is done, or it is passed over. -/
def GOp (G : Prg) (Γ : Ctx) (ops : Array Oper) (o : Oper) (E : Env) (val : AV) (upd : List (Nat × AO)) (rs ro : List Nat) : Prop :=
  match o.guard with
  | none => OpS G Γ o E val upd rs ro
  | some (j, want) => ∃ t v, (ops[j]?).bind (·.dst) = some t ∧ t < E.n ∧ look E.sl t = some v ∧ t ∈ rs ∧ ((wants want v = true ∧ OpS G Γ o E val upd rs ro) ∨ (skips want v = true ∧ val = .tup [] ∧ upd = [] ∧ ∀ d, o.dst = some d → d < E.n))

/-- The walk through a region's operations, in the order of the text; what each read and wrote is written down. -/
def VR (G : Prg) (Γ : Ctx) (ops : Array Oper) (fin : List Lg → Prop) (K : Env → Prop) : List Oper → List Lg → Env → Prop
  | [], log, E => fin log ∧ K E
  | o :: os, log, E => ∃ val upd rs ro, GOp G Γ ops o E val upd rs ro ∧ VR G Γ ops fin K os (log ++ [⟨o.dst, rs, ro, upd.map (·.1)⟩]) (E.app o.dst val upd)

theorem SimAt.slot {Γ : Ctx} {S : Nat → Prop} {O : Nat → Nat → Prop} {β : Beta} {E : Env} {a : Act} {w : World} (h : SimAt Γ S O β E a w) {t : Nat} {v : AV} (hv : look E.sl t = some v) (ht : t < E.n) : ∃ x, a.tmps[t]? = some x ∧ VRep S β w v x := by
  have hlt : t < a.tmps.size := by rw [h.n]; exact ht
  refine ⟨a.tmps[t], by simp [hlt], ?_⟩
  have := h.sl t v hv
  simpa [hlt] using this

theorem yielded_of {ops : Array Oper} {tmps : Array Value} {j t : Nat} (h : (ops[j]?).bind (·.dst) = some t) {x : Value} (hx : tmps[t]? = some x) : yielded ops tmps j = (match x with | .bool b => some b | _ => none) := by
  unfold yielded
  rw [h]
  simp only [Option.bind_some, hx]
  cases x <;> rfl

/-- One operation, sound, from an environment that looks alike where it looks. -/
theorem GOp.sound {G : Prg} {Γ : Ctx} {ops : Array Oper} {o : Oper} {E E' : Env} {val : AV} {upd : List (Nat × AO)} {rs ro : List Nat} (h : GOp G Γ ops o E val upd rs ro) (hn : E'.n = E.n) (h1 : ∀ t, t ∈ rs → look E'.sl t = look E.sl t) (h2 : ∀ k, k ∈ ro → look E'.ob k = look E.ob k)
    {a : Act} {w : World} (hs : Sim Γ E' a w) {Q : Exit → Act → World → Prop} {K : Act → World → Prop} (hK : ∀ a' w', Sim Γ (E'.app o.dst val upd) a' w' → K a' w') :
    (if Region.wanted o (yielded ops a.tmps) then o.wp G.P a w K Q ∨ (o.asks G.P a w ∧ LetsOut Q) else K (a.put o.dst undef) w) := by
  obtain ⟨S, O, β, hs⟩ := hs
  unfold GOp at h
  cases hg : o.guard with
  | none =>
    rw [hg] at h
    rw [if_pos (by simp [Region.wanted, hg])]
    exact .inl (h E' hn h1 h2 S O β a w hs K Q hK)
  | some p =>
    obtain ⟨j, want⟩ := p
    rw [hg] at h
    obtain ⟨t, v, ht, hlt, hv, htr, hc⟩ := h
    have hv' : look E'.sl t = some v := (h1 t htr).trans hv
    obtain ⟨x, hx, hr⟩ := hs.slot hv' (by rw [hn]; exact hlt)
    have hy := yielded_of (tmps := a.tmps) ht hx
    rcases hc with ⟨hw, ho⟩ | ⟨hw, rfl, rfl, hd⟩
    · have hxb : x = .bool want := by
        cases v with
        | lit u =>
          obtain ⟨rfl, _⟩ := hr.lit_inv
          cases x with
          | bool b =>
            have hw' : (b == want) = true := hw
            rw [beq_iff_eq.1 hw']
          | _ => exact Bool.noConfusion (show false = true from hw)
        | _ => simp [wants] at hw
      subst hxb
      have hwt : Region.wanted o (yielded ops a.tmps) = true := by
        simp only [Region.wanted, hg, hy, beq_self_eq_true]
      rw [if_pos hwt]
      exact .inl (ho E' hn h1 h2 S O β a w hs K Q hK)
    · have hno : Region.wanted o (yielded ops a.tmps) = false := by
        simp only [Region.wanted, hg, hy]
        cases v with
        | lit u =>
          obtain ⟨rfl, _⟩ := hr.lit_inv
          cases x with
          | bool b =>
            have hw' : (b != want) = true := hw
            simp only [beq_eq_false_iff_ne, ne_eq, Option.some.injEq]
            simpa using hw'
          | _ => exact Bool.noConfusion (show false = true from hw)
        | tup l =>
          cases l with
          | nil => obtain ⟨vs, rfl, _⟩ := hr.tup_inv; rfl
          | cons => simp [skips] at hw
        | _ => simp [skips] at hw
      rw [if_neg (by rw [hno]; simp)]
      refine hK _ _ ⟨S, O, β, ?_⟩
      exact hs.put (v := .tup []) (.tup [] [] rfl (fun j c x hc => by simp at hc)) (fun d hd' => by rw [hn]; exact hd d hd')

/-- Code over an abstract environment. -/
def VW (G : Prg) (Γ : Ctx) (c : Code) (Q : Exit → Env → Prop) (E : Env) : Prop :=
  ∀ a w, Sim Γ E a w → c.wp G.P (fun e a' w' => ∃ E', Q e E' ∧ Sim Γ E' a' w') a w

section
variable {G : Prg} {Γ : Ctx} {Q : Exit → Env → Prop} {E : Env}

theorem VR.list {ops : Array Oper} {fin : List Lg → Prop} {K : Env → Prop} (hKQ : ∀ E, K E → Q .normal E) : ∀ (os : List Oper) (log : List Lg) (E : Env), VR G Γ ops fin K os log E → ∀ a w, Sim Γ E a w → wpList G.P ops (fun e a' w' => ∃ E', Q e E' ∧ Sim Γ E' a' w') os a w := by
  intro os
  induction os with
  | nil => intro log E h a w hs; exact ⟨E, hKQ E h.2, hs⟩
  | cons o os ih =>
    intro log E h a w hs
    obtain ⟨val, upd, rs, ro, hg, hr⟩ := h
    exact hg.sound rfl (fun _ _ => rfl) (fun _ _ => rfl) hs fun a' w' hs' => ih _ _ hr a' w' hs'

/-- A region that keeps to its text. -/
theorem vw_region {id : Nat} {l : List Oper} (h : VR G Γ l.toArray (fun _ => True) (Q .normal) l [] E) : VW G Γ (.region id l.toArray false) Q E :=
  fun a w hs => wp_region_lit (VR.list (fun _ h => h) l [] E h a w hs)

theorem vw_seq {x y : Code} (h : VW G Γ x (fun e E' => match e with | .normal => VW G Γ y Q E' | e => Q e E') E) : VW G Γ (.seq x y) Q E := by
  intro a w hs
  refine wp_seq (wp_mono (h a w hs) ?_)
  rintro e a' w' ⟨E', hq, hs'⟩
  cases e with
  | normal => exact hq a' w' hs'
  | _ => exact ⟨E', hq, hs'⟩

theorem vw_skip (h : Q .normal E) : VW G Γ .skip Q E := fun a w hs => wp_skip ⟨E, h, hs⟩
theorem vw_ret (h : Q .ret E) : VW G Γ .ret Q E := fun a w hs => wp_ret ⟨E, h, hs⟩
theorem vw_exit {id : Nat} (h : Q (.exit id) E) : VW G Γ (.exit id) Q E := fun a w hs => wp_exit ⟨E, h, hs⟩
theorem vw_block {id : Nat} {c : Code} (h : VW G Γ c (fun e E' => match e with | .exit i => if i = id then Q .normal E' else Q (.exit i) E' | e => Q e E') E) : VW G Γ (.block id c) Q E := by
  intro a w hs
  refine wp_block (wp_mono (h a w hs) ?_)
  rintro e a' w' ⟨E', hq, hs'⟩
  cases e with
  | exit i =>
    by_cases hi : i = id
    · simp only [Exit.inBlock, hi, if_true]; exact ⟨E', by simpa [hi] using hq, hs'⟩
    · simp only [Exit.inBlock, hi, if_false]; exact ⟨E', by simpa [hi] using hq, hs'⟩
  | _ => exact ⟨E', hq, hs'⟩

theorem vw_cond {c : Operand} {x y : Code} {b : Bool} (hc : evo (look E.sl) c = some (.lit (.bool b))) (ht : b = true → VW G Γ x Q E) (hf : b = false → VW G Γ y Q E) : VW G Γ (.cond c x y) Q E := by
  intro a w hs
  have hs0 := hs
  obtain ⟨S, O, β, hs'⟩ := hs
  refine wp_cond_split (hs'.lit hc) (fun h => ht h a w hs0) (fun h => hf h a w hs0)

theorem vw_mono {c : Code} {Q' : Exit → Env → Prop} (h : VW G Γ c Q E) (hq : ∀ e E', Q e E' → Q' e E') : VW G Γ c Q' E :=
  fun a w hs => wp_mono (h a w hs) fun e a' w' ⟨E', h1, h2⟩ => ⟨E', hq e E' h1, h2⟩

/-- One may see less. -/
theorem vw_wk {c : Code} (ρ : Nat → Option Nat) {E' : Env} (hk : Wk ρ Γ.par E E') (h : VW G Γ c Q E') : VW G Γ c Q E := fun a w hs => h a w (hs.wk hk)

/-- A loop: whatever 'I x' says holds at each round's head, up to seeing less; 'm x' falls. -/
theorem vw_loop {c : Code} {α : Type} (F : α → Env) (m : α → Nat) (x0 : α) (ρ : Nat → Option Nat) (hk : Wk ρ Γ.par E (F x0))
    (round : ∀ x, VW G Γ c (fun e E' => match e with | .normal => ∃ y ρ', m y < m x ∧ Wk ρ' Γ.par E' (F y) | e => Q e E') (F x)) : VW G Γ (.loop c) Q E := by
  intro a w hs b k cs
  have key : ∀ n x a w, m x = n → Sim Γ (F x) a w → ∃ e a' w', (∃ E', Q e E' ∧ Sim Γ E' a' w') ∧ Arrives G.P (lone (b.at a (.code c :: .inLoop c :: k)) cs w) b k cs e a' w' := by
    intro n
    induction n using Nat.strongRecOn with
    | _ n ih =>
      intro x a w hm hs
      obtain ⟨e, a₁, w₁, ⟨E₁, hq, hs₁⟩, harr⟩ := round x a w hs b (.inLoop c :: k) cs
      cases e with
      | normal =>
        obtain ⟨y, ρ', hlt, hwk⟩ := hq
        obtain ⟨e₂, a₂, w₂, hq₂, harr₂⟩ := ih (m y) (hm ▸ hlt) y a₁ w₁ rfl (hs₁.wk hwk)
        exact ⟨e₂, a₂, w₂, hq₂, .of_steps (Steps.trans harr (.one step_inLoop)) harr₂⟩
      | exit id => exact ⟨_, a₁, w₁, ⟨E₁, hq, hs₁⟩, .pass (x := .inLoop c) rfl (fun _ _ => .inl (by simp)) harr⟩
      | goto l => exact ⟨_, a₁, w₁, ⟨E₁, hq, hs₁⟩, .pass (x := .inLoop c) rfl (fun _ _ => .inl (by simp)) harr⟩
      | ret => exact ⟨_, a₁, w₁, ⟨E₁, hq, hs₁⟩, .pass (x := .inLoop c) rfl (fun _ _ => .inl (by simp)) harr⟩
      | panic ch => exact ⟨_, a₁, w₁, ⟨E₁, hq, hs₁⟩, .pass (x := .inLoop c) rfl (fun _ _ => .inl (by simp)) harr⟩
      | outgrown => exact ⟨_, a₁, w₁, ⟨E₁, hq, hs₁⟩, .pass (x := .inLoop c) rfl (fun _ _ => .inl (by simp)) harr⟩
  obtain ⟨e, a', w', hq, harr⟩ := key _ x0 a w rfl (hs.wk hk)
  exact ⟨e, a', w', hq, .of_steps (.one step_loop) harr⟩
end
end Go.Vc
