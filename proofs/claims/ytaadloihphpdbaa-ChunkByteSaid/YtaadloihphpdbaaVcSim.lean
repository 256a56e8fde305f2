/- How the abstract heap follows what the model does: a slot is written, a block is made, a block of one's own is written, one sees less. -/
import Derived.Test.YtaadloihphpdbaaVcCore
namespace Go.Vc
open Go Go.RowKit

def Env.app (E : Env) (dst : Option Tmp) (v : AV) (upd : List (Nat × AO)) : Env :=
  ⟨match dst with | some d => (d, v) :: E.sl | none => E.sl, upd ++ E.ob, E.n⟩

theorem getD_set (t : Array Value) (d j : Nat) (x : Value) (hd : d < t.size) : (t.setIfInBounds d x).getD j undef = if d = j then x else t.getD j undef := by
  simp only [Array.getD_eq_getD_getElem?, Array.getElem?_setIfInBounds]
  by_cases h : d = j
  · subst h; simp [hd]
  · simp [h]

section
variable {Γ : Ctx} {S : Nat → Prop} {O : Nat → Nat → Prop} {β : Beta} {E : Env} {a : Act} {w : World}

theorem SimAt.put (h : SimAt Γ S O β E a w) {v : AV} {x : Value} (hv : VRep S β w v x) {dst : Option Tmp} (hd : ∀ d, dst = some d → d < E.n) :
    SimAt Γ S O β (E.app dst v []) (a.put dst x) w := by
  cases dst with
  | none => exact h
  | some d =>
    have hd' := hd d rfl
    refine ⟨h.h, ?_, ?_, h.df, h.s0, h.s1, h.o1, h.b0, h.fr⟩
    · intro t v' hl
      have hl' : look ((d, v) :: E.sl) t = some v' := hl
      rw [look_cons] at hl'
      show VRep S β w v' ((a.tmps.setIfInBounds d x).getD t undef)
      rw [getD_set _ _ _ _ (by rw [h.n]; exact hd')]
      by_cases he : d = t
      · rw [if_pos he] at hl' ⊢; cases hl'; exact hv
      · rw [if_neg he] at hl' ⊢; exact h.sl t v' hl'
    · show (a.tmps.setIfInBounds d x).size = E.n
      simp [h.n]

def addO (O : Nat → Nat → Prop) (k b : Nat) : Nat → Nat → Prop := fun j c => O j c ∨ (j = k ∧ c = b)
def addB (β : Beta) (k : Nat) (l : Loc) : Beta := fun j => if j = k then some l else β j

theorem addB_same (β : Beta) (k : Nat) (l : Loc) : addB β k l k = some l := by simp [addB]
theorem addB_old {β : Beta} {k : Nat} {l : Loc} (hk : β k = none) : ∀ j m, β j = some m → addB β k l j = some m := by
  intro j m hj
  unfold addB
  split
  · rename_i he; subst he; rw [hk] at hj; cases hj
  · exact hj

theorem heap_alloc_lt (w : World) (o : Obj) {b : Nat} (hb : b < w.heap.size) : (w.alloc o).heap[b]? = w.heap[b]? := heap_alloc_old w o b hb

/-- A block is made. -/
theorem SimAt.alloc (h : SimAt Γ S O β E a w) {k : Nat} (hk : look E.ob k = none) (hp : k ∉ Γ.par) (obj : Obj) (l : Loc) (o : AO)
    (ho : ORep S (addO O k w.heap.size) (addB β k l) (w.alloc obj) k o) :
    SimAt Γ S (addO O k w.heap.size) (addB β k l) ⟨E.sl, (k, o) :: E.ob, E.n⟩ a (w.alloc obj) := by
  have hβ := addB_old (l := l) (h.h.dom k hk).1
  have hS : ∀ b, S b → S b ∧ (w.alloc obj).heap[b]? = w.heap[b]? := fun b hb => ⟨hb, heap_alloc_lt w obj (h.h.sh b hb)⟩
  have hsz : (w.alloc obj).heap.size = w.heap.size + 1 := by simp
  refine ⟨⟨?_, ?_, ?_, ?_, ?_⟩, ?_, h.n, h.df, h.s0, h.s1, ?_, ?_, ?_⟩
  · intro b hb; rw [hsz]; exact Nat.lt_succ_of_lt (h.h.sh b hb)
  · rintro j b (hb | ⟨_, rfl⟩)
    · exact ⟨by rw [hsz]; exact Nat.lt_succ_of_lt (h.h.ow j b hb).1, (h.h.ow j b hb).2⟩
    · exact ⟨by rw [hsz]; exact Nat.lt_succ_self _, fun hs => Nat.lt_irrefl _ (h.h.sh _ hs)⟩
  · rintro j j' b (hb | ⟨rfl, rfl⟩) (hb' | ⟨rfl, h2⟩)
    · exact h.h.dj j j' b hb hb'
    · subst h2; exact absurd (h.h.ow j _ hb).1 (Nat.lt_irrefl _)
    · exact absurd (h.h.ow j' _ hb').1 (Nat.lt_irrefl _)
    · rfl
  · intro j hj
    rw [look_cons] at hj
    by_cases he : k = j
    · rw [if_pos he] at hj; cases hj
    · rw [if_neg he] at hj
      obtain ⟨h1, h2⟩ := h.h.dom j hj
      refine ⟨by unfold addB; rw [if_neg (Ne.symm he)]; exact h1, ?_⟩
      rintro b (hb | ⟨rfl, _⟩)
      · exact h2 b hb
      · exact he rfl
  · intro j o' hj
    rw [look_cons] at hj
    by_cases he : k = j
    · rw [if_pos he] at hj; cases hj; subst he; exact ho
    · rw [if_neg he] at hj
      exact (h.h.objs j o' hj).mono hS hβ fun b hb => ⟨.inl hb, heap_alloc_lt w obj (h.h.ow j b hb).1⟩
  · intro t v hl; exact (h.sl t v hl).mono hS hβ
  · rintro j b (hb | ⟨_, rfl⟩)
    · exact h.o1 j b hb
    · exact .inr h.fr.size
  · intro j hj hn
    have hjk : j ≠ k := fun e => hp (e ▸ hj)
    have hn' : look E.ob j ≠ none := by
      have := hn
      show look E.ob j ≠ none
      intro e
      apply this
      show look ((k, o) :: E.ob) j = none
      rw [look_cons, if_neg (Ne.symm hjk)]; exact e
    unfold addB
    rw [if_neg hjk]
    exact h.b0 j hj hn'
  · exact h.fr.trans (B := fun _ => False) ⟨rfl, rfl, rfl, by simp, fun b hb _ => heap_alloc_lt w obj hb⟩ (fun b hb => hb.elim)

/-- A block of one's own is written. -/
theorem SimAt.turn (h : SimAt Γ S O β E a w) {k b : Nat} (hO : O k b) (hk : look E.ob k ≠ none) {w' : World} (hw : Fr (fun c => c = b) w w') (hsz : w'.heap.size = w.heap.size) (o : AO)
    (ho : ORep S O β w' k o) : SimAt Γ S O β ⟨E.sl, (k, o) :: E.ob, E.n⟩ a w' := by
  have hS : ∀ c, S c → S c ∧ w'.heap[c]? = w.heap[c]? := fun c hc => ⟨hc, hw.block c (h.h.sh c hc) (fun e => (h.h.ow k b hO).2 (e ▸ hc))⟩
  refine ⟨⟨?_, ?_, h.h.dj, ?_, ?_⟩, ?_, h.n, h.df, h.s0, h.s1, h.o1, ?_, ?_⟩
  · intro c hc; rw [hsz]; exact h.h.sh c hc
  · intro j c hc; rw [hsz]; exact h.h.ow j c hc
  · intro j hj
    rw [look_cons] at hj
    by_cases he : k = j
    · rw [if_pos he] at hj; cases hj
    · rw [if_neg he] at hj; exact h.h.dom j hj
  · intro j o' hj
    rw [look_cons] at hj
    by_cases he : k = j
    · rw [if_pos he] at hj; cases hj; subst he; exact ho
    · rw [if_neg he] at hj
      exact (h.h.objs j o' hj).mono hS (fun _ _ x => x) fun c hc => ⟨hc, hw.block c (h.h.ow j c hc).1 (fun e => he (h.h.dj k j b hO (e ▸ hc)))⟩
  · intro t v hl; exact (h.sl t v hl).mono hS fun _ _ x => x
  · intro j hj hn
    refine h.b0 j hj fun e => ?_
    by_cases he : k = j
    · subst he; exact hk e
    · apply hn
      show look ((k, o) :: E.ob) j = none
      rw [look_cons, if_neg he]; exact e
  · exact h.fr.trans hw fun c hc => by
      subst hc
      exact h.o1 k c hO

/-- The world has grown (by a call); more of it is readable. -/
theorem SimAt.grow (h : SimAt Γ S O β E a w) {S' : Nat → Prop} {w' : World} (hw : Fr (fun _ => False) w w') (h1 : ∀ b, S b → S' b) (h2 : ∀ b, S' b → (S b ∨ w.heap.size ≤ b) ∧ b < w'.heap.size) :
    SimAt Γ S' O β E a w' := by
  have hS : ∀ c, S c → S' c ∧ w'.heap[c]? = w.heap[c]? := fun c hc => ⟨h1 c hc, hw.block c (h.h.sh c hc) id⟩
  refine ⟨⟨fun b hb => (h2 b hb).2, ?_, h.h.dj, h.h.dom, ?_⟩, ?_, h.n, h.df, fun b hb => h1 b (h.s0 b hb), ?_, h.o1, h.b0, ?_⟩
  · intro j c hc
    have := h.h.ow j c hc
    refine ⟨Nat.lt_of_lt_of_le this.1 hw.size, fun hs => ?_⟩
    rcases (h2 c hs).1 with hs' | hs'
    · exact this.2 hs'
    · omega
  · intro j o' hj
    exact (h.h.objs j o' hj).mono hS (fun _ _ x => x) fun c hc => ⟨hc, hw.block c (h.h.ow j c hc).1 id⟩
  · intro t v hl; exact (h.sl t v hl).mono hS fun _ _ x => x
  · intro b hb
    rcases (h2 b hb).1 with hb' | hb'
    · exact h.s1 b hb'
    · exact .inr (.inr (Nat.le_trans h.fr.size hb'))
  · exact h.fr.trans hw fun b hb => hb.elim

/-- A draw changes nothing. -/
theorem SimAt.drew (h : SimAt Γ S O β E a w) : SimAt Γ S O β E a { w with drawn := w.drawn + 1 } :=
  h.grow (S' := S) ⟨rfl, rfl, rfl, Nat.le_refl _, fun _ _ _ => rfl⟩ (fun _ x => x) fun b hb => ⟨.inl hb, h.h.sh b hb⟩

theorem Sim.drew (h : Sim Γ E a w) : Sim Γ E a { w with drawn := w.drawn + 1 } := let ⟨S, O, β, hh⟩ := h; ⟨S, O, β, hh.drew⟩
end

/-! ### Seeing less -/
def fzAll (ρ : Nat → Option Nat) (ob' : List (Nat × AO)) : Nat → Prop := fun k => ∀ i, look ob' i ≠ none → ρ i ≠ some k

/-- What must hold that an environment may be seen as another one. -/
structure Wk (ρ : Nat → Option Nat) (par : List Nat) (E E' : Env) : Prop where
  n : E'.n = E.n
  inj : ∀ i j k, look E'.ob i ≠ none → look E'.ob j ≠ none → ρ i = some k → ρ j = some k → i = j
  ob : ∀ i o', look E'.ob i = some o' → SubO E.ob E'.ob ρ (fzAll ρ E'.ob) i o'
  sl : ∀ t v', look E'.sl t = some v' → ∃ v, look E.sl t = some v ∧ Sub E.ob E'.ob ρ (fzAll ρ E'.ob) v' v
  par : ∀ k, k ∈ par → look E'.ob k ≠ none → ρ k = some k ∧ look E.ob k ≠ none

theorem Sim.wk {Γ : Ctx} {E E' : Env} {a : Act} {w : World} (h : Sim Γ E a w) {ρ : Nat → Option Nat} (k : Wk ρ Γ.par E E') : Sim Γ E' a w := by
  obtain ⟨S, O, β, h⟩ := h
  refine ⟨wkS S O (fzAll ρ E'.ob), wkO O ρ E'.ob, wkB β ρ E'.ob, ?_⟩
  refine ⟨h.h.wk k.inj (fun i j hi hj hf => hf i hi hj) k.ob, ?_, h.n.trans k.n.symm, h.df, fun b hb => .inl (h.s0 b hb), ?_, ?_, ?_, h.fr⟩
  · intro t v' hl
    obtain ⟨v, hv, hs⟩ := k.sl t v' hl
    exact (h.sl t v hv).wk h.h hs
  · rintro b (hb | ⟨j, _, hb⟩)
    · exact h.s1 b hb
    · rcases h.o1 j b hb with h1 | h1
      · exact .inr (.inl h1)
      · exact .inr (.inr h1)
  · rintro i b ⟨_, j, _, hb⟩
    exact h.o1 j b hb
  · intro j hj hn
    obtain ⟨h1, h2⟩ := k.par j hj hn
    exact (wkB_some h1 hn).trans (h.b0 j hj h2)
end Go.Vc
