/- The abstract symbolic heap over which all walks of this work are done: abstract values, objects, and what it means that they stand for a world of the model. No program is in sight. -/
import Derived.Orders
import Derived.Below
import Derived.Laws.AppendOwn
import Derived.Laws.OwnMore
import Derived.Laws.MakeOwn
import Derived.Laws.Slices
set_option linter.unusedVariables false
namespace Go.Vc
open Go Go.RowKit

/-- Abstract values. 'shr sz xs': a slice that nobody writes any more; element i has the cells xs[i]. 'row k': the slice over the whole of the owned row k. 'ptr k off': cell off of the box k. 'rptr k sz i j': cell j of element i of the row k. 'rsl k sz i j': the slice over the elements i .. j of the row k. 'sptr cs': an address in memory that nobody writes any more; the cells from there on. -/
inductive AV where
  | lit (v : Value)
  | shr (sz : Nat) (xs : List (List AV))
  | row (k : Nat)
  | ptr (k off : Nat)
  | rptr (k sz i j : Nat)
  | rsl (k sz i j : Nat)
  | sptr (cs : List AV)
  | agg (cs : List AV)
  | tup (vs : List AV)
  | clo (f : FuncId) (caps : List AV)
  | any

/-- Abstract objects: a variable's cells; a row (elements of sz cells each) that is owned; one whose elements may own rows themselves ('rowv'); one that is given up. -/
inductive AO where
  | box (cs : List AV)
  | row (e : TypeId) (sz : Nat) (xs : List (List AV))
  | rowv (e : TypeId) (sz : Nat) (xs : List (List AV))
  | dead

inductive Loc where
  | nil
  | at (b cap len : Nat)

def Loc.len : Loc → Nat
  | .nil => 0
  | .at _ _ n => n

def Loc.slice : Loc → Value
  | .nil => .slice none 0 0
  | .at b cap n => .slice (some ⟨b, 0, none⟩) n cap

abbrev Beta := Nat → Option Loc

def look {α : Type} : List (Nat × α) → Nat → Option α
  | [], _ => none
  | (k, v) :: r, t => bif Nat.beq k t then some v else look r t

theorem look_cons {α : Type} (k : Nat) (v : α) (r : List (Nat × α)) (t : Nat) : look ((k, v) :: r) t = if k = t then some v else look r t := by
  show (bif Nat.beq k t then some v else look r t) = _
  by_cases h : k = t
  · subst h; simp
  · have hb : Nat.beq k t = false := by
      cases hh : Nat.beq k t with
      | false => rfl
      | true => exact absurd (Nat.eq_of_beq_eq_true hh) h
    simp [hb, h]

/-- The greatest number of elements of a slice of which anything is said here. -/
def maxSl : Nat := 140737488355328

/-- A value out of memory that nobody writes any more. -/
inductive PRep (S : Nat → Prop) (w : World) : AV → Value → Prop
  | lit (v : Value) : v.oneCell' = true → PRep S w (.lit v) v
  | any (v : Value) : v.oneCell' = true → PRep S w .any v
  | nil (sz : Nat) : PRep S w (.shr sz []) (.slice none 0 0)
  | void (sz : Nat) (p : Addr) : PRep S w (.shr sz []) (.slice (some p) 0 0)
  | shr (sz : Nat) (xs : List (List AV)) (b off cap : Nat) (f : Nat → Nat → Value) : S b → xs.length ≤ cap → xs.length ≤ maxSl →
      (∀ (i : Nat) (x : List AV), xs[i]? = some x → x.length = sz) →
      (∀ (i : Nat) (x : List AV) (j : Nat) (c : AV), xs[i]? = some x → x[j]? = some c → w.cell? ⟨b, off + (i * sz + j), none⟩ = some (f i j)) →
      (∀ (i : Nat) (x : List AV) (j : Nat) (c : AV), xs[i]? = some x → x[j]? = some c → PRep S w c (f i j)) → PRep S w (.shr sz xs) (.slice (some ⟨b, off, none⟩) xs.length cap)

theorem PRep.one {S : Nat → Prop} {w : World} {c : AV} {x : Value} (h : PRep S w c x) : x.oneCell' = true := by
  cases h with
  | lit h => assumption
  | any h => assumption
  | nil => rfl
  | void => rfl
  | shr => rfl

/-- Any value. -/
inductive VRep (S : Nat → Prop) (β : Beta) (w : World) : AV → Value → Prop
  | pure (c : AV) (x : Value) : PRep S w c x → VRep S β w c x
  | row (k : Nat) (l : Loc) : β k = some l → VRep S β w (.row k) l.slice
  | ptr (k off b cap n : Nat) : β k = some (.at b cap n) → VRep S β w (.ptr k off) (.pointer (some ⟨b, off, none⟩))
  | rptr (k sz i j b cap n : Nat) : β k = some (.at b cap n) → VRep S β w (.rptr k sz i j) (.pointer (some ⟨b, i * sz + j, none⟩))
  | rsl (k sz i j b cap n : Nat) : β k = some (.at b cap n) → i ≤ j → j ≤ cap → VRep S β w (.rsl k sz i j) (.slice (some ⟨b, if cap = i then 0 else i * sz, none⟩) (j - i) (cap - i))
  | sptr (cs : List AV) (b off : Nat) (f : Nat → Value) : S b → (∀ (j : Nat) (c : AV), cs[j]? = some c → w.cell? ⟨b, off + j, none⟩ = some (f j)) →
      (∀ (j : Nat) (c : AV), cs[j]? = some c → PRep S w c (f j)) → VRep S β w (.sptr cs) (.pointer (some ⟨b, off, none⟩))
  | agg (cs : List AV) (vs : List Value) : vs.length = cs.length → (∀ (j : Nat) (c : AV) (x : Value), cs[j]? = some c → vs[j]? = some x → VRep S β w c x) →
      (∀ x ∈ vs, x.oneCell' = true) → VRep S β w (.agg cs) (.agg vs.toArray)
  | tup (cs : List AV) (vs : List Value) : vs.length = cs.length → (∀ (j : Nat) (c : AV) (x : Value), cs[j]? = some c → vs[j]? = some x → VRep S β w c x) →
      VRep S β w (.tup cs) (.tuple vs.toArray)
  | clo (f : FuncId) (cs : List AV) (vs : List Value) : vs.length = cs.length → (∀ (j : Nat) (c : AV) (x : Value), cs[j]? = some c → vs[j]? = some x → VRep S β w c x) →
      VRep S β w (.clo f cs) (.func (.func f) #[] vs.toArray)
  | any (x : Value) : VRep S β w .any x

/-- What it is that an abstract object stands for a block. -/
def ORep (S : Nat → Prop) (O : Nat → Nat → Prop) (β : Beta) (w : World) (k : Nat) : AO → Prop
  | .box cs => ∃ (b cap n : Nat) (t : TypeId) (vs : List Value), β k = some (.at b cap n) ∧ O k b ∧ w.heap[b]? = some (.cells vs.toArray t (0, 0)) ∧ vs.length = cs.length ∧
      (∀ (j : Nat) (c : AV) (x : Value), cs[j]? = some c → vs[j]? = some x → VRep S β w c x) ∧ ∀ x ∈ vs, x.oneCell' = true
  | .row e sz xs => (∀ (i : Nat) (x : List AV), xs[i]? = some x → x.length = sz) ∧ xs.length ≤ maxSl ∧
      ((β k = some .nil ∧ xs = []) ∨
       ∃ (b cap : Nat) (vs : List Value), β k = some (.at b cap xs.length) ∧ O k b ∧ w.heap[b]? = some (.cells vs.toArray e (0, 0)) ∧ xs.length ≤ cap ∧ cap ≤ maxLen ∧ vs.length = cap * sz ∧
        ∀ (i : Nat) (x : List AV) (j : Nat) (c : AV), xs[i]? = some x → x[j]? = some c → ∃ v, vs[i * sz + j]? = some v ∧ PRep S w c v)
  | .rowv e sz xs => (∀ (i : Nat) (x : List AV), xs[i]? = some x → x.length = sz) ∧ xs.length ≤ maxSl ∧
      ∃ (b cap : Nat) (vs : List Value), β k = some (.at b cap xs.length) ∧ O k b ∧ w.heap[b]? = some (.cells vs.toArray e (0, 0)) ∧ xs.length ≤ cap ∧ cap ≤ maxLen ∧ vs.length = cap * sz ∧
        ∀ (i : Nat) (x : List AV) (j : Nat) (c : AV), xs[i]? = some x → x[j]? = some c → ∃ v, vs[i * sz + j]? = some v ∧ v.oneCell' = true ∧ VRep S β w c v
  | .dead => ∃ l, β k = some l

structure HRep (S : Nat → Prop) (O : Nat → Nat → Prop) (β : Beta) (w : World) (ob : List (Nat × AO)) : Prop where
  sh : ∀ b, S b → b < w.heap.size
  ow : ∀ k b, O k b → b < w.heap.size ∧ ¬ S b
  dj : ∀ k k' b, O k b → O k' b → k = k'
  dom : ∀ k, look ob k = none → β k = none ∧ ∀ b, ¬ O k b
  objs : ∀ k o, look ob k = some o → ORep S O β w k o

/-- The abstract environment: slots, objects, how many slots there are. -/
structure Env where
  sl : List (Nat × AV)
  ob : List (Nat × AO)
  n : Nat

/-- What a call began with: its world, what was readable, what was owned (handed in by pointer), where it lay, and under which names. -/
structure Ctx where
  w0 : World
  S0 : Nat → Prop
  O0 : Nat → Prop
  β0 : Beta
  par : List Nat

/-- Only blocks of Wr may have turned. -/
structure Fr (Wr : Nat → Prop) (w w' : World) : Prop where
  os : w'.os = w.os
  tape : w'.tape = w.tape
  output : w'.output = w.output
  size : w.heap.size ≤ w'.heap.size
  block : ∀ b, b < w.heap.size → ¬ Wr b → w'.heap[b]? = w.heap[b]?

structure SimAt (Γ : Ctx) (S : Nat → Prop) (O : Nat → Nat → Prop) (β : Beta) (E : Env) (a : Act) (w : World) : Prop where
  h : HRep S O β w E.ob
  sl : ∀ t v, look E.sl t = some v → VRep S β w v (a.tmps.getD t undef)
  n : a.tmps.size = E.n
  df : a.defers = []
  s0 : ∀ b, Γ.S0 b → S b
  s1 : ∀ b, S b → Γ.S0 b ∨ Γ.O0 b ∨ Γ.w0.heap.size ≤ b
  o1 : ∀ k b, O k b → Γ.O0 b ∨ Γ.w0.heap.size ≤ b
  b0 : ∀ k, k ∈ Γ.par → look E.ob k ≠ none → β k = Γ.β0 k
  fr : Fr Γ.O0 Γ.w0 w

def Sim (Γ : Ctx) (E : Env) (a : Act) (w : World) : Prop := ∃ S O β, SimAt Γ S O β E a w

theorem Fr.refl (Wr : Nat → Prop) (w : World) : Fr Wr w w := ⟨rfl, rfl, rfl, Nat.le_refl _, fun _ _ _ => rfl⟩

theorem Fr.trans {A B : Nat → Prop} {w w1 w2 : World} (h : Fr A w w1) (k : Fr B w1 w2) (hB : ∀ b, B b → A b ∨ w.heap.size ≤ b) : Fr A w w2 :=
  ⟨k.os.trans h.os, k.tape.trans h.tape, k.output.trans h.output, Nat.le_trans h.size k.size, fun b hb hn =>
    (k.block b (Nat.lt_of_lt_of_le hb h.size) (fun hb' => by rcases hB b hb' with h1 | h1; exact hn h1; omega)).trans (h.block b hb hn)⟩

theorem cell_of_heap {w w' : World} {b o : Nat} (h : w'.heap[b]? = w.heap[b]?) : w'.cell? ⟨b, o, none⟩ = w.cell? ⟨b, o, none⟩ := by
  simp [World.cell?, h]

theorem PRep.mono {S S' : Nat → Prop} {w w' : World} (hS : ∀ b, S b → S' b ∧ w'.heap[b]? = w.heap[b]?) {c : AV} {x : Value} (h : PRep S w c x) : PRep S' w' c x := by
  induction h with
  | lit v h => exact .lit v h
  | any v h => exact .any v h
  | nil sz => exact .nil sz
  | void sz p => exact .void sz p
  | shr sz xs b off cap f hb h1 h2 h3 h4 _ ih =>
    exact .shr sz xs b off cap f (hS b hb).1 h1 h2 h3 (fun i x j c hx hc => (cell_of_heap (hS b hb).2).trans (h4 i x j c hx hc)) ih

theorem VRep.mono {S S' : Nat → Prop} {β β' : Beta} {w w' : World} (hS : ∀ b, S b → S' b ∧ w'.heap[b]? = w.heap[b]?) (hβ : ∀ k l, β k = some l → β' k = some l)
    {c : AV} {x : Value} (h : VRep S β w c x) : VRep S' β' w' c x := by
  induction h with
  | pure c x h => exact .pure c x (h.mono hS)
  | row k l h => exact .row k l (hβ _ _ h)
  | ptr k off b cap n h => exact .ptr k off b cap n (hβ _ _ h)
  | rptr k sz i j b cap n h => exact .rptr k sz i j b cap n (hβ _ _ h)
  | rsl k sz i j b cap n h h1 h2 => exact .rsl k sz i j b cap n (hβ _ _ h) h1 h2
  | sptr cs b off f hb h1 h2 => exact .sptr cs b off f (hS b hb).1 (fun j c hc => (cell_of_heap (hS b hb).2).trans (h1 j c hc)) (fun j c hc => (h2 j c hc).mono hS)
  | agg cs vs h1 _ h3 ih => exact .agg cs vs h1 ih h3
  | tup cs vs h1 _ ih => exact .tup cs vs h1 ih
  | clo f cs vs h1 _ ih => exact .clo f cs vs h1 ih
  | any x => exact .any x

theorem ORep.mono {S S' : Nat → Prop} {O O' : Nat → Nat → Prop} {β β' : Beta} {w w' : World} {k : Nat} {o : AO} (hS : ∀ b, S b → S' b ∧ w'.heap[b]? = w.heap[b]?) (hβ : ∀ k l, β k = some l → β' k = some l)
    (hO : ∀ b, O k b → O' k b ∧ w'.heap[b]? = w.heap[b]?) (h : ORep S O β w k o) : ORep S' O' β' w' k o := by
  cases o with
  | box cs =>
    obtain ⟨b, cap, n, t, vs, h1, h2, h3, h4, h5, h6⟩ := h
    exact ⟨b, cap, n, t, vs, hβ _ _ h1, (hO b h2).1, (hO b h2).2.trans h3, h4, fun j c x hc hx => (h5 j c x hc hx).mono hS hβ, h6⟩
  | row e sz xs =>
    obtain ⟨h0, hm, h⟩ := h
    refine ⟨h0, hm, ?_⟩
    rcases h with ⟨h1, h2⟩ | ⟨b, cap, vs, h1, h2, h3, h4, h5, h6, h7⟩
    · exact .inl ⟨hβ _ _ h1, h2⟩
    · exact .inr ⟨b, cap, vs, hβ _ _ h1, (hO b h2).1, (hO b h2).2.trans h3, h4, h5, h6, fun i x j c hx hc => let ⟨v, hv, hr⟩ := h7 i x j c hx hc; ⟨v, hv, hr.mono hS⟩⟩
  | rowv e sz xs =>
    obtain ⟨h0, hm, b, cap, vs, h1, h2, h3, h4, h5, h6, h7⟩ := h
    exact ⟨h0, hm, b, cap, vs, hβ _ _ h1, (hO b h2).1, (hO b h2).2.trans h3, h4, h5, h6, fun i x j c hx hc => let ⟨v, hv, h1, hr⟩ := h7 i x j c hx hc; ⟨v, hv, h1, hr.mono hS hβ⟩⟩
  | dead => exact let ⟨l, hl⟩ := h; ⟨l, hβ _ _ hl⟩

/-! ### Seeing less, under other names -/
inductive F2 {α γ : Type} (R : α → γ → Prop) : List α → List γ → Prop
  | nil : F2 R [] []
  | cons {a : α} {b : γ} {as : List α} {bs : List γ} : R a b → F2 R as bs → F2 R (a :: as) (b :: bs)

theorem F2.length {α γ : Type} {R : α → γ → Prop} {as : List α} {bs : List γ} (h : F2 R as bs) : as.length = bs.length := by
  induction h with
  | nil => rfl
  | cons _ _ ih => simp [ih]

theorem F2.get {α γ : Type} {R : α → γ → Prop} {as : List α} {bs : List γ} (h : F2 R as bs) : ∀ (j : Nat) (a : α), as[j]? = some a → ∃ b, bs[j]? = some b ∧ R a b := by
  induction h with
  | nil => intro j a ha; simp at ha
  | cons hr _ ih =>
    intro j a ha
    cases j with
    | zero => simp at ha; subst ha; exact ⟨_, by simp, hr⟩
    | succ j => simpa using ih j a (by simpa using ha)

/-- 'Sub ob ob' ρ fz c' c': what is seen as c may be seen as c'. ρ: under which elder name each new name lies; fz: which objects are given up, and readable. -/
inductive Sub (ob ob' : List (Nat × AO)) (ρ : Nat → Option Nat) (fz : Nat → Prop) : AV → AV → Prop
  | lit (v : Value) : Sub ob ob' ρ fz (.lit v) (.lit v)
  | shr (sz : Nat) (xs : List (List AV)) : Sub ob ob' ρ fz (.shr sz xs) (.shr sz xs)
  | sptr (cs : List AV) : Sub ob ob' ρ fz (.sptr cs) (.sptr cs)
  | any (c : AV) : Sub ob ob' ρ fz .any c
  | nilshr (sz : Nat) : Sub ob ob' ρ fz (.shr sz []) (.lit (.slice none 0 0))
  | nilrow (i : Nat) (e : TypeId) (sz : Nat) (xs : List (List AV)) : ρ i = none → look ob' i = some (.row e sz xs) → Sub ob ob' ρ fz (.row i) (.lit (.slice none 0 0))
  | row (i k : Nat) : ρ i = some k → look ob' i ≠ none → Sub ob ob' ρ fz (.row i) (.row k)
  | ptr (i k off : Nat) : ρ i = some k → look ob' i ≠ none → Sub ob ob' ρ fz (.ptr i off) (.ptr k off)
  | rptr (i k sz x j : Nat) : ρ i = some k → look ob' i ≠ none → Sub ob ob' ρ fz (.rptr i sz x j) (.rptr k sz x j)
  | rsl (i k sz x j : Nat) : ρ i = some k → look ob' i ≠ none → Sub ob ob' ρ fz (.rsl i sz x j) (.rsl k sz x j)
  | frz (k : Nat) (e : TypeId) (sz : Nat) (xs : List (List AV)) : look ob k = some (.row e sz xs) → fz k → Sub ob ob' ρ fz (.shr sz xs) (.row k)
  | agg (cs' cs : List AV) : F2 (Sub ob ob' ρ fz) cs' cs → Sub ob ob' ρ fz (.agg cs') (.agg cs)
  | tup (cs' cs : List AV) : F2 (Sub ob ob' ρ fz) cs' cs → Sub ob ob' ρ fz (.tup cs') (.tup cs)
  | clo (f : FuncId) (cs' cs : List AV) : F2 (Sub ob ob' ρ fz) cs' cs → Sub ob ob' ρ fz (.clo f cs') (.clo f cs)

def isP : AV → Bool
  | .lit _ | .shr _ _ => true
  | _ => false

theorem VRep.toP {S : Nat → Prop} {β : Beta} {w : World} {c : AV} {x : Value} (h : VRep S β w c x) (hp : isP c = true) : PRep S w c x := by
  cases h with
  | pure _ _ h => exact h
  | _ => simp [isP] at hp

def SubO (ob ob' : List (Nat × AO)) (ρ : Nat → Option Nat) (fz : Nat → Prop) (i : Nat) : AO → Prop
  | .box cs' => ∃ k cs, ρ i = some k ∧ look ob k = some (.box cs) ∧ F2 (Sub ob ob' ρ fz) cs' cs
  | .row e sz xs => (∃ k, ρ i = some k ∧ look ob k = some (.row e sz xs)) ∨ (ρ i = none ∧ xs = []) ∨
      (∃ k xs0, ρ i = some k ∧ look ob k = some (.rowv e sz xs0) ∧ F2 (F2 (Sub ob ob' ρ fz)) xs xs0 ∧ ∀ x ∈ xs, ∀ c ∈ x, isP c = true)
  | .rowv e sz xs => ∃ k xs0, ρ i = some k ∧ (look ob k = some (.rowv e sz xs0) ∨ (look ob k = some (.row e sz xs0) ∧ xs0 ≠ [])) ∧ F2 (F2 (Sub ob ob' ρ fz)) xs xs0
  | .dead => ρ i = none

def wkS (S : Nat → Prop) (O : Nat → Nat → Prop) (fz : Nat → Prop) : Nat → Prop := fun b => S b ∨ ∃ k, fz k ∧ O k b
def wkO (O : Nat → Nat → Prop) (ρ : Nat → Option Nat) (ob' : List (Nat × AO)) : Nat → Nat → Prop := fun i b => look ob' i ≠ none ∧ ∃ k, ρ i = some k ∧ O k b
def wkB (β : Beta) (ρ : Nat → Option Nat) (ob' : List (Nat × AO)) : Beta := fun i =>
  match look ob' i with
  | none => none
  | some _ => match ρ i with
    | some k => β k
    | none => some .nil

theorem wkB_some {β : Beta} {ρ : Nat → Option Nat} {ob' : List (Nat × AO)} {i k : Nat} (h : ρ i = some k) (hi : look ob' i ≠ none) : wkB β ρ ob' i = β k := by
  unfold wkB
  cases ho : look ob' i with
  | none => exact absurd ho hi
  | some o => simp [h]

theorem wkB_none {β : Beta} {ρ : Nat → Option Nat} {ob' : List (Nat × AO)} {i : Nat} {o : AO} (h : ρ i = none) (hi : look ob' i = some o) : wkB β ρ ob' i = some .nil := by
  unfold wkB
  simp [h, hi]

theorem PRep.wk {S : Nat → Prop} {O : Nat → Nat → Prop} {fz : Nat → Prop} {w : World} {c : AV} {x : Value} (h : PRep S w c x) : PRep (wkS S O fz) w c x :=
  h.mono fun _ hb => ⟨.inl hb, rfl⟩

section
variable {S : Nat → Prop} {O : Nat → Nat → Prop} {β : Beta} {w : World} {ob ob' : List (Nat × AO)} {ρ : Nat → Option Nat} {fz : Nat → Prop}

theorem frozen_row (h : HRep S O β w ob) {k : Nat} {e : TypeId} {sz : Nat} {xs : List (List AV)} (hk : look ob k = some (.row e sz xs)) (hf : fz k) {l : Loc} (hl : β k = some l) :
    PRep (wkS S O fz) w (.shr sz xs) l.slice := by
  obtain ⟨h0, hm, hr⟩ := h.objs k _ hk
  rcases hr with ⟨h1, rfl⟩ | ⟨b, cap, vs, h1, h2, h3, h4, h5, h6, h7⟩
  · rw [hl] at h1; cases h1; exact .nil sz
  · rw [hl] at h1; cases h1
    have hc : ∀ (i : Nat) (x : List AV) (j : Nat) (c : AV), xs[i]? = some x → x[j]? = some c → w.cell? ⟨b, 0 + (i * sz + j), none⟩ = some (vs.getD (i * sz + j) undef) ∧ PRep S w c (vs.getD (i * sz + j) undef) := by
      intro i x j c hx hc
      obtain ⟨v, hv, hp⟩ := h7 i x j c hx hc
      have hg : vs.getD (i * sz + j) undef = v := by simp [List.getD, hv]
      rw [hg]
      refine ⟨?_, hp⟩
      rw [cell_of_row w b _ _ e (0, 0) h3]
      simpa using hv
    exact .shr sz xs b 0 cap (fun i j => vs.getD (i * sz + j) undef) (.inr ⟨k, hf, h2⟩) h4 hm h0 (fun i x j c hx hc' => (hc i x j c hx hc').1) (fun i x j c hx hc' => (hc i x j c hx hc').2.wk)

theorem VRep.lit_inv {v x : Value} (h : VRep S β w (.lit v) x) : x = v ∧ v.oneCell' = true := by
  cases h with
  | pure _ _ hp => cases hp with
    | lit _ h1 => exact ⟨rfl, h1⟩

/-- What is seen, seen less. -/
theorem VRep.wk' (hz : ∀ (k : Nat) (e : TypeId) (sz : Nat) (xs : List (List AV)) (l : Loc), look ob k = some (.row e sz xs) → fz k → β k = some l → PRep (wkS S O fz) w (.shr sz xs) l.slice)
    {c' c : AV} (hs : Sub ob ob' ρ fz c' c) : ∀ {x : Value}, VRep S β w c x → VRep (wkS S O fz) (wkB β ρ ob') w c' x := by
  have key : ∀ c x, VRep S β w c x → ∀ c', Sub ob ob' ρ fz c' c → VRep (wkS S O fz) (wkB β ρ ob') w c' x := by
    intro c x hx
    induction hx with
    | pure c x hp =>
      intro c' hs
      cases hs with
      | lit v => exact .pure _ _ hp.wk
      | shr sz xs => exact .pure _ _ hp.wk
      | any => exact .any _
      | nilshr sz => cases hp with | lit h => exact .pure _ _ (.nil sz)
      | nilrow i e sz xs h1 h2 => cases hp with | lit h => exact .row i .nil (wkB_none h1 h2)
      | sptr cs => cases hp
      | row => cases hp
      | ptr => cases hp
      | rptr => cases hp
      | rsl => cases hp
      | frz => cases hp
      | agg => cases hp
      | tup => cases hp
      | clo => cases hp
    | row k l hk =>
      intro c' hs
      cases hs with
      | any => exact .any _
      | row i k h1 h2 => exact .row i l ((wkB_some h1 h2).trans hk)
      | frz k e sz xs h1 h2 => exact .pure _ _ (hz k e sz xs l h1 h2 hk)
    | ptr k off b cap n hk =>
      intro c' hs
      cases hs with
      | any => exact .any _
      | ptr i k off h1 h2 => exact .ptr i off b cap n ((wkB_some h1 h2).trans hk)
    | rptr k sz i j b cap n hk =>
      intro c' hs
      cases hs with
      | any => exact .any _
      | rptr i' k sz x j h1 h2 => exact .rptr i' sz i j b cap n ((wkB_some h1 h2).trans hk)
    | rsl k sz i j b cap n hk hij hjc =>
      intro c' hs
      cases hs with
      | any => exact .any _
      | rsl i' k sz x j h1 h2 => exact .rsl i' sz i j b cap n ((wkB_some h1 h2).trans hk) hij hjc
    | sptr cs b off f hb h1 h2 =>
      intro c' hs
      cases hs with
      | any => exact .any _
      | sptr => exact .sptr cs b off f (.inl hb) h1 (fun j c hc => (h2 j c hc).wk)
    | agg cs vs h1 _ h3 ih =>
      intro c' hs
      cases hs with
      | any => exact .any _
      | agg cs' _ hf =>
        refine .agg cs' vs (h1.trans hf.length.symm) (fun j c x hc hx => ?_) h3
        obtain ⟨c0, hc0, hs0⟩ := hf.get j c hc
        exact ih j c0 x hc0 hx c hs0
    | tup cs vs h1 _ ih =>
      intro c' hs
      cases hs with
      | any => exact .any _
      | tup cs' _ hf =>
        refine .tup cs' vs (h1.trans hf.length.symm) (fun j c x hc hx => ?_)
        obtain ⟨c0, hc0, hs0⟩ := hf.get j c hc
        exact ih j c0 x hc0 hx c hs0
    | clo f cs vs h1 _ ih =>
      intro c' hs
      cases hs with
      | any => exact .any _
      | clo _ cs' _ hf =>
        refine .clo f cs' vs (h1.trans hf.length.symm) (fun j c x hc hx => ?_)
        obtain ⟨c0, hc0, hs0⟩ := hf.get j c hc
        exact ih j c0 x hc0 hx c hs0
    | any x => intro c' hs; cases hs; exact .any _
  exact fun {x} hx => key _ _ hx _ hs

theorem VRep.wk (h : HRep S O β w ob) {c' c : AV} (hs : Sub ob ob' ρ fz c' c) {x : Value} (hx : VRep S β w c x) : VRep (wkS S O fz) (wkB β ρ ob') w c' x :=
  VRep.wk' (fun k e sz xs l h1 h2 h3 => frozen_row h h1 h2 h3) hs hx

theorem HRep.wk0 {obE : List (Nat × AO)} (h : HRep S O β w obE) (hinc : ∀ k o, look ob k = some o → look obE k = some o) (inj : ∀ i j k, look ob' i ≠ none → look ob' j ≠ none → ρ i = some k → ρ j = some k → i = j)
    (hfz : ∀ i k, look ob' i ≠ none → ρ i = some k → ¬ fz k) (hob : ∀ i o', look ob' i = some o' → SubO ob ob' ρ fz i o') :
    HRep (wkS S O fz) (wkO O ρ ob') (wkB β ρ ob') w ob' := by
  have hz : ∀ (k : Nat) (e : TypeId) (sz : Nat) (xs : List (List AV)) (l : Loc), look ob k = some (.row e sz xs) → fz k → β k = some l → PRep (wkS S O fz) w (.shr sz xs) l.slice :=
    fun k e sz xs l h1 h2 h3 => frozen_row h (hinc _ _ h1) h2 h3
  refine ⟨?_, ?_, ?_, ?_, ?_⟩
  · rintro b (hb | ⟨k, _, hb⟩)
    · exact h.sh b hb
    · exact (h.ow k b hb).1
  · rintro i b ⟨hi, k, hk, hb⟩
    refine ⟨(h.ow k b hb).1, ?_⟩
    rintro (hs | ⟨k', hf, hb'⟩)
    · exact (h.ow k b hb).2 hs
    · have := h.dj k k' b hb hb'
      subst this
      exact hfz i k hi hk hf
  · rintro i j b ⟨hi, k, hk, hb⟩ ⟨hj, k', hk', hb'⟩
    have := h.dj k k' b hb hb'
    subst this
    exact inj i j k hi hj hk hk'
  · intro i hi
    refine ⟨by unfold wkB; simp [hi], fun b hb => hb.1 hi⟩
  · intro i o' ho'
    have hs := hob i o' ho'
    cases o' with
    | box cs' =>
      obtain ⟨k, cs, hk, hc, hf⟩ := hs
      obtain ⟨b, cap, n, t, vs, h1, h2, h3, h4, h5, h6⟩ := h.objs k _ (hinc _ _ hc)
      refine ⟨b, cap, n, t, vs, (wkB_some hk (by rw [ho']; simp)).trans h1, ⟨by rw [ho']; simp, k, hk, h2⟩, h3, h4.trans hf.length.symm, fun j c x hc' hx => ?_, h6⟩
      obtain ⟨c0, hc0, hs0⟩ := hf.get j c hc'
      exact (h5 j c0 x hc0 hx).wk' hz hs0
    | row e sz xs =>
      rcases hs with ⟨k, hk, hr⟩ | ⟨hn, rfl⟩ | ⟨k, xs0, hk, hr, hf, hP⟩
      · obtain ⟨h0, hm, hr⟩ := h.objs k _ (hinc _ _ hr)
        refine ⟨h0, hm, ?_⟩
        have hB : wkB β ρ ob' i = β k := wkB_some hk (by rw [ho']; simp)
        rcases hr with ⟨h1, h2⟩ | ⟨b, cap, vs, h1, h2, h3, h4, h5, h6, h7⟩
        · exact .inl ⟨hB.trans h1, h2⟩
        · exact .inr ⟨b, cap, vs, hB.trans h1, ⟨by rw [ho']; simp, k, hk, h2⟩, h3, h4, h5, h6, fun i x j c hx hc => let ⟨v, hv, hp⟩ := h7 i x j c hx hc; ⟨v, hv, hp.wk⟩⟩
      · exact ⟨fun i x hx => by simp at hx, Nat.zero_le _, .inl ⟨wkB_none hn ho', rfl⟩⟩
      · obtain ⟨h0, hm, b, cap, vs, h1, h2, h3, h4, h5, h6, h7⟩ := h.objs k _ (hinc _ _ hr)
        have hB : wkB β ρ ob' i = β k := wkB_some hk (by rw [ho']; simp)
        have hl := hf.length
        refine ⟨fun j x hx => ?_, by omega, .inr ⟨b, cap, vs, by rw [hB, hl]; exact h1, ⟨by rw [ho']; simp, k, hk, h2⟩, h3, by omega, h5, h6, fun i' x j c hx hc => ?_⟩⟩
        · obtain ⟨x0, hx0, hf0⟩ := hf.get j x hx
          rw [hf0.length]; exact h0 j x0 hx0
        · obtain ⟨x0, hx0, hf0⟩ := hf.get i' x hx
          obtain ⟨c0, hc0, hs0⟩ := hf0.get j c hc
          obtain ⟨v, hv, _, hr'⟩ := h7 i' x0 j c0 hx0 hc0
          exact ⟨v, hv, (hr'.wk' hz hs0).toP (hP x (List.mem_of_getElem? hx) c (List.mem_of_getElem? hc))⟩
    | rowv e sz xs =>
      obtain ⟨k, xs0, hk, hr, hf⟩ := hs
      have hB : wkB β ρ ob' i = β k := wkB_some hk (by rw [ho']; simp)
      have hl := hf.length
      obtain ⟨h0, hm, b, cap, vs, h1, h2, h3, h4, h5, h6, h7⟩ : ORep S O β w k (.rowv e sz xs0) := by
        rcases hr with hr | ⟨hr, hne⟩
        · exact h.objs k _ (hinc _ _ hr)
        · obtain ⟨h0, hm, hrr⟩ := h.objs k _ (hinc _ _ hr)
          rcases hrr with ⟨_, h2⟩ | ⟨b, cap, vs, h1, h2, h3, h4, h5, h6, h7⟩
          · exact absurd h2 hne
          · exact ⟨h0, hm, b, cap, vs, h1, h2, h3, h4, h5, h6, fun i x j c hx hc => let ⟨v, hv, hp⟩ := h7 i x j c hx hc; ⟨v, hv, hp.one, .pure _ _ hp⟩⟩
      refine ⟨fun j x hx => ?_, by omega, b, cap, vs, by rw [hB, hl]; exact h1, ⟨by rw [ho']; simp, k, hk, h2⟩, h3, by omega, h5, h6, fun i' x j c hx hc => ?_⟩
      · obtain ⟨x0, hx0, hf0⟩ := hf.get j x hx
        rw [hf0.length]; exact h0 j x0 hx0
      · obtain ⟨x0, hx0, hf0⟩ := hf.get i' x hx
        obtain ⟨c0, hc0, hs0⟩ := hf0.get j c hc
        obtain ⟨v, hv, hv1, hr'⟩ := h7 i' x0 j c0 hx0 hc0
        exact ⟨v, hv, hv1, hr'.wk' hz hs0⟩
    | dead => exact ⟨_, wkB_none hs ho'⟩

theorem HRep.wk (h : HRep S O β w ob) (inj : ∀ i j k, look ob' i ≠ none → look ob' j ≠ none → ρ i = some k → ρ j = some k → i = j)
    (hfz : ∀ i k, look ob' i ≠ none → ρ i = some k → ¬ fz k) (hob : ∀ i o', look ob' i = some o' → SubO ob ob' ρ fz i o') :
    HRep (wkS S O fz) (wkO O ρ ob') (wkB β ρ ob') w ob' := HRep.wk0 h (fun _ _ h => h) inj hfz hob

theorem ORep.bound {k : Nat} {o : AO} (h : ORep S O β w k o) : ∃ l, β k = some l := by
  cases o with
  | box cs => obtain ⟨b, cap, n, t, vs, h1, _⟩ := h; exact ⟨_, h1⟩
  | row e sz xs => obtain ⟨_, _, hr⟩ := h; rcases hr with ⟨h1, _⟩ | ⟨b, cap, vs, h1, _⟩ <;> exact ⟨_, h1⟩
  | rowv e sz xs => obtain ⟨_, _, b, cap, vs, h1, _⟩ := h; exact ⟨_, h1⟩
  | dead => exact h
end
end Go.Vc
