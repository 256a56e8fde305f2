/- The abstract symbolic heap over which all walks of this work are done, and what each operation of the model does to it. -/
import Derived.Orders
import Derived.Below
import Derived.Laws.AppendOwn
import Derived.Laws.OwnMore
import Derived.Laws.MakeOwn
import Derived.Laws.Slices
import Derived.Laws.BytesString
/-! The abstract symbolic heap over which all walks of this work are done: abstract values, objects, and what it means that they stand for a world of the model. No program is in sight. -/
set_option linter.unusedVariables false
namespace Go.Vc
open Go Go.RowKit

/-- Abstract values. 'shr sz xs': a slice that nobody writes any more; element i has the cells xs[i]. 'row k': the slice over the whole of the owned row k. 'ptr k off': cell off of the box k. 'rptr k sz i j': cell j of element i of the row k. 'rsl k sz i j': the slice over the elements i .. j of the row k. 'sptr cs': an address in memory that nobody writes any more; the cells from there on. -/
inductive AV where
  | lit (v : Value)
  | shr (sz : Nat) (xs : List (List AV))
  | row (k : Nat)
  | ptr (k off : Nat)
  | rptr (k sz i j : Nat)
  | rsl (k sz i j : Nat)
  | sptr (cs : List AV)
  | agg (cs : List AV)
  | tup (vs : List AV)
  | clo (f : FuncId) (caps : List AV)
  | mp (k : Nat)
  | any

/-- Abstract objects: a variable's cells; a row (elements of sz cells each) that is owned; one whose elements may own rows themselves ('rowv'); one that is given up. -/
inductive AO where
  | box (cs : List AV)
  | row (e : TypeId) (sz : Nat) (xs : List (List AV))
  | rowv (e : TypeId) (sz : Nat) (xs : List (List AV))
  | rowh (hdr : Value) (e : TypeId) (sz : Nat) (xs : List (List AV))
  | set (l : List Int)
  | raw (P : Nat → Obj → Prop)
  | dead

inductive Loc where
  | nil
  | at (b cap len : Nat)

def Loc.len : Loc → Nat
  | .nil => 0
  | .at _ _ n => n

def Loc.slice : Loc → Value
  | .nil => .slice none 0 0
  | .at b cap n => .slice (some ⟨b, 0, none⟩) n cap

abbrev Beta := Nat → Option Loc

def look {α : Type} : List (Nat × α) → Nat → Option α
  | [], _ => none
  | (k, v) :: r, t => bif Nat.beq k t then some v else look r t

theorem look_cons {α : Type} (k : Nat) (v : α) (r : List (Nat × α)) (t : Nat) : look ((k, v) :: r) t = if k = t then some v else look r t := by
  show (bif Nat.beq k t then some v else look r t) = _
  by_cases h : k = t
  · subst h; simp
  · have hb : Nat.beq k t = false := by
      cases hh : Nat.beq k t with
      | false => rfl
      | true => exact absurd (Nat.eq_of_beq_eq_true hh) h
    simp [hb, h]

/-- The greatest number of elements of a slice of which anything is said here. -/
def maxSl : Nat := 140737488355328

/-- A value out of memory that nobody writes any more. -/
inductive PRep (S : Nat → Prop) (w : World) : AV → Value → Prop
  | lit (v : Value) : v.oneCell' = true → PRep S w (.lit v) v
  | any (v : Value) : v.oneCell' = true → PRep S w .any v
  | nil (sz : Nat) : PRep S w (.shr sz []) (.slice none 0 0)
  | void (sz : Nat) (p : Addr) : PRep S w (.shr sz []) (.slice (some p) 0 0)
  | shr (sz : Nat) (xs : List (List AV)) (b off cap : Nat) (f : Nat → Nat → Value) : S b → xs.length ≤ cap → xs.length ≤ maxSl →
      (∀ (i : Nat) (x : List AV), xs[i]? = some x → x.length = sz) →
      (∀ (i : Nat) (x : List AV) (j : Nat) (c : AV), xs[i]? = some x → x[j]? = some c → w.cell? ⟨b, off + (i * sz + j), none⟩ = some (f i j)) →
      (∀ (i : Nat) (x : List AV) (j : Nat) (c : AV), xs[i]? = some x → x[j]? = some c → PRep S w c (f i j)) → PRep S w (.shr sz xs) (.slice (some ⟨b, off, none⟩) xs.length cap)

theorem PRep.one {S : Nat → Prop} {w : World} {c : AV} {x : Value} (h : PRep S w c x) : x.oneCell' = true := by
  cases h with
  | lit h => assumption
  | any h => assumption
  | nil => rfl
  | void => rfl
  | shr => rfl

/-- The stamps of a map's entries: no twins, and all elder than the clock. -/
def BornOk (es : Array MapEntry) (clock : Nat) : Prop := (∀ e ∈ es.toList, e.born < clock) ∧ (es.toList.map (·.born)).Nodup

/-- Any value. -/
inductive VRep (S : Nat → Prop) (β : Beta) (w : World) : AV → Value → Prop
  | pure (c : AV) (x : Value) : PRep S w c x → VRep S β w c x
  | row (k : Nat) (l : Loc) : β k = some l → VRep S β w (.row k) l.slice
  | ptr (k off b cap n : Nat) : β k = some (.at b cap n) → VRep S β w (.ptr k off) (.pointer (some ⟨b, off, none⟩))
  | rptr (k sz i j b cap n : Nat) : β k = some (.at b cap n) → VRep S β w (.rptr k sz i j) (.pointer (some ⟨b, i * sz + j, none⟩))
  | rsl (k sz i j b cap n : Nat) : β k = some (.at b cap n) → i ≤ j → j ≤ cap → VRep S β w (.rsl k sz i j) (.slice (some ⟨b, if cap = i then 0 else i * sz, none⟩) (j - i) (cap - i))
  | sptr (cs : List AV) (b off : Nat) (f : Nat → Value) : S b → (∀ (j : Nat) (c : AV), cs[j]? = some c → w.cell? ⟨b, off + j, none⟩ = some (f j)) →
      (∀ (j : Nat) (c : AV), cs[j]? = some c → PRep S w c (f j)) → VRep S β w (.sptr cs) (.pointer (some ⟨b, off, none⟩))
  | agg (cs : List AV) (vs : List Value) : vs.length = cs.length → (∀ (j : Nat) (c : AV) (x : Value), cs[j]? = some c → vs[j]? = some x → VRep S β w c x) →
      (∀ x ∈ vs, x.oneCell' = true) → VRep S β w (.agg cs) (.agg vs.toArray)
  | tup (cs : List AV) (vs : List Value) : vs.length = cs.length → (∀ (j : Nat) (c : AV) (x : Value), cs[j]? = some c → vs[j]? = some x → VRep S β w c x) →
      VRep S β w (.tup cs) (.tuple vs.toArray)
  | clo (f : FuncId) (cs : List AV) (vs : List Value) : vs.length = cs.length → (∀ (j : Nat) (c : AV) (x : Value), cs[j]? = some c → vs[j]? = some x → VRep S β w c x) →
      VRep S β w (.clo f cs) (.func (.func f) #[] vs.toArray)
  | mp (k b cap n : Nat) : β k = some (.at b cap n) → VRep S β w (.mp k) (.map (some b))
  | any (x : Value) : VRep S β w .any x

/-- What it is that an abstract object stands for a block. -/
def ORep (S : Nat → Prop) (O : Nat → Nat → Prop) (β : Beta) (w : World) (k : Nat) : AO → Prop
  | .box cs => ∃ (b cap n : Nat) (t : TypeId) (vs : List Value), β k = some (.at b cap n) ∧ O k b ∧ w.heap[b]? = some (.cells vs.toArray t (0, 0)) ∧ vs.length = cs.length ∧
      (∀ (j : Nat) (c : AV) (x : Value), cs[j]? = some c → vs[j]? = some x → VRep S β w c x) ∧ ∀ x ∈ vs, x.oneCell' = true
  | .row e sz xs => (∀ (i : Nat) (x : List AV), xs[i]? = some x → x.length = sz) ∧ xs.length ≤ maxSl ∧
      ((β k = some .nil ∧ xs = []) ∨
       ∃ (b cap : Nat) (vs : List Value), β k = some (.at b cap xs.length) ∧ O k b ∧ w.heap[b]? = some (.cells vs.toArray e (0, 0)) ∧ xs.length ≤ cap ∧ cap ≤ maxLen ∧ vs.length = cap * sz ∧
        ∀ (i : Nat) (x : List AV) (j : Nat) (c : AV), xs[i]? = some x → x[j]? = some c → ∃ v, vs[i * sz + j]? = some v ∧ PRep S w c v)
  | .rowh hdr e sz xs => (∃ l, β k = some l ∧ l.slice = hdr) ∧ (∀ (i : Nat) (x : List AV), xs[i]? = some x → x.length = sz) ∧ xs.length ≤ maxSl ∧
      ((β k = some .nil ∧ xs = []) ∨
       ∃ (b cap : Nat) (vs : List Value), β k = some (.at b cap xs.length) ∧ O k b ∧ w.heap[b]? = some (.cells vs.toArray e (0, 0)) ∧ xs.length ≤ cap ∧ cap ≤ maxLen ∧ vs.length = cap * sz ∧
        ∀ (i : Nat) (x : List AV) (j : Nat) (c : AV), xs[i]? = some x → x[j]? = some c → ∃ v, vs[i * sz + j]? = some v ∧ PRep S w c v)
  | .rowv e sz xs => (∀ (i : Nat) (x : List AV), xs[i]? = some x → x.length = sz) ∧ xs.length ≤ maxSl ∧
      ∃ (b cap : Nat) (vs : List Value), β k = some (.at b cap xs.length) ∧ O k b ∧ w.heap[b]? = some (.cells vs.toArray e (0, 0)) ∧ xs.length ≤ cap ∧ cap ≤ maxLen ∧ vs.length = cap * sz ∧
        ∀ (i : Nat) (x : List AV) (j : Nat) (c : AV), xs[i]? = some x → x[j]? = some c → ∃ v, vs[i * sz + j]? = some v ∧ v.oneCell' = true ∧ VRep S β w c v
  | .set l => ∃ (b cap n : Nat) (es : Array MapEntry) (clock : Nat), β k = some (.at b cap n) ∧ O k b ∧ w.heap[b]? = some (.map es clock) ∧
      (∀ e ∈ es.toList, ∃ m ∈ l, e.key = .int .i64 m ∧ e.val = .bool true) ∧ (∀ m ∈ l, ∃ e ∈ es.toList, e.key = .int .i64 m) ∧ BornOk es clock
  | .raw P => ∃ (b cap n : Nat) (o : Obj), β k = some (.at b cap n) ∧ O k b ∧ w.heap[b]? = some o ∧ P b o
  | .dead => ∃ l, β k = some l

structure HRep (S : Nat → Prop) (O : Nat → Nat → Prop) (β : Beta) (w : World) (ob : List (Nat × AO)) : Prop where
  sh : ∀ b, S b → b < w.heap.size
  ow : ∀ k b, O k b → b < w.heap.size ∧ ¬ S b
  dj : ∀ k k' b, O k b → O k' b → k = k'
  dom : ∀ k, look ob k = none → β k = none ∧ ∀ b, ¬ O k b
  objs : ∀ k o, look ob k = some o → ORep S O β w k o

/-- The abstract environment: slots, objects, how many slots there are. -/
structure Env where
  sl : List (Nat × AV)
  ob : List (Nat × AO)
  n : Nat

/-- What a call began with: its world, what was readable, what was owned (handed in by pointer), where it lay, and under which names. -/
structure Ctx where
  w0 : World
  S0 : Nat → Prop
  O0 : Nat → Prop
  β0 : Beta
  par : List Nat

/-- Only blocks of Wr may have turned. -/
structure Fr (Wr : Nat → Prop) (w w' : World) : Prop where
  os : w'.os = w.os
  tape : w'.tape = w.tape
  output : w'.output = w.output
  size : w.heap.size ≤ w'.heap.size
  block : ∀ b, b < w.heap.size → ¬ Wr b → w'.heap[b]? = w.heap[b]?

structure SimAt (Γ : Ctx) (S : Nat → Prop) (O : Nat → Nat → Prop) (β : Beta) (E : Env) (a : Act) (w : World) : Prop where
  h : HRep S O β w E.ob
  sl : ∀ t v, look E.sl t = some v → VRep S β w v (a.tmps.getD t undef)
  n : a.tmps.size = E.n
  df : a.defers = []
  s0 : ∀ b, Γ.S0 b → S b
  s1 : ∀ b, S b → Γ.S0 b ∨ Γ.O0 b ∨ Γ.w0.heap.size ≤ b
  o1 : ∀ k b, O k b → Γ.O0 b ∨ Γ.w0.heap.size ≤ b
  b0 : ∀ k, k ∈ Γ.par → look E.ob k ≠ none → β k = Γ.β0 k
  fr : Fr Γ.O0 Γ.w0 w

def Sim (Γ : Ctx) (E : Env) (a : Act) (w : World) : Prop := ∃ S O β, SimAt Γ S O β E a w

theorem Fr.refl (Wr : Nat → Prop) (w : World) : Fr Wr w w := ⟨rfl, rfl, rfl, Nat.le_refl _, fun _ _ _ => rfl⟩

theorem Fr.trans {A B : Nat → Prop} {w w1 w2 : World} (h : Fr A w w1) (k : Fr B w1 w2) (hB : ∀ b, B b → A b ∨ w.heap.size ≤ b) : Fr A w w2 :=
  ⟨k.os.trans h.os, k.tape.trans h.tape, k.output.trans h.output, Nat.le_trans h.size k.size, fun b hb hn =>
    (k.block b (Nat.lt_of_lt_of_le hb h.size) (fun hb' => by rcases hB b hb' with h1 | h1; exact hn h1; omega)).trans (h.block b hb hn)⟩

theorem cell_of_heap {w w' : World} {b o : Nat} (h : w'.heap[b]? = w.heap[b]?) : w'.cell? ⟨b, o, none⟩ = w.cell? ⟨b, o, none⟩ := by
  simp [World.cell?, h]

theorem PRep.mono {S S' : Nat → Prop} {w w' : World} (hS : ∀ b, S b → S' b ∧ w'.heap[b]? = w.heap[b]?) {c : AV} {x : Value} (h : PRep S w c x) : PRep S' w' c x := by
  induction h with
  | lit v h => exact .lit v h
  | any v h => exact .any v h
  | nil sz => exact .nil sz
  | void sz p => exact .void sz p
  | shr sz xs b off cap f hb h1 h2 h3 h4 _ ih =>
    exact .shr sz xs b off cap f (hS b hb).1 h1 h2 h3 (fun i x j c hx hc => (cell_of_heap (hS b hb).2).trans (h4 i x j c hx hc)) ih

theorem VRep.mono {S S' : Nat → Prop} {β β' : Beta} {w w' : World} (hS : ∀ b, S b → S' b ∧ w'.heap[b]? = w.heap[b]?) (hβ : ∀ k l, β k = some l → β' k = some l)
    {c : AV} {x : Value} (h : VRep S β w c x) : VRep S' β' w' c x := by
  induction h with
  | pure c x h => exact .pure c x (h.mono hS)
  | row k l h => exact .row k l (hβ _ _ h)
  | ptr k off b cap n h => exact .ptr k off b cap n (hβ _ _ h)
  | rptr k sz i j b cap n h => exact .rptr k sz i j b cap n (hβ _ _ h)
  | rsl k sz i j b cap n h h1 h2 => exact .rsl k sz i j b cap n (hβ _ _ h) h1 h2
  | sptr cs b off f hb h1 h2 => exact .sptr cs b off f (hS b hb).1 (fun j c hc => (cell_of_heap (hS b hb).2).trans (h1 j c hc)) (fun j c hc => (h2 j c hc).mono hS)
  | agg cs vs h1 _ h3 ih => exact .agg cs vs h1 ih h3
  | tup cs vs h1 _ ih => exact .tup cs vs h1 ih
  | clo f cs vs h1 _ ih => exact .clo f cs vs h1 ih
  | mp k b cap n h => exact .mp k b cap n (hβ _ _ h)
  | any x => exact .any x

theorem ORep.mono {S S' : Nat → Prop} {O O' : Nat → Nat → Prop} {β β' : Beta} {w w' : World} {k : Nat} {o : AO} (hS : ∀ b, S b → S' b ∧ w'.heap[b]? = w.heap[b]?) (hβ : ∀ k l, β k = some l → β' k = some l)
    (hO : ∀ b, O k b → O' k b ∧ w'.heap[b]? = w.heap[b]?) (h : ORep S O β w k o) : ORep S' O' β' w' k o := by
  cases o with
  | box cs =>
    obtain ⟨b, cap, n, t, vs, h1, h2, h3, h4, h5, h6⟩ := h
    exact ⟨b, cap, n, t, vs, hβ _ _ h1, (hO b h2).1, (hO b h2).2.trans h3, h4, fun j c x hc hx => (h5 j c x hc hx).mono hS hβ, h6⟩
  | row e sz xs =>
    obtain ⟨h0, hm, h⟩ := h
    refine ⟨h0, hm, ?_⟩
    rcases h with ⟨h1, h2⟩ | ⟨b, cap, vs, h1, h2, h3, h4, h5, h6, h7⟩
    · exact .inl ⟨hβ _ _ h1, h2⟩
    · exact .inr ⟨b, cap, vs, hβ _ _ h1, (hO b h2).1, (hO b h2).2.trans h3, h4, h5, h6, fun i x j c hx hc => let ⟨v, hv, hr⟩ := h7 i x j c hx hc; ⟨v, hv, hr.mono hS⟩⟩
  | rowh hdr e sz xs =>
    obtain ⟨⟨l, hl, hh⟩, h0, hm, h⟩ := h
    refine ⟨⟨l, hβ _ _ hl, hh⟩, h0, hm, ?_⟩
    rcases h with ⟨h1, h2⟩ | ⟨b, cap, vs, h1, h2, h3, h4, h5, h6, h7⟩
    · exact .inl ⟨hβ _ _ h1, h2⟩
    · exact .inr ⟨b, cap, vs, hβ _ _ h1, (hO b h2).1, (hO b h2).2.trans h3, h4, h5, h6, fun i x j c hx hc => let ⟨v, hv, hr⟩ := h7 i x j c hx hc; ⟨v, hv, hr.mono hS⟩⟩
  | rowv e sz xs =>
    obtain ⟨h0, hm, b, cap, vs, h1, h2, h3, h4, h5, h6, h7⟩ := h
    exact ⟨h0, hm, b, cap, vs, hβ _ _ h1, (hO b h2).1, (hO b h2).2.trans h3, h4, h5, h6, fun i x j c hx hc => let ⟨v, hv, h1, hr⟩ := h7 i x j c hx hc; ⟨v, hv, h1, hr.mono hS hβ⟩⟩
  | set l =>
    obtain ⟨b, cap, n, es, clock, h1, h2, h3, h4⟩ := h
    exact ⟨b, cap, n, es, clock, hβ _ _ h1, (hO b h2).1, (hO b h2).2.trans h3, h4⟩
  | raw P =>
    obtain ⟨b, cap, n, o, h1, h2, h3, h4⟩ := h
    exact ⟨b, cap, n, o, hβ _ _ h1, (hO b h2).1, (hO b h2).2.trans h3, h4⟩
  | dead => exact let ⟨l, hl⟩ := h; ⟨l, hβ _ _ hl⟩

/-! ### Seeing less, under other names -/
inductive F2 {α γ : Type} (R : α → γ → Prop) : List α → List γ → Prop
  | nil : F2 R [] []
  | cons {a : α} {b : γ} {as : List α} {bs : List γ} : R a b → F2 R as bs → F2 R (a :: as) (b :: bs)

theorem F2.length {α γ : Type} {R : α → γ → Prop} {as : List α} {bs : List γ} (h : F2 R as bs) : as.length = bs.length := by
  induction h with
  | nil => rfl
  | cons _ _ ih => simp [ih]

theorem F2.get {α γ : Type} {R : α → γ → Prop} {as : List α} {bs : List γ} (h : F2 R as bs) : ∀ (j : Nat) (a : α), as[j]? = some a → ∃ b, bs[j]? = some b ∧ R a b := by
  induction h with
  | nil => intro j a ha; simp at ha
  | cons hr _ ih =>
    intro j a ha
    cases j with
    | zero => simp at ha; subst ha; exact ⟨_, by simp, hr⟩
    | succ j => simpa using ih j a (by simpa using ha)

/-- 'Sub ob ob' ρ fz c' c': what is seen as c may be seen as c'. ρ: under which elder name each new name lies; fz: which objects are given up, and readable. -/
inductive Sub (ob ob' : List (Nat × AO)) (ρ : Nat → Option Nat) (fz : Nat → Prop) : AV → AV → Prop
  | lit (v : Value) : Sub ob ob' ρ fz (.lit v) (.lit v)
  | shr (sz : Nat) (xs : List (List AV)) : Sub ob ob' ρ fz (.shr sz xs) (.shr sz xs)
  | sptr (cs : List AV) : Sub ob ob' ρ fz (.sptr cs) (.sptr cs)
  | any (c : AV) : Sub ob ob' ρ fz .any c
  | nilshr (sz : Nat) : Sub ob ob' ρ fz (.shr sz []) (.lit (.slice none 0 0))
  | nilrow (i : Nat) (e : TypeId) (sz : Nat) (xs : List (List AV)) : ρ i = none → look ob' i = some (.row e sz xs) → Sub ob ob' ρ fz (.row i) (.lit (.slice none 0 0))
  | row (i k : Nat) : ρ i = some k → look ob' i ≠ none → Sub ob ob' ρ fz (.row i) (.row k)
  | ptr (i k off : Nat) : ρ i = some k → look ob' i ≠ none → Sub ob ob' ρ fz (.ptr i off) (.ptr k off)
  | rptr (i k sz x j : Nat) : ρ i = some k → look ob' i ≠ none → Sub ob ob' ρ fz (.rptr i sz x j) (.rptr k sz x j)
  | rsl (i k sz x j : Nat) : ρ i = some k → look ob' i ≠ none → Sub ob ob' ρ fz (.rsl i sz x j) (.rsl k sz x j)
  | frz (k : Nat) (e : TypeId) (sz : Nat) (xs : List (List AV)) : look ob k = some (.row e sz xs) → fz k → Sub ob ob' ρ fz (.shr sz xs) (.row k)
  | agg (cs' cs : List AV) : F2 (Sub ob ob' ρ fz) cs' cs → Sub ob ob' ρ fz (.agg cs') (.agg cs)
  | tup (cs' cs : List AV) : F2 (Sub ob ob' ρ fz) cs' cs → Sub ob ob' ρ fz (.tup cs') (.tup cs)
  | clo (f : FuncId) (cs' cs : List AV) : F2 (Sub ob ob' ρ fz) cs' cs → Sub ob ob' ρ fz (.clo f cs') (.clo f cs)
  | mp (i k : Nat) : ρ i = some k → look ob' i ≠ none → Sub ob ob' ρ fz (.mp i) (.mp k)

def isP : AV → Bool
  | .lit _ | .shr _ _ => true
  | _ => false

theorem VRep.toP {S : Nat → Prop} {β : Beta} {w : World} {c : AV} {x : Value} (h : VRep S β w c x) (hp : isP c = true) : PRep S w c x := by
  cases h with
  | pure _ _ h => exact h
  | _ => simp [isP] at hp

def SubO (ob ob' : List (Nat × AO)) (ρ : Nat → Option Nat) (fz : Nat → Prop) (i : Nat) : AO → Prop
  | .box cs' => ∃ k cs, ρ i = some k ∧ look ob k = some (.box cs) ∧ F2 (Sub ob ob' ρ fz) cs' cs
  | .row e sz xs => (∃ k, ρ i = some k ∧ look ob k = some (.row e sz xs)) ∨ (ρ i = none ∧ xs = []) ∨
      (∃ k xs0, ρ i = some k ∧ look ob k = some (.rowv e sz xs0) ∧ F2 (F2 (Sub ob ob' ρ fz)) xs xs0 ∧ ∀ x ∈ xs, ∀ c ∈ x, isP c = true)
  | .rowv e sz xs => ∃ k xs0, ρ i = some k ∧ (look ob k = some (.rowv e sz xs0) ∨ (look ob k = some (.row e sz xs0) ∧ xs0 ≠ [])) ∧ F2 (F2 (Sub ob ob' ρ fz)) xs xs0
  | .rowh hdr e sz xs => ∃ k, ρ i = some k ∧ look ob k = some (.rowh hdr e sz xs)
  | .set l => ∃ k, ρ i = some k ∧ look ob k = some (.set l)
  | .raw P => ∃ k Q, ρ i = some k ∧ look ob k = some (.raw Q) ∧ ∀ b o, Q b o → P b o
  | .dead => ρ i = none

def wkS (S : Nat → Prop) (O : Nat → Nat → Prop) (fz : Nat → Prop) : Nat → Prop := fun b => S b ∨ ∃ k, fz k ∧ O k b
def wkO (O : Nat → Nat → Prop) (ρ : Nat → Option Nat) (ob' : List (Nat × AO)) : Nat → Nat → Prop := fun i b => look ob' i ≠ none ∧ ∃ k, ρ i = some k ∧ O k b
def wkB (β : Beta) (ρ : Nat → Option Nat) (ob' : List (Nat × AO)) : Beta := fun i =>
  match look ob' i with
  | none => none
  | some _ => match ρ i with
    | some k => β k
    | none => some .nil

theorem wkB_some {β : Beta} {ρ : Nat → Option Nat} {ob' : List (Nat × AO)} {i k : Nat} (h : ρ i = some k) (hi : look ob' i ≠ none) : wkB β ρ ob' i = β k := by
  unfold wkB
  cases ho : look ob' i with
  | none => exact absurd ho hi
  | some o => simp [h]

theorem wkB_none {β : Beta} {ρ : Nat → Option Nat} {ob' : List (Nat × AO)} {i : Nat} {o : AO} (h : ρ i = none) (hi : look ob' i = some o) : wkB β ρ ob' i = some .nil := by
  unfold wkB
  simp [h, hi]

theorem PRep.wk {S : Nat → Prop} {O : Nat → Nat → Prop} {fz : Nat → Prop} {w : World} {c : AV} {x : Value} (h : PRep S w c x) : PRep (wkS S O fz) w c x :=
  h.mono fun _ hb => ⟨.inl hb, rfl⟩

section
variable {S : Nat → Prop} {O : Nat → Nat → Prop} {β : Beta} {w : World} {ob ob' : List (Nat × AO)} {ρ : Nat → Option Nat} {fz : Nat → Prop}

theorem frozen_row (h : HRep S O β w ob) {k : Nat} {e : TypeId} {sz : Nat} {xs : List (List AV)} (hk : look ob k = some (.row e sz xs)) (hf : fz k) {l : Loc} (hl : β k = some l) :
    PRep (wkS S O fz) w (.shr sz xs) l.slice := by
  obtain ⟨h0, hm, hr⟩ := h.objs k _ hk
  rcases hr with ⟨h1, rfl⟩ | ⟨b, cap, vs, h1, h2, h3, h4, h5, h6, h7⟩
  · rw [hl] at h1; cases h1; exact .nil sz
  · rw [hl] at h1; cases h1
    have hc : ∀ (i : Nat) (x : List AV) (j : Nat) (c : AV), xs[i]? = some x → x[j]? = some c → w.cell? ⟨b, 0 + (i * sz + j), none⟩ = some (vs.getD (i * sz + j) undef) ∧ PRep S w c (vs.getD (i * sz + j) undef) := by
      intro i x j c hx hc
      obtain ⟨v, hv, hp⟩ := h7 i x j c hx hc
      have hg : vs.getD (i * sz + j) undef = v := by simp [List.getD, hv]
      rw [hg]
      refine ⟨?_, hp⟩
      rw [cell_of_row w b _ _ e (0, 0) h3]
      simpa using hv
    exact .shr sz xs b 0 cap (fun i j => vs.getD (i * sz + j) undef) (.inr ⟨k, hf, h2⟩) h4 hm h0 (fun i x j c hx hc' => (hc i x j c hx hc').1) (fun i x j c hx hc' => (hc i x j c hx hc').2.wk)

theorem VRep.lit_inv {v x : Value} (h : VRep S β w (.lit v) x) : x = v ∧ v.oneCell' = true := by
  cases h with
  | pure _ _ hp => cases hp with
    | lit _ h1 => exact ⟨rfl, h1⟩

/-- What is seen, seen less. -/
theorem VRep.wk' (hz : ∀ (k : Nat) (e : TypeId) (sz : Nat) (xs : List (List AV)) (l : Loc), look ob k = some (.row e sz xs) → fz k → β k = some l → PRep (wkS S O fz) w (.shr sz xs) l.slice)
    {c' c : AV} (hs : Sub ob ob' ρ fz c' c) : ∀ {x : Value}, VRep S β w c x → VRep (wkS S O fz) (wkB β ρ ob') w c' x := by
  have key : ∀ c x, VRep S β w c x → ∀ c', Sub ob ob' ρ fz c' c → VRep (wkS S O fz) (wkB β ρ ob') w c' x := by
    intro c x hx
    induction hx with
    | pure c x hp =>
      intro c' hs
      cases hs with
      | lit v => exact .pure _ _ hp.wk
      | shr sz xs => exact .pure _ _ hp.wk
      | any => exact .any _
      | nilshr sz => cases hp with | lit h => exact .pure _ _ (.nil sz)
      | nilrow i e sz xs h1 h2 => cases hp with | lit h => exact .row i .nil (wkB_none h1 h2)
      | sptr cs => cases hp
      | row => cases hp
      | ptr => cases hp
      | rptr => cases hp
      | rsl => cases hp
      | frz => cases hp
      | agg => cases hp
      | tup => cases hp
      | clo => cases hp
      | mp => cases hp
    | row k l hk =>
      intro c' hs
      cases hs with
      | any => exact .any _
      | row i k h1 h2 => exact .row i l ((wkB_some h1 h2).trans hk)
      | frz k e sz xs h1 h2 => exact .pure _ _ (hz k e sz xs l h1 h2 hk)
    | ptr k off b cap n hk =>
      intro c' hs
      cases hs with
      | any => exact .any _
      | ptr i k off h1 h2 => exact .ptr i off b cap n ((wkB_some h1 h2).trans hk)
    | rptr k sz i j b cap n hk =>
      intro c' hs
      cases hs with
      | any => exact .any _
      | rptr i' k sz x j h1 h2 => exact .rptr i' sz i j b cap n ((wkB_some h1 h2).trans hk)
    | rsl k sz i j b cap n hk hij hjc =>
      intro c' hs
      cases hs with
      | any => exact .any _
      | rsl i' k sz x j h1 h2 => exact .rsl i' sz i j b cap n ((wkB_some h1 h2).trans hk) hij hjc
    | sptr cs b off f hb h1 h2 =>
      intro c' hs
      cases hs with
      | any => exact .any _
      | sptr => exact .sptr cs b off f (.inl hb) h1 (fun j c hc => (h2 j c hc).wk)
    | agg cs vs h1 _ h3 ih =>
      intro c' hs
      cases hs with
      | any => exact .any _
      | agg cs' _ hf =>
        refine .agg cs' vs (h1.trans hf.length.symm) (fun j c x hc hx => ?_) h3
        obtain ⟨c0, hc0, hs0⟩ := hf.get j c hc
        exact ih j c0 x hc0 hx c hs0
    | tup cs vs h1 _ ih =>
      intro c' hs
      cases hs with
      | any => exact .any _
      | tup cs' _ hf =>
        refine .tup cs' vs (h1.trans hf.length.symm) (fun j c x hc hx => ?_)
        obtain ⟨c0, hc0, hs0⟩ := hf.get j c hc
        exact ih j c0 x hc0 hx c hs0
    | clo f cs vs h1 _ ih =>
      intro c' hs
      cases hs with
      | any => exact .any _
      | clo _ cs' _ hf =>
        refine .clo f cs' vs (h1.trans hf.length.symm) (fun j c x hc hx => ?_)
        obtain ⟨c0, hc0, hs0⟩ := hf.get j c hc
        exact ih j c0 x hc0 hx c hs0
    | mp k b cap n hk =>
      intro c' hs
      cases hs with
      | any => exact .any _
      | mp i k h1 h2 => exact .mp i b cap n ((wkB_some h1 h2).trans hk)
    | any x => intro c' hs; cases hs; exact .any _
  exact fun {x} hx => key _ _ hx _ hs

theorem VRep.wk (h : HRep S O β w ob) {c' c : AV} (hs : Sub ob ob' ρ fz c' c) {x : Value} (hx : VRep S β w c x) : VRep (wkS S O fz) (wkB β ρ ob') w c' x :=
  VRep.wk' (fun k e sz xs l h1 h2 h3 => frozen_row h h1 h2 h3) hs hx

theorem HRep.wk0 {obE : List (Nat × AO)} (h : HRep S O β w obE) (hinc : ∀ k o, look ob k = some o → look obE k = some o) (inj : ∀ i j k, look ob' i ≠ none → look ob' j ≠ none → ρ i = some k → ρ j = some k → i = j)
    (hfz : ∀ i k, look ob' i ≠ none → ρ i = some k → ¬ fz k) (hob : ∀ i o', look ob' i = some o' → SubO ob ob' ρ fz i o') :
    HRep (wkS S O fz) (wkO O ρ ob') (wkB β ρ ob') w ob' := by
  have hz : ∀ (k : Nat) (e : TypeId) (sz : Nat) (xs : List (List AV)) (l : Loc), look ob k = some (.row e sz xs) → fz k → β k = some l → PRep (wkS S O fz) w (.shr sz xs) l.slice :=
    fun k e sz xs l h1 h2 h3 => frozen_row h (hinc _ _ h1) h2 h3
  refine ⟨?_, ?_, ?_, ?_, ?_⟩
  · rintro b (hb | ⟨k, _, hb⟩)
    · exact h.sh b hb
    · exact (h.ow k b hb).1
  · rintro i b ⟨hi, k, hk, hb⟩
    refine ⟨(h.ow k b hb).1, ?_⟩
    rintro (hs | ⟨k', hf, hb'⟩)
    · exact (h.ow k b hb).2 hs
    · have := h.dj k k' b hb hb'
      subst this
      exact hfz i k hi hk hf
  · rintro i j b ⟨hi, k, hk, hb⟩ ⟨hj, k', hk', hb'⟩
    have := h.dj k k' b hb hb'
    subst this
    exact inj i j k hi hj hk hk'
  · intro i hi
    refine ⟨by unfold wkB; simp [hi], fun b hb => hb.1 hi⟩
  · intro i o' ho'
    have hs := hob i o' ho'
    cases o' with
    | box cs' =>
      obtain ⟨k, cs, hk, hc, hf⟩ := hs
      obtain ⟨b, cap, n, t, vs, h1, h2, h3, h4, h5, h6⟩ := h.objs k _ (hinc _ _ hc)
      refine ⟨b, cap, n, t, vs, (wkB_some hk (by rw [ho']; simp)).trans h1, ⟨by rw [ho']; simp, k, hk, h2⟩, h3, h4.trans hf.length.symm, fun j c x hc' hx => ?_, h6⟩
      obtain ⟨c0, hc0, hs0⟩ := hf.get j c hc'
      exact (h5 j c0 x hc0 hx).wk' hz hs0
    | row e sz xs =>
      rcases hs with ⟨k, hk, hr⟩ | ⟨hn, rfl⟩ | ⟨k, xs0, hk, hr, hf, hP⟩
      · obtain ⟨h0, hm, hr⟩ := h.objs k _ (hinc _ _ hr)
        refine ⟨h0, hm, ?_⟩
        have hB : wkB β ρ ob' i = β k := wkB_some hk (by rw [ho']; simp)
        rcases hr with ⟨h1, h2⟩ | ⟨b, cap, vs, h1, h2, h3, h4, h5, h6, h7⟩
        · exact .inl ⟨hB.trans h1, h2⟩
        · exact .inr ⟨b, cap, vs, hB.trans h1, ⟨by rw [ho']; simp, k, hk, h2⟩, h3, h4, h5, h6, fun i x j c hx hc => let ⟨v, hv, hp⟩ := h7 i x j c hx hc; ⟨v, hv, hp.wk⟩⟩
      · exact ⟨fun i x hx => by simp at hx, Nat.zero_le _, .inl ⟨wkB_none hn ho', rfl⟩⟩
      · obtain ⟨h0, hm, b, cap, vs, h1, h2, h3, h4, h5, h6, h7⟩ := h.objs k _ (hinc _ _ hr)
        have hB : wkB β ρ ob' i = β k := wkB_some hk (by rw [ho']; simp)
        have hl := hf.length
        refine ⟨fun j x hx => ?_, by omega, .inr ⟨b, cap, vs, by rw [hB, hl]; exact h1, ⟨by rw [ho']; simp, k, hk, h2⟩, h3, by omega, h5, h6, fun i' x j c hx hc => ?_⟩⟩
        · obtain ⟨x0, hx0, hf0⟩ := hf.get j x hx
          rw [hf0.length]; exact h0 j x0 hx0
        · obtain ⟨x0, hx0, hf0⟩ := hf.get i' x hx
          obtain ⟨c0, hc0, hs0⟩ := hf0.get j c hc
          obtain ⟨v, hv, _, hr'⟩ := h7 i' x0 j c0 hx0 hc0
          exact ⟨v, hv, (hr'.wk' hz hs0).toP (hP x (List.mem_of_getElem? hx) c (List.mem_of_getElem? hc))⟩
    | rowv e sz xs =>
      obtain ⟨k, xs0, hk, hr, hf⟩ := hs
      have hB : wkB β ρ ob' i = β k := wkB_some hk (by rw [ho']; simp)
      have hl := hf.length
      obtain ⟨h0, hm, b, cap, vs, h1, h2, h3, h4, h5, h6, h7⟩ : ORep S O β w k (.rowv e sz xs0) := by
        rcases hr with hr | ⟨hr, hne⟩
        · exact h.objs k _ (hinc _ _ hr)
        · obtain ⟨h0, hm, hrr⟩ := h.objs k _ (hinc _ _ hr)
          rcases hrr with ⟨_, h2⟩ | ⟨b, cap, vs, h1, h2, h3, h4, h5, h6, h7⟩
          · exact absurd h2 hne
          · exact ⟨h0, hm, b, cap, vs, h1, h2, h3, h4, h5, h6, fun i x j c hx hc => let ⟨v, hv, hp⟩ := h7 i x j c hx hc; ⟨v, hv, hp.one, .pure _ _ hp⟩⟩
      refine ⟨fun j x hx => ?_, by omega, b, cap, vs, by rw [hB, hl]; exact h1, ⟨by rw [ho']; simp, k, hk, h2⟩, h3, by omega, h5, h6, fun i' x j c hx hc => ?_⟩
      · obtain ⟨x0, hx0, hf0⟩ := hf.get j x hx
        rw [hf0.length]; exact h0 j x0 hx0
      · obtain ⟨x0, hx0, hf0⟩ := hf.get i' x hx
        obtain ⟨c0, hc0, hs0⟩ := hf0.get j c hc
        obtain ⟨v, hv, hv1, hr'⟩ := h7 i' x0 j c0 hx0 hc0
        exact ⟨v, hv, hv1, hr'.wk' hz hs0⟩
    | rowh hdr e sz xs =>
      obtain ⟨k, hk, hr⟩ := hs
      obtain ⟨⟨l, hl, hh⟩, h0, hm, hr⟩ := h.objs k _ (hinc _ _ hr)
      have hB : wkB β ρ ob' i = β k := wkB_some hk (by rw [ho']; simp)
      refine ⟨⟨l, hB.trans hl, hh⟩, h0, hm, ?_⟩
      rcases hr with ⟨h1, h2⟩ | ⟨b, cap, vs, h1, h2, h3, h4, h5, h6, h7⟩
      · exact .inl ⟨hB.trans h1, h2⟩
      · exact .inr ⟨b, cap, vs, hB.trans h1, ⟨by rw [ho']; simp, k, hk, h2⟩, h3, h4, h5, h6, fun i x j c hx hc => let ⟨v, hv, hp⟩ := h7 i x j c hx hc; ⟨v, hv, hp.wk⟩⟩
    | set l =>
      obtain ⟨k, hk, hc⟩ := hs
      obtain ⟨b, cap, n, es, clock, h1, h2, h3⟩ := h.objs k _ (hinc _ _ hc)
      exact ⟨b, cap, n, es, clock, (wkB_some hk (by rw [ho']; simp)).trans h1, ⟨by rw [ho']; simp, k, hk, h2⟩, h3⟩
    | raw P =>
      obtain ⟨k, Q, hk, hc, hq⟩ := hs
      obtain ⟨b, cap, n, o, h1, h2, h3, h4⟩ := h.objs k _ (hinc _ _ hc)
      exact ⟨b, cap, n, o, (wkB_some hk (by rw [ho']; simp)).trans h1, ⟨by rw [ho']; simp, k, hk, h2⟩, h3, hq _ _ h4⟩
    | dead => exact ⟨_, wkB_none hs ho'⟩

theorem HRep.wk (h : HRep S O β w ob) (inj : ∀ i j k, look ob' i ≠ none → look ob' j ≠ none → ρ i = some k → ρ j = some k → i = j)
    (hfz : ∀ i k, look ob' i ≠ none → ρ i = some k → ¬ fz k) (hob : ∀ i o', look ob' i = some o' → SubO ob ob' ρ fz i o') :
    HRep (wkS S O fz) (wkO O ρ ob') (wkB β ρ ob') w ob' := HRep.wk0 h (fun _ _ h => h) inj hfz hob

theorem ORep.bound {k : Nat} {o : AO} (h : ORep S O β w k o) : ∃ l, β k = some l := by
  cases o with
  | box cs => obtain ⟨b, cap, n, t, vs, h1, _⟩ := h; exact ⟨_, h1⟩
  | row e sz xs => obtain ⟨_, _, hr⟩ := h; rcases hr with ⟨h1, _⟩ | ⟨b, cap, vs, h1, _⟩ <;> exact ⟨_, h1⟩
  | rowv e sz xs => obtain ⟨_, _, b, cap, vs, h1, _⟩ := h; exact ⟨_, h1⟩
  | rowh hdr e sz xs => obtain ⟨⟨l, h1, _⟩, _⟩ := h; exact ⟨l, h1⟩
  | set l => obtain ⟨b, cap, n, es, clock, h1, _⟩ := h; exact ⟨_, h1⟩
  | raw P => obtain ⟨b, cap, n, o, h1, _⟩ := h; exact ⟨_, h1⟩
  | dead => exact h
end
end Go.Vc

/-! How the abstract heap follows what the model does: a slot is written, a block is made, a block of one's own is written, one sees less. -/
namespace Go.Vc
open Go Go.RowKit

def Env.app (E : Env) (dst : Option Tmp) (v : AV) (upd : List (Nat × AO)) : Env :=
  ⟨match dst with | some d => (d, v) :: E.sl | none => E.sl, upd ++ E.ob, E.n⟩

theorem getD_set (t : Array Value) (d j : Nat) (x : Value) (hd : d < t.size) : (t.setIfInBounds d x).getD j undef = if d = j then x else t.getD j undef := by
  simp only [Array.getD_eq_getD_getElem?, Array.getElem?_setIfInBounds]
  by_cases h : d = j
  · subst h; simp [hd]
  · simp [h]

section
variable {Γ : Ctx} {S : Nat → Prop} {O : Nat → Nat → Prop} {β : Beta} {E : Env} {a : Act} {w : World}

theorem SimAt.put (h : SimAt Γ S O β E a w) {v : AV} {x : Value} (hv : VRep S β w v x) {dst : Option Tmp} (hd : ∀ d, dst = some d → d < E.n) :
    SimAt Γ S O β (E.app dst v []) (a.put dst x) w := by
  cases dst with
  | none => exact h
  | some d =>
    have hd' := hd d rfl
    refine ⟨h.h, ?_, ?_, h.df, h.s0, h.s1, h.o1, h.b0, h.fr⟩
    · intro t v' hl
      have hl' : look ((d, v) :: E.sl) t = some v' := hl
      rw [look_cons] at hl'
      show VRep S β w v' ((a.tmps.setIfInBounds d x).getD t undef)
      rw [getD_set _ _ _ _ (by rw [h.n]; exact hd')]
      by_cases he : d = t
      · rw [if_pos he] at hl' ⊢; cases hl'; exact hv
      · rw [if_neg he] at hl' ⊢; exact h.sl t v' hl'
    · show (a.tmps.setIfInBounds d x).size = E.n
      simp [h.n]

def addO (O : Nat → Nat → Prop) (k b : Nat) : Nat → Nat → Prop := fun j c => O j c ∨ (j = k ∧ c = b)
def addB (β : Beta) (k : Nat) (l : Loc) : Beta := fun j => if j = k then some l else β j

theorem addB_same (β : Beta) (k : Nat) (l : Loc) : addB β k l k = some l := by simp [addB]
theorem addB_old {β : Beta} {k : Nat} {l : Loc} (hk : β k = none) : ∀ j m, β j = some m → addB β k l j = some m := by
  intro j m hj
  unfold addB
  split
  · rename_i he; subst he; rw [hk] at hj; cases hj
  · exact hj

theorem heap_alloc_lt (w : World) (o : Obj) {b : Nat} (hb : b < w.heap.size) : (w.alloc o).heap[b]? = w.heap[b]? := heap_alloc_old w o b hb

/-- A block is made. -/
theorem SimAt.alloc (h : SimAt Γ S O β E a w) {k : Nat} (hk : look E.ob k = none) (hp : k ∉ Γ.par) (obj : Obj) (l : Loc) (o : AO)
    (ho : ORep S (addO O k w.heap.size) (addB β k l) (w.alloc obj) k o) :
    SimAt Γ S (addO O k w.heap.size) (addB β k l) ⟨E.sl, (k, o) :: E.ob, E.n⟩ a (w.alloc obj) := by
  have hβ := addB_old (l := l) (h.h.dom k hk).1
  have hS : ∀ b, S b → S b ∧ (w.alloc obj).heap[b]? = w.heap[b]? := fun b hb => ⟨hb, heap_alloc_lt w obj (h.h.sh b hb)⟩
  have hsz : (w.alloc obj).heap.size = w.heap.size + 1 := by simp
  refine ⟨⟨?_, ?_, ?_, ?_, ?_⟩, ?_, h.n, h.df, h.s0, h.s1, ?_, ?_, ?_⟩
  · intro b hb; rw [hsz]; exact Nat.lt_succ_of_lt (h.h.sh b hb)
  · rintro j b (hb | ⟨_, rfl⟩)
    · exact ⟨by rw [hsz]; exact Nat.lt_succ_of_lt (h.h.ow j b hb).1, (h.h.ow j b hb).2⟩
    · exact ⟨by rw [hsz]; exact Nat.lt_succ_self _, fun hs => Nat.lt_irrefl _ (h.h.sh _ hs)⟩
  · rintro j j' b (hb | ⟨rfl, rfl⟩) (hb' | ⟨rfl, h2⟩)
    · exact h.h.dj j j' b hb hb'
    · subst h2; exact absurd (h.h.ow j _ hb).1 (Nat.lt_irrefl _)
    · exact absurd (h.h.ow j' _ hb').1 (Nat.lt_irrefl _)
    · rfl
  · intro j hj
    rw [look_cons] at hj
    by_cases he : k = j
    · rw [if_pos he] at hj; cases hj
    · rw [if_neg he] at hj
      obtain ⟨h1, h2⟩ := h.h.dom j hj
      refine ⟨by unfold addB; rw [if_neg (Ne.symm he)]; exact h1, ?_⟩
      rintro b (hb | ⟨rfl, _⟩)
      · exact h2 b hb
      · exact he rfl
  · intro j o' hj
    rw [look_cons] at hj
    by_cases he : k = j
    · rw [if_pos he] at hj; cases hj; subst he; exact ho
    · rw [if_neg he] at hj
      exact (h.h.objs j o' hj).mono hS hβ fun b hb => ⟨.inl hb, heap_alloc_lt w obj (h.h.ow j b hb).1⟩
  · intro t v hl; exact (h.sl t v hl).mono hS hβ
  · rintro j b (hb | ⟨_, rfl⟩)
    · exact h.o1 j b hb
    · exact .inr h.fr.size
  · intro j hj hn
    have hjk : j ≠ k := fun e => hp (e ▸ hj)
    have hn' : look E.ob j ≠ none := by
      have := hn
      show look E.ob j ≠ none
      intro e
      apply this
      show look ((k, o) :: E.ob) j = none
      rw [look_cons, if_neg (Ne.symm hjk)]; exact e
    unfold addB
    rw [if_neg hjk]
    exact h.b0 j hj hn'
  · exact h.fr.trans (B := fun _ => False) ⟨rfl, rfl, rfl, by simp, fun b hb _ => heap_alloc_lt w obj hb⟩ (fun b hb => hb.elim)

/-- A block of one's own is written. -/
theorem SimAt.turn (h : SimAt Γ S O β E a w) {k b : Nat} (hO : O k b) (hk : look E.ob k ≠ none) {w' : World} (hw : Fr (fun c => c = b) w w') (hsz : w'.heap.size = w.heap.size) (o : AO)
    (ho : ORep S O β w' k o) : SimAt Γ S O β ⟨E.sl, (k, o) :: E.ob, E.n⟩ a w' := by
  have hS : ∀ c, S c → S c ∧ w'.heap[c]? = w.heap[c]? := fun c hc => ⟨hc, hw.block c (h.h.sh c hc) (fun e => (h.h.ow k b hO).2 (e ▸ hc))⟩
  refine ⟨⟨?_, ?_, h.h.dj, ?_, ?_⟩, ?_, h.n, h.df, h.s0, h.s1, h.o1, ?_, ?_⟩
  · intro c hc; rw [hsz]; exact h.h.sh c hc
  · intro j c hc; rw [hsz]; exact h.h.ow j c hc
  · intro j hj
    rw [look_cons] at hj
    by_cases he : k = j
    · rw [if_pos he] at hj; cases hj
    · rw [if_neg he] at hj; exact h.h.dom j hj
  · intro j o' hj
    rw [look_cons] at hj
    by_cases he : k = j
    · rw [if_pos he] at hj; cases hj; subst he; exact ho
    · rw [if_neg he] at hj
      exact (h.h.objs j o' hj).mono hS (fun _ _ x => x) fun c hc => ⟨hc, hw.block c (h.h.ow j c hc).1 (fun e => he (h.h.dj k j b hO (e ▸ hc)))⟩
  · intro t v hl; exact (h.sl t v hl).mono hS fun _ _ x => x
  · intro j hj hn
    refine h.b0 j hj fun e => ?_
    by_cases he : k = j
    · subst he; exact hk e
    · apply hn
      show look ((k, o) :: E.ob) j = none
      rw [look_cons, if_neg he]; exact e
  · exact h.fr.trans hw fun c hc => by
      subst hc
      exact h.o1 k c hO

/-- The world has grown (by a call); more of it is readable. -/
theorem SimAt.grow (h : SimAt Γ S O β E a w) {S' : Nat → Prop} {w' : World} (hw : Fr (fun _ => False) w w') (h1 : ∀ b, S b → S' b) (h2 : ∀ b, S' b → (S b ∨ w.heap.size ≤ b) ∧ b < w'.heap.size) :
    SimAt Γ S' O β E a w' := by
  have hS : ∀ c, S c → S' c ∧ w'.heap[c]? = w.heap[c]? := fun c hc => ⟨h1 c hc, hw.block c (h.h.sh c hc) id⟩
  refine ⟨⟨fun b hb => (h2 b hb).2, ?_, h.h.dj, h.h.dom, ?_⟩, ?_, h.n, h.df, fun b hb => h1 b (h.s0 b hb), ?_, h.o1, h.b0, ?_⟩
  · intro j c hc
    have := h.h.ow j c hc
    refine ⟨Nat.lt_of_lt_of_le this.1 hw.size, fun hs => ?_⟩
    rcases (h2 c hs).1 with hs' | hs'
    · exact this.2 hs'
    · omega
  · intro j o' hj
    exact (h.h.objs j o' hj).mono hS (fun _ _ x => x) fun c hc => ⟨hc, hw.block c (h.h.ow j c hc).1 id⟩
  · intro t v hl; exact (h.sl t v hl).mono hS fun _ _ x => x
  · intro b hb
    rcases (h2 b hb).1 with hb' | hb'
    · exact h.s1 b hb'
    · exact .inr (.inr (Nat.le_trans h.fr.size hb'))
  · exact h.fr.trans hw fun b hb => hb.elim

/-- A draw changes nothing. -/
theorem SimAt.drew (h : SimAt Γ S O β E a w) : SimAt Γ S O β E a { w with drawn := w.drawn + 1 } :=
  h.grow (S' := S) ⟨rfl, rfl, rfl, Nat.le_refl _, fun _ _ _ => rfl⟩ (fun _ x => x) fun b hb => ⟨.inl hb, h.h.sh b hb⟩

theorem Sim.drew (h : Sim Γ E a w) : Sim Γ E a { w with drawn := w.drawn + 1 } := let ⟨S, O, β, hh⟩ := h; ⟨S, O, β, hh.drew⟩
end

/-! ### Seeing less -/
def fzAll (ρ : Nat → Option Nat) (ob' : List (Nat × AO)) : Nat → Prop := fun k => ∀ i, look ob' i ≠ none → ρ i ≠ some k

/-- What must hold that an environment may be seen as another one. -/
structure Wk (ρ : Nat → Option Nat) (par : List Nat) (E E' : Env) : Prop where
  n : E'.n = E.n
  inj : ∀ i j k, look E'.ob i ≠ none → look E'.ob j ≠ none → ρ i = some k → ρ j = some k → i = j
  ob : ∀ i o', look E'.ob i = some o' → SubO E.ob E'.ob ρ (fzAll ρ E'.ob) i o'
  sl : ∀ t v', look E'.sl t = some v' → ∃ v, look E.sl t = some v ∧ Sub E.ob E'.ob ρ (fzAll ρ E'.ob) v' v
  par : ∀ k, k ∈ par → look E'.ob k ≠ none → ρ k = some k ∧ look E.ob k ≠ none

theorem Sim.wk {Γ : Ctx} {E E' : Env} {a : Act} {w : World} (h : Sim Γ E a w) {ρ : Nat → Option Nat} (k : Wk ρ Γ.par E E') : Sim Γ E' a w := by
  obtain ⟨S, O, β, h⟩ := h
  refine ⟨wkS S O (fzAll ρ E'.ob), wkO O ρ E'.ob, wkB β ρ E'.ob, ?_⟩
  refine ⟨h.h.wk k.inj (fun i j hi hj hf => hf i hi hj) k.ob, ?_, h.n.trans k.n.symm, h.df, fun b hb => .inl (h.s0 b hb), ?_, ?_, ?_, h.fr⟩
  · intro t v' hl
    obtain ⟨v, hv, hs⟩ := k.sl t v' hl
    exact (h.sl t v hv).wk h.h hs
  · rintro b (hb | ⟨j, _, hb⟩)
    · exact h.s1 b hb
    · rcases h.o1 j b hb with h1 | h1
      · exact .inr (.inl h1)
      · exact .inr (.inr h1)
  · rintro i b ⟨_, j, _, hb⟩
    exact h.o1 j b hb
  · intro j hj hn
    obtain ⟨h1, h2⟩ := k.par j hj hn
    exact (wkB_some h1 hn).trans (h.b0 j hj h2)
end Go.Vc

/-! What each operation of the model does to concrete values, as one equation each. -/
set_option linter.unusedSimpArgs false
namespace Go.Vc
open Go Go.RowKit

inductive TK where
  | int (k : IntKind) | bool | str
  | struct (fs : List (Nat × TypeId))
  | arr (n : Nat) (e : TypeId)
  | slice (e : TypeId)
  | ptr (e : TypeId)
  | map (k e : TypeId)
  | fn
  | other

def TK.agg : TK → Bool
  | .struct _ | .arr _ _ => true
  | _ => false

/-- A small table of the types that occur. -/
structure Tab where
  kind : TypeId → TK
  size : TypeId → Nat
  bytes : TypeId → Nat
  zero : TypeId → List Value

def TK.ok (P : Program) (t : TypeId) : TK → Prop
  | .int k => P.underlying t = some (.int k)
  | .bool => P.underlying t = some .bool
  | .str => P.underlying t = some .string
  | .struct l => ∃ fs, P.underlying t = some (.struct fs) ∧ fs.toList.map (fun f => (f.offset, f.type)) = l
  | .arr n e => P.underlying t = some (.array n e)
  | .slice e => P.underlying t = some (.slice e)
  | .ptr e => P.underlying t = some (.pointer e)
  | .map k e => P.underlying t = some (.map k e)
  | .fn => ∃ a b c, P.underlying t = some (.func a b c)
  | .other => True

def TK.known : TK → Bool
  | .other => false
  | _ => true

def Tab.ok (T : Tab) (P : Program) : Prop :=
  ∀ t, (T.kind t).known = true → TK.ok P t (T.kind t) ∧ ∃ i z, P.info? t = some i ∧ i.size = T.size t ∧ i.bytes = T.bytes t ∧ i.zero = some z ∧ z.cells.toList = T.zero t ∧ (∀ x ∈ T.zero t, x.oneCell' = true) ∧
    ((T.kind t).agg = false → ∃ v, T.zero t = [v]) ∧ (T.zero t).length = T.size t

section
variable {T : Tab} {P : Program} (hT : T.ok P) (w : World)
include hT

theorem run_sizeOf {t : TypeId} (h : (T.kind t).known = true) : (sizeOf t).run P w = .ok (T.size t) w := by
  obtain ⟨_, i, z, hi, hs, _⟩ := hT t h
  simp [sizeOf, typeInfo, hi, hs]

theorem run_zeroValue {t : TypeId} (h : (T.kind t).known = true) : ∃ z : Value, (zeroValue t).run P w = .ok z w ∧ z.cells.toList = T.zero t := by
  obtain ⟨_, i, z, hi, hs, _, hz, hc, _⟩ := hT t h
  exact ⟨z, by simp [zeroValue, typeInfo, hi, hz], hc⟩

theorem underlying_slice {t e : TypeId} (h : T.kind t = .slice e) : P.underlying t = some (.slice e) := by
  have := (hT t (by rw [h]; rfl)).1
  rw [h] at this; exact this
theorem underlying_arr {t e : TypeId} {n : Nat} (h : T.kind t = .arr n e) : P.underlying t = some (.array n e) := by
  have := (hT t (by rw [h]; rfl)).1
  rw [h] at this; exact this
theorem underlying_int {t : TypeId} {k : IntKind} (h : T.kind t = .int k) : P.underlying t = some (.int k) := by
  have := (hT t (by rw [h]; rfl)).1
  rw [h] at this; exact this
theorem underlying_bool {t : TypeId} (h : T.kind t = .bool) : P.underlying t = some .bool := by
  have := (hT t (by rw [h]; rfl)).1
  rw [h] at this; exact this
theorem underlying_str {t : TypeId} (h : T.kind t = .str) : P.underlying t = some .string := by
  have := (hT t (by rw [h]; rfl)).1
  rw [h] at this; exact this
theorem underlying_struct {t : TypeId} {l : List (Nat × TypeId)} (h : T.kind t = .struct l) : ∃ fs, P.underlying t = some (.struct fs) ∧ fs.toList.map (fun f => (f.offset, f.type)) = l := by
  have := (hT t (by rw [h]; rfl)).1
  rw [h] at this; exact this

theorem run_isAgg {t : TypeId} (h : (T.kind t).known = true) : (isAgg t).run P w = .ok (T.kind t).agg w := by
  have := (hT t h).1
  cases hk : T.kind t with
  | other => rw [hk] at h; cases h
  | struct l => rw [hk] at this; obtain ⟨fs, hu, _⟩ := this; simp [isAgg, run_underlying hu, TK.agg]
  | fn => rw [hk] at this; obtain ⟨a, b, c, hu⟩ := this; simp [isAgg, run_underlying hu, TK.agg]
  | _ => rw [hk] at this; have hu := this; simp [isAgg, run_underlying hu, TK.agg]

end

theorem toList_getElem? (a : Array Value) (j : Nat) : a.toList[j]? = a[j]? := by simp

section
variable {T : Tab} {P : Program} (hT : T.ok P) (w : World)

theorem add_none (b o n : Nat) : Addr.add ⟨b, o, none⟩ n = ⟨b, o + n, none⟩ := Addr.add_lit b o n

/-- Cells read: one. -/
theorem run_load1 (hT : T.ok P) {t : TypeId} (h : (T.kind t).known = true) (ha : (T.kind t).agg = false) (b o : Nat) (v : Value) (hc : w.cell? ⟨b, o, none⟩ = some v) :
    (Instr.loadAt t (.pointer (some ⟨b, o, none⟩))).run P w = .ok v w := by
  simp [Instr.loadAt, Instr.sureAddr, loadVar, run_isAgg hT w h, ha, hc]

/-- Cells read: a struct, an array. -/
theorem run_loadN (hT : T.ok P) {t : TypeId} (h : (T.kind t).known = true) (ha : (T.kind t).agg = true) (b o : Nat) (vs : List Value) (hl : vs.length = T.size t)
    (hc : ∀ (j : Nat) (v : Value), vs[j]? = some v → w.cell? ⟨b, o + j, none⟩ = some v) :
    (Instr.loadAt t (.pointer (some ⟨b, o, none⟩))).run P w = .ok (.agg vs.toArray) w := by
  have hL := run_loadCells_list (P := P) w ⟨b, o, none⟩ vs (fun j v hj => by rw [add_none]; exact hc j v hj)
  rw [hl] at hL
  simp [Instr.loadAt, Instr.sureAddr, loadVar, run_isAgg hT w h, ha, run_sizeOf hT w h, hL]

/-- Cells written. -/
theorem run_storeN (hT : T.ok P) {t : TypeId} (h : (T.kind t).known = true) (b o : Nat) (x : Value) (cur : Array Value) (e : TypeId) (hl : x.cells.size = T.size t)
    (hg : w.heap[b]? = some (.cells cur e (0, 0))) (hb : o + x.cells.size ≤ cur.size) (h1 : ∀ v ∈ x.cells.toList, v.oneCell' = true) :
    (Instr.storeAt t (.pointer (some ⟨b, o, none⟩)) x).run P w = .ok () (w.setRow b (cur.toList.take o ++ x.cells.toList ++ cur.toList.drop (o + x.cells.size)).toArray) := by
  have hs := run_storeCells_at P b o e x.cells.toList 0 cur w hg (by simpa using hb) h1
  simp only [Nat.add_zero, Array.length_toList] at hs
  simp [Instr.storeAt, Instr.sureAddr, storeVar, run_sizeOf hT w h, hl, hs]

theorem Fr_setRow (w : World) (b : Nat) (cs : Array Value) : Fr (fun c => c = b) w (w.setRow b cs) :=
  ⟨rfl, rfl, rfl, by simp, fun c _ hc => setRow_other w b c cs hc⟩
end
end Go.Vc

/-! One step of the abstract machine for each kind of operation, and that each is sound. -/
set_option linter.unusedSimpArgs false
set_option linter.unusedVariables false
namespace Go.Vc
open Go Go.RowKit

def evo (sv : Nat → Option AV) : Operand → Option AV
  | .tmp t => sv t
  | .const v => bif v.oneCell' then some (.lit v) else none
  | .func f => some (.clo f [])
  | .global _ => none

def cellsOf : AV → List AV
  | .agg cs => cs
  | v => [v]

/-- Of what a variable can be made. -/
def boxable : AV → Bool
  | .any | .tup _ => false
  | _ => true

/-- Cells overwritten. -/
def wrA (cs : List AV) (off : Nat) : List AV → List AV
  | [v] => cs.set off v
  | vs => cs.take off ++ vs ++ cs.drop (off + vs.length)

theorem set_eq_tad {α : Type} (l : List α) (n : Nat) (v : α) (h : n < l.length) : l.set n v = l.take n ++ [v] ++ l.drop (n + 1) := by
  rw [List.set_eq_take_append_cons_drop, if_pos h]; simp

theorem wrA_eq (cs : List AV) (off : Nat) (vs : List AV) (h : off + vs.length ≤ cs.length) : wrA cs off vs = cs.take off ++ vs ++ cs.drop (off + vs.length) := by
  match vs with
  | [] => simp [wrA]
  | [v] => simp only [wrA]; rw [set_eq_tad cs off v (by simp at h; omega)]; simp
  | _ :: _ :: _ => rfl

structure Eff where
  val : AV
  upd : List (Nat × AO)
  rd : List Nat

theorem VRep.one_of {S : Nat → Prop} {β : Beta} {w : World} {c : AV} {x : Value} (h : VRep S β w c x) (hb : boxable c = true) : ∀ v ∈ x.cells.toList, v.oneCell' = true := by
  cases h with
  | pure _ _ hp => intro v hv; have := hp.one; cases x <;> simp_all [Value.cells, Value.oneCell']
  | row k l hk => intro v hv; cases l <;> simp_all [Value.cells, Loc.slice, Value.oneCell']
  | ptr => intro v hv; simp_all [Value.cells, Value.oneCell']
  | rptr => intro v hv; simp_all [Value.cells, Value.oneCell']
  | rsl => intro v hv; simp_all [Value.cells, Value.oneCell']
  | sptr => intro v hv; simp_all [Value.cells, Value.oneCell']
  | agg cs vs h1 h2 h3 => intro v hv; exact h3 v (by simpa [Value.cells] using hv)
  | tup => simp [boxable] at hb
  | clo => intro v hv; simp_all [Value.cells, Value.oneCell']
  | mp => intro v hv; simp_all [Value.cells, Value.oneCell']
  | any => simp [boxable] at hb

/-- A value's cells stand for the abstract value's cells. -/
theorem VRep.cells {S : Nat → Prop} {β : Beta} {w : World} {c : AV} {x : Value} (h : VRep S β w c x) (hb : boxable c = true) :
    x.cells.toList.length = (cellsOf c).length ∧ ∀ (j : Nat) (c' : AV) (v : Value), (cellsOf c)[j]? = some c' → x.cells.toList[j]? = some v → VRep S β w c' v := by
  have single : ∀ (c : AV) (x : Value), VRep S β w c x → cellsOf c = [c] → x.cells = #[x] → x.cells.toList.length = (cellsOf c).length ∧ ∀ (j : Nat) (c' : AV) (v : Value), (cellsOf c)[j]? = some c' → x.cells.toList[j]? = some v → VRep S β w c' v := by
    intro c x h e1 e2
    rw [e1, e2]
    refine ⟨rfl, fun j c' v hc hv => ?_⟩
    cases j with
    | zero => simp at hc hv; subst hc; subst hv; exact h
    | succ j => simp at hc
  cases h with
  | pure _ _ hp =>
    have h1 := hp.one
    refine single c x (.pure _ _ hp) (by cases hp <;> rfl) (by cases x <;> first | rfl | simp [Value.oneCell'] at h1)
  | row k l hk => exact single _ _ (.row k l hk) rfl (by cases l <;> rfl)
  | ptr k off b cap n hk => exact single _ _ (.ptr k off b cap n hk) rfl rfl
  | rptr k sz i j b cap n hk => exact single _ _ (.rptr k sz i j b cap n hk) rfl rfl
  | rsl k sz i j b cap n hk h1 h2 => exact single _ _ (.rsl k sz i j b cap n hk h1 h2) rfl rfl
  | sptr cs b off f hS h1 h2 => exact single _ _ (.sptr cs b off f hS h1 h2) rfl rfl
  | agg cs vs h1 h2 h3 => exact ⟨by simpa [Value.cells, cellsOf] using h1, fun j c' v hc hv => h2 j c' v hc (by simpa [Value.cells] using hv)⟩
  | tup => simp [boxable] at hb
  | clo f cs vs h1 h2 => exact single _ _ (.clo f cs vs h1 h2) rfl rfl
  | mp k b cap n hk => exact single _ _ (.mp k b cap n hk) rfl rfl
  | any => simp [boxable] at hb

section
variable {S : Nat → Prop} {β : Beta} {w : World}
theorem VRep.ptr_inv {k off : Nat} {x : Value} (h : VRep S β w (.ptr k off) x) : ∃ b cap n, β k = some (.at b cap n) ∧ x = .pointer (some ⟨b, off, none⟩) := by
  cases h with
  | pure _ _ hp => cases hp
  | ptr k off b cap n hk => exact ⟨b, cap, n, hk, rfl⟩
theorem VRep.rptr_inv {k sz i j : Nat} {x : Value} (h : VRep S β w (.rptr k sz i j) x) : ∃ b cap n, β k = some (.at b cap n) ∧ x = .pointer (some ⟨b, i * sz + j, none⟩) := by
  cases h with
  | pure _ _ hp => cases hp
  | rptr k sz i j b cap n hk => exact ⟨b, cap, n, hk, rfl⟩
theorem VRep.rsl_inv {k sz i j : Nat} {x : Value} (h : VRep S β w (.rsl k sz i j) x) : ∃ b cap n, β k = some (.at b cap n) ∧ i ≤ j ∧ j ≤ cap ∧ x = .slice (some ⟨b, if cap = i then 0 else i * sz, none⟩) (j - i) (cap - i) := by
  cases h with
  | pure _ _ hp => cases hp
  | rsl k sz i j b cap n hk h1 h2 => exact ⟨b, cap, n, hk, h1, h2, rfl⟩
theorem VRep.row_inv {k : Nat} {x : Value} (h : VRep S β w (.row k) x) : ∃ l, β k = some l ∧ x = l.slice := by
  cases h with
  | pure _ _ hp => cases hp
  | row k l hk => exact ⟨l, hk, rfl⟩
theorem VRep.sptr_inv {cs : List AV} {x : Value} (h : VRep S β w (.sptr cs) x) : ∃ (b off : Nat) (f : Nat → Value), x = .pointer (some ⟨b, off, none⟩) ∧ S b ∧ (∀ (j : Nat) (c : AV), cs[j]? = some c → w.cell? ⟨b, off + j, none⟩ = some (f j)) ∧ ∀ (j : Nat) (c : AV), cs[j]? = some c → PRep S w c (f j) := by
  cases h with
  | pure _ _ hp => cases hp
  | sptr cs b off f hb h1 h2 => exact ⟨b, off, f, rfl, hb, h1, h2⟩
theorem VRep.shr_inv {sz : Nat} {xs : List (List AV)} {x : Value} (h : VRep S β w (.shr sz xs) x) : (x = .slice none 0 0 ∧ xs = []) ∨ (∃ p, x = .slice (some p) 0 0 ∧ xs = []) ∨
    ∃ (b off cap : Nat) (f : Nat → Nat → Value), x = .slice (some ⟨b, off, none⟩) xs.length cap ∧ S b ∧ xs.length ≤ cap ∧ xs.length ≤ maxSl ∧ (∀ (i : Nat) (x : List AV), xs[i]? = some x → x.length = sz) ∧
      (∀ (i : Nat) (x : List AV) (j : Nat) (c : AV), xs[i]? = some x → x[j]? = some c → w.cell? ⟨b, off + (i * sz + j), none⟩ = some (f i j)) ∧
      ∀ (i : Nat) (x : List AV) (j : Nat) (c : AV), xs[i]? = some x → x[j]? = some c → PRep S w c (f i j) := by
  cases h with
  | pure _ _ hp => cases hp with
    | nil => exact .inl ⟨rfl, rfl⟩
    | void _ p => exact .inr (.inl ⟨p, rfl, rfl⟩)
    | shr _ _ b off cap f h1 h2 h3 h4 h5 h6 => exact .inr (.inr ⟨b, off, cap, f, rfl, h1, h2, h3, h4, h5, h6⟩)
theorem VRep.agg_inv {cs : List AV} {x : Value} (h : VRep S β w (.agg cs) x) : ∃ vs : List Value, x = .agg vs.toArray ∧ vs.length = cs.length ∧ (∀ (j : Nat) (c : AV) (x : Value), cs[j]? = some c → vs[j]? = some x → VRep S β w c x) ∧ ∀ x ∈ vs, x.oneCell' = true := by
  cases h with
  | pure _ _ hp => cases hp
  | agg cs vs h1 h2 h3 => exact ⟨vs, rfl, h1, h2, h3⟩
theorem VRep.tup_inv {cs : List AV} {x : Value} (h : VRep S β w (.tup cs) x) : ∃ vs : List Value, x = .tuple vs.toArray ∧ vs.length = cs.length ∧ (∀ (j : Nat) (c : AV) (x : Value), cs[j]? = some c → vs[j]? = some x → VRep S β w c x) := by
  cases h with
  | pure _ _ hp => cases hp
  | tup cs vs h1 h2 => exact ⟨vs, rfl, h1, h2⟩
theorem VRep.clo_inv {f : FuncId} {cs : List AV} {x : Value} (h : VRep S β w (.clo f cs) x) : ∃ vs : List Value, x = .func (.func f) #[] vs.toArray ∧ vs.length = cs.length ∧ (∀ (j : Nat) (c : AV) (x : Value), cs[j]? = some c → vs[j]? = some x → VRep S β w c x) := by
  cases h with
  | pure _ _ hp => cases hp
  | clo f cs vs h1 h2 => exact ⟨vs, rfl, h1, h2⟩
end

section
variable {Γ : Ctx} {S : Nat → Prop} {O : Nat → Nat → Prop} {β : Beta} {E : Env} {a : Act} {w : World}

theorem SimAt.ev (h : SimAt Γ S O β E a w) {x : Operand} {v : AV} (hx : evo (look E.sl) x = some v) : VRep S β w v (a.eval x) := by
  cases x with
  | tmp t => exact h.sl t v hx
  | const c =>
    simp only [evo] at hx
    cases hc : c.oneCell' with
    | true => rw [hc] at hx; simp at hx; subst hx; exact .pure _ _ (.lit c hc)
    | false => rw [hc] at hx; simp at hx
  | global g => simp [evo] at hx
  | func f => simp only [evo, Option.some.injEq] at hx; subst hx; exact .clo f [] [] rfl (fun j c x hc => by simp at hc)

theorem SimAt.lit (h : SimAt Γ S O β E a w) {x : Operand} {v : Value} (hx : evo (look E.sl) x = some (.lit v)) : a.eval x = v := ((h.ev hx).lit_inv).1

theorem SimAt.boxAt (h : SimAt Γ S O β E a w) {k : Nat} {cs : List AV} (hk : look E.ob k = some (.box cs)) {b cap n : Nat} (hb : β k = some (.at b cap n)) :
    ∃ (t : TypeId) (vs : List Value), O k b ∧ w.heap[b]? = some (.cells vs.toArray t (0, 0)) ∧ vs.length = cs.length ∧
      (∀ (j : Nat) (c : AV) (x : Value), cs[j]? = some c → vs[j]? = some x → VRep S β w c x) ∧ ∀ x ∈ vs, x.oneCell' = true := by
  obtain ⟨b', cap', n', t, vs, h1, h2, h3, h4, h5, h6⟩ := h.h.objs k _ hk
  rw [hb] at h1; cases h1
  exact ⟨t, vs, h2, h3, h4, h5, h6⟩
end

/-! ### Each operation's run, over an abstract environment -/
section
variable {Γ : Ctx} {S : Nat → Prop} {O : Nat → Nat → Prop} {β : Beta} {E : Env} {a : Act} {w : World} {T : Tab} {P : Program}

/-- A new variable. -/
theorem SimAt.newBox (h : SimAt Γ S O β E a w) {k : Nat} (hk : look E.ob k = none) (hp : k ∉ Γ.par) (t : TypeId) (vs : List Value) (cs : List AV) (hl : vs.length = cs.length)
    (hv : ∀ (j : Nat) (c : AV) (x : Value), cs[j]? = some c → vs[j]? = some x → VRep S β w c x) (h1 : ∀ x ∈ vs, x.oneCell' = true) :
    SimAt Γ S (addO O k w.heap.size) (addB β k (.at w.heap.size 0 0)) ⟨E.sl, (k, .box cs) :: E.ob, E.n⟩ a (w.alloc (.cells vs.toArray t)) :=
  h.alloc hk hp _ _ _ ⟨w.heap.size, 0, 0, t, vs, addB_same _ _ _, .inr ⟨rfl, rfl⟩, heap_alloc_new w _, hl, fun j c x hc hx =>
    (hv j c x hc hx).mono (fun b hb => ⟨hb, heap_alloc_lt w _ (h.h.sh b hb)⟩) (addB_old (h.h.dom k hk).1), h1⟩

/-- A new row. -/
theorem SimAt.newRow (h : SimAt Γ S O β E a w) {k : Nat} (hk : look E.ob k = none) (hp : k ∉ Γ.par) (e : TypeId) (sz : Nat) (xs : List (List AV)) (vs : List Value) (hsz : ∀ (i : Nat) (x : List AV), xs[i]? = some x → x.length = sz)
    (hm : xs.length ≤ maxSl) (hl : vs.length = xs.length * sz) (hv : ∀ (i : Nat) (x : List AV) (j : Nat) (c : AV), xs[i]? = some x → x[j]? = some c → ∃ v, vs[i * sz + j]? = some v ∧ PRep S w c v) :
    SimAt Γ S (addO O k w.heap.size) (addB β k (.at w.heap.size xs.length xs.length)) ⟨E.sl, (k, .row e sz xs) :: E.ob, E.n⟩ a (w.alloc (.cells vs.toArray e)) :=
  h.alloc hk hp _ _ _ ⟨hsz, hm, .inr ⟨w.heap.size, xs.length, vs, addB_same _ _ _, .inr ⟨rfl, rfl⟩, heap_alloc_new w _, Nat.le_refl _, Nat.le_trans hm (by simp [maxSl, maxLen]), hl, fun i x j c hx hc =>
    let ⟨v, h1, h2⟩ := hv i x j c hx hc; ⟨v, h1, h2.mono fun b hb => ⟨hb, heap_alloc_lt w _ (h.h.sh b hb)⟩⟩⟩⟩

theorem setRow_size (w : World) (b : Nat) (cs : Array Value) : (w.setRow b cs).heap.size = w.heap.size := by simp

/-- A variable's cells are written. -/
theorem SimAt.wrBox (h : SimAt Γ S O β E a w) {k : Nat} {cs : List AV} (hk : look E.ob k = some (.box cs)) {b : Nat} (hO : O k b) {cap n : Nat} (hβ : β k = some (.at b cap n)) {t : TypeId} {vs : List Value}
    (hg : w.heap[b]? = some (.cells vs.toArray t (0, 0))) (cs' : List AV) (vs' : List Value) (hl : vs'.length = cs'.length)
    (hv : ∀ (j : Nat) (c : AV) (x : Value), cs'[j]? = some c → vs'[j]? = some x → VRep S β w c x) (h1 : ∀ x ∈ vs', x.oneCell' = true) :
    SimAt Γ S O β ⟨E.sl, (k, .box cs') :: E.ob, E.n⟩ a (w.setRow b vs'.toArray) := by
  refine h.turn hO (by rw [hk]; simp) (Fr_setRow w b _) (setRow_size w b _) _ ?_
  refine ⟨b, cap, n, t, vs', hβ, hO, setRow_heap w b _ _ t _ hg, hl, fun j c x hc hx => (hv j c x hc hx).mono (fun c hc => ⟨hc, setRow_other w b c _ ?_⟩) (fun _ _ x => x), h1⟩
  intro e; exact (h.h.ow k b hO).2 (e ▸ hc)

theorem getElem?_tad {α : Type} (l m : List α) (o : Nat) (h : o + m.length ≤ l.length) (j : Nat) : (l.take o ++ m ++ l.drop (o + m.length))[j]? = if j < o then l[j]? else if j < o + m.length then m[j - o]? else l[j]? := by
  have h1 : (l.take o).length = o := by rw [List.length_take]; omega
  by_cases hj : j < o
  · rw [if_pos hj, List.append_assoc, List.getElem?_append_left (by omega), List.getElem?_take, if_pos hj]
  · rw [if_neg hj, List.append_assoc, List.getElem?_append_right (by omega), h1]
    by_cases hj2 : j < o + m.length
    · rw [if_pos hj2, List.getElem?_append_left (by omega)]
    · rw [if_neg hj2, List.getElem?_append_right (by omega), List.getElem?_drop]
      congr 1; omega
end
end Go.Vc

/-! Operations one by one: what each does to the abstract environment; and regions. -/
set_option linter.unusedSimpArgs false
set_option linter.unusedVariables false
namespace Go.Vc
open Go Go.RowKit

/-- A program, with its table of types. -/
structure Prg where
  P : Program
  T : Tab
  ok : T.ok P
  mixed : P.follows .mixedOrders = true

/-- What an operation read and wrote. -/
structure Lg where
  dst : Option Nat
  rs : List Nat
  ro : List Nat
  wo : List Nat

/-- An operation, from whatever environment that is as E is where the operation looks. -/
def OpS (G : Prg) (Γ : Ctx) (o : Oper) (E : Env) (val : AV) (upd : List (Nat × AO)) (rs ro : List Nat) : Prop :=
  ∀ E' : Env, E'.n = E.n → (∀ t, t ∈ rs → look E'.sl t = look E.sl t) → (∀ k, k ∈ ro → look E'.ob k = look E.ob k) →
    ∀ S O β a w, SimAt Γ S O β E' a w → ∀ (K : Act → World → Prop) (Q : Exit → Act → World → Prop), (∀ a' w', Sim Γ (E'.app o.dst val upd) a' w' → K a' w') → o.wp G.P a w K Q

def sl1 : Operand → List Nat
  | .tmp t => [t]
  | _ => []

theorem evo_congr {sv sv' : Nat → Option AV} {x : Operand} (h : ∀ t, t ∈ sl1 x → sv' t = sv t) : evo sv' x = evo sv x := by
  cases x with
  | tmp t => exact h t (by simp [sl1])
  | _ => rfl

/-- An operation with a value, that leaves the world. -/
theorem OpS.val {G : Prg} {Γ : Ctx} {o : Oper} {E : Env} {v : AV} {rs ro : List Nat} (hd : ∀ d, o.dst = some d → d < E.n)
    (h : ∀ E' : Env, E'.n = E.n → (∀ t, t ∈ rs → look E'.sl t = look E.sl t) → (∀ k, k ∈ ro → look E'.ob k = look E.ob k) → ∀ S O β a w, SimAt Γ S O β E' a w →
      ∃ x, (execOp a.eval o).run G.P w = .ok (.value x) w ∧ VRep S β w v x) : OpS G Γ o E v [] rs ro := by
  intro E' hn h1 h2 S O β a w hs K Q hK
  obtain ⟨x, hr, hv⟩ := h E' hn h1 h2 S O β a w hs
  unfold Oper.wp
  rw [hr, Oper.upon_value]
  exact hK _ _ ⟨S, O, β, hs.put hv (fun d hd' => by rw [hn]; exact hd d hd')⟩

/-- An operation with a value, that turns the world. -/
theorem OpS.turns {G : Prg} {Γ : Ctx} {o : Oper} {E : Env} {v : AV} {upd : List (Nat × AO)} {rs ro : List Nat} (hd : ∀ d, o.dst = some d → d < E.n)
    (h : ∀ E' : Env, E'.n = E.n → (∀ t, t ∈ rs → look E'.sl t = look E.sl t) → (∀ k, k ∈ ro → look E'.ob k = look E.ob k) → ∀ S O β a w, SimAt Γ S O β E' a w →
      ∃ x w' S' O' β', ((execOp a.eval o).run G.P w = .ok (.value x) w' ∨ ((execOp a.eval o).run G.P w = .ok .skip w' ∧ x = undef)) ∧ VRep S' β' w' v x ∧ SimAt Γ S' O' β' ⟨E'.sl, upd ++ E'.ob, E'.n⟩ a w') : OpS G Γ o E v upd rs ro := by
  intro E' hn h1 h2 S O β a w hs K Q hK
  obtain ⟨x, w', S', O', β', hr, hv, hs'⟩ := h E' hn h1 h2 S O β a w hs
  have hp := hs'.put hv (dst := o.dst) (fun d hd' => by show d < E'.n; rw [hn]; exact hd d hd')
  have hp' : Sim Γ (E'.app o.dst v upd) (a.put o.dst x) w' := ⟨S', O', β', hp⟩
  unfold Oper.wp
  rcases hr with hr | ⟨hr, rfl⟩
  · rw [hr, Oper.upon_value]; exact hK _ _ hp'
  · rw [hr, Oper.upon_skip]; exact hK _ _ hp'

section
variable {G : Prg} {Γ : Ctx} {E : Env} {dst : Option Tmp} {ty : TypeId} {pos : String} {aft : Array Edge} {gd : Option (Nat × Bool)}

theorem op_move {x : Operand} {v : AV} (hx : evo (look E.sl) x = some v) (hd : ∀ d, dst = some d → d < E.n) : OpS G Γ ⟨dst, .move x, ty, pos, aft, gd⟩ E v [] (sl1 x) [] :=
  OpS.val hd fun E' hn h1 h2 S O β a w hs => ⟨a.eval x, by simp [execOp], hs.ev ((evo_congr h1).trans hx)⟩

theorem op_assign {x : Operand} {v : AV} (hx : evo (look E.sl) x = some v) (hd : ∀ d, dst = some d → d < E.n) : OpS G Γ ⟨dst, .assign x, ty, pos, aft, gd⟩ E v [] (sl1 x) [] :=
  OpS.val hd fun E' hn h1 h2 S O β a w hs => ⟨a.eval x, by simp [execOp], hs.ev ((evo_congr h1).trans hx)⟩

theorem op_nilCheck {x : Operand} {k off : Nat} (hx : evo (look E.sl) x = some (.ptr k off)) (hd : ∀ d, dst = some d → d < E.n) : OpS G Γ ⟨dst, .nilCheck x, ty, pos, aft, gd⟩ E (.ptr k off) [] (sl1 x) [] :=
  OpS.val hd fun E' hn h1 h2 S O β a w hs => by
    have hv := hs.ev ((evo_congr h1).trans hx)
    obtain ⟨b, cap, n, hb, hxe⟩ := hv.ptr_inv
    exact ⟨a.eval x, by simp [execOp, hxe], hv⟩

theorem op_pick {c x y : Operand} {b : Bool} {v : AV} (hc : evo (look E.sl) c = some (.lit (.bool b))) (hx : evo (look E.sl) (if b then x else y) = some v) (hd : ∀ d, dst = some d → d < E.n) :
    OpS G Γ ⟨dst, .pick c x y, ty, pos, aft, gd⟩ E v [] (sl1 c ++ sl1 x ++ sl1 y) [] :=
  OpS.val hd fun E' hn h1 h2 S O β a w hs => by
    have hcc := hs.lit ((evo_congr fun t ht => h1 t (by simp [ht])).trans hc)
    refine ⟨if b then a.eval x else a.eval y, by simp [execOp, hcc, asBool], ?_⟩
    have := hs.ev ((evo_congr (x := if b then x else y) fun t ht => h1 t (by cases b <;> simp_all)).trans hx)
    cases b <;> simpa using this

theorem op_not {x : Operand} {b : Bool} {t : TypeId} (hx : evo (look E.sl) x = some (.lit (.bool b))) (hd : ∀ d, dst = some d → d < E.n) : OpS G Γ ⟨dst, .unOp .not t x, ty, pos, aft, gd⟩ E (.lit (.bool (!b))) [] (sl1 x) [] :=
  OpS.val hd fun E' hn h1 h2 S O β a w hs => ⟨.bool (!b), by simp [execOp, hs.lit ((evo_congr h1).trans hx), Op.unary], .pure _ _ (.lit _ rfl)⟩

theorem op_extract {x : Operand} {vs : List AV} {i : Nat} {v : AV} (hx : evo (look E.sl) x = some (.tup vs)) (hv : vs[i]? = some v) (hd : ∀ d, dst = some d → d < E.n) : OpS G Γ ⟨dst, .extract x i, ty, pos, aft, gd⟩ E v [] (sl1 x) [] :=
  OpS.val hd fun E' hn h1 h2 S O β a w hs => by
    obtain ⟨us, hu, hl, hr⟩ := (hs.ev ((evo_congr h1).trans hx)).tup_inv
    have hlt : i < vs.length := (List.getElem?_eq_some_iff.1 hv).1
    have hi : us[i]? = some us[i] := List.getElem?_eq_getElem (by omega)
    exact ⟨us[i], by simp [execOp, hu, Instr.extract, hi], hr i v _ hv hi⟩

theorem op_makeFunc {f : FuncId} {caps : Array Operand} {vs : List AV} (hx : caps.toList.map (evo (look E.sl)) = vs.map some) (hd : ∀ d, dst = some d → d < E.n) :
    OpS G Γ ⟨dst, .makeFunc (.func f) #[] caps, ty, pos, aft, gd⟩ E (.clo f vs) [] (caps.toList.flatMap sl1) [] :=
  OpS.val hd fun E' hn h1 h2 S O β a w hs => by
    refine ⟨.func (.func f) #[] (caps.map a.eval), by simp [execOp, Instr.makeFunc], ?_⟩
    have hlen : caps.toList.length = vs.length := by have := congrArg List.length hx; simpa using this
    have e : caps.map a.eval = (caps.toList.map a.eval).toArray := by apply Array.ext'; simp
    rw [e]
    refine .clo f vs _ (by simpa using hlen) fun j c x hc hx' => ?_
    have hjl : j < caps.toList.length := by have := (List.getElem?_eq_some_iff.1 hc).1; omega
    have hj : caps.toList[j]? = some caps.toList[j] := List.getElem?_eq_getElem hjl
    have h3 := congrArg (fun l => l[j]?) hx
    simp only [List.getElem?_map, hj, hc, Option.map_some, Option.some.injEq] at h3
    simp only [List.getElem?_map, hj, Option.map_some, Option.some.injEq] at hx'
    subst hx'
    exact hs.ev ((evo_congr fun t ht => h1 t (by simp only [List.mem_flatMap]; exact ⟨_, List.getElem_mem hjl, ht⟩)).trans h3)

theorem oneCell_of_kind {T : Tab} {P : Program} (hT : T.ok P) {t : TypeId} (h : (T.kind t).known = true) : ∀ x ∈ T.zero t, x.oneCell' = true := by
  obtain ⟨_, i, z, _, _, _, _, _, h1, _⟩ := hT t h
  exact h1

theorem op_alloc {t : TypeId} (k : Nat) (ht : (G.T.kind t).known = true) (hk : look E.ob k = none) (hp : k ∉ Γ.par) (hd : ∀ d, dst = some d → d < E.n) :
    OpS G Γ ⟨dst, .alloc t, ty, pos, aft, gd⟩ E (.ptr k 0) [(k, .box ((G.T.zero t).map .lit))] [] [k] :=
  OpS.turns hd fun E' hn h1 h2 S O β a w hs => by
    obtain ⟨z, hz, hzc⟩ := run_zeroValue G.ok w ht
    have hk' : look E'.ob k = none := (h2 k (by simp)).trans hk
    have hn' := hs.newBox hk' hp t (G.T.zero t) ((G.T.zero t).map .lit) (by simp) (fun j c x hc hx => by
      simp only [List.getElem?_map, hx, Option.map_some, Option.some.injEq] at hc
      subst hc
      exact .pure _ _ (.lit x (oneCell_of_kind G.ok ht x (List.mem_of_getElem? hx)))) (oneCell_of_kind G.ok ht)
    refine ⟨.pointer (some ⟨w.heap.size, 0, none⟩), _, S, _, _, .inl ?_, .ptr k 0 _ 0 0 (addB_same _ _ _), hn'⟩
    have e : z.cells = (G.T.zero t).toArray := by apply Array.ext'; simpa using hzc
    simp [execOp, Instr.alloc, hz, newVar, newRow, e]

theorem op_box {t : TypeId} {x : Operand} {v : AV} (k : Nat) (hx : evo (look E.sl) x = some v) (hb : boxable v = true) (hk : look E.ob k = none) (hp : k ∉ Γ.par) (hd : ∀ d, dst = some d → d < E.n) :
    OpS G Γ ⟨dst, .box t x, ty, pos, aft, gd⟩ E (.ptr k 0) [(k, .box (cellsOf v))] (sl1 x) [k] :=
  OpS.turns hd fun E' hn h1 h2 S O β a w hs => by
    have hk' : look E'.ob k = none := (h2 k (by simp)).trans hk
    have hv := hs.ev ((evo_congr h1).trans hx)
    have hn' := hs.newBox hk' hp t (a.eval x).cells.toList (cellsOf v) (hv.cells hb).1 (hv.cells hb).2 (hv.one_of hb)
    refine ⟨.pointer (some ⟨w.heap.size, 0, none⟩), _, S, _, _, .inl ?_, .ptr k 0 _ 0 0 (addB_same _ _ _), hn'⟩
    simp [execOp, Instr.box, newVar, newRow]

theorem arr_get (l : List Value) (j : Nat) : l.toArray[j]? = l[j]? := by simp

/-! Loads -/
theorem op_load1 {t : TypeId} {x : Operand} {k off : Nat} {cs : List AV} {v : AV} (hx : evo (look E.sl) x = some (.ptr k off)) (hk : look E.ob k = some (.box cs)) (hv : cs[off]? = some v)
    (ht : (G.T.kind t).known = true) (ha : (G.T.kind t).agg = false) (hd : ∀ d, dst = some d → d < E.n) : OpS G Γ ⟨dst, .load t x, ty, pos, aft, gd⟩ E v [] (sl1 x) [k] :=
  OpS.val hd fun E' hn h1 h2 S O β a w hs => by
    obtain ⟨b, cap, n, hb, hxe⟩ := (hs.ev ((evo_congr h1).trans hx)).ptr_inv
    obtain ⟨t', vs, hO, hg, hl, hr, ho⟩ := hs.boxAt ((h2 k (by simp)).trans hk) hb
    have hlt : off < cs.length := (List.getElem?_eq_some_iff.1 hv).1
    have hi : vs[off]? = some vs[off] := List.getElem?_eq_getElem (by omega)
    refine ⟨vs[off], ?_, hr off v _ hv hi⟩
    have := run_load1 (P := G.P) w G.ok ht ha b off vs[off] (by rw [cell_of_row w b off _ t' (0, 0) hg, arr_get]; exact hi)
    simp [execOp, hxe, this]

theorem op_loadN {t : TypeId} {x : Operand} {k off : Nat} {cs : List AV} (hx : evo (look E.sl) x = some (.ptr k off)) (hk : look E.ob k = some (.box cs)) (hv : off + G.T.size t ≤ cs.length)
    (ht : (G.T.kind t).known = true) (ha : (G.T.kind t).agg = true) (hd : ∀ d, dst = some d → d < E.n) : OpS G Γ ⟨dst, .load t x, ty, pos, aft, gd⟩ E (.agg ((cs.drop off).take (G.T.size t))) [] (sl1 x) [k] :=
  OpS.val hd fun E' hn h1 h2 S O β a w hs => by
    obtain ⟨b, cap, n, hb, hxe⟩ := (hs.ev ((evo_congr h1).trans hx)).ptr_inv
    obtain ⟨t', vs, hO, hg, hl, hr, ho⟩ := hs.boxAt ((h2 k (by simp)).trans hk) hb
    have hlen : ((vs.drop off).take (G.T.size t)).length = G.T.size t := by simp; omega
    refine ⟨.agg ((vs.drop off).take (G.T.size t)).toArray, ?_, .agg _ _ (by simp; omega) (fun j c x hc hx => ?_) (fun x hx => ho x (List.mem_of_mem_drop (List.mem_of_mem_take hx)))⟩
    · have := run_loadN (P := G.P) w G.ok ht ha b off ((vs.drop off).take (G.T.size t)) hlen (fun j v hj => by
        rw [cell_of_row w b (off + j) _ t' (0, 0) hg, arr_get]
        rw [List.getElem?_take] at hj
        split at hj
        · rw [List.getElem?_drop] at hj; exact hj
        · cases hj)
      simp [execOp, hxe, this]
    · rw [List.getElem?_take] at hc hx
      split at hc
      · rename_i hj
        rw [if_pos hj] at hx
        rw [List.getElem?_drop] at hc hx
        exact hr (off + j) c x hc hx
      · cases hc

theorem op_loadAll {t : TypeId} {x : Operand} {k : Nat} {cs : List AV} (hx : evo (look E.sl) x = some (.ptr k 0)) (hk : look E.ob k = some (.box cs)) (hv : cs.length = G.T.size t)
    (ht : (G.T.kind t).known = true) (ha : (G.T.kind t).agg = true) (hd : ∀ d, dst = some d → d < E.n) : OpS G Γ ⟨dst, .load t x, ty, pos, aft, gd⟩ E (.agg cs) [] (sl1 x) [k] := by
  have := op_loadN (G := G) (Γ := Γ) (E := E) (dst := dst) (ty := ty) (pos := pos) (aft := aft) (gd := gd) (off := 0) hx hk (by omega) ht ha hd
  rw [List.drop_zero, List.take_of_length_le (by omega)] at this
  exact this

/-- What lies in a row. -/
theorem SimAt.rowAt {S : Nat → Prop} {O : Nat → Nat → Prop} {β : Beta} {E : Env} {a : Act} {w : World} (h : SimAt Γ S O β E a w) {k : Nat} {e : TypeId} {sz : Nat} {xs : List (List AV)} (hk : look E.ob k = some (.row e sz xs)) {b cap n : Nat} (hb : β k = some (.at b cap n)) :
    ∃ (vs : List Value), n = xs.length ∧ O k b ∧ w.heap[b]? = some (.cells vs.toArray e (0, 0)) ∧ xs.length ≤ cap ∧ cap ≤ maxLen ∧ vs.length = cap * sz ∧ (∀ (i : Nat) (x : List AV), xs[i]? = some x → x.length = sz) ∧ xs.length ≤ maxSl ∧
      ∀ (i : Nat) (x : List AV) (j : Nat) (c : AV), xs[i]? = some x → x[j]? = some c → ∃ v, vs[i * sz + j]? = some v ∧ PRep S w c v := by
  obtain ⟨h0, hm, hr⟩ := h.h.objs k _ hk
  rcases hr with ⟨h1, _⟩ | ⟨b', cap', vs, h1, h2, h3, h4, h5, h6, h7⟩
  · rw [hb] at h1; cases h1
  · rw [hb] at h1; cases h1
    exact ⟨vs, rfl, h2, h3, h4, h5, h6, h0, hm, h7⟩

theorem op_loadRow1 {t e : TypeId} {x : Operand} {k sz i j : Nat} {xs : List (List AV)} {u : List AV} {v : AV} (hx : evo (look E.sl) x = some (.rptr k sz i j)) (hk : look E.ob k = some (.row e sz xs)) (hu : xs[i]? = some u) (hv : u[j]? = some v)
    (ht : (G.T.kind t).known = true) (ha : (G.T.kind t).agg = false) (hd : ∀ d, dst = some d → d < E.n) : OpS G Γ ⟨dst, .load t x, ty, pos, aft, gd⟩ E v [] (sl1 x) [k] :=
  OpS.val hd fun E' hn h1 h2 S O β a w hs => by
    obtain ⟨b, cap, n, hb, hxe⟩ := (hs.ev ((evo_congr h1).trans hx)).rptr_inv
    obtain ⟨vs, _, hO, hg, _, _, _, _, _, hr⟩ := hs.rowAt ((h2 k (by simp)).trans hk) hb
    obtain ⟨y, hy, hp⟩ := hr i u j v hu hv
    refine ⟨y, ?_, .pure _ _ hp⟩
    have := run_load1 (P := G.P) w G.ok ht ha b (i * sz + j) y (by rw [cell_of_row w b _ _ e (0, 0) hg, arr_get]; exact hy)
    simp [execOp, hxe, this]

/-- A list of values for a list of abstract ones. -/
theorem vals_of {S : Nat → Prop} {w : World} {cs : List AV} {f : Nat → Value} (hp : ∀ (j : Nat) (c : AV), cs[j]? = some c → PRep S w c (f j)) (β : Beta) : VRep S β w (.agg cs) (.agg ((List.range cs.length).map f).toArray) := by
  refine .agg cs _ (by simp) (fun j c x hc hx => ?_) (fun x hx => ?_)
  · have hj : j < cs.length := (List.getElem?_eq_some_iff.1 hc).1
    simp [hj] at hx
    subst hx
    exact .pure _ _ (hp j c hc)
  · obtain ⟨j, hj, rfl⟩ := List.mem_map.1 hx
    have hj' : j < cs.length := by simpa using hj
    exact (hp j cs[j] (List.getElem?_eq_getElem hj')).one

theorem op_loadRowN {t e : TypeId} {x : Operand} {k sz i j : Nat} {xs : List (List AV)} {u : List AV} (hx : evo (look E.sl) x = some (.rptr k sz i j)) (hk : look E.ob k = some (.row e sz xs)) (hu : xs[i]? = some u) (hv : j + G.T.size t ≤ u.length)
    (ht : (G.T.kind t).known = true) (ha : (G.T.kind t).agg = true) (hd : ∀ d, dst = some d → d < E.n) : OpS G Γ ⟨dst, .load t x, ty, pos, aft, gd⟩ E (.agg ((u.drop j).take (G.T.size t))) [] (sl1 x) [k] :=
  OpS.val hd fun E' hn h1 h2 S O β a w hs => by
    obtain ⟨b, cap, n, hb, hxe⟩ := (hs.ev ((evo_congr h1).trans hx)).rptr_inv
    obtain ⟨vs, _, hO, hg, _, _, _, _, _, hr⟩ := hs.rowAt ((h2 k (by simp)).trans hk) hb
    have hp : ∀ (m : Nat) (c : AV), ((u.drop j).take (G.T.size t))[m]? = some c → PRep S w c (vs.getD (i * sz + (j + m)) undef) ∧ vs[i * sz + (j + m)]? = some (vs.getD (i * sz + (j + m)) undef) := by
      intro m c hc
      rw [List.getElem?_take] at hc
      split at hc
      · rw [List.getElem?_drop] at hc
        obtain ⟨y, hy, hp⟩ := hr i u (j + m) c hu hc
        rw [show vs.getD (i * sz + (j + m)) undef = y by simp [List.getD, hy]]
        exact ⟨hp, hy⟩
      · cases hc
    have hlen : ((u.drop j).take (G.T.size t)).length = G.T.size t := by simp; omega
    refine ⟨_, ?_, vals_of (fun m c hc => (hp m c hc).1) β⟩
    rw [hlen]
    have := run_loadN (P := G.P) w G.ok ht ha b (i * sz + j) ((List.range (G.T.size t)).map fun m => vs.getD (i * sz + (j + m)) undef) (by simp) (fun m v hm => by
      have hlt : m < G.T.size t := by have := (List.getElem?_eq_some_iff.1 hm).1; simpa using this
      simp [hlt] at hm
      rw [cell_of_row w b _ _ e (0, 0) hg, arr_get, Nat.add_assoc]
      have hc := (hp m ((u.drop j).take (G.T.size t))[m] (List.getElem?_eq_getElem (by omega))).2
      rw [hc, ← hm]; simp [List.getD])
    simp [execOp, hxe, this]

theorem op_loadS1 {t : TypeId} {x : Operand} {v : AV} {r : List AV} (hx : evo (look E.sl) x = some (.sptr (v :: r)))
    (ht : (G.T.kind t).known = true) (ha : (G.T.kind t).agg = false) (hd : ∀ d, dst = some d → d < E.n) : OpS G Γ ⟨dst, .load t x, ty, pos, aft, gd⟩ E v [] (sl1 x) [] :=
  OpS.val hd fun E' hn h1 h2 S O β a w hs => by
    obtain ⟨b, off, f, hxe, hb, hc, hp⟩ := (hs.ev ((evo_congr h1).trans hx)).sptr_inv
    refine ⟨f 0, ?_, .pure _ _ (hp 0 v (by simp))⟩
    have := run_load1 (P := G.P) w G.ok ht ha b off (f 0) (by simpa using hc 0 v (by simp))
    simp [execOp, hxe, this]

theorem op_loadSN {t : TypeId} {x : Operand} {cs : List AV} (hx : evo (look E.sl) x = some (.sptr cs)) (hl : G.T.size t ≤ cs.length)
    (ht : (G.T.kind t).known = true) (ha : (G.T.kind t).agg = true) (hd : ∀ d, dst = some d → d < E.n) : OpS G Γ ⟨dst, .load t x, ty, pos, aft, gd⟩ E (.agg (cs.take (G.T.size t))) [] (sl1 x) [] :=
  OpS.val hd fun E' hn h1 h2 S O β a w hs => by
    obtain ⟨b, off, f, hxe, hb, hc, hp⟩ := (hs.ev ((evo_congr h1).trans hx)).sptr_inv
    have hlen : (cs.take (G.T.size t)).length = G.T.size t := by simp; omega
    have hp' : ∀ (j : Nat) (c : AV), (cs.take (G.T.size t))[j]? = some c → cs[j]? = some c := by
      intro j c hj
      rw [List.getElem?_take] at hj
      split at hj
      · exact hj
      · cases hj
    refine ⟨_, ?_, vals_of (fun m c hm => hp m c (hp' m c hm)) β⟩
    rw [hlen]
    have := run_loadN (P := G.P) w G.ok ht ha b off ((List.range (G.T.size t)).map f) (by simp) (fun m v hm => by
      have hlt : m < G.T.size t := by have := (List.getElem?_eq_some_iff.1 hm).1; simpa using this
      simp [hlt] at hm
      rw [hc m cs[m] (List.getElem?_eq_getElem (by omega)), hm])
    simp [execOp, hxe, this]

theorem op_loadSAll {t : TypeId} {x : Operand} {cs : List AV} (hx : evo (look E.sl) x = some (.sptr cs)) (hl : cs.length = G.T.size t)
    (ht : (G.T.kind t).known = true) (ha : (G.T.kind t).agg = true) (hd : ∀ d, dst = some d → d < E.n) : OpS G Γ ⟨dst, .load t x, ty, pos, aft, gd⟩ E (.agg cs) [] (sl1 x) [] := by
  have := op_loadSN (G := G) (Γ := Γ) (E := E) (dst := dst) (ty := ty) (pos := pos) (aft := aft) (gd := gd) hx (by omega) ht ha hd
  rw [List.take_of_length_le (by omega)] at this
  exact this
end
end Go.Vc

/-! Stores, addresses. -/
set_option linter.unusedSimpArgs false
set_option linter.unusedVariables false
namespace Go.Vc
open Go Go.RowKit

section
variable {G : Prg} {Γ : Ctx} {E : Env} {dst : Option Tmp} {ty : TypeId} {pos : String} {aft : Array Edge} {gd : Option (Nat × Bool)}

theorem op_store {t : TypeId} {x y : Operand} {k off : Nat} {cs cs' : List AV} {v : AV} (hx : evo (look E.sl) x = some (.ptr k off)) (hy : evo (look E.sl) y = some v) (hk : look E.ob k = some (.box cs))
    (hb : boxable v = true) (hl : (cellsOf v).length = G.T.size t) (ho : off + (cellsOf v).length ≤ cs.length) (hc' : cs' = wrA cs off (cellsOf v)) (ht : (G.T.kind t).known = true) (hd : ∀ d, dst = some d → d < E.n) :
    OpS G Γ ⟨dst, .store t x y, ty, pos, aft, gd⟩ E (.tup []) [(k, .box cs')] (sl1 x ++ sl1 y) [k] :=
  OpS.turns hd fun E' hn h1 h2 S O β a w hs => by
    have hk' := (h2 k (by simp)).trans hk
    obtain ⟨b, cap, n, hbk, hxe⟩ := (hs.ev ((evo_congr fun t ht => h1 t (by simp [ht])).trans hx)).ptr_inv
    have hv := hs.ev ((evo_congr fun t ht => h1 t (by simp [ht])).trans hy)
    obtain ⟨t', vs, hO, hg, hlv, hr, hone⟩ := hs.boxAt hk' hbk
    obtain ⟨c1, c2⟩ := hv.cells hb
    have c3 := hv.one_of hb
    have hst := run_storeN (P := G.P) w G.ok ht b off (a.eval y) vs.toArray t' (by rw [← Array.length_toList, c1, hl]) hg (by rw [← Array.length_toList, c1]; simp; omega) c3
    have hle : off + (a.eval y).cells.toList.length ≤ vs.length := by rw [c1]; omega
    refine ⟨undef, _, S, O, β, .inr ⟨?_, rfl⟩, .tup [] [] rfl (fun j c x hc => by simp at hc), hs.wrBox hk' hO hbk hg cs' (vs.take off ++ (a.eval y).cells.toList ++ vs.drop (off + (a.eval y).cells.toList.length)) ?_ ?_ ?_⟩
    · simp only [execOp, hxe, Sem.run_bind, hst, Result.andThen_ok, Sem.run_pure, List.toList_toArray, Array.length_toList]
    · rw [hc', wrA_eq _ _ _ ho]; simp only [List.length_append, List.length_take, List.length_drop]; omega
    · intro j c z hc hz
      rw [hc', wrA_eq _ _ _ ho, getElem?_tad _ _ _ ho] at hc
      rw [getElem?_tad _ _ _ hle] at hz
      by_cases hj : j < off
      · rw [if_pos hj] at hc hz; exact hr j c z hc hz
      · rw [if_neg hj] at hc hz
        rw [c1] at hz
        by_cases hj2 : j < off + (cellsOf v).length
        · rw [if_pos hj2] at hc hz; exact c2 _ c z hc hz
        · rw [if_neg hj2] at hc hz; exact hr j c z hc hz
    · intro z hz
      simp only [List.mem_append] at hz
      rcases hz with (hz | hz) | hz
      · exact hone z (List.mem_of_mem_take hz)
      · exact c3 z hz
      · exact hone z (List.mem_of_mem_drop hz)

theorem op_storeAll {t : TypeId} {x y : Operand} {k : Nat} {cs : List AV} {v : AV} (hx : evo (look E.sl) x = some (.ptr k 0)) (hy : evo (look E.sl) y = some v) (hk : look E.ob k = some (.box cs))
    (hb : boxable v = true) (hl : (cellsOf v).length = G.T.size t) (ho : (cellsOf v).length = cs.length) (ht : (G.T.kind t).known = true) (hd : ∀ d, dst = some d → d < E.n) :
    OpS G Γ ⟨dst, .store t x y, ty, pos, aft, gd⟩ E (.tup []) [(k, .box (cellsOf v))] (sl1 x ++ sl1 y) [k] :=
  op_store (off := 0) hx hy hk hb hl (by omega) (by rw [wrA_eq _ _ _ (by omega), List.take_zero, List.nil_append, List.drop_eq_nil_of_le (by omega), List.append_nil]) ht hd

theorem mul_add_lt {i n j sz cap : Nat} (hi : i < n) (hj : j ≤ sz) (hc : n ≤ cap) : i * sz + j ≤ cap * sz := by
  have h1 : (i + 1) * sz ≤ cap * sz := Nat.mul_le_mul_right _ (by omega)
  rw [Nat.add_mul, Nat.one_mul] at h1
  omega

theorem row_apart {i i' j j' sz : Nat} (h : i ≠ i') (hj : j < sz) (hj' : j' < sz) : i * sz + j ≠ i' * sz + j' := by
  intro e
  rcases Nat.lt_or_ge i i' with hl | hl
  · have h1 : (i + 1) * sz ≤ i' * sz := Nat.mul_le_mul_right _ hl
    rw [Nat.add_mul, Nat.one_mul] at h1
    omega
  · have h1 : (i' + 1) * sz ≤ i * sz := Nat.mul_le_mul_right _ (by omega)
    rw [Nat.add_mul, Nat.one_mul] at h1
    omega

theorem op_storeRow {t e : TypeId} {x y : Operand} {k sz i j : Nat} {xs : List (List AV)} {u : List AV} {v : AV} (hx : evo (look E.sl) x = some (.rptr k sz i j)) (hy : evo (look E.sl) y = some v) (hk : look E.ob k = some (.row e sz xs)) (hu : xs[i]? = some u)
    (hb : boxable v = true) (hP : ∀ c ∈ cellsOf v, isP c = true) (hl : (cellsOf v).length = G.T.size t) (ho : j + (cellsOf v).length ≤ sz) (ht : (G.T.kind t).known = true) (hd : ∀ d, dst = some d → d < E.n) :
    OpS G Γ ⟨dst, .store t x y, ty, pos, aft, gd⟩ E (.tup []) [(k, .row e sz (xs.set i (wrA u j (cellsOf v))))] (sl1 x ++ sl1 y) [k] :=
  OpS.turns hd fun E' hn h1 h2 S O β a w hs => by
    have hk' := (h2 k (by simp)).trans hk
    obtain ⟨b, cap, n, hbk, hxe⟩ := (hs.ev ((evo_congr fun t ht => h1 t (by simp [ht])).trans hx)).rptr_inv
    have hv := hs.ev ((evo_congr fun t ht => h1 t (by simp [ht])).trans hy)
    obtain ⟨vs, hn', hO, hg, hcap, hcm, hvl, hsz, hm, hr⟩ := hs.rowAt hk' hbk
    obtain ⟨c1, c2⟩ := hv.cells hb
    have c3 := hv.one_of hb
    have hi : i < xs.length := (List.getElem?_eq_some_iff.1 hu).1
    have hul : u.length = sz := hsz i u hu
    have hbd : i * sz + j + (a.eval y).cells.toList.length ≤ vs.length := by
      rw [c1, hvl]
      have := mul_add_lt (j := j + (cellsOf v).length) hi ho hcap
      omega
    have hst := run_storeN (P := G.P) w G.ok ht b (i * sz + j) (a.eval y) vs.toArray e (by rw [← Array.length_toList, c1, hl]) hg (by rw [← Array.length_toList]; simpa using hbd) c3
    have hold : ∀ (b' : Nat), S b' → S b' ∧ (w.setRow b (vs.take (i * sz + j) ++ (a.eval y).cells.toList ++ vs.drop (i * sz + j + (a.eval y).cells.toList.length)).toArray).heap[b']? = w.heap[b']? := fun b' hb' => ⟨hb', setRow_other w b b' _ (fun e => (hs.h.ow k b hO).2 (e ▸ hb'))⟩
    refine ⟨undef, _, S, O, β, .inr ⟨?_, rfl⟩, .tup [] [] rfl (fun j c x hc => by simp at hc), hs.turn hO (by rw [hk']; simp) (Fr_setRow w b (vs.take (i * sz + j) ++ (a.eval y).cells.toList ++ vs.drop (i * sz + j + (a.eval y).cells.toList.length)).toArray) (setRow_size w b _) _ ?_⟩
    · simp only [execOp, hxe, Sem.run_bind, hst, Result.andThen_ok, Sem.run_pure, List.toList_toArray, Array.length_toList]
    · refine ⟨?_, by simpa using hm, .inr ⟨b, cap, _, by simpa [hn'] using hbk, hO, setRow_heap w b _ _ e _ hg, by simpa using hcap, hcm, ?_, ?_⟩⟩
      · intro i' x' hx'
        rw [List.getElem?_set] at hx'
        split at hx'
        · cases hx'
          rw [wrA_eq _ _ _ (by omega)]
          simp only [List.length_append, List.length_take, List.length_drop]; omega
        · exact hsz i' x' hx'
      · simp only [List.length_append, List.length_take, List.length_drop]; omega
      · intro i' x' j' c hx' hc
        rw [List.getElem?_set] at hx'
        rw [getElem?_tad _ _ _ hbd]
        have hj'sz : j' < sz := by
          have hlc := (List.getElem?_eq_some_iff.1 hc).1
          split at hx'
          · cases hx'
            rw [wrA_eq _ _ _ (by omega)] at hlc
            simp only [List.length_append, List.length_take, List.length_drop] at hlc; omega
          · have := hsz i' x' hx'; omega
        by_cases hii : i = i'
        · subst hii
          rw [if_pos rfl] at hx'
          simp only [hi, if_true, Option.some.injEq] at hx'
          subst hx'
          rw [wrA_eq _ _ _ (by omega), getElem?_tad _ _ _ (by omega)] at hc
          by_cases hj : j' < j
          · rw [if_pos hj] at hc
            rw [if_pos (by omega)]
            obtain ⟨z, hz, hp⟩ := hr i u j' c hu hc
            exact ⟨z, hz, hp.mono hold⟩
          · rw [if_neg hj] at hc
            rw [if_neg (by omega)]
            by_cases hj2 : j' < j + (cellsOf v).length
            · rw [if_pos hj2] at hc
              rw [if_pos (by rw [c1]; omega)]
              have hlt : j' - j < (a.eval y).cells.toList.length := by rw [c1]; omega
              have hz : (a.eval y).cells.toList[j' - j]? = some (a.eval y).cells.toList[j' - j] := List.getElem?_eq_getElem hlt
              refine ⟨_, by rw [show i * sz + j' - (i * sz + j) = j' - j by omega]; exact hz, ?_⟩
              exact ((c2 _ c _ hc hz).toP (hP c (List.mem_of_getElem? hc))).mono hold
            · rw [if_neg hj2] at hc
              rw [if_neg (by rw [c1]; omega)]
              obtain ⟨z, hz, hp⟩ := hr i u j' c hu hc
              exact ⟨z, hz, hp.mono hold⟩
        · rw [if_neg hii] at hx'
          obtain ⟨z, hz, hp⟩ := hr i' x' j' c hx' hc
          refine ⟨z, ?_, hp.mono hold⟩
          rw [← hz]
          have hw : ∀ q, q < (cellsOf v).length → i' * sz + j' ≠ i * sz + (j + q) := fun q hq => row_apart (Ne.symm hii) hj'sz (by omega)
          by_cases h3 : i' * sz + j' < i * sz + j
          · rw [if_pos h3]
          · rw [if_neg h3]
            by_cases h4 : i' * sz + j' < i * sz + j + (cellsOf v).length
            · exact absurd (show i' * sz + j' = i * sz + (j + (i' * sz + j' - (i * sz + j))) by omega) (hw _ (by omega))
            · rw [if_neg (by rw [c1]; exact h4)]

/-! Addresses -/
theorem field_of {fs : List (Nat × TypeId)} {f off : Nat} {ft : TypeId} (hf : fs[f]? = some (off, ft)) {gs : Array Field} (hg : gs.toList.map (fun f => (f.offset, f.type)) = fs) : ∃ fl, gs[f]? = some fl ∧ fl.offset = off ∧ fl.type = ft := by
  subst hg
  rw [List.getElem?_map] at hf
  cases h : gs.toList[f]? with
  | none => rw [h] at hf; simp at hf
  | some fl =>
    rw [h] at hf
    simp at hf
    exact ⟨fl, by simpa using h, hf.1, hf.2⟩

theorem run_fieldAt {s : TypeId} {fs : List (Nat × TypeId)} (hs : G.T.kind s = .struct fs) {f off : Nat} {ft : TypeId} (hf : fs[f]? = some (off, ft)) (ht : (G.T.kind ft).known = true) (hz : G.T.size ft ≠ 0) (b o : Nat) (w : World) :
    (Instr.fieldAt s (.pointer (some ⟨b, o, none⟩)) f).run G.P w = .ok (.pointer (some ⟨b, o + off, none⟩)) w := by
  obtain ⟨gs, hu, hg⟩ := underlying_struct G.ok hs
  obtain ⟨fl, h1, h2, h3⟩ := field_of hf hg
  simp [Instr.fieldAt, run_underlying hu, h1, Instr.sureAddr, fieldPlace, h3, run_sizeOf G.ok w ht, hz, h2, add_none]

theorem op_fieldAddr {s : TypeId} {x : Operand} {f k o off : Nat} {fs : List (Nat × TypeId)} {ft : TypeId} (hx : evo (look E.sl) x = some (.ptr k o)) (hs : G.T.kind s = .struct fs) (hf : fs[f]? = some (off, ft)) (ht : (G.T.kind ft).known = true) (hz : G.T.size ft ≠ 0)
    (hd : ∀ d, dst = some d → d < E.n) : OpS G Γ ⟨dst, .fieldAddr s x f, ty, pos, aft, gd⟩ E (.ptr k (o + off)) [] (sl1 x) [] :=
  OpS.val hd fun E' hn h1 h2 S O β a w hs' => by
    obtain ⟨b, cap, n, hb, hxe⟩ := (hs'.ev ((evo_congr h1).trans hx)).ptr_inv
    exact ⟨_, by simp [execOp, hxe, run_fieldAt hs hf ht hz], .ptr k (o + off) b cap n hb⟩

theorem op_fieldAddrR {s : TypeId} {x : Operand} {f k sz i j off : Nat} {fs : List (Nat × TypeId)} {ft : TypeId} (hx : evo (look E.sl) x = some (.rptr k sz i j)) (hs : G.T.kind s = .struct fs) (hf : fs[f]? = some (off, ft)) (ht : (G.T.kind ft).known = true) (hz : G.T.size ft ≠ 0)
    (hd : ∀ d, dst = some d → d < E.n) : OpS G Γ ⟨dst, .fieldAddr s x f, ty, pos, aft, gd⟩ E (.rptr k sz i (j + off)) [] (sl1 x) [] :=
  OpS.val hd fun E' hn h1 h2 S O β a w hs' => by
    obtain ⟨b, cap, n, hb, hxe⟩ := (hs'.ev ((evo_congr h1).trans hx)).rptr_inv
    exact ⟨.pointer (some ⟨b, i * sz + (j + off), none⟩), by simp [execOp, hxe, run_fieldAt hs hf ht hz, Nat.add_assoc], .rptr k sz i (j + off) b cap n hb⟩

theorem VRep.sptr_drop {S : Nat → Prop} {β : Beta} {w : World} {cs : List AV} {b off : Nat} {f : Nat → Value} (hb : S b) (hc : ∀ (j : Nat) (c : AV), cs[j]? = some c → w.cell? ⟨b, off + j, none⟩ = some (f j)) (hp : ∀ (j : Nat) (c : AV), cs[j]? = some c → PRep S w c (f j)) (m : Nat) :
    VRep S β w (.sptr (cs.drop m)) (.pointer (some ⟨b, off + m, none⟩)) :=
  .sptr _ b (off + m) (fun j => f (m + j)) hb (fun j c h => by rw [List.getElem?_drop] at h; rw [Nat.add_assoc]; exact hc _ c h) (fun j c h => by rw [List.getElem?_drop] at h; exact hp _ c h)

theorem op_fieldAddrS {s : TypeId} {x : Operand} {f off : Nat} {cs : List AV} {fs : List (Nat × TypeId)} {ft : TypeId} (hx : evo (look E.sl) x = some (.sptr cs)) (hs : G.T.kind s = .struct fs) (hf : fs[f]? = some (off, ft)) (ht : (G.T.kind ft).known = true) (hz : G.T.size ft ≠ 0)
    (hd : ∀ d, dst = some d → d < E.n) : OpS G Γ ⟨dst, .fieldAddr s x f, ty, pos, aft, gd⟩ E (.sptr (cs.drop off)) [] (sl1 x) [] :=
  OpS.val hd fun E' hn h1 h2 S O β a w hs' => by
    obtain ⟨b, o, g, hxe, hb, hc, hp⟩ := (hs'.ev ((evo_congr h1).trans hx)).sptr_inv
    exact ⟨_, by simp [execOp, hxe, run_fieldAt hs hf ht hz], VRep.sptr_drop hb hc hp off⟩

theorem run_indexSlice {t e : TypeId} (ht : G.T.kind t = .slice e) (he : (G.T.kind e).known = true) (b o len cap : Nat) (k : IntKind) (i : Nat) (hi : i < len) (w : World) :
    (Instr.indexAt t (.slice (some ⟨b, o, none⟩) len cap) (.int k i)).run G.P w = .ok (.pointer (some ⟨b, o + i * G.T.size e, none⟩)) w := by
  have h1 : (0 : Int) ≤ (i : Int) ∧ (i : Int) < (len : Int) := by omega
  simp [Instr.indexAt, run_underlying (underlying_slice G.ok ht), asIntOf, hi, run_sizeOf G.ok w he, add_none]

theorem op_indexS {t e : TypeId} {x y : Operand} {sz i : Nat} {kk : IntKind} {z : Int} {xs : List (List AV)} {u : List AV} (hx : evo (look E.sl) x = some (.shr sz xs)) (hy : evo (look E.sl) y = some (.lit (.int kk z))) (ht : G.T.kind t = .slice e) (he : (G.T.kind e).known = true) (hsz : G.T.size e = sz)
    (hz : z = i) (hu : xs[i]? = some u) (hd : ∀ d, dst = some d → d < E.n) : OpS G Γ ⟨dst, .indexAddr t x y, ty, pos, aft, gd⟩ E (.sptr u) [] (sl1 x ++ sl1 y) [] :=
  OpS.val hd fun E' hn h1 h2 S O β a w hs' => by
    have hye := hs'.lit ((evo_congr fun t ht => h1 t (by simp [ht])).trans hy)
    have hi : i < xs.length := (List.getElem?_eq_some_iff.1 hu).1
    rcases (hs'.ev ((evo_congr fun t ht => h1 t (by simp [ht])).trans hx)).shr_inv with ⟨_, rfl⟩ | ⟨_, _, rfl⟩ | ⟨b, o, cap, g, hxe, hb, hcap, hm, hl, hc, hp⟩
    · simp at hi
    · simp at hi
    · refine ⟨.pointer (some ⟨b, o + i * sz, none⟩), ?_, .sptr u b (o + i * sz) (g i) hb (fun j c h => by rw [Nat.add_assoc]; exact hc i u j c hu h) (fun j c h => hp i u j c hu h)⟩
      have := run_indexSlice (G := G) ht he b o xs.length cap kk i hi w
      rw [hsz] at this
      simp [execOp, hxe, hye, hz, this]

theorem op_indexR {t e e' : TypeId} {x y : Operand} {sz i k : Nat} {kk : IntKind} {z : Int} {xs : List (List AV)} (hx : evo (look E.sl) x = some (.row k)) (hy : evo (look E.sl) y = some (.lit (.int kk z))) (hk : look E.ob k = some (.row e' sz xs)) (ht : G.T.kind t = .slice e) (he : (G.T.kind e).known = true) (hsz : G.T.size e = sz)
    (hz : z = i) (hu : i < xs.length) (hd : ∀ d, dst = some d → d < E.n) : OpS G Γ ⟨dst, .indexAddr t x y, ty, pos, aft, gd⟩ E (.rptr k sz i 0) [] (sl1 x ++ sl1 y) [k] :=
  OpS.val hd fun E' hn h1 h2 S O β a w hs' => by
    have hye := hs'.lit ((evo_congr fun t ht => h1 t (by simp [ht])).trans hy)
    obtain ⟨l, hl, hxe⟩ := (hs'.ev ((evo_congr fun t ht => h1 t (by simp [ht])).trans hx)).row_inv
    have hk' := (h2 k (by simp)).trans hk
    cases l with
    | nil =>
      obtain ⟨_, _, hr⟩ := hs'.h.objs k _ hk'
      rcases hr with ⟨_, rfl⟩ | ⟨b, cap, vs, h5, _⟩
      · simp at hu
      · rw [hl] at h5; cases h5
    | «at» b cap n =>
      obtain ⟨vs, rfl, _⟩ := hs'.rowAt hk' hl
      refine ⟨.pointer (some ⟨b, i * sz + 0, none⟩), ?_, .rptr k sz i 0 b cap _ hl⟩
      have := run_indexSlice (G := G) ht he b 0 xs.length cap kk i hu w
      rw [hsz] at this
      simp [execOp, hxe, hye, hz, Loc.slice, this]

theorem run_indexArr {t e : TypeId} {len : Nat} (ht : G.T.kind t = .arr len e) (he : (G.T.kind e).known = true) (b o : Nat) (k : IntKind) (i : Nat) (hi : i < len) (w : World) :
    (Instr.indexAt t (.pointer (some ⟨b, o, none⟩)) (.int k i)).run G.P w = .ok (.pointer (some ⟨b, o + i * G.T.size e, none⟩)) w := by
  simp [Instr.indexAt, run_underlying (underlying_arr G.ok ht), asIntOf, hi, run_sizeOf G.ok w he, add_none, Instr.sureAddr]

theorem op_indexA {t e : TypeId} {x y : Operand} {len i k o : Nat} {kk : IntKind} {z : Int} (hx : evo (look E.sl) x = some (.ptr k o)) (hy : evo (look E.sl) y = some (.lit (.int kk z))) (ht : G.T.kind t = .arr len e) (he : (G.T.kind e).known = true)
    (hz : z = i) (hu : i < len) (hd : ∀ d, dst = some d → d < E.n) : OpS G Γ ⟨dst, .indexAddr t x y, ty, pos, aft, gd⟩ E (.ptr k (o + i * G.T.size e)) [] (sl1 x ++ sl1 y) [] :=
  OpS.val hd fun E' hn h1 h2 S O β a w hs' => by
    have hye := hs'.lit ((evo_congr fun t ht => h1 t (by simp [ht])).trans hy)
    obtain ⟨b, cap, n, hb, hxe⟩ := (hs'.ev ((evo_congr fun t ht => h1 t (by simp [ht])).trans hx)).ptr_inv
    exact ⟨_, by simp [execOp, hxe, hye, hz, run_indexArr ht he b o kk i hu w], .ptr k _ b cap n hb⟩

theorem op_indexAS {t e : TypeId} {x y : Operand} {len i : Nat} {cs : List AV} {kk : IntKind} {z : Int} (hx : evo (look E.sl) x = some (.sptr cs)) (hy : evo (look E.sl) y = some (.lit (.int kk z))) (ht : G.T.kind t = .arr len e) (he : (G.T.kind e).known = true)
    (hz : z = i) (hu : i < len) (hd : ∀ d, dst = some d → d < E.n) : OpS G Γ ⟨dst, .indexAddr t x y, ty, pos, aft, gd⟩ E (.sptr (cs.drop (i * G.T.size e))) [] (sl1 x ++ sl1 y) [] :=
  OpS.val hd fun E' hn h1 h2 S O β a w hs' => by
    have hye := hs'.lit ((evo_congr fun t ht => h1 t (by simp [ht])).trans hy)
    obtain ⟨b, o, g, hxe, hb, hc, hp⟩ := (hs'.ev ((evo_congr fun t ht => h1 t (by simp [ht])).trans hx)).sptr_inv
    exact ⟨_, by simp [execOp, hxe, hye, hz, run_indexArr ht he b o kk i hu w], VRep.sptr_drop hb hc hp _⟩
end
end Go.Vc

/-! Numbers, texts, conversions, lengths, literals of structs. -/
set_option linter.unusedSimpArgs false
set_option linter.unusedVariables false
namespace Go.Vc
open Go Go.RowKit

section
variable {G : Prg} {Γ : Ctx} {E : Env} {dst : Option Tmp} {ty : TypeId} {pos : String} {aft : Array Edge} {gd : Option (Nat × Bool)}

/-- A binary operation on literals. -/
theorem op_bin {op : BinOp} {t yt : TypeId} {x y : Operand} {u v r : Value} (hx : evo (look E.sl) x = some (.lit u)) (hy : evo (look E.sl) y = some (.lit v))
    (hr : ∀ w, (do eqGuard op t x y u v; binOp op t u v : Sem Value).run G.P w = .ok r w) (ho : r.oneCell' = true) (hd : ∀ d, dst = some d → d < E.n) : OpS G Γ ⟨dst, .binOp op t x y yt, ty, pos, aft, gd⟩ E (.lit r) [] (sl1 x ++ sl1 y) [] :=
  OpS.val hd fun E' hn h1 h2 S O β a w hs => by
    have hxe := hs.lit ((evo_congr fun t ht => h1 t (by simp [ht])).trans hx)
    have hye := hs.lit ((evo_congr fun t ht => h1 t (by simp [ht])).trans hy)
    refine ⟨r, ?_, .pure _ _ (.lit _ ho)⟩
    have := hr w
    simp only [execOp, hxe, hye]
    rw [Sem.run_bind, this]
    rfl

def i64 (n : Int) : Value := .int .i64 n

/-- Within int's range. -/
def inI (n : Int) : Prop := -9223372036854775808 ≤ n ∧ n ≤ 9223372036854775807

theorem wrap_inI {n : Int} (h : inI n) : IntKind.i64.wrap n = n := by
  unfold inI at h
  rw [IntKind.wrap_i64]; omega

section
variable {t yt : TypeId} {x y : Operand} {k : IntKind} {m n : Int} (hx : evo (look E.sl) x = some (.lit (.int k m))) (hy : evo (look E.sl) y = some (.lit (.int k n))) (hd : ∀ d, dst = some d → d < E.n)
include hx hy hd
theorem op_eql : OpS G Γ ⟨dst, .binOp .eql t x y yt, ty, pos, aft, gd⟩ E (.lit (.bool (m == n))) [] (sl1 x ++ sl1 y) [] := op_bin hx hy (fun w => by simp [eqGuard_at_int, binOp_eql]) rfl hd
theorem op_neq : OpS G Γ ⟨dst, .binOp .neq t x y yt, ty, pos, aft, gd⟩ E (.lit (.bool (m != n))) [] (sl1 x ++ sl1 y) [] := op_bin hx hy (fun w => by simp [eqGuard_at_int, binOp_neq]) rfl hd
theorem op_lss : OpS G Γ ⟨dst, .binOp .lss t x y yt, ty, pos, aft, gd⟩ E (.lit (.bool (decide (m < n)))) [] (sl1 x ++ sl1 y) [] := op_bin hx hy (fun w => by simp [eqGuard_at_int, binOp_lss]) rfl hd
theorem op_leq : OpS G Γ ⟨dst, .binOp .leq t x y yt, ty, pos, aft, gd⟩ E (.lit (.bool (decide (m ≤ n)))) [] (sl1 x ++ sl1 y) [] := op_bin hx hy (fun w => by simp [eqGuard_at_int, binOp_leq]) rfl hd
theorem op_gtr : OpS G Γ ⟨dst, .binOp .gtr t x y yt, ty, pos, aft, gd⟩ E (.lit (.bool (decide (n < m)))) [] (sl1 x ++ sl1 y) [] := op_bin hx hy (fun w => by simp [eqGuard_at_int, binOp_gtr]) rfl hd
theorem op_geq : OpS G Γ ⟨dst, .binOp .geq t x y yt, ty, pos, aft, gd⟩ E (.lit (.bool (decide (n ≤ m)))) [] (sl1 x ++ sl1 y) [] := op_bin hx hy (fun w => by simp [eqGuard_at_int, binOp_geq]) rfl hd
theorem op_add : OpS G Γ ⟨dst, .binOp .add t x y yt, ty, pos, aft, gd⟩ E (.lit (.int k (k.wrap (m + n)))) [] (sl1 x ++ sl1 y) [] := op_bin hx hy (fun w => by simp [eqGuard_at_int, binOp_add, Op.intArith]) rfl hd
theorem op_sub : OpS G Γ ⟨dst, .binOp .sub t x y yt, ty, pos, aft, gd⟩ E (.lit (.int k (k.wrap (m - n)))) [] (sl1 x ++ sl1 y) [] := op_bin hx hy (fun w => by simp [eqGuard_at_int, binOp_sub, Op.intArith]) rfl hd
theorem op_mul : OpS G Γ ⟨dst, .binOp .mul t x y yt, ty, pos, aft, gd⟩ E (.lit (.int k (k.wrap (m * n)))) [] (sl1 x ++ sl1 y) [] := op_bin hx hy (fun w => by simp [eqGuard_at_int, binOp_mul, Op.intArith]) rfl hd
theorem op_quo (h0 : n ≠ 0) : OpS G Γ ⟨dst, .binOp .quo t x y yt, ty, pos, aft, gd⟩ E (.lit (.int k (k.wrap (m.tdiv n)))) [] (sl1 x ++ sl1 y) [] := op_bin hx hy (fun w => by simp [eqGuard_at_int, binOp_quo, Op.intDiv, h0]) rfl hd
theorem op_rem (h0 : n ≠ 0) : OpS G Γ ⟨dst, .binOp .rem t x y yt, ty, pos, aft, gd⟩ E (.lit (.int k (m.tmod n))) [] (sl1 x ++ sl1 y) [] := op_bin hx hy (fun w => by simp [eqGuard_at_int, binOp_rem, Op.intDiv, h0]) rfl hd
theorem op_and : OpS G Γ ⟨dst, .binOp .and t x y yt, ty, pos, aft, gd⟩ E (.lit (.int k (bits .and k m n))) [] (sl1 x ++ sl1 y) [] := op_bin hx hy (fun w => by simp [eqGuard_at_int, binOp_and, intBits_and]) rfl hd
theorem op_xor : OpS G Γ ⟨dst, .binOp .xor t x y yt, ty, pos, aft, gd⟩ E (.lit (.int k (bits .xor k m n))) [] (sl1 x ++ sl1 y) [] := op_bin hx hy (fun w => by simp [eqGuard_at_int, binOp_xor, intBits_xor]) rfl hd
end

theorem op_addI {t yt : TypeId} {x y : Operand} {m n : Int} (hx : evo (look E.sl) x = some (.lit (.int .i64 m))) (hy : evo (look E.sl) y = some (.lit (.int .i64 n))) (hr : inI (m + n)) (hd : ∀ d, dst = some d → d < E.n) :
    OpS G Γ ⟨dst, .binOp .add t x y yt, ty, pos, aft, gd⟩ E (.lit (.int .i64 (m + n))) [] (sl1 x ++ sl1 y) [] := by
  have := op_add (G := G) (Γ := Γ) (ty := ty) (pos := pos) (aft := aft) (gd := gd) (t := t) (yt := yt) hx hy hd
  rwa [wrap_inI hr] at this
theorem op_subI {t yt : TypeId} {x y : Operand} {m n : Int} (hx : evo (look E.sl) x = some (.lit (.int .i64 m))) (hy : evo (look E.sl) y = some (.lit (.int .i64 n))) (hr : inI (m - n)) (hd : ∀ d, dst = some d → d < E.n) :
    OpS G Γ ⟨dst, .binOp .sub t x y yt, ty, pos, aft, gd⟩ E (.lit (.int .i64 (m - n))) [] (sl1 x ++ sl1 y) [] := by
  have := op_sub (G := G) (Γ := Γ) (ty := ty) (pos := pos) (aft := aft) (gd := gd) (t := t) (yt := yt) hx hy hd
  rwa [wrap_inI hr] at this
theorem op_mulI {t yt : TypeId} {x y : Operand} {m n : Int} (hx : evo (look E.sl) x = some (.lit (.int .i64 m))) (hy : evo (look E.sl) y = some (.lit (.int .i64 n))) (hr : inI (m * n)) (hd : ∀ d, dst = some d → d < E.n) :
    OpS G Γ ⟨dst, .binOp .mul t x y yt, ty, pos, aft, gd⟩ E (.lit (.int .i64 (m * n))) [] (sl1 x ++ sl1 y) [] := by
  have := op_mul (G := G) (Γ := Γ) (ty := ty) (pos := pos) (aft := aft) (gd := gd) (t := t) (yt := yt) hx hy hd
  rwa [wrap_inI hr] at this
theorem op_shr {t yt : TypeId} {x y : Operand} {k yk : IntKind} {m n : Int} (hx : evo (look E.sl) x = some (.lit (.int k m))) (hy : evo (look E.sl) y = some (.lit (.int yk n))) (h0 : 0 ≤ n) (hd : ∀ d, dst = some d → d < E.n) :
    OpS G Γ ⟨dst, .binOp .shr t x y yt, ty, pos, aft, gd⟩ E (.lit (.int k (m.fdiv (2 ^ (min n.toNat k.bits))))) [] (sl1 x ++ sl1 y) [] :=
  op_bin hx hy (fun w => by
    have : ¬ n < 0 := by omega
    simp [eqGuard_at_int, binOp_shr, Op.shift, this]) rfl hd

theorem run_equalIn_bool (d : Nat) {t : TypeId} (ht : G.P.underlying t = some .bool) (m n : Bool) (w : World) : (Op.equalIn (d + 1) t (.bool m) (.bool n)).run G.P w = .ok (m == n) w := by
  simp [Op.equalIn, run_underlying ht]
theorem run_equal_bool {t : TypeId} (ht : G.P.underlying t = some .bool) (m n : Bool) (w : World) : (Op.equal t (.bool m) (.bool n)).run G.P w = .ok (m == n) w :=
  run_equalIn_bool 9999 ht m n w

section
variable {t yt : TypeId} {x y : Operand} {m n : Bool} (hx : evo (look E.sl) x = some (.lit (.bool m))) (hy : evo (look E.sl) y = some (.lit (.bool n))) (ht : G.T.kind t = .bool) (hd : ∀ d, dst = some d → d < E.n)
include hx hy ht hd
theorem op_eqlB : OpS G Γ ⟨dst, .binOp .eql t x y yt, ty, pos, aft, gd⟩ E (.lit (.bool (m == n))) [] (sl1 x ++ sl1 y) [] :=
  op_bin hx hy (fun w => by simp [eqGuard_at_bool, binOp, run_equal_bool (underlying_bool G.ok ht)]) rfl hd
theorem op_neqB : OpS G Γ ⟨dst, .binOp .neq t x y yt, ty, pos, aft, gd⟩ E (.lit (.bool (m != n))) [] (sl1 x ++ sl1 y) [] :=
  op_bin hx hy (fun w => by simp [eqGuard_at_bool, binOp, run_equal_bool (underlying_bool G.ok ht)]; cases m <;> cases n <;> rfl) rfl hd
end

section
variable {t yt : TypeId} {x y : Operand} {m n : ByteArray} (hx : evo (look E.sl) x = some (.lit (.string m))) (hy : evo (look E.sl) y = some (.lit (.string n))) (hd : ∀ d, dst = some d → d < E.n)
include hx hy hd
theorem op_eqlT : OpS G Γ ⟨dst, .binOp .eql t x y yt, ty, pos, aft, gd⟩ E (.lit (.bool (m.toList == n.toList))) [] (sl1 x ++ sl1 y) [] :=
  op_bin hx hy (fun w => by simp [eqGuard_at_string, binOp, Op.stringOp]) rfl hd
theorem op_neqT : OpS G Γ ⟨dst, .binOp .neq t x y yt, ty, pos, aft, gd⟩ E (.lit (.bool (!(m.toList == n.toList)))) [] (sl1 x ++ sl1 y) [] :=
  op_bin hx hy (fun w => by simp [eqGuard_at_string, binOp, Op.stringOp]) rfl hd
theorem op_addT (hl : m.size + n.size ≤ 9223372036854775807) : OpS G Γ ⟨dst, .binOp .add t x y yt, ty, pos, aft, gd⟩ E (.lit (.string (m ++ n))) [] (sl1 x ++ sl1 y) [] :=
  op_bin hx hy (fun w => by
    have : ¬ ((m.size + n.size : Nat) : Int) > 9223372036854775807 := by omega
    have h' : ¬ ((m.size : Int) + (n.size : Int) > 9223372036854775807) := by omega
    simp [eqGuard_at_string, binOp, Op.stringOp, h']) rfl hd
end

theorem op_convI {s d' : TypeId} {x : Operand} {k k' : IntKind} {n : Int} (hx : evo (look E.sl) x = some (.lit (.int k n))) (hs : (G.T.kind s).known = true) (hk : G.T.kind d' = .int k') (hd : ∀ d, dst = some d → d < E.n) :
    OpS G Γ ⟨dst, .convert s d' x, ty, pos, aft, gd⟩ E (.lit (.int k' (k'.wrap n))) [] (sl1 x) [] :=
  OpS.val hd fun E' hn h1 h2 S O β a w hs' => by
    have hxe := hs'.lit ((evo_congr h1).trans hx)
    refine ⟨.int k' (k'.wrap n), ?_, .pure _ _ (.lit _ rfl)⟩
    have hu : ∃ d, G.P.underlying s = some d := by
      have := (G.ok s hs).1
      cases hk : G.T.kind s with
      | other => rw [hk] at hs; cases hs
      | struct l => rw [hk] at this; obtain ⟨fs, hu, _⟩ := this; exact ⟨_, hu⟩
      | fn => rw [hk] at this; obtain ⟨_, _, _, hu⟩ := this; exact ⟨_, hu⟩
      | _ => rw [hk] at this; exact ⟨_, this⟩
    obtain ⟨du, hu⟩ := hu
    simp [execOp, hxe, convert, run_underlying hu, run_underlying (underlying_int G.ok hk), Conv.intToInt]

/-- The bytes of a text, as cells. -/
def byteCells (bs : List UInt8) : List (List AV) := bs.map fun b => [.lit (.int .u8 b.toNat)]

theorem op_len {t : TypeId} {x : Operand} {sz : Nat} {xs : List (List AV)} {e : TypeId} (hx : evo (look E.sl) x = some (.shr sz xs)) (ht : G.T.kind t = .slice e) (hd : ∀ d, dst = some d → d < E.n) :
    OpS G Γ ⟨dst, .call { callee := .builtin .len, args := #[x], argTypes := #[t] }, ty, pos, aft, gd⟩ E (.lit (.int .i64 xs.length)) [] (sl1 x) [] :=
  OpS.val hd fun E' hn h1 h2 S O β a w hs => by
    rcases (hs.ev ((evo_congr h1).trans hx)).shr_inv with ⟨hxe, rfl⟩ | ⟨_, hxe, rfl⟩ | ⟨b, o, cap, g, hxe, _⟩
    · exact ⟨.int .i64 0, by simp [execOp, resolve, invoke, builtin, hxe, Builtin.len_, run_underlying (underlying_slice G.ok ht), goInt], .pure _ _ (.lit _ rfl)⟩
    · exact ⟨.int .i64 0, by simp [execOp, resolve, invoke, builtin, hxe, Builtin.len_, run_underlying (underlying_slice G.ok ht), goInt], .pure _ _ (.lit _ rfl)⟩
    · exact ⟨.int .i64 xs.length, by simp [execOp, resolve, invoke, builtin, hxe, Builtin.len_, run_underlying (underlying_slice G.ok ht), goInt], .pure _ _ (.lit _ rfl)⟩

theorem op_lenNil {t : TypeId} {x : Operand} {e : TypeId} (hx : evo (look E.sl) x = some (.lit (.slice none 0 0))) (ht : G.T.kind t = .slice e) (hd : ∀ d, dst = some d → d < E.n) :
    OpS G Γ ⟨dst, .call { callee := .builtin .len, args := #[x], argTypes := #[t] }, ty, pos, aft, gd⟩ E (.lit (.int .i64 0)) [] (sl1 x) [] :=
  OpS.val hd fun E' hn h1 h2 S O β a w hs => by
    have hxe := hs.lit ((evo_congr h1).trans hx)
    exact ⟨.int .i64 0, by simp [execOp, resolve, invoke, builtin, hxe, Builtin.len_, run_underlying (underlying_slice G.ok ht), goInt], .pure _ _ (.lit _ rfl)⟩

theorem op_lenR {t : TypeId} {x : Operand} {k sz : Nat} {xs : List (List AV)} {e e' : TypeId} (hx : evo (look E.sl) x = some (.row k)) (hk : look E.ob k = some (.row e' sz xs)) (ht : G.T.kind t = .slice e) (hd : ∀ d, dst = some d → d < E.n) :
    OpS G Γ ⟨dst, .call { callee := .builtin .len, args := #[x], argTypes := #[t] }, ty, pos, aft, gd⟩ E (.lit (.int .i64 xs.length)) [] (sl1 x) [k] :=
  OpS.val hd fun E' hn h1 h2 S O β a w hs => by
    obtain ⟨l, hl, hxe⟩ := (hs.ev ((evo_congr h1).trans hx)).row_inv
    have hlen : l.slice = .slice (match l with | .nil => none | .at b _ _ => some ⟨b, 0, none⟩) xs.length (match l with | .nil => 0 | .at _ c _ => c) := by
      obtain ⟨_, _, hr⟩ := hs.h.objs k _ ((h2 k (by simp)).trans hk)
      rcases hr with ⟨h5, rfl⟩ | ⟨b, cap, vs, h5, _⟩
      · rw [hl] at h5; cases h5; rfl
      · rw [hl] at h5; cases h5; rfl
    exact ⟨.int .i64 xs.length, by simp [execOp, resolve, invoke, builtin, hxe, hlen, Builtin.len_, run_underlying (underlying_slice G.ok ht), goInt], .pure _ _ (.lit _ rfl)⟩

theorem op_lenT {t : TypeId} {x : Operand} {s : ByteArray} (hx : evo (look E.sl) x = some (.lit (.string s))) (ht : G.T.kind t = .str) (hd : ∀ d, dst = some d → d < E.n) :
    OpS G Γ ⟨dst, .call { callee := .builtin .len, args := #[x], argTypes := #[t] }, ty, pos, aft, gd⟩ E (.lit (.int .i64 s.size)) [] (sl1 x) [] :=
  OpS.val hd fun E' hn h1 h2 S O β a w hs => by
    have hxe := hs.lit ((evo_congr h1).trans hx)
    exact ⟨.int .i64 s.size, by simp [execOp, resolve, invoke, builtin, hxe, Builtin.len_, run_underlying (underlying_str G.ok ht), goInt], .pure _ _ (.lit _ rfl)⟩

theorem op_indexT {t : TypeId} {x y : Operand} {s : ByteArray} {kk : IntKind} {z : Int} {i : Nat} {b : UInt8} (hx : evo (look E.sl) x = some (.lit (.string s))) (hy : evo (look E.sl) y = some (.lit (.int kk z))) (ht : G.T.kind t = .str) (hz : z = i) (hb : s[i]? = some b) (hd : ∀ d, dst = some d → d < E.n) :
    OpS G Γ ⟨dst, .index t x y, ty, pos, aft, gd⟩ E (.lit (.int .u8 b.toNat)) [] (sl1 x ++ sl1 y) [] :=
  OpS.val hd fun E' hn h1 h2 S O β a w hs => by
    have hxe := hs.lit ((evo_congr fun t ht => h1 t (by simp [ht])).trans hx)
    have hye := hs.lit ((evo_congr fun t ht => h1 t (by simp [ht])).trans hy)
    refine ⟨.int .u8 b.toNat, ?_, .pure _ _ (.lit _ rfl)⟩
    simp [execOp, hxe, hye, Instr.index, run_underlying (underlying_str G.ok ht), asIntOf, hz, hb]

theorem op_field1 {s : TypeId} {x : Operand} {f off : Nat} {cs : List AV} {fs : List (Nat × TypeId)} {ft : TypeId} {v : AV} (hx : evo (look E.sl) x = some (.agg cs)) (hs : G.T.kind s = .struct fs) (hf : fs[f]? = some (off, ft)) (ht : (G.T.kind ft).known = true) (ha : (G.T.kind ft).agg = false)
    (hv : cs[off]? = some v) (hd : ∀ d, dst = some d → d < E.n) : OpS G Γ ⟨dst, .field s x f, ty, pos, aft, gd⟩ E v [] (sl1 x) [] :=
  OpS.val hd fun E' hn h1 h2 S O β a w hs' => by
    obtain ⟨vs, hxe, hl, hr, _⟩ := (hs'.ev ((evo_congr h1).trans hx)).agg_inv
    obtain ⟨gs, hu, hg⟩ := underlying_struct G.ok hs
    obtain ⟨fl, h3, h4, h5⟩ := field_of hf hg
    have hlt : off < cs.length := (List.getElem?_eq_some_iff.1 hv).1
    have hi : vs[off]? = some vs[off] := List.getElem?_eq_getElem (by omega)
    exact ⟨vs[off], by simp [execOp, hxe, Instr.field, run_underlying hu, h3, asAgg, part, h5, run_isAgg G.ok w ht, ha, h4, hi], hr off v _ hv hi⟩

theorem op_fieldN {s : TypeId} {x : Operand} {f off : Nat} {cs : List AV} {fs : List (Nat × TypeId)} {ft : TypeId} (hx : evo (look E.sl) x = some (.agg cs)) (hs : G.T.kind s = .struct fs) (hf : fs[f]? = some (off, ft)) (ht : (G.T.kind ft).known = true) (ha : (G.T.kind ft).agg = true)
    (hv : off + G.T.size ft ≤ cs.length) (hd : ∀ d, dst = some d → d < E.n) : OpS G Γ ⟨dst, .field s x f, ty, pos, aft, gd⟩ E (.agg ((cs.drop off).take (G.T.size ft))) [] (sl1 x) [] :=
  OpS.val hd fun E' hn h1 h2 S O β a w hs' => by
    obtain ⟨vs, hxe, hl, hr, ho⟩ := (hs'.ev ((evo_congr h1).trans hx)).agg_inv
    obtain ⟨gs, hu, hg⟩ := underlying_struct G.ok hs
    obtain ⟨fl, h3, h4, h5⟩ := field_of hf hg
    refine ⟨.agg ((vs.drop off).take (G.T.size ft)).toArray, ?_, .agg _ _ (by simp; omega) (fun j c x hc hx => ?_) (fun x hx => ho x (List.mem_of_mem_drop (List.mem_of_mem_take hx)))⟩
    · simp [execOp, hxe, Instr.field, run_underlying hu, h3, asAgg, part, h5, run_isAgg G.ok w ht, ha, h4, run_sizeOf G.ok w ht, List.extract_eq_take_drop]
    · rw [List.getElem?_take] at hc hx
      split at hc
      · rename_i hj
        rw [if_pos hj, List.getElem?_drop] at hx
        rw [List.getElem?_drop] at hc
        exact hr (off + j) c x hc hx
      · cases hc
end
end Go.Vc

/-! Append, literals of structs and slices, make. -/
set_option linter.unusedSimpArgs false
set_option linter.unusedVariables false
namespace Go.Vc
open Go Go.RowKit

def moveO (O : Nat → Nat → Prop) (k d : Nat) (N : Nat → Prop) : Nat → Nat → Prop := fun j b => (j ≠ k ∧ O j b) ∨ (j = d ∧ N b)

section
variable {G : Prg} {Γ : Ctx} {S : Nat → Prop} {O : Nat → Nat → Prop} {β : Beta} {E : Env} {a : Act} {w : World}

/-- What the row k owned, the new row d owns, or something new. -/
theorem SimAt.rebind (h : SimAt Γ S O β E a w) {k d : Nat} {ok : AO} (hk : look E.ob k = some ok) (hd : look E.ob d = none) (hp : d ∉ Γ.par) {w' : World} (hw : Fr (fun b => O k b) w w') {N : Nat → Prop}
    (hN : ∀ b, N b → O k b ∨ (w.heap.size ≤ b ∧ b < w'.heap.size)) (l : Loc) (o : AO) (ho : ORep S (moveO O k d N) (addB β d l) w' d o) :
    SimAt Γ S (moveO O k d N) (addB β d l) ⟨E.sl, (d, o) :: (k, .dead) :: E.ob, E.n⟩ a w' := by
  have hdk : d ≠ k := fun e => by rw [e, hk] at hd; cases hd
  have hβ := addB_old (l := l) (h.h.dom d hd).1
  have hS : ∀ b, S b → S b ∧ w'.heap[b]? = w.heap[b]? := fun b hb => ⟨hb, hw.block b (h.h.sh b hb) (fun hO => (h.h.ow k b hO).2 hb)⟩
  refine ⟨⟨?_, ?_, ?_, ?_, ?_⟩, ?_, h.n, h.df, h.s0, h.s1, ?_, ?_, ?_⟩
  · intro b hb; exact Nat.lt_of_lt_of_le (h.h.sh b hb) hw.size
  · rintro j b (⟨_, hb⟩ | ⟨_, hb⟩)
    · exact ⟨Nat.lt_of_lt_of_le (h.h.ow j b hb).1 hw.size, (h.h.ow j b hb).2⟩
    · rcases hN b hb with hb | ⟨h1, h2⟩
      · exact ⟨Nat.lt_of_lt_of_le (h.h.ow k b hb).1 hw.size, (h.h.ow k b hb).2⟩
      · exact ⟨h2, fun hs => by have := h.h.sh b hs; omega⟩
  · rintro j j' b (⟨hj, hb⟩ | ⟨hj, hb⟩) (⟨hj', hb'⟩ | ⟨hj', hb'⟩)
    · exact h.h.dj j j' b hb hb'
    · rcases hN b hb' with hc | ⟨h1, h2⟩
      · exact absurd (h.h.dj j k b hb hc) hj
      · have := (h.h.ow j b hb).1; omega
    · rcases hN b hb with hc | ⟨h1, h2⟩
      · exact absurd (h.h.dj j' k b hb' hc) hj'
      · have := (h.h.ow j' b hb').1; omega
    · rw [hj, hj']
  · intro j hj
    rw [look_cons] at hj
    by_cases he : d = j
    · rw [if_pos he] at hj; cases hj
    · rw [if_neg he, look_cons] at hj
      by_cases he2 : k = j
      · rw [if_pos he2] at hj; cases hj
      · rw [if_neg he2] at hj
        obtain ⟨h1, h2⟩ := h.h.dom j hj
        refine ⟨by unfold addB; rw [if_neg (Ne.symm he)]; exact h1, ?_⟩
        rintro b (⟨_, hb⟩ | ⟨rfl, _⟩)
        · exact h2 b hb
        · exact he rfl
  · intro j o' hj
    rw [look_cons] at hj
    by_cases he : d = j
    · rw [if_pos he] at hj; cases hj; subst he; exact ho
    · rw [if_neg he, look_cons] at hj
      by_cases he2 : k = j
      · rw [if_pos he2] at hj; cases hj
        subst he2
        have : ∃ l, β k = some l := by
          have hr := h.h.objs k _ hk
          cases ok with
          | box cs => obtain ⟨b, cap, n, t, vs, h1, _⟩ := hr; exact ⟨_, h1⟩
          | row e sz xs => obtain ⟨_, _, hr⟩ := hr; rcases hr with ⟨h1, _⟩ | ⟨b, cap, vs, h1, _⟩ <;> exact ⟨_, h1⟩
          | rowv e sz xs => obtain ⟨_, _, b, cap, vs, h1, _⟩ := hr; exact ⟨_, h1⟩
          | rowh hdr e sz xs => obtain ⟨⟨l, h1, _⟩, _⟩ := hr; exact ⟨l, h1⟩
          | set l => obtain ⟨b, cap, n, es, clock, h1, _⟩ := hr; exact ⟨_, h1⟩
          | raw P => obtain ⟨b, cap, n, o, h1, _⟩ := hr; exact ⟨_, h1⟩
          | dead => exact hr
        obtain ⟨l', hl'⟩ := this
        exact ⟨l', hβ k l' hl'⟩
      · rw [if_neg he2] at hj
        exact (h.h.objs j o' hj).mono hS hβ fun b hb => ⟨.inl ⟨Ne.symm he2, hb⟩, hw.block b (h.h.ow j b hb).1 (fun hO => he2 (h.h.dj k j b hO hb))⟩
  · intro t v hl; exact (h.sl t v hl).mono hS hβ
  · rintro j b (⟨_, hb⟩ | ⟨_, hb⟩)
    · exact h.o1 j b hb
    · rcases hN b hb with hb | ⟨h1, _⟩
      · exact h.o1 k b hb
      · exact .inr (Nat.le_trans h.fr.size h1)
  · intro j hj hn
    have hjd : j ≠ d := fun e => hp (e ▸ hj)
    unfold addB
    rw [if_neg hjd]
    refine h.b0 j hj fun e => ?_
    by_cases hjk : k = j
    · subst hjk; rw [hk] at e; cases e
    · apply hn
      show look ((d, o) :: (k, .dead) :: E.ob) j = none
      rw [look_cons, if_neg (Ne.symm hjd), look_cons, if_neg hjk]; exact e
  · exact h.fr.trans hw fun b hb => h.o1 k b hb

/-- A row that is nil. -/
theorem SimAt.newNil (h : SimAt Γ S O β E a w) {d : Nat} (hd : look E.ob d = none) (hp : d ∉ Γ.par) (e : TypeId) (sz : Nat) : SimAt Γ S O (addB β d .nil) ⟨E.sl, (d, .row e sz []) :: E.ob, E.n⟩ a w := by
  have hβ := addB_old (l := .nil) (h.h.dom d hd).1
  have hS : ∀ b, S b → S b ∧ w.heap[b]? = w.heap[b]? := fun b hb => ⟨hb, rfl⟩
  refine ⟨⟨h.h.sh, h.h.ow, h.h.dj, ?_, ?_⟩, fun t v hl => (h.sl t v hl).mono hS hβ, h.n, h.df, h.s0, h.s1, h.o1, ?_, h.fr⟩
  · intro j hj
    rw [look_cons] at hj
    by_cases he : d = j
    · rw [if_pos he] at hj; cases hj
    · rw [if_neg he] at hj
      exact ⟨by unfold addB; rw [if_neg (Ne.symm he)]; exact (h.h.dom j hj).1, (h.h.dom j hj).2⟩
  · intro j o' hj
    rw [look_cons] at hj
    by_cases he : d = j
    · rw [if_pos he] at hj; cases hj; subst he
      exact ⟨fun i x hx => by simp at hx, Nat.zero_le _, .inl ⟨addB_same _ _ _, rfl⟩⟩
    · rw [if_neg he] at hj
      exact (h.h.objs j o' hj).mono hS hβ fun b hb => ⟨hb, rfl⟩
  · intro j hj hn
    have hjd : j ≠ d := fun e => hp (e ▸ hj)
    unfold addB
    rw [if_neg hjd]
    refine h.b0 j hj fun e => hn ?_
    show look ((d, _) :: E.ob) j = none
    rw [look_cons, if_neg (Ne.symm hjd)]; exact e

/-- What a slice's cells are, read: its address, and the values there. -/
structure Src (S : Nat → Prop) (w : World) (x : Value) (sz : Nat) (ys : List (List AV)) (zs : List Value) : Prop where
  len : zs.length = ys.length * sz
  one : ∀ v ∈ zs, v.oneCell' = true
  rep : ∀ (i : Nat) (y : List AV) (j : Nat) (c : AV), ys[i]? = some y → y[j]? = some c → ∃ v, zs[i * sz + j]? = some v ∧ PRep S w c v
  sz : ∀ (i : Nat) (y : List AV), ys[i]? = some y → y.length = sz
  src : (x = .slice none 0 0 ∧ ys = []) ∨ (∃ p cap, x = .slice (some p) 0 cap ∧ ys = []) ∨ ∃ (b off cap : Nat), x = .slice (some ⟨b, off, none⟩) ys.length cap ∧ ∀ (j : Nat) (v : Value), zs[j]? = some v → w.cell? ⟨b, off + j, none⟩ = some v

theorem divmod_lt {n sz m : Nat} (h : m < n * sz) : ∃ i j, m = i * sz + j ∧ i < n ∧ j < sz := by
  have hsz : 0 < sz := by
    cases sz with
    | zero => simp at h
    | succ s => omega
  exact ⟨m / sz, m % sz, by rw [Nat.mul_comm]; exact (Nat.div_add_mod m sz).symm, (Nat.div_lt_iff_lt_mul hsz).2 h, Nat.mod_lt _ hsz⟩

theorem src_shr {x : Value} {sz : Nat} {ys : List (List AV)} (h : VRep S β w (.shr sz ys) x) : ∃ zs, Src S w x sz ys zs := by
  rcases h.shr_inv with ⟨rfl, rfl⟩ | ⟨p, rfl, rfl⟩ | ⟨b, off, cap, f, rfl, hb, hcap, hm, hsz, hc, hp⟩
  · exact ⟨[], by simp, by simp, by simp, by simp, .inl ⟨rfl, rfl⟩⟩
  · exact ⟨[], by simp, by simp, by simp, by simp, .inr (.inl ⟨p, 0, rfl, rfl⟩)⟩
  · have key : ∀ m, m < ys.length * sz → ∃ v, w.cell? ⟨b, off + m, none⟩ = some v ∧ v.oneCell' = true ∧ ∀ (i : Nat) (y : List AV) (j : Nat) (c : AV), m = i * sz + j → ys[i]? = some y → y[j]? = some c → PRep S w c v := by
      intro m hm'
      obtain ⟨i, j, rfl, hi, hj⟩ := divmod_lt hm'
      have hy : ys[i]? = some ys[i] := List.getElem?_eq_getElem hi
      have hyl := hsz i _ hy
      have hcj : ys[i][j]? = some (ys[i][j]'(by omega)) := List.getElem?_eq_getElem (by omega)
      refine ⟨f i j, hc i _ j _ hy hcj, (hp i _ j _ hy hcj).one, fun i' y' j' c' he hy' hc' => ?_⟩
      have hj' : j' < sz := by have := hsz i' y' hy'; have := (List.getElem?_eq_some_iff.1 hc').1; omega
      have hii : i = i' := Classical.byContradiction fun hne => row_apart hne hj hj' he
      subst hii
      have hjj : j = j' := by omega
      subst hjj
      exact hp i y' j c' hy' hc'
    have key2 : ∀ m : Fin (ys.length * sz), ∃ v, w.cell? ⟨b, off + m.1, none⟩ = some v ∧ v.oneCell' = true ∧ ∀ (i : Nat) (y : List AV) (j : Nat) (c : AV), m.1 = i * sz + j → ys[i]? = some y → y[j]? = some c → PRep S w c v := fun m => key m.1 m.2
    refine ⟨List.ofFn fun m => Classical.choose (key2 m), by simp, ?_, ?_, hsz, .inr (.inr ⟨b, off, cap, rfl, ?_⟩)⟩
    · intro v hv
      rw [List.mem_ofFn] at hv
      obtain ⟨m, rfl⟩ := hv
      exact (Classical.choose_spec (key2 m)).2.1
    · intro i y j c hy hc'
      have hi : i < ys.length := (List.getElem?_eq_some_iff.1 hy).1
      have hj : j < sz := by have := hsz i y hy; have := (List.getElem?_eq_some_iff.1 hc').1; omega
      have hlt : i * sz + j < ys.length * sz := by
        have h1 : (i + 1) * sz ≤ ys.length * sz := Nat.mul_le_mul_right _ hi
        rw [Nat.add_mul, Nat.one_mul] at h1; omega
      exact ⟨Classical.choose (key2 ⟨_, hlt⟩), by rw [List.getElem?_ofFn]; simp [hlt], (Classical.choose_spec (key2 ⟨_, hlt⟩)).2.2 i y j c rfl hy hc'⟩
    · intro m v hv
      rw [List.getElem?_ofFn] at hv
      split at hv
      · cases hv; rename_i hlt; exact (Classical.choose_spec (key2 ⟨m, hlt⟩)).1
      · cases hv

theorem Src.mono {w' : World} {S' : Nat → Prop} {x : Value} {sz : Nat} {ys : List (List AV)} {zs : List Value} (h : Src S w x sz ys zs) (hS : ∀ b, S b → S' b ∧ w'.heap[b]? = w.heap[b]?) : ∀ (i : Nat) (y : List AV) (j : Nat) (c : AV), ys[i]? = some y → y[j]? = some c → ∃ v, zs[i * sz + j]? = some v ∧ PRep S' w' c v :=
  fun i y j c hy hc => let ⟨v, h1, h2⟩ := h.rep i y j c hy hc; ⟨v, h1, h2.mono hS⟩

theorem size_zeroCells' (z : Array Value) (n : Nat) : (Builtin.zeroCells z n).size = n * z.size := by simp [Builtin.zeroCells]

/-- The cells of old elements, and of new ones behind them. -/
theorem app_rep {S' : Nat → Prop} {w' : World} {sz : Nat} {xs ys : List (List AV)} {os zs rest : List Value} (hos : os.length = xs.length * sz) (hsx : ∀ (i : Nat) (x : List AV), xs[i]? = some x → x.length = sz) (hsy : ∀ (i : Nat) (x : List AV), ys[i]? = some x → x.length = sz) (hzs : zs.length = ys.length * sz)
    (ho : ∀ (i : Nat) (x : List AV) (j : Nat) (c : AV), xs[i]? = some x → x[j]? = some c → ∃ v, os[i * sz + j]? = some v ∧ PRep S' w' c v)
    (hz : ∀ (i : Nat) (x : List AV) (j : Nat) (c : AV), ys[i]? = some x → x[j]? = some c → ∃ v, zs[i * sz + j]? = some v ∧ PRep S' w' c v) :
    ∀ (i : Nat) (x : List AV) (j : Nat) (c : AV), (xs ++ ys)[i]? = some x → x[j]? = some c → ∃ v, (os ++ zs ++ rest)[i * sz + j]? = some v ∧ PRep S' w' c v := by
  intro i x j c hx hc
  by_cases hi : i < xs.length
  · rw [List.getElem?_append_left hi] at hx
    obtain ⟨v, h1, h2⟩ := ho i x j c hx hc
    have hlt := (List.getElem?_eq_some_iff.1 h1).1
    exact ⟨v, by rw [List.append_assoc, List.getElem?_append_left hlt]; exact h1, h2⟩
  · rw [List.getElem?_append_right (by omega)] at hx
    obtain ⟨v, h1, h2⟩ := hz _ x j c hx hc
    have hlt := (List.getElem?_eq_some_iff.1 h1).1
    have e : i * sz + j = os.length + ((i - xs.length) * sz + j) := by
      rw [hos, Nat.sub_mul]
      have : xs.length * sz ≤ i * sz := Nat.mul_le_mul_right _ (by omega)
      omega
    refine ⟨v, ?_, h2⟩
    rw [e, List.append_assoc, List.getElem?_append_right (by omega), show os.length + ((i - xs.length) * sz + j) - os.length = (i - xs.length) * sz + j by omega, List.getElem?_append_left hlt]
    exact h1

theorem get_app_sz {xs ys : List (List AV)} {sz : Nat} (hsx : ∀ (i : Nat) (x : List AV), xs[i]? = some x → x.length = sz) (hsy : ∀ (i : Nat) (x : List AV), ys[i]? = some x → x.length = sz) : ∀ (i : Nat) (x : List AV), (xs ++ ys)[i]? = some x → x.length = sz := by
  intro i x hx
  by_cases hi : i < xs.length
  · rw [List.getElem?_append_left hi] at hx; exact hsx i x hx
  · rw [List.getElem?_append_right (by omega)] at hx; exact hsy _ x hx
end
end Go.Vc

/-! append, as an operation. -/
set_option linter.unusedSimpArgs false
set_option linter.unusedVariables false
namespace Go.Vc
open Go Go.RowKit

section
variable {G : Prg} {Γ : Ctx} {S : Nat → Prop} {O : Nat → Nat → Prop} {β : Beta} {E : Env} {a : Act} {w : World}

theorem info_of {G : Prg} {e : TypeId} (he : (G.T.kind e).known = true) : ∃ i z, G.P.info? e = some i ∧ i.size = G.T.size e ∧ i.bytes = G.T.bytes e ∧ i.zero = some z ∧ z.cells.toList = G.T.zero e := by
  obtain ⟨_, i, z, h1, h2, h3, h4, h5, _⟩ := G.ok e he
  exact ⟨i, z, h1, h2, h3, h4, h5⟩

/-- The row's own cells, as a list. -/
theorem SimAt.olds (h : SimAt Γ S O β E a w) {k : Nat} {e : TypeId} {sz : Nat} {xs : List (List AV)} (hk : look E.ob k = some (.row e sz xs)) {b cap n : Nat} (hb : β k = some (.at b cap n)) :
    ∃ (vs : List Value), n = xs.length ∧ O k b ∧ w.heap[b]? = some (.cells vs.toArray e (0, 0)) ∧ xs.length ≤ cap ∧ cap ≤ maxLen ∧ vs.length = cap * sz ∧ (vs.take (xs.length * sz)).length = xs.length * sz ∧
      (∀ (i : Nat) (x : List AV), xs[i]? = some x → x.length = sz) ∧ xs.length ≤ maxSl ∧
      (∀ (i : Nat) (x : List AV) (j : Nat) (c : AV), xs[i]? = some x → x[j]? = some c → ∃ v, (vs.take (xs.length * sz))[i * sz + j]? = some v ∧ PRep S w c v) := by
  obtain ⟨vs, h1, h2, h3, h4, h5, h6, h7, h8, h9⟩ := h.rowAt hk hb
  have hle : xs.length * sz ≤ cap * sz := Nat.mul_le_mul_right _ h4
  refine ⟨vs, h1, h2, h3, h4, h5, h6, by simp; omega, h7, h8, fun i x j c hx hc => ?_⟩
  obtain ⟨v, hv, hp⟩ := h9 i x j c hx hc
  refine ⟨v, ?_, hp⟩
  have hi : i < xs.length := (List.getElem?_eq_some_iff.1 hx).1
  have hj : j < sz := by have := h7 i x hx; have := (List.getElem?_eq_some_iff.1 hc).1; omega
  have hlt : i * sz + j < xs.length * sz := by
    have h1 : (i + 1) * sz ≤ xs.length * sz := Nat.mul_le_mul_right _ hi
    rw [Nat.add_mul, Nat.one_mul] at h1; omega
  rw [List.getElem?_take, if_pos hlt]; exact hv

theorem src_row (h : SimAt Γ S O β E a w) {k : Nat} {e : TypeId} {sz : Nat} {xs : List (List AV)} (hk : look E.ob k = some (.row e sz xs)) (hone : ∀ b vs, w.heap[b]? = some (.cells vs e (0, 0)) → O k b → True) {x : Value} (hx : VRep S β w (.row k) x) : ∃ zs, Src S w x sz xs zs := by
  obtain ⟨l, hl, rfl⟩ := hx.row_inv
  cases l with
  | nil =>
    obtain ⟨_, _, hr⟩ := h.h.objs k _ hk
    rcases hr with ⟨_, rfl⟩ | ⟨b, cap, vs, h5, _⟩
    · exact ⟨[], by simp, by simp, by simp, by simp, .inl ⟨rfl, rfl⟩⟩
    · rw [hl] at h5; cases h5
  | «at» b cap n =>
    obtain ⟨vs, rfl, hO, hg, hcap, hcm, hvl, htl, hsz, hm, hr⟩ := h.olds hk hl
    have hsrc : ∀ (j : Nat) (v : Value), (vs.take (xs.length * sz))[j]? = some v → w.cell? ⟨b, 0 + j, none⟩ = some v := by
      intro j v hv
      rw [List.getElem?_take] at hv
      split at hv
      · rw [cell_of_row w b _ _ e (0, 0) hg, arr_get, Nat.zero_add]; exact hv
      · cases hv
    refine ⟨vs.take (xs.length * sz), htl, ?_, hr, hsz, .inr (.inr ⟨b, 0, cap, rfl, hsrc⟩)⟩
    intro v hv
    obtain ⟨m, hm', rfl⟩ := List.getElem_of_mem hv
    have hm2 : m < xs.length * sz := by rw [← htl]; exact hm'
    obtain ⟨i, j, rfl, hi, hj⟩ := divmod_lt hm2
    have hy : xs[i]? = some xs[i] := List.getElem?_eq_getElem hi
    have hyl := hsz i _ hy
    have hcj : xs[i][j]? = some (xs[i][j]'(by omega)) := List.getElem?_eq_getElem (by omega)
    obtain ⟨v', hv', hp⟩ := hr i _ j _ hy hcj
    have : (vs.take (xs.length * sz))[i * sz + j]? = some (vs.take (xs.length * sz))[i * sz + j] := List.getElem?_eq_getElem hm'
    rw [this] at hv'; cases hv'
    exact hp.one

theorem Fr.weaken {A B : Nat → Prop} {w w' : World} (h : Fr A w w') (hab : ∀ b, A b → B b) : Fr B w w' := ⟨h.os, h.tape, h.output, h.size, fun b hb hn => h.block b hb (fun ha => hn (hab b ha))⟩

theorem size_of_info {e : TypeId} (he : (G.T.kind e).known = true) {i : TypeInfo} {z : Value} (hi : G.P.info? e = some i) (hz : i.zero = some z) : z.cells.size = G.T.size e := by
  obtain ⟨i', z', h1, h2, h3, h4, h5, h6, h7, h8⟩ := (G.ok e he).2
  rw [hi] at h1; cases h1
  rw [hz] at h4; cases h4
  rw [← h8, ← h5]; simp

/-- append onto an owned row. -/
theorem run_app (h : SimAt Γ S O β E a w) {k d : Nat} {e t : TypeId} {sz : Nat} {xs ys : List (List AV)} (hk : look E.ob k = some (.row e sz xs)) (hd : look E.ob d = none) (ht : G.T.kind t = .slice e) (he : (G.T.kind e).known = true) (hsz : G.T.size e = sz) (h0 : 0 < sz)
    (hsmall : (xs.length + ys.length) * G.T.bytes e ≤ 140737488355328) (hsm : xs.length + ys.length ≤ maxSl) {l : Loc} (hl : β k = some l) {x : Value} {zs : List Value} (hx : Src S w x sz ys zs) (ty : TypeId) :
    ∃ (l' : Loc) (w' : World) (N : Nat → Prop), (Builtin.append_ #[t, t] ty #[l.slice, x]).run G.P w = .ok l'.slice w' ∧ Fr (fun b => O k b) w w' ∧ (∀ b, N b → O k b ∨ (w.heap.size ≤ b ∧ b < w'.heap.size)) ∧
      ORep S (moveO O k d N) (addB β d l') w' d (.row e sz (xs ++ ys)) := by
  obtain ⟨i, z, hi, his, hib, hiz, hzc⟩ := info_of (G := G) he
  have hu := underlying_slice G.ok ht
  have hzs : z.cells.size = sz := (size_of_info he hi hiz).trans hsz
  have his' : i.size = sz := his.trans hsz
  have hmx : maxSl = 140737488355328 := rfl
  have hml : maxLen = 9223372036854775807 := by simp [maxLen]
  have hSd : ∀ (o : Obj) (b : Nat), S b → S b ∧ (w.drew.alloc o).heap[b]? = w.heap[b]? := fun o b hb => ⟨hb, heap_alloc_lt w.drew o (h.h.sh b hb)⟩
  have hFd : ∀ o : Obj, Fr (fun b => O k b) w (w.drew.alloc o) := fun o => ⟨rfl, rfl, rfl, by simp, fun b hb _ => heap_alloc_lt w.drew o hb⟩
  by_cases hm : ys = []
  · -- nothing is appended
    subst hm
    have hxs : x = .slice none 0 0 ∨ ∃ p cap, x = .slice (some p) 0 cap := by
      rcases hx.src with ⟨h1, _⟩ | ⟨p, cap, h1, _⟩ | ⟨b, off, cap, h1, _⟩
      · exact .inl h1
      · exact .inr ⟨p, cap, h1⟩
      · exact .inr ⟨_, cap, h1⟩
    have hrep := h.h.objs k _ hk
    refine ⟨l, w, fun b => O k b, ?_, Fr.refl _ _, fun b hb => .inl hb, ?_⟩
    · cases l with
      | nil => rcases hxs with rfl | ⟨p, cap, rfl⟩ <;> simp [Builtin.append_, run_underlying hu, sizeOf, typeInfo, hi, Builtin.lenOf, Builtin.firstCells, loadCells, loadCellsFrom, storeCells, Loc.slice]
      | «at» b0 cap0 n =>
        obtain ⟨vs, rfl, _, _, hcap, _⟩ := h.olds hk hl
        rcases hxs with rfl | ⟨p, cap, rfl⟩ <;> simp [Builtin.append_, run_underlying hu, sizeOf, typeInfo, hi, Builtin.lenOf, Builtin.firstCells, loadCells, loadCellsFrom, storeCells, Loc.slice, hcap]
    · rw [List.append_nil]
      obtain ⟨h1, h2, h3⟩ := hrep
      refine ⟨h1, h2, ?_⟩
      rcases h3 with ⟨h4, h5⟩ | ⟨b, cap, vs, h4, h5, h6, h7, h8, h9, h10⟩
      · rw [hl] at h4; cases h4; exact .inl ⟨addB_same _ _ _, h5⟩
      · rw [hl] at h4; cases h4
        exact .inr ⟨b, cap, vs, addB_same _ _ _, .inr ⟨rfl, h5⟩, h6, h7, h8, h9, h10⟩
  · have hm' : 0 < ys.length := List.length_pos_iff.2 hm
    rcases hx.src with ⟨_, h2⟩ | ⟨_, _, _, h2⟩ | ⟨b2, off2, cap2, hxe, hsrc⟩
    · exact absurd h2 hm
    · exact absurd h2 hm
    have hsrc' : ∀ (j : Nat) (v : Value), zs[j]? = some v → w.cell? ((⟨b2, off2, none⟩ : Addr).add j) = some v := fun j v hv => by rw [add_none]; exact hsrc j v hv
    have hlz : zs.length = ys.length * i.size := by rw [his']; exact hx.len
    -- what a new block stands for
    have fresh : ∀ (os : List Value) (cap : Nat), os.length = xs.length * sz → xs.length + ys.length ≤ cap → cap ≤ maxLen → (∀ (i : Nat) (x : List AV), xs[i]? = some x → x.length = sz) →
        (∀ (i : Nat) (x : List AV) (j : Nat) (c : AV), xs[i]? = some x → x[j]? = some c → ∃ v, os[i * sz + j]? = some v ∧ PRep S w c v) →
        ORep S (moveO O k d fun b => b = w.heap.size) (addB β d (.at w.heap.size cap (xs.length + ys.length))) (w.drew.alloc (.cells (os ++ zs ++ (Builtin.zeroCells z.cells (cap - (xs.length + ys.length))).toList).toArray e)) d (.row e sz (xs ++ ys)) := by
      intro os cap hos hc1 hc2 hsx ho
      refine ⟨get_app_sz hsx hx.sz, by rw [List.length_append]; exact hsm, .inr ⟨w.heap.size, cap, _, by rw [List.length_append]; exact addB_same _ _ _, .inr ⟨rfl, rfl⟩, heap_alloc_new w.drew _, by rw [List.length_append]; exact hc1, hc2, ?_, ?_⟩⟩
      · simp only [List.length_append, hos, hx.len, Array.length_toList, size_zeroCells', hzs]
        rw [← Nat.add_mul, ← Nat.add_mul]; congr 1; omega
      · exact app_rep hos hsx hx.sz hx.len (fun i x j c h1 h2 => let ⟨v, h3, h4⟩ := ho i x j c h1 h2; ⟨v, h3, h4.mono (hSd _)⟩) (fun i x j c h1 h2 => let ⟨v, h3, h4⟩ := hx.rep i x j c h1 h2; ⟨v, h3, h4.mono (hSd _)⟩)
    cases l with
    | nil =>
      obtain ⟨h1, h2, h3⟩ := h.h.objs k _ hk
      have hxn : xs = [] := by
        rcases h3 with ⟨_, h5⟩ | ⟨b, cap, vs, h4, _⟩
        · exact h5
        · rw [hl] at h4; cases h4
      subst hxn
      have hr := run_append_nil (P := G.P) w t ty e i z hu hi hiz ⟨b2, off2, none⟩ ys.length cap2 zs hlz hsrc' hm' (by simp at hsm; omega) (by rw [hib]; simp at hsmall; omega)
      have hge := grownCap_ge w ys.length 0 e
      have hle := grownCap_le_maxLen w ys.length 0 e (by rw [hml]; simp at hsm; omega)
      have hfr := fresh [] (grownCap w ys.length 0 e) (by simp) (by simpa using hge) hle (by simp) (by simp)
      simp only [List.length_nil, Nat.zero_add, List.nil_append] at hfr
      refine ⟨.at w.heap.size (grownCap w ys.length 0 e) ys.length, _, fun b => b = w.heap.size, ?_, hFd _, ?_, hfr⟩
      · rw [hxe]
        show (Builtin.append_ #[t, t] ty #[.slice none 0 0, _]).run G.P w = _
        rw [hr]
        congr 2
        congr 1
        apply Array.ext'; simp
      · rintro b rfl; exact .inr ⟨Nat.le_refl _, by simp⟩
    | «at» b cap n =>
      obtain ⟨vs, rfl, hO, hg, hcap, hcm, hvl, htl, hsx, hxm, hr⟩ := h.olds hk hl
      by_cases hroom : xs.length + ys.length ≤ cap
      · have hfit : xs.length * i.size + zs.length ≤ vs.toArray.size := by
          rw [his', hx.len, ← Nat.add_mul]; simp only [List.size_toArray, hvl]; exact Nat.mul_le_mul_right _ hroom
        have hrun := run_append_room (P := G.P) w t ty e i hu hi b xs.length cap vs.toArray hg ⟨b2, off2, none⟩ ys.length cap2 zs hlz hsrc' hx.one hroom hfit
        rw [his'] at hrun hfit
        have hSr : ∀ (cs : Array Value) (c : Nat), S c → S c ∧ (w.setRow b cs).heap[c]? = w.heap[c]? := fun cs c hc => ⟨hc, setRow_other w b c cs (fun e => (h.h.ow k b hO).2 (e ▸ hc))⟩
        refine ⟨.at b cap (xs.length + ys.length), _, fun c => c = b, by rw [hxe]; exact hrun, (Fr_setRow w b _).weaken (fun c hc => by rw [hc]; exact hO), fun c hc => .inl (by rw [hc]; exact hO), ?_⟩
        refine ⟨get_app_sz hsx hx.sz, by rw [List.length_append]; exact hsm, .inr ⟨b, cap, _, by rw [List.length_append]; exact addB_same _ _ _, .inr ⟨rfl, rfl⟩, setRow_heap w b _ _ e _ hg, by rw [List.length_append]; exact hroom, hcm, ?_, ?_⟩⟩
        · simp only [List.size_toArray, List.length_append, List.length_take, List.length_drop] at hfit ⊢; omega
        · exact app_rep (rest := vs.drop (xs.length * sz + zs.length)) htl hsx hx.sz hx.len (fun i x j c h1 h2 => let ⟨v, h3, h4⟩ := hr i x j c h1 h2; ⟨v, h3, h4.mono (hSr _)⟩) (fun i x j c h1 h2 => let ⟨v, h3, h4⟩ := hx.rep i x j c h1 h2; ⟨v, h3, h4.mono (hSr _)⟩)
      · have holds : ∀ (j : Nat) (v : Value), (vs.take (xs.length * sz))[j]? = some v → w.cell? ((⟨b, 0, none⟩ : Addr).add j) = some v := by
          intro j v hv
          rw [add_none, Nat.zero_add, cell_of_row w b _ _ e (0, 0) hg, arr_get]
          rw [List.getElem?_take] at hv
          split at hv
          · exact hv
          · cases hv
        have hrun := run_append_grow (P := G.P) w t ty e i z hu hi hiz ⟨b, 0, none⟩ xs.length cap (vs.take (xs.length * sz)) (by rw [his']; exact htl) holds ⟨b2, off2, none⟩ ys.length cap2 zs hlz hsrc' (by omega) (by omega) (growslice_fits (by omega) (by rw [hib]; exact hsmall))
        have hge := grownCap_ge w (xs.length + ys.length) cap e
        have hle := grownCap_le_maxLen w (xs.length + ys.length) cap e (by rw [hml]; omega)
        have hfr := fresh (vs.take (xs.length * sz)) (grownCap w (xs.length + ys.length) cap e) htl hge hle hsx hr
        refine ⟨.at w.heap.size (grownCap w (xs.length + ys.length) cap e) (xs.length + ys.length), _, fun b => b = w.heap.size, ?_, hFd _, ?_, hfr⟩
        · rw [hxe]
          show (Builtin.append_ #[t, t] ty #[.slice (some ⟨b, 0, none⟩) xs.length cap, _]).run G.P w = _
          rw [hrun]
          congr 2
          congr 1
          apply Array.ext'; simp
        · rintro b rfl; exact .inr ⟨Nat.le_refl _, by simp⟩
end
end Go.Vc

/-! append as an operation; literals; make; slices of slices. -/
set_option linter.unusedSimpArgs false
set_option linter.unusedVariables false
namespace Go.Vc
open Go Go.RowKit

section
variable {G : Prg} {Γ : Ctx} {E : Env} {dst : Option Tmp} {ty : TypeId} {pos : String} {aft : Array Edge} {gd : Option (Nat × Bool)}

/-- What is appended. -/
inductive SrcA (ob : List (Nat × AO)) : AV → Nat → List (List AV) → List Nat → Prop
  | shr (sz : Nat) (ys : List (List AV)) : SrcA ob (.shr sz ys) sz ys []
  | nil (sz : Nat) : SrcA ob (.lit (.slice none 0 0)) sz [] []
  | row (k : Nat) (e : TypeId) (sz : Nat) (ys : List (List AV)) : look ob k = some (.row e sz ys) → SrcA ob (.row k) sz ys [k]

theorem SrcA.src {S : Nat → Prop} {O : Nat → Nat → Prop} {β : Beta} {E E' : Env} {a : Act} {w : World} {v : AV} {sz : Nat} {ys : List (List AV)} {ro : List Nat} (h : SrcA E.ob v sz ys ro) (hs : SimAt Γ S O β E' a w) (hr : ∀ k, k ∈ ro → look E'.ob k = look E.ob k) {x : Value} (hx : VRep S β w v x) :
    ∃ zs, Src S w x sz ys zs := by
  cases h with
  | shr => exact src_shr hx
  | nil => obtain ⟨rfl, _⟩ := hx.lit_inv; exact ⟨[], by simp, by simp, by simp, by simp, .inl ⟨rfl, rfl⟩⟩
  | row k e sz ys hk => exact src_row hs ((hr k (by simp)).trans hk) (fun _ _ _ _ => trivial) hx

theorem op_append {t ty' e : TypeId} {x y : Operand} {k d sz : Nat} {xs ys : List (List AV)} {v : AV} {ro : List Nat} (hx : evo (look E.sl) x = some (.row k)) (hy : evo (look E.sl) y = some v) (hk : look E.ob k = some (.row e sz xs)) (hsrc : SrcA E.ob v sz ys ro) (hd' : look E.ob d = none) (hp : d ∉ Γ.par)
    (ht : G.T.kind t = .slice e) (he : (G.T.kind e).known = true) (hsz : G.T.size e = sz) (h0 : 0 < sz) (hsmall : (xs.length + ys.length) * G.T.bytes e ≤ 140737488355328) (hb : 0 < G.T.bytes e) (hd : ∀ d, dst = some d → d < E.n) :
    OpS G Γ ⟨dst, .call { callee := .builtin .append, args := #[x, y], argTypes := #[t, t] }, ty, pos, aft, gd⟩ E (.row d) [(d, .row e sz (xs ++ ys)), (k, .dead)] (sl1 x ++ sl1 y) ([k, d] ++ ro) :=
  OpS.turns hd fun E' hn h1 h2 S O β a w hs => by
    have hk' := (h2 k (by simp)).trans hk
    have hdn := (h2 d (by simp)).trans hd'
    obtain ⟨l, hl, hxe⟩ := (hs.ev ((evo_congr fun t ht => h1 t (by simp [ht])).trans hx)).row_inv
    have hv := hs.ev ((evo_congr fun t ht => h1 t (by simp [ht])).trans hy)
    obtain ⟨zs, hz⟩ := hsrc.src hs (fun k hk => h2 k (by simp [hk])) hv
    have hsm : xs.length + ys.length ≤ maxSl := by
      have : xs.length + ys.length ≤ (xs.length + ys.length) * G.T.bytes e := Nat.le_mul_of_pos_right _ hb
      simp only [maxSl]; omega
    obtain ⟨l', w', N, hrun, hfr, hN, ho⟩ := run_app hs hk' hdn ht he hsz h0 hsmall hsm hl hz ty
    refine ⟨l'.slice, w', S, _, _, .inl ?_, .row d l' (addB_same _ _ _), hs.rebind hk' hdn hp hfr hN l' _ ho⟩
    simp [execOp, resolve, invoke, builtin, hxe, hrun]

theorem op_appendN {t e : TypeId} {x y : Operand} {k d sz : Nat} {ys : List (List AV)} {v : AV} {ro : List Nat} (hx : evo (look E.sl) x = some (.lit (.slice none 0 0))) (hy : evo (look E.sl) y = some v) (hsrc : SrcA E.ob v sz ys ro) (hk0 : look E.ob k = none) (hd' : look E.ob d = none) (hkd : d ≠ k) (hp : d ∉ Γ.par) (hpk : k ∉ Γ.par) (hro : k ∉ ro)
    (ht : G.T.kind t = .slice e) (he : (G.T.kind e).known = true) (hsz : G.T.size e = sz) (h0 : 0 < sz) (hsmall : ys.length * G.T.bytes e ≤ 140737488355328) (hb : 0 < G.T.bytes e) (hd : ∀ d, dst = some d → d < E.n) :
    OpS G Γ ⟨dst, .call { callee := .builtin .append, args := #[x, y], argTypes := #[t, t] }, ty, pos, aft, gd⟩ E (.row d) [(d, .row e sz ys), (k, .dead), (k, .row e sz [])] (sl1 x ++ sl1 y) ([k, d] ++ ro) :=
  OpS.turns hd fun E' hn h1 h2 S O β a w hs0 => by
    have hk' := (h2 k (by simp)).trans hk0
    have hdn0 := (h2 d (by simp)).trans hd'
    have hxe := hs0.lit ((evo_congr fun t ht => h1 t (by simp [ht])).trans hx)
    have hs := hs0.newNil hk' hpk e sz
    have hv0 := hs0.ev ((evo_congr fun t ht => h1 t (by simp [ht])).trans hy)
    have hv := hv0.mono (S' := S) (β' := addB β k .nil) (w' := w) (fun b hb => ⟨hb, rfl⟩) (addB_old (hs0.h.dom k hk').1)
    have hdn : look ((k, AO.row e sz []) :: E'.ob) d = none := by rw [look_cons, if_neg (Ne.symm hkd)]; exact hdn0
    have hkk : look ((k, AO.row e sz []) :: E'.ob) k = some (.row e sz []) := by rw [look_cons, if_pos rfl]
    obtain ⟨zs, hz⟩ := hsrc.src hs (fun j hj => by
      have hjk : k ≠ j := fun e => hro (e ▸ hj)
      show look ((k, AO.row e sz []) :: E'.ob) j = _
      rw [look_cons, if_neg hjk]; exact h2 j (by simp [hj])) hv
    have hsm : ([] : List (List AV)).length + ys.length ≤ maxSl := by
      have : ys.length ≤ ys.length * G.T.bytes e := Nat.le_mul_of_pos_right _ hb
      simp only [maxSl, List.length_nil]; omega
    obtain ⟨l', w', N, hrun, hfr, hN, ho⟩ := run_app hs hkk hdn ht he hsz h0 (by simpa using hsmall) hsm (l := .nil) (addB_same _ _ _) hz ty
    refine ⟨l'.slice, w', S, _, _, .inl ?_, .row d l' (addB_same _ _ _), by simpa using hs.rebind hkk hdn hp hfr hN l' _ ho⟩
    have hrun' : (Builtin.append_ #[t, t] ty #[Value.slice none 0 0, a.eval y]).run G.P w = .ok l'.slice w' := hrun
    simp [execOp, resolve, invoke, builtin, hxe, hrun']

/-! ### Literals of structs -/
def evoL (sv : Nat → Option AV) : List (Nat × Operand) → Option (List (Nat × AV))
  | [] => some []
  | (i, x) :: r => match evo sv x, evoL sv r with
    | some v, some l => some ((i, v) :: l)
    | _, _ => none

def fillA (T : Tab) (fs : List (Nat × TypeId)) : List AV → List (Nat × AV) → Option (List AV)
  | cs, [] => some cs
  | cs, (i, v) :: r => match fs[i]? with
    | some (off, ft) => bif boxable v && Nat.beq (cellsOf v).length (T.size ft) && Nat.ble (off + (cellsOf v).length) cs.length then fillA T fs (wrA cs off (cellsOf v)) r else none
    | none => none

theorem foldl_set (vs : List Value) : ∀ (off j0 : Nat) (cells : Array Value), off + j0 + vs.length ≤ cells.size →
    (vs.zipIdx j0).foldl (fun (cs : Array Value) (p : Value × Nat) => cs.setIfInBounds (off + p.2) p.1) cells = (cells.toList.take (off + j0) ++ vs ++ cells.toList.drop (off + j0 + vs.length)).toArray := by
  induction vs with
  | nil => intro off j0 cells h; simp
  | cons v vs ih =>
    intro off j0 cells h
    simp only [List.zipIdx_cons, List.foldl_cons]
    rw [ih off (j0 + 1) (cells.setIfInBounds (off + j0) v) (by simp at h ⊢; omega)]
    congr 1
    have e := list_seg_step cells.toList (off + j0) v vs (by simp at h ⊢; omega)
    simpa [Array.toList_setIfInBounds, Nat.add_assoc] using e

/-- The model's 'fill' beside the abstract one. -/
theorem fill_ok {S : Nat → Prop} {β : Beta} {w : World} {T : Tab} {fs : List (Nat × TypeId)} {place : Nat → Option (Nat × Nat)} (hp : ∀ i off ft, fs[i]? = some (off, ft) → place i = some (off, T.size ft)) :
    ∀ (pv : List (Nat × AV)) (px : List (Nat × Value)) (cs cs' : List AV) (vs : Array Value), F2 (fun (p : Nat × AV) (q : Nat × Value) => p.1 = q.1 ∧ VRep S β w p.2 q.2) pv px → vs.toList.length = cs.length →
      (∀ (j : Nat) (c : AV) (x : Value), cs[j]? = some c → vs.toList[j]? = some x → VRep S β w c x) → (∀ x ∈ vs.toList, x.oneCell' = true) → fillA T fs cs pv = some cs' →
      ∃ vs', Instr.fill place vs px = some vs' ∧ vs'.toList.length = cs'.length ∧ (∀ (j : Nat) (c : AV) (x : Value), cs'[j]? = some c → vs'.toList[j]? = some x → VRep S β w c x) ∧ (∀ x ∈ vs'.toList, x.oneCell' = true) := by
  intro pv
  induction pv with
  | nil => intro px cs cs' vs hf hl hr ho h; cases hf; simp only [fillA, Option.some.injEq] at h; subst h; exact ⟨vs, rfl, hl, hr, ho⟩
  | cons p r ih =>
    intro px cs cs' vs hf hl hr ho h
    obtain ⟨i, v⟩ := p
    cases hf with
    | cons h1 h2 =>
      rename_i q qs
      obtain ⟨i', x⟩ := q
      obtain ⟨rfl, hv⟩ := h1
      simp only [fillA] at h
      cases hfi : fs[i]? with
      | none => rw [hfi] at h; cases h
      | some of =>
        obtain ⟨off, ft⟩ := of
        rw [hfi] at h
        simp only at h
        cases hb : (boxable v && Nat.beq (cellsOf v).length (T.size ft) && Nat.ble (off + (cellsOf v).length) cs.length) with
        | false => rw [hb] at h; cases h
        | true =>
          rw [hb] at h
          simp only [Bool.and_eq_true, Nat.ble_eq, cond_true] at hb h
          obtain ⟨⟨hb1, hb2⟩, hb3⟩ := hb
          replace hb2 := Nat.eq_of_beq_eq_true hb2
          obtain ⟨c1, c2⟩ := hv.cells hb1
          have c3 := hv.one_of hb1
          have hsz : x.cells.size = (cellsOf v).length := by rw [← c1]; simp
          have hle : off + x.cells.toList.length ≤ vs.toList.length := by rw [c1, hl]; exact hb3
          have hfold := foldl_set x.cells.toList off 0 vs (by simpa using hle)
          have hfold' : x.cells.zipIdx.foldl (fun cs (p : Value × Nat) => cs.setIfInBounds (off + p.2) p.1) vs = (vs.toList.take off ++ x.cells.toList ++ vs.toList.drop (off + x.cells.toList.length)).toArray := by
            rw [← Array.foldl_toList, Array.toList_zipIdx]; simpa using hfold
          obtain ⟨vs', h3, h4, h5, h6⟩ := ih qs (wrA cs off (cellsOf v)) cs' (vs.toList.take off ++ x.cells.toList ++ vs.toList.drop (off + x.cells.toList.length)).toArray h2 (by
              rw [wrA_eq _ _ _ hb3]; simp only [List.length_append, List.length_take, List.length_drop]; omega) (by
              intro j c z hc hz
              rw [wrA_eq _ _ _ hb3, getElem?_tad _ _ _ hb3] at hc
              have hz' : (vs.toList.take off ++ x.cells.toList ++ vs.toList.drop (off + x.cells.toList.length))[j]? = some z := hz
              rw [getElem?_tad _ _ _ hle] at hz'
              rw [c1] at hz'
              by_cases hj : j < off
              · rw [if_pos hj] at hc hz'; exact hr j c z hc hz'
              · rw [if_neg hj] at hc hz'
                by_cases hj2 : j < off + (cellsOf v).length
                · rw [if_pos hj2] at hc hz'; exact c2 _ c z hc hz'
                · rw [if_neg hj2] at hc hz'; exact hr j c z hc hz') (by
              intro z hz
              have hz' : z ∈ vs.toList.take off ++ x.cells.toList ++ vs.toList.drop (off + x.cells.toList.length) := hz
              simp only [List.mem_append] at hz'
              rcases hz' with (hz' | hz') | hz'
              · exact ho z (List.mem_of_mem_take hz')
              · exact c3 z hz'
              · exact ho z (List.mem_of_mem_drop hz')) h
          refine ⟨vs', ?_, h4, h5, h6⟩
          have hn : ¬ (x.cells.size ≠ T.size ft ∨ off + x.cells.size > vs.size) := by
            have : vs.size = vs.toList.length := by simp
            rw [hsz, this, hl, hb2]; omega
          have hstep : Instr.fill place vs ((i, x) :: qs) = Instr.fill place (x.cells.zipIdx.foldl (fun cs (p : Value × Nat) => cs.setIfInBounds (off + p.2) p.1) vs) qs := by
            have hnb : (decide (x.cells.size ≠ T.size ft) || decide (off + x.cells.size > vs.size)) = false := by
              rw [Bool.or_eq_false_iff]; exact ⟨decide_eq_false (fun h => hn (.inl h)), decide_eq_false (fun h => hn (.inr h))⟩
            rw [Instr.fill]
            simp only [hp i off ft hfi, hnb]
            rfl
          exact (hstep.trans (congrArg (fun z => Instr.fill place z qs) hfold')).trans h3
end
end Go.Vc

/-! Literals of structs and of slices, make. -/
set_option linter.unusedSimpArgs false
set_option linter.unusedVariables false
namespace Go.Vc
open Go Go.RowKit

theorem run_listMapM {α γ : Type} {P : Program} {w : World} {f : α → Sem γ} {g : α → γ} : ∀ (l : List α), (∀ x ∈ l, (f x).run P w = .ok (g x) w) → (l.mapM f).run P w = .ok (l.map g) w
  | [], _ => by simp
  | x :: l, h => by
    have h1 := h x (by simp)
    have h2 := run_listMapM l (fun y hy => h y (by simp [hy]))
    simp [h1, h2]

theorem run_arrayMapM {α γ : Type} {P : Program} {w : World} {f : α → Sem γ} {g : α → γ} (l : Array α) (h : ∀ x ∈ l.toList, (f x).run P w = .ok (g x) w) : (l.mapM f).run P w = .ok (l.map g) w := by
  rw [Array.mapM_eq_mapM_toList]
  simp [run_listMapM l.toList h]
  apply Array.ext'; simp

section
variable {G : Prg} {Γ : Ctx} {E : Env} {dst : Option Tmp} {ty : TypeId} {pos : String} {aft : Array Edge} {gd : Option (Nat × Bool)}

theorem evoL_rep {S : Nat → Prop} {O : Nat → Nat → Prop} {β : Beta} {E' : Env} {a : Act} {w : World} (hs : SimAt Γ S O β E' a w) : ∀ (l : List (Nat × Operand)) (pv : List (Nat × AV)), evoL (look E'.sl) l = some pv →
    F2 (fun (p : Nat × AV) (q : Nat × Value) => p.1 = q.1 ∧ VRep S β w p.2 q.2) pv (l.map fun p => (p.1, a.eval p.2)) := by
  intro l
  induction l with
  | nil => intro pv h; simp only [evoL, Option.some.injEq] at h; subst h; exact .nil
  | cons p r ih =>
    intro pv h
    obtain ⟨i, x⟩ := p
    simp only [evoL] at h
    cases h1 : evo (look E'.sl) x with
    | none => rw [h1] at h; cases h
    | some v =>
      cases h2 : evoL (look E'.sl) r with
      | none => rw [h1, h2] at h; cases h
      | some l' =>
        rw [h1, h2] at h
        simp only [Option.some.injEq] at h
        subst h
        exact .cons ⟨rfl, hs.ev h1⟩ (ih l' h2)

theorem evoL_congr {sv sv' : Nat → Option AV} : ∀ (l : List (Nat × Operand)), (∀ t, t ∈ l.flatMap (fun p => sl1 p.2) → sv' t = sv t) → evoL sv' l = evoL sv l
  | [], _ => rfl
  | (i, x) :: r, h => by
    simp only [evoL]
    rw [evo_congr (x := x) (fun t ht => h t (by simp [ht])), evoL_congr r (fun t ht => h t (by simp only [List.flatMap_cons, List.mem_append]; exact .inr ht))]

theorem op_build {t : TypeId} {parts : List (Nat × Operand)} {fs : List (Nat × TypeId)} {pv : List (Nat × AV)} {cs : List AV} (ht : G.T.kind t = .struct fs) (hp : evoL (look E.sl) parts = some pv) (hf : fillA G.T fs ((G.T.zero t).map .lit) pv = some cs) (hk : (fs.all fun p => (G.T.kind p.2).known) = true)
    (hd : ∀ d, dst = some d → d < E.n) : OpS G Γ ⟨dst, .build t parts.toArray, ty, pos, aft, gd⟩ E (.agg cs) [] (parts.flatMap fun p => sl1 p.2) [] :=
  OpS.val hd fun E' hn h1 h2 S O β a w hs => by
    have hkn : (G.T.kind t).known = true := by rw [ht]; rfl
    obtain ⟨z, hz, hzc⟩ := run_zeroValue G.ok w hkn
    obtain ⟨gs, hu, hg⟩ := underlying_struct G.ok ht
    have hone := oneCell_of_kind G.ok hkn
    have hpl : (gs.mapM fun f => do pure (f.offset, ← sizeOf f.type) : Sem (Array (Nat × Nat))).run G.P w = .ok (gs.map fun f => (f.offset, G.T.size f.type)) w := by
      refine run_arrayMapM gs fun f hf' => ?_
      have hmem : (f.offset, f.type) ∈ fs := by rw [← hg]; exact List.mem_map_of_mem hf'
      have := (List.all_eq_true.1 hk) _ hmem
      simp [run_sizeOf G.ok w this]
    have hplace : ∀ (i off : Nat) (ft : TypeId), fs[i]? = some (off, ft) → (gs.map fun f => (f.offset, G.T.size f.type))[i]? = some (off, G.T.size ft) := by
      intro i off ft hi
      obtain ⟨fl, h3, h4, h5⟩ := field_of hi hg
      simp [h3, h4, h5]
    obtain ⟨vs', h3, h4, h5, h6⟩ := fill_ok (S := S) (β := β) (w := w) (T := G.T) (fs := fs) (place := fun i => (gs.map fun f => (f.offset, G.T.size f.type))[i]?) hplace pv (parts.map fun p => (p.1, a.eval p.2)) ((G.T.zero t).map .lit) cs z.cells
      (evoL_rep hs parts pv ((evoL_congr parts h1).trans hp)) (by rw [hzc]; simp) (fun j c x hc hx => by
        rw [hzc] at hx
        simp only [List.getElem?_map, hx, Option.map_some, Option.some.injEq] at hc
        subst hc
        exact .pure _ _ (.lit x (hone x (List.mem_of_getElem? hx)))) (fun x hx => hone x (by rw [← hzc]; exact hx)) hf
    refine ⟨.agg vs', ?_, ?_⟩
    · have hmap : (parts.toArray.map fun (p : Nat × Operand) => (p.1, a.eval p.2)).toList = parts.map fun p => (p.1, a.eval p.2) := by simp
      have hrun : (Instr.build t (parts.toArray.map fun (p : Nat × Operand) => (p.1, a.eval p.2))).run G.P w = .ok (.agg vs') w := by
        simp only [Instr.build, Sem.run_bind, hz, Result.andThen_ok, run_underlying hu, hpl, hmap, h3]
        rfl
      simp only [execOp, Sem.run_bind, hrun, Result.andThen_ok]
      rfl
    · have e : (Value.agg vs') = .agg vs'.toList.toArray := by simp
      rw [e]
      exact .agg cs _ h4 h5 h6

/-! ### Literals of slices: every element is given, in turn -/
def cellsL : List (Nat × AV) → List (List AV) := fun l => l.map fun p => cellsOf p.2

def idxOk : Nat → List (Nat × AV) → Bool
  | _, [] => true
  | i, p :: r => Nat.beq p.1 i && idxOk (i + 1) r

theorem fill_slice {S : Nat → Prop} {β : Beta} {w : World} {sz len : Nat} : ∀ (pv : List (Nat × AV)) (px : List (Nat × Value)) (m : Nat) (vs : Array Value), F2 (fun (p : Nat × AV) (q : Nat × Value) => p.1 = q.1 ∧ VRep S β w p.2 q.2) pv px →
    idxOk m pv = true → (∀ p ∈ pv, boxable p.2 = true ∧ (cellsOf p.2).length = sz) → m + pv.length = len → vs.size = len * sz →
    ∃ vs', Instr.fill (fun i => some (i * sz, sz)) vs px = some vs' ∧ vs'.size = len * sz ∧ (∀ q, q < m * sz → vs'.toList[q]? = vs.toList[q]?) ∧
      ∀ (i : Nat) (x : List AV) (j : Nat) (c : AV), (cellsL pv)[i]? = some x → x[j]? = some c → ∃ v, vs'.toList[(m + i) * sz + j]? = some v ∧ VRep S β w c v ∧ v.oneCell' = true := by
  intro pv
  induction pv with
  | nil => intro px m vs hf hi hb hm hv; cases hf; exact ⟨vs, rfl, hv, fun q _ => rfl, fun i x j c hx => by simp [cellsL] at hx⟩
  | cons p r ih =>
    intro px m vs hf hi hb hm hv
    obtain ⟨i, v⟩ := p
    cases hf with
    | cons h1 h2 =>
      rename_i q qs
      obtain ⟨i', x⟩ := q
      obtain ⟨hii, hv'⟩ := h1
      simp only at hii; subst hii
      simp only [idxOk, Bool.and_eq_true] at hi
      obtain ⟨hi1, hi2⟩ := hi
      have him : i = m := Nat.eq_of_beq_eq_true hi1
      subst him
      obtain ⟨hb1, hb2⟩ := hb (i, v) (by simp)
      obtain ⟨c1, c2⟩ := hv'.cells hb1
      have c3 := hv'.one_of hb1
      simp only at hb2
      have hxs : x.cells.toList.length = sz := by rw [c1]; exact hb2
      have hsz : x.cells.size = sz := by rw [← Array.length_toList]; exact hxs
      have hbd : i * sz + sz ≤ vs.size := by
        rw [hv]
        have : (i + 1) * sz ≤ len * sz := Nat.mul_le_mul_right _ (by simp at hm; omega)
        rw [Nat.add_mul, Nat.one_mul] at this; exact this
      have hfold := foldl_set x.cells.toList (i * sz) 0 vs (by rw [hxs]; simpa using hbd)
      have hle : i * sz + x.cells.toList.length ≤ vs.toList.length := by rw [hxs]; simpa using hbd
      have hfold' : x.cells.zipIdx.foldl (fun cs (p : Value × Nat) => cs.setIfInBounds (i * sz + p.2) p.1) vs = (vs.toList.take (i * sz) ++ x.cells.toList ++ vs.toList.drop (i * sz + x.cells.toList.length)).toArray := by
        rw [← Array.foldl_toList, Array.toList_zipIdx]; simpa using hfold
      have hlen2 : (vs.toList.take (i * sz) ++ x.cells.toList ++ vs.toList.drop (i * sz + x.cells.toList.length)).length = len * sz := by
        simp only [List.length_append, List.length_take, List.length_drop, Array.length_toList]; omega
      obtain ⟨vs', h3, h4, h5, h6⟩ := ih qs (i + 1) (vs.toList.take (i * sz) ++ x.cells.toList ++ vs.toList.drop (i * sz + x.cells.toList.length)).toArray h2 hi2 (fun p hp => hb p (by simp [hp])) (by simp at hm; omega) (by simpa using hlen2)
      have hn : (decide (x.cells.size ≠ sz) || decide (i * sz + x.cells.size > vs.size)) = false := by
        rw [Bool.or_eq_false_iff]; exact ⟨decide_eq_false (by omega), decide_eq_false (by omega)⟩
      have hstep : Instr.fill (fun i => some (i * sz, sz)) vs ((i, x) :: qs) = Instr.fill (fun i => some (i * sz, sz)) (x.cells.zipIdx.foldl (fun cs (p : Value × Nat) => cs.setIfInBounds (i * sz + p.2) p.1) vs) qs := by
        rw [Instr.fill]
        simp only [hn]
        rfl
      refine ⟨vs', (hstep.trans (congrArg (fun z => Instr.fill (fun i => some (i * sz, sz)) z qs) hfold')).trans h3, h4, ?_, ?_⟩
      · intro q hq
        rw [h5 q (by rw [Nat.add_mul]; omega)]
        show (vs.toList.take (i * sz) ++ x.cells.toList ++ vs.toList.drop (i * sz + x.cells.toList.length))[q]? = _
        rw [getElem?_tad _ _ _ hle, if_pos hq]
      · intro i0 y j c hy hc
        cases i0 with
        | zero =>
          simp only [cellsL, List.map_cons, List.getElem?_cons_zero, Option.some.injEq] at hy
          subst hy
          have hj : j < sz := by have := (List.getElem?_eq_some_iff.1 hc).1; omega
          have hz : x.cells.toList[j]? = some x.cells.toList[j] := List.getElem?_eq_getElem (by omega)
          refine ⟨x.cells.toList[j], ?_, c2 j c _ hc hz, c3 _ (List.getElem_mem _)⟩
          rw [Nat.add_zero, h5 _ (by rw [Nat.add_mul]; omega)]
          show (vs.toList.take (i * sz) ++ x.cells.toList ++ vs.toList.drop (i * sz + x.cells.toList.length))[i * sz + j]? = _
          rw [getElem?_tad _ _ _ hle, if_neg (by omega), if_pos (by omega), ← hz]
          congr 1; omega
        | succ i1 =>
          have := h6 i1 y j c (by simpa [cellsL] using hy) hc
          rwa [show i + 1 + i1 = i + (i1 + 1) by omega] at this

theorem op_buildSlice {t e : TypeId} {len k sz : Nat} {parts : List (Nat × Operand)} {pv : List (Nat × AV)} (ht : G.T.kind t = .slice e) (he : (G.T.kind e).known = true) (hsz : G.T.size e = sz) (hp : evoL (look E.sl) parts = some pv) (hi : idxOk 0 pv = true) (hl : pv.length = len) (hlen : len * sz ≤ 16777216) (hm : len ≤ 16777216)
    (hb : (pv.all fun p => boxable p.2 && Nat.beq (cellsOf p.2).length sz && (cellsOf p.2).all isP) = true) (hk : look E.ob k = none) (hpk : k ∉ Γ.par) (hd : ∀ d, dst = some d → d < E.n) :
    OpS G Γ ⟨dst, .buildSlice t len parts.toArray, ty, pos, aft, gd⟩ E (.row k) [(k, .row e sz (cellsL pv))] (parts.flatMap fun p => sl1 p.2) [k] :=
  OpS.turns hd fun E' hn h1 h2 S O β a w hs => by
    have hk' := (h2 k (by simp)).trans hk
    have hb' : ∀ p ∈ pv, boxable p.2 = true ∧ (cellsOf p.2).length = sz ∧ ∀ c ∈ cellsOf p.2, isP c = true := by
      intro p hp'
      have := List.all_eq_true.1 hb p hp'
      simp only [Bool.and_eq_true] at this
      exact ⟨this.1.1, Nat.eq_of_beq_eq_true this.1.2, fun c hc => List.all_eq_true.1 this.2 c hc⟩
    obtain ⟨z, hz, hzc⟩ := run_zeroValue G.ok w he
    have hrep := evoL_rep hs parts pv ((evoL_congr parts h1).trans hp)
    obtain ⟨vs', h3, h4, _, h6⟩ := fill_slice (sz := sz) (len := len) pv (parts.map fun p => (p.1, a.eval p.2)) 0 ((Array.range (len * sz)).map (z.cells[· % z.cells.size]!)) hrep hi (fun p hp' => ⟨(hb' p hp').1, (hb' p hp').2.1⟩) (by omega) (by simp)
    have hcl : (cellsL pv).length = len := by simp [cellsL, hl]
    have hnr := hs.newRow hk' hpk e sz (cellsL pv) vs'.toList (by
        intro i x hx
        simp only [cellsL, List.getElem?_map] at hx
        cases hq : pv[i]? with
        | none => rw [hq] at hx; cases hx
        | some p => rw [hq] at hx; simp at hx; subst hx; exact (hb' p (List.mem_of_getElem? hq)).2.1) (by rw [hcl]; simp only [maxSl]; omega) (by rw [hcl]; simpa using h4) (by
        intro i x j c hx hc
        obtain ⟨v, h7, h8, h9⟩ := h6 i x j c hx hc
        refine ⟨v, by simpa using h7, h8.toP ?_⟩
        simp only [cellsL, List.getElem?_map] at hx
        cases hq : pv[i]? with
        | none => rw [hq] at hx; cases hx
        | some p => rw [hq] at hx; simp at hx; subst hx; exact (hb' p (List.mem_of_getElem? hq)).2.2 c (List.mem_of_getElem? hc))
    refine ⟨.slice (some ⟨w.heap.size, 0, none⟩) len len, _, S, _, _, .inl ?_, ?_, hnr⟩
    · have hmap : (parts.toArray.map fun (p : Nat × Operand) => (p.1, a.eval p.2)).toList = parts.map fun p => (p.1, a.eval p.2) := by simp
      have hgt : ¬ len * sz > 2 ^ 24 := by omega
      have hrun : (Instr.buildSlice t len (parts.toArray.map fun (p : Nat × Operand) => (p.1, a.eval p.2))).run G.P w = .ok (.slice (some ⟨w.heap.size, 0, none⟩) len len) (w.alloc (.cells vs'.toList.toArray e)) := by
        by_cases h0 : len * sz = 0
        · have h3' : Instr.fill (fun i => some (i * sz, sz)) #[] (parts.map fun p => (p.1, a.eval p.2)) = some vs' := by
            rw [h0] at h3; simpa [Array.range_zero'] using h3
          simp [Instr.buildSlice, run_underlying (underlying_slice G.ok ht), run_sizeOf G.ok w he, hsz, h0, Array.range_zero', h3', newRow]
        · simp [Instr.buildSlice, run_underlying (underlying_slice G.ok ht), run_sizeOf G.ok w he, hsz, h0, hz, show ¬ 16777216 < len * sz by omega, h3, newRow]
      simp only [execOp, Sem.run_bind, hrun, Result.andThen_ok]
      rfl
    · have := VRep.row (S := S) (w := w.alloc (.cells vs'.toList.toArray e)) k (.at w.heap.size (cellsL pv).length (cellsL pv).length) (addB_same β k _)
      simpa [Loc.slice, hcl] using this

theorem op_makeSlice {t e : TypeId} {x y : Operand} {k n sz : Nat} {kl kc : IntKind} {m m' : Int} (hx : evo (look E.sl) x = some (.lit (.int kl m))) (hy : evo (look E.sl) y = some (.lit (.int kc m'))) (hm : m = n) (hm' : m' = n) (ht : G.T.kind t = .slice e) (he : (G.T.kind e).known = true) (hsz : G.T.size e = sz) (hsm : G.T.bytes e * n ≤ 140737488355328) (hn' : n ≤ 140737488355328)
    (hk : look E.ob k = none) (hpk : k ∉ Γ.par) (hd : ∀ d, dst = some d → d < E.n) :
    OpS G Γ ⟨dst, .makeSlice t x y, ty, pos, aft, gd⟩ E (.row k) [(k, .row e sz (List.replicate n ((G.T.zero e).map .lit)))] (sl1 x ++ sl1 y) [k] :=
  OpS.turns hd fun E' hn h1 h2 S O β a w hs => by
    have hk' := (h2 k (by simp)).trans hk
    have hxe := hs.lit ((evo_congr fun t ht => h1 t (by simp [ht])).trans hx)
    have hye := hs.lit ((evo_congr fun t ht => h1 t (by simp [ht])).trans hy)
    obtain ⟨i, z, hi, his, hib, hiz, hzc⟩ := info_of (G := G) he
    have hzl : (G.T.zero e).length = sz := by
      obtain ⟨_, _, _, _, _, _, _, _, _, _, h8⟩ := G.ok e he
      rw [h8]; exact hsz
    have hone := oneCell_of_kind G.ok he
    subst hm hm'
    have hrun := run_make (P := G.P) w t e i z (underlying_slice G.ok ht) hi hiz kl kc (n : Int) (n : Int) (by omega) (Int.le_refl _) (by rw [hib, ← Int.natCast_mul]; omega) (by omega)
    simp only [Int.toNat_natCast, his, hsz] at hrun
    have hzsz : z.cells.size = sz := by rw [← hzl, ← hzc]; simp
    have hget : ∀ i j c, i < n → (G.T.zero e)[j]? = some c → (madeCells z.cells (n * sz)).toList[i * sz + j]? = some c := by
      intro i j c hi' hc
      have hj : j < sz := by rw [← hzl]; exact (List.getElem?_eq_some_iff.1 hc).1
      have hlt : i * sz + j < n * sz := by
        have h1 : (i + 1) * sz ≤ n * sz := Nat.mul_le_mul_right _ hi'
        rw [Nat.add_mul, Nat.one_mul] at h1; omega
      have hmod : (i * sz + j) % sz = j := by rw [Nat.add_comm, Nat.mul_comm, Nat.add_mul_mod_self_left]; exact Nat.mod_eq_of_lt hj
      have hzj : z.cells[j]? = some c := by rw [← toList_getElem?, hzc]; exact hc
      simp only [madeCells, Array.getElem?_toList, Array.getElem?_map, Array.getElem?_range, hlt, if_true, Option.map_some, hzsz, hmod, Option.some.injEq]
      rw [getElem!_def, hzj]
    have hnr := hs.newRow hk' hpk e sz (List.replicate n ((G.T.zero e).map .lit)) (madeCells z.cells (n * sz)).toList (by
        intro i x hx
        rw [List.getElem?_replicate] at hx
        split at hx
        · cases hx; simpa using hzl
        · cases hx) (by simp only [List.length_replicate, maxSl]; omega) (by simp [size_madeCells]) (by
        intro i x j c hx hc
        rw [List.getElem?_replicate] at hx
        split at hx
        · rename_i hi'
          cases hx
          rw [List.getElem?_map] at hc
          cases hq : (G.T.zero e)[j]? with
          | none => rw [hq] at hc; cases hc
          | some v => rw [hq] at hc; simp at hc; subst hc; exact ⟨v, hget i j v hi' hq, .lit v (hone v (List.mem_of_getElem? hq))⟩
        · cases hx)
    refine ⟨.slice (some ⟨w.heap.size, 0, none⟩) n n, _, S, _, _, .inl ?_, ?_, hnr⟩
    · simp [execOp, hxe, hye, hrun]
    · have := VRep.row (S := S) (w := w.alloc (.cells (madeCells z.cells (n * sz)).toList.toArray e)) k (.at w.heap.size (List.replicate n ((G.T.zero e).map AV.lit)).length (List.replicate n ((G.T.zero e).map AV.lit)).length) (addB_same β k _)
      simpa [Loc.slice] using this
end
end Go.Vc

/-! Slices of slices, bytes as a text. -/
set_option linter.unusedSimpArgs false
set_option linter.unusedVariables false
namespace Go.Vc
open Go Go.RowKit

section
variable {G : Prg} {Γ : Ctx} {E : Env} {dst : Option Tmp} {ty : TypeId} {pos : String} {aft : Array Edge} {gd : Option (Nat × Bool)}

theorem VRep.cut {S : Nat → Prop} {β : Beta} {w : World} {sz : Nat} {xs : List (List AV)} {b off cap : Nat} {f : Nat → Nat → Value} (hb : S b) (hcap : xs.length ≤ cap) (hm : xs.length ≤ maxSl)
    (hsz : ∀ (i : Nat) (x : List AV), xs[i]? = some x → x.length = sz) (hc : ∀ (i : Nat) (x : List AV) (j : Nat) (c : AV), xs[i]? = some x → x[j]? = some c → w.cell? ⟨b, off + (i * sz + j), none⟩ = some (f i j))
    (hp : ∀ (i : Nat) (x : List AV) (j : Nat) (c : AV), xs[i]? = some x → x[j]? = some c → PRep S w c (f i j)) {l h : Nat} (hlh : l ≤ h) (hh : h ≤ xs.length) :
    VRep S β w (.shr sz ((xs.take h).drop l)) (.slice (if cap = l then some ⟨b, off, none⟩ else (some ⟨b, off, none⟩ : Option Addr).map (·.add (l * sz))) (h - l) (cap - l)) := by
  have hlen : ((xs.take h).drop l).length = h - l := by rw [List.length_drop, List.length_take]; omega
  have hget : ∀ (i : Nat) (x : List AV), ((xs.take h).drop l)[i]? = some x → xs[l + i]? = some x := by
    intro i x hx
    rw [List.getElem?_drop, List.getElem?_take] at hx
    split at hx
    · exact hx
    · cases hx
  refine .pure _ _ ?_
  by_cases hcl : cap = l
  · rw [if_pos hcl]
    have hnil : (xs.take h).drop l = [] := List.eq_nil_of_length_eq_zero (by rw [hlen]; omega)
    have := PRep.shr (S := S) (w := w) sz [] b off (cap - l) (fun _ _ => undef) hb (by simp) (by simp) (by simp) (by simp) (by simp)
    rw [hnil]
    have e : h - l = 0 := by omega
    rw [e]; exact this
  · rw [if_neg hcl]
    have := PRep.shr (S := S) (w := w) sz ((xs.take h).drop l) b (off + l * sz) (cap - l) (fun i j => f (l + i) j) hb (by rw [hlen]; omega) (by rw [hlen]; omega) (fun i x hx => hsz _ x (hget i x hx))
      (fun i x j c hx hc' => by
        have := hc (l + i) x j c (hget i x hx) hc'
        rw [Nat.add_mul] at this
        rw [← this]; congr 2; omega) (fun i x j c hx hc' => hp (l + i) x j c (hget i x hx) hc')
    rw [hlen] at this
    simpa [add_none] using this

theorem run_cut {t e : TypeId} (ht : G.T.kind t = .slice e) (he : (G.T.kind e).known = true) (a : Option Addr) (len cap : Nat) (lo hi : Option Value) (l h : Nat) (hlo : lo = some (.int .i64 l) ∨ (lo = none ∧ l = 0)) (hhi : hi = some (.int .i64 h) ∨ (hi = none ∧ h = len)) (hlh : l ≤ h) (hc : h ≤ cap) (w : World) :
    (Instr.sliceAt t (.slice a len cap) lo hi none).run G.P w = .ok (.slice (if cap = l then a else a.map (·.add (l * G.T.size e))) (h - l) (cap - l)) w := by
  have h1 : (0 : Int) ≤ (l : Int) ∧ (l : Int) ≤ (h : Int) := by omega
  have h2 : (0 : Int) ≤ (h : Int) ∧ (h : Int) ≤ (cap : Int) := by omega
  rcases hlo with rfl | ⟨rfl, rfl⟩ <;> rcases hhi with rfl | ⟨rfl, rfl⟩ <;>
    simp [Instr.sliceAt, Instr.slice, run_underlying (underlying_slice G.ok ht), Instr.sliceBounds, Instr.sliceBound, asIntOf, run_sizeOf G.ok w he, hlh, hc]

def evB (sv : Nat → Option AV) : Option Operand → Nat → Nat → Prop
  | some x, _, n => evo sv x = some (.lit (.int .i64 n))
  | none, d, n => n = d

def slO : Option Operand → List Nat
  | some x => sl1 x
  | none => []

theorem op_slice {t e : TypeId} {x : Operand} {lo hi : Option Operand} {sz l h : Nat} {xs : List (List AV)} (hx : evo (look E.sl) x = some (.shr sz xs)) (hlo : evB (look E.sl) lo 0 l) (hhi : evB (look E.sl) hi xs.length h) (hlh : l ≤ h) (hh : h ≤ xs.length)
    (ht : G.T.kind t = .slice e) (he : (G.T.kind e).known = true) (hsz : G.T.size e = sz) (hd : ∀ d, dst = some d → d < E.n) : OpS G Γ ⟨dst, .slice t x lo hi none, ty, pos, aft, gd⟩ E (.shr sz ((xs.take h).drop l)) [] (sl1 x ++ slO lo ++ slO hi) [] :=
  OpS.val hd fun E' hn h1 h2 S O β a w hs => by
    have hlo' : lo.map a.eval = some (.int .i64 l) ∨ (lo.map a.eval = none ∧ l = 0) := by
      cases lo with
      | none => exact .inr ⟨rfl, hlo⟩
      | some y => exact .inl (by rw [Option.map_some, hs.lit ((evo_congr fun t ht => h1 t (by simp [slO, ht])).trans hlo)])
    have hhi' : hi.map a.eval = some (.int .i64 h) ∨ (hi.map a.eval = none ∧ h = xs.length) := by
      cases hi with
      | none => exact .inr ⟨rfl, hhi⟩
      | some y => exact .inl (by rw [Option.map_some, hs.lit ((evo_congr fun t ht => h1 t (by simp [slO, ht])).trans hhi)])
    rcases (hs.ev ((evo_congr fun t ht => h1 t (by simp [ht])).trans hx)).shr_inv with ⟨hxe, rfl⟩ | ⟨p, hxe, rfl⟩ | ⟨b, off, cap, f, hxe, hb, hcap, hm, hl, hc, hp⟩
    · have hl0 : l = 0 := by simp at hh; omega
      have hh0 : h = 0 := by simp at hh; omega
      subst hl0 hh0
      have := run_cut (G := G) ht he none 0 0 (lo.map a.eval) (hi.map a.eval) 0 0 hlo' (by simpa using hhi') (Nat.le_refl _) (Nat.le_refl _) w
      exact ⟨.slice none 0 0, by simp [execOp, hxe, this], .pure _ _ (.nil sz)⟩
    · have hl0 : l = 0 := by simp at hh; omega
      have hh0 : h = 0 := by simp at hh; omega
      subst hl0 hh0
      have := run_cut (G := G) ht he (some p) 0 0 (lo.map a.eval) (hi.map a.eval) 0 0 hlo' (by simpa using hhi') (Nat.le_refl _) (Nat.le_refl _) w
      exact ⟨.slice (some p) 0 0, by simp [execOp, hxe, this], .pure _ _ (.void sz p)⟩
    · have := run_cut (G := G) ht he (some ⟨b, off, none⟩) xs.length cap (lo.map a.eval) (hi.map a.eval) l h hlo' hhi' hlh (by omega) w
      rw [hsz] at this
      exact ⟨_, by simp only [execOp, hxe, Option.map_none, Sem.run_bind, this, Result.andThen_ok]; rfl, VRep.cut hb hcap hm hl hc hp hlh hh⟩

theorem run_cutT {t : TypeId} (ht : G.T.kind t = .str) (s : ByteArray) (lo hi : Option Value) (l h : Nat) (hlo : lo = some (.int .i64 l) ∨ (lo = none ∧ l = 0)) (hhi : hi = some (.int .i64 h) ∨ (hi = none ∧ h = s.size)) (hlh : l ≤ h) (hc : h ≤ s.size) (w : World) :
    (Instr.sliceAt t (.string s) lo hi none).run G.P w = .ok (.string (s.extract l h)) w := by
  rcases hlo with rfl | ⟨rfl, rfl⟩ <;> rcases hhi with rfl | ⟨rfl, rfl⟩ <;>
    simp [Instr.sliceAt, Instr.slice, run_underlying (underlying_str G.ok ht), Instr.sliceBounds, Instr.sliceBound, asIntOf, hlh, hc]

theorem op_sliceT {t : TypeId} {x : Operand} {lo hi : Option Operand} {s : ByteArray} {l h : Nat} (hx : evo (look E.sl) x = some (.lit (.string s))) (hlo : evB (look E.sl) lo 0 l) (hhi : evB (look E.sl) hi s.size h) (hlh : l ≤ h) (hh : h ≤ s.size)
    (ht : G.T.kind t = .str) (hd : ∀ d, dst = some d → d < E.n) : OpS G Γ ⟨dst, .slice t x lo hi none, ty, pos, aft, gd⟩ E (.lit (.string (s.extract l h))) [] (sl1 x ++ slO lo ++ slO hi) [] :=
  OpS.val hd fun E' hn h1 h2 S O β a w hs => by
    have hlo' : lo.map a.eval = some (.int .i64 l) ∨ (lo.map a.eval = none ∧ l = 0) := by
      cases lo with
      | none => exact .inr ⟨rfl, hlo⟩
      | some y => exact .inl (by rw [Option.map_some, hs.lit ((evo_congr fun t ht => h1 t (by simp [slO, ht])).trans hlo)])
    have hhi' : hi.map a.eval = some (.int .i64 h) ∨ (hi.map a.eval = none ∧ h = s.size) := by
      cases hi with
      | none => exact .inr ⟨rfl, hhi⟩
      | some y => exact .inl (by rw [Option.map_some, hs.lit ((evo_congr fun t ht => h1 t (by simp [slO, ht])).trans hhi)])
    have hxe := hs.lit ((evo_congr fun t ht => h1 t (by simp [ht])).trans hx)
    have := run_cutT (G := G) ht s (lo.map a.eval) (hi.map a.eval) l h hlo' hhi' hlh hh w
    exact ⟨.string (s.extract l h), by simp only [execOp, hxe, Option.map_none, Sem.run_bind, this, Result.andThen_ok]; rfl, .pure _ _ (.lit _ rfl)⟩

/-! ### Bytes as a text -/
theorem foldl_push (bs : List UInt8) : ∀ r : ByteArray, (bs.map fun b => ((b.toNat : Nat) : Int)).foldl (fun r n => r.push (UInt8.ofNat n.toNat)) r = ⟨(r.data.toList ++ bs).toArray⟩ := by
  induction bs with
  | nil => intro r; simp
  | cons b bs ih =>
    intro r
    simp only [List.map_cons, List.foldl_cons]
    rw [ih]
    congr 1
    apply Array.ext'
    simp [ByteArray.push]

theorem op_convT {s t e : TypeId} {x : Operand} {bs : List UInt8} {ys : List (List AV)} (hx : evo (look E.sl) x = some (.shr 1 ys)) (hy : ys = byteCells bs) (hs' : G.T.kind s = .slice e) (he : G.T.kind e = .int .u8) (ht : G.T.kind t = .str) (hd : ∀ d, dst = some d → d < E.n) :
    OpS G Γ ⟨dst, .convert s t x, ty, pos, aft, gd⟩ E (.lit (.string ⟨bs.toArray⟩)) [] (sl1 x) [] :=
  OpS.val hd fun E' hn h1 h2 S O β a w hs => by
    subst hy
    refine ⟨.string ⟨bs.toArray⟩, ?_, .pure _ _ (.lit _ rfl)⟩
    rcases (hs.ev ((evo_congr h1).trans hx)).shr_inv with ⟨hxe, hnil⟩ | ⟨p, hxe, hnil⟩ | ⟨b, off, cap, f, hxe, hb, hcap, hm, hl, hc, hp⟩
    · have hbs : bs = [] := by simpa [byteCells] using hnil
      subst hbs
      have := run_convert_bytes_string (P := G.P) w s t e none 0 0 (underlying_slice G.ok hs') (underlying_int G.ok he) (underlying_str G.ok ht)
      simp only [execOp, hxe, Sem.run_bind, this]
      rfl
    · have hbs : bs = [] := by simpa [byteCells] using hnil
      subst hbs
      have := run_convert_bytes_string (P := G.P) w s t e (some p) 0 0 (underlying_slice G.ok hs') (underlying_int G.ok he) (underlying_str G.ok ht)
      simp only [execOp, hxe, Sem.run_bind, this]
      rfl
    · have hlen : (byteCells bs).length = bs.length := by simp [byteCells]
      have hf : ∀ (i : Nat) (u : UInt8), bs[i]? = some u → w.cell? ⟨b, off + i, none⟩ = some (.int .u8 (u.toNat : Int)) := by
        intro i u hu
        have hu' : (byteCells bs)[i]? = some [.lit (.int .u8 u.toNat)] := by simp [byteCells, hu]
        have h3 := hc i _ 0 _ hu' rfl
        have h4 := hp i _ 0 _ hu' rfl
        generalize f i 0 = y at h3 h4
        cases h4 with
        | lit _ _ => simpa using h3
      have hL := run_loadCells_list (P := G.P) w ⟨b, off, none⟩ (bs.map fun u => (Value.int .u8 (u.toNat : Int))) (fun j v hj => by
        rw [add_none]
        rw [List.getElem?_map] at hj
        cases hq : bs[j]? with
        | none => rw [hq] at hj; cases hj
        | some u => rw [hq] at hj; simp at hj; subst hj; exact hf j u hq)
      have hb2 := run_bytesToString (P := G.P) w ⟨b, off, none⟩ bs.length cap (bs.map fun u => ((u.toNat : Nat) : Int)) (by rw [List.map_map]; rw [List.length_map] at hL; exact hL)
      have := run_convert_bytes_string (P := G.P) w s t e (some ⟨b, off, none⟩) bs.length cap (underlying_slice G.ok hs') (underlying_int G.ok he) (underlying_str G.ok ht)
      rw [foldl_push] at hb2
      have e0 : (ByteArray.empty.data.toList ++ bs).toArray = bs.toArray := by
        have : ByteArray.empty.data.toList = [] := rfl
        rw [this, List.nil_append]
      rw [e0] at hb2
      simp only [execOp, hxe, hlen, Sem.run_bind, this, hb2, Result.andThen_ok]
      rfl
end
end Go.Vc
