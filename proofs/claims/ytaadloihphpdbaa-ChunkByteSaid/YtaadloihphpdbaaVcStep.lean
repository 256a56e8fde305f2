/- One step of the abstract machine for each kind of operation, and that each is sound. -/
import Derived.Test.YtaadloihphpdbaaVcRun
set_option linter.unusedSimpArgs false
set_option linter.unusedVariables false
namespace Go.Vc
open Go Go.RowKit

def evo (sv : Nat → Option AV) : Operand → Option AV
  | .tmp t => sv t
  | .const v => bif v.oneCell' then some (.lit v) else none
  | .func f => some (.clo f [])
  | .global _ => none

def cellsOf : AV → List AV
  | .agg cs => cs
  | v => [v]

/-- Of what a variable can be made. -/
def boxable : AV → Bool
  | .any | .tup _ => false
  | _ => true

/-- Cells overwritten. -/
def wrA (cs : List AV) (off : Nat) : List AV → List AV
  | [v] => cs.set off v
  | vs => cs.take off ++ vs ++ cs.drop (off + vs.length)

theorem set_eq_tad {α : Type} (l : List α) (n : Nat) (v : α) (h : n < l.length) : l.set n v = l.take n ++ [v] ++ l.drop (n + 1) := by
  rw [List.set_eq_take_append_cons_drop, if_pos h]; simp

theorem wrA_eq (cs : List AV) (off : Nat) (vs : List AV) (h : off + vs.length ≤ cs.length) : wrA cs off vs = cs.take off ++ vs ++ cs.drop (off + vs.length) := by
  match vs with
  | [] => simp [wrA]
  | [v] => simp only [wrA]; rw [set_eq_tad cs off v (by simp at h; omega)]; simp
  | _ :: _ :: _ => rfl

structure Eff where
  val : AV
  upd : List (Nat × AO)
  rd : List Nat

theorem VRep.one_of {S : Nat → Prop} {β : Beta} {w : World} {c : AV} {x : Value} (h : VRep S β w c x) (hb : boxable c = true) : ∀ v ∈ x.cells.toList, v.oneCell' = true := by
  cases h with
  | pure _ _ hp => intro v hv; have := hp.one; cases x <;> simp_all [Value.cells, Value.oneCell']
  | row k l hk => intro v hv; cases l <;> simp_all [Value.cells, Loc.slice, Value.oneCell']
  | ptr => intro v hv; simp_all [Value.cells, Value.oneCell']
  | rptr => intro v hv; simp_all [Value.cells, Value.oneCell']
  | rsl => intro v hv; simp_all [Value.cells, Value.oneCell']
  | sptr => intro v hv; simp_all [Value.cells, Value.oneCell']
  | agg cs vs h1 h2 h3 => intro v hv; exact h3 v (by simpa [Value.cells] using hv)
  | tup => simp [boxable] at hb
  | clo => intro v hv; simp_all [Value.cells, Value.oneCell']
  | any => simp [boxable] at hb

/-- A value's cells stand for the abstract value's cells. -/
theorem VRep.cells {S : Nat → Prop} {β : Beta} {w : World} {c : AV} {x : Value} (h : VRep S β w c x) (hb : boxable c = true) :
    x.cells.toList.length = (cellsOf c).length ∧ ∀ (j : Nat) (c' : AV) (v : Value), (cellsOf c)[j]? = some c' → x.cells.toList[j]? = some v → VRep S β w c' v := by
  have single : ∀ (c : AV) (x : Value), VRep S β w c x → cellsOf c = [c] → x.cells = #[x] → x.cells.toList.length = (cellsOf c).length ∧ ∀ (j : Nat) (c' : AV) (v : Value), (cellsOf c)[j]? = some c' → x.cells.toList[j]? = some v → VRep S β w c' v := by
    intro c x h e1 e2
    rw [e1, e2]
    refine ⟨rfl, fun j c' v hc hv => ?_⟩
    cases j with
    | zero => simp at hc hv; subst hc; subst hv; exact h
    | succ j => simp at hc
  cases h with
  | pure _ _ hp =>
    have h1 := hp.one
    refine single c x (.pure _ _ hp) (by cases hp <;> rfl) (by cases x <;> first | rfl | simp [Value.oneCell'] at h1)
  | row k l hk => exact single _ _ (.row k l hk) rfl (by cases l <;> rfl)
  | ptr k off b cap n hk => exact single _ _ (.ptr k off b cap n hk) rfl rfl
  | rptr k sz i j b cap n hk => exact single _ _ (.rptr k sz i j b cap n hk) rfl rfl
  | rsl k sz i j b cap n hk h1 h2 => exact single _ _ (.rsl k sz i j b cap n hk h1 h2) rfl rfl
  | sptr cs b off f hS h1 h2 => exact single _ _ (.sptr cs b off f hS h1 h2) rfl rfl
  | agg cs vs h1 h2 h3 => exact ⟨by simpa [Value.cells, cellsOf] using h1, fun j c' v hc hv => h2 j c' v hc (by simpa [Value.cells] using hv)⟩
  | tup => simp [boxable] at hb
  | clo f cs vs h1 h2 => exact single _ _ (.clo f cs vs h1 h2) rfl rfl
  | any => simp [boxable] at hb

section
variable {S : Nat → Prop} {β : Beta} {w : World}
theorem VRep.ptr_inv {k off : Nat} {x : Value} (h : VRep S β w (.ptr k off) x) : ∃ b cap n, β k = some (.at b cap n) ∧ x = .pointer (some ⟨b, off, none⟩) := by
  cases h with
  | pure _ _ hp => cases hp
  | ptr k off b cap n hk => exact ⟨b, cap, n, hk, rfl⟩
theorem VRep.rptr_inv {k sz i j : Nat} {x : Value} (h : VRep S β w (.rptr k sz i j) x) : ∃ b cap n, β k = some (.at b cap n) ∧ x = .pointer (some ⟨b, i * sz + j, none⟩) := by
  cases h with
  | pure _ _ hp => cases hp
  | rptr k sz i j b cap n hk => exact ⟨b, cap, n, hk, rfl⟩
theorem VRep.rsl_inv {k sz i j : Nat} {x : Value} (h : VRep S β w (.rsl k sz i j) x) : ∃ b cap n, β k = some (.at b cap n) ∧ i ≤ j ∧ j ≤ cap ∧ x = .slice (some ⟨b, if cap = i then 0 else i * sz, none⟩) (j - i) (cap - i) := by
  cases h with
  | pure _ _ hp => cases hp
  | rsl k sz i j b cap n hk h1 h2 => exact ⟨b, cap, n, hk, h1, h2, rfl⟩
theorem VRep.row_inv {k : Nat} {x : Value} (h : VRep S β w (.row k) x) : ∃ l, β k = some l ∧ x = l.slice := by
  cases h with
  | pure _ _ hp => cases hp
  | row k l hk => exact ⟨l, hk, rfl⟩
theorem VRep.sptr_inv {cs : List AV} {x : Value} (h : VRep S β w (.sptr cs) x) : ∃ (b off : Nat) (f : Nat → Value), x = .pointer (some ⟨b, off, none⟩) ∧ S b ∧ (∀ (j : Nat) (c : AV), cs[j]? = some c → w.cell? ⟨b, off + j, none⟩ = some (f j)) ∧ ∀ (j : Nat) (c : AV), cs[j]? = some c → PRep S w c (f j) := by
  cases h with
  | pure _ _ hp => cases hp
  | sptr cs b off f hb h1 h2 => exact ⟨b, off, f, rfl, hb, h1, h2⟩
theorem VRep.shr_inv {sz : Nat} {xs : List (List AV)} {x : Value} (h : VRep S β w (.shr sz xs) x) : (x = .slice none 0 0 ∧ xs = []) ∨ (∃ p, x = .slice (some p) 0 0 ∧ xs = []) ∨
    ∃ (b off cap : Nat) (f : Nat → Nat → Value), x = .slice (some ⟨b, off, none⟩) xs.length cap ∧ S b ∧ xs.length ≤ cap ∧ xs.length ≤ maxSl ∧ (∀ (i : Nat) (x : List AV), xs[i]? = some x → x.length = sz) ∧
      (∀ (i : Nat) (x : List AV) (j : Nat) (c : AV), xs[i]? = some x → x[j]? = some c → w.cell? ⟨b, off + (i * sz + j), none⟩ = some (f i j)) ∧
      ∀ (i : Nat) (x : List AV) (j : Nat) (c : AV), xs[i]? = some x → x[j]? = some c → PRep S w c (f i j) := by
  cases h with
  | pure _ _ hp => cases hp with
    | nil => exact .inl ⟨rfl, rfl⟩
    | void _ p => exact .inr (.inl ⟨p, rfl, rfl⟩)
    | shr _ _ b off cap f h1 h2 h3 h4 h5 h6 => exact .inr (.inr ⟨b, off, cap, f, rfl, h1, h2, h3, h4, h5, h6⟩)
theorem VRep.agg_inv {cs : List AV} {x : Value} (h : VRep S β w (.agg cs) x) : ∃ vs : List Value, x = .agg vs.toArray ∧ vs.length = cs.length ∧ (∀ (j : Nat) (c : AV) (x : Value), cs[j]? = some c → vs[j]? = some x → VRep S β w c x) ∧ ∀ x ∈ vs, x.oneCell' = true := by
  cases h with
  | pure _ _ hp => cases hp
  | agg cs vs h1 h2 h3 => exact ⟨vs, rfl, h1, h2, h3⟩
theorem VRep.tup_inv {cs : List AV} {x : Value} (h : VRep S β w (.tup cs) x) : ∃ vs : List Value, x = .tuple vs.toArray ∧ vs.length = cs.length ∧ (∀ (j : Nat) (c : AV) (x : Value), cs[j]? = some c → vs[j]? = some x → VRep S β w c x) := by
  cases h with
  | pure _ _ hp => cases hp
  | tup cs vs h1 h2 => exact ⟨vs, rfl, h1, h2⟩
theorem VRep.clo_inv {f : FuncId} {cs : List AV} {x : Value} (h : VRep S β w (.clo f cs) x) : ∃ vs : List Value, x = .func (.func f) #[] vs.toArray ∧ vs.length = cs.length ∧ (∀ (j : Nat) (c : AV) (x : Value), cs[j]? = some c → vs[j]? = some x → VRep S β w c x) := by
  cases h with
  | pure _ _ hp => cases hp
  | clo f cs vs h1 h2 => exact ⟨vs, rfl, h1, h2⟩
end

section
variable {Γ : Ctx} {S : Nat → Prop} {O : Nat → Nat → Prop} {β : Beta} {E : Env} {a : Act} {w : World}

theorem SimAt.ev (h : SimAt Γ S O β E a w) {x : Operand} {v : AV} (hx : evo (look E.sl) x = some v) : VRep S β w v (a.eval x) := by
  cases x with
  | tmp t => exact h.sl t v hx
  | const c =>
    simp only [evo] at hx
    cases hc : c.oneCell' with
    | true => rw [hc] at hx; simp at hx; subst hx; exact .pure _ _ (.lit c hc)
    | false => rw [hc] at hx; simp at hx
  | global g => simp [evo] at hx
  | func f => simp only [evo, Option.some.injEq] at hx; subst hx; exact .clo f [] [] rfl (fun j c x hc => by simp at hc)

theorem SimAt.lit (h : SimAt Γ S O β E a w) {x : Operand} {v : Value} (hx : evo (look E.sl) x = some (.lit v)) : a.eval x = v := ((h.ev hx).lit_inv).1

theorem SimAt.boxAt (h : SimAt Γ S O β E a w) {k : Nat} {cs : List AV} (hk : look E.ob k = some (.box cs)) {b cap n : Nat} (hb : β k = some (.at b cap n)) :
    ∃ (t : TypeId) (vs : List Value), O k b ∧ w.heap[b]? = some (.cells vs.toArray t (0, 0)) ∧ vs.length = cs.length ∧
      (∀ (j : Nat) (c : AV) (x : Value), cs[j]? = some c → vs[j]? = some x → VRep S β w c x) ∧ ∀ x ∈ vs, x.oneCell' = true := by
  obtain ⟨b', cap', n', t, vs, h1, h2, h3, h4, h5, h6⟩ := h.h.objs k _ hk
  rw [hb] at h1; cases h1
  exact ⟨t, vs, h2, h3, h4, h5, h6⟩
end

/-! ### Each operation's run, over an abstract environment -/
section
variable {Γ : Ctx} {S : Nat → Prop} {O : Nat → Nat → Prop} {β : Beta} {E : Env} {a : Act} {w : World} {T : Tab} {P : Program}

/-- A new variable. -/
theorem SimAt.newBox (h : SimAt Γ S O β E a w) {k : Nat} (hk : look E.ob k = none) (hp : k ∉ Γ.par) (t : TypeId) (vs : List Value) (cs : List AV) (hl : vs.length = cs.length)
    (hv : ∀ (j : Nat) (c : AV) (x : Value), cs[j]? = some c → vs[j]? = some x → VRep S β w c x) (h1 : ∀ x ∈ vs, x.oneCell' = true) :
    SimAt Γ S (addO O k w.heap.size) (addB β k (.at w.heap.size 0 0)) ⟨E.sl, (k, .box cs) :: E.ob, E.n⟩ a (w.alloc (.cells vs.toArray t)) :=
  h.alloc hk hp _ _ _ ⟨w.heap.size, 0, 0, t, vs, addB_same _ _ _, .inr ⟨rfl, rfl⟩, heap_alloc_new w _, hl, fun j c x hc hx =>
    (hv j c x hc hx).mono (fun b hb => ⟨hb, heap_alloc_lt w _ (h.h.sh b hb)⟩) (addB_old (h.h.dom k hk).1), h1⟩

/-- A new row. -/
theorem SimAt.newRow (h : SimAt Γ S O β E a w) {k : Nat} (hk : look E.ob k = none) (hp : k ∉ Γ.par) (e : TypeId) (sz : Nat) (xs : List (List AV)) (vs : List Value) (hsz : ∀ (i : Nat) (x : List AV), xs[i]? = some x → x.length = sz)
    (hm : xs.length ≤ maxSl) (hl : vs.length = xs.length * sz) (hv : ∀ (i : Nat) (x : List AV) (j : Nat) (c : AV), xs[i]? = some x → x[j]? = some c → ∃ v, vs[i * sz + j]? = some v ∧ PRep S w c v) :
    SimAt Γ S (addO O k w.heap.size) (addB β k (.at w.heap.size xs.length xs.length)) ⟨E.sl, (k, .row e sz xs) :: E.ob, E.n⟩ a (w.alloc (.cells vs.toArray e)) :=
  h.alloc hk hp _ _ _ ⟨hsz, hm, .inr ⟨w.heap.size, xs.length, vs, addB_same _ _ _, .inr ⟨rfl, rfl⟩, heap_alloc_new w _, Nat.le_refl _, Nat.le_trans hm (by simp [maxSl, maxLen]), hl, fun i x j c hx hc =>
    let ⟨v, h1, h2⟩ := hv i x j c hx hc; ⟨v, h1, h2.mono fun b hb => ⟨hb, heap_alloc_lt w _ (h.h.sh b hb)⟩⟩⟩⟩

theorem setRow_size (w : World) (b : Nat) (cs : Array Value) : (w.setRow b cs).heap.size = w.heap.size := by simp

/-- A variable's cells are written. -/
theorem SimAt.wrBox (h : SimAt Γ S O β E a w) {k : Nat} {cs : List AV} (hk : look E.ob k = some (.box cs)) {b : Nat} (hO : O k b) {cap n : Nat} (hβ : β k = some (.at b cap n)) {t : TypeId} {vs : List Value}
    (hg : w.heap[b]? = some (.cells vs.toArray t (0, 0))) (cs' : List AV) (vs' : List Value) (hl : vs'.length = cs'.length)
    (hv : ∀ (j : Nat) (c : AV) (x : Value), cs'[j]? = some c → vs'[j]? = some x → VRep S β w c x) (h1 : ∀ x ∈ vs', x.oneCell' = true) :
    SimAt Γ S O β ⟨E.sl, (k, .box cs') :: E.ob, E.n⟩ a (w.setRow b vs'.toArray) := by
  refine h.turn hO (by rw [hk]; simp) (Fr_setRow w b _) (setRow_size w b _) _ ?_
  refine ⟨b, cap, n, t, vs', hβ, hO, setRow_heap w b _ _ t _ hg, hl, fun j c x hc hx => (hv j c x hc hx).mono (fun c hc => ⟨hc, setRow_other w b c _ ?_⟩) (fun _ _ x => x), h1⟩
  intro e; exact (h.h.ow k b hO).2 (e ▸ hc)

theorem getElem?_tad {α : Type} (l m : List α) (o : Nat) (h : o + m.length ≤ l.length) (j : Nat) : (l.take o ++ m ++ l.drop (o + m.length))[j]? = if j < o then l[j]? else if j < o + m.length then m[j - o]? else l[j]? := by
  have h1 : (l.take o).length = o := by rw [List.length_take]; omega
  by_cases hj : j < o
  · rw [if_pos hj, List.append_assoc, List.getElem?_append_left (by omega), List.getElem?_take, if_pos hj]
  · rw [if_neg hj, List.append_assoc, List.getElem?_append_right (by omega), h1]
    by_cases hj2 : j < o + m.length
    · rw [if_pos hj2, List.getElem?_append_left (by omega)]
    · rw [if_neg hj2, List.getElem?_append_right (by omega), List.getElem?_drop]
      congr 1; omega
end
end Go.Vc
