/- Operations one by one: what each does to the abstract environment; and regions. -/
import Derived.Test.YtaadloihphpdbaaVcStep
set_option linter.unusedSimpArgs false
set_option linter.unusedVariables false
namespace Go.Vc
open Go Go.RowKit

/-- A program, with its table of types. -/
structure Prg where
  P : Program
  T : Tab
  ok : T.ok P
  mixed : P.follows .mixedOrders = true

/-- What an operation read and wrote. -/
structure Lg where
  dst : Option Nat
  rs : List Nat
  ro : List Nat
  wo : List Nat

/-- An operation, from whatever environment that is as E is where the operation looks. -/
def OpS (G : Prg) (Γ : Ctx) (o : Oper) (E : Env) (val : AV) (upd : List (Nat × AO)) (rs ro : List Nat) : Prop :=
  ∀ E' : Env, E'.n = E.n → (∀ t, t ∈ rs → look E'.sl t = look E.sl t) → (∀ k, k ∈ ro → look E'.ob k = look E.ob k) →
    ∀ S O β a w, SimAt Γ S O β E' a w → ∀ (K : Act → World → Prop) (Q : Exit → Act → World → Prop), (∀ a' w', Sim Γ (E'.app o.dst val upd) a' w' → K a' w') → o.wp G.P a w K Q

def sl1 : Operand → List Nat
  | .tmp t => [t]
  | _ => []

theorem evo_congr {sv sv' : Nat → Option AV} {x : Operand} (h : ∀ t, t ∈ sl1 x → sv' t = sv t) : evo sv' x = evo sv x := by
  cases x with
  | tmp t => exact h t (by simp [sl1])
  | _ => rfl

/-- An operation with a value, that leaves the world. -/
theorem OpS.val {G : Prg} {Γ : Ctx} {o : Oper} {E : Env} {v : AV} {rs ro : List Nat} (hd : ∀ d, o.dst = some d → d < E.n)
    (h : ∀ E' : Env, E'.n = E.n → (∀ t, t ∈ rs → look E'.sl t = look E.sl t) → (∀ k, k ∈ ro → look E'.ob k = look E.ob k) → ∀ S O β a w, SimAt Γ S O β E' a w →
      ∃ x, (execOp a.eval o).run G.P w = .ok (.value x) w ∧ VRep S β w v x) : OpS G Γ o E v [] rs ro := by
  intro E' hn h1 h2 S O β a w hs K Q hK
  obtain ⟨x, hr, hv⟩ := h E' hn h1 h2 S O β a w hs
  unfold Oper.wp
  rw [hr, Oper.upon_value]
  exact hK _ _ ⟨S, O, β, hs.put hv (fun d hd' => by rw [hn]; exact hd d hd')⟩

/-- An operation with a value, that turns the world. -/
theorem OpS.turns {G : Prg} {Γ : Ctx} {o : Oper} {E : Env} {v : AV} {upd : List (Nat × AO)} {rs ro : List Nat} (hd : ∀ d, o.dst = some d → d < E.n)
    (h : ∀ E' : Env, E'.n = E.n → (∀ t, t ∈ rs → look E'.sl t = look E.sl t) → (∀ k, k ∈ ro → look E'.ob k = look E.ob k) → ∀ S O β a w, SimAt Γ S O β E' a w →
      ∃ x w' S' O' β', ((execOp a.eval o).run G.P w = .ok (.value x) w' ∨ ((execOp a.eval o).run G.P w = .ok .skip w' ∧ x = undef)) ∧ VRep S' β' w' v x ∧ SimAt Γ S' O' β' ⟨E'.sl, upd ++ E'.ob, E'.n⟩ a w') : OpS G Γ o E v upd rs ro := by
  intro E' hn h1 h2 S O β a w hs K Q hK
  obtain ⟨x, w', S', O', β', hr, hv, hs'⟩ := h E' hn h1 h2 S O β a w hs
  have hp := hs'.put hv (dst := o.dst) (fun d hd' => by show d < E'.n; rw [hn]; exact hd d hd')
  have hp' : Sim Γ (E'.app o.dst v upd) (a.put o.dst x) w' := ⟨S', O', β', hp⟩
  unfold Oper.wp
  rcases hr with hr | ⟨hr, rfl⟩
  · rw [hr, Oper.upon_value]; exact hK _ _ hp'
  · rw [hr, Oper.upon_skip]; exact hK _ _ hp'

section
variable {G : Prg} {Γ : Ctx} {E : Env} {dst : Option Tmp} {ty : TypeId} {pos : String} {aft : Array Edge} {gd : Option (Nat × Bool)}

theorem op_move {x : Operand} {v : AV} (hx : evo (look E.sl) x = some v) (hd : ∀ d, dst = some d → d < E.n) : OpS G Γ ⟨dst, .move x, ty, pos, aft, gd⟩ E v [] (sl1 x) [] :=
  OpS.val hd fun E' hn h1 h2 S O β a w hs => ⟨a.eval x, by simp [execOp], hs.ev ((evo_congr h1).trans hx)⟩

theorem op_assign {x : Operand} {v : AV} (hx : evo (look E.sl) x = some v) (hd : ∀ d, dst = some d → d < E.n) : OpS G Γ ⟨dst, .assign x, ty, pos, aft, gd⟩ E v [] (sl1 x) [] :=
  OpS.val hd fun E' hn h1 h2 S O β a w hs => ⟨a.eval x, by simp [execOp], hs.ev ((evo_congr h1).trans hx)⟩

theorem op_nilCheck {x : Operand} {k off : Nat} (hx : evo (look E.sl) x = some (.ptr k off)) (hd : ∀ d, dst = some d → d < E.n) : OpS G Γ ⟨dst, .nilCheck x, ty, pos, aft, gd⟩ E (.ptr k off) [] (sl1 x) [] :=
  OpS.val hd fun E' hn h1 h2 S O β a w hs => by
    have hv := hs.ev ((evo_congr h1).trans hx)
    obtain ⟨b, cap, n, hb, hxe⟩ := hv.ptr_inv
    exact ⟨a.eval x, by simp [execOp, hxe], hv⟩

theorem op_pick {c x y : Operand} {b : Bool} {v : AV} (hc : evo (look E.sl) c = some (.lit (.bool b))) (hx : evo (look E.sl) (if b then x else y) = some v) (hd : ∀ d, dst = some d → d < E.n) :
    OpS G Γ ⟨dst, .pick c x y, ty, pos, aft, gd⟩ E v [] (sl1 c ++ sl1 x ++ sl1 y) [] :=
  OpS.val hd fun E' hn h1 h2 S O β a w hs => by
    have hcc := hs.lit ((evo_congr fun t ht => h1 t (by simp [ht])).trans hc)
    refine ⟨if b then a.eval x else a.eval y, by simp [execOp, hcc, asBool], ?_⟩
    have := hs.ev ((evo_congr (x := if b then x else y) fun t ht => h1 t (by cases b <;> simp_all)).trans hx)
    cases b <;> simpa using this

theorem op_not {x : Operand} {b : Bool} {t : TypeId} (hx : evo (look E.sl) x = some (.lit (.bool b))) (hd : ∀ d, dst = some d → d < E.n) : OpS G Γ ⟨dst, .unOp .not t x, ty, pos, aft, gd⟩ E (.lit (.bool (!b))) [] (sl1 x) [] :=
  OpS.val hd fun E' hn h1 h2 S O β a w hs => ⟨.bool (!b), by simp [execOp, hs.lit ((evo_congr h1).trans hx), Op.unary], .pure _ _ (.lit _ rfl)⟩

theorem op_extract {x : Operand} {vs : List AV} {i : Nat} {v : AV} (hx : evo (look E.sl) x = some (.tup vs)) (hv : vs[i]? = some v) (hd : ∀ d, dst = some d → d < E.n) : OpS G Γ ⟨dst, .extract x i, ty, pos, aft, gd⟩ E v [] (sl1 x) [] :=
  OpS.val hd fun E' hn h1 h2 S O β a w hs => by
    obtain ⟨us, hu, hl, hr⟩ := (hs.ev ((evo_congr h1).trans hx)).tup_inv
    have hlt : i < vs.length := (List.getElem?_eq_some_iff.1 hv).1
    have hi : us[i]? = some us[i] := List.getElem?_eq_getElem (by omega)
    exact ⟨us[i], by simp [execOp, hu, Instr.extract, hi], hr i v _ hv hi⟩

theorem op_makeFunc {f : FuncId} {caps : Array Operand} {vs : List AV} (hx : caps.toList.map (evo (look E.sl)) = vs.map some) (hd : ∀ d, dst = some d → d < E.n) :
    OpS G Γ ⟨dst, .makeFunc (.func f) #[] caps, ty, pos, aft, gd⟩ E (.clo f vs) [] (caps.toList.flatMap sl1) [] :=
  OpS.val hd fun E' hn h1 h2 S O β a w hs => by
    refine ⟨.func (.func f) #[] (caps.map a.eval), by simp [execOp, Instr.makeFunc], ?_⟩
    have hlen : caps.toList.length = vs.length := by have := congrArg List.length hx; simpa using this
    have e : caps.map a.eval = (caps.toList.map a.eval).toArray := by apply Array.ext'; simp
    rw [e]
    refine .clo f vs _ (by simpa using hlen) fun j c x hc hx' => ?_
    have hjl : j < caps.toList.length := by have := (List.getElem?_eq_some_iff.1 hc).1; omega
    have hj : caps.toList[j]? = some caps.toList[j] := List.getElem?_eq_getElem hjl
    have h3 := congrArg (fun l => l[j]?) hx
    simp only [List.getElem?_map, hj, hc, Option.map_some, Option.some.injEq] at h3
    simp only [List.getElem?_map, hj, Option.map_some, Option.some.injEq] at hx'
    subst hx'
    exact hs.ev ((evo_congr fun t ht => h1 t (by simp only [List.mem_flatMap]; exact ⟨_, List.getElem_mem hjl, ht⟩)).trans h3)

theorem oneCell_of_kind {T : Tab} {P : Program} (hT : T.ok P) {t : TypeId} (h : (T.kind t).known = true) : ∀ x ∈ T.zero t, x.oneCell' = true := by
  obtain ⟨_, i, z, _, _, _, _, _, h1, _⟩ := hT t h
  exact h1

theorem op_alloc {t : TypeId} (k : Nat) (ht : (G.T.kind t).known = true) (hk : look E.ob k = none) (hp : k ∉ Γ.par) (hd : ∀ d, dst = some d → d < E.n) :
    OpS G Γ ⟨dst, .alloc t, ty, pos, aft, gd⟩ E (.ptr k 0) [(k, .box ((G.T.zero t).map .lit))] [] [k] :=
  OpS.turns hd fun E' hn h1 h2 S O β a w hs => by
    obtain ⟨z, hz, hzc⟩ := run_zeroValue G.ok w ht
    have hk' : look E'.ob k = none := (h2 k (by simp)).trans hk
    have hn' := hs.newBox hk' hp t (G.T.zero t) ((G.T.zero t).map .lit) (by simp) (fun j c x hc hx => by
      simp only [List.getElem?_map, hx, Option.map_some, Option.some.injEq] at hc
      subst hc
      exact .pure _ _ (.lit x (oneCell_of_kind G.ok ht x (List.mem_of_getElem? hx)))) (oneCell_of_kind G.ok ht)
    refine ⟨.pointer (some ⟨w.heap.size, 0, none⟩), _, S, _, _, .inl ?_, .ptr k 0 _ 0 0 (addB_same _ _ _), hn'⟩
    have e : z.cells = (G.T.zero t).toArray := by apply Array.ext'; simpa using hzc
    simp [execOp, Instr.alloc, hz, newVar, newRow, e]

theorem op_box {t : TypeId} {x : Operand} {v : AV} (k : Nat) (hx : evo (look E.sl) x = some v) (hb : boxable v = true) (hk : look E.ob k = none) (hp : k ∉ Γ.par) (hd : ∀ d, dst = some d → d < E.n) :
    OpS G Γ ⟨dst, .box t x, ty, pos, aft, gd⟩ E (.ptr k 0) [(k, .box (cellsOf v))] (sl1 x) [k] :=
  OpS.turns hd fun E' hn h1 h2 S O β a w hs => by
    have hk' : look E'.ob k = none := (h2 k (by simp)).trans hk
    have hv := hs.ev ((evo_congr h1).trans hx)
    have hn' := hs.newBox hk' hp t (a.eval x).cells.toList (cellsOf v) (hv.cells hb).1 (hv.cells hb).2 (hv.one_of hb)
    refine ⟨.pointer (some ⟨w.heap.size, 0, none⟩), _, S, _, _, .inl ?_, .ptr k 0 _ 0 0 (addB_same _ _ _), hn'⟩
    simp [execOp, Instr.box, newVar, newRow]

theorem arr_get (l : List Value) (j : Nat) : l.toArray[j]? = l[j]? := by simp

/-! Loads -/
theorem op_load1 {t : TypeId} {x : Operand} {k off : Nat} {cs : List AV} {v : AV} (hx : evo (look E.sl) x = some (.ptr k off)) (hk : look E.ob k = some (.box cs)) (hv : cs[off]? = some v)
    (ht : (G.T.kind t).known = true) (ha : (G.T.kind t).agg = false) (hd : ∀ d, dst = some d → d < E.n) : OpS G Γ ⟨dst, .load t x, ty, pos, aft, gd⟩ E v [] (sl1 x) [k] :=
  OpS.val hd fun E' hn h1 h2 S O β a w hs => by
    obtain ⟨b, cap, n, hb, hxe⟩ := (hs.ev ((evo_congr h1).trans hx)).ptr_inv
    obtain ⟨t', vs, hO, hg, hl, hr, ho⟩ := hs.boxAt ((h2 k (by simp)).trans hk) hb
    have hlt : off < cs.length := (List.getElem?_eq_some_iff.1 hv).1
    have hi : vs[off]? = some vs[off] := List.getElem?_eq_getElem (by omega)
    refine ⟨vs[off], ?_, hr off v _ hv hi⟩
    have := run_load1 (P := G.P) w G.ok ht ha b off vs[off] (by rw [cell_of_row w b off _ t' (0, 0) hg, arr_get]; exact hi)
    simp [execOp, hxe, this]

theorem op_loadN {t : TypeId} {x : Operand} {k off : Nat} {cs : List AV} (hx : evo (look E.sl) x = some (.ptr k off)) (hk : look E.ob k = some (.box cs)) (hv : off + G.T.size t ≤ cs.length)
    (ht : (G.T.kind t).known = true) (ha : (G.T.kind t).agg = true) (hd : ∀ d, dst = some d → d < E.n) : OpS G Γ ⟨dst, .load t x, ty, pos, aft, gd⟩ E (.agg ((cs.drop off).take (G.T.size t))) [] (sl1 x) [k] :=
  OpS.val hd fun E' hn h1 h2 S O β a w hs => by
    obtain ⟨b, cap, n, hb, hxe⟩ := (hs.ev ((evo_congr h1).trans hx)).ptr_inv
    obtain ⟨t', vs, hO, hg, hl, hr, ho⟩ := hs.boxAt ((h2 k (by simp)).trans hk) hb
    have hlen : ((vs.drop off).take (G.T.size t)).length = G.T.size t := by simp; omega
    refine ⟨.agg ((vs.drop off).take (G.T.size t)).toArray, ?_, .agg _ _ (by simp; omega) (fun j c x hc hx => ?_) (fun x hx => ho x (List.mem_of_mem_drop (List.mem_of_mem_take hx)))⟩
    · have := run_loadN (P := G.P) w G.ok ht ha b off ((vs.drop off).take (G.T.size t)) hlen (fun j v hj => by
        rw [cell_of_row w b (off + j) _ t' (0, 0) hg, arr_get]
        rw [List.getElem?_take] at hj
        split at hj
        · rw [List.getElem?_drop] at hj; exact hj
        · cases hj)
      simp [execOp, hxe, this]
    · rw [List.getElem?_take] at hc hx
      split at hc
      · rename_i hj
        rw [if_pos hj] at hx
        rw [List.getElem?_drop] at hc hx
        exact hr (off + j) c x hc hx
      · cases hc

theorem op_loadAll {t : TypeId} {x : Operand} {k : Nat} {cs : List AV} (hx : evo (look E.sl) x = some (.ptr k 0)) (hk : look E.ob k = some (.box cs)) (hv : cs.length = G.T.size t)
    (ht : (G.T.kind t).known = true) (ha : (G.T.kind t).agg = true) (hd : ∀ d, dst = some d → d < E.n) : OpS G Γ ⟨dst, .load t x, ty, pos, aft, gd⟩ E (.agg cs) [] (sl1 x) [k] := by
  have := op_loadN (G := G) (Γ := Γ) (E := E) (dst := dst) (ty := ty) (pos := pos) (aft := aft) (gd := gd) (off := 0) hx hk (by omega) ht ha hd
  rw [List.drop_zero, List.take_of_length_le (by omega)] at this
  exact this

/-- What lies in a row. -/
theorem SimAt.rowAt {S : Nat → Prop} {O : Nat → Nat → Prop} {β : Beta} {E : Env} {a : Act} {w : World} (h : SimAt Γ S O β E a w) {k : Nat} {e : TypeId} {sz : Nat} {xs : List (List AV)} (hk : look E.ob k = some (.row e sz xs)) {b cap n : Nat} (hb : β k = some (.at b cap n)) :
    ∃ (vs : List Value), n = xs.length ∧ O k b ∧ w.heap[b]? = some (.cells vs.toArray e (0, 0)) ∧ xs.length ≤ cap ∧ cap ≤ maxLen ∧ vs.length = cap * sz ∧ (∀ (i : Nat) (x : List AV), xs[i]? = some x → x.length = sz) ∧ xs.length ≤ maxSl ∧
      ∀ (i : Nat) (x : List AV) (j : Nat) (c : AV), xs[i]? = some x → x[j]? = some c → ∃ v, vs[i * sz + j]? = some v ∧ PRep S w c v := by
  obtain ⟨h0, hm, hr⟩ := h.h.objs k _ hk
  rcases hr with ⟨h1, _⟩ | ⟨b', cap', vs, h1, h2, h3, h4, h5, h6, h7⟩
  · rw [hb] at h1; cases h1
  · rw [hb] at h1; cases h1
    exact ⟨vs, rfl, h2, h3, h4, h5, h6, h0, hm, h7⟩

theorem op_loadRow1 {t e : TypeId} {x : Operand} {k sz i j : Nat} {xs : List (List AV)} {u : List AV} {v : AV} (hx : evo (look E.sl) x = some (.rptr k sz i j)) (hk : look E.ob k = some (.row e sz xs)) (hu : xs[i]? = some u) (hv : u[j]? = some v)
    (ht : (G.T.kind t).known = true) (ha : (G.T.kind t).agg = false) (hd : ∀ d, dst = some d → d < E.n) : OpS G Γ ⟨dst, .load t x, ty, pos, aft, gd⟩ E v [] (sl1 x) [k] :=
  OpS.val hd fun E' hn h1 h2 S O β a w hs => by
    obtain ⟨b, cap, n, hb, hxe⟩ := (hs.ev ((evo_congr h1).trans hx)).rptr_inv
    obtain ⟨vs, _, hO, hg, _, _, _, _, _, hr⟩ := hs.rowAt ((h2 k (by simp)).trans hk) hb
    obtain ⟨y, hy, hp⟩ := hr i u j v hu hv
    refine ⟨y, ?_, .pure _ _ hp⟩
    have := run_load1 (P := G.P) w G.ok ht ha b (i * sz + j) y (by rw [cell_of_row w b _ _ e (0, 0) hg, arr_get]; exact hy)
    simp [execOp, hxe, this]

/-- A list of values for a list of abstract ones. -/
theorem vals_of {S : Nat → Prop} {w : World} {cs : List AV} {f : Nat → Value} (hp : ∀ (j : Nat) (c : AV), cs[j]? = some c → PRep S w c (f j)) (β : Beta) : VRep S β w (.agg cs) (.agg ((List.range cs.length).map f).toArray) := by
  refine .agg cs _ (by simp) (fun j c x hc hx => ?_) (fun x hx => ?_)
  · have hj : j < cs.length := (List.getElem?_eq_some_iff.1 hc).1
    simp [hj] at hx
    subst hx
    exact .pure _ _ (hp j c hc)
  · obtain ⟨j, hj, rfl⟩ := List.mem_map.1 hx
    have hj' : j < cs.length := by simpa using hj
    exact (hp j cs[j] (List.getElem?_eq_getElem hj')).one

theorem op_loadRowN {t e : TypeId} {x : Operand} {k sz i j : Nat} {xs : List (List AV)} {u : List AV} (hx : evo (look E.sl) x = some (.rptr k sz i j)) (hk : look E.ob k = some (.row e sz xs)) (hu : xs[i]? = some u) (hv : j + G.T.size t ≤ u.length)
    (ht : (G.T.kind t).known = true) (ha : (G.T.kind t).agg = true) (hd : ∀ d, dst = some d → d < E.n) : OpS G Γ ⟨dst, .load t x, ty, pos, aft, gd⟩ E (.agg ((u.drop j).take (G.T.size t))) [] (sl1 x) [k] :=
  OpS.val hd fun E' hn h1 h2 S O β a w hs => by
    obtain ⟨b, cap, n, hb, hxe⟩ := (hs.ev ((evo_congr h1).trans hx)).rptr_inv
    obtain ⟨vs, _, hO, hg, _, _, _, _, _, hr⟩ := hs.rowAt ((h2 k (by simp)).trans hk) hb
    have hp : ∀ (m : Nat) (c : AV), ((u.drop j).take (G.T.size t))[m]? = some c → PRep S w c (vs.getD (i * sz + (j + m)) undef) ∧ vs[i * sz + (j + m)]? = some (vs.getD (i * sz + (j + m)) undef) := by
      intro m c hc
      rw [List.getElem?_take] at hc
      split at hc
      · rw [List.getElem?_drop] at hc
        obtain ⟨y, hy, hp⟩ := hr i u (j + m) c hu hc
        rw [show vs.getD (i * sz + (j + m)) undef = y by simp [List.getD, hy]]
        exact ⟨hp, hy⟩
      · cases hc
    have hlen : ((u.drop j).take (G.T.size t)).length = G.T.size t := by simp; omega
    refine ⟨_, ?_, vals_of (fun m c hc => (hp m c hc).1) β⟩
    rw [hlen]
    have := run_loadN (P := G.P) w G.ok ht ha b (i * sz + j) ((List.range (G.T.size t)).map fun m => vs.getD (i * sz + (j + m)) undef) (by simp) (fun m v hm => by
      have hlt : m < G.T.size t := by have := (List.getElem?_eq_some_iff.1 hm).1; simpa using this
      simp [hlt] at hm
      rw [cell_of_row w b _ _ e (0, 0) hg, arr_get, Nat.add_assoc]
      have hc := (hp m ((u.drop j).take (G.T.size t))[m] (List.getElem?_eq_getElem (by omega))).2
      rw [hc, ← hm]; simp [List.getD])
    simp [execOp, hxe, this]

theorem op_loadS1 {t : TypeId} {x : Operand} {v : AV} {r : List AV} (hx : evo (look E.sl) x = some (.sptr (v :: r)))
    (ht : (G.T.kind t).known = true) (ha : (G.T.kind t).agg = false) (hd : ∀ d, dst = some d → d < E.n) : OpS G Γ ⟨dst, .load t x, ty, pos, aft, gd⟩ E v [] (sl1 x) [] :=
  OpS.val hd fun E' hn h1 h2 S O β a w hs => by
    obtain ⟨b, off, f, hxe, hb, hc, hp⟩ := (hs.ev ((evo_congr h1).trans hx)).sptr_inv
    refine ⟨f 0, ?_, .pure _ _ (hp 0 v (by simp))⟩
    have := run_load1 (P := G.P) w G.ok ht ha b off (f 0) (by simpa using hc 0 v (by simp))
    simp [execOp, hxe, this]

theorem op_loadSN {t : TypeId} {x : Operand} {cs : List AV} (hx : evo (look E.sl) x = some (.sptr cs)) (hl : G.T.size t ≤ cs.length)
    (ht : (G.T.kind t).known = true) (ha : (G.T.kind t).agg = true) (hd : ∀ d, dst = some d → d < E.n) : OpS G Γ ⟨dst, .load t x, ty, pos, aft, gd⟩ E (.agg (cs.take (G.T.size t))) [] (sl1 x) [] :=
  OpS.val hd fun E' hn h1 h2 S O β a w hs => by
    obtain ⟨b, off, f, hxe, hb, hc, hp⟩ := (hs.ev ((evo_congr h1).trans hx)).sptr_inv
    have hlen : (cs.take (G.T.size t)).length = G.T.size t := by simp; omega
    have hp' : ∀ (j : Nat) (c : AV), (cs.take (G.T.size t))[j]? = some c → cs[j]? = some c := by
      intro j c hj
      rw [List.getElem?_take] at hj
      split at hj
      · exact hj
      · cases hj
    refine ⟨_, ?_, vals_of (fun m c hm => hp m c (hp' m c hm)) β⟩
    rw [hlen]
    have := run_loadN (P := G.P) w G.ok ht ha b off ((List.range (G.T.size t)).map f) (by simp) (fun m v hm => by
      have hlt : m < G.T.size t := by have := (List.getElem?_eq_some_iff.1 hm).1; simpa using this
      simp [hlt] at hm
      rw [hc m cs[m] (List.getElem?_eq_getElem (by omega)), hm])
    simp [execOp, hxe, this]

theorem op_loadSAll {t : TypeId} {x : Operand} {cs : List AV} (hx : evo (look E.sl) x = some (.sptr cs)) (hl : cs.length = G.T.size t)
    (ht : (G.T.kind t).known = true) (ha : (G.T.kind t).agg = true) (hd : ∀ d, dst = some d → d < E.n) : OpS G Γ ⟨dst, .load t x, ty, pos, aft, gd⟩ E (.agg cs) [] (sl1 x) [] := by
  have := op_loadSN (G := G) (Γ := Γ) (E := E) (dst := dst) (ty := ty) (pos := pos) (aft := aft) (gd := gd) hx (by omega) ht ha hd
  rw [List.take_of_length_le (by omega)] at this
  exact this
end
end Go.Vc
