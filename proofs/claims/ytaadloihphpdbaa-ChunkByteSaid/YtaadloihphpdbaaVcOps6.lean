/- append as an operation; literals; make; slices of slices. -/
import Derived.Test.YtaadloihphpdbaaVcOps5
set_option linter.unusedSimpArgs false
set_option linter.unusedVariables false
namespace Go.Vc
open Go Go.RowKit

section
variable {G : Prg} {Γ : Ctx} {E : Env} {dst : Option Tmp} {ty : TypeId} {pos : String} {aft : Array Edge} {gd : Option (Nat × Bool)}

/-- What is appended. -/
inductive SrcA (ob : List (Nat × AO)) : AV → Nat → List (List AV) → List Nat → Prop
  | shr (sz : Nat) (ys : List (List AV)) : SrcA ob (.shr sz ys) sz ys []
  | nil (sz : Nat) : SrcA ob (.lit (.slice none 0 0)) sz [] []
  | row (k : Nat) (e : TypeId) (sz : Nat) (ys : List (List AV)) : look ob k = some (.row e sz ys) → SrcA ob (.row k) sz ys [k]

theorem SrcA.src {S : Nat → Prop} {O : Nat → Nat → Prop} {β : Beta} {E E' : Env} {a : Act} {w : World} {v : AV} {sz : Nat} {ys : List (List AV)} {ro : List Nat} (h : SrcA E.ob v sz ys ro) (hs : SimAt Γ S O β E' a w) (hr : ∀ k, k ∈ ro → look E'.ob k = look E.ob k) {x : Value} (hx : VRep S β w v x) :
    ∃ zs, Src S w x sz ys zs := by
  cases h with
  | shr => exact src_shr hx
  | nil => obtain ⟨rfl, _⟩ := hx.lit_inv; exact ⟨[], by simp, by simp, by simp, by simp, .inl ⟨rfl, rfl⟩⟩
  | row k e sz ys hk => exact src_row hs ((hr k (by simp)).trans hk) (fun _ _ _ _ => trivial) hx

theorem op_append {t ty' e : TypeId} {x y : Operand} {k d sz : Nat} {xs ys : List (List AV)} {v : AV} {ro : List Nat} (hx : evo (look E.sl) x = some (.row k)) (hy : evo (look E.sl) y = some v) (hk : look E.ob k = some (.row e sz xs)) (hsrc : SrcA E.ob v sz ys ro) (hd' : look E.ob d = none) (hp : d ∉ Γ.par)
    (ht : G.T.kind t = .slice e) (he : (G.T.kind e).known = true) (hsz : G.T.size e = sz) (h0 : 0 < sz) (hsmall : (xs.length + ys.length) * G.T.bytes e ≤ 140737488355328) (hb : 0 < G.T.bytes e) (hd : ∀ d, dst = some d → d < E.n) :
    OpS G Γ ⟨dst, .call { callee := .builtin .append, args := #[x, y], argTypes := #[t, t] }, ty, pos, aft, gd⟩ E (.row d) [(d, .row e sz (xs ++ ys)), (k, .dead)] (sl1 x ++ sl1 y) ([k, d] ++ ro) :=
  OpS.turns hd fun E' hn h1 h2 S O β a w hs => by
    have hk' := (h2 k (by simp)).trans hk
    have hdn := (h2 d (by simp)).trans hd'
    obtain ⟨l, hl, hxe⟩ := (hs.ev ((evo_congr fun t ht => h1 t (by simp [ht])).trans hx)).row_inv
    have hv := hs.ev ((evo_congr fun t ht => h1 t (by simp [ht])).trans hy)
    obtain ⟨zs, hz⟩ := hsrc.src hs (fun k hk => h2 k (by simp [hk])) hv
    have hsm : xs.length + ys.length ≤ maxSl := by
      have : xs.length + ys.length ≤ (xs.length + ys.length) * G.T.bytes e := Nat.le_mul_of_pos_right _ hb
      simp only [maxSl]; omega
    obtain ⟨l', w', N, hrun, hfr, hN, ho⟩ := run_app hs hk' hdn ht he hsz h0 hsmall hsm hl hz ty
    refine ⟨l'.slice, w', S, _, _, .inl ?_, .row d l' (addB_same _ _ _), hs.rebind hk' hdn hp hfr hN l' _ ho⟩
    simp [execOp, resolve, invoke, builtin, hxe, hrun]

theorem op_appendN {t e : TypeId} {x y : Operand} {k d sz : Nat} {ys : List (List AV)} {v : AV} {ro : List Nat} (hx : evo (look E.sl) x = some (.lit (.slice none 0 0))) (hy : evo (look E.sl) y = some v) (hsrc : SrcA E.ob v sz ys ro) (hk0 : look E.ob k = none) (hd' : look E.ob d = none) (hkd : d ≠ k) (hp : d ∉ Γ.par) (hpk : k ∉ Γ.par) (hro : k ∉ ro)
    (ht : G.T.kind t = .slice e) (he : (G.T.kind e).known = true) (hsz : G.T.size e = sz) (h0 : 0 < sz) (hsmall : ys.length * G.T.bytes e ≤ 140737488355328) (hb : 0 < G.T.bytes e) (hd : ∀ d, dst = some d → d < E.n) :
    OpS G Γ ⟨dst, .call { callee := .builtin .append, args := #[x, y], argTypes := #[t, t] }, ty, pos, aft, gd⟩ E (.row d) [(d, .row e sz ys), (k, .dead), (k, .row e sz [])] (sl1 x ++ sl1 y) ([k, d] ++ ro) :=
  OpS.turns hd fun E' hn h1 h2 S O β a w hs0 => by
    have hk' := (h2 k (by simp)).trans hk0
    have hdn0 := (h2 d (by simp)).trans hd'
    have hxe := hs0.lit ((evo_congr fun t ht => h1 t (by simp [ht])).trans hx)
    have hs := hs0.newNil hk' hpk e sz
    have hv0 := hs0.ev ((evo_congr fun t ht => h1 t (by simp [ht])).trans hy)
    have hv := hv0.mono (S' := S) (β' := addB β k .nil) (w' := w) (fun b hb => ⟨hb, rfl⟩) (addB_old (hs0.h.dom k hk').1)
    have hdn : look ((k, AO.row e sz []) :: E'.ob) d = none := by rw [look_cons, if_neg (Ne.symm hkd)]; exact hdn0
    have hkk : look ((k, AO.row e sz []) :: E'.ob) k = some (.row e sz []) := by rw [look_cons, if_pos rfl]
    obtain ⟨zs, hz⟩ := hsrc.src hs (fun j hj => by
      have hjk : k ≠ j := fun e => hro (e ▸ hj)
      show look ((k, AO.row e sz []) :: E'.ob) j = _
      rw [look_cons, if_neg hjk]; exact h2 j (by simp [hj])) hv
    have hsm : ([] : List (List AV)).length + ys.length ≤ maxSl := by
      have : ys.length ≤ ys.length * G.T.bytes e := Nat.le_mul_of_pos_right _ hb
      simp only [maxSl, List.length_nil]; omega
    obtain ⟨l', w', N, hrun, hfr, hN, ho⟩ := run_app hs hkk hdn ht he hsz h0 (by simpa using hsmall) hsm (l := .nil) (addB_same _ _ _) hz ty
    refine ⟨l'.slice, w', S, _, _, .inl ?_, .row d l' (addB_same _ _ _), by simpa using hs.rebind hkk hdn hp hfr hN l' _ ho⟩
    have hrun' : (Builtin.append_ #[t, t] ty #[Value.slice none 0 0, a.eval y]).run G.P w = .ok l'.slice w' := hrun
    simp [execOp, resolve, invoke, builtin, hxe, hrun']

/-! ### Literals of structs -/
def evoL (sv : Nat → Option AV) : List (Nat × Operand) → Option (List (Nat × AV))
  | [] => some []
  | (i, x) :: r => match evo sv x, evoL sv r with
    | some v, some l => some ((i, v) :: l)
    | _, _ => none

def fillA (T : Tab) (fs : List (Nat × TypeId)) : List AV → List (Nat × AV) → Option (List AV)
  | cs, [] => some cs
  | cs, (i, v) :: r => match fs[i]? with
    | some (off, ft) => bif boxable v && Nat.beq (cellsOf v).length (T.size ft) && Nat.ble (off + (cellsOf v).length) cs.length then fillA T fs (wrA cs off (cellsOf v)) r else none
    | none => none

theorem foldl_set (vs : List Value) : ∀ (off j0 : Nat) (cells : Array Value), off + j0 + vs.length ≤ cells.size →
    (vs.zipIdx j0).foldl (fun (cs : Array Value) (p : Value × Nat) => cs.setIfInBounds (off + p.2) p.1) cells = (cells.toList.take (off + j0) ++ vs ++ cells.toList.drop (off + j0 + vs.length)).toArray := by
  induction vs with
  | nil => intro off j0 cells h; simp
  | cons v vs ih =>
    intro off j0 cells h
    simp only [List.zipIdx_cons, List.foldl_cons]
    rw [ih off (j0 + 1) (cells.setIfInBounds (off + j0) v) (by simp at h ⊢; omega)]
    congr 1
    have e := list_seg_step cells.toList (off + j0) v vs (by simp at h ⊢; omega)
    simpa [Array.toList_setIfInBounds, Nat.add_assoc] using e

/-- The model's 'fill' beside the abstract one. -/
theorem fill_ok {S : Nat → Prop} {β : Beta} {w : World} {T : Tab} {fs : List (Nat × TypeId)} {place : Nat → Option (Nat × Nat)} (hp : ∀ i off ft, fs[i]? = some (off, ft) → place i = some (off, T.size ft)) :
    ∀ (pv : List (Nat × AV)) (px : List (Nat × Value)) (cs cs' : List AV) (vs : Array Value), F2 (fun (p : Nat × AV) (q : Nat × Value) => p.1 = q.1 ∧ VRep S β w p.2 q.2) pv px → vs.toList.length = cs.length →
      (∀ (j : Nat) (c : AV) (x : Value), cs[j]? = some c → vs.toList[j]? = some x → VRep S β w c x) → (∀ x ∈ vs.toList, x.oneCell' = true) → fillA T fs cs pv = some cs' →
      ∃ vs', Instr.fill place vs px = some vs' ∧ vs'.toList.length = cs'.length ∧ (∀ (j : Nat) (c : AV) (x : Value), cs'[j]? = some c → vs'.toList[j]? = some x → VRep S β w c x) ∧ (∀ x ∈ vs'.toList, x.oneCell' = true) := by
  intro pv
  induction pv with
  | nil => intro px cs cs' vs hf hl hr ho h; cases hf; simp only [fillA, Option.some.injEq] at h; subst h; exact ⟨vs, rfl, hl, hr, ho⟩
  | cons p r ih =>
    intro px cs cs' vs hf hl hr ho h
    obtain ⟨i, v⟩ := p
    cases hf with
    | cons h1 h2 =>
      rename_i q qs
      obtain ⟨i', x⟩ := q
      obtain ⟨rfl, hv⟩ := h1
      simp only [fillA] at h
      cases hfi : fs[i]? with
      | none => rw [hfi] at h; cases h
      | some of =>
        obtain ⟨off, ft⟩ := of
        rw [hfi] at h
        simp only at h
        cases hb : (boxable v && Nat.beq (cellsOf v).length (T.size ft) && Nat.ble (off + (cellsOf v).length) cs.length) with
        | false => rw [hb] at h; cases h
        | true =>
          rw [hb] at h
          simp only [Bool.and_eq_true, Nat.ble_eq, cond_true] at hb h
          obtain ⟨⟨hb1, hb2⟩, hb3⟩ := hb
          replace hb2 := Nat.eq_of_beq_eq_true hb2
          obtain ⟨c1, c2⟩ := hv.cells hb1
          have c3 := hv.one_of hb1
          have hsz : x.cells.size = (cellsOf v).length := by rw [← c1]; simp
          have hle : off + x.cells.toList.length ≤ vs.toList.length := by rw [c1, hl]; exact hb3
          have hfold := foldl_set x.cells.toList off 0 vs (by simpa using hle)
          have hfold' : x.cells.zipIdx.foldl (fun cs (p : Value × Nat) => cs.setIfInBounds (off + p.2) p.1) vs = (vs.toList.take off ++ x.cells.toList ++ vs.toList.drop (off + x.cells.toList.length)).toArray := by
            rw [← Array.foldl_toList, Array.toList_zipIdx]; simpa using hfold
          obtain ⟨vs', h3, h4, h5, h6⟩ := ih qs (wrA cs off (cellsOf v)) cs' (vs.toList.take off ++ x.cells.toList ++ vs.toList.drop (off + x.cells.toList.length)).toArray h2 (by
              rw [wrA_eq _ _ _ hb3]; simp only [List.length_append, List.length_take, List.length_drop]; omega) (by
              intro j c z hc hz
              rw [wrA_eq _ _ _ hb3, getElem?_tad _ _ _ hb3] at hc
              have hz' : (vs.toList.take off ++ x.cells.toList ++ vs.toList.drop (off + x.cells.toList.length))[j]? = some z := hz
              rw [getElem?_tad _ _ _ hle] at hz'
              rw [c1] at hz'
              by_cases hj : j < off
              · rw [if_pos hj] at hc hz'; exact hr j c z hc hz'
              · rw [if_neg hj] at hc hz'
                by_cases hj2 : j < off + (cellsOf v).length
                · rw [if_pos hj2] at hc hz'; exact c2 _ c z hc hz'
                · rw [if_neg hj2] at hc hz'; exact hr j c z hc hz') (by
              intro z hz
              have hz' : z ∈ vs.toList.take off ++ x.cells.toList ++ vs.toList.drop (off + x.cells.toList.length) := hz
              simp only [List.mem_append] at hz'
              rcases hz' with (hz' | hz') | hz'
              · exact ho z (List.mem_of_mem_take hz')
              · exact c3 z hz'
              · exact ho z (List.mem_of_mem_drop hz')) h
          refine ⟨vs', ?_, h4, h5, h6⟩
          have hn : ¬ (x.cells.size ≠ T.size ft ∨ off + x.cells.size > vs.size) := by
            have : vs.size = vs.toList.length := by simp
            rw [hsz, this, hl, hb2]; omega
          have hstep : Instr.fill place vs ((i, x) :: qs) = Instr.fill place (x.cells.zipIdx.foldl (fun cs (p : Value × Nat) => cs.setIfInBounds (off + p.2) p.1) vs) qs := by
            have hnb : (decide (x.cells.size ≠ T.size ft) || decide (off + x.cells.size > vs.size)) = false := by
              rw [Bool.or_eq_false_iff]; exact ⟨decide_eq_false (fun h => hn (.inl h)), decide_eq_false (fun h => hn (.inr h))⟩
            rw [Instr.fill]
            simp only [hp i off ft hfi, hnb]
            rfl
          exact (hstep.trans (congrArg (fun z => Instr.fill place z qs) hfold')).trans h3
end
end Go.Vc
