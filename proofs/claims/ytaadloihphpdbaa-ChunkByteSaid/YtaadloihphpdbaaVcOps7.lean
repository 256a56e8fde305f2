/- Literals of structs and of slices, make. -/
import Derived.Test.YtaadloihphpdbaaVcOps6
set_option linter.unusedSimpArgs false
set_option linter.unusedVariables false
namespace Go.Vc
open Go Go.RowKit

theorem run_listMapM {α γ : Type} {P : Program} {w : World} {f : α → Sem γ} {g : α → γ} : ∀ (l : List α), (∀ x ∈ l, (f x).run P w = .ok (g x) w) → (l.mapM f).run P w = .ok (l.map g) w
  | [], _ => by simp
  | x :: l, h => by
    have h1 := h x (by simp)
    have h2 := run_listMapM l (fun y hy => h y (by simp [hy]))
    simp [h1, h2]

theorem run_arrayMapM {α γ : Type} {P : Program} {w : World} {f : α → Sem γ} {g : α → γ} (l : Array α) (h : ∀ x ∈ l.toList, (f x).run P w = .ok (g x) w) : (l.mapM f).run P w = .ok (l.map g) w := by
  rw [Array.mapM_eq_mapM_toList]
  simp [run_listMapM l.toList h]
  apply Array.ext'; simp

section
variable {G : Prg} {Γ : Ctx} {E : Env} {dst : Option Tmp} {ty : TypeId} {pos : String} {aft : Array Edge} {gd : Option (Nat × Bool)}

theorem evoL_rep {S : Nat → Prop} {O : Nat → Nat → Prop} {β : Beta} {E' : Env} {a : Act} {w : World} (hs : SimAt Γ S O β E' a w) : ∀ (l : List (Nat × Operand)) (pv : List (Nat × AV)), evoL (look E'.sl) l = some pv →
    F2 (fun (p : Nat × AV) (q : Nat × Value) => p.1 = q.1 ∧ VRep S β w p.2 q.2) pv (l.map fun p => (p.1, a.eval p.2)) := by
  intro l
  induction l with
  | nil => intro pv h; simp only [evoL, Option.some.injEq] at h; subst h; exact .nil
  | cons p r ih =>
    intro pv h
    obtain ⟨i, x⟩ := p
    simp only [evoL] at h
    cases h1 : evo (look E'.sl) x with
    | none => rw [h1] at h; cases h
    | some v =>
      cases h2 : evoL (look E'.sl) r with
      | none => rw [h1, h2] at h; cases h
      | some l' =>
        rw [h1, h2] at h
        simp only [Option.some.injEq] at h
        subst h
        exact .cons ⟨rfl, hs.ev h1⟩ (ih l' h2)

theorem evoL_congr {sv sv' : Nat → Option AV} : ∀ (l : List (Nat × Operand)), (∀ t, t ∈ l.flatMap (fun p => sl1 p.2) → sv' t = sv t) → evoL sv' l = evoL sv l
  | [], _ => rfl
  | (i, x) :: r, h => by
    simp only [evoL]
    rw [evo_congr (x := x) (fun t ht => h t (by simp [ht])), evoL_congr r (fun t ht => h t (by simp only [List.flatMap_cons, List.mem_append]; exact .inr ht))]

theorem op_build {t : TypeId} {parts : List (Nat × Operand)} {fs : List (Nat × TypeId)} {pv : List (Nat × AV)} {cs : List AV} (ht : G.T.kind t = .struct fs) (hp : evoL (look E.sl) parts = some pv) (hf : fillA G.T fs ((G.T.zero t).map .lit) pv = some cs) (hk : (fs.all fun p => (G.T.kind p.2).known) = true)
    (hd : ∀ d, dst = some d → d < E.n) : OpS G Γ ⟨dst, .build t parts.toArray, ty, pos, aft, gd⟩ E (.agg cs) [] (parts.flatMap fun p => sl1 p.2) [] :=
  OpS.val hd fun E' hn h1 h2 S O β a w hs => by
    have hkn : (G.T.kind t).known = true := by rw [ht]; rfl
    obtain ⟨z, hz, hzc⟩ := run_zeroValue G.ok w hkn
    obtain ⟨gs, hu, hg⟩ := underlying_struct G.ok ht
    have hone := oneCell_of_kind G.ok hkn
    have hpl : (gs.mapM fun f => do pure (f.offset, ← sizeOf f.type) : Sem (Array (Nat × Nat))).run G.P w = .ok (gs.map fun f => (f.offset, G.T.size f.type)) w := by
      refine run_arrayMapM gs fun f hf' => ?_
      have hmem : (f.offset, f.type) ∈ fs := by rw [← hg]; exact List.mem_map_of_mem hf'
      have := (List.all_eq_true.1 hk) _ hmem
      simp [run_sizeOf G.ok w this]
    have hplace : ∀ (i off : Nat) (ft : TypeId), fs[i]? = some (off, ft) → (gs.map fun f => (f.offset, G.T.size f.type))[i]? = some (off, G.T.size ft) := by
      intro i off ft hi
      obtain ⟨fl, h3, h4, h5⟩ := field_of hi hg
      simp [h3, h4, h5]
    obtain ⟨vs', h3, h4, h5, h6⟩ := fill_ok (S := S) (β := β) (w := w) (T := G.T) (fs := fs) (place := fun i => (gs.map fun f => (f.offset, G.T.size f.type))[i]?) hplace pv (parts.map fun p => (p.1, a.eval p.2)) ((G.T.zero t).map .lit) cs z.cells
      (evoL_rep hs parts pv ((evoL_congr parts h1).trans hp)) (by rw [hzc]; simp) (fun j c x hc hx => by
        rw [hzc] at hx
        simp only [List.getElem?_map, hx, Option.map_some, Option.some.injEq] at hc
        subst hc
        exact .pure _ _ (.lit x (hone x (List.mem_of_getElem? hx)))) (fun x hx => hone x (by rw [← hzc]; exact hx)) hf
    refine ⟨.agg vs', ?_, ?_⟩
    · have hmap : (parts.toArray.map fun (p : Nat × Operand) => (p.1, a.eval p.2)).toList = parts.map fun p => (p.1, a.eval p.2) := by simp
      have hrun : (Instr.build t (parts.toArray.map fun (p : Nat × Operand) => (p.1, a.eval p.2))).run G.P w = .ok (.agg vs') w := by
        simp only [Instr.build, Sem.run_bind, hz, Result.andThen_ok, run_underlying hu, hpl, hmap, h3]
        rfl
      simp only [execOp, Sem.run_bind, hrun, Result.andThen_ok]
      rfl
    · have e : (Value.agg vs') = .agg vs'.toList.toArray := by simp
      rw [e]
      exact .agg cs _ h4 h5 h6

/-! ### Literals of slices: every element is given, in turn -/
def cellsL : List (Nat × AV) → List (List AV) := fun l => l.map fun p => cellsOf p.2

def idxOk : Nat → List (Nat × AV) → Bool
  | _, [] => true
  | i, p :: r => Nat.beq p.1 i && idxOk (i + 1) r

theorem fill_slice {S : Nat → Prop} {β : Beta} {w : World} {sz len : Nat} : ∀ (pv : List (Nat × AV)) (px : List (Nat × Value)) (m : Nat) (vs : Array Value), F2 (fun (p : Nat × AV) (q : Nat × Value) => p.1 = q.1 ∧ VRep S β w p.2 q.2) pv px →
    idxOk m pv = true → (∀ p ∈ pv, boxable p.2 = true ∧ (cellsOf p.2).length = sz) → m + pv.length = len → vs.size = len * sz →
    ∃ vs', Instr.fill (fun i => some (i * sz, sz)) vs px = some vs' ∧ vs'.size = len * sz ∧ (∀ q, q < m * sz → vs'.toList[q]? = vs.toList[q]?) ∧
      ∀ (i : Nat) (x : List AV) (j : Nat) (c : AV), (cellsL pv)[i]? = some x → x[j]? = some c → ∃ v, vs'.toList[(m + i) * sz + j]? = some v ∧ VRep S β w c v ∧ v.oneCell' = true := by
  intro pv
  induction pv with
  | nil => intro px m vs hf hi hb hm hv; cases hf; exact ⟨vs, rfl, hv, fun q _ => rfl, fun i x j c hx => by simp [cellsL] at hx⟩
  | cons p r ih =>
    intro px m vs hf hi hb hm hv
    obtain ⟨i, v⟩ := p
    cases hf with
    | cons h1 h2 =>
      rename_i q qs
      obtain ⟨i', x⟩ := q
      obtain ⟨hii, hv'⟩ := h1
      simp only at hii; subst hii
      simp only [idxOk, Bool.and_eq_true] at hi
      obtain ⟨hi1, hi2⟩ := hi
      have him : i = m := Nat.eq_of_beq_eq_true hi1
      subst him
      obtain ⟨hb1, hb2⟩ := hb (i, v) (by simp)
      obtain ⟨c1, c2⟩ := hv'.cells hb1
      have c3 := hv'.one_of hb1
      simp only at hb2
      have hxs : x.cells.toList.length = sz := by rw [c1]; exact hb2
      have hsz : x.cells.size = sz := by rw [← Array.length_toList]; exact hxs
      have hbd : i * sz + sz ≤ vs.size := by
        rw [hv]
        have : (i + 1) * sz ≤ len * sz := Nat.mul_le_mul_right _ (by simp at hm; omega)
        rw [Nat.add_mul, Nat.one_mul] at this; exact this
      have hfold := foldl_set x.cells.toList (i * sz) 0 vs (by rw [hxs]; simpa using hbd)
      have hle : i * sz + x.cells.toList.length ≤ vs.toList.length := by rw [hxs]; simpa using hbd
      have hfold' : x.cells.zipIdx.foldl (fun cs (p : Value × Nat) => cs.setIfInBounds (i * sz + p.2) p.1) vs = (vs.toList.take (i * sz) ++ x.cells.toList ++ vs.toList.drop (i * sz + x.cells.toList.length)).toArray := by
        rw [← Array.foldl_toList, Array.toList_zipIdx]; simpa using hfold
      have hlen2 : (vs.toList.take (i * sz) ++ x.cells.toList ++ vs.toList.drop (i * sz + x.cells.toList.length)).length = len * sz := by
        simp only [List.length_append, List.length_take, List.length_drop, Array.length_toList]; omega
      obtain ⟨vs', h3, h4, h5, h6⟩ := ih qs (i + 1) (vs.toList.take (i * sz) ++ x.cells.toList ++ vs.toList.drop (i * sz + x.cells.toList.length)).toArray h2 hi2 (fun p hp => hb p (by simp [hp])) (by simp at hm; omega) (by simpa using hlen2)
      have hn : (decide (x.cells.size ≠ sz) || decide (i * sz + x.cells.size > vs.size)) = false := by
        rw [Bool.or_eq_false_iff]; exact ⟨decide_eq_false (by omega), decide_eq_false (by omega)⟩
      have hstep : Instr.fill (fun i => some (i * sz, sz)) vs ((i, x) :: qs) = Instr.fill (fun i => some (i * sz, sz)) (x.cells.zipIdx.foldl (fun cs (p : Value × Nat) => cs.setIfInBounds (i * sz + p.2) p.1) vs) qs := by
        rw [Instr.fill]
        simp only [hn]
        rfl
      refine ⟨vs', (hstep.trans (congrArg (fun z => Instr.fill (fun i => some (i * sz, sz)) z qs) hfold')).trans h3, h4, ?_, ?_⟩
      · intro q hq
        rw [h5 q (by rw [Nat.add_mul]; omega)]
        show (vs.toList.take (i * sz) ++ x.cells.toList ++ vs.toList.drop (i * sz + x.cells.toList.length))[q]? = _
        rw [getElem?_tad _ _ _ hle, if_pos hq]
      · intro i0 y j c hy hc
        cases i0 with
        | zero =>
          simp only [cellsL, List.map_cons, List.getElem?_cons_zero, Option.some.injEq] at hy
          subst hy
          have hj : j < sz := by have := (List.getElem?_eq_some_iff.1 hc).1; omega
          have hz : x.cells.toList[j]? = some x.cells.toList[j] := List.getElem?_eq_getElem (by omega)
          refine ⟨x.cells.toList[j], ?_, c2 j c _ hc hz, c3 _ (List.getElem_mem _)⟩
          rw [Nat.add_zero, h5 _ (by rw [Nat.add_mul]; omega)]
          show (vs.toList.take (i * sz) ++ x.cells.toList ++ vs.toList.drop (i * sz + x.cells.toList.length))[i * sz + j]? = _
          rw [getElem?_tad _ _ _ hle, if_neg (by omega), if_pos (by omega), ← hz]
          congr 1; omega
        | succ i1 =>
          have := h6 i1 y j c (by simpa [cellsL] using hy) hc
          rwa [show i + 1 + i1 = i + (i1 + 1) by omega] at this

theorem op_buildSlice {t e : TypeId} {len k sz : Nat} {parts : List (Nat × Operand)} {pv : List (Nat × AV)} (ht : G.T.kind t = .slice e) (he : (G.T.kind e).known = true) (hsz : G.T.size e = sz) (hp : evoL (look E.sl) parts = some pv) (hi : idxOk 0 pv = true) (hl : pv.length = len) (hlen : len * sz ≤ 16777216) (hm : len ≤ 16777216)
    (hb : (pv.all fun p => boxable p.2 && Nat.beq (cellsOf p.2).length sz && (cellsOf p.2).all isP) = true) (hk : look E.ob k = none) (hpk : k ∉ Γ.par) (hd : ∀ d, dst = some d → d < E.n) :
    OpS G Γ ⟨dst, .buildSlice t len parts.toArray, ty, pos, aft, gd⟩ E (.row k) [(k, .row e sz (cellsL pv))] (parts.flatMap fun p => sl1 p.2) [k] :=
  OpS.turns hd fun E' hn h1 h2 S O β a w hs => by
    have hk' := (h2 k (by simp)).trans hk
    have hb' : ∀ p ∈ pv, boxable p.2 = true ∧ (cellsOf p.2).length = sz ∧ ∀ c ∈ cellsOf p.2, isP c = true := by
      intro p hp'
      have := List.all_eq_true.1 hb p hp'
      simp only [Bool.and_eq_true] at this
      exact ⟨this.1.1, Nat.eq_of_beq_eq_true this.1.2, fun c hc => List.all_eq_true.1 this.2 c hc⟩
    obtain ⟨z, hz, hzc⟩ := run_zeroValue G.ok w he
    have hrep := evoL_rep hs parts pv ((evoL_congr parts h1).trans hp)
    obtain ⟨vs', h3, h4, _, h6⟩ := fill_slice (sz := sz) (len := len) pv (parts.map fun p => (p.1, a.eval p.2)) 0 ((Array.range (len * sz)).map (z.cells[· % z.cells.size]!)) hrep hi (fun p hp' => ⟨(hb' p hp').1, (hb' p hp').2.1⟩) (by omega) (by simp)
    have hcl : (cellsL pv).length = len := by simp [cellsL, hl]
    have hnr := hs.newRow hk' hpk e sz (cellsL pv) vs'.toList (by
        intro i x hx
        simp only [cellsL, List.getElem?_map] at hx
        cases hq : pv[i]? with
        | none => rw [hq] at hx; cases hx
        | some p => rw [hq] at hx; simp at hx; subst hx; exact (hb' p (List.mem_of_getElem? hq)).2.1) (by rw [hcl]; simp only [maxSl]; omega) (by rw [hcl]; simpa using h4) (by
        intro i x j c hx hc
        obtain ⟨v, h7, h8, h9⟩ := h6 i x j c hx hc
        refine ⟨v, by simpa using h7, h8.toP ?_⟩
        simp only [cellsL, List.getElem?_map] at hx
        cases hq : pv[i]? with
        | none => rw [hq] at hx; cases hx
        | some p => rw [hq] at hx; simp at hx; subst hx; exact (hb' p (List.mem_of_getElem? hq)).2.2 c (List.mem_of_getElem? hc))
    refine ⟨.slice (some ⟨w.heap.size, 0, none⟩) len len, _, S, _, _, .inl ?_, ?_, hnr⟩
    · have hmap : (parts.toArray.map fun (p : Nat × Operand) => (p.1, a.eval p.2)).toList = parts.map fun p => (p.1, a.eval p.2) := by simp
      have hgt : ¬ len * sz > 2 ^ 24 := by omega
      have hrun : (Instr.buildSlice t len (parts.toArray.map fun (p : Nat × Operand) => (p.1, a.eval p.2))).run G.P w = .ok (.slice (some ⟨w.heap.size, 0, none⟩) len len) (w.alloc (.cells vs'.toList.toArray e)) := by
        by_cases h0 : len * sz = 0
        · have h3' : Instr.fill (fun i => some (i * sz, sz)) #[] (parts.map fun p => (p.1, a.eval p.2)) = some vs' := by
            rw [h0] at h3; simpa [Array.range_zero'] using h3
          simp [Instr.buildSlice, run_underlying (underlying_slice G.ok ht), run_sizeOf G.ok w he, hsz, h0, Array.range_zero', h3', newRow]
        · simp [Instr.buildSlice, run_underlying (underlying_slice G.ok ht), run_sizeOf G.ok w he, hsz, h0, hz, show ¬ 16777216 < len * sz by omega, h3, newRow]
      simp only [execOp, Sem.run_bind, hrun, Result.andThen_ok]
      rfl
    · have := VRep.row (S := S) (w := w.alloc (.cells vs'.toList.toArray e)) k (.at w.heap.size (cellsL pv).length (cellsL pv).length) (addB_same β k _)
      simpa [Loc.slice, hcl] using this

theorem op_makeSlice {t e : TypeId} {x y : Operand} {k n sz : Nat} {kl kc : IntKind} {m m' : Int} (hx : evo (look E.sl) x = some (.lit (.int kl m))) (hy : evo (look E.sl) y = some (.lit (.int kc m'))) (hm : m = n) (hm' : m' = n) (ht : G.T.kind t = .slice e) (he : (G.T.kind e).known = true) (hsz : G.T.size e = sz) (hsm : G.T.bytes e * n ≤ 140737488355328) (hn' : n ≤ 140737488355328)
    (hk : look E.ob k = none) (hpk : k ∉ Γ.par) (hd : ∀ d, dst = some d → d < E.n) :
    OpS G Γ ⟨dst, .makeSlice t x y, ty, pos, aft, gd⟩ E (.row k) [(k, .row e sz (List.replicate n ((G.T.zero e).map .lit)))] (sl1 x ++ sl1 y) [k] :=
  OpS.turns hd fun E' hn h1 h2 S O β a w hs => by
    have hk' := (h2 k (by simp)).trans hk
    have hxe := hs.lit ((evo_congr fun t ht => h1 t (by simp [ht])).trans hx)
    have hye := hs.lit ((evo_congr fun t ht => h1 t (by simp [ht])).trans hy)
    obtain ⟨i, z, hi, his, hib, hiz, hzc⟩ := info_of (G := G) he
    have hzl : (G.T.zero e).length = sz := by
      obtain ⟨_, _, _, _, _, _, _, _, _, _, h8⟩ := G.ok e he
      rw [h8]; exact hsz
    have hone := oneCell_of_kind G.ok he
    subst hm hm'
    have hrun := run_make (P := G.P) w t e i z (underlying_slice G.ok ht) hi hiz kl kc (n : Int) (n : Int) (by omega) (Int.le_refl _) (by rw [hib, ← Int.natCast_mul]; omega) (by omega)
    simp only [Int.toNat_natCast, his, hsz] at hrun
    have hzsz : z.cells.size = sz := by rw [← hzl, ← hzc]; simp
    have hget : ∀ i j c, i < n → (G.T.zero e)[j]? = some c → (madeCells z.cells (n * sz)).toList[i * sz + j]? = some c := by
      intro i j c hi' hc
      have hj : j < sz := by rw [← hzl]; exact (List.getElem?_eq_some_iff.1 hc).1
      have hlt : i * sz + j < n * sz := by
        have h1 : (i + 1) * sz ≤ n * sz := Nat.mul_le_mul_right _ hi'
        rw [Nat.add_mul, Nat.one_mul] at h1; omega
      have hmod : (i * sz + j) % sz = j := by rw [Nat.add_comm, Nat.mul_comm, Nat.add_mul_mod_self_left]; exact Nat.mod_eq_of_lt hj
      have hzj : z.cells[j]? = some c := by rw [← toList_getElem?, hzc]; exact hc
      simp only [madeCells, Array.getElem?_toList, Array.getElem?_map, Array.getElem?_range, hlt, if_true, Option.map_some, hzsz, hmod, Option.some.injEq]
      rw [getElem!_def, hzj]
    have hnr := hs.newRow hk' hpk e sz (List.replicate n ((G.T.zero e).map .lit)) (madeCells z.cells (n * sz)).toList (by
        intro i x hx
        rw [List.getElem?_replicate] at hx
        split at hx
        · cases hx; simpa using hzl
        · cases hx) (by simp only [List.length_replicate, maxSl]; omega) (by simp [size_madeCells]) (by
        intro i x j c hx hc
        rw [List.getElem?_replicate] at hx
        split at hx
        · rename_i hi'
          cases hx
          rw [List.getElem?_map] at hc
          cases hq : (G.T.zero e)[j]? with
          | none => rw [hq] at hc; cases hc
          | some v => rw [hq] at hc; simp at hc; subst hc; exact ⟨v, hget i j v hi' hq, .lit v (hone v (List.mem_of_getElem? hq))⟩
        · cases hx)
    refine ⟨.slice (some ⟨w.heap.size, 0, none⟩) n n, _, S, _, _, .inl ?_, ?_, hnr⟩
    · simp [execOp, hxe, hye, hrun]
    · have := VRep.row (S := S) (w := w.alloc (.cells (madeCells z.cells (n * sz)).toList.toArray e)) k (.at w.heap.size (List.replicate n ((G.T.zero e).map AV.lit)).length (List.replicate n ((G.T.zero e).map AV.lit)).length) (addB_same β k _)
      simpa [Loc.slice] using this
end
end Go.Vc
