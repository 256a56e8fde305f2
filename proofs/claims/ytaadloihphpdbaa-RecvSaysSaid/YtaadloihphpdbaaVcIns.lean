/- slices.Insert of one number, out of the shelf's contracts, on the abstract heap. -/
import Derived.Test.YtaadloihphpdbaaVcM
import Derived.Test.YtaadloihphpdbaaVcTab
import Derived.Test.YtaadloihphpdbaaPModel
import Derived.Shelf.Spec.SlicesInsertGrow
set_option linter.unusedVariables false
set_option linter.unusedSimpArgs false
namespace Go.Vc
open Go Go.RowKit
/-- Cells overwritten, one behind the other. -/
def setL (l : List Value) : Nat → List Value → List Value
  | _, [] => l
  | o, v :: r => setL (l.set o v) (o + 1) r
theorem setL_length : ∀ (us : List Value) (l : List Value) (o : Nat), (setL l o us).length = l.length
  | [], _, _ => rfl
  | v :: r, l, o => by show (setL (l.set o v) (o + 1) r).length = _; rw [setL_length r]; simp
theorem setL_get : ∀ (us : List Value) (l : List Value) (o : Nat), o + us.length ≤ l.length → ∀ j, (setL l o us)[j]? = if o ≤ j ∧ j < o + us.length then us[j - o]? else l[j]?
  | [], l, o, _, j => by
    have : ¬ (o ≤ j ∧ j < o + ([] : List Value).length) := by simp
    rw [if_neg this]; rfl
  | v :: r, l, o, h, j => by
    simp only [List.length_cons] at h
    show (setL (l.set o v) (o + 1) r)[j]? = _
    rw [setL_get r (l.set o v) (o + 1) (by simp; omega)]
    simp only [List.length_cons]
    by_cases hj : o = j
    · subst hj
      rw [if_neg (by omega), if_pos (by omega), List.getElem?_set_self (by omega)]
      simp
    · by_cases h2 : o ≤ j ∧ j < o + (r.length + 1)
      · rw [if_pos (by omega), if_pos h2]
        have e : j - o = (j - (o + 1)) + 1 := by omega
        rw [e, List.getElem?_cons_succ]
      · rw [if_neg (by omega), if_neg h2]
        simp [hj]
theorem heap_setCells (b : Nat) : ∀ (us : List Value) (o : Nat) (w : World) (vs : List Value) (t : TypeId) (fr : Nat × Nat), w.heap[b]? = some (.cells vs.toArray t fr) →
    (w.setCells b o us).heap[b]? = some (.cells (setL vs o us).toArray t fr) ∧ (∀ c, c ≠ b → (w.setCells b o us).heap[c]? = w.heap[c]?) ∧ (w.setCells b o us).heap.size = w.heap.size ∧ (w.setCells b o us).tape = w.tape ∧ (w.setCells b o us).os = w.os ∧ (w.setCells b o us).output = w.output
  | [], _, _, _, _, _, h => ⟨h, fun _ _ => rfl, rfl, rfl, rfl, rfl⟩
  | v :: r, o, w, vs, t, fr, h => by
    have h1 : (w.setCell ⟨b, o, none⟩ v).heap[b]? = some (.cells (vs.set o v).toArray t fr) := by
      simp only [World.setCell]
      rw [Array.getElem?_modify, if_pos rfl, h]
      simp
    obtain ⟨g1, g2, g3, g4, g5, g6⟩ := heap_setCells b r (o + 1) (w.setCell ⟨b, o, none⟩ v) (vs.set o v) t fr h1
    refine ⟨g1, fun c hc => (g2 c hc).trans ?_, g3.trans (by simp [World.setCell]), g4, g5, g6⟩
    simp only [World.setCell]
    rw [Array.getElem?_modify, if_neg (Ne.symm hc)]
end Go.Vc

namespace Go.Proofs.Ytaadloihphpdbaa
open Go Go.Vc Go.RowKit
def insRen : Go.Shelf.Ren := ⟨fun n => if n = 21 then 149 else if n = 27 then 166 else if n = 28 then 167 else if n = 35 then 172 else 176, fun n => if n = 22 then 34 else n, fun n => n⟩
theorem insLays : Lays2.n21 Try.prog insRen where
  mixed := by kernel_rfl
  f21 := by kernel_rfl
  f27 := by kernel_rfl
  f28 := by kernel_rfl
  f35 := by kernel_rfl
  f39 := by kernel_rfl
  t0 := by kernel_rfl
  a0 := fun w => by kernel_rfl
  z0 := fun w => by kernel_rfl
  v0 := fun w => by kernel_rfl
  t3 := by kernel_rfl
  a3 := fun w => by kernel_rfl
  z3 := fun w => by kernel_rfl
  v3 := fun w => by kernel_rfl
  t4 := by kernel_rfl
  a4 := fun w => by kernel_rfl
  z4 := fun w => by kernel_rfl
  v4 := fun w => by kernel_rfl
  t22 := by kernel_rfl
  a22 := fun w => by kernel_rfl
  z22 := fun w => by kernel_rfl
  v22 := fun w => by kernel_rfl
  i3 := by kernel_rfl

def insL (l : List Int) (i : Nat) (x : Int) : List Int := l.take i ++ x :: l.drop i
theorem insL_length (l : List Int) (i : Nat) (x : Int) (hi : i ≤ l.length) : (insL l i x).length = l.length + 1 := by
  unfold insL; simp; omega
theorem insL_get (l : List Int) (i : Nat) (x : Int) (hi : i ≤ l.length) (j : Nat) : (insL l i x)[j]? = if j < i then l[j]? else if j = i then some x else l[j - 1]? := by
  unfold insL
  have h1 : (l.take i).length = i := by rw [List.length_take]; omega
  by_cases hj : j < i
  · rw [if_pos hj, List.getElem?_append_left (by omega), List.getElem?_take, if_pos hj]
  · rw [if_neg hj, List.getElem?_append_right (by omega), h1]
    by_cases he : j = i
    · rw [if_pos he, he]; simp
    · rw [if_neg he]
      obtain ⟨d, rfl⟩ : ∃ d, j = i + d + 1 := ⟨j - i - 1, by omega⟩
      have e : i + d + 1 - i = d + 1 := by omega
      rw [e, List.getElem?_cons_succ, List.getElem?_drop]
      congr 1
/-- Where a row of numbers lies. -/
theorem intRow {S : Nat → Prop} {O : Nat → Nat → Prop} {β : Beta} {w : World} {k : Nat} {l : List Int} {lo : Vc.Loc} (h : ORep S O β w k (.row 3 1 (intCells l))) (hl : β k = some lo) :
    (lo = .nil ∧ l = []) ∨ ∃ (b cap : Nat) (vs : List Value), lo = .at b cap l.length ∧ O k b ∧ w.heap[b]? = some (.cells vs.toArray 3 (0, 0)) ∧ l.length ≤ cap ∧ cap ≤ maxLen ∧ vs.length = cap ∧ ∀ (j : Nat) (m : Int), l[j]? = some m → vs[j]? = some (Value.int .i64 m) := by
  obtain ⟨h0, hm, h⟩ := h
  rcases h with ⟨h1, h2⟩ | ⟨b, cap, vs, h1, h2, h3, h4, h5, h6, h7⟩
  · rw [hl] at h1; cases h1
    exact .inl ⟨rfl, by simpa [intCells] using h2⟩
  · rw [hl] at h1; cases h1
    rw [intCells_length] at h4
    refine .inr ⟨b, cap, vs, by rw [intCells_length], h2, h3, h4, h5, by omega, fun j m hj => ?_⟩
    obtain ⟨v, hv, hp⟩ := h7 j _ 0 _ (show (intCells l)[j]? = some [.lit (.int .i64 m)] by simp [intCells, hj]) rfl
    cases hp
    simpa using hv
/-- What is left behind. -/
theorem insEnd {S : Nat → Prop} {O : Nat → Nat → Prop} {β : Beta} {w w' : World} {ob : List (Nat × AO)} {k3 nb cap : Nat} {l' : List Int} {vs : List Value} (h : HRep S O β w ob) (hk : Vc.look ob k3 = none)
    (hnb : (∃ k, O k nb) ∨ w.heap.size ≤ nb) (hsz : w.heap.size ≤ w'.heap.size) (hn : nb < w'.heap.size) (hg : w'.heap[nb]? = some (.cells vs.toArray 3 (0, 0))) (hf : Fr (fun b => ∃ k, O k b) w w')
    (hl : l'.length ≤ cap) (hc : cap ≤ maxLen) (hs : l'.length ≤ maxSl) (hv : vs.length = cap) (hr : ∀ (j : Nat) (m : Int), l'[j]? = some m → vs[j]? = some (Value.int .i64 m)) {x : Value} (hx : x = .slice (some ⟨nb, 0, none⟩) l'.length cap) :
    ∃ S' O' β', HRep S' O' β' w' [(k3, .row 3 1 (intCells l'))] ∧ VRep S' β' w' (.row k3) x ∧ (∀ b, S b → S' b) ∧ (∀ b, S' b → S b ∨ (∃ k, O k b) ∨ w.heap.size ≤ b) ∧
      (∀ k b, O' k b → (∃ k, O k b) ∨ w.heap.size ≤ b) ∧ (∀ k, Vc.look ob k ≠ none → Vc.look [(k3, AO.row 3 1 (intCells l'))] k ≠ none → β' k = β k) ∧ Fr (fun b => ∃ k, O k b) w w' := by
  have hβ : (fun k => if k = k3 then some (Vc.Loc.at nb cap l'.length) else none : Beta) k3 = some (.at nb cap l'.length) := by simp
  have hlk : ∀ k, Vc.look [(k3, AO.row 3 1 (intCells l'))] k = if k3 = k then some (AO.row 3 1 (intCells l')) else none := fun k => by rw [look_cons]; rfl
  refine ⟨S, fun k b => k = k3 ∧ b = nb, fun k => if k = k3 then some (.at nb cap l'.length) else none, ⟨?_, ?_, ?_, ?_, ?_⟩, ?_, fun b hb => hb, fun b hb => .inl hb, ?_, ?_, hf⟩
  · intro b hb; exact Nat.lt_of_lt_of_le (h.sh b hb) hsz
  · rintro k b ⟨rfl, rfl⟩
    refine ⟨hn, fun hS => ?_⟩
    rcases hnb with ⟨k, hO⟩ | hge
    · exact (h.ow k b hO).2 hS
    · exact absurd (h.sh b hS) (by omega)
  · rintro k k' b ⟨rfl, _⟩ ⟨rfl, _⟩; rfl
  · intro k hk'
    rw [hlk] at hk'
    by_cases he : k3 = k
    · rw [if_pos he] at hk'; cases hk'
    · exact ⟨if_neg (Ne.symm he), fun b hb => he hb.1.symm⟩
  · intro k o ho
    rw [hlk] at ho
    by_cases he : k3 = k
    · rw [if_pos he] at ho; cases ho; subst he
      refine ⟨fun i x hx => ?_, by rw [intCells_length]; exact hs, .inr ⟨nb, cap, vs, by rw [intCells_length]; exact hβ, ⟨rfl, rfl⟩, hg, by rw [intCells_length]; exact hl, hc, by omega, fun i x j c hx hc' => ?_⟩⟩
      · simp only [intCells, List.getElem?_map, Option.map_eq_some_iff] at hx
        obtain ⟨m, _, rfl⟩ := hx; rfl
      · simp only [intCells, List.getElem?_map, Option.map_eq_some_iff] at hx
        obtain ⟨m, hm, rfl⟩ := hx
        match j with
        | 0 =>
          simp at hc'; subst hc'
          exact ⟨_, by simpa using hr i m hm, .lit _ rfl⟩
        | j + 1 => simp at hc'
    · rw [if_neg he] at ho; cases ho
  · rw [hx]; exact .row k3 (.at nb cap l'.length) hβ
  · rintro k b ⟨_, rfl⟩; exact hnb
  · intro k h1 h2
    rw [hlk] at h2
    by_cases he : k3 = k
    · subst he; exact absurd hk h1
    · rw [if_neg he] at h2; exact absurd rfl h2
theorem c149 (k1 k2 k3 : Nat) (h12 : k1 ≠ k2) (h13 : k1 ≠ k3) (h23 : k2 ≠ k3) (l : List Int) (x : Int) (i : Nat) (hi : i ≤ l.length) (hll : l.length ≤ 1000000) :
    VFun G 149 [.row k1, .lit (.int .i64 i), .row k2] [(k1, .row 3 1 (intCells l)), (k2, .row 3 1 (intCells [x]))] (.row k3) [(k3, .row 3 1 (intCells (insL l i x)))] := by
  refine ⟨⟨Try.f149, by kernel_rfl, by kernel_rfl, by kernel_rfl⟩, fun S O β w vs h hargs => ?_⟩
  have lk1 : Vc.look [(k1, AO.row 3 1 (intCells l)), (k2, AO.row 3 1 (intCells [x]))] k1 = some (.row 3 1 (intCells l)) := by rw [look_cons, if_pos rfl]
  have lk2 : Vc.look [(k1, AO.row 3 1 (intCells l)), (k2, AO.row 3 1 (intCells [x]))] k2 = some (.row 3 1 (intCells [x])) := by rw [look_cons, if_neg h12, look_cons, if_pos rfl]
  have lk3 : Vc.look [(k1, AO.row 3 1 (intCells l)), (k2, AO.row 3 1 (intCells [x]))] k3 = none := by rw [look_cons, if_neg h13, look_cons, if_neg h23]; rfl
  match vs, hargs with
  | [v1, v2, v3], .cons q1 (.cons q2 (.cons q3 .nil)) =>
  obtain ⟨l1, hb1, rfl⟩ := q1.row_inv
  obtain ⟨l3, hb3, rfl⟩ := q3.row_inv
  obtain ⟨rfl, _⟩ := q2.lit_inv
  have hil := insL_length l i x hi
  have hms : (insL l i x).length ≤ maxSl := by rw [hil]; unfold maxSl; omega
  rcases intRow (h.objs k2 _ lk2) hb3 with ⟨_, hno⟩ | ⟨vb, vc, zs, rfl, hOv, hgv, hcv, _, hzl, hz⟩
  · cases hno
  have hz0 := hz 0 x rfl
  have hvs : ∀ (j : Nat) (v : Value), ([Value.int .i64 x])[j]? = some v → w.cell? ⟨vb, 0 + j, none⟩ = some v := by
    intro j v hv
    match j with
    | 0 => simp at hv; subst hv; rw [cell_of_row w vb _ _ 3 (0, 0) hgv]; simpa using hz0
    | j + 1 => simp at hv
  have h1v : ∀ v ∈ ([Value.int .i64 x]), v.oneCell' = true := by intro v hv; rw [List.mem_singleton.1 hv]; rfl
  have FrD : ∀ (ws : World) (b : Nat), (∃ k, O k b) → (∀ c, c ≠ b → ws.heap[c]? = w.heap[c]?) → ws.heap.size = w.heap.size → ws.tape = w.tape → ws.os = w.os → ws.output = w.output → Fr (fun b => ∃ k, O k b) w ws :=
    fun ws b hO hh hs ht ho hp => ⟨ho, ht, hp, by rw [hs]; exact Nat.le_refl _, fun c hc hn => hh c (fun e => hn (e ▸ hO))⟩
  have hml : maxSl = 140737488355328 := rfl
  rcases intRow (h.objs k1 _ lk1) hb1 with ⟨rfl, rfl⟩ | ⟨b, cap, cs, rfl, hOb, hgb, hcb, hcm, hcl, hc⟩
  · -- nothing there
    simp only [List.length_nil, Nat.le_zero] at hi
    subst hi
    have := Any2.slices_Insert_int_end_grow insLays none 0 0 vb 0 1 vc [] [.int .i64 x] w (by omega) (by omega) (by omega) (by omega) rfl rfl (fun _ => rfl) (fun a ha => by cases ha) hvs h1v
    refine this.mono fun e w' ⟨he, hw⟩ => ⟨_, he, ?_⟩
    have hge := grownCap_ge w 1 0 3
    have hle := grownCap_le_maxLen w 1 0 3 (by simp [maxLen])
    have hgc : grownCap w (0 + 1) 0 (insRen.t 3) = grownCap w 1 0 3 := rfl
    rw [hw]
    have hlen : ∀ (n : Nat), (Builtin.zeroCells (Value.int .i64 0).cells n).size = n := fun n => by simp [Builtin.zeroCells, Value.cells]
    refine insEnd (vs := ([] ++ [Value.int .i64 x]) ++ (Builtin.zeroCells (Value.int .i64 0).cells (grownCap w 1 0 3 - 1)).toList) (nb := w.heap.size) (cap := grownCap w 1 0 3) h lk3 (.inr (Nat.le_refl _)) (by simp) (by simp) ?_ ?_ (by rw [hil]; simpa using hge) hle hms ?_ ?_ (by rw [hil]; rfl)
    · have := heap_alloc_new w.drew (.cells ((([] ++ [Value.int .i64 x]) : List Value).toArray ++ Builtin.zeroCells (Value.int .i64 0).cells (grownCap w (0 + 1) 0 (insRen.t 3) - (0 + 1))) (insRen.t 3))
      refine this.trans ?_
      simp
      exact ⟨rfl, rfl⟩
    · exact ⟨rfl, rfl, rfl, by simp, fun c hc _ => heap_alloc_lt w.drew _ hc⟩
    · simp [hlen]; omega
    · intro j m hj
      match j with
      | 0 => simp [insL] at hj; subst hj; rfl
      | j + 1 => simp [insL] at hj
  · have hcs : ∀ (j : Nat) (v : Value), (l.map fun m => Value.int .i64 m)[j]? = some v → w.cell? ⟨b, 0 + j, none⟩ = some v := by
      intro j v hv
      rw [List.getElem?_map, Option.map_eq_some_iff] at hv
      obtain ⟨m, hm, rfl⟩ := hv
      rw [cell_of_row w b _ _ 3 (0, 0) hgb]; simpa using hc j m hm
    have h1c : ∀ v ∈ (l.map fun m => Value.int .i64 m), v.oneCell' = true := by
      intro v hv; obtain ⟨m, _, rfl⟩ := List.mem_map.1 hv; rfl
    have hcell : ∀ j, j < cap → (w.cell? ⟨b, 0 + j, none⟩).isSome = true := by
      intro j hj; rw [cell_of_row w b _ _ 3 (0, 0) hgb]; simp; omega
    have hfroz : ∀ (b' : Nat) (us : List Value) (j : Nat), w.heap[b']? = some (.cells us.toArray 3 (0, 0)) → w.frozen? ⟨b', j, none⟩ = false := by
      intro b' us j hg; simp [World.frozen?, hg]
    have hvb : vb ≠ b := fun e => h12 (h.dj k1 k2 b hOb (e ▸ hOv))
    have hlt : b < w.heap.size := (h.ow k1 b hOb).1
    have hcml : cap ≤ 9223372036854775807 := Nat.le_trans hcm (by simp [maxLen])
    by_cases hroom : l.length + 1 ≤ cap
    · by_cases hie : i = l.length
      · subst hie
        have := Any2.slices_Insert_int_end_room insLays b 0 l.length cap vb 0 1 vc [.int .i64 x] w (by omega) hroom hcml rfl (fun j hj => by have := hcell (l.length + j) (by omega); simpa [Nat.add_assoc] using this) (fun j _ => hfroz b cs _ hgb) hvs h1v
        refine this.mono fun e w' ⟨he, hw⟩ => ⟨_, he, ?_⟩
        obtain ⟨g1, g2, g3, g4, g5, g6⟩ := heap_setCells b [.int .i64 x] (0 + l.length) w cs 3 (0, 0) hgb
        rw [hw]
        refine insEnd h lk3 (.inl ⟨k1, hOb⟩) (by rw [g3]; exact Nat.le_refl _) (by rw [g3]; exact hlt) g1 (FrD _ b ⟨k1, hOb⟩ g2 g3 g4 g5 g6) (by rw [hil]; exact hroom) hcm hms (by rw [setL_length]; exact hcl) ?_ (by rw [hil])
        intro j m hj
        rw [insL_get _ _ _ (Nat.le_refl _)] at hj
        rw [setL_get _ _ _ (by simp; omega)]
        by_cases h1 : j < l.length
        · rw [if_pos h1] at hj
          rw [if_neg (by simp; omega)]
          exact hc j m hj
        · rw [if_neg h1] at hj
          by_cases h2 : j = l.length
          · rw [if_pos h2] at hj; cases hj
            rw [if_pos (by simp; omega)]; simp [h2]
          · rw [if_neg h2] at hj
            have := (List.getElem?_eq_some_iff.1 hj).1
            omega
      · have hilt : i < l.length := by omega
        have hsh : w.shape? vb = some (3, zs.length) := by simp [World.shape?, hgv]
        have hsb : w.shape? b = some (3, cs.length) := by simp [World.shape?, hgb]
        have := Any2.slices_Insert_int_shift insLays b 0 l.length cap i vb 0 1 vc (l.map fun m => Value.int .i64 m) [.int .i64 x] w hilt (by omega) hroom hcml hvb (by simp) rfl hcs (fun j hj => hcell j (by omega)) (fun j _ => hfroz b cs _ hgb) hvs h1c h1v 3 3 zs.length cs.length hsh hsb (by omega) (hfroz vb zs _ hgv) (hfroz vb zs _ hgv)
        refine this.mono fun e w' ⟨he, hw⟩ => ⟨_, he, ?_⟩
        have hgd : w.drew.heap[b]? = some (.cells cs.toArray 3 (0, 0)) := hgb
        obtain ⟨g1, g2, g3, g4, g5, g6⟩ := heap_setCells b ((l.map fun m => Value.int .i64 m).drop i) (0 + (i + 1)) w.drew cs 3 (0, 0) hgd
        obtain ⟨f1, f2, f3, f4, f5, f6⟩ := heap_setCells b [.int .i64 x] (0 + i) (w.drew.setCells b (0 + (i + 1)) ((l.map fun m => Value.int .i64 m).drop i)) _ 3 (0, 0) g1
        rw [hw]
        refine insEnd h lk3 (.inl ⟨k1, hOb⟩) (by rw [f3, g3]; exact Nat.le_refl _) (by rw [f3, g3]; exact hlt) f1 (FrD _ b ⟨k1, hOb⟩ (fun c hc' => (f2 c hc').trans (g2 c hc')) (f3.trans g3) (f4.trans g4) (f5.trans g5) (f6.trans g6)) (by rw [hil]; exact hroom) hcm hms (by rw [setL_length, setL_length]; exact hcl) ?_ (by rw [hil])
        intro j m hj
        rw [insL_get _ _ _ hi] at hj
        rw [setL_get _ _ _ (by rw [setL_length]; simp; omega), setL_get _ _ _ (by simp; omega)]
        by_cases h1 : j < i
        · rw [if_pos h1] at hj
          rw [if_neg (by simp; omega), if_neg (by omega)]
          exact hc j m hj
        · rw [if_neg h1] at hj
          by_cases h2 : j = i
          · rw [if_pos h2] at hj; cases hj
            rw [if_pos (by simp; omega)]; simp [h2]
          · rw [if_neg h2] at hj
            have hjl := (List.getElem?_eq_some_iff.1 hj).1
            rw [if_neg (by simp; omega), if_pos (by simp; omega), List.getElem?_drop, List.getElem?_map]
            have e : i + (j - (0 + (i + 1))) = j - 1 := by omega
            rw [e, hj]; rfl
    · have hcap : cap = l.length := by omega
      have hge := grownCap_ge w (l.length + 1) cap 3
      have hle := grownCap_le_maxLen w (l.length + 1) cap 3 (by simp [maxLen]; omega)
      have hlen : ∀ (n : Nat), (Builtin.zeroCells (Value.int .i64 0).cells n).size = n := fun n => by simp [Builtin.zeroCells, Value.cells]
      by_cases hie : i = l.length
      · subst hie
        have := Any2.slices_Insert_int_end_grow insLays (some ⟨b, 0, none⟩) l.length cap vb 0 1 vc (l.map fun m => Value.int .i64 m) [.int .i64 x] w (by omega) hcb (by omega) (by omega) (by simp) rfl (fun e => by cases e) (fun a ha j v hv => by cases ha; rw [add_none]; exact hcs j v hv) hvs h1v
        refine this.mono fun e w' ⟨he, hw⟩ => ⟨_, he, ?_⟩
        rw [hw]
        refine insEnd (vs := ((l.map fun m => Value.int .i64 m) ++ [Value.int .i64 x]) ++ (Builtin.zeroCells (Value.int .i64 0).cells (grownCap w (l.length + 1) cap 3 - (l.length + 1))).toList) (nb := w.heap.size) (cap := grownCap w (l.length + 1) cap 3) h lk3 (.inr (Nat.le_refl _)) (by simp) (by simp) ?_ ?_ (by rw [hil]; exact hge) hle hms ?_ ?_ (by rw [hil]; rfl)
        · have := heap_alloc_new w.drew (.cells (((l.map fun m => Value.int .i64 m) ++ [Value.int .i64 x]).toArray ++ Builtin.zeroCells (Value.int .i64 0).cells (grownCap w (l.length + 1) cap (insRen.t 3) - (l.length + 1))) (insRen.t 3))
          refine this.trans ?_
          congr 2
          apply Array.ext'; simp; rfl
        · exact ⟨rfl, rfl, rfl, by simp, fun c hc _ => heap_alloc_lt w.drew _ hc⟩
        · simp [hlen]; omega
        · intro j m hj
          rw [insL_get _ _ _ (Nat.le_refl _)] at hj
          by_cases h1 : j < l.length
          · rw [if_pos h1] at hj
            rw [List.append_assoc, List.getElem?_append_left (by simpa using h1), List.getElem?_map, hj]; rfl
          · rw [if_neg h1] at hj
            by_cases h2 : j = l.length
            · rw [if_pos h2] at hj; cases hj
              rw [List.append_assoc, List.getElem?_append_right (by simp; omega)]; simp [h2]
            · rw [if_neg h2] at hj
              have := (List.getElem?_eq_some_iff.1 hj).1
              omega
      · have hilt : i < l.length := by omega
        have := Any2.slices_Insert_int_grow insLays b 0 l.length cap i vb 0 1 vc (l.map fun m => Value.int .i64 m) [.int .i64 x] w hilt (by omega) hcb (by omega) (by omega) (by simp) rfl hcs hvs h1c h1v
        refine this.mono fun e w' ⟨he, hw⟩ => ⟨_, he, ?_⟩
        have hA := heap_alloc_new w (.cells ((((l.map fun m => Value.int .i64 m).take i).toArray ++ Builtin.zeroCells (Value.int .i64 0).cells (l.length + 1 - i)) ++ Builtin.zeroCells (Value.int .i64 0).cells (grownCap w (l.length + 1) cap (insRen.t 3) - (l.length + 1))) (insRen.t 3))
        generalize hcsE : ((((l.map fun m => Value.int .i64 m).take i).toArray ++ Builtin.zeroCells (Value.int .i64 0).cells (l.length + 1 - i)) ++ Builtin.zeroCells (Value.int .i64 0).cells (grownCap w (l.length + 1) cap (insRen.t 3) - (l.length + 1))) = arr at hA hw
        have harr : arr = arr.toList.toArray := by simp
        have hal : arr.toList.length = grownCap w (l.length + 1) cap 3 := by
          rw [← hcsE]
          simp [hlen]
          have : grownCap w (l.length + 1) cap (insRen.t 3) = grownCap w (l.length + 1) cap 3 := rfl
          omega
        have hat : ∀ j, j < i → ∀ m, l[j]? = some m → arr.toList[j]? = some (.int .i64 m) := by
          intro j hj m hm
          rw [← hcsE]
          simp only [Array.toList_append, List.append_assoc]
          rw [List.getElem?_append_left (by simp; omega), List.getElem?_take, if_pos hj, List.getElem?_map, hm]; rfl
        rw [harr] at hA hw
        have hgd : (w.alloc (.cells arr.toList.toArray (insRen.t 3))).drew.heap[w.heap.size]? = some (.cells arr.toList.toArray 3 (0, 0)) := hA
        obtain ⟨g1, g2, g3, g4, g5, g6⟩ := heap_setCells w.heap.size [.int .i64 x] i (w.alloc (.cells arr.toList.toArray (insRen.t 3))).drew arr.toList 3 (0, 0) hgd
        have hgd2 : ((w.alloc (.cells arr.toList.toArray (insRen.t 3))).drew.setCells w.heap.size i [.int .i64 x]).drew.heap[w.heap.size]? = some (.cells (setL arr.toList i [.int .i64 x]).toArray 3 (0, 0)) := g1
        obtain ⟨f1, f2, f3, f4, f5, f6⟩ := heap_setCells w.heap.size ((l.map fun m => Value.int .i64 m).drop i) (i + 1) ((w.alloc (.cells arr.toList.toArray (insRen.t 3))).drew.setCells w.heap.size i [.int .i64 x]).drew _ 3 (0, 0) hgd2
        have hsz0 : (w.alloc (.cells arr.toList.toArray (insRen.t 3))).drew.heap.size = w.heap.size + 1 := by show (w.alloc _).heap.size = _; simp
        have hsz : (((w.alloc (.cells arr.toList.toArray (insRen.t 3))).drew.setCells w.heap.size i [.int .i64 x]).drew.setCells w.heap.size (i + 1) ((l.map fun m => Value.int .i64 m).drop i)).heap.size = w.heap.size + 1 := f3.trans (g3.trans hsz0)
        rw [hw]
        refine insEnd (nb := w.heap.size) (cap := grownCap w (l.length + 1) cap 3) h lk3 (.inr (Nat.le_refl _)) (by rw [hsz]; omega) (by rw [hsz]; omega) f1 ?_ (by rw [hil]; exact hge) hle hms (by rw [setL_length, setL_length]; exact hal) ?_ (by rw [hil]; rfl)
        · refine ⟨f5.trans g5, f4.trans g4, f6.trans g6, by rw [hsz]; omega, fun c hc' _ => ?_⟩
          exact (f2 c (by omega)).trans ((g2 c (by omega)).trans (heap_alloc_lt w _ hc'))
        · intro j m hj
          rw [insL_get _ _ _ hi] at hj
          rw [setL_get _ _ _ (by rw [setL_length]; simp [hal]; omega), setL_get _ _ _ (by simp [hal]; omega)]
          by_cases h1 : j < i
          · rw [if_pos h1] at hj
            rw [if_neg (by omega), if_neg (by omega)]
            exact hat j h1 m hj
          · rw [if_neg h1] at hj
            by_cases h2 : j = i
            · rw [if_pos h2] at hj; cases hj
              rw [if_neg (by omega), if_pos (by simp; omega)]; simp [h2]
            · rw [if_neg h2] at hj
              have hjl := (List.getElem?_eq_some_iff.1 hj).1
              rw [if_pos (by simp; omega), List.getElem?_drop, List.getElem?_map]
              have e : i + (j - (i + 1)) = j - 1 := by omega
              rw [e, hj]; rfl
end Go.Proofs.Ytaadloihphpdbaa
