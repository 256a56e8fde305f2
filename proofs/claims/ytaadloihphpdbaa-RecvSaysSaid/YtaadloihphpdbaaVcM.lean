/- Maps from numbers to true, on the abstract heap: made, asked, added to. -/
import Derived.Test.YtaadloihphpdbaaVcC
import Derived.MapKept
set_option linter.unusedVariables false
set_option linter.unusedSimpArgs false
namespace Go.Vc
open Go Go.RowKit

theorem setEq {ob : List (Nat × AO)} {k : Nat} {l m : List Int} (h : look ob k = some (.set l)) (he : l = m) : look ob k = some (.set m) := he ▸ h
theorem underlying_map {T : Tab} {P : Program} (hT : T.ok P) {t k e : TypeId} (h : T.kind t = .map k e) : P.underlying t = some (.map k e) := by
  have := (hT t (by rw [h]; rfl)).1
  rw [h] at this; exact this
theorem VRep.mp_inv {S : Nat → Prop} {β : Beta} {w : World} {k : Nat} {x : Value} (h : VRep S β w (.mp k) x) : ∃ b cap n, β k = some (.at b cap n) ∧ x = .map (some b) := by
  cases h with
  | pure _ _ hp => cases hp
  | mp k b cap n hk => exact ⟨b, cap, n, hk, rfl⟩
theorem SimAt.setAt {Γ : Ctx} {S : Nat → Prop} {O : Nat → Nat → Prop} {β : Beta} {E : Env} {a : Act} {w : World} (h : SimAt Γ S O β E a w) {k : Nat} {l : List Int} (hk : look E.ob k = some (.set l)) {b cap n : Nat} (hb : β k = some (.at b cap n)) :
    ∃ (es : Array MapEntry) (clock : Nat), O k b ∧ w.heap[b]? = some (.map es clock) ∧ (∀ e ∈ es.toList, ∃ m ∈ l, e.key = .int .i64 m ∧ e.val = .bool true) ∧ (∀ m ∈ l, ∃ e ∈ es.toList, e.key = .int .i64 m) ∧ BornOk es clock := by
  obtain ⟨b', cap', n', es, clock, h1, h2, h3, h4⟩ := h.h.objs k _ hk
  rw [hb] at h1; cases h1
  exact ⟨es, clock, h2, h3, h4⟩
theorem keysOk {l : List Int} {es : List MapEntry} (h : ∀ e ∈ es, ∃ m ∈ l, e.key = .int .i64 m ∧ e.val = .bool true) : ∀ x ∈ es, Go.MapKept.IsKey (.int .i64) x.key := by
  intro x hx
  obtain ⟨m, _, hm, _⟩ := h x hx
  rw [hm]; simp [Go.MapKept.IsKey]
/-- What is found. -/
theorem found {l : List Int} {es : List MapEntry} (h : ∀ e ∈ es, ∃ m ∈ l, e.key = .int .i64 m ∧ e.val = .bool true) (h2 : ∀ m ∈ l, ∃ e ∈ es, e.key = .int .i64 m) (m : Int) :
    (l.contains m = false ∧ Instr.findNow (.int .i64) (.int .i64 m) es 0 = some none) ∨ (l.contains m = true ∧ ∃ j, Instr.findNow (.int .i64) (.int .i64 m) es 0 = some (some (j, .bool true)) ∧ ∃ e, es[j]? = some e ∧ e.key = .int .i64 m ∧ e.val = .bool true) := by
  rcases Go.MapKept.findNow_spec (d := .int .i64) (k := .int .i64 m) (by simp [Go.MapKept.IsKey]) es 0 (keysOk h) with ⟨h3, h4⟩ | ⟨j, e, h3, h4, h5⟩
  · refine .inl ⟨?_, h3⟩
    cases hc : l.contains m with
    | false => rfl
    | true =>
      obtain ⟨e, he, hek⟩ := h2 m (by simpa using hc)
      exact absurd hek (h4 e he)
  · obtain ⟨m', hm', hk, hv⟩ := h e (List.mem_of_getElem? h4)
    have : m' = m := by rw [h5] at hk; injection hk with _ hk; exact hk.symm
    subst this
    refine .inr ⟨by simpa using hm', j, ?_, e, h4, h5, hv⟩
    rw [h3, hv]; simp

section
variable {G : Prg} {Γ : Ctx} {E : Env} {dst : Option Tmp} {ty : TypeId} {pos : String} {aft : Array Edge} {gd : Option (Nat × Bool)}
theorem op_makeMap {t kt e : TypeId} (k : Nat) (hk : look E.ob k = none) (hp : k ∉ Γ.par) (hd : ∀ d, dst = some d → d < E.n) :
    OpS G Γ ⟨dst, .makeMap t none, ty, pos, aft, gd⟩ E (.mp k) [(k, .set [])] [] [k] :=
  OpS.turns hd fun E' hn h1 h2 S O β a w hs => by
    have hk' : look E'.ob k = none := (h2 k (by simp)).trans hk
    have hn' := hs.alloc hk' hp (.map #[] 0) (.at w.heap.size 0 0) (.set []) ⟨w.heap.size, 0, 0, #[], 0, addB_same _ _ _, .inr ⟨rfl, rfl⟩, heap_alloc_new w _, fun e he => by simp at he, fun m hm => by simp at hm, fun e he => by simp at he, by simp⟩
    refine ⟨.map (some w.heap.size), _, S, _, _, .inl ?_, .mp k w.heap.size 0 0 (addB_same _ _ _), hn'⟩
    simp [execOp, Instr.makeMap]

theorem op_lookup {t kt e : TypeId} {x y : Operand} {k : Nat} {l : List Int} {m : Int} (hx : evo (look E.sl) x = some (.mp k)) (hk : look E.ob k = some (.set l)) (hy : evo (look E.sl) y = some (.lit (.int .i64 m)))
    (ht : G.T.kind t = .map kt e) (hkt : G.T.kind kt = .int .i64) (he : G.T.kind e = .bool) (hz : ∀ w, (zeroValue e).run G.P w = .ok (.bool false) w) (hd : ∀ d, dst = some d → d < E.n) :
    OpS G Γ ⟨dst, .lookup t x y false, ty, pos, aft, gd⟩ E (.lit (.bool (l.contains m))) [] (sl1 x ++ sl1 y) [k] :=
  OpS.val hd fun E' hn h1 h2 S O β a w hs => by
    have hk' := (h2 k (by simp)).trans hk
    obtain ⟨b, cap, n, hbk, hxe⟩ := (hs.ev ((evo_congr fun t ht => h1 t (by simp [ht])).trans hx)).mp_inv
    have hye := hs.lit ((evo_congr fun t ht => h1 t (by simp [ht])).trans hy)
    obtain ⟨es, clock, hO, hg, h3, h4, _⟩ := hs.setAt hk' hbk
    have hu := underlying_map G.ok ht
    have hku := underlying_int G.ok hkt
    have hzr := hz w
    have hck : ∀ em, (Instr.checkKey em 10000 kt (.int .i64 m)).run G.P w = .ok () w := fun em => Go.MapKept.run_checkKey (d := .int .i64) hku (by simp [Go.MapKept.IsKey]) em 9999
    refine ⟨.bool (l.contains m), ?_, .pure _ _ (.lit _ rfl)⟩
    rcases found h3 h4 m with ⟨hc, hf⟩ | ⟨hc, j, hf, _⟩
    · rw [hc]
      have := Go.MapKept.run_findKey (P := G.P) (w := w) (kt := kt) hku hf
      simp [execOp, Instr.lookup, hxe, hye, run_underlying hu, Go.MapKept.run_getObj_map hg, hck, this, hzr]
    · rw [hc]
      have := Go.MapKept.run_findKey (P := G.P) (w := w) (kt := kt) hku hf
      simp [execOp, Instr.lookup, hxe, hye, run_underlying hu, Go.MapKept.run_getObj_map hg, hck, this]

theorem born_push {es : Array MapEntry} {clock : Nat} (h : BornOk es clock) (k v : Value) : BornOk (es.push ⟨k, v, clock⟩) (clock + 1) := by
  refine ⟨fun e he => ?_, ?_⟩
  · rw [Array.toList_push] at he
    rcases List.mem_append.1 he with he | he
    · exact Nat.lt_succ_of_lt (h.1 e he)
    · rw [List.mem_singleton.1 he]; exact Nat.lt_succ_self _
  · rw [Array.toList_push, List.map_append]
    refine List.nodup_append.2 ⟨h.2, by simp, fun a ha b hb => ?_⟩
    obtain ⟨e, he, rfl⟩ := List.mem_map.1 ha
    simp at hb
    have := h.1 e he
    omega
theorem born_modify {es : Array MapEntry} {clock : Nat} (h : BornOk es clock) (j : Nat) (k v : Value) : BornOk (es.modify j fun e => { e with key := k, val := v }) clock := by
  have hm : ((es.modify j fun e => { e with key := k, val := v }).toList.map (·.born)) = es.toList.map (·.born) := by
    apply List.ext_getElem?
    intro i
    rw [List.getElem?_map, List.getElem?_map, Array.toList_modify, List.getElem?_modify]
    cases es.toList[i]? with
    | none => rfl
    | some e => by_cases hij : j = i <;> simp [hij]
  refine ⟨fun e he => ?_, by rw [hm]; exact h.2⟩
  have : e.born ∈ es.toList.map (·.born) := by rw [← hm]; exact List.mem_map.2 ⟨e, he, rfl⟩
  obtain ⟨e', he', hb⟩ := List.mem_map.1 this
  rw [← hb]; exact h.1 e' he'
theorem run_mapUpdate {t kt e : TypeId} {w : World} {b : Nat} {es : Array MapEntry} {clock : Nat} {l : List Int} {m : Int} (hg : w.heap[b]? = some (.map es clock))
    (h3 : ∀ e ∈ es.toList, ∃ m ∈ l, e.key = .int .i64 m ∧ e.val = .bool true) (h4 : ∀ m ∈ l, ∃ e ∈ es.toList, e.key = .int .i64 m) (hbo : BornOk es clock) (ht : G.T.kind t = .map kt e) (hkt : G.T.kind kt = .int .i64) :
    ∃ (es' : Array MapEntry) (clock' : Nat), (Instr.mapUpdate t (.map (some b)) (.int .i64 m) (.bool true)).run G.P w = .ok () { w with heap := w.heap.setIfInBounds b (.map es' clock') } ∧
      (∀ e ∈ es'.toList, ∃ m' ∈ l ++ [m], e.key = .int .i64 m' ∧ e.val = .bool true) ∧ (∀ m' ∈ l ++ [m], ∃ e ∈ es'.toList, e.key = .int .i64 m') ∧ BornOk es' clock' := by
  have hu := underlying_map G.ok ht
  have hku := underlying_int G.ok hkt
  have hck : ∀ em, (Instr.checkKey em 10000 kt (.int .i64 m)).run G.P w = .ok () w := fun em => Go.MapKept.run_checkKey (d := .int .i64) hku (by simp [Go.MapKept.IsKey]) em 9999
  rcases found h3 h4 m with ⟨hc, hf⟩ | ⟨hc, j, hf, e0, hj, hek, hev⟩
  · have hfk := Go.MapKept.run_findKey (P := G.P) (w := w) (kt := kt) hku hf
    refine ⟨es.push ⟨.int .i64 m, .bool true, clock⟩, clock + 1, ?_, ?_, ?_, born_push hbo _ _⟩
    · simp [Instr.mapUpdate, run_underlying hu, Go.MapKept.run_getObj_map hg, hck, hfk, Go.MapKept.run_setObj_map _ hg]
    · intro x hx
      rw [Array.toList_push] at hx
      rcases List.mem_append.1 hx with hx | hx
      · obtain ⟨m', hm', h5⟩ := h3 x hx
        exact ⟨m', by simp [hm'], h5⟩
      · rw [List.mem_singleton.1 hx]; exact ⟨m, by simp, rfl, rfl⟩
    · intro m' hm'
      rw [Array.toList_push]
      rcases List.mem_append.1 hm' with hm' | hm'
      · obtain ⟨x, hx, h5⟩ := h4 m' hm'
        exact ⟨x, by simp [hx], h5⟩
      · rw [List.mem_singleton.1 hm']; exact ⟨_, List.mem_append_right _ (List.mem_singleton.2 rfl), rfl⟩
  · have hfk := Go.MapKept.run_findKey (P := G.P) (w := w) (kt := kt) hku hf
    have hj' : es[j]? = some e0 := by simpa using hj
    have hmem : m ∈ l := by simpa using hc
    have hup : ∀ x, x ∈ (es.modify j fun e => { e with key := .int .i64 m, val := .bool true }).toList → x ∈ es.toList := by
      intro x hx
      rw [Array.toList_modify] at hx
      obtain ⟨i, hi⟩ := List.mem_iff_getElem?.1 hx
      rw [List.getElem?_modify] at hi
      by_cases hij : j = i
      · subst hij
        rw [hj] at hi
        simp at hi
        have : x = e0 := by rw [← hi, ← hek, ← hev]
        rw [this]; exact List.mem_of_getElem? hj
      · cases hh : es.toList[i]? with
        | none => rw [hh] at hi; simp at hi
        | some y => rw [hh] at hi; simp [hij] at hi; rw [← hi]; exact List.mem_of_getElem? hh
    refine ⟨es.modify j fun e => { e with key := .int .i64 m, val := .bool true }, clock, ?_, ?_, ?_, born_modify hbo j _ _⟩
    · have hks : (Instr.keyThatStays (((es[j]?).map (·.key)).getD (.int .i64 m)) (.int .i64 m)).run G.P w = .ok (.int .i64 m) w := by
        rw [hj']; simp [Instr.keyThatStays, hek, Instr.sameBits]
      simp [Instr.mapUpdate, run_underlying hu, Go.MapKept.run_getObj_map hg, hck, hfk, hks, Go.MapKept.run_setObj_map _ hg]
    · intro x hx
      obtain ⟨m', hm', h5⟩ := h3 x (hup x hx)
      exact ⟨m', by simp [hm'], h5⟩
    · intro m' hm'
      have hm2 : m' ∈ l := by
        rcases List.mem_append.1 hm' with h | h
        · exact h
        · rw [List.mem_singleton.1 h]; exact hmem
      obtain ⟨x, hx, h5⟩ := h4 m' hm2
      obtain ⟨i, hi⟩ := List.mem_iff_getElem?.1 hx
      by_cases hij : j = i
      · subst hij
        rw [hj] at hi; injection hi with hi; subst hi
        refine ⟨{ e0 with key := .int .i64 m, val := .bool true }, List.mem_iff_getElem?.2 ⟨j, by rw [Array.toList_modify, List.getElem?_modify, hj]; simp⟩, ?_⟩
        rw [hek] at h5; exact h5
      · refine ⟨x, List.mem_iff_getElem?.2 ⟨i, by rw [Array.toList_modify, List.getElem?_modify, hi]; simp [hij]⟩, h5⟩

theorem Fr_set {w : World} {b : Nat} {o : Obj} : Fr (fun c => c = b) w { w with heap := w.heap.setIfInBounds b o } :=
  ⟨rfl, rfl, rfl, by simp, fun c _ hc => by simp [Array.getElem?_setIfInBounds, Ne.symm hc]⟩

theorem op_mapIns {op : Op} {t kt e : TypeId} {x y z : Operand} {k : Nat} {l : List Int} {m : Int} (hop : op = .mapUpdate t x y z ∨ op = .insert t x y z) (hx : evo (look E.sl) x = some (.mp k)) (hk : look E.ob k = some (.set l)) (hy : evo (look E.sl) y = some (.lit (.int .i64 m))) (hz : evo (look E.sl) z = some (.lit (.bool true)))
    (ht : G.T.kind t = .map kt e) (hkt : G.T.kind kt = .int .i64) (hd : ∀ d, dst = some d → d < E.n) :
    OpS G Γ ⟨dst, op, ty, pos, aft, gd⟩ E (.tup []) [(k, .set (l ++ [m]))] (sl1 x ++ (sl1 y ++ sl1 z)) [k] :=
  OpS.turns hd fun E' hn h1 h2 S O β a w hs => by
    have hk' := (h2 k (by simp)).trans hk
    obtain ⟨b, cap, n, hbk, hxe⟩ := (hs.ev ((evo_congr fun t ht => h1 t (by simp [ht])).trans hx)).mp_inv
    have hye := hs.lit ((evo_congr fun t ht => h1 t (by simp [ht])).trans hy)
    have hze := hs.lit ((evo_congr fun t ht => h1 t (by simp [ht])).trans hz)
    obtain ⟨es, clock, hO, hg, h3, h4, hbo⟩ := hs.setAt hk' hbk
    obtain ⟨es', clock', hr, h5, h6⟩ := run_mapUpdate (G := G) (m := m) hg h3 h4 hbo ht hkt
    have hlt : b < w.heap.size := (hs.h.ow k b hO).1
    refine ⟨undef, { w with heap := w.heap.setIfInBounds b (.map es' clock') }, S, O, β, .inr ⟨?_, rfl⟩, .tup [] [] rfl (fun j c x hc => by simp at hc), hs.turn hO (by rw [hk']; simp) Fr_set (by simp) (.set (l ++ [m])) ⟨b, cap, n, es', clock', hbk, hO, ?_, h5, h6⟩⟩
    · rcases hop with rfl | rfl <;> simp only [execOp, hxe, hye, hze, Sem.run_bind, hr, Result.andThen_ok, Sem.run_pure]
    · simp [hlt]
end

section
variable {G : Prg} {Γ : Ctx} {ops : Array Oper} {fin : List Lg → Prop} {K : Env → Prop} {os : List Oper} {log : List Lg} {sl : List (Nat × AV)} {ob : List (Nat × AO)} {nn : Nat} {d : Nat} {ty : TypeId} {pos : String} {aft : Array Edge} {gd : Option (Nat × Bool)}
theorem u_makeMap {t : TypeId} (k : Nat) (hk : look ob k = none) (hp : k ∉ Γ.par) (hd : Nat.blt d nn = true) (hg : GOk ops sl nn gd)
    (kk' : VR G Γ ops fin K os (log ++ [⟨some d, gsl ops gd ++ [], [k], [k]⟩]) ⟨(d, .mp k) :: sl, (k, .set []) :: ob, nn⟩) : VR G Γ ops fin K (⟨some d, .makeMap t none, ty, pos, aft, gd⟩ :: os) log ⟨sl, ob, nn⟩ :=
  u_op (op_makeMap (G := G) (Γ := Γ) (E := ⟨sl, ob, nn⟩) (dst := some d) (ty := ty) (pos := pos) (aft := aft) (gd := gd) (kt := 0) (e := 0) k hk hp (dlt hd)) hg kk'
theorem u_lookup {t kt e : TypeId} {x y : Operand} {k : Nat} {l : List Int} {m : Int} (hx : evo (look sl) x = some (.mp k)) (hk : look ob k = some (.set l)) (hy : evo (look sl) y = some (.lit (.int .i64 m))) (ht : G.T.kind t = .map kt e) (hkt : G.T.kind kt = .int .i64) (he : G.T.kind e = .bool) (hz : ∀ w, (zeroValue e).run G.P w = .ok (.bool false) w) (hd : Nat.blt d nn = true) (hg : GOk ops sl nn gd)
    (kk' : VR G Γ ops fin K os (log ++ [⟨some d, gsl ops gd ++ (sl1 x ++ sl1 y), [k], []⟩]) ⟨(d, .lit (.bool (l.contains m))) :: sl, ob, nn⟩) : VR G Γ ops fin K (⟨some d, .lookup t x y false, ty, pos, aft, gd⟩ :: os) log ⟨sl, ob, nn⟩ :=
  u_op (op_lookup (G := G) (Γ := Γ) (E := ⟨sl, ob, nn⟩) (dst := some d) (ty := ty) (pos := pos) (aft := aft) (gd := gd) hx hk hy ht hkt he hz (dlt hd)) hg kk'
theorem s_lookup {t kt e : TypeId} {x y : Operand} {k : Nat} {l : List Int} {m : Int} (hx : evo (look sl) x = some (.mp k)) (hk : look ob k = some (.set l)) (hy : evo (look sl) y = some (.lit (.int .i64 m))) (ht : G.T.kind t = .map kt e) (hkt : G.T.kind kt = .int .i64) (he : G.T.kind e = .bool) (hz : ∀ w, (zeroValue e).run G.P w = .ok (.bool false) w) (hd : Nat.blt d nn = true) (hg : GOk ops sl nn gd)
    (hT : l.contains m = true → VR G Γ ops fin K os (log ++ [⟨some d, gsl ops gd ++ (sl1 x ++ sl1 y), [k], []⟩]) ⟨(d, .lit (.bool true)) :: sl, ob, nn⟩)
    (hF : l.contains m = false → VR G Γ ops fin K os (log ++ [⟨some d, gsl ops gd ++ (sl1 x ++ sl1 y), [k], []⟩]) ⟨(d, .lit (.bool false)) :: sl, ob, nn⟩) : VR G Γ ops fin K (⟨some d, .lookup t x y false, ty, pos, aft, gd⟩ :: os) log ⟨sl, ob, nn⟩ := by
  refine u_lookup hx hk hy ht hkt he hz hd hg ?_
  cases hb : l.contains m
  · exact hF hb
  · exact hT hb
theorem u_mapIns {op : Op} {t kt e : TypeId} {x y z : Operand} {k : Nat} {l : List Int} {m : Int} (hop : op = .mapUpdate t x y z ∨ op = .insert t x y z) (hx : evo (look sl) x = some (.mp k)) (hk : look ob k = some (.set l)) (hy : evo (look sl) y = some (.lit (.int .i64 m))) (hz : evo (look sl) z = some (.lit (.bool true))) (ht : G.T.kind t = .map kt e) (hkt : G.T.kind kt = .int .i64) (hg : GOk ops sl nn gd)
    (kk' : VR G Γ ops fin K os (log ++ [⟨none, gsl ops gd ++ (sl1 x ++ (sl1 y ++ sl1 z)), [k], [k]⟩]) ⟨sl, (k, .set (l ++ [m])) :: ob, nn⟩) : VR G Γ ops fin K (⟨none, op, ty, pos, aft, gd⟩ :: os) log ⟨sl, ob, nn⟩ :=
  u_op (op_mapIns (G := G) (Γ := Γ) (E := ⟨sl, ob, nn⟩) (dst := none) (ty := ty) (pos := pos) (aft := aft) (gd := gd) hop hx hk hy hz ht hkt dno) hg kk'
end
end Go.Vc
