/- Ranges over maps: the iterator, what next hands out, and the entry behind it. -/
import Derived.Test.YtaadloihphpdbaaVcM
import Derived.Test.YtaadloihphpdbaaVcH
import Derived.Laws.IdiomRangeMap
set_option linter.unusedVariables false
set_option linter.unusedSimpArgs false
namespace Go.Vc
open Go Go.RowKit
theorem run_next_at {P : Program} (w : World) (ty : TypeId) (r bm since c0 : Nat) (seen : Array Nat) (es : Array MapEntry) (clock : Nat) (hr : w.heap[r]? = some (.mapIter (some bm) since seen c0)) (hb : w.heap[bm]? = some (.map es clock))
    (hold : ∀ x ∈ es.toList, x.born < since) (hsc : since ≤ c0) :
    ((leftOf es seen).size = 0 ∧ (Instr.next (.pointer (some ⟨r, 0, none⟩)) false ty).run P w = .ok (.tuple #[.bool false]) w) ∨
    ∃ e ∈ (leftOf es seen).toList, ∃ w1 : World, (w1 = w ∨ w1 = w.drew) ∧ (Instr.next (.pointer (some ⟨r, 0, none⟩)) false ty).run P w = .ok (.tuple #[.bool true, e.key, e.val]) { w1 with heap := w1.heap.setIfInBounds r (.mapIter (some bm) since (seen.push e.born) clock) } := by
  simp only [Instr.next, getObj, Sem.run_bind, Sem.run, hr, hb, Result.andThen, next_test_false seen es since c0 hold hsc, Bool.false_eq_true, if_false]
  unfold leftOf
  have hmem : ∀ x ∈ (Array.filter (fun e => !seen.contains e.born) es).toList, x.born < since := fun x hx => hold x (by simp at hx ⊢; exact hx.1)
  generalize Array.filter (fun e => !seen.contains e.born) es = L at hmem ⊢
  have e1 : L.filter (fun x => decide (x.born < since)) = L := Array.filter_eq_self.2 (fun x hx => by simpa using hmem x (by simpa using hx))
  have e2 : L.filter (fun x => decide (x.born ≥ since)) = #[] := by
    rw [Array.filter_eq_empty_iff]
    intro x hx
    have := hmem x (by simpa using hx)
    simp
    omega
  simp only [e1, e2, Array.append_empty]
  by_cases h0 : L.size = 0
  · left
    have : L = #[] := Array.eq_empty_of_size_eq_zero h0
    subst this
    refine ⟨rfl, ?_⟩
    simp [choose, Sem.run, Question.forced]
  · right
    have hne : L.isEmpty = false := by simp [Array.isEmpty, h0]
    simp only [hne, Bool.false_eq_true, if_false, Array.empty_append, Array.size_map]
    have hch : ∃ (j : Nat) (w1 : World), j < L.size ∧ (w1 = w ∨ w1 = w.drew) ∧ (choose (Question.mapNext L.size)).run P w = .ok j w1 := by
      by_cases hf : L.size ≤ 1
      · exact ⟨0, w, by omega, .inl rfl, by simp [choose, Sem.run, Question.forced, hf]⟩
      · exact ⟨_, w.drew, Nat.mod_lt _ (by omega), .inr rfl, by
          simp only [choose, Sem.run, Question.forced, decide_eq_true_eq, hf, if_false, Question.cut]
          rfl⟩
    obtain ⟨j, w1, hj, hal, hrun⟩ := hch
    refine ⟨L[j], by simp, w1, hal, ?_⟩
    have hh : w1.heap = w.heap := by rcases hal with rfl | rfl <;> rfl
    have hset : ∀ (o' : Obj), (setObj r o').run P w1 = .ok () { w1 with heap := w1.heap.setIfInBounds r o' } := fun o' => by
      simp only [setObj, Sem.run]
      rw [hh, hr]
    simp only [hrun, Array.getElem?_map, Array.getElem?_eq_getElem hj, Option.map_some, Sem.run_bind, hset, Result.andThen]
    rfl
theorem run_entry_at {P : Program} (w : World) (r bm since : Nat) (seen : Array Nat) (es : Array MapEntry) (clock : Nat) (e : MapEntry) (hr : w.heap[r]? = some (.mapIter (some bm) since (seen.push e.born) clock)) (hb : w.heap[bm]? = some (.map es clock)) (he : e ∈ es.toList) (hn : (es.toList.map (·.born)).Nodup) :
    (Instr.entry (.pointer (some ⟨r, 0, none⟩))).run P w = .ok (.tuple #[e.key, e.val]) w := by
  have hf : es.find? (·.born == e.born) = some e := by rw [← Array.find?_toList]; exact find_born e es.toList hn he
  simp only [Instr.entry, getObj, Sem.run_bind, Sem.run, hr, hb, Result.andThen, Array.back?_push, bne_self_eq_false, Bool.false_eq_true, if_false, hf]
  rfl
def mapP (mb : Nat) (es : Array MapEntry) (clock : Nat) : Nat → Obj → Prop := fun b o => b = mb ∧ o = .map es clock
def itP (mb since : Nat) (seen : Array Nat) (c0 : Nat) : Nat → Obj → Prop := fun _ o => o = .mapIter (some mb) since seen c0
theorem VRep.tup1 {S : Nat → Prop} {β : Beta} {w : World} {c : AV} {x : Value} (h : VRep S β w c x) : VRep S β w (.tup [c]) (.tuple #[x]) :=
  .tup [c] [x] rfl fun j c' x' hc hx => by
    match j with
    | 0 => simp at hc hx; subst hc; subst hx; exact h
    | j + 1 => simp at hc
theorem VRep.tup2 {S : Nat → Prop} {β : Beta} {w : World} {c d : AV} {x y : Value} (h : VRep S β w c x) (h2 : VRep S β w d y) : VRep S β w (.tup [c, d]) (.tuple #[x, y]) :=
  .tup [c, d] [x, y] rfl fun j c' x' hc hx => by
    match j with
    | 0 => simp at hc hx; subst hc; subst hx; exact h
    | 1 => simp at hc hx; subst hc; subst hx; exact h2
    | j + 2 => simp at hc
theorem VRep.tup3 {S : Nat → Prop} {β : Beta} {w : World} {c d e : AV} {x y z : Value} (h : VRep S β w c x) (h2 : VRep S β w d y) (h3 : VRep S β w e z) : VRep S β w (.tup [c, d, e]) (.tuple #[x, y, z]) :=
  .tup [c, d, e] [x, y, z] rfl fun j c' x' hc hx => by
    match j with
    | 0 => simp at hc hx; subst hc; subst hx; exact h
    | 1 => simp at hc hx; subst hc; subst hx; exact h2
    | 2 => simp at hc hx; subst hc; subst hx; exact h3
    | j + 3 => simp at hc
section
variable {G : Prg} {Γ : Ctx} {E : Env} {Q : Exit → Env → Prop}
theorem vw_openSet {c : Code} {k : Nat} {l : List Int} (hk : look E.ob k = some (.set l))
    (h : ∀ (mb : Nat) (es : Array MapEntry) (clock : Nat), (∀ e ∈ es.toList, ∃ m ∈ l, e.key = .int .i64 m ∧ e.val = .bool true) → (∀ m ∈ l, ∃ e ∈ es.toList, e.key = .int .i64 m) → BornOk es clock → VW G Γ c Q ⟨E.sl, (k, .raw (mapP mb es clock)) :: E.ob, E.n⟩) : VW G Γ c Q E := by
  rintro a w ⟨S, O, β, hs⟩
  obtain ⟨b, cap, n, es, clock, h1, h2, h3, h4, h5, h6⟩ := hs.h.objs k _ hk
  exact h b es clock h4 h5 h6 a w ⟨S, O, β, hs.putOb (by rw [hk]; simp) ⟨b, cap, n, _, h1, h2, h3, rfl, rfl⟩⟩
theorem vw_closeSet {c : Code} {k mb clock : Nat} {es : Array MapEntry} {l : List Int} (hk : look E.ob k = some (.raw (mapP mb es clock)))
    (h4 : ∀ e ∈ es.toList, ∃ m ∈ l, e.key = .int .i64 m ∧ e.val = .bool true) (h5 : ∀ m ∈ l, ∃ e ∈ es.toList, e.key = .int .i64 m) (h6 : BornOk es clock) (h : VW G Γ c Q ⟨E.sl, (k, .set l) :: E.ob, E.n⟩) : VW G Γ c Q E := by
  rintro a w ⟨S, O, β, hs⟩
  obtain ⟨b, cap, n, o, h1, h2, h3, rfl, rfl⟩ := hs.h.objs k _ hk
  exact h a w ⟨S, O, β, hs.putOb (by rw [hk]; simp) ⟨b, cap, n, es, clock, h1, h2, h3, h4, h5, h6⟩⟩
end
section
variable {G : Prg} {Γ : Ctx} {E : Env} {dst : Option Tmp} {ty : TypeId} {pos : String} {aft : Array Edge} {gd : Option (Nat × Bool)}
theorem op_range {t kt e : TypeId} {x : Operand} {k k2 mb clock : Nat} {es : Array MapEntry} (hx : evo (look E.sl) x = some (.mp k)) (hk : look E.ob k = some (.raw (mapP mb es clock))) (hk2 : look E.ob k2 = none) (hp : k2 ∉ Γ.par)
    (ht : G.T.kind t = .map kt e) (hd : ∀ d, dst = some d → d < E.n) :
    OpS G Γ ⟨dst, .range t x, ty, pos, aft, gd⟩ E (.ptr k2 0) [(k2, .raw (itP mb clock #[] clock))] (sl1 x) [k, k2] :=
  OpS.turns hd fun E' hn h1 h2 S O β a w hs => by
    have hk' := (h2 k (by simp)).trans hk
    have hk2' : look E'.ob k2 = none := (h2 k2 (by simp)).trans hk2
    obtain ⟨b, cap, n, hbk, hxe⟩ := (hs.ev ((evo_congr h1).trans hx)).mp_inv
    obtain ⟨b', cap', n', o, g1, g2, g3, rfl, rfl⟩ := hs.h.objs k _ hk'
    rw [hbk] at g1; cases g1
    have hn' := hs.alloc hk2' hp (.mapIter (some b) clock #[] clock) (.at w.heap.size 0 0) (.raw (itP b clock #[] clock)) ⟨w.heap.size, 0, 0, _, addB_same _ _ _, .inr ⟨rfl, rfl⟩, heap_alloc_new w _, rfl⟩
    refine ⟨.pointer (some ⟨w.heap.size, 0, none⟩), _, S, _, _, .inl ?_, .ptr k2 0 w.heap.size 0 0 (addB_same _ _ _), hn'⟩
    simp only [execOp, hxe, Sem.run_bind, run_range_map w t kt e b es clock (underlying_map G.ok ht) g3, Result.andThen_ok, Sem.run_pure]
theorem op_entry {x : Operand} {k k2 mb since clock : Nat} {seen : Array Nat} {es : Array MapEntry} {en : MapEntry} {m : Int} (hx : evo (look E.sl) x = some (.ptr k2 0)) (hk2 : look E.ob k2 = some (.raw (itP mb since (seen.push en.born) clock))) (hk : look E.ob k = some (.raw (mapP mb es clock)))
    (he : en ∈ es.toList) (hb : BornOk es clock) (hm : en.key = .int .i64 m) (hv : en.val = .bool true) (hd : ∀ d, dst = some d → d < E.n) :
    OpS G Γ ⟨dst, .entry x, ty, pos, aft, gd⟩ E (.tup [.lit (.int .i64 m), .lit (.bool true)]) [] (sl1 x) [k, k2] :=
  OpS.val hd fun E' hn h1 h2 S O β a w hs => by
    have hk' := (h2 k (by simp)).trans hk
    have hk2' := (h2 k2 (by simp)).trans hk2
    obtain ⟨b, cap, n, hbk, hxe⟩ := (hs.ev ((evo_congr h1).trans hx)).ptr_inv
    obtain ⟨b', cap', n', o, g1, g2, g3, rfl⟩ := hs.h.objs k2 _ hk2'
    rw [hbk] at g1; cases g1
    obtain ⟨b1, cap1, n1, o1, q1, q2, q3, rfl, rfl⟩ := hs.h.objs k _ hk'
    refine ⟨.tuple #[.int .i64 m, .bool true], ?_, .tup2 (.pure _ _ (.lit _ rfl)) (.pure _ _ (.lit _ rfl))⟩
    have := run_entry_at (P := G.P) w b b1 since seen es clock en g3 q3 he hb.2
    rw [hm, hv] at this
    simp only [execOp, hxe, Sem.run_bind, this, Result.andThen_ok, Sem.run_pure]
end
section
variable {G : Prg} {Γ : Ctx} {E : Env} {Q : Exit → Env → Prop}
theorem Fr_it {w w1 : World} (h : w1 = w ∨ w1 = w.drew) {b : Nat} {o : Obj} : Fr (fun c => c = b) w { w1 with heap := w1.heap.setIfInBounds b o } := by
  have hh : w1.heap = w.heap := by rcases h with rfl | rfl <;> rfl
  have ho : w1.os = w.os := by rcases h with rfl | rfl <;> rfl
  have ht : w1.tape = w.tape := by rcases h with rfl | rfl <;> rfl
  have hp : w1.output = w.output := by rcases h with rfl | rfl <;> rfl
  exact ⟨ho, ht, hp, by simp [hh], fun c _ hc => by simp [hh, Array.getElem?_setIfInBounds, Ne.symm hc]⟩
theorem vx_next {ops : Array Oper} {os : List Oper} {x : Operand} {d k k2 mb since c0 clock : Nat} {seen : Array Nat} {es : Array MapEntry} {ty : TypeId} {pos : String} {aft : Array Edge}
    (hx : evo (look E.sl) x = some (.ptr k2 0)) (hk2 : look E.ob k2 = some (.raw (itP mb since seen c0))) (hk : look E.ob k = some (.raw (mapP mb es clock))) (hold : ∀ x ∈ es.toList, x.born < since) (hsc : since ≤ c0)
    (hkv : ∀ e ∈ es.toList, ∃ m : Int, e.key = .int .i64 m ∧ e.val = .bool true) (hd : d < E.n)
    (h0 : (leftOf es seen).size = 0 → VX G Γ ops Q os ⟨(d, .tup [.lit (.bool false)]) :: E.sl, E.ob, E.n⟩)
    (h1 : ∀ e ∈ (leftOf es seen).toList, ∀ m : Int, e.key = .int .i64 m → e.val = .bool true → VX G Γ ops Q os ⟨(d, .tup [.lit (.bool true), .lit (.int .i64 m), .lit (.bool true)]) :: E.sl, (k2, .raw (itP mb since (seen.push e.born) clock)) :: E.ob, E.n⟩) :
    VX G Γ ops Q (⟨some d, .next x false, ty, pos, aft, none⟩ :: os) E := by
  rintro a w ⟨S, O, β, hs⟩
  obtain ⟨b, cap, n, hbk, hxe⟩ := (hs.ev hx).ptr_inv
  obtain ⟨b', cap', n', o, g1, g2, g3, rfl⟩ := hs.h.objs k2 _ hk2
  rw [hbk] at g1; cases g1
  obtain ⟨b1, cap1, n1, o1, q1, q2, q3, rfl, rfl⟩ := hs.h.objs k _ hk
  unfold wpList
  rw [if_pos (by simp [Region.wanted])]
  refine .inl ?_
  unfold Oper.wp
  rcases run_next_at (P := G.P) w ty b b1 since c0 seen es clock g3 q3 hold hsc with ⟨hl, hr⟩ | ⟨e, he, w1, hw1, hr⟩
  · have hrun : (execOp a.eval ⟨some d, .next x false, ty, pos, aft, none⟩).run G.P w = .ok (.value (.tuple #[.bool false])) w := by
      simp only [execOp, hxe, Sem.run_bind, hr, Result.andThen_ok, Sem.run_pure]
    rw [hrun, Oper.upon_value]
    exact h0 hl _ _ ⟨S, O, β, hs.put (VRep.tup1 (.pure _ _ (.lit _ rfl))) (dst := some d) (fun d' h => by cases h; exact hd)⟩
  · have hmem : e ∈ es.toList := by
      have := he
      unfold leftOf at this
      simp at this
      simpa using this.1
    obtain ⟨m, hm, hv⟩ := hkv e hmem
    have hlt : b < w.heap.size := (hs.h.ow k2 b g2).1
    have hh : w1.heap = w.heap := by rcases hw1 with rfl | rfl <;> rfl
    have hs' := hs.turn g2 (by rw [hk2]; simp) (Fr_it hw1 (o := .mapIter (some b1) since (seen.push e.born) clock)) (by simp [hh]) (.raw (itP b1 since (seen.push e.born) clock)) ⟨b, cap, n, _, hbk, g2, by simp [hh, hlt], rfl⟩
    have hrun : (execOp a.eval ⟨some d, .next x false, ty, pos, aft, none⟩).run G.P w = .ok (.value (.tuple #[.bool true, .int .i64 m, .bool true])) { w1 with heap := w1.heap.setIfInBounds b (.mapIter (some b1) since (seen.push e.born) clock) } := by
      rw [hm, hv] at hr
      simp only [execOp, hxe, Sem.run_bind, hr, Result.andThen_ok, Sem.run_pure]
    rw [hrun, Oper.upon_value]
    exact h1 e he m hm hv _ _ ⟨S, O, β, hs'.put (VRep.tup3 (.pure _ _ (.lit _ rfl)) (.pure _ _ (.lit _ rfl)) (.pure _ _ (.lit _ rfl))) (dst := some d) (fun d' h => by cases h; exact hd)⟩
end
section
variable {G : Prg} {Γ : Ctx} {ops : Array Oper} {fin : List Lg → Prop} {K : Env → Prop} {os : List Oper} {log : List Lg} {sl : List (Nat × AV)} {ob : List (Nat × AO)} {nn : Nat} {d : Nat} {ty : TypeId} {pos : String} {aft : Array Edge} {gd : Option (Nat × Bool)}
theorem u_range {t kt e : TypeId} {x : Operand} {k mb clock : Nat} {es : Array MapEntry} (k2 : Nat) (hx : evo (look sl) x = some (.mp k)) (hk : look ob k = some (.raw (mapP mb es clock))) (hk2 : look ob k2 = none) (hp : k2 ∉ Γ.par) (ht : G.T.kind t = .map kt e) (hd : Nat.blt d nn = true) (hg : GOk ops sl nn gd)
    (kk' : VR G Γ ops fin K os (log ++ [⟨some d, gsl ops gd ++ (sl1 x), [k, k2], [k2]⟩]) ⟨(d, .ptr k2 0) :: sl, (k2, .raw (itP mb clock #[] clock)) :: ob, nn⟩) : VR G Γ ops fin K (⟨some d, .range t x, ty, pos, aft, gd⟩ :: os) log ⟨sl, ob, nn⟩ :=
  u_op (op_range (G := G) (Γ := Γ) (E := ⟨sl, ob, nn⟩) (dst := some d) (ty := ty) (pos := pos) (aft := aft) (gd := gd) hx hk hk2 hp ht (dlt hd)) hg kk'
theorem u_entry {x : Operand} {k k2 mb since clock : Nat} {seen : Array Nat} {es : Array MapEntry} {en : MapEntry} {m : Int} (hx : evo (look sl) x = some (.ptr k2 0)) (hk2 : look ob k2 = some (.raw (itP mb since (seen.push en.born) clock))) (hk : look ob k = some (.raw (mapP mb es clock)))
    (he : en ∈ es.toList) (hb : BornOk es clock) (hm : en.key = .int .i64 m) (hv : en.val = .bool true) (hd : Nat.blt d nn = true) (hg : GOk ops sl nn gd)
    (kk' : VR G Γ ops fin K os (log ++ [⟨some d, gsl ops gd ++ (sl1 x), [k, k2], []⟩]) ⟨(d, .tup [.lit (.int .i64 m), .lit (.bool true)]) :: sl, ob, nn⟩) : VR G Γ ops fin K (⟨some d, .entry x, ty, pos, aft, gd⟩ :: os) log ⟨sl, ob, nn⟩ :=
  u_op (op_entry (G := G) (Γ := Γ) (E := ⟨sl, ob, nn⟩) (dst := some d) (ty := ty) (pos := pos) (aft := aft) (gd := gd) hx hk2 hk he hb hm hv (dlt hd)) hg kk'
end
end Go.Vc
