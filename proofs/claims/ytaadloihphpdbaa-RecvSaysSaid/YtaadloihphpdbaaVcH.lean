/- Rows whose elements own rows; a row's header, as a value. -/
import Derived.Test.YtaadloihphpdbaaVcC
set_option linter.unusedVariables false
set_option linter.unusedSimpArgs false
namespace Go.Vc
open Go Go.RowKit

section
variable {G : Prg} {Γ : Ctx} {E : Env} {dst : Option Tmp} {ty : TypeId} {pos : String} {aft : Array Edge} {gd : Option (Nat × Bool)}
theorem op_storeRowV {t e : TypeId} {x y : Operand} {k sz i j : Nat} {xs : List (List AV)} {u : List AV} {v : AV} (hx : evo (look E.sl) x = some (.rptr k sz i j)) (hy : evo (look E.sl) y = some v) (hk : look E.ob k = some (.row e sz xs)) (hu : xs[i]? = some u)
    (hb : boxable v = true) (hl : (cellsOf v).length = G.T.size t) (ho : j + (cellsOf v).length ≤ sz) (ht : (G.T.kind t).known = true) (hd : ∀ d, dst = some d → d < E.n) :
    OpS G Γ ⟨dst, .store t x y, ty, pos, aft, gd⟩ E (.tup []) [(k, .rowv e sz (xs.set i (wrA u j (cellsOf v))))] (sl1 x ++ sl1 y) [k] :=
  OpS.turns hd fun E' hn h1 h2 S O β a w hs => by
    have hk' := (h2 k (by simp)).trans hk
    obtain ⟨b, cap, n, hbk, hxe⟩ := (hs.ev ((evo_congr fun t ht => h1 t (by simp [ht])).trans hx)).rptr_inv
    have hv := hs.ev ((evo_congr fun t ht => h1 t (by simp [ht])).trans hy)
    obtain ⟨vs, hn', hO, hg, hcap, hcm, hvl, hsz, hm, hr⟩ := hs.rowAt hk' hbk
    obtain ⟨c1, c2⟩ := hv.cells hb
    have c3 := hv.one_of hb
    have hi : i < xs.length := (List.getElem?_eq_some_iff.1 hu).1
    have hul : u.length = sz := hsz i u hu
    have hbd : i * sz + j + (a.eval y).cells.toList.length ≤ vs.length := by
      rw [c1, hvl]
      have := mul_add_lt (j := j + (cellsOf v).length) hi ho hcap
      omega
    have hst := run_storeN (P := G.P) w G.ok ht b (i * sz + j) (a.eval y) vs.toArray e (by rw [← Array.length_toList, c1, hl]) hg (by rw [← Array.length_toList]; simpa using hbd) c3
    have hold : ∀ (b' : Nat), S b' → S b' ∧ (w.setRow b (vs.take (i * sz + j) ++ (a.eval y).cells.toList ++ vs.drop (i * sz + j + (a.eval y).cells.toList.length)).toArray).heap[b']? = w.heap[b']? := fun b' hb' => ⟨hb', setRow_other w b b' _ (fun e => (hs.h.ow k b hO).2 (e ▸ hb'))⟩
    refine ⟨undef, _, S, O, β, .inr ⟨?_, rfl⟩, .tup [] [] rfl (fun j c x hc => by simp at hc), hs.turn hO (by rw [hk']; simp) (Fr_setRow w b (vs.take (i * sz + j) ++ (a.eval y).cells.toList ++ vs.drop (i * sz + j + (a.eval y).cells.toList.length)).toArray) (setRow_size w b _) _ ?_⟩
    · simp only [execOp, hxe, Sem.run_bind, hst, Result.andThen_ok, Sem.run_pure, List.toList_toArray, Array.length_toList]
    · refine ⟨?_, by simpa using hm, b, cap, _, by simpa [hn'] using hbk, hO, setRow_heap w b _ _ e _ hg, by simpa using hcap, hcm, ?_, ?_⟩
      · intro i' x' hx'
        rw [List.getElem?_set] at hx'
        split at hx'
        · cases hx'
          rw [wrA_eq _ _ _ (by omega)]
          simp only [List.length_append, List.length_take, List.length_drop]; omega
        · exact hsz i' x' hx'
      · simp only [List.length_append, List.length_take, List.length_drop]; omega
      · intro i' x' j' c hx' hc
        rw [List.getElem?_set] at hx'
        rw [getElem?_tad _ _ _ hbd]
        have hj'sz : j' < sz := by
          have hlc := (List.getElem?_eq_some_iff.1 hc).1
          split at hx'
          · cases hx'
            rw [wrA_eq _ _ _ (by omega)] at hlc
            simp only [List.length_append, List.length_take, List.length_drop] at hlc; omega
          · have := hsz i' x' hx'; omega
        by_cases hii : i = i'
        · subst hii
          rw [if_pos rfl] at hx'
          simp only [hi, if_true, Option.some.injEq] at hx'
          subst hx'
          rw [wrA_eq _ _ _ (by omega), getElem?_tad _ _ _ (by omega)] at hc
          by_cases hj : j' < j
          · rw [if_pos hj] at hc
            rw [if_pos (by omega)]
            obtain ⟨z, hz, hp⟩ := hr i u j' c hu hc
            exact ⟨z, hz, hp.one, .pure _ _ (hp.mono hold)⟩
          · rw [if_neg hj] at hc
            rw [if_neg (by omega)]
            by_cases hj2 : j' < j + (cellsOf v).length
            · rw [if_pos hj2] at hc
              rw [if_pos (by rw [c1]; omega)]
              have hlt : j' - j < (a.eval y).cells.toList.length := by rw [c1]; omega
              have hz : (a.eval y).cells.toList[j' - j]? = some (a.eval y).cells.toList[j' - j] := List.getElem?_eq_getElem hlt
              refine ⟨_, by rw [show i * sz + j' - (i * sz + j) = j' - j by omega]; exact hz, ?_⟩
              exact ⟨c3 _ (by simp), (c2 _ c _ hc hz).mono hold (fun _ _ h => h)⟩
            · rw [if_neg hj2] at hc
              rw [if_neg (by rw [c1]; omega)]
              obtain ⟨z, hz, hp⟩ := hr i u j' c hu hc
              exact ⟨z, hz, hp.one, .pure _ _ (hp.mono hold)⟩
        · rw [if_neg hii] at hx'
          obtain ⟨z, hz, hp⟩ := hr i' x' j' c hx' hc
          refine ⟨z, ?_, hp.one, .pure _ _ (hp.mono hold)⟩
          rw [← hz]
          have hw : ∀ q, q < (cellsOf v).length → i' * sz + j' ≠ i * sz + (j + q) := fun q hq => row_apart (Ne.symm hii) hj'sz (by omega)
          by_cases h3 : i' * sz + j' < i * sz + j
          · rw [if_pos h3]
          · rw [if_neg h3]
            by_cases h4 : i' * sz + j' < i * sz + j + (cellsOf v).length
            · exact absurd (show i' * sz + j' = i * sz + (j + (i' * sz + j' - (i * sz + j))) by omega) (hw _ (by omega))
            · rw [if_neg (by rw [c1]; exact h4)]
theorem SimAt.rowvAt {S : Nat → Prop} {O : Nat → Nat → Prop} {β : Beta} {E : Env} {a : Act} {w : World} (h : SimAt Γ S O β E a w) {k : Nat} {e : TypeId} {sz : Nat} {xs : List (List AV)} (hk : look E.ob k = some (.rowv e sz xs)) :
    ∃ (b cap : Nat) (vs : List Value), β k = some (.at b cap xs.length) ∧ O k b ∧ w.heap[b]? = some (.cells vs.toArray e (0, 0)) ∧
      ∀ (i : Nat) (x : List AV) (j : Nat) (c : AV), xs[i]? = some x → x[j]? = some c → ∃ v, vs[i * sz + j]? = some v ∧ v.oneCell' = true ∧ VRep S β w c v := by
  obtain ⟨h0, hm, b, cap, vs, h1, h2, h3, h4, h5, h6, h7⟩ := h.h.objs k _ hk
  exact ⟨b, cap, vs, h1, h2, h3, h7⟩
theorem op_loadRV {t e : TypeId} {x : Operand} {k sz i j : Nat} {xs : List (List AV)} {u : List AV} {v : AV} (hx : evo (look E.sl) x = some (.rptr k sz i j)) (hk : look E.ob k = some (.rowv e sz xs)) (hu : xs[i]? = some u) (hv : u[j]? = some v)
    (ht : (G.T.kind t).known = true) (ha : (G.T.kind t).agg = false) (hd : ∀ d, dst = some d → d < E.n) : OpS G Γ ⟨dst, .load t x, ty, pos, aft, gd⟩ E v [] (sl1 x) [k] :=
  OpS.val hd fun E' hn h1 h2 S O β a w hs => by
    obtain ⟨b, cap, n, hb, hxe⟩ := (hs.ev ((evo_congr h1).trans hx)).rptr_inv
    obtain ⟨b', cap', vs, hb', hO, hg, hr⟩ := hs.rowvAt ((h2 k (by simp)).trans hk)
    rw [hb] at hb'; cases hb'
    obtain ⟨y, hy, _, hp⟩ := hr i u j v hu hv
    refine ⟨y, ?_, hp⟩
    have := run_load1 (P := G.P) w G.ok ht ha b (i * sz + j) y (by rw [cell_of_row w b _ _ e (0, 0) hg, arr_get]; exact hy)
    simp [execOp, hxe, this]
theorem op_indexRV {t e e' : TypeId} {x y : Operand} {sz i k : Nat} {kk : IntKind} {z : Int} {xs : List (List AV)} (hx : evo (look E.sl) x = some (.row k)) (hy : evo (look E.sl) y = some (.lit (.int kk z))) (hk : look E.ob k = some (.rowv e' sz xs)) (ht : G.T.kind t = .slice e) (he : (G.T.kind e).known = true) (hsz : G.T.size e = sz)
    (hz : z = i) (hu : i < xs.length) (hd : ∀ d, dst = some d → d < E.n) : OpS G Γ ⟨dst, .indexAddr t x y, ty, pos, aft, gd⟩ E (.rptr k sz i 0) [] (sl1 x ++ sl1 y) [k] :=
  OpS.val hd fun E' hn h1 h2 S O β a w hs' => by
    have hye := hs'.lit ((evo_congr fun t ht => h1 t (by simp [ht])).trans hy)
    obtain ⟨l, hl, hxe⟩ := (hs'.ev ((evo_congr fun t ht => h1 t (by simp [ht])).trans hx)).row_inv
    obtain ⟨b, cap, vs, hb, _⟩ := hs'.rowvAt ((h2 k (by simp)).trans hk)
    rw [hb] at hl; cases hl
    refine ⟨.pointer (some ⟨b, i * sz + 0, none⟩), ?_, .rptr k sz i 0 b cap _ hb⟩
    have := run_indexSlice (G := G) ht he b 0 xs.length cap kk i hu w
    rw [hsz] at this
    simp [execOp, hxe, hye, hz, Loc.slice, this]
theorem op_lenRV {t : TypeId} {x : Operand} {k sz : Nat} {xs : List (List AV)} {e e' : TypeId} (hx : evo (look E.sl) x = some (.row k)) (hk : look E.ob k = some (.rowv e' sz xs)) (ht : G.T.kind t = .slice e) (hd : ∀ d, dst = some d → d < E.n) :
    OpS G Γ ⟨dst, .call { callee := .builtin .len, args := #[x], argTypes := #[t] }, ty, pos, aft, gd⟩ E (.lit (.int .i64 xs.length)) [] (sl1 x) [k] :=
  OpS.val hd fun E' hn h1 h2 S O β a w hs => by
    obtain ⟨l, hl, hxe⟩ := (hs.ev ((evo_congr h1).trans hx)).row_inv
    obtain ⟨b, cap, vs, hb, _⟩ := hs.rowvAt ((h2 k (by simp)).trans hk)
    rw [hb] at hl; cases hl
    exact ⟨.int .i64 xs.length, by simp [execOp, resolve, invoke, builtin, hxe, Loc.slice, Builtin.len_, run_underlying (underlying_slice G.ok ht), goInt], .pure _ _ (.lit _ rfl)⟩
end

section
variable {G : Prg} {Γ : Ctx} {ops : Array Oper} {fin : List Lg → Prop} {K : Env → Prop} {os : List Oper} {log : List Lg} {sl : List (Nat × AV)} {ob : List (Nat × AO)} {nn : Nat} {d : Nat} {ty : TypeId} {pos : String} {aft : Array Edge} {gd : Option (Nat × Bool)}
theorem u_loadRV {t e : TypeId} {x : Operand} {k sz i j : Nat} {xs : List (List AV)} {u : List AV} {v : AV} (hx : evo (look sl) x = some (.rptr k sz i j)) (hk : look ob k = some (.rowv e sz xs)) (hu : xs[i]? = some u) (hv : u[j]? = some v) (hkn : (G.T.kind t).known = true) (ha : (G.T.kind t).agg = false) (hd : Nat.blt d nn = true) (hg : GOk ops sl nn gd) (kk' : VR G Γ ops fin K os (log ++ [⟨some d, gsl ops gd ++ (sl1 x), [k], []⟩]) ⟨(d, v) :: sl, ob, nn⟩) : VR G Γ ops fin K (⟨some d, .load t x, ty, pos, aft, gd⟩ :: os) log ⟨sl, ob, nn⟩ := by
  exact u_op (op_loadRV (G := G) (Γ := Γ) (E := ⟨sl, ob, nn⟩) (dst := some d) (ty := ty) (pos := pos) (aft := aft) (gd := gd) hx hk hu hv hkn ha (dlt hd)) hg kk'
theorem u_indexRV {t e e' : TypeId} {x y : Operand} {sz i k : Nat} {kk : IntKind} {z : Int} {xs : List (List AV)} (hx : evo (look sl) x = some (.row k)) (hy : evo (look sl) y = some (.lit (.int kk z))) (hk : look ob k = some (.rowv e' sz xs)) (ht : G.T.kind t = .slice e) (he : (G.T.kind e).known = true) (hsz : G.T.size e = sz) (hz : z = i) (hu : i < xs.length) (hd : Nat.blt d nn = true) (hg : GOk ops sl nn gd) (kk' : VR G Γ ops fin K os (log ++ [⟨some d, gsl ops gd ++ (sl1 x ++ sl1 y), [k], []⟩]) ⟨(d, .rptr k sz i 0) :: sl, ob, nn⟩) : VR G Γ ops fin K (⟨some d, .indexAddr t x y, ty, pos, aft, gd⟩ :: os) log ⟨sl, ob, nn⟩ := by
  exact u_op (op_indexRV (G := G) (Γ := Γ) (E := ⟨sl, ob, nn⟩) (dst := some d) (ty := ty) (pos := pos) (aft := aft) (gd := gd) hx hy hk ht he hsz hz hu (dlt hd)) hg kk'
theorem u_lenRV {t e e' : TypeId} {x : Operand} {k sz : Nat} {xs : List (List AV)} (hx : evo (look sl) x = some (.row k)) (hk : look ob k = some (.rowv e' sz xs)) (ht : G.T.kind t = .slice e) (hd : Nat.blt d nn = true) (hg : GOk ops sl nn gd) (kk' : VR G Γ ops fin K os (log ++ [⟨some d, gsl ops gd ++ (sl1 x), [k], []⟩]) ⟨(d, .lit (.int .i64 xs.length)) :: sl, ob, nn⟩) : VR G Γ ops fin K (⟨some d, .call { callee := .builtin .len, args := #[x], argTypes := #[t] }, ty, pos, aft, gd⟩ :: os) log ⟨sl, ob, nn⟩ := by
  exact u_op (op_lenRV (G := G) (Γ := Γ) (E := ⟨sl, ob, nn⟩) (dst := some d) (ty := ty) (pos := pos) (aft := aft) (gd := gd) hx hk ht (dlt hd)) hg kk'
theorem u_storeRowV {t e : TypeId} {x y : Operand} {k sz i j : Nat} {xs : List (List AV)} {u : List AV} {v : AV} (hx : evo (look sl) x = some (.rptr k sz i j)) (hy : evo (look sl) y = some (v)) (hk : look ob k = some (.row e sz xs)) (hu : xs[i]? = some u) (hb : boxable v = true) (hl : (cellsOf v).length = G.T.size t) (ho : Nat.ble (j + (cellsOf v).length) sz = true) (hkn : (G.T.kind t).known = true) (hg : GOk ops sl nn gd) (kk' : VR G Γ ops fin K os (log ++ [⟨none, gsl ops gd ++ (sl1 x ++ sl1 y), [k], [k]⟩]) ⟨sl, (k, .rowv e sz (xs.set i (wrA u j (cellsOf v)))) :: ob, nn⟩) : VR G Γ ops fin K (⟨none, .store t x y, ty, pos, aft, gd⟩ :: os) log ⟨sl, ob, nn⟩ := by
  exact u_op (op_storeRowV (G := G) (Γ := Γ) (E := ⟨sl, ob, nn⟩) (dst := none) (ty := ty) (pos := pos) (aft := aft) (gd := gd) hx hy hk hu hb hl (Nat.le_of_ble_eq_true ho) hkn dno) hg kk'
end

section
variable {G : Prg} {Γ : Ctx} {Q : Exit → Env → Prop}
/-- The rest of a region, from any world that is as E is. -/
def VX (G : Prg) (Γ : Ctx) (ops : Array Oper) (Q : Exit → Env → Prop) (os : List Oper) (E : Env) : Prop :=
  ∀ a w, Sim Γ E a w → wpList G.P ops (fun e a' w' => ∃ E', Q e E' ∧ Sim Γ E' a' w') os a w
theorem VX.of {ops : Array Oper} {os : List Oper} {log : List Lg} {E : Env} (h : VR G Γ ops (fun _ => True) (Q .normal) os log E) : VX G Γ ops Q os E := VR.list (fun _ h => h) os log E h
theorem VR.mid {ops : Array Oper} {os2 : List Oper} : ∀ (os : List Oper) (log : List Lg) (E : Env), VR G Γ ops (fun _ => True) (fun E1 => VX G Γ ops Q os2 E1) os log E → VX G Γ ops Q (os ++ os2) E := by
  intro os
  induction os with
  | nil => intro log E h; exact h.2
  | cons o os ih =>
    intro log E h a w hs
    obtain ⟨val, upd, rs, ro, hg, hr⟩ := h
    exact hg.sound rfl (fun _ _ => rfl) (fun _ _ => rfl) hs fun a' w' hs' => ih _ _ hr a' w' hs'
theorem vw_regionMid {id : Nat} {l : List Oper} {E : Env} (n : Nat) (h : VR G Γ l.toArray (fun _ => True) (fun E1 => VX G Γ l.toArray Q (l.drop n) E1) (l.take n) [] E) : VW G Γ (.region id l.toArray false) Q E :=
  fun a w hs => wp_region_lit (by have := VR.mid (l.take n) [] E h a w hs; rwa [List.take_append_drop] at this)
theorem Loc.one (l : Loc) : l.slice.oneCell' = true := by cases l <;> rfl
/-- The objects, one of them seen otherwise. -/
theorem HRep.put {S : Nat → Prop} {O : Nat → Nat → Prop} {β : Beta} {w : World} {ob : List (Nat × AO)} (h : HRep S O β w ob) {k : Nat} {o : AO} (hk : look ob k ≠ none) (ho : ORep S O β w k o) : HRep S O β w ((k, o) :: ob) := by
  refine ⟨h.sh, h.ow, h.dj, fun j hj => ?_, fun j o' hj => ?_⟩
  · rw [look_cons] at hj
    by_cases e : k = j
    · rw [if_pos e] at hj; cases hj
    · rw [if_neg e] at hj; exact h.dom j hj
  · rw [look_cons] at hj
    by_cases e : k = j
    · rw [if_pos e] at hj; cases hj; subst e; exact ho
    · rw [if_neg e] at hj; exact h.objs j o' hj
theorem SimAt.putOb {S : Nat → Prop} {O : Nat → Nat → Prop} {β : Beta} {E : Env} {a : Act} {w : World} (h : SimAt Γ S O β E a w) {k : Nat} {o : AO} (hk : look E.ob k ≠ none) (ho : ORep S O β w k o) : SimAt Γ S O β ⟨E.sl, (k, o) :: E.ob, E.n⟩ a w := by
  refine ⟨h.h.put hk ho, h.sl, h.n, h.df, h.s0, h.s1, h.o1, fun j hj hn => h.b0 j hj fun e => ?_, h.fr⟩
  by_cases hjk : k = j
  · subst hjk; exact hk e
  · apply hn
    show look ((k, o) :: E.ob) j = none
    rw [look_cons, if_neg hjk]; exact e
theorem simHdr {E : Env} {a : Act} {w : World} {t k : Nat} {e : TypeId} {sz : Nat} {xs : List (List AV)} (ht : look E.sl t = some (.row k)) (hk : look E.ob k = some (.row e sz xs)) (h : Sim Γ E a w) : ∃ hdr, Sim Γ ⟨(t, .lit hdr) :: E.sl, (k, .rowh hdr e sz xs) :: E.ob, E.n⟩ a w := by
  obtain ⟨S, O, β, hs⟩ := h
  obtain ⟨l, hl, hx⟩ := (hs.sl t _ ht).row_inv
  have h1 := hs.putOb (k := k) (o := .rowh l.slice e sz xs) (by rw [hk]; simp) ⟨⟨l, hl, rfl⟩, hs.h.objs k _ hk⟩
  refine ⟨l.slice, S, O, β, ⟨h1.h, fun t' v hv => ?_, h1.n, h1.df, h1.s0, h1.s1, h1.o1, h1.b0, h1.fr⟩⟩
  have hv' : look ((t, AV.lit l.slice) :: E.sl) t' = some v := hv
  rw [look_cons] at hv'
  by_cases he : t = t'
  · rw [if_pos he] at hv'; cases hv'; subst he
    rw [hx]; exact .pure _ _ (.lit _ l.one)
  · rw [if_neg he] at hv'; exact hs.sl t' v hv'
theorem vx_hdr {ops : Array Oper} {os : List Oper} {sl : List (Nat × AV)} {ob : List (Nat × AO)} {nn t k : Nat} {e : TypeId} {sz : Nat} {xs : List (List AV)} (ht : look sl t = some (.row k)) (hk : look ob k = some (.row e sz xs)) (h : ∀ hdr, VX G Γ ops Q os ⟨(t, .lit hdr) :: sl, (k, .rowh hdr e sz xs) :: ob, nn⟩) : VX G Γ ops Q os ⟨sl, ob, nn⟩ :=
  fun a w hs => let ⟨hdr, h1⟩ := simHdr (E := ⟨sl, ob, nn⟩) ht hk hs; h hdr a w h1
/-- A row one of whose cells is a row's header owns that row. -/
theorem vw_unhdr {c : Code} {E : Env} {k1 k2 n : Nat} {hdr : Value} {e1 e : TypeId} {sz : Nat} {xs ys : List (List AV)} (h1 : look E.ob k1 = some (.row e1 1 xs)) (h2 : look E.ob k2 = some (.rowh hdr e sz ys)) (h12 : k1 ≠ k2) (hn : xs[n]? = some [.lit hdr])
    (h : VW G Γ c Q ⟨E.sl, (k1, .rowv e1 1 (xs.set n [.row k2])) :: (k2, .row e sz ys) :: E.ob, E.n⟩) : VW G Γ c Q E := by
  rintro a w ⟨S, O, β, hs⟩
  obtain ⟨⟨l, hl, hh⟩, hr⟩ := hs.h.objs k2 _ h2
  have g1 := hs.putOb (k := k2) (o := .row e sz ys) (by rw [h2]; simp) hr
  have h1' : look ((k2, AO.row e sz ys) :: E.ob) k1 = some (.row e1 1 xs) := by rw [look_cons, if_neg (Ne.symm h12)]; exact h1
  have hnl : n < xs.length := (List.getElem?_eq_some_iff.1 hn).1
  obtain ⟨h0, hm, hr1⟩ := hs.h.objs k1 _ h1
  rcases hr1 with ⟨_, e0⟩ | ⟨b, cap, vs, q1, q2, q3, q4, q5, q6, q7⟩
  · rw [e0] at hnl; simp at hnl
  · refine h a w ⟨S, O, β, g1.putOb (k := k1) (by rw [h1']; simp) ⟨fun i x hx => ?_, by simpa using hm, b, cap, vs, by simpa using q1, q2, q3, by simpa using q4, q5, q6, fun i x j c hx hc => ?_⟩⟩
    · rw [List.getElem?_set] at hx
      split at hx
      · rename_i hni
        subst hni
        simp only [hnl, if_true, Option.some.injEq] at hx
        subst hx; rfl
      · exact h0 i x hx
    · rw [List.getElem?_set] at hx
      split at hx
      · rename_i hni
        subst hni
        simp only [hnl, if_true, Option.some.injEq] at hx
        subst hx
        cases j with
        | zero =>
          simp at hc; subst hc
          obtain ⟨v, hv, hp⟩ := q7 n _ 0 (.lit hdr) hn rfl
          have : v = hdr := by cases hp; rfl
          subst this
          refine ⟨v, hv, hp.one, ?_⟩
          rw [← hh]; exact .row k2 l hl
        | succ j => simp at hc
      · obtain ⟨v, hv, hp⟩ := q7 i x j c hx hc
        exact ⟨v, hv, hp.one, .pure _ _ hp⟩
/-- What is nil may be seen as an empty slice. -/
inductive See : AV → AV → Prop
  | same (c : AV) : See c c
  | nil (sz : Nat) : See (.shr sz []) (.lit (.slice none 0 0))
theorem vw_see {c : Code} {E : Env} (k : Nat) {e : TypeId} {sz : Nat} {xs : List (List AV)} (ys : List (List AV)) (h1 : look E.ob k = some (.row e sz xs)) (hs : F2 (F2 See) ys xs) (h : VW G Γ c Q ⟨E.sl, (k, .row e sz ys) :: E.ob, E.n⟩) : VW G Γ c Q E := by
  rintro a w ⟨S, O, β, hS⟩
  refine h a w ⟨S, O, β, hS.putOb (by rw [h1]; simp) ?_⟩
  obtain ⟨h0, hm, hr⟩ := hS.h.objs k _ h1
  have hl := hs.length
  refine ⟨fun i x hx => ?_, by omega, ?_⟩
  · obtain ⟨x0, hx0, hf⟩ := hs.get i x hx
    rw [hf.length]; exact h0 i x0 hx0
  · rcases hr with ⟨q1, e0⟩ | ⟨b, cap, vs, q1, q2, q3, q4, q5, q6, q7⟩
    · exact .inl ⟨q1, List.eq_nil_of_length_eq_zero (by rw [hl, e0]; rfl)⟩
    · refine .inr ⟨b, cap, vs, by rw [hl]; exact q1, q2, q3, by omega, q5, q6, fun i x j d hx hd => ?_⟩
      obtain ⟨x0, hx0, hf⟩ := hs.get i x hx
      obtain ⟨d0, hd0, hsee⟩ := hf.get j d hd
      obtain ⟨v, hv, hp⟩ := q7 i x0 j d0 hx0 hd0
      refine ⟨v, hv, ?_⟩
      cases hsee with
      | same => exact hp
      | nil sz' => cases hp; exact .nil sz'
theorem F2.rep {α γ : Type} {R : α → γ → Prop} {x : α} {y : γ} (h : R x y) : ∀ n, F2 R (List.replicate n x) (List.replicate n y)
  | 0 => .nil
  | n + 1 => .cons h (F2.rep h n)
end
end Go.Vc
