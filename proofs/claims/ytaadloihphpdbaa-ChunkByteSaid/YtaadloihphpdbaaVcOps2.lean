/- Stores, addresses. -/
import Derived.Test.YtaadloihphpdbaaVcOps
set_option linter.unusedSimpArgs false
set_option linter.unusedVariables false
namespace Go.Vc
open Go Go.RowKit

section
variable {G : Prg} {Γ : Ctx} {E : Env} {dst : Option Tmp} {ty : TypeId} {pos : String} {aft : Array Edge} {gd : Option (Nat × Bool)}

theorem op_store {t : TypeId} {x y : Operand} {k off : Nat} {cs cs' : List AV} {v : AV} (hx : evo (look E.sl) x = some (.ptr k off)) (hy : evo (look E.sl) y = some v) (hk : look E.ob k = some (.box cs))
    (hb : boxable v = true) (hl : (cellsOf v).length = G.T.size t) (ho : off + (cellsOf v).length ≤ cs.length) (hc' : cs' = wrA cs off (cellsOf v)) (ht : (G.T.kind t).known = true) (hd : ∀ d, dst = some d → d < E.n) :
    OpS G Γ ⟨dst, .store t x y, ty, pos, aft, gd⟩ E (.tup []) [(k, .box cs')] (sl1 x ++ sl1 y) [k] :=
  OpS.turns hd fun E' hn h1 h2 S O β a w hs => by
    have hk' := (h2 k (by simp)).trans hk
    obtain ⟨b, cap, n, hbk, hxe⟩ := (hs.ev ((evo_congr fun t ht => h1 t (by simp [ht])).trans hx)).ptr_inv
    have hv := hs.ev ((evo_congr fun t ht => h1 t (by simp [ht])).trans hy)
    obtain ⟨t', vs, hO, hg, hlv, hr, hone⟩ := hs.boxAt hk' hbk
    obtain ⟨c1, c2⟩ := hv.cells hb
    have c3 := hv.one_of hb
    have hst := run_storeN (P := G.P) w G.ok ht b off (a.eval y) vs.toArray t' (by rw [← Array.length_toList, c1, hl]) hg (by rw [← Array.length_toList, c1]; simp; omega) c3
    have hle : off + (a.eval y).cells.toList.length ≤ vs.length := by rw [c1]; omega
    refine ⟨undef, _, S, O, β, .inr ⟨?_, rfl⟩, .tup [] [] rfl (fun j c x hc => by simp at hc), hs.wrBox hk' hO hbk hg cs' (vs.take off ++ (a.eval y).cells.toList ++ vs.drop (off + (a.eval y).cells.toList.length)) ?_ ?_ ?_⟩
    · simp only [execOp, hxe, Sem.run_bind, hst, Result.andThen_ok, Sem.run_pure, List.toList_toArray, Array.length_toList]
    · rw [hc', wrA_eq _ _ _ ho]; simp only [List.length_append, List.length_take, List.length_drop]; omega
    · intro j c z hc hz
      rw [hc', wrA_eq _ _ _ ho, getElem?_tad _ _ _ ho] at hc
      rw [getElem?_tad _ _ _ hle] at hz
      by_cases hj : j < off
      · rw [if_pos hj] at hc hz; exact hr j c z hc hz
      · rw [if_neg hj] at hc hz
        rw [c1] at hz
        by_cases hj2 : j < off + (cellsOf v).length
        · rw [if_pos hj2] at hc hz; exact c2 _ c z hc hz
        · rw [if_neg hj2] at hc hz; exact hr j c z hc hz
    · intro z hz
      simp only [List.mem_append] at hz
      rcases hz with (hz | hz) | hz
      · exact hone z (List.mem_of_mem_take hz)
      · exact c3 z hz
      · exact hone z (List.mem_of_mem_drop hz)

theorem op_storeAll {t : TypeId} {x y : Operand} {k : Nat} {cs : List AV} {v : AV} (hx : evo (look E.sl) x = some (.ptr k 0)) (hy : evo (look E.sl) y = some v) (hk : look E.ob k = some (.box cs))
    (hb : boxable v = true) (hl : (cellsOf v).length = G.T.size t) (ho : (cellsOf v).length = cs.length) (ht : (G.T.kind t).known = true) (hd : ∀ d, dst = some d → d < E.n) :
    OpS G Γ ⟨dst, .store t x y, ty, pos, aft, gd⟩ E (.tup []) [(k, .box (cellsOf v))] (sl1 x ++ sl1 y) [k] :=
  op_store (off := 0) hx hy hk hb hl (by omega) (by rw [wrA_eq _ _ _ (by omega), List.take_zero, List.nil_append, List.drop_eq_nil_of_le (by omega), List.append_nil]) ht hd

theorem mul_add_lt {i n j sz cap : Nat} (hi : i < n) (hj : j ≤ sz) (hc : n ≤ cap) : i * sz + j ≤ cap * sz := by
  have h1 : (i + 1) * sz ≤ cap * sz := Nat.mul_le_mul_right _ (by omega)
  rw [Nat.add_mul, Nat.one_mul] at h1
  omega

theorem row_apart {i i' j j' sz : Nat} (h : i ≠ i') (hj : j < sz) (hj' : j' < sz) : i * sz + j ≠ i' * sz + j' := by
  intro e
  rcases Nat.lt_or_ge i i' with hl | hl
  · have h1 : (i + 1) * sz ≤ i' * sz := Nat.mul_le_mul_right _ hl
    rw [Nat.add_mul, Nat.one_mul] at h1
    omega
  · have h1 : (i' + 1) * sz ≤ i * sz := Nat.mul_le_mul_right _ (by omega)
    rw [Nat.add_mul, Nat.one_mul] at h1
    omega

theorem op_storeRow {t e : TypeId} {x y : Operand} {k sz i j : Nat} {xs : List (List AV)} {u : List AV} {v : AV} (hx : evo (look E.sl) x = some (.rptr k sz i j)) (hy : evo (look E.sl) y = some v) (hk : look E.ob k = some (.row e sz xs)) (hu : xs[i]? = some u)
    (hb : boxable v = true) (hP : ∀ c ∈ cellsOf v, isP c = true) (hl : (cellsOf v).length = G.T.size t) (ho : j + (cellsOf v).length ≤ sz) (ht : (G.T.kind t).known = true) (hd : ∀ d, dst = some d → d < E.n) :
    OpS G Γ ⟨dst, .store t x y, ty, pos, aft, gd⟩ E (.tup []) [(k, .row e sz (xs.set i (wrA u j (cellsOf v))))] (sl1 x ++ sl1 y) [k] :=
  OpS.turns hd fun E' hn h1 h2 S O β a w hs => by
    have hk' := (h2 k (by simp)).trans hk
    obtain ⟨b, cap, n, hbk, hxe⟩ := (hs.ev ((evo_congr fun t ht => h1 t (by simp [ht])).trans hx)).rptr_inv
    have hv := hs.ev ((evo_congr fun t ht => h1 t (by simp [ht])).trans hy)
    obtain ⟨vs, hn', hO, hg, hcap, hcm, hvl, hsz, hm, hr⟩ := hs.rowAt hk' hbk
    obtain ⟨c1, c2⟩ := hv.cells hb
    have c3 := hv.one_of hb
    have hi : i < xs.length := (List.getElem?_eq_some_iff.1 hu).1
    have hul : u.length = sz := hsz i u hu
    have hbd : i * sz + j + (a.eval y).cells.toList.length ≤ vs.length := by
      rw [c1, hvl]
      have := mul_add_lt (j := j + (cellsOf v).length) hi ho hcap
      omega
    have hst := run_storeN (P := G.P) w G.ok ht b (i * sz + j) (a.eval y) vs.toArray e (by rw [← Array.length_toList, c1, hl]) hg (by rw [← Array.length_toList]; simpa using hbd) c3
    have hold : ∀ (b' : Nat), S b' → S b' ∧ (w.setRow b (vs.take (i * sz + j) ++ (a.eval y).cells.toList ++ vs.drop (i * sz + j + (a.eval y).cells.toList.length)).toArray).heap[b']? = w.heap[b']? := fun b' hb' => ⟨hb', setRow_other w b b' _ (fun e => (hs.h.ow k b hO).2 (e ▸ hb'))⟩
    refine ⟨undef, _, S, O, β, .inr ⟨?_, rfl⟩, .tup [] [] rfl (fun j c x hc => by simp at hc), hs.turn hO (by rw [hk']; simp) (Fr_setRow w b (vs.take (i * sz + j) ++ (a.eval y).cells.toList ++ vs.drop (i * sz + j + (a.eval y).cells.toList.length)).toArray) (setRow_size w b _) _ ?_⟩
    · simp only [execOp, hxe, Sem.run_bind, hst, Result.andThen_ok, Sem.run_pure, List.toList_toArray, Array.length_toList]
    · refine ⟨?_, by simpa using hm, .inr ⟨b, cap, _, by simpa [hn'] using hbk, hO, setRow_heap w b _ _ e _ hg, by simpa using hcap, hcm, ?_, ?_⟩⟩
      · intro i' x' hx'
        rw [List.getElem?_set] at hx'
        split at hx'
        · cases hx'
          rw [wrA_eq _ _ _ (by omega)]
          simp only [List.length_append, List.length_take, List.length_drop]; omega
        · exact hsz i' x' hx'
      · simp only [List.length_append, List.length_take, List.length_drop]; omega
      · intro i' x' j' c hx' hc
        rw [List.getElem?_set] at hx'
        rw [getElem?_tad _ _ _ hbd]
        have hj'sz : j' < sz := by
          have hlc := (List.getElem?_eq_some_iff.1 hc).1
          split at hx'
          · cases hx'
            rw [wrA_eq _ _ _ (by omega)] at hlc
            simp only [List.length_append, List.length_take, List.length_drop] at hlc; omega
          · have := hsz i' x' hx'; omega
        by_cases hii : i = i'
        · subst hii
          rw [if_pos rfl] at hx'
          simp only [hi, if_true, Option.some.injEq] at hx'
          subst hx'
          rw [wrA_eq _ _ _ (by omega), getElem?_tad _ _ _ (by omega)] at hc
          by_cases hj : j' < j
          · rw [if_pos hj] at hc
            rw [if_pos (by omega)]
            obtain ⟨z, hz, hp⟩ := hr i u j' c hu hc
            exact ⟨z, hz, hp.mono hold⟩
          · rw [if_neg hj] at hc
            rw [if_neg (by omega)]
            by_cases hj2 : j' < j + (cellsOf v).length
            · rw [if_pos hj2] at hc
              rw [if_pos (by rw [c1]; omega)]
              have hlt : j' - j < (a.eval y).cells.toList.length := by rw [c1]; omega
              have hz : (a.eval y).cells.toList[j' - j]? = some (a.eval y).cells.toList[j' - j] := List.getElem?_eq_getElem hlt
              refine ⟨_, by rw [show i * sz + j' - (i * sz + j) = j' - j by omega]; exact hz, ?_⟩
              exact ((c2 _ c _ hc hz).toP (hP c (List.mem_of_getElem? hc))).mono hold
            · rw [if_neg hj2] at hc
              rw [if_neg (by rw [c1]; omega)]
              obtain ⟨z, hz, hp⟩ := hr i u j' c hu hc
              exact ⟨z, hz, hp.mono hold⟩
        · rw [if_neg hii] at hx'
          obtain ⟨z, hz, hp⟩ := hr i' x' j' c hx' hc
          refine ⟨z, ?_, hp.mono hold⟩
          rw [← hz]
          have hw : ∀ q, q < (cellsOf v).length → i' * sz + j' ≠ i * sz + (j + q) := fun q hq => row_apart (Ne.symm hii) hj'sz (by omega)
          by_cases h3 : i' * sz + j' < i * sz + j
          · rw [if_pos h3]
          · rw [if_neg h3]
            by_cases h4 : i' * sz + j' < i * sz + j + (cellsOf v).length
            · exact absurd (show i' * sz + j' = i * sz + (j + (i' * sz + j' - (i * sz + j))) by omega) (hw _ (by omega))
            · rw [if_neg (by rw [c1]; exact h4)]

/-! Addresses -/
theorem field_of {fs : List (Nat × TypeId)} {f off : Nat} {ft : TypeId} (hf : fs[f]? = some (off, ft)) {gs : Array Field} (hg : gs.toList.map (fun f => (f.offset, f.type)) = fs) : ∃ fl, gs[f]? = some fl ∧ fl.offset = off ∧ fl.type = ft := by
  subst hg
  rw [List.getElem?_map] at hf
  cases h : gs.toList[f]? with
  | none => rw [h] at hf; simp at hf
  | some fl =>
    rw [h] at hf
    simp at hf
    exact ⟨fl, by simpa using h, hf.1, hf.2⟩

theorem run_fieldAt {s : TypeId} {fs : List (Nat × TypeId)} (hs : G.T.kind s = .struct fs) {f off : Nat} {ft : TypeId} (hf : fs[f]? = some (off, ft)) (ht : (G.T.kind ft).known = true) (hz : G.T.size ft ≠ 0) (b o : Nat) (w : World) :
    (Instr.fieldAt s (.pointer (some ⟨b, o, none⟩)) f).run G.P w = .ok (.pointer (some ⟨b, o + off, none⟩)) w := by
  obtain ⟨gs, hu, hg⟩ := underlying_struct G.ok hs
  obtain ⟨fl, h1, h2, h3⟩ := field_of hf hg
  simp [Instr.fieldAt, run_underlying hu, h1, Instr.sureAddr, fieldPlace, h3, run_sizeOf G.ok w ht, hz, h2, add_none]

theorem op_fieldAddr {s : TypeId} {x : Operand} {f k o off : Nat} {fs : List (Nat × TypeId)} {ft : TypeId} (hx : evo (look E.sl) x = some (.ptr k o)) (hs : G.T.kind s = .struct fs) (hf : fs[f]? = some (off, ft)) (ht : (G.T.kind ft).known = true) (hz : G.T.size ft ≠ 0)
    (hd : ∀ d, dst = some d → d < E.n) : OpS G Γ ⟨dst, .fieldAddr s x f, ty, pos, aft, gd⟩ E (.ptr k (o + off)) [] (sl1 x) [] :=
  OpS.val hd fun E' hn h1 h2 S O β a w hs' => by
    obtain ⟨b, cap, n, hb, hxe⟩ := (hs'.ev ((evo_congr h1).trans hx)).ptr_inv
    exact ⟨_, by simp [execOp, hxe, run_fieldAt hs hf ht hz], .ptr k (o + off) b cap n hb⟩

theorem op_fieldAddrR {s : TypeId} {x : Operand} {f k sz i j off : Nat} {fs : List (Nat × TypeId)} {ft : TypeId} (hx : evo (look E.sl) x = some (.rptr k sz i j)) (hs : G.T.kind s = .struct fs) (hf : fs[f]? = some (off, ft)) (ht : (G.T.kind ft).known = true) (hz : G.T.size ft ≠ 0)
    (hd : ∀ d, dst = some d → d < E.n) : OpS G Γ ⟨dst, .fieldAddr s x f, ty, pos, aft, gd⟩ E (.rptr k sz i (j + off)) [] (sl1 x) [] :=
  OpS.val hd fun E' hn h1 h2 S O β a w hs' => by
    obtain ⟨b, cap, n, hb, hxe⟩ := (hs'.ev ((evo_congr h1).trans hx)).rptr_inv
    exact ⟨.pointer (some ⟨b, i * sz + (j + off), none⟩), by simp [execOp, hxe, run_fieldAt hs hf ht hz, Nat.add_assoc], .rptr k sz i (j + off) b cap n hb⟩

theorem VRep.sptr_drop {S : Nat → Prop} {β : Beta} {w : World} {cs : List AV} {b off : Nat} {f : Nat → Value} (hb : S b) (hc : ∀ (j : Nat) (c : AV), cs[j]? = some c → w.cell? ⟨b, off + j, none⟩ = some (f j)) (hp : ∀ (j : Nat) (c : AV), cs[j]? = some c → PRep S w c (f j)) (m : Nat) :
    VRep S β w (.sptr (cs.drop m)) (.pointer (some ⟨b, off + m, none⟩)) :=
  .sptr _ b (off + m) (fun j => f (m + j)) hb (fun j c h => by rw [List.getElem?_drop] at h; rw [Nat.add_assoc]; exact hc _ c h) (fun j c h => by rw [List.getElem?_drop] at h; exact hp _ c h)

theorem op_fieldAddrS {s : TypeId} {x : Operand} {f off : Nat} {cs : List AV} {fs : List (Nat × TypeId)} {ft : TypeId} (hx : evo (look E.sl) x = some (.sptr cs)) (hs : G.T.kind s = .struct fs) (hf : fs[f]? = some (off, ft)) (ht : (G.T.kind ft).known = true) (hz : G.T.size ft ≠ 0)
    (hd : ∀ d, dst = some d → d < E.n) : OpS G Γ ⟨dst, .fieldAddr s x f, ty, pos, aft, gd⟩ E (.sptr (cs.drop off)) [] (sl1 x) [] :=
  OpS.val hd fun E' hn h1 h2 S O β a w hs' => by
    obtain ⟨b, o, g, hxe, hb, hc, hp⟩ := (hs'.ev ((evo_congr h1).trans hx)).sptr_inv
    exact ⟨_, by simp [execOp, hxe, run_fieldAt hs hf ht hz], VRep.sptr_drop hb hc hp off⟩

theorem run_indexSlice {t e : TypeId} (ht : G.T.kind t = .slice e) (he : (G.T.kind e).known = true) (b o len cap : Nat) (k : IntKind) (i : Nat) (hi : i < len) (w : World) :
    (Instr.indexAt t (.slice (some ⟨b, o, none⟩) len cap) (.int k i)).run G.P w = .ok (.pointer (some ⟨b, o + i * G.T.size e, none⟩)) w := by
  have h1 : (0 : Int) ≤ (i : Int) ∧ (i : Int) < (len : Int) := by omega
  simp [Instr.indexAt, run_underlying (underlying_slice G.ok ht), asIntOf, hi, run_sizeOf G.ok w he, add_none]

theorem op_indexS {t e : TypeId} {x y : Operand} {sz i : Nat} {kk : IntKind} {z : Int} {xs : List (List AV)} {u : List AV} (hx : evo (look E.sl) x = some (.shr sz xs)) (hy : evo (look E.sl) y = some (.lit (.int kk z))) (ht : G.T.kind t = .slice e) (he : (G.T.kind e).known = true) (hsz : G.T.size e = sz)
    (hz : z = i) (hu : xs[i]? = some u) (hd : ∀ d, dst = some d → d < E.n) : OpS G Γ ⟨dst, .indexAddr t x y, ty, pos, aft, gd⟩ E (.sptr u) [] (sl1 x ++ sl1 y) [] :=
  OpS.val hd fun E' hn h1 h2 S O β a w hs' => by
    have hye := hs'.lit ((evo_congr fun t ht => h1 t (by simp [ht])).trans hy)
    have hi : i < xs.length := (List.getElem?_eq_some_iff.1 hu).1
    rcases (hs'.ev ((evo_congr fun t ht => h1 t (by simp [ht])).trans hx)).shr_inv with ⟨_, rfl⟩ | ⟨_, _, rfl⟩ | ⟨b, o, cap, g, hxe, hb, hcap, hm, hl, hc, hp⟩
    · simp at hi
    · simp at hi
    · refine ⟨.pointer (some ⟨b, o + i * sz, none⟩), ?_, .sptr u b (o + i * sz) (g i) hb (fun j c h => by rw [Nat.add_assoc]; exact hc i u j c hu h) (fun j c h => hp i u j c hu h)⟩
      have := run_indexSlice (G := G) ht he b o xs.length cap kk i hi w
      rw [hsz] at this
      simp [execOp, hxe, hye, hz, this]

theorem op_indexR {t e e' : TypeId} {x y : Operand} {sz i k : Nat} {kk : IntKind} {z : Int} {xs : List (List AV)} (hx : evo (look E.sl) x = some (.row k)) (hy : evo (look E.sl) y = some (.lit (.int kk z))) (hk : look E.ob k = some (.row e' sz xs)) (ht : G.T.kind t = .slice e) (he : (G.T.kind e).known = true) (hsz : G.T.size e = sz)
    (hz : z = i) (hu : i < xs.length) (hd : ∀ d, dst = some d → d < E.n) : OpS G Γ ⟨dst, .indexAddr t x y, ty, pos, aft, gd⟩ E (.rptr k sz i 0) [] (sl1 x ++ sl1 y) [k] :=
  OpS.val hd fun E' hn h1 h2 S O β a w hs' => by
    have hye := hs'.lit ((evo_congr fun t ht => h1 t (by simp [ht])).trans hy)
    obtain ⟨l, hl, hxe⟩ := (hs'.ev ((evo_congr fun t ht => h1 t (by simp [ht])).trans hx)).row_inv
    have hk' := (h2 k (by simp)).trans hk
    cases l with
    | nil =>
      obtain ⟨_, _, hr⟩ := hs'.h.objs k _ hk'
      rcases hr with ⟨_, rfl⟩ | ⟨b, cap, vs, h5, _⟩
      · simp at hu
      · rw [hl] at h5; cases h5
    | «at» b cap n =>
      obtain ⟨vs, rfl, _⟩ := hs'.rowAt hk' hl
      refine ⟨.pointer (some ⟨b, i * sz + 0, none⟩), ?_, .rptr k sz i 0 b cap _ hl⟩
      have := run_indexSlice (G := G) ht he b 0 xs.length cap kk i hu w
      rw [hsz] at this
      simp [execOp, hxe, hye, hz, Loc.slice, this]

theorem run_indexArr {t e : TypeId} {len : Nat} (ht : G.T.kind t = .arr len e) (he : (G.T.kind e).known = true) (b o : Nat) (k : IntKind) (i : Nat) (hi : i < len) (w : World) :
    (Instr.indexAt t (.pointer (some ⟨b, o, none⟩)) (.int k i)).run G.P w = .ok (.pointer (some ⟨b, o + i * G.T.size e, none⟩)) w := by
  simp [Instr.indexAt, run_underlying (underlying_arr G.ok ht), asIntOf, hi, run_sizeOf G.ok w he, add_none, Instr.sureAddr]

theorem op_indexA {t e : TypeId} {x y : Operand} {len i k o : Nat} {kk : IntKind} {z : Int} (hx : evo (look E.sl) x = some (.ptr k o)) (hy : evo (look E.sl) y = some (.lit (.int kk z))) (ht : G.T.kind t = .arr len e) (he : (G.T.kind e).known = true)
    (hz : z = i) (hu : i < len) (hd : ∀ d, dst = some d → d < E.n) : OpS G Γ ⟨dst, .indexAddr t x y, ty, pos, aft, gd⟩ E (.ptr k (o + i * G.T.size e)) [] (sl1 x ++ sl1 y) [] :=
  OpS.val hd fun E' hn h1 h2 S O β a w hs' => by
    have hye := hs'.lit ((evo_congr fun t ht => h1 t (by simp [ht])).trans hy)
    obtain ⟨b, cap, n, hb, hxe⟩ := (hs'.ev ((evo_congr fun t ht => h1 t (by simp [ht])).trans hx)).ptr_inv
    exact ⟨_, by simp [execOp, hxe, hye, hz, run_indexArr ht he b o kk i hu w], .ptr k _ b cap n hb⟩

theorem op_indexAS {t e : TypeId} {x y : Operand} {len i : Nat} {cs : List AV} {kk : IntKind} {z : Int} (hx : evo (look E.sl) x = some (.sptr cs)) (hy : evo (look E.sl) y = some (.lit (.int kk z))) (ht : G.T.kind t = .arr len e) (he : (G.T.kind e).known = true)
    (hz : z = i) (hu : i < len) (hd : ∀ d, dst = some d → d < E.n) : OpS G Γ ⟨dst, .indexAddr t x y, ty, pos, aft, gd⟩ E (.sptr (cs.drop (i * G.T.size e))) [] (sl1 x ++ sl1 y) [] :=
  OpS.val hd fun E' hn h1 h2 S O β a w hs' => by
    have hye := hs'.lit ((evo_congr fun t ht => h1 t (by simp [ht])).trans hy)
    obtain ⟨b, o, g, hxe, hb, hc, hp⟩ := (hs'.ev ((evo_congr fun t ht => h1 t (by simp [ht])).trans hx)).sptr_inv
    exact ⟨_, by simp [execOp, hxe, hye, hz, run_indexArr ht he b o kk i hu w], VRep.sptr_drop hb hc hp _⟩
end
end Go.Vc
