/- Parts of a row that is owned: slices over it, moved together, cleared, cut off. -/
import Derived.Test.YtaadloihphpdbaaVcLend
set_option linter.unusedVariables false
set_option linter.unusedSimpArgs false
namespace Go.Vc
open Go Go.RowKit

theorem lt_mul_of {i n j sz : Nat} (hi : i < n) (hj : j < sz) : i * sz + j < n * sz := by
  have h1 : (i + 1) * sz ≤ n * sz := Nat.mul_le_mul_right _ hi
  rw [Nat.add_mul, Nat.one_mul] at h1; omega

section
variable {G : Prg} {Γ : Ctx} {S : Nat → Prop} {O : Nat → Nat → Prop} {β : Beta} {E : Env} {a : Act} {w : World}

/-- Elements of a row, written over. -/
theorem SimAt.overRow (h : SimAt Γ S O β E a w) {k : Nat} {e : TypeId} {sz : Nat} {xs : List (List AV)} (hk : look E.ob k = some (.row e sz xs)) {b cap n : Nat} (hb : β k = some (.at b cap n)) (i : Nat) (ys : List (List AV)) (zs : List Value)
    (hil : i + ys.length ≤ xs.length) (hzl : zs.length = ys.length * sz) (hsy : ∀ (i : Nat) (y : List AV), ys[i]? = some y → y.length = sz)
    (hz : ∀ (i : Nat) (y : List AV) (j : Nat) (c : AV), ys[i]? = some y → y[j]? = some c → ∃ v, zs[i * sz + j]? = some v ∧ PRep S w c v) {vs : List Value} (hg : w.heap[b]? = some (.cells vs.toArray e (0, 0))) :
    SimAt Γ S O β ⟨E.sl, (k, .row e sz (xs.take i ++ ys ++ xs.drop (i + ys.length))) :: E.ob, E.n⟩ a (w.setRow b (vs.take (i * sz) ++ zs ++ vs.drop (i * sz + zs.length)).toArray) := by
  obtain ⟨vs', hn, hO, hg', hcap, hcm, hvl, hsz, hm, hr⟩ := h.rowAt hk hb
  rw [hg] at hg'
  obtain rfl : vs = vs' := by
    have := Option.some.inj hg'
    injection this with h1
    simpa using congrArg Array.toList h1
  have hold : ∀ (b' : Nat), S b' → S b' ∧ (w.setRow b (vs.take (i * sz) ++ zs ++ vs.drop (i * sz + zs.length)).toArray).heap[b']? = w.heap[b']? := fun b' hb' => ⟨hb', setRow_other w b b' _ (fun e => (h.h.ow k b hO).2 (e ▸ hb'))⟩
  have hle : i * sz + zs.length ≤ vs.length := by
    rw [hzl, ← Nat.add_mul, hvl]; exact Nat.mul_le_mul_right _ (by omega)
  refine h.turn hO (by rw [hk]; simp) (Fr_setRow w b _) (setRow_size w b _) _ ?_
  have hlen : (xs.take i ++ ys ++ xs.drop (i + ys.length)).length = xs.length := by
    simp only [List.length_append, List.length_take, List.length_drop]; omega
  refine ⟨?_, by rw [hlen]; exact hm, .inr ⟨b, cap, _, by rw [hlen, ← hn]; exact hb, hO, setRow_heap w b _ _ e _ hg, by rw [hlen]; exact hcap, hcm, ?_, ?_⟩⟩
  · intro q x hx
    rw [getElem?_tad _ _ _ hil] at hx
    split at hx
    · exact hsz q x hx
    · split at hx
      · exact hsy _ x hx
      · exact hsz q x hx
  · simp only [List.length_append, List.length_take, List.length_drop]; omega
  · intro q x j c hx hc
    have hxl : x.length = sz := by
      rw [getElem?_tad _ _ _ hil] at hx
      split at hx
      · exact hsz q x hx
      · split at hx
        · exact hsy _ x hx
        · exact hsz q x hx
    have hj : j < sz := by have := (List.getElem?_eq_some_iff.1 hc).1; omega
    rw [getElem?_tad _ _ _ hle]
    rw [getElem?_tad _ _ _ hil] at hx
    by_cases h1 : q < i
    · rw [if_pos h1] at hx
      rw [if_pos (lt_mul_of h1 hj)]
      obtain ⟨v, hv, hp⟩ := hr q x j c hx hc
      exact ⟨v, hv, hp.mono hold⟩
    · rw [if_neg h1] at hx
      have h1' : ¬ q * sz + j < i * sz := by have := Nat.mul_le_mul_right sz (Nat.le_of_not_lt h1); omega
      rw [if_neg h1']
      by_cases h2 : q < i + ys.length
      · rw [if_pos h2] at hx
        have h3 := lt_mul_of h2 hj
        rw [Nat.add_mul, ← hzl] at h3
        rw [if_pos h3]
        obtain ⟨v, hv, hp⟩ := hz (q - i) x j c hx hc
        refine ⟨v, ?_, hp.mono hold⟩
        rw [← hv]; congr 1
        rw [Nat.sub_mul]
        have := Nat.mul_le_mul_right sz (Nat.le_of_not_lt h1); omega
      · rw [if_neg h2] at hx
        have h3 := Nat.mul_le_mul_right sz (Nat.le_of_not_lt h2)
        rw [Nat.add_mul, ← hzl] at h3
        rw [if_neg (by omega)]
        obtain ⟨v, hv, hp⟩ := hr q x j c hx hc
        exact ⟨v, hv, hp.mono hold⟩

theorem SimAt.rowNe (h : SimAt Γ S O β E a w) {k : Nat} {e : TypeId} {sz : Nat} {xs : List (List AV)} (hk : look E.ob k = some (.row e sz xs)) (hne : 0 < xs.length) {l : Loc} (hl : β k = some l) : ∃ b cap, l = .at b cap xs.length := by
  obtain ⟨_, _, hr⟩ := h.h.objs k _ hk
  rcases hr with ⟨_, rfl⟩ | ⟨b, cap, vs, h5, _⟩
  · simp at hne
  · rw [hl] at h5; cases h5; exact ⟨b, cap, rfl⟩
end

section
variable {G : Prg} {Γ : Ctx} {E : Env} {dst : Option Tmp} {ty : TypeId} {pos : String} {aft : Array Edge} {gd : Option (Nat × Bool)}

theorem cut_addr (cap l b sz : Nat) : (if cap = l then (some ⟨b, 0, none⟩ : Option Addr) else (some ⟨b, 0, none⟩ : Option Addr).map (·.add (l * sz))) = some ⟨b, if cap = l then 0 else l * sz, none⟩ := by
  split
  · rfl
  · simp [add_none]

theorem op_sliceR {t e e' : TypeId} {x : Operand} {lo hi : Option Operand} {k sz l h : Nat} {xs : List (List AV)} (hx : evo (look E.sl) x = some (.row k)) (hk : look E.ob k = some (.row e' sz xs)) (hne : 0 < xs.length) (hlo : evB (look E.sl) lo 0 l) (hhi : evB (look E.sl) hi xs.length h) (hlh : l ≤ h) (hh : h ≤ xs.length)
    (ht : G.T.kind t = .slice e) (he : (G.T.kind e).known = true) (hsz : G.T.size e = sz) (hd : ∀ d, dst = some d → d < E.n) : OpS G Γ ⟨dst, .slice t x lo hi none, ty, pos, aft, gd⟩ E (.rsl k sz l h) [] (sl1 x ++ slO lo ++ slO hi) [k] :=
  OpS.val hd fun E' hn h1 h2 S O β a w hs => by
    have hk' := (h2 k (by simp)).trans hk
    have hlo' : lo.map a.eval = some (.int .i64 l) ∨ (lo.map a.eval = none ∧ l = 0) := by
      cases lo with
      | none => exact .inr ⟨rfl, hlo⟩
      | some y => exact .inl (by rw [Option.map_some, hs.lit ((evo_congr fun t ht => h1 t (by simp [slO, ht])).trans hlo)])
    have hhi' : hi.map a.eval = some (.int .i64 h) ∨ (hi.map a.eval = none ∧ h = xs.length) := by
      cases hi with
      | none => exact .inr ⟨rfl, hhi⟩
      | some y => exact .inl (by rw [Option.map_some, hs.lit ((evo_congr fun t ht => h1 t (by simp [slO, ht])).trans hhi)])
    obtain ⟨l0, hl, hxe⟩ := (hs.ev ((evo_congr fun t ht => h1 t (by simp [ht])).trans hx)).row_inv
    obtain ⟨b, cap, rfl⟩ := hs.rowNe hk' hne hl
    obtain ⟨vs, _, hO, hg, hcap, _⟩ := hs.rowAt hk' hl
    have := run_cut (G := G) ht he (some ⟨b, 0, none⟩) xs.length cap (lo.map a.eval) (hi.map a.eval) l h hlo' hhi' hlh (by omega) w
    rw [hsz, cut_addr] at this
    exact ⟨_, by simp only [execOp, hxe, Loc.slice, Option.map_none, Sem.run_bind, this, Result.andThen_ok]; rfl, .rsl k sz l h b cap _ hl hlh (by omega)⟩

theorem op_sliceRS {t e e' : TypeId} {x : Operand} {lo hi : Option Operand} {k sz l h m : Nat} {xs : List (List AV)} (hx : evo (look E.sl) x = some (.rsl k sz 0 m)) (hk : look E.ob k = some (.row e' sz xs)) (hlo : evB (look E.sl) lo 0 l) (hhi : evB (look E.sl) hi m h) (hlh : l ≤ h) (hh : h ≤ xs.length)
    (ht : G.T.kind t = .slice e) (he : (G.T.kind e).known = true) (hsz : G.T.size e = sz) (hd : ∀ d, dst = some d → d < E.n) : OpS G Γ ⟨dst, .slice t x lo hi none, ty, pos, aft, gd⟩ E (.rsl k sz l h) [] (sl1 x ++ slO lo ++ slO hi) [k] :=
  OpS.val hd fun E' hn h1 h2 S O β a w hs => by
    have hk' := (h2 k (by simp)).trans hk
    have hlo' : lo.map a.eval = some (.int .i64 l) ∨ (lo.map a.eval = none ∧ l = 0) := by
      cases lo with
      | none => exact .inr ⟨rfl, hlo⟩
      | some y => exact .inl (by rw [Option.map_some, hs.lit ((evo_congr fun t ht => h1 t (by simp [slO, ht])).trans hlo)])
    have hhi' : hi.map a.eval = some (.int .i64 h) ∨ (hi.map a.eval = none ∧ h = m) := by
      cases hi with
      | none => exact .inr ⟨rfl, hhi⟩
      | some y => exact .inl (by rw [Option.map_some, hs.lit ((evo_congr fun t ht => h1 t (by simp [slO, ht])).trans hhi)])
    obtain ⟨b, cap, n, hl, _, _, hxe⟩ := (hs.ev ((evo_congr fun t ht => h1 t (by simp [ht])).trans hx)).rsl_inv
    obtain ⟨vs, rfl, hO, hg, hcap, _⟩ := hs.rowAt hk' hl
    have e0 : (if cap = 0 then 0 else 0 * sz) = 0 := by split <;> simp
    rw [e0, Nat.sub_zero, Nat.sub_zero] at hxe
    have := run_cut (G := G) ht he (some ⟨b, 0, none⟩) m cap (lo.map a.eval) (hi.map a.eval) l h hlo' hhi' hlh (by omega) w
    rw [hsz, cut_addr] at this
    exact ⟨_, by simp only [execOp, hxe, Option.map_none, Sem.run_bind, this, Result.andThen_ok]; rfl, .rsl k sz l h b cap _ hl hlh (by omega)⟩

/-- s[i:j:len(s)], asked for its bounds alone. -/
theorem op_slice3R {t e e' : TypeId} {x y z u : Operand} {k sz i j : Nat} {xs : List (List AV)} (hx : evo (look E.sl) x = some (.row k)) (hk : look E.ob k = some (.row e' sz xs)) (hne : 0 < xs.length) (hy : evo (look E.sl) y = some (.lit (.int .i64 i))) (hz : evo (look E.sl) z = some (.lit (.int .i64 j))) (hu : evo (look E.sl) u = some (.lit (.int .i64 xs.length)))
    (hij : i ≤ j) (hj : j ≤ xs.length) (ht : G.T.kind t = .slice e) (he : (G.T.kind e).known = true) (hd : ∀ d, dst = some d → d < E.n) : OpS G Γ ⟨dst, .slice t x (some y) (some z) (some u), ty, pos, aft, gd⟩ E .any [] (sl1 x ++ sl1 y ++ sl1 z ++ sl1 u) [k] :=
  OpS.val hd fun E' hn h1 h2 S O β a w hs => by
    have hk' := (h2 k (by simp)).trans hk
    have hye := hs.lit ((evo_congr fun t ht => h1 t (by simp [ht])).trans hy)
    have hze := hs.lit ((evo_congr fun t ht => h1 t (by simp [ht])).trans hz)
    have hue := hs.lit ((evo_congr fun t ht => h1 t (by simp [ht])).trans hu)
    obtain ⟨l0, hl, hxe⟩ := (hs.ev ((evo_congr fun t ht => h1 t (by simp [ht])).trans hx)).row_inv
    obtain ⟨b, cap, rfl⟩ := hs.rowNe hk' hne hl
    obtain ⟨vs, _, hO, hg, hcap, _⟩ := hs.rowAt hk' hl
    have g1 : (0 : Int) ≤ (i : Int) ∧ (i : Int) ≤ (j : Int) := by omega
    have g2 : (0 : Int) ≤ (j : Int) ∧ (j : Int) ≤ (xs.length : Int) := by omega
    have g3 : (0 : Int) ≤ (xs.length : Int) ∧ (xs.length : Int) ≤ (cap : Int) := by omega
    refine ⟨.slice (if xs.length = i then some ⟨b, 0, none⟩ else (some ⟨b, 0, none⟩ : Option Addr).map (·.add (i * G.T.size e))) (j - i) (xs.length - i), ?_, .any _⟩
    · simp [execOp, hxe, hye, hze, hue, Loc.slice, Instr.sliceAt, Instr.slice, run_underlying (underlying_slice G.ok ht), Instr.sliceBounds, Instr.sliceBound, asIntOf, run_sizeOf G.ok w he, hij, hj, hcap]

theorem op_lenRS {t e : TypeId} {x : Operand} {k sz i j : Nat} (hx : evo (look E.sl) x = some (.rsl k sz i j)) (ht : G.T.kind t = .slice e) (hd : ∀ d, dst = some d → d < E.n) :
    OpS G Γ ⟨dst, .call { callee := .builtin .len, args := #[x], argTypes := #[t] }, ty, pos, aft, gd⟩ E (.lit (.int .i64 (j - i : Nat))) [] (sl1 x) [] :=
  OpS.val hd fun E' hn h1 h2 S O β a w hs => by
    obtain ⟨b, cap, n, hl, _, _, hxe⟩ := (hs.ev ((evo_congr h1).trans hx)).rsl_inv
    exact ⟨.int .i64 (j - i : Nat), by simp [execOp, resolve, invoke, builtin, hxe, Builtin.len_, run_underlying (underlying_slice G.ok ht), goInt], .pure _ _ (.lit _ rfl)⟩

/-- append(s[:i], s[j:]...) -/
theorem op_delR {t e : TypeId} {x y : Operand} {k sz i j : Nat} {xs : List (List AV)} (hx : evo (look E.sl) x = some (.rsl k sz 0 i)) (hy : evo (look E.sl) y = some (.rsl k sz j xs.length)) (hk : look E.ob k = some (.row e sz xs)) (hij : i ≤ j) (hjn : j ≤ xs.length)
    (ht : G.T.kind t = .slice e) (he : (G.T.kind e).known = true) (hsz : G.T.size e = sz) (h0 : 0 < sz) (hd : ∀ d, dst = some d → d < E.n) :
    OpS G Γ ⟨dst, .call { callee := .builtin .append, args := #[x, y], argTypes := #[t, t] }, ty, pos, aft, gd⟩ E (.rsl k sz 0 (i + (xs.length - j))) [(k, .row e sz (xs.take i ++ xs.drop j ++ xs.drop (i + (xs.length - j))))] (sl1 x ++ sl1 y) [k] :=
  OpS.turns hd fun E' hn h1 h2 S O β a w hs => by
    have hk' := (h2 k (by simp)).trans hk
    obtain ⟨b, cap, n, hl, _, _, hxe⟩ := (hs.ev ((evo_congr fun t ht => h1 t (by simp [ht])).trans hx)).rsl_inv
    obtain ⟨b2, cap2, n2, hl2, _, _, hye⟩ := (hs.ev ((evo_congr fun t ht => h1 t (by simp [ht])).trans hy)).rsl_inv
    rw [hl] at hl2; cases hl2
    obtain ⟨vs, rfl, hO, hg, hcap, hcm, hvl, hsx, hm, hr⟩ := hs.rowAt hk' hl
    obtain ⟨ti, z, hi, his, hib, hiz, hzc⟩ := info_of (G := G) he
    have hu := underlying_slice G.ok ht
    have e0 : (if cap = 0 then 0 else 0 * sz) = 0 := by split <;> simp
    rw [e0, Nat.sub_zero, Nat.sub_zero] at hxe
    by_cases hj : j = xs.length
    · have hrun : (Builtin.append_ #[t, t] ty #[a.eval x, a.eval y]).run G.P w = .ok (.slice (some ⟨b, 0, none⟩) i cap) w := by
        have hic : i ≤ cap := by omega
        rw [hxe, hye, hj, Nat.sub_self]
        simp [Builtin.append_, run_underlying hu, sizeOf, typeInfo, hi, Builtin.lenOf, Builtin.firstCells, loadCells, loadCellsFrom, storeCells, hic]
      have hz := hs.overRow hk' hl i [] [] (by simp; omega) (by simp) (by simp) (by simp) hg
      refine ⟨.slice (some ⟨b, 0, none⟩) i cap, w, S, O, β, .inl (by simp [execOp, resolve, invoke, builtin, hrun]), ?_, ?_⟩
      · have hm' : i + (xs.length - j) = i := by omega
        have := VRep.rsl (S := S) (w := w) k sz 0 i b cap xs.length hl (Nat.zero_le _) (by omega)
        rw [e0, Nat.sub_zero, Nat.sub_zero] at this
        rw [hm']; exact this
      · have e1 : xs.take i ++ xs.drop j ++ xs.drop (i + (xs.length - j)) = xs := by
          rw [List.drop_eq_nil_of_le (by omega), List.append_nil, show i + (xs.length - j) = i by omega, List.take_append_drop]
        rw [e1]
        refine hs.turn hO (by rw [hk']; simp) (Fr.refl _ _) rfl _ ?_
        exact hs.h.objs k _ hk'
    · have hjl : j < xs.length := by omega
      have hcj : ¬ cap = j := by omega
      rw [if_neg hcj] at hye
      have hdl : (xs.drop j).length = xs.length - j := List.length_drop
      have hle : xs.length * sz ≤ vs.length := by rw [hvl]; exact Nat.mul_le_mul_right _ hcap
      have hjm : j * sz ≤ xs.length * sz := Nat.mul_le_mul_right _ hjn
      have hzl : ((vs.drop (j * sz)).take ((xs.length - j) * sz)).length = (xs.length - j) * sz := by
        rw [List.length_take, List.length_drop, Nat.sub_mul]; omega
      have hget : ∀ q, q < (xs.length - j) * sz → ((vs.drop (j * sz)).take ((xs.length - j) * sz))[q]? = vs[j * sz + q]? := fun q hq => by
        rw [List.getElem?_take, if_pos hq, List.getElem?_drop]
      have hcells : ∀ (q : Nat) (v : Value), ((vs.drop (j * sz)).take ((xs.length - j) * sz))[q]? = some v → w.cell? ((⟨b, j * sz, none⟩ : Addr).add q) = some v := by
        intro q v hv
        have hq := (List.getElem?_eq_some_iff.1 hv).1
        rw [hzl] at hq
        rw [hget q hq] at hv
        rw [add_none, cell_of_row w b _ _ e (0, 0) hg, arr_get]; exact hv
      have hrep : ∀ (q : Nat) (y : List AV) (m : Nat) (c : AV), (xs.drop j)[q]? = some y → y[m]? = some c → ∃ v, ((vs.drop (j * sz)).take ((xs.length - j) * sz))[q * sz + m]? = some v ∧ PRep S w c v := by
        intro q y m c hy hc
        rw [List.getElem?_drop] at hy
        have hql : j + q < xs.length := (List.getElem?_eq_some_iff.1 hy).1
        have hmz : m < sz := by have := hsx _ y hy; have := (List.getElem?_eq_some_iff.1 hc).1; omega
        obtain ⟨v, hv, hp⟩ := hr (j + q) y m c hy hc
        refine ⟨v, ?_, hp⟩
        rw [hget _ (lt_mul_of (by omega) hmz), ← hv]
        congr 1
        rw [Nat.add_mul]; omega
      have hone : ∀ u ∈ (vs.drop (j * sz)).take ((xs.length - j) * sz), u.oneCell' = true := by
        intro u hu'
        obtain ⟨q, hq, rfl⟩ := List.getElem_of_mem hu'
        have hq' : q < (xs.length - j) * sz := by rw [← hzl]; exact hq
        obtain ⟨i', j', rfl, hi', hj'⟩ := divmod_lt hq'
        have hy : (xs.drop j)[i']? = some ((xs.drop j)[i']'(by rw [hdl]; exact hi')) := List.getElem?_eq_getElem _
        have hyl := hsx (j + i') _ (by rw [← List.getElem?_drop]; exact hy)
        obtain ⟨v, hv, hp⟩ := hrep i' _ j' _ hy (List.getElem?_eq_getElem (by omega))
        rw [List.getElem?_eq_getElem hq] at hv; cases hv
        exact hp.one
      have hfit : i * ti.size + ((vs.drop (j * sz)).take ((xs.length - j) * sz)).length ≤ vs.toArray.size := by
        rw [hzl, his, hsz, ← Nat.add_mul]; simp only [List.size_toArray]
        exact Nat.le_trans (Nat.mul_le_mul_right _ (by omega)) hle
      have hrun := run_append_room (P := G.P) w t ty e ti hu hi b i cap vs.toArray hg ⟨b, j * sz, none⟩ (xs.length - j) (cap - j) _ (by rw [hzl, his, hsz]) hcells hone (by omega) hfit
      rw [his, hsz] at hrun
      have hsim := hs.overRow hk' hl i (xs.drop j) _ (by rw [hdl]; omega) (by rw [hzl, hdl]) (fun q y hy => by rw [List.getElem?_drop] at hy; exact hsx _ y hy) hrep hg
      rw [hdl] at hsim
      refine ⟨.slice (some ⟨b, 0, none⟩) (i + (xs.length - j)) cap, _, S, O, β, .inl (by simp [execOp, resolve, invoke, builtin, hxe, hye, hrun]), ?_, hsim⟩
      have := VRep.rsl (S := S) (w := w.setRow b (vs.take (i * sz) ++ (vs.drop (j * sz)).take ((xs.length - j) * sz) ++ vs.drop (i * sz + ((vs.drop (j * sz)).take ((xs.length - j) * sz)).length)).toArray) k sz 0 (i + (xs.length - j)) b cap xs.length hl (Nat.zero_le _) (by omega)
      rw [e0, Nat.sub_zero, Nat.sub_zero] at this
      exact this

/-- clear(s[i:j]) -/
theorem op_clearR {t e : TypeId} {x : Operand} {k sz i j : Nat} {xs : List (List AV)} (hx : evo (look E.sl) x = some (.rsl k sz i j)) (hk : look E.ob k = some (.row e sz xs)) (hjn : j ≤ xs.length)
    (ht : G.T.kind t = .slice e) (he : (G.T.kind e).known = true) (hsz : G.T.size e = sz) (hd : ∀ d, dst = some d → d < E.n) :
    OpS G Γ ⟨dst, .call { callee := .builtin .clear, args := #[x], argTypes := #[t] }, ty, pos, aft, gd⟩ E (.tup []) [(k, .row e sz (xs.take i ++ List.replicate (j - i) ((G.T.zero e).map .lit) ++ xs.drop (i + (j - i))))] (sl1 x) [k] :=
  OpS.turns hd fun E' hn h1 h2 S O β a w hs => by
    have hk' := (h2 k (by simp)).trans hk
    obtain ⟨b, cap, n, hl, hij, hjc, hxe⟩ := (hs.ev ((evo_congr h1).trans hx)).rsl_inv
    obtain ⟨vs, rfl, hO, hg, hcap, hcm, hvl, hsx, hm, hr⟩ := hs.rowAt hk' hl
    have hu := underlying_slice G.ok ht
    obtain ⟨z, hz, hzc⟩ := run_zeroValue G.ok w he
    have hone := oneCell_of_kind G.ok he
    have hzsz : (G.T.zero e).length = sz := by
      obtain ⟨_, ti, z', _, _, _, _, _, _, _, h8⟩ := G.ok e he
      rw [h8, hsz]
    have e1 : xs.take i ++ List.replicate (j - i) ((G.T.zero e).map AV.lit) ++ xs.drop (i + (j - i)) = xs.take i ++ List.replicate (j - i) ((G.T.zero e).map AV.lit) ++ xs.drop (i + (List.replicate (j - i) ((G.T.zero e).map AV.lit)).length) := by rw [List.length_replicate]
    rw [e1]
    by_cases hij' : i = j
    · subst hij'
      refine ⟨.tuple #[], w, S, O, β, .inl ?_, .tup [] [] rfl (fun j c x hc => by simp at hc), ?_⟩
      · simp [execOp, resolve, invoke, builtin, hxe, Builtin.clear_, run_underlying hu]
      · have hz := hs.overRow hk' hl i [] [] (by simp; omega) (by simp) (by simp) (by simp) hg
        rw [Nat.sub_self, List.replicate_zero]
        refine hs.turn hO (by rw [hk']; simp) (Fr.refl _ _) rfl _ ?_
        have := hs.h.objs k _ hk'
        rw [List.append_nil, List.length_nil, Nat.add_zero, List.take_append_drop]; exact this
    · have hcj : ¬ cap = i := by omega
      rw [if_neg hcj] at hxe
      have hpos : 0 < j - i := by omega
      have hzl : (Builtin.zeroCells z.cells (j - i)).toList.length = (j - i) * sz := by
        rw [Array.length_toList, size_zeroCells', ← hzsz, ← hzc]; simp
      have hle : i * sz + (Builtin.zeroCells z.cells (j - i)).toList.length ≤ vs.length := by
        rw [hzl, ← Nat.add_mul, hvl]; exact Nat.mul_le_mul_right _ (by omega)
      have hzg : ∀ q m, q < j - i → m < sz → (Builtin.zeroCells z.cells (j - i)).toList[q * sz + m]? = (G.T.zero e)[m]? := by
        intro q m hq hmz
        have hz0 : z.cells.size = sz := by rw [← hzsz, ← hzc]; simp
        have hlt : q * sz + m < (j - i) * sz := lt_mul_of hq hmz
        have hmod : (q * sz + m) % sz = m := by rw [Nat.add_comm, Nat.mul_comm, Nat.add_mul_mod_self_left]; exact Nat.mod_eq_of_lt hmz
        have hzm : z.cells[m]? = (G.T.zero e)[m]? := by rw [← toList_getElem?, hzc]
        rw [← hzm]
        simp only [Builtin.zeroCells, Array.getElem?_toList, Array.getElem?_map, Array.getElem?_range, hz0, hlt, if_true, Option.map_some, hmod]
        rw [getElem!_def, Array.getElem?_eq_getElem (by rw [hz0]; exact hmz)]
      have hz1 : ∀ v ∈ (Builtin.zeroCells z.cells (j - i)).toList, v.oneCell' = true := by
        intro v hv
        obtain ⟨q, hq, rfl⟩ := List.getElem_of_mem hv
        rw [hzl] at hq
        obtain ⟨i', j', rfl, hi', hj'⟩ := divmod_lt hq
        have := hzg i' j' hi' hj'
        rw [List.getElem?_eq_getElem (by rw [hzl]; exact hq)] at this
        exact hone _ (List.mem_of_getElem? this.symm)
      have hst := run_storeCells_at G.P b (i * sz) e (Builtin.zeroCells z.cells (j - i)).toList 0 vs.toArray w hg (by simpa using hle) hz1
      simp only [Nat.add_zero, List.toList_toArray] at hst
      have hsim := hs.overRow hk' hl i (List.replicate (j - i) ((G.T.zero e).map .lit)) (Builtin.zeroCells z.cells (j - i)).toList (by rw [List.length_replicate]; omega) (by rw [hzl, List.length_replicate])
        (fun q y hy => by
          rw [List.getElem?_replicate] at hy
          split at hy
          · cases hy; rw [List.length_map, hzsz]
          · cases hy)
        (fun q y m c hy hc => by
          rw [List.getElem?_replicate] at hy
          split at hy
          · rename_i hq
            cases hy
            rw [List.getElem?_map] at hc
            cases hzm : (G.T.zero e)[m]? with
            | none => rw [hzm] at hc; cases hc
            | some v =>
              rw [hzm] at hc; simp only [Option.map_some, Option.some.injEq] at hc; subst hc
              have hml : m < sz := by rw [← hzsz]; exact (List.getElem?_eq_some_iff.1 hzm).1
              exact ⟨v, (hzg q m hq hml).trans hzm, .lit v (hone v (List.mem_of_getElem? hzm))⟩
          · cases hy) hg
      refine ⟨.tuple #[], _, S, O, β, .inl ?_, .tup [] [] rfl (fun j c x hc => by simp at hc), hsim⟩
      obtain ⟨m, hm⟩ : ∃ m, j - i = m + 1 := ⟨j - i - 1, by omega⟩
      rw [hm] at hst hxe ⊢
      simp [execOp, resolve, invoke, builtin, hxe, Builtin.clear_, run_underlying hu, hz, hst]

/-- What is left of a row, under a new name. -/
theorem vw_narrow {c : Code} {Q : Exit → Env → Prop} {t k sz m : Nat} (d : Nat) {e : TypeId} {xs : List (List AV)} (ht : look E.sl t = some (.rsl k sz 0 m)) (hk : look E.ob k = some (.row e sz xs)) (hm : m ≤ xs.length) (hd : look E.ob d = none) (hp : d ∉ Γ.par)
    (h : VW G Γ c Q ⟨(t, .row d) :: E.sl, (d, .row e sz (xs.take m)) :: (k, .dead) :: E.ob, E.n⟩) : VW G Γ c Q E := by
  intro a w hs
  obtain ⟨S, O, β, hs⟩ := hs
  refine h a w ?_
  obtain ⟨b, cap, n, hl, _, _, hxe⟩ := (hs.sl t _ ht).rsl_inv
  obtain ⟨vs, rfl, hO, hg, hcap, hcm, hvl, hsx, hm', hr⟩ := hs.rowAt hk hl
  have hml : (xs.take m).length = m := by rw [List.length_take]; omega
  have o1 : ∀ (i : Nat) (x : List AV), (xs.take m)[i]? = some x → x.length = sz := by
    intro i x hx
    rw [List.getElem?_take] at hx
    split at hx
    · exact hsx i x hx
    · cases hx
  have o2 : ∀ (i : Nat) (x : List AV) (j : Nat) (c : AV), (xs.take m)[i]? = some x → x[j]? = some c → ∃ v, vs[i * sz + j]? = some v ∧ PRep S w c v := by
    intro i x j c hx hc
    rw [List.getElem?_take] at hx
    split at hx
    · exact hr i x j c hx hc
    · cases hx
  have hreb := hs.rebind hk hd hp (w' := w) (Fr.refl _ _) (N := fun b => O k b) (fun b hb => .inl hb) (.at b cap m) (.row e sz (xs.take m)) ⟨o1, by omega, .inr ⟨b, cap, vs, by rw [hml]; exact addB_same _ _ _, .inr ⟨rfl, hO⟩, hg, by omega, hcm, hvl, o2⟩⟩
  refine ⟨_, _, _, ⟨hreb.h, ?_, hreb.n, hreb.df, hreb.s0, hreb.s1, hreb.o1, hreb.b0, hreb.fr⟩⟩
  intro t' v hv
  have hv' : look ((t, AV.row d) :: E.sl) t' = some v := hv
  rw [look_cons] at hv'
  by_cases he : t = t'
  · rw [if_pos he] at hv'; cases hv'; subst he
    have e0 : (if cap = 0 then 0 else 0 * sz) = 0 := by split <;> simp
    rw [hxe, e0, Nat.sub_zero, Nat.sub_zero]
    exact .row d (.at b cap m) (addB_same _ _ _)
  · rw [if_neg he] at hv'; exact hreb.sl t' v hv'
end

section
variable {G : Prg} {Γ : Ctx} {ops : Array Oper} {fin : List Lg → Prop} {K : Env → Prop} {os : List Oper} {log : List Lg} {sl : List (Nat × AV)} {ob : List (Nat × AO)} {nn : Nat} {d : Nat} {ty : TypeId} {pos : String} {aft : Array Edge} {gd : Option (Nat × Bool)}
theorem u_callO {f : FuncId} {fx : Operand} {xs : List Operand} {args as caps : List AV} {res : AV} {obc ob' ob0 : List (Nat × AO)} {ats : Array TypeId} (rl : List (Nat × Nat)) (bor dd : List Nat) (hfx : evo (look sl) fx = some (.clo f caps)) (hx : evoA (look sl) xs = some as) (hV : VFun G f args obc res ob')
    (hinc : ∀ k o, look ob0 k = some o → look ob k = some o) (hob : WkOf ob0 obc (ren rl) (fun k => k ∈ bor) obc) (hsub : F2 (Sub ob0 obc (ren rl) (fun k => k ∈ bor)) args (as ++ caps)) (hok : lendOk rl bor dd ob0 obc ob' = true)
    (hf1 : freshOk rl ob' ob = true) (hf2 : ∀ k, look ob' k ≠ none → ren rl k = none → k ∉ Γ.par) (hd : Nat.blt d nn = true) (hg : GOk ops sl nn gd)
    (kk' : VR G Γ ops fin K os (log ++ [⟨some d, gsl ops gd ++ (sl1 fx ++ xs.flatMap sl1), ob0.map (·.1) ++ ob'.map (·.1) ++ dd, (ob' ++ deads dd).map (·.1)⟩]) ⟨(d, res) :: sl, ob' ++ deads dd ++ ob, nn⟩) :
    VR G Γ ops fin K (⟨some d, .call { callee := .value fx, args := xs.toArray, argTypes := ats }, ty, pos, aft, gd⟩ :: os) log ⟨sl, ob, nn⟩ :=
  u_op (op_callO (G := G) (Γ := Γ) (E := ⟨sl, ob, nn⟩) (dst := some d) (ty := ty) (pos := pos) (aft := aft) (gd := gd) rl bor dd hV hfx hx hinc hob hsub hok hf1 hf2 (dlt hd)) hg kk'
theorem u_callP {f : FuncId} {fx : Operand} {xs : List Operand} {args as caps : List AV} {res : AV} {obc ob' ob0 : List (Nat × AO)} {ats : Array TypeId} (rl : List (Nat × Nat)) (bor dd : List Nat) (hfx : evo (look sl) fx = some (.clo f caps)) (hx : evoA (look sl) xs = some as) (hV : VFun G f args obc res ob')
    (hinc : ∀ k o, look ob0 k = some o → look ob k = some o) (hob : WkOf ob0 obc (ren rl) (fun k => k ∈ bor) obc) (hsub : F2 (Sub ob0 obc (ren rl) (fun k => k ∈ bor)) args (as ++ caps)) (hok : lendOk rl bor dd ob0 obc ob' = true)
    (hf1 : freshOk rl ob' ob = true) (hf2 : ∀ k, look ob' k ≠ none → ren rl k = none → k ∉ Γ.par) (hg : GOk ops sl nn gd)
    (kk' : VR G Γ ops fin K os (log ++ [⟨none, gsl ops gd ++ (sl1 fx ++ xs.flatMap sl1), ob0.map (·.1) ++ ob'.map (·.1) ++ dd, (ob' ++ deads dd).map (·.1)⟩]) ⟨sl, ob' ++ deads dd ++ ob, nn⟩) :
    VR G Γ ops fin K (⟨none, .call { callee := .value fx, args := xs.toArray, argTypes := ats }, ty, pos, aft, gd⟩ :: os) log ⟨sl, ob, nn⟩ :=
  u_op (op_callO (G := G) (Γ := Γ) (E := ⟨sl, ob, nn⟩) (dst := none) (ty := ty) (pos := pos) (aft := aft) (gd := gd) rl bor dd hV hfx hx hinc hob hsub hok hf1 hf2 dno) hg kk'
/-- The objects, written out anew. -/
theorem u_ob {ob2 : List (Nat × AO)} (h : ob = ob2) (kk' : VR G Γ ops fin K os log ⟨sl, ob2, nn⟩) : VR G Γ ops fin K os log ⟨sl, ob, nn⟩ := h ▸ kk'
theorem u_sliceRHi {t e e' : TypeId} {x y : Operand} {k sz : Nat} {z : Int} {xs : List (List AV)} (h : Nat) (hx : evo (look sl) x = some (.row k)) (hk : look ob k = some (.row e' sz xs)) (hne : 0 < xs.length) (hy : evo (look sl) y = some (.lit (.int .i64 z))) (hz : z = h) (hh : h ≤ xs.length) (ht : G.T.kind t = .slice e) (he : (G.T.kind e).known = true) (hsz : G.T.size e = sz) (hd : Nat.blt d nn = true) (hg : GOk ops sl nn gd)
    (kk' : VR G Γ ops fin K os (log ++ [⟨some d, gsl ops gd ++ (sl1 x ++ slO none ++ slO (some y)), [k], []⟩]) ⟨(d, .rsl k sz 0 h) :: sl, ob, nn⟩) : VR G Γ ops fin K (⟨some d, .slice t x none (some y) none, ty, pos, aft, gd⟩ :: os) log ⟨sl, ob, nn⟩ := by
  subst hz
  exact u_op (op_sliceR (G := G) (Γ := Γ) (E := ⟨sl, ob, nn⟩) (dst := some d) (ty := ty) (pos := pos) (aft := aft) (gd := gd) (lo := none) (hi := some y) (l := 0) hx hk hne rfl hy (Nat.zero_le _) hh ht he hsz (dlt hd)) hg kk'
theorem u_sliceRLo {t e e' : TypeId} {x y : Operand} {k sz : Nat} {z : Int} {xs : List (List AV)} (h : Nat) (hx : evo (look sl) x = some (.row k)) (hk : look ob k = some (.row e' sz xs)) (hne : 0 < xs.length) (hy : evo (look sl) y = some (.lit (.int .i64 z))) (hz : z = h) (hh : h ≤ xs.length) (ht : G.T.kind t = .slice e) (he : (G.T.kind e).known = true) (hsz : G.T.size e = sz) (hd : Nat.blt d nn = true) (hg : GOk ops sl nn gd)
    (kk' : VR G Γ ops fin K os (log ++ [⟨some d, gsl ops gd ++ (sl1 x ++ slO (some y) ++ slO none), [k], []⟩]) ⟨(d, .rsl k sz h xs.length) :: sl, ob, nn⟩) : VR G Γ ops fin K (⟨some d, .slice t x (some y) none none, ty, pos, aft, gd⟩ :: os) log ⟨sl, ob, nn⟩ := by
  subst hz
  exact u_op (op_sliceR (G := G) (Γ := Γ) (E := ⟨sl, ob, nn⟩) (dst := some d) (ty := ty) (pos := pos) (aft := aft) (gd := gd) (lo := some y) (hi := none) (l := h) (h := xs.length) hx hk hne hy rfl hh (Nat.le_refl _) ht he hsz (dlt hd)) hg kk'
theorem u_sliceRS {t e e' : TypeId} {x y y' : Operand} {k sz m : Nat} {z z' : Int} {xs : List (List AV)} (l h : Nat) (hx : evo (look sl) x = some (.rsl k sz 0 m)) (hk : look ob k = some (.row e' sz xs)) (hy : evo (look sl) y = some (.lit (.int .i64 z))) (hy' : evo (look sl) y' = some (.lit (.int .i64 z'))) (hz : z = l) (hz' : z' = h) (hlh : l ≤ h) (hh : h ≤ xs.length) (ht : G.T.kind t = .slice e) (he : (G.T.kind e).known = true) (hsz : G.T.size e = sz) (hd : Nat.blt d nn = true) (hg : GOk ops sl nn gd)
    (kk' : VR G Γ ops fin K os (log ++ [⟨some d, gsl ops gd ++ (sl1 x ++ slO (some y) ++ slO (some y')), [k], []⟩]) ⟨(d, .rsl k sz l h) :: sl, ob, nn⟩) : VR G Γ ops fin K (⟨some d, .slice t x (some y) (some y') none, ty, pos, aft, gd⟩ :: os) log ⟨sl, ob, nn⟩ := by
  subst hz hz'
  exact u_op (op_sliceRS (G := G) (Γ := Γ) (E := ⟨sl, ob, nn⟩) (dst := some d) (ty := ty) (pos := pos) (aft := aft) (gd := gd) (lo := some y) (hi := some y') (l := l) (h := h) hx hk hy hy' hlh hh ht he hsz (dlt hd)) hg kk'
theorem u_slice3R {t e e' : TypeId} {x y z u : Operand} {k sz : Nat} {m m' m'' : Int} {xs : List (List AV)} (i j : Nat) (hx : evo (look sl) x = some (.row k)) (hk : look ob k = some (.row e' sz xs)) (hne : 0 < xs.length) (hy : evo (look sl) y = some (.lit (.int .i64 m))) (hz : evo (look sl) z = some (.lit (.int .i64 m'))) (hu : evo (look sl) u = some (.lit (.int .i64 m'')))
    (hm : m = i) (hm' : m' = j) (hm'' : m'' = xs.length) (hij : i ≤ j) (hj : j ≤ xs.length) (ht : G.T.kind t = .slice e) (he : (G.T.kind e).known = true) (hd : Nat.blt d nn = true) (hg : GOk ops sl nn gd)
    (kk' : VR G Γ ops fin K os (log ++ [⟨some d, gsl ops gd ++ (sl1 x ++ sl1 y ++ sl1 z ++ sl1 u), [k], []⟩]) ⟨(d, .any) :: sl, ob, nn⟩) : VR G Γ ops fin K (⟨some d, .slice t x (some y) (some z) (some u), ty, pos, aft, gd⟩ :: os) log ⟨sl, ob, nn⟩ := by
  subst hm hm' hm''
  exact u_op (op_slice3R (G := G) (Γ := Γ) (E := ⟨sl, ob, nn⟩) (dst := some d) (ty := ty) (pos := pos) (aft := aft) (gd := gd) hx hk hne hy hz hu hij hj ht he (dlt hd)) hg kk'
theorem u_lenRS {t e : TypeId} {x : Operand} {k sz i j : Nat} (hx : evo (look sl) x = some (.rsl k sz i j)) (ht : G.T.kind t = .slice e) (hd : Nat.blt d nn = true) (hg : GOk ops sl nn gd)
    (kk' : VR G Γ ops fin K os (log ++ [⟨some d, gsl ops gd ++ (sl1 x), [], []⟩]) ⟨(d, .lit (.int .i64 (j - i : Nat))) :: sl, ob, nn⟩) : VR G Γ ops fin K (⟨some d, .call { callee := .builtin .len, args := #[x], argTypes := #[t] }, ty, pos, aft, gd⟩ :: os) log ⟨sl, ob, nn⟩ :=
  u_op (op_lenRS (G := G) (Γ := Γ) (E := ⟨sl, ob, nn⟩) (dst := some d) (ty := ty) (pos := pos) (aft := aft) (gd := gd) hx ht (dlt hd)) hg kk'
theorem u_delR {t e : TypeId} {x y : Operand} {k sz i j q m : Nat} {xs ys : List (List AV)} (hx : evo (look sl) x = some (.rsl k sz 0 i)) (hy : evo (look sl) y = some (.rsl k sz j q)) (hk : look ob k = some (.row e sz xs)) (hq : q = xs.length) (hij : i ≤ j) (hjn : j ≤ xs.length) (ht : G.T.kind t = .slice e) (he : (G.T.kind e).known = true) (hsz : G.T.size e = sz) (h0 : sz = m + 1)
    (hys : xs.take i ++ xs.drop j ++ xs.drop (i + (xs.length - j)) = ys) (hd : Nat.blt d nn = true) (hg : GOk ops sl nn gd)
    (kk' : VR G Γ ops fin K os (log ++ [⟨some d, gsl ops gd ++ (sl1 x ++ sl1 y), [k], [k]⟩]) ⟨(d, .rsl k sz 0 (i + (xs.length - j))) :: sl, (k, .row e sz ys) :: ob, nn⟩) : VR G Γ ops fin K (⟨some d, .call { callee := .builtin .append, args := #[x, y], argTypes := #[t, t] }, ty, pos, aft, gd⟩ :: os) log ⟨sl, ob, nn⟩ := by
  subst hq hys
  exact u_op (op_delR (G := G) (Γ := Γ) (E := ⟨sl, ob, nn⟩) (dst := some d) (ty := ty) (pos := pos) (aft := aft) (gd := gd) hx hy hk hij hjn ht he hsz (by omega) (dlt hd)) hg kk'
theorem u_clearR {t e : TypeId} {x : Operand} {k sz i j : Nat} {xs ys : List (List AV)} (hx : evo (look sl) x = some (.rsl k sz i j)) (hk : look ob k = some (.row e sz xs)) (hjn : j ≤ xs.length) (ht : G.T.kind t = .slice e) (he : (G.T.kind e).known = true) (hsz : G.T.size e = sz)
    (hys : xs.take i ++ List.replicate (j - i) ((G.T.zero e).map .lit) ++ xs.drop (i + (j - i)) = ys) (hg : GOk ops sl nn gd)
    (kk' : VR G Γ ops fin K os (log ++ [⟨none, gsl ops gd ++ (sl1 x), [k], [k]⟩]) ⟨sl, (k, .row e sz ys) :: ob, nn⟩) : VR G Γ ops fin K (⟨none, .call { callee := .builtin .clear, args := #[x], argTypes := #[t] }, ty, pos, aft, gd⟩ :: os) log ⟨sl, ob, nn⟩ := by
  subst hys
  exact u_op (op_clearR (G := G) (Γ := Γ) (E := ⟨sl, ob, nn⟩) (dst := none) (ty := ty) (pos := pos) (aft := aft) (gd := gd) hx hk hjn ht he hsz dno) hg kk'
end
end Go.Vc
