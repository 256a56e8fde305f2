/- append, as an operation. -/
import Derived.Test.YtaadloihphpdbaaVcOps4
set_option linter.unusedSimpArgs false
set_option linter.unusedVariables false
namespace Go.Vc
open Go Go.RowKit

section
variable {G : Prg} {Γ : Ctx} {S : Nat → Prop} {O : Nat → Nat → Prop} {β : Beta} {E : Env} {a : Act} {w : World}

theorem info_of {G : Prg} {e : TypeId} (he : (G.T.kind e).known = true) : ∃ i z, G.P.info? e = some i ∧ i.size = G.T.size e ∧ i.bytes = G.T.bytes e ∧ i.zero = some z ∧ z.cells.toList = G.T.zero e := by
  obtain ⟨_, i, z, h1, h2, h3, h4, h5, _⟩ := G.ok e he
  exact ⟨i, z, h1, h2, h3, h4, h5⟩

/-- The row's own cells, as a list. -/
theorem SimAt.olds (h : SimAt Γ S O β E a w) {k : Nat} {e : TypeId} {sz : Nat} {xs : List (List AV)} (hk : look E.ob k = some (.row e sz xs)) {b cap n : Nat} (hb : β k = some (.at b cap n)) :
    ∃ (vs : List Value), n = xs.length ∧ O k b ∧ w.heap[b]? = some (.cells vs.toArray e (0, 0)) ∧ xs.length ≤ cap ∧ cap ≤ maxLen ∧ vs.length = cap * sz ∧ (vs.take (xs.length * sz)).length = xs.length * sz ∧
      (∀ (i : Nat) (x : List AV), xs[i]? = some x → x.length = sz) ∧ xs.length ≤ maxSl ∧
      (∀ (i : Nat) (x : List AV) (j : Nat) (c : AV), xs[i]? = some x → x[j]? = some c → ∃ v, (vs.take (xs.length * sz))[i * sz + j]? = some v ∧ PRep S w c v) := by
  obtain ⟨vs, h1, h2, h3, h4, h5, h6, h7, h8, h9⟩ := h.rowAt hk hb
  have hle : xs.length * sz ≤ cap * sz := Nat.mul_le_mul_right _ h4
  refine ⟨vs, h1, h2, h3, h4, h5, h6, by simp; omega, h7, h8, fun i x j c hx hc => ?_⟩
  obtain ⟨v, hv, hp⟩ := h9 i x j c hx hc
  refine ⟨v, ?_, hp⟩
  have hi : i < xs.length := (List.getElem?_eq_some_iff.1 hx).1
  have hj : j < sz := by have := h7 i x hx; have := (List.getElem?_eq_some_iff.1 hc).1; omega
  have hlt : i * sz + j < xs.length * sz := by
    have h1 : (i + 1) * sz ≤ xs.length * sz := Nat.mul_le_mul_right _ hi
    rw [Nat.add_mul, Nat.one_mul] at h1; omega
  rw [List.getElem?_take, if_pos hlt]; exact hv

theorem src_row (h : SimAt Γ S O β E a w) {k : Nat} {e : TypeId} {sz : Nat} {xs : List (List AV)} (hk : look E.ob k = some (.row e sz xs)) (hone : ∀ b vs, w.heap[b]? = some (.cells vs e (0, 0)) → O k b → True) {x : Value} (hx : VRep S β w (.row k) x) : ∃ zs, Src S w x sz xs zs := by
  obtain ⟨l, hl, rfl⟩ := hx.row_inv
  cases l with
  | nil =>
    obtain ⟨_, _, hr⟩ := h.h.objs k _ hk
    rcases hr with ⟨_, rfl⟩ | ⟨b, cap, vs, h5, _⟩
    · exact ⟨[], by simp, by simp, by simp, by simp, .inl ⟨rfl, rfl⟩⟩
    · rw [hl] at h5; cases h5
  | «at» b cap n =>
    obtain ⟨vs, rfl, hO, hg, hcap, hcm, hvl, htl, hsz, hm, hr⟩ := h.olds hk hl
    have hsrc : ∀ (j : Nat) (v : Value), (vs.take (xs.length * sz))[j]? = some v → w.cell? ⟨b, 0 + j, none⟩ = some v := by
      intro j v hv
      rw [List.getElem?_take] at hv
      split at hv
      · rw [cell_of_row w b _ _ e (0, 0) hg, arr_get, Nat.zero_add]; exact hv
      · cases hv
    refine ⟨vs.take (xs.length * sz), htl, ?_, hr, hsz, .inr (.inr ⟨b, 0, cap, rfl, hsrc⟩)⟩
    intro v hv
    obtain ⟨m, hm', rfl⟩ := List.getElem_of_mem hv
    have hm2 : m < xs.length * sz := by rw [← htl]; exact hm'
    obtain ⟨i, j, rfl, hi, hj⟩ := divmod_lt hm2
    have hy : xs[i]? = some xs[i] := List.getElem?_eq_getElem hi
    have hyl := hsz i _ hy
    have hcj : xs[i][j]? = some (xs[i][j]'(by omega)) := List.getElem?_eq_getElem (by omega)
    obtain ⟨v', hv', hp⟩ := hr i _ j _ hy hcj
    have : (vs.take (xs.length * sz))[i * sz + j]? = some (vs.take (xs.length * sz))[i * sz + j] := List.getElem?_eq_getElem hm'
    rw [this] at hv'; cases hv'
    exact hp.one

theorem Fr.weaken {A B : Nat → Prop} {w w' : World} (h : Fr A w w') (hab : ∀ b, A b → B b) : Fr B w w' := ⟨h.os, h.tape, h.output, h.size, fun b hb hn => h.block b hb (fun ha => hn (hab b ha))⟩

theorem size_of_info {e : TypeId} (he : (G.T.kind e).known = true) {i : TypeInfo} {z : Value} (hi : G.P.info? e = some i) (hz : i.zero = some z) : z.cells.size = G.T.size e := by
  obtain ⟨i', z', h1, h2, h3, h4, h5, h6, h7, h8⟩ := (G.ok e he).2
  rw [hi] at h1; cases h1
  rw [hz] at h4; cases h4
  rw [← h8, ← h5]; simp

/-- append onto an owned row. -/
theorem run_app (h : SimAt Γ S O β E a w) {k d : Nat} {e t : TypeId} {sz : Nat} {xs ys : List (List AV)} (hk : look E.ob k = some (.row e sz xs)) (hd : look E.ob d = none) (ht : G.T.kind t = .slice e) (he : (G.T.kind e).known = true) (hsz : G.T.size e = sz) (h0 : 0 < sz)
    (hsmall : (xs.length + ys.length) * G.T.bytes e ≤ 140737488355328) (hsm : xs.length + ys.length ≤ maxSl) {l : Loc} (hl : β k = some l) {x : Value} {zs : List Value} (hx : Src S w x sz ys zs) (ty : TypeId) :
    ∃ (l' : Loc) (w' : World) (N : Nat → Prop), (Builtin.append_ #[t, t] ty #[l.slice, x]).run G.P w = .ok l'.slice w' ∧ Fr (fun b => O k b) w w' ∧ (∀ b, N b → O k b ∨ (w.heap.size ≤ b ∧ b < w'.heap.size)) ∧
      ORep S (moveO O k d N) (addB β d l') w' d (.row e sz (xs ++ ys)) := by
  obtain ⟨i, z, hi, his, hib, hiz, hzc⟩ := info_of (G := G) he
  have hu := underlying_slice G.ok ht
  have hzs : z.cells.size = sz := (size_of_info he hi hiz).trans hsz
  have his' : i.size = sz := his.trans hsz
  have hmx : maxSl = 140737488355328 := rfl
  have hml : maxLen = 9223372036854775807 := by simp [maxLen]
  have hSd : ∀ (o : Obj) (b : Nat), S b → S b ∧ (w.drew.alloc o).heap[b]? = w.heap[b]? := fun o b hb => ⟨hb, heap_alloc_lt w.drew o (h.h.sh b hb)⟩
  have hFd : ∀ o : Obj, Fr (fun b => O k b) w (w.drew.alloc o) := fun o => ⟨rfl, rfl, rfl, by simp, fun b hb _ => heap_alloc_lt w.drew o hb⟩
  by_cases hm : ys = []
  · -- nothing is appended
    subst hm
    have hxs : x = .slice none 0 0 ∨ ∃ p cap, x = .slice (some p) 0 cap := by
      rcases hx.src with ⟨h1, _⟩ | ⟨p, cap, h1, _⟩ | ⟨b, off, cap, h1, _⟩
      · exact .inl h1
      · exact .inr ⟨p, cap, h1⟩
      · exact .inr ⟨_, cap, h1⟩
    have hrep := h.h.objs k _ hk
    refine ⟨l, w, fun b => O k b, ?_, Fr.refl _ _, fun b hb => .inl hb, ?_⟩
    · cases l with
      | nil => rcases hxs with rfl | ⟨p, cap, rfl⟩ <;> simp [Builtin.append_, run_underlying hu, sizeOf, typeInfo, hi, Builtin.lenOf, Builtin.firstCells, loadCells, loadCellsFrom, storeCells, Loc.slice]
      | «at» b0 cap0 n =>
        obtain ⟨vs, rfl, _, _, hcap, _⟩ := h.olds hk hl
        rcases hxs with rfl | ⟨p, cap, rfl⟩ <;> simp [Builtin.append_, run_underlying hu, sizeOf, typeInfo, hi, Builtin.lenOf, Builtin.firstCells, loadCells, loadCellsFrom, storeCells, Loc.slice, hcap]
    · rw [List.append_nil]
      obtain ⟨h1, h2, h3⟩ := hrep
      refine ⟨h1, h2, ?_⟩
      rcases h3 with ⟨h4, h5⟩ | ⟨b, cap, vs, h4, h5, h6, h7, h8, h9, h10⟩
      · rw [hl] at h4; cases h4; exact .inl ⟨addB_same _ _ _, h5⟩
      · rw [hl] at h4; cases h4
        exact .inr ⟨b, cap, vs, addB_same _ _ _, .inr ⟨rfl, h5⟩, h6, h7, h8, h9, h10⟩
  · have hm' : 0 < ys.length := List.length_pos_iff.2 hm
    rcases hx.src with ⟨_, h2⟩ | ⟨_, _, _, h2⟩ | ⟨b2, off2, cap2, hxe, hsrc⟩
    · exact absurd h2 hm
    · exact absurd h2 hm
    have hsrc' : ∀ (j : Nat) (v : Value), zs[j]? = some v → w.cell? ((⟨b2, off2, none⟩ : Addr).add j) = some v := fun j v hv => by rw [add_none]; exact hsrc j v hv
    have hlz : zs.length = ys.length * i.size := by rw [his']; exact hx.len
    -- what a new block stands for
    have fresh : ∀ (os : List Value) (cap : Nat), os.length = xs.length * sz → xs.length + ys.length ≤ cap → cap ≤ maxLen → (∀ (i : Nat) (x : List AV), xs[i]? = some x → x.length = sz) →
        (∀ (i : Nat) (x : List AV) (j : Nat) (c : AV), xs[i]? = some x → x[j]? = some c → ∃ v, os[i * sz + j]? = some v ∧ PRep S w c v) →
        ORep S (moveO O k d fun b => b = w.heap.size) (addB β d (.at w.heap.size cap (xs.length + ys.length))) (w.drew.alloc (.cells (os ++ zs ++ (Builtin.zeroCells z.cells (cap - (xs.length + ys.length))).toList).toArray e)) d (.row e sz (xs ++ ys)) := by
      intro os cap hos hc1 hc2 hsx ho
      refine ⟨get_app_sz hsx hx.sz, by rw [List.length_append]; exact hsm, .inr ⟨w.heap.size, cap, _, by rw [List.length_append]; exact addB_same _ _ _, .inr ⟨rfl, rfl⟩, heap_alloc_new w.drew _, by rw [List.length_append]; exact hc1, hc2, ?_, ?_⟩⟩
      · simp only [List.length_append, hos, hx.len, Array.length_toList, size_zeroCells', hzs]
        rw [← Nat.add_mul, ← Nat.add_mul]; congr 1; omega
      · exact app_rep hos hsx hx.sz hx.len (fun i x j c h1 h2 => let ⟨v, h3, h4⟩ := ho i x j c h1 h2; ⟨v, h3, h4.mono (hSd _)⟩) (fun i x j c h1 h2 => let ⟨v, h3, h4⟩ := hx.rep i x j c h1 h2; ⟨v, h3, h4.mono (hSd _)⟩)
    cases l with
    | nil =>
      obtain ⟨h1, h2, h3⟩ := h.h.objs k _ hk
      have hxn : xs = [] := by
        rcases h3 with ⟨_, h5⟩ | ⟨b, cap, vs, h4, _⟩
        · exact h5
        · rw [hl] at h4; cases h4
      subst hxn
      have hr := run_append_nil (P := G.P) w t ty e i z hu hi hiz ⟨b2, off2, none⟩ ys.length cap2 zs hlz hsrc' hm' (by simp at hsm; omega) (by rw [hib]; simp at hsmall; omega)
      have hge := grownCap_ge w ys.length 0 e
      have hle := grownCap_le_maxLen w ys.length 0 e (by rw [hml]; simp at hsm; omega)
      have hfr := fresh [] (grownCap w ys.length 0 e) (by simp) (by simpa using hge) hle (by simp) (by simp)
      simp only [List.length_nil, Nat.zero_add, List.nil_append] at hfr
      refine ⟨.at w.heap.size (grownCap w ys.length 0 e) ys.length, _, fun b => b = w.heap.size, ?_, hFd _, ?_, hfr⟩
      · rw [hxe]
        show (Builtin.append_ #[t, t] ty #[.slice none 0 0, _]).run G.P w = _
        rw [hr]
        congr 2
        congr 1
        apply Array.ext'; simp
      · rintro b rfl; exact .inr ⟨Nat.le_refl _, by simp⟩
    | «at» b cap n =>
      obtain ⟨vs, rfl, hO, hg, hcap, hcm, hvl, htl, hsx, hxm, hr⟩ := h.olds hk hl
      by_cases hroom : xs.length + ys.length ≤ cap
      · have hfit : xs.length * i.size + zs.length ≤ vs.toArray.size := by
          rw [his', hx.len, ← Nat.add_mul]; simp only [List.size_toArray, hvl]; exact Nat.mul_le_mul_right _ hroom
        have hrun := run_append_room (P := G.P) w t ty e i hu hi b xs.length cap vs.toArray hg ⟨b2, off2, none⟩ ys.length cap2 zs hlz hsrc' hx.one hroom hfit
        rw [his'] at hrun hfit
        have hSr : ∀ (cs : Array Value) (c : Nat), S c → S c ∧ (w.setRow b cs).heap[c]? = w.heap[c]? := fun cs c hc => ⟨hc, setRow_other w b c cs (fun e => (h.h.ow k b hO).2 (e ▸ hc))⟩
        refine ⟨.at b cap (xs.length + ys.length), _, fun c => c = b, by rw [hxe]; exact hrun, (Fr_setRow w b _).weaken (fun c hc => by rw [hc]; exact hO), fun c hc => .inl (by rw [hc]; exact hO), ?_⟩
        refine ⟨get_app_sz hsx hx.sz, by rw [List.length_append]; exact hsm, .inr ⟨b, cap, _, by rw [List.length_append]; exact addB_same _ _ _, .inr ⟨rfl, rfl⟩, setRow_heap w b _ _ e _ hg, by rw [List.length_append]; exact hroom, hcm, ?_, ?_⟩⟩
        · simp only [List.size_toArray, List.length_append, List.length_take, List.length_drop] at hfit ⊢; omega
        · exact app_rep (rest := vs.drop (xs.length * sz + zs.length)) htl hsx hx.sz hx.len (fun i x j c h1 h2 => let ⟨v, h3, h4⟩ := hr i x j c h1 h2; ⟨v, h3, h4.mono (hSr _)⟩) (fun i x j c h1 h2 => let ⟨v, h3, h4⟩ := hx.rep i x j c h1 h2; ⟨v, h3, h4.mono (hSr _)⟩)
      · have holds : ∀ (j : Nat) (v : Value), (vs.take (xs.length * sz))[j]? = some v → w.cell? ((⟨b, 0, none⟩ : Addr).add j) = some v := by
          intro j v hv
          rw [add_none, Nat.zero_add, cell_of_row w b _ _ e (0, 0) hg, arr_get]
          rw [List.getElem?_take] at hv
          split at hv
          · exact hv
          · cases hv
        have hrun := run_append_grow (P := G.P) w t ty e i z hu hi hiz ⟨b, 0, none⟩ xs.length cap (vs.take (xs.length * sz)) (by rw [his']; exact htl) holds ⟨b2, off2, none⟩ ys.length cap2 zs hlz hsrc' (by omega) (by omega) (growslice_fits (by omega) (by rw [hib]; exact hsmall))
        have hge := grownCap_ge w (xs.length + ys.length) cap e
        have hle := grownCap_le_maxLen w (xs.length + ys.length) cap e (by rw [hml]; omega)
        have hfr := fresh (vs.take (xs.length * sz)) (grownCap w (xs.length + ys.length) cap e) htl hge hle hsx hr
        refine ⟨.at w.heap.size (grownCap w (xs.length + ys.length) cap e) (xs.length + ys.length), _, fun b => b = w.heap.size, ?_, hFd _, ?_, hfr⟩
        · rw [hxe]
          show (Builtin.append_ #[t, t] ty #[.slice (some ⟨b, 0, none⟩) xs.length cap, _]).run G.P w = _
          rw [hrun]
          congr 2
          congr 1
          apply Array.ext'; simp
        · rintro b rfl; exact .inr ⟨Nat.le_refl _, by simp⟩
end
end Go.Vc
