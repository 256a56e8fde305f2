/- Append, literals of structs and slices, make. -/
import Derived.Test.YtaadloihphpdbaaVcOps3
set_option linter.unusedSimpArgs false
set_option linter.unusedVariables false
namespace Go.Vc
open Go Go.RowKit

def moveO (O : Nat → Nat → Prop) (k d : Nat) (N : Nat → Prop) : Nat → Nat → Prop := fun j b => (j ≠ k ∧ O j b) ∨ (j = d ∧ N b)

section
variable {G : Prg} {Γ : Ctx} {S : Nat → Prop} {O : Nat → Nat → Prop} {β : Beta} {E : Env} {a : Act} {w : World}

/-- What the row k owned, the new row d owns, or something new. -/
theorem SimAt.rebind (h : SimAt Γ S O β E a w) {k d : Nat} {ok : AO} (hk : look E.ob k = some ok) (hd : look E.ob d = none) (hp : d ∉ Γ.par) {w' : World} (hw : Fr (fun b => O k b) w w') {N : Nat → Prop}
    (hN : ∀ b, N b → O k b ∨ (w.heap.size ≤ b ∧ b < w'.heap.size)) (l : Loc) (o : AO) (ho : ORep S (moveO O k d N) (addB β d l) w' d o) :
    SimAt Γ S (moveO O k d N) (addB β d l) ⟨E.sl, (d, o) :: (k, .dead) :: E.ob, E.n⟩ a w' := by
  have hdk : d ≠ k := fun e => by rw [e, hk] at hd; cases hd
  have hβ := addB_old (l := l) (h.h.dom d hd).1
  have hS : ∀ b, S b → S b ∧ w'.heap[b]? = w.heap[b]? := fun b hb => ⟨hb, hw.block b (h.h.sh b hb) (fun hO => (h.h.ow k b hO).2 hb)⟩
  refine ⟨⟨?_, ?_, ?_, ?_, ?_⟩, ?_, h.n, h.df, h.s0, h.s1, ?_, ?_, ?_⟩
  · intro b hb; exact Nat.lt_of_lt_of_le (h.h.sh b hb) hw.size
  · rintro j b (⟨_, hb⟩ | ⟨_, hb⟩)
    · exact ⟨Nat.lt_of_lt_of_le (h.h.ow j b hb).1 hw.size, (h.h.ow j b hb).2⟩
    · rcases hN b hb with hb | ⟨h1, h2⟩
      · exact ⟨Nat.lt_of_lt_of_le (h.h.ow k b hb).1 hw.size, (h.h.ow k b hb).2⟩
      · exact ⟨h2, fun hs => by have := h.h.sh b hs; omega⟩
  · rintro j j' b (⟨hj, hb⟩ | ⟨hj, hb⟩) (⟨hj', hb'⟩ | ⟨hj', hb'⟩)
    · exact h.h.dj j j' b hb hb'
    · rcases hN b hb' with hc | ⟨h1, h2⟩
      · exact absurd (h.h.dj j k b hb hc) hj
      · have := (h.h.ow j b hb).1; omega
    · rcases hN b hb with hc | ⟨h1, h2⟩
      · exact absurd (h.h.dj j' k b hb' hc) hj'
      · have := (h.h.ow j' b hb').1; omega
    · rw [hj, hj']
  · intro j hj
    rw [look_cons] at hj
    by_cases he : d = j
    · rw [if_pos he] at hj; cases hj
    · rw [if_neg he, look_cons] at hj
      by_cases he2 : k = j
      · rw [if_pos he2] at hj; cases hj
      · rw [if_neg he2] at hj
        obtain ⟨h1, h2⟩ := h.h.dom j hj
        refine ⟨by unfold addB; rw [if_neg (Ne.symm he)]; exact h1, ?_⟩
        rintro b (⟨_, hb⟩ | ⟨rfl, _⟩)
        · exact h2 b hb
        · exact he rfl
  · intro j o' hj
    rw [look_cons] at hj
    by_cases he : d = j
    · rw [if_pos he] at hj; cases hj; subst he; exact ho
    · rw [if_neg he, look_cons] at hj
      by_cases he2 : k = j
      · rw [if_pos he2] at hj; cases hj
        subst he2
        have : ∃ l, β k = some l := by
          have hr := h.h.objs k _ hk
          cases ok with
          | box cs => obtain ⟨b, cap, n, t, vs, h1, _⟩ := hr; exact ⟨_, h1⟩
          | row e sz xs => obtain ⟨_, _, hr⟩ := hr; rcases hr with ⟨h1, _⟩ | ⟨b, cap, vs, h1, _⟩ <;> exact ⟨_, h1⟩
          | rowv e sz xs => obtain ⟨_, _, b, cap, vs, h1, _⟩ := hr; exact ⟨_, h1⟩
          | dead => exact hr
        obtain ⟨l', hl'⟩ := this
        exact ⟨l', hβ k l' hl'⟩
      · rw [if_neg he2] at hj
        exact (h.h.objs j o' hj).mono hS hβ fun b hb => ⟨.inl ⟨Ne.symm he2, hb⟩, hw.block b (h.h.ow j b hb).1 (fun hO => he2 (h.h.dj k j b hO hb))⟩
  · intro t v hl; exact (h.sl t v hl).mono hS hβ
  · rintro j b (⟨_, hb⟩ | ⟨_, hb⟩)
    · exact h.o1 j b hb
    · rcases hN b hb with hb | ⟨h1, _⟩
      · exact h.o1 k b hb
      · exact .inr (Nat.le_trans h.fr.size h1)
  · intro j hj hn
    have hjd : j ≠ d := fun e => hp (e ▸ hj)
    unfold addB
    rw [if_neg hjd]
    refine h.b0 j hj fun e => ?_
    by_cases hjk : k = j
    · subst hjk; rw [hk] at e; cases e
    · apply hn
      show look ((d, o) :: (k, .dead) :: E.ob) j = none
      rw [look_cons, if_neg (Ne.symm hjd), look_cons, if_neg hjk]; exact e
  · exact h.fr.trans hw fun b hb => h.o1 k b hb

/-- A row that is nil. -/
theorem SimAt.newNil (h : SimAt Γ S O β E a w) {d : Nat} (hd : look E.ob d = none) (hp : d ∉ Γ.par) (e : TypeId) (sz : Nat) : SimAt Γ S O (addB β d .nil) ⟨E.sl, (d, .row e sz []) :: E.ob, E.n⟩ a w := by
  have hβ := addB_old (l := .nil) (h.h.dom d hd).1
  have hS : ∀ b, S b → S b ∧ w.heap[b]? = w.heap[b]? := fun b hb => ⟨hb, rfl⟩
  refine ⟨⟨h.h.sh, h.h.ow, h.h.dj, ?_, ?_⟩, fun t v hl => (h.sl t v hl).mono hS hβ, h.n, h.df, h.s0, h.s1, h.o1, ?_, h.fr⟩
  · intro j hj
    rw [look_cons] at hj
    by_cases he : d = j
    · rw [if_pos he] at hj; cases hj
    · rw [if_neg he] at hj
      exact ⟨by unfold addB; rw [if_neg (Ne.symm he)]; exact (h.h.dom j hj).1, (h.h.dom j hj).2⟩
  · intro j o' hj
    rw [look_cons] at hj
    by_cases he : d = j
    · rw [if_pos he] at hj; cases hj; subst he
      exact ⟨fun i x hx => by simp at hx, Nat.zero_le _, .inl ⟨addB_same _ _ _, rfl⟩⟩
    · rw [if_neg he] at hj
      exact (h.h.objs j o' hj).mono hS hβ fun b hb => ⟨hb, rfl⟩
  · intro j hj hn
    have hjd : j ≠ d := fun e => hp (e ▸ hj)
    unfold addB
    rw [if_neg hjd]
    refine h.b0 j hj fun e => hn ?_
    show look ((d, _) :: E.ob) j = none
    rw [look_cons, if_neg (Ne.symm hjd)]; exact e

/-- What a slice's cells are, read: its address, and the values there. -/
structure Src (S : Nat → Prop) (w : World) (x : Value) (sz : Nat) (ys : List (List AV)) (zs : List Value) : Prop where
  len : zs.length = ys.length * sz
  one : ∀ v ∈ zs, v.oneCell' = true
  rep : ∀ (i : Nat) (y : List AV) (j : Nat) (c : AV), ys[i]? = some y → y[j]? = some c → ∃ v, zs[i * sz + j]? = some v ∧ PRep S w c v
  sz : ∀ (i : Nat) (y : List AV), ys[i]? = some y → y.length = sz
  src : (x = .slice none 0 0 ∧ ys = []) ∨ (∃ p cap, x = .slice (some p) 0 cap ∧ ys = []) ∨ ∃ (b off cap : Nat), x = .slice (some ⟨b, off, none⟩) ys.length cap ∧ ∀ (j : Nat) (v : Value), zs[j]? = some v → w.cell? ⟨b, off + j, none⟩ = some v

theorem divmod_lt {n sz m : Nat} (h : m < n * sz) : ∃ i j, m = i * sz + j ∧ i < n ∧ j < sz := by
  have hsz : 0 < sz := by
    cases sz with
    | zero => simp at h
    | succ s => omega
  exact ⟨m / sz, m % sz, by rw [Nat.mul_comm]; exact (Nat.div_add_mod m sz).symm, (Nat.div_lt_iff_lt_mul hsz).2 h, Nat.mod_lt _ hsz⟩

theorem src_shr {x : Value} {sz : Nat} {ys : List (List AV)} (h : VRep S β w (.shr sz ys) x) : ∃ zs, Src S w x sz ys zs := by
  rcases h.shr_inv with ⟨rfl, rfl⟩ | ⟨p, rfl, rfl⟩ | ⟨b, off, cap, f, rfl, hb, hcap, hm, hsz, hc, hp⟩
  · exact ⟨[], by simp, by simp, by simp, by simp, .inl ⟨rfl, rfl⟩⟩
  · exact ⟨[], by simp, by simp, by simp, by simp, .inr (.inl ⟨p, 0, rfl, rfl⟩)⟩
  · have key : ∀ m, m < ys.length * sz → ∃ v, w.cell? ⟨b, off + m, none⟩ = some v ∧ v.oneCell' = true ∧ ∀ (i : Nat) (y : List AV) (j : Nat) (c : AV), m = i * sz + j → ys[i]? = some y → y[j]? = some c → PRep S w c v := by
      intro m hm'
      obtain ⟨i, j, rfl, hi, hj⟩ := divmod_lt hm'
      have hy : ys[i]? = some ys[i] := List.getElem?_eq_getElem hi
      have hyl := hsz i _ hy
      have hcj : ys[i][j]? = some (ys[i][j]'(by omega)) := List.getElem?_eq_getElem (by omega)
      refine ⟨f i j, hc i _ j _ hy hcj, (hp i _ j _ hy hcj).one, fun i' y' j' c' he hy' hc' => ?_⟩
      have hj' : j' < sz := by have := hsz i' y' hy'; have := (List.getElem?_eq_some_iff.1 hc').1; omega
      have hii : i = i' := Classical.byContradiction fun hne => row_apart hne hj hj' he
      subst hii
      have hjj : j = j' := by omega
      subst hjj
      exact hp i y' j c' hy' hc'
    have key2 : ∀ m : Fin (ys.length * sz), ∃ v, w.cell? ⟨b, off + m.1, none⟩ = some v ∧ v.oneCell' = true ∧ ∀ (i : Nat) (y : List AV) (j : Nat) (c : AV), m.1 = i * sz + j → ys[i]? = some y → y[j]? = some c → PRep S w c v := fun m => key m.1 m.2
    refine ⟨List.ofFn fun m => Classical.choose (key2 m), by simp, ?_, ?_, hsz, .inr (.inr ⟨b, off, cap, rfl, ?_⟩)⟩
    · intro v hv
      rw [List.mem_ofFn] at hv
      obtain ⟨m, rfl⟩ := hv
      exact (Classical.choose_spec (key2 m)).2.1
    · intro i y j c hy hc'
      have hi : i < ys.length := (List.getElem?_eq_some_iff.1 hy).1
      have hj : j < sz := by have := hsz i y hy; have := (List.getElem?_eq_some_iff.1 hc').1; omega
      have hlt : i * sz + j < ys.length * sz := by
        have h1 : (i + 1) * sz ≤ ys.length * sz := Nat.mul_le_mul_right _ hi
        rw [Nat.add_mul, Nat.one_mul] at h1; omega
      exact ⟨Classical.choose (key2 ⟨_, hlt⟩), by rw [List.getElem?_ofFn]; simp [hlt], (Classical.choose_spec (key2 ⟨_, hlt⟩)).2.2 i y j c rfl hy hc'⟩
    · intro m v hv
      rw [List.getElem?_ofFn] at hv
      split at hv
      · cases hv; rename_i hlt; exact (Classical.choose_spec (key2 ⟨m, hlt⟩)).1
      · cases hv

theorem Src.mono {w' : World} {S' : Nat → Prop} {x : Value} {sz : Nat} {ys : List (List AV)} {zs : List Value} (h : Src S w x sz ys zs) (hS : ∀ b, S b → S' b ∧ w'.heap[b]? = w.heap[b]?) : ∀ (i : Nat) (y : List AV) (j : Nat) (c : AV), ys[i]? = some y → y[j]? = some c → ∃ v, zs[i * sz + j]? = some v ∧ PRep S' w' c v :=
  fun i y j c hy hc => let ⟨v, h1, h2⟩ := h.rep i y j c hy hc; ⟨v, h1, h2.mono hS⟩

theorem size_zeroCells' (z : Array Value) (n : Nat) : (Builtin.zeroCells z n).size = n * z.size := by simp [Builtin.zeroCells]

/-- The cells of old elements, and of new ones behind them. -/
theorem app_rep {S' : Nat → Prop} {w' : World} {sz : Nat} {xs ys : List (List AV)} {os zs rest : List Value} (hos : os.length = xs.length * sz) (hsx : ∀ (i : Nat) (x : List AV), xs[i]? = some x → x.length = sz) (hsy : ∀ (i : Nat) (x : List AV), ys[i]? = some x → x.length = sz) (hzs : zs.length = ys.length * sz)
    (ho : ∀ (i : Nat) (x : List AV) (j : Nat) (c : AV), xs[i]? = some x → x[j]? = some c → ∃ v, os[i * sz + j]? = some v ∧ PRep S' w' c v)
    (hz : ∀ (i : Nat) (x : List AV) (j : Nat) (c : AV), ys[i]? = some x → x[j]? = some c → ∃ v, zs[i * sz + j]? = some v ∧ PRep S' w' c v) :
    ∀ (i : Nat) (x : List AV) (j : Nat) (c : AV), (xs ++ ys)[i]? = some x → x[j]? = some c → ∃ v, (os ++ zs ++ rest)[i * sz + j]? = some v ∧ PRep S' w' c v := by
  intro i x j c hx hc
  by_cases hi : i < xs.length
  · rw [List.getElem?_append_left hi] at hx
    obtain ⟨v, h1, h2⟩ := ho i x j c hx hc
    have hlt := (List.getElem?_eq_some_iff.1 h1).1
    exact ⟨v, by rw [List.append_assoc, List.getElem?_append_left hlt]; exact h1, h2⟩
  · rw [List.getElem?_append_right (by omega)] at hx
    obtain ⟨v, h1, h2⟩ := hz _ x j c hx hc
    have hlt := (List.getElem?_eq_some_iff.1 h1).1
    have e : i * sz + j = os.length + ((i - xs.length) * sz + j) := by
      rw [hos, Nat.sub_mul]
      have : xs.length * sz ≤ i * sz := Nat.mul_le_mul_right _ (by omega)
      omega
    refine ⟨v, ?_, h2⟩
    rw [e, List.append_assoc, List.getElem?_append_right (by omega), show os.length + ((i - xs.length) * sz + j) - os.length = (i - xs.length) * sz + j by omega, List.getElem?_append_left hlt]
    exact h1

theorem get_app_sz {xs ys : List (List AV)} {sz : Nat} (hsx : ∀ (i : Nat) (x : List AV), xs[i]? = some x → x.length = sz) (hsy : ∀ (i : Nat) (x : List AV), ys[i]? = some x → x.length = sz) : ∀ (i : Nat) (x : List AV), (xs ++ ys)[i]? = some x → x.length = sz := by
  intro i x hx
  by_cases hi : i < xs.length
  · rw [List.getElem?_append_left hi] at hx; exact hsx i x hx
  · rw [List.getElem?_append_right (by omega)] at hx; exact hsy _ x hx
end
end Go.Vc
