/- Regions that draw their order: one walk in the order of the text serves every order, where what touches one thing is in order anyway. -/
import Derived.Test.YtaadloihphpdbaaVcCall
import Derived.KernelRfl
set_option linter.unusedSimpArgs false
set_option linter.unusedVariables false
namespace Go.Vc
open Go Go.RowKit

def mask (acc : List Nat) (o : Oper) : Nat := o.after.toList.foldl (fun s e => if Region.binds .any e then s ||| 2 ^ e.on ||| acc.getD e.on 0 else s) 0
def ancs : List Oper → List Nat → List Nat
  | [], acc => acc
  | o :: os, acc => ancs os (acc ++ [mask acc o])

theorem ancs_spec : ∀ (l : List Oper) (acc : List Nat), (ancs l acc).length = acc.length + l.length ∧ (∀ i, i < acc.length → (ancs l acc)[i]? = acc[i]?) ∧
    ∀ i o, l[i]? = some o → (ancs l acc)[acc.length + i]? = some (mask ((ancs l acc).take (acc.length + i)) o)
  | [], acc => ⟨rfl, fun _ _ => rfl, fun i o h => by simp at h⟩
  | o :: os, acc => by
    obtain ⟨h1, h2, h3⟩ := ancs_spec os (acc ++ [mask acc o])
    simp only [List.length_append, List.length_cons, List.length_nil] at h1 h2 h3
    refine ⟨by simp only [ancs, List.length_cons]; omega, fun i hi => ?_, fun i o' ho => ?_⟩
    · simp only [ancs]
      rw [h2 i (by omega), List.getElem?_append_left hi]
    · cases i with
      | zero =>
        simp at ho; subst ho
        simp only [ancs, Nat.add_zero]
        rw [h2 acc.length (by omega), List.getElem?_append_right (Nat.le_refl _)]
        simp only [Nat.sub_self, List.getElem?_cons_zero, Option.some.injEq]
        congr 1
        apply List.ext_getElem?
        intro j
        by_cases hj : j < acc.length
        · rw [List.getElem?_take, if_pos hj, h2 j (by omega), List.getElem?_append_left hj]
        · rw [List.getElem?_take, if_neg hj, List.getElem?_eq_none (by omega)]
      | succ i =>
        have := h3 i o' (by simpa using ho)
        simp only [ancs]
        rw [show acc.length + (i + 1) = acc.length + (0 + 1) + i by omega]
        exact this

theorem mask_bit {acc : List Nat} {o : Oper} {j : Nat} (h : (mask acc o).testBit j = true) : ∃ e ∈ o.after.toList, Region.binds .any e = true ∧ (j = e.on ∨ (acc.getD e.on 0).testBit j = true) := by
  have key : ∀ (es : List Edge) (s : Nat), (es.foldl (fun s e => if Region.binds .any e then s ||| 2 ^ e.on ||| acc.getD e.on 0 else s) s).testBit j = true →
      s.testBit j = true ∨ ∃ e ∈ es, Region.binds .any e = true ∧ (j = e.on ∨ (acc.getD e.on 0).testBit j = true) := by
    intro es
    induction es with
    | nil => intro s hs; exact .inl hs
    | cons e es ih =>
      intro s hs
      rcases ih _ hs with h1 | ⟨e', he', hb, hj⟩
      · dsimp only at h1
        by_cases hb : Region.binds .any e = true
        · rw [if_pos hb] at h1
          rw [Nat.testBit_or, Nat.testBit_or, Nat.testBit_two_pow] at h1
          simp only [Bool.or_eq_true, decide_eq_true_eq] at h1
          rcases h1 with (h1 | h1) | h1
          · exact .inl h1
          · exact .inr ⟨e, by simp, hb, .inl h1.symm⟩
          · exact .inr ⟨e, by simp, hb, .inr h1⟩
        · rw [if_neg hb] at h1; exact .inl h1
      · exact .inr ⟨e', by simp [he'], hb, hj⟩
  rcases key _ _ h with h | h
  · simp at h
  · exact h

/-- Both touch one thing, and one of them turns it. -/
def dep (x y : Lg) : Bool :=
  (match x.dst with | some d => y.rs.contains d || y.dst == some d | none => false) || (match y.dst with | some d => x.rs.contains d | none => false) ||
  x.wo.any (fun k => y.ro.contains k || y.wo.contains k) || y.wo.any (fun k => x.ro.contains k)

def chk1 (anc : Nat) (y : Lg) : List Lg → Nat → Bool
  | [], _ => true
  | x :: xs, j => (!dep x y || anc.testBit j) && chk1 anc y xs (j + 1)

def chkGo : List Nat → List Lg → List Lg → Bool
  | a :: as, pre, y :: ys => chk1 a y pre 0 && chkGo as (pre ++ [y]) ys
  | [], _, [] => true
  | _, _, _ => false

def backs (l : List Oper) : Bool := (l.zipIdx.all fun p => p.1.after.toList.all fun e => !Region.binds .any e || Nat.blt e.on p.2)

/-- Whatever touches one thing is in order. -/
def chk (l : List Oper) (log : List Lg) : Bool := backs l && chkGo (ancs l []) [] log

theorem chk1_spec {anc : Nat} {y : Lg} : ∀ (xs : List Lg) (j0 : Nat), chk1 anc y xs j0 = true → ∀ j x, xs[j]? = some x → dep x y = true → anc.testBit (j0 + j) = true
  | [], _, _, j, x, h, _ => by simp at h
  | x0 :: xs, j0, h, j, x, hx, hd => by
    simp only [chk1, Bool.and_eq_true, Bool.or_eq_true, Bool.not_eq_true'] at h
    cases j with
    | zero => simp at hx; subst hx; rcases h.1 with h1 | h1; rw [hd] at h1; cases h1; simpa using h1
    | succ j =>
      have := chk1_spec xs (j0 + 1) h.2 j x (by simpa using hx) hd
      rwa [show j0 + (j + 1) = j0 + 1 + j by omega]

theorem chkGo_spec : ∀ (as : List Nat) (pre ys : List Lg), chkGo as pre ys = true → as.length = ys.length ∧ ∀ i y a, ys[i]? = some y → as[i]? = some a → ∀ j x, j < pre.length + i → (pre ++ ys)[j]? = some x → dep x y = true → a.testBit j = true
  | [], pre, [], _ => ⟨rfl, fun i y a h => by simp at h⟩
  | a :: as, pre, y :: ys, h => by
    simp only [chkGo, Bool.and_eq_true] at h
    obtain ⟨h1, h2⟩ := chkGo_spec as (pre ++ [y]) ys h.2
    refine ⟨by simp [h1], fun i y' a' hy ha j x hj hx hd => ?_⟩
    cases i with
    | zero =>
      simp at hy ha; subst hy ha
      have hx' : pre[j]? = some x := by rwa [List.getElem?_append_left (by omega)] at hx
      simpa using chk1_spec pre 0 h.1 j x hx' hd
    | succ i =>
      refine h2 i y' a' (by simpa using hy) (by simpa using ha) j x (by simp; omega) (by simpa [List.append_assoc] using hx) hd
  | [], _, _ :: _, h => by simp [chkGo] at h
  | _ :: _, _, [], h => by simp [chkGo] at h

/-! ### Effects, whatever their order -/
structure Ef where
  o : Oper
  val : AV
  upd : List (Nat × AO)
  rs : List Nat
  ro : List Nat

def Ef.lg (e : Ef) : Lg := ⟨e.o.dst, e.rs, e.ro, e.upd.map (·.1)⟩
def apps (E : Env) (L : List Ef) : Env := L.foldl (fun E e => E.app e.o.dst e.val e.upd) E

theorem apps_snoc (E : Env) (L : List Ef) (e : Ef) : apps E (L ++ [e]) = (apps E L).app e.o.dst e.val e.upd := by simp [apps]
theorem apps_n (E : Env) (L : List Ef) : (apps E L).n = E.n := by
  induction L generalizing E with
  | nil => rfl
  | cons e L ih => exact (ih _).trans rfl

theorem look_append {α : Type} (l m : List (Nat × α)) (k : Nat) : look (l ++ m) k = (match look l k with | some v => some v | none => look m k) := by
  induction l with
  | nil => simp [look]
  | cons p l ih =>
    rw [List.cons_append, look_cons, look_cons]
    by_cases h : p.1 = k
    · simp [h]
    · simp [h, ih]

theorem look_notin {α : Type} (l : List (Nat × α)) (k : Nat) (h : k ∉ l.map (·.1)) : look l k = none := by
  induction l with
  | nil => rfl
  | cons p l ih =>
    simp only [List.map_cons, List.mem_cons, not_or] at h
    rw [look_cons, if_neg (Ne.symm h.1)]; exact ih h.2

def wrS (t : Nat) (e : Ef) : Bool := e.o.dst == some t
def wrO (k : Nat) (e : Ef) : Bool := (e.upd.map (·.1)).contains k

theorem app_sl (E : Env) (e : Ef) (t : Nat) : look (E.app e.o.dst e.val e.upd).sl t = if wrS t e then some e.val else look E.sl t := by
  unfold Env.app wrS
  cases hd : e.o.dst with
  | none => simp
  | some d =>
    simp only [look_cons]
    by_cases h : d = t
    · simp [h]
    · simp [h]

theorem app_ob (E : Env) (e : Ef) (k : Nat) (h : wrO k e = false) : look (E.app e.o.dst e.val e.upd).ob k = look E.ob k := by
  show look (e.upd ++ E.ob) k = _
  rw [look_append, look_notin e.upd k (by simpa [wrO] using h)]

theorem sl_filter (t : Nat) : ∀ (L : List Ef) (E E' : Env), look E.sl t = look E'.sl t → look (apps E L).sl t = look (apps E' (L.filter (wrS t))).sl t
  | [], _, _, h => h
  | e :: L, E, E', h => by
    by_cases hw : wrS t e = true
    · rw [List.filter_cons_of_pos hw]
      exact sl_filter t L _ _ (by rw [app_sl, app_sl, if_pos hw, if_pos hw])
    · rw [List.filter_cons_of_neg hw]
      exact sl_filter t L _ E' (by rw [app_sl, if_neg hw]; exact h)

theorem ob_filter (k : Nat) : ∀ (L : List Ef) (E E' : Env), look E.ob k = look E'.ob k → look (apps E L).ob k = look (apps E' (L.filter (wrO k))).ob k
  | [], _, _, h => h
  | e :: L, E, E', h => by
    by_cases hw : wrO k e = true
    · rw [List.filter_cons_of_pos hw]
      refine ob_filter k L _ _ ?_
      show look (e.upd ++ E.ob) k = look (e.upd ++ E'.ob) k
      rw [look_append, look_append, h]
    · rw [List.filter_cons_of_neg hw]
      exact ob_filter k L _ E' (by rw [app_ob _ _ _ (by simpa using hw)]; exact h)

theorem sorted_ext : ∀ (l m : List Nat), l.Pairwise (· < ·) → m.Pairwise (· < ·) → (∀ x, x ∈ l ↔ x ∈ m) → l = m
  | [], [], _, _, _ => rfl
  | [], b :: m, _, _, h => by have := (h b).2 (by simp); simp at this
  | a :: l, [], _, _, h => by have := (h a).1 (by simp); simp at this
  | a :: l, b :: m, hl, hm, h => by
    rw [List.pairwise_cons] at hl hm
    have hab : a = b := by
      have h1 := (h a).1 (by simp)
      have h2 := (h b).2 (by simp)
      simp only [List.mem_cons] at h1 h2
      rcases h1 with h1 | h1
      · exact h1
      · rcases h2 with h2 | h2
        · exact h2.symm
        · have := hm.1 a h1; have := hl.1 b h2; omega
    subst hab
    congr 1
    refine sorted_ext l m hl.2 hm.2 fun x => ?_
    have := h x
    simp only [List.mem_cons] at this
    constructor
    · intro hx
      rcases this.1 (.inr hx) with h1 | h1
      · subst h1; exact absurd (hl.1 x hx) (Nat.lt_irrefl _)
      · exact h1
    · intro hx
      rcases this.2 (.inr hx) with h1 | h1
      · subst h1; exact absurd (hm.1 x hx) (Nat.lt_irrefl _)
      · exact h1

/-! ### Any order -/
section
variable {l : List Oper} {effs : List Ef}

/-- What has been done so far, in its order: each operation once, behind all that it waits for. -/
inductive Good (l : List Oper) : List Nat → Prop
  | nil : Good l []
  | snoc {D : List Nat} {i : Nat} {o : Oper} : Good l D → l[i]? = some o → i ∉ D → (∀ e ∈ o.after.toList, Region.binds .any e = true → e.on ∈ D) → Good l (D ++ [i])

theorem Good.closed {D : List Nat} (h : Good l D) : ∀ i ∈ D, ∀ o, l[i]? = some o → ∀ e ∈ o.after.toList, Region.binds .any e = true → e.on ∈ D := by
  induction h with
  | nil => intro i hi; simp at hi
  | snoc hD ho hn he ih =>
    intro i hi o' ho' e hee hb
    simp only [List.mem_append, List.mem_singleton] at hi ⊢
    rcases hi with hi | rfl
    · exact .inl (ih i hi o' ho' e hee hb)
    · rw [ho] at ho'; cases ho'; exact .inl (he e hee hb)

theorem anc_mem {D : List Nat} (hc : ∀ i ∈ D, ∀ o, l[i]? = some o → ∀ e ∈ o.after.toList, Region.binds .any e = true → e.on ∈ D) (hb : backs l = true) :
    ∀ (i : Nat) (o : Oper), l[i]? = some o → (∀ e ∈ o.after.toList, Region.binds .any e = true → e.on ∈ D) → ∀ a, (ancs l [])[i]? = some a → ∀ j, a.testBit j = true → j ∈ D := by
  intro i
  induction i using Nat.strongRecOn with
  | _ i ih =>
    intro o ho he a ha j hj
    obtain ⟨h1, _, h3⟩ := ancs_spec l []
    have hi := h3 i o ho
    simp only [List.length_nil, Nat.zero_add] at hi h1
    rw [ha] at hi
    cases hi
    obtain ⟨e, hee, hbi, hj'⟩ := mask_bit hj
    have hlt : e.on < i := by
      have hm : (o, i) ∈ l.zipIdx := by
        rw [List.mem_zipIdx_iff_getElem?]; exact ho
      have := List.all_eq_true.1 hb (o, i) hm
      have := List.all_eq_true.1 this e hee
      simp only [Bool.or_eq_true, Bool.not_eq_true', hbi] at this
      rcases this with h | h
      · cases h
      · exact Nat.blt_eq.mp h
    rcases hj' with rfl | hj'
    · exact he e hee hbi
    · have hil : i < l.length := (List.getElem?_eq_some_iff.1 ho).1
      have hlo : e.on < l.length := by omega
      have hg : ((ancs l []).take i).getD e.on 0 = (ancs l [])[e.on]'(by omega) := by
        simp [List.getD, List.getElem?_take, hlt, List.getElem?_eq_getElem (show e.on < (ancs l []).length by omega)]
      rw [hg] at hj'
      exact ih e.on hlt l[e.on] (List.getElem?_eq_getElem hlo) (hc e.on (he e hee hbi) _ (List.getElem?_eq_getElem hlo)) _ (List.getElem?_eq_getElem (by omega)) j hj'

theorem Good.lt {D : List Nat} (h : Good l D) : ∀ i ∈ D, i < l.length := by
  induction h with
  | nil => intro i hi; simp at hi
  | snoc hD ho hn he ih =>
    intro i hi
    simp only [List.mem_append, List.mem_singleton] at hi
    rcases hi with hi | rfl
    · exact ih i hi
    · exact (List.getElem?_eq_some_iff.1 ho).1

/-- Two that touch one thing stand in order: the elder is done wherever the younger is. -/
theorem dep_before {D : List Nat} (hk : chk l (effs.map Ef.lg) = true) (hD : Good l D) {i j : Nat} {x y : Ef} (hx : effs[j]? = some x) (hy : effs[i]? = some y) (hji : j < i) (hd : dep x.lg y.lg = true) (hi : i ∈ D ∨ ∃ o, l[i]? = some o ∧ ∀ e ∈ o.after.toList, Region.binds .any e = true → e.on ∈ D) : j ∈ D := by
  unfold chk at hk
  rw [Bool.and_eq_true] at hk
  obtain ⟨h1, h2⟩ := chkGo_spec _ _ _ hk.2
  have hlen := (ancs_spec l []).1
  have hil : i < effs.length := (List.getElem?_eq_some_iff.1 hy).1
  have hal : i < (ancs l []).length := by rw [h1]; simpa using hil
  have hb := h2 i y.lg _ (by simp [hy]) (List.getElem?_eq_getElem hal) j x.lg (by simpa using hji) (by simp [hx]) hd
  have hlo : i < l.length := by simp only [List.length_nil, Nat.zero_add] at hlen; omega
  rcases hi with hi | ⟨o, ho, he⟩
  · exact anc_mem hD.closed hk.1 i l[i] (List.getElem?_eq_getElem hlo) (hD.closed i hi _ (List.getElem?_eq_getElem hlo)) _ (List.getElem?_eq_getElem hal) j hb
  · exact anc_mem hD.closed hk.1 i o ho he _ (List.getElem?_eq_getElem hal) j hb

def effAt (effs : List Ef) (D : List Nat) : List Ef := D.filterMap fun i => effs[i]?

/-- Those of D that touch a thing, in D's own order, are those of the text, if they are the same ones. -/
theorem same_filter (hk : chk l (effs.map Ef.lg) = true) (hl : effs.length = l.length) (p : Ef → Bool) (hp : ∀ x y, p x = true → p y = true → dep x.lg y.lg = true) {D : List Nat} (hD : Good l D) (i : Nat)
    (hm : ∀ j x, effs[j]? = some x → p x = true → (j ∈ D ↔ j < i)) : (effAt effs D).filter p = (effs.take i).filter p := by
  let q : Nat → Bool := fun j => match effs[j]? with | some x => p x | none => false
  have hs : (D.filter q).Pairwise (· < ·) := by
    clear hm
    induction hD with
    | nil => simp
    | snoc hD0 ho hn he ih =>
      rename_i D0 i0 o0
      rw [List.filter_append, List.pairwise_append]
      refine ⟨ih, ?_, ?_⟩
      · by_cases hq : q i0 = true
        · simp [hq]
        · simp [hq]
      · intro j hj j' hj'
        simp only [List.mem_filter, List.mem_singleton] at hj hj'
        obtain ⟨hj, hqj⟩ := hj
        obtain ⟨rfl, hqj'⟩ := hj'
        rcases Nat.lt_trichotomy j j' with h | h | h
        · exact h
        · subst h; exact absurd hj hn
        · exfalso
          simp only [q] at hqj hqj'
          cases hx : effs[j]? with
          | none => rw [hx] at hqj; cases hqj
          | some x =>
            cases hy : effs[j']? with
            | none => rw [hy] at hqj'; cases hqj'
            | some y =>
              rw [hx] at hqj; rw [hy] at hqj'
              exact hn (dep_before hk hD0 hy hx h (hp _ _ hqj' hqj) (.inl hj))
  have hs2 : ((List.range l.length).filter fun j => q j && decide (j < i)).Pairwise (· < ·) := List.Pairwise.filter _ List.pairwise_lt_range
  have heq : D.filter q = (List.range l.length).filter fun j => q j && decide (j < i) := by
    refine sorted_ext _ _ hs hs2 fun j => ?_
    simp only [List.mem_filter, List.mem_range, Bool.and_eq_true, decide_eq_true_eq]
    constructor
    · rintro ⟨h1, h2⟩
      have h2' := h2
      simp only [q] at h2'
      cases hx : effs[j]? with
      | none => rw [hx] at h2'; cases h2'
      | some x => rw [hx] at h2'; exact ⟨hD.lt j h1, h2, (hm j x hx h2').1 h1⟩
    · rintro ⟨h1, h2, h3⟩
      have h2' := h2
      simp only [q] at h2'
      cases hx : effs[j]? with
      | none => rw [hx] at h2'; cases h2'
      | some x => rw [hx] at h2'; exact ⟨(hm j x hx h2').2 h3, h2⟩
  have e1 : ∀ D : List Nat, (effAt effs D).filter p = (D.filter q).filterMap fun i => effs[i]? := by
    intro D
    induction D with
    | nil => rfl
    | cons j D ih =>
      simp only [effAt, List.filterMap_cons] at ih ⊢
      cases hx : effs[j]? with
      | none =>
        have : q j = false := by simp [q, hx]
        rw [List.filter_cons_of_neg (by simp [this])]; exact ih
      | some x =>
        by_cases hpx : p x = true
        · have : q j = true := by simp [q, hx, hpx]
          rw [List.filter_cons_of_pos hpx, List.filter_cons_of_pos this, List.filterMap_cons, hx, ih]
        · have : q j = false := by simp [q, hx, hpx]
          rw [List.filter_cons_of_neg hpx, List.filter_cons_of_neg (by simp [this]), ih]
  have e2 : effs.take i = effAt effs ((List.range l.length).filter fun j => decide (j < i)) := by
    have key : ∀ (n : Nat) , effAt effs (List.range n) = effs.take n := by
      intro n
      induction n with
      | zero => rfl
      | succ n ih =>
        rw [List.range_succ]
        unfold effAt at ih ⊢
        rw [List.filterMap_append, ih, List.take_add_one]
        congr 1
    have hr : ((List.range l.length).filter fun j => decide (j < i)) = List.range (min i l.length) := by
      refine sorted_ext _ _ (List.Pairwise.filter _ List.pairwise_lt_range) List.pairwise_lt_range fun j => ?_
      simp only [List.mem_filter, List.mem_range, decide_eq_true_eq]; omega
    rw [hr, key]
    by_cases h : i ≤ l.length
    · rw [Nat.min_eq_left h]
    · rw [Nat.min_eq_right (by omega), List.take_of_length_le (by omega), List.take_of_length_le (by omega)]
  rw [e1, heq, e2, e1, List.filter_filter]
end

section
variable {G : Prg} {Γ : Ctx} {Q : Exit → Env → Prop} {E : Env}

/-- The walk of the text, as a list of effects. -/
theorem VR.effs {ops : Array Oper} {fin : List Lg → Prop} {K : Env → Prop} : ∀ (os : List Oper) (log : List Lg) (E : Env), VR G Γ ops fin K os log E →
    ∃ effs : List Ef, effs.length = os.length ∧ (∀ i e, effs[i]? = some e → os[i]? = some e.o ∧ GOp G Γ ops e.o (apps E (effs.take i)) e.val e.upd e.rs e.ro) ∧ fin (log ++ effs.map Ef.lg) ∧ K (apps E effs)
  | [], log, E, h => ⟨[], rfl, fun i e he => by simp at he, by simpa using h.1, h.2⟩
  | o :: os, log, E, h => by
    obtain ⟨val, upd, rs, ro, hg, hr⟩ := h
    obtain ⟨effs, h1, h2, h3, h4⟩ := VR.effs os _ _ hr
    refine ⟨⟨o, val, upd, rs, ro⟩ :: effs, by simp [h1], fun i e he => ?_, by simpa [Ef.lg] using h3, h4⟩
    cases i with
    | zero => simp at he; subst he; exact ⟨rfl, hg⟩
    | succ i =>
      obtain ⟨h5, h6⟩ := h2 i e (by simpa using he)
      exact ⟨by simpa using h5, h6⟩

theorem dep_wrS {t : Nat} {x y : Ef} (hx : wrS t x = true) (hy : wrS t y = true) : dep x.lg y.lg = true := by
  simp only [wrS, beq_iff_eq] at hx hy
  simp [dep, Ef.lg, hx, hy]
theorem dep_wrO {k : Nat} {x y : Ef} (hx : wrO k x = true) (hy : wrO k y = true) : dep x.lg y.lg = true := by
  simp only [wrO, List.contains_iff_mem] at hx hy
  simp only [dep, Ef.lg, Bool.or_eq_true, List.any_eq_true]
  refine .inl (.inr ⟨k, hx, ?_⟩)
  right; simpa using hy
theorem dep_rdS {t : Nat} {x y : Ef} (hx : wrS t x = true) (hy : t ∈ y.rs) : dep x.lg y.lg = true ∧ dep y.lg x.lg = true := by
  simp only [wrS, beq_iff_eq] at hx
  constructor <;> simp [dep, Ef.lg, hx, hy]
theorem dep_rdO {k : Nat} {x y : Ef} (hx : wrO k x = true) (hy : k ∈ y.ro) : dep x.lg y.lg = true ∧ dep y.lg x.lg = true := by
  simp only [wrO, List.contains_iff_mem] at hx
  constructor
  · simp only [dep, Ef.lg, Bool.or_eq_true, List.any_eq_true]
    exact .inl (.inr ⟨k, hx, .inl (by simpa using hy)⟩)
  · simp only [dep, Ef.lg, Bool.or_eq_true, List.any_eq_true]
    exact .inr ⟨k, hx, by simpa using hy⟩

/-- A region that draws its order. -/
theorem vw_draw {id : Nat} {l : List Oper} (h : VR G Γ l.toArray (fun log => chk l log = true) (Q .normal) l [] E) : VW G Γ (.region id l.toArray true) Q E := by
  intro a w hs
  obtain ⟨effs, hlen, hef, hk, hK⟩ := VR.effs l [] E h
  simp only [List.nil_append] at hk
  refine wp_region_any G.mixed ?_
  -- at the end everything has been done
  have fin : ∀ D, Good l D → (∀ i, i < l.length → i ∈ D) → ∀ a w, Sim Γ (apps E (effAt effs D)) a w → Sim Γ (apps E effs) a w := by
    intro D hD hall a w hs
    have hsl : ∀ t, look (apps E (effAt effs D)).sl t = look (apps E effs).sl t := by
      intro t
      rw [sl_filter t _ E E rfl, sl_filter t effs E E rfl, same_filter hk hlen (wrS t) (fun x y => dep_wrS) hD l.length (fun j x hx _ => ⟨fun hj => hD.lt j hj, fun hj => hall j hj⟩), List.take_of_length_le (by omega)]
    have hob : ∀ k, look (apps E (effAt effs D)).ob k = look (apps E effs).ob k := by
      intro k
      rw [ob_filter k _ E E rfl, ob_filter k effs E E rfl, same_filter hk hlen (wrO k) (fun x y => dep_wrO) hD l.length (fun j x hx _ => ⟨fun hj => hD.lt j hj, fun hj => hall j hj⟩), List.take_of_length_le (by omega)]
    obtain ⟨S, O, β, hs⟩ := hs
    exact ⟨S, O, β, ⟨hs.h.sh, hs.h.ow, hs.h.dj, fun k hk' => hs.h.dom k ((hob k).trans hk'), fun k o hk' => hs.h.objs k o ((hob k).trans hk')⟩, fun t v hv => hs.sl t v ((hsl t).trans hv), by rw [hs.n, apps_n, apps_n], hs.df, hs.s0, hs.s1, hs.o1,
      fun k hk' hn => hs.b0 k hk' (by rw [hob k]; exact hn), hs.fr⟩
  have main : ∀ (fuel : Nat) (D : List Nat) (listed : Array Bool) (a : Act) (w : World), Good l D → listed.size = l.length → (∀ i, i < l.length → (listed.getD i false = true ↔ i ∈ D)) → l.length ≤ fuel + D.length → D.Nodup → Sim Γ (apps E (effAt effs D)) a w →
      wpAny G.P .any l.toArray (fun e a' w' => ∃ E', Q e E' ∧ Sim Γ E' a' w') fuel listed a w := by
    have done : ∀ (D : List Nat) (listed : Array Bool), Good l D → listed.size = l.length → (∀ i, i < l.length → (listed.getD i false = true ↔ i ∈ D)) → Region.ready .any l.toArray listed = [] → ∀ i, i < l.length → i ∈ D := by
      intro D listed hD hsz hli hr i
      induction i using Nat.strongRecOn with
      | _ i ih =>
        intro hi
        refine Classical.byContradiction fun hn => ?_
        have hm : i ∈ Region.ready .any l.toArray listed := by
          rw [mem_ready]
          refine ⟨?_, l[i], by simp [hi], fun e he hb => ?_⟩
          · have : ¬ listed.getD i false = true := fun h => hn ((hli i hi).1 h)
            have hlt : i < listed.size := by omega
            simp only [Array.getD_eq_getD_getElem?, Array.getElem?_eq_getElem hlt, Option.getD_some] at this ⊢
            simpa using this
          · have hbk : backs l = true := by unfold chk at hk; rw [Bool.and_eq_true] at hk; exact hk.1
            have hm : (l[i], i) ∈ l.zipIdx := by rw [List.mem_zipIdx_iff_getElem?]; exact List.getElem?_eq_getElem hi
            have := List.all_eq_true.1 hbk _ hm
            have := List.all_eq_true.1 this e (by simpa using he)
            simp only [Bool.or_eq_true, Bool.not_eq_true', hb] at this
            rcases this with h | h
            · cases h
            · have hlt := Nat.blt_eq.mp h
              exact (hli e.on (by omega)).2 (ih e.on hlt (by omega))
        rw [hr] at hm
        simp at hm
    intro fuel
    induction fuel with
    | zero =>
      intro D listed a w hD hsz hli hf hnd hs
      have hall : ∀ i, i < l.length → i ∈ D := by
        intro i hi
        refine Classical.byContradiction fun hn => ?_
        have h1 : (i :: D).Nodup := List.nodup_cons.2 ⟨hn, hnd⟩
        have h2 : (i :: D) ⊆ List.range l.length := by
          intro j hj
          simp only [List.mem_cons] at hj
          rw [List.mem_range]
          rcases hj with rfl | hj
          · exact hi
          · exact hD.lt j hj
        have := h1.length_le_of_subset h2
        simp at this
        omega
      refine ⟨?_, apps E effs, hK, fin D hD hall a w hs⟩
      refine List.eq_nil_iff_forall_not_mem.2 fun i hi => ?_
      rw [mem_ready] at hi
      obtain ⟨h1, o, ho, _⟩ := hi
      have hil : i < l.length := by have := (List.getElem?_eq_some_iff.1 (show l[i]? = some o by simpa using ho)).1; exact this
      have h2 := (hli i hil).2 (hall i hil)
      have hlt : i < listed.size := by omega
      simp only [Array.getD_eq_getD_getElem?, Array.getElem?_eq_getElem hlt, Option.getD_some] at h1 h2
      rw [h2] at h1; cases h1
    | succ fuel ih =>
      intro D listed a w hD hsz hli hf hnd hs
      refine ⟨fun hr => ⟨apps E effs, hK, fin D hD (done D listed hD hsz hli hr) a w hs⟩, fun i hi => ?_⟩
      rw [mem_ready] at hi
      obtain ⟨h1, o, ho, hall⟩ := hi
      have ho' : l[i]? = some o := by simpa using ho
      have hil : i < l.length := (List.getElem?_eq_some_iff.1 ho').1
      have hlt : i < listed.size := by omega
      have hnD : i ∉ D := fun hm => by
        have h2 := (hli i hil).2 hm
        simp only [Array.getD_eq_getD_getElem?, Array.getElem?_eq_getElem hlt, Option.getD_some] at h1 h2
        rw [h2] at h1; cases h1
      have hbk : backs l = true := by unfold chk at hk; rw [Bool.and_eq_true] at hk; exact hk.1
      have hdeps : ∀ e ∈ o.after.toList, Region.binds .any e = true → e.on ∈ D := by
        intro e he hb
        have hm : (o, i) ∈ l.zipIdx := by rw [List.mem_zipIdx_iff_getElem?]; exact ho'
        have := List.all_eq_true.1 hbk _ hm
        have := List.all_eq_true.1 this e he
        simp only [Bool.or_eq_true, Bool.not_eq_true', hb] at this
        rcases this with h | h
        · cases h
        · have hlt := Nat.blt_eq.mp h
          exact (hli e.on (by omega)).1 (hall e (by simpa using he) hb)
      have heff : effs[i]? = some (effs[i]'(by omega)) := List.getElem?_eq_getElem (by omega)
      obtain ⟨h3, h4⟩ := hef i _ heff
      have hoe : (effs[i]'(by omega)).o = o := by rw [ho'] at h3; cases h3; rfl
      -- where it looks, the world of this order is the world of the text
      have hlook : ∀ (p : Ef → Bool) (hp : ∀ x y, p x = true → p y = true → dep x.lg y.lg = true) (hr : ∀ x, p x = true → dep x.lg (effs[i]'(by omega)).lg = true ∧ dep (effs[i]'(by omega)).lg x.lg = true), (effAt effs D).filter p = (effs.take i).filter p := by
        intro p hp hr
        refine same_filter hk hlen p hp hD i fun j x hx hpx => ?_
        constructor
        · intro hj
          rcases Nat.lt_trichotomy j i with h | h | h
          · exact h
          · subst h; exact absurd hj hnD
          · exact absurd (dep_before hk hD heff hx h (hr x hpx).2 (.inl hj)) hnD
        · intro hj
          exact dep_before hk hD hx heff hj (hr x hpx).1 (.inr ⟨o, ho', hdeps⟩)
      have hsl : ∀ t, t ∈ (effs[i]'(by omega)).rs → look (apps E (effAt effs D)).sl t = look (apps E (effs.take i)).sl t := by
        intro t ht
        rw [sl_filter t _ E E rfl, sl_filter t (effs.take i) E E rfl, hlook (wrS t) (fun x y => dep_wrS) (fun x hx => dep_rdS hx ht)]
      have hob : ∀ k, k ∈ (effs[i]'(by omega)).ro → look (apps E (effAt effs D)).ob k = look (apps E (effs.take i)).ob k := by
        intro k hk'
        rw [ob_filter k _ E E rfl, ob_filter k (effs.take i) E E rfl, hlook (wrO k) (fun x y => dep_wrO) (fun x hx => dep_rdO hx hk')]
      unfold wpOp
      rw [ho]
      simp only
      rw [hoe] at h4
      refine h4.sound (by rw [apps_n, apps_n]) hsl hob hs fun a' w' hs' => ?_
      have hgood : Good l (D ++ [i]) := .snoc hD ho' hnD hdeps
      refine ih (D ++ [i]) _ a' w' hgood (by simpa using hsz) (fun j hj => ?_) (by simp; omega) ?_ ?_
      · simp only [List.mem_append, List.mem_singleton]
        by_cases hij : i = j
        · subst hij
          simp [hlt]
        · rw [getD_set_ne false hij, hli j hj]
          constructor
          · exact .inl
          · rintro (h | h)
            · exact h
            · exact absurd h.symm hij
      · rw [List.nodup_append]
        refine ⟨hnd, by simp, ?_⟩
        intro x hx y hy
        simp only [List.mem_singleton] at hy
        subst hy
        intro e; subst e; exact hnD hx
      · have e : effAt effs (D ++ [i]) = effAt effs D ++ [effs[i]'(by omega)] := by
          unfold effAt
          rw [List.filterMap_append]
          simp [heff]
        rw [e, apps_snoc, hoe]
        exact hs'
  exact main l.toArray.size [] _ a _ .nil (by simp) (fun i hi => by simp [hi]) (by simp) (by simp) (by simpa [effAt, apps] using hs.drew)
end
end Go.Vc
