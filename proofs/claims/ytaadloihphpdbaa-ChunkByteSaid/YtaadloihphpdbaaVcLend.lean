/- Calls that are lent objects: what is handed over by pointer, or moved; what is only read is given up. -/
import Derived.Test.YtaadloihphpdbaaVcFun
set_option linter.unusedVariables false
set_option linter.unusedSimpArgs false
namespace Go.Vc
open Go Go.RowKit

def idL : List (Nat × Nat) → Bool
  | [] => true
  | p :: r => Nat.beq p.1 p.2 && idL r

theorem ren_id : ∀ {l : List (Nat × Nat)}, idL l = true → ∀ {i k : Nat}, ren l i = some k → i = k
  | [], _, i, k, h => by simp [ren, look] at h
  | (a, b) :: r, hl, i, k, h => by
    have hl' : Nat.beq a b = true ∧ idL r = true := by simpa [idL] using hl
    have hab := Nat.eq_of_beq_eq_true hl'.1
    unfold ren at h
    rw [look_cons] at h
    by_cases he : a = i
    · rw [if_pos he] at h; cases h; exact he.symm.trans hab
    · rw [if_neg he] at h; exact ren_id hl'.2 h

theorem look_key {α : Type} : ∀ {l : List (Nat × α)} {k : Nat}, look l k ≠ none → k ∈ l.map (·.1)
  | [], k, h => absurd rfl h
  | p :: l, k, h => by
    rw [look_cons] at h
    by_cases he : p.1 = k
    · simp [he]
    · rw [if_neg he] at h; simp [look_key h]

theorem look_of_key {α : Type} : ∀ {l : List (Nat × α)} {k : Nat}, k ∈ l.map (·.1) → look l k ≠ none
  | [], k, h => by simp at h
  | p :: l, k, h => by
    rw [look_cons]
    by_cases he : p.1 = k
    · rw [if_pos he]; simp
    · rw [if_neg he]
      simp only [List.map_cons, List.mem_cons] at h
      rcases h with h | h
      · exact absurd h.symm he
      · exact look_of_key h

def deads : List Nat → List (Nat × AO)
  | [] => []
  | k :: r => (k, .dead) :: deads r

theorem look_deads : ∀ {l : List Nat} {k : Nat} {o : AO}, look (deads l) k = some o → o = .dead ∧ k ∈ l
  | [], k, o, h => by simp [deads, look] at h
  | a :: r, k, o, h => by
    rw [deads, look_cons] at h
    by_cases he : a = k
    · rw [if_pos he] at h; cases h; exact ⟨rfl, by simp [he]⟩
    · rw [if_neg he] at h
      obtain ⟨h1, h2⟩ := look_deads h
      exact ⟨h1, by simp [h2]⟩

theorem deads_look : ∀ {l : List Nat} {k : Nat}, k ∈ l → look (deads l) k = some .dead
  | [], k, h => by simp at h
  | a :: r, k, h => by
    rw [deads, look_cons]
    by_cases he : a = k
    · rw [if_pos he]
    · rw [if_neg he]
      simp only [List.mem_cons] at h
      rcases h with h | h
      · exact absurd h.symm he
      · exact deads_look h

def WkOf (ob ob' : List (Nat × AO)) (ρ : Nat → Option Nat) (fz : Nat → Prop) : List (Nat × AO) → Prop
  | [] => True
  | (i, o') :: r => SubO ob ob' ρ fz i o' ∧ WkOf ob ob' ρ fz r

theorem WkOf.get {ob ob' : List (Nat × AO)} {ρ : Nat → Option Nat} {fz : Nat → Prop} : ∀ {l : List (Nat × AO)}, WkOf ob ob' ρ fz l → ∀ i o', look l i = some o' → SubO ob ob' ρ fz i o'
  | [], _, t, v', h => by simp [look] at h
  | (t0, v0) :: r, hw, t, v', h => by
    rw [look_cons] at h
    by_cases he : t0 = t
    · rw [if_pos he] at h; cases h; subst he; exact hw.1
    · rw [if_neg he] at h; exact WkOf.get hw.2 t v' h

/-- What is lent: all in one test. rl: the lent ones' names; bor: those that are given up to be read; dd: those that are no more behind the call. -/
def lendOk (rl : List (Nat × Nat)) (bor dd : List Nat) (ob0 ob ob' : List (Nat × AO)) : Bool :=
  idL rl && (bor.all fun k => ((look rl k).isNone && (look ob' k).isNone) && (look ob0 k).isSome) && (dd.all fun k => (look rl k).isSome || bor.any (Nat.beq k)) &&
  (rl.all fun p => (look ob p.1).isSome && ((look ob' p.1).isSome || dd.any (Nat.beq p.1))) && (bor.all fun k => dd.any (Nat.beq k))

/-- What is new behind the call is new to the caller. -/
def freshOk (rl : List (Nat × Nat)) (ob' obE : List (Nat × AO)) : Bool := ob'.all fun p => (look rl p.1).isSome || (look obE p.1).isNone
def freshPar (rl : List (Nat × Nat)) (ob' par : List (Nat × AO)) : Bool := ob'.all fun p => (look rl p.1).isSome || (look par p.1).isNone

theorem any_beq {l : List Nat} {k : Nat} (h : l.any (Nat.beq k) = true) : k ∈ l := by
  obtain ⟨x, hx, he⟩ := List.any_eq_true.1 h
  rw [Nat.eq_of_beq_eq_true he]; exact hx

theorem isSome_ne {α : Type} {o : Option α} (h : o.isSome = true) : o ≠ none := by cases o with | none => cases h | some => simp
theorem isNone_eq {α : Type} {o : Option α} (h : o.isNone = true) : o = none := by cases o with | none => rfl | some => cases h

section
variable {G : Prg} {Γ : Ctx} {S : Nat → Prop} {O : Nat → Nat → Prop} {β : Beta} {E : Env} {a : Act} {w : World}
variable {dst : Option Tmp} {ty : TypeId} {pos : String} {aft : Array Edge} {gd : Option (Nat × Bool)} {ats : Array TypeId}

theorem op_callO {f : FuncId} {fx : Operand} {xs : List Operand} {args as caps : List AV} {res : AV} {ob ob' ob0 : List (Nat × AO)} (rl : List (Nat × Nat)) (bor dd : List Nat) (hV : VFun G f args ob res ob')
    (hfx : evo (look E.sl) fx = some (.clo f caps)) (hx : evoA (look E.sl) xs = some as) (hinc : ∀ k o, look ob0 k = some o → look E.ob k = some o)
    (hob : WkOf ob0 ob (ren rl) (fun k => k ∈ bor) ob) (hsub : F2 (Sub ob0 ob (ren rl) (fun k => k ∈ bor)) args (as ++ caps)) (hok : lendOk rl bor dd ob0 ob ob' = true)
    (hf1 : freshOk rl ob' E.ob = true) (hf2 : ∀ k, look ob' k ≠ none → ren rl k = none → k ∉ Γ.par) (hd : ∀ d, dst = some d → d < E.n) :
    OpS G Γ ⟨dst, .call { callee := .value fx, args := xs.toArray, argTypes := ats }, ty, pos, aft, gd⟩ E res (ob' ++ deads dd) (sl1 fx ++ xs.flatMap sl1) (ob0.map (·.1) ++ ob'.map (·.1) ++ dd) := by
  intro E' hn h1 h2 S O β a w hs K Q hK
  obtain ⟨hcal, hV⟩ := hV
  unfold lendOk at hok
  simp only [Bool.and_eq_true] at hok
  obtain ⟨⟨⟨⟨k1, k2⟩, k3⟩, k4⟩, k5⟩ := hok
  have hid : ∀ {i k : Nat}, ren rl i = some k → i = k := fun h => ren_id k1 h
  have hbor : ∀ k ∈ bor, ren rl k = none ∧ look ob' k = none := fun k hk => by
    have := List.all_eq_true.1 k2 k hk
    simp only [Bool.and_eq_true] at this
    exact ⟨isNone_eq this.1.1, isNone_eq this.1.2⟩
  have hno0 : ∀ k ∈ bor, look ob0 k ≠ none := fun k hk => by
    have := List.all_eq_true.1 k2 k hk
    simp only [Bool.and_eq_true] at this
    exact isSome_ne this.2
  have hdd : ∀ k ∈ dd, ren rl k ≠ none ∨ k ∈ bor := fun k hk => by
    have := List.all_eq_true.1 k3 k hk
    simp only [Bool.or_eq_true] at this
    rcases this with h | h
    · exact .inl (isSome_ne h)
    · exact .inr (any_beq h)
  have hrl : ∀ k, ren rl k ≠ none → look ob k ≠ none ∧ (look ob' k ≠ none ∨ k ∈ dd) := fun k hk => by
    obtain ⟨p, hp, rfl⟩ := look_mem hk
    have := List.all_eq_true.1 k4 p hp
    simp only [Bool.and_eq_true, Bool.or_eq_true] at this
    exact ⟨isSome_ne this.1, this.2.imp isSome_ne any_beq⟩
  have hbd : ∀ k ∈ bor, k ∈ dd := fun k hk => any_beq (List.all_eq_true.1 k5 k hk)
  have hinc' : ∀ k o, look ob0 k = some o → look E'.ob k = some o := fun k o hk =>
    (h2 k (by simp only [List.mem_append]; exact .inl (.inl (look_key (by rw [hk]; simp))))).trans (hinc k o hk)
  have hno : ∀ k ∈ bor, look E'.ob k ≠ none := fun k hk => by
    cases h : look ob0 k with
    | none => exact absurd h (hno0 k hk)
    | some o => rw [hinc' k o h]; simp
  have hnew : ∀ k, look ob' k ≠ none → ren rl k = none → look E'.ob k = none := fun k hk hr => by
    rw [h2 k (by simp only [List.mem_append]; exact .inl (.inr (look_key hk)))]
    obtain ⟨p, hp, rfl⟩ := look_mem hk
    have := List.all_eq_true.1 hf1 p hp
    simp only [Bool.or_eq_true] at this
    rcases this with h | h
    · exact absurd hr (isSome_ne h)
    · exact isNone_eq h
  have hH1 := HRep.wk0 (fz := fun k => k ∈ bor) (ρ := ren rl) (ob' := ob) hs.h hinc' (fun i j k _ _ hi hj => (hid hi).trans (hid hj).symm)
    (fun i k _ hi hb => by have := (hbor k hb).1; rw [← hid hi] at this; rw [this] at hi; cases hi) hob.get
  have hz : ∀ (k : Nat) (e : TypeId) (sz : Nat) (xs : List (List AV)) (l : Loc), look ob0 k = some (.row e sz xs) → k ∈ bor → β k = some l → PRep (wkS S O (fun k => k ∈ bor)) w (.shr sz xs) l.slice :=
    fun k e sz xs l h3 h4 h5 => frozen_row (fz := fun k => k ∈ bor) hs.h (hinc' k _ h3) h4 h5
  have hcv := hs.ev ((evo_congr fun t ht => h1 t (by simp only [List.mem_append]; exact .inl ht)).trans hfx)
  obtain ⟨us, hfe, hul, hur⟩ := hcv.clo_inv
  have happ : ∀ {as : List AV} {vs : List Value} {bs : List AV} {us : List Value}, F2 (fun c x => VRep S β w c x) as vs → F2 (fun c x => VRep S β w c x) bs us → F2 (fun c x => VRep S β w c x) (as ++ bs) (vs ++ us) := by
    intro as vs bs us h g
    induction h with
    | nil => exact g
    | cons h1 _ ih => exact .cons h1 ih
  have hcaps : F2 (fun c x => VRep S β w c x) caps us := by
    clear hfe hcv hsub hfx
    induction caps generalizing us with
    | nil => cases us with | nil => exact .nil | cons => simp at hul
    | cons c r ih => cases us with
      | nil => simp at hul
      | cons u us => exact .cons (hur 0 c u rfl rfl) (ih us (by simpa using hul) fun j c' x hc hx => hur (j + 1) c' x (by simpa using hc) (by simpa using hx))
  have hall := happ (evoA_rep hs xs as ((evoA_congr xs fun t ht => h1 t (by simp only [List.mem_append]; exact .inr ht)).trans hx)) hcaps
  have hargs : F2 (fun c x => VRep (wkS S O (fun k => k ∈ bor)) (wkB β (ren rl) ob) w c x) args (xs.map a.eval ++ us) := F2.sub (R := Sub ob0 ob (ren rl) (fun k => k ∈ bor)) (A := fun c x => VRep S β w c x) (B := fun c x => VRep (wkS S O (fun k => k ∈ bor)) (wkB β (ren rl) ob) w c x) (fun c' c x hr hc => VRep.wk' hz hr hc) hsub hall
  have hcall := hV _ _ _ w (xs.map a.eval ++ us) hH1 hargs
  unfold Oper.wp
  have hex : (execOp a.eval ⟨dst, .call { callee := .value fx, args := xs.toArray, argTypes := ats }, ty, pos, aft, gd⟩).run G.P w = .ok (.enter f (xs.map a.eval ++ us).toArray) w := by
    have := run_callF hcal (xs.map a.eval ++ us).toArray w
    simp [execOp, resolve, Deferred.ofValue, invoke, hfe]
    simpa using this
  rw [hex, Oper.upon_enter]
  refine hcall.mono ?_
  rintro e w' ⟨x, rfl, S', O', β', hH', hx', hS1, hS2, hO', hb, hfr⟩
  have hL : ∀ b, (∃ k, wkO O (ren rl) ob k b) → ∃ k, ren rl k = some k ∧ O k b := by
    rintro b ⟨k, _, k', hk, hb⟩
    have := hid hk; subst this
    exact ⟨k, hk, hb⟩
  have hSL : ∀ b, S b → ¬ ∃ k, wkO O (ren rl) ob k b := fun b hb hl => by
    obtain ⟨k, _, hk⟩ := hL b hl
    exact (hs.h.ow k b hk).2 hb
  have hOL : ∀ k b, O k b → ren rl k = none → ¬ ∃ k, wkO O (ren rl) ob k b := fun k b hb hr hl => by
    obtain ⟨j, hj, hjb⟩ := hL b hl
    have := hs.h.dj k j b hb hjb
    subst this; rw [hr] at hj; cases hj
  have hbig : ∀ b, b < w.heap.size → (¬ ∃ k, wkO O (ren rl) ob k b) → w'.heap[b]? = w.heap[b]? := fun b hb hn => hfr.block b hb hn
  let β2 : Beta := fun k => match look ob' k with | none => β k | some _ => β' k
  let O2 : Nat → Nat → Prop := fun k b => O' k b ∨ (O k b ∧ ren rl k = none ∧ k ∉ bor)
  have hβ : ∀ k l, β k = some l → β2 k = some l := by
    intro k l hk
    show (match look ob' k with | none => β k | some _ => β' k) = some l
    cases hl : look ob' k with
    | none => exact hk
    | some o =>
      cases hr : ren rl k with
      | none => rw [(hs.h.dom k (hnew k (by rw [hl]; simp) hr)).1] at hk; cases hk
      | some k' =>
        have := hid hr; subst this
        have hne := (hrl k (by rw [hr]; simp)).1
        have e1 := hb k hne (by rw [hl]; simp)
        rw [wkB_some hr hne] at e1
        exact e1.trans hk
  have hβ' : ∀ k l, β' k = some l → β2 k = some l := by
    intro k l hk
    show (match look ob' k with | none => β k | some _ => β' k) = some l
    cases hl : look ob' k with
    | none => rw [(hH'.dom k hl).1] at hk; cases hk
    | some o => exact hk
  have hS : ∀ c, S c → S' c ∧ w'.heap[c]? = w.heap[c]? := fun c hc => ⟨hS1 c (.inl hc), hbig c (hs.h.sh c hc) (hSL c hc)⟩
  have hSnew : ∀ b, S' b → (S b ∨ (∃ k, (k ∈ bor ∨ ren rl k = some k) ∧ O k b)) ∨ w.heap.size ≤ b := by
    intro b hb
    rcases hS2 b hb with (h3 | ⟨k, hk, h3⟩) | h3 | h3
    · exact .inl (.inl h3)
    · exact .inl (.inr ⟨k, .inl hk, h3⟩)
    · obtain ⟨k, hk, h4⟩ := hL b h3
      exact .inl (.inr ⟨k, .inr hk, h4⟩)
    · exact .inr h3
  have hOnew : ∀ k b, O' k b → (∃ j, ren rl j = some j ∧ O j b) ∨ w.heap.size ≤ b := by
    intro k b hb
    rcases hO' k b hb with h3 | h3
    · exact .inl (hL b h3)
    · exact .inr h3
  have hkeep : ∀ k b, O k b → ren rl k = none → k ∉ bor → ¬ S' b := by
    intro k b hb hr hnb hs'
    rcases hSnew b hs' with (h3 | ⟨j, hj, h3⟩) | h3
    · exact (hs.h.ow k b hb).2 h3
    · have := hs.h.dj k j b hb h3
      subst this
      rcases hj with hj | hj
      · exact hnb hj
      · rw [hr] at hj; cases hj
    · have := (hs.h.ow k b hb).1; omega
  have hsim : SimAt Γ S' O2 β2 ⟨E'.sl, ob' ++ deads dd ++ E'.ob, E'.n⟩ a w' := by
    refine ⟨⟨hH'.sh, ?_, ?_, ?_, ?_⟩, ?_, hs.n, hs.df, fun b hb => hS1 b (.inl (hs.s0 b hb)), ?_, ?_, ?_, ?_⟩
    · rintro k b (hb | ⟨hb, hr, hnb⟩)
      · exact hH'.ow k b hb
      · exact ⟨Nat.lt_of_lt_of_le (hs.h.ow k b hb).1 hfr.size, hkeep k b hb hr hnb⟩
    · rintro k k' b (hb | ⟨hb, hr, hnb⟩) (hb' | ⟨hb', hr', hnb'⟩)
      · exact hH'.dj k k' b hb hb'
      · rcases hOnew k b hb with ⟨j, hj, h3⟩ | h3
        · have := hs.h.dj j k' b h3 hb'
          subst this; rw [hr'] at hj; cases hj
        · have := (hs.h.ow k' b hb').1; omega
      · rcases hOnew k' b hb' with ⟨j, hj, h3⟩ | h3
        · have := hs.h.dj j k b h3 hb
          subst this; rw [hr] at hj; cases hj
        · have := (hs.h.ow k b hb).1; omega
      · exact hs.h.dj k k' b hb hb'
    · intro k hk
      have hk' : look (ob' ++ deads dd ++ E'.ob) k = none := hk
      rw [look_append, look_append] at hk'
      cases hl : look ob' k with
      | some o => rw [hl] at hk'; cases hk'
      | none =>
        rw [hl] at hk'
        cases hl2 : look (deads dd) k with
        | some o => rw [hl2] at hk'; cases hk'
        | none =>
          rw [hl2] at hk'
          have hd0 := hs.h.dom k hk'
          refine ⟨?_, ?_⟩
          · show (match look ob' k with | none => β k | some _ => β' k) = none
            rw [hl]; exact hd0.1
          · rintro b (hb | ⟨hb, _⟩)
            · exact (hH'.dom k hl).2 b hb
            · exact hd0.2 b hb
    · intro k o hk
      have hk' : look (ob' ++ deads dd ++ E'.ob) k = some o := hk
      rw [look_append, look_append] at hk'
      cases hl : look ob' k with
      | some o' =>
        rw [hl] at hk'; cases hk'
        exact (hH'.objs k _ hl).mono (fun b hb => ⟨hb, rfl⟩) hβ' fun b hb => ⟨.inl hb, rfl⟩
      | none =>
        rw [hl] at hk'
        cases hl2 : look (deads dd) k with
        | some o' =>
          rw [hl2] at hk'; cases hk'
          obtain ⟨rfl, hkd⟩ := look_deads hl2
          have hbound : ∃ l, β k = some l := by
            rcases hdd k hkd with hr | hbk
            · cases hr' : ren rl k with
              | none => exact absurd hr' hr
              | some k' =>
                have := hid hr'; subst this
                have hne := (hrl k hr).1
                cases ho : look ob k with
                | none => exact absurd ho hne
                | some o1 =>
                  obtain ⟨l, hl⟩ := (hH1.objs k o1 ho).bound
                  rw [wkB_some hr' hne] at hl
                  exact ⟨l, hl⟩
            · cases ho : look E'.ob k with
              | some o1 => exact (hs.h.objs k o1 ho).bound
              | none => exact absurd ho (hno k hbk)
          obtain ⟨l, hl3⟩ := hbound
          exact ⟨l, hβ k l hl3⟩
        | none =>
          rw [hl2] at hk'
          have hr : ren rl k = none := by
            cases hr : ren rl k with
            | none => rfl
            | some k' =>
              rcases (hrl k (by rw [hr]; simp)).2 with h3 | h3
              · exact absurd hl h3
              · rw [deads_look h3] at hl2; cases hl2
          have hnb : k ∉ bor := fun hb => by rw [deads_look (hbd k hb)] at hl2; cases hl2
          exact (hs.h.objs k o hk').mono hS hβ fun b hb => ⟨.inr ⟨hb, hr, hnb⟩, hbig b (hs.h.ow k b hb).1 (hOL k b hb hr)⟩
    · intro t v hl; exact (hs.sl t v hl).mono hS hβ
    · intro b hb
      rcases hSnew b hb with (h3 | ⟨k, _, h3⟩) | h3
      · exact hs.s1 b h3
      · rcases hs.o1 k b h3 with h4 | h4
        · exact .inr (.inl h4)
        · exact .inr (.inr h4)
      · exact .inr (.inr (Nat.le_trans hs.fr.size h3))
    · rintro k b (hb | ⟨hb, _⟩)
      · rcases hOnew k b hb with ⟨j, _, h3⟩ | h3
        · exact hs.o1 j b h3
        · exact .inr (Nat.le_trans hs.fr.size h3)
      · exact hs.o1 k b hb
    · intro k hk hn'
      have hE : look E'.ob k ≠ none := by
        intro hE
        have hn2 : look (ob' ++ deads dd ++ E'.ob) k ≠ none := hn'
        rw [look_append, look_append, hE] at hn2
        cases hl : look ob' k with
        | some o =>
          cases hr : ren rl k with
          | none => exact hf2 k (by rw [hl]; simp) hr hk
          | some k' =>
            have := hid hr; subst this
            have hne := (hrl k (by rw [hr]; simp)).1
            cases ho : look ob k with
            | none => exact hne ho
            | some o1 =>
              obtain ⟨l, hl4⟩ := (hH1.objs k o1 ho).bound
              rw [wkB_some hr hne, (hs.h.dom k hE).1] at hl4; cases hl4
        | none =>
          rw [hl] at hn2
          cases hl2 : look (deads dd) k with
          | none => rw [hl2] at hn2; exact hn2 rfl
          | some o =>
            obtain ⟨_, hkd⟩ := look_deads hl2
            rcases hdd k hkd with hr | hbk
            · cases hr' : ren rl k with
              | none => exact hr hr'
              | some k' =>
                have := hid hr'; subst this
                have hne := (hrl k hr).1
                cases ho : look ob k with
                | none => exact hne ho
                | some o1 =>
                  obtain ⟨l, hl4⟩ := (hH1.objs k o1 ho).bound
                  rw [wkB_some hr' hne, (hs.h.dom k hE).1] at hl4; cases hl4
            · exact hno k hbk hE
      have hb0 := hs.b0 k hk hE
      cases hbk : β k with
      | none =>
        cases ho : look E'.ob k with
        | none => exact absurd ho hE
        | some o => obtain ⟨l, hl⟩ := (hs.h.objs k o ho).bound; rw [hbk] at hl; cases hl
      | some l => rw [hβ k l hbk, ← hb0, hbk]
    · exact hs.fr.trans hfr fun b hb => by
        obtain ⟨k, _, h3⟩ := hL b hb
        exact hs.o1 k b h3
  have := hsim.put (hx'.mono (fun b hb => ⟨hb, rfl⟩) hβ') (dst := dst) (fun d hd' => by show d < E'.n; rw [hn]; exact hd d hd')
  exact hK _ _ ⟨S', O2, β2, this⟩
end
end Go.Vc
