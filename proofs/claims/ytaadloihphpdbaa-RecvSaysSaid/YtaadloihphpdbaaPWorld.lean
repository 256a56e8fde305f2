/- Worlds, as pure data: what always holds; what a step does to one lane alone; what a tenant put. No program in sight. -/
import Derived.Test.YtaadloihphpdbaaPLane
set_option linter.unusedVariables false
set_option linter.unusedSimpArgs false
namespace Go.Proofs.Ytaadloihphpdbaa
open Go Go.Vc

/-! ### What always holds, spoilt or not -/
structure BInv (l : Lane) : Prop where
  s : SInv l.s
  r : RInv l.r
  there : l.there.length ≤ 6 ∧ ∀ p ∈ l.there, p.length ≤ 16
  back : l.back.length ≤ 6 ∧ ∀ p ∈ l.back, p.length ≤ 16
theorem binv0 : BInv lane0 := ⟨sinv0, rinv0, by simp [lane0], by simp [lane0]⟩
theorem bytes_le {c : Chunk} (h : wrong c = 0) : (bytes c).length ≤ 12 := by
  unfold bytes
  rw [sealed_length]
  obtain ⟨hn, ⟨hk, h39, hp, he, hs, hd⟩ | ⟨hk, hs, hp, hd, hl, hr⟩⟩ := wrong_ok h
  · rw [body_data hk he]; simp; omega
  · rw [body_ack hk]; simp; omega
def POk (P : Packets) : Prop := P.length ≤ 6 ∧ ∀ p ∈ P, p.length ≤ 16
theorem pok_put {P : Packets} (h : POk P) {b : List UInt8} (hb : b.length ≤ 16) : POk (putP P b) := by
  refine ⟨?_, fun p hp => ?_⟩
  · unfold putP
    split
    · exact h.1
    · rw [List.length_append]; simp; omega
  · rcases mem_putP hp with e | e
    · exact h.2 p e
    · rw [e]; exact hb
theorem pok_erase {P : Packets} (h : POk P) (k : Nat) : POk (P.eraseIdx k) :=
  ⟨Nat.le_trans (List.eraseIdx_sublist _ _).length_le h.1, fun p hp => h.2 p (List.mem_of_mem_eraseIdx hp)⟩
theorem pok_set {P : Packets} (h : POk P) (k : Nat) {b : List UInt8} (hb : b.length ≤ 16) : POk (P.set k b) :=
  ⟨by rw [List.length_set]; exact h.1, fun p hp => (mem_set hp).elim (h.2 p) fun e => by rw [e]; exact hb⟩
theorem BInv.way {l : Lane} (h : BInv l) (b : Bool) : POk (way l b) := by cases b; exact h.there; exact h.back
theorem binv_with {l : Lane} (h : BInv l) (b : Bool) {P : Packets} (hP : POk P) : BInv (withP l b P) := by
  cases b
  · exact ⟨h.s, h.r, hP, h.back⟩
  · exact ⟨h.s, h.r, h.there, hP⟩
theorem binv_speak {l : Lane} (h : BInv l) : BInv (speak l) := by
  refine ⟨sinv_say h.s, rinv_say h.r, ?_, ?_⟩
  · show POk (if (say l.s).2.2 then putP l.there (bytes (say l.s).2.1) else l.there)
    split
    · rename_i ho
      have := bytes_le (say_right h.s ho).1
      exact pok_put h.there (by omega)
    · exact h.there
  · show POk (if (rsay l.r).2.2 then putP l.back (bytes (rsay l.r).2.1) else l.back)
    split
    · rename_i ho
      have e3 : (rsay l.r).2.1 = ⟨2, l.r.next, 0, 0, [], l.r.early⟩ := by
        unfold rsay at ho ⊢
        split
        · rfl
        · rename_i hx; rw [if_neg hx] at ho; cases ho
      have := bytes_le (ack_right h.r)
      exact pok_put h.back (by rw [e3]; omega)
    · exact h.back
theorem binv_comes {l : Lane} (h : BInv l) (k : Nat) (b : Bool) : BInv (comes l k b) := by
  have hw := binv_with h b (pok_erase (h.way b) k)
  unfold comes
  simp only
  split
  · exact hw
  · rename_i hr
    have hr : (read ((Go.Proofs.Ytaadloihphpdbaa.way l b).getD k [])).2 = 0 := Decidable.of_not_not hr
    have hc := (bytes_read hr).1
    split
    · exact ⟨sinv_hear hw.s _, hw.r, hw.there, hw.back⟩
    · exact ⟨hw.s, rinv_hear hw.r hc, hw.there, hw.back⟩
theorem binv_packet {l : Lane} (h : BInv l) (kind n a : Int) (b : Bool) : BInv (packet l kind n a b).1 := by
  unfold packet
  simp only
  split
  · exact h
  · rename_i h1
    have hk : n.toNat < (Go.Proofs.Ytaadloihphpdbaa.way l b).length := by omega
    have hp := (h.way b).2 _ (getD_mem hk)
    split
    · exact binv_with h b (pok_erase (h.way b) _)
    · split
      · exact binv_with h b (pok_put (h.way b) hp)
      · split
        · split
          · exact h
          · refine binv_with h b (pok_set (h.way b) _ ?_)
            unfold spoilAt; rw [List.length_set]; exact hp
        · exact binv_comes h _ _
theorem binv_step {l : Lane} (h : BInv l) (s : Step) : BInv (stepLane l s).1 := by
  unfold stepLane
  split
  · exact ⟨sinv_put h.s _, h.r, h.there, h.back⟩
  · exact binv_packet h _ _ _ _

/-! ### One lane of a world -/
def lstep (n t : Nat) (x : Lane × Int) (s : Step) : Lane × Int :=
  if s.kind = 1 then (if (x.2 % n).toNat = t then speak x.1 else x.1, x.2 + 1)
  else if (1 ≤ s.kind ∧ s.kind ≤ 6) ∧ s.tenant = t then ((stepLane x.1 s).1, x.2) else x
def atL (w : World') (t : Nat) : Lane × Int := (w.lanes.getD t lane0, w.ticks)
theorem getD_set {l : List Lane} {i t : Nat} {a : Lane} (ht : t < l.length) : (l.set i a).getD t lane0 = if i = t then a else l.getD t lane0 := by
  simp only [List.getD, List.getElem?_set]
  by_cases h : i = t
  · subst h; simp [ht]
  · simp [h]
theorem doStep_len (w : World') (s : Step) : (doStep w s).1.lanes.length = w.lanes.length := by
  unfold doStep
  split
  · rfl
  · split
    · simp
    · split
      · rfl
      · simp
theorem doStep_at {w : World'} {s : Step} {t : Nat} (ht : t < w.lanes.length) : atL (doStep w s).1 t = lstep w.lanes.length t (atL w t) s := by
  unfold doStep lstep
  by_cases h1 : s.kind < 1 ∨ 6 < s.kind
  · rw [if_pos h1, if_neg (by omega), if_neg (by omega)]
  · rw [if_neg h1]
    by_cases h2 : s.kind = 1
    · rw [if_pos h2, if_pos h2]
      show (((w.lanes.set (whose w) _).getD t lane0, w.ticks + 1) : Lane × Int) = _
      rw [getD_set ht]
      show _ = ((if whose w = t then speak (w.lanes.getD t lane0) else w.lanes.getD t lane0), w.ticks + 1)
      by_cases h3 : whose w = t
      · rw [if_pos h3, if_pos h3, h3]
      · rw [if_neg h3, if_neg h3]
    · rw [if_neg h2, if_neg h2]
      by_cases h3 : s.tenant < 0 ∨ (w.lanes.length : Int) ≤ s.tenant
      · rw [if_pos h3, if_neg (by omega)]
      · rw [if_neg h3]
        show (((w.lanes.set s.tenant.toNat _).getD t lane0, w.ticks) : Lane × Int) = _
        rw [getD_set ht]
        by_cases h4 : s.tenant = t
        · have h5 : s.tenant.toNat = t := by omega
          rw [if_pos h5, if_pos ⟨by omega, h4⟩, h5]; rfl
        · rw [if_neg (by omega), if_neg (by omega)]; rfl
theorem doStep_err {w : World'} {s : Step} {t : Nat} (ht : t < w.lanes.length) (hp : isPut t s = true) : (doStep w s).2 = (stepLane (atL w t).1 s).2 := by
  unfold isPut at hp
  simp only [Bool.and_eq_true, decide_eq_true_eq] at hp
  unfold doStep
  rw [if_neg (by omega), if_neg (by omega), if_neg (by omega)]
  have : s.tenant.toNat = t := by omega
  rw [this]; rfl
theorem plays_len : ∀ (l : List Step) (w : World'), (plays w l).1.lanes.length = w.lanes.length
  | [], w => rfl
  | s :: r, w => (plays_len r _).trans (doStep_len w s)
theorem plays_es : ∀ (l : List Step) (w : World'), (plays w l).2.length = l.length
  | [], w => rfl
  | s :: r, w => by show (_ :: (plays _ r).2).length = _; rw [List.length_cons, plays_es r, List.length_cons]
theorem plays_at {t : Nat} : ∀ (l : List Step) (w : World'), t < w.lanes.length → atL (plays w l).1 t = l.foldl (lstep w.lanes.length t) (atL w t)
  | [], w, ht => rfl
  | s :: r, w, ht => by
    show atL (plays (doStep w s).1 r).1 t = r.foldl _ (lstep _ t (atL w t) s)
    rw [plays_at r _ (by rw [doStep_len]; exact ht), doStep_len, doStep_at ht]
/-- What a tenant put. -/
def lputs (n t : Nat) : Lane × Int → List Step → List Msg
  | _, [] => []
  | x, s :: r => (if isPut t s = true ∧ (stepLane x.1 s).2 = 0 then [s.msg] else []) ++ lputs n t (lstep n t x s) r
theorem putsOf_at {t : Nat} : ∀ (l : List Step) (w : World'), t < w.lanes.length → putsOf t l (plays w l).2 = lputs w.lanes.length t (atL w t) l
  | [], w, ht => rfl
  | s :: r, w, ht => by
    show (if (doStep w s).2 = 0 ∧ isPut t s = true then s.msg :: putsOf t r (plays (doStep w s).1 r).2 else putsOf t r (plays (doStep w s).1 r).2) = _
    rw [putsOf_at r _ (by rw [doStep_len]; exact ht), doStep_len, doStep_at ht]
    show _ = (if isPut t s = true ∧ (stepLane (atL w t).1 s).2 = 0 then [s.msg] else []) ++ _
    by_cases hp : isPut t s = true
    · rw [doStep_err ht hp]
      by_cases he : (stepLane (atL w t).1 s).2 = 0
      · rw [if_pos ⟨he, hp⟩, if_pos ⟨hp, he⟩]; rfl
      · rw [if_neg (fun e => he e.1), if_neg (fun e => he e.2)]; rfl
    · rw [if_neg (fun e => hp e.2), if_neg (fun e => hp e.1)]; rfl
def spoilN (l : List Step) : Nat := l.countP fun s => decide (s.kind = 6)
theorem LInv.weak' {sp sp' : Bool} {H : List Msg} {l : Lane} (h : LInv sp H l) (hs : sp = true → sp' = true) : LInv sp' H l := by
  cases sp with
  | true => rw [hs rfl]; exact h
  | false => exact h.weak _
theorem linv_lstep {sp : Bool} {H : List Msg} {n t : Nat} {x : Lane × Int} (h : LInv sp H x.1) (s : Step) (hs : s.kind = 6 → sp = false) :
    LInv (sp || decide (s.kind = 6)) (H ++ (if isPut t s = true ∧ (stepLane x.1 s).2 = 0 then [s.msg] else [])) (lstep n t x s).1 := by
  unfold lstep
  by_cases h1 : s.kind = 1
  · rw [if_pos h1]
    have e : isPut t s = false := by unfold isPut; rw [decide_eq_false (by omega)]; rfl
    rw [e, if_neg (by simp), List.append_nil]
    refine LInv.weak' (sp := sp) ?_ (by intro e; rw [e]; rfl)
    show LInv sp H (if _ then _ else _)
    split
    · exact linv_speak h
    · exact h
  · rw [if_neg h1]
    by_cases h2 : (1 ≤ s.kind ∧ s.kind ≤ 6) ∧ s.tenant = t
    · rw [if_pos h2]
      have := linv_step h s hs
      by_cases h3 : s.kind = 2
      · have e : isPut t s = true := by unfold isPut; rw [decide_eq_true h3, decide_eq_true h2.2]; rfl
        rw [e]
        by_cases h4 : (stepLane x.1 s).2 = 0
        · rw [if_pos ⟨h3, h4⟩] at this; rw [if_pos ⟨rfl, h4⟩]; exact this
        · rw [if_neg (fun e => h4 e.2)] at this; rw [if_neg (fun e => h4 e.2), List.append_nil]; exact this
      · have e : isPut t s = false := by unfold isPut; rw [decide_eq_false h3]; rfl
        rw [if_neg (fun e => h3 e.1)] at this
        rw [e, if_neg (by simp), List.append_nil]; exact this
    · rw [if_neg h2]
      have e : ¬ isPut t s = true := by
        unfold isPut
        simp only [Bool.and_eq_true, decide_eq_true_eq]
        omega
      rw [if_neg (fun e2 => e e2.1), List.append_nil]
      exact h.weak' (by intro e; rw [e]; rfl)
theorem linv_lsteps {n t : Nat} : ∀ (l : List Step) {sp : Bool} {H : List Msg} {x : Lane × Int}, LInv sp H x.1 → (if sp then 1 else 0) + spoilN l ≤ 1 →
    LInv (sp || decide (0 < spoilN l)) (H ++ lputs n t x l) (l.foldl (lstep n t) x).1
  | [], sp, H, x, h, _ => by
    show LInv _ (H ++ []) x.1
    rw [List.append_nil]
    exact h.weak' (by intro e; rw [e]; rfl)
  | s :: r, sp, H, x, h, hc => by
    have e : spoilN (s :: r) = spoilN r + if s.kind = 6 then 1 else 0 := by
      unfold spoilN; rw [List.countP_cons]; simp
    rw [e] at hc ⊢
    have h1 := linv_lstep (n := n) (t := t) h s (by
      intro e6
      rw [if_pos e6] at hc
      cases sp with
      | true => rw [if_pos rfl] at hc; omega
      | false => rfl)
    have h2 := linv_lsteps (n := n) (t := t) r h1 (by
      by_cases e6 : s.kind = 6
      · rw [if_pos e6] at hc
        rw [decide_eq_true e6, Bool.or_true, if_pos rfl]
        omega
      · rw [if_neg e6] at hc
        rw [decide_eq_false e6, Bool.or_false]
        omega)
    rw [List.append_assoc] at h2
    refine LInv.weak' (h2 : LInv _ (H ++ lputs n t x (s :: r)) _) ?_
    cases sp with
    | true => intro _; rfl
    | false =>
      by_cases e6 : s.kind = 6
      · rw [if_pos e6]; intro _; simp
      · rw [if_neg e6, decide_eq_false e6]; intro h3; simpa using h3

/-! ### Worlds -/
structure WOk (w : World') : Prop where
  len : 1 ≤ w.lanes.length ∧ w.lanes.length ≤ 3
  tk : 0 ≤ w.ticks
  b : ∀ l ∈ w.lanes, BInv l
theorem WOk.get {w : World'} (h : WOk w) {t : Nat} (ht : t < w.lanes.length) : BInv (w.lanes.getD t lane0) := by
  have : w.lanes.getD t lane0 = w.lanes[t] := by simp [List.getD, List.getElem?_eq_getElem ht]
  rw [this]; exact h.b _ (List.getElem_mem ht)
theorem WOk.whose {w : World'} (h : WOk w) : whose w < w.lanes.length := by
  unfold Go.Proofs.Ytaadloihphpdbaa.whose
  have h1 := h.len
  have := Int.emod_lt_of_pos w.ticks (show (0 : Int) < w.lanes.length by omega)
  omega
theorem wok_set {w : World'} (h : WOk w) {t : Nat} {l : Lane} {k : Int} (hl : BInv l) (hk : 0 ≤ k) : WOk ⟨w.lanes.set t l, k⟩ := by
  refine ⟨by simp only [List.length_set]; exact h.len, hk, fun x hx => ?_⟩
  rcases List.mem_or_eq_of_mem_set hx with e | e
  · exact h.b x e
  · rw [e]; exact hl
theorem wok_do {w : World'} (h : WOk w) (s : Step) : WOk (doStep w s).1 := by
  unfold doStep
  have ht := h.tk
  split
  · exact h
  · split
    · exact wok_set h (binv_speak (h.get h.whose)) (by omega)
    · split
      · exact h
      · exact wok_set h (binv_step (h.get (by omega)) s) ht
theorem wok_plays : ∀ (l : List Step) {w : World'}, WOk w → WOk (plays w l).1
  | [], w, h => h
  | s :: r, w, h => wok_plays r (wok_do h s)
theorem doStep_ticks (w : World') (s : Step) : (doStep w s).1.ticks = w.ticks + if s.kind = 1 then 1 else 0 := by
  unfold doStep
  split
  · rw [if_neg (by omega)]; simp
  · split
    · rfl
    · split <;> simp
theorem plays_ticks : ∀ (l : List Step) (w : World'), w.ticks ≤ (plays w l).1.ticks ∧ (plays w l).1.ticks ≤ w.ticks + l.length
  | [], w => by simp [plays]
  | s :: r, w => by
    have h1 := plays_ticks r (doStep w s).1
    have h2 := doStep_ticks w s
    rw [h2] at h1
    show _ ≤ (plays (doStep w s).1 r).1.ticks ∧ (plays (doStep w s).1 r).1.ticks ≤ _
    rw [List.length_cons]
    split at h1 <;> omega
theorem new_is {n : Int} (h1 : 1 ≤ n) (h3 : n ≤ 3) : newWorld n = ⟨List.replicate n.toNat lane0, 0⟩ := by unfold newWorld; rw [if_neg (by omega)]
theorem wok_new {n : Int} (h1 : 1 ≤ n) (h3 : n ≤ 3) : WOk (newWorld n) := by
  rw [new_is h1 h3]
  refine ⟨by simp only [List.length_replicate]; omega, Int.le_refl _, fun l hl => ?_⟩
  rw [List.eq_of_mem_replicate hl]; exact binv0
theorem new_len {n : Int} (h1 : 1 ≤ n) (h3 : n ≤ 3) : (newWorld n).lanes.length = n.toNat := by rw [new_is h1 h3]; simp
theorem new_at {n : Int} (h1 : 1 ≤ n) (h3 : n ≤ 3) {t : Nat} (ht : t < n.toNat) : atL (newWorld n) t = (lane0, 0) := by
  rw [new_is h1 h3]
  show ((List.replicate n.toNat lane0).getD t lane0, (0 : Int)) = _
  simp [List.getD, ht]
theorem wok_play {n : Int} (h1 : 1 ≤ n) (h3 : n ≤ 3) (l : List Step) : WOk (play n l).1 := wok_plays _ (wok_new h1 h3)
theorem play_len {n : Int} (h1 : 1 ≤ n) (h3 : n ≤ 3) (l : List Step) : (play n l).1.lanes.length = n.toNat := (plays_len _ _).trans (new_len h1 h3)
theorem play_at {n : Int} (h1 : 1 ≤ n) (h3 : n ≤ 3) (l : List Step) {t : Nat} (ht : t < n.toNat) : atL (play n l).1 t = (l.take 160).foldl (lstep n.toNat t) (lane0, 0) := by
  unfold play
  rw [plays_at _ _ (by rw [new_len h1 h3]; exact ht), new_len h1 h3, new_at h1 h3 ht]
theorem play_ticks {n : Int} (h1 : 1 ≤ n) (h3 : n ≤ 3) (l : List Step) : 0 ≤ (play n l).1.ticks ∧ (play n l).1.ticks ≤ 160 := by
  have := plays_ticks (l.take 160) (newWorld n)
  have e : (newWorld n).ticks = 0 := by rw [new_is h1 h3]
  have := List.length_take_le 160 l
  unfold play
  omega
theorem play_puts {n : Int} (h1 : 1 ≤ n) (h3 : n ≤ 3) (l : List Step) {t : Nat} (ht : t < n.toNat) : putsOf t (l.take 160) (play n l).2 = lputs n.toNat t (lane0, 0) (l.take 160) := by
  unfold play
  rw [putsOf_at _ _ (by rw [new_len h1 h3]; exact ht), new_len h1 h3, new_at h1 h3 ht]
theorem putsOf_take {t : Int} : ∀ (n : Nat) (l : List Step) (es : List Int), es.length = (l.take n).length → putsOf t l es = putsOf t (l.take n) es
  | _, [], es, _ => by simp
  | 0, s :: l, es, h => by
    have : es = [] := List.eq_nil_of_length_eq_zero (by simpa using h)
    subst this; simp [putsOf]
  | n + 1, s :: l, [], h => by simp at h
  | n + 1, s :: l, e :: es, h => by
    rw [List.take_succ_cons]
    have := putsOf_take (t := t) n l es (by simpa using h)
    unfold putsOf
    rw [this]
theorem play_putsOf {n : Int} (h1 : 1 ≤ n) (h3 : n ≤ 3) (l : List Step) {t : Nat} (ht : t < n.toNat) : putsOf t l (play n l).2 = lputs n.toNat t (lane0, 0) (l.take 160) := by
  rw [← play_puts h1 h3 l ht]
  refine putsOf_take 160 l _ ?_
  unfold play; rw [plays_es]
theorem spoilN_take (n : Nat) (l : List Step) : spoilN (l.take n) ≤ spoilN l := by
  unfold spoilN
  exact (List.take_sublist n l).countP_le
/-- A lane of a world that came of steps, at most one of which spoilt something. -/
theorem play_linv {n : Int} (h1 : 1 ≤ n) (h3 : n ≤ 3) (l : List Step) {t : Nat} (ht : t < n.toNat) (hs : spoilN l ≤ 1) :
    LInv (decide (0 < spoilN l)) (putsOf t l (play n l).2) ((play n l).1.lanes.getD t lane0) := by
  have h := linv_lsteps (n := n.toNat) (t := t) (l.take 160) (sp := false) (H := []) (x := (lane0, 0)) (linv0 _) (by
    have := spoilN_take 160 l
    simp; omega)
  rw [List.nil_append, ← play_putsOf h1 h3 l ht, ← play_at h1 h3 l ht, Bool.false_or] at h
  refine h.weak' ?_
  have := spoilN_take 160 l
  intro e
  have := of_decide_eq_true e
  exact decide_eq_true (by omega)

/-! ### Others -/
def mineB (t : Int) (s : Step) : Bool := decide (s.kind = 1) || decide (s.tenant = t)
def onlyOf (t : Int) (l : List Step) : List Step := l.filter (mineB t)
theorem lstep_other {n t : Nat} {x : Lane × Int} {s : Step} (h : mineB t s = false) : lstep n t x s = x := by
  unfold mineB at h
  simp only [Bool.or_eq_false_iff, decide_eq_false_iff_not] at h
  unfold lstep
  rw [if_neg h.1, if_neg (fun e => h.2 e.2)]
theorem foldl_only {n t : Nat} : ∀ (l : List Step) (x : Lane × Int), (onlyOf t l).foldl (lstep n t) x = l.foldl (lstep n t) x
  | [], x => rfl
  | s :: r, x => by
    unfold onlyOf
    cases h : mineB t s with
    | true => rw [List.filter_cons_of_pos h]; exact foldl_only r _
    | false =>
      rw [List.filter_cons_of_neg (by rw [h]; decide), List.foldl_cons, lstep_other h]
      exact foldl_only r x
theorem onlyOf_len (t : Int) (l : List Step) : (onlyOf t l).length ≤ l.length := List.length_filter_le _ _
theorem play_same {n : Int} (h1 : 1 ≤ n) (h3 : n ≤ 3) {l m : List Step} {t : Nat} (ht : t < n.toNat) (hl : l.length ≤ 160) (hm : m.length ≤ 160) (h : onlyOf t l = onlyOf t m) :
    atL (play n l).1 t = atL (play n m).1 t := by
  rw [play_at h1 h3 l ht, play_at h1 h3 m ht, List.take_of_length_le hl, List.take_of_length_le hm, ← foldl_only l, ← foldl_only m, h]
theorem onlyOf_idem (t : Int) (l : List Step) : onlyOf t (onlyOf t l) = onlyOf t l := by unfold onlyOf; rw [List.filter_filter]; simp
end Go.Proofs.Ytaadloihphpdbaa
