/- Fair rounds, as pure data: in so many of them each lane is idle, or nothing will ever come of it. No program in sight. -/
import Derived.Test.YtaadloihphpdbaaPWorld
set_option linter.unusedVariables false
set_option linter.unusedSimpArgs false
namespace Go.Proofs.Ytaadloihphpdbaa
open Go Go.Vc

/-! ### All comes -/
theorem way_with (l : Lane) (b : Bool) (P : Packets) : way (withP l b P) b = P ∧ way (withP l b P) (!b) = way l (!b) := by cases b <;> exact ⟨rfl, rfl⟩
theorem way_comes (l : Lane) (k : Nat) (b : Bool) : way (comes l k b) b = (way l b).eraseIdx k ∧ way (comes l k b) (!b) = way l (!b) := by
  unfold comes
  simp only
  split
  · exact way_with l b _
  · cases b <;> exact ⟨rfl, rfl⟩
theorem drain_step (n : Nat) (b : Bool) (l : Lane) : drain (n + 1) b l = if way l b = [] then l else drain n b (comes l 0 b) := rfl
theorem way_drain (b : Bool) : ∀ (n : Nat) (l : Lane), (way l b).length = n → way (drain n b l) b = [] ∧ way (drain n b l) (!b) = way l (!b)
  | 0, l, h => ⟨List.eq_nil_of_length_eq_zero h, rfl⟩
  | n + 1, l, h => by
    rw [drain_step, if_neg (by intro e; rw [e] at h; simp at h)]
    have h1 := way_comes l 0 b
    have h2 := way_drain b n (comes l 0 b) (by
      rw [h1.1, List.length_eraseIdx, if_pos (by omega)]; omega)
    rw [h1.2] at h2
    exact h2
theorem settle_ways (l : Lane) : (settleLane l).there = [] ∧ (settleLane l).back = [] := by
  have h1 := way_drain false _ l rfl
  have h2 := way_drain true _ (drainAll false l) rfl
  exact ⟨h2.2.trans h1.1, h2.1⟩
theorem settle_id {l : Lane} (h1 : l.there = []) (h2 : l.back = []) : settleLane l = l := by
  unfold settleLane drainAll
  have e1 : way l false = [] := h1
  have e2 : way l true = [] := h2
  rw [e1]
  show drain (way l true).length true l = l
  rw [e2]; rfl
theorem settle_idem (l : Lane) : settleLane (settleLane l) = settleLane l := settle_id (settle_ways l).1 (settle_ways l).2
theorem binv_drain (b : Bool) : ∀ (n : Nat) {l : Lane}, BInv l → BInv (drain n b l)
  | 0, l, h => h
  | n + 1, l, h => by
    rw [drain_step]
    split
    · exact h
    · exact binv_drain b n (binv_comes h 0 b)
theorem binv_settle {l : Lane} (h : BInv l) : BInv (settleLane l) := binv_drain _ _ (binv_drain _ _ h)
theorem linv_drain {sp : Bool} {H : List Msg} (b : Bool) : ∀ (n : Nat) {l : Lane}, LInv sp H l → LInv sp H (drain n b l)
  | 0, l, h => h
  | n + 1, l, h => by
    rw [drain_step]
    split
    · exact h
    · rename_i hne
      exact linv_drain b n (linv_comes h (by have := List.length_pos_iff.2 hne; omega))
theorem linv_settle {sp : Bool} {H : List Msg} {l : Lane} (h : LInv sp H l) : LInv sp H (settleLane l) := linv_drain _ _ (linv_drain _ _ h)

/-! ### A turn, when nothing is on its way -/
def gotB (r : Receiver) (x : Int) : Bool := decide (x < r.next) || r.early.contains x
theorem gotB_iff (r : Receiver) (x : Int) : gotB r x = true ↔ got r x := by unfold gotB got; simp
def notF (s : Sender) (r : Receiver) : List Chunk := s.flight.filter fun x => !gotB r x.num
def nextR (s : Sender) (r : Receiver) : Receiver := if (say s).2.2 then rhear (rsay r).1 (say s).2.1 else (rsay r).1
def nextS (s : Sender) (r : Receiver) : Sender := if r.owes then { (say s).1 with flight := notF (say s).1 r } else (say s).1
theorem hear_ack (s : Sender) (r : Receiver) : hear s ⟨2, r.next, 0, 0, [], r.early⟩ = { s with flight := notF s r } := by
  unfold hear; rw [if_neg (by simp)]; rfl
theorem rsay_owes (r : Receiver) : (rsay r).2.2 = r.owes := by
  unfold rsay
  split
  · rename_i h; rw [h]
  · rename_i h; simpa using h
theorem rsay_ack {r : Receiver} (h : r.owes = true) : (rsay r).2.1 = ⟨2, r.next, 0, 0, [], r.early⟩ := by unfold rsay; rw [if_pos h]
theorem drain1 {b : Bool} {l : Lane} {p : List UInt8} (h : way l b = [p]) : drainAll b l = comes l 0 b := by
  unfold drainAll
  rw [h]
  show drain 1 b l = _
  rw [drain_step, if_neg (by rw [h]; simp)]; rfl
theorem drain0 {b : Bool} {l : Lane} (h : way l b = []) : drainAll b l = l := by unfold drainAll; rw [h]; rfl
theorem comes1 {l : Lane} {c : Chunk} (h : l.there = [bytes c]) (hc : wrong c = 0) : comes l 0 false = ⟨l.s, rhear l.r c, [], l.back⟩ := by
  have e : way l false = [bytes c] := h
  unfold comes
  simp only [e]
  have e2 : ([bytes c] : Packets).getD 0 [] = bytes c := rfl
  rw [e2, read_bytes hc]
  simp [withP]
theorem comes2 {l : Lane} {c : Chunk} (h : l.back = [bytes c]) (hc : wrong c = 0) : comes l 0 true = ⟨hear l.s c, l.r, l.there, []⟩ := by
  have e : way l true = [bytes c] := h
  unfold comes
  simp only [e]
  have e2 : ([bytes c] : Packets).getD 0 [] = bytes c := rfl
  rw [e2, read_bytes hc]
  simp [withP]
theorem turn_is {X : Lane} (hX : BInv X) (ht : X.there = []) (hb : X.back = []) : settleLane (speak X) = ⟨nextS X.s X.r, nextR X.s X.r, [], []⟩ := by
  have h1 : drainAll false (speak X) = ⟨(say X.s).1, nextR X.s X.r, [], (speak X).back⟩ := by
    cases ho : (say X.s).2.2 with
    | false =>
      have e : (speak X).there = [] := by show (if (say X.s).2.2 then _ else X.there) = []; rw [ho]; exact ht
      rw [drain0 (show way (speak X) false = [] from e)]
      unfold nextR; rw [ho]
      show speak X = ⟨(speak X).s, (speak X).r, [], (speak X).back⟩
      rw [← e]
    | true =>
      have e : (speak X).there = [bytes (say X.s).2.1] := by
        show (if (say X.s).2.2 then putP X.there _ else X.there) = _
        rw [ho, ht]; rfl
      rw [drain1 (show way (speak X) false = [_] from e), comes1 e (say_right hX.s ho).1]
      unfold nextR; rw [ho]; rfl
  unfold settleLane
  rw [h1]
  cases hw : X.r.owes with
  | false =>
    have e : (speak X).back = [] := by show (if (rsay X.r).2.2 then _ else X.back) = []; rw [rsay_owes, hw]; exact hb
    rw [e, drain0 rfl]
    unfold nextS; rw [hw]; rfl
  | true =>
    have e : (speak X).back = [bytes ⟨2, X.r.next, 0, 0, [], X.r.early⟩] := by
      show (if (rsay X.r).2.2 then putP X.back (bytes (rsay X.r).2.1) else X.back) = _
      rw [rsay_owes, hw, hb, rsay_ack hw]; rfl
    rw [e, drain1 (p := bytes ⟨2, X.r.next, 0, 0, [], X.r.early⟩) rfl, comes2 rfl (ack_right hX.r), hear_ack]
    unfold nextS; rw [hw]; rfl

/-! ### It ends -/
def idleS (s : Sender) : Prop := s.queue = [] ∧ s.flight = []
def blocked (s : Sender) (r : Receiver) : Prop := 2 < r.early.length ∧ r.next < s.next ∧ (∀ c ∈ s.flight, c.num ≠ r.next) ∧ ∃ c ∈ s.flight, gotB r c.num = false
def fin (s : Sender) (r : Receiver) : Prop := idleS s ∨ blocked s r
theorem say_idle {s : Sender} (h : idleS s) : say s = (s, chunk0, false) := by
  unfold say; rw [h.1, h.2]; simp
theorem nextR_got (s : Sender) (r : Receiver) : (rsay r).1.next = r.next ∧ (rsay r).1.early = r.early ∧ (rsay r).1.owes = false := by
  unfold rsay
  split
  · exact ⟨rfl, rfl, rfl⟩
  · rename_i h; exact ⟨rfl, rfl, by simpa using h⟩
theorem said_num {s : Sender} (hs : SInv s) (ho : (say s).2.2 = true) : (say s).2.1.kind = 1 ∧ ((say s).2.1 ∈ s.flight ∨ (say s).2.1.num = s.next) := by
  refine ⟨(say_right hs ho).2, ?_⟩
  rcases say_is s with ⟨_, _, e⟩ | ⟨m, q, hq, hl, e⟩ | ⟨hl, _, e⟩
  · rw [e] at ho; cases ho
  · right; rw [e]; rfl
  · left
    obtain ⟨k, hk, _, e2⟩ := sayOld_get hs hl
    rw [e, e2]; exact List.getElem_mem hk
theorem say_flight (s : Sender) (hs : SInv s) : (∀ c ∈ s.flight, c ∈ (say s).1.flight) ∧ ∀ c ∈ (say s).1.flight, c ∈ s.flight ∨ c.num = s.next := by
  rcases say_is s with ⟨_, _, e⟩ | ⟨m, q, hq, hl, e⟩ | ⟨hl, _, e⟩
  · rw [e]; exact ⟨fun c hc => hc, fun c hc => .inl hc⟩
  · rw [e]
    refine ⟨fun c hc => List.mem_append_left _ hc, fun c hc => ?_⟩
    rcases List.mem_append.1 hc with hc | hc
    · exact .inl hc
    · exact .inr (by rw [List.mem_singleton.1 hc]; rfl)
  · obtain ⟨k, hk, _, e2⟩ := sayOld_get hs hl
    rw [e, e2]; exact ⟨fun c hc => hc, fun c hc => .inl hc⟩
/-- What is refused changes nothing of what came. -/
theorem hear_refused {r : Receiver} {c : Chunk} (hk : c.kind = 1) (h : refuses r c.num) : rhear r c = { r with owes := true } := by
  unfold rhear; rw [if_neg (by omega), if_pos h]
theorem refuses_say {r : Receiver} (x : Int) : refuses (rsay r).1 x ↔ refuses r x := by
  have := nextR_got ⟨[], 0, places0, [], 0⟩ r
  unfold refuses; rw [this.1, this.2.1]
theorem hear_owes {r : Receiver} {c : Chunk} (hk : c.kind = 1) : (rhear r c).owes = true := by
  unfold rhear; rw [if_neg (by omega)]
  split <;> rfl
theorem nextR_owes {s : Sender} (hs : SInv s) (r : Receiver) (ho : (say s).2.2 = true) : (nextR s r).owes = true := by
  unfold nextR; rw [if_pos ho]; exact hear_owes (said_num hs ho).1
/-- Refused: what came is as it was. -/
theorem nextR_ref {s : Sender} (hs : SInv s) (r : Receiver) (ho : (say s).2.2 = true) (h : refuses r (say s).2.1.num) : (nextR s r).next = r.next ∧ (nextR s r).early = r.early := by
  unfold nextR; rw [if_pos ho, hear_refused (said_num hs ho).1 ((refuses_say _).2 h)]
  exact ⟨(nextR_got s r).1, (nextR_got s r).2.1⟩
theorem nextR_acc {s : Sender} (hs : SInv s) {r : Receiver} (hr : RInv r) (ho : (say s).2.2 = true) (h : ¬ refuses r (say s).2.1.num) (x : Int) : gotB (nextR s r) x = (gotB r x || decide (x = (say s).2.1.num)) := by
  have h1 := say_right hs ho
  have h2 : ¬ refuses (rsay r).1 (say s).2.1.num := fun e => h ((refuses_say _).1 e)
  have h3 := got_takes (rinv_say hr) h1.1 h1.2 h2 x
  have h4 : nextR s r = takes (rsay r).1 (say s).2.1 := by
    unfold nextR rhear; rw [if_pos ho, if_neg (by omega), if_neg h2]
  have h5 := nextR_got s r
  have h6 : got (rsay r).1 x ↔ got r x := by unfold got; rw [h5.1, h5.2.1]
  rw [Bool.eq_iff_iff, h4, gotB_iff, h3, h6]
  simp [gotB_iff]
theorem gotB_congr {r r' : Receiver} (h1 : r'.next = r.next) (h2 : r'.early = r.early) (x : Int) : gotB r' x = gotB r x := by unfold gotB; rw [h1, h2]
theorem nextS_mem {s : Sender} {r : Receiver} {c : Chunk} : (c ∈ (nextS s r).flight → c ∈ (say s).1.flight) ∧ (c ∈ (say s).1.flight → gotB r c.num = false → c ∈ (nextS s r).flight) := by
  unfold nextS
  split
  · refine ⟨fun h => (List.mem_filter.1 h).1, fun h h2 => List.mem_filter.2 ⟨h, by rw [h2]; rfl⟩⟩
  · exact ⟨id, fun h _ => h⟩
theorem nextS_rest (s : Sender) (r : Receiver) : (nextS s r).queue = (say s).1.queue ∧ (nextS s r).next = (say s).1.next ∧ (nextS s r).turn = (say s).1.turn := by
  unfold nextS; split <;> exact ⟨rfl, rfl, rfl⟩
theorem idle_next {s : Sender} (r : Receiver) (h : idleS s) : idleS (nextS s r) := by
  have e := say_idle h
  have h1 := nextS_rest s r
  refine ⟨by rw [h1.1, e]; exact h.1, ?_⟩
  rw [List.eq_nil_iff_forall_not_mem]
  intro c hc
  have := nextS_mem.1 hc
  rw [e, h.2] at this; simp at this
theorem blocked_next {s : Sender} (hs : SInv s) {r : Receiver} (h : blocked s r) : blocked (nextS s r) (nextR s r) := by
  obtain ⟨h1, h2, h3, c, hc, hg⟩ := h
  have hf := say_flight s hs
  have hn := say_next s
  have hsr := nextS_rest s r
  have hR : (nextR s r).next = r.next ∧ (nextR s r).early = r.early := by
    cases ho : (say s).2.2 with
    | false =>
      have := nextR_got s r
      unfold nextR; rw [ho]; exact ⟨this.1, this.2.1⟩
    | true =>
      refine nextR_ref hs r ho ?_
      unfold refuses
      rcases (said_num hs ho).2 with e | e
      · have := h3 _ e
        by_cases hx : (say s).2.1.num < r.next
        · exact .inl hx
        · exact .inr (.inr ⟨by omega, h1⟩)
      · exact .inr (.inr ⟨by omega, h1⟩)
  refine ⟨by rw [hR.2]; exact h1, by rw [hR.1, hsr.2.1]; omega, fun x hx => ?_, c, nextS_mem.2 (hf.1 c hc) hg, by rw [gotB_congr hR.1 hR.2]; exact hg⟩
  rw [hR.1]
  rcases hf.2 x (nextS_mem.1 hx) with e | e
  · exact h3 x e
  · omega
theorem fin_next {s : Sender} (hs : SInv s) {r : Receiver} (h : fin s r) : fin (nextS s r) (nextR s r) := h.imp (idle_next r) (blocked_next hs)

/-- How many turns it may take until a chunk is taken, at most. -/
def Accept (r : Receiver) (c : Chunk) : Prop := c.num = r.next ∨ r.early.length ≤ 2
def Target (s : Sender) (r : Receiver) (j : Nat) : Prop := ∃ c, s.flight[((s.turn + j) % s.flight.length).toNat]? = some c ∧ Accept r c
def Cost (s : Sender) (r : Receiver) (c : Nat) : Prop :=
  (s.queue ≠ [] ∧ s.flight.length < 4 ∧ 2 ≤ c) ∨
  ((s.queue = [] ∨ s.flight.length = 4) ∧ (∃ x ∈ s.flight, gotB r x.num = true) ∧ 3 ≤ c) ∨
  ((s.queue = [] ∨ s.flight.length = 4) ∧ s.flight ≠ [] ∧ (∀ x ∈ s.flight, gotB r x.num = false) ∧ ∃ j, j ≤ c ∧ Target s r j)
def Pot (s : Sender) (r : Receiver) (N : Nat) : Prop := ∃ c, Cost s r c ∧ 4 * (notF s r).length + 6 * s.queue.length + c ≤ N
theorem reach {t : Int} {f p : Nat} (ht : 0 ≤ t) (hp : p < f) (hf : f ≤ 4) : ∃ j : Nat, j + 1 ≤ f ∧ ((t + j) % f).toNat = p := by
  refine ⟨if (t % f).toNat ≤ p then p - (t % f).toNat else p + f - (t % f).toNat, ?_⟩
  rcases (by omega : f = 1 ∨ f = 2 ∨ f = 3 ∨ f = 4) with rfl | rfl | rfl | rfl
  all_goals
    constructor
    · split <;> omega
    · split <;> omega
theorem target_any {s : Sender} (hs : SInv s) {r : Receiver} (hne : s.flight ≠ []) (hg : ∀ x ∈ s.flight, gotB r x.num = false) (hb : ¬ blocked s r) : ∃ j, j + 1 ≤ s.flight.length ∧ Target s r j := by
  have hpos := List.length_pos_iff.2 hne
  by_cases h2 : r.early.length ≤ 2
  · refine ⟨0, by omega, ?_⟩
    have h3 : ((s.turn + (0 : Nat)) % s.flight.length).toNat < s.flight.length := by
      have := Int.emod_lt_of_pos (s.turn + (0 : Nat)) (show (0 : Int) < s.flight.length by omega)
      omega
    exact ⟨_, List.getElem?_eq_getElem h3, .inr h2⟩
  · have hex : ∃ c ∈ s.flight, c.num = r.next := by
      apply Classical.byContradiction
      intro hno
      refine hb ⟨by omega, ?_, fun c hc e => hno ⟨c, hc, e⟩, ?_⟩
      · obtain ⟨c, hc⟩ := List.exists_mem_of_ne_nil _ hne
        have h5 := (hs.c c hc).2.2
        have h6 := hg c hc
        have h7 : ¬ c.num < r.next := fun e => by
          have := (gotB_iff r c.num).2 (.inl e)
          rw [h6] at this; cases this
        omega
      · obtain ⟨c, hc⟩ := List.exists_mem_of_ne_nil _ hne
        exact ⟨c, hc, hg c hc⟩
    obtain ⟨c, hc, hcn⟩ := hex
    obtain ⟨p, hp, hpc⟩ := List.mem_iff_getElem.1 hc
    have hf := hs.f
    obtain ⟨j, hj, he⟩ := reach hs.t.1 hp hf
    exact ⟨j, hj, c, by rw [he, List.getElem?_eq_getElem hp, hpc], .inl hcn⟩
theorem cost_any {s : Sender} (hs : SInv s) {r : Receiver} (hf : ¬ fin s r) : Cost s r 3 := by
  have hfl := hs.f
  by_cases h1 : s.queue ≠ [] ∧ s.flight.length < 4
  · exact .inl ⟨h1.1, h1.2, by omega⟩
  · have h2 : s.queue = [] ∨ s.flight.length = 4 := by
      by_cases hq : s.queue = []
      · exact .inl hq
      · exact .inr (by have h9 : ¬ s.flight.length < 4 := fun e => h1 ⟨hq, e⟩; omega)
    right
    by_cases h3 : ∃ x ∈ s.flight, gotB r x.num = true
    · exact .inl ⟨h2, h3, by omega⟩
    · right
      have hg : ∀ x ∈ s.flight, gotB r x.num = false := fun x hx => by
        cases hh : gotB r x.num with
        | false => rfl
        | true => exact absurd ⟨x, hx, hh⟩ h3
      have hne : s.flight ≠ [] := by
        intro e
        rcases h2 with h2 | h2
        · exact hf (.inl ⟨h2, e⟩)
        · rw [e] at h2; simp at h2
      obtain ⟨j, hj, ht⟩ := target_any hs hne hg (fun e => hf (.inr e))
      exact ⟨h2, hne, hg, j, by omega, ht⟩
theorem filter_len_lt {p q : Chunk → Bool} : ∀ {l : List Chunk} {c : Chunk}, c ∈ l → p c = true → q c = false → (∀ x ∈ l, q x = true → p x = true) → (l.filter q).length < (l.filter p).length
  | [], c, h, _, _, _ => by simp at h
  | a :: t, c, h, hp, hq, hi => by
    have ht : (t.filter q).length ≤ (t.filter p).length := by
      have : t.filter q = (t.filter p).filter q := by
        rw [List.filter_filter]
        refine List.filter_congr fun x hx => ?_
        cases hqx : q x with
        | false => simp
        | true => rw [hi x (List.mem_cons_of_mem _ hx) hqx]; rfl
      rw [this]; exact List.length_filter_le _ _
    by_cases hca : c = a
    · subst hca
      rw [List.filter_cons_of_pos hp, List.filter_cons_of_neg (by rw [hq]; decide), List.length_cons]; omega
    · have hct : c ∈ t := (List.mem_cons.1 h).resolve_left hca
      have ih := filter_len_lt hct hp hq (fun x hx => hi x (List.mem_cons_of_mem _ hx))
      cases hqa : q a with
      | true =>
        rw [List.filter_cons_of_pos hqa, List.filter_cons_of_pos (hi a (List.mem_cons_self ..) hqa), List.length_cons, List.length_cons]; omega
      | false =>
        rw [List.filter_cons_of_neg (by rw [hqa]; decide)]
        cases hpa : p a with
        | true => rw [List.filter_cons_of_pos hpa, List.length_cons]; omega
        | false => rw [List.filter_cons_of_neg (by rw [hpa]; decide)]; exact ih
theorem filter_len_le {p q : Chunk → Bool} {l : List Chunk} (hi : ∀ x ∈ l, q x = true → p x = true) : (l.filter q).length ≤ (l.filter p).length := by
  have : l.filter q = (l.filter p).filter q := by
    rw [List.filter_filter]
    refine List.filter_congr fun x hx => ?_
    cases hqx : q x with
    | false => simp
    | true => rw [hi x hx hqx]; rfl
  rw [this]; exact List.length_filter_le _ _
/-- What is not told yet, behind a turn. -/
theorem notF_next {s : Sender} {r : Receiver} (hw : r.owes = true) (hmono : ∀ x, gotB r x = true → gotB (nextR s r) x = true) : notF (nextS s r) (nextR s r) = (say s).1.flight.filter fun x => !gotB (nextR s r) x.num := by
  unfold nextS
  rw [if_pos hw]
  show ((say s).1.flight.filter fun x => !gotB r x.num).filter (fun x => !gotB (nextR s r) x.num) = _
  rw [List.filter_filter]
  refine List.filter_congr fun x hx => ?_
  cases h : gotB r x.num with
  | false => simp
  | true => rw [hmono _ h]; rfl
theorem pot_step {s : Sender} {r : Receiver} (hs : SInv s) (hr : RInv r) (hw : r.owes = true) (hf : ¬ fin s r) {N : Nat} (hp : Pot s r N) (hs' : SInv (nextS s r)) :
    (nextR s r).owes = true ∧ (fin (nextS s r) (nextR s r) ∨ ∃ N', N' < N ∧ Pot (nextS s r) (nextR s r) N') := by
  have hsaid : (say s).2.2 = true := by
    cases ho : (say s).2.2 with
    | true => rfl
    | false => have := said_not hs ho; exact absurd (.inl ⟨this.1, this.2.1⟩) hf
  refine ⟨nextR_owes hs r hsaid, ?_⟩
  by_cases hfin : fin (nextS s r) (nextR s r)
  · exact .inl hfin
  · right
    have hany := cost_any hs' hfin
    obtain ⟨c, hc, hN⟩ := hp
    have hrest := nextS_rest s r
    have hmono : ∀ x, gotB r x = true → gotB (nextR s r) x = true := by
      intro x hx
      by_cases hrf : refuses r (say s).2.1.num
      · have := nextR_ref hs r hsaid hrf
        rw [gotB_congr this.1 this.2]; exact hx
      · rw [nextR_acc hs hr hsaid hrf, hx]; rfl
    have hnf := notF_next hw hmono
    rcases say_is s with ⟨_, _, e⟩ | ⟨m, q, hq, hl, e⟩ | ⟨hl, hl4, e⟩
    · rw [e] at hsaid; cases hsaid
    · -- a new one
      have hqn : (nextS s r).queue = q := by rw [hrest.1, e]; rfl
      have hu : (notF (nextS s r) (nextR s r)).length ≤ (notF s r).length + 1 := by
        rw [hnf, e]
        show ((s.flight ++ [newChunk s m]).filter _).length ≤ _
        rw [List.filter_append, List.length_append]
        have h1 : (s.flight.filter fun x => !gotB (nextR s r) x.num).length ≤ (notF s r).length := filter_len_le fun x hx h => by
          cases hh : gotB r x.num with
          | false => rfl
          | true => rw [hmono _ hh] at h; cases h
        have h2 := List.length_filter_le (fun x => !gotB (nextR s r) x.num) [newChunk s m]
        simp only [List.length_singleton] at h2
        omega
      have hc2 : 2 ≤ c := by
        rcases hc with hc | hc | hc
        · exact hc.2.2
        · omega
        · rcases hc.1 with h | h
          · rw [hq] at h; cases h
          · omega
      rw [hq, List.length_cons] at hN
      exact ⟨4 * (notF (nextS s r) (nextR s r)).length + 6 * (nextS s r).queue.length + 3, by rw [hqn]; omega, 3, hany, Nat.le_refl _⟩
    · -- an old one
      obtain ⟨k, hk, hkt, e2⟩ := sayOld_get hs hl
      have e3 : say s = ({ s with turn := k + 1 }, s.flight[k], true) := e.trans e2
      have hqn : (nextS s r).queue = s.queue := by rw [hrest.1, e3]
      have hnf' : notF (nextS s r) (nextR s r) = s.flight.filter fun x => !gotB (nextR s r) x.num := by rw [hnf, e3]
      have hcyc : s.queue = [] ∨ s.flight.length = 4 := by
        have h4 := hs.f
        by_cases hq : s.queue = []
        · exact .inl hq
        · exact .inr (by have := hl4 hq; omega)
      by_cases hrf : refuses r s.flight[k].num
      · -- it is refused
        have hR := nextR_ref hs r hsaid (by rw [e3]; exact hrf)
        have hgc := gotB_congr hR.1 hR.2
        have hu : (notF (nextS s r) (nextR s r)).length = (notF s r).length := by
          rw [hnf']
          unfold notF
          congr 1
          exact List.filter_congr fun x _ => by rw [hgc]
        have hfl' : (nextS s r).flight = notF s r := by
          unfold nextS; rw [if_pos hw, e3]
          show (List.filter _ s.flight) = _
          rfl
        have hng : ∀ x ∈ (nextS s r).flight, gotB (nextR s r) x.num = false := by
          intro x hx
          rw [hfl'] at hx
          have := (List.mem_filter.1 hx).2
          rw [hgc]; simpa using this
        rcases hc with ⟨h1, h2, _⟩ | ⟨h1, ⟨x, hx, hgx⟩, h3⟩ | ⟨h1, h2, h3, j, hj, ht⟩
        · rcases hcyc with h | h
          · exact absurd h h1
          · omega
        · -- one that came is gone now
          have hlt : (notF s r).length < s.flight.length := by
            have := filter_len_lt (p := fun _ => true) (q := fun x => !gotB r x.num) (l := s.flight) hx rfl (by rw [hgx]; rfl) (fun _ _ _ => rfl)
            rw [List.filter_eq_self.2 (fun _ _ => rfl)] at this
            exact this
          have hf4 := hs.f
          refine ⟨4 * (notF (nextS s r) (nextR s r)).length + 6 * (nextS s r).queue.length + 2, by rw [hu, hqn]; omega, 2, ?_, Nat.le_refl _⟩
          by_cases hq : s.queue = []
          · have hne : (nextS s r).flight ≠ [] := fun e5 => hfin (.inl ⟨by rw [hqn]; exact hq, e5⟩)
            obtain ⟨j, hj, ht⟩ := target_any hs' hne hng (fun e5 => hfin (.inr e5))
            rw [hfl'] at hj
            exact .inr (.inr ⟨.inl (by rw [hqn]; exact hq), hne, hng, j, by omega, ht⟩)
          · exact .inl ⟨by rw [hqn]; exact hq, by rw [hfl']; omega, by omega⟩
        · -- one nearer
          have hsame : (nextS s r).flight = s.flight := by
            rw [hfl']; unfold notF
            exact List.filter_eq_self.2 fun x hx => by rw [h3 x hx]; rfl
          have hacc : ∀ c', s.flight[((s.turn + (0 : Nat)) % s.flight.length).toNat]? = some c' → ¬ Accept r c' := by
            intro c' hc' ha
            have hkk : ((s.turn + (0 : Nat)) % s.flight.length).toNat = k := by
              rw [show s.turn + ((0 : Nat) : Int) = s.turn by omega, hkt]; omega
            rw [hkk, List.getElem?_eq_getElem hk] at hc'
            have hc'' := Option.some.inj hc'
            subst hc''
            have hg := h3 _ (List.getElem_mem hk)
            have hng2 : ¬ got r s.flight[k].num := fun e5 => by
              have := (gotB_iff r _).2 e5
              rw [hg] at this; cases this
            rcases hrf with e5 | e5 | ⟨e5, e6⟩
            · exact hng2 (.inl e5)
            · exact hng2 (.inr e5)
            · rcases ha with e7 | e7 <;> omega
          have hj0 : j ≠ 0 := by
            rintro rfl
            obtain ⟨c', h5, h6⟩ := ht
            exact hacc c' h5 h6
          refine ⟨4 * (notF (nextS s r) (nextR s r)).length + 6 * (nextS s r).queue.length + (j - 1), by rw [hu, hqn]; omega, j - 1, ?_, Nat.le_refl _⟩
          refine .inr (.inr ⟨by rw [hqn, hsame]; exact hcyc, by rw [hsame]; exact h2, hng, j - 1, Nat.le_refl _, ?_⟩)
          obtain ⟨c', h5, h6⟩ := ht
          refine ⟨c', ?_, ?_⟩
          · rw [hsame, hrest.2.2, e3]
            show s.flight[(((k : Int) + 1 + ((j - 1 : Nat) : Int)) % s.flight.length).toNat]? = some c'
            have e5 : ((k : Int) + 1 + ((j - 1 : Nat) : Int)) % s.flight.length = (s.turn + j) % s.flight.length := by
              have : (k : Int) + 1 + ((j - 1 : Nat) : Int) = k + j := by omega
              rw [this, ← hkt, Int.emod_add_emod]
            rw [e5]; exact h5
          · unfold Accept at h6 ⊢
            rw [hR.1, hR.2]; exact h6
      · -- it is taken
        have hacc := nextR_acc hs hr hsaid (by rw [e3]; exact hrf)
        rw [e3] at hacc
        have hg : gotB r s.flight[k].num = false := by
          cases hh : gotB r s.flight[k].num with
          | false => rfl
          | true =>
            exfalso
            rcases (gotB_iff r _).1 hh with e5 | e5
            · exact hrf (.inl e5)
            · exact hrf (.inr (.inl e5))
        have hu : (notF (nextS s r) (nextR s r)).length < (notF s r).length := by
          rw [hnf']
          refine filter_len_lt (List.getElem_mem hk) (by rw [hg]; rfl) ?_ (fun x hx h => ?_)
          · rw [hacc]; simp
          · cases hh : gotB r x.num with
            | false => rfl
            | true => rw [hmono _ hh] at h; cases h
        exact ⟨4 * (notF (nextS s r) (nextR s r)).length + 6 * (nextS s r).queue.length + 3, by rw [hqn]; omega, 3, hany, Nat.le_refl _⟩

/-! ### A lane, round by round -/
def lround (n t : Nat) (x : Lane × Int) : Lane × Int := (if (x.2 % n).toNat = t then speak (settleLane x.1) else settleLane x.1, x.2 + 1)
def FinL (l : Lane) : Prop := fin (settleLane l).s (settleLane l).r
def Good (N : Nat) (l : Lane) : Prop := FinL l ∨ ((settleLane l).r.owes = true ∧ Pot (settleLane l).s (settleLane l).r N)
theorem turn_settle {l : Lane} (h : BInv l) : settleLane (speak (settleLane l)) = ⟨nextS (settleLane l).s (settleLane l).r, nextR (settleLane l).s (settleLane l).r, [], []⟩ :=
  turn_is (binv_settle h) (settle_ways l).1 (settle_ways l).2
theorem finL_turn {l : Lane} (h : BInv l) (hf : FinL l) : FinL (speak (settleLane l)) := by
  unfold FinL
  rw [turn_settle h]
  exact fin_next (binv_settle h).s hf
theorem binv_turn {l : Lane} (h : BInv l) : BInv (speak (settleLane l)) := binv_speak (binv_settle h)
theorem good_turn {N : Nat} {l : Lane} (h : BInv l) (hg : Good N l) : (N = 0 → FinL (speak (settleLane l))) ∧ Good (N - 1) (speak (settleLane l)) := by
  have hb := binv_settle h
  have hb2 := binv_settle (binv_turn h)
  rw [turn_settle h] at hb2
  by_cases hf : FinL l
  · have := finL_turn h hf
    exact ⟨fun _ => this, .inl this⟩
  · rcases hg with hg | ⟨hw, hp⟩
    · exact absurd hg hf
    · obtain ⟨h1, h2⟩ := pot_step hb.s hb.r hw hf hp hb2.s
      rcases h2 with h2 | ⟨N', hN, h2⟩
      · have h3 : FinL (speak (settleLane l)) := by unfold FinL; rw [turn_settle h]; exact h2
        exact ⟨fun _ => h3, .inl h3⟩
      · refine ⟨fun e => by omega, .inr ?_⟩
        rw [turn_settle h]
        obtain ⟨c, hc, hN2⟩ := h2
        exact ⟨h1, c, hc, Nat.le_trans hN2 (by omega)⟩
theorem good_first {l : Lane} (h : BInv l) : Good 55 (speak (settleLane l)) := by
  have hb := binv_settle h
  have hb2 := binv_settle (binv_turn h)
  have ht := turn_settle h
  by_cases hf : FinL (speak (settleLane l))
  · exact .inl hf
  · right
    have hf' : ¬ fin (nextS (settleLane l).s (settleLane l).r) (nextR (settleLane l).s (settleLane l).r) := by
      intro e; apply hf; unfold FinL; rw [ht]; exact e
    rw [ht] at hb2 ⊢
    have hsaid : (say (settleLane l).s).2.2 = true := by
      cases ho : (say (settleLane l).s).2.2 with
      | true => rfl
      | false =>
        have := said_not hb.s ho
        exact absurd (.inl (idle_next _ ⟨this.1, this.2.1⟩)) hf'
    refine ⟨nextR_owes hb.s _ hsaid, 3, cost_any hb2.s hf', ?_⟩
    have h1 := hb2.s.f
    have h2 := hb2.s.q
    have h3 : (notF (nextS (settleLane l).s (settleLane l).r) (nextR (settleLane l).s (settleLane l).r)).length ≤ _ := List.length_filter_le _ _
    simp only at h1 h2
    show 4 * (notF (nextS (settleLane l).s (settleLane l).r) (nextR (settleLane l).s (settleLane l).r)).length + 6 * (nextS (settleLane l).s (settleLane l).r).queue.length + 3 ≤ 55
    omega
theorem good_le {N M : Nat} (h : N ≤ M) {l : Lane} (hg : Good N l) : Good M l := hg.imp id fun ⟨h1, c, h2, h3⟩ => ⟨h1, c, h2, by omega⟩
theorem lround_b {n t : Nat} {x : Lane × Int} (h : BInv x.1) : BInv (lround n t x).1 := by
  unfold lround; simp only
  split
  · exact binv_turn h
  · exact binv_settle h
theorem lround_fin {n t : Nat} {x : Lane × Int} (h : BInv x.1) (hf : FinL x.1) : FinL (lround n t x).1 := by
  unfold lround; simp only
  split
  · exact finL_turn h hf
  · unfold FinL; rw [settle_idem]; exact hf
theorem lround_good {n t N : Nat} {x : Lane × Int} (h : BInv x.1) (hg : Good N x.1) : Good N (lround n t x).1 := by
  unfold lround; simp only
  split
  · exact good_le (by omega) (good_turn h hg).2
  · unfold Good FinL; rw [settle_idem]; exact hg
def lrounds (n t : Nat) : Nat → Lane × Int → Lane × Int
  | 0, x => x
  | k + 1, x => lrounds n t k (lround n t x)
theorem lrounds_b {n t : Nat} : ∀ (k : Nat) {x : Lane × Int}, BInv x.1 → BInv (lrounds n t k x).1
  | 0, x, h => h
  | k + 1, x, h => lrounds_b k (lround_b h)
theorem lrounds_fin {n t : Nat} : ∀ (k : Nat) {x : Lane × Int}, BInv x.1 → FinL x.1 → FinL (lrounds n t k x).1
  | 0, x, _, h => h
  | k + 1, x, hb, h => lrounds_fin k (lround_b hb) (lround_fin hb h)
theorem lrounds_good {n t N : Nat} : ∀ (k : Nat) {x : Lane × Int}, BInv x.1 → Good N x.1 → Good N (lrounds n t k x).1
  | 0, x, _, h => h
  | k + 1, x, hb, h => lrounds_good k (lround_b hb) (lround_good hb h)
theorem lrounds_add {n t : Nat} : ∀ (j k : Nat) (x : Lane × Int), lrounds n t (j + k) x = lrounds n t k (lrounds n t j x)
  | 0, k, x => by rw [Nat.zero_add]; rfl
  | j + 1, k, x => by rw [Nat.succ_add]; exact lrounds_add j k (lround n t x)
theorem lrounds_tick {n t : Nat} : ∀ (k : Nat) (x : Lane × Int), (lrounds n t k x).2 = x.2 + k
  | 0, x => by simp [lrounds]
  | k + 1, x => by
    show (lrounds n t k (lround n t x)).2 = _
    rw [lrounds_tick k]
    show x.2 + 1 + (k : Int) = x.2 + ((k + 1 : Nat) : Int)
    omega
/-- Of three rounds one is one's own. -/
theorem own3 {n t : Nat} (hn : n ≤ 3) (ht : t < n) {k : Int} (hk : 0 ≤ k) : ∃ j, j < 3 ∧ ((k + (j : Nat)) % n).toNat = t := by
  rcases (by omega : n = 1 ∨ n = 2 ∨ n = 3) with rfl | rfl | rfl
  · exact ⟨0, by omega, by omega⟩
  · by_cases h : (k % 2).toNat = t
    · exact ⟨0, by omega, by omega⟩
    · exact ⟨1, by omega, by omega⟩
  · by_cases h : (k % 3).toNat = t
    · exact ⟨0, by omega, by omega⟩
    · by_cases h2 : ((k + 1) % 3).toNat = t
      · exact ⟨1, by omega, by omega⟩
      · exact ⟨2, by omega, by omega⟩
theorem lround_own {n t : Nat} {x : Lane × Int} (h : (x.2 % n).toNat = t) : (lround n t x).1 = speak (settleLane x.1) := by unfold lround; simp only; rw [if_pos h]
theorem three {n t : Nat} (hn : n ≤ 3) (ht : t < n) {x : Lane × Int} (hk : 0 ≤ x.2) (hb : BInv x.1) {P Q : Lane → Prop} (hturn : ∀ l, BInv l → P l → Q (speak (settleLane l))) (hP : ∀ y : Lane × Int, BInv y.1 → P y.1 → P (lround n t y).1) (hQ : ∀ y : Lane × Int, BInv y.1 → Q y.1 → Q (lround n t y).1) (h : P x.1) : Q (lrounds n t 3 x).1 := by
  obtain ⟨j, hj, he⟩ := own3 hn ht hk
  have hPs : ∀ (k : Nat) (y : Lane × Int), BInv y.1 → P y.1 → P (lrounds n t k y).1 := by
    intro k
    induction k with
    | zero => intro y _ h; exact h
    | succ k ih => intro y hb h; exact ih _ (lround_b hb) (hP y hb h)
  have hQs : ∀ (k : Nat) (y : Lane × Int), BInv y.1 → Q y.1 → Q (lrounds n t k y).1 := by
    intro k
    induction k with
    | zero => intro y _ h; exact h
    | succ k ih => intro y hb h; exact ih _ (lround_b hb) (hQ y hb h)
  have e : (3 : Nat) = j + (1 + (2 - j)) := by omega
  rw [e, lrounds_add, lrounds_add]
  have hy : BInv (lrounds n t j x).1 := lrounds_b j hb
  have hyt := lrounds_tick (n := n) (t := t) j x
  have h1 : Q (lround n t (lrounds n t j x)).1 := by
    rw [lround_own (by rw [hyt]; exact he)]
    exact hturn _ hy (hPs j x hb h)
  exact hQs _ _ (lround_b hy) h1
theorem fin_rounds {n t : Nat} (hn : n ≤ 3) (ht : t < n) : ∀ (N : Nat) {x : Lane × Int}, 0 ≤ x.2 → BInv x.1 → Good N x.1 → FinL (lrounds n t (3 * (N + 1)) x).1
  | 0, x, hk, hb, hg => three hn ht hk hb (P := Good 0) (Q := FinL) (fun l hl h => (good_turn hl h).1 rfl) (fun y hy h => lround_good hy h) (fun y hy h => lround_fin hy h) hg
  | N + 1, x, hk, hb, hg => by
    have h1 := three hn ht hk hb (P := Good (N + 1)) (Q := Good N) (fun l hl h => (good_turn hl h).2) (fun y hy h => lround_good hy h) (fun y hy h => lround_good hy h) hg
    have e : 3 * (N + 1 + 1) = 3 + 3 * (N + 1) := by omega
    rw [e, lrounds_add]
    have hb3 : BInv (lrounds n t 3 x).1 := lrounds_b 3 hb
    exact fin_rounds hn ht N (by rw [lrounds_tick]; omega) hb3 h1
/-- In 171 rounds a lane is done, or nothing will ever come of it. -/
theorem fin_171 {n t : Nat} (hn : n ≤ 3) (ht : t < n) {x : Lane × Int} (hk : 0 ≤ x.2) (hb : BInv x.1) {k : Nat} (h : 171 ≤ k) : FinL (lrounds n t k x).1 := by
  have e : k = 3 + (3 * (55 + 1) + (k - 171)) := by omega
  rw [e, lrounds_add, lrounds_add]
  have hb3 : BInv (lrounds n t 3 x).1 := lrounds_b 3 hb
  have h1 := three hn ht hk hb (P := fun _ => True) (Q := Good 55) (fun l hl _ => good_first hl) (fun y hy _ => trivial) (fun y hy h => lround_good hy h) trivial
  have h2 := fin_rounds hn ht 55 (by rw [lrounds_tick]; omega) hb3 h1
  exact lrounds_fin _ (lrounds_b _ hb3) h2
/-- Idle, or blocked for ever. -/
def BlkL (l : Lane) : Prop := blocked (settleLane l).s (settleLane l).r
theorem hear_sub (s : Sender) (c : Chunk) : (hear s c).queue = s.queue ∧ ∀ x ∈ (hear s c).flight, x ∈ s.flight := by
  unfold hear
  split
  · exact ⟨rfl, fun x hx => hx⟩
  · exact ⟨rfl, fun x hx => (List.mem_filter.1 hx).1⟩
theorem comes_sub (l : Lane) (k : Nat) (b : Bool) : (comes l k b).s.queue = l.s.queue ∧ ∀ x ∈ (comes l k b).s.flight, x ∈ l.s.flight := by
  have hw : ∀ P, (withP l b P).s = l.s := fun P => by cases b <;> rfl
  unfold comes
  simp only
  split
  · rw [hw]; exact ⟨rfl, fun x hx => hx⟩
  · split
    · simp only [hw]; exact hear_sub _ _
    · exact ⟨congrArg (·.queue) (hw _), fun x hx => by rw [← hw ((way l b).eraseIdx k)]; exact hx⟩
theorem drain_sub (b : Bool) : ∀ (n : Nat) (l : Lane), (drain n b l).s.queue = l.s.queue ∧ ∀ x ∈ (drain n b l).s.flight, x ∈ l.s.flight
  | 0, l => ⟨rfl, fun x hx => hx⟩
  | n + 1, l => by
    rw [drain_step]
    split
    · exact ⟨rfl, fun x hx => hx⟩
    · have h1 := comes_sub l 0 b
      have h2 := drain_sub b n (comes l 0 b)
      exact ⟨h2.1.trans h1.1, fun x hx => h1.2 x (h2.2 x hx)⟩
theorem settle_sub (l : Lane) : (settleLane l).s.queue = l.s.queue ∧ ∀ x ∈ (settleLane l).s.flight, x ∈ l.s.flight := by
  have h1 := drain_sub false (way l false).length l
  have h2 := drain_sub true (way (drainAll false l) true).length (drainAll false l)
  exact ⟨h2.1.trans h1.1, fun x hx => h1.2 x (h2.2 x hx)⟩
theorem idle_settle {l : Lane} (h : idleB l = true) : idleB (settleLane l) = true := by
  unfold idleB at h ⊢
  simp only [Bool.and_eq_true, decide_eq_true_eq] at h ⊢
  have := settle_sub l
  refine ⟨this.1.trans h.1, ?_⟩
  rw [List.eq_nil_iff_forall_not_mem]
  intro c hc
  have := this.2 c hc
  rw [h.2] at this; simp at this
theorem idle_speak {l : Lane} (h : idleB l = true) : idleB (speak l) = true := by
  unfold idleB at h
  simp only [Bool.and_eq_true, decide_eq_true_eq] at h
  have e := say_idle (s := l.s) h
  unfold idleB
  show (decide ((say l.s).1.queue = []) && decide ((say l.s).1.flight = [])) = true
  rw [e]; simp [h.1, h.2]
theorem idle_iff {l : Lane} : idleB l = true ↔ idleS l.s := by unfold idleB idleS; simp
theorem blk_not_idle {l : Lane} (h : BlkL l) : idleB l = false := by
  obtain ⟨_, _, _, c, hc, _⟩ := h
  have := (settle_sub l).2 c hc
  cases hi : idleB l with
  | false => rfl
  | true => rw [(idle_iff.1 hi).2] at this; simp at this
theorem lround_blk {n t : Nat} {x : Lane × Int} (h : BInv x.1) (hf : BlkL x.1) : BlkL (lround n t x).1 := by
  unfold lround; simp only
  split
  · unfold BlkL; rw [turn_settle h]; exact blocked_next (binv_settle h).s hf
  · unfold BlkL; rw [settle_idem]; exact hf
theorem lrounds_blk {n t : Nat} : ∀ (k : Nat) {x : Lane × Int}, BInv x.1 → BlkL x.1 → BlkL (lrounds n t k x).1
  | 0, x, _, h => h
  | k + 1, x, hb, h => lrounds_blk k (lround_b hb) (lround_blk hb h)
theorem lround_idle {n t : Nat} {x : Lane × Int} (h : idleB x.1 = true) : idleB (lround n t x).1 = true := by
  unfold lround; simp only
  split
  · exact idle_speak (idle_settle h)
  · exact idle_settle h
theorem lrounds_idle {n t : Nat} : ∀ (k : Nat) {x : Lane × Int}, idleB x.1 = true → idleB (lrounds n t k x).1 = true
  | 0, x, h => h
  | k + 1, x, h => lrounds_idle k (lround_idle h)
theorem lrounds_succ {n t : Nat} (k : Nat) (x : Lane × Int) : lrounds n t (k + 1) x = lround n t (lrounds n t k x) := by rw [lrounds_add]; rfl
/-- Behind 200 rounds a lane is idle, or never will be. -/
theorem done_200 {n t : Nat} (hn : n ≤ 3) (ht : t < n) {x : Lane × Int} (hk : 0 ≤ x.2) (hb : BInv x.1) {k : Nat} (h200 : 200 ≤ k) : idleB (lrounds n t k x).1 = true ∨ BlkL (lrounds n t k x).1 := by
  obtain ⟨k, rfl⟩ : ∃ j, k = j + 1 := ⟨k - 1, by omega⟩
  have h := fin_171 hn ht hk hb (k := k) (by omega)
  have hb2 := lrounds_b (n := n) (t := t) k hb
  rw [lrounds_succ]
  rcases h with h | h
  · left
    have h' : idleB (settleLane (lrounds n t k x).1) = true := idle_iff.2 h
    unfold lround; simp only
    split
    · exact idle_speak h'
    · exact h'
  · right
    exact lround_blk hb2 h
theorem linv_not_blk {H : List Msg} {l : Lane} (h : LInv false H l) : ¬ BlkL l := by
  intro hb
  have hs := linv_settle h
  obtain ⟨_, h2, h3, _⟩ := hb
  have hn := hs.r.inv.n
  have h4 := hs.ack (settleLane l).r.next.toNat (by omega)
  rw [Int.toNat_of_nonneg hn.1] at h4
  rcases h4 with e | e
  · rcases e with e | e
    · omega
    · have := hs.r.inv.e _ e; omega
  · exact h3 _ e (by rw [chk_num]; omega)
theorem linv_lround {sp : Bool} {H : List Msg} {n t : Nat} {x : Lane × Int} (h : LInv sp H x.1) : LInv sp H (lround n t x).1 := by
  unfold lround; simp only
  split
  · exact linv_speak (linv_settle h)
  · exact linv_settle h
theorem linv_lrounds {sp : Bool} {H : List Msg} {n t : Nat} : ∀ (k : Nat) {x : Lane × Int}, LInv sp H x.1 → LInv sp H (lrounds n t k x).1
  | 0, x, h => h
  | k + 1, x, h => linv_lrounds k (linv_lround h)

/-! ### Still -/
structure Quiet (l : Lane) : Prop where
  i : idleB l = true
  there : l.there = []
  back : l.back = []
  owes : l.r.owes = false
theorem quiet_speak {l : Lane} (h : Quiet l) : speak l = l := by
  have e1 := say_idle (s := l.s) (idle_iff.1 h.i)
  have e2 : rsay l.r = (l.r, chunk0, false) := by unfold rsay; rw [if_neg (by rw [h.owes]; decide)]
  unfold speak; rw [e1, e2]; rfl
theorem quiet_round {n t : Nat} {x : Lane × Int} (h : Quiet x.1) : (lround n t x).1 = x.1 := by
  unfold lround; simp only
  rw [settle_id h.there h.back, quiet_speak h]; simp
theorem quiet_rounds {n t : Nat} : ∀ (k : Nat) {x : Lane × Int}, Quiet x.1 → (lrounds n t k x).1 = x.1
  | 0, x, _ => rfl
  | k + 1, x, h => by
    have e := quiet_round (n := n) (t := t) h
    show (lrounds n t k (lround n t x)).1 = x.1
    rw [quiet_rounds k (by rw [e]; exact h), e]
theorem quiet_turn {l : Lane} (hb : BInv l) (h : idleB l = true) : Quiet (settleLane (speak (settleLane l))) := by
  have hi := idle_settle h
  have e1 := say_idle (s := (settleLane l).s) (idle_iff.1 hi)
  have hn := nextR_got (settleLane l).s (settleLane l).r
  rw [turn_settle hb]
  refine ⟨idle_iff.2 (idle_next _ (idle_iff.1 hi)), rfl, rfl, ?_⟩
  show (nextR (settleLane l).s (settleLane l).r).owes = false
  unfold nextR; rw [e1]; exact hn.2.2
/-- Whose last own turn is behind them, and was idle, is quiet behind one more round. -/
def NearQ (l : Lane) : Prop := idleB l = true ∧ Quiet (settleLane l)
theorem nearQ_lround {n t : Nat} {x : Lane × Int} (hb : BInv x.1) (h : NearQ x.1) : NearQ (lround n t x).1 := by
  unfold lround; simp only
  split
  · rw [quiet_speak h.2]; exact ⟨h.2.i, by rw [settle_idem]; exact h.2⟩
  · exact ⟨h.2.i, by rw [settle_idem]; exact h.2⟩
theorem quiet_6 {n t : Nat} (hn : n ≤ 3) (ht : t < n) {x : Lane × Int} (hk : 0 ≤ x.2) (hb : BInv x.1) (h : idleB x.1 = true) {k : Nat} (h4 : n + 1 ≤ k) : Quiet (lrounds n t k x).1 := by
  have hown : ∃ j, j < n ∧ ((x.2 + (j : Nat)) % n).toNat = t := by
    rcases (by omega : n = 1 ∨ n = 2 ∨ n = 3) with rfl | rfl | rfl
    · exact ⟨0, by omega, by omega⟩
    · by_cases h : (x.2 % 2).toNat = t
      · exact ⟨0, by omega, by omega⟩
      · exact ⟨1, by omega, by omega⟩
    · by_cases h : (x.2 % 3).toNat = t
      · exact ⟨0, by omega, by omega⟩
      · by_cases h2 : ((x.2 + 1) % 3).toNat = t
        · exact ⟨1, by omega, by omega⟩
        · exact ⟨2, by omega, by omega⟩
  obtain ⟨j, hj, he⟩ := hown
  have hbj := lrounds_b (n := n) (t := t) j hb
  have hij := lrounds_idle (n := n) (t := t) j h
  have h1 : NearQ (lround n t (lrounds n t j x)).1 := by
    rw [lround_own (by rw [lrounds_tick]; exact he)]
    exact ⟨idle_speak (idle_settle hij), quiet_turn hbj hij⟩
  have h2 : Quiet (lround n t (lround n t (lrounds n t j x))).1 := by
    have hq := h1.2
    generalize (lround n t (lrounds n t j x)) = y at hq
    unfold lround; simp only
    split
    · rw [quiet_speak hq]; exact hq
    · exact hq
  have e : k = j + (2 + (k - j - 2)) := by omega
  rw [e, lrounds_add, lrounds_add]
  have h3 : Quiet (lrounds n t 2 (lrounds n t j x)).1 := h2
  rw [quiet_rounds _ h3]; exact h3

/-! ### Worlds, round by round -/
def roundN : Nat → World' → World'
  | 0, w => w
  | k + 1, w => roundN k (roundW w)
theorem roundW_len (w : World') : (roundW w).lanes.length = w.lanes.length := by unfold roundW tick; simp
theorem roundW_at {w : World'} {t : Nat} (ht : t < w.lanes.length) : atL (roundW w) t = lround w.lanes.length t (atL w t) := by
  have hm : ∀ i, i < w.lanes.length → (w.lanes.map settleLane).getD i lane0 = settleLane (w.lanes.getD i lane0) := by
    intro i hi; simp [List.getD, List.getElem?_eq_getElem hi]
  unfold roundW tick
  show ((((w.lanes.map settleLane).set _ _).getD t lane0, w.ticks + 1) : Lane × Int) = _
  rw [getD_set (by simpa using ht)]
  have e : whose ⟨w.lanes.map settleLane, w.ticks⟩ = (w.ticks % w.lanes.length).toNat := by unfold whose; simp
  rw [e]
  show _ = ((if (w.ticks % w.lanes.length).toNat = t then speak (settleLane (w.lanes.getD t lane0)) else settleLane (w.lanes.getD t lane0)), w.ticks + 1)
  by_cases h3 : (w.ticks % w.lanes.length).toNat = t
  · rw [if_pos h3, if_pos h3, h3, hm t ht]
  · rw [if_neg h3, if_neg h3, hm t ht]
theorem roundN_len : ∀ (k : Nat) (w : World'), (roundN k w).lanes.length = w.lanes.length
  | 0, w => rfl
  | k + 1, w => (roundN_len k _).trans (roundW_len w)
theorem roundN_at {t : Nat} : ∀ (k : Nat) {w : World'}, t < w.lanes.length → atL (roundN k w) t = lrounds w.lanes.length t k (atL w t)
  | 0, w, _ => rfl
  | k + 1, w, ht => by
    show atL (roundN k (roundW w)) t = lrounds _ t k (lround _ t (atL w t))
    rw [roundN_at k (by rw [roundW_len]; exact ht), roundW_len, roundW_at ht]
theorem roundN_succ : ∀ (k : Nat) (w : World'), roundN (k + 1) w = roundW (roundN k w)
  | 0, w => rfl
  | k + 1, w => roundN_succ k (roundW w)
theorem roundN_add : ∀ (j k : Nat) (w : World'), roundN (j + k) w = roundN k (roundN j w)
  | 0, k, w => by rw [Nat.zero_add]; rfl
  | j + 1, k, w => by rw [Nat.succ_add]; exact roundN_add j k (roundW w)
theorem roundN_ticks : ∀ (k : Nat) (w : World'), (roundN k w).ticks = w.ticks + k
  | 0, w => by simp [roundN]
  | k + 1, w => by
    show (roundN k (roundW w)).ticks = _
    rw [roundN_ticks k]
    show w.ticks + 1 + (k : Int) = w.ticks + ((k + 1 : Nat) : Int)
    omega
theorem wok_round {w : World'} (h : WOk w) : WOk (roundW w) := by
  have h1 : WOk ⟨w.lanes.map settleLane, w.ticks⟩ := by
    refine ⟨by simp only [List.length_map]; exact h.len, h.tk, fun l hl => ?_⟩
    obtain ⟨x, hx, rfl⟩ := List.mem_map.1 hl
    exact binv_settle (h.b x hx)
  have := h.tk
  exact wok_set h1 (binv_speak (h1.get h1.whose)) (by show 0 ≤ w.ticks + 1; omega)
theorem wok_roundN : ∀ (k : Nat) {w : World'}, WOk w → WOk (roundN k w)
  | 0, w, h => h
  | k + 1, w, h => wok_roundN k (wok_round h)
/-- What 'settle' comes to. -/
theorem settle_is : ∀ (n : Nat) (w : World'), ∃ k, k ≤ n ∧ (settle n w).1 = roundN k w ∧ (settle n w).2 = k ∧ (k < n → stillB (roundN k w) = true)
  | 0, w => ⟨0, Nat.le_refl _, rfl, rfl, fun h => by omega⟩
  | n + 1, w => by
    by_cases h : stillB w = true
    · refine ⟨0, by omega, ?_, ?_, fun _ => h⟩
      · show (if stillB w then (w, (0 : Int)) else _).1 = w; rw [if_pos h]
      · show (if stillB w then (w, (0 : Int)) else _).2 = 0; rw [if_pos h]
    · obtain ⟨k, h1, h2, h3, h4⟩ := settle_is n (roundW w)
      refine ⟨k + 1, by omega, ?_, ?_, fun hk => h4 (by omega)⟩
      · show (if stillB w then (w, (0 : Int)) else ((settle n (roundW w)).1, (settle n (roundW w)).2 + 1)).1 = _
        rw [if_neg h]; exact h2
      · show (if stillB w then (w, (0 : Int)) else ((settle n (roundW w)).1, (settle n (roundW w)).2 + 1)).2 = _
        rw [if_neg h]
        show (settle n (roundW w)).2 + 1 = ((k + 1 : Nat) : Int)
        rw [h3]; omega
theorem stillB_iff {w : World'} : stillB w = true ↔ ∀ t, t < w.lanes.length → idleB (w.lanes.getD t lane0) = true := by
  unfold stillB
  rw [List.all_eq_true]
  constructor
  · intro h t ht
    have : w.lanes.getD t lane0 = w.lanes[t] := by simp [List.getD, List.getElem?_eq_getElem ht]
    rw [this]; exact h _ (List.getElem_mem ht)
  · intro h x hx
    obtain ⟨t, ht, e⟩ := List.mem_iff_getElem.1 hx
    have := h t ht
    have e2 : w.lanes.getD t lane0 = w.lanes[t] := by simp [List.getD, List.getElem?_eq_getElem ht]
    rw [e2, e] at this; exact this
theorem lanes_ext {w v : World'} (hl : w.lanes.length = v.lanes.length) (h : ∀ t, t < w.lanes.length → w.lanes.getD t lane0 = v.lanes.getD t lane0) : w.lanes = v.lanes := by
  refine List.ext_getElem hl fun t h1 h2 => ?_
  have := h t h1
  simpa [List.getD, List.getElem?_eq_getElem h1, List.getElem?_eq_getElem h2] using this
theorem still_rounds {w : World'} (h : stillB w = true) (k : Nat) : stillB (roundN k w) = true := by
  rw [stillB_iff] at h ⊢
  intro t ht
  rw [roundN_len] at ht
  have e := congrArg Prod.fst (roundN_at k ht)
  show idleB (atL (roundN k w) t).1 = true
  rw [e]; exact lrounds_idle k (h t ht)
/-- All that was put is told at last. -/
theorem settle_ends {w : World'} (hw : WOk w) {Hs : Nat → List Msg} (h : ∀ t, t < w.lanes.length → LInv false (Hs t) (w.lanes.getD t lane0)) :
    stillB (settle 200 w).1 = true ∧ (settle 200 w).1.lanes.length = w.lanes.length ∧ ∀ t, t < w.lanes.length → LInv false (Hs t) ((settle 200 w).1.lanes.getD t lane0) := by
  obtain ⟨k, h1, h2, h3, h4⟩ := settle_is 200 w
  rw [h2]
  have hL : ∀ t, t < w.lanes.length → LInv false (Hs t) ((roundN k w).lanes.getD t lane0) := by
    intro t ht
    have e := congrArg Prod.fst (roundN_at k ht)
    show LInv false (Hs t) (atL (roundN k w) t).1
    rw [e]; exact linv_lrounds k (h t ht)
  refine ⟨?_, roundN_len k w, hL⟩
  by_cases hk : k < 200
  · exact h4 hk
  · rw [stillB_iff, roundN_len]
    intro t ht
    have e := congrArg Prod.fst (roundN_at k ht)
    show idleB (atL (roundN k w) t).1 = true
    have hd := done_200 hw.len.2 ht (x := atL w t) hw.tk (hw.get ht) (k := k) (by omega)
    rw [← e] at hd
    rcases hd with hd | hd
    · exact hd
    · exact absurd hd (linv_not_blk (hL t ht))
/-- Still is still. -/
theorem settle_done {w : World'} (hw : WOk w) {j : Nat} (hj : w.lanes.length + 1 ≤ j) (hs : stillB (roundN j (settle 200 w).1) = true) (m : Nat) :
    (roundN m (roundN j (settle 200 w).1)).lanes = (roundN j (settle 200 w).1).lanes := by
  obtain ⟨k, h1, h2, h3, h4⟩ := settle_is 200 w
  rw [h2] at hs ⊢
  have hwk := wok_roundN k hw
  have hst : stillB (roundN k w) = true := by
    by_cases hk : k < 200
    · exact h4 hk
    · rw [stillB_iff, roundN_len]
      intro t ht
      have e := congrArg Prod.fst (roundN_at k ht)
      show idleB (atL (roundN k w) t).1 = true
      have hd := done_200 hw.len.2 ht (x := atL w t) hw.tk (hw.get ht) (k := k) (by omega)
      rcases hd with hd | hd
      · rw [e]; exact hd
      · exfalso
        rw [← e] at hd
        have ht' : t < (roundN k w).lanes.length := by rw [roundN_len]; exact ht
        have hb2 := lrounds_blk (n := (roundN k w).lanes.length) (t := t) j (x := atL (roundN k w) t) (hwk.get ht') hd
        have e2 := congrArg Prod.fst (roundN_at j ht')
        rw [← e2] at hb2
        have := stillB_iff.1 hs t (by rw [roundN_len]; exact ht')
        have h5 := blk_not_idle hb2
        rw [show (atL (roundN j (roundN k w)) t).1 = (roundN j (roundN k w)).lanes.getD t lane0 from rfl, this] at h5
        cases h5
  have hq : ∀ t, t < (roundN k w).lanes.length → Quiet ((roundN j (roundN k w)).lanes.getD t lane0) := by
    intro t ht
    have e := congrArg Prod.fst (roundN_at j ht)
    show Quiet (atL (roundN j (roundN k w)) t).1
    rw [e]
    exact quiet_6 hwk.len.2 ht hwk.tk (hwk.get ht) (stillB_iff.1 hst t ht) (by rw [roundN_len]; exact hj)
  refine lanes_ext (roundN_len _ _) fun t ht => ?_
  rw [roundN_len] at ht
  have e := congrArg Prod.fst (roundN_at m ht)
  rw [roundN_len] at ht
  show (atL (roundN m (roundN j (roundN k w))) t).1 = _
  rw [e]
  exact quiet_rounds m (hq t ht)
end Go.Proofs.Ytaadloihphpdbaa
