/- A lane, as pure data: whatever is lost, comes twice, or late, what is told is the beginning of what was put, stream by stream. No program in sight. -/
import Derived.Test.YtaadloihphpdbaaPSend
import Derived.Test.YtaadloihphpdbaaPRecv
import Derived.Test.YtaadloihphpdbaaPChunk
set_option linter.unusedVariables false
set_option linter.unusedSimpArgs false
namespace Go.Proofs.Ytaadloihphpdbaa
open Go Go.Vc

/-! ### What was put, in turn -/
def cnt (st : Int) (H : List Msg) (k : Nat) : Nat := (ofStream st (H.take k)).length
/-- The chunk of message k. -/
def chk (H : List Msg) (k : Nat) : Chunk := ⟨1, k, (H.getD k (0, [])).1, cnt (H.getD k (0, [])).1 H k, (H.getD k (0, [])).2, []⟩
structure HOk (H : List Msg) : Prop where
  len : H.length ≤ 40
  right : ∀ m ∈ H, wrongMsg m = 0
theorem hok0 : HOk [] := ⟨by simp, by simp⟩
theorem HOk.st {H : List Msg} (h : HOk H) {k : Nat} (hk : k < H.length) : H[k].1 = 0 ∨ H[k].1 = 1 ∨ H[k].1 = 2 := (rightMsg (h.right _ (List.getElem_mem hk))).1
theorem cnt_le (st : Int) (H : List Msg) (k : Nat) : cnt st H k ≤ k := by
  unfold cnt
  have h1 := ofStream_len st (H.take k)
  have h2 := List.length_take_le k H
  omega
theorem cnt_succ {H : List Msg} {k : Nat} (hk : k < H.length) (st : Int) : cnt st H (k + 1) = cnt st H k + (if H[k].1 = st then 1 else 0) := by
  unfold cnt
  by_cases h : H[k].1 = st
  · rw [ofStreamY hk h, if_pos h]; simp
  · rw [ofStreamN hk h, if_neg h]; simp
theorem cnt_mono {st : Int} {H : List Msg} {j k : Nat} (h : j ≤ k) : cnt st H j ≤ cnt st H k := by
  unfold cnt ofStream
  have e : H.take j = (H.take k).take j := by rw [List.take_take, Nat.min_eq_left h]
  rw [e]
  exact ((List.take_sublist _ _).filter _).length_le
theorem cnt_all {st : Int} {H : List Msg} {k : Nat} (h : k ≤ H.length) : cnt st H k ≤ (ofStream st H).length := by
  unfold cnt ofStream
  exact ((List.take_sublist _ _).filter _).length_le
theorem cnt_hit {st : Int} {H : List Msg} {p : Nat} : ∀ {k : Nat}, k ≤ H.length → p < cnt st H k → ∃ j, ∃ hj : j < H.length, j < k ∧ H[j].1 = st ∧ cnt st H j = p
  | 0, _, h => by simp [cnt, ofStream] at h
  | k + 1, hk, h => by
    have hk' : k < H.length := by omega
    have e := cnt_succ hk' st
    by_cases hp : p < cnt st H k
    · obtain ⟨j, hj, h1, h2⟩ := cnt_hit (k := k) (by omega) hp
      exact ⟨j, hj, by omega, h2⟩
    · by_cases hs : H[k].1 = st
      · rw [if_pos hs] at e; exact ⟨k, hk', by omega, hs, by omega⟩
      · rw [if_neg hs] at e; omega
theorem stream_get {H : List Msg} {k : Nat} (hk : k < H.length) {st : Int} (hs : H[k].1 = st) : (ofStream st H)[cnt st H k]? = some H[k] := by
  have e : H = H.take k ++ H[k] :: H.drop (k + 1) := by simp
  have e2 : ofStream st H = ofStream st (H.take k) ++ H[k] :: ofStream st (H.drop (k + 1)) :=
    (congrArg (ofStream st) e).trans (by unfold ofStream; rw [List.filter_append, List.filter_cons_of_pos (by simpa using hs)])
  rw [e2, cnt, List.getElem?_append_right (Nat.le_refl _), Nat.sub_self]; rfl
theorem cnt_lt {H : List Msg} {k : Nat} (hk : k < H.length) {st : Int} (hs : H[k].1 = st) : cnt st H k < (ofStream st H).length := by
  have := stream_get hk hs
  exact (List.getElem?_eq_some_iff.1 this).1
theorem cnt_slt {H : List Msg} {j k : Nat} (hj : j < H.length) (hjk : j < k) : cnt H[j].1 H j < cnt H[j].1 H k := by
  have h1 := cnt_succ hj H[j].1
  rw [if_pos rfl] at h1
  have h2 : cnt H[j].1 H (j + 1) ≤ cnt H[j].1 H k := cnt_mono (by omega)
  omega
theorem cnt_inj {H : List Msg} {j k : Nat} (hj : j < H.length) (hk : k < H.length) (hs : H[j].1 = H[k].1) (h : cnt H[j].1 H j = cnt H[k].1 H k) : j = k := by
  rcases Nat.lt_trichotomy j k with h1 | h1 | h1
  · have := cnt_slt hj h1
    rw [hs] at h this; omega
  · exact h1
  · have := cnt_slt hk h1
    rw [hs] at h; omega
theorem cnt_app {st : Int} {H L : List Msg} {k : Nat} (hk : k ≤ H.length) : cnt st (H ++ L) k = cnt st H k := by
  unfold cnt; rw [List.take_append_of_le_length hk]
theorem chk_eq {H : List Msg} {k : Nat} (hk : k < H.length) : chk H k = ⟨1, k, H[k].1, cnt H[k].1 H k, H[k].2, []⟩ := by
  have e : H.getD k (0, []) = H[k] := by simp [List.getD, List.getElem?_eq_getElem hk]
  unfold chk; rw [e]
theorem chk_num (H : List Msg) (k : Nat) : (chk H k).num = k := rfl
theorem chk_kind (H : List Msg) (k : Nat) : (chk H k).kind = 1 := rfl
theorem chk_app {H L : List Msg} {k : Nat} (hk : k < H.length) : chk (H ++ L) k = chk H k := by
  rw [chk_eq hk, chk_eq (show k < (H ++ L).length by rw [List.length_append]; omega)]
  have e1 : (H ++ L)[k]'(by rw [List.length_append]; omega) = H[k] := List.getElem_append_left hk
  rw [e1, cnt_app (by omega)]
theorem chk_right {H : List Msg} (h : HOk H) {k : Nat} (hk : k < H.length) : wrong (chk H k) = 0 := by
  have h1 := h.len
  have h2 := h.right _ (List.getElem_mem hk)
  have h3 := cnt_le H[k].1 H k
  rw [chk_eq hk]; unfold wrong
  rw [if_neg (by simp), if_neg (by simp only; omega), if_pos rfl, if_neg (by simp only; omega), if_neg (by simp)]
  exact h2
theorem get_bump (p : Places) {s t : Int} (hs : s = 0 ∨ s = 1 ∨ s = 2) (ht : t = 0 ∨ t = 1 ∨ t = 2) : (p.bump s).get t = if t = s then p.get t + 1 else p.get t := by
  rcases hs with rfl | rfl | rfl <;> rcases ht with rfl | rfl | rfl <;> simp [Places.bump, Places.get]

/-! ### What came -/
def got (r : Receiver) (x : Int) : Prop := x < r.next ∨ x ∈ r.early
structure TInv (H : List Msg) (R : Nat → Prop) (s : Tale) : Prop where
  hold : ∀ c ∈ s.1, ∃ k, ∃ hk : k < H.length, c = chk H k ∧ R k ∧ s.2.1.get H[k].1 ≤ cnt H[k].1 H k
  nd : s.1.Pairwise (· ≠ ·)
  rc : ∀ k (hk : k < H.length), (cnt H[k].1 H k : Int) < s.2.1.get H[k].1 → R k
  all : ∀ k (hk : k < H.length), R k → (cnt H[k].1 H k : Int) < s.2.1.get H[k].1 ∨ chk H k ∈ s.1
  tl : ∀ st, (st = 0 ∨ st = 1 ∨ st = 2) → 0 ≤ s.2.1.get st ∧ s.2.1.get st ≤ (ofStream st H).length ∧ ofStream st s.2.2 = (ofStream st H).take (s.2.1.get st).toNat
theorem tinv_step {H : List Msg} {R : Nat → Prop} (hH : HOk H) {s t : Tale} (h : TInv H R s) (ht : tell1 s = some t) : TInv H R t := by
  obtain ⟨i, hi, hr, rfl⟩ := tell1_some ht
  obtain ⟨k, hk, hc, hRk, hlo⟩ := h.hold _ (List.getElem_mem hi)
  have hst : (s.1[i]).stream = H[k].1 := by rw [hc, chk_eq hk]
  have hda : (s.1[i]).data = H[k].2 := by rw [hc, chk_eq hk]
  have hpl : (s.1[i]).place = (cnt H[k].1 H k : Int) := by rw [hc, chk_eq hk]
  have hr' : (cnt H[k].1 H k : Int) = s.2.1.get H[k].1 := by
    have : (s.1[i]).place = s.2.1.get (s.1[i]).stream := by simpa [readyB] using hr
    rw [hpl, hst] at this; exact this
  have hs3 := hH.st hk
  have hlt := cnt_lt hk rfl
  refine ⟨fun c hc' => ?_, h.nd.sublist (List.eraseIdx_sublist _ _), fun j hj hlt2 => ?_, fun j hj hR => ?_, fun st h3 => ?_⟩
  · obtain ⟨q, hq, hqi, hqx⟩ := List.mem_eraseIdx_iff_getElem.1 hc'
    obtain ⟨j, hj, e, hRj, hlj⟩ := h.hold c (hqx ▸ List.getElem_mem hq)
    refine ⟨j, hj, e, hRj, ?_⟩
    have hj3 := hH.st hj
    simp only [hst]
    rw [get_bump _ hs3 hj3]
    split
    · rename_i hjk
      have hne : j ≠ k := by
        intro ejk
        subst ejk
        have e3 : s.1[q] = s.1[i] := by rw [hqx, e, hc]
        rcases Nat.lt_or_gt_of_ne hqi with h5 | h5
        · exact List.pairwise_iff_getElem.1 h.nd q i hq hi h5 e3
        · exact List.pairwise_iff_getElem.1 h.nd i q hi hq h5 e3.symm
      have hne2 : cnt H[j].1 H j ≠ cnt H[k].1 H k := fun e4 => hne (cnt_inj hj hk hjk e4)
      rw [hjk] at hlj hne2 ⊢
      omega
    · exact hlj
  · have hj3 := hH.st hj
    simp only [hst] at hlt2
    rw [get_bump _ hs3 hj3] at hlt2
    split at hlt2
    · rename_i hjk
      by_cases h5 : (cnt H[j].1 H j : Int) < s.2.1.get H[j].1
      · exact h.rc j hj h5
      · have e4 : cnt H[j].1 H j = cnt H[k].1 H k := by
          rw [hjk] at h5 hlt2 ⊢
          omega
        have := cnt_inj hj hk hjk e4
        subst this
        exact hRk
    · exact h.rc j hj hlt2
  · have hj3 := hH.st hj
    simp only [hst]
    rw [get_bump _ hs3 hj3]
    rcases h.all j hj hR with h1 | h1
    · left; split <;> omega
    · by_cases he : chk H j = s.1[i]
      · left
        rw [hc] at he
        have e1 : (j : Int) = k := by rw [← chk_num H j, he, chk_num]
        have e2 : j = k := by omega
        subst e2
        rw [if_pos rfl]; omega
      · right
        obtain ⟨q, hq, hqx⟩ := List.mem_iff_getElem.1 h1
        refine List.mem_eraseIdx_iff_getElem.2 ⟨q, hq, ?_, hqx⟩
        intro e; subst e; exact he hqx.symm
  · obtain ⟨a1, a2, a3⟩ := h.tl st h3
    simp only [hst, hda]
    rw [get_bump _ hs3 h3]
    by_cases e : st = H[k].1
    · subst e
      rw [if_pos rfl]
      have ec : (s.2.1.get H[k].1).toNat = cnt H[k].1 H k := by omega
      refine ⟨by omega, by omega, ?_⟩
      have e5 : (s.2.1.get H[k].1 + 1).toNat = cnt H[k].1 H k + 1 := by omega
      rw [e5, List.take_add_one, stream_get hk rfl]
      unfold ofStream at a3 ⊢
      rw [List.filter_append, a3, ec]
      simp
    · rw [if_neg e]
      refine ⟨a1, a2, ?_⟩
      unfold ofStream at a3 ⊢
      rw [List.filter_append, a3]
      have : ¬ H[k].1 = st := fun h => e h.symm
      simp [this]
structure ROk (H : List Msg) (r : Receiver) : Prop where
  inv : RInv r
  lt : ∀ x : Int, 0 ≤ x → got r x → x < H.length
  tale : TInv H (fun k => got r k) (r.hold, r.places, r.told)
  no : tell1 (r.hold, r.places, r.told) = none
theorem rok0 (H : List Msg) : ROk H receiver0 := by
  have hg : ∀ x : Int, 0 ≤ x → ¬ got receiver0 x := by
    rintro x hx (h | h)
    · simp only [receiver0] at h; omega
    · simp [receiver0] at h
  refine ⟨rinv0, fun x hx h => absurd h (hg x hx), ⟨by simp [receiver0], List.Pairwise.nil, fun k hk h => ?_, fun k _ h => absurd h (hg k (by omega)), fun st h3 => ?_⟩, rfl⟩
  · have : places0.get H[k].1 = 0 := by unfold Places.get; simp [places0]
    rw [show (receiver0.hold, receiver0.places, receiver0.told).2.1 = places0 from rfl, this] at h
    omega
  have : places0.get st = 0 := by rcases h3 with rfl | rfl | rfl <;> rfl
  show 0 ≤ places0.get st ∧ places0.get st ≤ ((ofStream st H).length : Int) ∧ ofStream st [] = (ofStream st H).take (places0.get st).toNat
  rw [this]
  exact ⟨Int.le_refl _, by omega, by simp [ofStream]⟩
theorem ofStream_app (st : Int) (H L : List Msg) : ofStream st (H ++ L) = ofStream st H ++ ofStream st L := by unfold ofStream; rw [List.filter_append]
theorem rok_app {H : List Msg} {r : Receiver} (h : ROk H r) (L : List Msg) (hL : HOk (H ++ L)) : ROk (H ++ L) r := by
  refine ⟨h.inv, fun x hx hg => by have := h.lt x hx hg; rw [List.length_append]; omega, ⟨fun c hc => ?_, h.tale.nd, fun k hk hlt => ?_, fun k hk hg => ?_, fun st h3 => ?_⟩, h.no⟩
  · obtain ⟨k, hk, e, hg, hl⟩ := h.tale.hold c hc
    have e1 : (H ++ L)[k]'(by rw [List.length_append]; omega) = H[k] := List.getElem_append_left hk
    exact ⟨k, by rw [List.length_append]; omega, by rw [chk_app hk]; exact e, hg, by rw [e1, cnt_app (by omega)]; exact hl⟩
  · by_cases hk' : k < H.length
    · have e1 : (H ++ L)[k] = H[k] := List.getElem_append_left hk'
      rw [e1, cnt_app (by omega)] at hlt
      exact h.tale.rc k hk' hlt
    · exfalso
      have h5 : cnt (H ++ L)[k].1 (H ++ L) H.length ≤ cnt (H ++ L)[k].1 (H ++ L) k := cnt_mono (by omega)
      rw [cnt_app (Nat.le_refl _)] at h5
      have h6 : cnt (H ++ L)[k].1 H H.length = (ofStream (H ++ L)[k].1 H).length := by unfold cnt; rw [List.take_length]
      have h8 : r.places.get (H ++ L)[k].1 ≤ (ofStream (H ++ L)[k].1 H).length := (h.tale.tl _ (hL.st hk)).2.1
      have hlt' : (cnt (H ++ L)[k].1 (H ++ L) k : Int) < r.places.get (H ++ L)[k].1 := hlt
      omega
  · have hk' : k < H.length := by have := h.lt k (by omega) hg; omega
    have e1 : (H ++ L)[k] = H[k] := List.getElem_append_left hk'
    rw [e1, chk_app hk', cnt_app (by omega)]
    exact h.tale.all k hk' hg
  · obtain ⟨a1, a2, a3⟩ := h.tale.tl st h3
    refine ⟨a1, by rw [ofStream_app, List.length_append]; omega, ?_⟩
    rw [ofStream_app, List.take_append_of_le_length (by omega)]
    exact a3
theorem got_takes {r : Receiver} (hr : RInv r) {c : Chunk} (hc : wrong c = 0) (hk : c.kind = 1) (hn : ¬ refuses r c.num) (x : Int) : got (takes r c) x ↔ got r x ∨ x = c.num := by
  unfold refuses at hn
  have hm := MChunk.num ⟨hk, hc⟩
  have hne : c.num ∉ r.early := fun e => hn (.inr (.inl e))
  have hge : r.next ≤ c.num := by
    by_cases hx : c.num < r.next
    · exact absurd (.inl hx) hn
    · omega
  obtain ⟨g1, g2, g3, g4, g5, g6, g7⟩ := strip_spec (l := insertS c.num r.early) (x := r.next) (insertS_sorted hr.s hne) (fun y hy => by
    rcases insertS_mem.1 hy with rfl | hy
    · exact ⟨hge, by omega⟩
    · have := hr.e y hy; omega) hr.n.2
  show (x < (strip (insertS c.num r.early) r.next).2 ∨ x ∈ (strip (insertS c.num r.early) r.next).1) ↔ (x < r.next ∨ x ∈ r.early) ∨ x = c.num
  by_cases hx : x < r.next
  · exact ⟨fun _ => .inl (.inl hx), fun _ => .inl (by omega)⟩
  · have := g7 x
    rw [insertS_mem] at this
    constructor
    · rintro (h | h)
      · rcases this.1 (.inl ⟨by omega, h⟩) with e | e
        · exact .inr e
        · exact .inl (.inr e)
      · rcases this.1 (.inr h) with e | e
        · exact .inr e
        · exact .inl (.inr e)
    · intro h
      have : x = c.num ∨ x ∈ r.early := by
        rcases h with (h | h) | h
        · omega
        · exact .inr h
        · exact .inl h
      rcases (g7 x).2 (insertS_mem.2 this) with h | h
      · exact .inl h.2
      · exact .inr h
theorem got_hear {r : Receiver} (hr : RInv r) {c : Chunk} (hc : wrong c = 0) {x : Int} : (got r x → got (rhear r c) x) ∧ (got (rhear r c) x → got r x ∨ (x = c.num ∧ c.kind = 1)) := by
  unfold rhear
  split
  · exact ⟨id, .inl⟩
  · rename_i hk
    have hk : c.kind = 1 := Decidable.of_not_not hk
    split
    · exact ⟨id, .inl⟩
    · rename_i hn
      have := got_takes hr hc hk hn x
      exact ⟨fun h => this.2 (.inl h), fun h => (this.1 h).imp id fun e => ⟨e, hk⟩⟩
theorem rok_hear {H : List Msg} (hH : HOk H) {r : Receiver} (h : ROk H r) {k : Nat} (hk : k < H.length) : ROk H (rhear r (chk H k)) := by
  have hc := chk_right hH hk
  have hi := rinv_hear h.inv hc
  suffices hh : (∀ x : Int, 0 ≤ x → got (rhear r (chk H k)) x → x < H.length) ∧ TInv H (fun j => got (rhear r (chk H k)) j) ((rhear r (chk H k)).hold, (rhear r (chk H k)).places, (rhear r (chk H k)).told) ∧ tell1 ((rhear r (chk H k)).hold, (rhear r (chk H k)).places, (rhear r (chk H k)).told) = none from ⟨hi, hh.1, hh.2.1, hh.2.2⟩
  refine ⟨fun x hx hg => ?_, ?_⟩
  · rcases (got_hear h.inv hc).2 hg with h1 | ⟨h1, _⟩
    · exact h.lt x hx h1
    · rw [h1, chk_num]; omega
  · unfold rhear
    rw [if_neg (by rw [chk_kind]; decide)]
    split
    · exact ⟨⟨h.tale.hold, h.tale.nd, h.tale.rc, h.tale.all, h.tale.tl⟩, h.no⟩
    · rename_i hn
      have hg := got_takes h.inv hc (chk_kind H k) hn
      have h0 : TInv H (fun j => got (takes r (chk H k)) j) (r.hold ++ [chk H k], r.places, r.told) := by
        have hnk : ¬ got r k := fun e => hn (e.elim .inl fun e => .inr (.inl e))
        refine ⟨fun c hc' => ?_, ?_, fun j hj hlt => (hg _).2 (.inl (h.tale.rc j hj hlt)), fun j hj hR => ?_, h.tale.tl⟩
        · rcases List.mem_append.1 hc' with h1 | h1
          · obtain ⟨j, hj, e, hR, hl⟩ := h.tale.hold c h1
            exact ⟨j, hj, e, (hg _).2 (.inl hR), hl⟩
          · refine ⟨k, hk, List.mem_singleton.1 h1, (hg _).2 (.inr rfl), ?_⟩
            by_cases hx : (cnt H[k].1 H k : Int) < r.places.get H[k].1
            · exact absurd (h.tale.rc k hk hx) hnk
            · show r.places.get H[k].1 ≤ _
              omega
        · refine List.pairwise_append.2 ⟨h.tale.nd, List.pairwise_singleton _ _, fun a ha b hb => ?_⟩
          rw [List.mem_singleton.1 hb]
          rintro rfl
          obtain ⟨j, hj, e, hR, hl⟩ := h.tale.hold _ ha
          have e1 : (k : Int) = j := by rw [← chk_num H k, e, chk_num]
          exact hnk (by rw [e1]; exact hR)
        · rcases (hg _).1 hR with h1 | h1
          · rcases h.tale.all j hj h1 with h2 | h2
            · exact .inl h2
            · exact .inr (List.mem_append_left _ h2)
          · rw [chk_num] at h1
            have : j = k := by omega
            subst this
            exact .inr (List.mem_append_right _ (List.mem_singleton.2 rfl))
      obtain ⟨h1, h2⟩ := tellAll_ind (P := TInv H (fun j => got (takes r (chk H k)) j)) (fun s t => tinv_step hH) _ _ rfl h0
      exact ⟨⟨h1.hold, h1.nd, h1.rc, h1.all, h1.tl⟩, h2⟩
theorem rok_say {H : List Msg} {r : Receiver} (h : ROk H r) : ROk H (rsay r).1 ∧ ∀ x, got (rsay r).1 x ↔ got r x := by
  unfold rsay
  split
  · exact ⟨⟨rinv_say' h.inv, h.lt, ⟨h.tale.hold, h.tale.nd, h.tale.rc, h.tale.all, h.tale.tl⟩, h.no⟩, fun _ => Iff.rfl⟩
  · exact ⟨h, fun _ => Iff.rfl⟩
where rinv_say' {r : Receiver} (h : RInv r) : RInv { r with owes := false } := ⟨h.n, h.s, h.e, h.el, h.t, h.p, h.h⟩
/-- What is told is the beginning of what was put. -/
theorem rok_fits {H : List Msg} {r : Receiver} (h : ROk H r) : fits r.told H = true := by
  apply fitsY
  intro j hj
  obtain ⟨a1, a2, a3⟩ := h.tale.tl (j : Int) (by omega)
  have a3' : ofStream (j : Int) r.told = (ofStream (j : Int) H).take (r.places.get j).toNat := a3
  have a2' : (r.places.get j).toNat ≤ (ofStream (j : Int) H).length := by simp only at a2; omega
  unfold fits1
  rw [a3', List.length_take, Nat.min_eq_left a2']
  simp [a2']
/-- If all came, all is told. -/
theorem rok_all {H : List Msg} (hH : HOk H) {r : Receiver} (h : ROk H r) {n : Nat} (hn : n ≤ H.length) (hlt : ∀ x : Int, 0 ≤ x → got r x → x < n) (hall : ∀ k : Nat, k < n → got r k) :
    r.hold = [] ∧ r.early = [] ∧ r.next = n ∧ r.told.length = n := by
  have hnx : r.next = n := by
    have h1 : ¬ got r r.next := by
      rintro (h1 | h1)
      · omega
      · have := h.inv.e _ h1; omega
    have h2 := h.inv.n
    have h3 : ¬ r.next < n := fun e => h1 (by have := hall r.next.toNat (by omega); rwa [Int.toNat_of_nonneg h2.1] at this)
    have h4 : ¬ n < r.next := fun e => by
      have := hlt n (by omega) (.inl e)
      omega
    omega
  have he : r.early = [] := by
    cases hE : r.early with
    | nil => rfl
    | cons y t =>
      have h1 : y ∈ r.early := by rw [hE]; simp
      have h2 := h.inv.e y h1
      have h3 := h.inv.n
      have := hlt y (by omega) (.inr h1)
      omega
  have hho : r.hold = [] := by
    cases hO : r.hold with
    | nil => rfl
    | cons c t =>
      exfalso
      obtain ⟨k, hk, e, hR, hl⟩ := h.tale.hold c (by show c ∈ r.hold; rw [hO]; simp)
      have hp : r.places.get H[k].1 ≤ cnt H[k].1 H k := hl
      have hp0 : 0 ≤ r.places.get H[k].1 := (h.tale.tl _ (hH.st hk)).1
      have hno : ∀ c ∈ r.hold, readyB r.places c = false := by
        intro c' hc'
        have := h.no
        unfold tell1 at this
        split at this
        · rename_i hf
          have := List.find?_eq_none.1 hf c' hc'
          simpa using this
        · cases this
      have hkn : (k : Int) < n := hlt k (by omega) hR
      have hc1 : (r.places.get H[k].1).toNat < cnt H[k].1 H (k + 1) := by
        have := cnt_succ hk H[k].1
        rw [if_pos rfl] at this
        omega
      obtain ⟨j, hj, hjk, hjs, hjc⟩ := cnt_hit (st := H[k].1) (k := k + 1) (by omega) hc1
      have hRj := hall j (by omega)
      rcases h.tale.all j hj hRj with h5 | h5
      · have h5' : (cnt H[j].1 H j : Int) < r.places.get H[j].1 := h5
        rw [hjs] at h5'; omega
      · have h6 := hno _ h5
        unfold readyB at h6
        rw [chk_eq hj] at h6
        simp only [hjs, hjc] at h6
        have := of_decide_eq_false h6
        omega
  refine ⟨hho, he, hnx, ?_⟩
  have := h.inv.t
  rw [hho, he] at this
  simp at this
  omega

/-! ### Sender, and history -/
structure SHist (H : List Msg) (s : Sender) : Prop where
  inv : SInv s
  len : (H.length : Int) = s.next + s.queue.length
  q : s.queue = H.drop s.next.toNat
  fl : ∀ c ∈ s.flight, ∃ k : Nat, (k : Int) < s.next ∧ c = chk H k
  pl : ∀ st, (st = 0 ∨ st = 1 ∨ st = 2) → s.places.get st = cnt st H s.next.toNat
theorem shist0 : SHist [] sender0 := by
  refine ⟨sinv0, by simp [sender0], by simp [sender0], by simp [sender0], fun st h3 => ?_⟩
  rcases h3 with rfl | rfl | rfl <;> simp [sender0, places0, Places.get, cnt, ofStream]
theorem SHist.hd {H : List Msg} {s : Sender} (h : SHist H s) {m : Msg} {q : List Msg} (hq : s.queue = m :: q) : ∃ hk : s.next.toNat < H.length, H[s.next.toNat] = m ∧ q = H.drop (s.next.toNat + 1) := by
  have h1 := h.len; have h2 := h.inv.n; have h3 := h.q
  rw [hq] at h1 h3
  simp only [List.length_cons] at h1
  have hk : s.next.toNat < H.length := by omega
  rw [List.drop_eq_getElem_cons hk] at h3
  injection h3 with h4 h5
  exact ⟨hk, h4.symm, h5⟩
theorem SHist.new {H : List Msg} {s : Sender} (h : SHist H s) (hH : HOk H) {m : Msg} {q : List Msg} (hq : s.queue = m :: q) : newChunk s m = chk H s.next.toNat := by
  obtain ⟨hk, e, _⟩ := h.hd hq
  rw [chk_eq hk, e]
  have h3 := hH.st hk
  rw [e] at h3
  unfold newChunk
  rw [h.pl _ h3, Int.toNat_of_nonneg h.inv.n]
/-- What is said is a message's chunk. -/
theorem SHist.said {H : List Msg} {s : Sender} (h : SHist H s) (hH : HOk H) (ho : (say s).2.2 = true) : ∃ k : Nat, (k : Int) < (say s).1.next ∧ (say s).2.1 = chk H k := by
  rcases say_is s with ⟨_, _, e⟩ | ⟨m, q, hq, hl, e⟩ | ⟨hl, _, e⟩
  · rw [e] at ho; cases ho
  · rw [e]
    refine ⟨s.next.toNat, ?_, h.new hH hq⟩
    have := h.inv.n
    show _ < s.next + 1
    omega
  · obtain ⟨k, hk, _, e2⟩ := sayOld_get h.inv hl
    rw [e, e2]
    exact h.fl _ (List.getElem_mem hk)
theorem say_next (s : Sender) : s.next ≤ (say s).1.next := by
  rcases say_is s with ⟨_, _, e⟩ | ⟨m, q, hq, hl, e⟩ | ⟨hl, _, e⟩
  · rw [e]; exact Int.le_refl _
  · rw [e]; show s.next ≤ s.next + 1; omega
  · rw [e]; exact Int.le_refl _
theorem shist_say {H : List Msg} {s : Sender} (h : SHist H s) (hH : HOk H) : SHist H (say s).1 ∧ (∀ c ∈ s.flight, c ∈ (say s).1.flight) ∧ ∀ k : Nat, (k : Int) < (say s).1.next → (k : Int) < s.next ∨ chk H k ∈ (say s).1.flight := by
  have hi := sinv_say h.inv
  rcases say_is s with ⟨_, _, e⟩ | ⟨m, q, hq, hl, e⟩ | ⟨hl, _, e⟩
  · rw [e]; exact ⟨h, fun c hc => hc, fun k hk => .inl hk⟩
  · rw [e] at hi ⊢
    obtain ⟨hk, e1, e2⟩ := h.hd hq
    have hn := h.inv.n
    have h1 := h.len
    rw [hq, List.length_cons] at h1
    have e3 : (s.next + 1).toNat = s.next.toNat + 1 := by omega
    have h3 := hH.st hk
    refine ⟨⟨hi, by show _ = s.next + 1 + (q.length : Int); omega, by show q = H.drop (s.next + 1).toNat; rw [e3]; exact e2, fun c hc => ?_, fun st hst => ?_⟩, fun c hc => List.mem_append_left _ hc, fun k hk2 => ?_⟩
    · rcases List.mem_append.1 hc with hc | hc
      · obtain ⟨k, hk1, hk2⟩ := h.fl c hc
        exact ⟨k, by show _ < s.next + 1; omega, hk2⟩
      · exact ⟨s.next.toNat, by show _ < s.next + 1; omega, (List.mem_singleton.1 hc).trans (h.new hH hq)⟩
    · show (s.places.bump m.1).get st = cnt st H (s.next + 1).toNat
      rw [e3, cnt_succ hk, get_bump _ (by rw [← e1]; exact h3) hst, h.pl st hst, e1]
      by_cases hx : st = m.1
      · subst hx; simp
      · rw [if_neg hx, if_neg (fun e => hx e.symm)]; simp
    · have hk3 : (k : Int) < s.next + 1 := hk2
      by_cases hx : (k : Int) < s.next
      · exact .inl hx
      · right
        have : k = s.next.toNat := by omega
        subst this
        show _ ∈ s.flight ++ [newChunk s m]
        rw [← h.new hH hq]; simp
  · rw [e] at hi ⊢
    obtain ⟨k, hk, _, e2⟩ := sayOld_get h.inv hl
    rw [e2] at hi ⊢
    exact ⟨⟨hi, h.len, h.q, h.fl, h.pl⟩, fun c hc => hc, fun k hk => .inl hk⟩
theorem shist_hear {H : List Msg} {s : Sender} (h : SHist H s) (c : Chunk) : SHist H (hear s c) ∧ (hear s c).next = s.next ∧ ∀ x ∈ s.flight, x ∈ (hear s c).flight ∨ (c.kind = 2 ∧ told c x = true) := by
  have hi := sinv_hear h.inv c
  unfold hear at hi ⊢
  split at hi
  · rename_i hk
    rw [if_pos hk]
    exact ⟨h, rfl, fun x hx => .inl hx⟩
  · rename_i hk
    rw [if_neg hk]
    refine ⟨⟨hi, h.len, h.q, fun x hx => h.fl x (List.mem_filter.1 hx).1, h.pl⟩, rfl, fun x hx => ?_⟩
    cases ht : told c x with
    | true => exact .inr ⟨by omega, rfl⟩
    | false => exact .inl (List.mem_filter.2 ⟨hx, by rw [ht]; rfl⟩)
def wouldPut (s : Sender) (m : Msg) : Bool := decide ((put s m).2 = 0)
theorem shist_put {H : List Msg} {s : Sender} (h : SHist H s) (hH : HOk H) (m : Msg) :
    ((put s m).2 ≠ 0 ∧ (put s m).1 = s) ∨ ((put s m).2 = 0 ∧ HOk (H ++ [m]) ∧ SHist (H ++ [m]) (put s m).1 ∧ (put s m).1.next = s.next ∧ (put s m).1.flight = s.flight) := by
  have hi := sinv_put h.inv m
  unfold put at hi ⊢
  by_cases h1 : wrongMsg m ≠ 0
  · rw [if_pos h1]; exact .inl ⟨h1, rfl⟩
  · rw [if_neg h1] at hi ⊢
    by_cases h2 : 5 < s.queue.length
    · rw [if_pos h2]; exact .inl ⟨by simp, rfl⟩
    · rw [if_neg h2] at hi ⊢
      by_cases h3 : 39 < s.next + s.queue.length
      · rw [if_pos h3]; exact .inl ⟨by simp, rfl⟩
      · rw [if_neg h3] at hi ⊢
        have hl := h.len
        have hn := h.inv.n
        refine .inr ⟨rfl, ⟨by rw [List.length_append]; simp; omega, fun x hx => ?_⟩, ⟨hi, ?_, ?_, fun c hc => ?_, fun st hst => ?_⟩, rfl, rfl⟩
        · rcases List.mem_append.1 hx with hx | hx
          · exact hH.right x hx
          · rw [List.mem_singleton.1 hx]; exact Decidable.of_not_not h1
        · simp only [List.length_append, List.length_singleton]; omega
        · show s.queue ++ [m] = (H ++ [m]).drop s.next.toNat
          rw [List.drop_append_of_le_length (by omega), ← h.q]
        · obtain ⟨k, hk, e⟩ := h.fl c hc
          exact ⟨k, hk, by rw [chk_app (by omega)]; exact e⟩
        · show s.places.get st = _
          rw [h.pl st hst]
          show _ = ((cnt st (H ++ [m]) s.next.toNat : Nat) : Int)
          rw [cnt_app (by omega)]

/-! ### Lanes -/
def genuine (H : List Msg) (n : Int) (p : List UInt8) : Prop := ∃ k : Nat, (k : Int) < n ∧ p = bytes (chk H k)
def answer (r : Receiver) (p : List UInt8) : Prop := ∃ c : Chunk, c.kind = 2 ∧ wrong c = 0 ∧ p = bytes c ∧ ∀ x : Int, 0 ≤ x → x < c.num ∨ x ∈ c.early → got r x
structure LInv (sp : Bool) (H : List Msg) (l : Lane) : Prop where
  h : HOk H
  s : SHist H l.s
  r : ROk H l.r
  lt : ∀ x : Int, 0 ≤ x → got l.r x → x < l.s.next
  ack : ∀ k : Nat, (k : Int) < l.s.next → got l.r k ∨ chk H k ∈ l.s.flight
  there : ∀ p ∈ l.there, genuine H l.s.next p ∨ (sp = true ∧ (read p).2 ≠ 0)
  back : ∀ p ∈ l.back, answer l.r p ∨ (sp = true ∧ (read p).2 ≠ 0)
theorem LInv.nl {sp : Bool} {H : List Msg} {l : Lane} (h : LInv sp H l) : l.s.next ≤ H.length := by
  have := h.s.len; omega
theorem linv0 (sp : Bool) : LInv sp [] lane0 := by
  refine ⟨hok0, shist0, rok0 _, fun x hx hg => ?_, fun k hk => ?_, by simp [lane0], by simp [lane0]⟩
  · have := (rok0 []).lt x hx hg
    simp only [lane0, sender0, List.length_nil] at *; omega
  · simp only [lane0, sender0] at hk; omega
theorem LInv.weak {H : List Msg} {l : Lane} (h : LInv false H l) (sp : Bool) : LInv sp H l :=
  ⟨h.h, h.s, h.r, h.lt, h.ack, fun p hp => (h.there p hp).elim .inl fun e => absurd e.1 (by decide), fun p hp => (h.back p hp).elim .inl fun e => absurd e.1 (by decide)⟩
theorem genuine_mono {H : List Msg} {n n' : Int} (hn : n ≤ n') {p : List UInt8} (h : genuine H n p) : genuine H n' p := by
  obtain ⟨k, hk, e⟩ := h; exact ⟨k, by omega, e⟩
theorem answer_mono {r r' : Receiver} (hr : ∀ x : Int, got r x → got r' x) {p : List UInt8} (h : answer r p) : answer r' p := by
  obtain ⟨c, h1, h2, h3, h4⟩ := h; exact ⟨c, h1, h2, h3, fun x hx e => hr x (h4 x hx e)⟩
theorem mem_putP {l : Packets} {b p : List UInt8} (h : p ∈ putP l b) : p ∈ l ∨ p = b := by
  unfold putP at h
  split at h
  · exact .inl h
  · rcases List.mem_append.1 h with h | h
    · exact .inl h
    · exact .inr (List.mem_singleton.1 h)
theorem linv_put {sp : Bool} {H : List Msg} {l : Lane} (h : LInv sp H l) (m : Msg) : LInv sp (if (put l.s m).2 = 0 then H ++ [m] else H) { l with s := (put l.s m).1 } := by
  rcases shist_put h.s h.h m with ⟨h1, h2⟩ | ⟨h1, h2, h3, h4, h5⟩
  · rw [if_neg h1, h2]; exact h
  · rw [if_pos h1]
    have hnl := h.nl
    refine ⟨h2, h3, rok_app h.r _ h2, ?_, ?_, ?_, h.back⟩
    · intro x hx hg; simp only [h4]; exact h.lt x hx hg
    · intro k hk
      simp only [h4] at hk
      simp only [h5]
      rw [chk_app (by omega)]
      exact h.ack k hk
    · intro p hp
      rcases h.there p hp with ⟨k, hk, e⟩ | e
      · exact .inl ⟨k, by simp only [h4]; exact hk, by rw [chk_app (by omega)]; exact e⟩
      · exact .inr e
theorem rising_of : ∀ {l : List Int} {n : Int}, l.Pairwise (· < ·) → (∀ x ∈ l, n < x ∧ x < 40) → rising n l = true
  | [], _, _, _ => rfl
  | a :: t, n, hs, hb => by
    have hs' := List.pairwise_cons.1 hs
    have h1 := hb a (by simp)
    have h2 := rising_of (l := t) (n := a) hs'.2 (fun x hx => ⟨hs'.1 x hx, (hb x (by simp [hx])).2⟩)
    simp [rising, h1.1, h1.2, h2]
theorem ack_right {r : Receiver} (h : RInv r) : wrong ⟨2, r.next, 0, 0, [], r.early⟩ = 0 := by
  have h1 := h.n; have h2 := h.el
  have h3 := rising_of h.s h.e
  unfold wrong
  rw [if_neg (by simp), if_neg (by simp only; omega), if_neg (by simp), if_neg (by simp), if_neg (by simp; omega), if_pos h3]
theorem linv_speak {sp : Bool} {H : List Msg} {l : Lane} (h : LInv sp H l) : LInv sp H (speak l) := by
  obtain ⟨h1, h2, h3⟩ := shist_say h.s h.h
  obtain ⟨h4, h5⟩ := rok_say h.r
  have hn := say_next l.s
  refine ⟨h.h, h1, h4, fun x hx hg => ?_, fun k hk => ?_, fun p hp => ?_, fun p hp => ?_⟩
  · have := h.lt x hx ((h5 x).1 hg)
    show x < (say l.s).1.next
    omega
  · rcases h3 k hk with e | e
    · rcases h.ack k e with e | e
      · exact .inl ((h5 k).2 e)
      · exact .inr (h2 _ e)
    · exact .inr e
  · have hp' : p ∈ (if (say l.s).2.2 then putP l.there (bytes (say l.s).2.1) else l.there) := hp
    split at hp'
    · rename_i ho
      rcases mem_putP hp' with e | e
      · exact (h.there p e).imp (genuine_mono hn) id
      · left
        obtain ⟨k, hk, e2⟩ := h.s.said h.h ho
        exact ⟨k, hk, by rw [e, e2]⟩
    · exact (h.there p hp').imp (genuine_mono hn) id
  · have hp' : p ∈ (if (rsay l.r).2.2 then putP l.back (bytes (rsay l.r).2.1) else l.back) := hp
    have hmono : ∀ x : Int, got l.r x → got (rsay l.r).1 x := fun x e => (h5 x).2 e
    split at hp'
    · rename_i ho
      rcases mem_putP hp' with e | e
      · exact (h.back p e).imp (answer_mono hmono) id
      · left
        have e3 : (rsay l.r).2.1 = ⟨2, l.r.next, 0, 0, [], l.r.early⟩ := by
          unfold rsay at ho ⊢
          split
          · rfl
          · rename_i hx; rw [if_neg hx] at ho; cases ho
        exact ⟨_, rfl, ack_right h.r.inv, by rw [e, e3], fun x hx e4 => hmono x e4⟩
    · exact (h.back p hp').imp (answer_mono hmono) id
theorem linv_with {sp sp' : Bool} {H : List Msg} {l : Lane} (h : LInv sp H l) (hsp : sp = true → sp' = true) (b : Bool) {P : Packets} (hP : ∀ p ∈ P, p ∈ way l b ∨ (sp' = true ∧ (read p).2 ≠ 0)) : LInv sp' H (withP l b P) := by
  have ht : ∀ p ∈ l.there, genuine H l.s.next p ∨ (sp' = true ∧ (read p).2 ≠ 0) := fun p hp => (h.there p hp).imp id fun e => ⟨hsp e.1, e.2⟩
  have hb : ∀ p ∈ l.back, answer l.r p ∨ (sp' = true ∧ (read p).2 ≠ 0) := fun p hp => (h.back p hp).imp id fun e => ⟨hsp e.1, e.2⟩
  cases b with
  | true => exact ⟨h.h, h.s, h.r, h.lt, h.ack, ht, fun p hp => (hP p hp).elim (hb p) .inr⟩
  | false => exact ⟨h.h, h.s, h.r, h.lt, h.ack, fun p hp => (hP p hp).elim (ht p) .inr, hb⟩
theorem getD_mem {P : Packets} {k : Nat} (hk : k < P.length) : P.getD k [] ∈ P := by
  have : P.getD k [] = P[k] := by simp [List.getD, List.getElem?_eq_getElem hk]
  rw [this]; exact List.getElem_mem hk
theorem linv_comes {sp : Bool} {H : List Msg} {l : Lane} (h : LInv sp H l) {k : Nat} {b : Bool} (hk : k < (way l b).length) : LInv sp H (comes l k b) := by
  have hw : LInv sp H (withP l b ((way l b).eraseIdx k)) := linv_with h id b fun p hp => .inl (List.mem_of_mem_eraseIdx hp)
  have hm := getD_mem hk
  unfold comes
  simp only
  split
  · exact hw
  · rename_i hr
    have hr : (read ((way l b).getD k [])).2 = 0 := Decidable.of_not_not hr
    cases b with
    | true =>
      simp only [if_true]
      have hm' : (way l true).getD k [] ∈ l.back := hm
      rcases h.back _ hm' with ⟨c, h1, h2, h3, h4⟩ | e
      · rw [h3, read_bytes h2]
        have hs : (withP l true ((way l true).eraseIdx k)).s = l.s := rfl
        obtain ⟨g1, g2, g3⟩ := shist_hear h.s c
        refine ⟨h.h, g1, h.r, fun x hx hg => ?_, fun j hj => ?_, fun p hp => ?_, hw.back⟩
        · show x < (hear l.s c).next
          rw [g2]; exact h.lt x hx hg
        · have hj' : (j : Int) < l.s.next := by rw [← g2]; exact hj
          rcases h.ack j hj' with e | e
          · exact .inl e
          · rcases g3 _ e with e2 | ⟨_, e2⟩
            · exact .inr e2
            · left
              refine h4 j (by omega) ?_
              unfold told at e2
              rw [chk_num] at e2
              simpa using e2
        · rcases h.there p hp with e | e
          · exact .inl (by show genuine H (hear l.s c).next p; rw [g2]; exact e)
          · exact .inr e
      · exact absurd hr e.2
    | false =>
      simp only [Bool.false_eq_true, if_false]
      have hm' : (way l false).getD k [] ∈ l.there := hm
      rcases h.there _ hm' with ⟨j, hj, h3⟩ | e
      · have hjl : j < H.length := by have := h.nl; omega
        have hc := chk_right h.h hjl
        rw [h3, read_bytes hc]
        have hmono : ∀ x : Int, got l.r x → got (rhear l.r (chk H j)) x := fun x e => (got_hear h.r.inv hc).1 e
        refine ⟨h.h, h.s, rok_hear h.h h.r hjl, fun x hx hg => ?_, fun i hi => ?_, hw.there, fun p hp => ?_⟩
        · rcases (got_hear h.r.inv hc).2 hg with e | ⟨e, _⟩
          · exact h.lt x hx e
          · rw [e, chk_num]; exact hj
        · exact (h.ack i hi).imp (hmono i) id
        · exact (h.back p hp).imp (answer_mono hmono) id
      · exact absurd hr e.2
theorem xor1_ne : ∀ n : Fin 256, n.val ^^^ 1 ≠ n.val := by decide +kernel
theorem flip1_ne (x : UInt8) : x ≠ flip1 x := by
  intro h
  have h2 := congrArg UInt8.toNat h
  unfold flip1 at h2
  rw [UInt8.toNat_xor] at h2
  exact xor1_ne ⟨x.toNat, x.toNat_lt⟩ h2.symm
theorem spoil_bytes {c : Chunk} {i : Nat} (hi : i < (bytes c).length) : read (spoilAt (bytes c) i) = (chunk0, 7) := by
  unfold spoilAt
  have e : (bytes c).getD i 0 = (bytes c)[i] := by simp [List.getD, List.getElem?_eq_getElem hi]
  rw [e]
  exact spoilt hi (flip1_ne _)
theorem mem_set {P : Packets} {k : Nat} {q p : List UInt8} (h : p ∈ P.set k q) : p ∈ P ∨ p = q := List.mem_or_eq_of_mem_set h
theorem linv_packet {sp : Bool} {H : List Msg} {l : Lane} (h : LInv sp H l) (kind n a : Int) (b : Bool) (hs : kind = 6 → sp = false) : LInv (sp || decide (kind = 6)) H (packet l kind n a b).1 := by
  have hself : LInv (sp || decide (kind = 6)) H l := by
    cases sp with
    | true => exact h
    | false => exact h.weak _
  unfold packet
  simp only
  split
  · exact hself
  · rename_i h1
    have hk : n.toNat < (way l b).length := by omega
    split
    · rename_i h2
      exact linv_with hself id b fun p hp => .inl (List.mem_of_mem_eraseIdx hp)
    · split
      · refine linv_with hself id b fun p hp => .inl ?_
        rcases mem_putP hp with e | e
        · exact e
        · rw [e]; exact getD_mem hk
      · split
        · rename_i h6
          split
          · exact hself
          · rename_i h7
            have hsp := hs h6
            subst hsp
            refine linv_with h (by intro e; cases e) b fun p hp => ?_
            rcases mem_set hp with e | e
            · exact .inl e
            · right
              refine ⟨by simp [h6], ?_⟩
              have hm := getD_mem hk
              have hx : ∃ c, (way l b).getD n.toNat [] = bytes c := by
                cases b with
                | true =>
                  rcases h.back _ hm with ⟨c, _, _, e3, _⟩ | e3
                  · exact ⟨c, e3⟩
                  · exact absurd e3.1 (by decide)
                | false =>
                  rcases h.there _ hm with ⟨k, _, e3⟩ | e3
                  · exact ⟨_, e3⟩
                  · exact absurd e3.1 (by decide)
              obtain ⟨c, e3⟩ := hx
              rw [e3] at h7
              rw [e, e3, spoil_bytes (by omega)]
              decide
        · have := linv_comes hself (k := n.toNat) (b := b) hk
          exact this
/-- A step of a tenant's own. -/
theorem linv_step {sp : Bool} {H : List Msg} {l : Lane} (h : LInv sp H l) (s : Step) (hs : s.kind = 6 → sp = false) :
    LInv (sp || decide (s.kind = 6)) (if s.kind = 2 ∧ (stepLane l s).2 = 0 then H ++ [s.msg] else H) (stepLane l s).1 := by
  unfold stepLane
  by_cases h2 : s.kind = 2
  · rw [if_pos h2]
    have e : (sp || decide (s.kind = 6)) = sp := by rw [decide_eq_false (by omega)]; simp
    rw [e]
    have := linv_put h s.msg
    simpa [h2] using this
  · rw [if_neg h2, if_neg (fun e => h2 e.1)]
    exact linv_packet h s.kind s.n s.m s.back hs
/-- What is told fits what was put. -/
theorem linv_fits {sp : Bool} {H : List Msg} {l : Lane} (h : LInv sp H l) : fits l.r.told H = true := rok_fits h.r
theorem linv_told {sp : Bool} {H : List Msg} {l : Lane} (h : LInv sp H l) : (l.r.told.length : Int) ≤ l.s.next := by
  have h1 := h.r.inv.t
  have h2 := h.r.inv.n
  have h3 : l.r.next ≤ l.s.next := by
    by_cases e : l.s.next < l.r.next
    · have := h.lt (l.r.next - 1) (by have := h.s.inv.n; omega) (.inl (by omega)); omega
    · omega
  cases he : l.r.early with
  | nil => rw [he] at h1; simp at h1; omega
  | cons y t =>
    have hb := h.r.inv.e y (by rw [he]; simp)
    have hy := h.lt y (by omega) (.inr (by rw [he]; simp))
    have := sorted_len (l := l.r.early) (a := l.r.next) (b := l.s.next) h.r.inv.s (fun z hz => ⟨(h.r.inv.e z hz).1, h.lt z (by have := (h.r.inv.e z hz).1; omega) (.inr hz)⟩) (by omega)
    omega
/-- Who is idle knows it. -/
theorem linv_idle {sp : Bool} {H : List Msg} {l : Lane} (h : LInv sp H l) (hi : idleB l = true) : (l.r.told.length : Int) = l.s.next ∧ l.r.told.length = H.length := by
  unfold idleB at hi
  simp only [Bool.and_eq_true, decide_eq_true_eq] at hi
  have h0 := h.s.inv.n
  have hl := h.s.len
  rw [hi.1] at hl
  simp only [List.length_nil] at hl
  have := rok_all h.h h.r (n := H.length) (Nat.le_refl _) (fun x hx hg => by have := h.lt x hx hg; omega) (fun k hk => by
    rcases h.ack k (by omega) with e | e
    · exact e
    · rw [hi.2] at e; simp at e)
  omega
end Go.Proofs.Ytaadloihphpdbaa
