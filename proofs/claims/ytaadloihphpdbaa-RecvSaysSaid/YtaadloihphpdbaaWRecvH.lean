/- What the laws of chapter 6 need. Printed by a small program (walk.py). -/
import Derived.Test.YtaadloihphpdbaaWRecv3
import Derived.Test.YtaadloihphpdbaaWSendH
import Derived.Test.YtaadloihphpdbaaPLane
set_option linter.unusedVariables false
set_option linter.unusedSimpArgs false
set_option maxRecDepth 4000
namespace Go.Proofs.Ytaadloihphpdbaa
open Go Go.Vc Go.RowKit
theorem sub3 {ob : List (Nat × AO)} {k0 k1 k2 : Nat} {o0 o1 o2 : AO} (h : Vc.look ob k0 = some o0) (h1 : Vc.look ob k1 = some o1) (h2 : Vc.look ob k2 = some o2) : ∀ k o, Vc.look [(k0, o0), (k1, o1), (k2, o2)] k = some o → Vc.look ob k = some o := by
  intro k o hk
  rw [look_cons] at hk
  by_cases he : k0 = k
  · rw [if_pos he] at hk; cases hk; subst he; exact h
  · rw [if_neg he] at hk; exact sub2 h1 h2 k o hk
def rightC (c : Chunk) : Bool := decide (wrong c = 0)
def buildR (cs : List Chunk) : Receiver := (cs.takeWhile rightC).foldl rhear receiver0
theorem rinv_fold : ∀ (l : List Chunk) {r : Receiver}, RInv r → (∀ c ∈ l, wrong c = 0) → RInv (l.foldl rhear r)
  | [], r, h, _ => h
  | c :: l, r, h, hl => rinv_fold l (rinv_hear h (hl c (by simp))) fun x hx => hl x (List.mem_cons_of_mem _ hx)
theorem tw_all {p : Chunk → Bool} : ∀ (l : List Chunk), ∀ c ∈ l.takeWhile p, p c = true
  | [], c, h => by simp at h
  | a :: l, c, h => by
    cases ha : p a with
    | true =>
      rw [List.takeWhile_cons_of_pos ha] at h
      rcases List.mem_cons.1 h with e | e
      · rw [e]; exact ha
      · exact tw_all l c e
    | false => rw [List.takeWhile_cons_of_neg (by rw [ha]; decide)] at h; simp at h
theorem rinv_buildR (cs : List Chunk) : RInv (buildR cs) := rinv_fold _ rinv0 fun c hc => of_decide_eq_true (tw_all cs c hc)
theorem rinv_take {cs : List Chunk} {i : Nat} (h : (cs.take i).all rightC = true) : RInv ((cs.take i).foldl rhear receiver0) := rinv_fold _ rinv0 fun c hc => of_decide_eq_true (List.all_eq_true.1 h c hc)
theorem tw_stop {p : Chunk → Bool} : ∀ {l : List Chunk} {i : Nat} {x : Chunk}, (l.take i).all p = true → l[i]? = some x → p x = false → l.takeWhile p = l.take i
  | [], i, x, _, hx, _ => by simp at hx
  | a :: l, 0, x, _, hx, hp => by
    simp at hx; subst hx
    rw [List.takeWhile_cons_of_neg (by rw [hp]; decide)]; rfl
  | a :: l, i + 1, x, h, hx, hp => by
    rw [List.take_succ_cons, List.all_cons, Bool.and_eq_true] at h
    rw [List.takeWhile_cons_of_pos h.1, tw_stop h.2 (by simpa using hx) hp]; rfl
theorem tw_end {p : Chunk → Bool} : ∀ {l : List Chunk}, l.all p = true → l.takeWhile p = l
  | [], _ => rfl
  | a :: l, h => by
    rw [List.all_cons, Bool.and_eq_true] at h
    rw [List.takeWhile_cons_of_pos h.1, tw_end h.2]
theorem buildR_stop {cs : List Chunk} {i : Nat} {x : Chunk} (h : (cs.take i).all rightC = true) (hx : cs[i]? = some x) (hp : wrong x ≠ 0) : (cs.take i).foldl rhear receiver0 = buildR cs ∧ cs.all rightC = false := by
  have hp' : rightC x = false := decide_eq_false hp
  unfold buildR
  rw [tw_stop h hx hp']
  refine ⟨rfl, ?_⟩
  cases ha : cs.all rightC with
  | false => rfl
  | true => rw [List.all_eq_true.1 ha x (List.mem_of_getElem? hx)] at hp'; cases hp'
theorem buildR_end {cs : List Chunk} {i : Nat} (h : (cs.take i).all rightC = true) (hi : cs.length ≤ i) : (cs.take i).foldl rhear receiver0 = buildR cs ∧ cs.all rightC = true := by
  rw [List.take_of_length_le hi] at h ⊢
  unfold buildR; rw [tw_end h]; exact ⟨rfl, h⟩
theorem fold_snoc {cs : List Chunk} {i : Nat} {x : Chunk} (hx : cs[i]? = some x) : rhear ((cs.take i).foldl rhear receiver0) x = (cs.take (i + 1)).foldl rhear receiver0 := by
  rw [List.take_add_one, hx, List.foldl_append]; rfl
theorem all_snoc {cs : List Chunk} {i : Nat} {x : Chunk} (h : (cs.take i).all rightC = true) (hx : cs[i]? = some x) (hp : ¬ wrong x ≠ 0) : (cs.take (i + 1)).all rightC = true := by
  rw [List.take_add_one, hx, List.all_append, h]
  simp [rightC]; omega
/-- Twice is once. -/
theorem rhear_twice {r : Receiver} (hr : RInv r) {c : Chunk} (hc : wrong c = 0) : rhear (rhear r c) c = rhear r c := by
  by_cases hk : c.kind ≠ 1
  · rw [rhear_kind hk, rhear_kind hk]
  · have hk : c.kind = 1 := Decidable.of_not_not hk
    by_cases h : refuses r c.num
    · rw [rhear_ref hk h, rhear_ref hk (show refuses { r with owes := true } c.num from h)]
    · have e : rhear r c = takes r c := by unfold rhear; rw [if_neg (by omega), if_neg h]
      have hg : refuses (takes r c) c.num := by
        rcases (got_takes hr hc hk h c.num).2 (.inr rfl) with e | e
        · exact .inl e
        · exact .inr (.inl e)
      rw [e, rhear_ref hk hg]; rfl
/-! Chunks of messages, in whatever order. -/
def csOf (ms : List Msg) (n : Nat) : List Chunk := (List.range n).map (chk ms)
theorem csOf_succ (ms : List Msg) (n : Nat) : csOf ms (n + 1) = csOf ms n ++ [chk ms n] := by unfold csOf; rw [List.range_succ, List.map_append]; rfl
theorem csOf_len (ms : List Msg) (n : Nat) : (csOf ms n).length = n := by simp [csOf]
theorem csOf_get {ms : List Msg} {n k : Nat} (h : k < n) : (csOf ms n)[k]? = some (chk ms k) := by simp [csOf, h]
structure Sent (ms : List Msg) (i : Nat) (s : Sender) : Prop where
  h : HOk (ms.take i)
  sh : SHist (ms.take i) s
  q : s.queue = []
  f : s.flight.length = i
theorem sent0 (ms : List Msg) : Sent ms 0 sender0 := ⟨by simpa using hok0, by simpa using shist0, rfl, rfl⟩
theorem Sent.next {ms : List Msg} {i : Nat} {s : Sender} (h : Sent ms i s) {m : Msg} (hm : ms[i]? = some m) (h4 : i < 4) (hp : ¬ (put s m).2 ≠ 0) : Sent ms (i + 1) (say (put s m).1).1 ∧ (say (put s m).1).2.1 = chk ms i := by
  have hil : i < ms.length := (List.getElem?_eq_some_iff.1 hm).1
  have e : ms.take (i + 1) = ms.take i ++ [m] := by rw [List.take_add_one, hm]; rfl
  rcases shist_put h.sh h.h m with ⟨h1, _⟩ | ⟨_, h2, h3, h5, h6⟩
  · exact absurd h1 hp
  · rw [← e] at h2 h3
    have hq : (put s m).1.queue = [m] := by
      have h7 := h3.q
      have h8 := h.sh.len
      have h9 := h.sh.inv.n
      rw [h.q] at h8
      simp only [List.length_take, List.length_nil] at h8
      rw [h7, h5, e, List.drop_append_of_le_length (by rw [List.length_take]; omega), List.drop_of_length_le (by rw [List.length_take]; omega)]; rfl
    have hn : (put s m).1.next = i := by
      have h8 := h.sh.len
      rw [h.q] at h8
      simp only [List.length_take, List.length_nil] at h8
      rw [h5]; omega
    have hl : (put s m).1.flight.length < 4 := by rw [h6, h.f]; exact h4
    have hs := say_is (put s m).1
    have e3 : say (put s m).1 = sayNew (put s m).1 m [] := by
      rcases hs with ⟨e1, _, _⟩ | ⟨m', q, e1, _, e2⟩ | ⟨_, e1, _⟩
      · rw [hq] at e1; cases e1
      · rw [hq] at e1; cases e1; exact e2
      · exact absurd hl (e1 (by rw [hq]; simp))
    have h10 := shist_say h3 h2
    have h11 := h3.new h2 hq
    refine ⟨⟨h2, h10.1, by rw [e3]; rfl, by rw [e3]; simp [sayNew, h6, h.f]⟩, ?_⟩
    rw [e3]
    show newChunk _ m = _
    rw [h11, hn]
    have e4 : ms = ms.take (i + 1) ++ ms.drop (i + 1) := by simp
    have e5 : chk ms i = chk (ms.take (i + 1)) i := (congrArg (fun l => chk l i) e4).trans (chk_app (by rw [List.length_take]; omega))
    rw [e5]; rfl
theorem got_all {ms : List Msg} (hH : HOk ms) {r : Receiver} (h : ROk ms r) (hall : ∀ k : Nat, k < ms.length → got r k) : r.told.length = ms.length ∧ r.next = ms.length ∧ r.early = [] ∧ r.hold = [] := by
  have := rok_all hH h (n := ms.length) (Nat.le_refl _) h.lt hall
  exact ⟨this.2.2.2, this.2.2.1, this.2.1, this.1⟩
theorem room_or {r : Receiver} (hr : RInv r) {ms : List Msg} (h : ROk ms r) (h4 : ms.length ≤ 4) {k : Nat} (hk : k < ms.length) (hH : HOk ms) : got (rhear r (chk ms k)) k := by
  by_cases hg : got r k
  · exact (got_hear hr (chk_right hH hk)).1 hg
  · have hn : ¬ refuses r (chk ms k).num := by
      rw [chk_num]
      rintro (e | e | ⟨e1, e2⟩)
      · exact hg (.inl e)
      · exact hg (.inr e)
      · -- three above the next one, and this one: there are not so many
        have h1 := hr.n
        have h2 := sorted_len (l := r.early) (a := r.next) (b := ms.length) hr.s (fun y hy => ⟨(hr.e y hy).1, h.lt y (by have := (hr.e y hy).1; omega) (.inr hy)⟩) (by omega)
        have h3 := insertS_sorted (n := (k : Int)) hr.s (fun e => hg (.inr e))
        have h5 := sorted_len (l := insertS (k : Int) r.early) (a := r.next) (b := ms.length) h3 (fun y hy => by
          rcases insertS_mem.1 hy with e | e
          · omega
          · exact ⟨(hr.e y e).1, h.lt y (by have := (hr.e y e).1; omega) (.inr e)⟩) (by omega)
        rw [insertS_length] at h5
        omega
    have e : rhear r (chk ms k) = takes r (chk ms k) := by unfold rhear; rw [if_neg (by rw [chk_kind]; decide), if_neg hn]
    rw [e]
    exact (got_takes hr (chk_right hH hk) (chk_kind _ _) hn k).2 (.inr rfl)

end Go.Proofs.Ytaadloihphpdbaa
