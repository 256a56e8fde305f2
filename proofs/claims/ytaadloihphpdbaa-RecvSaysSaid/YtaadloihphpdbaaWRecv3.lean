/- Walk of what the document's answer does when a receiver hears: with a map. Printed by a small program (walk.py). -/
import Derived.Test.YtaadloihphpdbaaWRecv2
set_option linter.unusedVariables false
set_option linter.unusedSimpArgs false
set_option maxRecDepth 4000
namespace Go.Proofs.Ytaadloihphpdbaa
open Go Go.Vc Go.RowKit
/-- The numbers that came, as a set S, and what of them is not stripped yet. -/
def Covers (S l : List Int) (x : Int) : Prop := l.Pairwise (· < ·) ∧ (∀ y ∈ l, x ≤ y ∧ y < 40) ∧ ∀ y, x ≤ y → (y ∈ S ↔ y ∈ l)
theorem covers0 {r : Receiver} (hr : RInv r) {c : Chunk} (hc : wrong c = 0) (hk : c.kind = 1) (hne : c.num ∉ r.early) (hge : r.next ≤ c.num) : Covers ([c.num] ++ r.early) (insertS c.num r.early) r.next := by
  have hm := MChunk.num ⟨hk, hc⟩
  refine ⟨insertS_sorted hr.s hne, fun y hy => ?_, fun y _ => ?_⟩
  · rcases insertS_mem.1 hy with rfl | hy
    · omega
    · have := hr.e y hy; omega
  · rw [insertS_mem]; simp
theorem covers_hit {S l : List Int} {x : Int} (h : Covers S l x) (hx : S.contains x = true) : ∃ l', l = x :: l' ∧ Covers S l' (x + 1) := by
  obtain ⟨h1, h2, h3⟩ := h
  have hm : x ∈ l := (h3 x (Int.le_refl _)).1 (by simpa using hx)
  cases l with
  | nil => simp at hm
  | cons n l' =>
    have h1' := List.pairwise_cons.1 h1
    have hn : n = x := by
      rcases List.mem_cons.1 hm with e | e
      · exact e.symm
      · have := h1'.1 x e; have := (h2 n (by simp)).1; omega
    subst hn
    refine ⟨l', rfl, h1'.2, fun y hy => ⟨by have := h1'.1 y hy; omega, (h2 y (by simp [hy])).2⟩, fun y hy => ?_⟩
    rw [h3 y (by omega), List.mem_cons]
    constructor
    · rintro (e | e)
      · omega
      · exact e
    · exact .inr
theorem covers_miss {S l : List Int} {x : Int} (h : Covers S l x) (hx : S.contains x = false) : strip l x = (l, x) ∧ ∀ y ∈ l, x < y := by
  obtain ⟨h1, h2, h3⟩ := h
  have hm : x ∉ l := fun e => by
    have := (h3 x (Int.le_refl _)).2 e
    simp [this] at hx
  refine ⟨?_, fun y hy => ?_⟩
  · cases l with
    | nil => rfl
    | cons n l' => exact strip_cons_ne (fun e => hm (by simp [e]))
  · have := (h2 y hy).1
    have : x ≠ y := fun e => hm (e ▸ hy)
    omega
theorem covers_len {S l : List Int} {x : Int} (h : Covers S l x) (hx : x ≤ 40) : (l.length : Int) ≤ 40 - x := by
  have := sorted_len (l := l) (a := x - 1) (b := 40) h.1 (fun y hy => by have := h.2.1 y hy; omega) (by omega)
  omega
theorem filter_lt_y {l : List Int} (hs : l.Pairwise (· < ·)) {k : Int} (hk : k ∈ l) : l.filter (fun y => decide (y < k + 1)) = l.filter (fun y => decide (y < k)) ++ [k] := by
  induction l with
  | nil => simp at hk
  | cons n l ih =>
    have hs' := List.pairwise_cons.1 hs
    rcases List.mem_cons.1 hk with e | e
    · subst e
      have e1 : l.filter (fun y => decide (y < k + 1)) = [] := List.filter_eq_nil_iff.2 fun y hy => by have := hs'.1 y hy; simp; omega
      have e2 : l.filter (fun y => decide (y < k)) = [] := List.filter_eq_nil_iff.2 fun y hy => by have := hs'.1 y hy; simp; omega
      rw [List.filter_cons_of_pos (by simp; omega), List.filter_cons_of_neg (by simp), e1, e2]; rfl
    · have := hs'.1 k e
      rw [List.filter_cons_of_pos (by simp; omega), List.filter_cons_of_pos (by simp; omega), ih hs'.2 e]; rfl
theorem filter_lt_n {l : List Int} {k : Int} (hk : k ∉ l) : l.filter (fun y => decide (y < k + 1)) = l.filter (fun y => decide (y < k)) := by
  refine List.filter_congr fun y hy => ?_
  have : y ≠ k := fun e => hk (e ▸ hy)
  rw [Bool.eq_iff_iff]; simp; omega
theorem filter_lt_0 {l : List Int} {x : Int} (h : ∀ y ∈ l, x < y) : l.filter (fun y => decide (y < x)) = [] := List.filter_eq_nil_iff.2 fun y hy => by have := h y hy; simp; omega
theorem filter_lt_40 {l : List Int} (h : ∀ y ∈ l, y < 40) {k : Int} (hk : 40 ≤ k) : l.filter (fun y => decide (y < k)) = l := List.filter_eq_self.2 fun y hy => by have := h y hy; simp; omega
theorem take_any_all {p : Chunk → Bool} {l : List Chunk} (h : l.any p = false) : ∀ c ∈ l, p c = false := fun c hc => by simpa using List.any_eq_false.1 h c hc
theorem any_take_get {p : Chunk → Bool} {l : List Chunk} {j : Nat} (h : (l.take j).any p = false) (hl : j ≤ l.length) : ∀ i (hi : i < j), p (l[i]'(by omega)) = false := by
  intro i hi
  have := List.any_eq_false.1 h (l[i]'(by omega)) (by rw [List.mem_take_iff_getElem]; exact ⟨i, by omega, rfl⟩)
  simpa using this

theorem c112 (r : Receiver) (c : Chunk) (hr : RInv r) (hc : wrong c = 0) : VFun G 112 [.agg (receiverAV r), .agg (chunkAV c)] [] (.agg (receiverAV (rhear r c))) [] := by
 have hh := hold_len hr; have hnl := hr.nl; have hn0 := hr.n
 refine VFun.intro (fn := Try.f112) rfl rfl (by kernel_rfl) (nb rfl) fun Γ hpar => ?_
 refine vw_seq ?_
 refine vw_region ?_
 refine u_box 100 rfl rfl rfl (notPar hpar rfl) rfl rfl trivial ?_
 refine u_box 101 rfl rfl rfl (notPar hpar rfl) rfl rfl trivial ?_
 refine u_alloc 102 rfl rfl (notPar hpar rfl) rfl rfl trivial ?_
 refine u_end trivial ?_
 refine vw_seq ?_
 refine vw_seq ?_
 refine vw_region ?_
 refine u_fieldAddr rfl rfl rfl rfl rfl rfl trivial ?_
 refine u_load1 rfl rfl rfl rfl rfl rfl trivial ?_
 refine s_neq rfl rfl rfl trivial (fun h15 => ?_) (fun h15 => ?_)
 ·refine u_end trivial ?_
  refine vw_condT rfl ?_
  refine vw_seq ?_
  refine vw_region ?_
  refine u_loadAll rfl rfl rfl rfl rfl rfl trivial ?_
  refine u_storeAll rfl rfl rfl rfl rfl rfl rfl rfl trivial ?_
  refine u_end trivial ?_
  refine vw_ret ?_
  rw [rhear_kind h15]
  refine fin' [] (.inr rfl) (.cons (.cellN rfl rfl rfl rfl rfl) .nil) (mk_wk [] rfl rfl ⟨⟨_, rfl, (.agg _ _ (.cons (subI ?_) (.cons (subS ?_) (.cons (subI ?_) (.cons (subI ?_) (.cons (subI ?_) (.cons (subS ?_) (.cons (subS ?_) (.cons (subB ?_) .nil)))))))))⟩, trivial⟩ trivial (parOk rfl rfl))
  all_goals (try rfl)
 ·refine u_end trivial ?_
  refine vw_condF rfl ?_
  refine vw_skip ?_
  refine vw_seq ?_
  refine vw_region ?_
  refine u_fieldAddr rfl rfl rfl rfl rfl rfl trivial ?_
  refine u_store rfl rfl rfl rfl rfl rfl rfl trivial ?_
  refine u_end trivial ?_
  refine vw_seq ?_
  refine vw_region ?_
  refine u_makeMap 103 rfl (notPar hpar rfl) rfl trivial ?_
  refine u_fieldAddr rfl rfl rfl rfl rfl rfl trivial ?_
  refine u_load1 rfl rfl rfl rfl rfl rfl trivial ?_
  refine u_mapIns (.inr rfl) rfl rfl rfl rfl rfl rfl trivial ?_
  refine u_move rfl rfl trivial ?_
  refine u_assign rfl rfl trivial ?_
  refine u_end trivial ?_
  refine vw_seq ?_
  refine vw_seq ?_
  refine vw_region ?_
  refine u_fieldAddr rfl rfl rfl rfl rfl rfl trivial ?_
  refine u_load1 rfl rfl rfl rfl rfl rfl trivial ?_
  refine u_len rfl rfl rfl trivial ?_
  refine u_move rfl rfl trivial ?_
  refine u_end trivial ?_
  refine vw_block ?_
  refine vw_loopR (fun n_ E => ∃ (i : Nat), ((i ≤ r.early.length) ∧ ((r.early.take i).contains c.num = false)) ∧ n_ = r.early.length - i ∧ E = ⟨[(2, .ptr 2 0), (3, .ptr 3 0), (4, .ptr 4 0), (5, .mp 15), (23, .shr 1 (intCells r.early)), (24, .lit (.int .i64 (intCells r.early).length)), (25, .lit (.int .i64 i))], [(2, .box [.lit (.int .i64 r.next), .shr 1 (intCells r.early), .lit (.int .i64 r.places.a), .lit (.int .i64 r.places.b), .lit (.int .i64 r.places.c), .shr 6 (chunkCells r.hold), .shr 2 (msgCells r.told), .lit (.bool true)]), (3, .box (chunkAV c)), (4, .box [.lit (.int .i64 0), .lit (.slice none 0 0), .lit (.int .i64 0), .lit (.int .i64 0), .lit (.int .i64 0), .lit (.slice none 0 0), .lit (.slice none 0 0), .lit (.bool false)]), (15, .set ([c.num] ++ r.early.take i))], 139⟩) (n0 := _) (E0 := _) (⟨0, by exact ⟨Nat.zero_le _, by simp⟩, rfl, rfl⟩) (ren [(2, 100), (3, 101), (4, 102), (15, 103)]) (mk_wk [(2, 100), (3, 101), (4, 102), (15, 103)] rfl rfl ⟨⟨_, rfl, (.ptr _ _ _ rfl (lookNe rfl))⟩, ⟨_, rfl, (.ptr _ _ _ rfl (lookNe rfl))⟩, ⟨_, rfl, (.ptr _ _ _ rfl (lookNe rfl))⟩, ⟨_, rfl, (.mp _ _ rfl (lookNe rfl))⟩, ⟨_, rfl, (.shr _ _)⟩, ⟨_, rfl, (.lit _)⟩, ⟨_, rfl, (.lit _)⟩, trivial⟩ ⟨⟨_, _, rfl, rfl, (subPL rfl)⟩, ⟨_, _, rfl, rfl, (subPL rfl)⟩, ⟨_, _, rfl, rfl, (subPL rfl)⟩, ⟨_, rfl, rfl⟩, trivial⟩ (parOk hpar rfl)) (fun n_ E hR => ?_)
  obtain ⟨i, hI, rfl, rfl⟩ := hR
  obtain ⟨hI0, hI1⟩ := hI
  refine vw_seq ?_
  refine vw_region ?_
  refine s_lss rfl rfl rfl trivial (fun h26 => ?_) (fun h26 => ?_)
  ·refine u_end trivial ?_
   refine vw_seq ?_
   refine vw_condT rfl ?_
   refine vw_skip ?_
   refine vw_seq ?_
   refine vw_block ?_
   refine vw_seq ?_
   rw [intCells_length] at h26
   obtain ⟨x, hx⟩ : ∃ x, r.early[i]? = some x := ⟨_, List.getElem?_eq_getElem (by omega)⟩
   refine vw_region ?_
   refine u_indexS rfl rfl rfl rfl rfl rfl (intCells_get hx) rfl trivial ?_
   refine u_loadS1 rfl rfl rfl rfl rfl trivial ?_
   refine u_assign rfl rfl trivial ?_
   refine u_end trivial ?_
   refine vw_seq ?_
   refine vw_seq ?_
   refine vw_region ?_
   refine u_move rfl rfl trivial ?_
   refine u_fieldAddr rfl rfl rfl rfl rfl rfl trivial ?_
   refine u_load1 rfl rfl rfl rfl rfl rfl trivial ?_
   refine s_eql rfl rfl rfl trivial (fun h32 => ?_) (fun h32 => ?_)
   ·refine u_end trivial ?_
    refine vw_condT rfl ?_
    refine vw_seq ?_
    refine vw_region ?_
    refine u_loadAll rfl rfl rfl rfl rfl rfl trivial ?_
    refine u_storeAll rfl rfl rfl rfl rfl rfl rfl rfl trivial ?_
    refine u_end trivial ?_
    refine vw_ret ?_
    rw [rhear_ref (by omega) (.inr (.inl (by rw [← h32]; exact List.mem_of_getElem? hx)))]
    refine fin' [] (.inr rfl) (.cons (.cellN rfl rfl rfl rfl rfl) .nil) (mk_wk [] rfl rfl ⟨⟨_, rfl, (.agg _ _ (.cons (subI ?_) (.cons (subS ?_) (.cons (subI ?_) (.cons (subI ?_) (.cons (subI ?_) (.cons (subS ?_) (.cons (subS ?_) (.cons (subB ?_) .nil)))))))))⟩, trivial⟩ trivial (parOk rfl rfl))
    all_goals (try rfl)
   ·refine u_end trivial ?_
    refine vw_condF rfl ?_
    refine vw_skip ?_
    refine vw_region ?_
    refine u_move rfl rfl trivial ?_
    refine u_move rfl rfl trivial ?_
    refine u_mapIns (.inl rfl) rfl rfl rfl rfl rfl rfl trivial ?_
    refine u_end trivial ?_
    refine vw_region ?_
    refine u_add rfl rfl rfl (by unfold inI; omega) rfl trivial ?_
    refine u_move rfl rfl trivial ?_
    refine u_end trivial ?_
    refine ⟨_, _, ren [(2, 2), (3, 3), (4, 4), (15, 15)], ?_, ⟨i + 1, ?_, rfl, rfl⟩, mk_wk [(2, 2), (3, 3), (4, 4), (15, 15)] rfl rfl ⟨⟨_, rfl, (.ptr _ _ _ rfl (lookNe rfl))⟩, ⟨_, rfl, (.ptr _ _ _ rfl (lookNe rfl))⟩, ⟨_, rfl, (.ptr _ _ _ rfl (lookNe rfl))⟩, ⟨_, rfl, (.mp _ _ rfl (lookNe rfl))⟩, ⟨_, rfl, (.shr _ _)⟩, ⟨_, rfl, (.lit _)⟩, ⟨_, rfl, (.lit _)⟩, trivial⟩ ⟨⟨_, _, rfl, rfl, (subPL rfl)⟩, ⟨_, _, rfl, rfl, (subPL rfl)⟩, ⟨_, _, rfl, rfl, (subPL rfl)⟩, ⟨_, rfl, setEq rfl (by rw [List.take_add_one, hx]; simp)⟩, trivial⟩ (parOk hpar rfl)⟩
    ·omega
    ·refine ⟨by omega, ?_⟩
     rw [contains_snoc hx, hI1]
     simpa using h32
  ·refine u_end trivial ?_
   refine vw_seq ?_
   refine vw_condF rfl ?_
   refine vw_exit ?_
   refine iteP rfl ?_
   refine vw_seq ?_
   refine vw_seq ?_
   rw [intCells_length] at h26
   rw [List.take_of_length_le (show r.early.length ≤ i by omega)]
   rw [List.take_of_length_le (show r.early.length ≤ i by omega)] at hI1
   have hne : c.num ∉ r.early := by simpa using hI1
   refine vw_region ?_
   refine u_fieldAddr rfl rfl rfl rfl rfl rfl trivial ?_
   refine u_load1 rfl rfl rfl rfl rfl rfl trivial ?_
   refine u_fieldAddr rfl rfl rfl rfl rfl rfl trivial ?_
   refine u_load1 rfl rfl rfl rfl rfl rfl trivial ?_
   refine s_lss rfl rfl rfl trivial (fun h41 => ?_) (fun h41 => ?_)
   ·refine u_move rfl rfl trivial ?_
    refine u_skip rfl rfl rfl rfl rfl ?_
    refine u_skip rfl rfl rfl rfl rfl ?_
    refine u_skip rfl rfl rfl rfl rfl ?_
    refine u_skip rfl rfl rfl rfl rfl ?_
    refine u_skip rfl rfl rfl rfl rfl ?_
    refine u_skip rfl rfl rfl rfl rfl ?_
    refine u_skip rfl rfl rfl rfl rfl ?_
    refine u_skip rfl rfl rfl rfl rfl ?_
    refine u_skip rfl rfl rfl rfl rfl ?_
    refine u_skip rfl rfl rfl rfl rfl ?_
    refine u_skip rfl rfl rfl rfl rfl ?_
    refine u_pickT rfl rfl rfl trivial ?_
    refine u_end trivial ?_
    refine vw_condT rfl ?_
    refine vw_seq ?_
    refine vw_region ?_
    refine u_loadAll rfl rfl rfl rfl rfl rfl trivial ?_
    refine u_storeAll rfl rfl rfl rfl rfl rfl rfl rfl trivial ?_
    refine u_end trivial ?_
    refine vw_ret ?_
    rw [rhear_ref (by omega) (by first | exact .inl (by omega) | exact .inr (.inr ⟨by omega, by (try simp only [msgCells_length, chunkCells_length, intCells_length, byteCells_length] at *); omega⟩))]
    refine fin' [] (.inr rfl) (.cons (.cellN rfl rfl rfl rfl rfl) .nil) (mk_wk [] rfl rfl ⟨⟨_, rfl, (.agg _ _ (.cons (subI ?_) (.cons (subS ?_) (.cons (subI ?_) (.cons (subI ?_) (.cons (subI ?_) (.cons (subS ?_) (.cons (subS ?_) (.cons (subB ?_) .nil)))))))))⟩, trivial⟩ trivial (parOk rfl rfl))
    all_goals (try rfl)
   ·refine u_move rfl rfl trivial ?_
    refine u_fieldAddr rfl rfl rfl rfl rfl rfl ⟨_, _, rfl, rfl, rfl, rfl⟩ ?_
    refine u_load1 rfl rfl rfl rfl rfl rfl ⟨_, _, rfl, rfl, rfl, rfl⟩ ?_
    refine u_fieldAddr rfl rfl rfl rfl rfl rfl ⟨_, _, rfl, rfl, rfl, rfl⟩ ?_
    refine u_load1 rfl rfl rfl rfl rfl rfl ⟨_, _, rfl, rfl, rfl, rfl⟩ ?_
    refine s_gtr rfl rfl rfl ⟨_, _, rfl, rfl, rfl, rfl⟩ (fun h47 => ?_) (fun h47 => ?_)
    ·refine u_move rfl rfl ⟨_, _, rfl, rfl, rfl, rfl⟩ ?_
     refine u_fieldAddr rfl rfl rfl rfl rfl rfl ⟨_, _, rfl, rfl, rfl, rfl⟩ ?_
     refine u_load1 rfl rfl rfl rfl rfl rfl ⟨_, _, rfl, rfl, rfl, rfl⟩ ?_
     refine u_len rfl rfl rfl ⟨_, _, rfl, rfl, rfl, rfl⟩ ?_
     refine s_gtr rfl rfl rfl ⟨_, _, rfl, rfl, rfl, rfl⟩ (fun h52 => ?_) (fun h52 => ?_)
     ·refine u_pickT rfl rfl rfl ⟨_, _, rfl, rfl, rfl, rfl⟩ ?_
      refine u_pickF rfl rfl rfl trivial ?_
      refine u_end trivial ?_
      refine vw_condT rfl ?_
      refine vw_seq ?_
      refine vw_region ?_
      refine u_loadAll rfl rfl rfl rfl rfl rfl trivial ?_
      refine u_storeAll rfl rfl rfl rfl rfl rfl rfl rfl trivial ?_
      refine u_end trivial ?_
      refine vw_ret ?_
      rw [rhear_ref (by omega) (by first | exact .inl (by omega) | exact .inr (.inr ⟨by omega, by (try simp only [msgCells_length, chunkCells_length, intCells_length, byteCells_length] at *); omega⟩))]
      refine fin' [] (.inr rfl) (.cons (.cellN rfl rfl rfl rfl rfl) .nil) (mk_wk [] rfl rfl ⟨⟨_, rfl, (.agg _ _ (.cons (subI ?_) (.cons (subS ?_) (.cons (subI ?_) (.cons (subI ?_) (.cons (subI ?_) (.cons (subS ?_) (.cons (subS ?_) (.cons (subB ?_) .nil)))))))))⟩, trivial⟩ trivial (parOk rfl rfl))
      all_goals (try rfl)
     ·refine u_pickT rfl rfl rfl ⟨_, _, rfl, rfl, rfl, rfl⟩ ?_
      refine u_pickF rfl rfl rfl trivial ?_
      refine u_end trivial ?_
      refine vw_condF rfl ?_
      refine vw_skip ?_
      have hk : c.kind = 1 := by omega
      have hnr : ¬ refuses r c.num := by
        rintro (h | h | h)
        · omega
        · exact hne h
        · obtain ⟨g1, g2⟩ := h
          first | omega | ((try simp only [msgCells_length, chunkCells_length, intCells_length, byteCells_length] at *); omega)
      obtain ⟨e1, x1, hst⟩ : ∃ e x, strip (insertS c.num r.early) r.next = (e, x) := ⟨_, _, rfl⟩
      obtain ⟨h1, p1, T1, htl⟩ : ∃ h p T, tellAll (r.hold ++ [c], r.places, r.told) = (h, p, T) := ⟨_, _, _, rfl⟩
      have hT0 := taleOk0 hr hc hk
      have hcv := covers0 hr hc hk hne (by omega)
      refine vw_meet (Covers ([c.num] ++ r.early) e1 x1 ∧ (0 ≤ x1 ∧ x1 ≤ 40) ∧ ∀ y ∈ e1, x1 < y) (⟨[(2, .ptr 2 0), (3, .ptr 3 0), (4, .ptr 4 0), (5, .mp 15)], [(2, .box [.lit (.int .i64 x1), .shr 1 (intCells r.early), .lit (.int .i64 r.places.a), .lit (.int .i64 r.places.b), .lit (.int .i64 r.places.c), .shr 6 (chunkCells r.hold), .shr 2 (msgCells r.told), .lit (.bool true)]), (3, .box (chunkAV c)), (4, .box [.lit (.int .i64 0), .lit (.slice none 0 0), .lit (.int .i64 0), .lit (.int .i64 0), .lit (.int .i64 0), .lit (.slice none 0 0), .lit (.slice none 0 0), .lit (.bool false)]), (15, .set ([c.num] ++ r.early))], 139⟩) ?_ (fun hA16 => ?_)
      ·refine vw_block ?_
       refine vw_loopR (fun n_ E => ∃ (l : List Int) (x : Int), ((strip l x = (e1, x1)) ∧ (Covers ([c.num] ++ r.early) l x) ∧ (0 ≤ x ∧ x ≤ 40)) ∧ n_ = l.length ∧ E = ⟨[(2, .ptr 2 0), (3, .ptr 3 0), (4, .ptr 4 0), (5, .mp 15)], [(2, .box [.lit (.int .i64 x), .shr 1 (intCells r.early), .lit (.int .i64 r.places.a), .lit (.int .i64 r.places.b), .lit (.int .i64 r.places.c), .shr 6 (chunkCells r.hold), .shr 2 (msgCells r.told), .lit (.bool true)]), (3, .box (chunkAV c)), (4, .box [.lit (.int .i64 0), .lit (.slice none 0 0), .lit (.int .i64 0), .lit (.int .i64 0), .lit (.int .i64 0), .lit (.slice none 0 0), .lit (.slice none 0 0), .lit (.bool false)]), (15, .set ([c.num] ++ r.early))], 139⟩) (n0 := _) (E0 := _) (⟨insertS c.num r.early, r.next, by exact ⟨hst, hcv, hn0⟩, rfl, rfl⟩) (ren [(2, 2), (3, 3), (4, 4), (15, 15)]) (mk_wk [(2, 2), (3, 3), (4, 4), (15, 15)] rfl rfl ⟨⟨_, rfl, (.ptr _ _ _ rfl (lookNe rfl))⟩, ⟨_, rfl, (.ptr _ _ _ rfl (lookNe rfl))⟩, ⟨_, rfl, (.ptr _ _ _ rfl (lookNe rfl))⟩, ⟨_, rfl, (.mp _ _ rfl (lookNe rfl))⟩, trivial⟩ ⟨⟨_, _, rfl, rfl, (subPL rfl)⟩, ⟨_, _, rfl, rfl, (subPL rfl)⟩, ⟨_, _, rfl, rfl, (subPL rfl)⟩, ⟨_, rfl, rfl⟩, trivial⟩ (parOk hpar rfl)) (fun n_ E hR => ?_)
       obtain ⟨l, x, hI, rfl, rfl⟩ := hR
       obtain ⟨hI0, hI1, hI2⟩ := hI
       refine vw_seq ?_
       refine vw_seq ?_
       refine vw_region ?_
       refine u_move rfl rfl trivial ?_
       refine u_fieldAddr rfl rfl rfl rfl rfl rfl trivial ?_
       refine u_load1 rfl rfl rfl rfl rfl rfl trivial ?_
       refine s_lookup rfl rfl rfl rfl rfl rfl zero4 rfl trivial (fun h59 => ?_) (fun h59 => ?_)
       ·refine u_end trivial ?_
        refine vw_condT rfl ?_
        refine vw_skip ?_
        refine vw_block ?_
        obtain ⟨l', hl1, hl2⟩ := covers_hit hI1 h59
        have hx40 := (hI1.2.1 x (by rw [hl1]; simp)).2
        refine vw_region ?_
        refine u_fieldAddr rfl rfl rfl rfl rfl rfl trivial ?_
        refine u_load1 rfl rfl rfl rfl rfl rfl trivial ?_
        refine u_add rfl rfl rfl (by unfold inI; omega) rfl trivial ?_
        refine u_fieldAddr rfl rfl rfl rfl rfl rfl trivial ?_
        refine u_store rfl rfl rfl rfl rfl rfl rfl trivial ?_
        refine u_end trivial ?_
        refine ⟨_, _, ren [(2, 2), (3, 3), (4, 4), (15, 15)], ?_, ⟨l', x + 1, ?_, rfl, rfl⟩, mk_wk [(2, 2), (3, 3), (4, 4), (15, 15)] rfl rfl ⟨⟨_, rfl, (.ptr _ _ _ rfl (lookNe rfl))⟩, ⟨_, rfl, (.ptr _ _ _ rfl (lookNe rfl))⟩, ⟨_, rfl, (.ptr _ _ _ rfl (lookNe rfl))⟩, ⟨_, rfl, (.mp _ _ rfl (lookNe rfl))⟩, trivial⟩ ⟨⟨_, _, rfl, rfl, (subPL rfl)⟩, ⟨_, _, rfl, rfl, (subPL rfl)⟩, ⟨_, _, rfl, rfl, (subPL rfl)⟩, ⟨_, rfl, rfl⟩, trivial⟩ (parOk hpar rfl)⟩
        ·rw [hl1]; simp
        ·refine ⟨by rw [← hI0, hl1, strip_cons_eq], hl2, ?_⟩
         have := (hI1.2.1 x (by rw [hl1]; simp)).2
         omega
       ·refine u_end trivial ?_
        refine vw_condF rfl ?_
        refine vw_exit ?_
        refine iteP rfl ?_
        refine ⟨?_, ren [(2, 2), (3, 3), (4, 4), (15, 15)], mk_wk [(2, 2), (3, 3), (4, 4), (15, 15)] rfl rfl ⟨⟨_, rfl, (.ptr _ _ _ rfl (lookNe rfl))⟩, ⟨_, rfl, (.ptr _ _ _ rfl (lookNe rfl))⟩, ⟨_, rfl, (.ptr _ _ _ rfl (lookNe rfl))⟩, ⟨_, rfl, (.mp _ _ rfl (lookNe rfl))⟩, trivial⟩ ⟨⟨_, _, rfl, rfl, (.cons (subI (by rw [(covers_miss hI1 h59).1] at hI0; cases hI0; rfl)) (.cons ((.shr _ _)) (.cons ((.lit _)) (.cons ((.lit _)) (.cons ((.lit _)) (.cons ((.shr _ _)) (.cons ((.shr _ _)) (.cons ((.lit _)) .nil))))))))⟩, ⟨_, _, rfl, rfl, (subPL rfl)⟩, ⟨_, _, rfl, rfl, (subPL rfl)⟩, ⟨_, rfl, rfl⟩, trivial⟩ (parOk hpar rfl)⟩
        ·obtain ⟨g1, g2⟩ := covers_miss hI1 h59
         rw [g1] at hI0
         cases hI0
         exact ⟨hI1, hI2, g2⟩
      obtain ⟨hE1, hE2, hE3⟩ := hA16
      refine vw_seq ?_
      refine vw_region ?_
      refine u_fieldAddr rfl rfl rfl rfl rfl rfl trivial ?_
      refine u_store rfl rfl rfl rfl rfl rfl rfl trivial ?_
      refine u_end trivial ?_
      refine vw_seq ?_
      refine vw_seq ?_
      refine vw_region ?_
      refine u_fieldAddr rfl rfl rfl rfl rfl rfl trivial ?_
      refine u_load1 rfl rfl rfl rfl rfl rfl trivial ?_
      refine u_assign rfl rfl trivial ?_
      refine u_end trivial ?_
      refine vw_block ?_
      refine vw_loopR (fun n_ E => ∃ (k : Int) (a : List Int), ((a = e1.filter (fun y => decide (y < k))) ∧ (x1 ≤ k ∧ k ≤ 40)) ∧ n_ = (40 - k).toNat ∧ E = ⟨[(2, .ptr 2 0), (3, .ptr 3 0), (4, .ptr 4 0), (5, .mp 15), (8, .lit (.int .i64 k))], [(2, .box [.lit (.int .i64 x1), .row 906, .lit (.int .i64 r.places.a), .lit (.int .i64 r.places.b), .lit (.int .i64 r.places.c), .shr 6 (chunkCells r.hold), .shr 2 (msgCells r.told), .lit (.bool true)]), (3, .box (chunkAV c)), (4, .box [.lit (.int .i64 0), .lit (.slice none 0 0), .lit (.int .i64 0), .lit (.int .i64 0), .lit (.int .i64 0), .lit (.slice none 0 0), .lit (.slice none 0 0), .lit (.bool false)]), (906, .row 3 1 (intCells a)), (15, .set ([c.num] ++ r.early))], 139⟩) (n0 := _) (E0 := _) (⟨x1, [], by exact ⟨(filter_lt_0 hE3).symm, Int.le_refl _, hE2.2⟩, rfl, rfl⟩) (ren [(2, 2), (3, 3), (4, 4), (15, 15)]) (mk_wk [(2, 2), (3, 3), (4, 4), (15, 15)] rfl rfl ⟨⟨_, rfl, (.ptr _ _ _ rfl (lookNe rfl))⟩, ⟨_, rfl, (.ptr _ _ _ rfl (lookNe rfl))⟩, ⟨_, rfl, (.ptr _ _ _ rfl (lookNe rfl))⟩, ⟨_, rfl, (.mp _ _ rfl (lookNe rfl))⟩, ⟨_, rfl, (.lit _)⟩, trivial⟩ ⟨⟨_, _, rfl, rfl, (.cons ((.lit _)) (.cons (.nilrow _ _ _ _ rfl rfl) (.cons ((.lit _)) (.cons ((.lit _)) (.cons ((.lit _)) (.cons ((.shr _ _)) (.cons ((.shr _ _)) (.cons ((.lit _)) .nil))))))))⟩, ⟨_, _, rfl, rfl, (subPL rfl)⟩, ⟨_, _, rfl, rfl, (subPL rfl)⟩, (.inr (.inl ⟨rfl, rfl⟩)), ⟨_, rfl, rfl⟩, trivial⟩ (parOk hpar rfl)) (fun n_ E hR => ?_)
      obtain ⟨k, a, hI, rfl, rfl⟩ := hR
      obtain ⟨hI0, hI1⟩ := hI
      refine vw_seq ?_
      refine vw_seq ?_
      refine vw_region ?_
      refine u_move rfl rfl trivial ?_
      refine s_lss rfl rfl rfl trivial (fun h68 => ?_) (fun h68 => ?_)
      ·refine u_end trivial ?_
       refine vw_condT rfl ?_
       refine vw_skip ?_
       refine vw_seq ?_
       refine vw_block ?_
       refine vw_seq ?_
       have hal : a.length ≤ e1.length := by rw [hI0]; exact List.length_filter_le _ _
       have hel := covers_len hE1 hE2.2
       refine vw_region ?_
       refine u_move rfl rfl trivial ?_
       refine u_move rfl rfl trivial ?_
       refine s_lookup rfl rfl rfl rfl rfl rfl zero4 rfl trivial (fun h73 => ?_) (fun h73 => ?_)
       ·refine u_end trivial ?_
        refine vw_condT rfl ?_
        refine vw_region ?_
        refine u_fieldAddr rfl rfl rfl rfl rfl rfl trivial ?_
        refine u_load1 rfl rfl rfl rfl rfl rfl trivial ?_
        refine u_move rfl rfl trivial ?_
        refine u_buildSlice 164 rfl rfl rfl rfl rfl rfl rfl rfl rfl rfl (notPar hpar rfl) rfl rfl trivial ?_
        refine u_append 165 rfl rfl rfl (srcRow rfl) rfl (notPar hpar rfl) rfl rfl rfl rfl rfl (by simp [cellsL, intCells]; omega) rfl trivial ?_
        refine u_fieldAddr rfl rfl rfl rfl rfl rfl trivial ?_
        refine u_store rfl rfl rfl rfl rfl rfl rfl trivial ?_
        refine u_end trivial ?_
        refine vw_region ?_
        refine u_move rfl rfl trivial ?_
        refine u_add rfl rfl rfl (by unfold inI; omega) rfl trivial ?_
        refine u_assign rfl rfl trivial ?_
        refine u_end trivial ?_
        refine ⟨_, _, ren [(2, 2), (3, 3), (4, 4), (15, 15), (906, 165)], ?_, ⟨k + 1, a ++ [k], ?_, rfl, rfl⟩, mk_wk [(2, 2), (3, 3), (4, 4), (15, 15), (906, 165)] rfl rfl ⟨⟨_, rfl, (.ptr _ _ _ rfl (lookNe rfl))⟩, ⟨_, rfl, (.ptr _ _ _ rfl (lookNe rfl))⟩, ⟨_, rfl, (.ptr _ _ _ rfl (lookNe rfl))⟩, ⟨_, rfl, (.mp _ _ rfl (lookNe rfl))⟩, ⟨_, rfl, (.lit _)⟩, trivial⟩ ⟨⟨_, _, rfl, rfl, (.cons ((.lit _)) (.cons ((.row _ _ rfl (lookNe rfl))) (.cons ((.lit _)) (.cons ((.lit _)) (.cons ((.lit _)) (.cons ((.shr _ _)) (.cons ((.shr _ _)) (.cons ((.lit _)) .nil))))))))⟩, ⟨_, _, rfl, rfl, (subPL rfl)⟩, ⟨_, _, rfl, rfl, (subPL rfl)⟩, (.inl ⟨_, rfl, rowEq rfl (by simp [intCells, cellsL, cellsOf])⟩), ⟨_, rfl, rfl⟩, trivial⟩ (parOk hpar rfl)⟩
        ·omega
        ·refine ⟨?_, by omega⟩
         rw [filter_lt_y hE1.1 ((hE1.2.2 k (by omega)).1 (by simpa using h73)), hI0]
       ·refine u_end trivial ?_
        refine vw_condF rfl ?_
        refine vw_skip ?_
        refine vw_region ?_
        refine u_move rfl rfl trivial ?_
        refine u_add rfl rfl rfl (by unfold inI; omega) rfl trivial ?_
        refine u_assign rfl rfl trivial ?_
        refine u_end trivial ?_
        refine ⟨_, _, ren [(2, 2), (3, 3), (4, 4), (15, 15), (906, 906)], ?_, ⟨k + 1, a, ?_, rfl, rfl⟩, mk_wk [(2, 2), (3, 3), (4, 4), (15, 15), (906, 906)] rfl rfl ⟨⟨_, rfl, (.ptr _ _ _ rfl (lookNe rfl))⟩, ⟨_, rfl, (.ptr _ _ _ rfl (lookNe rfl))⟩, ⟨_, rfl, (.ptr _ _ _ rfl (lookNe rfl))⟩, ⟨_, rfl, (.mp _ _ rfl (lookNe rfl))⟩, ⟨_, rfl, (.lit _)⟩, trivial⟩ ⟨⟨_, _, rfl, rfl, (.cons ((.lit _)) (.cons ((.row _ _ rfl (lookNe rfl))) (.cons ((.lit _)) (.cons ((.lit _)) (.cons ((.lit _)) (.cons ((.shr _ _)) (.cons ((.shr _ _)) (.cons ((.lit _)) .nil))))))))⟩, ⟨_, _, rfl, rfl, (subPL rfl)⟩, ⟨_, _, rfl, rfl, (subPL rfl)⟩, (.inl ⟨_, rfl, rfl⟩), ⟨_, rfl, rfl⟩, trivial⟩ (parOk hpar rfl)⟩
        ·omega
        ·refine ⟨?_, by omega⟩
         rw [filter_lt_n (fun hm => by have := (hE1.2.2 k (by omega)).2 hm; exact absurd (show ([c.num] ++ r.early).contains k = true by simpa using this) (by rw [h73]; decide)), hI0]
      ·refine u_end trivial ?_
       refine vw_condF rfl ?_
       refine vw_exit ?_
       refine iteP rfl ?_
       refine vw_seq ?_
       have hae : a = e1 := by rw [hI0]; exact filter_lt_40 (fun y hy => (hE1.2.1 y hy).2) (by omega)
       rw [hae]
       refine vw_draw ?_
       refine u_buildSlice 164 rfl rfl rfl rfl rfl rfl rfl rfl rfl rfl (notPar hpar rfl) rfl rfl trivial ?_
       refine u_fieldAddr rfl rfl rfl rfl rfl rfl trivial ?_
       refine u_load1 rfl rfl rfl rfl rfl rfl trivial ?_
       refine u_append 165 rfl rfl rfl (.shr _ _) rfl (notPar hpar rfl) rfl rfl rfl rfl rfl (by simp [cellsL, chunkCells_length]; omega) rfl trivial ?_
       refine u_loadAll rfl rfl rfl rfl rfl rfl trivial ?_
       refine u_buildSlice 166 rfl rfl rfl rfl rfl rfl rfl rfl rfl rfl (notPar hpar rfl) rfl rfl trivial ?_
       refine u_append 167 rfl rfl rfl (srcRow rfl) rfl (notPar hpar rfl) rfl rfl rfl rfl rfl (by simp [cellsL, chunkCells_length]; omega) rfl trivial ?_
       refine u_assign rfl rfl trivial ?_
       refine u_end (by kernel_rfl) ?_
       refine vw_seq ?_
       refine vw_seq ?_
       refine vw_region ?_
       refine u_assign rfl rfl trivial ?_
       refine u_end trivial ?_
       refine vw_block ?_
       refine vw_loopR (fun n_ E => ∃ (b : Bool) (h : List Chunk) (p : Places) (T : List Msg), ((tellAll (h, p, T) = (h1, p1, T1)) ∧ (TaleOk (r.next + r.early.length + 1) (h, p, T)) ∧ (b = false → tell1 (h, p, T) = none)) ∧ n_ = 2 * h.length + b.toNat ∧ E = ⟨[(2, .ptr 2 0), (3, .ptr 3 0), (4, .ptr 4 0), (9, .shr 6 (chunkCells h)), (10, .lit (.bool b))], [(2, .box [.lit (.int .i64 x1), .shr 1 (intCells e1), .lit (.int .i64 p.a), .lit (.int .i64 p.b), .lit (.int .i64 p.c), .shr 6 (chunkCells r.hold), .shr 2 (msgCells T), .lit (.bool true)]), (3, .box (chunkAV c)), (4, .box [.lit (.int .i64 0), .lit (.slice none 0 0), .lit (.int .i64 0), .lit (.int .i64 0), .lit (.int .i64 0), .lit (.slice none 0 0), .lit (.slice none 0 0), .lit (.bool false)])], 139⟩) (n0 := _) (E0 := _) (⟨true, (r.hold ++ [c]), r.places, r.told, by exact ⟨htl, hT0, fun e => by cases e⟩, rfl, rfl⟩) (ren [(2, 2), (3, 3), (4, 4)]) (mk_wk [(2, 2), (3, 3), (4, 4)] rfl rfl ⟨⟨_, rfl, (.ptr _ _ _ rfl (lookNe rfl))⟩, ⟨_, rfl, (.ptr _ _ _ rfl (lookNe rfl))⟩, ⟨_, rfl, (.ptr _ _ _ rfl (lookNe rfl))⟩, ⟨_, rfl, (subFz rfl (fzL rfl) (by rw [chunkCells_app]; rfl))⟩, ⟨_, rfl, (.lit _)⟩, trivial⟩ ⟨⟨_, _, rfl, rfl, (.cons ((.lit _)) (.cons (.frz _ _ _ _ rfl (fzL rfl)) (.cons ((.lit _)) (.cons ((.lit _)) (.cons ((.lit _)) (.cons ((.shr _ _)) (.cons ((.shr _ _)) (.cons ((.lit _)) .nil))))))))⟩, ⟨_, _, rfl, rfl, (subPL rfl)⟩, ⟨_, _, rfl, rfl, (subPL rfl)⟩, trivial⟩ (parOk hpar rfl)) (fun n_ E hR => ?_)
       obtain ⟨b, h, p, T, hI, rfl, rfl⟩ := hR
       obtain ⟨hI0, hI1, hI2⟩ := hI
       refine vw_seq ?_
       refine vw_seq ?_
       refine vw_region ?_
       refine s_move rfl rfl trivial (fun h87 => ?_) (fun h87 => ?_)
       ·refine u_end trivial ?_
        refine vw_condT rfl ?_
        refine vw_skip ?_
        refine vw_block ?_
        refine vw_seq ?_
        refine vw_region ?_
        refine u_assign rfl rfl trivial ?_
        refine u_end trivial ?_
        refine vw_seq ?_
        refine vw_region ?_
        refine u_move rfl rfl trivial ?_
        refine u_len rfl rfl rfl trivial ?_
        refine u_move rfl rfl trivial ?_
        refine u_end trivial ?_
        refine vw_block ?_
        refine vw_loopR (fun n_ E => ∃ (j : Nat), ((j ≤ h.length) ∧ ((h.take j).any (readyB p) = false)) ∧ n_ = h.length - j ∧ E = ⟨[(2, .ptr 2 0), (3, .ptr 3 0), (4, .ptr 4 0), (9, .shr 6 (chunkCells h)), (10, .lit (.bool false)), (88, .shr 6 (chunkCells h)), (89, .lit (.int .i64 (chunkCells h).length)), (90, .lit (.int .i64 j))], [(2, .box [.lit (.int .i64 x1), .shr 1 (intCells e1), .lit (.int .i64 p.a), .lit (.int .i64 p.b), .lit (.int .i64 p.c), .shr 6 (chunkCells r.hold), .shr 2 (msgCells T), .lit (.bool true)]), (3, .box (chunkAV c)), (4, .box [.lit (.int .i64 0), .lit (.slice none 0 0), .lit (.int .i64 0), .lit (.int .i64 0), .lit (.int .i64 0), .lit (.slice none 0 0), .lit (.slice none 0 0), .lit (.bool false)])], 139⟩) (n0 := _) (E0 := _) (⟨0, by exact ⟨Nat.zero_le _, rfl⟩, rfl, rfl⟩) (ren [(2, 2), (3, 3), (4, 4)]) (mk_wk [(2, 2), (3, 3), (4, 4)] rfl rfl ⟨⟨_, rfl, (.ptr _ _ _ rfl (lookNe rfl))⟩, ⟨_, rfl, (.ptr _ _ _ rfl (lookNe rfl))⟩, ⟨_, rfl, (.ptr _ _ _ rfl (lookNe rfl))⟩, ⟨_, rfl, (.shr _ _)⟩, ⟨_, rfl, (.lit _)⟩, ⟨_, rfl, (.shr _ _)⟩, ⟨_, rfl, (.lit _)⟩, ⟨_, rfl, (.lit _)⟩, trivial⟩ ⟨⟨_, _, rfl, rfl, (subPL rfl)⟩, ⟨_, _, rfl, rfl, (subPL rfl)⟩, ⟨_, _, rfl, rfl, (subPL rfl)⟩, trivial⟩ (parOk hpar rfl)) (fun n_ E hR => ?_)
        obtain ⟨j, hI, rfl, rfl⟩ := hR
        obtain ⟨hJ0, hJ1⟩ := hI
        refine vw_seq ?_
        refine vw_region ?_
        refine s_lss rfl rfl rfl trivial (fun h91 => ?_) (fun h91 => ?_)
        ·refine u_end trivial ?_
         refine vw_seq ?_
         refine vw_condT rfl ?_
         refine vw_skip ?_
         refine vw_seq ?_
         refine vw_block ?_
         refine vw_seq ?_
         rw [chunkCells_length] at h91
         obtain ⟨y, hy⟩ : ∃ y, h[j]? = some y := ⟨_, List.getElem?_eq_getElem (by omega)⟩
         have hyj : h[j]'(by omega) = y := (List.getElem?_eq_some_iff.1 hy).2
         have hbb : (T.length : Int) + h.length = r.next + r.early.length + 1 := hI1.1
         refine vw_region ?_
         refine u_move rfl rfl trivial ?_
         refine u_indexS rfl rfl rfl rfl rfl rfl (chunkCells_get' hy) rfl trivial ?_
         refine u_loadSAll rfl rfl rfl rfl rfl trivial ?_
         refine u_alloc 208 rfl rfl (notPar hpar rfl) rfl rfl trivial ?_
         refine u_assign rfl rfl trivial ?_
         refine u_storeAll rfl rfl rfl rfl rfl rfl rfl rfl trivial ?_
         refine u_end trivial ?_
         refine vw_seq ?_
         rcases st3 hI1 y (List.mem_of_getElem? hy) with hq | hq | hq
         ·refine vw_draw ?_
          refine u_fieldAddr rfl rfl rfl rfl rfl rfl trivial ?_
          refine u_load1 rfl rfl rfl rfl rfl rfl trivial ?_
          refine u_fieldAddr rfl rfl rfl rfl rfl rfl trivial ?_
          refine u_load1 rfl rfl rfl rfl rfl rfl trivial ?_
          refine u_fieldAddr rfl rfl rfl rfl rfl rfl trivial ?_
          refine u_indexA (i := 0) rfl rfl rfl rfl rfl (by exact hq) (by decide) rfl trivial ?_
          refine u_load1 rfl rfl rfl rfl rfl rfl trivial ?_
          refine s_eql rfl rfl rfl trivial (fun h102 => ?_) (fun h102 => ?_)
          ·refine u_end (by kernel_rfl) ?_
           refine vw_condT rfl ?_
           refine vw_seq ?_
           have hjl : j < h.length := by omega
           have hry : readyB p (h[j]'hjl) = true := by rw [hyj, ready_is]; unfold Places.get; rw [hq]; simpa using h102
           have hstep : tell1 (h, p, T) = some ((h.eraseIdx j), (p.bump (h[j]'hjl).stream), (T ++ [((h[j]'hjl).stream, (h[j]'hjl).data)])) := tell1_at hjl hry (any_take_get hJ1 hJ0)
           have hT2 := taleOk_step hI1 hstep
           have hb : (T.length : Int) + h.length = (r.next + r.early.length + 1) := hI1.1
           have hpb : 0 ≤ p.a ∧ 0 ≤ p.b ∧ 0 ≤ p.c ∧ p.a + p.b + p.c = T.length := hI1.2.1
           refine vw_draw ?_
           refine u_buildSlice 209 rfl rfl rfl rfl rfl rfl rfl rfl rfl rfl (notPar hpar rfl) rfl rfl trivial ?_
           refine u_fieldAddr rfl rfl rfl rfl rfl rfl trivial ?_
           refine u_load1 rfl rfl rfl rfl rfl rfl trivial ?_
           refine u_append 210 rfl rfl rfl (.shr _ _) rfl (notPar hpar rfl) rfl rfl rfl rfl rfl (by simp [cellsL, msgCells_length]; omega) rfl trivial ?_
           refine u_fieldAddr rfl rfl rfl rfl rfl rfl trivial ?_
           refine u_load1 rfl rfl rfl rfl rfl rfl trivial ?_
           refine u_fieldAddr rfl rfl rfl rfl rfl rfl trivial ?_
           refine u_load1 rfl rfl rfl rfl rfl rfl trivial ?_
           refine u_build rfl rfl rfl rfl rfl trivial ?_
           refine u_buildSlice 211 rfl rfl rfl rfl rfl rfl rfl rfl rfl rfl (notPar hpar rfl) rfl rfl trivial ?_
           refine u_append 212 rfl rfl rfl (srcRow rfl) rfl (notPar hpar rfl) rfl rfl rfl rfl rfl (by simp [cellsL, msgCells_length]; omega) rfl trivial ?_
           refine u_fieldAddr rfl rfl rfl rfl rfl rfl trivial ?_
           refine u_store rfl rfl rfl rfl rfl rfl rfl trivial ?_
           refine u_end (by kernel_rfl) ?_
           refine vw_seq ?_
           refine vw_draw ?_
           refine u_fieldAddr rfl rfl rfl rfl rfl rfl trivial ?_
           refine u_load1 rfl rfl rfl rfl rfl rfl trivial ?_
           refine u_fieldAddr rfl rfl rfl rfl rfl rfl trivial ?_
           refine u_load1 rfl rfl rfl rfl rfl rfl trivial ?_
           refine u_fieldAddr rfl rfl rfl rfl rfl rfl trivial ?_
           refine u_indexA (i := 0) rfl rfl rfl rfl rfl (by exact hq) (by decide) rfl trivial ?_
           refine u_load1 rfl rfl rfl rfl rfl rfl trivial ?_
           refine u_add rfl rfl rfl (by unfold inI; omega) rfl trivial ?_
           refine u_fieldAddr rfl rfl rfl rfl rfl rfl trivial ?_
           refine u_indexA (i := 0) rfl rfl rfl rfl rfl (by exact hq) (by decide) rfl trivial ?_
           refine u_store rfl rfl rfl rfl rfl rfl rfl trivial ?_
           refine u_end (by kernel_rfl) ?_
           refine vw_seq ?_
           refine vw_draw ?_
           refine u_buildSlice 213 rfl rfl rfl rfl rfl rfl rfl rfl rfl rfl (notPar hpar rfl) rfl rfl trivial ?_
           refine u_move rfl rfl trivial ?_
           refine u_move rfl rfl trivial ?_
           refine u_sliceHi j rfl rfl (by rfl) (by simp only [chunkCells_length]; omega) rfl rfl rfl rfl trivial ?_
           refine u_append 214 rfl rfl rfl (.shr _ _) rfl (notPar hpar rfl) rfl rfl rfl rfl rfl (by simp [cellsL, chunkCells_length]; omega) rfl trivial ?_
           refine u_move rfl rfl trivial ?_
           refine u_move rfl rfl trivial ?_
           refine u_add rfl rfl rfl (by have := hI1.1; simp only at this; unfold inI; omega) rfl trivial ?_
           refine u_sliceLo (j + 1) rfl rfl (by omega) (by simp only [chunkCells_length]; omega) rfl rfl rfl rfl trivial ?_
           refine u_append 215 rfl rfl rfl (.shr _ _) rfl (notPar hpar rfl) rfl rfl rfl rfl rfl (by simp [cellsL, chunkCells_length]; omega) rfl trivial ?_
           refine u_assign rfl rfl trivial ?_
           refine u_end (by kernel_rfl) ?_
           refine vw_seq ?_
           refine vw_region ?_
           refine u_assign rfl rfl trivial ?_
           refine u_end trivial ?_
           refine vw_exit ?_
           refine iteN (by decide) ?_
           refine iteP rfl ?_
           refine ⟨_, _, ren [(2, 2), (3, 3), (4, 4)], ?_, ⟨true, (h.eraseIdx j), (p.bump (h[j]'hjl).stream), (T ++ [((h[j]'hjl).stream, (h[j]'hjl).data)]), ?_, rfl, rfl⟩, mk_wk [(2, 2), (3, 3), (4, 4)] rfl rfl ⟨⟨_, rfl, (.ptr _ _ _ rfl (lookNe rfl))⟩, ⟨_, rfl, (.ptr _ _ _ rfl (lookNe rfl))⟩, ⟨_, rfl, (.ptr _ _ _ rfl (lookNe rfl))⟩, ⟨_, rfl, (subFz rfl (fzL rfl) (by rw [erase_cells]; rfl))⟩, ⟨_, rfl, (.lit _)⟩, trivial⟩ ⟨⟨_, _, rfl, rfl, (.cons ((.lit _)) (.cons ((.shr _ _)) (.cons (subI (by rw [hyj]; first | (rw [hq]; rfl) | simp [Places.bump, hq])) (.cons (subI (by rw [hyj]; first | (rw [hq]; rfl) | simp [Places.bump, hq])) (.cons (subI (by rw [hyj]; first | (rw [hq]; rfl) | simp [Places.bump, hq])) (.cons ((.shr _ _)) (.cons (subFz rfl (fzL rfl) (by rw [msgCells_app, hyj]; rfl)) (.cons ((.lit _)) .nil))))))))⟩, ⟨_, _, rfl, rfl, (subPL rfl)⟩, ⟨_, _, rfl, rfl, (subPL rfl)⟩, trivial⟩ (parOk hpar rfl)⟩
           ·rw [h87, List.length_eraseIdx, if_pos hjl]; simp; omega
           ·exact ⟨by rw [← hI0]; exact (tellAll_step hstep).symm, hT2, fun e => by cases e⟩
          ·refine u_end (by kernel_rfl) ?_
           refine vw_condF rfl ?_
           refine vw_skip ?_
           refine vw_region ?_
           refine u_add rfl rfl rfl (by unfold inI; omega) rfl trivial ?_
           refine u_move rfl rfl trivial ?_
           refine u_end trivial ?_
           refine ⟨_, _, ren [(2, 2), (3, 3), (4, 4)], ?_, ⟨j + 1, ?_, rfl, rfl⟩, mk_wk [(2, 2), (3, 3), (4, 4)] rfl rfl ⟨⟨_, rfl, (.ptr _ _ _ rfl (lookNe rfl))⟩, ⟨_, rfl, (.ptr _ _ _ rfl (lookNe rfl))⟩, ⟨_, rfl, (.ptr _ _ _ rfl (lookNe rfl))⟩, ⟨_, rfl, (.shr _ _)⟩, ⟨_, rfl, (.lit _)⟩, ⟨_, rfl, (.shr _ _)⟩, ⟨_, rfl, (.lit _)⟩, ⟨_, rfl, (.lit _)⟩, trivial⟩ ⟨⟨_, _, rfl, rfl, (subPL rfl)⟩, ⟨_, _, rfl, rfl, (subPL rfl)⟩, ⟨_, _, rfl, rfl, (subPL rfl)⟩, trivial⟩ (parOk hpar rfl)⟩
           ·omega
           ·refine ⟨by omega, ?_⟩
            rw [any_snoc (by omega), hJ1, hyj, ready_is]
            unfold Places.get
            rw [hq]
            simpa using h102
         ·refine vw_draw ?_
          refine u_fieldAddr rfl rfl rfl rfl rfl rfl trivial ?_
          refine u_load1 rfl rfl rfl rfl rfl rfl trivial ?_
          refine u_fieldAddr rfl rfl rfl rfl rfl rfl trivial ?_
          refine u_load1 rfl rfl rfl rfl rfl rfl trivial ?_
          refine u_fieldAddr rfl rfl rfl rfl rfl rfl trivial ?_
          refine u_indexA (i := 1) rfl rfl rfl rfl rfl (by exact hq) (by decide) rfl trivial ?_
          refine u_load1 rfl rfl rfl rfl rfl rfl trivial ?_
          refine s_eql rfl rfl rfl trivial (fun h102 => ?_) (fun h102 => ?_)
          ·refine u_end (by kernel_rfl) ?_
           refine vw_condT rfl ?_
           refine vw_seq ?_
           have hjl : j < h.length := by omega
           have hry : readyB p (h[j]'hjl) = true := by rw [hyj, ready_is]; unfold Places.get; rw [hq]; simpa using h102
           have hstep : tell1 (h, p, T) = some ((h.eraseIdx j), (p.bump (h[j]'hjl).stream), (T ++ [((h[j]'hjl).stream, (h[j]'hjl).data)])) := tell1_at hjl hry (any_take_get hJ1 hJ0)
           have hT2 := taleOk_step hI1 hstep
           have hb : (T.length : Int) + h.length = (r.next + r.early.length + 1) := hI1.1
           have hpb : 0 ≤ p.a ∧ 0 ≤ p.b ∧ 0 ≤ p.c ∧ p.a + p.b + p.c = T.length := hI1.2.1
           refine vw_draw ?_
           refine u_buildSlice 209 rfl rfl rfl rfl rfl rfl rfl rfl rfl rfl (notPar hpar rfl) rfl rfl trivial ?_
           refine u_fieldAddr rfl rfl rfl rfl rfl rfl trivial ?_
           refine u_load1 rfl rfl rfl rfl rfl rfl trivial ?_
           refine u_append 210 rfl rfl rfl (.shr _ _) rfl (notPar hpar rfl) rfl rfl rfl rfl rfl (by simp [cellsL, msgCells_length]; omega) rfl trivial ?_
           refine u_fieldAddr rfl rfl rfl rfl rfl rfl trivial ?_
           refine u_load1 rfl rfl rfl rfl rfl rfl trivial ?_
           refine u_fieldAddr rfl rfl rfl rfl rfl rfl trivial ?_
           refine u_load1 rfl rfl rfl rfl rfl rfl trivial ?_
           refine u_build rfl rfl rfl rfl rfl trivial ?_
           refine u_buildSlice 211 rfl rfl rfl rfl rfl rfl rfl rfl rfl rfl (notPar hpar rfl) rfl rfl trivial ?_
           refine u_append 212 rfl rfl rfl (srcRow rfl) rfl (notPar hpar rfl) rfl rfl rfl rfl rfl (by simp [cellsL, msgCells_length]; omega) rfl trivial ?_
           refine u_fieldAddr rfl rfl rfl rfl rfl rfl trivial ?_
           refine u_store rfl rfl rfl rfl rfl rfl rfl trivial ?_
           refine u_end (by kernel_rfl) ?_
           refine vw_seq ?_
           refine vw_draw ?_
           refine u_fieldAddr rfl rfl rfl rfl rfl rfl trivial ?_
           refine u_load1 rfl rfl rfl rfl rfl rfl trivial ?_
           refine u_fieldAddr rfl rfl rfl rfl rfl rfl trivial ?_
           refine u_load1 rfl rfl rfl rfl rfl rfl trivial ?_
           refine u_fieldAddr rfl rfl rfl rfl rfl rfl trivial ?_
           refine u_indexA (i := 1) rfl rfl rfl rfl rfl (by exact hq) (by decide) rfl trivial ?_
           refine u_load1 rfl rfl rfl rfl rfl rfl trivial ?_
           refine u_add rfl rfl rfl (by unfold inI; omega) rfl trivial ?_
           refine u_fieldAddr rfl rfl rfl rfl rfl rfl trivial ?_
           refine u_indexA (i := 1) rfl rfl rfl rfl rfl (by exact hq) (by decide) rfl trivial ?_
           refine u_store rfl rfl rfl rfl rfl rfl rfl trivial ?_
           refine u_end (by kernel_rfl) ?_
           refine vw_seq ?_
           refine vw_draw ?_
           refine u_buildSlice 213 rfl rfl rfl rfl rfl rfl rfl rfl rfl rfl (notPar hpar rfl) rfl rfl trivial ?_
           refine u_move rfl rfl trivial ?_
           refine u_move rfl rfl trivial ?_
           refine u_sliceHi j rfl rfl (by rfl) (by simp only [chunkCells_length]; omega) rfl rfl rfl rfl trivial ?_
           refine u_append 214 rfl rfl rfl (.shr _ _) rfl (notPar hpar rfl) rfl rfl rfl rfl rfl (by simp [cellsL, chunkCells_length]; omega) rfl trivial ?_
           refine u_move rfl rfl trivial ?_
           refine u_move rfl rfl trivial ?_
           refine u_add rfl rfl rfl (by have := hI1.1; simp only at this; unfold inI; omega) rfl trivial ?_
           refine u_sliceLo (j + 1) rfl rfl (by omega) (by simp only [chunkCells_length]; omega) rfl rfl rfl rfl trivial ?_
           refine u_append 215 rfl rfl rfl (.shr _ _) rfl (notPar hpar rfl) rfl rfl rfl rfl rfl (by simp [cellsL, chunkCells_length]; omega) rfl trivial ?_
           refine u_assign rfl rfl trivial ?_
           refine u_end (by kernel_rfl) ?_
           refine vw_seq ?_
           refine vw_region ?_
           refine u_assign rfl rfl trivial ?_
           refine u_end trivial ?_
           refine vw_exit ?_
           refine iteN (by decide) ?_
           refine iteP rfl ?_
           refine ⟨_, _, ren [(2, 2), (3, 3), (4, 4)], ?_, ⟨true, (h.eraseIdx j), (p.bump (h[j]'hjl).stream), (T ++ [((h[j]'hjl).stream, (h[j]'hjl).data)]), ?_, rfl, rfl⟩, mk_wk [(2, 2), (3, 3), (4, 4)] rfl rfl ⟨⟨_, rfl, (.ptr _ _ _ rfl (lookNe rfl))⟩, ⟨_, rfl, (.ptr _ _ _ rfl (lookNe rfl))⟩, ⟨_, rfl, (.ptr _ _ _ rfl (lookNe rfl))⟩, ⟨_, rfl, (subFz rfl (fzL rfl) (by rw [erase_cells]; rfl))⟩, ⟨_, rfl, (.lit _)⟩, trivial⟩ ⟨⟨_, _, rfl, rfl, (.cons ((.lit _)) (.cons ((.shr _ _)) (.cons (subI (by rw [hyj]; first | (rw [hq]; rfl) | simp [Places.bump, hq])) (.cons (subI (by rw [hyj]; first | (rw [hq]; rfl) | simp [Places.bump, hq])) (.cons (subI (by rw [hyj]; first | (rw [hq]; rfl) | simp [Places.bump, hq])) (.cons ((.shr _ _)) (.cons (subFz rfl (fzL rfl) (by rw [msgCells_app, hyj]; rfl)) (.cons ((.lit _)) .nil))))))))⟩, ⟨_, _, rfl, rfl, (subPL rfl)⟩, ⟨_, _, rfl, rfl, (subPL rfl)⟩, trivial⟩ (parOk hpar rfl)⟩
           ·rw [h87, List.length_eraseIdx, if_pos hjl]; simp; omega
           ·exact ⟨by rw [← hI0]; exact (tellAll_step hstep).symm, hT2, fun e => by cases e⟩
          ·refine u_end (by kernel_rfl) ?_
           refine vw_condF rfl ?_
           refine vw_skip ?_
           refine vw_region ?_
           refine u_add rfl rfl rfl (by unfold inI; omega) rfl trivial ?_
           refine u_move rfl rfl trivial ?_
           refine u_end trivial ?_
           refine ⟨_, _, ren [(2, 2), (3, 3), (4, 4)], ?_, ⟨j + 1, ?_, rfl, rfl⟩, mk_wk [(2, 2), (3, 3), (4, 4)] rfl rfl ⟨⟨_, rfl, (.ptr _ _ _ rfl (lookNe rfl))⟩, ⟨_, rfl, (.ptr _ _ _ rfl (lookNe rfl))⟩, ⟨_, rfl, (.ptr _ _ _ rfl (lookNe rfl))⟩, ⟨_, rfl, (.shr _ _)⟩, ⟨_, rfl, (.lit _)⟩, ⟨_, rfl, (.shr _ _)⟩, ⟨_, rfl, (.lit _)⟩, ⟨_, rfl, (.lit _)⟩, trivial⟩ ⟨⟨_, _, rfl, rfl, (subPL rfl)⟩, ⟨_, _, rfl, rfl, (subPL rfl)⟩, ⟨_, _, rfl, rfl, (subPL rfl)⟩, trivial⟩ (parOk hpar rfl)⟩
           ·omega
           ·refine ⟨by omega, ?_⟩
            rw [any_snoc (by omega), hJ1, hyj, ready_is]
            unfold Places.get
            rw [hq]
            simpa using h102
         ·refine vw_draw ?_
          refine u_fieldAddr rfl rfl rfl rfl rfl rfl trivial ?_
          refine u_load1 rfl rfl rfl rfl rfl rfl trivial ?_
          refine u_fieldAddr rfl rfl rfl rfl rfl rfl trivial ?_
          refine u_load1 rfl rfl rfl rfl rfl rfl trivial ?_
          refine u_fieldAddr rfl rfl rfl rfl rfl rfl trivial ?_
          refine u_indexA (i := 2) rfl rfl rfl rfl rfl (by exact hq) (by decide) rfl trivial ?_
          refine u_load1 rfl rfl rfl rfl rfl rfl trivial ?_
          refine s_eql rfl rfl rfl trivial (fun h102 => ?_) (fun h102 => ?_)
          ·refine u_end (by kernel_rfl) ?_
           refine vw_condT rfl ?_
           refine vw_seq ?_
           have hjl : j < h.length := by omega
           have hry : readyB p (h[j]'hjl) = true := by rw [hyj, ready_is]; unfold Places.get; rw [hq]; simpa using h102
           have hstep : tell1 (h, p, T) = some ((h.eraseIdx j), (p.bump (h[j]'hjl).stream), (T ++ [((h[j]'hjl).stream, (h[j]'hjl).data)])) := tell1_at hjl hry (any_take_get hJ1 hJ0)
           have hT2 := taleOk_step hI1 hstep
           have hb : (T.length : Int) + h.length = (r.next + r.early.length + 1) := hI1.1
           have hpb : 0 ≤ p.a ∧ 0 ≤ p.b ∧ 0 ≤ p.c ∧ p.a + p.b + p.c = T.length := hI1.2.1
           refine vw_draw ?_
           refine u_buildSlice 209 rfl rfl rfl rfl rfl rfl rfl rfl rfl rfl (notPar hpar rfl) rfl rfl trivial ?_
           refine u_fieldAddr rfl rfl rfl rfl rfl rfl trivial ?_
           refine u_load1 rfl rfl rfl rfl rfl rfl trivial ?_
           refine u_append 210 rfl rfl rfl (.shr _ _) rfl (notPar hpar rfl) rfl rfl rfl rfl rfl (by simp [cellsL, msgCells_length]; omega) rfl trivial ?_
           refine u_fieldAddr rfl rfl rfl rfl rfl rfl trivial ?_
           refine u_load1 rfl rfl rfl rfl rfl rfl trivial ?_
           refine u_fieldAddr rfl rfl rfl rfl rfl rfl trivial ?_
           refine u_load1 rfl rfl rfl rfl rfl rfl trivial ?_
           refine u_build rfl rfl rfl rfl rfl trivial ?_
           refine u_buildSlice 211 rfl rfl rfl rfl rfl rfl rfl rfl rfl rfl (notPar hpar rfl) rfl rfl trivial ?_
           refine u_append 212 rfl rfl rfl (srcRow rfl) rfl (notPar hpar rfl) rfl rfl rfl rfl rfl (by simp [cellsL, msgCells_length]; omega) rfl trivial ?_
           refine u_fieldAddr rfl rfl rfl rfl rfl rfl trivial ?_
           refine u_store rfl rfl rfl rfl rfl rfl rfl trivial ?_
           refine u_end (by kernel_rfl) ?_
           refine vw_seq ?_
           refine vw_draw ?_
           refine u_fieldAddr rfl rfl rfl rfl rfl rfl trivial ?_
           refine u_load1 rfl rfl rfl rfl rfl rfl trivial ?_
           refine u_fieldAddr rfl rfl rfl rfl rfl rfl trivial ?_
           refine u_load1 rfl rfl rfl rfl rfl rfl trivial ?_
           refine u_fieldAddr rfl rfl rfl rfl rfl rfl trivial ?_
           refine u_indexA (i := 2) rfl rfl rfl rfl rfl (by exact hq) (by decide) rfl trivial ?_
           refine u_load1 rfl rfl rfl rfl rfl rfl trivial ?_
           refine u_add rfl rfl rfl (by unfold inI; omega) rfl trivial ?_
           refine u_fieldAddr rfl rfl rfl rfl rfl rfl trivial ?_
           refine u_indexA (i := 2) rfl rfl rfl rfl rfl (by exact hq) (by decide) rfl trivial ?_
           refine u_store rfl rfl rfl rfl rfl rfl rfl trivial ?_
           refine u_end (by kernel_rfl) ?_
           refine vw_seq ?_
           refine vw_draw ?_
           refine u_buildSlice 213 rfl rfl rfl rfl rfl rfl rfl rfl rfl rfl (notPar hpar rfl) rfl rfl trivial ?_
           refine u_move rfl rfl trivial ?_
           refine u_move rfl rfl trivial ?_
           refine u_sliceHi j rfl rfl (by rfl) (by simp only [chunkCells_length]; omega) rfl rfl rfl rfl trivial ?_
           refine u_append 214 rfl rfl rfl (.shr _ _) rfl (notPar hpar rfl) rfl rfl rfl rfl rfl (by simp [cellsL, chunkCells_length]; omega) rfl trivial ?_
           refine u_move rfl rfl trivial ?_
           refine u_move rfl rfl trivial ?_
           refine u_add rfl rfl rfl (by have := hI1.1; simp only at this; unfold inI; omega) rfl trivial ?_
           refine u_sliceLo (j + 1) rfl rfl (by omega) (by simp only [chunkCells_length]; omega) rfl rfl rfl rfl trivial ?_
           refine u_append 215 rfl rfl rfl (.shr _ _) rfl (notPar hpar rfl) rfl rfl rfl rfl rfl (by simp [cellsL, chunkCells_length]; omega) rfl trivial ?_
           refine u_assign rfl rfl trivial ?_
           refine u_end (by kernel_rfl) ?_
           refine vw_seq ?_
           refine vw_region ?_
           refine u_assign rfl rfl trivial ?_
           refine u_end trivial ?_
           refine vw_exit ?_
           refine iteN (by decide) ?_
           refine iteP rfl ?_
           refine ⟨_, _, ren [(2, 2), (3, 3), (4, 4)], ?_, ⟨true, (h.eraseIdx j), (p.bump (h[j]'hjl).stream), (T ++ [((h[j]'hjl).stream, (h[j]'hjl).data)]), ?_, rfl, rfl⟩, mk_wk [(2, 2), (3, 3), (4, 4)] rfl rfl ⟨⟨_, rfl, (.ptr _ _ _ rfl (lookNe rfl))⟩, ⟨_, rfl, (.ptr _ _ _ rfl (lookNe rfl))⟩, ⟨_, rfl, (.ptr _ _ _ rfl (lookNe rfl))⟩, ⟨_, rfl, (subFz rfl (fzL rfl) (by rw [erase_cells]; rfl))⟩, ⟨_, rfl, (.lit _)⟩, trivial⟩ ⟨⟨_, _, rfl, rfl, (.cons ((.lit _)) (.cons ((.shr _ _)) (.cons (subI (by rw [hyj]; first | (rw [hq]; rfl) | simp [Places.bump, hq])) (.cons (subI (by rw [hyj]; first | (rw [hq]; rfl) | simp [Places.bump, hq])) (.cons (subI (by rw [hyj]; first | (rw [hq]; rfl) | simp [Places.bump, hq])) (.cons ((.shr _ _)) (.cons (subFz rfl (fzL rfl) (by rw [msgCells_app, hyj]; rfl)) (.cons ((.lit _)) .nil))))))))⟩, ⟨_, _, rfl, rfl, (subPL rfl)⟩, ⟨_, _, rfl, rfl, (subPL rfl)⟩, trivial⟩ (parOk hpar rfl)⟩
           ·rw [h87, List.length_eraseIdx, if_pos hjl]; simp; omega
           ·exact ⟨by rw [← hI0]; exact (tellAll_step hstep).symm, hT2, fun e => by cases e⟩
          ·refine u_end (by kernel_rfl) ?_
           refine vw_condF rfl ?_
           refine vw_skip ?_
           refine vw_region ?_
           refine u_add rfl rfl rfl (by unfold inI; omega) rfl trivial ?_
           refine u_move rfl rfl trivial ?_
           refine u_end trivial ?_
           refine ⟨_, _, ren [(2, 2), (3, 3), (4, 4)], ?_, ⟨j + 1, ?_, rfl, rfl⟩, mk_wk [(2, 2), (3, 3), (4, 4)] rfl rfl ⟨⟨_, rfl, (.ptr _ _ _ rfl (lookNe rfl))⟩, ⟨_, rfl, (.ptr _ _ _ rfl (lookNe rfl))⟩, ⟨_, rfl, (.ptr _ _ _ rfl (lookNe rfl))⟩, ⟨_, rfl, (.shr _ _)⟩, ⟨_, rfl, (.lit _)⟩, ⟨_, rfl, (.shr _ _)⟩, ⟨_, rfl, (.lit _)⟩, ⟨_, rfl, (.lit _)⟩, trivial⟩ ⟨⟨_, _, rfl, rfl, (subPL rfl)⟩, ⟨_, _, rfl, rfl, (subPL rfl)⟩, ⟨_, _, rfl, rfl, (subPL rfl)⟩, trivial⟩ (parOk hpar rfl)⟩
           ·omega
           ·refine ⟨by omega, ?_⟩
            rw [any_snoc (by omega), hJ1, hyj, ready_is]
            unfold Places.get
            rw [hq]
            simpa using h102
        ·refine u_end trivial ?_
         refine vw_seq ?_
         refine vw_condF rfl ?_
         refine vw_exit ?_
         refine iteP rfl ?_
         refine ⟨_, _, ren [(2, 2), (3, 3), (4, 4)], ?_, ⟨false, h, p, T, ?_, rfl, rfl⟩, mk_wk [(2, 2), (3, 3), (4, 4)] rfl rfl ⟨⟨_, rfl, (.ptr _ _ _ rfl (lookNe rfl))⟩, ⟨_, rfl, (.ptr _ _ _ rfl (lookNe rfl))⟩, ⟨_, rfl, (.ptr _ _ _ rfl (lookNe rfl))⟩, ⟨_, rfl, (.shr _ _)⟩, ⟨_, rfl, (.lit _)⟩, trivial⟩ ⟨⟨_, _, rfl, rfl, (subPL rfl)⟩, ⟨_, _, rfl, rfl, (subPL rfl)⟩, ⟨_, _, rfl, rfl, (subPL rfl)⟩, trivial⟩ (parOk hpar rfl)⟩
         ·rw [h87]; simp
         ·rw [chunkCells_length] at h91
          rw [List.take_of_length_le (by omega)] at hJ1
          exact ⟨hI0, hI1, fun _ => tell1_no (take_any_all hJ1)⟩
       ·refine u_end trivial ?_
        refine vw_condF rfl ?_
        refine vw_exit ?_
        refine iteP rfl ?_
        refine vw_seq ?_
        refine vw_region ?_
        refine u_move rfl rfl trivial ?_
        refine u_fieldAddr rfl rfl rfl rfl rfl rfl trivial ?_
        refine u_store rfl rfl rfl rfl rfl rfl rfl trivial ?_
        refine u_end trivial ?_
        refine vw_seq ?_
        refine vw_region ?_
        refine u_loadAll rfl rfl rfl rfl rfl rfl trivial ?_
        refine u_storeAll rfl rfl rfl rfl rfl rfl rfl rfl trivial ?_
        refine u_end trivial ?_
        refine vw_ret ?_
        rw [tellAll_none (hI2 h87)] at hI0
        cases hI0
        rw [rhear_takes hk hnr hst htl]
        refine fin' [] (.inr rfl) (.cons (.cellN rfl rfl rfl rfl rfl) .nil) (mk_wk [] rfl rfl ⟨⟨_, rfl, (.agg _ _ (.cons (subI ?_) (.cons (subS ?_) (.cons (subI ?_) (.cons (subI ?_) (.cons (subI ?_) (.cons (subS ?_) (.cons (subS ?_) (.cons (subB ?_) .nil)))))))))⟩, trivial⟩ trivial (parOk rfl rfl))
        all_goals (try rfl)
    ·refine u_move rfl rfl ⟨_, _, rfl, rfl, rfl, rfl⟩ ?_
     refine u_skip rfl rfl rfl rfl rfl ?_
     refine u_skip rfl rfl rfl rfl rfl ?_
     refine u_skip rfl rfl rfl rfl rfl ?_
     refine u_skip rfl rfl rfl rfl rfl ?_
     refine u_pickF rfl rfl rfl ⟨_, _, rfl, rfl, rfl, rfl⟩ ?_
     refine u_pickF rfl rfl rfl trivial ?_
     refine u_end trivial ?_
     refine vw_condF rfl ?_
     refine vw_skip ?_
     have hk : c.kind = 1 := by omega
     have hnr : ¬ refuses r c.num := by
       rintro (h | h | h)
       · omega
       · exact hne h
       · obtain ⟨g1, g2⟩ := h
         first | omega | ((try simp only [msgCells_length, chunkCells_length, intCells_length, byteCells_length] at *); omega)
     obtain ⟨e1, x1, hst⟩ : ∃ e x, strip (insertS c.num r.early) r.next = (e, x) := ⟨_, _, rfl⟩
     obtain ⟨h1, p1, T1, htl⟩ : ∃ h p T, tellAll (r.hold ++ [c], r.places, r.told) = (h, p, T) := ⟨_, _, _, rfl⟩
     have hT0 := taleOk0 hr hc hk
     have hcv := covers0 hr hc hk hne (by omega)
     refine vw_meet (Covers ([c.num] ++ r.early) e1 x1 ∧ (0 ≤ x1 ∧ x1 ≤ 40) ∧ ∀ y ∈ e1, x1 < y) (⟨[(2, .ptr 2 0), (3, .ptr 3 0), (4, .ptr 4 0), (5, .mp 15)], [(2, .box [.lit (.int .i64 x1), .shr 1 (intCells r.early), .lit (.int .i64 r.places.a), .lit (.int .i64 r.places.b), .lit (.int .i64 r.places.c), .shr 6 (chunkCells r.hold), .shr 2 (msgCells r.told), .lit (.bool true)]), (3, .box (chunkAV c)), (4, .box [.lit (.int .i64 0), .lit (.slice none 0 0), .lit (.int .i64 0), .lit (.int .i64 0), .lit (.int .i64 0), .lit (.slice none 0 0), .lit (.slice none 0 0), .lit (.bool false)]), (15, .set ([c.num] ++ r.early))], 139⟩) ?_ (fun hA16 => ?_)
     ·refine vw_block ?_
      refine vw_loopR (fun n_ E => ∃ (l : List Int) (x : Int), ((strip l x = (e1, x1)) ∧ (Covers ([c.num] ++ r.early) l x) ∧ (0 ≤ x ∧ x ≤ 40)) ∧ n_ = l.length ∧ E = ⟨[(2, .ptr 2 0), (3, .ptr 3 0), (4, .ptr 4 0), (5, .mp 15)], [(2, .box [.lit (.int .i64 x), .shr 1 (intCells r.early), .lit (.int .i64 r.places.a), .lit (.int .i64 r.places.b), .lit (.int .i64 r.places.c), .shr 6 (chunkCells r.hold), .shr 2 (msgCells r.told), .lit (.bool true)]), (3, .box (chunkAV c)), (4, .box [.lit (.int .i64 0), .lit (.slice none 0 0), .lit (.int .i64 0), .lit (.int .i64 0), .lit (.int .i64 0), .lit (.slice none 0 0), .lit (.slice none 0 0), .lit (.bool false)]), (15, .set ([c.num] ++ r.early))], 139⟩) (n0 := _) (E0 := _) (⟨insertS c.num r.early, r.next, by exact ⟨hst, hcv, hn0⟩, rfl, rfl⟩) (ren [(2, 2), (3, 3), (4, 4), (15, 15)]) (mk_wk [(2, 2), (3, 3), (4, 4), (15, 15)] rfl rfl ⟨⟨_, rfl, (.ptr _ _ _ rfl (lookNe rfl))⟩, ⟨_, rfl, (.ptr _ _ _ rfl (lookNe rfl))⟩, ⟨_, rfl, (.ptr _ _ _ rfl (lookNe rfl))⟩, ⟨_, rfl, (.mp _ _ rfl (lookNe rfl))⟩, trivial⟩ ⟨⟨_, _, rfl, rfl, (subPL rfl)⟩, ⟨_, _, rfl, rfl, (subPL rfl)⟩, ⟨_, _, rfl, rfl, (subPL rfl)⟩, ⟨_, rfl, rfl⟩, trivial⟩ (parOk hpar rfl)) (fun n_ E hR => ?_)
      obtain ⟨l, x, hI, rfl, rfl⟩ := hR
      obtain ⟨hI0, hI1, hI2⟩ := hI
      refine vw_seq ?_
      refine vw_seq ?_
      refine vw_region ?_
      refine u_move rfl rfl trivial ?_
      refine u_fieldAddr rfl rfl rfl rfl rfl rfl trivial ?_
      refine u_load1 rfl rfl rfl rfl rfl rfl trivial ?_
      refine s_lookup rfl rfl rfl rfl rfl rfl zero4 rfl trivial (fun h59 => ?_) (fun h59 => ?_)
      ·refine u_end trivial ?_
       refine vw_condT rfl ?_
       refine vw_skip ?_
       refine vw_block ?_
       obtain ⟨l', hl1, hl2⟩ := covers_hit hI1 h59
       have hx40 := (hI1.2.1 x (by rw [hl1]; simp)).2
       refine vw_region ?_
       refine u_fieldAddr rfl rfl rfl rfl rfl rfl trivial ?_
       refine u_load1 rfl rfl rfl rfl rfl rfl trivial ?_
       refine u_add rfl rfl rfl (by unfold inI; omega) rfl trivial ?_
       refine u_fieldAddr rfl rfl rfl rfl rfl rfl trivial ?_
       refine u_store rfl rfl rfl rfl rfl rfl rfl trivial ?_
       refine u_end trivial ?_
       refine ⟨_, _, ren [(2, 2), (3, 3), (4, 4), (15, 15)], ?_, ⟨l', x + 1, ?_, rfl, rfl⟩, mk_wk [(2, 2), (3, 3), (4, 4), (15, 15)] rfl rfl ⟨⟨_, rfl, (.ptr _ _ _ rfl (lookNe rfl))⟩, ⟨_, rfl, (.ptr _ _ _ rfl (lookNe rfl))⟩, ⟨_, rfl, (.ptr _ _ _ rfl (lookNe rfl))⟩, ⟨_, rfl, (.mp _ _ rfl (lookNe rfl))⟩, trivial⟩ ⟨⟨_, _, rfl, rfl, (subPL rfl)⟩, ⟨_, _, rfl, rfl, (subPL rfl)⟩, ⟨_, _, rfl, rfl, (subPL rfl)⟩, ⟨_, rfl, rfl⟩, trivial⟩ (parOk hpar rfl)⟩
       ·rw [hl1]; simp
       ·refine ⟨by rw [← hI0, hl1, strip_cons_eq], hl2, ?_⟩
        have := (hI1.2.1 x (by rw [hl1]; simp)).2
        omega
      ·refine u_end trivial ?_
       refine vw_condF rfl ?_
       refine vw_exit ?_
       refine iteP rfl ?_
       refine ⟨?_, ren [(2, 2), (3, 3), (4, 4), (15, 15)], mk_wk [(2, 2), (3, 3), (4, 4), (15, 15)] rfl rfl ⟨⟨_, rfl, (.ptr _ _ _ rfl (lookNe rfl))⟩, ⟨_, rfl, (.ptr _ _ _ rfl (lookNe rfl))⟩, ⟨_, rfl, (.ptr _ _ _ rfl (lookNe rfl))⟩, ⟨_, rfl, (.mp _ _ rfl (lookNe rfl))⟩, trivial⟩ ⟨⟨_, _, rfl, rfl, (.cons (subI (by rw [(covers_miss hI1 h59).1] at hI0; cases hI0; rfl)) (.cons ((.shr _ _)) (.cons ((.lit _)) (.cons ((.lit _)) (.cons ((.lit _)) (.cons ((.shr _ _)) (.cons ((.shr _ _)) (.cons ((.lit _)) .nil))))))))⟩, ⟨_, _, rfl, rfl, (subPL rfl)⟩, ⟨_, _, rfl, rfl, (subPL rfl)⟩, ⟨_, rfl, rfl⟩, trivial⟩ (parOk hpar rfl)⟩
       ·obtain ⟨g1, g2⟩ := covers_miss hI1 h59
        rw [g1] at hI0
        cases hI0
        exact ⟨hI1, hI2, g2⟩
     obtain ⟨hE1, hE2, hE3⟩ := hA16
     refine vw_seq ?_
     refine vw_region ?_
     refine u_fieldAddr rfl rfl rfl rfl rfl rfl trivial ?_
     refine u_store rfl rfl rfl rfl rfl rfl rfl trivial ?_
     refine u_end trivial ?_
     refine vw_seq ?_
     refine vw_seq ?_
     refine vw_region ?_
     refine u_fieldAddr rfl rfl rfl rfl rfl rfl trivial ?_
     refine u_load1 rfl rfl rfl rfl rfl rfl trivial ?_
     refine u_assign rfl rfl trivial ?_
     refine u_end trivial ?_
     refine vw_block ?_
     refine vw_loopR (fun n_ E => ∃ (k : Int) (a : List Int), ((a = e1.filter (fun y => decide (y < k))) ∧ (x1 ≤ k ∧ k ≤ 40)) ∧ n_ = (40 - k).toNat ∧ E = ⟨[(2, .ptr 2 0), (3, .ptr 3 0), (4, .ptr 4 0), (5, .mp 15), (8, .lit (.int .i64 k))], [(2, .box [.lit (.int .i64 x1), .row 906, .lit (.int .i64 r.places.a), .lit (.int .i64 r.places.b), .lit (.int .i64 r.places.c), .shr 6 (chunkCells r.hold), .shr 2 (msgCells r.told), .lit (.bool true)]), (3, .box (chunkAV c)), (4, .box [.lit (.int .i64 0), .lit (.slice none 0 0), .lit (.int .i64 0), .lit (.int .i64 0), .lit (.int .i64 0), .lit (.slice none 0 0), .lit (.slice none 0 0), .lit (.bool false)]), (906, .row 3 1 (intCells a)), (15, .set ([c.num] ++ r.early))], 139⟩) (n0 := _) (E0 := _) (⟨x1, [], by exact ⟨(filter_lt_0 hE3).symm, Int.le_refl _, hE2.2⟩, rfl, rfl⟩) (ren [(2, 2), (3, 3), (4, 4), (15, 15)]) (mk_wk [(2, 2), (3, 3), (4, 4), (15, 15)] rfl rfl ⟨⟨_, rfl, (.ptr _ _ _ rfl (lookNe rfl))⟩, ⟨_, rfl, (.ptr _ _ _ rfl (lookNe rfl))⟩, ⟨_, rfl, (.ptr _ _ _ rfl (lookNe rfl))⟩, ⟨_, rfl, (.mp _ _ rfl (lookNe rfl))⟩, ⟨_, rfl, (.lit _)⟩, trivial⟩ ⟨⟨_, _, rfl, rfl, (.cons ((.lit _)) (.cons (.nilrow _ _ _ _ rfl rfl) (.cons ((.lit _)) (.cons ((.lit _)) (.cons ((.lit _)) (.cons ((.shr _ _)) (.cons ((.shr _ _)) (.cons ((.lit _)) .nil))))))))⟩, ⟨_, _, rfl, rfl, (subPL rfl)⟩, ⟨_, _, rfl, rfl, (subPL rfl)⟩, (.inr (.inl ⟨rfl, rfl⟩)), ⟨_, rfl, rfl⟩, trivial⟩ (parOk hpar rfl)) (fun n_ E hR => ?_)
     obtain ⟨k, a, hI, rfl, rfl⟩ := hR
     obtain ⟨hI0, hI1⟩ := hI
     refine vw_seq ?_
     refine vw_seq ?_
     refine vw_region ?_
     refine u_move rfl rfl trivial ?_
     refine s_lss rfl rfl rfl trivial (fun h68 => ?_) (fun h68 => ?_)
     ·refine u_end trivial ?_
      refine vw_condT rfl ?_
      refine vw_skip ?_
      refine vw_seq ?_
      refine vw_block ?_
      refine vw_seq ?_
      have hal : a.length ≤ e1.length := by rw [hI0]; exact List.length_filter_le _ _
      have hel := covers_len hE1 hE2.2
      refine vw_region ?_
      refine u_move rfl rfl trivial ?_
      refine u_move rfl rfl trivial ?_
      refine s_lookup rfl rfl rfl rfl rfl rfl zero4 rfl trivial (fun h73 => ?_) (fun h73 => ?_)
      ·refine u_end trivial ?_
       refine vw_condT rfl ?_
       refine vw_region ?_
       refine u_fieldAddr rfl rfl rfl rfl rfl rfl trivial ?_
       refine u_load1 rfl rfl rfl rfl rfl rfl trivial ?_
       refine u_move rfl rfl trivial ?_
       refine u_buildSlice 164 rfl rfl rfl rfl rfl rfl rfl rfl rfl rfl (notPar hpar rfl) rfl rfl trivial ?_
       refine u_append 165 rfl rfl rfl (srcRow rfl) rfl (notPar hpar rfl) rfl rfl rfl rfl rfl (by simp [cellsL, intCells]; omega) rfl trivial ?_
       refine u_fieldAddr rfl rfl rfl rfl rfl rfl trivial ?_
       refine u_store rfl rfl rfl rfl rfl rfl rfl trivial ?_
       refine u_end trivial ?_
       refine vw_region ?_
       refine u_move rfl rfl trivial ?_
       refine u_add rfl rfl rfl (by unfold inI; omega) rfl trivial ?_
       refine u_assign rfl rfl trivial ?_
       refine u_end trivial ?_
       refine ⟨_, _, ren [(2, 2), (3, 3), (4, 4), (15, 15), (906, 165)], ?_, ⟨k + 1, a ++ [k], ?_, rfl, rfl⟩, mk_wk [(2, 2), (3, 3), (4, 4), (15, 15), (906, 165)] rfl rfl ⟨⟨_, rfl, (.ptr _ _ _ rfl (lookNe rfl))⟩, ⟨_, rfl, (.ptr _ _ _ rfl (lookNe rfl))⟩, ⟨_, rfl, (.ptr _ _ _ rfl (lookNe rfl))⟩, ⟨_, rfl, (.mp _ _ rfl (lookNe rfl))⟩, ⟨_, rfl, (.lit _)⟩, trivial⟩ ⟨⟨_, _, rfl, rfl, (.cons ((.lit _)) (.cons ((.row _ _ rfl (lookNe rfl))) (.cons ((.lit _)) (.cons ((.lit _)) (.cons ((.lit _)) (.cons ((.shr _ _)) (.cons ((.shr _ _)) (.cons ((.lit _)) .nil))))))))⟩, ⟨_, _, rfl, rfl, (subPL rfl)⟩, ⟨_, _, rfl, rfl, (subPL rfl)⟩, (.inl ⟨_, rfl, rowEq rfl (by simp [intCells, cellsL, cellsOf])⟩), ⟨_, rfl, rfl⟩, trivial⟩ (parOk hpar rfl)⟩
       ·omega
       ·refine ⟨?_, by omega⟩
        rw [filter_lt_y hE1.1 ((hE1.2.2 k (by omega)).1 (by simpa using h73)), hI0]
      ·refine u_end trivial ?_
       refine vw_condF rfl ?_
       refine vw_skip ?_
       refine vw_region ?_
       refine u_move rfl rfl trivial ?_
       refine u_add rfl rfl rfl (by unfold inI; omega) rfl trivial ?_
       refine u_assign rfl rfl trivial ?_
       refine u_end trivial ?_
       refine ⟨_, _, ren [(2, 2), (3, 3), (4, 4), (15, 15), (906, 906)], ?_, ⟨k + 1, a, ?_, rfl, rfl⟩, mk_wk [(2, 2), (3, 3), (4, 4), (15, 15), (906, 906)] rfl rfl ⟨⟨_, rfl, (.ptr _ _ _ rfl (lookNe rfl))⟩, ⟨_, rfl, (.ptr _ _ _ rfl (lookNe rfl))⟩, ⟨_, rfl, (.ptr _ _ _ rfl (lookNe rfl))⟩, ⟨_, rfl, (.mp _ _ rfl (lookNe rfl))⟩, ⟨_, rfl, (.lit _)⟩, trivial⟩ ⟨⟨_, _, rfl, rfl, (.cons ((.lit _)) (.cons ((.row _ _ rfl (lookNe rfl))) (.cons ((.lit _)) (.cons ((.lit _)) (.cons ((.lit _)) (.cons ((.shr _ _)) (.cons ((.shr _ _)) (.cons ((.lit _)) .nil))))))))⟩, ⟨_, _, rfl, rfl, (subPL rfl)⟩, ⟨_, _, rfl, rfl, (subPL rfl)⟩, (.inl ⟨_, rfl, rfl⟩), ⟨_, rfl, rfl⟩, trivial⟩ (parOk hpar rfl)⟩
       ·omega
       ·refine ⟨?_, by omega⟩
        rw [filter_lt_n (fun hm => by have := (hE1.2.2 k (by omega)).2 hm; exact absurd (show ([c.num] ++ r.early).contains k = true by simpa using this) (by rw [h73]; decide)), hI0]
     ·refine u_end trivial ?_
      refine vw_condF rfl ?_
      refine vw_exit ?_
      refine iteP rfl ?_
      refine vw_seq ?_
      have hae : a = e1 := by rw [hI0]; exact filter_lt_40 (fun y hy => (hE1.2.1 y hy).2) (by omega)
      rw [hae]
      refine vw_draw ?_
      refine u_buildSlice 164 rfl rfl rfl rfl rfl rfl rfl rfl rfl rfl (notPar hpar rfl) rfl rfl trivial ?_
      refine u_fieldAddr rfl rfl rfl rfl rfl rfl trivial ?_
      refine u_load1 rfl rfl rfl rfl rfl rfl trivial ?_
      refine u_append 165 rfl rfl rfl (.shr _ _) rfl (notPar hpar rfl) rfl rfl rfl rfl rfl (by simp [cellsL, chunkCells_length]; omega) rfl trivial ?_
      refine u_loadAll rfl rfl rfl rfl rfl rfl trivial ?_
      refine u_buildSlice 166 rfl rfl rfl rfl rfl rfl rfl rfl rfl rfl (notPar hpar rfl) rfl rfl trivial ?_
      refine u_append 167 rfl rfl rfl (srcRow rfl) rfl (notPar hpar rfl) rfl rfl rfl rfl rfl (by simp [cellsL, chunkCells_length]; omega) rfl trivial ?_
      refine u_assign rfl rfl trivial ?_
      refine u_end (by kernel_rfl) ?_
      refine vw_seq ?_
      refine vw_seq ?_
      refine vw_region ?_
      refine u_assign rfl rfl trivial ?_
      refine u_end trivial ?_
      refine vw_block ?_
      refine vw_loopR (fun n_ E => ∃ (b : Bool) (h : List Chunk) (p : Places) (T : List Msg), ((tellAll (h, p, T) = (h1, p1, T1)) ∧ (TaleOk (r.next + r.early.length + 1) (h, p, T)) ∧ (b = false → tell1 (h, p, T) = none)) ∧ n_ = 2 * h.length + b.toNat ∧ E = ⟨[(2, .ptr 2 0), (3, .ptr 3 0), (4, .ptr 4 0), (9, .shr 6 (chunkCells h)), (10, .lit (.bool b))], [(2, .box [.lit (.int .i64 x1), .shr 1 (intCells e1), .lit (.int .i64 p.a), .lit (.int .i64 p.b), .lit (.int .i64 p.c), .shr 6 (chunkCells r.hold), .shr 2 (msgCells T), .lit (.bool true)]), (3, .box (chunkAV c)), (4, .box [.lit (.int .i64 0), .lit (.slice none 0 0), .lit (.int .i64 0), .lit (.int .i64 0), .lit (.int .i64 0), .lit (.slice none 0 0), .lit (.slice none 0 0), .lit (.bool false)])], 139⟩) (n0 := _) (E0 := _) (⟨true, (r.hold ++ [c]), r.places, r.told, by exact ⟨htl, hT0, fun e => by cases e⟩, rfl, rfl⟩) (ren [(2, 2), (3, 3), (4, 4)]) (mk_wk [(2, 2), (3, 3), (4, 4)] rfl rfl ⟨⟨_, rfl, (.ptr _ _ _ rfl (lookNe rfl))⟩, ⟨_, rfl, (.ptr _ _ _ rfl (lookNe rfl))⟩, ⟨_, rfl, (.ptr _ _ _ rfl (lookNe rfl))⟩, ⟨_, rfl, (subFz rfl (fzL rfl) (by rw [chunkCells_app]; rfl))⟩, ⟨_, rfl, (.lit _)⟩, trivial⟩ ⟨⟨_, _, rfl, rfl, (.cons ((.lit _)) (.cons (.frz _ _ _ _ rfl (fzL rfl)) (.cons ((.lit _)) (.cons ((.lit _)) (.cons ((.lit _)) (.cons ((.shr _ _)) (.cons ((.shr _ _)) (.cons ((.lit _)) .nil))))))))⟩, ⟨_, _, rfl, rfl, (subPL rfl)⟩, ⟨_, _, rfl, rfl, (subPL rfl)⟩, trivial⟩ (parOk hpar rfl)) (fun n_ E hR => ?_)
      obtain ⟨b, h, p, T, hI, rfl, rfl⟩ := hR
      obtain ⟨hI0, hI1, hI2⟩ := hI
      refine vw_seq ?_
      refine vw_seq ?_
      refine vw_region ?_
      refine s_move rfl rfl trivial (fun h87 => ?_) (fun h87 => ?_)
      ·refine u_end trivial ?_
       refine vw_condT rfl ?_
       refine vw_skip ?_
       refine vw_block ?_
       refine vw_seq ?_
       refine vw_region ?_
       refine u_assign rfl rfl trivial ?_
       refine u_end trivial ?_
       refine vw_seq ?_
       refine vw_region ?_
       refine u_move rfl rfl trivial ?_
       refine u_len rfl rfl rfl trivial ?_
       refine u_move rfl rfl trivial ?_
       refine u_end trivial ?_
       refine vw_block ?_
       refine vw_loopR (fun n_ E => ∃ (j : Nat), ((j ≤ h.length) ∧ ((h.take j).any (readyB p) = false)) ∧ n_ = h.length - j ∧ E = ⟨[(2, .ptr 2 0), (3, .ptr 3 0), (4, .ptr 4 0), (9, .shr 6 (chunkCells h)), (10, .lit (.bool false)), (88, .shr 6 (chunkCells h)), (89, .lit (.int .i64 (chunkCells h).length)), (90, .lit (.int .i64 j))], [(2, .box [.lit (.int .i64 x1), .shr 1 (intCells e1), .lit (.int .i64 p.a), .lit (.int .i64 p.b), .lit (.int .i64 p.c), .shr 6 (chunkCells r.hold), .shr 2 (msgCells T), .lit (.bool true)]), (3, .box (chunkAV c)), (4, .box [.lit (.int .i64 0), .lit (.slice none 0 0), .lit (.int .i64 0), .lit (.int .i64 0), .lit (.int .i64 0), .lit (.slice none 0 0), .lit (.slice none 0 0), .lit (.bool false)])], 139⟩) (n0 := _) (E0 := _) (⟨0, by exact ⟨Nat.zero_le _, rfl⟩, rfl, rfl⟩) (ren [(2, 2), (3, 3), (4, 4)]) (mk_wk [(2, 2), (3, 3), (4, 4)] rfl rfl ⟨⟨_, rfl, (.ptr _ _ _ rfl (lookNe rfl))⟩, ⟨_, rfl, (.ptr _ _ _ rfl (lookNe rfl))⟩, ⟨_, rfl, (.ptr _ _ _ rfl (lookNe rfl))⟩, ⟨_, rfl, (.shr _ _)⟩, ⟨_, rfl, (.lit _)⟩, ⟨_, rfl, (.shr _ _)⟩, ⟨_, rfl, (.lit _)⟩, ⟨_, rfl, (.lit _)⟩, trivial⟩ ⟨⟨_, _, rfl, rfl, (subPL rfl)⟩, ⟨_, _, rfl, rfl, (subPL rfl)⟩, ⟨_, _, rfl, rfl, (subPL rfl)⟩, trivial⟩ (parOk hpar rfl)) (fun n_ E hR => ?_)
       obtain ⟨j, hI, rfl, rfl⟩ := hR
       obtain ⟨hJ0, hJ1⟩ := hI
       refine vw_seq ?_
       refine vw_region ?_
       refine s_lss rfl rfl rfl trivial (fun h91 => ?_) (fun h91 => ?_)
       ·refine u_end trivial ?_
        refine vw_seq ?_
        refine vw_condT rfl ?_
        refine vw_skip ?_
        refine vw_seq ?_
        refine vw_block ?_
        refine vw_seq ?_
        rw [chunkCells_length] at h91
        obtain ⟨y, hy⟩ : ∃ y, h[j]? = some y := ⟨_, List.getElem?_eq_getElem (by omega)⟩
        have hyj : h[j]'(by omega) = y := (List.getElem?_eq_some_iff.1 hy).2
        have hbb : (T.length : Int) + h.length = r.next + r.early.length + 1 := hI1.1
        refine vw_region ?_
        refine u_move rfl rfl trivial ?_
        refine u_indexS rfl rfl rfl rfl rfl rfl (chunkCells_get' hy) rfl trivial ?_
        refine u_loadSAll rfl rfl rfl rfl rfl trivial ?_
        refine u_alloc 208 rfl rfl (notPar hpar rfl) rfl rfl trivial ?_
        refine u_assign rfl rfl trivial ?_
        refine u_storeAll rfl rfl rfl rfl rfl rfl rfl rfl trivial ?_
        refine u_end trivial ?_
        refine vw_seq ?_
        rcases st3 hI1 y (List.mem_of_getElem? hy) with hq | hq | hq
        ·refine vw_draw ?_
         refine u_fieldAddr rfl rfl rfl rfl rfl rfl trivial ?_
         refine u_load1 rfl rfl rfl rfl rfl rfl trivial ?_
         refine u_fieldAddr rfl rfl rfl rfl rfl rfl trivial ?_
         refine u_load1 rfl rfl rfl rfl rfl rfl trivial ?_
         refine u_fieldAddr rfl rfl rfl rfl rfl rfl trivial ?_
         refine u_indexA (i := 0) rfl rfl rfl rfl rfl (by exact hq) (by decide) rfl trivial ?_
         refine u_load1 rfl rfl rfl rfl rfl rfl trivial ?_
         refine s_eql rfl rfl rfl trivial (fun h102 => ?_) (fun h102 => ?_)
         ·refine u_end (by kernel_rfl) ?_
          refine vw_condT rfl ?_
          refine vw_seq ?_
          have hjl : j < h.length := by omega
          have hry : readyB p (h[j]'hjl) = true := by rw [hyj, ready_is]; unfold Places.get; rw [hq]; simpa using h102
          have hstep : tell1 (h, p, T) = some ((h.eraseIdx j), (p.bump (h[j]'hjl).stream), (T ++ [((h[j]'hjl).stream, (h[j]'hjl).data)])) := tell1_at hjl hry (any_take_get hJ1 hJ0)
          have hT2 := taleOk_step hI1 hstep
          have hb : (T.length : Int) + h.length = (r.next + r.early.length + 1) := hI1.1
          have hpb : 0 ≤ p.a ∧ 0 ≤ p.b ∧ 0 ≤ p.c ∧ p.a + p.b + p.c = T.length := hI1.2.1
          refine vw_draw ?_
          refine u_buildSlice 209 rfl rfl rfl rfl rfl rfl rfl rfl rfl rfl (notPar hpar rfl) rfl rfl trivial ?_
          refine u_fieldAddr rfl rfl rfl rfl rfl rfl trivial ?_
          refine u_load1 rfl rfl rfl rfl rfl rfl trivial ?_
          refine u_append 210 rfl rfl rfl (.shr _ _) rfl (notPar hpar rfl) rfl rfl rfl rfl rfl (by simp [cellsL, msgCells_length]; omega) rfl trivial ?_
          refine u_fieldAddr rfl rfl rfl rfl rfl rfl trivial ?_
          refine u_load1 rfl rfl rfl rfl rfl rfl trivial ?_
          refine u_fieldAddr rfl rfl rfl rfl rfl rfl trivial ?_
          refine u_load1 rfl rfl rfl rfl rfl rfl trivial ?_
          refine u_build rfl rfl rfl rfl rfl trivial ?_
          refine u_buildSlice 211 rfl rfl rfl rfl rfl rfl rfl rfl rfl rfl (notPar hpar rfl) rfl rfl trivial ?_
          refine u_append 212 rfl rfl rfl (srcRow rfl) rfl (notPar hpar rfl) rfl rfl rfl rfl rfl (by simp [cellsL, msgCells_length]; omega) rfl trivial ?_
          refine u_fieldAddr rfl rfl rfl rfl rfl rfl trivial ?_
          refine u_store rfl rfl rfl rfl rfl rfl rfl trivial ?_
          refine u_end (by kernel_rfl) ?_
          refine vw_seq ?_
          refine vw_draw ?_
          refine u_fieldAddr rfl rfl rfl rfl rfl rfl trivial ?_
          refine u_load1 rfl rfl rfl rfl rfl rfl trivial ?_
          refine u_fieldAddr rfl rfl rfl rfl rfl rfl trivial ?_
          refine u_load1 rfl rfl rfl rfl rfl rfl trivial ?_
          refine u_fieldAddr rfl rfl rfl rfl rfl rfl trivial ?_
          refine u_indexA (i := 0) rfl rfl rfl rfl rfl (by exact hq) (by decide) rfl trivial ?_
          refine u_load1 rfl rfl rfl rfl rfl rfl trivial ?_
          refine u_add rfl rfl rfl (by unfold inI; omega) rfl trivial ?_
          refine u_fieldAddr rfl rfl rfl rfl rfl rfl trivial ?_
          refine u_indexA (i := 0) rfl rfl rfl rfl rfl (by exact hq) (by decide) rfl trivial ?_
          refine u_store rfl rfl rfl rfl rfl rfl rfl trivial ?_
          refine u_end (by kernel_rfl) ?_
          refine vw_seq ?_
          refine vw_draw ?_
          refine u_buildSlice 213 rfl rfl rfl rfl rfl rfl rfl rfl rfl rfl (notPar hpar rfl) rfl rfl trivial ?_
          refine u_move rfl rfl trivial ?_
          refine u_move rfl rfl trivial ?_
          refine u_sliceHi j rfl rfl (by rfl) (by simp only [chunkCells_length]; omega) rfl rfl rfl rfl trivial ?_
          refine u_append 214 rfl rfl rfl (.shr _ _) rfl (notPar hpar rfl) rfl rfl rfl rfl rfl (by simp [cellsL, chunkCells_length]; omega) rfl trivial ?_
          refine u_move rfl rfl trivial ?_
          refine u_move rfl rfl trivial ?_
          refine u_add rfl rfl rfl (by have := hI1.1; simp only at this; unfold inI; omega) rfl trivial ?_
          refine u_sliceLo (j + 1) rfl rfl (by omega) (by simp only [chunkCells_length]; omega) rfl rfl rfl rfl trivial ?_
          refine u_append 215 rfl rfl rfl (.shr _ _) rfl (notPar hpar rfl) rfl rfl rfl rfl rfl (by simp [cellsL, chunkCells_length]; omega) rfl trivial ?_
          refine u_assign rfl rfl trivial ?_
          refine u_end (by kernel_rfl) ?_
          refine vw_seq ?_
          refine vw_region ?_
          refine u_assign rfl rfl trivial ?_
          refine u_end trivial ?_
          refine vw_exit ?_
          refine iteN (by decide) ?_
          refine iteP rfl ?_
          refine ⟨_, _, ren [(2, 2), (3, 3), (4, 4)], ?_, ⟨true, (h.eraseIdx j), (p.bump (h[j]'hjl).stream), (T ++ [((h[j]'hjl).stream, (h[j]'hjl).data)]), ?_, rfl, rfl⟩, mk_wk [(2, 2), (3, 3), (4, 4)] rfl rfl ⟨⟨_, rfl, (.ptr _ _ _ rfl (lookNe rfl))⟩, ⟨_, rfl, (.ptr _ _ _ rfl (lookNe rfl))⟩, ⟨_, rfl, (.ptr _ _ _ rfl (lookNe rfl))⟩, ⟨_, rfl, (subFz rfl (fzL rfl) (by rw [erase_cells]; rfl))⟩, ⟨_, rfl, (.lit _)⟩, trivial⟩ ⟨⟨_, _, rfl, rfl, (.cons ((.lit _)) (.cons ((.shr _ _)) (.cons (subI (by rw [hyj]; first | (rw [hq]; rfl) | simp [Places.bump, hq])) (.cons (subI (by rw [hyj]; first | (rw [hq]; rfl) | simp [Places.bump, hq])) (.cons (subI (by rw [hyj]; first | (rw [hq]; rfl) | simp [Places.bump, hq])) (.cons ((.shr _ _)) (.cons (subFz rfl (fzL rfl) (by rw [msgCells_app, hyj]; rfl)) (.cons ((.lit _)) .nil))))))))⟩, ⟨_, _, rfl, rfl, (subPL rfl)⟩, ⟨_, _, rfl, rfl, (subPL rfl)⟩, trivial⟩ (parOk hpar rfl)⟩
          ·rw [h87, List.length_eraseIdx, if_pos hjl]; simp; omega
          ·exact ⟨by rw [← hI0]; exact (tellAll_step hstep).symm, hT2, fun e => by cases e⟩
         ·refine u_end (by kernel_rfl) ?_
          refine vw_condF rfl ?_
          refine vw_skip ?_
          refine vw_region ?_
          refine u_add rfl rfl rfl (by unfold inI; omega) rfl trivial ?_
          refine u_move rfl rfl trivial ?_
          refine u_end trivial ?_
          refine ⟨_, _, ren [(2, 2), (3, 3), (4, 4)], ?_, ⟨j + 1, ?_, rfl, rfl⟩, mk_wk [(2, 2), (3, 3), (4, 4)] rfl rfl ⟨⟨_, rfl, (.ptr _ _ _ rfl (lookNe rfl))⟩, ⟨_, rfl, (.ptr _ _ _ rfl (lookNe rfl))⟩, ⟨_, rfl, (.ptr _ _ _ rfl (lookNe rfl))⟩, ⟨_, rfl, (.shr _ _)⟩, ⟨_, rfl, (.lit _)⟩, ⟨_, rfl, (.shr _ _)⟩, ⟨_, rfl, (.lit _)⟩, ⟨_, rfl, (.lit _)⟩, trivial⟩ ⟨⟨_, _, rfl, rfl, (subPL rfl)⟩, ⟨_, _, rfl, rfl, (subPL rfl)⟩, ⟨_, _, rfl, rfl, (subPL rfl)⟩, trivial⟩ (parOk hpar rfl)⟩
          ·omega
          ·refine ⟨by omega, ?_⟩
           rw [any_snoc (by omega), hJ1, hyj, ready_is]
           unfold Places.get
           rw [hq]
           simpa using h102
        ·refine vw_draw ?_
         refine u_fieldAddr rfl rfl rfl rfl rfl rfl trivial ?_
         refine u_load1 rfl rfl rfl rfl rfl rfl trivial ?_
         refine u_fieldAddr rfl rfl rfl rfl rfl rfl trivial ?_
         refine u_load1 rfl rfl rfl rfl rfl rfl trivial ?_
         refine u_fieldAddr rfl rfl rfl rfl rfl rfl trivial ?_
         refine u_indexA (i := 1) rfl rfl rfl rfl rfl (by exact hq) (by decide) rfl trivial ?_
         refine u_load1 rfl rfl rfl rfl rfl rfl trivial ?_
         refine s_eql rfl rfl rfl trivial (fun h102 => ?_) (fun h102 => ?_)
         ·refine u_end (by kernel_rfl) ?_
          refine vw_condT rfl ?_
          refine vw_seq ?_
          have hjl : j < h.length := by omega
          have hry : readyB p (h[j]'hjl) = true := by rw [hyj, ready_is]; unfold Places.get; rw [hq]; simpa using h102
          have hstep : tell1 (h, p, T) = some ((h.eraseIdx j), (p.bump (h[j]'hjl).stream), (T ++ [((h[j]'hjl).stream, (h[j]'hjl).data)])) := tell1_at hjl hry (any_take_get hJ1 hJ0)
          have hT2 := taleOk_step hI1 hstep
          have hb : (T.length : Int) + h.length = (r.next + r.early.length + 1) := hI1.1
          have hpb : 0 ≤ p.a ∧ 0 ≤ p.b ∧ 0 ≤ p.c ∧ p.a + p.b + p.c = T.length := hI1.2.1
          refine vw_draw ?_
          refine u_buildSlice 209 rfl rfl rfl rfl rfl rfl rfl rfl rfl rfl (notPar hpar rfl) rfl rfl trivial ?_
          refine u_fieldAddr rfl rfl rfl rfl rfl rfl trivial ?_
          refine u_load1 rfl rfl rfl rfl rfl rfl trivial ?_
          refine u_append 210 rfl rfl rfl (.shr _ _) rfl (notPar hpar rfl) rfl rfl rfl rfl rfl (by simp [cellsL, msgCells_length]; omega) rfl trivial ?_
          refine u_fieldAddr rfl rfl rfl rfl rfl rfl trivial ?_
          refine u_load1 rfl rfl rfl rfl rfl rfl trivial ?_
          refine u_fieldAddr rfl rfl rfl rfl rfl rfl trivial ?_
          refine u_load1 rfl rfl rfl rfl rfl rfl trivial ?_
          refine u_build rfl rfl rfl rfl rfl trivial ?_
          refine u_buildSlice 211 rfl rfl rfl rfl rfl rfl rfl rfl rfl rfl (notPar hpar rfl) rfl rfl trivial ?_
          refine u_append 212 rfl rfl rfl (srcRow rfl) rfl (notPar hpar rfl) rfl rfl rfl rfl rfl (by simp [cellsL, msgCells_length]; omega) rfl trivial ?_
          refine u_fieldAddr rfl rfl rfl rfl rfl rfl trivial ?_
          refine u_store rfl rfl rfl rfl rfl rfl rfl trivial ?_
          refine u_end (by kernel_rfl) ?_
          refine vw_seq ?_
          refine vw_draw ?_
          refine u_fieldAddr rfl rfl rfl rfl rfl rfl trivial ?_
          refine u_load1 rfl rfl rfl rfl rfl rfl trivial ?_
          refine u_fieldAddr rfl rfl rfl rfl rfl rfl trivial ?_
          refine u_load1 rfl rfl rfl rfl rfl rfl trivial ?_
          refine u_fieldAddr rfl rfl rfl rfl rfl rfl trivial ?_
          refine u_indexA (i := 1) rfl rfl rfl rfl rfl (by exact hq) (by decide) rfl trivial ?_
          refine u_load1 rfl rfl rfl rfl rfl rfl trivial ?_
          refine u_add rfl rfl rfl (by unfold inI; omega) rfl trivial ?_
          refine u_fieldAddr rfl rfl rfl rfl rfl rfl trivial ?_
          refine u_indexA (i := 1) rfl rfl rfl rfl rfl (by exact hq) (by decide) rfl trivial ?_
          refine u_store rfl rfl rfl rfl rfl rfl rfl trivial ?_
          refine u_end (by kernel_rfl) ?_
          refine vw_seq ?_
          refine vw_draw ?_
          refine u_buildSlice 213 rfl rfl rfl rfl rfl rfl rfl rfl rfl rfl (notPar hpar rfl) rfl rfl trivial ?_
          refine u_move rfl rfl trivial ?_
          refine u_move rfl rfl trivial ?_
          refine u_sliceHi j rfl rfl (by rfl) (by simp only [chunkCells_length]; omega) rfl rfl rfl rfl trivial ?_
          refine u_append 214 rfl rfl rfl (.shr _ _) rfl (notPar hpar rfl) rfl rfl rfl rfl rfl (by simp [cellsL, chunkCells_length]; omega) rfl trivial ?_
          refine u_move rfl rfl trivial ?_
          refine u_move rfl rfl trivial ?_
          refine u_add rfl rfl rfl (by have := hI1.1; simp only at this; unfold inI; omega) rfl trivial ?_
          refine u_sliceLo (j + 1) rfl rfl (by omega) (by simp only [chunkCells_length]; omega) rfl rfl rfl rfl trivial ?_
          refine u_append 215 rfl rfl rfl (.shr _ _) rfl (notPar hpar rfl) rfl rfl rfl rfl rfl (by simp [cellsL, chunkCells_length]; omega) rfl trivial ?_
          refine u_assign rfl rfl trivial ?_
          refine u_end (by kernel_rfl) ?_
          refine vw_seq ?_
          refine vw_region ?_
          refine u_assign rfl rfl trivial ?_
          refine u_end trivial ?_
          refine vw_exit ?_
          refine iteN (by decide) ?_
          refine iteP rfl ?_
          refine ⟨_, _, ren [(2, 2), (3, 3), (4, 4)], ?_, ⟨true, (h.eraseIdx j), (p.bump (h[j]'hjl).stream), (T ++ [((h[j]'hjl).stream, (h[j]'hjl).data)]), ?_, rfl, rfl⟩, mk_wk [(2, 2), (3, 3), (4, 4)] rfl rfl ⟨⟨_, rfl, (.ptr _ _ _ rfl (lookNe rfl))⟩, ⟨_, rfl, (.ptr _ _ _ rfl (lookNe rfl))⟩, ⟨_, rfl, (.ptr _ _ _ rfl (lookNe rfl))⟩, ⟨_, rfl, (subFz rfl (fzL rfl) (by rw [erase_cells]; rfl))⟩, ⟨_, rfl, (.lit _)⟩, trivial⟩ ⟨⟨_, _, rfl, rfl, (.cons ((.lit _)) (.cons ((.shr _ _)) (.cons (subI (by rw [hyj]; first | (rw [hq]; rfl) | simp [Places.bump, hq])) (.cons (subI (by rw [hyj]; first | (rw [hq]; rfl) | simp [Places.bump, hq])) (.cons (subI (by rw [hyj]; first | (rw [hq]; rfl) | simp [Places.bump, hq])) (.cons ((.shr _ _)) (.cons (subFz rfl (fzL rfl) (by rw [msgCells_app, hyj]; rfl)) (.cons ((.lit _)) .nil))))))))⟩, ⟨_, _, rfl, rfl, (subPL rfl)⟩, ⟨_, _, rfl, rfl, (subPL rfl)⟩, trivial⟩ (parOk hpar rfl)⟩
          ·rw [h87, List.length_eraseIdx, if_pos hjl]; simp; omega
          ·exact ⟨by rw [← hI0]; exact (tellAll_step hstep).symm, hT2, fun e => by cases e⟩
         ·refine u_end (by kernel_rfl) ?_
          refine vw_condF rfl ?_
          refine vw_skip ?_
          refine vw_region ?_
          refine u_add rfl rfl rfl (by unfold inI; omega) rfl trivial ?_
          refine u_move rfl rfl trivial ?_
          refine u_end trivial ?_
          refine ⟨_, _, ren [(2, 2), (3, 3), (4, 4)], ?_, ⟨j + 1, ?_, rfl, rfl⟩, mk_wk [(2, 2), (3, 3), (4, 4)] rfl rfl ⟨⟨_, rfl, (.ptr _ _ _ rfl (lookNe rfl))⟩, ⟨_, rfl, (.ptr _ _ _ rfl (lookNe rfl))⟩, ⟨_, rfl, (.ptr _ _ _ rfl (lookNe rfl))⟩, ⟨_, rfl, (.shr _ _)⟩, ⟨_, rfl, (.lit _)⟩, ⟨_, rfl, (.shr _ _)⟩, ⟨_, rfl, (.lit _)⟩, ⟨_, rfl, (.lit _)⟩, trivial⟩ ⟨⟨_, _, rfl, rfl, (subPL rfl)⟩, ⟨_, _, rfl, rfl, (subPL rfl)⟩, ⟨_, _, rfl, rfl, (subPL rfl)⟩, trivial⟩ (parOk hpar rfl)⟩
          ·omega
          ·refine ⟨by omega, ?_⟩
           rw [any_snoc (by omega), hJ1, hyj, ready_is]
           unfold Places.get
           rw [hq]
           simpa using h102
        ·refine vw_draw ?_
         refine u_fieldAddr rfl rfl rfl rfl rfl rfl trivial ?_
         refine u_load1 rfl rfl rfl rfl rfl rfl trivial ?_
         refine u_fieldAddr rfl rfl rfl rfl rfl rfl trivial ?_
         refine u_load1 rfl rfl rfl rfl rfl rfl trivial ?_
         refine u_fieldAddr rfl rfl rfl rfl rfl rfl trivial ?_
         refine u_indexA (i := 2) rfl rfl rfl rfl rfl (by exact hq) (by decide) rfl trivial ?_
         refine u_load1 rfl rfl rfl rfl rfl rfl trivial ?_
         refine s_eql rfl rfl rfl trivial (fun h102 => ?_) (fun h102 => ?_)
         ·refine u_end (by kernel_rfl) ?_
          refine vw_condT rfl ?_
          refine vw_seq ?_
          have hjl : j < h.length := by omega
          have hry : readyB p (h[j]'hjl) = true := by rw [hyj, ready_is]; unfold Places.get; rw [hq]; simpa using h102
          have hstep : tell1 (h, p, T) = some ((h.eraseIdx j), (p.bump (h[j]'hjl).stream), (T ++ [((h[j]'hjl).stream, (h[j]'hjl).data)])) := tell1_at hjl hry (any_take_get hJ1 hJ0)
          have hT2 := taleOk_step hI1 hstep
          have hb : (T.length : Int) + h.length = (r.next + r.early.length + 1) := hI1.1
          have hpb : 0 ≤ p.a ∧ 0 ≤ p.b ∧ 0 ≤ p.c ∧ p.a + p.b + p.c = T.length := hI1.2.1
          refine vw_draw ?_
          refine u_buildSlice 209 rfl rfl rfl rfl rfl rfl rfl rfl rfl rfl (notPar hpar rfl) rfl rfl trivial ?_
          refine u_fieldAddr rfl rfl rfl rfl rfl rfl trivial ?_
          refine u_load1 rfl rfl rfl rfl rfl rfl trivial ?_
          refine u_append 210 rfl rfl rfl (.shr _ _) rfl (notPar hpar rfl) rfl rfl rfl rfl rfl (by simp [cellsL, msgCells_length]; omega) rfl trivial ?_
          refine u_fieldAddr rfl rfl rfl rfl rfl rfl trivial ?_
          refine u_load1 rfl rfl rfl rfl rfl rfl trivial ?_
          refine u_fieldAddr rfl rfl rfl rfl rfl rfl trivial ?_
          refine u_load1 rfl rfl rfl rfl rfl rfl trivial ?_
          refine u_build rfl rfl rfl rfl rfl trivial ?_
          refine u_buildSlice 211 rfl rfl rfl rfl rfl rfl rfl rfl rfl rfl (notPar hpar rfl) rfl rfl trivial ?_
          refine u_append 212 rfl rfl rfl (srcRow rfl) rfl (notPar hpar rfl) rfl rfl rfl rfl rfl (by simp [cellsL, msgCells_length]; omega) rfl trivial ?_
          refine u_fieldAddr rfl rfl rfl rfl rfl rfl trivial ?_
          refine u_store rfl rfl rfl rfl rfl rfl rfl trivial ?_
          refine u_end (by kernel_rfl) ?_
          refine vw_seq ?_
          refine vw_draw ?_
          refine u_fieldAddr rfl rfl rfl rfl rfl rfl trivial ?_
          refine u_load1 rfl rfl rfl rfl rfl rfl trivial ?_
          refine u_fieldAddr rfl rfl rfl rfl rfl rfl trivial ?_
          refine u_load1 rfl rfl rfl rfl rfl rfl trivial ?_
          refine u_fieldAddr rfl rfl rfl rfl rfl rfl trivial ?_
          refine u_indexA (i := 2) rfl rfl rfl rfl rfl (by exact hq) (by decide) rfl trivial ?_
          refine u_load1 rfl rfl rfl rfl rfl rfl trivial ?_
          refine u_add rfl rfl rfl (by unfold inI; omega) rfl trivial ?_
          refine u_fieldAddr rfl rfl rfl rfl rfl rfl trivial ?_
          refine u_indexA (i := 2) rfl rfl rfl rfl rfl (by exact hq) (by decide) rfl trivial ?_
          refine u_store rfl rfl rfl rfl rfl rfl rfl trivial ?_
          refine u_end (by kernel_rfl) ?_
          refine vw_seq ?_
          refine vw_draw ?_
          refine u_buildSlice 213 rfl rfl rfl rfl rfl rfl rfl rfl rfl rfl (notPar hpar rfl) rfl rfl trivial ?_
          refine u_move rfl rfl trivial ?_
          refine u_move rfl rfl trivial ?_
          refine u_sliceHi j rfl rfl (by rfl) (by simp only [chunkCells_length]; omega) rfl rfl rfl rfl trivial ?_
          refine u_append 214 rfl rfl rfl (.shr _ _) rfl (notPar hpar rfl) rfl rfl rfl rfl rfl (by simp [cellsL, chunkCells_length]; omega) rfl trivial ?_
          refine u_move rfl rfl trivial ?_
          refine u_move rfl rfl trivial ?_
          refine u_add rfl rfl rfl (by have := hI1.1; simp only at this; unfold inI; omega) rfl trivial ?_
          refine u_sliceLo (j + 1) rfl rfl (by omega) (by simp only [chunkCells_length]; omega) rfl rfl rfl rfl trivial ?_
          refine u_append 215 rfl rfl rfl (.shr _ _) rfl (notPar hpar rfl) rfl rfl rfl rfl rfl (by simp [cellsL, chunkCells_length]; omega) rfl trivial ?_
          refine u_assign rfl rfl trivial ?_
          refine u_end (by kernel_rfl) ?_
          refine vw_seq ?_
          refine vw_region ?_
          refine u_assign rfl rfl trivial ?_
          refine u_end trivial ?_
          refine vw_exit ?_
          refine iteN (by decide) ?_
          refine iteP rfl ?_
          refine ⟨_, _, ren [(2, 2), (3, 3), (4, 4)], ?_, ⟨true, (h.eraseIdx j), (p.bump (h[j]'hjl).stream), (T ++ [((h[j]'hjl).stream, (h[j]'hjl).data)]), ?_, rfl, rfl⟩, mk_wk [(2, 2), (3, 3), (4, 4)] rfl rfl ⟨⟨_, rfl, (.ptr _ _ _ rfl (lookNe rfl))⟩, ⟨_, rfl, (.ptr _ _ _ rfl (lookNe rfl))⟩, ⟨_, rfl, (.ptr _ _ _ rfl (lookNe rfl))⟩, ⟨_, rfl, (subFz rfl (fzL rfl) (by rw [erase_cells]; rfl))⟩, ⟨_, rfl, (.lit _)⟩, trivial⟩ ⟨⟨_, _, rfl, rfl, (.cons ((.lit _)) (.cons ((.shr _ _)) (.cons (subI (by rw [hyj]; first | (rw [hq]; rfl) | simp [Places.bump, hq])) (.cons (subI (by rw [hyj]; first | (rw [hq]; rfl) | simp [Places.bump, hq])) (.cons (subI (by rw [hyj]; first | (rw [hq]; rfl) | simp [Places.bump, hq])) (.cons ((.shr _ _)) (.cons (subFz rfl (fzL rfl) (by rw [msgCells_app, hyj]; rfl)) (.cons ((.lit _)) .nil))))))))⟩, ⟨_, _, rfl, rfl, (subPL rfl)⟩, ⟨_, _, rfl, rfl, (subPL rfl)⟩, trivial⟩ (parOk hpar rfl)⟩
          ·rw [h87, List.length_eraseIdx, if_pos hjl]; simp; omega
          ·exact ⟨by rw [← hI0]; exact (tellAll_step hstep).symm, hT2, fun e => by cases e⟩
         ·refine u_end (by kernel_rfl) ?_
          refine vw_condF rfl ?_
          refine vw_skip ?_
          refine vw_region ?_
          refine u_add rfl rfl rfl (by unfold inI; omega) rfl trivial ?_
          refine u_move rfl rfl trivial ?_
          refine u_end trivial ?_
          refine ⟨_, _, ren [(2, 2), (3, 3), (4, 4)], ?_, ⟨j + 1, ?_, rfl, rfl⟩, mk_wk [(2, 2), (3, 3), (4, 4)] rfl rfl ⟨⟨_, rfl, (.ptr _ _ _ rfl (lookNe rfl))⟩, ⟨_, rfl, (.ptr _ _ _ rfl (lookNe rfl))⟩, ⟨_, rfl, (.ptr _ _ _ rfl (lookNe rfl))⟩, ⟨_, rfl, (.shr _ _)⟩, ⟨_, rfl, (.lit _)⟩, ⟨_, rfl, (.shr _ _)⟩, ⟨_, rfl, (.lit _)⟩, ⟨_, rfl, (.lit _)⟩, trivial⟩ ⟨⟨_, _, rfl, rfl, (subPL rfl)⟩, ⟨_, _, rfl, rfl, (subPL rfl)⟩, ⟨_, _, rfl, rfl, (subPL rfl)⟩, trivial⟩ (parOk hpar rfl)⟩
          ·omega
          ·refine ⟨by omega, ?_⟩
           rw [any_snoc (by omega), hJ1, hyj, ready_is]
           unfold Places.get
           rw [hq]
           simpa using h102
       ·refine u_end trivial ?_
        refine vw_seq ?_
        refine vw_condF rfl ?_
        refine vw_exit ?_
        refine iteP rfl ?_
        refine ⟨_, _, ren [(2, 2), (3, 3), (4, 4)], ?_, ⟨false, h, p, T, ?_, rfl, rfl⟩, mk_wk [(2, 2), (3, 3), (4, 4)] rfl rfl ⟨⟨_, rfl, (.ptr _ _ _ rfl (lookNe rfl))⟩, ⟨_, rfl, (.ptr _ _ _ rfl (lookNe rfl))⟩, ⟨_, rfl, (.ptr _ _ _ rfl (lookNe rfl))⟩, ⟨_, rfl, (.shr _ _)⟩, ⟨_, rfl, (.lit _)⟩, trivial⟩ ⟨⟨_, _, rfl, rfl, (subPL rfl)⟩, ⟨_, _, rfl, rfl, (subPL rfl)⟩, ⟨_, _, rfl, rfl, (subPL rfl)⟩, trivial⟩ (parOk hpar rfl)⟩
        ·rw [h87]; simp
        ·rw [chunkCells_length] at h91
         rw [List.take_of_length_le (by omega)] at hJ1
         exact ⟨hI0, hI1, fun _ => tell1_no (take_any_all hJ1)⟩
      ·refine u_end trivial ?_
       refine vw_condF rfl ?_
       refine vw_exit ?_
       refine iteP rfl ?_
       refine vw_seq ?_
       refine vw_region ?_
       refine u_move rfl rfl trivial ?_
       refine u_fieldAddr rfl rfl rfl rfl rfl rfl trivial ?_
       refine u_store rfl rfl rfl rfl rfl rfl rfl trivial ?_
       refine u_end trivial ?_
       refine vw_seq ?_
       refine vw_region ?_
       refine u_loadAll rfl rfl rfl rfl rfl rfl trivial ?_
       refine u_storeAll rfl rfl rfl rfl rfl rfl rfl rfl trivial ?_
       refine u_end trivial ?_
       refine vw_ret ?_
       rw [tellAll_none (hI2 h87)] at hI0
       cases hI0
       rw [rhear_takes hk hnr hst htl]
       refine fin' [] (.inr rfl) (.cons (.cellN rfl rfl rfl rfl rfl) .nil) (mk_wk [] rfl rfl ⟨⟨_, rfl, (.agg _ _ (.cons (subI ?_) (.cons (subS ?_) (.cons (subI ?_) (.cons (subI ?_) (.cons (subI ?_) (.cons (subS ?_) (.cons (subS ?_) (.cons (subB ?_) .nil)))))))))⟩, trivial⟩ trivial (parOk rfl rfl))
       all_goals (try rfl)
end Go.Proofs.Ytaadloihphpdbaa
