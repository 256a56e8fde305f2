/- Walk of what the document's answer does when a receiver hears: with a map. Printed by a small program (walk.py). -/
import Derived.Test.YtaadloihphpdbaaZWRecv2
set_option linter.unusedVariables false
set_option linter.unusedSimpArgs false
set_option maxRecDepth 4000
namespace Go.Proofs.Ytaadloihphpdbaa
open Go Go.Vc Go.RowKit
def Covers (S l : List Int) (x : Int) : Prop := l.Pairwise (· < ·) ∧ (∀ y ∈ l, x ≤ y ∧ y < 40) ∧ ∀ y, x ≤ y → (y ∈ S ↔ y ∈ l)
theorem covers0 {r : Receiver} (hr : RInv r) {c : Chunk} (hc : zdk c = 0) (hk : c.kind = 1) (hne : c.num ∉ r.early) (hge : r.next ≤ c.num) : Covers ([c.num] ++ r.early) (zej c.num r.early) r.next := by
  have hm := MChunk.num ⟨hk, hc⟩
  refine ⟨insertS_sorted hr.s hne, fun y hy => ?_, fun y _ => ?_⟩
  · rcases insertS_mem.1 hy with rfl | hy
    · omega
    · have := hr.e y hy; omega
  · rw [insertS_mem]; simp
theorem covers_hit {S l : List Int} {x : Int} (h : Covers S l x) (hx : S.contains x = true) : ∃ l', l = x :: l' ∧ Covers S l' (x + 1) := by
  obtain ⟨h1, h2, h3⟩ := h
  have hm : x ∈ l := (h3 x (Int.le_refl _)).1 (by simpa using hx)
  cases l with
  | nil => simp at hm
  | cons n l' =>
    have h1' := List.pairwise_cons.1 h1
    have hn : n = x := by
      rcases List.mem_cons.1 hm with e | e
      · exact e.symm
      · have := h1'.1 x e; have := (h2 n (by simp)).1; omega
    subst hn
    refine ⟨l', rfl, h1'.2, fun y hy => ⟨by have := h1'.1 y hy; omega, (h2 y (by simp [hy])).2⟩, fun y hy => ?_⟩
    rw [h3 y (by omega), List.mem_cons]
    constructor
    · rintro (e | e)
      · omega
      · exact e
    · exact .inr
theorem covers_miss {S l : List Int} {x : Int} (h : Covers S l x) (hx : S.contains x = false) : strip l x = (l, x) ∧ ∀ y ∈ l, x < y := by
  obtain ⟨h1, h2, h3⟩ := h
  have hm : x ∉ l := fun e => by
    have := (h3 x (Int.le_refl _)).2 e
    simp [this] at hx
  refine ⟨?_, fun y hy => ?_⟩
  · cases l with
    | nil => rfl
    | cons n l' => exact strip_cons_ne (fun e => hm (by simp [e]))
  · have := (h2 y hy).1
    have : x ≠ y := fun e => hm (e ▸ hy)
    omega
theorem covers_len {S l : List Int} {x : Int} (h : Covers S l x) (hx : x ≤ 40) : (l.length : Int) ≤ 40 - x := by
  have := sorted_len (l := l) (a := x - 1) (b := 40) h.1 (fun y hy => by have := h.2.1 y hy; omega) (by omega)
  omega
theorem filter_lt_y {l : List Int} (hs : l.Pairwise (· < ·)) {k : Int} (hk : k ∈ l) : l.filter (fun y => decide (y < k + 1)) = l.filter (fun y => decide (y < k)) ++ [k] := by
  induction l with
  | nil => simp at hk
  | cons n l ih =>
    have hs' := List.pairwise_cons.1 hs
    rcases List.mem_cons.1 hk with e | e
    · subst e
      have e1 : l.filter (fun y => decide (y < k + 1)) = [] := List.filter_eq_nil_iff.2 fun y hy => by have := hs'.1 y hy; simp; omega
      have e2 : l.filter (fun y => decide (y < k)) = [] := List.filter_eq_nil_iff.2 fun y hy => by have := hs'.1 y hy; simp; omega
      rw [List.filter_cons_of_pos (by simp; omega), List.filter_cons_of_neg (by simp), e1, e2]; rfl
    · have := hs'.1 k e
      rw [List.filter_cons_of_pos (by simp; omega), List.filter_cons_of_pos (by simp; omega), ih hs'.2 e]; rfl
theorem filter_lt_n {l : List Int} {k : Int} (hk : k ∉ l) : l.filter (fun y => decide (y < k + 1)) = l.filter (fun y => decide (y < k)) := by
  refine List.filter_congr fun y hy => ?_
  have : y ≠ k := fun e => hk (e ▸ hy)
  rw [Bool.eq_iff_iff]; simp; omega
theorem filter_lt_0 {l : List Int} {x : Int} (h : ∀ y ∈ l, x < y) : l.filter (fun y => decide (y < x)) = [] := List.filter_eq_nil_iff.2 fun y hy => by have := h y hy; simp; omega
theorem filter_lt_40 {l : List Int} (h : ∀ y ∈ l, y < 40) {k : Int} (hk : 40 ≤ k) : l.filter (fun y => decide (y < k)) = l := List.filter_eq_self.2 fun y hy => by have := h y hy; simp; omega
theorem take_any_all {p : Chunk → Bool} {l : List Chunk} (h : l.any p = false) : ∀ c ∈ l, p c = false := fun c hc => by simpa using List.any_eq_false.1 h c hc
theorem any_take_get {p : Chunk → Bool} {l : List Chunk} {j : Nat} (h : (l.take j).any p = false) (hl : j ≤ l.length) : ∀ i (hi : i < j), p (l[i]'(by omega)) = false := by
  intro i hi
  have := List.any_eq_false.1 h (l[i]'(by omega)) (by rw [List.mem_take_iff_getElem]; exact ⟨i, by omega, rfl⟩)
  simpa using this
theorem c112 (r : Receiver) (c : Chunk) (hr : RInv r) (hc : zdk c = 0) : VFun G 112 [.agg (zek r), .agg (zcm c)] [] (.agg (zek (rhear r c))) [] := by
 have hh := hold_len hr; have hnl := hr.nl; have hn0 := hr.n
 refine VFun.intro (fn := Try.f112) rfl rfl (by kernel_rfl) (nb rfl) fun Γ hpar => ?_
 refine zad <| zaa <| zdh 100 rfl rfl rfl (zar hpar rfl) rfl rfl tv <| zdh 101 rfl rfl rfl (zar hpar rfl) rfl rfl tv <| zbd 102 rfl rfl (zar hpar rfl) rfl rfl tv <| zaf tv <| zad <| zad <| zaa <| zab rfl rfl rfl rfl rfl rfl tv <| zah rfl rfl rfl rfl rfl rfl tv <| zdg rfl rfl rfl tv (fun h15 => ?_) (fun h15 => ?_)
 ·refine zaf tv <| zao rfl <| zad <| zaa <| zam rfl rfl rfl rfl rfl rfl tv <| zaj rfl rfl rfl rfl rfl rfl rfl rfl tv <| zaf tv <| zaw ?_
  rw [rhear_kind h15]
  refine fin' [] (.inr rfl) (.cons (.cellN rfl rfl rfl rfl rfl) .nil) (zay [] rfl rfl ⟨⟨_, rfl, (.agg _ _ (.cons (subI ?_) (.cons (subS ?_) (.cons (subI ?_) (.cons (subI ?_) (.cons (subI ?_) (.cons (subS ?_) (.cons (subS ?_) (.cons (subB ?_) .nil)))))))))⟩, tv⟩ tv (zaz rfl rfl))
  all_goals (try rfl)
 ·refine zaf tv <| zap rfl <| zax <| zad <| zaa <| zab rfl rfl rfl rfl rfl rfl tv <| zbl rfl rfl rfl rfl rfl rfl rfl tv <| zaf tv <| zad <| zaa <| u_makeMap 103 rfl (zar hpar rfl) rfl tv <| zab rfl rfl rfl rfl rfl rfl tv <| zah rfl rfl rfl rfl rfl rfl tv <| u_mapIns (.inr rfl) rfl rfl rfl rfl rfl rfl tv <| zac rfl rfl tv <| zae rfl rfl tv <| zaf tv <| zad <| zad <| zaa <| zab rfl rfl rfl rfl rfl rfl tv <| zah rfl rfl rfl rfl rfl rfl tv <| zby rfl rfl rfl tv <| zac rfl rfl tv <| zaf tv <| zbb <| zbt (fun n_ E => ∃ (i : Nat), ((i ≤ r.early.length) ∧ ((r.early.take i).contains c.num = false)) ∧ n_ = r.early.length - i ∧ E = ⟨[(2, .ptr 2 0), (3, .ptr 3 0), (4, .ptr 4 0), (5, .mp 15), (23, .shr 1 (intCells r.early)), (24, .lit (.int .i64 (intCells r.early).length)), (25, .lit (.int .i64 i))], [(2, .box [.lit (.int .i64 r.next), .shr 1 (intCells r.early), .lit (.int .i64 r.places.a), .lit (.int .i64 r.places.b), .lit (.int .i64 r.places.c), .shr 6 (zau r.hold), .shr 2 (zbe r.told), .lit (.bool true)]), (3, .box (zcm c)), (4, .box [.lit (.int .i64 0), .lit (.slice none 0 0), .lit (.int .i64 0), .lit (.int .i64 0), .lit (.int .i64 0), .lit (.slice none 0 0), .lit (.slice none 0 0), .lit (.bool false)]), (15, .set ([c.num] ++ r.early.take i))], 139⟩) (n0 := _) (E0 := _) (⟨0, by exact ⟨Nat.zero_le _, by simp⟩, rfl, rfl⟩) (ren [(2, 100), (3, 101), (4, 102), (15, 103)]) (zay [(2, 100), (3, 101), (4, 102), (15, 103)] rfl rfl ⟨⟨_, rfl, (.ptr _ _ _ rfl (zak rfl))⟩, ⟨_, rfl, (.ptr _ _ _ rfl (zak rfl))⟩, ⟨_, rfl, (.ptr _ _ _ rfl (zak rfl))⟩, ⟨_, rfl, (.mp _ _ rfl (zak rfl))⟩, ⟨_, rfl, (.shr _ _)⟩, ⟨_, rfl, (.lit _)⟩, ⟨_, rfl, (.lit _)⟩, tv⟩ ⟨⟨_, _, rfl, rfl, (zbk rfl)⟩, ⟨_, _, rfl, rfl, (zbk rfl)⟩, ⟨_, _, rfl, rfl, (zbk rfl)⟩, ⟨_, rfl, rfl⟩, tv⟩ (zaz hpar rfl)) (fun n_ E hR => ?_)
  obtain ⟨i, hI, rfl, rfl⟩ := hR
  obtain ⟨hI0, hI1⟩ := hI
  refine zad <| zaa <| zcg rfl rfl rfl tv (fun h26 => ?_) (fun h26 => ?_)
  ·refine zaf tv <| zad <| zao rfl <| zax <| zad <| zbb <| zad ?_
   rw [zal] at h26
   obtain ⟨x, hx⟩ : ∃ x, r.early[i]? = some x := ⟨_, List.getElem?_eq_getElem (by omega)⟩
   refine zaa <| zbh rfl rfl rfl rfl rfl rfl (zda hx) rfl tv <| zbv rfl rfl rfl rfl rfl tv <| zae rfl rfl tv <| zaf tv <| zad <| zad <| zaa <| zac rfl rfl tv <| zab rfl rfl rfl rfl rfl rfl tv <| zah rfl rfl rfl rfl rfl rfl tv <| zci rfl rfl rfl tv (fun h32 => ?_) (fun h32 => ?_)
   ·refine zaf tv <| zao rfl <| zad <| zaa <| zam rfl rfl rfl rfl rfl rfl tv <| zaj rfl rfl rfl rfl rfl rfl rfl rfl tv <| zaf tv <| zaw ?_
    rw [rhear_ref (by omega) (.inr (.inl (by rw [← h32]; exact List.mem_of_getElem? hx)))]
    refine fin' [] (.inr rfl) (.cons (.cellN rfl rfl rfl rfl rfl) .nil) (zay [] rfl rfl ⟨⟨_, rfl, (.agg _ _ (.cons (subI ?_) (.cons (subS ?_) (.cons (subI ?_) (.cons (subI ?_) (.cons (subI ?_) (.cons (subS ?_) (.cons (subS ?_) (.cons (subB ?_) .nil)))))))))⟩, tv⟩ tv (zaz rfl rfl))
    all_goals (try rfl)
   ·refine zaf tv <| zap rfl <| zax <| zaa <| zac rfl rfl tv <| zac rfl rfl tv <| u_mapIns (.inl rfl) rfl rfl rfl rfl rfl rfl tv <| zaf tv <| zaa <| zbz rfl rfl rfl (by unfold inI; omega) rfl tv <| zac rfl rfl tv <| zaf tv <| ⟨_, _, ren [(2, 2), (3, 3), (4, 4), (15, 15)], ?_, ⟨i + 1, ?_, rfl, rfl⟩, zay [(2, 2), (3, 3), (4, 4), (15, 15)] rfl rfl ⟨⟨_, rfl, (.ptr _ _ _ rfl (zak rfl))⟩, ⟨_, rfl, (.ptr _ _ _ rfl (zak rfl))⟩, ⟨_, rfl, (.ptr _ _ _ rfl (zak rfl))⟩, ⟨_, rfl, (.mp _ _ rfl (zak rfl))⟩, ⟨_, rfl, (.shr _ _)⟩, ⟨_, rfl, (.lit _)⟩, ⟨_, rfl, (.lit _)⟩, tv⟩ ⟨⟨_, _, rfl, rfl, (zbk rfl)⟩, ⟨_, _, rfl, rfl, (zbk rfl)⟩, ⟨_, _, rfl, rfl, (zbk rfl)⟩, ⟨_, rfl, setEq rfl (by rw [List.take_add_one, hx]; simp)⟩, tv⟩ (zaz hpar rfl)⟩
    ·omega
    ·refine ⟨by omega, ?_⟩
     rw [contains_snoc hx, hI1]
     simpa using h32
  ·refine zaf tv <| zad <| zap rfl <| zbw <| iteP rfl <| zad <| zad ?_
   rw [zal] at h26
   rw [List.take_of_length_le (show r.early.length ≤ i by omega)]
   rw [List.take_of_length_le (show r.early.length ≤ i by omega)] at hI1
   have hne : c.num ∉ r.early := by simpa using hI1
   refine zaa <| zab rfl rfl rfl rfl rfl rfl tv <| zah rfl rfl rfl rfl rfl rfl tv <| zab rfl rfl rfl rfl rfl rfl tv <| zah rfl rfl rfl rfl rfl rfl tv <| zcg rfl rfl rfl tv (fun h41 => ?_) (fun h41 => ?_)
   ·refine zac rfl rfl tv <| zag rfl rfl rfl rfl rfl <| zag rfl rfl rfl rfl rfl <| zag rfl rfl rfl rfl rfl <| zag rfl rfl rfl rfl rfl <| zag rfl rfl rfl rfl rfl <| zag rfl rfl rfl rfl rfl <| zag rfl rfl rfl rfl rfl <| zag rfl rfl rfl rfl rfl <| zag rfl rfl rfl rfl rfl <| zag rfl rfl rfl rfl rfl <| zag rfl rfl rfl rfl rfl <| zav rfl rfl rfl tv <| zaf tv <| zao rfl <| zad <| zaa <| zam rfl rfl rfl rfl rfl rfl tv <| zaj rfl rfl rfl rfl rfl rfl rfl rfl tv <| zaf tv <| zaw ?_
    rw [rhear_ref (by omega) (by first | exact .inl (by omega) | exact .inr (.inr ⟨by omega, by (try simp only [zaq, zai, zal, byteCells_length] at *); omega⟩))]
    refine fin' [] (.inr rfl) (.cons (.cellN rfl rfl rfl rfl rfl) .nil) (zay [] rfl rfl ⟨⟨_, rfl, (.agg _ _ (.cons (subI ?_) (.cons (subS ?_) (.cons (subI ?_) (.cons (subI ?_) (.cons (subI ?_) (.cons (subS ?_) (.cons (subS ?_) (.cons (subB ?_) .nil)))))))))⟩, tv⟩ tv (zaz rfl rfl))
    all_goals (try rfl)
   ·refine zac rfl rfl tv <| zab rfl rfl rfl rfl rfl rfl (gk rfl) <| zah rfl rfl rfl rfl rfl rfl (gk rfl) <| zab rfl rfl rfl rfl rfl rfl (gk rfl) <| zah rfl rfl rfl rfl rfl rfl (gk rfl) <| zdr rfl rfl rfl (gk rfl) (fun h47 => ?_) (fun h47 => ?_)
    ·refine zac rfl rfl (gk rfl) <| zab rfl rfl rfl rfl rfl rfl (gk rfl) <| zah rfl rfl rfl rfl rfl rfl (gk rfl) <| zby rfl rfl rfl (gk rfl) <| zdr rfl rfl rfl (gk rfl) (fun h52 => ?_) (fun h52 => ?_)
     ·refine zav rfl rfl rfl (gk rfl) <| zat rfl rfl rfl tv <| zaf tv <| zao rfl <| zad <| zaa <| zam rfl rfl rfl rfl rfl rfl tv <| zaj rfl rfl rfl rfl rfl rfl rfl rfl tv <| zaf tv <| zaw ?_
      rw [rhear_ref (by omega) (by first | exact .inl (by omega) | exact .inr (.inr ⟨by omega, by (try simp only [zaq, zai, zal, byteCells_length] at *); omega⟩))]
      refine fin' [] (.inr rfl) (.cons (.cellN rfl rfl rfl rfl rfl) .nil) (zay [] rfl rfl ⟨⟨_, rfl, (.agg _ _ (.cons (subI ?_) (.cons (subS ?_) (.cons (subI ?_) (.cons (subI ?_) (.cons (subI ?_) (.cons (subS ?_) (.cons (subS ?_) (.cons (subB ?_) .nil)))))))))⟩, tv⟩ tv (zaz rfl rfl))
      all_goals (try rfl)
     ·refine zav rfl rfl rfl (gk rfl) <| zat rfl rfl rfl tv <| zaf tv <| zap rfl <| zax ?_
      have hk : c.kind = 1 := by omega
      have hnr : ¬ zes r c.num := by
        rintro (h | h | h)
        · omega
        · exact hne h
        · obtain ⟨g1, g2⟩ := h
          first | omega | ((try simp only [zaq, zai, zal, byteCells_length] at *); omega)
      obtain ⟨e1, x1, hst⟩ : ∃ e x, strip (zej c.num r.early) r.next = (e, x) := ⟨_, _, rfl⟩
      obtain ⟨h1, p1, T1, htl⟩ : ∃ h p T, tellAll (r.hold ++ [c], r.places, r.told) = (h, p, T) := ⟨_, _, _, rfl⟩
      have hT0 := taleOk0 hr hc hk
      have hcv := covers0 hr hc hk hne (by omega)
      refine zen (Covers ([c.num] ++ r.early) e1 x1 ∧ (0 ≤ x1 ∧ x1 ≤ 40) ∧ ∀ y ∈ e1, x1 < y) (⟨[(2, .ptr 2 0), (3, .ptr 3 0), (4, .ptr 4 0), (5, .mp 15)], [(2, .box [.lit (.int .i64 x1), .shr 1 (intCells r.early), .lit (.int .i64 r.places.a), .lit (.int .i64 r.places.b), .lit (.int .i64 r.places.c), .shr 6 (zau r.hold), .shr 2 (zbe r.told), .lit (.bool true)]), (3, .box (zcm c)), (4, .box [.lit (.int .i64 0), .lit (.slice none 0 0), .lit (.int .i64 0), .lit (.int .i64 0), .lit (.int .i64 0), .lit (.slice none 0 0), .lit (.slice none 0 0), .lit (.bool false)]), (15, .set ([c.num] ++ r.early))], 139⟩) ?_ (fun hA16 => ?_)
      ·refine zbb <| zbt (fun n_ E => ∃ (l : List Int) (x : Int), ((strip l x = (e1, x1)) ∧ (Covers ([c.num] ++ r.early) l x) ∧ (0 ≤ x ∧ x ≤ 40)) ∧ n_ = l.length ∧ E = ⟨[(2, .ptr 2 0), (3, .ptr 3 0), (4, .ptr 4 0), (5, .mp 15)], [(2, .box [.lit (.int .i64 x), .shr 1 (intCells r.early), .lit (.int .i64 r.places.a), .lit (.int .i64 r.places.b), .lit (.int .i64 r.places.c), .shr 6 (zau r.hold), .shr 2 (zbe r.told), .lit (.bool true)]), (3, .box (zcm c)), (4, .box [.lit (.int .i64 0), .lit (.slice none 0 0), .lit (.int .i64 0), .lit (.int .i64 0), .lit (.int .i64 0), .lit (.slice none 0 0), .lit (.slice none 0 0), .lit (.bool false)]), (15, .set ([c.num] ++ r.early))], 139⟩) (n0 := _) (E0 := _) (⟨zej c.num r.early, r.next, by exact ⟨hst, hcv, hn0⟩, rfl, rfl⟩) (ren [(2, 2), (3, 3), (4, 4), (15, 15)]) (zay [(2, 2), (3, 3), (4, 4), (15, 15)] rfl rfl ⟨⟨_, rfl, (.ptr _ _ _ rfl (zak rfl))⟩, ⟨_, rfl, (.ptr _ _ _ rfl (zak rfl))⟩, ⟨_, rfl, (.ptr _ _ _ rfl (zak rfl))⟩, ⟨_, rfl, (.mp _ _ rfl (zak rfl))⟩, tv⟩ ⟨⟨_, _, rfl, rfl, (zbk rfl)⟩, ⟨_, _, rfl, rfl, (zbk rfl)⟩, ⟨_, _, rfl, rfl, (zbk rfl)⟩, ⟨_, rfl, rfl⟩, tv⟩ (zaz hpar rfl)) (fun n_ E hR => ?_)
       obtain ⟨l, x, hI, rfl, rfl⟩ := hR
       obtain ⟨hI0, hI1, hI2⟩ := hI
       refine zad <| zad <| zaa <| zac rfl rfl tv <| zab rfl rfl rfl rfl rfl rfl tv <| zah rfl rfl rfl rfl rfl rfl tv <| s_lookup rfl rfl rfl rfl rfl rfl zero4 rfl tv (fun h59 => ?_) (fun h59 => ?_)
       ·refine zaf tv <| zao rfl <| zax <| zbb ?_
        obtain ⟨l', hl1, hl2⟩ := covers_hit hI1 h59
        have hx40 := (hI1.2.1 x (by rw [hl1]; simp)).2
        refine zaa <| zab rfl rfl rfl rfl rfl rfl tv <| zah rfl rfl rfl rfl rfl rfl tv <| zbz rfl rfl rfl (by unfold inI; omega) rfl tv <| zab rfl rfl rfl rfl rfl rfl tv <| zbl rfl rfl rfl rfl rfl rfl rfl tv <| zaf tv <| ⟨_, _, ren [(2, 2), (3, 3), (4, 4), (15, 15)], ?_, ⟨l', x + 1, ?_, rfl, rfl⟩, zay [(2, 2), (3, 3), (4, 4), (15, 15)] rfl rfl ⟨⟨_, rfl, (.ptr _ _ _ rfl (zak rfl))⟩, ⟨_, rfl, (.ptr _ _ _ rfl (zak rfl))⟩, ⟨_, rfl, (.ptr _ _ _ rfl (zak rfl))⟩, ⟨_, rfl, (.mp _ _ rfl (zak rfl))⟩, tv⟩ ⟨⟨_, _, rfl, rfl, (zbk rfl)⟩, ⟨_, _, rfl, rfl, (zbk rfl)⟩, ⟨_, _, rfl, rfl, (zbk rfl)⟩, ⟨_, rfl, rfl⟩, tv⟩ (zaz hpar rfl)⟩
        ·rw [hl1]; simp
        ·refine ⟨by rw [← hI0, hl1, strip_cons_eq], hl2, ?_⟩
         have := (hI1.2.1 x (by rw [hl1]; simp)).2
         omega
       ·refine zaf tv <| zap rfl <| zbw <| iteP rfl <| ⟨?_, ren [(2, 2), (3, 3), (4, 4), (15, 15)], zay [(2, 2), (3, 3), (4, 4), (15, 15)] rfl rfl ⟨⟨_, rfl, (.ptr _ _ _ rfl (zak rfl))⟩, ⟨_, rfl, (.ptr _ _ _ rfl (zak rfl))⟩, ⟨_, rfl, (.ptr _ _ _ rfl (zak rfl))⟩, ⟨_, rfl, (.mp _ _ rfl (zak rfl))⟩, tv⟩ ⟨⟨_, _, rfl, rfl, (.cons (subI (by rw [(covers_miss hI1 h59).1] at hI0; cases hI0; rfl)) (.cons ((.shr _ _)) (.cons ((.lit _)) (.cons ((.lit _)) (.cons ((.lit _)) (.cons ((.shr _ _)) (.cons ((.shr _ _)) (.cons ((.lit _)) .nil))))))))⟩, ⟨_, _, rfl, rfl, (zbk rfl)⟩, ⟨_, _, rfl, rfl, (zbk rfl)⟩, ⟨_, rfl, rfl⟩, tv⟩ (zaz hpar rfl)⟩
        ·obtain ⟨g1, g2⟩ := covers_miss hI1 h59
         rw [g1] at hI0
         cases hI0
         exact ⟨hI1, hI2, g2⟩
      obtain ⟨hE1, hE2, hE3⟩ := hA16
      refine zad <| zaa <| zab rfl rfl rfl rfl rfl rfl tv <| zbl rfl rfl rfl rfl rfl rfl rfl tv <| zaf tv <| zad <| zad <| zaa <| zab rfl rfl rfl rfl rfl rfl tv <| zah rfl rfl rfl rfl rfl rfl tv <| zae rfl rfl tv <| zaf tv <| zbb <| zbt (fun n_ E => ∃ (k : Int) (a : List Int), ((a = e1.filter (fun y => decide (y < k))) ∧ (x1 ≤ k ∧ k ≤ 40)) ∧ n_ = (40 - k).toNat ∧ E = ⟨[(2, .ptr 2 0), (3, .ptr 3 0), (4, .ptr 4 0), (5, .mp 15), (8, .lit (.int .i64 k))], [(2, .box [.lit (.int .i64 x1), .row 906, .lit (.int .i64 r.places.a), .lit (.int .i64 r.places.b), .lit (.int .i64 r.places.c), .shr 6 (zau r.hold), .shr 2 (zbe r.told), .lit (.bool true)]), (3, .box (zcm c)), (4, .box [.lit (.int .i64 0), .lit (.slice none 0 0), .lit (.int .i64 0), .lit (.int .i64 0), .lit (.int .i64 0), .lit (.slice none 0 0), .lit (.slice none 0 0), .lit (.bool false)]), (906, .row 3 1 (intCells a)), (15, .set ([c.num] ++ r.early))], 139⟩) (n0 := _) (E0 := _) (⟨x1, [], by exact ⟨(filter_lt_0 hE3).symm, Int.le_refl _, hE2.2⟩, rfl, rfl⟩) (ren [(2, 2), (3, 3), (4, 4), (15, 15)]) (zay [(2, 2), (3, 3), (4, 4), (15, 15)] rfl rfl ⟨⟨_, rfl, (.ptr _ _ _ rfl (zak rfl))⟩, ⟨_, rfl, (.ptr _ _ _ rfl (zak rfl))⟩, ⟨_, rfl, (.ptr _ _ _ rfl (zak rfl))⟩, ⟨_, rfl, (.mp _ _ rfl (zak rfl))⟩, ⟨_, rfl, (.lit _)⟩, tv⟩ ⟨⟨_, _, rfl, rfl, (.cons ((.lit _)) (.cons (.nilrow _ _ _ _ rfl rfl) (.cons ((.lit _)) (.cons ((.lit _)) (.cons ((.lit _)) (.cons ((.shr _ _)) (.cons ((.shr _ _)) (.cons ((.lit _)) .nil))))))))⟩, ⟨_, _, rfl, rfl, (zbk rfl)⟩, ⟨_, _, rfl, rfl, (zbk rfl)⟩, (.inr (.inl ⟨rfl, rfl⟩)), ⟨_, rfl, rfl⟩, tv⟩ (zaz hpar rfl)) (fun n_ E hR => ?_)
      obtain ⟨k, a, hI, rfl, rfl⟩ := hR
      obtain ⟨hI0, hI1⟩ := hI
      refine zad <| zad <| zaa <| zac rfl rfl tv <| zcg rfl rfl rfl tv (fun h68 => ?_) (fun h68 => ?_)
      ·refine zaf tv <| zao rfl <| zax <| zad <| zbb <| zad ?_
       have hal : a.length ≤ e1.length := by rw [hI0]; exact List.length_filter_le _ _
       have hel := covers_len hE1 hE2.2
       refine zaa <| zac rfl rfl tv <| zac rfl rfl tv <| s_lookup rfl rfl rfl rfl rfl rfl zero4 rfl tv (fun h73 => ?_) (fun h73 => ?_)
       ·refine zaf tv <| zao rfl <| zaa <| zab rfl rfl rfl rfl rfl rfl tv <| zah rfl rfl rfl rfl rfl rfl tv <| zac rfl rfl tv <| zba 164 rfl rfl rfl rfl rfl rfl rfl rfl rfl rfl (zar hpar rfl) rfl rfl tv <| zbn 165 rfl rfl rfl (zdb rfl) rfl (zar hpar rfl) rfl rfl rfl rfl rfl (by simp [zbx, intCells]; omega) rfl tv <| zab rfl rfl rfl rfl rfl rfl tv <| zbl rfl rfl rfl rfl rfl rfl rfl tv <| zaf tv <| zaa <| zac rfl rfl tv <| zbz rfl rfl rfl (by unfold inI; omega) rfl tv <| zae rfl rfl tv <| zaf tv <| ⟨_, _, ren [(2, 2), (3, 3), (4, 4), (15, 15), (906, 165)], ?_, ⟨k + 1, a ++ [k], ?_, rfl, rfl⟩, zay [(2, 2), (3, 3), (4, 4), (15, 15), (906, 165)] rfl rfl ⟨⟨_, rfl, (.ptr _ _ _ rfl (zak rfl))⟩, ⟨_, rfl, (.ptr _ _ _ rfl (zak rfl))⟩, ⟨_, rfl, (.ptr _ _ _ rfl (zak rfl))⟩, ⟨_, rfl, (.mp _ _ rfl (zak rfl))⟩, ⟨_, rfl, (.lit _)⟩, tv⟩ ⟨⟨_, _, rfl, rfl, (.cons ((.lit _)) (.cons ((.row _ _ rfl (zak rfl))) (.cons ((.lit _)) (.cons ((.lit _)) (.cons ((.lit _)) (.cons ((.shr _ _)) (.cons ((.shr _ _)) (.cons ((.lit _)) .nil))))))))⟩, ⟨_, _, rfl, rfl, (zbk rfl)⟩, ⟨_, _, rfl, rfl, (zbk rfl)⟩, (.inl ⟨_, rfl, zcq rfl (by simp [intCells, zbx, cellsOf])⟩), ⟨_, rfl, rfl⟩, tv⟩ (zaz hpar rfl)⟩
        ·omega
        ·refine ⟨?_, by omega⟩
         rw [filter_lt_y hE1.1 ((hE1.2.2 k (by omega)).1 (by simpa using h73)), hI0]
       ·refine zaf tv <| zap rfl <| zax <| zaa <| zac rfl rfl tv <| zbz rfl rfl rfl (by unfold inI; omega) rfl tv <| zae rfl rfl tv <| zaf tv <| ⟨_, _, ren [(2, 2), (3, 3), (4, 4), (15, 15), (906, 906)], ?_, ⟨k + 1, a, ?_, rfl, rfl⟩, zay [(2, 2), (3, 3), (4, 4), (15, 15), (906, 906)] rfl rfl ⟨⟨_, rfl, (.ptr _ _ _ rfl (zak rfl))⟩, ⟨_, rfl, (.ptr _ _ _ rfl (zak rfl))⟩, ⟨_, rfl, (.ptr _ _ _ rfl (zak rfl))⟩, ⟨_, rfl, (.mp _ _ rfl (zak rfl))⟩, ⟨_, rfl, (.lit _)⟩, tv⟩ ⟨⟨_, _, rfl, rfl, (.cons ((.lit _)) (.cons ((.row _ _ rfl (zak rfl))) (.cons ((.lit _)) (.cons ((.lit _)) (.cons ((.lit _)) (.cons ((.shr _ _)) (.cons ((.shr _ _)) (.cons ((.lit _)) .nil))))))))⟩, ⟨_, _, rfl, rfl, (zbk rfl)⟩, ⟨_, _, rfl, rfl, (zbk rfl)⟩, (.inl ⟨_, rfl, rfl⟩), ⟨_, rfl, rfl⟩, tv⟩ (zaz hpar rfl)⟩
        ·omega
        ·refine ⟨?_, by omega⟩
         rw [filter_lt_n (fun hm => by have := (hE1.2.2 k (by omega)).2 hm; exact absurd (show ([c.num] ++ r.early).contains k = true by simpa using this) (by rw [h73]; decide)), hI0]
      ·refine zaf tv <| zap rfl <| zbw <| iteP rfl <| zad ?_
       have hae : a = e1 := by rw [hI0]; exact filter_lt_40 (fun y hy => (hE1.2.1 y hy).2) (by omega)
       rw [hae]
       refine zbo <| zba 164 rfl rfl rfl rfl rfl rfl rfl rfl rfl rfl (zar hpar rfl) rfl rfl tv <| zab rfl rfl rfl rfl rfl rfl tv <| zah rfl rfl rfl rfl rfl rfl tv <| zbn 165 rfl rfl rfl (.shr _ _) rfl (zar hpar rfl) rfl rfl rfl rfl rfl (by simp [zbx, zai]; omega) rfl tv <| zam rfl rfl rfl rfl rfl rfl tv <| zba 166 rfl rfl rfl rfl rfl rfl rfl rfl rfl rfl (zar hpar rfl) rfl rfl tv <| zbn 167 rfl rfl rfl (zdb rfl) rfl (zar hpar rfl) rfl rfl rfl rfl rfl (by simp [zbx, zai]; omega) rfl tv <| zae rfl rfl tv <| zaf (by kernel_rfl) <| zad <| zad <| zaa <| zae rfl rfl tv <| zaf tv <| zbb <| zbt (fun n_ E => ∃ (b : Bool) (h : List Chunk) (p : Places) (T : List Msg), ((tellAll (h, p, T) = (h1, p1, T1)) ∧ (TaleOk (r.next + r.early.length + 1) (h, p, T)) ∧ (b = false → tell1 (h, p, T) = none)) ∧ n_ = 2 * h.length + b.toNat ∧ E = ⟨[(2, .ptr 2 0), (3, .ptr 3 0), (4, .ptr 4 0), (9, .shr 6 (zau h)), (10, .lit (.bool b))], [(2, .box [.lit (.int .i64 x1), .shr 1 (intCells e1), .lit (.int .i64 p.a), .lit (.int .i64 p.b), .lit (.int .i64 p.c), .shr 6 (zau r.hold), .shr 2 (zbe T), .lit (.bool true)]), (3, .box (zcm c)), (4, .box [.lit (.int .i64 0), .lit (.slice none 0 0), .lit (.int .i64 0), .lit (.int .i64 0), .lit (.int .i64 0), .lit (.slice none 0 0), .lit (.slice none 0 0), .lit (.bool false)])], 139⟩) (n0 := _) (E0 := _) (⟨true, (r.hold ++ [c]), r.places, r.told, by exact ⟨htl, hT0, fun e => by cases e⟩, rfl, rfl⟩) (ren [(2, 2), (3, 3), (4, 4)]) (zay [(2, 2), (3, 3), (4, 4)] rfl rfl ⟨⟨_, rfl, (.ptr _ _ _ rfl (zak rfl))⟩, ⟨_, rfl, (.ptr _ _ _ rfl (zak rfl))⟩, ⟨_, rfl, (.ptr _ _ _ rfl (zak rfl))⟩, ⟨_, rfl, (zcd rfl (fzL rfl) (by rw [zca]; rfl))⟩, ⟨_, rfl, (.lit _)⟩, tv⟩ ⟨⟨_, _, rfl, rfl, (.cons ((.lit _)) (.cons (.frz _ _ _ _ rfl (fzL rfl)) (.cons ((.lit _)) (.cons ((.lit _)) (.cons ((.lit _)) (.cons ((.shr _ _)) (.cons ((.shr _ _)) (.cons ((.lit _)) .nil))))))))⟩, ⟨_, _, rfl, rfl, (zbk rfl)⟩, ⟨_, _, rfl, rfl, (zbk rfl)⟩, tv⟩ (zaz hpar rfl)) (fun n_ E hR => ?_)
       obtain ⟨b, h, p, T, hI, rfl, rfl⟩ := hR
       obtain ⟨hI0, hI1, hI2⟩ := hI
       refine zad <| zad <| zaa <| s_move rfl rfl tv (fun h87 => ?_) (fun h87 => ?_)
       ·refine zaf tv <| zao rfl <| zax <| zbb <| zad <| zaa <| zae rfl rfl tv <| zaf tv <| zad <| zaa <| zac rfl rfl tv <| zby rfl rfl rfl tv <| zac rfl rfl tv <| zaf tv <| zbb <| zbt (fun n_ E => ∃ (j : Nat), ((j ≤ h.length) ∧ ((h.take j).any (zef p) = false)) ∧ n_ = h.length - j ∧ E = ⟨[(2, .ptr 2 0), (3, .ptr 3 0), (4, .ptr 4 0), (9, .shr 6 (zau h)), (10, .lit (.bool false)), (88, .shr 6 (zau h)), (89, .lit (.int .i64 (zau h).length)), (90, .lit (.int .i64 j))], [(2, .box [.lit (.int .i64 x1), .shr 1 (intCells e1), .lit (.int .i64 p.a), .lit (.int .i64 p.b), .lit (.int .i64 p.c), .shr 6 (zau r.hold), .shr 2 (zbe T), .lit (.bool true)]), (3, .box (zcm c)), (4, .box [.lit (.int .i64 0), .lit (.slice none 0 0), .lit (.int .i64 0), .lit (.int .i64 0), .lit (.int .i64 0), .lit (.slice none 0 0), .lit (.slice none 0 0), .lit (.bool false)])], 139⟩) (n0 := _) (E0 := _) (⟨0, by exact ⟨Nat.zero_le _, rfl⟩, rfl, rfl⟩) (ren [(2, 2), (3, 3), (4, 4)]) (zay [(2, 2), (3, 3), (4, 4)] rfl rfl ⟨⟨_, rfl, (.ptr _ _ _ rfl (zak rfl))⟩, ⟨_, rfl, (.ptr _ _ _ rfl (zak rfl))⟩, ⟨_, rfl, (.ptr _ _ _ rfl (zak rfl))⟩, ⟨_, rfl, (.shr _ _)⟩, ⟨_, rfl, (.lit _)⟩, ⟨_, rfl, (.shr _ _)⟩, ⟨_, rfl, (.lit _)⟩, ⟨_, rfl, (.lit _)⟩, tv⟩ ⟨⟨_, _, rfl, rfl, (zbk rfl)⟩, ⟨_, _, rfl, rfl, (zbk rfl)⟩, ⟨_, _, rfl, rfl, (zbk rfl)⟩, tv⟩ (zaz hpar rfl)) (fun n_ E hR => ?_)
        obtain ⟨j, hI, rfl, rfl⟩ := hR
        obtain ⟨hJ0, hJ1⟩ := hI
        refine zad <| zaa <| zcg rfl rfl rfl tv (fun h91 => ?_) (fun h91 => ?_)
        ·refine zaf tv <| zad <| zao rfl <| zax <| zad <| zbb <| zad ?_
         rw [zai] at h91
         obtain ⟨y, hy⟩ : ∃ y, h[j]? = some y := ⟨_, List.getElem?_eq_getElem (by omega)⟩
         have hyj : h[j]'(by omega) = y := (List.getElem?_eq_some_iff.1 hy).2
         have hbb : (T.length : Int) + h.length = r.next + r.early.length + 1 := hI1.1
         refine zaa <| zac rfl rfl tv <| zbh rfl rfl rfl rfl rfl rfl (chunkCells_get' hy) rfl tv <| zbu rfl rfl rfl rfl rfl tv <| zbd 208 rfl rfl (zar hpar rfl) rfl rfl tv <| zae rfl rfl tv <| zaj rfl rfl rfl rfl rfl rfl rfl rfl tv <| zaf tv <| zad ?_
         rcases st3 hI1 y (List.mem_of_getElem? hy) with hq | hq | hq
         ·refine zbo <| zab rfl rfl rfl rfl rfl rfl tv <| zah rfl rfl rfl rfl rfl rfl tv <| zab rfl rfl rfl rfl rfl rfl tv <| zah rfl rfl rfl rfl rfl rfl tv <| zab rfl rfl rfl rfl rfl rfl tv <| zcj (i := 0) rfl rfl rfl rfl rfl (by exact hq) (by decide) rfl tv <| zah rfl rfl rfl rfl rfl rfl tv <| zci rfl rfl rfl tv (fun h102 => ?_) (fun h102 => ?_)
          ·refine zaf (by kernel_rfl) <| zao rfl <| zad ?_
           have hjl : j < h.length := by omega
           have hry : zef p (h[j]'hjl) = true := by rw [hyj, ready_is]; unfold Places.get; rw [hq]; simpa using h102
           have hstep : tell1 (h, p, T) = some ((h.eraseIdx j), (p.bump (h[j]'hjl).stream), (T ++ [((h[j]'hjl).stream, (h[j]'hjl).data)])) := tell1_at hjl hry (any_take_get hJ1 hJ0)
           have hT2 := zfm hI1 hstep
           have hb : (T.length : Int) + h.length = (r.next + r.early.length + 1) := hI1.1
           have hpb : 0 ≤ p.a ∧ 0 ≤ p.b ∧ 0 ≤ p.c ∧ p.a + p.b + p.c = T.length := hI1.2.1
           refine zbo <| zba 209 rfl rfl rfl rfl rfl rfl rfl rfl rfl rfl (zar hpar rfl) rfl rfl tv <| zab rfl rfl rfl rfl rfl rfl tv <| zah rfl rfl rfl rfl rfl rfl tv <| zbn 210 rfl rfl rfl (.shr _ _) rfl (zar hpar rfl) rfl rfl rfl rfl rfl (by simp [zbx, zaq]; omega) rfl tv <| zab rfl rfl rfl rfl rfl rfl tv <| zah rfl rfl rfl rfl rfl rfl tv <| zab rfl rfl rfl rfl rfl rfl tv <| zah rfl rfl rfl rfl rfl rfl tv <| zdi rfl rfl rfl rfl rfl tv <| zba 211 rfl rfl rfl rfl rfl rfl rfl rfl rfl rfl (zar hpar rfl) rfl rfl tv <| zbn 212 rfl rfl rfl (zdb rfl) rfl (zar hpar rfl) rfl rfl rfl rfl rfl (by simp [zbx, zaq]; omega) rfl tv <| zab rfl rfl rfl rfl rfl rfl tv <| zbl rfl rfl rfl rfl rfl rfl rfl tv <| zaf (by kernel_rfl) <| zad <| zbo <| zab rfl rfl rfl rfl rfl rfl tv <| zah rfl rfl rfl rfl rfl rfl tv <| zab rfl rfl rfl rfl rfl rfl tv <| zah rfl rfl rfl rfl rfl rfl tv <| zab rfl rfl rfl rfl rfl rfl tv <| zcj (i := 0) rfl rfl rfl rfl rfl (by exact hq) (by decide) rfl tv <| zah rfl rfl rfl rfl rfl rfl tv <| zbz rfl rfl rfl (by unfold inI; omega) rfl tv <| zab rfl rfl rfl rfl rfl rfl tv <| zcj (i := 0) rfl rfl rfl rfl rfl (by exact hq) (by decide) rfl tv <| zbl rfl rfl rfl rfl rfl rfl rfl tv <| zaf (by kernel_rfl) <| zad ?_
           refine zbo <| zba 213 rfl rfl rfl rfl rfl rfl rfl rfl rfl rfl (zar hpar rfl) rfl rfl tv <| zac rfl rfl tv <| zac rfl rfl tv <| u_sliceHi j rfl rfl (by rfl) (by simp only [zai]; omega) rfl rfl rfl rfl tv <| zbn 214 rfl rfl rfl (.shr _ _) rfl (zar hpar rfl) rfl rfl rfl rfl rfl (by simp [zbx, zai]; omega) rfl tv <| zac rfl rfl tv <| zac rfl rfl tv <| zbz rfl rfl rfl (by have := hI1.1; simp only at this; unfold inI; omega) rfl tv <| zev (j + 1) rfl rfl (by omega) (by simp only [zai]; omega) rfl rfl rfl rfl tv <| zbn 215 rfl rfl rfl (.shr _ _) rfl (zar hpar rfl) rfl rfl rfl rfl rfl (by simp [zbx, zai]; omega) rfl tv <| zae rfl rfl tv <| zaf (by kernel_rfl) <| zad <| zaa <| zae rfl rfl tv <| zaf tv <| zbw <| iteN (by decide) <| iteP rfl <| ⟨_, _, ren [(2, 2), (3, 3), (4, 4)], ?_, ⟨true, (h.eraseIdx j), (p.bump (h[j]'hjl).stream), (T ++ [((h[j]'hjl).stream, (h[j]'hjl).data)]), ?_, rfl, rfl⟩, zay [(2, 2), (3, 3), (4, 4)] rfl rfl ⟨⟨_, rfl, (.ptr _ _ _ rfl (zak rfl))⟩, ⟨_, rfl, (.ptr _ _ _ rfl (zak rfl))⟩, ⟨_, rfl, (.ptr _ _ _ rfl (zak rfl))⟩, ⟨_, rfl, (zcd rfl (fzL rfl) (by rw [erase_cells]; rfl))⟩, ⟨_, rfl, (.lit _)⟩, tv⟩ ⟨⟨_, _, rfl, rfl, (.cons ((.lit _)) (.cons ((.shr _ _)) (.cons (subI (by rw [hyj]; first | (rw [hq]; rfl) | simp [Places.bump, hq])) (.cons (subI (by rw [hyj]; first | (rw [hq]; rfl) | simp [Places.bump, hq])) (.cons (subI (by rw [hyj]; first | (rw [hq]; rfl) | simp [Places.bump, hq])) (.cons ((.shr _ _)) (.cons (zcd rfl (fzL rfl) (by rw [zcs, hyj]; rfl)) (.cons ((.lit _)) .nil))))))))⟩, ⟨_, _, rfl, rfl, (zbk rfl)⟩, ⟨_, _, rfl, rfl, (zbk rfl)⟩, tv⟩ (zaz hpar rfl)⟩
           ·rw [h87, List.length_eraseIdx, if_pos hjl]; simp; omega
           ·exact ⟨by rw [← hI0]; exact (zex hstep).symm, hT2, fun e => by cases e⟩
          ·refine zaf (by kernel_rfl) <| zap rfl <| zax <| zaa <| zbz rfl rfl rfl (by unfold inI; omega) rfl tv <| zac rfl rfl tv <| zaf tv <| ⟨_, _, ren [(2, 2), (3, 3), (4, 4)], ?_, ⟨j + 1, ?_, rfl, rfl⟩, zay [(2, 2), (3, 3), (4, 4)] rfl rfl ⟨⟨_, rfl, (.ptr _ _ _ rfl (zak rfl))⟩, ⟨_, rfl, (.ptr _ _ _ rfl (zak rfl))⟩, ⟨_, rfl, (.ptr _ _ _ rfl (zak rfl))⟩, ⟨_, rfl, (.shr _ _)⟩, ⟨_, rfl, (.lit _)⟩, ⟨_, rfl, (.shr _ _)⟩, ⟨_, rfl, (.lit _)⟩, ⟨_, rfl, (.lit _)⟩, tv⟩ ⟨⟨_, _, rfl, rfl, (zbk rfl)⟩, ⟨_, _, rfl, rfl, (zbk rfl)⟩, ⟨_, _, rfl, rfl, (zbk rfl)⟩, tv⟩ (zaz hpar rfl)⟩
           ·omega
           ·refine ⟨by omega, ?_⟩
            rw [any_snoc (by omega), hJ1, hyj, ready_is]
            unfold Places.get
            rw [hq]
            simpa using h102
         ·refine zbo <| zab rfl rfl rfl rfl rfl rfl tv <| zah rfl rfl rfl rfl rfl rfl tv <| zab rfl rfl rfl rfl rfl rfl tv <| zah rfl rfl rfl rfl rfl rfl tv <| zab rfl rfl rfl rfl rfl rfl tv <| zcj (i := 1) rfl rfl rfl rfl rfl (by exact hq) (by decide) rfl tv <| zah rfl rfl rfl rfl rfl rfl tv <| zci rfl rfl rfl tv (fun h102 => ?_) (fun h102 => ?_)
          ·refine zaf (by kernel_rfl) <| zao rfl <| zad ?_
           have hjl : j < h.length := by omega
           have hry : zef p (h[j]'hjl) = true := by rw [hyj, ready_is]; unfold Places.get; rw [hq]; simpa using h102
           have hstep : tell1 (h, p, T) = some ((h.eraseIdx j), (p.bump (h[j]'hjl).stream), (T ++ [((h[j]'hjl).stream, (h[j]'hjl).data)])) := tell1_at hjl hry (any_take_get hJ1 hJ0)
           have hT2 := zfm hI1 hstep
           have hb : (T.length : Int) + h.length = (r.next + r.early.length + 1) := hI1.1
           have hpb : 0 ≤ p.a ∧ 0 ≤ p.b ∧ 0 ≤ p.c ∧ p.a + p.b + p.c = T.length := hI1.2.1
           refine zbo <| zba 209 rfl rfl rfl rfl rfl rfl rfl rfl rfl rfl (zar hpar rfl) rfl rfl tv <| zab rfl rfl rfl rfl rfl rfl tv <| zah rfl rfl rfl rfl rfl rfl tv <| zbn 210 rfl rfl rfl (.shr _ _) rfl (zar hpar rfl) rfl rfl rfl rfl rfl (by simp [zbx, zaq]; omega) rfl tv <| zab rfl rfl rfl rfl rfl rfl tv <| zah rfl rfl rfl rfl rfl rfl tv <| zab rfl rfl rfl rfl rfl rfl tv <| zah rfl rfl rfl rfl rfl rfl tv <| zdi rfl rfl rfl rfl rfl tv <| zba 211 rfl rfl rfl rfl rfl rfl rfl rfl rfl rfl (zar hpar rfl) rfl rfl tv <| zbn 212 rfl rfl rfl (zdb rfl) rfl (zar hpar rfl) rfl rfl rfl rfl rfl (by simp [zbx, zaq]; omega) rfl tv <| zab rfl rfl rfl rfl rfl rfl tv <| zbl rfl rfl rfl rfl rfl rfl rfl tv <| zaf (by kernel_rfl) <| zad <| zbo <| zab rfl rfl rfl rfl rfl rfl tv <| zah rfl rfl rfl rfl rfl rfl tv <| zab rfl rfl rfl rfl rfl rfl tv <| zah rfl rfl rfl rfl rfl rfl tv <| zab rfl rfl rfl rfl rfl rfl tv <| zcj (i := 1) rfl rfl rfl rfl rfl (by exact hq) (by decide) rfl tv <| zah rfl rfl rfl rfl rfl rfl tv <| zbz rfl rfl rfl (by unfold inI; omega) rfl tv <| zab rfl rfl rfl rfl rfl rfl tv <| zcj (i := 1) rfl rfl rfl rfl rfl (by exact hq) (by decide) rfl tv <| zbl rfl rfl rfl rfl rfl rfl rfl tv <| zaf (by kernel_rfl) <| zad ?_
           refine zbo <| zba 213 rfl rfl rfl rfl rfl rfl rfl rfl rfl rfl (zar hpar rfl) rfl rfl tv <| zac rfl rfl tv <| zac rfl rfl tv <| u_sliceHi j rfl rfl (by rfl) (by simp only [zai]; omega) rfl rfl rfl rfl tv <| zbn 214 rfl rfl rfl (.shr _ _) rfl (zar hpar rfl) rfl rfl rfl rfl rfl (by simp [zbx, zai]; omega) rfl tv <| zac rfl rfl tv <| zac rfl rfl tv <| zbz rfl rfl rfl (by have := hI1.1; simp only at this; unfold inI; omega) rfl tv <| zev (j + 1) rfl rfl (by omega) (by simp only [zai]; omega) rfl rfl rfl rfl tv <| zbn 215 rfl rfl rfl (.shr _ _) rfl (zar hpar rfl) rfl rfl rfl rfl rfl (by simp [zbx, zai]; omega) rfl tv <| zae rfl rfl tv <| zaf (by kernel_rfl) <| zad <| zaa <| zae rfl rfl tv <| zaf tv <| zbw <| iteN (by decide) <| iteP rfl <| ⟨_, _, ren [(2, 2), (3, 3), (4, 4)], ?_, ⟨true, (h.eraseIdx j), (p.bump (h[j]'hjl).stream), (T ++ [((h[j]'hjl).stream, (h[j]'hjl).data)]), ?_, rfl, rfl⟩, zay [(2, 2), (3, 3), (4, 4)] rfl rfl ⟨⟨_, rfl, (.ptr _ _ _ rfl (zak rfl))⟩, ⟨_, rfl, (.ptr _ _ _ rfl (zak rfl))⟩, ⟨_, rfl, (.ptr _ _ _ rfl (zak rfl))⟩, ⟨_, rfl, (zcd rfl (fzL rfl) (by rw [erase_cells]; rfl))⟩, ⟨_, rfl, (.lit _)⟩, tv⟩ ⟨⟨_, _, rfl, rfl, (.cons ((.lit _)) (.cons ((.shr _ _)) (.cons (subI (by rw [hyj]; first | (rw [hq]; rfl) | simp [Places.bump, hq])) (.cons (subI (by rw [hyj]; first | (rw [hq]; rfl) | simp [Places.bump, hq])) (.cons (subI (by rw [hyj]; first | (rw [hq]; rfl) | simp [Places.bump, hq])) (.cons ((.shr _ _)) (.cons (zcd rfl (fzL rfl) (by rw [zcs, hyj]; rfl)) (.cons ((.lit _)) .nil))))))))⟩, ⟨_, _, rfl, rfl, (zbk rfl)⟩, ⟨_, _, rfl, rfl, (zbk rfl)⟩, tv⟩ (zaz hpar rfl)⟩
           ·rw [h87, List.length_eraseIdx, if_pos hjl]; simp; omega
           ·exact ⟨by rw [← hI0]; exact (zex hstep).symm, hT2, fun e => by cases e⟩
          ·refine zaf (by kernel_rfl) <| zap rfl <| zax <| zaa <| zbz rfl rfl rfl (by unfold inI; omega) rfl tv <| zac rfl rfl tv <| zaf tv <| ⟨_, _, ren [(2, 2), (3, 3), (4, 4)], ?_, ⟨j + 1, ?_, rfl, rfl⟩, zay [(2, 2), (3, 3), (4, 4)] rfl rfl ⟨⟨_, rfl, (.ptr _ _ _ rfl (zak rfl))⟩, ⟨_, rfl, (.ptr _ _ _ rfl (zak rfl))⟩, ⟨_, rfl, (.ptr _ _ _ rfl (zak rfl))⟩, ⟨_, rfl, (.shr _ _)⟩, ⟨_, rfl, (.lit _)⟩, ⟨_, rfl, (.shr _ _)⟩, ⟨_, rfl, (.lit _)⟩, ⟨_, rfl, (.lit _)⟩, tv⟩ ⟨⟨_, _, rfl, rfl, (zbk rfl)⟩, ⟨_, _, rfl, rfl, (zbk rfl)⟩, ⟨_, _, rfl, rfl, (zbk rfl)⟩, tv⟩ (zaz hpar rfl)⟩
           ·omega
           ·refine ⟨by omega, ?_⟩
            rw [any_snoc (by omega), hJ1, hyj, ready_is]
            unfold Places.get
            rw [hq]
            simpa using h102
         ·refine zbo <| zab rfl rfl rfl rfl rfl rfl tv <| zah rfl rfl rfl rfl rfl rfl tv <| zab rfl rfl rfl rfl rfl rfl tv <| zah rfl rfl rfl rfl rfl rfl tv <| zab rfl rfl rfl rfl rfl rfl tv <| zcj (i := 2) rfl rfl rfl rfl rfl (by exact hq) (by decide) rfl tv <| zah rfl rfl rfl rfl rfl rfl tv <| zci rfl rfl rfl tv (fun h102 => ?_) (fun h102 => ?_)
          ·refine zaf (by kernel_rfl) <| zao rfl <| zad ?_
           have hjl : j < h.length := by omega
           have hry : zef p (h[j]'hjl) = true := by rw [hyj, ready_is]; unfold Places.get; rw [hq]; simpa using h102
           have hstep : tell1 (h, p, T) = some ((h.eraseIdx j), (p.bump (h[j]'hjl).stream), (T ++ [((h[j]'hjl).stream, (h[j]'hjl).data)])) := tell1_at hjl hry (any_take_get hJ1 hJ0)
           have hT2 := zfm hI1 hstep
           have hb : (T.length : Int) + h.length = (r.next + r.early.length + 1) := hI1.1
           have hpb : 0 ≤ p.a ∧ 0 ≤ p.b ∧ 0 ≤ p.c ∧ p.a + p.b + p.c = T.length := hI1.2.1
           refine zbo <| zba 209 rfl rfl rfl rfl rfl rfl rfl rfl rfl rfl (zar hpar rfl) rfl rfl tv <| zab rfl rfl rfl rfl rfl rfl tv <| zah rfl rfl rfl rfl rfl rfl tv <| zbn 210 rfl rfl rfl (.shr _ _) rfl (zar hpar rfl) rfl rfl rfl rfl rfl (by simp [zbx, zaq]; omega) rfl tv <| zab rfl rfl rfl rfl rfl rfl tv <| zah rfl rfl rfl rfl rfl rfl tv <| zab rfl rfl rfl rfl rfl rfl tv <| zah rfl rfl rfl rfl rfl rfl tv <| zdi rfl rfl rfl rfl rfl tv <| zba 211 rfl rfl rfl rfl rfl rfl rfl rfl rfl rfl (zar hpar rfl) rfl rfl tv <| zbn 212 rfl rfl rfl (zdb rfl) rfl (zar hpar rfl) rfl rfl rfl rfl rfl (by simp [zbx, zaq]; omega) rfl tv <| zab rfl rfl rfl rfl rfl rfl tv <| zbl rfl rfl rfl rfl rfl rfl rfl tv <| zaf (by kernel_rfl) <| zad <| zbo <| zab rfl rfl rfl rfl rfl rfl tv <| zah rfl rfl rfl rfl rfl rfl tv <| zab rfl rfl rfl rfl rfl rfl tv <| zah rfl rfl rfl rfl rfl rfl tv <| zab rfl rfl rfl rfl rfl rfl tv <| zcj (i := 2) rfl rfl rfl rfl rfl (by exact hq) (by decide) rfl tv <| zah rfl rfl rfl rfl rfl rfl tv <| zbz rfl rfl rfl (by unfold inI; omega) rfl tv <| zab rfl rfl rfl rfl rfl rfl tv <| zcj (i := 2) rfl rfl rfl rfl rfl (by exact hq) (by decide) rfl tv <| zbl rfl rfl rfl rfl rfl rfl rfl tv <| zaf (by kernel_rfl) <| zad ?_
           refine zbo <| zba 213 rfl rfl rfl rfl rfl rfl rfl rfl rfl rfl (zar hpar rfl) rfl rfl tv <| zac rfl rfl tv <| zac rfl rfl tv <| u_sliceHi j rfl rfl (by rfl) (by simp only [zai]; omega) rfl rfl rfl rfl tv <| zbn 214 rfl rfl rfl (.shr _ _) rfl (zar hpar rfl) rfl rfl rfl rfl rfl (by simp [zbx, zai]; omega) rfl tv <| zac rfl rfl tv <| zac rfl rfl tv <| zbz rfl rfl rfl (by have := hI1.1; simp only at this; unfold inI; omega) rfl tv <| zev (j + 1) rfl rfl (by omega) (by simp only [zai]; omega) rfl rfl rfl rfl tv <| zbn 215 rfl rfl rfl (.shr _ _) rfl (zar hpar rfl) rfl rfl rfl rfl rfl (by simp [zbx, zai]; omega) rfl tv <| zae rfl rfl tv <| zaf (by kernel_rfl) <| zad <| zaa <| zae rfl rfl tv <| zaf tv <| zbw <| iteN (by decide) <| iteP rfl <| ⟨_, _, ren [(2, 2), (3, 3), (4, 4)], ?_, ⟨true, (h.eraseIdx j), (p.bump (h[j]'hjl).stream), (T ++ [((h[j]'hjl).stream, (h[j]'hjl).data)]), ?_, rfl, rfl⟩, zay [(2, 2), (3, 3), (4, 4)] rfl rfl ⟨⟨_, rfl, (.ptr _ _ _ rfl (zak rfl))⟩, ⟨_, rfl, (.ptr _ _ _ rfl (zak rfl))⟩, ⟨_, rfl, (.ptr _ _ _ rfl (zak rfl))⟩, ⟨_, rfl, (zcd rfl (fzL rfl) (by rw [erase_cells]; rfl))⟩, ⟨_, rfl, (.lit _)⟩, tv⟩ ⟨⟨_, _, rfl, rfl, (.cons ((.lit _)) (.cons ((.shr _ _)) (.cons (subI (by rw [hyj]; first | (rw [hq]; rfl) | simp [Places.bump, hq])) (.cons (subI (by rw [hyj]; first | (rw [hq]; rfl) | simp [Places.bump, hq])) (.cons (subI (by rw [hyj]; first | (rw [hq]; rfl) | simp [Places.bump, hq])) (.cons ((.shr _ _)) (.cons (zcd rfl (fzL rfl) (by rw [zcs, hyj]; rfl)) (.cons ((.lit _)) .nil))))))))⟩, ⟨_, _, rfl, rfl, (zbk rfl)⟩, ⟨_, _, rfl, rfl, (zbk rfl)⟩, tv⟩ (zaz hpar rfl)⟩
           ·rw [h87, List.length_eraseIdx, if_pos hjl]; simp; omega
           ·exact ⟨by rw [← hI0]; exact (zex hstep).symm, hT2, fun e => by cases e⟩
          ·refine zaf (by kernel_rfl) <| zap rfl <| zax <| zaa <| zbz rfl rfl rfl (by unfold inI; omega) rfl tv <| zac rfl rfl tv <| zaf tv <| ⟨_, _, ren [(2, 2), (3, 3), (4, 4)], ?_, ⟨j + 1, ?_, rfl, rfl⟩, zay [(2, 2), (3, 3), (4, 4)] rfl rfl ⟨⟨_, rfl, (.ptr _ _ _ rfl (zak rfl))⟩, ⟨_, rfl, (.ptr _ _ _ rfl (zak rfl))⟩, ⟨_, rfl, (.ptr _ _ _ rfl (zak rfl))⟩, ⟨_, rfl, (.shr _ _)⟩, ⟨_, rfl, (.lit _)⟩, ⟨_, rfl, (.shr _ _)⟩, ⟨_, rfl, (.lit _)⟩, ⟨_, rfl, (.lit _)⟩, tv⟩ ⟨⟨_, _, rfl, rfl, (zbk rfl)⟩, ⟨_, _, rfl, rfl, (zbk rfl)⟩, ⟨_, _, rfl, rfl, (zbk rfl)⟩, tv⟩ (zaz hpar rfl)⟩
           ·omega
           ·refine ⟨by omega, ?_⟩
            rw [any_snoc (by omega), hJ1, hyj, ready_is]
            unfold Places.get
            rw [hq]
            simpa using h102
        ·refine zaf tv <| zad <| zap rfl <| zbw <| iteP rfl <| ⟨_, _, ren [(2, 2), (3, 3), (4, 4)], ?_, ⟨false, h, p, T, ?_, rfl, rfl⟩, zay [(2, 2), (3, 3), (4, 4)] rfl rfl ⟨⟨_, rfl, (.ptr _ _ _ rfl (zak rfl))⟩, ⟨_, rfl, (.ptr _ _ _ rfl (zak rfl))⟩, ⟨_, rfl, (.ptr _ _ _ rfl (zak rfl))⟩, ⟨_, rfl, (.shr _ _)⟩, ⟨_, rfl, (.lit _)⟩, tv⟩ ⟨⟨_, _, rfl, rfl, (zbk rfl)⟩, ⟨_, _, rfl, rfl, (zbk rfl)⟩, ⟨_, _, rfl, rfl, (zbk rfl)⟩, tv⟩ (zaz hpar rfl)⟩
         ·rw [h87]; simp
         ·rw [zai] at h91
          rw [List.take_of_length_le (by omega)] at hJ1
          exact ⟨hI0, hI1, fun _ => tell1_no (take_any_all hJ1)⟩
       ·refine zaf tv <| zap rfl <| zbw <| iteP rfl <| zad <| zaa <| zac rfl rfl tv <| zab rfl rfl rfl rfl rfl rfl tv <| zbl rfl rfl rfl rfl rfl rfl rfl tv <| zaf tv <| zad <| zaa <| zam rfl rfl rfl rfl rfl rfl tv <| zaj rfl rfl rfl rfl rfl rfl rfl rfl tv <| zaf tv <| zaw ?_
        rw [tellAll_none (hI2 h87)] at hI0
        cases hI0
        rw [rhear_takes hk hnr hst htl]
        refine fin' [] (.inr rfl) (.cons (.cellN rfl rfl rfl rfl rfl) .nil) (zay [] rfl rfl ⟨⟨_, rfl, (.agg _ _ (.cons (subI ?_) (.cons (subS ?_) (.cons (subI ?_) (.cons (subI ?_) (.cons (subI ?_) (.cons (subS ?_) (.cons (subS ?_) (.cons (subB ?_) .nil)))))))))⟩, tv⟩ tv (zaz rfl rfl))
        all_goals (try rfl)
    ·refine zac rfl rfl (gk rfl) <| zag rfl rfl rfl rfl rfl <| zag rfl rfl rfl rfl rfl <| zag rfl rfl rfl rfl rfl <| zag rfl rfl rfl rfl rfl <| zat rfl rfl rfl (gk rfl) <| zat rfl rfl rfl tv <| zaf tv <| zap rfl <| zax ?_
     have hk : c.kind = 1 := by omega
     have hnr : ¬ zes r c.num := by
       rintro (h | h | h)
       · omega
       · exact hne h
       · obtain ⟨g1, g2⟩ := h
         first | omega | ((try simp only [zaq, zai, zal, byteCells_length] at *); omega)
     obtain ⟨e1, x1, hst⟩ : ∃ e x, strip (zej c.num r.early) r.next = (e, x) := ⟨_, _, rfl⟩
     obtain ⟨h1, p1, T1, htl⟩ : ∃ h p T, tellAll (r.hold ++ [c], r.places, r.told) = (h, p, T) := ⟨_, _, _, rfl⟩
     have hT0 := taleOk0 hr hc hk
     have hcv := covers0 hr hc hk hne (by omega)
     refine zen (Covers ([c.num] ++ r.early) e1 x1 ∧ (0 ≤ x1 ∧ x1 ≤ 40) ∧ ∀ y ∈ e1, x1 < y) (⟨[(2, .ptr 2 0), (3, .ptr 3 0), (4, .ptr 4 0), (5, .mp 15)], [(2, .box [.lit (.int .i64 x1), .shr 1 (intCells r.early), .lit (.int .i64 r.places.a), .lit (.int .i64 r.places.b), .lit (.int .i64 r.places.c), .shr 6 (zau r.hold), .shr 2 (zbe r.told), .lit (.bool true)]), (3, .box (zcm c)), (4, .box [.lit (.int .i64 0), .lit (.slice none 0 0), .lit (.int .i64 0), .lit (.int .i64 0), .lit (.int .i64 0), .lit (.slice none 0 0), .lit (.slice none 0 0), .lit (.bool false)]), (15, .set ([c.num] ++ r.early))], 139⟩) ?_ (fun hA16 => ?_)
     ·refine zbb <| zbt (fun n_ E => ∃ (l : List Int) (x : Int), ((strip l x = (e1, x1)) ∧ (Covers ([c.num] ++ r.early) l x) ∧ (0 ≤ x ∧ x ≤ 40)) ∧ n_ = l.length ∧ E = ⟨[(2, .ptr 2 0), (3, .ptr 3 0), (4, .ptr 4 0), (5, .mp 15)], [(2, .box [.lit (.int .i64 x), .shr 1 (intCells r.early), .lit (.int .i64 r.places.a), .lit (.int .i64 r.places.b), .lit (.int .i64 r.places.c), .shr 6 (zau r.hold), .shr 2 (zbe r.told), .lit (.bool true)]), (3, .box (zcm c)), (4, .box [.lit (.int .i64 0), .lit (.slice none 0 0), .lit (.int .i64 0), .lit (.int .i64 0), .lit (.int .i64 0), .lit (.slice none 0 0), .lit (.slice none 0 0), .lit (.bool false)]), (15, .set ([c.num] ++ r.early))], 139⟩) (n0 := _) (E0 := _) (⟨zej c.num r.early, r.next, by exact ⟨hst, hcv, hn0⟩, rfl, rfl⟩) (ren [(2, 2), (3, 3), (4, 4), (15, 15)]) (zay [(2, 2), (3, 3), (4, 4), (15, 15)] rfl rfl ⟨⟨_, rfl, (.ptr _ _ _ rfl (zak rfl))⟩, ⟨_, rfl, (.ptr _ _ _ rfl (zak rfl))⟩, ⟨_, rfl, (.ptr _ _ _ rfl (zak rfl))⟩, ⟨_, rfl, (.mp _ _ rfl (zak rfl))⟩, tv⟩ ⟨⟨_, _, rfl, rfl, (zbk rfl)⟩, ⟨_, _, rfl, rfl, (zbk rfl)⟩, ⟨_, _, rfl, rfl, (zbk rfl)⟩, ⟨_, rfl, rfl⟩, tv⟩ (zaz hpar rfl)) (fun n_ E hR => ?_)
      obtain ⟨l, x, hI, rfl, rfl⟩ := hR
      obtain ⟨hI0, hI1, hI2⟩ := hI
      refine zad <| zad <| zaa <| zac rfl rfl tv <| zab rfl rfl rfl rfl rfl rfl tv <| zah rfl rfl rfl rfl rfl rfl tv <| s_lookup rfl rfl rfl rfl rfl rfl zero4 rfl tv (fun h59 => ?_) (fun h59 => ?_)
      ·refine zaf tv <| zao rfl <| zax <| zbb ?_
       obtain ⟨l', hl1, hl2⟩ := covers_hit hI1 h59
       have hx40 := (hI1.2.1 x (by rw [hl1]; simp)).2
       refine zaa <| zab rfl rfl rfl rfl rfl rfl tv <| zah rfl rfl rfl rfl rfl rfl tv <| zbz rfl rfl rfl (by unfold inI; omega) rfl tv <| zab rfl rfl rfl rfl rfl rfl tv <| zbl rfl rfl rfl rfl rfl rfl rfl tv <| zaf tv <| ⟨_, _, ren [(2, 2), (3, 3), (4, 4), (15, 15)], ?_, ⟨l', x + 1, ?_, rfl, rfl⟩, zay [(2, 2), (3, 3), (4, 4), (15, 15)] rfl rfl ⟨⟨_, rfl, (.ptr _ _ _ rfl (zak rfl))⟩, ⟨_, rfl, (.ptr _ _ _ rfl (zak rfl))⟩, ⟨_, rfl, (.ptr _ _ _ rfl (zak rfl))⟩, ⟨_, rfl, (.mp _ _ rfl (zak rfl))⟩, tv⟩ ⟨⟨_, _, rfl, rfl, (zbk rfl)⟩, ⟨_, _, rfl, rfl, (zbk rfl)⟩, ⟨_, _, rfl, rfl, (zbk rfl)⟩, ⟨_, rfl, rfl⟩, tv⟩ (zaz hpar rfl)⟩
       ·rw [hl1]; simp
       ·refine ⟨by rw [← hI0, hl1, strip_cons_eq], hl2, ?_⟩
        have := (hI1.2.1 x (by rw [hl1]; simp)).2
        omega
      ·refine zaf tv <| zap rfl <| zbw <| iteP rfl <| ⟨?_, ren [(2, 2), (3, 3), (4, 4), (15, 15)], zay [(2, 2), (3, 3), (4, 4), (15, 15)] rfl rfl ⟨⟨_, rfl, (.ptr _ _ _ rfl (zak rfl))⟩, ⟨_, rfl, (.ptr _ _ _ rfl (zak rfl))⟩, ⟨_, rfl, (.ptr _ _ _ rfl (zak rfl))⟩, ⟨_, rfl, (.mp _ _ rfl (zak rfl))⟩, tv⟩ ⟨⟨_, _, rfl, rfl, (.cons (subI (by rw [(covers_miss hI1 h59).1] at hI0; cases hI0; rfl)) (.cons ((.shr _ _)) (.cons ((.lit _)) (.cons ((.lit _)) (.cons ((.lit _)) (.cons ((.shr _ _)) (.cons ((.shr _ _)) (.cons ((.lit _)) .nil))))))))⟩, ⟨_, _, rfl, rfl, (zbk rfl)⟩, ⟨_, _, rfl, rfl, (zbk rfl)⟩, ⟨_, rfl, rfl⟩, tv⟩ (zaz hpar rfl)⟩
       ·obtain ⟨g1, g2⟩ := covers_miss hI1 h59
        rw [g1] at hI0
        cases hI0
        exact ⟨hI1, hI2, g2⟩
     obtain ⟨hE1, hE2, hE3⟩ := hA16
     refine zad <| zaa <| zab rfl rfl rfl rfl rfl rfl tv <| zbl rfl rfl rfl rfl rfl rfl rfl tv <| zaf tv <| zad <| zad <| zaa <| zab rfl rfl rfl rfl rfl rfl tv <| zah rfl rfl rfl rfl rfl rfl tv <| zae rfl rfl tv <| zaf tv <| zbb <| zbt (fun n_ E => ∃ (k : Int) (a : List Int), ((a = e1.filter (fun y => decide (y < k))) ∧ (x1 ≤ k ∧ k ≤ 40)) ∧ n_ = (40 - k).toNat ∧ E = ⟨[(2, .ptr 2 0), (3, .ptr 3 0), (4, .ptr 4 0), (5, .mp 15), (8, .lit (.int .i64 k))], [(2, .box [.lit (.int .i64 x1), .row 906, .lit (.int .i64 r.places.a), .lit (.int .i64 r.places.b), .lit (.int .i64 r.places.c), .shr 6 (zau r.hold), .shr 2 (zbe r.told), .lit (.bool true)]), (3, .box (zcm c)), (4, .box [.lit (.int .i64 0), .lit (.slice none 0 0), .lit (.int .i64 0), .lit (.int .i64 0), .lit (.int .i64 0), .lit (.slice none 0 0), .lit (.slice none 0 0), .lit (.bool false)]), (906, .row 3 1 (intCells a)), (15, .set ([c.num] ++ r.early))], 139⟩) (n0 := _) (E0 := _) (⟨x1, [], by exact ⟨(filter_lt_0 hE3).symm, Int.le_refl _, hE2.2⟩, rfl, rfl⟩) (ren [(2, 2), (3, 3), (4, 4), (15, 15)]) (zay [(2, 2), (3, 3), (4, 4), (15, 15)] rfl rfl ⟨⟨_, rfl, (.ptr _ _ _ rfl (zak rfl))⟩, ⟨_, rfl, (.ptr _ _ _ rfl (zak rfl))⟩, ⟨_, rfl, (.ptr _ _ _ rfl (zak rfl))⟩, ⟨_, rfl, (.mp _ _ rfl (zak rfl))⟩, ⟨_, rfl, (.lit _)⟩, tv⟩ ⟨⟨_, _, rfl, rfl, (.cons ((.lit _)) (.cons (.nilrow _ _ _ _ rfl rfl) (.cons ((.lit _)) (.cons ((.lit _)) (.cons ((.lit _)) (.cons ((.shr _ _)) (.cons ((.shr _ _)) (.cons ((.lit _)) .nil))))))))⟩, ⟨_, _, rfl, rfl, (zbk rfl)⟩, ⟨_, _, rfl, rfl, (zbk rfl)⟩, (.inr (.inl ⟨rfl, rfl⟩)), ⟨_, rfl, rfl⟩, tv⟩ (zaz hpar rfl)) (fun n_ E hR => ?_)
     obtain ⟨k, a, hI, rfl, rfl⟩ := hR
     obtain ⟨hI0, hI1⟩ := hI
     refine zad <| zad <| zaa <| zac rfl rfl tv <| zcg rfl rfl rfl tv (fun h68 => ?_) (fun h68 => ?_)
     ·refine zaf tv <| zao rfl <| zax <| zad <| zbb <| zad ?_
      have hal : a.length ≤ e1.length := by rw [hI0]; exact List.length_filter_le _ _
      have hel := covers_len hE1 hE2.2
      refine zaa <| zac rfl rfl tv <| zac rfl rfl tv <| s_lookup rfl rfl rfl rfl rfl rfl zero4 rfl tv (fun h73 => ?_) (fun h73 => ?_)
      ·refine zaf tv <| zao rfl <| zaa <| zab rfl rfl rfl rfl rfl rfl tv <| zah rfl rfl rfl rfl rfl rfl tv <| zac rfl rfl tv <| zba 164 rfl rfl rfl rfl rfl rfl rfl rfl rfl rfl (zar hpar rfl) rfl rfl tv <| zbn 165 rfl rfl rfl (zdb rfl) rfl (zar hpar rfl) rfl rfl rfl rfl rfl (by simp [zbx, intCells]; omega) rfl tv <| zab rfl rfl rfl rfl rfl rfl tv <| zbl rfl rfl rfl rfl rfl rfl rfl tv <| zaf tv <| zaa <| zac rfl rfl tv <| zbz rfl rfl rfl (by unfold inI; omega) rfl tv <| zae rfl rfl tv <| zaf tv <| ⟨_, _, ren [(2, 2), (3, 3), (4, 4), (15, 15), (906, 165)], ?_, ⟨k + 1, a ++ [k], ?_, rfl, rfl⟩, zay [(2, 2), (3, 3), (4, 4), (15, 15), (906, 165)] rfl rfl ⟨⟨_, rfl, (.ptr _ _ _ rfl (zak rfl))⟩, ⟨_, rfl, (.ptr _ _ _ rfl (zak rfl))⟩, ⟨_, rfl, (.ptr _ _ _ rfl (zak rfl))⟩, ⟨_, rfl, (.mp _ _ rfl (zak rfl))⟩, ⟨_, rfl, (.lit _)⟩, tv⟩ ⟨⟨_, _, rfl, rfl, (.cons ((.lit _)) (.cons ((.row _ _ rfl (zak rfl))) (.cons ((.lit _)) (.cons ((.lit _)) (.cons ((.lit _)) (.cons ((.shr _ _)) (.cons ((.shr _ _)) (.cons ((.lit _)) .nil))))))))⟩, ⟨_, _, rfl, rfl, (zbk rfl)⟩, ⟨_, _, rfl, rfl, (zbk rfl)⟩, (.inl ⟨_, rfl, zcq rfl (by simp [intCells, zbx, cellsOf])⟩), ⟨_, rfl, rfl⟩, tv⟩ (zaz hpar rfl)⟩
       ·omega
       ·refine ⟨?_, by omega⟩
        rw [filter_lt_y hE1.1 ((hE1.2.2 k (by omega)).1 (by simpa using h73)), hI0]
      ·refine zaf tv <| zap rfl <| zax <| zaa <| zac rfl rfl tv <| zbz rfl rfl rfl (by unfold inI; omega) rfl tv <| zae rfl rfl tv <| zaf tv <| ⟨_, _, ren [(2, 2), (3, 3), (4, 4), (15, 15), (906, 906)], ?_, ⟨k + 1, a, ?_, rfl, rfl⟩, zay [(2, 2), (3, 3), (4, 4), (15, 15), (906, 906)] rfl rfl ⟨⟨_, rfl, (.ptr _ _ _ rfl (zak rfl))⟩, ⟨_, rfl, (.ptr _ _ _ rfl (zak rfl))⟩, ⟨_, rfl, (.ptr _ _ _ rfl (zak rfl))⟩, ⟨_, rfl, (.mp _ _ rfl (zak rfl))⟩, ⟨_, rfl, (.lit _)⟩, tv⟩ ⟨⟨_, _, rfl, rfl, (.cons ((.lit _)) (.cons ((.row _ _ rfl (zak rfl))) (.cons ((.lit _)) (.cons ((.lit _)) (.cons ((.lit _)) (.cons ((.shr _ _)) (.cons ((.shr _ _)) (.cons ((.lit _)) .nil))))))))⟩, ⟨_, _, rfl, rfl, (zbk rfl)⟩, ⟨_, _, rfl, rfl, (zbk rfl)⟩, (.inl ⟨_, rfl, rfl⟩), ⟨_, rfl, rfl⟩, tv⟩ (zaz hpar rfl)⟩
       ·omega
       ·refine ⟨?_, by omega⟩
        rw [filter_lt_n (fun hm => by have := (hE1.2.2 k (by omega)).2 hm; exact absurd (show ([c.num] ++ r.early).contains k = true by simpa using this) (by rw [h73]; decide)), hI0]
     ·refine zaf tv <| zap rfl <| zbw <| iteP rfl <| zad ?_
      have hae : a = e1 := by rw [hI0]; exact filter_lt_40 (fun y hy => (hE1.2.1 y hy).2) (by omega)
      rw [hae]
      refine zbo <| zba 164 rfl rfl rfl rfl rfl rfl rfl rfl rfl rfl (zar hpar rfl) rfl rfl tv <| zab rfl rfl rfl rfl rfl rfl tv <| zah rfl rfl rfl rfl rfl rfl tv <| zbn 165 rfl rfl rfl (.shr _ _) rfl (zar hpar rfl) rfl rfl rfl rfl rfl (by simp [zbx, zai]; omega) rfl tv <| zam rfl rfl rfl rfl rfl rfl tv <| zba 166 rfl rfl rfl rfl rfl rfl rfl rfl rfl rfl (zar hpar rfl) rfl rfl tv <| zbn 167 rfl rfl rfl (zdb rfl) rfl (zar hpar rfl) rfl rfl rfl rfl rfl (by simp [zbx, zai]; omega) rfl tv <| zae rfl rfl tv <| zaf (by kernel_rfl) <| zad <| zad <| zaa <| zae rfl rfl tv <| zaf tv <| zbb <| zbt (fun n_ E => ∃ (b : Bool) (h : List Chunk) (p : Places) (T : List Msg), ((tellAll (h, p, T) = (h1, p1, T1)) ∧ (TaleOk (r.next + r.early.length + 1) (h, p, T)) ∧ (b = false → tell1 (h, p, T) = none)) ∧ n_ = 2 * h.length + b.toNat ∧ E = ⟨[(2, .ptr 2 0), (3, .ptr 3 0), (4, .ptr 4 0), (9, .shr 6 (zau h)), (10, .lit (.bool b))], [(2, .box [.lit (.int .i64 x1), .shr 1 (intCells e1), .lit (.int .i64 p.a), .lit (.int .i64 p.b), .lit (.int .i64 p.c), .shr 6 (zau r.hold), .shr 2 (zbe T), .lit (.bool true)]), (3, .box (zcm c)), (4, .box [.lit (.int .i64 0), .lit (.slice none 0 0), .lit (.int .i64 0), .lit (.int .i64 0), .lit (.int .i64 0), .lit (.slice none 0 0), .lit (.slice none 0 0), .lit (.bool false)])], 139⟩) (n0 := _) (E0 := _) (⟨true, (r.hold ++ [c]), r.places, r.told, by exact ⟨htl, hT0, fun e => by cases e⟩, rfl, rfl⟩) (ren [(2, 2), (3, 3), (4, 4)]) (zay [(2, 2), (3, 3), (4, 4)] rfl rfl ⟨⟨_, rfl, (.ptr _ _ _ rfl (zak rfl))⟩, ⟨_, rfl, (.ptr _ _ _ rfl (zak rfl))⟩, ⟨_, rfl, (.ptr _ _ _ rfl (zak rfl))⟩, ⟨_, rfl, (zcd rfl (fzL rfl) (by rw [zca]; rfl))⟩, ⟨_, rfl, (.lit _)⟩, tv⟩ ⟨⟨_, _, rfl, rfl, (.cons ((.lit _)) (.cons (.frz _ _ _ _ rfl (fzL rfl)) (.cons ((.lit _)) (.cons ((.lit _)) (.cons ((.lit _)) (.cons ((.shr _ _)) (.cons ((.shr _ _)) (.cons ((.lit _)) .nil))))))))⟩, ⟨_, _, rfl, rfl, (zbk rfl)⟩, ⟨_, _, rfl, rfl, (zbk rfl)⟩, tv⟩ (zaz hpar rfl)) (fun n_ E hR => ?_)
      obtain ⟨b, h, p, T, hI, rfl, rfl⟩ := hR
      obtain ⟨hI0, hI1, hI2⟩ := hI
      refine zad <| zad <| zaa <| s_move rfl rfl tv (fun h87 => ?_) (fun h87 => ?_)
      ·refine zaf tv <| zao rfl <| zax <| zbb <| zad <| zaa <| zae rfl rfl tv <| zaf tv <| zad <| zaa <| zac rfl rfl tv <| zby rfl rfl rfl tv <| zac rfl rfl tv <| zaf tv <| zbb <| zbt (fun n_ E => ∃ (j : Nat), ((j ≤ h.length) ∧ ((h.take j).any (zef p) = false)) ∧ n_ = h.length - j ∧ E = ⟨[(2, .ptr 2 0), (3, .ptr 3 0), (4, .ptr 4 0), (9, .shr 6 (zau h)), (10, .lit (.bool false)), (88, .shr 6 (zau h)), (89, .lit (.int .i64 (zau h).length)), (90, .lit (.int .i64 j))], [(2, .box [.lit (.int .i64 x1), .shr 1 (intCells e1), .lit (.int .i64 p.a), .lit (.int .i64 p.b), .lit (.int .i64 p.c), .shr 6 (zau r.hold), .shr 2 (zbe T), .lit (.bool true)]), (3, .box (zcm c)), (4, .box [.lit (.int .i64 0), .lit (.slice none 0 0), .lit (.int .i64 0), .lit (.int .i64 0), .lit (.int .i64 0), .lit (.slice none 0 0), .lit (.slice none 0 0), .lit (.bool false)])], 139⟩) (n0 := _) (E0 := _) (⟨0, by exact ⟨Nat.zero_le _, rfl⟩, rfl, rfl⟩) (ren [(2, 2), (3, 3), (4, 4)]) (zay [(2, 2), (3, 3), (4, 4)] rfl rfl ⟨⟨_, rfl, (.ptr _ _ _ rfl (zak rfl))⟩, ⟨_, rfl, (.ptr _ _ _ rfl (zak rfl))⟩, ⟨_, rfl, (.ptr _ _ _ rfl (zak rfl))⟩, ⟨_, rfl, (.shr _ _)⟩, ⟨_, rfl, (.lit _)⟩, ⟨_, rfl, (.shr _ _)⟩, ⟨_, rfl, (.lit _)⟩, ⟨_, rfl, (.lit _)⟩, tv⟩ ⟨⟨_, _, rfl, rfl, (zbk rfl)⟩, ⟨_, _, rfl, rfl, (zbk rfl)⟩, ⟨_, _, rfl, rfl, (zbk rfl)⟩, tv⟩ (zaz hpar rfl)) (fun n_ E hR => ?_)
       obtain ⟨j, hI, rfl, rfl⟩ := hR
       obtain ⟨hJ0, hJ1⟩ := hI
       refine zad <| zaa <| zcg rfl rfl rfl tv (fun h91 => ?_) (fun h91 => ?_)
       ·refine zaf tv <| zad <| zao rfl <| zax <| zad <| zbb <| zad ?_
        rw [zai] at h91
        obtain ⟨y, hy⟩ : ∃ y, h[j]? = some y := ⟨_, List.getElem?_eq_getElem (by omega)⟩
        have hyj : h[j]'(by omega) = y := (List.getElem?_eq_some_iff.1 hy).2
        have hbb : (T.length : Int) + h.length = r.next + r.early.length + 1 := hI1.1
        refine zaa <| zac rfl rfl tv <| zbh rfl rfl rfl rfl rfl rfl (chunkCells_get' hy) rfl tv <| zbu rfl rfl rfl rfl rfl tv <| zbd 208 rfl rfl (zar hpar rfl) rfl rfl tv <| zae rfl rfl tv <| zaj rfl rfl rfl rfl rfl rfl rfl rfl tv <| zaf tv <| zad ?_
        rcases st3 hI1 y (List.mem_of_getElem? hy) with hq | hq | hq
        ·refine zbo <| zab rfl rfl rfl rfl rfl rfl tv <| zah rfl rfl rfl rfl rfl rfl tv <| zab rfl rfl rfl rfl rfl rfl tv <| zah rfl rfl rfl rfl rfl rfl tv <| zab rfl rfl rfl rfl rfl rfl tv <| zcj (i := 0) rfl rfl rfl rfl rfl (by exact hq) (by decide) rfl tv <| zah rfl rfl rfl rfl rfl rfl tv <| zci rfl rfl rfl tv (fun h102 => ?_) (fun h102 => ?_)
         ·refine zaf (by kernel_rfl) <| zao rfl <| zad ?_
          have hjl : j < h.length := by omega
          have hry : zef p (h[j]'hjl) = true := by rw [hyj, ready_is]; unfold Places.get; rw [hq]; simpa using h102
          have hstep : tell1 (h, p, T) = some ((h.eraseIdx j), (p.bump (h[j]'hjl).stream), (T ++ [((h[j]'hjl).stream, (h[j]'hjl).data)])) := tell1_at hjl hry (any_take_get hJ1 hJ0)
          have hT2 := zfm hI1 hstep
          have hb : (T.length : Int) + h.length = (r.next + r.early.length + 1) := hI1.1
          have hpb : 0 ≤ p.a ∧ 0 ≤ p.b ∧ 0 ≤ p.c ∧ p.a + p.b + p.c = T.length := hI1.2.1
          refine zbo <| zba 209 rfl rfl rfl rfl rfl rfl rfl rfl rfl rfl (zar hpar rfl) rfl rfl tv <| zab rfl rfl rfl rfl rfl rfl tv <| zah rfl rfl rfl rfl rfl rfl tv <| zbn 210 rfl rfl rfl (.shr _ _) rfl (zar hpar rfl) rfl rfl rfl rfl rfl (by simp [zbx, zaq]; omega) rfl tv <| zab rfl rfl rfl rfl rfl rfl tv <| zah rfl rfl rfl rfl rfl rfl tv <| zab rfl rfl rfl rfl rfl rfl tv <| zah rfl rfl rfl rfl rfl rfl tv <| zdi rfl rfl rfl rfl rfl tv <| zba 211 rfl rfl rfl rfl rfl rfl rfl rfl rfl rfl (zar hpar rfl) rfl rfl tv <| zbn 212 rfl rfl rfl (zdb rfl) rfl (zar hpar rfl) rfl rfl rfl rfl rfl (by simp [zbx, zaq]; omega) rfl tv <| zab rfl rfl rfl rfl rfl rfl tv <| zbl rfl rfl rfl rfl rfl rfl rfl tv <| zaf (by kernel_rfl) <| zad <| zbo <| zab rfl rfl rfl rfl rfl rfl tv <| zah rfl rfl rfl rfl rfl rfl tv <| zab rfl rfl rfl rfl rfl rfl tv <| zah rfl rfl rfl rfl rfl rfl tv <| zab rfl rfl rfl rfl rfl rfl tv <| zcj (i := 0) rfl rfl rfl rfl rfl (by exact hq) (by decide) rfl tv <| zah rfl rfl rfl rfl rfl rfl tv <| zbz rfl rfl rfl (by unfold inI; omega) rfl tv <| zab rfl rfl rfl rfl rfl rfl tv <| zcj (i := 0) rfl rfl rfl rfl rfl (by exact hq) (by decide) rfl tv <| zbl rfl rfl rfl rfl rfl rfl rfl tv <| zaf (by kernel_rfl) <| zad ?_
          refine zbo <| zba 213 rfl rfl rfl rfl rfl rfl rfl rfl rfl rfl (zar hpar rfl) rfl rfl tv <| zac rfl rfl tv <| zac rfl rfl tv <| u_sliceHi j rfl rfl (by rfl) (by simp only [zai]; omega) rfl rfl rfl rfl tv <| zbn 214 rfl rfl rfl (.shr _ _) rfl (zar hpar rfl) rfl rfl rfl rfl rfl (by simp [zbx, zai]; omega) rfl tv <| zac rfl rfl tv <| zac rfl rfl tv <| zbz rfl rfl rfl (by have := hI1.1; simp only at this; unfold inI; omega) rfl tv <| zev (j + 1) rfl rfl (by omega) (by simp only [zai]; omega) rfl rfl rfl rfl tv <| zbn 215 rfl rfl rfl (.shr _ _) rfl (zar hpar rfl) rfl rfl rfl rfl rfl (by simp [zbx, zai]; omega) rfl tv <| zae rfl rfl tv <| zaf (by kernel_rfl) <| zad <| zaa <| zae rfl rfl tv <| zaf tv <| zbw <| iteN (by decide) <| iteP rfl <| ⟨_, _, ren [(2, 2), (3, 3), (4, 4)], ?_, ⟨true, (h.eraseIdx j), (p.bump (h[j]'hjl).stream), (T ++ [((h[j]'hjl).stream, (h[j]'hjl).data)]), ?_, rfl, rfl⟩, zay [(2, 2), (3, 3), (4, 4)] rfl rfl ⟨⟨_, rfl, (.ptr _ _ _ rfl (zak rfl))⟩, ⟨_, rfl, (.ptr _ _ _ rfl (zak rfl))⟩, ⟨_, rfl, (.ptr _ _ _ rfl (zak rfl))⟩, ⟨_, rfl, (zcd rfl (fzL rfl) (by rw [erase_cells]; rfl))⟩, ⟨_, rfl, (.lit _)⟩, tv⟩ ⟨⟨_, _, rfl, rfl, (.cons ((.lit _)) (.cons ((.shr _ _)) (.cons (subI (by rw [hyj]; first | (rw [hq]; rfl) | simp [Places.bump, hq])) (.cons (subI (by rw [hyj]; first | (rw [hq]; rfl) | simp [Places.bump, hq])) (.cons (subI (by rw [hyj]; first | (rw [hq]; rfl) | simp [Places.bump, hq])) (.cons ((.shr _ _)) (.cons (zcd rfl (fzL rfl) (by rw [zcs, hyj]; rfl)) (.cons ((.lit _)) .nil))))))))⟩, ⟨_, _, rfl, rfl, (zbk rfl)⟩, ⟨_, _, rfl, rfl, (zbk rfl)⟩, tv⟩ (zaz hpar rfl)⟩
          ·rw [h87, List.length_eraseIdx, if_pos hjl]; simp; omega
          ·exact ⟨by rw [← hI0]; exact (zex hstep).symm, hT2, fun e => by cases e⟩
         ·refine zaf (by kernel_rfl) <| zap rfl <| zax <| zaa <| zbz rfl rfl rfl (by unfold inI; omega) rfl tv <| zac rfl rfl tv <| zaf tv <| ⟨_, _, ren [(2, 2), (3, 3), (4, 4)], ?_, ⟨j + 1, ?_, rfl, rfl⟩, zay [(2, 2), (3, 3), (4, 4)] rfl rfl ⟨⟨_, rfl, (.ptr _ _ _ rfl (zak rfl))⟩, ⟨_, rfl, (.ptr _ _ _ rfl (zak rfl))⟩, ⟨_, rfl, (.ptr _ _ _ rfl (zak rfl))⟩, ⟨_, rfl, (.shr _ _)⟩, ⟨_, rfl, (.lit _)⟩, ⟨_, rfl, (.shr _ _)⟩, ⟨_, rfl, (.lit _)⟩, ⟨_, rfl, (.lit _)⟩, tv⟩ ⟨⟨_, _, rfl, rfl, (zbk rfl)⟩, ⟨_, _, rfl, rfl, (zbk rfl)⟩, ⟨_, _, rfl, rfl, (zbk rfl)⟩, tv⟩ (zaz hpar rfl)⟩
          ·omega
          ·refine ⟨by omega, ?_⟩
           rw [any_snoc (by omega), hJ1, hyj, ready_is]
           unfold Places.get
           rw [hq]
           simpa using h102
        ·refine zbo <| zab rfl rfl rfl rfl rfl rfl tv <| zah rfl rfl rfl rfl rfl rfl tv <| zab rfl rfl rfl rfl rfl rfl tv <| zah rfl rfl rfl rfl rfl rfl tv <| zab rfl rfl rfl rfl rfl rfl tv <| zcj (i := 1) rfl rfl rfl rfl rfl (by exact hq) (by decide) rfl tv <| zah rfl rfl rfl rfl rfl rfl tv <| zci rfl rfl rfl tv (fun h102 => ?_) (fun h102 => ?_)
         ·refine zaf (by kernel_rfl) <| zao rfl <| zad ?_
          have hjl : j < h.length := by omega
          have hry : zef p (h[j]'hjl) = true := by rw [hyj, ready_is]; unfold Places.get; rw [hq]; simpa using h102
          have hstep : tell1 (h, p, T) = some ((h.eraseIdx j), (p.bump (h[j]'hjl).stream), (T ++ [((h[j]'hjl).stream, (h[j]'hjl).data)])) := tell1_at hjl hry (any_take_get hJ1 hJ0)
          have hT2 := zfm hI1 hstep
          have hb : (T.length : Int) + h.length = (r.next + r.early.length + 1) := hI1.1
          have hpb : 0 ≤ p.a ∧ 0 ≤ p.b ∧ 0 ≤ p.c ∧ p.a + p.b + p.c = T.length := hI1.2.1
          refine zbo <| zba 209 rfl rfl rfl rfl rfl rfl rfl rfl rfl rfl (zar hpar rfl) rfl rfl tv <| zab rfl rfl rfl rfl rfl rfl tv <| zah rfl rfl rfl rfl rfl rfl tv <| zbn 210 rfl rfl rfl (.shr _ _) rfl (zar hpar rfl) rfl rfl rfl rfl rfl (by simp [zbx, zaq]; omega) rfl tv <| zab rfl rfl rfl rfl rfl rfl tv <| zah rfl rfl rfl rfl rfl rfl tv <| zab rfl rfl rfl rfl rfl rfl tv <| zah rfl rfl rfl rfl rfl rfl tv <| zdi rfl rfl rfl rfl rfl tv <| zba 211 rfl rfl rfl rfl rfl rfl rfl rfl rfl rfl (zar hpar rfl) rfl rfl tv <| zbn 212 rfl rfl rfl (zdb rfl) rfl (zar hpar rfl) rfl rfl rfl rfl rfl (by simp [zbx, zaq]; omega) rfl tv <| zab rfl rfl rfl rfl rfl rfl tv <| zbl rfl rfl rfl rfl rfl rfl rfl tv <| zaf (by kernel_rfl) <| zad <| zbo <| zab rfl rfl rfl rfl rfl rfl tv <| zah rfl rfl rfl rfl rfl rfl tv <| zab rfl rfl rfl rfl rfl rfl tv <| zah rfl rfl rfl rfl rfl rfl tv <| zab rfl rfl rfl rfl rfl rfl tv <| zcj (i := 1) rfl rfl rfl rfl rfl (by exact hq) (by decide) rfl tv <| zah rfl rfl rfl rfl rfl rfl tv <| zbz rfl rfl rfl (by unfold inI; omega) rfl tv <| zab rfl rfl rfl rfl rfl rfl tv <| zcj (i := 1) rfl rfl rfl rfl rfl (by exact hq) (by decide) rfl tv <| zbl rfl rfl rfl rfl rfl rfl rfl tv <| zaf (by kernel_rfl) <| zad ?_
          refine zbo <| zba 213 rfl rfl rfl rfl rfl rfl rfl rfl rfl rfl (zar hpar rfl) rfl rfl tv <| zac rfl rfl tv <| zac rfl rfl tv <| u_sliceHi j rfl rfl (by rfl) (by simp only [zai]; omega) rfl rfl rfl rfl tv <| zbn 214 rfl rfl rfl (.shr _ _) rfl (zar hpar rfl) rfl rfl rfl rfl rfl (by simp [zbx, zai]; omega) rfl tv <| zac rfl rfl tv <| zac rfl rfl tv <| zbz rfl rfl rfl (by have := hI1.1; simp only at this; unfold inI; omega) rfl tv <| zev (j + 1) rfl rfl (by omega) (by simp only [zai]; omega) rfl rfl rfl rfl tv <| zbn 215 rfl rfl rfl (.shr _ _) rfl (zar hpar rfl) rfl rfl rfl rfl rfl (by simp [zbx, zai]; omega) rfl tv <| zae rfl rfl tv <| zaf (by kernel_rfl) <| zad <| zaa <| zae rfl rfl tv <| zaf tv <| zbw <| iteN (by decide) <| iteP rfl <| ⟨_, _, ren [(2, 2), (3, 3), (4, 4)], ?_, ⟨true, (h.eraseIdx j), (p.bump (h[j]'hjl).stream), (T ++ [((h[j]'hjl).stream, (h[j]'hjl).data)]), ?_, rfl, rfl⟩, zay [(2, 2), (3, 3), (4, 4)] rfl rfl ⟨⟨_, rfl, (.ptr _ _ _ rfl (zak rfl))⟩, ⟨_, rfl, (.ptr _ _ _ rfl (zak rfl))⟩, ⟨_, rfl, (.ptr _ _ _ rfl (zak rfl))⟩, ⟨_, rfl, (zcd rfl (fzL rfl) (by rw [erase_cells]; rfl))⟩, ⟨_, rfl, (.lit _)⟩, tv⟩ ⟨⟨_, _, rfl, rfl, (.cons ((.lit _)) (.cons ((.shr _ _)) (.cons (subI (by rw [hyj]; first | (rw [hq]; rfl) | simp [Places.bump, hq])) (.cons (subI (by rw [hyj]; first | (rw [hq]; rfl) | simp [Places.bump, hq])) (.cons (subI (by rw [hyj]; first | (rw [hq]; rfl) | simp [Places.bump, hq])) (.cons ((.shr _ _)) (.cons (zcd rfl (fzL rfl) (by rw [zcs, hyj]; rfl)) (.cons ((.lit _)) .nil))))))))⟩, ⟨_, _, rfl, rfl, (zbk rfl)⟩, ⟨_, _, rfl, rfl, (zbk rfl)⟩, tv⟩ (zaz hpar rfl)⟩
          ·rw [h87, List.length_eraseIdx, if_pos hjl]; simp; omega
          ·exact ⟨by rw [← hI0]; exact (zex hstep).symm, hT2, fun e => by cases e⟩
         ·refine zaf (by kernel_rfl) <| zap rfl <| zax <| zaa <| zbz rfl rfl rfl (by unfold inI; omega) rfl tv <| zac rfl rfl tv <| zaf tv <| ⟨_, _, ren [(2, 2), (3, 3), (4, 4)], ?_, ⟨j + 1, ?_, rfl, rfl⟩, zay [(2, 2), (3, 3), (4, 4)] rfl rfl ⟨⟨_, rfl, (.ptr _ _ _ rfl (zak rfl))⟩, ⟨_, rfl, (.ptr _ _ _ rfl (zak rfl))⟩, ⟨_, rfl, (.ptr _ _ _ rfl (zak rfl))⟩, ⟨_, rfl, (.shr _ _)⟩, ⟨_, rfl, (.lit _)⟩, ⟨_, rfl, (.shr _ _)⟩, ⟨_, rfl, (.lit _)⟩, ⟨_, rfl, (.lit _)⟩, tv⟩ ⟨⟨_, _, rfl, rfl, (zbk rfl)⟩, ⟨_, _, rfl, rfl, (zbk rfl)⟩, ⟨_, _, rfl, rfl, (zbk rfl)⟩, tv⟩ (zaz hpar rfl)⟩
          ·omega
          ·refine ⟨by omega, ?_⟩
           rw [any_snoc (by omega), hJ1, hyj, ready_is]
           unfold Places.get
           rw [hq]
           simpa using h102
        ·refine zbo <| zab rfl rfl rfl rfl rfl rfl tv <| zah rfl rfl rfl rfl rfl rfl tv <| zab rfl rfl rfl rfl rfl rfl tv <| zah rfl rfl rfl rfl rfl rfl tv <| zab rfl rfl rfl rfl rfl rfl tv <| zcj (i := 2) rfl rfl rfl rfl rfl (by exact hq) (by decide) rfl tv <| zah rfl rfl rfl rfl rfl rfl tv <| zci rfl rfl rfl tv (fun h102 => ?_) (fun h102 => ?_)
         ·refine zaf (by kernel_rfl) <| zao rfl <| zad ?_
          have hjl : j < h.length := by omega
          have hry : zef p (h[j]'hjl) = true := by rw [hyj, ready_is]; unfold Places.get; rw [hq]; simpa using h102
          have hstep : tell1 (h, p, T) = some ((h.eraseIdx j), (p.bump (h[j]'hjl).stream), (T ++ [((h[j]'hjl).stream, (h[j]'hjl).data)])) := tell1_at hjl hry (any_take_get hJ1 hJ0)
          have hT2 := zfm hI1 hstep
          have hb : (T.length : Int) + h.length = (r.next + r.early.length + 1) := hI1.1
          have hpb : 0 ≤ p.a ∧ 0 ≤ p.b ∧ 0 ≤ p.c ∧ p.a + p.b + p.c = T.length := hI1.2.1
          refine zbo <| zba 209 rfl rfl rfl rfl rfl rfl rfl rfl rfl rfl (zar hpar rfl) rfl rfl tv <| zab rfl rfl rfl rfl rfl rfl tv <| zah rfl rfl rfl rfl rfl rfl tv <| zbn 210 rfl rfl rfl (.shr _ _) rfl (zar hpar rfl) rfl rfl rfl rfl rfl (by simp [zbx, zaq]; omega) rfl tv <| zab rfl rfl rfl rfl rfl rfl tv <| zah rfl rfl rfl rfl rfl rfl tv <| zab rfl rfl rfl rfl rfl rfl tv <| zah rfl rfl rfl rfl rfl rfl tv <| zdi rfl rfl rfl rfl rfl tv <| zba 211 rfl rfl rfl rfl rfl rfl rfl rfl rfl rfl (zar hpar rfl) rfl rfl tv <| zbn 212 rfl rfl rfl (zdb rfl) rfl (zar hpar rfl) rfl rfl rfl rfl rfl (by simp [zbx, zaq]; omega) rfl tv <| zab rfl rfl rfl rfl rfl rfl tv <| zbl rfl rfl rfl rfl rfl rfl rfl tv <| zaf (by kernel_rfl) <| zad <| zbo <| zab rfl rfl rfl rfl rfl rfl tv <| zah rfl rfl rfl rfl rfl rfl tv <| zab rfl rfl rfl rfl rfl rfl tv <| zah rfl rfl rfl rfl rfl rfl tv <| zab rfl rfl rfl rfl rfl rfl tv <| zcj (i := 2) rfl rfl rfl rfl rfl (by exact hq) (by decide) rfl tv <| zah rfl rfl rfl rfl rfl rfl tv <| zbz rfl rfl rfl (by unfold inI; omega) rfl tv <| zab rfl rfl rfl rfl rfl rfl tv <| zcj (i := 2) rfl rfl rfl rfl rfl (by exact hq) (by decide) rfl tv <| zbl rfl rfl rfl rfl rfl rfl rfl tv <| zaf (by kernel_rfl) <| zad ?_
          refine zbo <| zba 213 rfl rfl rfl rfl rfl rfl rfl rfl rfl rfl (zar hpar rfl) rfl rfl tv <| zac rfl rfl tv <| zac rfl rfl tv <| u_sliceHi j rfl rfl (by rfl) (by simp only [zai]; omega) rfl rfl rfl rfl tv <| zbn 214 rfl rfl rfl (.shr _ _) rfl (zar hpar rfl) rfl rfl rfl rfl rfl (by simp [zbx, zai]; omega) rfl tv <| zac rfl rfl tv <| zac rfl rfl tv <| zbz rfl rfl rfl (by have := hI1.1; simp only at this; unfold inI; omega) rfl tv <| zev (j + 1) rfl rfl (by omega) (by simp only [zai]; omega) rfl rfl rfl rfl tv <| zbn 215 rfl rfl rfl (.shr _ _) rfl (zar hpar rfl) rfl rfl rfl rfl rfl (by simp [zbx, zai]; omega) rfl tv <| zae rfl rfl tv <| zaf (by kernel_rfl) <| zad <| zaa <| zae rfl rfl tv <| zaf tv <| zbw <| iteN (by decide) <| iteP rfl <| ⟨_, _, ren [(2, 2), (3, 3), (4, 4)], ?_, ⟨true, (h.eraseIdx j), (p.bump (h[j]'hjl).stream), (T ++ [((h[j]'hjl).stream, (h[j]'hjl).data)]), ?_, rfl, rfl⟩, zay [(2, 2), (3, 3), (4, 4)] rfl rfl ⟨⟨_, rfl, (.ptr _ _ _ rfl (zak rfl))⟩, ⟨_, rfl, (.ptr _ _ _ rfl (zak rfl))⟩, ⟨_, rfl, (.ptr _ _ _ rfl (zak rfl))⟩, ⟨_, rfl, (zcd rfl (fzL rfl) (by rw [erase_cells]; rfl))⟩, ⟨_, rfl, (.lit _)⟩, tv⟩ ⟨⟨_, _, rfl, rfl, (.cons ((.lit _)) (.cons ((.shr _ _)) (.cons (subI (by rw [hyj]; first | (rw [hq]; rfl) | simp [Places.bump, hq])) (.cons (subI (by rw [hyj]; first | (rw [hq]; rfl) | simp [Places.bump, hq])) (.cons (subI (by rw [hyj]; first | (rw [hq]; rfl) | simp [Places.bump, hq])) (.cons ((.shr _ _)) (.cons (zcd rfl (fzL rfl) (by rw [zcs, hyj]; rfl)) (.cons ((.lit _)) .nil))))))))⟩, ⟨_, _, rfl, rfl, (zbk rfl)⟩, ⟨_, _, rfl, rfl, (zbk rfl)⟩, tv⟩ (zaz hpar rfl)⟩
          ·rw [h87, List.length_eraseIdx, if_pos hjl]; simp; omega
          ·exact ⟨by rw [← hI0]; exact (zex hstep).symm, hT2, fun e => by cases e⟩
         ·refine zaf (by kernel_rfl) <| zap rfl <| zax <| zaa <| zbz rfl rfl rfl (by unfold inI; omega) rfl tv <| zac rfl rfl tv <| zaf tv <| ⟨_, _, ren [(2, 2), (3, 3), (4, 4)], ?_, ⟨j + 1, ?_, rfl, rfl⟩, zay [(2, 2), (3, 3), (4, 4)] rfl rfl ⟨⟨_, rfl, (.ptr _ _ _ rfl (zak rfl))⟩, ⟨_, rfl, (.ptr _ _ _ rfl (zak rfl))⟩, ⟨_, rfl, (.ptr _ _ _ rfl (zak rfl))⟩, ⟨_, rfl, (.shr _ _)⟩, ⟨_, rfl, (.lit _)⟩, ⟨_, rfl, (.shr _ _)⟩, ⟨_, rfl, (.lit _)⟩, ⟨_, rfl, (.lit _)⟩, tv⟩ ⟨⟨_, _, rfl, rfl, (zbk rfl)⟩, ⟨_, _, rfl, rfl, (zbk rfl)⟩, ⟨_, _, rfl, rfl, (zbk rfl)⟩, tv⟩ (zaz hpar rfl)⟩
          ·omega
          ·refine ⟨by omega, ?_⟩
           rw [any_snoc (by omega), hJ1, hyj, ready_is]
           unfold Places.get
           rw [hq]
           simpa using h102
       ·refine zaf tv <| zad <| zap rfl <| zbw <| iteP rfl <| ⟨_, _, ren [(2, 2), (3, 3), (4, 4)], ?_, ⟨false, h, p, T, ?_, rfl, rfl⟩, zay [(2, 2), (3, 3), (4, 4)] rfl rfl ⟨⟨_, rfl, (.ptr _ _ _ rfl (zak rfl))⟩, ⟨_, rfl, (.ptr _ _ _ rfl (zak rfl))⟩, ⟨_, rfl, (.ptr _ _ _ rfl (zak rfl))⟩, ⟨_, rfl, (.shr _ _)⟩, ⟨_, rfl, (.lit _)⟩, tv⟩ ⟨⟨_, _, rfl, rfl, (zbk rfl)⟩, ⟨_, _, rfl, rfl, (zbk rfl)⟩, ⟨_, _, rfl, rfl, (zbk rfl)⟩, tv⟩ (zaz hpar rfl)⟩
        ·rw [h87]; simp
        ·rw [zai] at h91
         rw [List.take_of_length_le (by omega)] at hJ1
         exact ⟨hI0, hI1, fun _ => tell1_no (take_any_all hJ1)⟩
      ·refine zaf tv <| zap rfl <| zbw <| iteP rfl <| zad <| zaa <| zac rfl rfl tv <| zab rfl rfl rfl rfl rfl rfl tv <| zbl rfl rfl rfl rfl rfl rfl rfl tv <| zaf tv <| zad <| zaa <| zam rfl rfl rfl rfl rfl rfl tv <| zaj rfl rfl rfl rfl rfl rfl rfl rfl tv <| zaf tv <| zaw ?_
       rw [tellAll_none (hI2 h87)] at hI0
       cases hI0
       rw [rhear_takes hk hnr hst htl]
       refine fin' [] (.inr rfl) (.cons (.cellN rfl rfl rfl rfl rfl) .nil) (zay [] rfl rfl ⟨⟨_, rfl, (.agg _ _ (.cons (subI ?_) (.cons (subS ?_) (.cons (subI ?_) (.cons (subI ?_) (.cons (subI ?_) (.cons (subS ?_) (.cons (subS ?_) (.cons (subB ?_) .nil)))))))))⟩, tv⟩ tv (zaz rfl rfl))
       all_goals (try rfl)
end Go.Proofs.Ytaadloihphpdbaa
