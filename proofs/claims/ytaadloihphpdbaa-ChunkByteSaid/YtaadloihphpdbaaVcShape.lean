/- What comes in, of whatever shape: numbers, truth values, structs, and slices of them, as the walks see them. -/
import Derived.Test.YtaadloihphpdbaaVcBytes
import Derived.ChangeArms
import Derived.ChangeSlices
import Derived.SizedLaws
set_option linter.unusedVariables false
namespace Go.Vc
open Go Go.RowKit Go.ChangeShapes

mutual
inductive Shp (T : Tab) : TypeId → List AV → Prop
  | int {t : TypeId} {k : IntKind} {n : Int} : T.kind t = .int k → (Lit.int k n).wf = true → Shp T t [.lit (.int k n)]
  | bool {t : TypeId} {b : Bool} : T.kind t = .bool → Shp T t [.lit (.bool b)]
  | slice {t e : TypeId} {xs : List (List AV)} : T.kind t = .slice e → xs.length * T.bytes e ≤ reachBytes → (∀ x, x ∈ xs → Shp T e x) → Shp T t [.shr (T.size e) xs]
  | struct {t : TypeId} {fs : List (Nat × TypeId)} {as : List AV} : T.kind t = .struct fs → ShpL T fs as → Shp T t as
inductive ShpL (T : Tab) : List (Nat × TypeId) → List AV → Prop
  | nil : ShpL T [] []
  | cons {off : Nat} {t : TypeId} {r : List (Nat × TypeId)} {a as : List AV} : Shp T t a → ShpL T r as → ShpL T ((off, t) :: r) (a ++ as)
end

section
variable {T : Tab}
theorem Shp.int_inv {t : TypeId} {k : IntKind} {as : List AV} (hk : T.kind t = .int k) (h : Shp T t as) : ∃ n, as = [.lit (.int k n)] ∧ (Lit.int k n).wf = true := by
  cases h with
  | int h1 h2 => rw [hk] at h1; cases h1; exact ⟨_, rfl, h2⟩
  | bool h1 => rw [hk] at h1; cases h1
  | slice h1 => rw [hk] at h1; cases h1
  | struct h1 => rw [hk] at h1; cases h1
theorem Shp.bool_inv {t : TypeId} {as : List AV} (hk : T.kind t = .bool) (h : Shp T t as) : ∃ b, as = [.lit (.bool b)] := by
  cases h with
  | int h1 => rw [hk] at h1; cases h1
  | bool h1 => exact ⟨_, rfl⟩
  | slice h1 => rw [hk] at h1; cases h1
  | struct h1 => rw [hk] at h1; cases h1
theorem Shp.slice_inv {t e : TypeId} {as : List AV} (hk : T.kind t = .slice e) (h : Shp T t as) : ∃ xs, as = [.shr (T.size e) xs] ∧ xs.length * T.bytes e ≤ reachBytes ∧ ∀ x, x ∈ xs → Shp T e x := by
  cases h with
  | int h1 => rw [hk] at h1; cases h1
  | bool h1 => rw [hk] at h1; cases h1
  | slice h1 h2 h3 => rw [hk] at h1; cases h1; exact ⟨_, rfl, h2, h3⟩
  | struct h1 => rw [hk] at h1; cases h1
theorem Shp.struct_inv {t : TypeId} {fs : List (Nat × TypeId)} {as : List AV} (hk : T.kind t = .struct fs) (h : Shp T t as) : ShpL T fs as := by
  cases h with
  | int h1 => rw [hk] at h1; cases h1
  | bool h1 => rw [hk] at h1; cases h1
  | slice h1 => rw [hk] at h1; cases h1
  | struct h1 h2 => rw [hk] at h1; cases h1; exact h2
theorem ShpL.cons_inv {off : Nat} {t : TypeId} {r : List (Nat × TypeId)} {as : List AV} (h : ShpL T ((off, t) :: r) as) : ∃ a bs, as = a ++ bs ∧ Shp T t a ∧ ShpL T r bs := by
  cases h with
  | cons h1 h2 => exact ⟨_, _, rfl, h1, h2⟩
theorem ShpL.nil_inv {as : List AV} (h : ShpL T [] as) : as = [] := by
  cases h; rfl

/-- Elements that each are of one form. -/
theorem map_of_all {α : Type} {enc : α → List AV} : ∀ {xs : List (List AV)}, (∀ x, x ∈ xs → ∃ m, x = enc m) → ∃ l : List α, xs = l.map enc
  | [], _ => ⟨[], rfl⟩
  | x :: r, h => by
    obtain ⟨m, rfl⟩ := h x (by simp)
    obtain ⟨l, rfl⟩ := map_of_all (xs := r) fun y hy => h y (by simp [hy])
    exact ⟨m :: l, rfl⟩

theorem map_of_allP {α : Type} {enc : α → List AV} {Q : α → Prop} : ∀ {xs : List (List AV)}, (∀ x, x ∈ xs → ∃ m, x = enc m ∧ Q m) → ∃ l : List α, xs = l.map enc ∧ ∀ m, m ∈ l → Q m
  | [], _ => ⟨[], rfl, by simp⟩
  | x :: r, h => by
    obtain ⟨m, rfl, hm⟩ := h x (by simp)
    obtain ⟨l, rfl, hl⟩ := map_of_allP (xs := r) fun y hy => h y (by simp [hy])
    exact ⟨m :: l, rfl, fun y hy => by
      simp only [List.mem_cons] at hy
      rcases hy with rfl | hy
      · exact hm
      · exact hl y hy⟩

theorem Shp.bytes_inv {t e : TypeId} {as : List AV} (hk : T.kind t = .slice e) (he : T.kind e = .int .u8) (hs : T.size e = 1) (hb : T.bytes e = 1) (h : Shp T t as) : ∃ bs : List UInt8, as = [.shr 1 (byteCells bs)] ∧ bs.length ≤ reachBytes := by
  obtain ⟨xs, rfl, hl, hx⟩ := h.slice_inv hk
  obtain ⟨l, rfl⟩ := map_of_all (enc := fun b : UInt8 => [AV.lit (.int .u8 b.toNat)]) (xs := xs) fun x hm => by
    obtain ⟨n, rfl, hw⟩ := (hx x hm).int_inv he
    have h2 : (decide (IntKind.min .u8 ≤ n) && decide (n ≤ IntKind.max .u8)) = true := hw
    have := (Bool.and_eq_true _ _).mp h2
    have h3 := And.intro (of_decide_eq_true this.1) (of_decide_eq_true this.2)
    have e1 : IntKind.min .u8 = 0 := by decide
    have e2 : IntKind.max .u8 = 255 := by decide
    rw [e1, e2] at h3
    refine ⟨UInt8.ofNat n.toNat, ?_⟩
    have h256 : n.toNat < 256 := by omega
    rw [UInt8.toNat_ofNat_of_lt' (by simpa using h256)]
    congr 3; omega
  rw [hs]
  exact ⟨l, rfl, by rw [hb, List.length_map] at hl; omega⟩

theorem wf_i64 {n : Int} (h : (Lit.int .i64 n).wf = true) : inI n := by
  have h2 : (decide (IntKind.min .i64 ≤ n) && decide (n ≤ IntKind.max .i64)) = true := h
  have := (Bool.and_eq_true _ _).mp h2
  have := And.intro (of_decide_eq_true this.1) (of_decide_eq_true this.2)
  have e1 : IntKind.min .i64 = -9223372036854775808 := by decide
  have e2 : IntKind.max .i64 = 9223372036854775807 := by decide
  rw [e1, e2] at this; exact this

theorem Shp.ints_inv {t e : TypeId} {as : List AV} (hk : T.kind t = .slice e) (he : T.kind e = .int .i64) (hs : T.size e = 1) (hb : T.bytes e = 8) (h : Shp T t as) : ∃ l : List Int, as = [.shr 1 (intCells l)] ∧ l.length * 8 ≤ reachBytes ∧ ∀ n, n ∈ l → inI n := by
  obtain ⟨xs, rfl, hl, hx⟩ := h.slice_inv hk
  obtain ⟨l, rfl, hq⟩ := map_of_allP (enc := fun n : Int => [AV.lit (.int .i64 n)]) (Q := inI) (xs := xs) fun x hm => by
    obtain ⟨n, rfl, hw⟩ := (hx x hm).int_inv he
    exact ⟨n, rfl, wf_i64 hw⟩
  rw [hs]
  exact ⟨l, rfl, by rw [hb, List.length_map] at hl; exact hl, hq⟩

def contig (T : Tab) : Nat → List (Nat × TypeId) → Nat → Bool
  | off, [], tot => Nat.beq off tot
  | off, p :: r, tot => Nat.beq p.1 off && contig T (off + T.size p.2) r tot

/-- Of numbers, truth values, structs and slices alone. -/
def plainB (T : Tab) : Nat → TypeId → Bool
  | 0, _ => false
  | n + 1, t => match T.kind t with
    | .int _ | .bool => true
    | .slice e => (T.kind e).known && (Nat.blt 0 (T.size e) && (Nat.blt 0 (T.bytes e) && plainB T n e))
    | .struct fs => contig T 0 fs (T.size t) && fs.all fun p => (T.kind p.2).known && plainB T n p.2
    | _ => false
end

theorem weightsAll_of {H : Type} {P : Program} {e : TypeId} : ∀ {l : List (DataW H)} {d : DataW H}, d ∈ l → ∀ n ∈ d.weights P e, n ∈ DataW.weightsAll P e l
  | d0 :: r, d, hd, n, hn => by
    simp only [DataW.weightsAll, List.mem_append]
    simp only [List.mem_cons] at hd
    rcases hd with rfl | hd
    · exact .inl hn
    · exact .inr (weightsAll_of hd n hn)
theorem weightsEach_of {H : Type} {P : Program} : ∀ {ts : List TypeId} {ds : List (DataW H)} {j : Nat} {t : TypeId} {d : DataW H}, ts[j]? = some t → ds[j]? = some d → ∀ n ∈ d.weights P t, n ∈ DataW.weightsEach P ts ds := DataW.weights_mem_each

section
variable {T : Tab} {P : Program} {H : Type} {enc : TypeId × Value → H} {w : World} {held : Bool}

theorem cellsOf_eq (hT : T.ok P) {t : TypeId} (h : (T.kind t).known = true) : P.cellsOf t = T.size t := by
  obtain ⟨_, i, z, hi, hs, _⟩ := hT t h
  simp [Program.cellsOf, hi, hs]
theorem bytesOf_eq (hT : T.ok P) {t : TypeId} (h : (T.kind t).known = true) : P.bytesOf t = T.bytes t := by
  obtain ⟨_, i, z, hi, _, hb, _⟩ := hT t h
  simp [Program.bytesOf, hi, hb]

theorem cell_in {a : Addr} {v : Value} (h : w.cell? a = some v) : a.block < w.heap.size ∧ a.spot = none := by
  unfold World.cell? at h
  cases hb : w.heap[a.block]? with
  | none => rw [hb] at h; cases h
  | some o =>
    refine ⟨(Array.getElem?_eq_some_iff.1 hb).1, ?_⟩
    rw [hb] at h
    cases hs : a.spot with
    | none => rfl
    | some s => cases o <;> simp [hs] at h

theorem F2.of_get {α γ : Type} {R : α → γ → Prop} : ∀ {as : List α} {bs : List γ}, as.length = bs.length → (∀ (j : Nat) (a : α) (b : γ), as[j]? = some a → bs[j]? = some b → R a b) → F2 R as bs
  | [], [], _, _ => .nil
  | [], _ :: _, h, _ => by simp at h
  | _ :: _, [], h, _ => by simp at h
  | a :: as, b :: bs, h, hr => .cons (hr 0 a b rfl rfl) (F2.of_get (by simpa using h) fun j a' b' ha hb => hr (j + 1) a' b' (by simpa using ha) (by simpa using hb))

theorem F2.app {α γ : Type} {R : α → γ → Prop} {as as' : List α} {bs bs' : List γ} (h : F2 R as bs) (h' : F2 R as' bs') : F2 R (as ++ as') (bs ++ bs') := by
  induction h with
  | nil => exact h'
  | cons h1 _ ih => exact .cons h1 ih

theorem open_shp (hT : T.ok P) : ∀ (m fuel : Nat) (t : TypeId) (cs : List Value) (x : DataW H × List MemPlace), DataW.trod enc P w 0 (fun _ => true) held fuel t cs = some x → plainB T m t = true → (∀ n ∈ x.1.weights P t, n ≤ reachBytes) →
    ∃ as, Shp T t as ∧ F2 (PRep (fun b => b < w.heap.size) w) as cs := by
  intro m
  induction m with
  | zero => intro fuel t cs x _ h; cases h
  | succ m ih =>
    intro fuel t cs x h hp hw
    unfold plainB at hp
    cases hk : T.kind t with
    | int k =>
      obtain ⟨n, rfl, rfl, hwf⟩ := DataW.trod_int (underlying_int hT hk) h
      exact ⟨[.lit (.int k n)], .int hk hwf, .cons (.lit _ rfl) .nil⟩
    | bool =>
      obtain ⟨b, rfl, rfl⟩ := DataW.trod_bool (underlying_bool hT hk) h
      exact ⟨[.lit (.bool b)], .bool hk, .cons (.lit _ rfl) .nil⟩
    | slice e =>
      rw [hk] at hp
      simp only [Bool.and_eq_true] at hp
      obtain ⟨hke, hsz, hby, hpe⟩ := hp
      have hsz' : 0 < T.size e := Nat.blt_eq.mp hsz
      have hu := underlying_slice hT hk
      have hce := cellsOf_eq hT hke
      rcases DataW.trod_slice hu h with ⟨rfl, rfl⟩ | ⟨a, len, cap, elems, rest, n, _, rfl, rfl, _, hlc, hcm, hel, hget, hsp, _⟩
      · exact ⟨[.shr (T.size e) []], .slice hk (by simp) (by simp), .cons (.nil _) .nil⟩
      obtain ⟨hrl, hrest⟩ := hsp rfl
      have hwt : (elems.length + rest.length) * T.bytes e ≤ reachBytes := by
        have := hw ((elems.length + rest.length) * P.bytesOf e) (by simp only [DataW.weights, hu, List.length_map]; simp)
        rwa [bytesOf_eq hT hke] at this
      have hwe : ∀ y ∈ elems, ∀ n ∈ y.1.weights P e, n ≤ reachBytes := fun y hy n hn => hw n (by
        simp only [DataW.weights, hu, List.mem_cons, List.mem_append]
        exact .inr (.inl (weightsAll_of (List.mem_map_of_mem hy) n hn)))
      by_cases hc0 : cap = 0
      · subst hc0
        obtain rfl : len = 0 := by omega
        exact ⟨[.shr (T.size e) []], .slice hk (by simp) (by simp), .cons (.void _ a) .nil⟩
      have hfirst : a.block < w.heap.size ∧ a.spot = none := by
        have key : ∀ y : DataW H × List MemPlace, (w.cells? 0 (a.add (0 * P.cellsOf e)) (P.cellsOf e)).bind (DataW.trod enc P w 0 (fun _ => true) held n e) = some y → a.block < w.heap.size ∧ a.spot = none := by
          intro y hy
          rw [Option.bind_eq_some_iff] at hy
          obtain ⟨cs, hcs, _⟩ := hy
          obtain ⟨_, hl, hg⟩ := World.cells?_some hcs
          have h0 := hg 0 (by omega)
          rw [List.getElem?_eq_getElem (by omega)] at h0
          have := cell_in h0
          simpa [Addr.add] using this
        by_cases hl0 : 0 < len
        · have := hget 0 hl0
          rw [List.getElem?_eq_getElem (by omega)] at this
          exact key _ this
        · obtain rfl : len = 0 := by omega
          have := hrest 0 (by omega)
          rw [List.getElem?_eq_getElem (by omega)] at this
          exact key _ (by simpa using this)
      obtain ⟨b, off, spot⟩ := a
      obtain ⟨hb, rfl⟩ := hfirst
      have each : ∀ i : Fin len, ∃ (xs : List AV) (cs : List Value), Shp T e xs ∧ F2 (PRep (fun b => b < w.heap.size) w) xs cs ∧ cs.length = T.size e ∧ ∀ j, j < T.size e → w.cell? ⟨b, off + (i.1 * T.size e + j), none⟩ = cs[j]? := by
        intro i
        have hi := hget i.1 i.2
        rw [List.getElem?_eq_getElem (by omega), Option.bind_eq_some_iff] at hi
        obtain ⟨cs, hcs, ht⟩ := hi
        obtain ⟨_, hl, hg⟩ := World.cells?_some hcs
        obtain ⟨as, h1, h2⟩ := ih n e cs _ ht hpe (hwe _ (List.getElem_mem _))
        rw [hce] at hl hg
        refine ⟨as, cs, h1, h2, hl, fun j hj => ?_⟩
        have := hg j hj
        rw [add_none, add_none, Nat.add_assoc] at this
        exact this
      let fx : Fin len → List AV := fun i => Classical.choose (each i)
      let fc : Fin len → List Value := fun i => Classical.choose (Classical.choose_spec (each i))
      have hf : ∀ i, Shp T e (fx i) ∧ F2 (PRep (fun b => b < w.heap.size) w) (fx i) (fc i) ∧ (fc i).length = T.size e ∧ ∀ j, j < T.size e → w.cell? ⟨b, off + (i.1 * T.size e + j), none⟩ = (fc i)[j]? :=
        fun i => Classical.choose_spec (Classical.choose_spec (each i))
      have hxl : (List.ofFn fx).length = len := List.length_ofFn
      have hxg : ∀ (i : Nat) (x : List AV), (List.ofFn fx)[i]? = some x → ∃ h : i < len, x = fx ⟨i, h⟩ := by
        intro i x hx
        have hi : i < len := by rw [← hxl]; exact (List.getElem?_eq_some_iff.1 hx).1
        refine ⟨hi, ?_⟩
        rw [List.getElem?_ofFn] at hx
        simp only [hi, dif_pos, Option.some.injEq] at hx
        exact hx.symm
      refine ⟨[.shr (T.size e) (List.ofFn fx)], .slice hk ?_ ?_, .cons ?_ .nil⟩
      · rw [hxl]
        refine Nat.le_trans (Nat.mul_le_mul_right _ ?_) hwt
        omega
      · intro x hx
        rw [List.mem_ofFn] at hx
        obtain ⟨i, rfl⟩ := hx
        exact (hf i).1
      · have hmx : (List.ofFn fx).length ≤ maxSl := by
          rw [hxl]
          have h1 : len ≤ (elems.length + rest.length) * T.bytes e := by
            refine Nat.le_trans ?_ (Nat.le_mul_of_pos_right _ (Nat.blt_eq.mp hby))
            omega
          have h2 : reachBytes ≤ maxSl := by decide
          omega
        have := PRep.shr (S := fun b => b < w.heap.size) (w := w) (T.size e) (List.ofFn fx) b off cap (fun i j => if h : i < len then (fc ⟨i, h⟩).getD j undef else undef) hb (by omega) hmx
          (fun i x hx => by obtain ⟨hi, rfl⟩ := hxg i x hx; rw [(hf _).2.1.length, (hf _).2.2.1])
          (fun i x j c hx hc => by
            obtain ⟨hi, rfl⟩ := hxg i x hx
            have hj : j < T.size e := by
              have := (List.getElem?_eq_some_iff.1 hc).1
              rw [(hf _).2.1.length, (hf _).2.2.1] at this; exact this
            rw [(hf ⟨i, hi⟩).2.2.2 j hj, dif_pos hi, List.getElem?_eq_getElem (by rw [(hf _).2.2.1]; exact hj)]
            simp [List.getD, List.getElem?_eq_getElem (show j < (fc ⟨i, hi⟩).length by rw [(hf _).2.2.1]; exact hj)])
          (fun i x j c hx hc => by
            obtain ⟨hi, rfl⟩ := hxg i x hx
            obtain ⟨v, hv, hr⟩ := (hf ⟨i, hi⟩).2.1.get j c hc
            rw [dif_pos hi]
            simpa [List.getD, hv] using hr)
        rw [hxl] at this
        exact this
    | struct fs =>
      rw [hk] at hp
      simp only [Bool.and_eq_true] at hp
      obtain ⟨hcg, hall⟩ := hp
      obtain ⟨gs, hu, hg⟩ := underlying_struct hT hk
      obtain ⟨xs, n, _, rfl, hcl, hxl, hget⟩ := DataW.trod_struct hu h
      have hkt : (T.kind t).known = true := by rw [hk]; rfl
      rw [cellsOf_eq hT hkt] at hcl
      have field : ∀ (i : Nat) (p : Nat × TypeId), fs[i]? = some p → ∃ as, Shp T p.2 as ∧ F2 (PRep (fun b => b < w.heap.size) w) as ((cs.drop p.1).take (T.size p.2)) := by
        intro i p hi
        have hpm := List.all_eq_true.1 hall p (List.mem_of_getElem? hi)
        simp only [Bool.and_eq_true] at hpm
        obtain ⟨fl, h1, h2, h3⟩ := field_of (f := i) (off := p.1) (ft := p.2) hi hg
        have ht := hget i fl h1
        have hil : i < xs.length := by rw [hxl]; exact (Array.getElem?_eq_some_iff.1 h1).1
        rw [List.getElem?_eq_getElem hil, h2, h3, cellsOf_eq hT hpm.1] at ht
        refine ih n p.2 _ _ ht hpm.2 fun q hq => hw q ?_
        simp only [DataW.weights, hu]
        refine weightsEach_of (j := i) (t := p.2) (d := xs[i].1) ?_ ?_ q hq
        · rw [List.getElem?_map, Array.getElem?_toList, h1, Option.map_some, h3]
        · rw [List.getElem?_map, List.getElem?_eq_getElem hil]; rfl
      have build : ∀ (l : List (Nat × TypeId)) (off i0 : Nat), contig T off l (T.size t) = true → (∀ (i : Nat) (p : Nat × TypeId), l[i]? = some p → fs[i0 + i]? = some p) → ∃ as, ShpL T l as ∧ F2 (PRep (fun b => b < w.heap.size) w) as (cs.drop off) := by
        intro l
        induction l with
        | nil =>
          intro off i0 hc _
          have : off = T.size t := Nat.eq_of_beq_eq_true hc
          exact ⟨[], .nil, by rw [List.drop_eq_nil_of_le (by omega)]; exact .nil⟩
        | cons p r ihr =>
          intro off i0 hc hf
          obtain ⟨o, ft⟩ := p
          simp only [contig, Bool.and_eq_true] at hc
          obtain rfl : o = off := Nat.eq_of_beq_eq_true hc.1
          obtain ⟨a, ha, hfa⟩ := field (i0 + 0) (o, ft) (hf 0 _ rfl)
          obtain ⟨as, has, hfas⟩ := ihr (o + T.size ft) (i0 + 1) hc.2 fun i p hi => by
            have := hf (i + 1) p (by simpa using hi)
            rwa [show i0 + 1 + i = i0 + (i + 1) by omega]
          refine ⟨a ++ as, .cons ha has, ?_⟩
          have e : cs.drop o = (cs.drop o).take (T.size ft) ++ cs.drop (o + T.size ft) := by
            rw [← List.drop_drop, List.take_append_drop]
          rw [e]
          exact hfa.app hfas
      obtain ⟨as, h1, h2⟩ := build fs 0 0 hcg fun i p hi => by rwa [Nat.zero_add]
      exact ⟨as, .struct hk h1, by simpa using h2⟩
    | str => rw [hk] at hp; cases hp
    | arr n e => rw [hk] at hp; cases hp
    | ptr e => rw [hk] at hp; cases hp
    | map k e => rw [hk] at hp; cases hp
    | fn => rw [hk] at hp; cases hp
    | other => rw [hk] at hp; cases hp
end
end Go.Vc
