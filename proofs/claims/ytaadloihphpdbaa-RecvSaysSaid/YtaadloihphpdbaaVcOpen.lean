/- What comes in: bytes, numbers, messages, chunks, steps, and slices of them. -/
import Derived.Test.YtaadloihphpdbaaVcLaw
import Derived.Test.YtaadloihphpdbaaVcB
import Derived.Test.YtaadloihphpdbaaPModel
import Derived.SizedLaws
set_option linter.unusedVariables false
set_option maxRecDepth 100000
namespace Go.Proofs.Ytaadloihphpdbaa
open Go Go.Vc Go.RowKit Go.ChangeShapes Go.WideShapes Go.ChangeAt

theorem wfB {n : Int} (h : (Lit.int .u8 n).wf = true) : 0 ≤ n ∧ n ≤ 255 := by
  have h2 : (decide (IntKind.min .u8 ≤ n) && decide (n ≤ IntKind.max .u8)) = true := h
  have := (Bool.and_eq_true _ _).mp h2
  have := And.intro (of_decide_eq_true this.1) (of_decide_eq_true this.2)
  have e1 : IntKind.min .u8 = 0 := by decide
  have e2 : IntKind.max .u8 = 255 := by decide
  rw [e1, e2] at this; exact this

section
variable {H : Type} {enc : TypeId × Value → H} {W : World} {base : Nat} {v : Value} {d : DataW H} {p : List MemPlace}

theorem open_any {t : TypeId} (hp : plainB tab 8 t = true) (h : DataW.Trod enc Try.prog W 0 (fun _ => true) true t v d p) (hz : ∀ n ∈ d.weights Try.prog t, n ≤ reachBytes) :
    ∃ ys, Shp tab t ys ∧ F2 (PRep (SW W) W) ys v.cells.toList := by
  obtain ⟨fuel, hf⟩ := h
  exact open_shp tab_ok 8 fuel t v.cells.toList (d, p) hf hp hz

theorem weigh {ts : List TypeId} {ds : List (DataW H)} {n : Nat} {t : TypeId} (hsz : (DataW.weightsEach Try.prog ts ds).all (· ≤ reachBytes) = true) (ht : ts[n]? = some t) (hd : ds[n]? = some d) : ∀ n ∈ d.weights Try.prog t, n ≤ reachBytes := by
  intro m hm
  exact of_decide_eq_true (List.all_eq_true.1 hsz m (DataW.weights_mem_each ht hd m hm))

/-- A slice. -/
theorem rep_slice {t e : TypeId} (hu : Try.prog.underlying t = some (.slice e)) (hval : Value.okWide Try.prog W .any base t v) {a : AV} (h : F2 (PRep (SW W) W) [a] v.cells.toList) : VRep (SW W) (fun _ => none) W a v := by
  obtain ⟨b, len, cap, rfl⟩ := okWide_slice hu hval
  have e : (Value.slice b len cap).cells.toList = [Value.slice b len cap] := rfl
  rw [e] at h
  cases h with
  | cons h1 h2 => exact .pure _ _ h1

/-- A struct. -/
theorem rep_agg {t : TypeId} {fs : Array Field} (hu : Try.prog.underlying t = some (.struct fs)) (hval : Value.okWide Try.prog W .any base t v) {ys : List AV} (h : F2 (PRep (SW W) W) ys v.cells.toList) : VRep (SW W) (fun _ => none) W (.agg ys) v := by
  unfold Value.okWide at hval
  rw [hu] at hval
  obtain ⟨cs, rfl, _, _⟩ := hval
  have e : (Value.agg cs).cells.toList = cs.toList := rfl
  rw [e] at h
  have := VRep.agg (S := SW W) (β := fun _ => none) (w := W) ys cs.toList h.length.symm (fun j c x hc hx => by
    obtain ⟨b, hb, hr⟩ := h.get j c hc
    rw [hx] at hb; cases hb; exact .pure _ _ hr) (fun x hx => by
    obtain ⟨j, hj⟩ := List.getElem?_of_mem hx
    have hjl : j < ys.length := by rw [h.length]; exact (List.getElem?_eq_some_iff.1 hj).1
    obtain ⟨b, hb, hr⟩ := h.get j _ (List.getElem?_eq_getElem hjl)
    rw [hj] at hb; cases hb; exact hr.one)
  simpa using this
end

/-! What each type's shape is. -/
theorem shp_msg {ys : List AV} (h : Shp tab 48 ys) : ∃ m : Msg, ys = msgAV m ∧ (inI m.1 ∧ m.2.length ≤ reachBytes) := by
  obtain ⟨a, r, rfl, h1, h⟩ := (h.struct_inv rfl).cons_inv
  obtain ⟨b, r2, rfl, h2, h⟩ := h.cons_inv
  obtain rfl := h.nil_inv
  obtain ⟨n, rfl, hn⟩ := h1.int_inv rfl
  obtain ⟨bs, rfl, hb⟩ := h2.bytes_inv rfl rfl rfl rfl
  exact ⟨(n, bs), rfl, wf_i64 hn, hb⟩
theorem shp_chunk {ys : List AV} (h : Shp tab 77 ys) : ∃ c : Chunk, ys = chunkAV c ∧ ((inI c.kind ∧ inI c.num ∧ inI c.stream ∧ inI c.place) ∧ c.data.length ≤ reachBytes ∧ c.early.length * 8 ≤ reachBytes ∧ ∀ n ∈ c.early, inI n) := by
  obtain ⟨a, r, rfl, h1, h⟩ := (h.struct_inv rfl).cons_inv
  obtain ⟨b, r2, rfl, h2, h⟩ := h.cons_inv
  obtain ⟨c, r3, rfl, h3, h⟩ := h.cons_inv
  obtain ⟨d, r4, rfl, h4, h⟩ := h.cons_inv
  obtain ⟨e, r5, rfl, h5, h⟩ := h.cons_inv
  obtain ⟨f, r6, rfl, h6, h⟩ := h.cons_inv
  obtain rfl := h.nil_inv
  obtain ⟨n1, rfl, g1⟩ := h1.int_inv rfl
  obtain ⟨n2, rfl, g2⟩ := h2.int_inv rfl
  obtain ⟨n3, rfl, g3⟩ := h3.int_inv rfl
  obtain ⟨n4, rfl, g4⟩ := h4.int_inv rfl
  obtain ⟨bs, rfl, g5⟩ := h5.bytes_inv rfl rfl rfl rfl
  obtain ⟨l, rfl, g6, g7⟩ := h6.ints_inv rfl rfl rfl rfl
  exact ⟨⟨n1, n2, n3, n4, bs, l⟩, rfl, ⟨wf_i64 g1, wf_i64 g2, wf_i64 g3, wf_i64 g4⟩, g5, g6, g7⟩
theorem shp_step {ys : List AV} (h : Shp tab 50 ys) : ∃ s : Step, ys = stepAV s ∧ (inI s.kind ∧ inI s.tenant ∧ inI s.n ∧ inI s.m ∧ inI s.msg.1 ∧ s.msg.2.length ≤ reachBytes) := by
  obtain ⟨a, r, rfl, h1, h⟩ := (h.struct_inv rfl).cons_inv
  obtain ⟨b, r2, rfl, h2, h⟩ := h.cons_inv
  obtain ⟨c, r3, rfl, h3, h⟩ := h.cons_inv
  obtain ⟨d, r4, rfl, h4, h⟩ := h.cons_inv
  obtain ⟨e, r5, rfl, h5, h⟩ := h.cons_inv
  obtain ⟨f, r6, rfl, h6, h⟩ := h.cons_inv
  obtain rfl := h.nil_inv
  obtain ⟨n1, rfl, g1⟩ := h1.int_inv rfl
  obtain ⟨n2, rfl, g2⟩ := h2.int_inv rfl
  obtain ⟨n3, rfl, g3⟩ := h3.int_inv rfl
  obtain ⟨n4, rfl, g4⟩ := h4.int_inv rfl
  obtain ⟨b5, rfl⟩ := h5.bool_inv rfl
  obtain ⟨m, rfl, g6, g7⟩ := shp_msg h6
  exact ⟨⟨n1, n2, n3, n4, b5, m⟩, rfl, wf_i64 g1, wf_i64 g2, wf_i64 g3, wf_i64 g4, g6, g7⟩
theorem shp_msgs {ys : List AV} (h : Shp tab 29 ys) : ∃ l : List Msg, ys = [.shr 2 (msgCells l)] ∧ (l.length * 32 ≤ reachBytes ∧ ∀ m ∈ l, inI m.1 ∧ m.2.length ≤ reachBytes) := by
  obtain ⟨xs, rfl, hl, hx⟩ := h.slice_inv (e := 48) rfl
  obtain ⟨l, rfl, hq⟩ := map_of_allP (enc := msgAV) (Q := fun m => inI m.1 ∧ m.2.length ≤ reachBytes) fun x hm => shp_msg (hx x hm)
  exact ⟨l, rfl, by rw [List.length_map] at hl; exact hl, hq⟩
theorem shp_chunks {ys : List AV} (h : Shp tab 31 ys) : ∃ l : List Chunk, ys = [.shr 6 (chunkCells l)] ∧ (l.length * 80 ≤ reachBytes ∧ ∀ c ∈ l, ((inI c.kind ∧ inI c.num ∧ inI c.stream ∧ inI c.place) ∧ c.data.length ≤ reachBytes ∧ c.early.length * 8 ≤ reachBytes ∧ ∀ n ∈ c.early, inI n)) := by
  obtain ⟨xs, rfl, hl, hx⟩ := h.slice_inv (e := 77) rfl
  obtain ⟨l, rfl, hq⟩ := map_of_allP (enc := chunkAV) (Q := fun c => ((inI c.kind ∧ inI c.num ∧ inI c.stream ∧ inI c.place) ∧ c.data.length ≤ reachBytes ∧ c.early.length * 8 ≤ reachBytes ∧ ∀ n ∈ c.early, inI n)) fun x hm => shp_chunk (hx x hm)
  exact ⟨l, rfl, by rw [List.length_map] at hl; exact hl, hq⟩
theorem shp_steps {ys : List AV} (h : Shp tab 22 ys) : ∃ l : List Step, ys = [.shr 7 (stepCells l)] ∧ (l.length * 72 ≤ reachBytes ∧ ∀ s ∈ l, inI s.kind ∧ inI s.tenant ∧ inI s.n ∧ inI s.m ∧ inI s.msg.1 ∧ s.msg.2.length ≤ reachBytes) := by
  obtain ⟨xs, rfl, hl, hx⟩ := h.slice_inv (e := 50) rfl
  obtain ⟨l, rfl, hq⟩ := map_of_allP (enc := stepAV) (Q := fun s => inI s.kind ∧ inI s.tenant ∧ inI s.n ∧ inI s.m ∧ inI s.msg.1 ∧ s.msg.2.length ≤ reachBytes) fun x hm => shp_step (hx x hm)
  exact ⟨l, rfl, by rw [List.length_map] at hl; exact hl, hq⟩
theorem shp_ints {ys : List AV} (h : Shp tab 34 ys) : ∃ l : List Int, ys = [.shr 1 (intCells l)] ∧ (l.length * 8 ≤ reachBytes ∧ ∀ n ∈ l, inI n) := by
  obtain ⟨l, rfl, h1, h2⟩ := h.ints_inv rfl rfl rfl rfl
  exact ⟨l, rfl, h1, h2⟩
theorem shp_bytes {ys : List AV} (h : Shp tab 46 ys) : ∃ l : List UInt8, ys = [.shr 1 (byteCells l)] ∧ l.length ≤ reachBytes := by
  obtain ⟨l, rfl, h1⟩ := h.bytes_inv rfl rfl rfl rfl
  exact ⟨l, rfl, h1⟩
end Go.Proofs.Ytaadloihphpdbaa
