/- What comes in: bytes, numbers, messages, chunks, steps, and slices of them. -/
import Derived.Test.YtaadloihphpdbaaUVcLaw
import Derived.Test.YtaadloihphpdbaaUVcB
import Derived.Test.YtaadloihphpdbaaUPModel
import Derived.SizedLaws
set_option linter.unusedVariables false
set_option maxRecDepth 100000
namespace Go.Proofs.Ytaadloihphpdbaa
open Go Go.Vc Go.RowKit Go.ChangeShapes Go.WideShapes Go.ChangeAt
section
variable {H : Type} {enc : TypeId × Value → H} {W : World} {base : Nat} {v : Value} {d : DataW H} {p : List MemPlace}
theorem open_any {t : TypeId} (hp : plainB tab 8 t = true) (h : DataW.Trod enc Try.prog W 0 (fun _ => true) true t v d p) (hz : ∀ n ∈ d.weights Try.prog t, n ≤ reachBytes) :
    ∃ ys, Shp tab t ys ∧ F2 (PRep (SW W) W) ys v.cells.toList := by
  obtain ⟨fuel, hf⟩ := h
  exact open_shp tab_ok 8 fuel t v.cells.toList (d, p) hf hp hz
theorem weigh {ts : List TypeId} {ds : List (DataW H)} {n : Nat} {t : TypeId} (hsz : (DataW.weightsEach Try.prog ts ds).all (· ≤ reachBytes) = true) (ht : ts[n]? = some t) (hd : ds[n]? = some d) : ∀ n ∈ d.weights Try.prog t, n ≤ reachBytes := by
  intro m hm
  exact of_decide_eq_true (List.all_eq_true.1 hsz m (DataW.weights_mem_each ht hd m hm))
theorem rep_slice {t e : TypeId} (hu : Try.prog.underlying t = some (.slice e)) (hval : Value.okWide Try.prog W .any base t v) {a : AV} (h : F2 (PRep (SW W) W) [a] v.cells.toList) : VRep (SW W) (fun _ => none) W a v := by
  obtain ⟨b, len, cap, rfl⟩ := okWide_slice hu hval
  have e : (Value.slice b len cap).cells.toList = [Value.slice b len cap] := rfl
  rw [e] at h
  cases h with
  | cons h1 h2 => exact .pure _ _ h1
end
theorem shp_msg {ys : List AV} (h : Shp tab 48 ys) : ∃ m : Msg, ys = msgAV m ∧ (inI m.1 ∧ m.2.length ≤ reachBytes) := by
  obtain ⟨a, r, rfl, h1, h⟩ := (h.struct_inv rfl).cons_inv
  obtain ⟨b, r2, rfl, h2, h⟩ := h.cons_inv
  obtain rfl := h.nil_inv
  obtain ⟨n, rfl, hn⟩ := h1.int_inv rfl
  obtain ⟨bs, rfl, hb⟩ := h2.bytes_inv rfl rfl rfl rfl
  exact ⟨(n, bs), rfl, wf_i64 hn, hb⟩
theorem shp_step {ys : List AV} (h : Shp tab 50 ys) : ∃ s : Step, ys = stepAV s ∧ (inI s.kind ∧ inI s.tenant ∧ inI s.n ∧ inI s.m ∧ inI s.msg.1 ∧ s.msg.2.length ≤ reachBytes) := by
  obtain ⟨a, r, rfl, h1, h⟩ := (h.struct_inv rfl).cons_inv
  obtain ⟨b, r2, rfl, h2, h⟩ := h.cons_inv
  obtain ⟨c, r3, rfl, h3, h⟩ := h.cons_inv
  obtain ⟨d, r4, rfl, h4, h⟩ := h.cons_inv
  obtain ⟨e, r5, rfl, h5, h⟩ := h.cons_inv
  obtain ⟨f, r6, rfl, h6, h⟩ := h.cons_inv
  obtain rfl := h.nil_inv
  obtain ⟨n1, rfl, g1⟩ := h1.int_inv rfl
  obtain ⟨n2, rfl, g2⟩ := h2.int_inv rfl
  obtain ⟨n3, rfl, g3⟩ := h3.int_inv rfl
  obtain ⟨n4, rfl, g4⟩ := h4.int_inv rfl
  obtain ⟨b5, rfl⟩ := h5.bool_inv rfl
  obtain ⟨m, rfl, g6, g7⟩ := shp_msg h6
  exact ⟨⟨n1, n2, n3, n4, b5, m⟩, rfl, wf_i64 g1, wf_i64 g2, wf_i64 g3, wf_i64 g4, g6, g7⟩
theorem shp_steps {ys : List AV} (h : Shp tab 22 ys) : ∃ l : List Step, ys = [.shr 7 (stepCells l)] ∧ (l.length * 72 ≤ reachBytes ∧ ∀ s ∈ l, inI s.kind ∧ inI s.tenant ∧ inI s.n ∧ inI s.m ∧ inI s.msg.1 ∧ s.msg.2.length ≤ reachBytes) := by
  obtain ⟨xs, rfl, hl, hx⟩ := h.slice_inv (e := 50) rfl
  obtain ⟨l, rfl, hq⟩ := map_of_allP (enc := stepAV) (Q := fun s => inI s.kind ∧ inI s.tenant ∧ inI s.n ∧ inI s.m ∧ inI s.msg.1 ∧ s.msg.2.length ≤ reachBytes) fun x hm => shp_step (hx x hm)
  exact ⟨l, rfl, by rw [List.length_map] at hl; exact hl, hq⟩
end Go.Proofs.Ytaadloihphpdbaa
