/- What the bound of an upto statement gives: how many elements a slice has. -/
import Derived.Test.YtaadloihphpdbaaVcOpen
import Derived.Deep.CondSized
import Derived.JoinedCond
set_option linter.unusedVariables false
set_option maxRecDepth 100000
namespace Go.Proofs.Ytaadloihphpdbaa
open Go Go.Vc Go.RowKit Go.ChangeShapes Go.WideShapes Go.ChangeAt

theorem bulk_one {H : Type} (d : DataW H) : 1 ≤ Rows.uptoBulk d := by
  cases d with
  | lit l => cases l <;> simp [Rows.uptoBulk]
  | nil => simp [Rows.uptoBulk]
  | ptr d => simp [Rows.uptoBulk]
  | slice elems spare => simp [Rows.uptoBulk]
  | agg parts => simp [Rows.uptoBulk]
  | iface t d => simp [Rows.uptoBulk]
  | map entries => simp [Rows.uptoBulk]
  | held h => simp [Rows.uptoBulk]
theorem bulk_part {H : Type} {d : DataW H} : ∀ {l : List (DataW H)}, d ∈ l → Rows.uptoBulk d ≤ Rows.uptoBulkAll l
  | x :: r, h => by
    simp only [Rows.uptoBulkAll]
    rcases List.mem_cons.1 h with e | e
    · subst e; omega
    · have := bulk_part e; omega
theorem bulk_len {H : Type} : ∀ (l : List (DataW H)), l.length ≤ Rows.uptoBulkAll l
  | [] => by simp [Rows.uptoBulkAll]
  | x :: r => by have := bulk_one x; have := bulk_len r; simp only [Rows.uptoBulkAll, List.length_cons]; omega
theorem bulk_bound {H : Type} {l : List (DataW H)} (hk : Rows.uptoSmall H l = true) {d : DataW H} (h : d ∈ l) : Rows.uptoBulk d ≤ 1048576 :=
  Nat.le_trans (bulk_part h) (of_decide_eq_true hk)

/-- A slice has no more elements than the bound says. -/
theorem upto_len {H : Type} {enc : TypeId × Value → H} {W : World} {v : Value} {d : DataW H} {p : List MemPlace} {t e : TypeId} (hu : Try.prog.underlying t = some (.slice e)) (h : DataW.Trod enc Try.prog W 0 (fun _ => true) true t v d p)
    {S : Nat → Prop} {β : Beta} {sz : Nat} {xs : List (List AV)} (g : VRep S β W (.shr sz xs) v) (hb : Rows.uptoBulk d ≤ 1048576) : xs.length ≤ 1048576 := by
  rcases g.shr_inv with ⟨_, rfl⟩ | ⟨_, _, rfl⟩ | ⟨b, off, cap, f, rfl, _⟩
  · exact Nat.zero_le _
  · exact Nat.zero_le _
  · obtain ⟨fuel, hf⟩ := h
    have e : (Value.slice (some ⟨b, off, none⟩) xs.length cap).cells.toList = [Value.slice (some ⟨b, off, none⟩) xs.length cap] := rfl
    rw [e] at hf
    rcases DataW.trod_slice hu hf with ⟨h1, _⟩ | ⟨a, len, cap', elems, rest, n, _, h1, h2, _, _, _, hel, _⟩
    · cases h1
    · have h3 : xs.length = len := by
        injection h1 with h4 _
        injection h4
      have h5 := congrArg Prod.fst h2
      have h6 : d = .slice (elems.map (·.1)) (rest.map (·.1)) := h5
      rw [h6] at hb
      simp only [Rows.uptoBulk] at hb
      have := bulk_len (elems.map (·.1))
      rw [List.length_map] at this
      omega
end Go.Proofs.Ytaadloihphpdbaa
