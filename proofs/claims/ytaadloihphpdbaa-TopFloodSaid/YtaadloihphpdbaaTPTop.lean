/- The laws through all layers: what is closed in them, computed. No program is in sight. -/
import Derived.Test.YtaadloihphpdbaaTPText
import Derived.Test.YtaadloihphpdbaaTPRound
set_option linter.unusedVariables false
set_option linter.unusedSimpArgs false
namespace Go.Proofs.Ytaadloihphpdbaa
open Go Go.Vc Go.RowKit
def putS (q : Int) (m : Msg) : Step := ⟨2, q, 0, 0, false, m⟩
def sFull : Step := putS 0 (0, [97])
def wFull : World' := (play 1 (List.replicate 6 sFull)).1
def eFull (k : Nat) : List Int := List.replicate 6 0 ++ List.replicate k 9
theorem full_play (k : Nat) (h : k ≤ 20) : play 1 (List.replicate (6 + k) sFull) = (wFull, eFull k) := by
  have : ∀ k : Fin 21, play 1 (List.replicate (6 + k.1) sFull) = (wFull, eFull k.1) := by decide +kernel
  exact this ⟨k, by omega⟩
theorem eFull_len (k : Nat) : (eFull k).length = 6 + k := by simp [eFull]; omega
theorem eFull_get (k i : Nat) (h : i < (eFull k).length) : ((eFull k)[i] = 0) ↔ i < 6 := by
  simp only [eFull, List.getElem_append]
  split
  · rename_i h1
    rw [List.getElem_replicate]
    simp at h1; omega
  · rename_i h1
    rw [List.getElem_replicate]
    simp at h1; omega
def wFullE : World' := (zeu 200 wFull).1
theorem full_end : stillB wFullE = true ∧ wFullE.lanes.length = 1 ∧ (wFullE.lanes.getD 0 zdq).r.told.length = 6 := by decide +kernel
def lAlive : List Step := [putS 0 (0, [97]), putS 1 (1, [98])]
def wAlive : World' := (zeu 200 (play 2 lAlive).1).1
theorem alive_end : stillB wAlive = true ∧ wAlive.lanes.length = 2 ∧ (wAlive.lanes.getD 1 zdq).r.told.length = 1 := by decide +kernel
def floodS (n t : Nat) : Nat → List Step
  | 0 => []
  | i + 1 => floodS n t i ++ if i % n = t then [] else [putS ((i % n : Nat) : Int) (2, [255, 255])]
theorem floodS_len (n t : Nat) : ∀ i, (floodS n t i).length ≤ i
  | 0 => Nat.le_refl _
  | i + 1 => by
    have := floodS_len n t i
    unfold floodS
    rw [List.length_append]
    split <;> simp <;> omega
theorem floodS_in (n t : Nat) : ∀ i, ∀ s ∈ floodS n t i, inI s.m
  | 0 => fun s h => by cases h
  | i + 1 => fun s h => by
    unfold floodS at h
    rcases List.mem_append.1 h with h | h
    · exact floodS_in n t i s h
    · split at h
      · cases h
      · rw [List.mem_singleton.1 h]; show inI 0; unfold inI; omega
def soonL (n t m : Nat) : List Step := floodS n t m ++ [putS (t : Int) (0, [97])]
theorem soon_end (n t m : Nat) (h1 : 1 ≤ n) (h3 : n ≤ 3) (ht : t < n) (hm : m ≤ 20) : ((zdf (n + 1) (play n (soonL n t m)).1).lanes.getD t zdq).r.told = [(0, [97])] := by
  have : ∀ n : Fin 4, ∀ t : Fin 3, ∀ m : Fin 21, 1 ≤ n.1 → t.1 < n.1 → ((zdf (n.1 + 1) (play n.1 (soonL n.1 t.1 m.1)).1).lanes.getD t.1 zdq).r.told = [(0, [97])] := by decide +kernel
  exact this ⟨n, by omega⟩ ⟨t, by omega⟩ ⟨m, by omega⟩ h1 ht
def calmS (s : Step) : Bool := !(decide (s.kind = 2) || decide (s.kind = 6))
def calm (l : List Step) : Bool := l.all calmS && decide (l.length ≤ 100)
def ownL : List Step := [putS 0 (0, [97]), putS 0 (1, [98]), putS 0 (0, [99])]
def sFlood : Step := putS 1 (2, [255, 255, 255, 255, 255, 255])
theorem only_flood (k : Nat) (l : List Step) : zdp 0 (ownL ++ List.replicate k sFlood ++ l) = zdp 0 (ownL ++ zdp 0 l) := by
  unfold zdp
  have h : (List.replicate k sFlood).filter (mineB 0) = [] := by
    rw [List.filter_eq_nil_iff]
    intro s hs
    rw [List.eq_of_mem_replicate hs]
    decide
  rw [List.filter_append, List.filter_append, List.filter_append, h, List.append_nil, List.filter_filter]
  simp
end Go.Proofs.Ytaadloihphpdbaa
