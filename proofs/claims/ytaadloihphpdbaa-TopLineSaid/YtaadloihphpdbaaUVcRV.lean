/- Rows that own rows, written again. -/
import Derived.Test.YtaadloihphpdbaaUVcH
set_option linter.unusedVariables false
set_option linter.unusedSimpArgs false
namespace Go.Vc
open Go Go.RowKit
section
variable {G : Prg} {Γ : Ctx} {E : Env} {dst : Option Tmp} {ty : TypeId} {pos : String} {aft : Array Edge} {gd : Option (Nat × Bool)}
theorem op_storeRVV {t e : TypeId} {x y : Operand} {k sz i j : Nat} {xs : List (List AV)} {u : List AV} {v : AV} (hx : evo (look E.sl) x = some (.rptr k sz i j)) (hy : evo (look E.sl) y = some v) (hk : look E.ob k = some (.rowv e sz xs)) (hu : xs[i]? = some u)
    (hb : zdn v = true) (hl : (cellsOf v).length = G.T.size t) (ho : j + (cellsOf v).length ≤ sz) (ht : (G.T.kind t).known = true) (hd : ∀ d, dst = some d → d < E.n) :
    OpS G Γ ⟨dst, .store t x y, ty, pos, aft, gd⟩ E (.tup []) [(k, .rowv e sz (xs.set i (wrA u j (cellsOf v))))] (sl1 x ++ sl1 y) [k] :=
  OpS.turns hd fun E' hn h1 h2 S O β a w hs => by
    have hk' := (h2 k (by simp)).trans hk
    obtain ⟨b, cap, n, hbk, hxe⟩ := (hs.ev ((zbc fun t ht => h1 t (by simp [ht])).trans hx)).rptr_inv
    have hv := hs.ev ((zbc fun t ht => h1 t (by simp [ht])).trans hy)
    obtain ⟨hsz, hm, b', cap', vs, hb1, hO, hg, hcap, hcm, hvl, hr⟩ := hs.h.objs k _ hk'
    rw [hbk] at hb1
    cases hb1
    obtain ⟨c1, c2⟩ := hv.cells hb
    have c3 := hv.one_of hb
    have hi : i < xs.length := (List.getElem?_eq_some_iff.1 hu).1
    have hul : u.length = sz := hsz i u hu
    have hbd : i * sz + j + (a.eval y).cells.toList.length ≤ vs.length := by
      rw [c1, hvl]
      have := mul_add_lt (j := j + (cellsOf v).length) hi ho hcap
      omega
    have hst := run_storeN (P := G.P) w G.ok ht b (i * sz + j) (a.eval y) vs.toArray e (by rw [← Array.length_toList, c1, hl]) hg (by rw [← Array.length_toList]; simpa using hbd) c3
    have hold : ∀ (b' : Nat), S b' → S b' ∧ (w.setRow b (vs.take (i * sz + j) ++ (a.eval y).cells.toList ++ vs.drop (i * sz + j + (a.eval y).cells.toList.length)).toArray).heap[b']? = w.heap[b']? := fun b' hb' => ⟨hb', setRow_other w b b' _ (fun e => (hs.h.ow k b hO).2 (e ▸ hb'))⟩
    refine ⟨undef, _, S, O, β, .inr ⟨?_, rfl⟩, .tup [] [] rfl (fun j c x hc => by simp at hc), hs.turn hO (by rw [hk']; simp) (Fr_setRow w b (vs.take (i * sz + j) ++ (a.eval y).cells.toList ++ vs.drop (i * sz + j + (a.eval y).cells.toList.length)).toArray) (setRow_size w b _) _ ?_⟩
    · simp only [execOp, hxe, Sem.run_bind, hst, Result.andThen_ok, Sem.run_pure, List.toList_toArray, Array.length_toList]
    · refine ⟨?_, by simpa using hm, b, cap, _, by simpa using hbk, hO, setRow_heap w b _ _ e _ hg, by simpa using hcap, hcm, ?_, ?_⟩
      · intro i' x' hx'
        rw [List.getElem?_set] at hx'
        split at hx'
        · cases hx'
          rw [wrA_eq _ _ _ (by omega)]
          simp only [List.length_append, List.length_take, List.length_drop]; omega
        · exact hsz i' x' hx'
      · simp only [List.length_append, List.length_take, List.length_drop]; omega
      · intro i' x' j' c hx' hc
        rw [List.getElem?_set] at hx'
        rw [getElem?_tad _ _ _ hbd]
        have hj'sz : j' < sz := by
          have hlc := (List.getElem?_eq_some_iff.1 hc).1
          split at hx'
          · cases hx'
            rw [wrA_eq _ _ _ (by omega)] at hlc
            simp only [List.length_append, List.length_take, List.length_drop] at hlc; omega
          · have := hsz i' x' hx'; omega
        by_cases hii : i = i'
        · subst hii
          rw [if_pos rfl] at hx'
          simp only [hi, if_true, Option.some.injEq] at hx'
          subst hx'
          rw [wrA_eq _ _ _ (by omega), getElem?_tad _ _ _ (by omega)] at hc
          by_cases hj : j' < j
          · rw [if_pos hj] at hc
            rw [if_pos (by omega)]
            obtain ⟨z, hz, hz1, hp⟩ := hr i u j' c hu hc
            exact ⟨z, hz, hz1, hp.mono hold (fun _ _ h => h)⟩
          · rw [if_neg hj] at hc
            rw [if_neg (by omega)]
            by_cases hj2 : j' < j + (cellsOf v).length
            · rw [if_pos hj2] at hc
              rw [if_pos (by rw [c1]; omega)]
              have hlt : j' - j < (a.eval y).cells.toList.length := by rw [c1]; omega
              have hz : (a.eval y).cells.toList[j' - j]? = some (a.eval y).cells.toList[j' - j] := List.getElem?_eq_getElem hlt
              refine ⟨_, by rw [show i * sz + j' - (i * sz + j) = j' - j by omega]; exact hz, ?_⟩
              exact ⟨c3 _ (by simp), (c2 _ c _ hc hz).mono hold (fun _ _ h => h)⟩
            · rw [if_neg hj2] at hc
              rw [if_neg (by rw [c1]; omega)]
              obtain ⟨z, hz, hz1, hp⟩ := hr i u j' c hu hc
              exact ⟨z, hz, hz1, hp.mono hold (fun _ _ h => h)⟩
        · rw [if_neg hii] at hx'
          obtain ⟨z, hz, hz1, hp⟩ := hr i' x' j' c hx' hc
          refine ⟨z, ?_, hz1, hp.mono hold (fun _ _ h => h)⟩
          rw [← hz]
          have hw : ∀ q, q < (cellsOf v).length → i' * sz + j' ≠ i * sz + (j + q) := fun q hq => row_apart (Ne.symm hii) hj'sz (by omega)
          by_cases h3 : i' * sz + j' < i * sz + j
          · rw [if_pos h3]
          · rw [if_neg h3]
            by_cases h4 : i' * sz + j' < i * sz + j + (cellsOf v).length
            · exact absurd (show i' * sz + j' = i * sz + (j + (i' * sz + j' - (i * sz + j))) by omega) (hw _ (by omega))
            · rw [if_neg (by rw [c1]; exact h4)]
end
section
variable {G : Prg} {Γ : Ctx} {ops : Array Oper} {fin : List Lg → Prop} {K : Env → Prop} {os : List Oper} {log : List Lg} {sl : List (Nat × AV)} {ob : List (Nat × AO)} {nn : Nat} {d : Nat} {ty : TypeId} {pos : String} {aft : Array Edge} {gd : Option (Nat × Bool)}
theorem u_storeRVV {t e : TypeId} {x y : Operand} {k sz i j : Nat} {xs : List (List AV)} {u : List AV} {v : AV} (hx : evo (look sl) x = some (.rptr k sz i j)) (hy : evo (look sl) y = some (v)) (hk : look ob k = some (.rowv e sz xs)) (hu : xs[i]? = some u) (hb : zdn v = true) (hl : (cellsOf v).length = G.T.size t) (ho : Nat.ble (j + (cellsOf v).length) sz = true) (hkn : (G.T.kind t).known = true) (hg : GOk ops sl nn gd) (kk' : VR G Γ ops fin K os (log ++ [⟨none, gsl ops gd ++ (sl1 x ++ sl1 y), [k], [k]⟩]) ⟨sl, (k, .rowv e sz (xs.set i (wrA u j (cellsOf v)))) :: ob, nn⟩) : VR G Γ ops fin K (⟨none, .store t x y, ty, pos, aft, gd⟩ :: os) log ⟨sl, ob, nn⟩ := by
  exact u_op (op_storeRVV (G := G) (Γ := Γ) (E := ⟨sl, ob, nn⟩) (dst := none) (ty := ty) (pos := pos) (aft := aft) (gd := gd) hx hy hk hu hb hl (Nat.le_of_ble_eq_true ho) hkn dno) hg kk'
end
end Go.Vc
