/- The conversion of bytes to bytes: the row is marked, and from then on only read. -/
import Derived.Test.YtaadloihphpdbaaVcBytes
set_option linter.unusedVariables false
set_option linter.unusedSimpArgs false
namespace Go.Vc
open Go Go.RowKit

theorem freeze_at {w : World} {b k : Nat} {C : Array Value} {e : TypeId} (h : w.heap[b]? = some (.cells C e (0, 0))) :
    ∃ w', w.freeze ⟨b, k, none⟩ 1 = w' ∧ w'.os = w.os ∧ w'.tape = w.tape ∧ w'.output = w.output ∧ w'.heap.size = w.heap.size ∧ (∀ c, c ≠ b → w'.heap[c]? = w.heap[c]?) ∧ w'.heap[b]? = some (.cells C e (k, k + 1)) := by
  refine ⟨_, rfl, ?_⟩
  unfold World.freeze
  rw [if_neg (by decide)]
  refine ⟨rfl, rfl, rfl, by simp, fun c hc => ?_, ?_⟩
  · simp [Array.getElem?_modify, Ne.symm hc]
  · simp [Array.getElem?_modify, h]

section
variable {G : Prg} {Γ : Ctx} {E : Env} {dst : Option Tmp} {ty : TypeId} {pos : String} {aft : Array Edge} {gd : Option (Nat × Bool)}
theorem op_mark {t e e' : TypeId} {x : Operand} {k sz : Nat} {y : List AV} {ys : List (List AV)} (hx : evo (look E.sl) x = some (.row k)) (hk : look E.ob k = some (.row e' sz (y :: ys))) (hp : k ∉ Γ.par) (ht : G.T.kind t = .slice e) (he : G.T.kind e = .int .u8) (hd : ∀ d, dst = some d → d < E.n) :
    OpS G Γ ⟨dst, .convert t t x, ty, pos, aft, gd⟩ E (.shr sz (y :: ys)) [(k, .dead)] (sl1 x) [k] :=
  OpS.turns hd fun E' hn h1 h2 S O β a w hs => by
    have hk' := (h2 k (by simp)).trans hk
    obtain ⟨l, hl, hxe⟩ := (hs.ev ((evo_congr h1).trans hx)).row_inv
    obtain ⟨h0, hm, hr⟩ := hs.h.objs k _ hk'
    rcases hr with ⟨_, hnil⟩ | ⟨b, cap, vs, g1, g2, g3, g4, g5, g6, g7⟩
    · cases hnil
    rw [hl] at g1; cases g1
    obtain ⟨w', hw', w1, w2, w3, w4, w5, w6⟩ := freeze_at (k := vs.toArray.size) g3
    have hsh : w.shape? b = some (e', vs.toArray.size) := by unfold World.shape?; rw [g3]
    have hfr : Fr (fun c => c = b) w w' := ⟨w1, w2, w3, by omega, fun c _ hc => w5 c hc⟩
    have hrun : (execOp a.eval ⟨dst, .convert t t x, ty, pos, aft, gd⟩).run G.P w = .ok (.value (Loc.at b cap (y :: ys).length).slice) w' := by
      rw [← hw']
      simp [execOp, hxe, Loc.slice, convert, run_underlying (underlying_slice G.ok ht), run_underlying (underlying_int G.ok he), markStringish, hsh]
    have hS : ∀ c, S c → (S c ∨ c = b) ∧ w'.heap[c]? = w.heap[c]? := fun c hc => ⟨.inl hc, w5 c (fun e => (hs.h.ow k b g2).2 (e ▸ hc))⟩
    have hO : ∀ j c, O j c → j ≠ k → c ≠ b := fun j c hc hj e => hj (hs.h.dj j k b (e ▸ hc) g2)
    have hrow : ∀ i, w'.cell? ⟨b, i, none⟩ = vs[i]? := fun i => by
      rw [cell_of_row w' b _ _ e' _ w6]; simp
    refine ⟨_, w', fun c => S c ∨ c = b, fun j c => O j c ∧ j ≠ k, β, .inl hrun, ?_, ?_⟩
    · refine .pure _ _ ?_
      refine .shr sz (y :: ys) b 0 cap (fun i j => vs.getD (i * sz + j) undef) (.inr rfl) g4 hm h0 (fun i u j c hu hc => ?_) (fun i u j c hu hc => ?_)
      · obtain ⟨v, hv, _⟩ := g7 i u j c hu hc
        rw [Nat.zero_add, hrow]
        simp [List.getD, hv]
      · obtain ⟨v, hv, hpv⟩ := g7 i u j c hu hc
        have : vs.getD (i * sz + j) undef = v := by simp [List.getD, hv]
        rw [this]
        exact hpv.mono hS
    · refine ⟨⟨?_, ?_, fun j j' c hc hc' => hs.h.dj j j' c hc.1 hc'.1, ?_, ?_⟩, ?_, hs.n, hs.df, fun c hc => .inl (hs.s0 c hc), ?_, fun j c hc => hs.o1 j c hc.1, ?_, ?_⟩
      · rintro c (hc | rfl)
        · rw [w4]; exact hs.h.sh c hc
        · rw [w4]; exact (hs.h.ow k _ g2).1
      · rintro j c ⟨hc, hj⟩
        refine ⟨by rw [w4]; exact (hs.h.ow j c hc).1, ?_⟩
        rintro (hsc | rfl)
        · exact (hs.h.ow j c hc).2 hsc
        · exact hO j _ hc hj rfl
      · intro j hj
        have hj' : look ((k, AO.dead) :: E'.ob) j = none := hj
        rw [look_cons] at hj'
        by_cases hkj : k = j
        · rw [if_pos hkj] at hj'; cases hj'
        · rw [if_neg hkj] at hj'
          have := hs.h.dom j hj'
          exact ⟨this.1, fun c hc => this.2 c hc.1⟩
      · intro j o hj
        have hj' : look ((k, AO.dead) :: E'.ob) j = some o := hj
        rw [look_cons] at hj'
        by_cases hkj : k = j
        · rw [if_pos hkj] at hj'; cases hj'; subst hkj; exact ⟨_, hl⟩
        · rw [if_neg hkj] at hj'
          exact (hs.h.objs j o hj').mono hS (fun _ _ h => h) fun c hc => ⟨⟨hc, Ne.symm hkj⟩, w5 c (hO j c hc (Ne.symm hkj))⟩
      · intro s v hv
        exact (hs.sl s v hv).mono hS fun _ _ h => h
      · rintro c (hc | rfl)
        · exact hs.s1 c hc
        · rcases hs.o1 k _ g2 with h3 | h3
          · exact .inr (.inl h3)
          · exact .inr (.inr h3)
      · intro j hj hn'
        refine hs.b0 j hj fun e => hn' ?_
        have hkj : k ≠ j := fun e => hp (e ▸ hj)
        show look ((k, AO.dead) :: E'.ob) j = none
        rw [look_cons, if_neg hkj]; exact e
      · exact hs.fr.trans hfr fun c hc => by subst hc; exact hs.o1 k c g2
end

section
variable {G : Prg} {Γ : Ctx} {ops : Array Oper} {fin : List Lg → Prop} {K : Env → Prop} {os : List Oper} {log : List Lg} {sl : List (Nat × AV)} {ob : List (Nat × AO)} {nn : Nat} {d : Nat} {ty : TypeId} {pos : String} {aft : Array Edge} {gd : Option (Nat × Bool)}
theorem u_mark {t e e' : TypeId} {x : Operand} {k sz : Nat} {y : List AV} {ys : List (List AV)} (hx : evo (look sl) x = some (.row k)) (hk : look ob k = some (.row e' sz (y :: ys))) (hp : k ∉ Γ.par) (ht : G.T.kind t = .slice e) (he : G.T.kind e = .int .u8) (hd : Nat.blt d nn = true) (hg : GOk ops sl nn gd)
    (kk' : VR G Γ ops fin K os (log ++ [⟨some d, gsl ops gd ++ (sl1 x), [k], [k]⟩]) ⟨(d, .shr sz (y :: ys)) :: sl, (k, .dead) :: ob, nn⟩) : VR G Γ ops fin K (⟨some d, .convert t t x, ty, pos, aft, gd⟩ :: os) log ⟨sl, ob, nn⟩ :=
  u_op (op_mark (G := G) (Γ := Γ) (E := ⟨sl, ob, nn⟩) (dst := some d) (ty := ty) (pos := pos) (aft := aft) (gd := gd) hx hk hp ht he (dlt hd)) hg kk'
theorem s_move {x : Operand} {b : Bool} (hx : evo (look sl) x = some (.lit (.bool b))) (hd : Nat.blt d nn = true) (hg : GOk ops sl nn gd) (hT : b = true → VR G Γ ops fin K os (log ++ [⟨some d, gsl ops gd ++ (sl1 x), [], []⟩]) ⟨(d, .lit (.bool true)) :: sl, ob, nn⟩)
    (hF : b = false → VR G Γ ops fin K os (log ++ [⟨some d, gsl ops gd ++ (sl1 x), [], []⟩]) ⟨(d, .lit (.bool false)) :: sl, ob, nn⟩) : VR G Γ ops fin K (⟨some d, .move x, ty, pos, aft, gd⟩ :: os) log ⟨sl, ob, nn⟩ := by
  refine u_move hx hd hg ?_
  cases b
  · exact hF rfl
  · exact hT rfl
end

/-- No slice has more elements than any has. -/
theorem vw_len {G : Prg} {Γ : Ctx} {c : Code} {Q : Exit → Env → Prop} {E : Env} {t sz : Nat} {xs : List (List AV)} (ht : look E.sl t = some (.shr sz xs)) (h : xs.length ≤ 140737488355328 → VW G Γ c Q E) : VW G Γ c Q E := by
  intro a w hs
  obtain ⟨S, O, β, h'⟩ := hs
  refine h ?_ a w ⟨S, O, β, h'⟩
  rcases (h'.sl t _ ht).shr_inv with ⟨_, rfl⟩ | ⟨_, _, rfl⟩ | ⟨b, off, cap, f, hxe, hb, hcap, hm, hl, hc, hp⟩
  · exact Nat.zero_le _
  · exact Nat.zero_le _
  · exact hm
theorem vw_lenA {G : Prg} {Γ : Ctx} {c : Code} {Q : Exit → Env → Prop} {E : Env} {t sz j : Nat} {cs : List AV} {xs : List (List AV)} (ht : look E.sl t = some (.agg cs)) (hj : cs[j]? = some (.shr sz xs)) (h : xs.length ≤ 140737488355328 → VW G Γ c Q E) : VW G Γ c Q E := by
  intro a w hs
  obtain ⟨S, O, β, h'⟩ := hs
  refine h ?_ a w ⟨S, O, β, h'⟩
  obtain ⟨vs, _, hl, hr, _⟩ := (h'.sl t _ ht).agg_inv
  have hlt : j < vs.length := by rw [hl]; exact (List.getElem?_eq_some_iff.1 hj).1
  rcases (hr j _ _ hj (List.getElem?_eq_getElem hlt)).shr_inv with ⟨_, rfl⟩ | ⟨_, _, rfl⟩ | ⟨b, off, cap, f, hxe, hb, hcap, hm, hl, hc, hp⟩
  · exact Nat.zero_le _
  · exact Nat.zero_le _
  · exact hm
end Go.Vc
