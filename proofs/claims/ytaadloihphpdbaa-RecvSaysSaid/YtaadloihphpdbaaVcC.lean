/- More of what the walks need: rows given up to be read, arrays compared, rows lent whole. -/
import Derived.ChangeKeysEq
import Derived.Test.YtaadloihphpdbaaVcB
set_option linter.unusedVariables false
set_option linter.unusedSimpArgs false
namespace Go.Vc
open Go Go.RowKit

section
variable {Γ : Ctx} {S : Nat → Prop} {O : Nat → Nat → Prop} {β : Beta} {E : Env} {a : Act} {w : World}
/-- A row is given up: from now on it is only read. -/
theorem SimAt.giveUp (h : SimAt Γ S O β E a w) {k : Nat} {e : TypeId} {sz : Nat} {xs : List (List AV)} (hk : look E.ob k = some (.row e sz xs)) :
    SimAt Γ (wkS S O (fun j => j = k)) (fun j b => O j b ∧ j ≠ k) β ⟨E.sl, (k, .dead) :: E.ob, E.n⟩ a w := by
  have hS : ∀ b, S b → wkS S O (fun j => j = k) b ∧ w.heap[b]? = w.heap[b]? := fun b hb => ⟨.inl hb, rfl⟩
  refine ⟨⟨?_, ?_, fun j j' c hc hc' => h.h.dj j j' c hc.1 hc'.1, ?_, ?_⟩, ?_, h.n, h.df, fun c hc => .inl (h.s0 c hc), ?_, fun j c hc => h.o1 j c hc.1, ?_, h.fr⟩
  · rintro b (hb | ⟨j, rfl, hb⟩)
    · exact h.h.sh b hb
    · exact (h.h.ow _ b hb).1
  · rintro j b ⟨hb, hj⟩
    refine ⟨(h.h.ow j b hb).1, ?_⟩
    rintro (hs | ⟨j', rfl, hb'⟩)
    · exact (h.h.ow j b hb).2 hs
    · exact hj (h.h.dj _ _ b hb hb')
  · intro j hj
    have hj' : look ((k, AO.dead) :: E.ob) j = none := hj
    rw [look_cons] at hj'
    by_cases hkj : k = j
    · rw [if_pos hkj] at hj'; cases hj'
    · rw [if_neg hkj] at hj'
      have := h.h.dom j hj'
      exact ⟨this.1, fun c hc => this.2 c hc.1⟩
  · intro j o hj
    have hj' : look ((k, AO.dead) :: E.ob) j = some o := hj
    rw [look_cons] at hj'
    by_cases hkj : k = j
    · rw [if_pos hkj] at hj'; cases hj'; subst hkj; exact (h.h.objs k _ hk).bound
    · rw [if_neg hkj] at hj'
      exact (h.h.objs j o hj').mono hS (fun _ _ h => h) fun c hc => ⟨⟨hc, Ne.symm hkj⟩, rfl⟩
  · intro t v hv
    exact (h.sl t v hv).mono hS fun _ _ h => h
  · rintro c (hc | ⟨j, _, hc⟩)
    · exact h.s1 c hc
    · rcases h.o1 j c hc with h3 | h3
      · exact .inr (.inl h3)
      · exact .inr (.inr h3)
  · intro j hj hn'
    refine h.b0 j hj fun e => hn' ?_
    have hkj : k ≠ j := fun e' => by rw [← e', hk] at e; cases e
    show look ((k, AO.dead) :: E.ob) j = none
    rw [look_cons, if_neg hkj]; exact e
end

section
variable {G : Prg} {Γ : Ctx} {E : Env} {dst : Option Tmp} {ty : TypeId} {pos : String} {aft : Array Edge} {gd : Option (Nat × Bool)}
/-- A slice of a row that is given up. -/
theorem op_sliceRF {t e e' : TypeId} {x : Operand} {lo hi : Option Operand} {k sz l h : Nat} {xs : List (List AV)} (hx : evo (look E.sl) x = some (.row k)) (hk : look E.ob k = some (.row e' sz xs)) (hlo : evB (look E.sl) lo 0 l) (hhi : evB (look E.sl) hi xs.length h) (hlh : l ≤ h) (hh : h ≤ xs.length)
    (ht : G.T.kind t = .slice e) (he : (G.T.kind e).known = true) (hsz : G.T.size e = sz) (hd : ∀ d, dst = some d → d < E.n) : OpS G Γ ⟨dst, .slice t x lo hi none, ty, pos, aft, gd⟩ E (.shr sz ((xs.take h).drop l)) [(k, .dead)] (sl1 x ++ slO lo ++ slO hi) [k] :=
  OpS.turns hd fun E' hn h1 h2 S O β a w hs => by
    have hk' := (h2 k (by simp)).trans hk
    have hlo' : lo.map a.eval = some (.int .i64 l) ∨ (lo.map a.eval = none ∧ l = 0) := by
      cases lo with
      | none => exact .inr ⟨rfl, hlo⟩
      | some y => exact .inl (by rw [Option.map_some, hs.lit ((evo_congr fun t ht => h1 t (by simp [slO, ht])).trans hlo)])
    have hhi' : hi.map a.eval = some (.int .i64 h) ∨ (hi.map a.eval = none ∧ h = xs.length) := by
      cases hi with
      | none => exact .inr ⟨rfl, hhi⟩
      | some y => exact .inl (by rw [Option.map_some, hs.lit ((evo_congr fun t ht => h1 t (by simp [slO, ht])).trans hhi)])
    obtain ⟨l0, hl, hxe⟩ := (hs.ev ((evo_congr fun t ht => h1 t (by simp [ht])).trans hx)).row_inv
    have hg := hs.giveUp hk'
    have hfz := frozen_row (fz := fun j => j = k) hs.h hk' rfl hl
    have hv : VRep (wkS S O (fun j => j = k)) β w (.shr sz xs) l0.slice := .pure _ _ hfz
    rcases hv.shr_inv with ⟨hle, rfl⟩ | ⟨p, hle, rfl⟩ | ⟨b, off, cap, f, hle, hb, hcap, hm, hsx, hc, hp⟩
    · have hl0 : l = 0 := by simp at hh; omega
      have hh0 : h = 0 := by simp at hh; omega
      subst hl0 hh0
      have := run_cut (G := G) ht he none 0 0 (lo.map a.eval) (hi.map a.eval) 0 0 hlo' (by simpa using hhi') (Nat.le_refl _) (Nat.le_refl _) w
      exact ⟨.slice none 0 0, w, _, _, _, .inl (by rw [hle] at hxe; simp [execOp, hxe, this]), .pure _ _ (.nil sz), hg⟩
    · have hl0 : l = 0 := by simp at hh; omega
      have hh0 : h = 0 := by simp at hh; omega
      subst hl0 hh0
      have := run_cut (G := G) ht he (some p) 0 0 (lo.map a.eval) (hi.map a.eval) 0 0 hlo' (by simpa using hhi') (Nat.le_refl _) (Nat.le_refl _) w
      exact ⟨.slice (some p) 0 0, w, _, _, _, .inl (by rw [hle] at hxe; simp [execOp, hxe, this]), .pure _ _ (.void sz p), hg⟩
    · have := run_cut (G := G) ht he (some ⟨b, off, none⟩) xs.length cap (lo.map a.eval) (hi.map a.eval) l h hlo' hhi' hlh (by omega) w
      rw [hsz] at this
      exact ⟨_, w, _, _, _, .inl (by rw [hle] at hxe; simp only [execOp, hxe, Option.map_none, Sem.run_bind, this, Result.andThen_ok]; rfl), VRep.cut hb hcap hm hsx hc hp hlh hh, hg⟩

/-- Arrays of three numbers, compared. -/
theorem run_eq3 {T : Tab} {P : Program} (hT : T.ok P) {t e : TypeId} (ht : T.kind t = .arr 3 e) (he : T.kind e = .int .i64) (h1 : T.size e = 1) (a b c a' b' c' : Int) (w : World) :
    (Op.equal t (.agg #[.int .i64 a, .int .i64 b, .int .i64 c]) (.agg #[.int .i64 a', .int .i64 b', .int .i64 c'])).run P w = .ok (a == a' && (b == b' && c == c')) w := by
  have hk : (T.kind e).known = true := by rw [he]; rfl
  obtain ⟨_, i, z, hi, hs, _⟩ := hT e hk
  have hu := underlying_arr hT ht
  have ha : ∀ w, (isAgg e).run P w = .ok false w := fun w => by
    have := run_isAgg hT w hk
    rw [he] at this; exact this
  have hc : P.cellsOf e = 1 := by rw [cellsOf_eq hT hk, h1]
  have key : ∀ w x y, (Op.equalIn 9999 e (.int .i64 x) (.int .i64 y)).run P w = .ok (x == y) w := fun w x y => run_equalIn_int w 9998 e .i64 .i64 x y (underlying_int hT he)
  show (Op.equalIn (9999 + 1) t _ _).run P w = _
  rw [run_equalIn_array w 9999 _ _ hu hi]
  have e3 : List.range 3 = [0, 1, 2] := rfl
  rw [e3]
  have p0 : ∀ w (xs : Array Value) (v : Value) (o : Nat), xs[o]? = some v → (part e xs o).run P w = .ok v w := fun w xs v o hv => by
    simp [part, ha, hv]
  simp only [Op.eqItems, Sem.run_bind, hc, Nat.mul_one]
  rw [show (part e #[Value.int IntKind.i64 a, Value.int IntKind.i64 b, Value.int IntKind.i64 c] 0).run P w = .ok (.int .i64 a) w from p0 w _ _ 0 rfl]
  simp only [Result.andThen_ok]
  rw [show (part e #[Value.int IntKind.i64 a', Value.int IntKind.i64 b', Value.int IntKind.i64 c'] 0).run P w = .ok (.int .i64 a') w from p0 w _ _ 0 rfl]
  simp only [Result.andThen_ok]
  rw [key]
  simp only [Result.andThen_ok]
  cases a == a'
  · simp
  simp only [Bool.not_true, Bool.false_eq_true, if_false, Sem.run_bind]
  rw [show (part e #[Value.int IntKind.i64 a, Value.int IntKind.i64 b, Value.int IntKind.i64 c] 1).run P w = .ok (.int .i64 b) w from p0 w _ _ 1 rfl]
  simp only [Result.andThen_ok]
  rw [show (part e #[Value.int IntKind.i64 a', Value.int IntKind.i64 b', Value.int IntKind.i64 c'] 1).run P w = .ok (.int .i64 b') w from p0 w _ _ 1 rfl]
  simp only [Result.andThen_ok]
  rw [key]
  simp only [Result.andThen_ok]
  cases b == b'
  · simp
  simp only [Bool.not_true, Bool.false_eq_true, if_false, Sem.run_bind]
  rw [show (part e #[Value.int IntKind.i64 a, Value.int IntKind.i64 b, Value.int IntKind.i64 c] 2).run P w = .ok (.int .i64 c) w from p0 w _ _ 2 rfl]
  simp only [Result.andThen_ok]
  rw [show (part e #[Value.int IntKind.i64 a', Value.int IntKind.i64 b', Value.int IntKind.i64 c'] 2).run P w = .ok (.int .i64 c') w from p0 w _ _ 2 rfl]
  simp only [Result.andThen_ok]
  rw [key]
  simp only [Result.andThen_ok]
  cases c == c'
  · simp
  · simp

theorem op_eqlA {t e yt : TypeId} {x y : Operand} {a b c a' b' c' : Int} (hx : evo (look E.sl) x = some (.agg [.lit (.int .i64 a), .lit (.int .i64 b), .lit (.int .i64 c)])) (hy : evo (look E.sl) y = some (.agg [.lit (.int .i64 a'), .lit (.int .i64 b'), .lit (.int .i64 c')])) (ht : G.T.kind t = .arr 3 e) (he : G.T.kind e = .int .i64) (h3 : G.T.size e = 1) (hd : ∀ d, dst = some d → d < E.n) :
    OpS G Γ ⟨dst, .binOp .eql t x y yt, ty, pos, aft, gd⟩ E (.lit (.bool (a == a' && (b == b' && c == c')))) [] (sl1 x ++ sl1 y) [] :=
  OpS.val hd fun E' hn h1 h2 S O β ac w hs => by
    have ev : ∀ (z : Operand) (p q r : Int), VRep S β w (.agg [.lit (.int .i64 p), .lit (.int .i64 q), .lit (.int .i64 r)]) (ac.eval z) → ac.eval z = .agg #[.int .i64 p, .int .i64 q, .int .i64 r] := by
      intro z p q r h
      obtain ⟨vs, he, hl, hr, _⟩ := h.agg_inv
      match vs, hl with
      | [u0, u1, u2], _ =>
        have g0 := (hr 0 _ u0 rfl rfl).lit_inv.1
        have g1 := (hr 1 _ u1 rfl rfl).lit_inv.1
        have g2 := (hr 2 _ u2 rfl rfl).lit_inv.1
        rw [he, g0, g1, g2]
    have hxe := ev x a b c (hs.ev ((evo_congr fun t ht => h1 t (by simp [ht])).trans hx))
    have hye := ev y a' b' c' (hs.ev ((evo_congr fun t ht => h1 t (by simp [ht])).trans hy))
    refine ⟨.bool (a == a' && (b == b' && c == c')), ?_, .pure _ _ (.lit _ rfl)⟩
    have := run_eq3 G.ok ht he h3 a b c a' b' c' w
    have hgt : G.P.eqGuardType G.P.depth t = false := by
      obtain ⟨d, hd⟩ : ∃ d, G.P.depth = d + 1 + 1 := ⟨_, rfl⟩
      rw [hd]
      simp [Program.eqGuardType, underlying_arr G.ok ht, underlying_int G.ok he]
    simp [execOp, hxe, hye, eqGuard, binOp, this, hgt]
theorem op_neqA {t e yt : TypeId} {x y : Operand} {a b c a' b' c' : Int} (hx : evo (look E.sl) x = some (.agg [.lit (.int .i64 a), .lit (.int .i64 b), .lit (.int .i64 c)])) (hy : evo (look E.sl) y = some (.agg [.lit (.int .i64 a'), .lit (.int .i64 b'), .lit (.int .i64 c')])) (ht : G.T.kind t = .arr 3 e) (he : G.T.kind e = .int .i64) (h3 : G.T.size e = 1) (hd : ∀ d, dst = some d → d < E.n) :
    OpS G Γ ⟨dst, .binOp .neq t x y yt, ty, pos, aft, gd⟩ E (.lit (.bool (!(a == a' && (b == b' && c == c'))))) [] (sl1 x ++ sl1 y) [] :=
  OpS.val hd fun E' hn h1 h2 S O β ac w hs => by
    have ev : ∀ (z : Operand) (p q r : Int), VRep S β w (.agg [.lit (.int .i64 p), .lit (.int .i64 q), .lit (.int .i64 r)]) (ac.eval z) → ac.eval z = .agg #[.int .i64 p, .int .i64 q, .int .i64 r] := by
      intro z p q r h
      obtain ⟨vs, he, hl, hr, _⟩ := h.agg_inv
      match vs, hl with
      | [u0, u1, u2], _ =>
        have g0 := (hr 0 _ u0 rfl rfl).lit_inv.1
        have g1 := (hr 1 _ u1 rfl rfl).lit_inv.1
        have g2 := (hr 2 _ u2 rfl rfl).lit_inv.1
        rw [he, g0, g1, g2]
    have hxe := ev x a b c (hs.ev ((evo_congr fun t ht => h1 t (by simp [ht])).trans hx))
    have hye := ev y a' b' c' (hs.ev ((evo_congr fun t ht => h1 t (by simp [ht])).trans hy))
    refine ⟨.bool (!(a == a' && (b == b' && c == c'))), ?_, .pure _ _ (.lit _ rfl)⟩
    have := run_eq3 G.ok ht he h3 a b c a' b' c' w
    have hgt : G.P.eqGuardType G.P.depth t = false := by
      obtain ⟨d, hd⟩ : ∃ d, G.P.depth = d + 1 + 1 := ⟨_, rfl⟩
      rw [hd]
      simp [Program.eqGuardType, underlying_arr G.ok ht, underlying_int G.ok he]
    simp [execOp, hxe, hye, eqGuard, binOp, this, hgt]
end

section
variable {G : Prg} {Γ : Ctx} {ops : Array Oper} {fin : List Lg → Prop} {K : Env → Prop} {os : List Oper} {log : List Lg} {sl : List (Nat × AV)} {ob : List (Nat × AO)} {nn : Nat} {d : Nat} {ty : TypeId} {pos : String} {aft : Array Edge} {gd : Option (Nat × Bool)}
theorem u_sliceRFLo {t e e' : TypeId} {x y : Operand} {k sz : Nat} {z : Int} {xs : List (List AV)} (h : Nat) (hx : evo (look sl) x = some (.row k)) (hk : look ob k = some (.row e' sz xs)) (hy : evo (look sl) y = some (.lit (.int .i64 z))) (hz : z = h) (hh : h ≤ xs.length) (ht : G.T.kind t = .slice e) (he : (G.T.kind e).known = true) (hsz : G.T.size e = sz) (hd : Nat.blt d nn = true) (hg : GOk ops sl nn gd)
    (kk' : VR G Γ ops fin K os (log ++ [⟨some d, gsl ops gd ++ (sl1 x ++ slO (some y) ++ slO none), [k], [k]⟩]) ⟨(d, .shr sz (xs.drop h)) :: sl, (k, .dead) :: ob, nn⟩) : VR G Γ ops fin K (⟨some d, .slice t x (some y) none none, ty, pos, aft, gd⟩ :: os) log ⟨sl, ob, nn⟩ := by
  subst hz
  have := op_sliceRF (G := G) (Γ := Γ) (E := ⟨sl, ob, nn⟩) (dst := some d) (ty := ty) (pos := pos) (aft := aft) (gd := gd) (lo := some y) (hi := none) (l := h) (h := xs.length) hx hk hy rfl hh (Nat.le_refl _) ht he hsz (dlt hd)
  rw [List.take_length] at this
  exact u_op this hg kk'
theorem u_eqlA {t e yt : TypeId} {x y : Operand} {a b c a' b' c' : Int} (hx : evo (look sl) x = some (.agg [.lit (.int .i64 a), .lit (.int .i64 b), .lit (.int .i64 c)])) (hy : evo (look sl) y = some (.agg [.lit (.int .i64 a'), .lit (.int .i64 b'), .lit (.int .i64 c')])) (ht : G.T.kind t = .arr 3 e) (he : G.T.kind e = .int .i64) (h3 : G.T.size e = 1) (hd : Nat.blt d nn = true) (hg : GOk ops sl nn gd)
    (kk' : VR G Γ ops fin K os (log ++ [⟨some d, gsl ops gd ++ (sl1 x ++ sl1 y), [], []⟩]) ⟨(d, .lit (.bool (a == a' && (b == b' && c == c')))) :: sl, ob, nn⟩) : VR G Γ ops fin K (⟨some d, .binOp .eql t x y yt, ty, pos, aft, gd⟩ :: os) log ⟨sl, ob, nn⟩ :=
  u_op (op_eqlA (G := G) (Γ := Γ) (E := ⟨sl, ob, nn⟩) (dst := some d) (ty := ty) (pos := pos) (aft := aft) (gd := gd) hx hy ht he h3 (dlt hd)) hg kk'
theorem s_eqlA {t e yt : TypeId} {x y : Operand} {a b c a' b' c' : Int} (hx : evo (look sl) x = some (.agg [.lit (.int .i64 a), .lit (.int .i64 b), .lit (.int .i64 c)])) (hy : evo (look sl) y = some (.agg [.lit (.int .i64 a'), .lit (.int .i64 b'), .lit (.int .i64 c')])) (ht : G.T.kind t = .arr 3 e) (he : G.T.kind e = .int .i64) (h3 : G.T.size e = 1) (hd : Nat.blt d nn = true) (hg : GOk ops sl nn gd)
    (hT : (a == a' && (b == b' && c == c')) = true → VR G Γ ops fin K os (log ++ [⟨some d, gsl ops gd ++ (sl1 x ++ sl1 y), [], []⟩]) ⟨(d, .lit (.bool true)) :: sl, ob, nn⟩) (hF : (a == a' && (b == b' && c == c')) = false → VR G Γ ops fin K os (log ++ [⟨some d, gsl ops gd ++ (sl1 x ++ sl1 y), [], []⟩]) ⟨(d, .lit (.bool false)) :: sl, ob, nn⟩) :
    VR G Γ ops fin K (⟨some d, .binOp .eql t x y yt, ty, pos, aft, gd⟩ :: os) log ⟨sl, ob, nn⟩ := by
  refine u_eqlA hx hy ht he h3 hd hg ?_
  cases hb : (a == a' && (b == b' && c == c'))
  · exact hF hb
  · exact hT hb
theorem s_neqA {t e yt : TypeId} {x y : Operand} {a b c a' b' c' : Int} (hx : evo (look sl) x = some (.agg [.lit (.int .i64 a), .lit (.int .i64 b), .lit (.int .i64 c)])) (hy : evo (look sl) y = some (.agg [.lit (.int .i64 a'), .lit (.int .i64 b'), .lit (.int .i64 c')])) (ht : G.T.kind t = .arr 3 e) (he : G.T.kind e = .int .i64) (h3 : G.T.size e = 1) (hd : Nat.blt d nn = true) (hg : GOk ops sl nn gd)
    (hT : (a == a' && (b == b' && c == c')) = false → VR G Γ ops fin K os (log ++ [⟨some d, gsl ops gd ++ (sl1 x ++ sl1 y), [], []⟩]) ⟨(d, .lit (.bool true)) :: sl, ob, nn⟩) (hF : (a == a' && (b == b' && c == c')) = true → VR G Γ ops fin K os (log ++ [⟨some d, gsl ops gd ++ (sl1 x ++ sl1 y), [], []⟩]) ⟨(d, .lit (.bool false)) :: sl, ob, nn⟩) :
    VR G Γ ops fin K (⟨some d, .binOp .neq t x y yt, ty, pos, aft, gd⟩ :: os) log ⟨sl, ob, nn⟩ := by
  refine u_op (op_neqA (G := G) (Γ := Γ) (E := ⟨sl, ob, nn⟩) (dst := some d) (ty := ty) (pos := pos) (aft := aft) (gd := gd) hx hy ht he h3 (dlt hd)) hg ?_
  cases hb : (a == a' && (b == b' && c == c'))
  · exact hT hb
  · exact hF hb
end

section
variable {G : Prg} {Γ : Ctx} {E : Env}
theorem Sim.narrow {E : Env} {a : Act} {w : World} {t k sz m : Nat} (d : Nat) {e : TypeId} {xs : List (List AV)} (hs : Sim Γ E a w) (ht : look E.sl t = some (.rsl k sz 0 m)) (hk : look E.ob k = some (.row e sz xs)) (hm : m ≤ xs.length) (hd : look E.ob d = none) (hp : d ∉ Γ.par) :
    Sim Γ ⟨(t, .row d) :: E.sl, (d, .row e sz (xs.take m)) :: (k, .dead) :: E.ob, E.n⟩ a w := by
  obtain ⟨S, O, β, hs⟩ := hs
  obtain ⟨b, cap, n, hl, _, _, hxe⟩ := (hs.sl t _ ht).rsl_inv
  obtain ⟨vs, rfl, hO, hg, hcap, hcm, hvl, hsx, hm', hr⟩ := hs.rowAt hk hl
  have hml : (xs.take m).length = m := by rw [List.length_take]; omega
  have o1 : ∀ (i : Nat) (x : List AV), (xs.take m)[i]? = some x → x.length = sz := by
    intro i x hx
    rw [List.getElem?_take] at hx
    split at hx
    · exact hsx i x hx
    · cases hx
  have o2 : ∀ (i : Nat) (x : List AV) (j : Nat) (c : AV), (xs.take m)[i]? = some x → x[j]? = some c → ∃ v, vs[i * sz + j]? = some v ∧ PRep S w c v := by
    intro i x j c hx hc
    rw [List.getElem?_take] at hx
    split at hx
    · exact hr i x j c hx hc
    · cases hx
  have hreb := hs.rebind hk hd hp (w' := w) (Fr.refl _ _) (N := fun b => O k b) (fun b hb => .inl hb) (.at b cap m) (.row e sz (xs.take m)) ⟨o1, by omega, .inr ⟨b, cap, vs, by rw [hml]; exact addB_same _ _ _, .inr ⟨rfl, hO⟩, hg, by omega, hcm, hvl, o2⟩⟩
  refine ⟨_, _, _, ⟨hreb.h, ?_, hreb.n, hreb.df, hreb.s0, hreb.s1, hreb.o1, hreb.b0, hreb.fr⟩⟩
  intro t' v hv
  have hv' : look ((t, AV.row d) :: E.sl) t' = some v := hv
  rw [look_cons] at hv'
  by_cases he : t = t'
  · rw [if_pos he] at hv'; cases hv'; subst he
    have e0 : (if cap = 0 then 0 else 0 * sz) = 0 := by split <;> simp
    rw [hxe, e0, Nat.sub_zero, Nat.sub_zero]
    exact .row d (.at b cap m) (addB_same _ _ _)
  · rw [if_neg he] at hv'; exact hreb.sl t' v hv'

/-- What a piece of code leaves of a row, under a new name. -/
theorem vw_narrowPost {c : Code} {Q : Exit → Env → Prop} (t d : Nat) (h : VW G Γ c (fun e E' => ∃ (k sz m : Nat) (te : TypeId) (xs : List (List AV)), look E'.sl t = some (.rsl k sz 0 m) ∧ look E'.ob k = some (.row te sz xs) ∧ m ≤ xs.length ∧ look E'.ob d = none ∧ d ∉ Γ.par ∧
    Q e ⟨(t, .row d) :: E'.sl, (d, .row te sz (xs.take m)) :: (k, .dead) :: E'.ob, E'.n⟩) E) : VW G Γ c Q E := by
  intro a w hs
  refine wp_mono (h a w hs) ?_
  rintro e a' w' ⟨E', ⟨k, sz, m, te, xs, h1, h2, h3, h4, h5, h6⟩, hs'⟩
  exact ⟨_, h6, hs'.narrow d h1 h2 h3 h4 h5⟩
end

/-- Nil slices, seen as slices without elements. -/
inductive NilSub : List AV → List AV → Prop
  | nil : NilSub [] []
  | same (c : AV) {as bs : List AV} : NilSub as bs → NilSub (c :: as) (c :: bs)
  | see (sz : Nat) {as bs : List AV} : NilSub as bs → NilSub (.lit (.slice none 0 0) :: as) (.shr sz [] :: bs)

theorem NilSub.len {as bs : List AV} (h : NilSub as bs) : as.length = bs.length := by
  induction h with
  | nil => rfl
  | same c _ ih => simp [ih]
  | see sz _ ih => simp [ih]
theorem NilSub.get {as bs : List AV} (h : NilSub as bs) : ∀ (j : Nat) (b : AV), bs[j]? = some b → ∃ a, as[j]? = some a ∧ (a = b ∨ (a = .lit (.slice none 0 0) ∧ ∃ sz, b = .shr sz [])) := by
  induction h with
  | nil => intro j b h; simp at h
  | same c _ ih =>
    intro j b hb
    cases j with
    | zero => simp at hb; subst hb; exact ⟨c, by simp, .inl rfl⟩
    | succ j => simpa using ih j b (by simpa using hb)
  | see sz _ ih =>
    intro j b hb
    cases j with
    | zero => simp at hb; subst hb; exact ⟨_, by simp, .inr ⟨rfl, sz, rfl⟩⟩
    | succ j => simpa using ih j b (by simpa using hb)
theorem NilSub.rep {as bs : List AV} (h : NilSub as bs) {S : Nat → Prop} {β : Beta} {w : World} {x : Value} (hx : VRep S β w (.agg as) x) : VRep S β w (.agg bs) x := by
  obtain ⟨vs, rfl, hl, hr, ho⟩ := hx.agg_inv
  refine .agg bs vs (hl.trans h.len) (fun j c x hc hx => ?_) ho
  obtain ⟨a, ha, hab⟩ := h.get j c hc
  have := hr j a x ha hx
  rcases hab with rfl | ⟨rfl, sz, rfl⟩
  · exact this
  · obtain ⟨rfl, _⟩ := this.lit_inv; exact .pure _ _ (.nil sz)

theorem Sim.see {Γ : Ctx} {sl : List (Nat × AV)} {ob : List (Nat × AO)} {n d : Nat} {v v' : AV} {a : Act} {w : World} (h : Sim Γ ⟨(d, v) :: sl, ob, n⟩ a w) (hv : ∀ (S : Nat → Prop) (β : Beta) (x : Value), VRep S β w v x → VRep S β w v' x) : Sim Γ ⟨(d, v') :: sl, ob, n⟩ a w := by
  obtain ⟨S, O, β, h⟩ := h
  refine ⟨S, O, β, ⟨h.h, ?_, h.n, h.df, h.s0, h.s1, h.o1, h.b0, h.fr⟩⟩
  intro t u hl
  have hl' : look ((d, v') :: sl) t = some u := hl
  rw [look_cons] at hl'
  by_cases he : d = t
  · rw [if_pos he] at hl'; cases hl'
    subst he
    exact hv S β _ (h.sl d v (by rw [look_cons, if_pos rfl]))
  · rw [if_neg he] at hl'
    exact h.sl t u (by rw [look_cons, if_neg he]; exact hl')

theorem OpS.see {G : Prg} {Γ : Ctx} {o : Oper} {E : Env} {val val' : AV} {upd : List (Nat × AO)} {rs ro : List Nat} {d : Nat} (h : OpS G Γ o E val upd rs ro) (hd : o.dst = some d) (hv : ∀ (S : Nat → Prop) (β : Beta) (w : World) (x : Value), VRep S β w val x → VRep S β w val' x) : OpS G Γ o E val' upd rs ro := by
  intro E' hn h1 h2 S O β a w hs K Q hK
  refine h E' hn h1 h2 S O β a w hs K Q fun a' w' hsim => hK a' w' ?_
  unfold Env.app at hsim ⊢
  rw [hd] at hsim ⊢
  exact hsim.see fun S β x => hv S β w' x

section
variable {G : Prg} {Γ : Ctx} {ops : Array Oper} {fin : List Lg → Prop} {K : Env → Prop} {os : List Oper} {log : List Lg} {sl : List (Nat × AV)} {ob : List (Nat × AO)} {nn : Nat} {d : Nat} {ty : TypeId} {pos : String} {aft : Array Edge} {gd : Option (Nat × Bool)}
theorem u_buildZ {t : TypeId} {parts : List (Nat × Operand)} {fs : List (Nat × TypeId)} {pv : List (Nat × AV)} {cs bs : List AV} (ht : G.T.kind t = .struct fs) (hp : evoL (look sl) parts = some pv) (hf : fillA G.T fs ((G.T.zero t).map .lit) pv = some cs) (hz : NilSub cs bs) (hk : (fs.all fun p => (G.T.kind p.2).known) = true) (hd : Nat.blt d nn = true) (hg : GOk ops sl nn gd)
    (kk' : VR G Γ ops fin K os (log ++ [⟨some d, gsl ops gd ++ (parts.flatMap fun p => sl1 p.2), [], []⟩]) ⟨(d, .agg bs) :: sl, ob, nn⟩) : VR G Γ ops fin K (⟨some d, .build t parts.toArray, ty, pos, aft, gd⟩ :: os) log ⟨sl, ob, nn⟩ :=
  u_op ((op_build (G := G) (Γ := Γ) (E := ⟨sl, ob, nn⟩) (dst := some d) (ty := ty) (pos := pos) (aft := aft) (gd := gd) ht hp hf hk (dlt hd)).see (d := d) rfl fun S β w x hx => hz.rep hx) hg kk'
end
end Go.Vc
