/- Slices that may be nil: asked, and appended. -/
import Derived.Laws.Cover3
import Derived.Test.YtaadloihphpdbaaVcMark
set_option linter.unusedVariables false
set_option linter.unusedSimpArgs false
namespace Go.Vc
open Go Go.RowKit

section
variable {G : Prg} {Γ : Ctx} {E : Env} {dst : Option Tmp} {ty : TypeId} {pos : String} {aft : Array Edge} {gd : Option (Nat × Bool)}
theorem op_eqlNil {t e yt : TypeId} {x y : Operand} {p : Option Addr} {n c : Nat} (hx : evo (look E.sl) x = some (.lit (.slice p n c))) (hy : evo (look E.sl) y = some (.lit (.slice none 0 0))) (ht : G.T.kind t = .slice e) (hd : ∀ d, dst = some d → d < E.n) :
    OpS G Γ ⟨dst, .binOp .eql t x y yt, ty, pos, aft, gd⟩ E (.lit (.bool p.isNone)) [] (sl1 x ++ sl1 y) [] :=
  op_bin hx hy (fun w => by simp [eqGuard_at_slice, binOp, run_equal_slice_nil w t e p n c (underlying_slice G.ok ht)]) rfl hd
theorem op_eqlNilC {t e yt : TypeId} {x y : Operand} {sz : Nat} {u : List AV} {us : List (List AV)} (hx : evo (look E.sl) x = some (.shr sz (u :: us))) (hy : evo (look E.sl) y = some (.lit (.slice none 0 0))) (ht : G.T.kind t = .slice e) (hd : ∀ d, dst = some d → d < E.n) :
    OpS G Γ ⟨dst, .binOp .eql t x y yt, ty, pos, aft, gd⟩ E (.lit (.bool false)) [] (sl1 x ++ sl1 y) [] :=
  OpS.val hd fun E' hn h1 h2 S O β a w hs => by
    have hye := hs.lit ((evo_congr fun t ht => h1 t (by simp [ht])).trans hy)
    rcases (hs.ev ((evo_congr fun t ht => h1 t (by simp [ht])).trans hx)).shr_inv with ⟨_, hnil⟩ | ⟨_, _, hnil⟩ | ⟨b, off, cap, f, hxe, _⟩
    · cases hnil
    · cases hnil
    · refine ⟨.bool false, ?_, .pure _ _ (.lit _ rfl)⟩
      have := run_equal_slice_nil w t e (some ⟨b, off, none⟩) (u :: us).length cap (underlying_slice G.ok ht)
      simp only [List.length_cons] at this hxe
      simp [execOp, hxe, hye, eqGuard_at_slice, binOp, this]
theorem op_append0 {t e : TypeId} {x y : Operand} {k d sz cap : Nat} {p : Addr} {xs : List (List AV)} (hx : evo (look E.sl) x = some (.row k)) (hy : evo (look E.sl) y = some (.lit (.slice (some p) 0 cap))) (hk : look E.ob k = some (.row e sz xs)) (hd' : look E.ob d = none) (hp : d ∉ Γ.par)
    (ht : G.T.kind t = .slice e) (he : (G.T.kind e).known = true) (hsz : G.T.size e = sz) (h0 : 0 < sz) (hsmall : xs.length * G.T.bytes e ≤ 140737488355328) (hb : 0 < G.T.bytes e) (hd : ∀ d, dst = some d → d < E.n) :
    OpS G Γ ⟨dst, .call { callee := .builtin .append, args := #[x, y], argTypes := #[t, t] }, ty, pos, aft, gd⟩ E (.row d) [(d, .row e sz xs), (k, .dead)] (sl1 x ++ sl1 y) ([k, d]) :=
  OpS.turns hd fun E' hn h1 h2 S O β a w hs => by
    have hk' := (h2 k (by simp)).trans hk
    have hdn := (h2 d (by simp)).trans hd'
    obtain ⟨l, hl, hxe⟩ := (hs.ev ((evo_congr fun t ht => h1 t (by simp [ht])).trans hx)).row_inv
    have hye := hs.lit ((evo_congr fun t ht => h1 t (by simp [ht])).trans hy)
    have hz : Src S w (a.eval y) sz [] [] := ⟨by simp, by simp, by simp, by simp, .inr (.inl ⟨p, cap, hye, rfl⟩)⟩
    have hsm : xs.length + ([] : List (List AV)).length ≤ maxSl := by
      have : xs.length ≤ xs.length * G.T.bytes e := Nat.le_mul_of_pos_right _ hb
      simp only [maxSl, List.length_nil]; omega
    obtain ⟨l', w', N, hrun, hfr, hN, ho⟩ := run_app hs hk' hdn ht he hsz h0 (by simpa using hsmall) hsm hl hz ty
    rw [List.append_nil] at ho
    refine ⟨l'.slice, w', S, _, _, .inl ?_, .row d l' (addB_same _ _ _), hs.rebind hk' hdn hp hfr hN l' _ ho⟩
    simp [execOp, resolve, invoke, builtin, hxe, hrun]
end

section
variable {G : Prg} {Γ : Ctx} {ops : Array Oper} {fin : List Lg → Prop} {K : Env → Prop} {os : List Oper} {log : List Lg} {sl : List (Nat × AV)} {ob : List (Nat × AO)} {nn : Nat} {d : Nat} {ty : TypeId} {pos : String} {aft : Array Edge} {gd : Option (Nat × Bool)}
theorem u_eqlNil {t e yt : TypeId} {x y : Operand} {p : Option Addr} {n c : Nat} (hx : evo (look sl) x = some (.lit (.slice p n c))) (hy : evo (look sl) y = some (.lit (.slice none 0 0))) (ht : G.T.kind t = .slice e) (hd : Nat.blt d nn = true) (hg : GOk ops sl nn gd)
    (kk' : VR G Γ ops fin K os (log ++ [⟨some d, gsl ops gd ++ (sl1 x ++ sl1 y), [], []⟩]) ⟨(d, .lit (.bool p.isNone)) :: sl, ob, nn⟩) : VR G Γ ops fin K (⟨some d, .binOp .eql t x y yt, ty, pos, aft, gd⟩ :: os) log ⟨sl, ob, nn⟩ :=
  u_op (op_eqlNil (G := G) (Γ := Γ) (E := ⟨sl, ob, nn⟩) (dst := some d) (ty := ty) (pos := pos) (aft := aft) (gd := gd) hx hy ht (dlt hd)) hg kk'
theorem u_eqlNilC {t e yt : TypeId} {x y : Operand} {sz : Nat} {u : List AV} {us : List (List AV)} (hx : evo (look sl) x = some (.shr sz (u :: us))) (hy : evo (look sl) y = some (.lit (.slice none 0 0))) (ht : G.T.kind t = .slice e) (hd : Nat.blt d nn = true) (hg : GOk ops sl nn gd)
    (kk' : VR G Γ ops fin K os (log ++ [⟨some d, gsl ops gd ++ (sl1 x ++ sl1 y), [], []⟩]) ⟨(d, .lit (.bool false)) :: sl, ob, nn⟩) : VR G Γ ops fin K (⟨some d, .binOp .eql t x y yt, ty, pos, aft, gd⟩ :: os) log ⟨sl, ob, nn⟩ :=
  u_op (op_eqlNilC (G := G) (Γ := Γ) (E := ⟨sl, ob, nn⟩) (dst := some d) (ty := ty) (pos := pos) (aft := aft) (gd := gd) hx hy ht (dlt hd)) hg kk'
theorem u_append0 {t e : TypeId} {x y : Operand} {k sz m B cap : Nat} {p : Addr} (dk : Nat) {xs : List (List AV)} (hx : evo (look sl) x = some (.row k)) (hy : evo (look sl) y = some (.lit (.slice (some p) 0 cap))) (hk : look ob k = some (.row e sz xs)) (hd' : look ob dk = none) (hp : dk ∉ Γ.par) (ht : G.T.kind t = .slice e) (he : (G.T.kind e).known = true) (hsz : G.T.size e = sz) (h0 : sz = m + 1) (hB : G.T.bytes e = B + 1) (hsm : xs.length * (B + 1) ≤ 140737488355328) (hd : Nat.blt d nn = true) (hg : GOk ops sl nn gd)
    (kk' : VR G Γ ops fin K os (log ++ [⟨some d, gsl ops gd ++ (sl1 x ++ sl1 y), [k, dk], [dk, k]⟩]) ⟨(d, .row dk) :: sl, (dk, .row e sz xs) :: (k, .dead) :: ob, nn⟩) : VR G Γ ops fin K (⟨some d, .call { callee := .builtin .append, args := #[x, y], argTypes := #[t, t] }, ty, pos, aft, gd⟩ :: os) log ⟨sl, ob, nn⟩ :=
  u_op (op_append0 (G := G) (Γ := Γ) (E := ⟨sl, ob, nn⟩) (dst := some d) (ty := ty) (pos := pos) (aft := aft) (gd := gd) hx hy hk hd' hp ht he hsz (by omega) (by rw [hB]; exact hsm) (by omega) (dlt hd)) hg kk'
end

/-- A contract for a slice that may be nil, out of three. -/
theorem VFun.nilcase {G : Prg} {f : FuncId} {sz : Nat} {xs : List (List AV)} {res : AV} {ob1 : List (Nat × AO)} (h1 : xs = [] → VFun G f [.lit (.slice none 0 0)] [] res ob1) (h2 : ∀ u us, xs = u :: us → VFun G f [.shr sz (u :: us)] [] res ob1)
    (h3 : xs = [] → ∀ (p : Addr) (cap : Nat), VFun G f [.lit (.slice (some p) 0 cap)] [] res ob1) : VFun G f [.shr sz xs] [] res ob1 := by
  have hcal : ∃ fn, G.P.funcs[f]? = some fn ∧ (fn.name == "runtime.NumGoroutine") = false ∧ fn.body.isNone = false := by
    cases xs with
    | nil => exact (h1 rfl).1
    | cons u us => exact (h2 u us rfl).1
  refine ⟨hcal, fun S O β w vs hH hA => ?_⟩
  cases xs with
  | cons u us => exact (h2 u us rfl).2 S O β w vs hH hA
  | nil =>
    cases hA with
    | cons hv hr =>
      cases hr
      rcases hv.shr_inv with ⟨rfl, _⟩ | ⟨p, rfl, _⟩ | ⟨b, off, cap, f', rfl, _⟩
      · exact (h1 rfl).2 S O β w _ hH (.cons (.pure _ _ (.lit _ rfl)) .nil)
      · exact (h3 rfl p 0).2 S O β w _ hH (.cons (.pure _ _ (.lit _ rfl)) .nil)
      · exact (h3 rfl ⟨b, off, none⟩ cap).2 S O β w _ hH (.cons (.pure _ _ (.lit _ rfl)) .nil)
end Go.Vc
