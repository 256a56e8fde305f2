/- Numbers, texts, conversions, lengths, literals of structs. -/
import Derived.Test.YtaadloihphpdbaaVcOps2
set_option linter.unusedSimpArgs false
set_option linter.unusedVariables false
namespace Go.Vc
open Go Go.RowKit

section
variable {G : Prg} {Γ : Ctx} {E : Env} {dst : Option Tmp} {ty : TypeId} {pos : String} {aft : Array Edge} {gd : Option (Nat × Bool)}

/-- A binary operation on literals. -/
theorem op_bin {op : BinOp} {t yt : TypeId} {x y : Operand} {u v r : Value} (hx : evo (look E.sl) x = some (.lit u)) (hy : evo (look E.sl) y = some (.lit v))
    (hr : ∀ w, (do eqGuard op t x y u v; binOp op t u v : Sem Value).run G.P w = .ok r w) (ho : r.oneCell' = true) (hd : ∀ d, dst = some d → d < E.n) : OpS G Γ ⟨dst, .binOp op t x y yt, ty, pos, aft, gd⟩ E (.lit r) [] (sl1 x ++ sl1 y) [] :=
  OpS.val hd fun E' hn h1 h2 S O β a w hs => by
    have hxe := hs.lit ((evo_congr fun t ht => h1 t (by simp [ht])).trans hx)
    have hye := hs.lit ((evo_congr fun t ht => h1 t (by simp [ht])).trans hy)
    refine ⟨r, ?_, .pure _ _ (.lit _ ho)⟩
    have := hr w
    simp only [execOp, hxe, hye]
    rw [Sem.run_bind, this]
    rfl

def i64 (n : Int) : Value := .int .i64 n

/-- Within int's range. -/
def inI (n : Int) : Prop := -9223372036854775808 ≤ n ∧ n ≤ 9223372036854775807

theorem wrap_inI {n : Int} (h : inI n) : IntKind.i64.wrap n = n := by
  unfold inI at h
  rw [IntKind.wrap_i64]; omega

section
variable {t yt : TypeId} {x y : Operand} {k : IntKind} {m n : Int} (hx : evo (look E.sl) x = some (.lit (.int k m))) (hy : evo (look E.sl) y = some (.lit (.int k n))) (hd : ∀ d, dst = some d → d < E.n)
include hx hy hd
theorem op_eql : OpS G Γ ⟨dst, .binOp .eql t x y yt, ty, pos, aft, gd⟩ E (.lit (.bool (m == n))) [] (sl1 x ++ sl1 y) [] := op_bin hx hy (fun w => by simp [eqGuard_at_int, binOp_eql]) rfl hd
theorem op_neq : OpS G Γ ⟨dst, .binOp .neq t x y yt, ty, pos, aft, gd⟩ E (.lit (.bool (m != n))) [] (sl1 x ++ sl1 y) [] := op_bin hx hy (fun w => by simp [eqGuard_at_int, binOp_neq]) rfl hd
theorem op_lss : OpS G Γ ⟨dst, .binOp .lss t x y yt, ty, pos, aft, gd⟩ E (.lit (.bool (decide (m < n)))) [] (sl1 x ++ sl1 y) [] := op_bin hx hy (fun w => by simp [eqGuard_at_int, binOp_lss]) rfl hd
theorem op_leq : OpS G Γ ⟨dst, .binOp .leq t x y yt, ty, pos, aft, gd⟩ E (.lit (.bool (decide (m ≤ n)))) [] (sl1 x ++ sl1 y) [] := op_bin hx hy (fun w => by simp [eqGuard_at_int, binOp_leq]) rfl hd
theorem op_gtr : OpS G Γ ⟨dst, .binOp .gtr t x y yt, ty, pos, aft, gd⟩ E (.lit (.bool (decide (n < m)))) [] (sl1 x ++ sl1 y) [] := op_bin hx hy (fun w => by simp [eqGuard_at_int, binOp_gtr]) rfl hd
theorem op_geq : OpS G Γ ⟨dst, .binOp .geq t x y yt, ty, pos, aft, gd⟩ E (.lit (.bool (decide (n ≤ m)))) [] (sl1 x ++ sl1 y) [] := op_bin hx hy (fun w => by simp [eqGuard_at_int, binOp_geq]) rfl hd
theorem op_add : OpS G Γ ⟨dst, .binOp .add t x y yt, ty, pos, aft, gd⟩ E (.lit (.int k (k.wrap (m + n)))) [] (sl1 x ++ sl1 y) [] := op_bin hx hy (fun w => by simp [eqGuard_at_int, binOp_add, Op.intArith]) rfl hd
theorem op_sub : OpS G Γ ⟨dst, .binOp .sub t x y yt, ty, pos, aft, gd⟩ E (.lit (.int k (k.wrap (m - n)))) [] (sl1 x ++ sl1 y) [] := op_bin hx hy (fun w => by simp [eqGuard_at_int, binOp_sub, Op.intArith]) rfl hd
theorem op_mul : OpS G Γ ⟨dst, .binOp .mul t x y yt, ty, pos, aft, gd⟩ E (.lit (.int k (k.wrap (m * n)))) [] (sl1 x ++ sl1 y) [] := op_bin hx hy (fun w => by simp [eqGuard_at_int, binOp_mul, Op.intArith]) rfl hd
theorem op_quo (h0 : n ≠ 0) : OpS G Γ ⟨dst, .binOp .quo t x y yt, ty, pos, aft, gd⟩ E (.lit (.int k (k.wrap (m.tdiv n)))) [] (sl1 x ++ sl1 y) [] := op_bin hx hy (fun w => by simp [eqGuard_at_int, binOp_quo, Op.intDiv, h0]) rfl hd
theorem op_rem (h0 : n ≠ 0) : OpS G Γ ⟨dst, .binOp .rem t x y yt, ty, pos, aft, gd⟩ E (.lit (.int k (m.tmod n))) [] (sl1 x ++ sl1 y) [] := op_bin hx hy (fun w => by simp [eqGuard_at_int, binOp_rem, Op.intDiv, h0]) rfl hd
theorem op_and : OpS G Γ ⟨dst, .binOp .and t x y yt, ty, pos, aft, gd⟩ E (.lit (.int k (bits .and k m n))) [] (sl1 x ++ sl1 y) [] := op_bin hx hy (fun w => by simp [eqGuard_at_int, binOp_and, intBits_and]) rfl hd
theorem op_xor : OpS G Γ ⟨dst, .binOp .xor t x y yt, ty, pos, aft, gd⟩ E (.lit (.int k (bits .xor k m n))) [] (sl1 x ++ sl1 y) [] := op_bin hx hy (fun w => by simp [eqGuard_at_int, binOp_xor, intBits_xor]) rfl hd
end

theorem op_addI {t yt : TypeId} {x y : Operand} {m n : Int} (hx : evo (look E.sl) x = some (.lit (.int .i64 m))) (hy : evo (look E.sl) y = some (.lit (.int .i64 n))) (hr : inI (m + n)) (hd : ∀ d, dst = some d → d < E.n) :
    OpS G Γ ⟨dst, .binOp .add t x y yt, ty, pos, aft, gd⟩ E (.lit (.int .i64 (m + n))) [] (sl1 x ++ sl1 y) [] := by
  have := op_add (G := G) (Γ := Γ) (ty := ty) (pos := pos) (aft := aft) (gd := gd) (t := t) (yt := yt) hx hy hd
  rwa [wrap_inI hr] at this
theorem op_subI {t yt : TypeId} {x y : Operand} {m n : Int} (hx : evo (look E.sl) x = some (.lit (.int .i64 m))) (hy : evo (look E.sl) y = some (.lit (.int .i64 n))) (hr : inI (m - n)) (hd : ∀ d, dst = some d → d < E.n) :
    OpS G Γ ⟨dst, .binOp .sub t x y yt, ty, pos, aft, gd⟩ E (.lit (.int .i64 (m - n))) [] (sl1 x ++ sl1 y) [] := by
  have := op_sub (G := G) (Γ := Γ) (ty := ty) (pos := pos) (aft := aft) (gd := gd) (t := t) (yt := yt) hx hy hd
  rwa [wrap_inI hr] at this
theorem op_mulI {t yt : TypeId} {x y : Operand} {m n : Int} (hx : evo (look E.sl) x = some (.lit (.int .i64 m))) (hy : evo (look E.sl) y = some (.lit (.int .i64 n))) (hr : inI (m * n)) (hd : ∀ d, dst = some d → d < E.n) :
    OpS G Γ ⟨dst, .binOp .mul t x y yt, ty, pos, aft, gd⟩ E (.lit (.int .i64 (m * n))) [] (sl1 x ++ sl1 y) [] := by
  have := op_mul (G := G) (Γ := Γ) (ty := ty) (pos := pos) (aft := aft) (gd := gd) (t := t) (yt := yt) hx hy hd
  rwa [wrap_inI hr] at this
theorem op_shr {t yt : TypeId} {x y : Operand} {k yk : IntKind} {m n : Int} (hx : evo (look E.sl) x = some (.lit (.int k m))) (hy : evo (look E.sl) y = some (.lit (.int yk n))) (h0 : 0 ≤ n) (hd : ∀ d, dst = some d → d < E.n) :
    OpS G Γ ⟨dst, .binOp .shr t x y yt, ty, pos, aft, gd⟩ E (.lit (.int k (m.fdiv (2 ^ (min n.toNat k.bits))))) [] (sl1 x ++ sl1 y) [] :=
  op_bin hx hy (fun w => by
    have : ¬ n < 0 := by omega
    simp [eqGuard_at_int, binOp_shr, Op.shift, this]) rfl hd

theorem run_equalIn_bool (d : Nat) {t : TypeId} (ht : G.P.underlying t = some .bool) (m n : Bool) (w : World) : (Op.equalIn (d + 1) t (.bool m) (.bool n)).run G.P w = .ok (m == n) w := by
  simp [Op.equalIn, run_underlying ht]
theorem run_equal_bool {t : TypeId} (ht : G.P.underlying t = some .bool) (m n : Bool) (w : World) : (Op.equal t (.bool m) (.bool n)).run G.P w = .ok (m == n) w :=
  run_equalIn_bool 9999 ht m n w

section
variable {t yt : TypeId} {x y : Operand} {m n : Bool} (hx : evo (look E.sl) x = some (.lit (.bool m))) (hy : evo (look E.sl) y = some (.lit (.bool n))) (ht : G.T.kind t = .bool) (hd : ∀ d, dst = some d → d < E.n)
include hx hy ht hd
theorem op_eqlB : OpS G Γ ⟨dst, .binOp .eql t x y yt, ty, pos, aft, gd⟩ E (.lit (.bool (m == n))) [] (sl1 x ++ sl1 y) [] :=
  op_bin hx hy (fun w => by simp [eqGuard_at_bool, binOp, run_equal_bool (underlying_bool G.ok ht)]) rfl hd
theorem op_neqB : OpS G Γ ⟨dst, .binOp .neq t x y yt, ty, pos, aft, gd⟩ E (.lit (.bool (m != n))) [] (sl1 x ++ sl1 y) [] :=
  op_bin hx hy (fun w => by simp [eqGuard_at_bool, binOp, run_equal_bool (underlying_bool G.ok ht)]; cases m <;> cases n <;> rfl) rfl hd
end

section
variable {t yt : TypeId} {x y : Operand} {m n : ByteArray} (hx : evo (look E.sl) x = some (.lit (.string m))) (hy : evo (look E.sl) y = some (.lit (.string n))) (hd : ∀ d, dst = some d → d < E.n)
include hx hy hd
theorem op_eqlT : OpS G Γ ⟨dst, .binOp .eql t x y yt, ty, pos, aft, gd⟩ E (.lit (.bool (m.toList == n.toList))) [] (sl1 x ++ sl1 y) [] :=
  op_bin hx hy (fun w => by simp [eqGuard_at_string, binOp, Op.stringOp]) rfl hd
theorem op_neqT : OpS G Γ ⟨dst, .binOp .neq t x y yt, ty, pos, aft, gd⟩ E (.lit (.bool (!(m.toList == n.toList)))) [] (sl1 x ++ sl1 y) [] :=
  op_bin hx hy (fun w => by simp [eqGuard_at_string, binOp, Op.stringOp]) rfl hd
theorem op_addT (hl : m.size + n.size ≤ 9223372036854775807) : OpS G Γ ⟨dst, .binOp .add t x y yt, ty, pos, aft, gd⟩ E (.lit (.string (m ++ n))) [] (sl1 x ++ sl1 y) [] :=
  op_bin hx hy (fun w => by
    have : ¬ ((m.size + n.size : Nat) : Int) > 9223372036854775807 := by omega
    have h' : ¬ ((m.size : Int) + (n.size : Int) > 9223372036854775807) := by omega
    simp [eqGuard_at_string, binOp, Op.stringOp, h']) rfl hd
end

theorem op_convI {s d' : TypeId} {x : Operand} {k k' : IntKind} {n : Int} (hx : evo (look E.sl) x = some (.lit (.int k n))) (hs : (G.T.kind s).known = true) (hk : G.T.kind d' = .int k') (hd : ∀ d, dst = some d → d < E.n) :
    OpS G Γ ⟨dst, .convert s d' x, ty, pos, aft, gd⟩ E (.lit (.int k' (k'.wrap n))) [] (sl1 x) [] :=
  OpS.val hd fun E' hn h1 h2 S O β a w hs' => by
    have hxe := hs'.lit ((evo_congr h1).trans hx)
    refine ⟨.int k' (k'.wrap n), ?_, .pure _ _ (.lit _ rfl)⟩
    have hu : ∃ d, G.P.underlying s = some d := by
      have := (G.ok s hs).1
      cases hk : G.T.kind s with
      | other => rw [hk] at hs; cases hs
      | struct l => rw [hk] at this; obtain ⟨fs, hu, _⟩ := this; exact ⟨_, hu⟩
      | fn => rw [hk] at this; obtain ⟨_, _, _, hu⟩ := this; exact ⟨_, hu⟩
      | _ => rw [hk] at this; exact ⟨_, this⟩
    obtain ⟨du, hu⟩ := hu
    simp [execOp, hxe, convert, run_underlying hu, run_underlying (underlying_int G.ok hk), Conv.intToInt]

/-- The bytes of a text, as cells. -/
def byteCells (bs : List UInt8) : List (List AV) := bs.map fun b => [.lit (.int .u8 b.toNat)]

theorem op_len {t : TypeId} {x : Operand} {sz : Nat} {xs : List (List AV)} {e : TypeId} (hx : evo (look E.sl) x = some (.shr sz xs)) (ht : G.T.kind t = .slice e) (hd : ∀ d, dst = some d → d < E.n) :
    OpS G Γ ⟨dst, .call { callee := .builtin .len, args := #[x], argTypes := #[t] }, ty, pos, aft, gd⟩ E (.lit (.int .i64 xs.length)) [] (sl1 x) [] :=
  OpS.val hd fun E' hn h1 h2 S O β a w hs => by
    rcases (hs.ev ((evo_congr h1).trans hx)).shr_inv with ⟨hxe, rfl⟩ | ⟨_, hxe, rfl⟩ | ⟨b, o, cap, g, hxe, _⟩
    · exact ⟨.int .i64 0, by simp [execOp, resolve, invoke, builtin, hxe, Builtin.len_, run_underlying (underlying_slice G.ok ht), goInt], .pure _ _ (.lit _ rfl)⟩
    · exact ⟨.int .i64 0, by simp [execOp, resolve, invoke, builtin, hxe, Builtin.len_, run_underlying (underlying_slice G.ok ht), goInt], .pure _ _ (.lit _ rfl)⟩
    · exact ⟨.int .i64 xs.length, by simp [execOp, resolve, invoke, builtin, hxe, Builtin.len_, run_underlying (underlying_slice G.ok ht), goInt], .pure _ _ (.lit _ rfl)⟩

theorem op_lenNil {t : TypeId} {x : Operand} {e : TypeId} (hx : evo (look E.sl) x = some (.lit (.slice none 0 0))) (ht : G.T.kind t = .slice e) (hd : ∀ d, dst = some d → d < E.n) :
    OpS G Γ ⟨dst, .call { callee := .builtin .len, args := #[x], argTypes := #[t] }, ty, pos, aft, gd⟩ E (.lit (.int .i64 0)) [] (sl1 x) [] :=
  OpS.val hd fun E' hn h1 h2 S O β a w hs => by
    have hxe := hs.lit ((evo_congr h1).trans hx)
    exact ⟨.int .i64 0, by simp [execOp, resolve, invoke, builtin, hxe, Builtin.len_, run_underlying (underlying_slice G.ok ht), goInt], .pure _ _ (.lit _ rfl)⟩

theorem op_lenR {t : TypeId} {x : Operand} {k sz : Nat} {xs : List (List AV)} {e e' : TypeId} (hx : evo (look E.sl) x = some (.row k)) (hk : look E.ob k = some (.row e' sz xs)) (ht : G.T.kind t = .slice e) (hd : ∀ d, dst = some d → d < E.n) :
    OpS G Γ ⟨dst, .call { callee := .builtin .len, args := #[x], argTypes := #[t] }, ty, pos, aft, gd⟩ E (.lit (.int .i64 xs.length)) [] (sl1 x) [k] :=
  OpS.val hd fun E' hn h1 h2 S O β a w hs => by
    obtain ⟨l, hl, hxe⟩ := (hs.ev ((evo_congr h1).trans hx)).row_inv
    have hlen : l.slice = .slice (match l with | .nil => none | .at b _ _ => some ⟨b, 0, none⟩) xs.length (match l with | .nil => 0 | .at _ c _ => c) := by
      obtain ⟨_, _, hr⟩ := hs.h.objs k _ ((h2 k (by simp)).trans hk)
      rcases hr with ⟨h5, rfl⟩ | ⟨b, cap, vs, h5, _⟩
      · rw [hl] at h5; cases h5; rfl
      · rw [hl] at h5; cases h5; rfl
    exact ⟨.int .i64 xs.length, by simp [execOp, resolve, invoke, builtin, hxe, hlen, Builtin.len_, run_underlying (underlying_slice G.ok ht), goInt], .pure _ _ (.lit _ rfl)⟩

theorem op_lenT {t : TypeId} {x : Operand} {s : ByteArray} (hx : evo (look E.sl) x = some (.lit (.string s))) (ht : G.T.kind t = .str) (hd : ∀ d, dst = some d → d < E.n) :
    OpS G Γ ⟨dst, .call { callee := .builtin .len, args := #[x], argTypes := #[t] }, ty, pos, aft, gd⟩ E (.lit (.int .i64 s.size)) [] (sl1 x) [] :=
  OpS.val hd fun E' hn h1 h2 S O β a w hs => by
    have hxe := hs.lit ((evo_congr h1).trans hx)
    exact ⟨.int .i64 s.size, by simp [execOp, resolve, invoke, builtin, hxe, Builtin.len_, run_underlying (underlying_str G.ok ht), goInt], .pure _ _ (.lit _ rfl)⟩

theorem op_indexT {t : TypeId} {x y : Operand} {s : ByteArray} {kk : IntKind} {z : Int} {i : Nat} {b : UInt8} (hx : evo (look E.sl) x = some (.lit (.string s))) (hy : evo (look E.sl) y = some (.lit (.int kk z))) (ht : G.T.kind t = .str) (hz : z = i) (hb : s[i]? = some b) (hd : ∀ d, dst = some d → d < E.n) :
    OpS G Γ ⟨dst, .index t x y, ty, pos, aft, gd⟩ E (.lit (.int .u8 b.toNat)) [] (sl1 x ++ sl1 y) [] :=
  OpS.val hd fun E' hn h1 h2 S O β a w hs => by
    have hxe := hs.lit ((evo_congr fun t ht => h1 t (by simp [ht])).trans hx)
    have hye := hs.lit ((evo_congr fun t ht => h1 t (by simp [ht])).trans hy)
    refine ⟨.int .u8 b.toNat, ?_, .pure _ _ (.lit _ rfl)⟩
    simp [execOp, hxe, hye, Instr.index, run_underlying (underlying_str G.ok ht), asIntOf, hz, hb]

theorem op_field1 {s : TypeId} {x : Operand} {f off : Nat} {cs : List AV} {fs : List (Nat × TypeId)} {ft : TypeId} {v : AV} (hx : evo (look E.sl) x = some (.agg cs)) (hs : G.T.kind s = .struct fs) (hf : fs[f]? = some (off, ft)) (ht : (G.T.kind ft).known = true) (ha : (G.T.kind ft).agg = false)
    (hv : cs[off]? = some v) (hd : ∀ d, dst = some d → d < E.n) : OpS G Γ ⟨dst, .field s x f, ty, pos, aft, gd⟩ E v [] (sl1 x) [] :=
  OpS.val hd fun E' hn h1 h2 S O β a w hs' => by
    obtain ⟨vs, hxe, hl, hr, _⟩ := (hs'.ev ((evo_congr h1).trans hx)).agg_inv
    obtain ⟨gs, hu, hg⟩ := underlying_struct G.ok hs
    obtain ⟨fl, h3, h4, h5⟩ := field_of hf hg
    have hlt : off < cs.length := (List.getElem?_eq_some_iff.1 hv).1
    have hi : vs[off]? = some vs[off] := List.getElem?_eq_getElem (by omega)
    exact ⟨vs[off], by simp [execOp, hxe, Instr.field, run_underlying hu, h3, asAgg, part, h5, run_isAgg G.ok w ht, ha, h4, hi], hr off v _ hv hi⟩

theorem op_fieldN {s : TypeId} {x : Operand} {f off : Nat} {cs : List AV} {fs : List (Nat × TypeId)} {ft : TypeId} (hx : evo (look E.sl) x = some (.agg cs)) (hs : G.T.kind s = .struct fs) (hf : fs[f]? = some (off, ft)) (ht : (G.T.kind ft).known = true) (ha : (G.T.kind ft).agg = true)
    (hv : off + G.T.size ft ≤ cs.length) (hd : ∀ d, dst = some d → d < E.n) : OpS G Γ ⟨dst, .field s x f, ty, pos, aft, gd⟩ E (.agg ((cs.drop off).take (G.T.size ft))) [] (sl1 x) [] :=
  OpS.val hd fun E' hn h1 h2 S O β a w hs' => by
    obtain ⟨vs, hxe, hl, hr, ho⟩ := (hs'.ev ((evo_congr h1).trans hx)).agg_inv
    obtain ⟨gs, hu, hg⟩ := underlying_struct G.ok hs
    obtain ⟨fl, h3, h4, h5⟩ := field_of hf hg
    refine ⟨.agg ((vs.drop off).take (G.T.size ft)).toArray, ?_, .agg _ _ (by simp; omega) (fun j c x hc hx => ?_) (fun x hx => ho x (List.mem_of_mem_drop (List.mem_of_mem_take hx)))⟩
    · simp [execOp, hxe, Instr.field, run_underlying hu, h3, asAgg, part, h5, run_isAgg G.ok w ht, ha, h4, run_sizeOf G.ok w ht, List.extract_eq_take_drop]
    · rw [List.getElem?_take] at hc hx
      split at hc
      · rename_i hj
        rw [if_pos hj, List.getElem?_drop] at hx
        rw [List.getElem?_drop] at hc
        exact hr (off + j) c x hc hx
      · cases hc
end
end Go.Vc
