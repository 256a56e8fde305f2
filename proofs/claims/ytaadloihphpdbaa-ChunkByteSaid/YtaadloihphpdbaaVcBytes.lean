/- Bytes: more of what is done with them. -/
import Derived.Laws.Strings
import Derived.Test.YtaadloihphpdbaaVcCall2
set_option linter.unusedVariables false
set_option linter.unusedSimpArgs false
namespace Go.Vc
open Go Go.RowKit

section
variable {G : Prg} {Γ : Ctx} {E : Env} {dst : Option Tmp} {ty : TypeId} {pos : String} {aft : Array Edge} {gd : Option (Nat × Bool)}
theorem op_convTR {s t e e' : TypeId} {x : Operand} {k : Nat} {bs : List UInt8} {ys : List (List AV)} (hx : evo (look E.sl) x = some (.row k)) (hk : look E.ob k = some (.row e' 1 ys)) (hy : ys = byteCells bs) (hs' : G.T.kind s = .slice e) (he : G.T.kind e = .int .u8) (ht : G.T.kind t = .str) (hd : ∀ d, dst = some d → d < E.n) :
    OpS G Γ ⟨dst, .convert s t x, ty, pos, aft, gd⟩ E (.lit (.string ⟨bs.toArray⟩)) [] (sl1 x) [k] :=
  OpS.val hd fun E' hn h1 h2 S O β a w hs => by
    subst hy
    have hv := hs.ev ((evo_congr h1).trans hx)
    obtain ⟨l, hl, hxe0⟩ := hv.row_inv
    have hsh : VRep (wkS S O (fun j => j = k)) β w (.shr 1 (byteCells bs)) (a.eval x) := by
      rw [hxe0]; exact .pure _ _ (frozen_row (fz := fun j => j = k) hs.h ((h2 k (by simp)).trans hk) rfl hl)
    refine ⟨.string ⟨bs.toArray⟩, ?_, .pure _ _ (.lit _ rfl)⟩
    rcases hsh.shr_inv with ⟨hxe, hnil⟩ | ⟨p, hxe, hnil⟩ | ⟨b, off, cap, f, hxe, hb, hcap, hm, hl, hc, hp⟩
    · have hbs : bs = [] := by simpa [byteCells] using hnil
      subst hbs
      have := run_convert_bytes_string (P := G.P) w s t e none 0 0 (underlying_slice G.ok hs') (underlying_int G.ok he) (underlying_str G.ok ht)
      simp only [execOp, hxe, Sem.run_bind, this]
      rfl
    · have hbs : bs = [] := by simpa [byteCells] using hnil
      subst hbs
      have := run_convert_bytes_string (P := G.P) w s t e (some p) 0 0 (underlying_slice G.ok hs') (underlying_int G.ok he) (underlying_str G.ok ht)
      simp only [execOp, hxe, Sem.run_bind, this]
      rfl
    · have hlen : (byteCells bs).length = bs.length := by simp [byteCells]
      have hf : ∀ (i : Nat) (u : UInt8), bs[i]? = some u → w.cell? ⟨b, off + i, none⟩ = some (.int .u8 (u.toNat : Int)) := by
        intro i u hu
        have hu' : (byteCells bs)[i]? = some [.lit (.int .u8 u.toNat)] := by simp [byteCells, hu]
        have h3 := hc i _ 0 _ hu' rfl
        have h4 := hp i _ 0 _ hu' rfl
        generalize f i 0 = y at h3 h4
        cases h4 with
        | lit _ _ => simpa using h3
      have hL := run_loadCells_list (P := G.P) w ⟨b, off, none⟩ (bs.map fun u => (Value.int .u8 (u.toNat : Int))) (fun j v hj => by
        rw [add_none]
        rw [List.getElem?_map] at hj
        cases hq : bs[j]? with
        | none => rw [hq] at hj; cases hj
        | some u => rw [hq] at hj; simp at hj; subst hj; exact hf j u hq)
      have hb2 := run_bytesToString (P := G.P) w ⟨b, off, none⟩ bs.length cap (bs.map fun u => ((u.toNat : Nat) : Int)) (by rw [List.map_map]; rw [List.length_map] at hL; exact hL)
      have := run_convert_bytes_string (P := G.P) w s t e (some ⟨b, off, none⟩) bs.length cap (underlying_slice G.ok hs') (underlying_int G.ok he) (underlying_str G.ok ht)
      rw [foldl_push] at hb2
      have e0 : (ByteArray.empty.data.toList ++ bs).toArray = bs.toArray := by
        have : ByteArray.empty.data.toList = [] := rfl
        rw [this, List.nil_append]
      rw [e0] at hb2
      simp only [execOp, hxe, hlen, Sem.run_bind, this, hb2, Result.andThen_ok]
      rfl
end

section
variable {G : Prg} {Γ : Ctx} {ops : Array Oper} {fin : List Lg → Prop} {K : Env → Prop} {os : List Oper} {log : List Lg} {sl : List (Nat × AV)} {ob : List (Nat × AO)} {nn : Nat} {d : Nat} {ty : TypeId} {pos : String} {aft : Array Edge} {gd : Option (Nat × Bool)}
theorem u_convTR {s t e e' : TypeId} {x : Operand} {k : Nat} {bs : List UInt8} {ys : List (List AV)} (hx : evo (look sl) x = some (.row k)) (hk : look ob k = some (.row e' 1 ys)) (hy : ys = byteCells bs) (hs' : G.T.kind s = .slice e) (he : G.T.kind e = .int .u8) (ht : G.T.kind t = .str) (hd : Nat.blt d nn = true) (hg : GOk ops sl nn gd)
    (kk' : VR G Γ ops fin K os (log ++ [⟨some d, gsl ops gd ++ (sl1 x), [k], []⟩]) ⟨(d, .lit (.string ⟨bs.toArray⟩)) :: sl, ob, nn⟩) : VR G Γ ops fin K (⟨some d, .convert s t x, ty, pos, aft, gd⟩ :: os) log ⟨sl, ob, nn⟩ :=
  u_op (op_convTR (G := G) (Γ := Γ) (E := ⟨sl, ob, nn⟩) (dst := some d) (ty := ty) (pos := pos) (aft := aft) (gd := gd) hx hk hy hs' he ht (dlt hd)) hg kk'
theorem u_convUp {s d' : TypeId} {x : Operand} {n : Int} (hx : evo (look sl) x = some (.lit (.int .u8 n))) (hr : inI n) (hs : (G.T.kind s).known = true) (hk : G.T.kind d' = .int .i64) (hd : Nat.blt d nn = true) (hg : GOk ops sl nn gd)
    (kk' : VR G Γ ops fin K os (log ++ [⟨some d, gsl ops gd ++ (sl1 x), [], []⟩]) ⟨(d, .lit (.int .i64 n)) :: sl, ob, nn⟩) : VR G Γ ops fin K (⟨some d, .convert s d' x, ty, pos, aft, gd⟩ :: os) log ⟨sl, ob, nn⟩ := by
  refine u_convI hx hs hk hd hg ?_
  rw [wrap_inI hr]; exact kk'
theorem u_convB {s d' : TypeId} {x : Operand} {n : Int} (hx : evo (look sl) x = some (.lit (.int .i64 n))) (hs : (G.T.kind s).known = true) (hk : G.T.kind d' = .int .u8) (hd : Nat.blt d nn = true) (hg : GOk ops sl nn gd)
    (kk' : VR G Γ ops fin K os (log ++ [⟨some d, gsl ops gd ++ (sl1 x), [], []⟩]) ⟨(d, .lit (.int .u8 (n % 256))) :: sl, ob, nn⟩) : VR G Γ ops fin K (⟨some d, .convert s d' x, ty, pos, aft, gd⟩ :: os) log ⟨sl, ob, nn⟩ := by
  refine u_convI hx hs hk hd hg ?_
  rw [show IntKind.u8.wrap n = n % 256 by rw [IntKind.wrap_u8]]; exact kk'
theorem u_shr8 {t yt : TypeId} {x y : Operand} {yk : IntKind} {m : Int} (hx : evo (look sl) x = some (.lit (.int .i64 m))) (hy : evo (look sl) y = some (.lit (.int yk 8))) (hd : Nat.blt d nn = true) (hg : GOk ops sl nn gd)
    (kk' : VR G Γ ops fin K os (log ++ [⟨some d, gsl ops gd ++ (sl1 x ++ sl1 y), [], []⟩]) ⟨(d, .lit (.int .i64 (m / 256))) :: sl, ob, nn⟩) : VR G Γ ops fin K (⟨some d, .binOp .shr t x y yt, ty, pos, aft, gd⟩ :: os) log ⟨sl, ob, nn⟩ := by
  refine u_shr hx hy (by decide) hd hg ?_
  rw [show (2 : Int) ^ (min (8 : Int).toNat IntKind.i64.bits) = 256 by decide, Int.fdiv_eq_ediv_of_nonneg m (by decide)]; exact kk'
theorem u_sliceHi {t e : TypeId} {x y : Operand} {sz : Nat} {z : Int} {xs : List (List AV)} (h : Nat) (hx : evo (look sl) x = some (.shr sz xs)) (hy : evo (look sl) y = some (.lit (.int .i64 z))) (hz : z = h) (hh : h ≤ xs.length) (ht : G.T.kind t = .slice e) (he : (G.T.kind e).known = true) (hsz : G.T.size e = sz) (hd : Nat.blt d nn = true) (hg : GOk ops sl nn gd)
    (kk' : VR G Γ ops fin K os (log ++ [⟨some d, gsl ops gd ++ (sl1 x ++ slO none ++ slO (some y)), [], []⟩]) ⟨(d, .shr sz (xs.take h)) :: sl, ob, nn⟩) : VR G Γ ops fin K (⟨some d, .slice t x none (some y) none, ty, pos, aft, gd⟩ :: os) log ⟨sl, ob, nn⟩ := by
  subst hz
  exact u_slice (lo := none) (hi := some y) (l := 0) hx rfl hy (Nat.zero_le _) hh ht he hsz hd hg kk'
theorem u_sliceLo {t e : TypeId} {x y : Operand} {sz : Nat} {z : Int} {xs : List (List AV)} (h : Nat) (hx : evo (look sl) x = some (.shr sz xs)) (hy : evo (look sl) y = some (.lit (.int .i64 z))) (hz : z = h) (hh : h ≤ xs.length) (ht : G.T.kind t = .slice e) (he : (G.T.kind e).known = true) (hsz : G.T.size e = sz) (hd : Nat.blt d nn = true) (hg : GOk ops sl nn gd)
    (kk' : VR G Γ ops fin K os (log ++ [⟨some d, gsl ops gd ++ (sl1 x ++ slO (some y) ++ slO none), [], []⟩]) ⟨(d, .shr sz (xs.drop h)) :: sl, ob, nn⟩) : VR G Γ ops fin K (⟨some d, .slice t x (some y) none none, ty, pos, aft, gd⟩ :: os) log ⟨sl, ob, nn⟩ := by
  subst hz
  refine u_slice (lo := some y) (hi := none) (l := h) (h := xs.length) hx hy rfl hh (Nat.le_refl _) ht he hsz hd hg ?_
  rw [List.take_length]; exact kk'
theorem u_storeRowE {t e : TypeId} {x y : Operand} {k sz i j : Nat} {xs ys : List (List AV)} {u : List AV} {v : AV} (hx : evo (look sl) x = some (.rptr k sz i j)) (hy : evo (look sl) y = some v) (hk : look ob k = some (.row e sz xs)) (hu : xs[i]? = some u) (hb : boxable v = true) (hP : ∀ c ∈ cellsOf v, isP c = true) (hl : (cellsOf v).length = G.T.size t) (ho : Nat.ble (j + (cellsOf v).length) sz = true) (hkn : (G.T.kind t).known = true)
    (he : xs.set i (wrA u j (cellsOf v)) = ys) (hg : GOk ops sl nn gd)
    (kk' : VR G Γ ops fin K os (log ++ [⟨none, gsl ops gd ++ (sl1 x ++ sl1 y), [k], [k]⟩]) ⟨sl, (k, .row e sz ys) :: ob, nn⟩) : VR G Γ ops fin K (⟨none, .store t x y, ty, pos, aft, gd⟩ :: os) log ⟨sl, ob, nn⟩ := by
  subst he
  exact u_storeRow hx hy hk hu hb hP hl ho hkn hg kk'
end

theorem byteCells_length (bs : List UInt8) : (byteCells bs).length = bs.length := by simp [byteCells]
theorem byteCells_append (a b : List UInt8) : byteCells (a ++ b) = byteCells a ++ byteCells b := by simp [byteCells]
theorem byteCells_take (n : Nat) (a : List UInt8) : (byteCells a).take n = byteCells (a.take n) := by simp [byteCells]
theorem byteCells_drop (n : Nat) (a : List UInt8) : (byteCells a).drop n = byteCells (a.drop n) := by simp [byteCells]
theorem byteCells_get {bs : List UInt8} {i : Nat} (h : i < bs.length) : (byteCells bs)[i]? = some [.lit (.int .u8 (bs[i]'h).toNat)] := by simp [byteCells, h]
theorem byteCells_set (bs : List UInt8) (i : Nat) (b : UInt8) : (byteCells bs).set i [.lit (.int .u8 b.toNat)] = byteCells (bs.set i b) := by
  simp [byteCells, List.map_set]
/-- The byte of a number. -/
def u8 (z : Int) : UInt8 := UInt8.ofNat (z % 256).toNat
theorem u8_toNat (z : Int) : ((u8 z).toNat : Int) = z % 256 := by
  unfold u8
  have h : (z % 256).toNat < 256 := by omega
  rw [UInt8.toNat_ofNat_of_lt' (by simpa using h)]
  omega
theorem u8_cell (z : Int) : [[AV.lit (.int .u8 (z % 256))]] = byteCells [u8 z] := by
  simp [byteCells, u8_toNat]

theorem bytesT (l : List UInt8) : (ByteArray.mk l.toArray).toList = l := by
  simp [ByteArray.toList_eq]

/-- A contract says less of its result. -/
theorem VFun.resWk {G : Prg} {f : FuncId} {args : List AV} {res res2 : AV} {ob1 ob2 : List (Nat × AO)} (h : VFun G f args [] res ob1) (ρ : Nat → Option Nat) (hk : Wk ρ [] ⟨[(0, res)], ob1, 0⟩ ⟨[(0, res2)], ob2, 0⟩) : VFun G f args [] res2 ob2 := by
  refine ⟨h.1, fun S O β w vs hH hA => (h.2 S O β w vs hH hA).mono ?_⟩
  rintro e w' ⟨x, rfl, S', O', β', hH', hx', hS1, hS2, hO', hb, hfr⟩
  obtain ⟨v, hv, hsub⟩ := hk.sl 0 res2 (by rw [look_cons, if_pos rfl])
  have hv' : v = res := by
    have : look [(0, res)] 0 = some v := hv
    rw [look_cons, if_pos rfl] at this; cases this; rfl
  subst hv'
  refine ⟨x, rfl, _, _, _, hH'.wk hk.inj (fun i j hi hj hf => hf i hi hj) hk.ob, hx'.wk hH' hsub, fun b hb => .inl (hS1 b hb), ?_, ?_, fun k hk => absurd rfl hk, hfr⟩
  · rintro b (hb | ⟨k, _, hb⟩)
    · exact hS2 b hb
    · rcases hO' k b hb with h1 | h1
      · exact .inr (.inl h1)
      · exact .inr (.inr h1)
  · rintro i b ⟨_, k, _, hb⟩
    exact hO' k b hb

/-- A row handed out is only read. -/
theorem VFun.read {G : Prg} {f : FuncId} {args : List AV} {k : Nat} {e : TypeId} {sz : Nat} {xs : List (List AV)} (h : VFun G f args [] (.row k) [(k, .row e sz xs)]) : VFun G f args [] (.shr sz xs) [] :=
  h.resWk (ren []) (mk_wk [] rfl rfl ⟨⟨_, rfl, .frz _ _ _ _ look_self (fzL rfl)⟩, trivial⟩ trivial no_par)
end Go.Vc
