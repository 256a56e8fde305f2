/- Slices of slices, bytes as a text. -/
import Derived.Test.YtaadloihphpdbaaVcOps7
import Derived.Laws.BytesString
set_option linter.unusedSimpArgs false
set_option linter.unusedVariables false
namespace Go.Vc
open Go Go.RowKit

section
variable {G : Prg} {Γ : Ctx} {E : Env} {dst : Option Tmp} {ty : TypeId} {pos : String} {aft : Array Edge} {gd : Option (Nat × Bool)}

theorem VRep.cut {S : Nat → Prop} {β : Beta} {w : World} {sz : Nat} {xs : List (List AV)} {b off cap : Nat} {f : Nat → Nat → Value} (hb : S b) (hcap : xs.length ≤ cap) (hm : xs.length ≤ maxSl)
    (hsz : ∀ (i : Nat) (x : List AV), xs[i]? = some x → x.length = sz) (hc : ∀ (i : Nat) (x : List AV) (j : Nat) (c : AV), xs[i]? = some x → x[j]? = some c → w.cell? ⟨b, off + (i * sz + j), none⟩ = some (f i j))
    (hp : ∀ (i : Nat) (x : List AV) (j : Nat) (c : AV), xs[i]? = some x → x[j]? = some c → PRep S w c (f i j)) {l h : Nat} (hlh : l ≤ h) (hh : h ≤ xs.length) :
    VRep S β w (.shr sz ((xs.take h).drop l)) (.slice (if cap = l then some ⟨b, off, none⟩ else (some ⟨b, off, none⟩ : Option Addr).map (·.add (l * sz))) (h - l) (cap - l)) := by
  have hlen : ((xs.take h).drop l).length = h - l := by rw [List.length_drop, List.length_take]; omega
  have hget : ∀ (i : Nat) (x : List AV), ((xs.take h).drop l)[i]? = some x → xs[l + i]? = some x := by
    intro i x hx
    rw [List.getElem?_drop, List.getElem?_take] at hx
    split at hx
    · exact hx
    · cases hx
  refine .pure _ _ ?_
  by_cases hcl : cap = l
  · rw [if_pos hcl]
    have hnil : (xs.take h).drop l = [] := List.eq_nil_of_length_eq_zero (by rw [hlen]; omega)
    have := PRep.shr (S := S) (w := w) sz [] b off (cap - l) (fun _ _ => undef) hb (by simp) (by simp) (by simp) (by simp) (by simp)
    rw [hnil]
    have e : h - l = 0 := by omega
    rw [e]; exact this
  · rw [if_neg hcl]
    have := PRep.shr (S := S) (w := w) sz ((xs.take h).drop l) b (off + l * sz) (cap - l) (fun i j => f (l + i) j) hb (by rw [hlen]; omega) (by rw [hlen]; omega) (fun i x hx => hsz _ x (hget i x hx))
      (fun i x j c hx hc' => by
        have := hc (l + i) x j c (hget i x hx) hc'
        rw [Nat.add_mul] at this
        rw [← this]; congr 2; omega) (fun i x j c hx hc' => hp (l + i) x j c (hget i x hx) hc')
    rw [hlen] at this
    simpa [add_none] using this

theorem run_cut {t e : TypeId} (ht : G.T.kind t = .slice e) (he : (G.T.kind e).known = true) (a : Option Addr) (len cap : Nat) (lo hi : Option Value) (l h : Nat) (hlo : lo = some (.int .i64 l) ∨ (lo = none ∧ l = 0)) (hhi : hi = some (.int .i64 h) ∨ (hi = none ∧ h = len)) (hlh : l ≤ h) (hc : h ≤ cap) (w : World) :
    (Instr.sliceAt t (.slice a len cap) lo hi none).run G.P w = .ok (.slice (if cap = l then a else a.map (·.add (l * G.T.size e))) (h - l) (cap - l)) w := by
  have h1 : (0 : Int) ≤ (l : Int) ∧ (l : Int) ≤ (h : Int) := by omega
  have h2 : (0 : Int) ≤ (h : Int) ∧ (h : Int) ≤ (cap : Int) := by omega
  rcases hlo with rfl | ⟨rfl, rfl⟩ <;> rcases hhi with rfl | ⟨rfl, rfl⟩ <;>
    simp [Instr.sliceAt, Instr.slice, run_underlying (underlying_slice G.ok ht), Instr.sliceBounds, Instr.sliceBound, asIntOf, run_sizeOf G.ok w he, hlh, hc]

def evB (sv : Nat → Option AV) : Option Operand → Nat → Nat → Prop
  | some x, _, n => evo sv x = some (.lit (.int .i64 n))
  | none, d, n => n = d

def slO : Option Operand → List Nat
  | some x => sl1 x
  | none => []

theorem op_slice {t e : TypeId} {x : Operand} {lo hi : Option Operand} {sz l h : Nat} {xs : List (List AV)} (hx : evo (look E.sl) x = some (.shr sz xs)) (hlo : evB (look E.sl) lo 0 l) (hhi : evB (look E.sl) hi xs.length h) (hlh : l ≤ h) (hh : h ≤ xs.length)
    (ht : G.T.kind t = .slice e) (he : (G.T.kind e).known = true) (hsz : G.T.size e = sz) (hd : ∀ d, dst = some d → d < E.n) : OpS G Γ ⟨dst, .slice t x lo hi none, ty, pos, aft, gd⟩ E (.shr sz ((xs.take h).drop l)) [] (sl1 x ++ slO lo ++ slO hi) [] :=
  OpS.val hd fun E' hn h1 h2 S O β a w hs => by
    have hlo' : lo.map a.eval = some (.int .i64 l) ∨ (lo.map a.eval = none ∧ l = 0) := by
      cases lo with
      | none => exact .inr ⟨rfl, hlo⟩
      | some y => exact .inl (by rw [Option.map_some, hs.lit ((evo_congr fun t ht => h1 t (by simp [slO, ht])).trans hlo)])
    have hhi' : hi.map a.eval = some (.int .i64 h) ∨ (hi.map a.eval = none ∧ h = xs.length) := by
      cases hi with
      | none => exact .inr ⟨rfl, hhi⟩
      | some y => exact .inl (by rw [Option.map_some, hs.lit ((evo_congr fun t ht => h1 t (by simp [slO, ht])).trans hhi)])
    rcases (hs.ev ((evo_congr fun t ht => h1 t (by simp [ht])).trans hx)).shr_inv with ⟨hxe, rfl⟩ | ⟨p, hxe, rfl⟩ | ⟨b, off, cap, f, hxe, hb, hcap, hm, hl, hc, hp⟩
    · have hl0 : l = 0 := by simp at hh; omega
      have hh0 : h = 0 := by simp at hh; omega
      subst hl0 hh0
      have := run_cut (G := G) ht he none 0 0 (lo.map a.eval) (hi.map a.eval) 0 0 hlo' (by simpa using hhi') (Nat.le_refl _) (Nat.le_refl _) w
      exact ⟨.slice none 0 0, by simp [execOp, hxe, this], .pure _ _ (.nil sz)⟩
    · have hl0 : l = 0 := by simp at hh; omega
      have hh0 : h = 0 := by simp at hh; omega
      subst hl0 hh0
      have := run_cut (G := G) ht he (some p) 0 0 (lo.map a.eval) (hi.map a.eval) 0 0 hlo' (by simpa using hhi') (Nat.le_refl _) (Nat.le_refl _) w
      exact ⟨.slice (some p) 0 0, by simp [execOp, hxe, this], .pure _ _ (.void sz p)⟩
    · have := run_cut (G := G) ht he (some ⟨b, off, none⟩) xs.length cap (lo.map a.eval) (hi.map a.eval) l h hlo' hhi' hlh (by omega) w
      rw [hsz] at this
      exact ⟨_, by simp only [execOp, hxe, Option.map_none, Sem.run_bind, this, Result.andThen_ok]; rfl, VRep.cut hb hcap hm hl hc hp hlh hh⟩

theorem run_cutT {t : TypeId} (ht : G.T.kind t = .str) (s : ByteArray) (lo hi : Option Value) (l h : Nat) (hlo : lo = some (.int .i64 l) ∨ (lo = none ∧ l = 0)) (hhi : hi = some (.int .i64 h) ∨ (hi = none ∧ h = s.size)) (hlh : l ≤ h) (hc : h ≤ s.size) (w : World) :
    (Instr.sliceAt t (.string s) lo hi none).run G.P w = .ok (.string (s.extract l h)) w := by
  rcases hlo with rfl | ⟨rfl, rfl⟩ <;> rcases hhi with rfl | ⟨rfl, rfl⟩ <;>
    simp [Instr.sliceAt, Instr.slice, run_underlying (underlying_str G.ok ht), Instr.sliceBounds, Instr.sliceBound, asIntOf, hlh, hc]

theorem op_sliceT {t : TypeId} {x : Operand} {lo hi : Option Operand} {s : ByteArray} {l h : Nat} (hx : evo (look E.sl) x = some (.lit (.string s))) (hlo : evB (look E.sl) lo 0 l) (hhi : evB (look E.sl) hi s.size h) (hlh : l ≤ h) (hh : h ≤ s.size)
    (ht : G.T.kind t = .str) (hd : ∀ d, dst = some d → d < E.n) : OpS G Γ ⟨dst, .slice t x lo hi none, ty, pos, aft, gd⟩ E (.lit (.string (s.extract l h))) [] (sl1 x ++ slO lo ++ slO hi) [] :=
  OpS.val hd fun E' hn h1 h2 S O β a w hs => by
    have hlo' : lo.map a.eval = some (.int .i64 l) ∨ (lo.map a.eval = none ∧ l = 0) := by
      cases lo with
      | none => exact .inr ⟨rfl, hlo⟩
      | some y => exact .inl (by rw [Option.map_some, hs.lit ((evo_congr fun t ht => h1 t (by simp [slO, ht])).trans hlo)])
    have hhi' : hi.map a.eval = some (.int .i64 h) ∨ (hi.map a.eval = none ∧ h = s.size) := by
      cases hi with
      | none => exact .inr ⟨rfl, hhi⟩
      | some y => exact .inl (by rw [Option.map_some, hs.lit ((evo_congr fun t ht => h1 t (by simp [slO, ht])).trans hhi)])
    have hxe := hs.lit ((evo_congr fun t ht => h1 t (by simp [ht])).trans hx)
    have := run_cutT (G := G) ht s (lo.map a.eval) (hi.map a.eval) l h hlo' hhi' hlh hh w
    exact ⟨.string (s.extract l h), by simp only [execOp, hxe, Option.map_none, Sem.run_bind, this, Result.andThen_ok]; rfl, .pure _ _ (.lit _ rfl)⟩

/-! ### Bytes as a text -/
theorem foldl_push (bs : List UInt8) : ∀ r : ByteArray, (bs.map fun b => ((b.toNat : Nat) : Int)).foldl (fun r n => r.push (UInt8.ofNat n.toNat)) r = ⟨(r.data.toList ++ bs).toArray⟩ := by
  induction bs with
  | nil => intro r; simp
  | cons b bs ih =>
    intro r
    simp only [List.map_cons, List.foldl_cons]
    rw [ih]
    congr 1
    apply Array.ext'
    simp [ByteArray.push]

theorem op_convT {s t e : TypeId} {x : Operand} {bs : List UInt8} {ys : List (List AV)} (hx : evo (look E.sl) x = some (.shr 1 ys)) (hy : ys = byteCells bs) (hs' : G.T.kind s = .slice e) (he : G.T.kind e = .int .u8) (ht : G.T.kind t = .str) (hd : ∀ d, dst = some d → d < E.n) :
    OpS G Γ ⟨dst, .convert s t x, ty, pos, aft, gd⟩ E (.lit (.string ⟨bs.toArray⟩)) [] (sl1 x) [] :=
  OpS.val hd fun E' hn h1 h2 S O β a w hs => by
    subst hy
    refine ⟨.string ⟨bs.toArray⟩, ?_, .pure _ _ (.lit _ rfl)⟩
    rcases (hs.ev ((evo_congr h1).trans hx)).shr_inv with ⟨hxe, hnil⟩ | ⟨p, hxe, hnil⟩ | ⟨b, off, cap, f, hxe, hb, hcap, hm, hl, hc, hp⟩
    · have hbs : bs = [] := by simpa [byteCells] using hnil
      subst hbs
      have := run_convert_bytes_string (P := G.P) w s t e none 0 0 (underlying_slice G.ok hs') (underlying_int G.ok he) (underlying_str G.ok ht)
      simp only [execOp, hxe, Sem.run_bind, this]
      rfl
    · have hbs : bs = [] := by simpa [byteCells] using hnil
      subst hbs
      have := run_convert_bytes_string (P := G.P) w s t e (some p) 0 0 (underlying_slice G.ok hs') (underlying_int G.ok he) (underlying_str G.ok ht)
      simp only [execOp, hxe, Sem.run_bind, this]
      rfl
    · have hlen : (byteCells bs).length = bs.length := by simp [byteCells]
      have hf : ∀ (i : Nat) (u : UInt8), bs[i]? = some u → w.cell? ⟨b, off + i, none⟩ = some (.int .u8 (u.toNat : Int)) := by
        intro i u hu
        have hu' : (byteCells bs)[i]? = some [.lit (.int .u8 u.toNat)] := by simp [byteCells, hu]
        have h3 := hc i _ 0 _ hu' rfl
        have h4 := hp i _ 0 _ hu' rfl
        generalize f i 0 = y at h3 h4
        cases h4 with
        | lit _ _ => simpa using h3
      have hL := run_loadCells_list (P := G.P) w ⟨b, off, none⟩ (bs.map fun u => (Value.int .u8 (u.toNat : Int))) (fun j v hj => by
        rw [add_none]
        rw [List.getElem?_map] at hj
        cases hq : bs[j]? with
        | none => rw [hq] at hj; cases hj
        | some u => rw [hq] at hj; simp at hj; subst hj; exact hf j u hq)
      have hb2 := run_bytesToString (P := G.P) w ⟨b, off, none⟩ bs.length cap (bs.map fun u => ((u.toNat : Nat) : Int)) (by rw [List.map_map]; rw [List.length_map] at hL; exact hL)
      have := run_convert_bytes_string (P := G.P) w s t e (some ⟨b, off, none⟩) bs.length cap (underlying_slice G.ok hs') (underlying_int G.ok he) (underlying_str G.ok ht)
      rw [foldl_push] at hb2
      have e0 : (ByteArray.empty.data.toList ++ bs).toArray = bs.toArray := by
        have : ByteArray.empty.data.toList = [] := rfl
        rw [this, List.nil_append]
      rw [e0] at hb2
      simp only [execOp, hxe, hlen, Sem.run_bind, this, hb2, Result.andThen_ok]
      rfl
end
end Go.Vc
