/- Texts: a byte's text, parts of texts, and the library's search for a byte. -/
import Derived.Test.YtaadloihphpdbaaUVcB
import Derived.Test.YtaadloihphpdbaaUVcTab
import Derived.Laws.Runes
import Derived.Lib.Bytealg
import Derived.Lib.IndexLaws
import Derived.Shelf.Strings.Search1
set_option linter.unusedVariables false
set_option linter.unusedSimpArgs false
namespace Go.Vc
open Go Go.RowKit
def tx (bs : List UInt8) : ByteArray := ⟨bs.toArray⟩
theorem zep (bs : List UInt8) : (tx bs).size = bs.length := by simp [tx, ByteArray.size]
theorem tx_get {bs : List UInt8} {i : Nat} (h : i < bs.length) : (tx bs)[i]? = some (bs[i]'h) := by
  rw [getElem?_pos (tx bs) i (by rw [zep]; exact h)]
  rfl
theorem tx_toList (bs : List UInt8) : (tx bs).toList = bs := by rw [Lib.toList_data]; rfl
theorem tx_extract (bs : List UInt8) (l h : Nat) : (tx bs).extract l h = tx ((bs.take h).drop l) := by
  apply ByteArray.ext
  simp [tx]
  rw [List.drop_take]
section
variable {G : Prg} {Γ : Ctx} {E : Env} {dst : Option Tmp} {ty : TypeId} {pos : String} {aft : Array Edge} {gd : Option (Nat × Bool)}
end
section
variable {G : Prg} {Γ : Ctx} {ops : Array Oper} {fin : List Lg → Prop} {K : Env → Prop} {os : List Oper} {log : List Lg} {sl : List (Nat × AV)} {ob : List (Nat × AO)} {nn : Nat} {d : Nat} {ty : TypeId} {pos : String} {aft : Array Edge} {gd : Option (Nat × Bool)}
theorem u_indexX {t : TypeId} {x y : Operand} {s : ByteArray} {bs : List UInt8} {kk : IntKind} {z : Int} {i : Nat} (hx : evo (look sl) x = some (.lit (.string s))) (hy : evo (look sl) y = some (.lit (.int kk z))) (hs : s = tx bs) (ht : G.T.kind t = .str) (hz : z = (i : Int)) (hb : i < bs.length) (hd : Nat.blt d nn = true) (hg : GOk ops sl nn gd)
    (kk' : VR G Γ ops fin K os (log ++ [⟨some d, gsl ops gd ++ (sl1 x ++ sl1 y), [], []⟩]) ⟨(d, .lit (.int .u8 ((bs[i]'hb).toNat : Nat))) :: sl, ob, nn⟩) : VR G Γ ops fin K (⟨some d, .index t x y, ty, pos, aft, gd⟩ :: os) log ⟨sl, ob, nn⟩ := by
  subst hs
  exact u_indexT hx hy ht hz (tx_get hb) hd hg kk'
theorem u_sliceXHi {t : TypeId} {x o : Operand} {s : ByteArray} {bs : List UInt8} {z : Int} (h : Nat) (hx : evo (look sl) x = some (.lit (.string s))) (hs : s = tx bs) (ho : evo (look sl) o = some (.lit (.int .i64 z))) (hz : z = (h : Int)) (hh : h ≤ bs.length) (ht : G.T.kind t = .str) (hd : Nat.blt d nn = true) (hg : GOk ops sl nn gd)
    (kk' : VR G Γ ops fin K os (log ++ [⟨some d, gsl ops gd ++ (sl1 x ++ slO none ++ slO (some o)), [], []⟩]) ⟨(d, .lit (.string (tx (bs.take h)))) :: sl, ob, nn⟩) : VR G Γ ops fin K (⟨some d, .slice t x none (some o) none, ty, pos, aft, gd⟩ :: os) log ⟨sl, ob, nn⟩ := by
  subst hs; subst hz
  refine u_sliceT (l := 0) (h := h) hx ?_ ?_ (Nat.zero_le _) (by rw [zep]; exact hh) ht hd hg ?_
  · exact rfl
  · exact ho
  · rw [tx_extract]; exact kk'
theorem u_sliceXLo {t : TypeId} {x o : Operand} {s : ByteArray} {bs : List UInt8} {z : Int} (l : Nat) (hx : evo (look sl) x = some (.lit (.string s))) (hs : s = tx bs) (ho : evo (look sl) o = some (.lit (.int .i64 z))) (hz : z = (l : Int)) (hh : l ≤ bs.length) (ht : G.T.kind t = .str) (hd : Nat.blt d nn = true) (hg : GOk ops sl nn gd)
    (kk' : VR G Γ ops fin K os (log ++ [⟨some d, gsl ops gd ++ (sl1 x ++ slO (some o) ++ slO none), [], []⟩]) ⟨(d, .lit (.string (tx (bs.drop l)))) :: sl, ob, nn⟩) : VR G Γ ops fin K (⟨some d, .slice t x (some o) none none, ty, pos, aft, gd⟩ :: os) log ⟨sl, ob, nn⟩ := by
  subst hs; subst hz
  refine u_sliceT (l := l) (h := bs.length) hx ?_ ?_ hh (by rw [zep]; exact Nat.le_refl _) ht hd hg ?_
  · exact ho
  · exact zep bs
  · rw [tx_extract, List.take_of_length_le (Nat.le_refl _)]; exact kk'
theorem u_subU8 {t yt : TypeId} {x y : Operand} {m n : Int} (hx : evo (look sl) x = some (.lit (.int .u8 m))) (hy : evo (look sl) y = some (.lit (.int .u8 n))) (hr : 0 ≤ m - n ∧ m - n < 256) (hd : Nat.blt d nn = true) (hg : GOk ops sl nn gd)
    (kk' : VR G Γ ops fin K os (log ++ [⟨some d, gsl ops gd ++ (sl1 x ++ sl1 y), [], []⟩]) ⟨(d, .lit (.int .u8 (m - n))) :: sl, ob, nn⟩) : VR G Γ ops fin K (⟨some d, .binOp .sub t x y yt, ty, pos, aft, gd⟩ :: os) log ⟨sl, ob, nn⟩ := by
  refine u_subW hx hy hd hg ?_
  have e : IntKind.u8.wrap (m - n) = m - n := by
    show (m - n) % 256 = m - n
    omega
  rw [e]; exact kk'
end
end Go.Vc
namespace Go.Proofs.Ytaadloihphpdbaa
open Go Go.Vc Go.RowKit
def txtRen : Go.Shelf.Ren := ⟨fun n => if n = 217 then 163 else 170, fun n => n, fun n => n⟩
theorem txtLays : Lays.n217 Try.prog txtRen where
  mixed := by kernel_rfl
  f217 := by kernel_rfl
  f266 := by kernel_rfl
  t3 := by kernel_rfl
  a3 := fun w => by kernel_rfl
  z3 := fun w => by kernel_rfl
  v3 := fun w => by kernel_rfl
  t5 := by kernel_rfl
  a5 := fun w => by kernel_rfl
  z5 := fun w => by kernel_rfl
  v5 := fun w => by kernel_rfl
  t9 := by kernel_rfl
  a9 := fun w => by kernel_rfl
  z9 := fun w => by kernel_rfl
  v9 := fun w => by kernel_rfl
theorem c163 (s : List UInt8) (c : UInt8) : VFun G 163 [.lit (.string (tx s)), .lit (.int .u8 (c.toNat : Int))] [] (.lit (.int .i64 (Lib.indexByte s c))) [] := by
  refine ⟨⟨Try.f163, by kernel_rfl, by kernel_rfl, by kernel_rfl⟩, fun S O β w vs h hargs => ?_⟩
  match vs, hargs with
  | [v1, v2], .cons q1 (.cons q2 .nil) =>
  obtain ⟨rfl, _⟩ := q1.lit_inv
  obtain ⟨rfl, _⟩ := q2.lit_inv
  have := Any.stringslite_IndexByte txtLays (tx s) (c.toNat : Int) w
  refine this.mono fun e w' ⟨he, hw⟩ => ⟨_, he, ?_⟩
  subst hw
  have e : (c.toNat : Int).toNat.toUInt8 = c := by simp
  refine ⟨S, O, β, h, ?_, fun b hb => hb, fun b hb => .inl hb, fun k b hk => .inl ⟨k, hk⟩, fun k h1 h2 => rfl, ?_⟩
  · rw [e]; exact .pure _ _ (.lit _ rfl)
  · exact ⟨rfl, rfl, rfl, Nat.le_refl _, fun c _ _ => rfl⟩
end Go.Proofs.Ytaadloihphpdbaa
