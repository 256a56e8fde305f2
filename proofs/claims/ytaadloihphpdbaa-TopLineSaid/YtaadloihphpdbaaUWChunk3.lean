/- Walks of the package chunk and of the document's answer to it: what bytes say. Printed by a small program (walk.py). -/
import Derived.Test.YtaadloihphpdbaaUWChunk2
set_option linter.unusedVariables false
set_option linter.unusedSimpArgs false
set_option maxRecDepth 4000
namespace Go.Proofs.Ytaadloihphpdbaa
open Go Go.Vc Go.RowKit
theorem short_is {k n : UInt8} {r : List UInt8} : short (k :: n :: r) = (decide (k.toNat = 1) && decide (r.length < 2)) := rfl
theorem short_yes {k n : UInt8} {r : List UInt8} (h1 : (k.toNat : Int) = 1) (h2 : ((r.length + 1 + 1 : Nat) : Int) < 4) : short (k :: n :: r) = true := by
  rw [short_is, decide_eq_true (by omega), decide_eq_true (by omega)]; rfl
theorem short_no1 {k n s p : UInt8} {d : List UInt8} : short (k :: n :: s :: p :: d) = false := by
  rw [short_is, decide_eq_false (p := (s :: p :: d).length < 2) (by simp)]; simp
theorem short_no2 {k n : UInt8} {r : List UInt8} (h1 : (k.toNat : Int) ≠ 1) : short (k :: n :: r) = false := by
  rw [short_is, decide_eq_false (by omega)]; rfl
theorem short_few {x : List UInt8} (h : (x.length : Int) < 2) : short x = true := by
  match x, h with
  | [], _ => rfl
  | [a], _ => rfl
  | a :: b :: r, h => simp at h; omega
theorem parsed1 {k n s p : UInt8} {d : List UInt8} (h : (k.toNat : Int) = 1) : zfo (k :: n :: s :: p :: d) = ⟨k.toNat, n.toNat, s.toNat, p.toNat, d, []⟩ := by
  show (if k.toNat = 1 then _ else _) = _
  rw [if_pos (by omega), h]
theorem parsed2 {k n : UInt8} {r : List UInt8} (h : (k.toNat : Int) ≠ 1) : zfo (k :: n :: r) = ⟨k.toNat, n.toNat, 0, 0, [], ints r⟩ := by
  show (if k.toNat = 1 then _ else _) = _
  rw [if_neg (by omega)]
theorem c81 (b : List UInt8) (hb : b.length ≤ 17592186043000) : VFun G 81 [.shr 1 (byteCells b)] [] (.tup [.agg (zcn (read b).1), .lit (.int .i64 (read b).2)]) [] := by
 have hol := opened_le b
 refine VFun.intro (fn := Try.f81) rfl rfl (by kernel_rfl) (nb rfl) fun Γ hpar => ?_
 refine zac <| zaa <| zbf 100 rfl rfl (zar hpar rfl) rfl rfl tv <| zad rfl rfl tv <| zaf tv <| zac <| zaa <| zae rfl rfl tv <| zbo rfl (c53r _ (by omega)) (.cons ((.shr _ _)) .nil) rfl tv <| zae rfl rfl tv <| zbg rfl rfl rfl tv <| zbg rfl rfl rfl tv <| zad rfl rfl tv <| zad rfl rfl tv <| zaf tv <| zac <| zac <| zaa <| s_move rfl rfl tv (fun h15 => ?_) (fun h15 => ?_)
 ·refine u_not rfl rfl tv <| zaf tv <| zau rfl <| zbd <| zac <| zac <| zaa <| zae rfl rfl tv <| zcs rfl rfl rfl tv <| zcm rfl rfl rfl tv (fun h20 => ?_) (fun h20 => ?_)
  ·refine zaf tv <| zas rfl <| zac <| zaa <| zch rfl rfl rfl rfl rfl tv <| zah rfl rfl rfl rfl rfl rfl rfl rfl tv <| zad rfl rfl tv <| zaf tv <| zav ?_
   rw [read_short (by simpa using h15) (short_few (by simpa [byteCells_length] using h20))]
   refine fin' [] (.inr rfl) (.cons (.cellN rfl rfl rfl rfl rfl) (.cons (.tmp rfl (nb rfl)) .nil)) (zaw [] rfl rfl ⟨⟨_, rfl, (.tup _ _ (.cons (.agg _ _ (.cons (subI ?_) (.cons (subI ?_) (.cons (subI ?_) (.cons (subI ?_) (.cons (subNs ?_) (.cons (subNs ?_) .nil))))))) (.cons (subI ?_) .nil)))⟩, tv⟩ tv (zax rfl rfl))
   all_goals (try rfl)
  ·refine zaf tv <| zau rfl <| zbd <| zac ?_
   obtain ⟨k, n, r, hx⟩ := two_of (l := zed b) (by simp only [byteCells_length] at h20; omega)
   have hol2 : r.length + 2 ≤ b.length := by rw [hx] at hol; simpa using hol
   rw [hx]
   refine zcb <| zae rfl rfl tv <| zbz rfl rfl rfl rfl rfl (i := 0) rfl rfl rfl tv <| zcr rfl rfl rfl rfl rfl tv <| u_convUp rfl (by have := k.toNat_lt; unfold inI; omega) rfl rfl rfl tv <| zae rfl rfl tv <| zbz rfl rfl rfl rfl rfl (i := 1) rfl rfl rfl tv <| zcr rfl rfl rfl rfl rfl tv <| u_convUp rfl (by have := n.toNat_lt; unfold inI; omega) rfl rfl rfl tv <| zch rfl rfl rfl rfl rfl tv <| zbf 101 rfl rfl (zar hpar rfl) rfl rfl tv <| zah rfl rfl rfl rfl rfl rfl rfl rfl tv <| zaf (by kernel_rfl) <| zac <| zaz <| zac <| zaa <| zab rfl rfl rfl rfl rfl rfl tv <| zak rfl rfl rfl rfl rfl rfl tv <| zew rfl rfl rfl tv (fun h49 => ?_) (fun h49 => ?_)
   ·refine zae rfl rfl tv <| zae rfl rfl (gk rfl) <| zcs rfl rfl rfl (gk rfl) <| zcm rfl rfl rfl (gk rfl) (fun h53 => ?_) (fun h53 => ?_)
    ·refine zbk rfl rfl rfl tv <| zad rfl rfl tv <| zaf tv <| zas rfl <| zac <| zaa <| zch rfl rfl rfl rfl rfl tv <| zah rfl rfl rfl rfl rfl rfl rfl rfl tv <| zad rfl rfl tv <| zaf tv <| zav ?_
     rw [read_short (by simpa using h15) (by rw [hx]; exact short_yes h49 (by simpa [byteCells_length] using h53))]
     refine fin' [] (.inr rfl) (.cons (.cellN rfl rfl rfl rfl rfl) (.cons (.tmp rfl (nb rfl)) .nil)) (zaw [] rfl rfl ⟨⟨_, rfl, (.tup _ _ (.cons (.agg _ _ (.cons (subI ?_) (.cons (subI ?_) (.cons (subI ?_) (.cons (subI ?_) (.cons (subNs ?_) (.cons (subNs ?_) .nil))))))) (.cons (subI ?_) .nil)))⟩, tv⟩ tv (zax rfl rfl))
     all_goals (try rfl)
    ·refine zbk rfl rfl rfl tv <| zad rfl rfl tv <| zaf tv <| zau rfl <| zac <| zaa <| zab rfl rfl rfl rfl rfl rfl tv <| zak rfl rfl rfl rfl rfl rfl tv <| zew rfl rfl rfl tv (fun h59 => ?_) (fun h59 => ?_)
     ·refine zad rfl rfl tv <| zaf tv <| zas rfl ?_
      obtain ⟨s, p, d, rfl⟩ := two_of (l := r) (by simp only [byteCells_length, List.length_cons] at h53; omega)
      refine zcb <| zae rfl rfl tv <| zbz rfl rfl rfl rfl rfl (i := 2) rfl rfl rfl tv <| zcr rfl rfl rfl rfl rfl tv <| u_convUp rfl (by have := s.toNat_lt; unfold inI; omega) rfl rfl rfl tv <| zae rfl rfl tv <| zbz rfl rfl rfl rfl rfl (i := 3) rfl rfl rfl tv <| zcr rfl rfl rfl rfl rfl tv <| u_convUp rfl (by have := p.toNat_lt; unfold inI; omega) rfl rfl rfl tv <| zae rfl rfl tv <| u_sliceLo 4 rfl rfl (by rfl) (by simp only [byteCells_length, List.length_cons]; omega) rfl rfl rfl rfl tv <| zbo rfl (VFun.read (c136 0 d)) (.cons (subS rfl) .nil) rfl tv <| zab rfl rfl rfl rfl rfl rfl tv <| zbm rfl rfl rfl rfl rfl rfl rfl tv <| zab rfl rfl rfl rfl rfl rfl tv <| zbm rfl rfl rfl rfl rfl rfl rfl tv <| zab rfl rfl rfl rfl rfl rfl tv <| zbm rfl rfl rfl rfl rfl rfl rfl tv <| zaf (by kernel_rfl) <| zac <| zac <| zaa <| zan rfl rfl rfl rfl rfl rfl tv <| zbo rfl (c76 ⟨k.toNat, n.toNat, s.toNat, p.toNat, d, []⟩) (.cons ((.agg _ _ (.cons ((.lit _)) (.cons ((.lit _)) (.cons ((.lit _)) (.cons ((.lit _)) (.cons ((.shr _ _)) (.cons (.nilshr _) .nil)))))))) .nil) rfl tv <| zad rfl rfl tv <| zaf tv <| zac <| zaa <| zae rfl rfl tv <| zfe rfl rfl rfl tv (fun h77 => ?_) (fun h77 => ?_)
      ·refine zaf tv <| zas rfl <| zac <| zaa <| zch rfl rfl rfl rfl rfl tv <| zae rfl rfl tv <| zah rfl rfl rfl rfl rfl rfl rfl rfl tv <| zad rfl rfl tv <| zaf tv <| zav ?_
       rw [read_bad (by simpa using h15) (by rw [hx]; exact short_no1) (by rw [hx]; exact parsed1 (by omega)) h77]
       refine fin' [] (.inr rfl) (.cons (.cellN rfl rfl rfl rfl rfl) (.cons (.tmp rfl (nb rfl)) .nil)) (zaw [] rfl rfl ⟨⟨_, rfl, (.tup _ _ (.cons (.agg _ _ (.cons (subI ?_) (.cons (subI ?_) (.cons (subI ?_) (.cons (subI ?_) (.cons (subNs ?_) (.cons (subNs ?_) .nil))))))) (.cons (subI ?_) .nil)))⟩, tv⟩ tv (zax rfl rfl))
       all_goals (try rfl)
      ·refine zaf tv <| zau rfl <| zbd <| zac <| zaa <| zan rfl rfl rfl rfl rfl rfl tv <| zah rfl rfl rfl rfl rfl rfl rfl rfl tv <| zad rfl rfl tv <| zaf tv <| zav ?_
       rw [read_good (by simpa using h15) (by rw [hx]; exact short_no1) (by rw [hx]; exact parsed1 (by omega)) h77]
       refine fin' [] (.inr rfl) (.cons (.cellN rfl rfl rfl rfl rfl) (.cons (.tmp rfl (nb rfl)) .nil)) (zaw [] rfl rfl ⟨⟨_, rfl, (.tup _ _ (.cons (.agg _ _ (.cons (subI ?_) (.cons (subI ?_) (.cons (subI ?_) (.cons (subI ?_) (.cons (subS ?_) (.cons (subNs ?_) .nil))))))) (.cons (subI ?_) .nil)))⟩, tv⟩ tv (zax rfl rfl))
       all_goals (try rfl)
     ·omega
   ·refine zae rfl rfl tv <| zal rfl rfl rfl rfl rfl <| zal rfl rfl rfl rfl rfl <| zal rfl rfl rfl rfl rfl <| zbh rfl rfl rfl tv <| zad rfl rfl tv <| zaf tv <| zau rfl <| zac <| zaa <| zab rfl rfl rfl rfl rfl rfl tv <| zak rfl rfl rfl rfl rfl rfl tv <| zew rfl rfl rfl tv (fun h59 => ?_) (fun h59 => ?_)
    ·omega
    ·refine zad rfl rfl tv <| zaf tv <| zau rfl <| zac <| zaa <| zae rfl rfl tv <| u_sliceLo 2 rfl rfl (by rfl) (by simp only [byteCells_length, List.length_cons]; omega) rfl rfl rfl rfl tv <| zcs rfl rfl rfl tv <| zae rfl rfl tv <| zaf tv <| zaz <| zbx (fun n_ E => ∃ (i : Nat), ((i ≤ r.length)) ∧ n_ = r.length - i ∧ E = ⟨[(2, .ptr 2 0), (6, .ptr 6 0), (32, .shr 1 (byteCells r)), (33, .lit (.int .i64 (byteCells r).length)), (34, .lit (.int .i64 i))], [(2, .box [.lit (.int .i64 0), .lit (.int .i64 0), .lit (.int .i64 0), .lit (.int .i64 0), .lit (.slice none 0 0), .lit (.slice none 0 0)]), (6, .box [.lit (.int .i64 k.toNat), .lit (.int .i64 n.toNat), .lit (.int .i64 0), .lit (.int .i64 0), .lit (.slice none 0 0), .row 7]), (7, .row 3 1 (zay (ints (r.take i))))], 81⟩) (n0 := _) (E0 := _) (⟨0, by omega, rfl, rfl⟩) (ren [(2, 100), (6, 101)]) (zaw [(2, 100), (6, 101)] rfl rfl ⟨⟨_, rfl, (.ptr _ _ _ rfl (zag rfl))⟩, ⟨_, rfl, (.ptr _ _ _ rfl (zag rfl))⟩, ⟨_, rfl, (subS (by rfl))⟩, ⟨_, rfl, (subI (by rfl))⟩, ⟨_, rfl, (.lit _)⟩, tv⟩ ⟨⟨_, _, rfl, rfl, (zbw rfl)⟩, ⟨_, _, rfl, rfl, (.cons ((.lit _)) (.cons ((.lit _)) (.cons ((.lit _)) (.cons ((.lit _)) (.cons ((.lit _)) (.cons (.nilrow _ _ _ _ rfl rfl) .nil))))))⟩, (.inr (.inl ⟨rfl, rfl⟩)), tv⟩ (zax hpar rfl)) (fun n_ E hR => ?_)
     obtain ⟨i, hI, rfl, rfl⟩ := hR
     have hI0 := hI
     refine zac <| zaa <| zcm rfl rfl rfl tv (fun h35 => ?_) (fun h35 => ?_)
     ·refine zaf tv <| zac <| zas rfl <| zbd <| zac <| zaz <| zac ?_
      simp only [byteCells_length] at h35
      refine zaa <| zbz rfl rfl rfl rfl rfl rfl (zey (bs := r) (by omega)) rfl tv <| zcr rfl rfl rfl rfl rfl tv <| zad rfl rfl tv <| zaf tv <| zaa <| zab rfl rfl rfl rfl rfl rfl tv <| zak rfl rfl rfl rfl rfl rfl tv <| zae rfl rfl tv <| u_convUp rfl (by have := (r[i]'(by omega)).toNat_lt; unfold inI; omega) rfl rfl rfl tv <| zba 122 rfl rfl rfl rfl rfl rfl rfl rfl rfl rfl (zar hpar rfl) rfl rfl tv <| zbt 123 rfl rfl rfl (zct rfl) rfl (zar hpar rfl) rfl rfl rfl rfl rfl (by simp [zby, zam, ints_length]; omega) rfl tv <| zab rfl rfl rfl rfl rfl rfl tv <| zbm rfl rfl rfl rfl rfl rfl rfl tv <| zaf tv <| zaa <| zcg rfl rfl rfl (by unfold inI; omega) rfl tv <| zae rfl rfl tv <| zaf tv <| ⟨_, _, ren [(2, 2), (6, 6), (7, 123)], ?_, ⟨i + 1, ?_, rfl, rfl⟩, zaw [(2, 2), (6, 6), (7, 123)] rfl rfl ⟨⟨_, rfl, (.ptr _ _ _ rfl (zag rfl))⟩, ⟨_, rfl, (.ptr _ _ _ rfl (zag rfl))⟩, ⟨_, rfl, (.shr _ _)⟩, ⟨_, rfl, (.lit _)⟩, ⟨_, rfl, (.lit _)⟩, tv⟩ ⟨⟨_, _, rfl, rfl, (zbw rfl)⟩, ⟨_, _, rfl, rfl, (.cons ((.lit _)) (.cons ((.lit _)) (.cons ((.lit _)) (.cons ((.lit _)) (.cons ((.lit _)) (.cons ((.row _ _ rfl (zag rfl))) .nil))))))⟩, (.inl ⟨_, rfl, zbr rfl (by rw [ints_snoc r (by omega), ← intCells_snoc]; rfl)⟩), tv⟩ (zax hpar rfl)⟩
      ·omega
      ·omega
     ·refine zaf tv <| zac <| zau rfl <| zcc <| iteP rfl <| zac <| zac ?_
      simp only [byteCells_length] at h35
      rw [List.take_of_length_le (by omega)]
      refine zaa <| zan rfl rfl rfl rfl rfl rfl tv <| u_callB [(7, _)] rfl (c76 ⟨k.toNat, n.toNat, 0, 0, [], ints r⟩) (.cons ((.agg _ _ (.cons ((.lit _)) (.cons ((.lit _)) (.cons ((.lit _)) (.cons ((.lit _)) (.cons (.nilshr _) (.cons (.frz _ _ _ _ rfl (zag rfl)) .nil)))))))) .nil) (sub1 rfl) rfl rfl tv <| zad rfl rfl tv <| zaf tv <| zac <| zaa <| zae rfl rfl tv <| zfe rfl rfl rfl tv (fun h77 => ?_) (fun h77 => ?_)
      ·refine zaf tv <| zas rfl <| zac <| zaa <| zch rfl rfl rfl rfl rfl tv <| zae rfl rfl tv <| zah rfl rfl rfl rfl rfl rfl rfl rfl tv <| zad rfl rfl tv <| zaf tv <| zav ?_
       rw [read_bad (by simpa using h15) (by rw [hx]; exact short_no2 (by omega)) (by rw [hx]; exact parsed2 (by omega)) h77]
       refine fin' [] (.inr rfl) (.cons (.cellN rfl rfl rfl rfl rfl) (.cons (.tmp rfl (nb rfl)) .nil)) (zaw [] rfl rfl ⟨⟨_, rfl, (.tup _ _ (.cons (.agg _ _ (.cons (subI ?_) (.cons (subI ?_) (.cons (subI ?_) (.cons (subI ?_) (.cons (subNs ?_) (.cons (subNs ?_) .nil))))))) (.cons (subI ?_) .nil)))⟩, tv⟩ tv (zax rfl rfl))
       all_goals (try rfl)
      ·refine zaf tv <| zau rfl <| zbd <| zac <| zaa <| zan rfl rfl rfl rfl rfl rfl tv <| zah rfl rfl rfl rfl rfl rfl rfl rfl tv <| zad rfl rfl tv <| zaf tv <| zav ?_
       rw [read_good (by simpa using h15) (by rw [hx]; exact short_no2 (by omega)) (by rw [hx]; exact parsed2 (by omega)) h77]
       refine fin' [] (.inr rfl) (.cons (.cellN rfl rfl rfl rfl rfl) (.cons (.tmp rfl (nb rfl)) .nil)) (zaw [] rfl rfl ⟨⟨_, rfl, (.tup _ _ (.cons (.agg _ _ (.cons (subI ?_) (.cons (subI ?_) (.cons (subI ?_) (.cons (subI ?_) (.cons (subNs ?_) (.cons (zbn rfl (fzL rfl) ?_) .nil))))))) (.cons (subI ?_) .nil)))⟩, tv⟩ tv (zax rfl rfl))
       all_goals (try rfl)
 ·refine u_not rfl rfl tv <| zaf tv <| zas rfl <| zac <| zaa <| zch rfl rfl rfl rfl rfl tv <| zah rfl rfl rfl rfl rfl rfl rfl rfl tv <| zad rfl rfl tv <| zaf tv <| zav ?_
  rw [read_no (by simpa using h15)]
  refine fin' [] (.inr rfl) (.cons (.cellN rfl rfl rfl rfl rfl) (.cons (.tmp rfl (nb rfl)) .nil)) (zaw [] rfl rfl ⟨⟨_, rfl, (.tup _ _ (.cons (.agg _ _ (.cons (subI ?_) (.cons (subI ?_) (.cons (subI ?_) (.cons (subI ?_) (.cons (subNs ?_) (.cons (subNs ?_) .nil))))))) (.cons (subI ?_) .nil)))⟩, tv⟩ tv (zax rfl rfl))
  all_goals (try rfl)
end Go.Proofs.Ytaadloihphpdbaa
