/- Walks of the package chunk and of the document's answer to it: what bytes say. Printed by a small program (walk.py). -/
import Derived.Test.YtaadloihphpdbaaWChunk2
set_option linter.unusedVariables false
set_option linter.unusedSimpArgs false
set_option maxRecDepth 4000
namespace Go.Proofs.Ytaadloihphpdbaa
open Go Go.Vc Go.RowKit
theorem short_is {k n : UInt8} {r : List UInt8} : short (k :: n :: r) = (decide (k.toNat = 1) && decide (r.length < 2)) := rfl
theorem short_yes {k n : UInt8} {r : List UInt8} (h1 : (k.toNat : Int) = 1) (h2 : ((r.length + 1 + 1 : Nat) : Int) < 4) : short (k :: n :: r) = true := by
  rw [short_is, decide_eq_true (by omega), decide_eq_true (by omega)]; rfl
theorem short_no1 {k n s p : UInt8} {d : List UInt8} : short (k :: n :: s :: p :: d) = false := by
  rw [short_is, decide_eq_false (p := (s :: p :: d).length < 2) (by simp)]; simp
theorem short_no2 {k n : UInt8} {r : List UInt8} (h1 : (k.toNat : Int) ≠ 1) : short (k :: n :: r) = false := by
  rw [short_is, decide_eq_false (by omega)]; rfl
theorem short_few {x : List UInt8} (h : (x.length : Int) < 2) : short x = true := by
  match x, h with
  | [], _ => rfl
  | [a], _ => rfl
  | a :: b :: r, h => simp at h; omega
theorem parsed1 {k n s p : UInt8} {d : List UInt8} (h : (k.toNat : Int) = 1) : parsed (k :: n :: s :: p :: d) = ⟨k.toNat, n.toNat, s.toNat, p.toNat, d, []⟩ := by
  show (if k.toNat = 1 then _ else _) = _
  rw [if_pos (by omega), h]
theorem parsed2 {k n : UInt8} {r : List UInt8} (h : (k.toNat : Int) ≠ 1) : parsed (k :: n :: r) = ⟨k.toNat, n.toNat, 0, 0, [], ints r⟩ := by
  show (if k.toNat = 1 then _ else _) = _
  rw [if_neg (by omega)]

theorem c81 (b : List UInt8) (hb : b.length ≤ 17592186043000) : VFun G 81 [.shr 1 (byteCells b)] [] (.tup [.agg (chunkAV (read b).1), .lit (.int .i64 (read b).2)]) [] := by
 have hol := opened_le b
 refine VFun.intro (fn := Try.f81) rfl rfl (by kernel_rfl) (nb rfl) fun Γ hpar => ?_
 refine vw_seq ?_
 refine vw_region ?_
 refine u_alloc 100 rfl rfl (notPar hpar rfl) rfl rfl trivial ?_
 refine u_assign rfl rfl trivial ?_
 refine u_end trivial ?_
 refine vw_seq ?_
 refine vw_region ?_
 refine u_move rfl rfl trivial ?_
 refine u_call rfl (c53r _ (by omega)) (.cons ((.shr _ _)) .nil) rfl trivial ?_
 refine u_move rfl rfl trivial ?_
 refine u_extract rfl rfl rfl trivial ?_
 refine u_extract rfl rfl rfl trivial ?_
 refine u_assign rfl rfl trivial ?_
 refine u_assign rfl rfl trivial ?_
 refine u_end trivial ?_
 refine vw_seq ?_
 refine vw_seq ?_
 refine vw_region ?_
 refine s_move rfl rfl trivial (fun h15 => ?_) (fun h15 => ?_)
 ·refine u_not rfl rfl trivial ?_
  refine u_end trivial ?_
  refine vw_condF rfl ?_
  refine vw_skip ?_
  refine vw_seq ?_
  refine vw_seq ?_
  refine vw_region ?_
  refine u_move rfl rfl trivial ?_
  refine u_len rfl rfl rfl trivial ?_
  refine s_lss rfl rfl rfl trivial (fun h20 => ?_) (fun h20 => ?_)
  ·refine u_end trivial ?_
   refine vw_condT rfl ?_
   refine vw_seq ?_
   refine vw_region ?_
   refine u_build rfl rfl rfl rfl rfl trivial ?_
   refine u_storeAll rfl rfl rfl rfl rfl rfl rfl rfl trivial ?_
   refine u_assign rfl rfl trivial ?_
   refine u_end trivial ?_
   refine vw_ret ?_
   rw [read_short (by simpa using h15) (short_few (by simpa [byteCells_length] using h20))]
   refine fin' [] (.inr rfl) (.cons (.cellN rfl rfl rfl rfl rfl) (.cons (.tmp rfl (nb rfl)) .nil)) (mk_wk [] rfl rfl ⟨⟨_, rfl, (.tup _ _ (.cons (.agg _ _ (.cons (subI ?_) (.cons (subI ?_) (.cons (subI ?_) (.cons (subI ?_) (.cons (subNs ?_) (.cons (subNs ?_) .nil))))))) (.cons (subI ?_) .nil)))⟩, trivial⟩ trivial (parOk rfl rfl))
   all_goals (try rfl)
  ·refine u_end trivial ?_
   refine vw_condF rfl ?_
   refine vw_skip ?_
   refine vw_seq ?_
   obtain ⟨k, n, r, hx⟩ := two_of (l := opened b) (by simp only [byteCells_length] at h20; omega)
   have hol2 : r.length + 2 ≤ b.length := by rw [hx] at hol; simpa using hol
   rw [hx]
   refine vw_draw ?_
   refine u_move rfl rfl trivial ?_
   refine u_indexS rfl rfl rfl rfl rfl (i := 0) rfl rfl rfl trivial ?_
   refine u_loadS1 rfl rfl rfl rfl rfl trivial ?_
   refine u_convUp rfl (by have := k.toNat_lt; unfold inI; omega) rfl rfl rfl trivial ?_
   refine u_move rfl rfl trivial ?_
   refine u_indexS rfl rfl rfl rfl rfl (i := 1) rfl rfl rfl trivial ?_
   refine u_loadS1 rfl rfl rfl rfl rfl trivial ?_
   refine u_convUp rfl (by have := n.toNat_lt; unfold inI; omega) rfl rfl rfl trivial ?_
   refine u_build rfl rfl rfl rfl rfl trivial ?_
   refine u_alloc 101 rfl rfl (notPar hpar rfl) rfl rfl trivial ?_
   refine u_storeAll rfl rfl rfl rfl rfl rfl rfl rfl trivial ?_
   refine u_end (by kernel_rfl) ?_
   refine vw_seq ?_
   refine vw_block ?_
   refine vw_seq ?_
   refine vw_region ?_
   refine u_fieldAddr rfl rfl rfl rfl rfl rfl trivial ?_
   refine u_load1 rfl rfl rfl rfl rfl rfl trivial ?_
   refine s_eql rfl rfl rfl trivial (fun h49 => ?_) (fun h49 => ?_)
   ·refine u_move rfl rfl trivial ?_
    refine u_move rfl rfl ⟨_, _, rfl, rfl, rfl, rfl⟩ ?_
    refine u_len rfl rfl rfl ⟨_, _, rfl, rfl, rfl, rfl⟩ ?_
    refine s_lss rfl rfl rfl ⟨_, _, rfl, rfl, rfl, rfl⟩ (fun h53 => ?_) (fun h53 => ?_)
    ·refine u_pickT rfl rfl rfl trivial ?_
     refine u_assign rfl rfl trivial ?_
     refine u_end trivial ?_
     refine vw_condT rfl ?_
     refine vw_seq ?_
     refine vw_region ?_
     refine u_build rfl rfl rfl rfl rfl trivial ?_
     refine u_storeAll rfl rfl rfl rfl rfl rfl rfl rfl trivial ?_
     refine u_assign rfl rfl trivial ?_
     refine u_end trivial ?_
     refine vw_ret ?_
     rw [read_short (by simpa using h15) (by rw [hx]; exact short_yes h49 (by simpa [byteCells_length] using h53))]
     refine fin' [] (.inr rfl) (.cons (.cellN rfl rfl rfl rfl rfl) (.cons (.tmp rfl (nb rfl)) .nil)) (mk_wk [] rfl rfl ⟨⟨_, rfl, (.tup _ _ (.cons (.agg _ _ (.cons (subI ?_) (.cons (subI ?_) (.cons (subI ?_) (.cons (subI ?_) (.cons (subNs ?_) (.cons (subNs ?_) .nil))))))) (.cons (subI ?_) .nil)))⟩, trivial⟩ trivial (parOk rfl rfl))
     all_goals (try rfl)
    ·refine u_pickT rfl rfl rfl trivial ?_
     refine u_assign rfl rfl trivial ?_
     refine u_end trivial ?_
     refine vw_condF rfl ?_
     refine vw_seq ?_
     refine vw_region ?_
     refine u_fieldAddr rfl rfl rfl rfl rfl rfl trivial ?_
     refine u_load1 rfl rfl rfl rfl rfl rfl trivial ?_
     refine s_eql rfl rfl rfl trivial (fun h59 => ?_) (fun h59 => ?_)
     ·refine u_assign rfl rfl trivial ?_
      refine u_end trivial ?_
      refine vw_condT rfl ?_
      obtain ⟨s, p, d, rfl⟩ := two_of (l := r) (by simp only [byteCells_length, List.length_cons] at h53; omega)
      refine vw_draw ?_
      refine u_move rfl rfl trivial ?_
      refine u_indexS rfl rfl rfl rfl rfl (i := 2) rfl rfl rfl trivial ?_
      refine u_loadS1 rfl rfl rfl rfl rfl trivial ?_
      refine u_convUp rfl (by have := s.toNat_lt; unfold inI; omega) rfl rfl rfl trivial ?_
      refine u_move rfl rfl trivial ?_
      refine u_indexS rfl rfl rfl rfl rfl (i := 3) rfl rfl rfl trivial ?_
      refine u_loadS1 rfl rfl rfl rfl rfl trivial ?_
      refine u_convUp rfl (by have := p.toNat_lt; unfold inI; omega) rfl rfl rfl trivial ?_
      refine u_move rfl rfl trivial ?_
      refine u_sliceLo 4 rfl rfl (by rfl) (by simp only [byteCells_length, List.length_cons]; omega) rfl rfl rfl rfl trivial ?_
      refine u_call rfl (VFun.read (c136 0 d)) (.cons (subS rfl) .nil) rfl trivial ?_
      refine u_fieldAddr rfl rfl rfl rfl rfl rfl trivial ?_
      refine u_store rfl rfl rfl rfl rfl rfl rfl trivial ?_
      refine u_fieldAddr rfl rfl rfl rfl rfl rfl trivial ?_
      refine u_store rfl rfl rfl rfl rfl rfl rfl trivial ?_
      refine u_fieldAddr rfl rfl rfl rfl rfl rfl trivial ?_
      refine u_store rfl rfl rfl rfl rfl rfl rfl trivial ?_
      refine u_end (by kernel_rfl) ?_
      refine vw_seq ?_
      refine vw_seq ?_
      refine vw_region ?_
      refine u_loadAll rfl rfl rfl rfl rfl rfl trivial ?_
      refine u_call rfl (c76 ⟨k.toNat, n.toNat, s.toNat, p.toNat, d, []⟩) (.cons ((.agg _ _ (.cons ((.lit _)) (.cons ((.lit _)) (.cons ((.lit _)) (.cons ((.lit _)) (.cons ((.shr _ _)) (.cons (.nilshr _) .nil)))))))) .nil) rfl trivial ?_
      refine u_assign rfl rfl trivial ?_
      refine u_end trivial ?_
      refine vw_seq ?_
      refine vw_region ?_
      refine u_move rfl rfl trivial ?_
      refine s_neq rfl rfl rfl trivial (fun h77 => ?_) (fun h77 => ?_)
      ·refine u_end trivial ?_
       refine vw_condT rfl ?_
       refine vw_seq ?_
       refine vw_region ?_
       refine u_build rfl rfl rfl rfl rfl trivial ?_
       refine u_move rfl rfl trivial ?_
       refine u_storeAll rfl rfl rfl rfl rfl rfl rfl rfl trivial ?_
       refine u_assign rfl rfl trivial ?_
       refine u_end trivial ?_
       refine vw_ret ?_
       rw [read_bad (by simpa using h15) (by rw [hx]; exact short_no1) (by rw [hx]; exact parsed1 (by omega)) h77]
       refine fin' [] (.inr rfl) (.cons (.cellN rfl rfl rfl rfl rfl) (.cons (.tmp rfl (nb rfl)) .nil)) (mk_wk [] rfl rfl ⟨⟨_, rfl, (.tup _ _ (.cons (.agg _ _ (.cons (subI ?_) (.cons (subI ?_) (.cons (subI ?_) (.cons (subI ?_) (.cons (subNs ?_) (.cons (subNs ?_) .nil))))))) (.cons (subI ?_) .nil)))⟩, trivial⟩ trivial (parOk rfl rfl))
       all_goals (try rfl)
      ·refine u_end trivial ?_
       refine vw_condF rfl ?_
       refine vw_skip ?_
       refine vw_seq ?_
       refine vw_region ?_
       refine u_loadAll rfl rfl rfl rfl rfl rfl trivial ?_
       refine u_storeAll rfl rfl rfl rfl rfl rfl rfl rfl trivial ?_
       refine u_assign rfl rfl trivial ?_
       refine u_end trivial ?_
       refine vw_ret ?_
       rw [read_good (by simpa using h15) (by rw [hx]; exact short_no1) (by rw [hx]; exact parsed1 (by omega)) h77]
       refine fin' [] (.inr rfl) (.cons (.cellN rfl rfl rfl rfl rfl) (.cons (.tmp rfl (nb rfl)) .nil)) (mk_wk [] rfl rfl ⟨⟨_, rfl, (.tup _ _ (.cons (.agg _ _ (.cons (subI ?_) (.cons (subI ?_) (.cons (subI ?_) (.cons (subI ?_) (.cons (subS ?_) (.cons (subNs ?_) .nil))))))) (.cons (subI ?_) .nil)))⟩, trivial⟩ trivial (parOk rfl rfl))
       all_goals (try rfl)
     ·omega
   ·refine u_move rfl rfl trivial ?_
    refine u_skip rfl rfl rfl rfl rfl ?_
    refine u_skip rfl rfl rfl rfl rfl ?_
    refine u_skip rfl rfl rfl rfl rfl ?_
    refine u_pickF rfl rfl rfl trivial ?_
    refine u_assign rfl rfl trivial ?_
    refine u_end trivial ?_
    refine vw_condF rfl ?_
    refine vw_seq ?_
    refine vw_region ?_
    refine u_fieldAddr rfl rfl rfl rfl rfl rfl trivial ?_
    refine u_load1 rfl rfl rfl rfl rfl rfl trivial ?_
    refine s_eql rfl rfl rfl trivial (fun h59 => ?_) (fun h59 => ?_)
    ·omega
    ·refine u_assign rfl rfl trivial ?_
     refine u_end trivial ?_
     refine vw_condF rfl ?_
     refine vw_seq ?_
     refine vw_region ?_
     refine u_move rfl rfl trivial ?_
     refine u_sliceLo 2 rfl rfl (by rfl) (by simp only [byteCells_length, List.length_cons]; omega) rfl rfl rfl rfl trivial ?_
     refine u_len rfl rfl rfl trivial ?_
     refine u_move rfl rfl trivial ?_
     refine u_end trivial ?_
     refine vw_block ?_
     refine vw_loopR (fun n_ E => ∃ (i : Nat), ((i ≤ r.length)) ∧ n_ = r.length - i ∧ E = ⟨[(2, .ptr 2 0), (6, .ptr 6 0), (32, .shr 1 (byteCells r)), (33, .lit (.int .i64 (byteCells r).length)), (34, .lit (.int .i64 i))], [(2, .box [.lit (.int .i64 0), .lit (.int .i64 0), .lit (.int .i64 0), .lit (.int .i64 0), .lit (.slice none 0 0), .lit (.slice none 0 0)]), (6, .box [.lit (.int .i64 k.toNat), .lit (.int .i64 n.toNat), .lit (.int .i64 0), .lit (.int .i64 0), .lit (.slice none 0 0), .row 7]), (7, .row 3 1 (intCells (ints (r.take i))))], 81⟩) (n0 := _) (E0 := _) (⟨0, by omega, rfl, rfl⟩) (ren [(2, 100), (6, 101)]) (mk_wk [(2, 100), (6, 101)] rfl rfl ⟨⟨_, rfl, (.ptr _ _ _ rfl (lookNe rfl))⟩, ⟨_, rfl, (.ptr _ _ _ rfl (lookNe rfl))⟩, ⟨_, rfl, (subS (by rfl))⟩, ⟨_, rfl, (subI (by rfl))⟩, ⟨_, rfl, (.lit _)⟩, trivial⟩ ⟨⟨_, _, rfl, rfl, (subPL rfl)⟩, ⟨_, _, rfl, rfl, (.cons ((.lit _)) (.cons ((.lit _)) (.cons ((.lit _)) (.cons ((.lit _)) (.cons ((.lit _)) (.cons (.nilrow _ _ _ _ rfl rfl) .nil))))))⟩, (.inr (.inl ⟨rfl, rfl⟩)), trivial⟩ (parOk hpar rfl)) (fun n_ E hR => ?_)
     obtain ⟨i, hI, rfl, rfl⟩ := hR
     have hI0 := hI
     refine vw_seq ?_
     refine vw_region ?_
     refine s_lss rfl rfl rfl trivial (fun h35 => ?_) (fun h35 => ?_)
     ·refine u_end trivial ?_
      refine vw_seq ?_
      refine vw_condT rfl ?_
      refine vw_skip ?_
      refine vw_seq ?_
      refine vw_block ?_
      refine vw_seq ?_
      simp only [byteCells_length] at h35
      refine vw_region ?_
      refine u_indexS rfl rfl rfl rfl rfl rfl (byteCells_get (bs := r) (by omega)) rfl trivial ?_
      refine u_loadS1 rfl rfl rfl rfl rfl trivial ?_
      refine u_assign rfl rfl trivial ?_
      refine u_end trivial ?_
      refine vw_region ?_
      refine u_fieldAddr rfl rfl rfl rfl rfl rfl trivial ?_
      refine u_load1 rfl rfl rfl rfl rfl rfl trivial ?_
      refine u_move rfl rfl trivial ?_
      refine u_convUp rfl (by have := (r[i]'(by omega)).toNat_lt; unfold inI; omega) rfl rfl rfl trivial ?_
      refine u_buildSlice 122 rfl rfl rfl rfl rfl rfl rfl rfl rfl rfl (notPar hpar rfl) rfl rfl trivial ?_
      refine u_append 123 rfl rfl rfl (srcRow rfl) rfl (notPar hpar rfl) rfl rfl rfl rfl rfl (by simp [cellsL, intCells_length, ints_length]; omega) rfl trivial ?_
      refine u_fieldAddr rfl rfl rfl rfl rfl rfl trivial ?_
      refine u_store rfl rfl rfl rfl rfl rfl rfl trivial ?_
      refine u_end trivial ?_
      refine vw_region ?_
      refine u_add rfl rfl rfl (by unfold inI; omega) rfl trivial ?_
      refine u_move rfl rfl trivial ?_
      refine u_end trivial ?_
      refine ⟨_, _, ren [(2, 2), (6, 6), (7, 123)], ?_, ⟨i + 1, ?_, rfl, rfl⟩, mk_wk [(2, 2), (6, 6), (7, 123)] rfl rfl ⟨⟨_, rfl, (.ptr _ _ _ rfl (lookNe rfl))⟩, ⟨_, rfl, (.ptr _ _ _ rfl (lookNe rfl))⟩, ⟨_, rfl, (.shr _ _)⟩, ⟨_, rfl, (.lit _)⟩, ⟨_, rfl, (.lit _)⟩, trivial⟩ ⟨⟨_, _, rfl, rfl, (subPL rfl)⟩, ⟨_, _, rfl, rfl, (.cons ((.lit _)) (.cons ((.lit _)) (.cons ((.lit _)) (.cons ((.lit _)) (.cons ((.lit _)) (.cons ((.row _ _ rfl (lookNe rfl))) .nil))))))⟩, (.inl ⟨_, rfl, rowEq rfl (by rw [ints_snoc r (by omega), ← intCells_snoc]; rfl)⟩), trivial⟩ (parOk hpar rfl)⟩
      ·omega
      ·omega
     ·refine u_end trivial ?_
      refine vw_seq ?_
      refine vw_condF rfl ?_
      refine vw_exit ?_
      refine iteP rfl ?_
      refine vw_seq ?_
      refine vw_seq ?_
      simp only [byteCells_length] at h35
      rw [List.take_of_length_le (by omega)]
      refine vw_region ?_
      refine u_loadAll rfl rfl rfl rfl rfl rfl trivial ?_
      refine u_callB [(7, _)] rfl (c76 ⟨k.toNat, n.toNat, 0, 0, [], ints r⟩) (.cons ((.agg _ _ (.cons ((.lit _)) (.cons ((.lit _)) (.cons ((.lit _)) (.cons ((.lit _)) (.cons (.nilshr _) (.cons (.frz _ _ _ _ rfl (lookNe rfl)) .nil)))))))) .nil) (sub1 rfl) rfl rfl trivial ?_
      refine u_assign rfl rfl trivial ?_
      refine u_end trivial ?_
      refine vw_seq ?_
      refine vw_region ?_
      refine u_move rfl rfl trivial ?_
      refine s_neq rfl rfl rfl trivial (fun h77 => ?_) (fun h77 => ?_)
      ·refine u_end trivial ?_
       refine vw_condT rfl ?_
       refine vw_seq ?_
       refine vw_region ?_
       refine u_build rfl rfl rfl rfl rfl trivial ?_
       refine u_move rfl rfl trivial ?_
       refine u_storeAll rfl rfl rfl rfl rfl rfl rfl rfl trivial ?_
       refine u_assign rfl rfl trivial ?_
       refine u_end trivial ?_
       refine vw_ret ?_
       rw [read_bad (by simpa using h15) (by rw [hx]; exact short_no2 (by omega)) (by rw [hx]; exact parsed2 (by omega)) h77]
       refine fin' [] (.inr rfl) (.cons (.cellN rfl rfl rfl rfl rfl) (.cons (.tmp rfl (nb rfl)) .nil)) (mk_wk [] rfl rfl ⟨⟨_, rfl, (.tup _ _ (.cons (.agg _ _ (.cons (subI ?_) (.cons (subI ?_) (.cons (subI ?_) (.cons (subI ?_) (.cons (subNs ?_) (.cons (subNs ?_) .nil))))))) (.cons (subI ?_) .nil)))⟩, trivial⟩ trivial (parOk rfl rfl))
       all_goals (try rfl)
      ·refine u_end trivial ?_
       refine vw_condF rfl ?_
       refine vw_skip ?_
       refine vw_seq ?_
       refine vw_region ?_
       refine u_loadAll rfl rfl rfl rfl rfl rfl trivial ?_
       refine u_storeAll rfl rfl rfl rfl rfl rfl rfl rfl trivial ?_
       refine u_assign rfl rfl trivial ?_
       refine u_end trivial ?_
       refine vw_ret ?_
       rw [read_good (by simpa using h15) (by rw [hx]; exact short_no2 (by omega)) (by rw [hx]; exact parsed2 (by omega)) h77]
       refine fin' [] (.inr rfl) (.cons (.cellN rfl rfl rfl rfl rfl) (.cons (.tmp rfl (nb rfl)) .nil)) (mk_wk [] rfl rfl ⟨⟨_, rfl, (.tup _ _ (.cons (.agg _ _ (.cons (subI ?_) (.cons (subI ?_) (.cons (subI ?_) (.cons (subI ?_) (.cons (subNs ?_) (.cons (subFz rfl (fzL rfl) ?_) .nil))))))) (.cons (subI ?_) .nil)))⟩, trivial⟩ trivial (parOk rfl rfl))
       all_goals (try rfl)
 ·refine u_not rfl rfl trivial ?_
  refine u_end trivial ?_
  refine vw_condT rfl ?_
  refine vw_seq ?_
  refine vw_region ?_
  refine u_build rfl rfl rfl rfl rfl trivial ?_
  refine u_storeAll rfl rfl rfl rfl rfl rfl rfl rfl trivial ?_
  refine u_assign rfl rfl trivial ?_
  refine u_end trivial ?_
  refine vw_ret ?_
  rw [read_no (by simpa using h15)]
  refine fin' [] (.inr rfl) (.cons (.cellN rfl rfl rfl rfl rfl) (.cons (.tmp rfl (nb rfl)) .nil)) (mk_wk [] rfl rfl ⟨⟨_, rfl, (.tup _ _ (.cons (.agg _ _ (.cons (subI ?_) (.cons (subI ?_) (.cons (subI ?_) (.cons (subI ?_) (.cons (subNs ?_) (.cons (subNs ?_) .nil))))))) (.cons (subI ?_) .nil)))⟩, trivial⟩ trivial (parOk rfl rfl))
  all_goals (try rfl)
theorem c82 (b : List UInt8) (hb : b.length ≤ 17592186043000) : VFun G 82 [.shr 1 (byteCells b)] [] (.tup [.agg (chunkAV (read b).1), .lit (.int .i64 (read b).2)]) [] := by
 have hol := opened_le b
 refine VFun.intro (fn := Try.f82) rfl rfl (by kernel_rfl) (nb rfl) fun Γ hpar => ?_
 refine vw_seq ?_
 refine vw_region ?_
 refine u_alloc 100 rfl rfl (notPar hpar rfl) rfl rfl trivial ?_
 refine u_assign rfl rfl trivial ?_
 refine u_end trivial ?_
 refine vw_seq ?_
 refine vw_region ?_
 refine u_assign rfl rfl trivial ?_
 refine u_end trivial ?_
 refine vw_seq ?_
 refine vw_region ?_
 refine u_move rfl rfl trivial ?_
 refine u_call rfl (c54 _ (by omega)) (.cons ((.shr _ _)) .nil) rfl trivial ?_
 refine u_move rfl rfl trivial ?_
 refine u_extract rfl rfl rfl trivial ?_
 refine u_extract rfl rfl rfl trivial ?_
 refine u_assign rfl rfl trivial ?_
 refine u_assign rfl rfl trivial ?_
 refine u_end trivial ?_
 refine vw_seq ?_
 refine vw_seq ?_
 refine vw_region ?_
 refine s_move rfl rfl trivial (fun h15 => ?_) (fun h15 => ?_)
 ·refine u_not rfl rfl trivial ?_
  refine u_end trivial ?_
  refine vw_condF rfl ?_
  refine vw_skip ?_
  refine vw_seq ?_
  refine vw_seq ?_
  rcases Nat.lt_or_ge (opened b).length 2 with hsh | hsh
  ·refine vw_region ?_
   refine u_move rfl rfl trivial ?_
   refine u_len rfl rfl rfl trivial ?_
   refine s_lss rfl rfl rfl trivial (fun h23 => ?_) (fun h23 => ?_)
   ·refine u_move rfl rfl trivial ?_
    refine u_skip rfl rfl rfl rfl rfl ?_
    refine u_skip rfl rfl rfl rfl rfl ?_
    refine u_skip rfl rfl rfl rfl rfl ?_
    refine u_skip rfl rfl rfl rfl rfl ?_
    refine u_skip rfl rfl rfl rfl rfl ?_
    refine u_skip rfl rfl rfl rfl rfl ?_
    refine u_skip rfl rfl rfl rfl rfl ?_
    refine u_skip rfl rfl rfl rfl rfl ?_
    refine u_skip rfl rfl rfl rfl rfl ?_
    refine u_pickT rfl rfl rfl trivial ?_
    refine u_end trivial ?_
    refine vw_condT rfl ?_
    refine vw_seq ?_
    refine vw_region ?_
    refine u_move rfl rfl trivial ?_
    refine u_callVF rfl rfl (c141 _) (.cons ((.lit _)) .nil) rfl trivial ?_
    refine u_extract rfl rfl rfl trivial ?_
    refine u_extract rfl rfl rfl trivial ?_
    refine u_storeAll rfl rfl rfl rfl rfl rfl rfl rfl trivial ?_
    refine u_assign rfl rfl trivial ?_
    refine u_end trivial ?_
    refine vw_ret ?_
    rw [read_short (by simpa using h15) (short_few (by omega))]
    refine fin' [] (.inr rfl) (.cons (.cellN rfl rfl rfl rfl rfl) (.cons (.tmp rfl (nb rfl)) .nil)) (mk_wk [] rfl rfl ⟨⟨_, rfl, (.tup _ _ (.cons (.agg _ _ (.cons (subI ?_) (.cons (subI ?_) (.cons (subI ?_) (.cons (subI ?_) (.cons (subS ?_) (.cons (subS ?_) .nil))))))) (.cons (subI ?_) .nil)))⟩, trivial⟩ trivial (parOk rfl rfl))
    all_goals (try rfl)
   ·simp only [byteCells_length] at h23; omega
  ·obtain ⟨k, n, r, hx⟩ := two_of hsh
   have hol2 : r.length + 2 ≤ b.length := by rw [hx] at hol; simpa using hol
   rw [hx]
   refine vw_region ?_
   refine u_move rfl rfl trivial ?_
   refine u_len rfl rfl rfl trivial ?_
   refine s_lss rfl rfl rfl trivial (fun h23 => ?_) (fun h23 => ?_)
   ·simp only [byteCells_length, List.length_cons] at h23; omega
   ·refine u_move rfl rfl trivial ?_
    refine u_move rfl rfl ⟨_, _, rfl, rfl, rfl, rfl⟩ ?_
    refine u_indexS rfl rfl rfl rfl rfl (i := 0) rfl rfl rfl ⟨_, _, rfl, rfl, rfl, rfl⟩ ?_
    refine u_loadS1 rfl rfl rfl rfl rfl ⟨_, _, rfl, rfl, rfl, rfl⟩ ?_
    refine s_eql rfl rfl rfl ⟨_, _, rfl, rfl, rfl, rfl⟩ (fun h28 => ?_) (fun h28 => ?_)
    ·refine u_move rfl rfl ⟨_, _, rfl, rfl, rfl, rfl⟩ ?_
     refine u_move rfl rfl ⟨_, _, rfl, rfl, rfl, rfl⟩ ?_
     refine u_len rfl rfl rfl ⟨_, _, rfl, rfl, rfl, rfl⟩ ?_
     refine s_lss rfl rfl rfl ⟨_, _, rfl, rfl, rfl, rfl⟩ (fun h32 => ?_) (fun h32 => ?_)
     ·refine u_pickT rfl rfl rfl ⟨_, _, rfl, rfl, rfl, rfl⟩ ?_
      refine u_pickF rfl rfl rfl trivial ?_
      refine u_end trivial ?_
      refine vw_condT rfl ?_
      refine vw_seq ?_
      refine vw_region ?_
      refine u_move rfl rfl trivial ?_
      refine u_callVF rfl rfl (c141 _) (.cons ((.lit _)) .nil) rfl trivial ?_
      refine u_extract rfl rfl rfl trivial ?_
      refine u_extract rfl rfl rfl trivial ?_
      refine u_storeAll rfl rfl rfl rfl rfl rfl rfl rfl trivial ?_
      refine u_assign rfl rfl trivial ?_
      refine u_end trivial ?_
      refine vw_ret ?_
      rw [read_short (by simpa using h15) (by rw [hx]; exact short_yes h28 (by simpa [byteCells_length] using h32))]
      refine fin' [] (.inr rfl) (.cons (.cellN rfl rfl rfl rfl rfl) (.cons (.tmp rfl (nb rfl)) .nil)) (mk_wk [] rfl rfl ⟨⟨_, rfl, (.tup _ _ (.cons (.agg _ _ (.cons (subI ?_) (.cons (subI ?_) (.cons (subI ?_) (.cons (subI ?_) (.cons (subS ?_) (.cons (subS ?_) .nil))))))) (.cons (subI ?_) .nil)))⟩, trivial⟩ trivial (parOk rfl rfl))
      all_goals (try rfl)
     ·refine u_pickT rfl rfl rfl ⟨_, _, rfl, rfl, rfl, rfl⟩ ?_
      refine u_pickF rfl rfl rfl trivial ?_
      refine u_end trivial ?_
      refine vw_condF rfl ?_
      refine vw_skip ?_
      refine vw_seq ?_
      refine vw_draw ?_
      refine u_move rfl rfl trivial ?_
      refine u_indexS rfl rfl rfl rfl rfl (i := 0) rfl rfl rfl trivial ?_
      refine u_loadS1 rfl rfl rfl rfl rfl trivial ?_
      refine u_convUp rfl (by have := k.toNat_lt; unfold inI; omega) rfl rfl rfl trivial ?_
      refine u_move rfl rfl trivial ?_
      refine u_indexS rfl rfl rfl rfl rfl (i := 1) rfl rfl rfl trivial ?_
      refine u_loadS1 rfl rfl rfl rfl rfl trivial ?_
      refine u_convUp rfl (by have := n.toNat_lt; unfold inI; omega) rfl rfl rfl trivial ?_
      refine u_build rfl rfl rfl rfl rfl trivial ?_
      refine u_alloc 101 rfl rfl (notPar hpar rfl) rfl rfl trivial ?_
      refine u_storeAll rfl rfl rfl rfl rfl rfl rfl rfl trivial ?_
      refine u_end (by kernel_rfl) ?_
      refine vw_seq ?_
      refine vw_seq ?_
      rcases Decidable.em ((k.toNat : Int) = 1) with hk | hk
      ·obtain ⟨s, p, d, rfl⟩ := two_of (l := r) (by simp only [byteCells_length, List.length_cons] at h32; omega)
       simp only [List.length_cons] at hol2
       refine vw_region ?_
       refine u_assign rfl rfl trivial ?_
       refine u_end trivial ?_
       refine vw_block ?_
       refine vw_loopR (fun n_ E => ∃ (j : Nat), ((j ≤ d.length + 2)) ∧ n_ = d.length + 2 - j ∧ E = ⟨[(4, .clo 141 []), (2, .ptr 2 0), (7, .ptr 7 0), (5, .shr 1 (byteCells (k :: n :: s :: p :: d))), (8, .lit (.int .i64 ((j + 2 : Nat) : Int)))], [(2, .box [.lit (.int .i64 0), .lit (.int .i64 0), .lit (.int .i64 0), .lit (.int .i64 0), .lit (.slice none 0 0), .lit (.slice none 0 0)]), (7, .box [.lit (.int .i64 k.toNat), .lit (.int .i64 n.toNat), .lit (.int .i64 (if 0 < j then (s.toNat : Int) else 0)), .lit (.int .i64 (if 1 < j then (p.toNat : Int) else 0)), .row 8, .lit (.slice none 0 0)]), (8, .row 5 1 (byteCells (d.take (j - 2))))], 105⟩) (n0 := _) (E0 := _) (⟨0, by omega, rfl, rfl⟩) (ren [(2, 100), (7, 101)]) (mk_wk [(2, 100), (7, 101)] rfl rfl ⟨⟨_, rfl, (.clo _ _ _ .nil)⟩, ⟨_, rfl, (.ptr _ _ _ rfl (lookNe rfl))⟩, ⟨_, rfl, (.ptr _ _ _ rfl (lookNe rfl))⟩, ⟨_, rfl, (.shr _ _)⟩, ⟨_, rfl, (subI (by rfl))⟩, trivial⟩ ⟨⟨_, _, rfl, rfl, (subPL rfl)⟩, ⟨_, _, rfl, rfl, (.cons ((.lit _)) (.cons ((.lit _)) (.cons (subI (by rfl)) (.cons (subI (by rfl)) (.cons (.nilrow _ _ _ _ rfl rfl) (.cons ((.lit _)) .nil))))))⟩, (.inr (.inl ⟨rfl, rfl⟩)), trivial⟩ (parOk hpar rfl)) (fun n_ E hR => ?_)
       obtain ⟨j, hI, rfl, rfl⟩ := hR
       have hI0 := hI
       refine vw_seq ?_
       refine vw_seq ?_
       refine vw_region ?_
       refine u_move rfl rfl trivial ?_
       refine u_move rfl rfl trivial ?_
       refine u_len rfl rfl rfl trivial ?_
       refine s_lss rfl rfl rfl trivial (fun h51 => ?_) (fun h51 => ?_)
       ·refine u_end trivial ?_
        refine vw_condT rfl ?_
        refine vw_skip ?_
        refine vw_seq ?_
        refine vw_block ?_
        refine vw_block ?_
        refine vw_seq ?_
        simp only [byteCells_length, List.length_cons] at h51
        refine vw_region ?_
        refine u_fieldAddr rfl rfl rfl rfl rfl rfl trivial ?_
        refine u_load1 rfl rfl rfl rfl rfl rfl trivial ?_
        refine s_neq rfl rfl rfl trivial (fun h66 => ?_) (fun h66 => ?_)
        ·omega
        ·refine u_assign rfl rfl trivial ?_
         refine u_end trivial ?_
         refine vw_condF rfl ?_
         refine vw_seq ?_
         refine vw_region ?_
         refine u_move rfl rfl trivial ?_
         refine s_eql rfl rfl rfl trivial (fun h79 => ?_) (fun h79 => ?_)
         ·refine u_assign rfl rfl trivial ?_
          refine u_end trivial ?_
          refine vw_condT rfl ?_
          refine vw_region ?_
          refine u_move rfl rfl trivial ?_
          refine u_move rfl rfl trivial ?_
          refine u_indexS rfl rfl rfl rfl rfl (i := 2) (by omega) rfl rfl trivial ?_
          refine u_loadS1 rfl rfl rfl rfl rfl trivial ?_
          refine u_convUp rfl (by have := s.toNat_lt; unfold inI; omega) rfl rfl rfl trivial ?_
          refine u_fieldAddr rfl rfl rfl rfl rfl rfl trivial ?_
          refine u_store rfl rfl rfl rfl rfl rfl rfl trivial ?_
          refine u_end trivial ?_
          refine vw_region ?_
          refine u_move rfl rfl trivial ?_
          refine u_add rfl rfl rfl (by unfold inI; omega) rfl trivial ?_
          refine u_assign rfl rfl trivial ?_
          refine u_end trivial ?_
          refine ⟨_, _, ren [(2, 2), (7, 7), (8, 8)], ?_, ⟨j + 1, ?_, rfl, rfl⟩, mk_wk [(2, 2), (7, 7), (8, 8)] rfl rfl ⟨⟨_, rfl, (.clo _ _ _ .nil)⟩, ⟨_, rfl, (.ptr _ _ _ rfl (lookNe rfl))⟩, ⟨_, rfl, (.ptr _ _ _ rfl (lookNe rfl))⟩, ⟨_, rfl, (.shr _ _)⟩, ⟨_, rfl, (subI (by omega))⟩, trivial⟩ ⟨⟨_, _, rfl, rfl, (subPL rfl)⟩, ⟨_, _, rfl, rfl, (.cons ((.lit _)) (.cons ((.lit _)) (.cons (subI (by rw [if_pos (by omega)])) (.cons (subI (by rw [if_neg (by omega), if_neg (by omega)])) (.cons ((.row _ _ rfl (lookNe rfl))) (.cons ((.lit _)) .nil))))))⟩, (.inl ⟨_, rfl, rowEq rfl (by rw [show j + 1 - 2 = j - 2 by omega])⟩), trivial⟩ (parOk hpar rfl)⟩
          ·omega
          ·omega
         ·refine u_assign rfl rfl trivial ?_
          refine u_end trivial ?_
          refine vw_condF rfl ?_
          refine vw_seq ?_
          refine vw_region ?_
          refine u_move rfl rfl trivial ?_
          refine s_eql rfl rfl rfl trivial (fun h88 => ?_) (fun h88 => ?_)
          ·refine u_assign rfl rfl trivial ?_
           refine u_end trivial ?_
           refine vw_condT rfl ?_
           refine vw_region ?_
           refine u_move rfl rfl trivial ?_
           refine u_move rfl rfl trivial ?_
           refine u_indexS rfl rfl rfl rfl rfl (i := 3) (by omega) rfl rfl trivial ?_
           refine u_loadS1 rfl rfl rfl rfl rfl trivial ?_
           refine u_convUp rfl (by have := p.toNat_lt; unfold inI; omega) rfl rfl rfl trivial ?_
           refine u_fieldAddr rfl rfl rfl rfl rfl rfl trivial ?_
           refine u_store rfl rfl rfl rfl rfl rfl rfl trivial ?_
           refine u_end trivial ?_
           refine vw_region ?_
           refine u_move rfl rfl trivial ?_
           refine u_add rfl rfl rfl (by unfold inI; omega) rfl trivial ?_
           refine u_assign rfl rfl trivial ?_
           refine u_end trivial ?_
           refine ⟨_, _, ren [(2, 2), (7, 7), (8, 8)], ?_, ⟨j + 1, ?_, rfl, rfl⟩, mk_wk [(2, 2), (7, 7), (8, 8)] rfl rfl ⟨⟨_, rfl, (.clo _ _ _ .nil)⟩, ⟨_, rfl, (.ptr _ _ _ rfl (lookNe rfl))⟩, ⟨_, rfl, (.ptr _ _ _ rfl (lookNe rfl))⟩, ⟨_, rfl, (.shr _ _)⟩, ⟨_, rfl, (subI (by omega))⟩, trivial⟩ ⟨⟨_, _, rfl, rfl, (subPL rfl)⟩, ⟨_, _, rfl, rfl, (.cons ((.lit _)) (.cons ((.lit _)) (.cons (subI (by rw [if_pos (by omega), if_pos (by omega)])) (.cons (subI (by rw [if_pos (by omega)])) (.cons ((.row _ _ rfl (lookNe rfl))) (.cons ((.lit _)) .nil))))))⟩, (.inl ⟨_, rfl, rowEq rfl (by rw [show j + 1 - 2 = j - 2 by omega])⟩), trivial⟩ (parOk hpar rfl)⟩
           ·omega
           ·omega
          ·refine u_assign rfl rfl trivial ?_
           refine u_end trivial ?_
           refine vw_condF rfl ?_
           obtain ⟨m, rfl⟩ : ∃ m, j = m + 2 := ⟨j - 2, by omega⟩
           refine vw_draw ?_
           refine u_fieldAddr rfl rfl rfl rfl rfl rfl trivial ?_
           refine u_load1 rfl rfl rfl rfl rfl rfl trivial ?_
           refine u_move rfl rfl trivial ?_
           refine u_move rfl rfl trivial ?_
           refine u_indexS rfl rfl rfl rfl rfl rfl (show _ from byteCells_get (bs := d) (i := m) (by omega)) rfl trivial ?_
           refine u_loadS1 rfl rfl rfl rfl rfl trivial ?_
           refine u_buildSlice 122 rfl rfl rfl rfl rfl rfl rfl rfl rfl rfl (notPar hpar rfl) rfl rfl trivial ?_
           refine u_append 123 rfl rfl rfl (srcRow rfl) rfl (notPar hpar rfl) rfl rfl rfl rfl rfl (by simp [cellsL, byteCells_length]; omega) rfl trivial ?_
           refine u_fieldAddr rfl rfl rfl rfl rfl rfl trivial ?_
           refine u_store rfl rfl rfl rfl rfl rfl rfl trivial ?_
           refine u_end (by kernel_rfl) ?_
           refine vw_region ?_
           refine u_move rfl rfl trivial ?_
           refine u_add rfl rfl rfl (by unfold inI; omega) rfl trivial ?_
           refine u_assign rfl rfl trivial ?_
           refine u_end trivial ?_
           refine ⟨_, _, ren [(2, 2), (7, 7), (8, 123)], ?_, ⟨m + 2 + 1, ?_, rfl, rfl⟩, mk_wk [(2, 2), (7, 7), (8, 123)] rfl rfl ⟨⟨_, rfl, (.clo _ _ _ .nil)⟩, ⟨_, rfl, (.ptr _ _ _ rfl (lookNe rfl))⟩, ⟨_, rfl, (.ptr _ _ _ rfl (lookNe rfl))⟩, ⟨_, rfl, (.shr _ _)⟩, ⟨_, rfl, (subI (by omega))⟩, trivial⟩ ⟨⟨_, _, rfl, rfl, (subPL rfl)⟩, ⟨_, _, rfl, rfl, (.cons ((.lit _)) (.cons ((.lit _)) (.cons (subI (by rw [if_pos (by omega), if_pos (by omega)])) (.cons (subI (by rw [if_pos (by omega), if_pos (by omega)])) (.cons ((.row _ _ rfl (lookNe rfl))) (.cons ((.lit _)) .nil))))))⟩, (.inl ⟨_, rfl, rowEq rfl (by rw [show m + 2 + 1 - 2 = m + 1 by omega, show m + 2 - 2 = m by omega, ← List.take_append_getElem (show m < d.length by omega), byteCells_append]; rfl)⟩), trivial⟩ (parOk hpar rfl)⟩
           ·omega
           ·omega
       ·refine u_end trivial ?_
        refine vw_condF rfl ?_
        refine vw_exit ?_
        refine iteP rfl ?_
        refine vw_seq ?_
        refine vw_seq ?_
        simp only [byteCells_length, List.length_cons] at h51
        rw [List.take_of_length_le (by omega), if_pos (by omega), if_pos (by omega)]
        refine vw_region ?_
        refine u_loadAll rfl rfl rfl rfl rfl rfl trivial ?_
        refine u_callB [(8, _)] rfl (c77 ⟨k.toNat, n.toNat, s.toNat, p.toNat, d, []⟩) (.cons ((.agg _ _ (.cons ((.lit _)) (.cons ((.lit _)) (.cons ((.lit _)) (.cons ((.lit _)) (.cons (.frz _ _ _ _ rfl (lookNe rfl)) (.cons (.nilshr _) .nil)))))))) .nil) (sub1 rfl) rfl rfl trivial ?_
        refine u_assign rfl rfl trivial ?_
        refine u_end trivial ?_
        refine vw_seq ?_
        refine vw_region ?_
        refine u_move rfl rfl trivial ?_
        refine s_neq rfl rfl rfl trivial (fun h98 => ?_) (fun h98 => ?_)
        ·refine u_end trivial ?_
         refine vw_condT rfl ?_
         refine vw_seq ?_
         refine vw_region ?_
         refine u_move rfl rfl trivial ?_
         refine u_move rfl rfl trivial ?_
         refine u_callVF rfl rfl (c141 _) (.cons ((.lit _)) .nil) rfl trivial ?_
         refine u_extract rfl rfl rfl trivial ?_
         refine u_extract rfl rfl rfl trivial ?_
         refine u_storeAll rfl rfl rfl rfl rfl rfl rfl rfl trivial ?_
         refine u_assign rfl rfl trivial ?_
         refine u_end trivial ?_
         refine vw_ret ?_
         rw [read_bad (by simpa using h15) (by rw [hx]; exact short_no1) (by rw [hx]; exact parsed1 (by omega)) h98]
         refine fin' [] (.inr rfl) (.cons (.cellN rfl rfl rfl rfl rfl) (.cons (.tmp rfl (nb rfl)) .nil)) (mk_wk [] rfl rfl ⟨⟨_, rfl, (.tup _ _ (.cons (.agg _ _ (.cons (subI ?_) (.cons (subI ?_) (.cons (subI ?_) (.cons (subI ?_) (.cons (subS ?_) (.cons (subS ?_) .nil))))))) (.cons (subI ?_) .nil)))⟩, trivial⟩ trivial (parOk rfl rfl))
         all_goals (try rfl)
        ·refine u_end trivial ?_
         refine vw_condF rfl ?_
         refine vw_skip ?_
         refine vw_seq ?_
         refine vw_region ?_
         refine u_loadAll rfl rfl rfl rfl rfl rfl trivial ?_
         refine u_storeAll rfl rfl rfl rfl rfl rfl rfl rfl trivial ?_
         refine u_assign rfl rfl trivial ?_
         refine u_end trivial ?_
         refine vw_ret ?_
         rw [read_good (by simpa using h15) (by rw [hx]; exact short_no1) (by rw [hx]; exact parsed1 (by omega)) h98]
         refine fin' [] (.inr rfl) (.cons (.cellN rfl rfl rfl rfl rfl) (.cons (.tmp rfl (nb rfl)) .nil)) (mk_wk [] rfl rfl ⟨⟨_, rfl, (.tup _ _ (.cons (.agg _ _ (.cons (subI ?_) (.cons (subI ?_) (.cons (subI ?_) (.cons (subI ?_) (.cons (subFz rfl (fzL rfl) ?_) (.cons (subNs ?_) .nil))))))) (.cons (subI ?_) .nil)))⟩, trivial⟩ trivial (parOk rfl rfl))
         all_goals (try rfl)
      ·omega
    ·refine u_move rfl rfl ⟨_, _, rfl, rfl, rfl, rfl⟩ ?_
     refine u_skip rfl rfl rfl rfl rfl ?_
     refine u_skip rfl rfl rfl rfl rfl ?_
     refine u_skip rfl rfl rfl rfl rfl ?_
     refine u_pickF rfl rfl rfl ⟨_, _, rfl, rfl, rfl, rfl⟩ ?_
     refine u_pickF rfl rfl rfl trivial ?_
     refine u_end trivial ?_
     refine vw_condF rfl ?_
     refine vw_skip ?_
     refine vw_seq ?_
     refine vw_draw ?_
     refine u_move rfl rfl trivial ?_
     refine u_indexS rfl rfl rfl rfl rfl (i := 0) rfl rfl rfl trivial ?_
     refine u_loadS1 rfl rfl rfl rfl rfl trivial ?_
     refine u_convUp rfl (by have := k.toNat_lt; unfold inI; omega) rfl rfl rfl trivial ?_
     refine u_move rfl rfl trivial ?_
     refine u_indexS rfl rfl rfl rfl rfl (i := 1) rfl rfl rfl trivial ?_
     refine u_loadS1 rfl rfl rfl rfl rfl trivial ?_
     refine u_convUp rfl (by have := n.toNat_lt; unfold inI; omega) rfl rfl rfl trivial ?_
     refine u_build rfl rfl rfl rfl rfl trivial ?_
     refine u_alloc 101 rfl rfl (notPar hpar rfl) rfl rfl trivial ?_
     refine u_storeAll rfl rfl rfl rfl rfl rfl rfl rfl trivial ?_
     refine u_end (by kernel_rfl) ?_
     refine vw_seq ?_
     refine vw_seq ?_
     rcases Decidable.em ((k.toNat : Int) = 1) with hk | hk
     ·omega
     ·refine vw_region ?_
      refine u_assign rfl rfl trivial ?_
      refine u_end trivial ?_
      refine vw_block ?_
      refine vw_loopR (fun n_ E => ∃ (j : Nat), ((j ≤ r.length)) ∧ n_ = r.length - j ∧ E = ⟨[(4, .clo 141 []), (2, .ptr 2 0), (7, .ptr 7 0), (5, .shr 1 (byteCells (k :: n :: r))), (8, .lit (.int .i64 ((j + 2 : Nat) : Int)))], [(2, .box [.lit (.int .i64 0), .lit (.int .i64 0), .lit (.int .i64 0), .lit (.int .i64 0), .lit (.slice none 0 0), .lit (.slice none 0 0)]), (7, .box [.lit (.int .i64 k.toNat), .lit (.int .i64 n.toNat), .lit (.int .i64 0), .lit (.int .i64 0), .lit (.slice none 0 0), .row 8]), (8, .row 3 1 (intCells (ints (r.take j))))], 105⟩) (n0 := _) (E0 := _) (⟨0, by omega, rfl, rfl⟩) (ren [(2, 100), (7, 101)]) (mk_wk [(2, 100), (7, 101)] rfl rfl ⟨⟨_, rfl, (.clo _ _ _ .nil)⟩, ⟨_, rfl, (.ptr _ _ _ rfl (lookNe rfl))⟩, ⟨_, rfl, (.ptr _ _ _ rfl (lookNe rfl))⟩, ⟨_, rfl, (.shr _ _)⟩, ⟨_, rfl, (subI (by rfl))⟩, trivial⟩ ⟨⟨_, _, rfl, rfl, (subPL rfl)⟩, ⟨_, _, rfl, rfl, (.cons ((.lit _)) (.cons ((.lit _)) (.cons (subI (by rfl)) (.cons (subI (by rfl)) (.cons ((.lit _)) (.cons (.nilrow _ _ _ _ rfl rfl) .nil))))))⟩, (.inr (.inl ⟨rfl, rfl⟩)), trivial⟩ (parOk hpar rfl)) (fun n_ E hR => ?_)
      obtain ⟨j, hI, rfl, rfl⟩ := hR
      have hI0 := hI
      refine vw_seq ?_
      refine vw_seq ?_
      refine vw_region ?_
      refine u_move rfl rfl trivial ?_
      refine u_move rfl rfl trivial ?_
      refine u_len rfl rfl rfl trivial ?_
      refine s_lss rfl rfl rfl trivial (fun h51 => ?_) (fun h51 => ?_)
      ·refine u_end trivial ?_
       refine vw_condT rfl ?_
       refine vw_skip ?_
       refine vw_seq ?_
       refine vw_block ?_
       refine vw_block ?_
       refine vw_seq ?_
       simp only [byteCells_length, List.length_cons] at h51
       refine vw_region ?_
       refine u_fieldAddr rfl rfl rfl rfl rfl rfl trivial ?_
       refine u_load1 rfl rfl rfl rfl rfl rfl trivial ?_
       refine s_neq rfl rfl rfl trivial (fun h66 => ?_) (fun h66 => ?_)
       ·refine u_assign rfl rfl trivial ?_
        refine u_end trivial ?_
        refine vw_condT rfl ?_
        refine vw_draw ?_
        refine u_fieldAddr rfl rfl rfl rfl rfl rfl trivial ?_
        refine u_load1 rfl rfl rfl rfl rfl rfl trivial ?_
        refine u_move rfl rfl trivial ?_
        refine u_move rfl rfl trivial ?_
        refine u_indexS rfl rfl rfl rfl rfl rfl (show _ from byteCells_get (bs := r) (i := j) (by omega)) rfl trivial ?_
        refine u_loadS1 rfl rfl rfl rfl rfl trivial ?_
        refine u_convUp rfl (by have := (r[j]'(by omega)).toNat_lt; unfold inI; omega) rfl rfl rfl trivial ?_
        refine u_buildSlice 122 rfl rfl rfl rfl rfl rfl rfl rfl rfl rfl (notPar hpar rfl) rfl rfl trivial ?_
        refine u_append 123 rfl rfl rfl (srcRow rfl) rfl (notPar hpar rfl) rfl rfl rfl rfl rfl (by simp [cellsL, intCells_length, ints_length]; omega) rfl trivial ?_
        refine u_fieldAddr rfl rfl rfl rfl rfl rfl trivial ?_
        refine u_store rfl rfl rfl rfl rfl rfl rfl trivial ?_
        refine u_end (by kernel_rfl) ?_
        refine vw_region ?_
        refine u_move rfl rfl trivial ?_
        refine u_add rfl rfl rfl (by unfold inI; omega) rfl trivial ?_
        refine u_assign rfl rfl trivial ?_
        refine u_end trivial ?_
        refine ⟨_, _, ren [(2, 2), (7, 7), (8, 123)], ?_, ⟨j + 1, ?_, rfl, rfl⟩, mk_wk [(2, 2), (7, 7), (8, 123)] rfl rfl ⟨⟨_, rfl, (.clo _ _ _ .nil)⟩, ⟨_, rfl, (.ptr _ _ _ rfl (lookNe rfl))⟩, ⟨_, rfl, (.ptr _ _ _ rfl (lookNe rfl))⟩, ⟨_, rfl, (.shr _ _)⟩, ⟨_, rfl, (subI (by omega))⟩, trivial⟩ ⟨⟨_, _, rfl, rfl, (subPL rfl)⟩, ⟨_, _, rfl, rfl, (.cons ((.lit _)) (.cons ((.lit _)) (.cons ((.lit _)) (.cons ((.lit _)) (.cons ((.lit _)) (.cons ((.row _ _ rfl (lookNe rfl))) .nil))))))⟩, (.inl ⟨_, rfl, rowEq rfl (by rw [ints_snoc r (by omega), ← intCells_snoc]; rfl)⟩), trivial⟩ (parOk hpar rfl)⟩
        ·omega
        ·omega
       ·omega
      ·refine u_end trivial ?_
       refine vw_condF rfl ?_
       refine vw_exit ?_
       refine iteP rfl ?_
       refine vw_seq ?_
       refine vw_seq ?_
       simp only [byteCells_length, List.length_cons] at h51
       rw [List.take_of_length_le (by omega)]
       refine vw_region ?_
       refine u_loadAll rfl rfl rfl rfl rfl rfl trivial ?_
       refine u_callB [(8, _)] rfl (c77 ⟨k.toNat, n.toNat, 0, 0, [], ints r⟩) (.cons ((.agg _ _ (.cons ((.lit _)) (.cons ((.lit _)) (.cons ((.lit _)) (.cons ((.lit _)) (.cons (.nilshr _) (.cons (.frz _ _ _ _ rfl (lookNe rfl)) .nil)))))))) .nil) (sub1 rfl) rfl rfl trivial ?_
       refine u_assign rfl rfl trivial ?_
       refine u_end trivial ?_
       refine vw_seq ?_
       refine vw_region ?_
       refine u_move rfl rfl trivial ?_
       refine s_neq rfl rfl rfl trivial (fun h98 => ?_) (fun h98 => ?_)
       ·refine u_end trivial ?_
        refine vw_condT rfl ?_
        refine vw_seq ?_
        refine vw_region ?_
        refine u_move rfl rfl trivial ?_
        refine u_move rfl rfl trivial ?_
        refine u_callVF rfl rfl (c141 _) (.cons ((.lit _)) .nil) rfl trivial ?_
        refine u_extract rfl rfl rfl trivial ?_
        refine u_extract rfl rfl rfl trivial ?_
        refine u_storeAll rfl rfl rfl rfl rfl rfl rfl rfl trivial ?_
        refine u_assign rfl rfl trivial ?_
        refine u_end trivial ?_
        refine vw_ret ?_
        rw [read_bad (by simpa using h15) (by rw [hx]; exact short_no2 (by omega)) (by rw [hx]; exact parsed2 (by omega)) h98]
        refine fin' [] (.inr rfl) (.cons (.cellN rfl rfl rfl rfl rfl) (.cons (.tmp rfl (nb rfl)) .nil)) (mk_wk [] rfl rfl ⟨⟨_, rfl, (.tup _ _ (.cons (.agg _ _ (.cons (subI ?_) (.cons (subI ?_) (.cons (subI ?_) (.cons (subI ?_) (.cons (subS ?_) (.cons (subS ?_) .nil))))))) (.cons (subI ?_) .nil)))⟩, trivial⟩ trivial (parOk rfl rfl))
        all_goals (try rfl)
       ·refine u_end trivial ?_
        refine vw_condF rfl ?_
        refine vw_skip ?_
        refine vw_seq ?_
        refine vw_region ?_
        refine u_loadAll rfl rfl rfl rfl rfl rfl trivial ?_
        refine u_storeAll rfl rfl rfl rfl rfl rfl rfl rfl trivial ?_
        refine u_assign rfl rfl trivial ?_
        refine u_end trivial ?_
        refine vw_ret ?_
        rw [read_good (by simpa using h15) (by rw [hx]; exact short_no2 (by omega)) (by rw [hx]; exact parsed2 (by omega)) h98]
        refine fin' [] (.inr rfl) (.cons (.cellN rfl rfl rfl rfl rfl) (.cons (.tmp rfl (nb rfl)) .nil)) (mk_wk [] rfl rfl ⟨⟨_, rfl, (.tup _ _ (.cons (.agg _ _ (.cons (subI ?_) (.cons (subI ?_) (.cons (subI ?_) (.cons (subI ?_) (.cons (subNs ?_) (.cons (subFz rfl (fzL rfl) ?_) .nil))))))) (.cons (subI ?_) .nil)))⟩, trivial⟩ trivial (parOk rfl rfl))
        all_goals (try rfl)
 ·refine u_not rfl rfl trivial ?_
  refine u_end trivial ?_
  refine vw_condT rfl ?_
  refine vw_seq ?_
  refine vw_region ?_
  refine u_move rfl rfl trivial ?_
  refine u_callVF rfl rfl (c141 _) (.cons ((.lit _)) .nil) rfl trivial ?_
  refine u_extract rfl rfl rfl trivial ?_
  refine u_extract rfl rfl rfl trivial ?_
  refine u_storeAll rfl rfl rfl rfl rfl rfl rfl rfl trivial ?_
  refine u_assign rfl rfl trivial ?_
  refine u_end trivial ?_
  refine vw_ret ?_
  rw [read_no (by simpa using h15)]
  refine fin' [] (.inr rfl) (.cons (.cellN rfl rfl rfl rfl rfl) (.cons (.tmp rfl (nb rfl)) .nil)) (mk_wk [] rfl rfl ⟨⟨_, rfl, (.tup _ _ (.cons (.agg _ _ (.cons (subI ?_) (.cons (subI ?_) (.cons (subI ?_) (.cons (subI ?_) (.cons (subS ?_) (.cons (subS ?_) .nil))))))) (.cons (subI ?_) .nil)))⟩, trivial⟩ trivial (parOk rfl rfl))
  all_goals (try rfl)
end Go.Proofs.Ytaadloihphpdbaa
