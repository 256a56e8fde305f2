/- Walks of the package text: how messages are printed, and read. Printed by a small program (walk.py). -/
import Derived.Test.YtaadloihphpdbaaVcT
import Derived.Test.YtaadloihphpdbaaPText
import Derived.Test.YtaadloihphpdbaaVcTab
import Derived.Test.YtaadloihphpdbaaWPlain
import Derived.Test.YtaadloihphpdbaaWChunk
set_option linter.unusedVariables false
set_option linter.unusedSimpArgs false
set_option maxRecDepth 4000
namespace Go.Proofs.Ytaadloihphpdbaa
open Go Go.Vc Go.RowKit
theorem headD_0 {l : List UInt8} (h : 0 < l.length) : l.headD 0 = l[0]'h := by
  match l, h with
  | a :: r, _ => rfl
theorem noHead {s : List UInt8} (h : cutF s 58 = true → (cutB s 58).length = 1 → 48 ≤ ((cutB s 58).headD 0).toNat ∧ ((cutB s 58).headD 0).toNat ≤ 57 → (cutA s 58).length % 2 = 0 → False) : headOk s = false := by
  cases hh : headOk s with
  | false => rfl
  | true =>
    rw [cut_head] at hh
    simp only [Bool.and_eq_true, decide_eq_true_eq] at hh
    obtain ⟨⟨⟨q1, q2⟩, q3⟩, q4⟩ := hh
    exact (h q1 q2 q3 q4).elim
theorem hexL_small (m : Nat) (h : m < hexL.length) : (hexL[m]'h).toNat < 128 := by
  rw [show hexL[m]'h = hexD m from hexD_get m h]; exact hexD_small m h
theorem upTo_16 {x : UInt8} {k : Nat} (h : k ≤ 16) (h2 : (16 : Int) ≤ k) : upTo x k = hexI x := by
  have : k = 16 := by omega
  rw [this, upTo_all]
theorem three {z : Int} (h0 : 0 ≤ z) (h1 : z ≤ 2) : (cellsL [(0, AV.lit (.string ⟨#[48, 58]⟩)), (1, .lit (.string ⟨#[49, 58]⟩)), (2, .lit (.string ⟨#[50, 58]⟩))])[z.toNat]? = some [.lit (.string (tx [hexD z.toNat, 58]))] := by
  obtain h | h | h : z = 0 ∨ z = 1 ∨ z = 2 := by omega
  all_goals subst h; rfl

theorem c169 (s : List UInt8) (c : UInt8) : VFun G 169 [.lit (.string (tx s)), .lit (.string (tx [c]))] [] (.lit (.int .i64 (Lib.indexByte s c))) [] := by
 refine VFun.intro (fn := Try.f169) rfl rfl (by kernel_rfl) (nb rfl) fun Γ hpar => ?_
 refine vw_seq ?_
 refine vw_region ?_
 refine u_assign rfl rfl trivial ?_
 refine u_end trivial ?_
 refine vw_seq ?_
 refine vw_region ?_
 refine u_move rfl rfl trivial ?_
 refine u_lenT rfl rfl rfl trivial ?_
 refine u_assign rfl rfl trivial ?_
 refine u_end trivial ?_
 refine vw_seq ?_
 refine vw_block ?_
 refine vw_seq ?_
 refine vw_region ?_
 refine u_move rfl rfl trivial ?_
 refine s_eql rfl rfl rfl trivial (fun h18 => ?_) (fun h18 => ?_)
 ·rw [tx_size] at h18; simp at h18
 ·refine u_move rfl rfl trivial ?_
  refine u_move rfl rfl ⟨_, _, rfl, rfl, rfl, rfl⟩ ?_
  refine u_move rfl rfl ⟨_, _, rfl, rfl, rfl, rfl⟩ ?_
  refine s_eqlT rfl rfl rfl ⟨_, _, rfl, rfl, rfl, rfl⟩ (fun h22 => ?_) (fun h22 => ?_)
  ·refine u_pickF rfl rfl rfl trivial ?_
   refine u_assign rfl rfl trivial ?_
   refine u_end trivial ?_
   refine vw_condT rfl ?_
   refine vw_seq ?_
   refine vw_region ?_
   refine u_assign rfl rfl trivial ?_
   refine u_end trivial ?_
   refine vw_ret ?_
   refine fin0 (.inr rfl) (.cons (.tmp rfl (nb rfl)) .nil) (subI ?_)
   ·have e : s = [c] := by rw [tx_toList, tx_toList] at h22; exact h22.symm
    subst e
    simp [Lib.indexByte]
  ·refine u_pickF rfl rfl rfl trivial ?_
   refine u_assign rfl rfl trivial ?_
   refine u_end trivial ?_
   refine vw_condF rfl ?_
   refine vw_seq ?_
   refine vw_region ?_
   refine u_move rfl rfl trivial ?_
   refine s_eql rfl rfl rfl trivial (fun h26 => ?_) (fun h26 => ?_)
   ·refine u_assign rfl rfl trivial ?_
    refine u_end trivial ?_
    refine vw_condT rfl ?_
    refine vw_seq ?_
    refine vw_region ?_
    refine u_move rfl rfl trivial ?_
    refine u_move rfl rfl trivial ?_
    refine u_indexX (bs := [c]) (i := 0) rfl rfl rfl rfl (by rfl) (by exact Nat.zero_lt_one) rfl trivial ?_
    refine u_call rfl (c163 _ _) (.cons ((.lit _)) (.cons ((.lit _)) .nil)) rfl trivial ?_
    refine u_assign rfl rfl trivial ?_
    refine u_end trivial ?_
    refine vw_ret ?_
    refine fin0 (.inr rfl) (.cons (.tmp rfl (nb rfl)) .nil) (subI ?_)
    ·rfl
   ·rw [tx_size] at h26; simp at h26
theorem c147 (s : List UInt8) (c : UInt8) : VFun G 147 [.lit (.string (tx s)), .lit (.int .u8 (c.toNat : Int))] [] (.lit (.int .i64 (Lib.indexByte s c))) [] := by
 refine VFun.intro (fn := Try.f147) rfl rfl (by kernel_rfl) (nb rfl) fun Γ hpar => ?_
 refine vw_seq ?_
 refine vw_region ?_
 refine u_assign rfl rfl trivial ?_
 refine u_end trivial ?_
 refine vw_seq ?_
 refine vw_region ?_
 refine u_move rfl rfl trivial ?_
 refine u_move rfl rfl trivial ?_
 refine u_call rfl (c163 _ _) (.cons ((.lit _)) (.cons ((.lit _)) .nil)) rfl trivial ?_
 refine u_assign rfl rfl trivial ?_
 refine u_end trivial ?_
 refine vw_ret ?_
 refine fin0 (.inr rfl) (.cons (.tmp rfl (nb rfl)) .nil) (subI ?_)
 ·rfl
theorem c162 (s : List UInt8) (c : UInt8) (hs : s.length ≤ 4611686018427387904) : VFun G 162 [.lit (.string (tx s)), .lit (.string (tx [c]))] [] (.tup [.lit (.string (tx (cutB s c))), .lit (.string (tx (cutA s c))), .lit (.bool (cutF s c))]) [] := by
 refine VFun.intro (fn := Try.f162) rfl rfl (by kernel_rfl) (nb rfl) fun Γ hpar => ?_
 refine vw_seq ?_
 refine vw_region ?_
 refine u_assign rfl rfl trivial ?_
 refine u_assign rfl rfl trivial ?_
 refine u_assign rfl rfl trivial ?_
 refine u_end trivial ?_
 refine vw_seq ?_
 refine vw_seq ?_
 refine vw_region ?_
 refine u_move rfl rfl trivial ?_
 refine u_move rfl rfl trivial ?_
 refine u_call rfl (c169 _ _) (.cons ((.lit _)) (.cons ((.lit _)) .nil)) rfl trivial ?_
 refine u_assign rfl rfl trivial ?_
 refine u_end trivial ?_
 refine vw_seq ?_
 have hge := Lib.indexByte_ge s c
 refine vw_region ?_
 refine u_move rfl rfl trivial ?_
 refine s_geq rfl rfl rfl trivial (fun h12 => ?_) (fun h12 => ?_)
 ·refine u_end trivial ?_
  refine vw_condT rfl ?_
  refine vw_seq ?_
  have hlt := idx_lt s c h12
  refine vw_draw ?_
  refine u_move rfl rfl trivial ?_
  refine u_move rfl rfl trivial ?_
  refine u_sliceXHi (Lib.indexByte s c).toNat (bs := s) rfl rfl rfl (by omega) (by omega) rfl rfl trivial ?_
  refine u_move rfl rfl trivial ?_
  refine u_move rfl rfl trivial ?_
  refine u_move rfl rfl trivial ?_
  refine u_lenT rfl rfl rfl trivial ?_
  refine u_add rfl rfl rfl (by unfold inI; rw [tx_size]; simp only [List.length_cons, List.length_nil]; omega) rfl trivial ?_
  refine u_sliceXLo ((Lib.indexByte s c).toNat + 1) (bs := s) rfl rfl rfl (by rw [tx_size]; simp only [List.length_cons, List.length_nil]; omega) (by omega) rfl rfl trivial ?_
  refine u_assign rfl rfl trivial ?_
  refine u_assign rfl rfl trivial ?_
  refine u_assign rfl rfl trivial ?_
  refine u_end (by kernel_rfl) ?_
  refine vw_ret ?_
  refine fin0 (.inr rfl) (.cons (.tmp rfl (nb rfl)) (.cons (.tmp rfl (nb rfl)) (.cons (.tmp rfl (nb rfl)) .nil))) (.tup _ _ (.cons (subT ?_) (.cons (subT ?_) (.cons (subB ?_) .nil))))
  ·rw [cutB, if_pos h12]
  ·rw [cutA, if_pos h12]
  ·exact decide_eq_true h12
 ·refine u_end trivial ?_
  refine vw_condF rfl ?_
  refine vw_skip ?_
  refine vw_seq ?_
  refine vw_region ?_
  refine u_move rfl rfl trivial ?_
  refine u_assign rfl rfl trivial ?_
  refine u_assign rfl rfl trivial ?_
  refine u_assign rfl rfl trivial ?_
  refine u_end trivial ?_
  refine vw_ret ?_
  refine fin0 (.inr rfl) (.cons (.tmp rfl (nb rfl)) (.cons (.tmp rfl (nb rfl)) (.cons (.tmp rfl (nb rfl)) .nil))) (.tup _ _ (.cons (subT ?_) (.cons (subT ?_) (.cons (subB ?_) .nil))))
  ·rw [cutB, if_neg (by omega)]
  ·rw [cutA, if_neg (by omega)]; rfl
  ·exact decide_eq_false (by omega)
theorem c146 (s : List UInt8) (hs : s.length ≤ 4611686018427387904) : VFun G 146 [.lit (.string (tx s)), .lit (.string (tx [58]))] [] (.tup [.lit (.string (tx (cutB s 58))), .lit (.string (tx (cutA s 58))), .lit (.bool (cutF s 58))]) [] := by
 refine VFun.intro (fn := Try.f146) rfl rfl (by kernel_rfl) (nb rfl) fun Γ hpar => ?_
 refine vw_seq ?_
 refine vw_region ?_
 refine u_assign rfl rfl trivial ?_
 refine u_assign rfl rfl trivial ?_
 refine u_assign rfl rfl trivial ?_
 refine u_end trivial ?_
 refine vw_seq ?_
 refine vw_region ?_
 refine u_move rfl rfl trivial ?_
 refine u_move rfl rfl trivial ?_
 refine u_call rfl (c162 _ 58 (by omega)) (.cons ((.lit _)) (.cons ((.lit _)) .nil)) rfl trivial ?_
 refine u_extract rfl rfl rfl trivial ?_
 refine u_extract rfl rfl rfl trivial ?_
 refine u_extract rfl rfl rfl trivial ?_
 refine u_assign rfl rfl trivial ?_
 refine u_assign rfl rfl trivial ?_
 refine u_assign rfl rfl trivial ?_
 refine u_end trivial ?_
 refine vw_ret ?_
 refine fin0 (.inr rfl) (.cons (.tmp rfl (nb rfl)) (.cons (.tmp rfl (nb rfl)) (.cons (.tmp rfl (nb rfl)) .nil))) (.tup _ _ (.cons (subT ?_) (.cons (subT ?_) (.cons (subB ?_) .nil))))
 ·rfl
 ·rfl
 ·rfl
theorem c101 (s : List UInt8) (hs : s.length ≤ 140737488351232) : VFun G 101 [.lit (.string (tx s))] [] (.tup [.agg [.lit (.int .i64 (parseT s).1.1), .shr 1 (byteCells (parseT s).1.2)], .lit (.int .i64 (parseT s).2)]) [] := by
 refine VFun.intro (fn := Try.f101) rfl rfl (by kernel_rfl) (nb rfl) fun Γ hpar => ?_
 refine vw_seq ?_
 refine vw_region ?_
 refine u_alloc 100 rfl rfl (notPar hpar rfl) rfl rfl trivial ?_
 refine u_assign rfl rfl trivial ?_
 refine u_end trivial ?_
 refine vw_seq ?_
 refine vw_region ?_
 refine u_move rfl rfl trivial ?_
 refine u_call rfl (c146 _ (by omega)) (.cons ((.lit _)) (.cons ((.lit _)) .nil)) rfl trivial ?_
 refine u_move rfl rfl trivial ?_
 refine u_extract rfl rfl rfl trivial ?_
 refine u_extract rfl rfl rfl trivial ?_
 refine u_extract rfl rfl rfl trivial ?_
 refine u_assign rfl rfl trivial ?_
 refine u_assign rfl rfl trivial ?_
 refine u_assign rfl rfl trivial ?_
 refine u_end trivial ?_
 refine vw_seq ?_
 refine vw_seq ?_
 refine vw_region ?_
 refine s_move rfl rfl trivial (fun h18 => ?_) (fun h18 => ?_)
 ·refine u_not rfl rfl trivial ?_
  refine u_move rfl rfl trivial ?_
  refine u_move rfl rfl ⟨_, _, rfl, rfl, rfl, rfl⟩ ?_
  refine u_lenT rfl rfl rfl ⟨_, _, rfl, rfl, rfl, rfl⟩ ?_
  refine s_neq rfl rfl rfl ⟨_, _, rfl, rfl, rfl, rfl⟩ (fun h23 => ?_) (fun h23 => ?_)
  ·refine u_pickF rfl rfl rfl trivial ?_
   refine u_move rfl rfl trivial ?_
   refine u_skip rfl rfl rfl rfl rfl ?_
   refine u_skip rfl rfl rfl rfl rfl ?_
   refine u_skip rfl rfl rfl rfl rfl ?_
   refine u_pickT rfl rfl rfl trivial ?_
   refine u_move rfl rfl trivial ?_
   refine u_skip rfl rfl rfl rfl rfl ?_
   refine u_skip rfl rfl rfl rfl rfl ?_
   refine u_skip rfl rfl rfl rfl rfl ?_
   refine u_pickT rfl rfl rfl trivial ?_
   refine u_move rfl rfl trivial ?_
   refine u_skip rfl rfl rfl rfl rfl ?_
   refine u_skip rfl rfl rfl rfl rfl ?_
   refine u_skip rfl rfl rfl rfl rfl ?_
   refine u_skip rfl rfl rfl rfl rfl ?_
   refine u_pickT rfl rfl rfl trivial ?_
   refine u_end trivial ?_
   refine vw_condT rfl ?_
   refine vw_seq ?_
   refine vw_region ?_
   refine u_build rfl rfl rfl rfl rfl trivial ?_
   refine u_storeAll rfl rfl rfl rfl rfl rfl rfl rfl trivial ?_
   refine u_assign rfl rfl trivial ?_
   refine u_end trivial ?_
   refine vw_ret ?_
   rw [parse_head (noHead fun q1 q2 q3 q4 => by rw [tx_size] at h23; omega)]
   refine fin' [] (.inr rfl) (.cons (.cellN rfl rfl rfl rfl rfl) (.cons (.tmp rfl (nb rfl)) .nil)) (mk_wk [] rfl rfl ⟨⟨_, rfl, (.tup _ _ (.cons (.agg _ _ (.cons (subI ?_) (.cons (subNs ?_) .nil))) (.cons (subI ?_) .nil)))⟩, trivial⟩ trivial (parOk rfl rfl))
   all_goals (try rfl)
  ·refine u_pickF rfl rfl rfl trivial ?_
   refine u_move rfl rfl trivial ?_
   refine u_move rfl rfl ⟨_, _, rfl, rfl, rfl, rfl⟩ ?_
   refine u_indexX (bs := (cutB s 58)) (i := 0) rfl rfl rfl rfl (by rfl) (by rw [tx_size] at h23; omega) rfl ⟨_, _, rfl, rfl, rfl, rfl⟩ ?_
   refine s_lss rfl rfl rfl ⟨_, _, rfl, rfl, rfl, rfl⟩ (fun h28 => ?_) (fun h28 => ?_)
   ·refine u_pickF rfl rfl rfl trivial ?_
    refine u_move rfl rfl trivial ?_
    refine u_skip rfl rfl rfl rfl rfl ?_
    refine u_skip rfl rfl rfl rfl rfl ?_
    refine u_skip rfl rfl rfl rfl rfl ?_
    refine u_pickT rfl rfl rfl trivial ?_
    refine u_move rfl rfl trivial ?_
    refine u_skip rfl rfl rfl rfl rfl ?_
    refine u_skip rfl rfl rfl rfl rfl ?_
    refine u_skip rfl rfl rfl rfl rfl ?_
    refine u_skip rfl rfl rfl rfl rfl ?_
    refine u_pickT rfl rfl rfl trivial ?_
    refine u_end trivial ?_
    refine vw_condT rfl ?_
    refine vw_seq ?_
    refine vw_region ?_
    refine u_build rfl rfl rfl rfl rfl trivial ?_
    refine u_storeAll rfl rfl rfl rfl rfl rfl rfl rfl trivial ?_
    refine u_assign rfl rfl trivial ?_
    refine u_end trivial ?_
    refine vw_ret ?_
    rw [parse_head (noHead fun q1 q2 q3 q4 => by rw [headD_0 (by omega)] at q3; omega)]
    refine fin' [] (.inr rfl) (.cons (.cellN rfl rfl rfl rfl rfl) (.cons (.tmp rfl (nb rfl)) .nil)) (mk_wk [] rfl rfl ⟨⟨_, rfl, (.tup _ _ (.cons (.agg _ _ (.cons (subI ?_) (.cons (subNs ?_) .nil))) (.cons (subI ?_) .nil)))⟩, trivial⟩ trivial (parOk rfl rfl))
    all_goals (try rfl)
   ·refine u_pickF rfl rfl rfl trivial ?_
    refine u_move rfl rfl trivial ?_
    refine u_move rfl rfl ⟨_, _, rfl, rfl, rfl, rfl⟩ ?_
    refine u_indexX (bs := (cutB s 58)) (i := 0) rfl rfl rfl rfl (by rfl) (by rw [tx_size] at h23; omega) rfl ⟨_, _, rfl, rfl, rfl, rfl⟩ ?_
    refine s_gtr rfl rfl rfl ⟨_, _, rfl, rfl, rfl, rfl⟩ (fun h33 => ?_) (fun h33 => ?_)
    ·refine u_pickF rfl rfl rfl trivial ?_
     refine u_move rfl rfl trivial ?_
     refine u_skip rfl rfl rfl rfl rfl ?_
     refine u_skip rfl rfl rfl rfl rfl ?_
     refine u_skip rfl rfl rfl rfl rfl ?_
     refine u_skip rfl rfl rfl rfl rfl ?_
     refine u_pickT rfl rfl rfl trivial ?_
     refine u_end trivial ?_
     refine vw_condT rfl ?_
     refine vw_seq ?_
     refine vw_region ?_
     refine u_build rfl rfl rfl rfl rfl trivial ?_
     refine u_storeAll rfl rfl rfl rfl rfl rfl rfl rfl trivial ?_
     refine u_assign rfl rfl trivial ?_
     refine u_end trivial ?_
     refine vw_ret ?_
     rw [parse_head (noHead fun q1 q2 q3 q4 => by rw [headD_0 (by omega)] at q3; omega)]
     refine fin' [] (.inr rfl) (.cons (.cellN rfl rfl rfl rfl rfl) (.cons (.tmp rfl (nb rfl)) .nil)) (mk_wk [] rfl rfl ⟨⟨_, rfl, (.tup _ _ (.cons (.agg _ _ (.cons (subI ?_) (.cons (subNs ?_) .nil))) (.cons (subI ?_) .nil)))⟩, trivial⟩ trivial (parOk rfl rfl))
     all_goals (try rfl)
    ·refine u_pickF rfl rfl rfl trivial ?_
     refine u_move rfl rfl trivial ?_
     refine u_move rfl rfl ⟨_, _, rfl, rfl, rfl, rfl⟩ ?_
     refine u_lenT rfl rfl rfl ⟨_, _, rfl, rfl, rfl, rfl⟩ ?_
     refine u_remN rfl rfl (by omega) rfl ⟨_, _, rfl, rfl, rfl, rfl⟩ ?_
     refine s_neq rfl rfl rfl ⟨_, _, rfl, rfl, rfl, rfl⟩ (fun h39 => ?_) (fun h39 => ?_)
     ·refine u_pickF rfl rfl rfl trivial ?_
      refine u_end trivial ?_
      refine vw_condT rfl ?_
      refine vw_seq ?_
      refine vw_region ?_
      refine u_build rfl rfl rfl rfl rfl trivial ?_
      refine u_storeAll rfl rfl rfl rfl rfl rfl rfl rfl trivial ?_
      refine u_assign rfl rfl trivial ?_
      refine u_end trivial ?_
      refine vw_ret ?_
      rw [parse_head (noHead fun q1 q2 q3 q4 => by rw [tx_size] at h39; omega)]
      refine fin' [] (.inr rfl) (.cons (.cellN rfl rfl rfl rfl rfl) (.cons (.tmp rfl (nb rfl)) .nil)) (mk_wk [] rfl rfl ⟨⟨_, rfl, (.tup _ _ (.cons (.agg _ _ (.cons (subI ?_) (.cons (subNs ?_) .nil))) (.cons (subI ?_) .nil)))⟩, trivial⟩ trivial (parOk rfl rfl))
      all_goals (try rfl)
     ·refine u_pickF rfl rfl rfl trivial ?_
      refine u_end trivial ?_
      refine vw_condF rfl ?_
      refine vw_skip ?_
      refine vw_seq ?_
      have hlA : (cutB s 58).length = 1 := by rw [tx_size] at h23; omega
      have hok : headOk s = true := by
        rw [cut_head]
        simp only [Bool.and_eq_true, decide_eq_true_eq]
        refine ⟨⟨⟨h18, hlA⟩, ?_⟩, by rw [tx_size] at h39; omega⟩
        rw [headD_0 (by omega)]; omega
      obtain ⟨ea, eb⟩ := cut_parts hok
      obtain ⟨c, hB⟩ := List.length_eq_one_iff.1 hlA
      have hc : 48 ≤ c.toNat ∧ c.toNat ≤ 57 := by simp only [hB] at h28 h33; simp at h28 h33; omega
      rw [hB] at eb
      obtain ⟨r, hr⟩ : ∃ r, r = s.drop 2 := ⟨_, rfl⟩
      rw [ea, ← hr] at h39
      have hrA : cutA s 58 = r := by rw [ea, hr]
      rw [tx_size] at h39
      have hrs : r.length ≤ s.length := by rw [hr, List.length_drop]; omega
      refine vw_region ?_
      refine u_move rfl rfl trivial ?_
      refine u_indexX (bs := (cutB s 58)) (i := 0) rfl rfl rfl rfl (by rfl) (by omega) rfl trivial ?_
      refine u_subU8 rfl rfl (by omega) rfl trivial ?_
      refine u_convUp rfl (by unfold inI; omega) rfl rfl rfl trivial ?_
      refine u_build rfl rfl rfl rfl rfl trivial ?_
      refine u_alloc 101 rfl rfl (notPar hpar rfl) rfl rfl trivial ?_
      refine u_storeAll rfl rfl rfl rfl rfl rfl rfl rfl trivial ?_
      refine u_end trivial ?_
      refine vw_seq ?_
      refine vw_seq ?_
      refine vw_region ?_
      refine u_assign rfl rfl trivial ?_
      refine u_end trivial ?_
      refine vw_block ?_
      refine vw_loopR (fun n_ E => ∃ (i : Nat) (acc : List UInt8), ((i ≤ r.length) ∧ (i % 2 = 0) ∧ (hexAt r i acc)) ∧ n_ = r.length - i ∧ E = ⟨[(2, .ptr 2 0), (5, .lit (.string (tx r))), (7, .ptr 7 0), (8, .lit (.int .i64 (i : Int)))], [(2, .box [.lit (.int .i64 0), .lit (.slice none 0 0)]), (7, .box [.lit (.int .i64 ((c.toNat : Int) - 48)), .row 8]), (8, .row 5 1 (byteCells acc))], 86⟩) (n0 := _) (E0 := _) (⟨0, [], by exact ⟨Nat.zero_le _, rfl, hexAt_0 r⟩, rfl, rfl⟩) (ren [(2, 100), (7, 101)]) (mk_wk [(2, 100), (7, 101)] rfl rfl ⟨⟨_, rfl, (.ptr _ _ _ rfl (lookNe rfl))⟩, ⟨_, rfl, (subT (by rw [hrA]))⟩, ⟨_, rfl, (.ptr _ _ _ rfl (lookNe rfl))⟩, ⟨_, rfl, (.lit _)⟩, trivial⟩ ⟨⟨_, _, rfl, rfl, (subPL rfl)⟩, ⟨_, _, rfl, rfl, (.cons (subI (by simp [hB])) (.cons (.nilrow _ _ _ _ rfl rfl) .nil))⟩, (.inr (.inl ⟨rfl, rfl⟩)), trivial⟩ (parOk hpar rfl)) (fun n_ E hR => ?_)
      obtain ⟨i, acc, hI, rfl, rfl⟩ := hR
      obtain ⟨hle, hev, hx⟩ := hI
      refine vw_seq ?_
      refine vw_seq ?_
      refine vw_region ?_
      refine u_move rfl rfl trivial ?_
      refine u_move rfl rfl trivial ?_
      refine u_lenT rfl rfl rfl trivial ?_
      refine s_lss rfl rfl rfl trivial (fun h50 => ?_) (fun h50 => ?_)
      ·refine u_end trivial ?_
       refine vw_condT rfl ?_
       refine vw_skip ?_
       refine vw_seq ?_
       refine vw_block ?_
       refine vw_seq ?_
       rw [tx_size] at h50
       refine vw_draw ?_
       refine u_move rfl rfl trivial ?_
       refine u_move rfl rfl trivial ?_
       refine u_indexX (bs := r) (i := i) rfl rfl rfl rfl (by rfl) (by omega) rfl trivial ?_
       refine u_call rfl ((show VFun G 147 [.lit (.string (tx hexL)), .lit (.int .u8 ((r[i]'(by omega)).toNat : Int))] [] (.lit (.int .i64 (hexI (r[i]'(by omega))))) [] from c147 hexL _)) (.cons ((.lit _)) (.cons ((.lit _)) .nil)) rfl trivial ?_
       refine u_move rfl rfl trivial ?_
       refine u_move rfl rfl trivial ?_
       refine u_add rfl rfl rfl (by unfold inI; omega) rfl trivial ?_
       refine u_indexX (bs := r) (i := (i + 1)) rfl rfl rfl rfl (by rfl) (by omega) rfl trivial ?_
       refine u_call rfl ((show VFun G 147 [.lit (.string (tx hexL)), .lit (.int .u8 ((r[i + 1]'(by omega)).toNat : Int))] [] (.lit (.int .i64 (hexI (r[i + 1]'(by omega))))) [] from c147 hexL _)) (.cons ((.lit _)) (.cons ((.lit _)) .nil)) rfl trivial ?_
       refine u_assign rfl rfl trivial ?_
       refine u_assign rfl rfl trivial ?_
       refine u_end (by kernel_rfl) ?_
       refine vw_seq ?_
       refine vw_seq ?_
       refine vw_region ?_
       refine u_move rfl rfl trivial ?_
       refine s_lss rfl rfl rfl trivial (fun h63 => ?_) (fun h63 => ?_)
       ·refine u_move rfl rfl trivial ?_
        refine u_skip rfl rfl rfl rfl rfl ?_
        refine u_skip rfl rfl rfl rfl rfl ?_
        refine u_pickT rfl rfl rfl trivial ?_
        refine u_end trivial ?_
        refine vw_condT rfl ?_
        refine vw_seq ?_
        refine vw_region ?_
        refine u_build rfl rfl rfl rfl rfl trivial ?_
        refine u_storeAll rfl rfl rfl rfl rfl rfl rfl rfl trivial ?_
        refine u_assign rfl rfl trivial ?_
        refine u_end trivial ?_
        refine vw_ret ?_
        rw [parse_hexes hok (by rw [← hr]; exact hexAt_bad hx (by omega) (.inl h63))]
        refine fin' [] (.inr rfl) (.cons (.cellN rfl rfl rfl rfl rfl) (.cons (.tmp rfl (nb rfl)) .nil)) (mk_wk [] rfl rfl ⟨⟨_, rfl, (.tup _ _ (.cons (.agg _ _ (.cons (subI ?_) (.cons (subNs ?_) .nil))) (.cons (subI ?_) .nil)))⟩, trivial⟩ trivial (parOk rfl rfl))
        all_goals (try rfl)
       ·refine u_move rfl rfl trivial ?_
        refine u_move rfl rfl ⟨_, _, rfl, rfl, rfl, rfl⟩ ?_
        refine s_lss rfl rfl rfl ⟨_, _, rfl, rfl, rfl, rfl⟩ (fun h66 => ?_) (fun h66 => ?_)
        ·refine u_pickF rfl rfl rfl trivial ?_
         refine u_end trivial ?_
         refine vw_condT rfl ?_
         refine vw_seq ?_
         refine vw_region ?_
         refine u_build rfl rfl rfl rfl rfl trivial ?_
         refine u_storeAll rfl rfl rfl rfl rfl rfl rfl rfl trivial ?_
         refine u_assign rfl rfl trivial ?_
         refine u_end trivial ?_
         refine vw_ret ?_
         rw [parse_hexes hok (by rw [← hr]; exact hexAt_bad hx (by omega) (.inr h66))]
         refine fin' [] (.inr rfl) (.cons (.cellN rfl rfl rfl rfl rfl) (.cons (.tmp rfl (nb rfl)) .nil)) (mk_wk [] rfl rfl ⟨⟨_, rfl, (.tup _ _ (.cons (.agg _ _ (.cons (subI ?_) (.cons (subNs ?_) .nil))) (.cons (subI ?_) .nil)))⟩, trivial⟩ trivial (parOk rfl rfl))
         all_goals (try rfl)
        ·refine u_pickF rfl rfl rfl trivial ?_
         refine u_end trivial ?_
         refine vw_condF rfl ?_
         refine vw_skip ?_
         have g1 := hexI_ge (r[i]'(by omega)); have g2 := hexI_lt (r[i]'(by omega)); have g3 := hexI_ge (r[i + 1]'(by omega)); have g4 := hexI_lt (r[i + 1]'(by omega)); have g5 := hx.2
         refine vw_region ?_
         refine u_fieldAddr rfl rfl rfl rfl rfl rfl trivial ?_
         refine u_load1 rfl rfl rfl rfl rfl rfl trivial ?_
         refine u_move rfl rfl trivial ?_
         refine u_mul rfl rfl rfl (by unfold inI; omega) rfl trivial ?_
         refine u_move rfl rfl trivial ?_
         refine u_add rfl rfl rfl (by unfold inI; omega) rfl trivial ?_
         refine u_convB rfl rfl rfl rfl trivial ?_
         refine u_buildSlice 122 rfl rfl rfl rfl rfl rfl rfl rfl rfl rfl (notPar hpar rfl) rfl rfl trivial ?_
         refine u_append 123 rfl rfl rfl (srcRow rfl) rfl (notPar hpar rfl) rfl rfl rfl rfl rfl (by simp [cellsL, byteCells_length]; omega) rfl trivial ?_
         refine u_fieldAddr rfl rfl rfl rfl rfl rfl trivial ?_
         refine u_store rfl rfl rfl rfl rfl rfl rfl trivial ?_
         refine u_end trivial ?_
         refine vw_region ?_
         refine u_move rfl rfl trivial ?_
         refine u_add rfl rfl rfl (by unfold inI; omega) rfl trivial ?_
         refine u_assign rfl rfl trivial ?_
         refine u_end trivial ?_
         refine ⟨_, _, ren [(2, 2), (7, 7), (8, 123)], ?_, ⟨i + 2, acc ++ [u8 (16 * hexI (r[i]'(by omega)) + hexI (r[i + 1]'(by omega)))], ?_, rfl, rfl⟩, mk_wk [(2, 2), (7, 7), (8, 123)] rfl rfl ⟨⟨_, rfl, (.ptr _ _ _ rfl (lookNe rfl))⟩, ⟨_, rfl, (.lit _)⟩, ⟨_, rfl, (.ptr _ _ _ rfl (lookNe rfl))⟩, ⟨_, rfl, (.lit _)⟩, trivial⟩ ⟨⟨_, _, rfl, rfl, (subPL rfl)⟩, ⟨_, _, rfl, rfl, (.cons ((.lit _)) (.cons ((.row _ _ rfl (lookNe rfl))) .nil))⟩, (.inl ⟨_, rfl, rowEq rfl (by simp [byteCells, cellsL, cellsOf, u8_toNat])⟩), trivial⟩ (parOk hpar rfl)⟩
         ·omega
         ·exact ⟨by omega, by omega, hexAt_next hx (by omega) (by omega)⟩
      ·refine u_end trivial ?_
       refine vw_condF rfl ?_
       refine vw_exit ?_
       refine iteP rfl ?_
       refine vw_seq ?_
       refine vw_seq ?_
       rw [tx_size] at h50
       refine vw_region ?_
       refine u_loadAll rfl rfl rfl rfl rfl rfl trivial ?_
       refine u_callB [(8, _)] rfl (c78 (_, _)) (.cons ((.agg _ _ (.cons ((.lit _)) (.cons (.frz _ _ _ _ rfl (lookNe rfl)) .nil)))) .nil) (sub1 rfl) rfl rfl trivial ?_
       refine u_assign rfl rfl trivial ?_
       refine u_end trivial ?_
       refine vw_seq ?_
       refine vw_region ?_
       refine u_move rfl rfl trivial ?_
       refine s_neq rfl rfl rfl trivial (fun h82 => ?_) (fun h82 => ?_)
       ·refine u_end trivial ?_
        refine vw_condT rfl ?_
        refine vw_seq ?_
        refine vw_region ?_
        refine u_build rfl rfl rfl rfl rfl trivial ?_
        refine u_move rfl rfl trivial ?_
        refine u_storeAll rfl rfl rfl rfl rfl rfl rfl rfl trivial ?_
        refine u_assign rfl rfl trivial ?_
        refine u_end trivial ?_
        refine vw_ret ?_
        rw [parse_some (k := (c.toNat : Int) - 48) hok (by rw [← hr]; exact hexAt_end hx (by omega)) (by rw [← eb]; rfl), if_neg h82]
        refine fin' [] (.inr rfl) (.cons (.cellN rfl rfl rfl rfl rfl) (.cons (.tmp rfl (nb rfl)) .nil)) (mk_wk [] rfl rfl ⟨⟨_, rfl, (.tup _ _ (.cons (.agg _ _ (.cons (subI ?_) (.cons (subNs ?_) .nil))) (.cons (subI ?_) .nil)))⟩, trivial⟩ trivial (parOk rfl rfl))
        all_goals (try rfl)
       ·refine u_end trivial ?_
        refine vw_condF rfl ?_
        refine vw_skip ?_
        refine vw_seq ?_
        refine vw_region ?_
        refine u_loadAll rfl rfl rfl rfl rfl rfl trivial ?_
        refine u_storeAll rfl rfl rfl rfl rfl rfl rfl rfl trivial ?_
        refine u_assign rfl rfl trivial ?_
        refine u_end trivial ?_
        refine vw_ret ?_
        rw [parse_some (k := (c.toNat : Int) - 48) hok (by rw [← hr]; exact hexAt_end hx (by omega)) (by rw [← eb]; rfl), if_pos h82]
        refine fin' [] (.inr rfl) (.cons (.cellN rfl rfl rfl rfl rfl) (.cons (.tmp rfl (nb rfl)) .nil)) (mk_wk [] rfl rfl ⟨⟨_, rfl, (.tup _ _ (.cons (.agg _ _ (.cons (subI ?_) (.cons (subFz rfl (fzL rfl) ?_) .nil))) (.cons (subI ?_) .nil)))⟩, trivial⟩ trivial (parOk rfl rfl))
        all_goals (try rfl)
 ·refine u_not rfl rfl trivial ?_
  refine u_move rfl rfl trivial ?_
  refine u_skip rfl rfl rfl rfl rfl ?_
  refine u_skip rfl rfl rfl rfl rfl ?_
  refine u_skip rfl rfl rfl rfl rfl ?_
  refine u_pickT rfl rfl rfl trivial ?_
  refine u_move rfl rfl trivial ?_
  refine u_skip rfl rfl rfl rfl rfl ?_
  refine u_skip rfl rfl rfl rfl rfl ?_
  refine u_skip rfl rfl rfl rfl rfl ?_
  refine u_pickT rfl rfl rfl trivial ?_
  refine u_move rfl rfl trivial ?_
  refine u_skip rfl rfl rfl rfl rfl ?_
  refine u_skip rfl rfl rfl rfl rfl ?_
  refine u_skip rfl rfl rfl rfl rfl ?_
  refine u_pickT rfl rfl rfl trivial ?_
  refine u_move rfl rfl trivial ?_
  refine u_skip rfl rfl rfl rfl rfl ?_
  refine u_skip rfl rfl rfl rfl rfl ?_
  refine u_skip rfl rfl rfl rfl rfl ?_
  refine u_skip rfl rfl rfl rfl rfl ?_
  refine u_pickT rfl rfl rfl trivial ?_
  refine u_end trivial ?_
  refine vw_condT rfl ?_
  refine vw_seq ?_
  refine vw_region ?_
  refine u_build rfl rfl rfl rfl rfl trivial ?_
  refine u_storeAll rfl rfl rfl rfl rfl rfl rfl rfl trivial ?_
  refine u_assign rfl rfl trivial ?_
  refine u_end trivial ?_
  refine vw_ret ?_
  rw [parse_head (noHead fun q1 q2 q3 q4 => by rw [q1] at h18; cases h18)]
  refine fin' [] (.inr rfl) (.cons (.cellN rfl rfl rfl rfl rfl) (.cons (.tmp rfl (nb rfl)) .nil)) (mk_wk [] rfl rfl ⟨⟨_, rfl, (.tup _ _ (.cons (.agg _ _ (.cons (subI ?_) (.cons (subNs ?_) .nil))) (.cons (subI ?_) .nil)))⟩, trivial⟩ trivial (parOk rfl rfl))
  all_goals (try rfl)
theorem c102 (s : List UInt8) (hs : s.length ≤ 140737488351232) : VFun G 102 [.lit (.string (tx s))] [] (.tup [.agg [.lit (.int .i64 (parseT s).1.1), .shr 1 (byteCells (parseT s).1.2)], .lit (.int .i64 (parseT s).2)]) [] := by
 refine VFun.intro (fn := Try.f102) rfl rfl (by kernel_rfl) (nb rfl) fun Γ hpar => ?_
 refine vw_seq ?_
 refine vw_region ?_
 refine u_alloc 100 rfl rfl (notPar hpar rfl) rfl rfl trivial ?_
 refine u_assign rfl rfl trivial ?_
 refine u_end trivial ?_
 refine vw_seq ?_
 refine vw_seq ?_
 refine vw_region ?_
 refine u_move rfl rfl trivial ?_
 refine u_lenT rfl rfl rfl trivial ?_
 refine s_lss rfl rfl rfl trivial (fun h12 => ?_) (fun h12 => ?_)
 ·refine u_move rfl rfl trivial ?_
  refine u_skip rfl rfl rfl rfl rfl ?_
  refine u_skip rfl rfl rfl rfl rfl ?_
  refine u_skip rfl rfl rfl rfl rfl ?_
  refine u_pickT rfl rfl rfl trivial ?_
  refine u_move rfl rfl trivial ?_
  refine u_skip rfl rfl rfl rfl rfl ?_
  refine u_skip rfl rfl rfl rfl rfl ?_
  refine u_skip rfl rfl rfl rfl rfl ?_
  refine u_pickT rfl rfl rfl trivial ?_
  refine u_move rfl rfl trivial ?_
  refine u_skip rfl rfl rfl rfl rfl ?_
  refine u_skip rfl rfl rfl rfl rfl ?_
  refine u_skip rfl rfl rfl rfl rfl ?_
  refine u_pickT rfl rfl rfl trivial ?_
  refine u_move rfl rfl trivial ?_
  refine u_skip rfl rfl rfl rfl rfl ?_
  refine u_skip rfl rfl rfl rfl rfl ?_
  refine u_skip rfl rfl rfl rfl rfl ?_
  refine u_skip rfl rfl rfl rfl rfl ?_
  refine u_pickT rfl rfl rfl trivial ?_
  refine u_end trivial ?_
  refine vw_condT rfl ?_
  refine vw_seq ?_
  refine vw_region ?_
  refine u_build rfl rfl rfl rfl rfl trivial ?_
  refine u_storeAll rfl rfl rfl rfl rfl rfl rfl rfl trivial ?_
  refine u_assign rfl rfl trivial ?_
  refine u_end trivial ?_
  refine vw_ret ?_
  rw [parse_head (head_no (.inl (by rw [tx_size] at h12; omega)))]
  refine fin' [] (.inr rfl) (.cons (.cellN rfl rfl rfl rfl rfl) (.cons (.tmp rfl (nb rfl)) .nil)) (mk_wk [] rfl rfl ⟨⟨_, rfl, (.tup _ _ (.cons (.agg _ _ (.cons (subI ?_) (.cons (subNs ?_) .nil))) (.cons (subI ?_) .nil)))⟩, trivial⟩ trivial (parOk rfl rfl))
  all_goals (try rfl)
 ·refine u_move rfl rfl trivial ?_
  refine u_move rfl rfl ⟨_, _, rfl, rfl, rfl, rfl⟩ ?_
  refine u_indexX (bs := s) (i := 0) rfl rfl rfl rfl (by rfl) (by rw [tx_size] at h12; omega) rfl ⟨_, _, rfl, rfl, rfl, rfl⟩ ?_
  refine s_lss rfl rfl rfl ⟨_, _, rfl, rfl, rfl, rfl⟩ (fun h16 => ?_) (fun h16 => ?_)
  ·refine u_pickF rfl rfl rfl trivial ?_
   refine u_move rfl rfl trivial ?_
   refine u_skip rfl rfl rfl rfl rfl ?_
   refine u_skip rfl rfl rfl rfl rfl ?_
   refine u_skip rfl rfl rfl rfl rfl ?_
   refine u_pickT rfl rfl rfl trivial ?_
   refine u_move rfl rfl trivial ?_
   refine u_skip rfl rfl rfl rfl rfl ?_
   refine u_skip rfl rfl rfl rfl rfl ?_
   refine u_skip rfl rfl rfl rfl rfl ?_
   refine u_pickT rfl rfl rfl trivial ?_
   refine u_move rfl rfl trivial ?_
   refine u_skip rfl rfl rfl rfl rfl ?_
   refine u_skip rfl rfl rfl rfl rfl ?_
   refine u_skip rfl rfl rfl rfl rfl ?_
   refine u_skip rfl rfl rfl rfl rfl ?_
   refine u_pickT rfl rfl rfl trivial ?_
   refine u_end trivial ?_
   refine vw_condT rfl ?_
   refine vw_seq ?_
   refine vw_region ?_
   refine u_build rfl rfl rfl rfl rfl trivial ?_
   refine u_storeAll rfl rfl rfl rfl rfl rfl rfl rfl trivial ?_
   refine u_assign rfl rfl trivial ?_
   refine u_end trivial ?_
   refine vw_ret ?_
   rw [parse_head (head_no (.inr (.inl ⟨_, List.getElem?_eq_getElem (by rw [tx_size] at h12; omega), by omega⟩)))]
   refine fin' [] (.inr rfl) (.cons (.cellN rfl rfl rfl rfl rfl) (.cons (.tmp rfl (nb rfl)) .nil)) (mk_wk [] rfl rfl ⟨⟨_, rfl, (.tup _ _ (.cons (.agg _ _ (.cons (subI ?_) (.cons (subNs ?_) .nil))) (.cons (subI ?_) .nil)))⟩, trivial⟩ trivial (parOk rfl rfl))
   all_goals (try rfl)
  ·refine u_pickF rfl rfl rfl trivial ?_
   refine u_move rfl rfl trivial ?_
   refine u_move rfl rfl ⟨_, _, rfl, rfl, rfl, rfl⟩ ?_
   refine u_indexX (bs := s) (i := 0) rfl rfl rfl rfl (by rfl) (by rw [tx_size] at h12; omega) rfl ⟨_, _, rfl, rfl, rfl, rfl⟩ ?_
   refine s_gtr rfl rfl rfl ⟨_, _, rfl, rfl, rfl, rfl⟩ (fun h21 => ?_) (fun h21 => ?_)
   ·refine u_pickF rfl rfl rfl trivial ?_
    refine u_move rfl rfl trivial ?_
    refine u_skip rfl rfl rfl rfl rfl ?_
    refine u_skip rfl rfl rfl rfl rfl ?_
    refine u_skip rfl rfl rfl rfl rfl ?_
    refine u_pickT rfl rfl rfl trivial ?_
    refine u_move rfl rfl trivial ?_
    refine u_skip rfl rfl rfl rfl rfl ?_
    refine u_skip rfl rfl rfl rfl rfl ?_
    refine u_skip rfl rfl rfl rfl rfl ?_
    refine u_skip rfl rfl rfl rfl rfl ?_
    refine u_pickT rfl rfl rfl trivial ?_
    refine u_end trivial ?_
    refine vw_condT rfl ?_
    refine vw_seq ?_
    refine vw_region ?_
    refine u_build rfl rfl rfl rfl rfl trivial ?_
    refine u_storeAll rfl rfl rfl rfl rfl rfl rfl rfl trivial ?_
    refine u_assign rfl rfl trivial ?_
    refine u_end trivial ?_
    refine vw_ret ?_
    rw [parse_head (head_no (.inr (.inl ⟨_, List.getElem?_eq_getElem (by rw [tx_size] at h12; omega), by omega⟩)))]
    refine fin' [] (.inr rfl) (.cons (.cellN rfl rfl rfl rfl rfl) (.cons (.tmp rfl (nb rfl)) .nil)) (mk_wk [] rfl rfl ⟨⟨_, rfl, (.tup _ _ (.cons (.agg _ _ (.cons (subI ?_) (.cons (subNs ?_) .nil))) (.cons (subI ?_) .nil)))⟩, trivial⟩ trivial (parOk rfl rfl))
    all_goals (try rfl)
   ·refine u_pickF rfl rfl rfl trivial ?_
    refine u_move rfl rfl trivial ?_
    refine u_move rfl rfl ⟨_, _, rfl, rfl, rfl, rfl⟩ ?_
    refine u_indexX (bs := s) (i := 1) rfl rfl rfl rfl (by rfl) (by rw [tx_size] at h12; omega) rfl ⟨_, _, rfl, rfl, rfl, rfl⟩ ?_
    refine s_neq rfl rfl rfl ⟨_, _, rfl, rfl, rfl, rfl⟩ (fun h26 => ?_) (fun h26 => ?_)
    ·refine u_pickF rfl rfl rfl trivial ?_
     refine u_move rfl rfl trivial ?_
     refine u_skip rfl rfl rfl rfl rfl ?_
     refine u_skip rfl rfl rfl rfl rfl ?_
     refine u_skip rfl rfl rfl rfl rfl ?_
     refine u_skip rfl rfl rfl rfl rfl ?_
     refine u_pickT rfl rfl rfl trivial ?_
     refine u_end trivial ?_
     refine vw_condT rfl ?_
     refine vw_seq ?_
     refine vw_region ?_
     refine u_build rfl rfl rfl rfl rfl trivial ?_
     refine u_storeAll rfl rfl rfl rfl rfl rfl rfl rfl trivial ?_
     refine u_assign rfl rfl trivial ?_
     refine u_end trivial ?_
     refine vw_ret ?_
     rw [parse_head (head_no (.inr (.inr (.inl ⟨_, List.getElem?_eq_getElem (by rw [tx_size] at h12; omega), by omega⟩))))]
     refine fin' [] (.inr rfl) (.cons (.cellN rfl rfl rfl rfl rfl) (.cons (.tmp rfl (nb rfl)) .nil)) (mk_wk [] rfl rfl ⟨⟨_, rfl, (.tup _ _ (.cons (.agg _ _ (.cons (subI ?_) (.cons (subNs ?_) .nil))) (.cons (subI ?_) .nil)))⟩, trivial⟩ trivial (parOk rfl rfl))
     all_goals (try rfl)
    ·refine u_pickF rfl rfl rfl trivial ?_
     refine u_move rfl rfl trivial ?_
     refine u_move rfl rfl ⟨_, _, rfl, rfl, rfl, rfl⟩ ?_
     refine u_lenT rfl rfl rfl ⟨_, _, rfl, rfl, rfl, rfl⟩ ?_
     refine u_remN rfl rfl (by omega) rfl ⟨_, _, rfl, rfl, rfl, rfl⟩ ?_
     refine s_eql rfl rfl rfl ⟨_, _, rfl, rfl, rfl, rfl⟩ (fun h32 => ?_) (fun h32 => ?_)
     ·refine u_pickF rfl rfl rfl trivial ?_
      refine u_end trivial ?_
      refine vw_condT rfl ?_
      refine vw_seq ?_
      refine vw_region ?_
      refine u_build rfl rfl rfl rfl rfl trivial ?_
      refine u_storeAll rfl rfl rfl rfl rfl rfl rfl rfl trivial ?_
      refine u_assign rfl rfl trivial ?_
      refine u_end trivial ?_
      refine vw_ret ?_
      rw [parse_head (head_no (.inr (.inr (.inr (by rw [tx_size] at h32; omega)))))]
      refine fin' [] (.inr rfl) (.cons (.cellN rfl rfl rfl rfl rfl) (.cons (.tmp rfl (nb rfl)) .nil)) (mk_wk [] rfl rfl ⟨⟨_, rfl, (.tup _ _ (.cons (.agg _ _ (.cons (subI ?_) (.cons (subNs ?_) .nil))) (.cons (subI ?_) .nil)))⟩, trivial⟩ trivial (parOk rfl rfl))
      all_goals (try rfl)
     ·refine u_pickF rfl rfl rfl trivial ?_
      refine u_end trivial ?_
      refine vw_condF rfl ?_
      refine vw_skip ?_
      refine vw_seq ?_
      rw [tx_size] at h12 h32
      obtain ⟨c, b, r, hsr⟩ := two_of (l := s) (by omega)
      have hc0 : s[0]'(by omega) = c := by simp [hsr]
      have hc1 : s[1]'(by omega) = b := by simp [hsr]
      rw [hc0] at h16 h21
      rw [hc1] at h26
      have hsl : s.length = r.length + 2 := by simp [hsr]
      have hev : r.length % 2 = 0 := by omega
      have hok : headOk s = true := by rw [hsr]; exact head_3 c b r (by omega) (by omega) (by omega) hev
      have hhd : s.headD 0 = c := by rw [hsr]; rfl
      have hdr : s.drop 2 = r := by rw [hsr]; rfl
      have hgt : ∀ (i : Nat) (h : i < r.length), s[i + 2]'(by omega) = r[i]'h := fun i h => by simp [hsr]
      refine vw_region ?_
      refine u_move rfl rfl trivial ?_
      refine u_indexX (bs := s) (i := 0) rfl rfl rfl rfl (by rfl) (by omega) rfl trivial ?_
      refine u_subU8 rfl rfl (by rw [hc0]; omega) rfl trivial ?_
      refine u_convUp rfl (by rw [hc0]; unfold inI; omega) rfl rfl rfl trivial ?_
      refine u_build rfl rfl rfl rfl rfl trivial ?_
      refine u_alloc 101 rfl rfl (notPar hpar rfl) rfl rfl trivial ?_
      refine u_storeAll rfl rfl rfl rfl rfl rfl rfl rfl trivial ?_
      refine u_end trivial ?_
      refine vw_seq ?_
      refine vw_region ?_
      refine u_assign rfl rfl trivial ?_
      refine u_end trivial ?_
      refine vw_seq ?_
      refine vw_seq ?_
      refine vw_region ?_
      refine u_assign rfl rfl trivial ?_
      refine u_end trivial ?_
      refine vw_block ?_
      refine vw_loopR (fun n_ E => ∃ (i : Nat) (acc : List UInt8) (v : Int), ((i ≤ r.length) ∧ (refAt r i acc v)) ∧ n_ = r.length - i ∧ E = ⟨[(0, .lit (.string (tx s))), (2, .ptr 2 0), (4, .ptr 4 0), (5, .lit (.int .i64 v)), (6, .lit (.int .i64 ((i + 2 : Nat) : Int)))], [(2, .box [.lit (.int .i64 0), .lit (.slice none 0 0)]), (4, .box [.lit (.int .i64 ((c.toNat : Int) - 48)), .row 8]), (8, .row 5 1 (byteCells acc))], 81⟩) (n0 := _) (E0 := _) (⟨0, [], 0, by exact ⟨Nat.zero_le _, .inl ⟨rfl, rfl, hexAt_0 r⟩⟩, rfl, rfl⟩) (ren [(2, 100), (4, 101)]) (mk_wk [(2, 100), (4, 101)] rfl rfl ⟨⟨_, rfl, (.lit _)⟩, ⟨_, rfl, (.ptr _ _ _ rfl (lookNe rfl))⟩, ⟨_, rfl, (.ptr _ _ _ rfl (lookNe rfl))⟩, ⟨_, rfl, (subI (by rfl))⟩, ⟨_, rfl, (subI (by rfl))⟩, trivial⟩ ⟨⟨_, _, rfl, rfl, (subPL rfl)⟩, ⟨_, _, rfl, rfl, (.cons (subI (by rw [hc0])) (.cons (.nilrow _ _ _ _ rfl rfl) .nil))⟩, (.inr (.inl ⟨rfl, rfl⟩)), trivial⟩ (parOk hpar rfl)) (fun n_ E hR => ?_)
      obtain ⟨i, acc, v, hI, rfl, rfl⟩ := hR
      obtain ⟨hle, hx⟩ := hI
      refine vw_seq ?_
      refine vw_seq ?_
      refine vw_region ?_
      refine u_move rfl rfl trivial ?_
      refine u_move rfl rfl trivial ?_
      refine u_lenT rfl rfl rfl trivial ?_
      refine s_lss rfl rfl rfl trivial (fun h43 => ?_) (fun h43 => ?_)
      ·refine u_end trivial ?_
       refine vw_condT rfl ?_
       refine vw_skip ?_
       refine vw_seq ?_
       refine vw_block ?_
       refine vw_seq ?_
       rw [tx_size] at h43
       have hi : i < r.length := by omega
       have hri := refAt_in hx
       have g1 := hexI_ge (r[i]'hi); have g2 := hexI_lt (r[i]'hi)
       refine vw_region ?_
       refine u_assign rfl rfl trivial ?_
       refine u_end trivial ?_
       refine vw_seq ?_
       refine vw_seq ?_
       refine vw_region ?_
       refine u_move rfl rfl trivial ?_
       refine u_end trivial ?_
       refine vw_block ?_
       refine vw_loopR (fun n_ E => ∃ (k : Nat), ((k ≤ 16)) ∧ n_ = 16 - k ∧ E = ⟨[(0, .lit (.string (tx s))), (2, .ptr 2 0), (4, .ptr 4 0), (5, .lit (.int .i64 v)), (6, .lit (.int .i64 ((i + 2 : Nat) : Int))), (7, .lit (.int .i64 (upTo (r[i]'hi) k))), (46, .lit (.int .i64 (k : Int)))], [(2, .box [.lit (.int .i64 0), .lit (.slice none 0 0)]), (4, .box [.lit (.int .i64 ((c.toNat : Int) - 48)), .row 8]), (8, .row 5 1 (byteCells acc))], 81⟩) (n0 := _) (E0 := _) (⟨0, by omega, rfl, rfl⟩) (ren [(2, 2), (4, 4), (8, 8)]) (mk_wk [(2, 2), (4, 4), (8, 8)] rfl rfl ⟨⟨_, rfl, (.lit _)⟩, ⟨_, rfl, (.ptr _ _ _ rfl (lookNe rfl))⟩, ⟨_, rfl, (.ptr _ _ _ rfl (lookNe rfl))⟩, ⟨_, rfl, (.lit _)⟩, ⟨_, rfl, (.lit _)⟩, ⟨_, rfl, (subI (by rfl))⟩, ⟨_, rfl, (subI (by rfl))⟩, trivial⟩ ⟨⟨_, _, rfl, rfl, (subPL rfl)⟩, ⟨_, _, rfl, rfl, (.cons ((.lit _)) (.cons ((.row _ _ rfl (lookNe rfl))) .nil))⟩, (.inl ⟨_, rfl, rfl⟩), trivial⟩ (parOk hpar rfl)) (fun n_ E hR => ?_)
       obtain ⟨k, hI, rfl, rfl⟩ := hR
       have hk16 := hI
       refine vw_seq ?_
       refine vw_region ?_
       refine s_lss rfl rfl rfl trivial (fun h47 => ?_) (fun h47 => ?_)
       ·refine u_end trivial ?_
        refine vw_seq ?_
        refine vw_condT rfl ?_
        refine vw_skip ?_
        refine vw_seq ?_
        refine vw_block ?_
        refine vw_seq ?_
        refine vw_region ?_
        refine u_move rfl rfl trivial ?_
        refine u_assign rfl rfl trivial ?_
        refine u_end trivial ?_
        refine vw_seq ?_
        refine vw_draw ?_
        refine u_move rfl rfl trivial ?_
        refine u_indexX (bs := hexL) (i := k) rfl rfl rfl rfl (by rfl) (by show k < 16; omega) rfl trivial ?_
        refine u_move rfl rfl trivial ?_
        refine u_move rfl rfl trivial ?_
        refine u_indexX (bs := s) (i := (i + 2)) rfl rfl rfl rfl (by rfl) (by omega) rfl trivial ?_
        refine s_eql rfl rfl rfl trivial (fun h54 => ?_) (fun h54 => ?_)
        ·refine u_end (by kernel_rfl) ?_
         refine vw_condT rfl ?_
         refine vw_region ?_
         refine u_move rfl rfl trivial ?_
         refine u_assign rfl rfl trivial ?_
         refine u_end trivial ?_
         refine vw_region ?_
         refine u_add rfl rfl rfl (by unfold inI; omega) rfl trivial ?_
         refine u_move rfl rfl trivial ?_
         refine u_end trivial ?_
         refine ⟨_, _, ren [(2, 2), (4, 4), (8, 8)], ?_, ⟨k + 1, ?_, rfl, rfl⟩, mk_wk [(2, 2), (4, 4), (8, 8)] rfl rfl ⟨⟨_, rfl, (.lit _)⟩, ⟨_, rfl, (.ptr _ _ _ rfl (lookNe rfl))⟩, ⟨_, rfl, (.ptr _ _ _ rfl (lookNe rfl))⟩, ⟨_, rfl, (.lit _)⟩, ⟨_, rfl, (.lit _)⟩, ⟨_, rfl, (subI (by rw [upTo_step _ _ (by omega), if_pos (by rw [hgt i hi] at h54; omega)]))⟩, ⟨_, rfl, (.lit _)⟩, trivial⟩ ⟨⟨_, _, rfl, rfl, (subPL rfl)⟩, ⟨_, _, rfl, rfl, (.cons ((.lit _)) (.cons ((.row _ _ rfl (lookNe rfl))) .nil))⟩, (.inl ⟨_, rfl, rfl⟩), trivial⟩ (parOk hpar rfl)⟩
         ·omega
         ·omega
        ·refine u_end (by kernel_rfl) ?_
         refine vw_condF rfl ?_
         refine vw_skip ?_
         refine vw_region ?_
         refine u_add rfl rfl rfl (by unfold inI; omega) rfl trivial ?_
         refine u_move rfl rfl trivial ?_
         refine u_end trivial ?_
         refine ⟨_, _, ren [(2, 2), (4, 4), (8, 8)], ?_, ⟨k + 1, ?_, rfl, rfl⟩, mk_wk [(2, 2), (4, 4), (8, 8)] rfl rfl ⟨⟨_, rfl, (.lit _)⟩, ⟨_, rfl, (.ptr _ _ _ rfl (lookNe rfl))⟩, ⟨_, rfl, (.ptr _ _ _ rfl (lookNe rfl))⟩, ⟨_, rfl, (.lit _)⟩, ⟨_, rfl, (.lit _)⟩, ⟨_, rfl, (subI (by rw [upTo_step _ _ (by omega), if_neg (by rw [hgt i hi] at h54; omega)]))⟩, ⟨_, rfl, (.lit _)⟩, trivial⟩ ⟨⟨_, _, rfl, rfl, (subPL rfl)⟩, ⟨_, _, rfl, rfl, (.cons ((.lit _)) (.cons ((.row _ _ rfl (lookNe rfl))) .nil))⟩, (.inl ⟨_, rfl, rfl⟩), trivial⟩ (parOk hpar rfl)⟩
         ·omega
         ·omega
       ·refine u_end trivial ?_
        refine vw_seq ?_
        refine vw_condF rfl ?_
        refine vw_exit ?_
        refine iteP rfl ?_
        refine vw_seq ?_
        refine vw_seq ?_
        refine vw_region ?_
        refine u_move rfl rfl trivial ?_
        refine s_lss rfl rfl rfl trivial (fun h58 => ?_) (fun h58 => ?_)
        ·refine u_end trivial ?_
         refine vw_condT rfl ?_
         refine vw_seq ?_
         refine vw_region ?_
         refine u_build rfl rfl rfl rfl rfl trivial ?_
         refine u_storeAll rfl rfl rfl rfl rfl rfl rfl rfl trivial ?_
         refine u_assign rfl rfl trivial ?_
         refine u_end trivial ?_
         refine vw_ret ?_
         rw [parse_hexes hok (by rw [hdr]; exact refAt_bad hx hev hi (by rw [← upTo_16 hk16 h47]; exact h58))]
         refine fin' [] (.inr rfl) (.cons (.cellN rfl rfl rfl rfl rfl) (.cons (.tmp rfl (nb rfl)) .nil)) (mk_wk [] rfl rfl ⟨⟨_, rfl, (.tup _ _ (.cons (.agg _ _ (.cons (subI ?_) (.cons (subNs ?_) .nil))) (.cons (subI ?_) .nil)))⟩, trivial⟩ trivial (parOk rfl rfl))
         all_goals (try rfl)
        ·refine u_end trivial ?_
         refine vw_condF rfl ?_
         refine vw_skip ?_
         refine vw_seq ?_
         refine vw_region ?_
         refine u_move rfl rfl trivial ?_
         refine u_mul rfl rfl rfl (by unfold inI; omega) rfl trivial ?_
         refine u_move rfl rfl trivial ?_
         refine u_add rfl rfl rfl (by rw [upTo_16 hk16 h47]; unfold inI; omega) rfl trivial ?_
         refine u_assign rfl rfl trivial ?_
         refine u_end trivial ?_
         refine vw_seq ?_
         refine vw_region ?_
         refine u_move rfl rfl trivial ?_
         refine u_remN rfl rfl (by omega) rfl trivial ?_
         refine s_eql rfl rfl rfl trivial (fun h66 => ?_) (fun h66 => ?_)
         ·refine u_end trivial ?_
          refine vw_condT rfl ?_
          refine vw_seq ?_
          refine vw_region ?_
          refine u_fieldAddr rfl rfl rfl rfl rfl rfl trivial ?_
          refine u_load1 rfl rfl rfl rfl rfl rfl trivial ?_
          refine u_move rfl rfl trivial ?_
          refine u_convB rfl rfl rfl rfl trivial ?_
          refine u_buildSlice 142 rfl rfl rfl rfl rfl rfl rfl rfl rfl rfl (notPar hpar rfl) rfl rfl trivial ?_
          refine u_append 143 rfl rfl rfl (srcRow rfl) rfl (notPar hpar rfl) rfl rfl rfl rfl rfl (by simp [cellsL, byteCells_length]; omega) rfl trivial ?_
          refine u_fieldAddr rfl rfl rfl rfl rfl rfl trivial ?_
          refine u_store rfl rfl rfl rfl rfl rfl rfl trivial ?_
          refine u_end trivial ?_
          refine vw_region ?_
          refine u_assign rfl rfl trivial ?_
          refine u_end trivial ?_
          refine vw_region ?_
          refine u_move rfl rfl trivial ?_
          refine u_add rfl rfl rfl (by unfold inI; omega) rfl trivial ?_
          refine u_assign rfl rfl trivial ?_
          refine u_end trivial ?_
          refine ⟨_, _, ren [(2, 2), (4, 4), (8, 143)], ?_, ⟨i + 1, acc ++ [u8 (16 * v + hexI (r[i]'hi))], 0, ?_, rfl, rfl⟩, mk_wk [(2, 2), (4, 4), (8, 143)] rfl rfl ⟨⟨_, rfl, (.lit _)⟩, ⟨_, rfl, (.ptr _ _ _ rfl (lookNe rfl))⟩, ⟨_, rfl, (.ptr _ _ _ rfl (lookNe rfl))⟩, ⟨_, rfl, (.lit _)⟩, ⟨_, rfl, (subI (by omega))⟩, trivial⟩ ⟨⟨_, _, rfl, rfl, (subPL rfl)⟩, ⟨_, _, rfl, rfl, (.cons ((.lit _)) (.cons ((.row _ _ rfl (lookNe rfl))) .nil))⟩, (.inl ⟨_, rfl, rowEq rfl (by rw [upTo_16 hk16 h47]; simp [byteCells, cellsL, cellsOf, u8_toNat])⟩), trivial⟩ (parOk hpar rfl)⟩
          ·omega
          ·exact ⟨by omega, refAt_odd hx (by omega) hi (by rw [← upTo_16 hk16 h47]; omega)⟩
         ·refine u_end trivial ?_
          refine vw_condF rfl ?_
          refine vw_skip ?_
          refine vw_region ?_
          refine u_move rfl rfl trivial ?_
          refine u_add rfl rfl rfl (by unfold inI; omega) rfl trivial ?_
          refine u_assign rfl rfl trivial ?_
          refine u_end trivial ?_
          refine ⟨_, _, ren [(2, 2), (4, 4), (8, 8)], ?_, ⟨i + 1, acc, (16 * v + hexI (r[i]'hi)), ?_, rfl, rfl⟩, mk_wk [(2, 2), (4, 4), (8, 8)] rfl rfl ⟨⟨_, rfl, (.lit _)⟩, ⟨_, rfl, (.ptr _ _ _ rfl (lookNe rfl))⟩, ⟨_, rfl, (.ptr _ _ _ rfl (lookNe rfl))⟩, ⟨_, rfl, (subI (by rw [upTo_16 hk16 h47]))⟩, ⟨_, rfl, (subI (by omega))⟩, trivial⟩ ⟨⟨_, _, rfl, rfl, (subPL rfl)⟩, ⟨_, _, rfl, rfl, (.cons ((.lit _)) (.cons ((.row _ _ rfl (lookNe rfl))) .nil))⟩, (.inl ⟨_, rfl, rfl⟩), trivial⟩ (parOk hpar rfl)⟩
          ·omega
          ·exact ⟨by omega, refAt_even hx (by omega) hi (by rw [← upTo_16 hk16 h47]; omega)⟩
      ·refine u_end trivial ?_
       refine vw_condF rfl ?_
       refine vw_exit ?_
       refine iteP rfl ?_
       refine vw_seq ?_
       refine vw_seq ?_
       rw [tx_size] at h43
       have hri := refAt_in hx
       refine vw_region ?_
       refine u_loadAll rfl rfl rfl rfl rfl rfl trivial ?_
       refine u_callB [(8, _)] rfl (c60 (_, _)) (.cons ((.agg _ _ (.cons ((.lit _)) (.cons (.frz _ _ _ _ rfl (lookNe rfl)) .nil)))) .nil) (sub1 rfl) rfl rfl trivial ?_
       refine u_assign rfl rfl trivial ?_
       refine u_end trivial ?_
       refine vw_seq ?_
       refine vw_region ?_
       refine u_move rfl rfl trivial ?_
       refine s_neq rfl rfl rfl trivial (fun h77 => ?_) (fun h77 => ?_)
       ·refine u_end trivial ?_
        refine vw_condT rfl ?_
        refine vw_seq ?_
        refine vw_region ?_
        refine u_build rfl rfl rfl rfl rfl trivial ?_
        refine u_move rfl rfl trivial ?_
        refine u_storeAll rfl rfl rfl rfl rfl rfl rfl rfl trivial ?_
        refine u_assign rfl rfl trivial ?_
        refine u_end trivial ?_
        refine vw_ret ?_
        rw [parse_some (k := (c.toNat : Int) - 48) hok (by rw [hdr]; exact refAt_end hx hev (by omega)) (by rw [hhd]), if_neg h77]
        refine fin' [] (.inr rfl) (.cons (.cellN rfl rfl rfl rfl rfl) (.cons (.tmp rfl (nb rfl)) .nil)) (mk_wk [] rfl rfl ⟨⟨_, rfl, (.tup _ _ (.cons (.agg _ _ (.cons (subI ?_) (.cons (subNs ?_) .nil))) (.cons (subI ?_) .nil)))⟩, trivial⟩ trivial (parOk rfl rfl))
        all_goals (try rfl)
       ·refine u_end trivial ?_
        refine vw_condF rfl ?_
        refine vw_skip ?_
        refine vw_seq ?_
        refine vw_region ?_
        refine u_loadAll rfl rfl rfl rfl rfl rfl trivial ?_
        refine u_storeAll rfl rfl rfl rfl rfl rfl rfl rfl trivial ?_
        refine u_assign rfl rfl trivial ?_
        refine u_end trivial ?_
        refine vw_ret ?_
        rw [parse_some (k := (c.toNat : Int) - 48) hok (by rw [hdr]; exact refAt_end hx hev (by omega)) (by rw [hhd]), if_pos h77]
        refine fin' [] (.inr rfl) (.cons (.cellN rfl rfl rfl rfl rfl) (.cons (.tmp rfl (nb rfl)) .nil)) (mk_wk [] rfl rfl ⟨⟨_, rfl, (.tup _ _ (.cons (.agg _ _ (.cons (subI ?_) (.cons (subFz rfl (fzL rfl) ?_) .nil))) (.cons (subI ?_) .nil)))⟩, trivial⟩ trivial (parOk rfl rfl))
        all_goals (try rfl)
theorem c103 (m : Msg) (hw : wrongMsg m = 0) : VFun G 103 [.agg [.lit (.int .i64 m.1), .shr 1 (byteCells m.2)]] [] (.lit (.string (tx (printT m)))) [] := by
 obtain ⟨w0, w1, w2⟩ := rightMsg_is hw
 refine VFun.intro (fn := Try.f103) rfl rfl (by kernel_rfl) (nb rfl) fun Γ hpar => ?_
 refine vw_seq ?_
 refine vw_region ?_
 refine u_box 100 rfl rfl rfl (notPar hpar rfl) rfl rfl trivial ?_
 refine u_assign rfl rfl trivial ?_
 refine u_end trivial ?_
 refine vw_seq ?_
 refine vw_region ?_
 refine u_fieldAddr rfl rfl rfl rfl rfl rfl trivial ?_
 refine u_load1 rfl rfl rfl rfl rfl rfl trivial ?_
 refine u_indexX (bs := hexL) (i := m.1.toNat) rfl rfl rfl rfl (by omega) (by show m.1.toNat < 16; omega) rfl trivial ?_
 refine u_buildSlice 101 rfl rfl rfl rfl rfl rfl rfl rfl rfl rfl (notPar hpar rfl) rfl rfl trivial ?_
 refine u_assign rfl rfl trivial ?_
 refine u_end trivial ?_
 refine vw_seq ?_
 refine vw_seq ?_
 refine vw_region ?_
 refine u_fieldAddr rfl rfl rfl rfl rfl rfl trivial ?_
 refine u_load1 rfl rfl rfl rfl rfl rfl trivial ?_
 refine u_len rfl rfl rfl trivial ?_
 refine u_move rfl rfl trivial ?_
 refine u_end trivial ?_
 refine vw_block ?_
 refine vw_loopR (fun n_ E => ∃ (i : Nat), ((i ≤ m.2.length)) ∧ n_ = m.2.length - i ∧ E = ⟨[(3, .row 5), (11, .shr 1 (byteCells m.2)), (12, .lit (.int .i64 (byteCells m.2).length)), (13, .lit (.int .i64 (i : Int)))], [(5, .row 5 1 (byteCells (hexD m.1.toNat :: 58 :: (m.2.take i).flatMap hex2)))], 29⟩) (n0 := _) (E0 := _) (⟨0, by omega, rfl, rfl⟩) (ren [(5, 101)]) (mk_wk [(5, 101)] rfl rfl ⟨⟨_, rfl, (.row _ _ rfl (lookNe rfl))⟩, ⟨_, rfl, (.shr _ _)⟩, ⟨_, rfl, (.lit _)⟩, ⟨_, rfl, (subI (by rfl))⟩, trivial⟩ ⟨(.inl ⟨_, rfl, rowEq rfl (by simp [byteCells, cellsL, cellsOf, hexL_get])⟩), trivial⟩ (parOk hpar rfl)) (fun n_ E hR => ?_)
 obtain ⟨i, hI, rfl, rfl⟩ := hR
 have hI0 := hI
 refine vw_seq ?_
 refine vw_region ?_
 refine s_lss rfl rfl rfl trivial (fun h14 => ?_) (fun h14 => ?_)
 ·refine u_end trivial ?_
  refine vw_seq ?_
  refine vw_condT rfl ?_
  refine vw_skip ?_
  refine vw_seq ?_
  refine vw_block ?_
  refine vw_seq ?_
  rw [byteCells_length] at h14
  refine vw_region ?_
  refine u_indexS rfl rfl rfl rfl rfl rfl (byteCells_get (by omega)) rfl trivial ?_
  refine u_loadS1 rfl rfl rfl rfl rfl trivial ?_
  refine u_assign rfl rfl trivial ?_
  refine u_end trivial ?_
  have hfl := flat_len (m.2.take i)
  rw [List.length_take] at hfl
  have hb := (m.2[i]'(by omega)).toNat_lt
  refine vw_draw ?_
  refine u_move rfl rfl trivial ?_
  refine u_move rfl rfl trivial ?_
  refine u_shr4 rfl rfl rfl rfl trivial ?_
  refine u_indexX (bs := hexL) (i := ((m.2[i]'(by omega)).toNat / 16)) rfl rfl rfl rfl (by rfl) (by show _ < 16; omega) rfl trivial ?_
  refine u_move rfl rfl trivial ?_
  refine u_and15 rfl rfl rfl (by omega) rfl trivial ?_
  refine u_indexX (bs := hexL) (i := ((m.2[i]'(by omega)).toNat % 16)) rfl rfl rfl rfl (by rfl) (by show _ < 16; omega) rfl trivial ?_
  refine u_buildSlice 122 rfl rfl rfl rfl rfl rfl rfl rfl rfl rfl (notPar hpar rfl) rfl rfl trivial ?_
  refine u_append 123 rfl rfl rfl (srcRow rfl) rfl (notPar hpar rfl) rfl rfl rfl rfl rfl (by simp [cellsL, byteCells_length, -List.length_flatMap]; omega) rfl trivial ?_
  refine u_assign rfl rfl trivial ?_
  refine u_end (by kernel_rfl) ?_
  refine vw_region ?_
  refine u_add rfl rfl rfl (by unfold inI; omega) rfl trivial ?_
  refine u_move rfl rfl trivial ?_
  refine u_end trivial ?_
  refine ⟨_, _, ren [(5, 123)], ?_, ⟨i + 1, ?_, rfl, rfl⟩, mk_wk [(5, 123)] rfl rfl ⟨⟨_, rfl, (.row _ _ rfl (lookNe rfl))⟩, ⟨_, rfl, (.shr _ _)⟩, ⟨_, rfl, (.lit _)⟩, ⟨_, rfl, (.lit _)⟩, trivial⟩ ⟨(.inl ⟨_, rfl, rowEq rfl (by rw [← List.take_append_getElem (show i < m.2.length by omega), List.flatMap_append]; simp [byteCells, cellsL, cellsOf, hex2, hexL_get])⟩), trivial⟩ (parOk hpar rfl)⟩
  ·omega
  ·omega
 ·refine u_end trivial ?_
  refine vw_seq ?_
  refine vw_condF rfl ?_
  refine vw_exit ?_
  refine iteP rfl ?_
  refine vw_seq ?_
  rw [byteCells_length] at h14
  refine vw_region ?_
  refine u_move rfl rfl trivial ?_
  refine u_convTR (bs := (hexD m.1.toNat :: 58 :: (m.2.take i).flatMap hex2)) rfl rfl (by rfl) rfl rfl rfl rfl trivial ?_
  refine u_assign rfl rfl trivial ?_
  refine u_end trivial ?_
  refine vw_ret ?_
  refine fin0 (.inr rfl) (.cons (.tmp rfl (nb rfl)) .nil) (subT ?_)
  ·rw [List.take_of_length_le (by omega)]; rfl
theorem c104 (m : Msg) (hw : wrongMsg m = 0) : VFun G 104 [.agg [.lit (.int .i64 m.1), .shr 1 (byteCells m.2)]] [] (.lit (.string (tx (printT m)))) [] := by
 obtain ⟨w0, w1, w2⟩ := rightMsg_is hw
 refine VFun.intro (fn := Try.f104) rfl rfl (by kernel_rfl) (nb rfl) fun Γ hpar => ?_
 refine vw_seq ?_
 refine vw_region ?_
 refine u_box 100 rfl rfl rfl (notPar hpar rfl) rfl rfl trivial ?_
 refine u_assign rfl rfl trivial ?_
 refine u_end trivial ?_
 refine vw_seq ?_
 refine vw_region ?_
 refine u_buildSlice 101 rfl rfl rfl rfl rfl rfl rfl rfl rfl rfl (notPar hpar rfl) rfl rfl trivial ?_
 refine u_fieldAddr rfl rfl rfl rfl rfl rfl trivial ?_
 refine u_load1 rfl rfl rfl rfl rfl rfl trivial ?_
 refine u_indexR rfl rfl rfl rfl rfl rfl (i := m.1.toNat) (by omega) (by simp [cellsL]; omega) rfl trivial ?_
 refine u_loadRow1 rfl rfl (three w0 w1) rfl rfl rfl rfl trivial ?_
 refine u_assign rfl rfl trivial ?_
 refine u_end trivial ?_
 refine vw_seq ?_
 refine vw_seq ?_
 refine vw_region ?_
 refine u_fieldAddr rfl rfl rfl rfl rfl rfl trivial ?_
 refine u_load1 rfl rfl rfl rfl rfl rfl trivial ?_
 refine u_len rfl rfl rfl trivial ?_
 refine u_move rfl rfl trivial ?_
 refine u_end trivial ?_
 refine vw_block ?_
 refine vw_loopR (fun n_ E => ∃ (i : Nat), ((i ≤ m.2.length)) ∧ n_ = m.2.length - i ∧ E = ⟨[(3, .lit (.string (tx (hexD m.1.toNat :: 58 :: (m.2.take i).flatMap hex2)))), (12, .shr 1 (byteCells m.2)), (13, .lit (.int .i64 (byteCells m.2).length)), (14, .lit (.int .i64 (i : Int)))], [], 31⟩) (n0 := _) (E0 := _) (⟨0, by omega, rfl, rfl⟩) (ren []) (mk_wk [] rfl rfl ⟨⟨_, rfl, (subT (by rfl))⟩, ⟨_, rfl, (.shr _ _)⟩, ⟨_, rfl, (.lit _)⟩, ⟨_, rfl, (subI (by rfl))⟩, trivial⟩ trivial (parOk hpar rfl)) (fun n_ E hR => ?_)
 obtain ⟨i, hI, rfl, rfl⟩ := hR
 have hI0 := hI
 refine vw_seq ?_
 refine vw_region ?_
 refine s_lss rfl rfl rfl trivial (fun h15 => ?_) (fun h15 => ?_)
 ·refine u_end trivial ?_
  refine vw_seq ?_
  refine vw_condT rfl ?_
  refine vw_skip ?_
  refine vw_seq ?_
  refine vw_block ?_
  refine vw_seq ?_
  rw [byteCells_length] at h15
  refine vw_region ?_
  refine u_indexS rfl rfl rfl rfl rfl rfl (byteCells_get (by omega)) rfl trivial ?_
  refine u_loadS1 rfl rfl rfl rfl rfl trivial ?_
  refine u_assign rfl rfl trivial ?_
  refine u_end trivial ?_
  have hfl := flat_len (m.2.take i)
  rw [List.length_take] at hfl
  have hb := (m.2[i]'(by omega)).toNat_lt
  refine vw_draw ?_
  refine u_move rfl rfl trivial ?_
  refine u_move rfl rfl trivial ?_
  refine u_quo16 rfl rfl rfl (by omega) rfl trivial ?_
  refine u_indexX (bs := hexL) (i := ((m.2[i]'(by omega)).toNat / 16)) rfl rfl rfl rfl (by rfl) (by show _ < 16; omega) rfl trivial ?_
  refine u_convIT (m := _) rfl rfl (by exact hexL_small _ _) rfl rfl rfl trivial ?_
  refine u_addT rfl rfl (by rw [tx_size, tx_size]; simp [-List.length_flatMap]; omega) rfl trivial ?_
  refine u_move rfl rfl trivial ?_
  refine u_remN rfl rfl (by omega) rfl trivial ?_
  refine u_indexX (bs := hexL) (i := ((m.2[i]'(by omega)).toNat % 16)) rfl rfl rfl rfl (by omega) (by show _ < 16; omega) rfl trivial ?_
  refine u_convIT (m := _) rfl rfl (by exact hexL_small _ _) rfl rfl rfl trivial ?_
  refine u_addT rfl rfl (by rw [tx_add, tx_size, tx_size]; simp [-List.length_flatMap]; omega) rfl trivial ?_
  refine u_assign rfl rfl trivial ?_
  refine u_end (by kernel_rfl) ?_
  refine vw_region ?_
  refine u_add rfl rfl rfl (by unfold inI; omega) rfl trivial ?_
  refine u_move rfl rfl trivial ?_
  refine u_end trivial ?_
  refine ⟨_, _, ren [], ?_, ⟨i + 1, ?_, rfl, rfl⟩, mk_wk [] rfl rfl ⟨⟨_, rfl, (subT (by rw [tx_add, tx_add, ← List.take_append_getElem (show i < m.2.length by omega), List.flatMap_append]; simp [hex2, hexD_get]))⟩, ⟨_, rfl, (.shr _ _)⟩, ⟨_, rfl, (.lit _)⟩, ⟨_, rfl, (.lit _)⟩, trivial⟩ trivial (parOk hpar rfl)⟩
  ·omega
  ·omega
 ·refine u_end trivial ?_
  refine vw_seq ?_
  refine vw_condF rfl ?_
  refine vw_exit ?_
  refine iteP rfl ?_
  refine vw_seq ?_
  rw [byteCells_length] at h15
  refine vw_region ?_
  refine u_move rfl rfl trivial ?_
  refine u_assign rfl rfl trivial ?_
  refine u_end trivial ?_
  refine vw_ret ?_
  refine fin0 (.inr rfl) (.cons (.tmp rfl (nb rfl)) .nil) (subT ?_)
  ·rw [List.take_of_length_le (by omega)]; rfl
theorem c105  : VFun G 105 [] [] (.lit (.bool true)) [] := by
 have e1 : parseT [50, 58, 54, 49, 54, 50] = ((2, [97, 98]), 0) := by decide +kernel
 have k1 : VFun G 101 [.lit (.string (tx [50, 58, 54, 49, 54, 50]))] [] (.tup [.agg [.lit (.int .i64 2), .shr 1 (byteCells [97, 98])], .lit (.int .i64 0)]) [] := by
   have e := c101 [50, 58, 54, 49, 54, 50] (by decide)
   rw [e1] at e
   exact e
 have ep : printT (2, [97, 98]) = [50, 58, 54, 49, 54, 50] := by decide +kernel
 refine VFun.intro (fn := Try.f105) rfl rfl (by kernel_rfl) (nb rfl) fun Γ hpar => ?_
 refine vw_seq ?_
 refine vw_region ?_
 refine u_assign rfl rfl trivial ?_
 refine u_end trivial ?_
 refine vw_seq ?_
 refine vw_region ?_
 refine u_call rfl (k1) (.cons ((.lit _)) .nil) rfl trivial ?_
 refine u_move rfl rfl trivial ?_
 refine u_extract rfl rfl rfl trivial ?_
 refine u_extract rfl rfl rfl trivial ?_
 refine u_alloc 100 rfl rfl (notPar hpar rfl) rfl rfl trivial ?_
 refine u_storeAll rfl rfl rfl rfl rfl rfl rfl rfl trivial ?_
 refine u_assign rfl rfl trivial ?_
 refine u_end trivial ?_
 refine vw_seq ?_
 refine vw_region ?_
 refine u_move rfl rfl trivial ?_
 refine s_eql rfl rfl rfl trivial (fun h8 => ?_) (fun h8 => ?_)
 ·refine u_move rfl rfl trivial ?_
  refine u_fieldAddr rfl rfl rfl rfl rfl rfl ⟨_, _, rfl, rfl, rfl, rfl⟩ ?_
  refine u_load1 rfl rfl rfl rfl rfl rfl ⟨_, _, rfl, rfl, rfl, rfl⟩ ?_
  refine s_eql rfl rfl rfl ⟨_, _, rfl, rfl, rfl, rfl⟩ (fun h12 => ?_) (fun h12 => ?_)
  ·refine u_pickT rfl rfl rfl trivial ?_
   refine u_move rfl rfl trivial ?_
   refine u_fieldAddr rfl rfl rfl rfl rfl rfl ⟨_, _, rfl, rfl, rfl, rfl⟩ ?_
   refine u_load1 rfl rfl rfl rfl rfl rfl ⟨_, _, rfl, rfl, rfl, rfl⟩ ?_
   refine u_convT rfl (by rfl) rfl rfl rfl rfl ⟨_, _, rfl, rfl, rfl, rfl⟩ ?_
   refine s_eqlT rfl rfl rfl ⟨_, _, rfl, rfl, rfl, rfl⟩ (fun h18 => ?_) (fun h18 => ?_)
   ·refine u_pickT rfl rfl rfl trivial ?_
    refine u_move rfl rfl trivial ?_
    refine u_loadAll rfl rfl rfl rfl rfl rfl ⟨_, _, rfl, rfl, rfl, rfl⟩ ?_
    refine u_call rfl (c103 (2, [97, 98]) (by decide)) (.cons ((subP rfl)) .nil) rfl ⟨_, _, rfl, rfl, rfl, rfl⟩ ?_
    refine u_eqlT rfl rfl rfl ⟨_, _, rfl, rfl, rfl, rfl⟩ ?_
    refine u_pickT rfl rfl rfl trivial ?_
    refine u_assign rfl rfl trivial ?_
    refine u_end trivial ?_
    refine vw_ret ?_
    refine fin0 (.inr rfl) (.cons (.tmp rfl (nb rfl)) .nil) (subB ?_)
    ·rw [ep]; exact (beq_iff_eq.2 rfl).symm
   ·exact absurd rfl h18
  ·exact absurd rfl h12
 ·exact absurd rfl h8
theorem c25 (s : List UInt8) (hs : s.length ≤ 140737488351232) (m : Msg) : VFun G 25 [.lit (.string (tx s)), .agg [.lit (.int .i64 m.1), .shr 1 (byteCells m.2)]] [] (.lit (.bool true)) [] := by
 refine VFun.intro (fn := Try.f25) rfl rfl (by kernel_rfl) (nb rfl) fun Γ hpar => ?_
 refine vw_seq ?_
 refine vw_region ?_
 refine u_box 100 rfl rfl rfl (notPar hpar rfl) rfl rfl trivial ?_
 refine u_assign rfl rfl trivial ?_
 refine u_end trivial ?_
 refine vw_seq ?_
 refine vw_region ?_
 refine u_move rfl rfl trivial ?_
 refine u_call rfl (c101 _ (by omega)) (.cons ((.lit _)) .nil) rfl trivial ?_
 refine u_move rfl rfl trivial ?_
 refine u_extract rfl rfl rfl trivial ?_
 refine u_extract rfl rfl rfl trivial ?_
 refine u_alloc 101 rfl rfl (notPar hpar rfl) rfl rfl trivial ?_
 refine u_storeAll rfl rfl rfl rfl rfl rfl rfl rfl trivial ?_
 refine u_assign rfl rfl trivial ?_
 refine u_end trivial ?_
 refine vw_seq ?_
 refine vw_region ?_
 refine u_move rfl rfl trivial ?_
 refine u_call rfl (c102 _ (by omega)) (.cons ((.lit _)) .nil) rfl trivial ?_
 refine u_move rfl rfl trivial ?_
 refine u_extract rfl rfl rfl trivial ?_
 refine u_extract rfl rfl rfl trivial ?_
 refine u_alloc 102 rfl rfl (notPar hpar rfl) rfl rfl trivial ?_
 refine u_storeAll rfl rfl rfl rfl rfl rfl rfl rfl trivial ?_
 refine u_assign rfl rfl trivial ?_
 refine u_end trivial ?_
 refine vw_seq ?_
 refine vw_draw ?_
 refine u_move rfl rfl trivial ?_
 refine u_move rfl rfl trivial ?_
 refine s_eql rfl rfl rfl trivial (fun h21 => ?_) (fun h21 => ?_)
 ·refine u_move rfl rfl trivial ?_
  refine u_loadAll rfl rfl rfl rfl rfl rfl ⟨_, _, rfl, rfl, rfl, rfl⟩ ?_
  refine u_loadAll rfl rfl rfl rfl rfl rfl ⟨_, _, rfl, rfl, rfl, rfl⟩ ?_
  refine s_call [] rfl (c62 (_, _) (_, _)) (.cons ((subP rfl)) (.cons ((subP rfl)) .nil)) (fun k o h => by simp [Go.Vc.look] at h) rfl ⟨_, _, rfl, rfl, rfl, rfl⟩ (fun h25 => ?_) (fun h25 => ?_)
  ·refine u_pickT rfl rfl rfl trivial ?_
   refine u_move rfl rfl trivial ?_
   refine u_loadAll rfl rfl rfl rfl rfl rfl ⟨_, _, rfl, rfl, rfl, rfl⟩ ?_
   refine u_call rfl (c60 (_, _)) (.cons ((subP rfl)) .nil) rfl ⟨_, _, rfl, rfl, rfl, rfl⟩ ?_
   refine s_neq rfl rfl rfl ⟨_, _, rfl, rfl, rfl, rfl⟩ (fun h30 => ?_) (fun h30 => ?_)
   ·refine u_move rfl rfl ⟨_, _, rfl, rfl, rfl, rfl⟩ ?_
    refine u_skip rfl rfl rfl rfl rfl ?_
    refine u_skip rfl rfl rfl rfl rfl ?_
    refine u_skip rfl rfl rfl rfl rfl ?_
    refine u_skip rfl rfl rfl rfl rfl ?_
    refine u_skip rfl rfl rfl rfl rfl ?_
    refine u_pickT rfl rfl rfl ⟨_, _, rfl, rfl, rfl, rfl⟩ ?_
    refine u_pickT rfl rfl rfl trivial ?_
    refine u_assign rfl rfl trivial ?_
    refine u_end (by kernel_rfl) ?_
    refine vw_ret ?_
    refine fin0 (.inr rfl) (.cons (.tmp rfl (nb rfl)) .nil) (subB ?_)
    ·first | rfl | exact (beq_iff_eq.2 rfl).symm
   ·refine u_move rfl rfl ⟨_, _, rfl, rfl, rfl, rfl⟩ ?_
    refine u_loadAll rfl rfl rfl rfl rfl rfl ⟨_, _, rfl, rfl, rfl, rfl⟩ ?_
    refine u_call rfl (c103 m h30) (.cons ((subP rfl)) .nil) rfl ⟨_, _, rfl, rfl, rfl, rfl⟩ ?_
    refine u_loadAll rfl rfl rfl rfl rfl rfl ⟨_, _, rfl, rfl, rfl, rfl⟩ ?_
    refine u_call rfl (c104 m h30) (.cons ((subP rfl)) .nil) rfl ⟨_, _, rfl, rfl, rfl, rfl⟩ ?_
    refine u_eqlT rfl rfl rfl ⟨_, _, rfl, rfl, rfl, rfl⟩ ?_
    refine u_pickF rfl rfl rfl ⟨_, _, rfl, rfl, rfl, rfl⟩ ?_
    refine u_pickT rfl rfl rfl trivial ?_
    refine u_assign rfl rfl trivial ?_
    refine u_end (by kernel_rfl) ?_
    refine vw_ret ?_
    refine fin0 (.inr rfl) (.cons (.tmp rfl (nb rfl)) .nil) (subB ?_)
    ·first | rfl | exact (beq_iff_eq.2 rfl).symm
  ·simp at h25
 ·exact absurd rfl h21
theorem c26 (s : List UInt8) (hs : s.length ≤ 140737488351232) (m n : Msg) : VFun G 26 [.lit (.string (tx s)), .agg [.lit (.int .i64 m.1), .shr 1 (byteCells m.2)], .agg [.lit (.int .i64 n.1), .shr 1 (byteCells n.2)]] [] (.lit (.bool true)) [] := by
 refine VFun.intro (fn := Try.f26) rfl rfl (by kernel_rfl) (nb rfl) fun Γ hpar => ?_
 refine vw_seq ?_
 refine vw_region ?_
 refine u_box 100 rfl rfl rfl (notPar hpar rfl) rfl rfl trivial ?_
 refine u_box 101 rfl rfl rfl (notPar hpar rfl) rfl rfl trivial ?_
 refine u_assign rfl rfl trivial ?_
 refine u_end trivial ?_
 refine vw_seq ?_
 refine vw_seq ?_
 refine vw_region ?_
 refine u_call rfl (c105) .nil rfl trivial ?_
 refine u_not rfl rfl trivial ?_
 refine u_end trivial ?_
 refine vw_condF rfl ?_
 refine vw_skip ?_
 refine vw_seq ?_
 refine vw_seq ?_
 refine vw_region ?_
 refine u_loadAll rfl rfl rfl rfl rfl rfl trivial ?_
 refine u_call rfl (c60 (_, _)) (.cons ((subP rfl)) .nil) rfl trivial ?_
 refine s_eql rfl rfl rfl trivial (fun h15 => ?_) (fun h15 => ?_)
 ·refine u_end trivial ?_
  refine vw_condT rfl ?_
  refine vw_seq ?_
  have k1 : VFun G 101 [.lit (.string (tx (printT m)))] [] (.tup [.agg [.lit (.int .i64 m.1), .shr 1 (byteCells m.2)], .lit (.int .i64 0)]) [] := by
    have e := c101 (printT m) (by have := (rightMsg_is (m := m) h15).2.2; unfold printT; simp only [List.length_cons, flat_len]; omega)
    rw [parse_print h15] at e
    exact e
  refine vw_region ?_
  refine u_loadAll rfl rfl rfl rfl rfl rfl trivial ?_
  refine u_call rfl (c103 m h15) (.cons ((subP rfl)) .nil) rfl trivial ?_
  refine u_call rfl (k1) (.cons ((.lit _)) .nil) rfl trivial ?_
  refine u_move rfl rfl trivial ?_
  refine u_extract rfl rfl rfl trivial ?_
  refine u_extract rfl rfl rfl trivial ?_
  refine u_alloc 102 rfl rfl (notPar hpar rfl) rfl rfl trivial ?_
  refine u_storeAll rfl rfl rfl rfl rfl rfl rfl rfl trivial ?_
  refine u_assign rfl rfl trivial ?_
  refine u_end trivial ?_
  refine vw_seq ?_
  refine vw_seq ?_
  refine vw_region ?_
  refine u_move rfl rfl trivial ?_
  refine s_neq rfl rfl rfl trivial (fun h23 => ?_) (fun h23 => ?_)
  ·exact absurd rfl h23
  ·refine u_move rfl rfl trivial ?_
   refine u_loadAll rfl rfl rfl rfl rfl rfl ⟨_, _, rfl, rfl, rfl, rfl⟩ ?_
   refine u_loadAll rfl rfl rfl rfl rfl rfl ⟨_, _, rfl, rfl, rfl, rfl⟩ ?_
   refine s_call [] rfl (c62 (_, _) (_, _)) (.cons ((subP rfl)) (.cons ((subP rfl)) .nil)) (fun k o h => by simp [Go.Vc.look] at h) rfl ⟨_, _, rfl, rfl, rfl, rfl⟩ (fun h27 => ?_) (fun h27 => ?_)
   ·refine u_not rfl rfl ⟨_, _, rfl, rfl, rfl, rfl⟩ ?_
    refine u_pickF rfl rfl rfl trivial ?_
    refine u_end trivial ?_
    refine vw_condF rfl ?_
    refine vw_skip ?_
    refine vw_seq ?_
    refine vw_draw ?_
    refine u_loadAll rfl rfl rfl rfl rfl rfl trivial ?_
    refine u_call rfl (c60 (_, _)) (.cons ((subP rfl)) .nil) rfl trivial ?_
    refine s_eql rfl rfl rfl trivial (fun h32 => ?_) (fun h32 => ?_)
    ·refine u_move rfl rfl trivial ?_
     refine u_loadAll rfl rfl rfl rfl rfl rfl ⟨_, _, rfl, rfl, rfl, rfl⟩ ?_
     refine u_call rfl (c103 m h15) (.cons ((subP rfl)) .nil) rfl ⟨_, _, rfl, rfl, rfl, rfl⟩ ?_
     refine u_loadAll rfl rfl rfl rfl rfl rfl ⟨_, _, rfl, rfl, rfl, rfl⟩ ?_
     refine u_call rfl (c103 n h32) (.cons ((subP rfl)) .nil) rfl ⟨_, _, rfl, rfl, rfl, rfl⟩ ?_
     refine u_eqlT rfl rfl rfl ⟨_, _, rfl, rfl, rfl, rfl⟩ ?_
     refine u_loadAll rfl rfl rfl rfl rfl rfl ⟨_, _, rfl, rfl, rfl, rfl⟩ ?_
     refine u_loadAll rfl rfl rfl rfl rfl rfl ⟨_, _, rfl, rfl, rfl, rfl⟩ ?_
     refine u_call rfl (c62 (_, _) (_, _)) (.cons ((subP rfl)) (.cons ((subP rfl)) .nil)) rfl ⟨_, _, rfl, rfl, rfl, rfl⟩ ?_
     refine s_neqB rfl rfl rfl rfl ⟨_, _, rfl, rfl, rfl, rfl⟩ (fun h42 => ?_) (fun h42 => ?_)
     ·rw [tx_toList, tx_toList] at h42; exact absurd (print_inj h15 h32) h42
     ·refine u_pickT rfl rfl rfl trivial ?_
      refine u_end (by kernel_rfl) ?_
      refine vw_condF rfl ?_
      refine vw_skip ?_
      refine vw_seq ?_
      refine vw_region ?_
      refine u_move rfl rfl trivial ?_
      refine u_call rfl (c101 _ (by omega)) (.cons ((.lit _)) .nil) rfl trivial ?_
      refine u_move rfl rfl trivial ?_
      refine u_extract rfl rfl rfl trivial ?_
      refine u_extract rfl rfl rfl trivial ?_
      refine u_alloc 103 rfl rfl (notPar hpar rfl) rfl rfl trivial ?_
      refine u_storeAll rfl rfl rfl rfl rfl rfl rfl rfl trivial ?_
      refine u_assign rfl rfl trivial ?_
      refine u_end trivial ?_
      refine vw_seq ?_
      refine vw_region ?_
      refine u_move rfl rfl trivial ?_
      refine s_neq rfl rfl rfl trivial (fun h50 => ?_) (fun h50 => ?_)
      ·refine u_move rfl rfl trivial ?_
       refine u_skip rfl rfl rfl rfl rfl ?_
       refine u_skip rfl rfl rfl rfl rfl ?_
       refine u_skip rfl rfl rfl rfl rfl ?_
       refine u_skip rfl rfl rfl rfl rfl ?_
       refine u_skip rfl rfl rfl rfl rfl ?_
       refine u_skip rfl rfl rfl rfl rfl ?_
       refine u_skip rfl rfl rfl rfl rfl ?_
       refine u_skip rfl rfl rfl rfl rfl ?_
       refine u_skip rfl rfl rfl rfl rfl ?_
       refine u_pickT rfl rfl rfl trivial ?_
       refine u_assign rfl rfl trivial ?_
       refine u_end trivial ?_
       refine vw_ret ?_
       refine fin0 (.inr rfl) (.cons (.tmp rfl (nb rfl)) .nil) (subB ?_)
       ·first | rfl | exact (decide_eq_true (print_parse h50).2).symm
      ·refine u_move rfl rfl trivial ?_
       refine u_loadAll rfl rfl rfl rfl rfl rfl ⟨_, _, rfl, rfl, rfl, rfl⟩ ?_
       refine u_call rfl (c103 (parseT s).1 (print_parse h50).2) (.cons ((subP rfl)) .nil) rfl ⟨_, _, rfl, rfl, rfl, rfl⟩ ?_
       refine u_move rfl rfl ⟨_, _, rfl, rfl, rfl, rfl⟩ ?_
       refine s_eqlT rfl rfl rfl ⟨_, _, rfl, rfl, rfl, rfl⟩ (fun h55 => ?_) (fun h55 => ?_)
       ·refine u_move rfl rfl ⟨_, _, rfl, rfl, rfl, rfl⟩ ?_
        refine u_loadAll rfl rfl rfl rfl rfl rfl ⟨_, _, rfl, rfl, rfl, rfl⟩ ?_
        refine u_call rfl (c60 (_, _)) (.cons ((subP rfl)) .nil) rfl ⟨_, _, rfl, rfl, rfl, rfl⟩ ?_
        refine u_eql rfl rfl rfl ⟨_, _, rfl, rfl, rfl, rfl⟩ ?_
        refine u_pickT rfl rfl rfl ⟨_, _, rfl, rfl, rfl, rfl⟩ ?_
        refine u_pickF rfl rfl rfl trivial ?_
        refine u_assign rfl rfl trivial ?_
        refine u_end trivial ?_
        refine vw_ret ?_
        refine fin0 (.inr rfl) (.cons (.tmp rfl (nb rfl)) .nil) (subB ?_)
        ·first | rfl | exact (decide_eq_true (print_parse h50).2).symm
       ·rw [(print_parse h50).1] at h55; exact absurd rfl h55
    ·refine u_move rfl rfl trivial ?_
     refine u_skip rfl rfl rfl rfl rfl ?_
     refine u_skip rfl rfl rfl rfl rfl ?_
     refine u_skip rfl rfl rfl rfl rfl ?_
     refine u_skip rfl rfl rfl rfl rfl ?_
     refine u_skip rfl rfl rfl rfl rfl ?_
     refine u_skip rfl rfl rfl rfl rfl ?_
     refine u_skip rfl rfl rfl rfl rfl ?_
     refine u_skip rfl rfl rfl rfl rfl ?_
     refine u_skip rfl rfl rfl rfl rfl ?_
     refine u_pickF rfl rfl rfl trivial ?_
     refine u_end (by kernel_rfl) ?_
     refine vw_condF rfl ?_
     refine vw_skip ?_
     refine vw_seq ?_
     refine vw_region ?_
     refine u_move rfl rfl trivial ?_
     refine u_call rfl (c101 _ (by omega)) (.cons ((.lit _)) .nil) rfl trivial ?_
     refine u_move rfl rfl trivial ?_
     refine u_extract rfl rfl rfl trivial ?_
     refine u_extract rfl rfl rfl trivial ?_
     refine u_alloc 103 rfl rfl (notPar hpar rfl) rfl rfl trivial ?_
     refine u_storeAll rfl rfl rfl rfl rfl rfl rfl rfl trivial ?_
     refine u_assign rfl rfl trivial ?_
     refine u_end trivial ?_
     refine vw_seq ?_
     refine vw_region ?_
     refine u_move rfl rfl trivial ?_
     refine s_neq rfl rfl rfl trivial (fun h50 => ?_) (fun h50 => ?_)
     ·refine u_move rfl rfl trivial ?_
      refine u_skip rfl rfl rfl rfl rfl ?_
      refine u_skip rfl rfl rfl rfl rfl ?_
      refine u_skip rfl rfl rfl rfl rfl ?_
      refine u_skip rfl rfl rfl rfl rfl ?_
      refine u_skip rfl rfl rfl rfl rfl ?_
      refine u_skip rfl rfl rfl rfl rfl ?_
      refine u_skip rfl rfl rfl rfl rfl ?_
      refine u_skip rfl rfl rfl rfl rfl ?_
      refine u_skip rfl rfl rfl rfl rfl ?_
      refine u_pickT rfl rfl rfl trivial ?_
      refine u_assign rfl rfl trivial ?_
      refine u_end trivial ?_
      refine vw_ret ?_
      refine fin0 (.inr rfl) (.cons (.tmp rfl (nb rfl)) .nil) (subB ?_)
      ·first | rfl | exact (decide_eq_true (print_parse h50).2).symm
     ·refine u_move rfl rfl trivial ?_
      refine u_loadAll rfl rfl rfl rfl rfl rfl ⟨_, _, rfl, rfl, rfl, rfl⟩ ?_
      refine u_call rfl (c103 (parseT s).1 (print_parse h50).2) (.cons ((subP rfl)) .nil) rfl ⟨_, _, rfl, rfl, rfl, rfl⟩ ?_
      refine u_move rfl rfl ⟨_, _, rfl, rfl, rfl, rfl⟩ ?_
      refine s_eqlT rfl rfl rfl ⟨_, _, rfl, rfl, rfl, rfl⟩ (fun h55 => ?_) (fun h55 => ?_)
      ·refine u_move rfl rfl ⟨_, _, rfl, rfl, rfl, rfl⟩ ?_
       refine u_loadAll rfl rfl rfl rfl rfl rfl ⟨_, _, rfl, rfl, rfl, rfl⟩ ?_
       refine u_call rfl (c60 (_, _)) (.cons ((subP rfl)) .nil) rfl ⟨_, _, rfl, rfl, rfl, rfl⟩ ?_
       refine u_eql rfl rfl rfl ⟨_, _, rfl, rfl, rfl, rfl⟩ ?_
       refine u_pickT rfl rfl rfl ⟨_, _, rfl, rfl, rfl, rfl⟩ ?_
       refine u_pickF rfl rfl rfl trivial ?_
       refine u_assign rfl rfl trivial ?_
       refine u_end trivial ?_
       refine vw_ret ?_
       refine fin0 (.inr rfl) (.cons (.tmp rfl (nb rfl)) .nil) (subB ?_)
       ·first | rfl | exact (decide_eq_true (print_parse h50).2).symm
      ·rw [(print_parse h50).1] at h55; exact absurd rfl h55
   ·simp at h27
 ·refine u_end trivial ?_
  refine vw_condF rfl ?_
  refine vw_skip ?_
  refine vw_seq ?_
  refine vw_region ?_
  refine u_move rfl rfl trivial ?_
  refine u_call rfl (c101 _ (by omega)) (.cons ((.lit _)) .nil) rfl trivial ?_
  refine u_move rfl rfl trivial ?_
  refine u_extract rfl rfl rfl trivial ?_
  refine u_extract rfl rfl rfl trivial ?_
  refine u_alloc 102 rfl rfl (notPar hpar rfl) rfl rfl trivial ?_
  refine u_storeAll rfl rfl rfl rfl rfl rfl rfl rfl trivial ?_
  refine u_assign rfl rfl trivial ?_
  refine u_end trivial ?_
  refine vw_seq ?_
  refine vw_region ?_
  refine u_move rfl rfl trivial ?_
  refine s_neq rfl rfl rfl trivial (fun h50 => ?_) (fun h50 => ?_)
  ·refine u_move rfl rfl trivial ?_
   refine u_skip rfl rfl rfl rfl rfl ?_
   refine u_skip rfl rfl rfl rfl rfl ?_
   refine u_skip rfl rfl rfl rfl rfl ?_
   refine u_skip rfl rfl rfl rfl rfl ?_
   refine u_skip rfl rfl rfl rfl rfl ?_
   refine u_skip rfl rfl rfl rfl rfl ?_
   refine u_skip rfl rfl rfl rfl rfl ?_
   refine u_skip rfl rfl rfl rfl rfl ?_
   refine u_skip rfl rfl rfl rfl rfl ?_
   refine u_pickT rfl rfl rfl trivial ?_
   refine u_assign rfl rfl trivial ?_
   refine u_end trivial ?_
   refine vw_ret ?_
   refine fin0 (.inr rfl) (.cons (.tmp rfl (nb rfl)) .nil) (subB ?_)
   ·first | rfl | exact (decide_eq_true (print_parse h50).2).symm
  ·refine u_move rfl rfl trivial ?_
   refine u_loadAll rfl rfl rfl rfl rfl rfl ⟨_, _, rfl, rfl, rfl, rfl⟩ ?_
   refine u_call rfl (c103 (parseT s).1 (print_parse h50).2) (.cons ((subP rfl)) .nil) rfl ⟨_, _, rfl, rfl, rfl, rfl⟩ ?_
   refine u_move rfl rfl ⟨_, _, rfl, rfl, rfl, rfl⟩ ?_
   refine s_eqlT rfl rfl rfl ⟨_, _, rfl, rfl, rfl, rfl⟩ (fun h55 => ?_) (fun h55 => ?_)
   ·refine u_move rfl rfl ⟨_, _, rfl, rfl, rfl, rfl⟩ ?_
    refine u_loadAll rfl rfl rfl rfl rfl rfl ⟨_, _, rfl, rfl, rfl, rfl⟩ ?_
    refine u_call rfl (c60 (_, _)) (.cons ((subP rfl)) .nil) rfl ⟨_, _, rfl, rfl, rfl, rfl⟩ ?_
    refine u_eql rfl rfl rfl ⟨_, _, rfl, rfl, rfl, rfl⟩ ?_
    refine u_pickT rfl rfl rfl ⟨_, _, rfl, rfl, rfl, rfl⟩ ?_
    refine u_pickF rfl rfl rfl trivial ?_
    refine u_assign rfl rfl trivial ?_
    refine u_end trivial ?_
    refine vw_ret ?_
    refine fin0 (.inr rfl) (.cons (.tmp rfl (nb rfl)) .nil) (subB ?_)
    ·first | rfl | exact (decide_eq_true (print_parse h50).2).symm
   ·rw [(print_parse h50).1] at h55; exact absurd rfl h55
end Go.Proofs.Ytaadloihphpdbaa
