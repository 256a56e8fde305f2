/- Walk of a law. Printed by a small program (walk.py). -/
import Derived.Test.YtaadloihphpdbaaZWView
set_option linter.unusedVariables false
set_option linter.unusedSimpArgs false
set_option maxRecDepth 4000
namespace Go.Proofs.Ytaadloihphpdbaa
open Go Go.Vc Go.RowKit
theorem c13 (n : Int) (l : List Step) (t : Int) (hm : ∀ s ∈ l, inI s.m) (hl : l.length * 72 ≤ 140737488355328) : VFun G 13 [.lit (.int .i64 n), .shr 7 (stepCells l), .lit (.int .i64 t)] [] (.lit (.bool true)) [] := by
 refine VFun.intro (fn := Try.f13) rfl rfl (by kernel_rfl) (nb rfl) fun Γ hpar => ?_
 refine zad <| zaa <| zae rfl rfl tv <| zaf tv <| zad <| zad <| zaa <| zac rfl rfl tv <| zcg rfl rfl rfl tv (fun h16 => ?_) (fun h16 => ?_)
 ·refine zac rfl rfl tv <| zag rfl rfl rfl rfl rfl <| zag rfl rfl rfl rfl rfl <| zav rfl rfl rfl tv <| zaf tv <| zao rfl <| zad <| zaa <| zae rfl rfl tv <| zaf tv <| zaw <| fin0 (.inr rfl) (.cons (.tmp rfl (nb rfl)) .nil) (subB ?_)
  ·first | rfl | simp
 ·refine zac rfl rfl tv <| zac rfl rfl (gk rfl) <| zdr rfl rfl rfl (gk rfl) (fun h19 => ?_) (fun h19 => ?_)
  ·refine zat rfl rfl rfl tv <| zaf tv <| zao rfl <| zad <| zaa <| zae rfl rfl tv <| zaf tv <| zaw <| fin0 (.inr rfl) (.cons (.tmp rfl (nb rfl)) .nil) (subB ?_)
   ·first | rfl | simp
  ·refine zat rfl rfl rfl tv <| zaf tv <| zap rfl <| zax <| zad <| zaa <| zac rfl rfl tv <| zac rfl rfl tv <| zbi rfl (c43 n l (by omega) hm) (.cons ((.lit _)) (.cons ((.shr _ _)) .nil)) rfl tv <| zac rfl rfl tv <| zas rfl rfl rfl tv <| zas rfl rfl rfl tv <| zbd 100 rfl rfl (zar hpar rfl) rfl rfl tv <| zaj rfl rfl rfl rfl rfl rfl rfl rfl tv <| zae rfl rfl tv <| zaf tv <| zad ?_
   have hwk := zeb (n := n) (by omega) (by omega) l
   have htk := (zet (n := n) (by omega) (by omega) l).2
   have hln := zdw (n := n) (by omega) (by omega) l
   by_cases htn : 0 ≤ t ∧ t < n
   ·obtain ⟨q, ht⟩ : ∃ q : Nat, t = q := ⟨t.toNat, by omega⟩
    obtain ⟨x, hx⟩ : ∃ x, (play n l).1.lanes[q]? = some x := ⟨_, List.getElem?_eq_getElem (by omega)⟩
    refine zaa <| zam rfl rfl rfl rfl rfl rfl tv <| zac rfl rfl tv <| zbi rfl (c70y (play n l).1 t q ht x hx (zeb (n := n) (by omega) (by omega) l |>.b x (List.mem_of_getElem? hx))) (.cons ((subP rfl)) (.cons ((.lit _)) .nil)) rfl tv <| zac rfl rfl tv <| zas rfl rfl rfl tv <| zas rfl rfl rfl tv <| zbd 101 rfl rfl (zar hpar rfl) rfl rfl tv <| zaj rfl rfl rfl rfl rfl rfl rfl rfl tv <| zae rfl rfl tv <| zaf tv <| zen (True) (⟨[(1, .shr 7 (stepCells l)), (2, .lit (.int .i64 t)), (8, .shr 1 (intCells (play n l).2))], [], 156⟩) ?_ (fun hA7 => ?_)
    ·refine zad <| zbo <| zac rfl rfl tv <| zac rfl rfl tv <| s_geq rfl rfl rfl tv (fun h35 => ?_) (fun h35 => ?_)
     ·refine zac rfl rfl tv <| zac rfl rfl (gk rfl) <| zac rfl rfl (gk rfl) <| u_lss rfl rfl rfl (gk rfl) <| zav rfl rfl rfl tv <| s_neqB rfl rfl rfl rfl tv (fun h41 => ?_) (fun h41 => ?_)
      ·first | exact absurd rfl h41 | (exfalso; apply h41; rw [Bool.eq_iff_iff]; simp; omega)
      ·refine zac rfl rfl tv <| zac rfl rfl (gk rfl) <| zac rfl rfl (gk rfl) <| zam rfl rfl rfl rfl rfl rfl (gk rfl) <| zab rfl rfl rfl rfl rfl rfl (gk rfl) <| zah rfl rfl rfl rfl rfl rfl (gk rfl) <| zac rfl rfl (gk rfl) <| zbh rfl rfl rfl rfl rfl ht (zbr hx) rfl (gk rfl) <| zbu rfl rfl rfl rfl rfl (gk rfl) <| zdo [] rfl (c71 x x) (.cons ((subP rfl)) (.cons ((subP rfl)) .nil)) (fun k o h => by simp [Go.Vc.look] at h) rfl (gk rfl) (fun h51 => ?_) (fun h51 => ?_)
       ·refine zdq rfl rfl (gk rfl) <| zav rfl rfl rfl (gk rfl) <| zat rfl rfl rfl tv <| zaf (by kernel_rfl) <| zap rfl <| zax <| ⟨?_, ren [], zay [] rfl rfl ⟨⟨_, rfl, (.shr _ _)⟩, ⟨_, rfl, (.lit _)⟩, ⟨_, rfl, (.shr _ _)⟩, tv⟩ tv (zaz hpar rfl)⟩
        ·exact tv
       ·exact (same_no h51).elim
     ·exfalso; omega
    refine zad <| zaa <| zae rfl rfl tv <| zaf tv <| zad ?_
    have hwk := zeb (n := n) (by omega) (by omega) l
    have htk := (zet (n := n) (by omega) (by omega) l).2
    have hln := zdw (n := n) (by omega) (by omega) l
    have hes := plays_es (l.take 160) (zco n)
    have hlt := List.length_take_le 160 l
    have hpe : (play n l).2.length ≤ 160 := by unfold play; omega
    refine zaa <| zac rfl rfl tv <| zac rfl rfl tv <| zbi rfl (c72 l t hl) (.cons ((.shr _ _)) (.cons ((.lit _)) .nil)) rfl tv <| zae rfl rfl tv <| zaf tv <| zad <| zad <| zaa <| zac rfl rfl tv <| zby rfl rfl rfl tv <| zac rfl rfl tv <| zaf tv <| zbb <| zbt (fun n_ E => ∃ (i : Nat), ((i ≤ l.length)) ∧ n_ = l.length - i ∧ E = ⟨[(1, .shr 7 (stepCells l)), (2, .lit (.int .i64 t)), (8, .shr 1 (intCells (play n l).2)), (11, .lit (.int .i64 ((zcv t (l.take i)).length : Nat))), (12, .shr 7 (stepCells (zcv t l))), (58, .shr 7 (stepCells l)), (59, .lit (.int .i64 (stepCells l).length)), (60, .lit (.int .i64 i))], [], 156⟩) (n0 := _) (E0 := _) (⟨0, by omega, rfl, rfl⟩) (ren []) (zay [] rfl rfl ⟨⟨_, rfl, (.shr _ _)⟩, ⟨_, rfl, (.lit _)⟩, ⟨_, rfl, (.shr _ _)⟩, ⟨_, rfl, (subI (by rfl))⟩, ⟨_, rfl, (.shr _ _)⟩, ⟨_, rfl, (.shr _ _)⟩, ⟨_, rfl, (.lit _)⟩, ⟨_, rfl, (.lit _)⟩, tv⟩ tv (zaz hpar rfl)) (fun n_ E hR => ?_)
    obtain ⟨i, hI, rfl, rfl⟩ := hR
    have hI0 := hI
    refine zad <| zaa <| zcg rfl rfl rfl tv (fun h61 => ?_) (fun h61 => ?_)
    ·refine zaf tv <| zad <| zao rfl <| zax <| zad <| zbb <| zad ?_
     rw [zbf] at h61
     obtain ⟨s, hs⟩ : ∃ s, l[i]? = some s := ⟨_, List.getElem?_eq_getElem (by omega)⟩
     refine zaa <| zbh rfl rfl rfl rfl rfl rfl (zbq hs) rfl tv <| zbu rfl rfl rfl rfl rfl tv <| zbd 142 rfl rfl (zar hpar rfl) rfl rfl tv <| zaj rfl rfl rfl rfl rfl rfl rfl rfl tv <| zaf tv <| zad <| zad <| zaa <| zab rfl rfl rfl rfl rfl rfl tv <| zah rfl rfl rfl rfl rfl rfl tv <| zdg rfl rfl rfl tv (fun h66 => ?_) (fun h66 => ?_)
     ·refine zac rfl rfl tv <| zab rfl rfl rfl rfl rfl rfl (gk rfl) <| zah rfl rfl rfl rfl rfl rfl (gk rfl) <| zac rfl rfl (gk rfl) <| zdg rfl rfl rfl (gk rfl) (fun h71 => ?_) (fun h71 => ?_)
      ·refine zav rfl rfl rfl tv <| zaf tv <| zao rfl <| zbw <| iteP rfl <| zaa <| zbz rfl rfl rfl (by unfold inI; omega) rfl tv <| zac rfl rfl tv <| zaf tv <| ⟨_, _, ren [], ?_, ⟨i + 1, ?_, rfl, rfl⟩, zay [] rfl rfl ⟨⟨_, rfl, (.shr _ _)⟩, ⟨_, rfl, (.lit _)⟩, ⟨_, rfl, (.shr _ _)⟩, ⟨_, rfl, (subI (by rw [only_n hs (mine_n (by omega) (by omega))]))⟩, ⟨_, rfl, (.shr _ _)⟩, ⟨_, rfl, (.shr _ _)⟩, ⟨_, rfl, (.lit _)⟩, ⟨_, rfl, (.lit _)⟩, tv⟩ tv (zaz hpar rfl)⟩
       ·omega
       ·omega
      ·refine zav rfl rfl rfl tv <| zaf tv <| zap rfl <| zax <| zad <| zad ?_
       have hmi : mineB t s = true := mine_y (by first | exact .inl (by omega) | exact .inr (by omega))
       have ho := only_at hs hmi
       have hol := (List.getElem?_eq_some_iff.1 ho).1
       have holl := zfj t l
       refine zbo <| zac rfl rfl tv <| zac rfl rfl tv <| zby rfl rfl rfl tv <| s_geq rfl rfl rfl tv (fun h76 => ?_) (fun h76 => ?_)
       ·exfalso; rw [zbf] at h76; omega
       ·refine zac rfl rfl tv <| zac rfl rfl (gk rfl) <| zac rfl rfl (gk rfl) <| zbh rfl rfl rfl rfl rfl rfl (zbq ho) rfl (gk rfl) <| zce rfl rfl rfl rfl rfl rfl (gk rfl) <| zbv rfl rfl rfl rfl rfl (gk rfl) <| zab rfl rfl rfl rfl rfl rfl (gk rfl) <| zah rfl rfl rfl rfl rfl rfl (gk rfl) <| zdg rfl rfl rfl (gk rfl) (fun h85 => ?_) (fun h85 => ?_)
        ·exact absurd rfl h85
        ·refine zat rfl rfl rfl tv <| zac rfl rfl tv <| zac rfl rfl (gk rfl) <| zac rfl rfl (gk rfl) <| zbh rfl rfl rfl rfl rfl rfl (zbq ho) rfl (gk rfl) <| zce rfl rfl rfl rfl rfl rfl (gk rfl) <| zbv rfl rfl rfl rfl rfl (gk rfl) <| zab rfl rfl rfl rfl rfl rfl (gk rfl) <| zah rfl rfl rfl rfl rfl rfl (gk rfl) <| zdg rfl rfl rfl (gk rfl) (fun h95 => ?_) (fun h95 => ?_)
         ·exact absurd rfl h95
         ·refine zat rfl rfl rfl tv <| zac rfl rfl tv <| zac rfl rfl (gk rfl) <| zac rfl rfl (gk rfl) <| zbh rfl rfl rfl rfl rfl rfl (zbq ho) rfl (gk rfl) <| zce rfl rfl rfl rfl rfl rfl (gk rfl) <| zbv rfl rfl rfl rfl rfl (gk rfl) <| zab rfl rfl rfl rfl rfl rfl (gk rfl) <| zah rfl rfl rfl rfl rfl rfl (gk rfl) <| zdg rfl rfl rfl (gk rfl) (fun h105 => ?_) (fun h105 => ?_)
          ·exact absurd rfl h105
          ·refine zat rfl rfl rfl tv <| zac rfl rfl tv <| zac rfl rfl (gk rfl) <| zac rfl rfl (gk rfl) <| zbh rfl rfl rfl rfl rfl rfl (zbq ho) rfl (gk rfl) <| zce rfl rfl rfl rfl rfl rfl (gk rfl) <| zbv rfl rfl rfl rfl rfl (gk rfl) <| zab rfl rfl rfl rfl rfl rfl (gk rfl) <| zah rfl rfl rfl rfl rfl rfl (gk rfl) <| zdg rfl rfl rfl (gk rfl) (fun h115 => ?_) (fun h115 => ?_)
           ·exact absurd rfl h115
           ·refine zat rfl rfl rfl tv <| zac rfl rfl tv <| zac rfl rfl (gk rfl) <| zac rfl rfl (gk rfl) <| zbh rfl rfl rfl rfl rfl rfl (zbq ho) rfl (gk rfl) <| zce rfl rfl rfl rfl rfl rfl (gk rfl) <| zbv rfl rfl rfl rfl rfl (gk rfl) <| zab rfl rfl rfl rfl rfl rfl (gk rfl) <| zah rfl rfl rfl rfl rfl rfl (gk rfl) <| s_neqB rfl rfl rfl rfl (gk rfl) (fun h125 => ?_) (fun h125 => ?_)
            ·exact absurd rfl h125
            ·refine zat rfl rfl rfl tv <| zac rfl rfl tv <| zac rfl rfl (gk rfl) <| zac rfl rfl (gk rfl) <| zbh rfl rfl rfl rfl rfl rfl (zbq ho) rfl (gk rfl) <| zce rfl rfl rfl rfl rfl rfl (gk rfl) <| zbu rfl rfl rfl rfl rfl (gk rfl) <| zab rfl rfl rfl rfl rfl rfl (gk rfl) <| zds rfl rfl rfl rfl rfl rfl rfl (gk rfl) <| zdo [] rfl (c62 s.msg s.msg) (.cons ((subP rfl)) (.cons ((subP rfl)) .nil)) (fun k o h => by simp [Go.Vc.look] at h) rfl (gk rfl) (fun h135 => ?_) (fun h135 => ?_)
             ·refine zdq rfl rfl (gk rfl) <| zat rfl rfl rfl tv <| zaf (by kernel_rfl) <| zap rfl <| zax <| zaa <| zac rfl rfl tv <| zbz rfl rfl rfl (by have := only_take_len t l i; unfold inI; omega) rfl tv <| zae rfl rfl tv <| zaf tv <| zaa <| zbz rfl rfl rfl (by unfold inI; omega) rfl tv <| zac rfl rfl tv <| zaf tv <| ⟨_, _, ren [], ?_, ⟨i + 1, ?_, rfl, rfl⟩, zay [] rfl rfl ⟨⟨_, rfl, (.shr _ _)⟩, ⟨_, rfl, (.lit _)⟩, ⟨_, rfl, (.shr _ _)⟩, ⟨_, rfl, (subI (by rw [only_y hs hmi]; simp))⟩, ⟨_, rfl, (.shr _ _)⟩, ⟨_, rfl, (.shr _ _)⟩, ⟨_, rfl, (.lit _)⟩, ⟨_, rfl, (.lit _)⟩, tv⟩ tv (zaz hpar rfl)⟩
              ·omega
              ·omega
             ·simp at h135
     ·refine zac rfl rfl tv <| zag rfl rfl rfl rfl rfl <| zag rfl rfl rfl rfl rfl <| zag rfl rfl rfl rfl rfl <| zag rfl rfl rfl rfl rfl <| zat rfl rfl rfl tv <| zaf tv <| zap rfl <| zax <| zad <| zad ?_
      have hmi : mineB t s = true := mine_y (by first | exact .inl (by omega) | exact .inr (by omega))
      have ho := only_at hs hmi
      have hol := (List.getElem?_eq_some_iff.1 ho).1
      have holl := zfj t l
      refine zbo <| zac rfl rfl tv <| zac rfl rfl tv <| zby rfl rfl rfl tv <| s_geq rfl rfl rfl tv (fun h76 => ?_) (fun h76 => ?_)
      ·exfalso; rw [zbf] at h76; omega
      ·refine zac rfl rfl tv <| zac rfl rfl (gk rfl) <| zac rfl rfl (gk rfl) <| zbh rfl rfl rfl rfl rfl rfl (zbq ho) rfl (gk rfl) <| zce rfl rfl rfl rfl rfl rfl (gk rfl) <| zbv rfl rfl rfl rfl rfl (gk rfl) <| zab rfl rfl rfl rfl rfl rfl (gk rfl) <| zah rfl rfl rfl rfl rfl rfl (gk rfl) <| zdg rfl rfl rfl (gk rfl) (fun h85 => ?_) (fun h85 => ?_)
       ·exact absurd rfl h85
       ·refine zat rfl rfl rfl tv <| zac rfl rfl tv <| zac rfl rfl (gk rfl) <| zac rfl rfl (gk rfl) <| zbh rfl rfl rfl rfl rfl rfl (zbq ho) rfl (gk rfl) <| zce rfl rfl rfl rfl rfl rfl (gk rfl) <| zbv rfl rfl rfl rfl rfl (gk rfl) <| zab rfl rfl rfl rfl rfl rfl (gk rfl) <| zah rfl rfl rfl rfl rfl rfl (gk rfl) <| zdg rfl rfl rfl (gk rfl) (fun h95 => ?_) (fun h95 => ?_)
        ·exact absurd rfl h95
        ·refine zat rfl rfl rfl tv <| zac rfl rfl tv <| zac rfl rfl (gk rfl) <| zac rfl rfl (gk rfl) <| zbh rfl rfl rfl rfl rfl rfl (zbq ho) rfl (gk rfl) <| zce rfl rfl rfl rfl rfl rfl (gk rfl) <| zbv rfl rfl rfl rfl rfl (gk rfl) <| zab rfl rfl rfl rfl rfl rfl (gk rfl) <| zah rfl rfl rfl rfl rfl rfl (gk rfl) <| zdg rfl rfl rfl (gk rfl) (fun h105 => ?_) (fun h105 => ?_)
         ·exact absurd rfl h105
         ·refine zat rfl rfl rfl tv <| zac rfl rfl tv <| zac rfl rfl (gk rfl) <| zac rfl rfl (gk rfl) <| zbh rfl rfl rfl rfl rfl rfl (zbq ho) rfl (gk rfl) <| zce rfl rfl rfl rfl rfl rfl (gk rfl) <| zbv rfl rfl rfl rfl rfl (gk rfl) <| zab rfl rfl rfl rfl rfl rfl (gk rfl) <| zah rfl rfl rfl rfl rfl rfl (gk rfl) <| zdg rfl rfl rfl (gk rfl) (fun h115 => ?_) (fun h115 => ?_)
          ·exact absurd rfl h115
          ·refine zat rfl rfl rfl tv <| zac rfl rfl tv <| zac rfl rfl (gk rfl) <| zac rfl rfl (gk rfl) <| zbh rfl rfl rfl rfl rfl rfl (zbq ho) rfl (gk rfl) <| zce rfl rfl rfl rfl rfl rfl (gk rfl) <| zbv rfl rfl rfl rfl rfl (gk rfl) <| zab rfl rfl rfl rfl rfl rfl (gk rfl) <| zah rfl rfl rfl rfl rfl rfl (gk rfl) <| s_neqB rfl rfl rfl rfl (gk rfl) (fun h125 => ?_) (fun h125 => ?_)
           ·exact absurd rfl h125
           ·refine zat rfl rfl rfl tv <| zac rfl rfl tv <| zac rfl rfl (gk rfl) <| zac rfl rfl (gk rfl) <| zbh rfl rfl rfl rfl rfl rfl (zbq ho) rfl (gk rfl) <| zce rfl rfl rfl rfl rfl rfl (gk rfl) <| zbu rfl rfl rfl rfl rfl (gk rfl) <| zab rfl rfl rfl rfl rfl rfl (gk rfl) <| zds rfl rfl rfl rfl rfl rfl rfl (gk rfl) <| zdo [] rfl (c62 s.msg s.msg) (.cons ((subP rfl)) (.cons ((subP rfl)) .nil)) (fun k o h => by simp [Go.Vc.look] at h) rfl (gk rfl) (fun h135 => ?_) (fun h135 => ?_)
            ·refine zdq rfl rfl (gk rfl) <| zat rfl rfl rfl tv <| zaf (by kernel_rfl) <| zap rfl <| zax <| zaa <| zac rfl rfl tv <| zbz rfl rfl rfl (by have := only_take_len t l i; unfold inI; omega) rfl tv <| zae rfl rfl tv <| zaf tv <| zaa <| zbz rfl rfl rfl (by unfold inI; omega) rfl tv <| zac rfl rfl tv <| zaf tv <| ⟨_, _, ren [], ?_, ⟨i + 1, ?_, rfl, rfl⟩, zay [] rfl rfl ⟨⟨_, rfl, (.shr _ _)⟩, ⟨_, rfl, (.lit _)⟩, ⟨_, rfl, (.shr _ _)⟩, ⟨_, rfl, (subI (by rw [only_y hs hmi]; simp))⟩, ⟨_, rfl, (.shr _ _)⟩, ⟨_, rfl, (.shr _ _)⟩, ⟨_, rfl, (.lit _)⟩, ⟨_, rfl, (.lit _)⟩, tv⟩ tv (zaz hpar rfl)⟩
             ·omega
             ·omega
            ·simp at h135
    ·refine zaf tv <| zad <| zap rfl <| zbw <| iteP rfl <| zad ?_
     rw [zbf] at h61
     rw [List.take_of_length_le (show l.length ≤ i by omega)]
     refine zaa <| zac rfl rfl tv <| zac rfl rfl tv <| zby rfl rfl rfl tv <| zci rfl rfl rfl tv (fun h144 => ?_) (fun h144 => ?_)
     ·refine zac rfl rfl tv <| zac rfl rfl (gk rfl) <| zac rfl rfl (gk rfl) <| zac rfl rfl (gk rfl) <| zbi rfl (c73 l (play n l).2 t (by omega)) (.cons ((.shr _ _)) (.cons ((.shr _ _)) (.cons ((.lit _)) .nil))) rfl (gk rfl) <| zac rfl rfl (gk rfl) <| zac rfl rfl (gk rfl) <| zac rfl rfl (gk rfl) <| zbi rfl (c74 l (play n l).2 t (by omega)) (.cons ((.shr _ _)) (.cons ((.shr _ _)) (.cons ((.lit _)) .nil))) rfl (gk rfl) <| zbi rfl (c63 (zdm t l (play n l).2) (zdm t l (play n l).2)) (.cons ((.shr _ _)) (.cons ((.shr _ _)) .nil)) rfl (gk rfl) <| zav rfl rfl rfl tv <| zae rfl rfl tv <| zaf tv <| zaw <| fin0 (.inr rfl) (.cons (.tmp rfl (nb rfl)) .nil) (subB ?_)
      ·first | rfl | simp
     ·exfalso; apply h144; rw [zbf]
   ·refine zaa <| zam rfl rfl rfl rfl rfl rfl tv <| zac rfl rfl tv <| zbi rfl (c70n (play n l).1 t (by omega)) (.cons ((subP rfl)) (.cons ((.lit _)) .nil)) rfl tv <| zac rfl rfl tv <| zas rfl rfl rfl tv <| zas rfl rfl rfl tv <| zbd 101 rfl rfl (zar hpar rfl) rfl rfl tv <| zaj rfl rfl rfl rfl rfl rfl rfl rfl tv <| zae rfl rfl tv <| zaf tv <| zen (True) (⟨[(1, .shr 7 (stepCells l)), (2, .lit (.int .i64 t)), (8, .shr 1 (intCells (play n l).2))], [], 156⟩) ?_ (fun hA7 => ?_)
    ·refine zad <| zbo <| zac rfl rfl tv <| zac rfl rfl tv <| s_geq rfl rfl rfl tv (fun h35 => ?_) (fun h35 => ?_)
     ·refine zac rfl rfl tv <| zac rfl rfl (gk rfl) <| zac rfl rfl (gk rfl) <| u_lss rfl rfl rfl (gk rfl) <| zav rfl rfl rfl tv <| s_neqB rfl rfl rfl rfl tv (fun h41 => ?_) (fun h41 => ?_)
      ·first | exact absurd rfl h41 | (exfalso; apply h41; rw [Bool.eq_iff_iff]; simp; omega)
      ·refine zac rfl rfl tv <| zac rfl rfl (gk rfl) <| zac rfl rfl (gk rfl) <| zag rfl rfl rfl rfl rfl <| zag rfl rfl rfl rfl rfl <| zag rfl rfl rfl rfl rfl <| zag rfl rfl rfl rfl rfl <| zag rfl rfl rfl rfl rfl <| zag rfl rfl rfl rfl rfl <| zag rfl rfl rfl rfl rfl <| zag rfl rfl rfl rfl rfl <| zat rfl rfl rfl (gk rfl) <| zat rfl rfl rfl tv <| zaf (by kernel_rfl) <| zap rfl <| zax <| ⟨?_, ren [], zay [] rfl rfl ⟨⟨_, rfl, (.shr _ _)⟩, ⟨_, rfl, (.lit _)⟩, ⟨_, rfl, (.shr _ _)⟩, tv⟩ tv (zaz hpar rfl)⟩
       ·exact tv
     ·refine zac rfl rfl tv <| zag rfl rfl rfl rfl rfl <| zag rfl rfl rfl rfl rfl <| zag rfl rfl rfl rfl rfl <| zat rfl rfl rfl tv <| s_neqB rfl rfl rfl rfl tv (fun h41 => ?_) (fun h41 => ?_)
      ·first | exact absurd rfl h41 | (exfalso; apply h41; rw [Bool.eq_iff_iff]; simp; omega)
      ·refine zac rfl rfl tv <| zac rfl rfl (gk rfl) <| zac rfl rfl (gk rfl) <| zag rfl rfl rfl rfl rfl <| zag rfl rfl rfl rfl rfl <| zag rfl rfl rfl rfl rfl <| zag rfl rfl rfl rfl rfl <| zag rfl rfl rfl rfl rfl <| zag rfl rfl rfl rfl rfl <| zag rfl rfl rfl rfl rfl <| zag rfl rfl rfl rfl rfl <| zat rfl rfl rfl (gk rfl) <| zat rfl rfl rfl tv <| zaf (by kernel_rfl) <| zap rfl <| zax <| ⟨?_, ren [], zay [] rfl rfl ⟨⟨_, rfl, (.shr _ _)⟩, ⟨_, rfl, (.lit _)⟩, ⟨_, rfl, (.shr _ _)⟩, tv⟩ tv (zaz hpar rfl)⟩
       ·exact tv
    refine zad <| zaa <| zae rfl rfl tv <| zaf tv <| zad ?_
    have hwk := zeb (n := n) (by omega) (by omega) l
    have htk := (zet (n := n) (by omega) (by omega) l).2
    have hln := zdw (n := n) (by omega) (by omega) l
    have hes := plays_es (l.take 160) (zco n)
    have hlt := List.length_take_le 160 l
    have hpe : (play n l).2.length ≤ 160 := by unfold play; omega
    refine zaa <| zac rfl rfl tv <| zac rfl rfl tv <| zbi rfl (c72 l t hl) (.cons ((.shr _ _)) (.cons ((.lit _)) .nil)) rfl tv <| zae rfl rfl tv <| zaf tv <| zad <| zad <| zaa <| zac rfl rfl tv <| zby rfl rfl rfl tv <| zac rfl rfl tv <| zaf tv <| zbb <| zbt (fun n_ E => ∃ (i : Nat), ((i ≤ l.length)) ∧ n_ = l.length - i ∧ E = ⟨[(1, .shr 7 (stepCells l)), (2, .lit (.int .i64 t)), (8, .shr 1 (intCells (play n l).2)), (11, .lit (.int .i64 ((zcv t (l.take i)).length : Nat))), (12, .shr 7 (stepCells (zcv t l))), (58, .shr 7 (stepCells l)), (59, .lit (.int .i64 (stepCells l).length)), (60, .lit (.int .i64 i))], [], 156⟩) (n0 := _) (E0 := _) (⟨0, by omega, rfl, rfl⟩) (ren []) (zay [] rfl rfl ⟨⟨_, rfl, (.shr _ _)⟩, ⟨_, rfl, (.lit _)⟩, ⟨_, rfl, (.shr _ _)⟩, ⟨_, rfl, (subI (by rfl))⟩, ⟨_, rfl, (.shr _ _)⟩, ⟨_, rfl, (.shr _ _)⟩, ⟨_, rfl, (.lit _)⟩, ⟨_, rfl, (.lit _)⟩, tv⟩ tv (zaz hpar rfl)) (fun n_ E hR => ?_)
    obtain ⟨i, hI, rfl, rfl⟩ := hR
    have hI0 := hI
    refine zad <| zaa <| zcg rfl rfl rfl tv (fun h61 => ?_) (fun h61 => ?_)
    ·refine zaf tv <| zad <| zao rfl <| zax <| zad <| zbb <| zad ?_
     rw [zbf] at h61
     obtain ⟨s, hs⟩ : ∃ s, l[i]? = some s := ⟨_, List.getElem?_eq_getElem (by omega)⟩
     refine zaa <| zbh rfl rfl rfl rfl rfl rfl (zbq hs) rfl tv <| zbu rfl rfl rfl rfl rfl tv <| zbd 142 rfl rfl (zar hpar rfl) rfl rfl tv <| zaj rfl rfl rfl rfl rfl rfl rfl rfl tv <| zaf tv <| zad <| zad <| zaa <| zab rfl rfl rfl rfl rfl rfl tv <| zah rfl rfl rfl rfl rfl rfl tv <| zdg rfl rfl rfl tv (fun h66 => ?_) (fun h66 => ?_)
     ·refine zac rfl rfl tv <| zab rfl rfl rfl rfl rfl rfl (gk rfl) <| zah rfl rfl rfl rfl rfl rfl (gk rfl) <| zac rfl rfl (gk rfl) <| zdg rfl rfl rfl (gk rfl) (fun h71 => ?_) (fun h71 => ?_)
      ·refine zav rfl rfl rfl tv <| zaf tv <| zao rfl <| zbw <| iteP rfl <| zaa <| zbz rfl rfl rfl (by unfold inI; omega) rfl tv <| zac rfl rfl tv <| zaf tv <| ⟨_, _, ren [], ?_, ⟨i + 1, ?_, rfl, rfl⟩, zay [] rfl rfl ⟨⟨_, rfl, (.shr _ _)⟩, ⟨_, rfl, (.lit _)⟩, ⟨_, rfl, (.shr _ _)⟩, ⟨_, rfl, (subI (by rw [only_n hs (mine_n (by omega) (by omega))]))⟩, ⟨_, rfl, (.shr _ _)⟩, ⟨_, rfl, (.shr _ _)⟩, ⟨_, rfl, (.lit _)⟩, ⟨_, rfl, (.lit _)⟩, tv⟩ tv (zaz hpar rfl)⟩
       ·omega
       ·omega
      ·refine zav rfl rfl rfl tv <| zaf tv <| zap rfl <| zax <| zad <| zad ?_
       have hmi : mineB t s = true := mine_y (by first | exact .inl (by omega) | exact .inr (by omega))
       have ho := only_at hs hmi
       have hol := (List.getElem?_eq_some_iff.1 ho).1
       have holl := zfj t l
       refine zbo <| zac rfl rfl tv <| zac rfl rfl tv <| zby rfl rfl rfl tv <| s_geq rfl rfl rfl tv (fun h76 => ?_) (fun h76 => ?_)
       ·exfalso; rw [zbf] at h76; omega
       ·refine zac rfl rfl tv <| zac rfl rfl (gk rfl) <| zac rfl rfl (gk rfl) <| zbh rfl rfl rfl rfl rfl rfl (zbq ho) rfl (gk rfl) <| zce rfl rfl rfl rfl rfl rfl (gk rfl) <| zbv rfl rfl rfl rfl rfl (gk rfl) <| zab rfl rfl rfl rfl rfl rfl (gk rfl) <| zah rfl rfl rfl rfl rfl rfl (gk rfl) <| zdg rfl rfl rfl (gk rfl) (fun h85 => ?_) (fun h85 => ?_)
        ·exact absurd rfl h85
        ·refine zat rfl rfl rfl tv <| zac rfl rfl tv <| zac rfl rfl (gk rfl) <| zac rfl rfl (gk rfl) <| zbh rfl rfl rfl rfl rfl rfl (zbq ho) rfl (gk rfl) <| zce rfl rfl rfl rfl rfl rfl (gk rfl) <| zbv rfl rfl rfl rfl rfl (gk rfl) <| zab rfl rfl rfl rfl rfl rfl (gk rfl) <| zah rfl rfl rfl rfl rfl rfl (gk rfl) <| zdg rfl rfl rfl (gk rfl) (fun h95 => ?_) (fun h95 => ?_)
         ·exact absurd rfl h95
         ·refine zat rfl rfl rfl tv <| zac rfl rfl tv <| zac rfl rfl (gk rfl) <| zac rfl rfl (gk rfl) <| zbh rfl rfl rfl rfl rfl rfl (zbq ho) rfl (gk rfl) <| zce rfl rfl rfl rfl rfl rfl (gk rfl) <| zbv rfl rfl rfl rfl rfl (gk rfl) <| zab rfl rfl rfl rfl rfl rfl (gk rfl) <| zah rfl rfl rfl rfl rfl rfl (gk rfl) <| zdg rfl rfl rfl (gk rfl) (fun h105 => ?_) (fun h105 => ?_)
          ·exact absurd rfl h105
          ·refine zat rfl rfl rfl tv <| zac rfl rfl tv <| zac rfl rfl (gk rfl) <| zac rfl rfl (gk rfl) <| zbh rfl rfl rfl rfl rfl rfl (zbq ho) rfl (gk rfl) <| zce rfl rfl rfl rfl rfl rfl (gk rfl) <| zbv rfl rfl rfl rfl rfl (gk rfl) <| zab rfl rfl rfl rfl rfl rfl (gk rfl) <| zah rfl rfl rfl rfl rfl rfl (gk rfl) <| zdg rfl rfl rfl (gk rfl) (fun h115 => ?_) (fun h115 => ?_)
           ·exact absurd rfl h115
           ·refine zat rfl rfl rfl tv <| zac rfl rfl tv <| zac rfl rfl (gk rfl) <| zac rfl rfl (gk rfl) <| zbh rfl rfl rfl rfl rfl rfl (zbq ho) rfl (gk rfl) <| zce rfl rfl rfl rfl rfl rfl (gk rfl) <| zbv rfl rfl rfl rfl rfl (gk rfl) <| zab rfl rfl rfl rfl rfl rfl (gk rfl) <| zah rfl rfl rfl rfl rfl rfl (gk rfl) <| s_neqB rfl rfl rfl rfl (gk rfl) (fun h125 => ?_) (fun h125 => ?_)
            ·exact absurd rfl h125
            ·refine zat rfl rfl rfl tv <| zac rfl rfl tv <| zac rfl rfl (gk rfl) <| zac rfl rfl (gk rfl) <| zbh rfl rfl rfl rfl rfl rfl (zbq ho) rfl (gk rfl) <| zce rfl rfl rfl rfl rfl rfl (gk rfl) <| zbu rfl rfl rfl rfl rfl (gk rfl) <| zab rfl rfl rfl rfl rfl rfl (gk rfl) <| zds rfl rfl rfl rfl rfl rfl rfl (gk rfl) <| zdo [] rfl (c62 s.msg s.msg) (.cons ((subP rfl)) (.cons ((subP rfl)) .nil)) (fun k o h => by simp [Go.Vc.look] at h) rfl (gk rfl) (fun h135 => ?_) (fun h135 => ?_)
             ·refine zdq rfl rfl (gk rfl) <| zat rfl rfl rfl tv <| zaf (by kernel_rfl) <| zap rfl <| zax <| zaa <| zac rfl rfl tv <| zbz rfl rfl rfl (by have := only_take_len t l i; unfold inI; omega) rfl tv <| zae rfl rfl tv <| zaf tv <| zaa <| zbz rfl rfl rfl (by unfold inI; omega) rfl tv <| zac rfl rfl tv <| zaf tv <| ⟨_, _, ren [], ?_, ⟨i + 1, ?_, rfl, rfl⟩, zay [] rfl rfl ⟨⟨_, rfl, (.shr _ _)⟩, ⟨_, rfl, (.lit _)⟩, ⟨_, rfl, (.shr _ _)⟩, ⟨_, rfl, (subI (by rw [only_y hs hmi]; simp))⟩, ⟨_, rfl, (.shr _ _)⟩, ⟨_, rfl, (.shr _ _)⟩, ⟨_, rfl, (.lit _)⟩, ⟨_, rfl, (.lit _)⟩, tv⟩ tv (zaz hpar rfl)⟩
              ·omega
              ·omega
             ·simp at h135
     ·refine zac rfl rfl tv <| zag rfl rfl rfl rfl rfl <| zag rfl rfl rfl rfl rfl <| zag rfl rfl rfl rfl rfl <| zag rfl rfl rfl rfl rfl <| zat rfl rfl rfl tv <| zaf tv <| zap rfl <| zax <| zad <| zad ?_
      have hmi : mineB t s = true := mine_y (by first | exact .inl (by omega) | exact .inr (by omega))
      have ho := only_at hs hmi
      have hol := (List.getElem?_eq_some_iff.1 ho).1
      have holl := zfj t l
      refine zbo <| zac rfl rfl tv <| zac rfl rfl tv <| zby rfl rfl rfl tv <| s_geq rfl rfl rfl tv (fun h76 => ?_) (fun h76 => ?_)
      ·exfalso; rw [zbf] at h76; omega
      ·refine zac rfl rfl tv <| zac rfl rfl (gk rfl) <| zac rfl rfl (gk rfl) <| zbh rfl rfl rfl rfl rfl rfl (zbq ho) rfl (gk rfl) <| zce rfl rfl rfl rfl rfl rfl (gk rfl) <| zbv rfl rfl rfl rfl rfl (gk rfl) <| zab rfl rfl rfl rfl rfl rfl (gk rfl) <| zah rfl rfl rfl rfl rfl rfl (gk rfl) <| zdg rfl rfl rfl (gk rfl) (fun h85 => ?_) (fun h85 => ?_)
       ·exact absurd rfl h85
       ·refine zat rfl rfl rfl tv <| zac rfl rfl tv <| zac rfl rfl (gk rfl) <| zac rfl rfl (gk rfl) <| zbh rfl rfl rfl rfl rfl rfl (zbq ho) rfl (gk rfl) <| zce rfl rfl rfl rfl rfl rfl (gk rfl) <| zbv rfl rfl rfl rfl rfl (gk rfl) <| zab rfl rfl rfl rfl rfl rfl (gk rfl) <| zah rfl rfl rfl rfl rfl rfl (gk rfl) <| zdg rfl rfl rfl (gk rfl) (fun h95 => ?_) (fun h95 => ?_)
        ·exact absurd rfl h95
        ·refine zat rfl rfl rfl tv <| zac rfl rfl tv <| zac rfl rfl (gk rfl) <| zac rfl rfl (gk rfl) <| zbh rfl rfl rfl rfl rfl rfl (zbq ho) rfl (gk rfl) <| zce rfl rfl rfl rfl rfl rfl (gk rfl) <| zbv rfl rfl rfl rfl rfl (gk rfl) <| zab rfl rfl rfl rfl rfl rfl (gk rfl) <| zah rfl rfl rfl rfl rfl rfl (gk rfl) <| zdg rfl rfl rfl (gk rfl) (fun h105 => ?_) (fun h105 => ?_)
         ·exact absurd rfl h105
         ·refine zat rfl rfl rfl tv <| zac rfl rfl tv <| zac rfl rfl (gk rfl) <| zac rfl rfl (gk rfl) <| zbh rfl rfl rfl rfl rfl rfl (zbq ho) rfl (gk rfl) <| zce rfl rfl rfl rfl rfl rfl (gk rfl) <| zbv rfl rfl rfl rfl rfl (gk rfl) <| zab rfl rfl rfl rfl rfl rfl (gk rfl) <| zah rfl rfl rfl rfl rfl rfl (gk rfl) <| zdg rfl rfl rfl (gk rfl) (fun h115 => ?_) (fun h115 => ?_)
          ·exact absurd rfl h115
          ·refine zat rfl rfl rfl tv <| zac rfl rfl tv <| zac rfl rfl (gk rfl) <| zac rfl rfl (gk rfl) <| zbh rfl rfl rfl rfl rfl rfl (zbq ho) rfl (gk rfl) <| zce rfl rfl rfl rfl rfl rfl (gk rfl) <| zbv rfl rfl rfl rfl rfl (gk rfl) <| zab rfl rfl rfl rfl rfl rfl (gk rfl) <| zah rfl rfl rfl rfl rfl rfl (gk rfl) <| s_neqB rfl rfl rfl rfl (gk rfl) (fun h125 => ?_) (fun h125 => ?_)
           ·exact absurd rfl h125
           ·refine zat rfl rfl rfl tv <| zac rfl rfl tv <| zac rfl rfl (gk rfl) <| zac rfl rfl (gk rfl) <| zbh rfl rfl rfl rfl rfl rfl (zbq ho) rfl (gk rfl) <| zce rfl rfl rfl rfl rfl rfl (gk rfl) <| zbu rfl rfl rfl rfl rfl (gk rfl) <| zab rfl rfl rfl rfl rfl rfl (gk rfl) <| zds rfl rfl rfl rfl rfl rfl rfl (gk rfl) <| zdo [] rfl (c62 s.msg s.msg) (.cons ((subP rfl)) (.cons ((subP rfl)) .nil)) (fun k o h => by simp [Go.Vc.look] at h) rfl (gk rfl) (fun h135 => ?_) (fun h135 => ?_)
            ·refine zdq rfl rfl (gk rfl) <| zat rfl rfl rfl tv <| zaf (by kernel_rfl) <| zap rfl <| zax <| zaa <| zac rfl rfl tv <| zbz rfl rfl rfl (by have := only_take_len t l i; unfold inI; omega) rfl tv <| zae rfl rfl tv <| zaf tv <| zaa <| zbz rfl rfl rfl (by unfold inI; omega) rfl tv <| zac rfl rfl tv <| zaf tv <| ⟨_, _, ren [], ?_, ⟨i + 1, ?_, rfl, rfl⟩, zay [] rfl rfl ⟨⟨_, rfl, (.shr _ _)⟩, ⟨_, rfl, (.lit _)⟩, ⟨_, rfl, (.shr _ _)⟩, ⟨_, rfl, (subI (by rw [only_y hs hmi]; simp))⟩, ⟨_, rfl, (.shr _ _)⟩, ⟨_, rfl, (.shr _ _)⟩, ⟨_, rfl, (.lit _)⟩, ⟨_, rfl, (.lit _)⟩, tv⟩ tv (zaz hpar rfl)⟩
             ·omega
             ·omega
            ·simp at h135
    ·refine zaf tv <| zad <| zap rfl <| zbw <| iteP rfl <| zad ?_
     rw [zbf] at h61
     rw [List.take_of_length_le (show l.length ≤ i by omega)]
     refine zaa <| zac rfl rfl tv <| zac rfl rfl tv <| zby rfl rfl rfl tv <| zci rfl rfl rfl tv (fun h144 => ?_) (fun h144 => ?_)
     ·refine zac rfl rfl tv <| zac rfl rfl (gk rfl) <| zac rfl rfl (gk rfl) <| zac rfl rfl (gk rfl) <| zbi rfl (c73 l (play n l).2 t (by omega)) (.cons ((.shr _ _)) (.cons ((.shr _ _)) (.cons ((.lit _)) .nil))) rfl (gk rfl) <| zac rfl rfl (gk rfl) <| zac rfl rfl (gk rfl) <| zac rfl rfl (gk rfl) <| zbi rfl (c74 l (play n l).2 t (by omega)) (.cons ((.shr _ _)) (.cons ((.shr _ _)) (.cons ((.lit _)) .nil))) rfl (gk rfl) <| zbi rfl (c63 (zdm t l (play n l).2) (zdm t l (play n l).2)) (.cons ((.shr _ _)) (.cons ((.shr _ _)) .nil)) rfl (gk rfl) <| zav rfl rfl rfl tv <| zae rfl rfl tv <| zaf tv <| zaw <| fin0 (.inr rfl) (.cons (.tmp rfl (nb rfl)) .nil) (subB ?_)
      ·first | rfl | simp
     ·exfalso; apply h144; rw [zbf]
end Go.Proofs.Ytaadloihphpdbaa
