/- Walks. Printed by a small program (walk.py). -/
import Derived.Test.YtaadloihphpdbaaTWViewH
set_option linter.unusedVariables false
set_option linter.unusedSimpArgs false
set_option maxRecDepth 4000
namespace Go.Proofs.Ytaadloihphpdbaa
open Go Go.Vc Go.RowKit
theorem c70y (w : World') (t : Int) (q : Nat) (ht : t = q) (x : Lane) (hx : w.lanes[q]? = some x) (hb : BInv x) : VFun G 70 [.agg (zcz w), .lit (.int .i64 t)] [] (.tup [.agg (zdk x), .lit (.bool true)]) [] := by
 have hql := (List.getElem?_eq_some_iff.1 hx).1
 refine VFun.intro (fn := Try.f70) rfl rfl (by kernel_rfl) (nb rfl) fun Γ hpar => ?_
 refine zac <| zaa <| zdi 100 rfl rfl rfl (zar hpar rfl) rfl rfl tv <| zbg 101 rfl rfl (zar hpar rfl) rfl rfl tv <| zad rfl rfl tv <| zaf tv <| zac <| zac <| zaa <| zae rfl rfl tv <| zch rfl rfl rfl tv (fun h7 => ?_) (fun h7 => ?_)
 ·exfalso; omega
 ·refine zae rfl rfl tv <| zae rfl rfl (gk rfl) <| zab rfl rfl rfl rfl rfl rfl (gk rfl) <| zak rfl rfl rfl rfl rfl rfl (gk rfl) <| zcm rfl rfl rfl (gk rfl) <| zfq rfl rfl rfl (gk rfl) (fun h13 => ?_) (fun h13 => ?_)
  ·exfalso; rw [zbj] at h13; omega
  ·refine zbc rfl rfl rfl tv <| zaf tv <| zas rfl <| zba <| zac <| zaa <| zab rfl rfl rfl rfl rfl rfl tv <| zak rfl rfl rfl rfl rfl rfl tv <| zae rfl rfl tv <| zbu rfl rfl rfl rfl rfl ht (zcg hx) rfl tv <| zdc rfl rfl rfl rfl rfl tv <| zbk rfl (c115r x hb) (.cons ((subP rfl)) .nil) rfl tv <| zai rfl rfl rfl rfl rfl rfl rfl rfl tv <| zad rfl rfl tv <| zaf tv <| zav <| fin' [] (.inr rfl) (.cons (.cellN rfl rfl rfl rfl rfl) (.cons (.tmp rfl (nb rfl)) .nil)) (zax [] rfl rfl ⟨⟨_, rfl, (.tup _ _ (.cons (.agg _ _ (.cons (subS ?_) (.cons (subI ?_) (.cons (subI ?_) (.cons (subI ?_) (.cons (subI ?_) (.cons (subS ?_) (.cons (subI ?_) (.cons (subI ?_) (.cons (subS ?_) (.cons (subI ?_) (.cons (subI ?_) (.cons (subI ?_) (.cons (subS ?_) (.cons (subS ?_) (.cons (subB ?_) (.cons (subS ?_) (.cons (subS ?_) .nil)))))))))))))))))) (.cons (subB ?_) .nil)))⟩, tv⟩ tv (zay rfl rfl))
   all_goals (try rfl)
theorem c72 (l : List Step) (t : Int) (hl : l.length * 72 ≤ 140737488355328) : VFun G 72 [.shr 7 (stepCells l), .lit (.int .i64 t)] [] (.shr 7 (stepCells (zdp t l))) [] := by
 refine VFun.intro (fn := Try.f72) rfl rfl (by kernel_rfl) (nb rfl) fun Γ hpar => ?_
 refine zac <| zaa <| zad rfl rfl tv <| zaf tv <| zac <| zaa <| zad rfl rfl tv <| zaf tv <| zac <| zac <| zaa <| zae rfl rfl tv <| zcm rfl rfl rfl tv <| zae rfl rfl tv <| zaf tv <| zaz <| zbt (fun n_ E => ∃ (i : Nat), ((i ≤ l.length)) ∧ n_ = l.length - i ∧ E = ⟨[(1, .lit (.int .i64 t)), (5, .row 5), (8, .shr 7 (stepCells l)), (9, .lit (.int .i64 (stepCells l).length)), (10, .lit (.int .i64 i))], [(5, .row 50 7 (stepCells (zdp t (l.take i))))], 35⟩) (n0 := _) (E0 := _) (⟨0, by omega, rfl, rfl⟩) (ren []) (zax [] rfl rfl ⟨⟨_, rfl, (.lit _)⟩, ⟨_, rfl, .nilrow _ _ _ _ rfl rfl⟩, ⟨_, rfl, (.shr _ _)⟩, ⟨_, rfl, (.lit _)⟩, ⟨_, rfl, (.lit _)⟩, tv⟩ ⟨(.inr (.inl ⟨rfl, rfl⟩)), tv⟩ (zay hpar rfl)) (fun n_ E hR => ?_)
 obtain ⟨i, hI, rfl, rfl⟩ := hR
 have hI0 := hI
 refine zac <| zaa <| zch rfl rfl rfl tv (fun h11 => ?_) (fun h11 => ?_)
 ·refine zaf tv <| zac <| zap rfl <| zba <| zac <| zaz <| zac ?_
  rw [zbo] at h11
  obtain ⟨s, hs⟩ : ∃ s, l[i]? = some s := ⟨_, List.getElem?_eq_getElem (by omega)⟩
  refine zaa <| zbu rfl rfl rfl rfl rfl rfl (stepCells_get' hs) rfl tv <| zdc rfl rfl rfl rfl rfl tv <| zbg 120 rfl rfl (zar hpar rfl) rfl rfl tv <| zai rfl rfl rfl rfl rfl rfl rfl rfl tv <| zaf tv <| zac <| zaa <| zab rfl rfl rfl rfl rfl rfl tv <| zak rfl rfl rfl rfl rfl rfl tv <| zdo rfl rfl rfl tv (fun h16 => ?_) (fun h16 => ?_)
  ·refine zae rfl rfl tv <| zal rfl rfl rfl rfl rfl <| zal rfl rfl rfl rfl rfl <| zal rfl rfl rfl rfl rfl <| zal rfl rfl rfl rfl rfl <| zbi rfl rfl rfl tv <| zaf tv <| zap rfl <| zac <| zaa <| zab rfl rfl rfl rfl rfl rfl tv <| zab rfl rfl rfl rfl rfl rfl tv <| zak rfl rfl rfl rfl rfl rfl tv <| zbk rfl (VFun.read (c136 0 _)) (.cons ((.shr _ _)) .nil) rfl tv <| zab rfl rfl rfl rfl rfl rfl tv <| zab rfl rfl rfl rfl rfl rfl tv <| zbl rfl rfl rfl rfl rfl rfl rfl tv <| zaf tv <| zaa <| zae rfl rfl tv <| zan rfl rfl rfl rfl rfl rfl tv <| zbf 121 rfl rfl rfl rfl rfl rfl rfl rfl rfl rfl (zar hpar rfl) rfl rfl tv <| zbv 122 rfl rfl rfl (zcv rfl) rfl (zar hpar rfl) rfl rfl rfl rfl rfl (by have h1 := onlyOf_len t (l.take i); have h2 := List.length_take_le i l; simp [zcb, zbo]; omega) rfl tv <| zad rfl rfl tv <| zaf tv <| zaa <| zca rfl rfl rfl (by unfold inI; omega) rfl tv <| zae rfl rfl tv <| zaf tv <| ⟨_, _, ren [(5, 122)], ?_, ⟨i + 1, ?_, rfl, rfl⟩, zax [(5, 122)] rfl rfl ⟨⟨_, rfl, (.lit _)⟩, ⟨_, rfl, (.row _ _ rfl (zag rfl))⟩, ⟨_, rfl, (.shr _ _)⟩, ⟨_, rfl, (.lit _)⟩, ⟨_, rfl, (.lit _)⟩, tv⟩ ⟨(.inl ⟨_, rfl, zbx rfl (by rw [only_y hs (mine_y (by first | exact .inl (by omega) | exact .inr (by omega))), zfm]; rfl)⟩), tv⟩ (zay hpar rfl)⟩
   ·omega
   ·omega
  ·refine zae rfl rfl tv <| zab rfl rfl rfl rfl rfl rfl (gk rfl) <| zak rfl rfl rfl rfl rfl rfl (gk rfl) <| zae rfl rfl (gk rfl) <| zdo rfl rfl rfl (gk rfl) (fun h21 => ?_) (fun h21 => ?_)
   ·refine zbc rfl rfl rfl tv <| zaf tv <| zap rfl <| zac <| zaa <| zab rfl rfl rfl rfl rfl rfl tv <| zab rfl rfl rfl rfl rfl rfl tv <| zak rfl rfl rfl rfl rfl rfl tv <| zbk rfl (VFun.read (c136 0 _)) (.cons ((.shr _ _)) .nil) rfl tv <| zab rfl rfl rfl rfl rfl rfl tv <| zab rfl rfl rfl rfl rfl rfl tv <| zbl rfl rfl rfl rfl rfl rfl rfl tv <| zaf tv <| zaa <| zae rfl rfl tv <| zan rfl rfl rfl rfl rfl rfl tv <| zbf 121 rfl rfl rfl rfl rfl rfl rfl rfl rfl rfl (zar hpar rfl) rfl rfl tv <| zbv 122 rfl rfl rfl (zcv rfl) rfl (zar hpar rfl) rfl rfl rfl rfl rfl (by have h1 := onlyOf_len t (l.take i); have h2 := List.length_take_le i l; simp [zcb, zbo]; omega) rfl tv <| zad rfl rfl tv <| zaf tv <| zaa <| zca rfl rfl rfl (by unfold inI; omega) rfl tv <| zae rfl rfl tv <| zaf tv <| ⟨_, _, ren [(5, 122)], ?_, ⟨i + 1, ?_, rfl, rfl⟩, zax [(5, 122)] rfl rfl ⟨⟨_, rfl, (.lit _)⟩, ⟨_, rfl, (.row _ _ rfl (zag rfl))⟩, ⟨_, rfl, (.shr _ _)⟩, ⟨_, rfl, (.lit _)⟩, ⟨_, rfl, (.lit _)⟩, tv⟩ ⟨(.inl ⟨_, rfl, zbx rfl (by rw [only_y hs (mine_y (by first | exact .inl (by omega) | exact .inr (by omega))), zfm]; rfl)⟩), tv⟩ (zay hpar rfl)⟩
    ·omega
    ·omega
   ·refine zbc rfl rfl rfl tv <| zaf tv <| zas rfl <| zba <| zaa <| zca rfl rfl rfl (by unfold inI; omega) rfl tv <| zae rfl rfl tv <| zaf tv <| ⟨_, _, ren [(5, 5)], ?_, ⟨i + 1, ?_, rfl, rfl⟩, zax [(5, 5)] rfl rfl ⟨⟨_, rfl, (.lit _)⟩, ⟨_, rfl, (.row _ _ rfl (zag rfl))⟩, ⟨_, rfl, (.shr _ _)⟩, ⟨_, rfl, (.lit _)⟩, ⟨_, rfl, (.lit _)⟩, tv⟩ ⟨(.inl ⟨_, rfl, zbx rfl (by rw [only_n hs (mine_n (by omega) (by omega))])⟩), tv⟩ (zay hpar rfl)⟩
    ·omega
    ·omega
 ·refine zaf tv <| zac <| zas rfl <| zbz <| iteP rfl <| zac ?_
  rw [zbo] at h11
  rw [List.take_of_length_le (show l.length ≤ i by omega)]
  refine zaa <| zae rfl rfl tv <| zad rfl rfl tv <| zaf tv <| zav <| fin' [] (.inr rfl) (.cons (.tmp rfl (nb rfl)) .nil) (zax [] rfl rfl ⟨⟨_, rfl, (zbp rfl (fzL rfl) ?_)⟩, tv⟩ tv (zay rfl rfl))
  all_goals (try rfl)
end Go.Proofs.Ytaadloihphpdbaa
