/- Walks of the laws through all layers. Printed by a small program (walk.py). -/
import Derived.Test.YtaadloihphpdbaaTWFair3H
import Derived.Test.YtaadloihphpdbaaTWFair2
import Derived.Test.YtaadloihphpdbaaTWText
import Derived.Test.YtaadloihphpdbaaTPTop
import Derived.Test.YtaadloihphpdbaaTWView
import Derived.Test.YtaadloihphpdbaaTWPlain
import Derived.Test.YtaadloihphpdbaaTWWorld2
set_option linter.unusedVariables false
set_option linter.unusedSimpArgs false
set_option maxRecDepth 4000
namespace Go.Proofs.Ytaadloihphpdbaa
open Go Go.Vc Go.RowKit
theorem zey (l : List Step) (s : Step) : stepCells (l ++ [s]) = stepCells l ++ [stepAV s] := by simp [stepCells]
theorem rep_snoc (i : Nat) (s : Step) : List.replicate (i + 1) s = List.replicate i s ++ [s] := by rw [List.replicate_succ']
theorem calm_no {l : List Step} {i : Nat} {s : Step} (h : l[i]? = some s) (hc : calmS s = false) : calm l = false := by
  unfold calm
  rw [Bool.and_eq_false_iff]; left
  rw [List.all_eq_false]
  exact ⟨s, List.mem_of_getElem? h, by rw [hc]; decide⟩
theorem eFull_b {k i : Nat} {e : Int} (h : (eFull k)[i]? = some e) : (e == 0) = decide ((i : Int) < 6) := by
  obtain ⟨hi, rfl⟩ := List.getElem?_eq_some_iff.1 h
  have := eFull_get k i hi
  rw [Bool.eq_iff_iff]; simp [this]; omega
theorem floodS_y {n t i : Nat} (h : (i : Int) % (n : Int) ≠ (t : Int)) : floodS n t (i + 1) = floodS n t i ++ [putS ((i : Int) % (n : Int)) (2, [255, 255])] := by
  have e : ((i % n : Nat) : Int) = (i : Int) % (n : Int) := Int.natCast_emod i n
  rw [← e] at h ⊢
  show floodS n t i ++ (if i % n = t then _ else _) = _
  rw [if_neg (fun h2 => h (by rw [h2]))]
theorem floodS_n {n t i : Nat} (h : (i : Int) % (n : Int) = (t : Int)) : floodS n t (i + 1) = floodS n t i := by
  have e : ((i % n : Nat) : Int) = (i : Int) % (n : Int) := Int.natCast_emod i n
  rw [← e] at h
  show floodS n t i ++ (if i % n = t then _ else _) = _
  rw [if_pos (Int.ofNat.inj h), List.append_nil]
theorem calm_len {l : List Step} (h : calm l = true) : l.length ≤ 100 := by
  unfold calm at h
  simp only [Bool.and_eq_true, decide_eq_true_eq] at h
  exact h.2
theorem fits_self (a : List Msg) : fits a a = true := by
  refine fitsY fun j _ => ?_
  unfold fits1
  rw [decide_eq_true (Nat.le_refl _), Bool.true_and, List.take_of_length_le (Nat.le_refl _)]
  exact beq_iff_eq.2 rfl
theorem mem_2 {a b : List Step} (ha : ∀ s ∈ a, inI s.m) (hb : ∀ s ∈ b, inI s.m) : ∀ s ∈ a ++ b, inI s.m := fun s h => (List.mem_append.1 h).elim (ha s) (hb s)
theorem mem_3 {a b c : List Step} (ha : ∀ s ∈ a, inI s.m) (hb : ∀ s ∈ b, inI s.m) (hc : ∀ s ∈ c, inI s.m) : ∀ s ∈ a ++ b ++ c, inI s.m := mem_2 (mem_2 ha hb) hc
theorem put_in {q : Int} {m : Msg} : inI (putS q m).m := by show inI 0; unfold inI; omega
theorem own_in : ∀ s ∈ ownL, inI s.m := by
  intro s h
  simp only [ownL, List.mem_cons, List.not_mem_nil, or_false] at h
  rcases h with rfl | rfl | rfl <;> exact put_in
theorem rep_in {k : Nat} {q : Int} {m : Msg} : ∀ s ∈ List.replicate k (putS q m), inI s.m := fun s h => by rw [List.eq_of_mem_replicate h]; exact put_in
theorem c86 (q : Int) (s : List UInt8) (m : Msg) (hp : parseT s = (m, 0)) (hs : s.length ≤ 100) : VFun G 86 [.lit (.int .i64 q), .lit (.string (tx s))] [] (.agg (stepAV (putS q m))) [] := by
 have k1 : VFun G 101 [.lit (.string (tx s))] [] (.tup [.agg [.lit (.int .i64 m.1), .shr 1 (Vc.byteCells m.2)], .lit (.int .i64 0)]) [] := by
   have e := c101 s (by omega)
   rw [hp] at e
   exact e
 refine VFun.intro (fn := Try.f86) rfl rfl (by kernel_rfl) (nb rfl) fun Γ hpar => ?_
 refine zac <| zaa <| zbg 100 rfl rfl (zar hpar rfl) rfl rfl tv <| zaf tv <| zac <| zaa <| zae rfl rfl tv <| zbk rfl (k1) (.cons ((.lit _)) .nil) rfl tv <| zae rfl rfl tv <| zbd rfl rfl rfl tv <| zbd rfl rfl rfl tv <| zbg 101 rfl rfl (zar hpar rfl) rfl rfl tv <| zai rfl rfl rfl rfl rfl rfl rfl rfl tv <| zad rfl rfl tv <| zaf tv <| zac <| zaa <| zae rfl rfl tv <| zan rfl rfl rfl rfl rfl rfl tv <| zcq rfl rfl rfl rfl rfl tv <| zai rfl rfl rfl rfl rfl rfl rfl rfl tv <| zaf tv <| zav <| fin' [] (.inr rfl) (.cons (.cellN rfl rfl rfl rfl rfl) .nil) (zax [] rfl rfl ⟨⟨_, rfl, (.agg _ _ (.cons (subI ?_) (.cons (subI ?_) (.cons (subI ?_) (.cons (subI ?_) (.cons (subB ?_) (.cons (subI ?_) (.cons (subS ?_) .nil))))))))⟩, tv⟩ tv (zay rfl rfl))
 all_goals (try rfl)
theorem c85  : VFun G 85 [] [] (.lit (.bool true)) [] := by
 refine VFun.intro (fn := Try.f85) rfl rfl (by kernel_rfl) (nb rfl) fun Γ hpar => ?_
 refine zac <| zaa <| zad rfl rfl tv <| zaf tv <| zac <| zaa <| zbk rfl (c86 0 [48, 58, 54, 49] (0, [97]) (by decide +kernel) (by decide)) (.cons ((.lit _)) (.cons ((.lit _)) .nil)) rfl tv <| zbk rfl (c86 1 [49, 58, 54, 50] (1, [98]) (by decide +kernel) (by decide)) (.cons ((.lit _)) (.cons ((.lit _)) .nil)) rfl tv <| zbf 100 rfl rfl rfl rfl rfl rfl rfl rfl rfl rfl (zar hpar rfl) rfl rfl tv <| zbq [] [100] [100] rfl rfl (c87c (n := 2) (l := lAlive) (by intro s hs; simp only [lAlive, List.mem_cons, List.not_mem_nil, or_false] at hs; rcases hs with rfl | rfl <;> exact put_in) (by decide) (by decide)) (zbe (k0 := 100) rfl zbr) tv (.cons ((.lit _)) (.cons (.frz _ _ _ _ rfl (by decide)) .nil)) rfl rfl (zby hpar rfl) rfl tv <| zae rfl rfl tv <| zbd rfl rfl rfl tv <| zbd rfl rfl rfl tv <| zbd rfl rfl rfl tv <| zbg 101 rfl rfl (zar hpar rfl) rfl rfl tv <| zai rfl rfl rfl rfl rfl rfl rfl rfl tv <| zad rfl rfl tv <| zad rfl rfl tv <| zaf tv <| zac <| zaa <| zan rfl rfl rfl rfl rfl rfl tv <| zbk rfl (c88 (play 2 lAlive).1 (wok_play (n := 2) (by decide) (by decide) lAlive) (by decide +kernel)) (.cons ((subP rfl)) .nil) rfl tv <| zae rfl rfl tv <| zbd rfl rfl rfl tv <| zbd rfl rfl rfl tv <| zbg 102 rfl rfl (zar hpar rfl) rfl rfl tv <| zai rfl rfl rfl rfl rfl rfl rfl rfl tv <| zad rfl rfl tv <| zaf tv ?_
 refine zac <| zaa <| zae rfl rfl tv <| zdo rfl rfl rfl tv (fun h20 => ?_) (fun h20 => ?_)
 ·refine zae rfl rfl tv <| zan rfl rfl rfl rfl rfl rfl (gk rfl) <| s_call [] rfl (c47 (zeu 200 (play 2 lAlive).1).1 (by decide +kernel)) (.cons ((subP rfl)) .nil) (fun k o h => by simp [Go.Vc.look] at h) rfl (gk rfl) (fun h23 => ?_) (fun h23 => ?_)
  ·refine zbi rfl rfl rfl tv <| zae rfl rfl tv <| zab rfl rfl rfl rfl rfl rfl (gk rfl) <| zak rfl rfl rfl rfl rfl rfl (gk rfl) <| zcm rfl rfl rfl (gk rfl) <| zdo rfl rfl rfl (gk rfl) (fun h29 => ?_) (fun h29 => ?_)
   ·refine zbi rfl rfl rfl tv <| zae rfl rfl tv <| zab rfl rfl rfl rfl rfl rfl (gk rfl) <| zak rfl rfl rfl rfl rfl rfl (gk rfl) <| zbu rfl rfl rfl rfl rfl (i := 1) rfl (zcg (x := (zeu 200 (play 2 lAlive).1).1.lanes.getD 1 zdq) (by decide +kernel)) rfl (gk rfl) <| zfa rfl rfl rfl rfl rfl rfl (gk rfl) <| zfa rfl rfl rfl rfl rfl rfl (gk rfl) <| zck rfl rfl rfl rfl rfl (gk rfl) <| zcm rfl rfl rfl (gk rfl) <| u_eql rfl rfl rfl (gk rfl) <| zbi rfl rfl rfl tv <| zad rfl rfl tv <| zaf tv <| zav <| fin0 (.inr rfl) (.cons (.tmp rfl (nb rfl)) .nil) (subB ?_)
    ·rw [zaq]; exact (beq_iff_eq.2 (congrArg Int.ofNat alive_end.2.2)).symm
   ·exact absurd (by rw [zbj]; exact congrArg Int.ofNat alive_end.2.1) h29
  ·exact absurd (show stillB (zeu 200 (play 2 lAlive).1).1 = true from alive_end.1) (by rw [h23]; decide)
 ·exact absurd rfl h20
theorem c134 (l : List Step) (hl : l.length ≤ 140737488355328) : VFun G 134 [.shr 7 (stepCells l)] [] (.lit (.bool (calm l))) [] := by
 refine VFun.intro (fn := Try.f134) rfl rfl (by kernel_rfl) (nb rfl) fun Γ hpar => ?_
 refine zac <| zaa <| zad rfl rfl tv <| zaf tv <| zac <| zac <| zaa <| zae rfl rfl tv <| zcm rfl rfl rfl tv <| zae rfl rfl tv <| zaf tv <| zaz <| zbt (fun n_ E => ∃ (i : Nat), ((i ≤ l.length) ∧ ((l.take i).all calmS = true)) ∧ n_ = l.length - i ∧ E = ⟨[(0, .shr 7 (stepCells l)), (5, .shr 7 (stepCells l)), (6, .lit (.int .i64 (stepCells l).length)), (7, .lit (.int .i64 i))], [], 23⟩) (n0 := _) (E0 := _) (⟨0, by exact ⟨Nat.zero_le _, rfl⟩, rfl, rfl⟩) (ren []) (zax [] rfl rfl ⟨⟨_, rfl, (.shr _ _)⟩, ⟨_, rfl, (.shr _ _)⟩, ⟨_, rfl, (.lit _)⟩, ⟨_, rfl, (.lit _)⟩, tv⟩ tv (zay hpar rfl)) (fun n_ E hR => ?_)
 obtain ⟨i, hI, rfl, rfl⟩ := hR
 obtain ⟨hI0, hI1⟩ := hI
 refine zac <| zaa <| zch rfl rfl rfl tv (fun h8 => ?_) (fun h8 => ?_)
 ·refine zaf tv <| zac <| zap rfl <| zba <| zac <| zaz <| zac ?_
  rw [zbo] at h8
  obtain ⟨s, hs⟩ : ∃ s, l[i]? = some s := ⟨_, List.getElem?_eq_getElem (by omega)⟩
  refine zaa <| zbu rfl rfl rfl rfl rfl rfl (stepCells_get' hs) rfl tv <| zdc rfl rfl rfl rfl rfl tv <| zbg 120 rfl rfl (zar hpar rfl) rfl rfl tv <| zai rfl rfl rfl rfl rfl rfl rfl rfl tv <| zaf tv <| zac <| zaa <| zab rfl rfl rfl rfl rfl rfl tv <| zak rfl rfl rfl rfl rfl rfl tv <| zdo rfl rfl rfl tv (fun h13 => ?_) (fun h13 => ?_)
  ·refine zae rfl rfl tv <| zal rfl rfl rfl rfl rfl <| zal rfl rfl rfl rfl rfl <| zal rfl rfl rfl rfl rfl <| zbi rfl rfl rfl tv <| zaf tv <| zap rfl <| zac <| zaa <| zad rfl rfl tv <| zaf tv <| zav <| fin0 (.inr rfl) (.cons (.tmp rfl (nb rfl)) .nil) (subB ?_)
   ·refine calm_no hs ?_
    simp [calmS, h13]
  ·refine zae rfl rfl tv <| zab rfl rfl rfl rfl rfl rfl (gk rfl) <| zak rfl rfl rfl rfl rfl rfl (gk rfl) <| zdo rfl rfl rfl (gk rfl) (fun h17 => ?_) (fun h17 => ?_)
   ·refine zbc rfl rfl rfl tv <| zaf tv <| zap rfl <| zac <| zaa <| zad rfl rfl tv <| zaf tv <| zav <| fin0 (.inr rfl) (.cons (.tmp rfl (nb rfl)) .nil) (subB ?_)
    ·refine calm_no hs ?_
     simp [calmS, h17]
   ·refine zbc rfl rfl rfl tv <| zaf tv <| zas rfl <| zba <| zaa <| zca rfl rfl rfl (by unfold inI; omega) rfl tv <| zae rfl rfl tv <| zaf tv <| ⟨_, _, ren [], ?_, ⟨i + 1, ?_, rfl, rfl⟩, zax [] rfl rfl ⟨⟨_, rfl, (.shr _ _)⟩, ⟨_, rfl, (.shr _ _)⟩, ⟨_, rfl, (.lit _)⟩, ⟨_, rfl, (.lit _)⟩, tv⟩ tv (zay hpar rfl)⟩
    ·omega
    ·refine ⟨by omega, ?_⟩
     rw [all_take hs, hI1]; simp [calmS, h13, h17]
 ·refine zaf tv <| zac <| zas rfl <| zbz <| iteP rfl <| zac ?_
  rw [zbo] at h8
  rw [List.take_of_length_le (by omega)] at hI1
  refine zaa <| zae rfl rfl tv <| zcm rfl rfl rfl tv <| u_leq rfl rfl rfl tv <| zad rfl rfl tv <| zaf tv <| zav <| fin0 (.inr rfl) (.cons (.tmp rfl (nb rfl)) .nil) (subB ?_)
  ·unfold calm; rw [hI1, Bool.true_and, zbo]; simp; omega
end Go.Proofs.Ytaadloihphpdbaa
