/- Walk of the document's answer: a step of one packet. Printed by a small program (walk.py). -/
import Derived.Test.YtaadloihphpdbaaZWLane
set_option linter.unusedVariables false
set_option linter.unusedSimpArgs false
set_option maxRecDepth 4000
namespace Go.Proofs.Ytaadloihphpdbaa
open Go Go.Vc Go.RowKit
theorem c119 (l : Lane) (kind n a : Int) (b : Bool) (hl : BInv l) (ha : inI a) : VFun G 119 [.agg (zdu l), .lit (.int .i64 kind), .lit (.int .i64 n), .lit (.int .i64 a), .lit (.bool b)] [] (.tup [.agg (zdu (zcp l kind n a b).1), .lit (.int .i64 (zcp l kind n a b).2)]) [] := by
 have hw := hl.way b
 have hw1 := hw.1
 have hsf := hl.s.f
 refine VFun.intro (fn := Try.f119) rfl rfl (by kernel_rfl) (nb rfl) fun Γ hpar => ?_
 refine zad <| zaa <| zdh 100 rfl rfl rfl (zar hpar rfl) rfl rfl tv <| zbd 101 rfl rfl (zar hpar rfl) rfl rfl tv <| zae rfl rfl tv <| zaf tv <| zad <| zaa <| zam rfl rfl rfl rfl rfl rfl tv <| zac rfl rfl tv <| zbi rfl (c157 l b) (.cons ((subP rfl)) (.cons ((.lit _)) .nil)) rfl tv <| zae rfl rfl tv <| zaf tv <| zad <| zad <| zaa <| zac rfl rfl tv <| zcg rfl rfl rfl tv (fun h20 => ?_) (fun h20 => ?_)
 ·refine zac rfl rfl tv <| zag rfl rfl rfl rfl rfl <| zag rfl rfl rfl rfl rfl <| zag rfl rfl rfl rfl rfl <| zag rfl rfl rfl rfl rfl <| zav rfl rfl rfl tv <| zaf tv <| zao rfl <| zad <| zaa <| zam rfl rfl rfl rfl rfl rfl tv <| zaj rfl rfl rfl rfl rfl rfl rfl rfl tv <| zae rfl rfl tv <| zaf tv <| zaw ?_
  rw [zfh (by first | omega | (rw [zan] at h25; omega))]
  refine fin' [] (.inr rfl) (.cons (.cellN rfl rfl rfl rfl rfl) (.cons (.tmp rfl (nb rfl)) .nil)) (zay [] rfl rfl ⟨⟨_, rfl, (.tup _ _ (.cons (.agg _ _ (.cons (subS ?_) (.cons (subI ?_) (.cons (subI ?_) (.cons (subI ?_) (.cons (subI ?_) (.cons (subS ?_) (.cons (subI ?_) (.cons (subI ?_) (.cons (subS ?_) (.cons (subI ?_) (.cons (subI ?_) (.cons (subI ?_) (.cons (subS ?_) (.cons (subS ?_) (.cons (subB ?_) (.cons (subS ?_) (.cons (subS ?_) .nil)))))))))))))))))) (.cons (subI ?_) .nil)))⟩, tv⟩ tv (zaz rfl rfl))
  all_goals (try rfl)
 ·refine zac rfl rfl tv <| zac rfl rfl (gk rfl) <| zac rfl rfl (gk rfl) <| zby rfl rfl rfl (gk rfl) <| s_geq rfl rfl rfl (gk rfl) (fun h25 => ?_) (fun h25 => ?_)
  ·refine zat rfl rfl rfl tv <| zaf tv <| zao rfl <| zad <| zaa <| zam rfl rfl rfl rfl rfl rfl tv <| zaj rfl rfl rfl rfl rfl rfl rfl rfl tv <| zae rfl rfl tv <| zaf tv <| zaw ?_
   rw [zfh (by first | omega | (rw [zan] at h25; omega))]
   refine fin' [] (.inr rfl) (.cons (.cellN rfl rfl rfl rfl rfl) (.cons (.tmp rfl (nb rfl)) .nil)) (zay [] rfl rfl ⟨⟨_, rfl, (.tup _ _ (.cons (.agg _ _ (.cons (subS ?_) (.cons (subI ?_) (.cons (subI ?_) (.cons (subI ?_) (.cons (subI ?_) (.cons (subS ?_) (.cons (subI ?_) (.cons (subI ?_) (.cons (subS ?_) (.cons (subI ?_) (.cons (subI ?_) (.cons (subI ?_) (.cons (subS ?_) (.cons (subS ?_) (.cons (subB ?_) (.cons (subS ?_) (.cons (subS ?_) .nil)))))))))))))))))) (.cons (subI ?_) .nil)))⟩, tv⟩ tv (zaz rfl rfl))
   all_goals (try rfl)
  ·refine zat rfl rfl rfl tv <| zaf tv <| zap rfl <| zax <| zad <| zad ?_
   rw [zan] at h25
   obtain ⟨k, rfl⟩ : ∃ k : Nat, n = k := ⟨n.toNat, by omega⟩
   have hkl : k < (way l b).length := by omega
   obtain ⟨p, hp⟩ : ∃ p, (way l b)[k]? = some p := ⟨_, List.getElem?_eq_getElem hkl⟩
   have hpl : p.length ≤ 16 := (hw.2 p (List.mem_of_getElem? hp))
   refine zaa <| zac rfl rfl tv <| zaf tv <| zbb <| zad <| zaa <| zci rfl rfl rfl tv (fun h30 => ?_) (fun h30 => ?_)
   ·refine zae rfl rfl tv <| zaf tv <| zao rfl <| zad <| zbo <| zam rfl rfl rfl rfl rfl rfl tv <| zac rfl rfl tv <| zac rfl rfl tv <| zac rfl rfl tv <| zbi rfl (c159 (way l b) k hkl (by omega)) (.cons ((.shr _ _)) (.cons ((.lit _)) .nil)) rfl tv <| zbi rfl (c158 l b ((way l b).eraseIdx k)) (.cons ((subP rfl)) (.cons ((.lit _)) (.cons ((.shr _ _)) .nil))) rfl tv <| zaj rfl rfl rfl rfl rfl rfl rfl rfl tv <| zae rfl rfl tv <| zaf (by kernel_rfl) <| zaw ?_
    rw [pk_lose hkl h30]
    refine fin' [] (.inr rfl) (.cons (.cellN rfl rfl rfl rfl rfl) (.cons (.tmp rfl (nb rfl)) .nil)) (zay [] rfl rfl ⟨⟨_, rfl, (.tup _ _ (.cons (.agg _ _ (.cons (subS ?_) (.cons (subI ?_) (.cons (subI ?_) (.cons (subI ?_) (.cons (subI ?_) (.cons (subS ?_) (.cons (subI ?_) (.cons (subI ?_) (.cons (subS ?_) (.cons (subI ?_) (.cons (subI ?_) (.cons (subI ?_) (.cons (subS ?_) (.cons (subS ?_) (.cons (subB ?_) (.cons (subS ?_) (.cons (subS ?_) .nil)))))))))))))))))) (.cons (subI ?_) .nil)))⟩, tv⟩ tv (zaz rfl rfl))
    all_goals (try rfl)
   ·refine zae rfl rfl tv <| zaf tv <| zap rfl <| zad <| zaa <| zci rfl rfl rfl tv (fun h38 => ?_) (fun h38 => ?_)
    ·refine zae rfl rfl tv <| zaf tv <| zao rfl <| zad <| zbo <| zam rfl rfl rfl rfl rfl rfl tv <| zac rfl rfl tv <| zac rfl rfl tv <| zac rfl rfl tv <| zac rfl rfl tv <| zbh rfl rfl rfl rfl rfl rfl (zdc hp) rfl tv <| zbv rfl rfl rfl rfl rfl tv <| zbi rfl (c154 (way l b) p (by omega)) (.cons ((.shr _ _)) (.cons ((.shr _ _)) .nil)) rfl tv <| zbi rfl (c158 l b (putP (way l b) p)) (.cons ((subP rfl)) (.cons ((.lit _)) (.cons ((.shr _ _)) .nil))) rfl tv <| zaj rfl rfl rfl rfl rfl rfl rfl rfl tv <| zae rfl rfl tv <| zaf (by kernel_rfl) <| zaw ?_
     rw [pk_twice hp h38]
     refine fin' [] (.inr rfl) (.cons (.cellN rfl rfl rfl rfl rfl) (.cons (.tmp rfl (nb rfl)) .nil)) (zay [] rfl rfl ⟨⟨_, rfl, (.tup _ _ (.cons (.agg _ _ (.cons (subS ?_) (.cons (subI ?_) (.cons (subI ?_) (.cons (subI ?_) (.cons (subI ?_) (.cons (subS ?_) (.cons (subI ?_) (.cons (subI ?_) (.cons (subS ?_) (.cons (subI ?_) (.cons (subI ?_) (.cons (subI ?_) (.cons (subS ?_) (.cons (subS ?_) (.cons (subB ?_) (.cons (subS ?_) (.cons (subS ?_) .nil)))))))))))))))))) (.cons (subI ?_) .nil)))⟩, tv⟩ tv (zaz rfl rfl))
     all_goals (try rfl)
    ·refine zae rfl rfl tv <| zaf tv <| zap rfl <| zad <| zaa <| zci rfl rfl rfl tv (fun h49 => ?_) (fun h49 => ?_)
     ·refine zae rfl rfl tv <| zaf tv <| zao rfl <| zad <| zad <| zaa <| zac rfl rfl tv <| zcg rfl rfl rfl tv (fun h51 => ?_) (fun h51 => ?_)
      ·refine zac rfl rfl tv <| zag rfl rfl rfl rfl rfl <| zag rfl rfl rfl rfl rfl <| zag rfl rfl rfl rfl rfl <| zag rfl rfl rfl rfl rfl <| zag rfl rfl rfl rfl rfl <| zag rfl rfl rfl rfl rfl <| zag rfl rfl rfl rfl rfl <| zav rfl rfl rfl tv <| zaf tv <| zao rfl <| zad <| zaa <| zam rfl rfl rfl rfl rfl rfl tv <| zaj rfl rfl rfl rfl rfl rfl rfl rfl tv <| zae rfl rfl tv <| zaf tv <| zaw ?_
       rw [pk_range hp h49 (by first | omega | (rw [Vc.byteCells_length] at h59; omega))]
       refine fin' [] (.inr rfl) (.cons (.cellN rfl rfl rfl rfl rfl) (.cons (.tmp rfl (nb rfl)) .nil)) (zay [] rfl rfl ⟨⟨_, rfl, (.tup _ _ (.cons (.agg _ _ (.cons (subS ?_) (.cons (subI ?_) (.cons (subI ?_) (.cons (subI ?_) (.cons (subI ?_) (.cons (subS ?_) (.cons (subI ?_) (.cons (subI ?_) (.cons (subS ?_) (.cons (subI ?_) (.cons (subI ?_) (.cons (subI ?_) (.cons (subS ?_) (.cons (subS ?_) (.cons (subB ?_) (.cons (subS ?_) (.cons (subS ?_) .nil)))))))))))))))))) (.cons (subI ?_) .nil)))⟩, tv⟩ tv (zaz rfl rfl))
       all_goals (try rfl)
      ·refine zac rfl rfl tv <| zac rfl rfl (gk rfl) <| zac rfl rfl (gk rfl) <| zac rfl rfl (gk rfl) <| zbh rfl rfl rfl rfl rfl rfl (zdc hp) rfl (gk rfl) <| zbv rfl rfl rfl rfl rfl (gk rfl) <| zby rfl rfl rfl (gk rfl) <| s_geq rfl rfl rfl (gk rfl) (fun h59 => ?_) (fun h59 => ?_)
       ·refine zat rfl rfl rfl tv <| zaf tv <| zao rfl <| zad <| zaa <| zam rfl rfl rfl rfl rfl rfl tv <| zaj rfl rfl rfl rfl rfl rfl rfl rfl tv <| zae rfl rfl tv <| zaf tv <| zaw ?_
        rw [pk_range hp h49 (by first | omega | (rw [Vc.byteCells_length] at h59; omega))]
        refine fin' [] (.inr rfl) (.cons (.cellN rfl rfl rfl rfl rfl) (.cons (.tmp rfl (nb rfl)) .nil)) (zay [] rfl rfl ⟨⟨_, rfl, (.tup _ _ (.cons (.agg _ _ (.cons (subS ?_) (.cons (subI ?_) (.cons (subI ?_) (.cons (subI ?_) (.cons (subI ?_) (.cons (subS ?_) (.cons (subI ?_) (.cons (subI ?_) (.cons (subS ?_) (.cons (subI ?_) (.cons (subI ?_) (.cons (subI ?_) (.cons (subS ?_) (.cons (subS ?_) (.cons (subB ?_) (.cons (subS ?_) (.cons (subS ?_) .nil)))))))))))))))))) (.cons (subI ?_) .nil)))⟩, tv⟩ tv (zaz rfl rfl))
        all_goals (try rfl)
       ·refine zat rfl rfl rfl tv <| zaf tv <| zap rfl <| zax <| zad ?_
        try rw [Vc.byteCells_length] at h59
        obtain ⟨j, rfl⟩ : ∃ j : Nat, a = j := ⟨a.toNat, by omega⟩
        have hj : j < p.length := by omega
        obtain ⟨y, hy⟩ : ∃ y, p[j]? = some y := ⟨_, List.getElem?_eq_getElem hj⟩
        have hyb := y.toNat_lt
        refine zaa <| zba 102 rfl rfl rfl rfl rfl rfl rfl rfl rfl rfl (zar hpar rfl) rfl rfl tv <| zac rfl rfl tv <| zbn 103 rfl rfl rfl (.shr _ _) rfl (zar hpar rfl) rfl rfl rfl rfl rfl (by simp [zbx, zan]; omega) rfl tv <| zae rfl rfl tv <| zaf tv <| zad <| zaa <| zac rfl rfl tv <| zac rfl rfl tv <| zba 104 rfl rfl rfl rfl rfl rfl rfl rfl rfl rfl (zar hpar rfl) rfl rfl tv <| zac rfl rfl tv <| zac rfl rfl tv <| zbh rfl rfl rfl rfl rfl rfl (zdc hp) rfl tv <| zbv rfl rfl rfl rfl rfl tv <| zbn 105 rfl rfl rfl (.shr _ _) rfl (zar hpar rfl) rfl rfl rfl rfl rfl (by simp [zbx, Vc.byteCells_length]; omega) rfl tv <| zcx rfl rfl rfl rfl rfl rfl (i := k) rfl (by simp [zbx, zan]; exact hkl) rfl tv <| u_storeRowV rfl rfl rfl (zdc hp) rfl rfl rfl rfl tv <| zaf tv <| zen (True) (⟨[(4, .lit (.bool b)), (5, .ptr 5 0), (10, .ptr 10 0), (13, .row 913)], [(5, .box (zdu l)), (10, .box [.lit (.slice none 0 0), .lit (.int .i64 0), .lit (.int .i64 0), .lit (.int .i64 0), .lit (.int .i64 0), .lit (.slice none 0 0), .lit (.int .i64 0), .lit (.int .i64 0), .lit (.slice none 0 0), .lit (.int .i64 0), .lit (.int .i64 0), .lit (.int .i64 0), .lit (.slice none 0 0), .lit (.slice none 0 0), .lit (.bool false), .lit (.slice none 0 0), .lit (.slice none 0 0)]), (913, .row 46 1 (zbc ((way l b).set k (spoilAt p j))))], 141⟩) ?_ (fun hA17 => ?_)
        ·refine zad <| zaa <| zac rfl rfl tv <| zac rfl rfl tv <| u_indexRV rfl rfl rfl rfl rfl rfl (i := k) rfl (by simp [zbx, zan]; exact hkl) rfl tv <| u_loadRV rfl rfl (List.getElem?_set_self (by simp [zbx, zan]; exact hkl)) rfl rfl rfl rfl tv ?_
         refine zac rfl rfl tv <| zcx rfl rfl rfl rfl rfl rfl (i := j) rfl (by simp [zbx, Vc.byteCells_length]; exact hj) rfl tv <| zff rfl rfl (zei hy) rfl rfl rfl rfl tv <| u_remN rfl rfl (by omega) rfl tv <| zci rfl rfl rfl tv (fun h82 => ?_) (fun h82 => ?_)
         ·refine zaf tv <| zao rfl <| zaa <| zac rfl rfl tv <| zac rfl rfl tv <| u_indexRV rfl rfl rfl rfl rfl rfl (i := k) rfl (by simp [zbx, zan]; exact hkl) rfl tv <| u_loadRV rfl rfl (List.getElem?_set_self (by simp [zbx, zan]; exact hkl)) rfl rfl rfl rfl tv ?_
          refine zac rfl rfl tv <| zcx rfl rfl rfl rfl rfl rfl (i := j) rfl (by simp [zbx, Vc.byteCells_length]; exact hj) rfl tv <| zff rfl rfl (zei hy) rfl rfl rfl rfl tv <| u_addW rfl rfl rfl tv <| zcx rfl rfl rfl rfl rfl rfl (i := j) rfl (by simp [zbx, Vc.byteCells_length]; exact hj) rfl tv <| zdx rfl rfl rfl (zei hy) rfl (by simp [cellsOf, isP]) rfl rfl rfl (store_even hy h82 _) tv <| zaf tv <| ⟨?_, ren [(5, 100), (10, 101), (913, 103)], zay [(5, 100), (10, 101), (913, 103)] rfl rfl ⟨⟨_, rfl, (.lit _)⟩, ⟨_, rfl, (.ptr _ _ _ rfl (zak rfl))⟩, ⟨_, rfl, (.ptr _ _ _ rfl (zak rfl))⟩, ⟨_, rfl, (.row _ _ rfl (zak rfl))⟩, tv⟩ ⟨⟨_, _, rfl, rfl, (zbk rfl)⟩, ⟨_, _, rfl, rfl, (zbk rfl)⟩, (.inr (.inr ⟨_, _, rfl, rfl, packs_sub (zcd rfl (fzL rfl) (by rfl)) (way l b) k, packs_isP⟩)), tv⟩ (zaz hpar rfl)⟩
          ·exact tv
         ·refine zaf tv <| zap rfl <| zaa <| zac rfl rfl tv <| zac rfl rfl tv <| u_indexRV rfl rfl rfl rfl rfl rfl (i := k) rfl (by simp [zbx, zan]; exact hkl) rfl tv <| u_loadRV rfl rfl (List.getElem?_set_self (by simp [zbx, zan]; exact hkl)) rfl rfl rfl rfl tv ?_
          refine zac rfl rfl tv <| zcx rfl rfl rfl rfl rfl rfl (i := j) rfl (by simp [zbx, Vc.byteCells_length]; exact hj) rfl tv <| zff rfl rfl (zei hy) rfl rfl rfl rfl tv <| u_subW rfl rfl rfl tv <| zcx rfl rfl rfl rfl rfl rfl (i := j) rfl (by simp [zbx, Vc.byteCells_length]; exact hj) rfl tv <| zdx rfl rfl rfl (zei hy) rfl (by simp [cellsOf, isP]) rfl rfl rfl (store_odd hy h82 _) tv <| zaf tv <| ⟨?_, ren [(5, 100), (10, 101), (913, 103)], zay [(5, 100), (10, 101), (913, 103)] rfl rfl ⟨⟨_, rfl, (.lit _)⟩, ⟨_, rfl, (.ptr _ _ _ rfl (zak rfl))⟩, ⟨_, rfl, (.ptr _ _ _ rfl (zak rfl))⟩, ⟨_, rfl, (.row _ _ rfl (zak rfl))⟩, tv⟩ ⟨⟨_, _, rfl, rfl, (zbk rfl)⟩, ⟨_, _, rfl, rfl, (zbk rfl)⟩, (.inr (.inr ⟨_, _, rfl, rfl, packs_sub (zcd rfl (fzL rfl) (by rfl)) (way l b) k, packs_isP⟩)), tv⟩ (zaz hpar rfl)⟩
          ·exact tv
        refine zad <| zaa <| zam rfl rfl rfl rfl rfl rfl tv <| zac rfl rfl tv <| zac rfl rfl tv <| zck [] [913] [913] rfl rfl (c158 l b ((way l b).set k (spoilAt p j))) (zbp (k0 := 913) rfl zcl) tv (.cons ((subP rfl)) (.cons ((.lit _)) (.cons (.frz _ _ _ _ rfl (by decide)) .nil))) rfl rfl (zcy hpar rfl) rfl tv <| zaj rfl rfl rfl rfl rfl rfl rfl rfl tv <| zae rfl rfl tv <| zaf tv <| zaw ?_
        rw [pk_spoil hp h49 hj]
        refine fin' [] (.inr rfl) (.cons (.cellN rfl rfl rfl rfl rfl) (.cons (.tmp rfl (nb rfl)) .nil)) (zay [] rfl rfl ⟨⟨_, rfl, (.tup _ _ (.cons (.agg _ _ (.cons (subS ?_) (.cons (subI ?_) (.cons (subI ?_) (.cons (subI ?_) (.cons (subI ?_) (.cons (subS ?_) (.cons (subI ?_) (.cons (subI ?_) (.cons (subS ?_) (.cons (subI ?_) (.cons (subI ?_) (.cons (subI ?_) (.cons (subS ?_) (.cons (subS ?_) (.cons (subB ?_) (.cons (subS ?_) (.cons (subS ?_) .nil)))))))))))))))))) (.cons (subI ?_) .nil)))⟩, tv⟩ tv (zaz rfl rfl))
        all_goals (try rfl)
     ·refine zae rfl rfl tv <| zaf tv <| zap rfl <| zax <| zad <| zbo <| zam rfl rfl rfl rfl rfl rfl tv <| zac rfl rfl tv <| zac rfl rfl tv <| zac rfl rfl tv <| zbi rfl (c159 (way l b) k hkl (by omega)) (.cons ((.shr _ _)) (.cons ((.lit _)) .nil)) rfl tv <| zbi rfl (c158 l b ((way l b).eraseIdx k)) (.cons ((subP rfl)) (.cons ((.lit _)) (.cons ((.shr _ _)) .nil))) rfl tv <| zaj rfl rfl rfl rfl rfl rfl rfl rfl tv <| zaf (by kernel_rfl) <| zad <| zaa <| zac rfl rfl tv <| zac rfl rfl tv <| zbh rfl rfl rfl rfl rfl rfl (zdc hp) rfl tv <| zbv rfl rfl rfl rfl rfl tv <| zbi rfl (c82 p (by omega)) (.cons ((.shr _ _)) .nil) rfl tv <| zac rfl rfl tv <| zas rfl rfl rfl tv <| zas rfl rfl rfl tv <| zbd 102 rfl rfl (zar hpar rfl) rfl rfl tv <| zaj rfl rfl rfl rfl rfl rfl rfl rfl tv <| zae rfl rfl tv <| zaf tv <| zad <| zad ?_
      refine zaa <| zac rfl rfl tv <| zci rfl rfl rfl tv (fun h120 => ?_) (fun h120 => ?_)
      ·refine zac rfl rfl tv <| s_move rfl rfl (gk rfl) (fun h122 => ?_) (fun h122 => ?_)
       ·refine zav rfl rfl rfl tv <| zaf tv <| zao rfl <| zaa <| zab rfl rfl rfl rfl rfl rfl tv <| zds rfl rfl rfl rfl rfl rfl rfl tv <| zam rfl rfl rfl rfl rfl rfl tv <| zbi rfl (c98 (withP l b ((way l b).eraseIdx k)).s (read p).1 (by cases b <;> exact (by have := hl.s.f; simp [withP]; omega))) (.cons ((subP rfl)) (.cons ((subP rfl)) .nil)) rfl tv <| zab rfl rfl rfl rfl rfl rfl tv <| zbl rfl rfl rfl rfl rfl rfl rfl tv <| zaf tv <| zad <| zad <| zaa <| zac rfl rfl tv <| zci rfl rfl rfl tv (fun h130 => ?_) (fun h130 => ?_)
        ·refine zac rfl rfl tv <| s_move rfl rfl (gk rfl) (fun h132 => ?_) (fun h132 => ?_)
         ·refine zdq rfl rfl (gk rfl) <| zav rfl rfl rfl tv <| zaf tv <| zap rfl <| zax <| zad <| zaa <| zam rfl rfl rfl rfl rfl rfl tv <| zaj rfl rfl rfl rfl rfl rfl rfl rfl tv <| zae rfl rfl tv <| zaf tv <| zaw ?_
          subst h122
          rw [pk_come hkl h30 h38 h49]
          rw [cm_back hp h120]
          refine fin' [] (.inr rfl) (.cons (.cellN rfl rfl rfl rfl rfl) (.cons (.tmp rfl (nb rfl)) .nil)) (zay [] rfl rfl ⟨⟨_, rfl, (.tup _ _ (.cons (.agg _ _ (.cons (subS ?_) (.cons (subI ?_) (.cons (subI ?_) (.cons (subI ?_) (.cons (subI ?_) (.cons (subS ?_) (.cons (subI ?_) (.cons (subI ?_) (.cons (subS ?_) (.cons (subI ?_) (.cons (subI ?_) (.cons (subI ?_) (.cons (subS ?_) (.cons (subS ?_) (.cons (subB ?_) (.cons (subS ?_) (.cons (subS ?_) .nil)))))))))))))))))) (.cons (subI ?_) .nil)))⟩, tv⟩ tv (zaz rfl rfl))
          all_goals (try rfl)
         ·rw [h122] at h132; cases h132
        ·exact absurd h120 h130
       ·refine zav rfl rfl rfl tv <| zaf tv <| zap rfl <| zax <| zad <| zad <| zaa <| zac rfl rfl tv <| zci rfl rfl rfl tv (fun h130 => ?_) (fun h130 => ?_)
        ·refine zac rfl rfl tv <| s_move rfl rfl (gk rfl) (fun h132 => ?_) (fun h132 => ?_)
         ·rw [h122] at h132; cases h132
         ·refine zdq rfl rfl (gk rfl) <| zav rfl rfl rfl tv <| zaf tv <| zao rfl <| zaa <| zab rfl rfl rfl rfl rfl rfl tv <| zds rfl rfl rfl rfl rfl rfl rfl tv <| zam rfl rfl rfl rfl rfl rfl tv <| zbi rfl (c112 (withP l b ((way l b).eraseIdx k)).r (read p).1 (by cases b <;> exact hl.r) (bytes_read h120).1) (.cons ((subP rfl)) (.cons ((subP rfl)) .nil)) rfl tv <| zab rfl rfl rfl rfl rfl rfl tv <| zbl rfl rfl rfl rfl rfl rfl rfl tv <| zaf tv <| zad <| zaa <| zam rfl rfl rfl rfl rfl rfl tv <| zaj rfl rfl rfl rfl rfl rfl rfl rfl tv <| zae rfl rfl tv <| zaf tv <| zaw ?_
          subst h132
          rw [pk_come hkl h30 h38 h49]
          rw [cm_there hp h120]
          refine fin' [] (.inr rfl) (.cons (.cellN rfl rfl rfl rfl rfl) (.cons (.tmp rfl (nb rfl)) .nil)) (zay [] rfl rfl ⟨⟨_, rfl, (.tup _ _ (.cons (.agg _ _ (.cons (subS ?_) (.cons (subI ?_) (.cons (subI ?_) (.cons (subI ?_) (.cons (subI ?_) (.cons (subS ?_) (.cons (subI ?_) (.cons (subI ?_) (.cons (subS ?_) (.cons (subI ?_) (.cons (subI ?_) (.cons (subI ?_) (.cons (subS ?_) (.cons (subS ?_) (.cons (subB ?_) (.cons (subS ?_) (.cons (subS ?_) .nil)))))))))))))))))) (.cons (subI ?_) .nil)))⟩, tv⟩ tv (zaz rfl rfl))
          all_goals (try rfl)
        ·exact absurd h120 h130
      ·refine zac rfl rfl tv <| zag rfl rfl rfl rfl rfl <| zat rfl rfl rfl tv <| zaf tv <| zap rfl <| zax <| zad <| zad <| zaa <| zac rfl rfl tv <| zci rfl rfl rfl tv (fun h130 => ?_) (fun h130 => ?_)
       ·exact absurd h130 h120
       ·refine zac rfl rfl tv <| zag rfl rfl rfl rfl rfl <| zag rfl rfl rfl rfl rfl <| zat rfl rfl rfl tv <| zaf tv <| zap rfl <| zax <| zad <| zaa <| zam rfl rfl rfl rfl rfl rfl tv <| zaj rfl rfl rfl rfl rfl rfl rfl rfl tv <| zae rfl rfl tv <| zaf tv <| zaw ?_
        rw [pk_come hkl h30 h38 h49]
        rw [cm_bad hp h120]
        refine fin' [] (.inr rfl) (.cons (.cellN rfl rfl rfl rfl rfl) (.cons (.tmp rfl (nb rfl)) .nil)) (zay [] rfl rfl ⟨⟨_, rfl, (.tup _ _ (.cons (.agg _ _ (.cons (subS ?_) (.cons (subI ?_) (.cons (subI ?_) (.cons (subI ?_) (.cons (subI ?_) (.cons (subS ?_) (.cons (subI ?_) (.cons (subI ?_) (.cons (subS ?_) (.cons (subI ?_) (.cons (subI ?_) (.cons (subI ?_) (.cons (subS ?_) (.cons (subS ?_) (.cons (subB ?_) (.cons (subS ?_) (.cons (subS ?_) .nil)))))))))))))))))) (.cons (subI ?_) .nil)))⟩, tv⟩ tv (zaz rfl rfl))
        all_goals (try rfl)
end Go.Proofs.Ytaadloihphpdbaa
