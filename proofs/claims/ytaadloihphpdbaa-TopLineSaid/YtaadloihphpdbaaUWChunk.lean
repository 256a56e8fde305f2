/- Walks of the package chunk and of the document's answer to it. Printed by a small program (walk.py). -/
import Derived.Test.YtaadloihphpdbaaUWSum
import Derived.Test.YtaadloihphpdbaaUWPlain
import Derived.Test.YtaadloihphpdbaaUPRound
import Derived.Test.YtaadloihphpdbaaUVcB
set_option linter.unusedVariables false
set_option linter.unusedSimpArgs false
set_option maxRecDepth 4000
namespace Go.Proofs.Ytaadloihphpdbaa
open Go Go.Vc Go.RowKit
theorem c53r (bs : List UInt8) (hb : bs.length ≤ 140737488355300) : VFun G 53 [.shr 1 (byteCells bs)] [] (.tup [.shr 1 (byteCells (zed bs)), .lit (.bool (opens bs))]) [] :=
  (c53 0 bs hb).resWk (ren []) (zaw [] rfl rfl ⟨⟨_, rfl, .tup _ _ (.cons (.frz _ _ _ _ look_self (fzL rfl)) (.cons (.lit _) .nil))⟩, tv⟩ tv no_par)
theorem two_of {α : Type} {l : List α} (h : 2 ≤ l.length) : ∃ a b r, l = a :: b :: r := by
  match l, h with
  | a :: b :: r, _ => exact ⟨a, b, r, rfl⟩
theorem rising_snoc {n : Int} {l : List Int} {i : Nat} {x : Int} (h : l[i]? = some x) : rising n (l.drop i) = (decide (n < x) && (decide (x < 40) && rising x (l.drop (i + 1)))) := by
  obtain ⟨hi, rfl⟩ := List.getElem?_eq_some_iff.1 h
  rw [List.drop_eq_getElem_cons hi]; rfl
theorem read_no {b : List UInt8} (h : opens b = false) : read b = (zfj, 7) := by unfold read; rw [if_pos h]
theorem read_short {b : List UInt8} (h : opens b = true) (h2 : short (zed b) = true) : read b = (zfj, 8) := by unfold read; rw [if_neg (by rw [h]; decide), if_pos h2]
theorem read_bad {b : List UInt8} {c : Chunk} (h : opens b = true) (h2 : short (zed b) = false) (h4 : zfo (zed b) = c) (h3 : zdc c ≠ 0) : read b = (zfj, zdc c) := by
  unfold read; rw [if_neg (by rw [h]; decide), if_neg (by rw [h2]; decide), h4, if_pos h3]
theorem read_good {b : List UInt8} {c : Chunk} (h : opens b = true) (h2 : short (zed b) = false) (h4 : zfo (zed b) = c) (h3 : zdc c = 0) : read b = (c, 0) := by
  unfold read; rw [if_neg (by rw [h]; decide), if_neg (by rw [h2]; decide), h4, if_neg (by rw [h3]; decide)]
theorem ints_snoc (l : List UInt8) {i : Nat} (h : i < l.length) : ints (l.take (i + 1)) = ints (l.take i) ++ [((l[i]'h).toNat : Int)] := by
  rw [← List.take_append_getElem h]; unfold ints; rw [List.map_append]; rfl
theorem ints_length (l : List UInt8) : (ints l).length = l.length := by simp [ints]
theorem opened_le (b : List UInt8) : (zed b).length ≤ b.length := by
  unfold zed; split
  · rw [List.length_take]; omega
  · simp
theorem u8s_take (l : List Int) {i : Nat} {x : Int} (h : l[i]? = some x) : (l.take (i + 1)).map u8 = (l.take i).map u8 ++ [u8 x] := by
  rw [List.take_add_one, h]; simp
theorem c78 (m : Msg) : VFun G 78 [.agg [.lit (.int .i64 m.1), .shr 1 (byteCells m.2)]] [] (.lit (.int .i64 (zcp m))) [] := by
 refine VFun.intro (fn := Try.f78) rfl rfl (by kernel_rfl) (nb rfl) fun Γ hpar => ?_
 refine zac <| zaa <| zeb 100 rfl rfl rfl (zar hpar rfl) rfl rfl tv <| zad rfl rfl tv <| zaf tv <| zac <| zaz <| zac <| zaa <| zab rfl rfl rfl rfl rfl rfl tv <| zak rfl rfl rfl rfl rfl rfl tv <| zcm rfl rfl rfl tv (fun h6 => ?_) (fun h6 => ?_)
 ·refine zae rfl rfl tv <| zal rfl rfl rfl rfl rfl <| zal rfl rfl rfl rfl rfl <| zal rfl rfl rfl rfl rfl <| zbk rfl rfl rfl tv <| zad rfl rfl tv <| zaf tv <| zas rfl <| zac <| zaa <| zad rfl rfl tv <| zaf tv <| zav <| fin' [] (.inr rfl) (.cons (.tmp rfl (nb rfl)) .nil) (zaw [] rfl rfl ⟨⟨_, rfl, (subI ?_)⟩, tv⟩ tv (zax rfl rfl))
  all_goals (try rfl)
  all_goals
    (try simp only [zam, byteCells_length] at *)
    first | exact wrongMsg1 (by omega) | exact wrongMsg2 (by omega) (by omega) | exact wrongMsg3 (by omega) (by omega)
 ·refine zae rfl rfl tv <| zab rfl rfl rfl rfl rfl rfl (gk rfl) <| zak rfl rfl rfl rfl rfl rfl (gk rfl) <| s_geq rfl rfl rfl (gk rfl) (fun h10 => ?_) (fun h10 => ?_)
  ·refine zbh rfl rfl rfl tv <| zad rfl rfl tv <| zaf tv <| zas rfl <| zac <| zaa <| zad rfl rfl tv <| zaf tv <| zav <| fin' [] (.inr rfl) (.cons (.tmp rfl (nb rfl)) .nil) (zaw [] rfl rfl ⟨⟨_, rfl, (subI ?_)⟩, tv⟩ tv (zax rfl rfl))
   all_goals (try rfl)
   all_goals
     (try simp only [zam, byteCells_length] at *)
     first | exact wrongMsg1 (by omega) | exact wrongMsg2 (by omega) (by omega) | exact wrongMsg3 (by omega) (by omega)
  ·refine zbh rfl rfl rfl tv <| zad rfl rfl tv <| zaf tv <| zau rfl <| zac <| zaa <| zab rfl rfl rfl rfl rfl rfl tv <| zak rfl rfl rfl rfl rfl rfl tv <| zcs rfl rfl rfl tv <| s_gtr rfl rfl rfl tv (fun h16 => ?_) (fun h16 => ?_)
   ·refine zad rfl rfl tv <| zaf tv <| zas rfl <| zac <| zaa <| zad rfl rfl tv <| zaf tv <| zav <| fin' [] (.inr rfl) (.cons (.tmp rfl (nb rfl)) .nil) (zaw [] rfl rfl ⟨⟨_, rfl, (subI ?_)⟩, tv⟩ tv (zax rfl rfl))
    all_goals (try rfl)
    all_goals
      (try simp only [zam, byteCells_length] at *)
      first | exact wrongMsg1 (by omega) | exact wrongMsg2 (by omega) (by omega) | exact wrongMsg3 (by omega) (by omega)
   ·refine zad rfl rfl tv <| zaf tv <| zau rfl <| zbd <| zac <| zaa <| zad rfl rfl tv <| zaf tv <| zav <| fin' [] (.inr rfl) (.cons (.tmp rfl (nb rfl)) .nil) (zaw [] rfl rfl ⟨⟨_, rfl, (subI ?_)⟩, tv⟩ tv (zax rfl rfl))
    all_goals (try rfl)
    all_goals
      (try simp only [zam, byteCells_length] at *)
      first | exact wrongMsg1 (by omega) | exact wrongMsg2 (by omega) (by omega) | exact wrongMsg3 (by omega) (by omega)
theorem c140a (K : Nat) : VFun G 140 [.lit (.slice none 0 0)] [] (.row K) [(K, .row 3 1 (zay []))] := by
 refine VFun.intro (fn := Try.f140) rfl rfl (by kernel_rfl) (nb rfl) fun Γ hpar => ?_
 refine zac <| zaa <| zad rfl rfl tv <| zaf tv <| zac <| zac <| zaa <| zae rfl rfl tv <| u_eqlNil rfl rfl rfl rfl tv <| zaf tv <| zas rfl <| zac <| zaa <| zad rfl rfl tv <| zaf tv <| zav <| fin1n (.inr rfl) (.cons (.tmp rfl (nb rfl)) .nil) ?_ (subRowN)
 ·rfl
theorem c140b (K : Nat) (b : Int) (r : List Int) (hl8 : (b :: r).length ≤ 17592186044000) : VFun G 140 [.shr 1 (zay (b :: r))] [] (.row K) [(K, .row 3 1 (zay (b :: r)))] := by
 refine VFun.intro (fn := Try.f140) rfl rfl (by kernel_rfl) (nb rfl) fun Γ hpar => ?_
 refine zac <| zaa <| zad rfl rfl tv <| zaf tv <| zac <| zac <| zaa <| zae rfl rfl tv <| u_eqlNilC rfl rfl rfl rfl tv <| zaf tv <| zau rfl <| zbd <| zac <| zaa <| zba 100 rfl rfl rfl rfl rfl rfl rfl rfl rfl rfl (zar hpar rfl) rfl rfl tv <| zae rfl rfl tv <| zbt 101 rfl rfl rfl (.shr _ _) rfl (zar hpar rfl) rfl rfl rfl rfl rfl (by simp only [zam, zby, List.map_nil, List.length_nil]; omega) rfl tv <| zad rfl rfl tv <| zaf tv <| zav <| fin1 (.inr rfl) (.cons (.tmp rfl (nb rfl)) .nil) rfl ?_ (subRow)
 ·rfl
theorem c140c (K : Nat) (p : Addr) (cap : Nat) : VFun G 140 [.lit (.slice (some p) 0 cap)] [] (.row K) [(K, .row 3 1 (zay []))] := by
 refine VFun.intro (fn := Try.f140) rfl rfl (by kernel_rfl) (nb rfl) fun Γ hpar => ?_
 refine zac <| zaa <| zad rfl rfl tv <| zaf tv <| zac <| zac <| zaa <| zae rfl rfl tv <| u_eqlNil rfl rfl rfl rfl tv <| zaf tv <| zau rfl <| zbd <| zac <| zaa <| zba 100 rfl rfl rfl rfl rfl rfl rfl rfl rfl rfl (zar hpar rfl) rfl rfl tv <| zae rfl rfl tv <| u_append0 101 rfl rfl rfl rfl (zar hpar rfl) rfl rfl rfl rfl rfl (by decide) rfl tv <| zad rfl rfl tv <| zaf tv <| zav <| fin1 (.inr rfl) (.cons (.tmp rfl (nb rfl)) .nil) rfl ?_ (subRow)
 ·rfl
theorem c140 (K : Nat) (l : List Int) (hl : l.length ≤ 17592186044000) : VFun G 140 [.shr 1 (zay l)] [] (.row K) [(K, .row 3 1 (zay l))] := by
  refine VFun.nilcase (fun h => ?_) (fun u us h => ?_) (fun h p cap => ?_)
  · have : l = [] := by simpa [zay] using h
    subst this; exact c140a K
  · cases l with
    | nil => cases h
    | cons b r => cases h; exact c140b K b r hl
  · have : l = [] := by simpa [zay] using h
    subst this; exact c140c K p cap
theorem c80 (c : Chunk) (hl : c.early.length ≤ 17592186044000) : VFun G 80 [.agg (zcn c)] [] (.agg (zcn c)) [] := by
 refine VFun.intro (fn := Try.f80) rfl rfl (by kernel_rfl) (nb rfl) fun Γ hpar => ?_
 refine zac <| zaa <| zeb 100 rfl rfl rfl (zar hpar rfl) rfl rfl tv <| zbf 101 rfl rfl (zar hpar rfl) rfl rfl tv <| zaf tv <| zac <| zcb <| zab rfl rfl rfl rfl rfl rfl tv <| zak rfl rfl rfl rfl rfl rfl tv <| zbo rfl (VFun.read (c136 0 _)) (.cons ((.shr _ _)) .nil) rfl tv <| zab rfl rfl rfl rfl rfl rfl tv <| zak rfl rfl rfl rfl rfl rfl tv <| zbo rfl (VFun.read (c140 0 _ (by omega))) (.cons ((.shr _ _)) .nil) rfl tv <| zab rfl rfl rfl rfl rfl rfl tv <| zbm rfl rfl rfl rfl rfl rfl rfl tv <| zab rfl rfl rfl rfl rfl rfl tv <| zbm rfl rfl rfl rfl rfl rfl rfl tv <| zaf (by kernel_rfl) <| zac <| zaa <| zan rfl rfl rfl rfl rfl rfl tv <| zah rfl rfl rfl rfl rfl rfl rfl rfl tv <| zaf tv <| zav <| fin' [] (.inr rfl) (.cons (.cellN rfl rfl rfl rfl rfl) .nil) (zaw [] rfl rfl ⟨⟨_, rfl, (.agg _ _ (.cons (subI ?_) (.cons (subI ?_) (.cons (subI ?_) (.cons (subI ?_) (.cons (subS ?_) (.cons (subS ?_) .nil)))))))⟩, tv⟩ tv (zax rfl rfl))
 all_goals (try rfl)
theorem c76 (c : Chunk) : VFun G 76 [.agg (zcn c)] [] (.lit (.int .i64 (zdc c))) [] := by
 refine VFun.intro (fn := Try.f76) rfl rfl (by kernel_rfl) (nb rfl) fun Γ hpar => ?_
 refine zac <| vw_lenA (t := 0) (j := 5) rfl rfl fun hl => ?_
 rw [zam] at hl
 refine zaa <| zeb 100 rfl rfl rfl (zar hpar rfl) rfl rfl tv <| zad rfl rfl tv <| zaf tv <| zac <| zaz <| zac <| zaa <| zab rfl rfl rfl rfl rfl rfl tv <| zak rfl rfl rfl rfl rfl rfl tv <| zfe rfl rfl rfl tv (fun h8 => ?_) (fun h8 => ?_)
 ·refine zae rfl rfl tv <| zab rfl rfl rfl rfl rfl rfl (gk rfl) <| zak rfl rfl rfl rfl rfl rfl (gk rfl) <| zfe rfl rfl rfl (gk rfl) (fun h12 => ?_) (fun h12 => ?_)
  ·refine zbk rfl rfl rfl tv <| zad rfl rfl tv <| zaf tv <| zas rfl <| zac <| zaa <| zad rfl rfl tv <| zaf tv <| zav <| fin' [] (.inr rfl) (.cons (.tmp rfl (nb rfl)) .nil) (zaw [] rfl rfl ⟨⟨_, rfl, (subI ?_)⟩, tv⟩ tv (zax rfl rfl))
   all_goals (try rfl)
   all_goals
     (try simp only [zam, byteCells_length] at *)
     unfold zdc; (repeat first | rw [if_pos (by omega)] | rw [if_neg (by omega)])
  ·refine zbk rfl rfl rfl tv <| zad rfl rfl tv <| zaf tv <| zau rfl <| zac <| zaa <| zab rfl rfl rfl rfl rfl rfl tv <| zak rfl rfl rfl rfl rfl rfl tv <| zcm rfl rfl rfl tv (fun h17 => ?_) (fun h17 => ?_)
   ·refine zae rfl rfl tv <| zal rfl rfl rfl rfl rfl <| zal rfl rfl rfl rfl rfl <| zal rfl rfl rfl rfl rfl <| zbk rfl rfl rfl tv <| zad rfl rfl tv <| zaf tv <| zas rfl <| zac <| zaa <| zad rfl rfl tv <| zaf tv <| zav <| fin' [] (.inr rfl) (.cons (.tmp rfl (nb rfl)) .nil) (zaw [] rfl rfl ⟨⟨_, rfl, (subI ?_)⟩, tv⟩ tv (zax rfl rfl))
    all_goals (try rfl)
    all_goals
      (try simp only [zam, byteCells_length] at *)
      unfold zdc; (repeat first | rw [if_pos (by omega)] | rw [if_neg (by omega)])
   ·refine zae rfl rfl tv <| zab rfl rfl rfl rfl rfl rfl (gk rfl) <| zak rfl rfl rfl rfl rfl rfl (gk rfl) <| s_gtr rfl rfl rfl (gk rfl) (fun h21 => ?_) (fun h21 => ?_)
    ·refine zbh rfl rfl rfl tv <| zad rfl rfl tv <| zaf tv <| zas rfl <| zac <| zaa <| zad rfl rfl tv <| zaf tv <| zav <| fin' [] (.inr rfl) (.cons (.tmp rfl (nb rfl)) .nil) (zaw [] rfl rfl ⟨⟨_, rfl, (subI ?_)⟩, tv⟩ tv (zax rfl rfl))
     all_goals (try rfl)
     all_goals
       (try simp only [zam, byteCells_length] at *)
       unfold zdc; (repeat first | rw [if_pos (by omega)] | rw [if_neg (by omega)])
    ·refine zbh rfl rfl rfl tv <| zad rfl rfl tv <| zaf tv <| zau rfl <| zac <| zaa <| zab rfl rfl rfl rfl rfl rfl tv <| zak rfl rfl rfl rfl rfl rfl tv <| zew rfl rfl rfl tv (fun h26 => ?_) (fun h26 => ?_)
     ·omega
     ·refine zae rfl rfl tv <| zal rfl rfl rfl rfl rfl <| zal rfl rfl rfl rfl rfl <| zal rfl rfl rfl rfl rfl <| zal rfl rfl rfl rfl rfl <| zal rfl rfl rfl rfl rfl <| zal rfl rfl rfl rfl rfl <| zal rfl rfl rfl rfl rfl <| zal rfl rfl rfl rfl rfl <| zal rfl rfl rfl rfl rfl <| zal rfl rfl rfl rfl rfl <| zal rfl rfl rfl rfl rfl <| zal rfl rfl rfl rfl rfl <| zal rfl rfl rfl rfl rfl <| zal rfl rfl rfl rfl rfl <| zal rfl rfl rfl rfl rfl <| zbh rfl rfl rfl tv <| zad rfl rfl tv <| zaf tv <| zau rfl <| zac <| zaa <| zab rfl rfl rfl rfl rfl rfl tv <| zak rfl rfl rfl rfl rfl rfl tv <| zew rfl rfl rfl tv (fun h47 => ?_) (fun h47 => ?_)
      ·omega
      ·refine zae rfl rfl tv <| zal rfl rfl rfl rfl rfl <| zal rfl rfl rfl rfl rfl <| zal rfl rfl rfl rfl rfl <| zal rfl rfl rfl rfl rfl <| zbh rfl rfl rfl tv <| zad rfl rfl tv <| zaf tv <| zau rfl <| zac <| zaa <| zab rfl rfl rfl rfl rfl rfl tv <| zak rfl rfl rfl rfl rfl rfl tv <| zew rfl rfl rfl tv (fun h57 => ?_) (fun h57 => ?_)
       ·omega
       ·refine zad rfl rfl tv <| zaf tv <| zau rfl <| zac <| zaa <| zab rfl rfl rfl rfl rfl rfl tv <| zak rfl rfl rfl rfl rfl rfl tv <| zfe rfl rfl rfl tv (fun h67 => ?_) (fun h67 => ?_)
        ·refine zae rfl rfl tv <| zal rfl rfl rfl rfl rfl <| zal rfl rfl rfl rfl rfl <| zal rfl rfl rfl rfl rfl <| zbk rfl rfl rfl tv <| zad rfl rfl tv <| zaf tv <| zas rfl <| zac <| zaa <| zad rfl rfl tv <| zaf tv <| zav <| fin' [] (.inr rfl) (.cons (.tmp rfl (nb rfl)) .nil) (zaw [] rfl rfl ⟨⟨_, rfl, (subI ?_)⟩, tv⟩ tv (zax rfl rfl))
         all_goals (try rfl)
         all_goals
           (try simp only [zam, byteCells_length] at *)
           unfold zdc; (repeat first | rw [if_pos (by omega)] | rw [if_neg (by omega)])
        ·refine zae rfl rfl tv <| zab rfl rfl rfl rfl rfl rfl (gk rfl) <| zak rfl rfl rfl rfl rfl rfl (gk rfl) <| zfe rfl rfl rfl (gk rfl) (fun h71 => ?_) (fun h71 => ?_)
         ·refine zbh rfl rfl rfl tv <| zad rfl rfl tv <| zaf tv <| zas rfl <| zac <| zaa <| zad rfl rfl tv <| zaf tv <| zav <| fin' [] (.inr rfl) (.cons (.tmp rfl (nb rfl)) .nil) (zaw [] rfl rfl ⟨⟨_, rfl, (subI ?_)⟩, tv⟩ tv (zax rfl rfl))
          all_goals (try rfl)
          all_goals
            (try simp only [zam, byteCells_length] at *)
            unfold zdc; (repeat first | rw [if_pos (by omega)] | rw [if_neg (by omega)])
         ·refine zbh rfl rfl rfl tv <| zad rfl rfl tv <| zaf tv <| zau rfl <| zac <| zaa <| zab rfl rfl rfl rfl rfl rfl tv <| zak rfl rfl rfl rfl rfl rfl tv <| zcs rfl rfl rfl tv <| s_gtr rfl rfl rfl tv (fun h77 => ?_) (fun h77 => ?_)
          ·refine zae rfl rfl tv <| zal rfl rfl rfl rfl rfl <| zal rfl rfl rfl rfl rfl <| zal rfl rfl rfl rfl rfl <| zal rfl rfl rfl rfl rfl <| zbk rfl rfl rfl tv <| zad rfl rfl tv <| zaf tv <| zas rfl <| zac <| zaa <| zad rfl rfl tv <| zaf tv <| zav <| fin' [] (.inr rfl) (.cons (.tmp rfl (nb rfl)) .nil) (zaw [] rfl rfl ⟨⟨_, rfl, (subI ?_)⟩, tv⟩ tv (zax rfl rfl))
           all_goals (try rfl)
           all_goals
             (try simp only [zam, byteCells_length] at *)
             unfold zdc; (repeat first | rw [if_pos (by omega)] | rw [if_neg (by omega)])
          ·refine zae rfl rfl tv <| zab rfl rfl rfl rfl rfl rfl (gk rfl) <| zak rfl rfl rfl rfl rfl rfl (gk rfl) <| zcs rfl rfl rfl (gk rfl) <| s_gtr rfl rfl rfl (gk rfl) (fun h82 => ?_) (fun h82 => ?_)
           ·refine zbh rfl rfl rfl tv <| zad rfl rfl tv <| zaf tv <| zas rfl <| zac <| zaa <| zad rfl rfl tv <| zaf tv <| zav <| fin' [] (.inr rfl) (.cons (.tmp rfl (nb rfl)) .nil) (zaw [] rfl rfl ⟨⟨_, rfl, (subI ?_)⟩, tv⟩ tv (zax rfl rfl))
            all_goals (try rfl)
            all_goals
              (try simp only [zam, byteCells_length] at *)
              unfold zdc; (repeat first | rw [if_pos (by omega)] | rw [if_neg (by omega)])
           ·refine zbh rfl rfl rfl tv <| zad rfl rfl tv <| zaf tv <| zau rfl <| zbd <| zac <| zac <| zaa <| zab rfl rfl rfl rfl rfl rfl tv <| zak rfl rfl rfl rfl rfl rfl tv <| zcs rfl rfl rfl tv <| zae rfl rfl tv <| zaf tv <| zaz <| zbx (fun n_ E => ∃ (i : Nat) (last : Int), ((i ≤ c.early.length) ∧ (rising c.num c.early = rising last (c.early.drop i)) ∧ (i = 0 → last = c.num) ∧ (0 < i → c.early[i - 1]? = some last) ∧ (c.num ≤ last)) ∧ n_ = c.early.length - i ∧ E = ⟨[(1, .ptr 1 0), (85, .shr 1 (zay c.early)), (86, .lit (.int .i64 (zay c.early).length)), (87, .lit (.int .i64 i))], [(1, .box (zcn c))], 115⟩) (n0 := _) (E0 := _) (⟨0, c.num, by exact ⟨Nat.zero_le _, rfl, fun _ => rfl, fun h => absurd h (Nat.lt_irrefl _), Int.le_refl _⟩, rfl, rfl⟩) (ren [(1, 100)]) (zaw [(1, 100)] rfl rfl ⟨⟨_, rfl, (.ptr _ _ _ rfl (zag rfl))⟩, ⟨_, rfl, (.shr _ _)⟩, ⟨_, rfl, (.lit _)⟩, ⟨_, rfl, (.lit _)⟩, tv⟩ ⟨⟨_, _, rfl, rfl, (zbw rfl)⟩, tv⟩ (zax hpar rfl)) (fun n_ E hR => ?_)
            obtain ⟨i, last, hI, rfl, rfl⟩ := hR
            obtain ⟨hI0, hI1, hI2, hI3, hI4⟩ := hI
            refine zac <| zaa <| zcm rfl rfl rfl tv (fun h88 => ?_) (fun h88 => ?_)
            ·refine zaf tv <| zac <| zas rfl <| zbd <| zac <| zaz <| zac ?_
             rw [zam] at h88
             obtain ⟨n, hn⟩ : ∃ n, c.early[i]? = some n := ⟨_, List.getElem?_eq_getElem (by omega)⟩
             refine zaa <| zae rfl rfl tv <| zbz rfl rfl rfl rfl rfl rfl (zev hn) rfl tv <| zcr rfl rfl rfl rfl rfl tv <| zad rfl rfl tv <| zad rfl rfl tv <| zaf tv <| zac <| zaa <| zae rfl rfl tv <| zab rfl rfl rfl rfl rfl rfl tv <| zak rfl rfl rfl rfl rfl rfl tv <| s_leq rfl rfl rfl tv (fun h95 => ?_) (fun h95 => ?_)
             ·refine zae rfl rfl tv <| zal rfl rfl rfl rfl rfl <| zal rfl rfl rfl rfl rfl <| zbk rfl rfl rfl tv <| zae rfl rfl tv <| zal rfl rfl rfl rfl rfl <| zal rfl rfl rfl rfl rfl <| zal rfl rfl rfl rfl rfl <| zal rfl rfl rfl rfl rfl <| zal rfl rfl rfl rfl rfl <| zal rfl rfl rfl rfl rfl <| zal rfl rfl rfl rfl rfl <| zal rfl rfl rfl rfl rfl <| zal rfl rfl rfl rfl rfl <| zal rfl rfl rfl rfl rfl <| zal rfl rfl rfl rfl rfl <| zal rfl rfl rfl rfl rfl <| zbk rfl rfl rfl tv <| zaf tv <| zas rfl <| zac <| zaa <| zad rfl rfl tv <| zaf tv <| zav <| fin' [] (.inr rfl) (.cons (.tmp rfl (nb rfl)) .nil) (zaw [] rfl rfl ⟨⟨_, rfl, (subI ?_)⟩, tv⟩ tv (zax rfl rfl))
              all_goals (try rfl)
              all_goals
                (try simp only [zam, byteCells_length] at *)
                unfold zdc; (repeat first | rw [if_pos (by omega)] | rw [if_neg (by omega)])
                rw [hI1, rising_snoc hn, if_neg (by simp only [Bool.and_eq_true, decide_eq_true_eq]; rintro ⟨h1, h2, _⟩; omega)]
             ·refine zae rfl rfl tv <| zae rfl rfl (gk rfl) <| s_geq rfl rfl rfl (gk rfl) (fun h98 => ?_) (fun h98 => ?_)
              ·refine zbh rfl rfl rfl tv <| zae rfl rfl tv <| zal rfl rfl rfl rfl rfl <| zal rfl rfl rfl rfl rfl <| zal rfl rfl rfl rfl rfl <| zal rfl rfl rfl rfl rfl <| zal rfl rfl rfl rfl rfl <| zal rfl rfl rfl rfl rfl <| zal rfl rfl rfl rfl rfl <| zal rfl rfl rfl rfl rfl <| zal rfl rfl rfl rfl rfl <| zal rfl rfl rfl rfl rfl <| zal rfl rfl rfl rfl rfl <| zal rfl rfl rfl rfl rfl <| zbk rfl rfl rfl tv <| zaf tv <| zas rfl <| zac <| zaa <| zad rfl rfl tv <| zaf tv <| zav <| fin' [] (.inr rfl) (.cons (.tmp rfl (nb rfl)) .nil) (zaw [] rfl rfl ⟨⟨_, rfl, (subI ?_)⟩, tv⟩ tv (zax rfl rfl))
               all_goals (try rfl)
               all_goals
                 (try simp only [zam, byteCells_length] at *)
                 unfold zdc; (repeat first | rw [if_pos (by omega)] | rw [if_neg (by omega)])
                 rw [hI1, rising_snoc hn, if_neg (by simp only [Bool.and_eq_true, decide_eq_true_eq]; rintro ⟨h1, h2, _⟩; omega)]
              ·refine zbh rfl rfl rfl tv <| zae rfl rfl tv <| zae rfl rfl (gk rfl) <| s_gtr rfl rfl rfl (gk rfl) (fun h102 => ?_) (fun h102 => ?_)
               ·refine zae rfl rfl (gk rfl) <| zae rfl rfl (gk rfl) <| zab rfl rfl rfl rfl rfl rfl (gk rfl) <| zak rfl rfl rfl rfl rfl rfl (gk rfl) <| zae rfl rfl (gk rfl) <| u_sub rfl rfl rfl (by unfold inI; omega) rfl (gk rfl) <| zbz rfl rfl rfl rfl rfl (show (i : Int) - 1 = ((i - 1 : Nat) : Int) by omega) (zev (hI3 (by omega))) rfl (gk rfl) <| zcr rfl rfl rfl rfl rfl (gk rfl) <| s_leq rfl rfl rfl (gk rfl) (fun h111 => ?_) (fun h111 => ?_)
                ·refine zbk rfl rfl rfl (gk rfl) <| zbh rfl rfl rfl tv <| zaf tv <| zas rfl <| zac <| zaa <| zad rfl rfl tv <| zaf tv <| zav <| fin' [] (.inr rfl) (.cons (.tmp rfl (nb rfl)) .nil) (zaw [] rfl rfl ⟨⟨_, rfl, (subI ?_)⟩, tv⟩ tv (zax rfl rfl))
                 all_goals (try rfl)
                 all_goals
                   (try simp only [zam, byteCells_length] at *)
                   unfold zdc; (repeat first | rw [if_pos (by omega)] | rw [if_neg (by omega)])
                   rw [hI1, rising_snoc hn, if_neg (by simp only [Bool.and_eq_true, decide_eq_true_eq]; rintro ⟨h1, h2, _⟩; omega)]
                ·refine zbk rfl rfl rfl (gk rfl) <| zbh rfl rfl rfl tv <| zaf tv <| zau rfl <| zbd <| zaa <| zcg rfl rfl rfl (by unfold inI; omega) rfl tv <| zae rfl rfl tv <| zaf tv <| ⟨_, _, ren [(1, 1)], ?_, ⟨i + 1, n, ?_, rfl, rfl⟩, zaw [(1, 1)] rfl rfl ⟨⟨_, rfl, (.ptr _ _ _ rfl (zag rfl))⟩, ⟨_, rfl, (.shr _ _)⟩, ⟨_, rfl, (.lit _)⟩, ⟨_, rfl, (.lit _)⟩, tv⟩ ⟨⟨_, _, rfl, rfl, (zbw rfl)⟩, tv⟩ (zax hpar rfl)⟩
                 ·omega
                 ·(try simp only [zam, byteCells_length] at *)
                  refine ⟨by omega, ?_, fun h => by omega, fun _ => by simpa using hn, by omega⟩
                  rw [hI1, rising_snoc hn, decide_eq_true (by omega), decide_eq_true (by omega)]; rfl
               ·refine zae rfl rfl (gk rfl) <| zal rfl rfl rfl rfl rfl <| zal rfl rfl rfl rfl rfl <| zal rfl rfl rfl rfl rfl <| zal rfl rfl rfl rfl rfl <| zal rfl rfl rfl rfl rfl <| zal rfl rfl rfl rfl rfl <| zal rfl rfl rfl rfl rfl <| zal rfl rfl rfl rfl rfl <| zbh rfl rfl rfl (gk rfl) <| zbh rfl rfl rfl tv <| zaf tv <| zau rfl <| zbd <| zaa <| zcg rfl rfl rfl (by unfold inI; omega) rfl tv <| zae rfl rfl tv <| zaf tv <| ⟨_, _, ren [(1, 1)], ?_, ⟨i + 1, n, ?_, rfl, rfl⟩, zaw [(1, 1)] rfl rfl ⟨⟨_, rfl, (.ptr _ _ _ rfl (zag rfl))⟩, ⟨_, rfl, (.shr _ _)⟩, ⟨_, rfl, (.lit _)⟩, ⟨_, rfl, (.lit _)⟩, tv⟩ ⟨⟨_, _, rfl, rfl, (zbw rfl)⟩, tv⟩ (zax hpar rfl)⟩
                ·omega
                ·(try simp only [zam, byteCells_length] at *)
                 refine ⟨by omega, ?_, fun h => by omega, fun _ => by simpa using hn, by omega⟩
                 rw [hI1, rising_snoc hn, decide_eq_true (by omega), decide_eq_true (by omega)]; rfl
            ·refine zaf tv <| zac <| zau rfl <| zcc <| iteP rfl <| zac <| zaa <| zad rfl rfl tv <| zaf tv <| zav <| fin' [] (.inr rfl) (.cons (.tmp rfl (nb rfl)) .nil) (zaw [] rfl rfl ⟨⟨_, rfl, (subI ?_)⟩, tv⟩ tv (zax rfl rfl))
             all_goals (try rfl)
             all_goals
               (try simp only [zam, byteCells_length] at *)
               unfold zdc; (repeat first | rw [if_pos (by omega)] | rw [if_neg (by omega)])
               rw [hI1, List.drop_eq_nil_of_le (by omega)]; rfl
 ·refine zae rfl rfl tv <| zal rfl rfl rfl rfl rfl <| zal rfl rfl rfl rfl rfl <| zal rfl rfl rfl rfl rfl <| zbh rfl rfl rfl tv <| zad rfl rfl tv <| zaf tv <| zau rfl <| zac <| zaa <| zab rfl rfl rfl rfl rfl rfl tv <| zak rfl rfl rfl rfl rfl rfl tv <| zcm rfl rfl rfl tv (fun h17 => ?_) (fun h17 => ?_)
  ·refine zae rfl rfl tv <| zal rfl rfl rfl rfl rfl <| zal rfl rfl rfl rfl rfl <| zal rfl rfl rfl rfl rfl <| zbk rfl rfl rfl tv <| zad rfl rfl tv <| zaf tv <| zas rfl <| zac <| zaa <| zad rfl rfl tv <| zaf tv <| zav <| fin' [] (.inr rfl) (.cons (.tmp rfl (nb rfl)) .nil) (zaw [] rfl rfl ⟨⟨_, rfl, (subI ?_)⟩, tv⟩ tv (zax rfl rfl))
   all_goals (try rfl)
   all_goals
     (try simp only [zam, byteCells_length] at *)
     unfold zdc; (repeat first | rw [if_pos (by omega)] | rw [if_neg (by omega)])
  ·refine zae rfl rfl tv <| zab rfl rfl rfl rfl rfl rfl (gk rfl) <| zak rfl rfl rfl rfl rfl rfl (gk rfl) <| s_gtr rfl rfl rfl (gk rfl) (fun h21 => ?_) (fun h21 => ?_)
   ·refine zbh rfl rfl rfl tv <| zad rfl rfl tv <| zaf tv <| zas rfl <| zac <| zaa <| zad rfl rfl tv <| zaf tv <| zav <| fin' [] (.inr rfl) (.cons (.tmp rfl (nb rfl)) .nil) (zaw [] rfl rfl ⟨⟨_, rfl, (subI ?_)⟩, tv⟩ tv (zax rfl rfl))
    all_goals (try rfl)
    all_goals
      (try simp only [zam, byteCells_length] at *)
      unfold zdc; (repeat first | rw [if_pos (by omega)] | rw [if_neg (by omega)])
   ·refine zbh rfl rfl rfl tv <| zad rfl rfl tv <| zaf tv <| zau rfl <| zac <| zaa <| zab rfl rfl rfl rfl rfl rfl tv <| zak rfl rfl rfl rfl rfl rfl tv <| zew rfl rfl rfl tv (fun h26 => ?_) (fun h26 => ?_)
    ·refine zae rfl rfl tv <| zab rfl rfl rfl rfl rfl rfl (gk rfl) <| zak rfl rfl rfl rfl rfl rfl (gk rfl) <| zew rfl rfl rfl (gk rfl) (fun h30 => ?_) (fun h30 => ?_)
     ·refine zae rfl rfl (gk rfl) <| zal rfl rfl rfl rfl rfl <| zal rfl rfl rfl rfl rfl <| zal rfl rfl rfl rfl rfl <| zbk rfl rfl rfl (gk rfl) <| zae rfl rfl (gk rfl) <| zal rfl rfl rfl rfl rfl <| zal rfl rfl rfl rfl rfl <| zal rfl rfl rfl rfl rfl <| zal rfl rfl rfl rfl rfl <| zal rfl rfl rfl rfl rfl <| zbk rfl rfl rfl (gk rfl) <| zbk rfl rfl rfl tv <| zad rfl rfl tv <| zaf tv <| zas rfl <| zac <| zaa <| zad rfl rfl tv <| zaf tv <| zav <| fin' [] (.inr rfl) (.cons (.tmp rfl (nb rfl)) .nil) (zaw [] rfl rfl ⟨⟨_, rfl, (subI ?_)⟩, tv⟩ tv (zax rfl rfl))
      all_goals (try rfl)
      all_goals
        (try simp only [zam, byteCells_length] at *)
        unfold zdc; (repeat first | rw [if_pos (by omega)] | rw [if_neg (by omega)])
     ·refine zae rfl rfl (gk rfl) <| zab rfl rfl rfl rfl rfl rfl (gk rfl) <| zak rfl rfl rfl rfl rfl rfl (gk rfl) <| zcm rfl rfl rfl (gk rfl) (fun h34 => ?_) (fun h34 => ?_)
      ·refine zbh rfl rfl rfl (gk rfl) <| zae rfl rfl (gk rfl) <| zal rfl rfl rfl rfl rfl <| zal rfl rfl rfl rfl rfl <| zal rfl rfl rfl rfl rfl <| zal rfl rfl rfl rfl rfl <| zal rfl rfl rfl rfl rfl <| zbk rfl rfl rfl (gk rfl) <| zbk rfl rfl rfl tv <| zad rfl rfl tv <| zaf tv <| zas rfl <| zac <| zaa <| zad rfl rfl tv <| zaf tv <| zav <| fin' [] (.inr rfl) (.cons (.tmp rfl (nb rfl)) .nil) (zaw [] rfl rfl ⟨⟨_, rfl, (subI ?_)⟩, tv⟩ tv (zax rfl rfl))
       all_goals (try rfl)
       all_goals
         (try simp only [zam, byteCells_length] at *)
         unfold zdc; (repeat first | rw [if_pos (by omega)] | rw [if_neg (by omega)])
      ·refine zbh rfl rfl rfl (gk rfl) <| zae rfl rfl (gk rfl) <| zab rfl rfl rfl rfl rfl rfl (gk rfl) <| zak rfl rfl rfl rfl rfl rfl (gk rfl) <| zab rfl rfl rfl rfl rfl rfl (gk rfl) <| zak rfl rfl rfl rfl rfl rfl (gk rfl) <| s_gtr rfl rfl rfl (gk rfl) (fun h41 => ?_) (fun h41 => ?_)
       ·refine zbh rfl rfl rfl (gk rfl) <| zbk rfl rfl rfl tv <| zad rfl rfl tv <| zaf tv <| zas rfl <| zac <| zaa <| zad rfl rfl tv <| zaf tv <| zav <| fin' [] (.inr rfl) (.cons (.tmp rfl (nb rfl)) .nil) (zaw [] rfl rfl ⟨⟨_, rfl, (subI ?_)⟩, tv⟩ tv (zax rfl rfl))
        all_goals (try rfl)
        all_goals
          (try simp only [zam, byteCells_length] at *)
          unfold zdc; (repeat first | rw [if_pos (by omega)] | rw [if_neg (by omega)])
       ·refine zbh rfl rfl rfl (gk rfl) <| zbk rfl rfl rfl tv <| zad rfl rfl tv <| zaf tv <| zau rfl <| zac <| zaa <| zab rfl rfl rfl rfl rfl rfl tv <| zak rfl rfl rfl rfl rfl rfl tv <| zew rfl rfl rfl tv (fun h47 => ?_) (fun h47 => ?_)
        ·refine zae rfl rfl tv <| zab rfl rfl rfl rfl rfl rfl (gk rfl) <| zak rfl rfl rfl rfl rfl rfl (gk rfl) <| zcs rfl rfl rfl (gk rfl) <| s_gtr rfl rfl rfl (gk rfl) (fun h52 => ?_) (fun h52 => ?_)
         ·refine zbk rfl rfl rfl tv <| zad rfl rfl tv <| zaf tv <| zas rfl <| zac <| zaa <| zad rfl rfl tv <| zaf tv <| zav <| fin' [] (.inr rfl) (.cons (.tmp rfl (nb rfl)) .nil) (zaw [] rfl rfl ⟨⟨_, rfl, (subI ?_)⟩, tv⟩ tv (zax rfl rfl))
          all_goals (try rfl)
          all_goals
            (try simp only [zam, byteCells_length] at *)
            unfold zdc; (repeat first | rw [if_pos (by omega)] | rw [if_neg (by omega)])
         ·refine zbk rfl rfl rfl tv <| zad rfl rfl tv <| zaf tv <| zau rfl <| zac <| zaa <| zab rfl rfl rfl rfl rfl rfl tv <| zak rfl rfl rfl rfl rfl rfl tv <| zew rfl rfl rfl tv (fun h57 => ?_) (fun h57 => ?_)
          ·refine zad rfl rfl tv <| zaf tv <| zas rfl <| zac <| zaa <| zab rfl rfl rfl rfl rfl rfl tv <| zak rfl rfl rfl rfl rfl rfl tv <| zab rfl rfl rfl rfl rfl rfl tv <| zak rfl rfl rfl rfl rfl rfl tv <| zch rfl rfl rfl rfl rfl tv <| zbo rfl (c78 (_, _)) (.cons ((subP rfl)) .nil) rfl tv <| zad rfl rfl tv <| zaf tv <| zav <| fin' [] (.inr rfl) (.cons (.tmp rfl (nb rfl)) .nil) (zaw [] rfl rfl ⟨⟨_, rfl, (subI ?_)⟩, tv⟩ tv (zax rfl rfl))
           all_goals (try rfl)
           all_goals
             (try simp only [zam, byteCells_length] at *)
             unfold zdc; (repeat first | rw [if_pos (by omega)] | rw [if_neg (by omega)])
          ·omega
        ·omega
    ·omega
end Go.Proofs.Ytaadloihphpdbaa
