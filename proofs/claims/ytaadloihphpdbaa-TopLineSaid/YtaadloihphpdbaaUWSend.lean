/- Walks of the package send and of the document's answer to it. Printed by a small program (walk.py). -/
import Derived.Test.YtaadloihphpdbaaUWChunk
import Derived.Test.YtaadloihphpdbaaUVcC
set_option linter.unusedVariables false
set_option linter.unusedSimpArgs false
set_option maxRecDepth 4000
namespace Go.Proofs.Ytaadloihphpdbaa
open Go Go.Vc Go.RowKit
theorem put_wrong {s : Sender} {m : Msg} (h : zcp m ≠ 0) : put s m = (s, zcp m) := by unfold put; rw [if_pos h]
theorem put_full {s : Sender} {m : Msg} (h : zcp m = 0) (h2 : 5 < s.queue.length) : put s m = (s, 9) := by unfold put; rw [if_neg (by rw [h]; decide), if_pos h2]
theorem put_much {s : Sender} {m : Msg} (h : zcp m = 0) (h2 : ¬ 5 < s.queue.length) (h3 : 39 < s.next + s.queue.length) : put s m = (s, 4) := by unfold put; rw [if_neg (by rw [h]; decide), if_neg h2, if_pos h3]
theorem put_ok {s : Sender} {m : Msg} (h : zcp m = 0) (h2 : ¬ 5 < s.queue.length) (h3 : ¬ 39 < s.next + s.queue.length) : put s m = ({ s with queue := s.queue ++ [m] }, 0) := by unfold put; rw [if_neg (by rw [h]; decide), if_neg h2, if_neg h3]
theorem say_new {s : Sender} {m : Msg} {q : List Msg} (hq : s.queue = m :: q) (hf : s.flight.length < 4) : say s = sayNew s m q := by unfold say; rw [hq]; show (if _ then _ else _) = _; rw [if_pos hf]
theorem say_old1 {s : Sender} {m : Msg} {q : List Msg} (hq : s.queue = m :: q) (hf : ¬ s.flight.length < 4) : say s = sayOld s := by unfold say; rw [hq]; show (if _ then _ else _) = _; rw [if_neg hf]
theorem say_old2 {s : Sender} (hq : s.queue = []) (hf : s.flight ≠ []) : say s = sayOld s := by unfold say; rw [hq]; show (if _ then _ else _) = _; rw [if_neg hf]
theorem say_none {s : Sender} (hq : s.queue = []) (hf : s.flight = []) : say s = (s, zfj, false) := by unfold say; rw [hq]; show (if _ then _ else _) = _; rw [if_pos hf]
theorem sayOld_is {s : Sender} {k : Nat} (hk : s.turn % s.flight.length = k) (h : k < s.flight.length) : sayOld s = ({ s with turn := k + 1 }, s.flight[k], true) := by
  unfold sayOld; rw [hk, Int.toNat_natCast]; simp [List.getD, h]
theorem turn_in {t : Int} {n : Nat} (h0 : 0 ≤ t) (hn : 0 < n) : ∃ k : Nat, t % n = k ∧ k < n :=
  ⟨(t % n).toNat, by have := Int.emod_nonneg t (show (n : Int) ≠ 0 by omega); omega, by have := Int.emod_lt_of_pos t (show (0 : Int) < n by omega); have := Int.emod_nonneg t (show (n : Int) ≠ 0 by omega); omega⟩
theorem get3 {s : Int} (h : 0 ≤ s ∧ s ≤ 2) : s = 0 ∨ s = 1 ∨ s = 2 := by omega
theorem ne_nil {α : Type} {l : List α} (h : 0 < (l.length : Int)) : l ≠ [] := by intro e; rw [e] at h; simp at h
structure SOk (s : Sender) : Prop where
  q : s.queue.length ≤ 1000000
  f : s.flight.length ≤ 1000000
  e : ∀ c ∈ s.flight, c.early.length ≤ 17592186044000
  m : ∀ m ∈ s.queue, 0 ≤ m.1 ∧ m.1 ≤ 2
  t : 0 ≤ s.turn ∧ s.turn ≤ 1000000
  n : 0 ≤ s.next ∧ s.next ≤ 1000000
  p : (0 ≤ s.places.a ∧ s.places.a ≤ 1000000) ∧ (0 ≤ s.places.b ∧ s.places.b ≤ 1000000) ∧ (0 ≤ s.places.c ∧ s.places.c ≤ 1000000)
def keeps (c x : Chunk) : Bool := !told c x
theorem hear_no {s : Sender} {c : Chunk} (h : c.kind ≠ 2) : hear s c = s := by unfold hear; rw [if_pos h]
theorem hear_yes {s : Sender} {c : Chunk} (h : c.kind = 2) : hear s c = { s with flight := s.flight.filter (keeps c) } := by unfold hear; rw [if_neg (by omega)]; rfl
theorem c94 (s : Sender) (hq : s.queue.length ≤ 1000000) (hf : s.flight.length ≤ 1000000) (he : ∀ c ∈ s.flight, c.early.length ≤ 17592186044000) : VFun G 94 [.agg (zfn s)] [] (.agg [.row 901, .lit (.int .i64 s.next), .lit (.int .i64 s.places.a), .lit (.int .i64 s.places.b), .lit (.int .i64 s.places.c), .row 902, .lit (.int .i64 s.turn)]) [(901, .row 48 2 (zaq s.queue)), (902, .row 77 6 (zao s.flight))] := by
 refine VFun.intro (fn := Try.f94) rfl rfl (by kernel_rfl) (nb rfl) fun Γ hpar => ?_
 refine zac <| zaa <| zeb 100 rfl rfl rfl (zar hpar rfl) rfl rfl tv <| zbf 101 rfl rfl (zar hpar rfl) rfl rfl tv <| zaf tv <| zac <| zaa <| zan rfl rfl rfl rfl rfl rfl tv <| zbf 102 rfl rfl (zar hpar rfl) rfl rfl tv <| zah rfl rfl rfl rfl rfl rfl rfl rfl tv <| zaf tv <| zac <| zaa <| zab rfl rfl rfl rfl rfl rfl tv <| zbm rfl rfl rfl rfl rfl rfl rfl tv <| zab rfl rfl rfl rfl rfl rfl tv <| zbm rfl rfl rfl rfl rfl rfl rfl tv <| zaf tv <| zac <| zac <| zaa <| zab rfl rfl rfl rfl rfl rfl tv <| zak rfl rfl rfl rfl rfl rfl tv <| zcs rfl rfl rfl tv <| zae rfl rfl tv <| zaf tv <| zaz <| zbx (fun n_ E => ∃ (i : Nat), ((i ≤ s.queue.length)) ∧ n_ = s.queue.length - i ∧ E = ⟨[(1, .ptr 1 0), (2, .ptr 2 0), (3, .ptr 3 0), (12, .shr 2 (zaq s.queue)), (13, .lit (.int .i64 (zaq s.queue).length)), (14, .lit (.int .i64 i))], [(1, .box (zfn s)), (2, .box [.lit (.slice none 0 0), .lit (.int .i64 0), .lit (.int .i64 0), .lit (.int .i64 0), .lit (.int .i64 0), .lit (.slice none 0 0), .lit (.int .i64 0)]), (3, .box [.row 4, .lit (.int .i64 s.next), .lit (.int .i64 s.places.a), .lit (.int .i64 s.places.b), .lit (.int .i64 s.places.c), .lit (.slice none 0 0), .lit (.int .i64 s.turn)]), (4, .row 48 2 (zaq (s.queue.take i)))], 46⟩) (n0 := _) (E0 := _) (⟨0, by omega, rfl, rfl⟩) (ren [(1, 100), (2, 101), (3, 102)]) (zaw [(1, 100), (2, 101), (3, 102)] rfl rfl ⟨⟨_, rfl, (.ptr _ _ _ rfl (zag rfl))⟩, ⟨_, rfl, (.ptr _ _ _ rfl (zag rfl))⟩, ⟨_, rfl, (.ptr _ _ _ rfl (zag rfl))⟩, ⟨_, rfl, (.shr _ _)⟩, ⟨_, rfl, (.lit _)⟩, ⟨_, rfl, (.lit _)⟩, tv⟩ ⟨⟨_, _, rfl, rfl, (zbw rfl)⟩, ⟨_, _, rfl, rfl, (zbw rfl)⟩, ⟨_, _, rfl, rfl, (.cons (.nilrow _ _ _ _ rfl rfl) (.cons ((.lit _)) (.cons ((.lit _)) (.cons ((.lit _)) (.cons ((.lit _)) (.cons ((.lit _)) (.cons ((.lit _)) .nil)))))))⟩, (.inr (.inl ⟨rfl, rfl⟩)), tv⟩ (zax hpar rfl)) (fun n_ E hR => ?_)
 obtain ⟨i, hI, rfl, rfl⟩ := hR
 have hI0 := hI
 refine zac <| zaa <| zcm rfl rfl rfl tv (fun h15 => ?_) (fun h15 => ?_)
 ·refine zaf tv <| zac <| zas rfl <| zbd <| zac <| zaz <| zac ?_
  rw [zap] at h15
  refine zaa <| zbz rfl rfl rfl rfl rfl rfl (msgCells_get (by omega)) rfl tv <| zdi rfl rfl rfl rfl rfl tv <| zbf 123 rfl rfl (zar hpar rfl) rfl rfl tv <| zah rfl rfl rfl rfl rfl rfl rfl rfl tv <| zaf tv <| zcb <| zab rfl rfl rfl rfl rfl rfl tv <| zak rfl rfl rfl rfl rfl rfl tv <| zab rfl rfl rfl rfl rfl rfl tv <| zak rfl rfl rfl rfl rfl rfl tv <| zab rfl rfl rfl rfl rfl rfl tv <| zak rfl rfl rfl rfl rfl rfl tv <| zbo rfl (VFun.read (c136 0 _)) (.cons ((.shr _ _)) .nil) rfl tv <| zch rfl rfl rfl rfl rfl tv <| zba 124 rfl rfl rfl rfl rfl rfl rfl rfl rfl rfl (zar hpar rfl) rfl rfl tv <| zbt 125 rfl rfl rfl (zct rfl) rfl (zar hpar rfl) rfl rfl rfl rfl rfl (by simp [zby, zap]; omega) rfl tv <| zab rfl rfl rfl rfl rfl rfl tv <| zbm rfl rfl rfl rfl rfl rfl rfl tv <| zaf (by kernel_rfl) <| zaa <| zcg rfl rfl rfl (by unfold inI; omega) rfl tv <| zae rfl rfl tv <| zaf tv <| ⟨_, _, ren [(1, 1), (2, 2), (3, 3), (4, 125)], ?_, ⟨i + 1, ?_, rfl, rfl⟩, zaw [(1, 1), (2, 2), (3, 3), (4, 125)] rfl rfl ⟨⟨_, rfl, (.ptr _ _ _ rfl (zag rfl))⟩, ⟨_, rfl, (.ptr _ _ _ rfl (zag rfl))⟩, ⟨_, rfl, (.ptr _ _ _ rfl (zag rfl))⟩, ⟨_, rfl, (.shr _ _)⟩, ⟨_, rfl, (.lit _)⟩, ⟨_, rfl, (.lit _)⟩, tv⟩ ⟨⟨_, _, rfl, rfl, (zbw rfl)⟩, ⟨_, _, rfl, rfl, (zbw rfl)⟩, ⟨_, _, rfl, rfl, (.cons ((.row _ _ rfl (zag rfl))) (.cons ((.lit _)) (.cons ((.lit _)) (.cons ((.lit _)) (.cons ((.lit _)) (.cons ((.lit _)) (.cons ((.lit _)) .nil)))))))⟩, (.inl ⟨_, rfl, zbr rfl (by rw [← List.take_append_getElem (show i < s.queue.length by omega), zdb]; rfl)⟩), tv⟩ (zax hpar rfl)⟩
  ·omega
  ·omega
 ·refine zaf tv <| zac <| zau rfl <| zcc <| iteP rfl <| zac <| zac ?_
  rw [zap] at h15
  refine zaa <| zab rfl rfl rfl rfl rfl rfl tv <| zak rfl rfl rfl rfl rfl rfl tv <| zcs rfl rfl rfl tv <| zae rfl rfl tv <| zaf tv <| zaz <| zbx (fun n_ E => ∃ (i : Nat), ((i ≤ s.flight.length)) ∧ n_ = s.flight.length - i ∧ E = ⟨[(2, .ptr 2 0), (3, .ptr 3 0), (31, .shr 6 (zao s.flight)), (32, .lit (.int .i64 (zao s.flight).length)), (33, .lit (.int .i64 i))], [(2, .box [.lit (.slice none 0 0), .lit (.int .i64 0), .lit (.int .i64 0), .lit (.int .i64 0), .lit (.int .i64 0), .lit (.slice none 0 0), .lit (.int .i64 0)]), (3, .box [.row 4, .lit (.int .i64 s.next), .lit (.int .i64 s.places.a), .lit (.int .i64 s.places.b), .lit (.int .i64 s.places.c), .row 5, .lit (.int .i64 s.turn)]), (4, .row 48 2 (zaq s.queue)), (5, .row 77 6 (zao (s.flight.take i)))], 46⟩) (n0 := _) (E0 := _) (⟨0, by omega, rfl, rfl⟩) (ren [(2, 2), (3, 3), (4, 4)]) (zaw [(2, 2), (3, 3), (4, 4)] rfl rfl ⟨⟨_, rfl, (.ptr _ _ _ rfl (zag rfl))⟩, ⟨_, rfl, (.ptr _ _ _ rfl (zag rfl))⟩, ⟨_, rfl, (.shr _ _)⟩, ⟨_, rfl, (.lit _)⟩, ⟨_, rfl, (.lit _)⟩, tv⟩ ⟨⟨_, _, rfl, rfl, (zbw rfl)⟩, ⟨_, _, rfl, rfl, (.cons ((.row _ _ rfl (zag rfl))) (.cons ((.lit _)) (.cons ((.lit _)) (.cons ((.lit _)) (.cons ((.lit _)) (.cons (.nilrow _ _ _ _ rfl rfl) (.cons ((.lit _)) .nil)))))))⟩, (.inl ⟨_, rfl, zbr rfl (by rw [List.take_of_length_le (by omega)])⟩), (.inr (.inl ⟨rfl, rfl⟩)), tv⟩ (zax hpar rfl)) (fun n_ E hR => ?_)
  obtain ⟨i, hI, rfl, rfl⟩ := hR
  have hI0 := hI
  refine zac <| zaa <| zcm rfl rfl rfl tv (fun h34 => ?_) (fun h34 => ?_)
  ·refine zaf tv <| zac <| zas rfl <| zbd <| zac <| zaz <| zac ?_
   rw [zaj] at h34
   refine zaa <| zbz rfl rfl rfl rfl rfl rfl (zcx (by omega)) rfl tv <| zdi rfl rfl rfl rfl rfl tv <| zbf 143 rfl rfl (zar hpar rfl) rfl rfl tv <| zah rfl rfl rfl rfl rfl rfl rfl rfl tv <| zaf tv <| zcb <| zab rfl rfl rfl rfl rfl rfl tv <| zak rfl rfl rfl rfl rfl rfl tv <| zan rfl rfl rfl rfl rfl rfl tv <| zbo rfl (c80 (s.flight[i]'(by omega)) (he _ (List.getElem_mem _))) (.cons ((subP rfl)) .nil) rfl tv <| zba 144 rfl rfl rfl rfl rfl rfl rfl rfl rfl rfl (zar hpar rfl) rfl rfl tv <| zbt 145 rfl rfl rfl (zct rfl) rfl (zar hpar rfl) rfl rfl rfl rfl rfl (by simp [zby, zaj]; omega) rfl tv <| zab rfl rfl rfl rfl rfl rfl tv <| zbm rfl rfl rfl rfl rfl rfl rfl tv <| zaf (by kernel_rfl) <| zaa <| zcg rfl rfl rfl (by unfold inI; omega) rfl tv <| zae rfl rfl tv <| zaf tv <| ⟨_, _, ren [(2, 2), (3, 3), (4, 4), (5, 145)], ?_, ⟨i + 1, ?_, rfl, rfl⟩, zaw [(2, 2), (3, 3), (4, 4), (5, 145)] rfl rfl ⟨⟨_, rfl, (.ptr _ _ _ rfl (zag rfl))⟩, ⟨_, rfl, (.ptr _ _ _ rfl (zag rfl))⟩, ⟨_, rfl, (.shr _ _)⟩, ⟨_, rfl, (.lit _)⟩, ⟨_, rfl, (.lit _)⟩, tv⟩ ⟨⟨_, _, rfl, rfl, (zbw rfl)⟩, ⟨_, _, rfl, rfl, (.cons ((.row _ _ rfl (zag rfl))) (.cons ((.lit _)) (.cons ((.lit _)) (.cons ((.lit _)) (.cons ((.lit _)) (.cons ((.row _ _ rfl (zag rfl))) (.cons ((.lit _)) .nil)))))))⟩, (.inl ⟨_, rfl, rfl⟩), (.inl ⟨_, rfl, zbr rfl (by rw [← List.take_append_getElem (show i < s.flight.length by omega), zcd]; rfl)⟩), tv⟩ (zax hpar rfl)⟩
   ·omega
   ·omega
  ·refine zaf tv <| zac <| zau rfl <| zcc <| iteP rfl <| zac ?_
   rw [zaj] at h34
   refine zaa <| zan rfl rfl rfl rfl rfl rfl tv <| zah rfl rfl rfl rfl rfl rfl rfl rfl tv <| zaf tv <| zav <| fin' [(901, 4), (902, 5)] (.inr rfl) (.cons (.cellN rfl rfl rfl rfl rfl) .nil) (zaw [(901, 4), (902, 5)] rfl rfl ⟨⟨_, rfl, (.agg _ _ (.cons (.row _ _ rfl (zag rfl)) (.cons (subI ?_) (.cons (subI ?_) (.cons (subI ?_) (.cons (subI ?_) (.cons (.row _ _ rfl (zag rfl)) (.cons (subI ?_) .nil))))))))⟩, tv⟩ ⟨(.inl ⟨_, rfl, zbr rfl ?_⟩), (.inl ⟨_, rfl, zbr rfl ?_⟩), tv⟩ (zax rfl rfl))
   all_goals (try rfl)
   all_goals
     rw [List.take_of_length_le (by omega)]
theorem c91 (s : Sender) (m : Msg) (hs : SOk s) : VFun G 91 [.agg (zfn s), .agg (msgAV m)] [] (.tup [.agg (zfn (put s m).1), .lit (.int .i64 (put s m).2)]) [] := by
 have hq := hs.q
 have hn := hs.n
 refine VFun.intro (fn := Try.f91) rfl rfl (by kernel_rfl) (nb rfl) fun Γ hpar => ?_
 refine zac <| zaa <| zeb 100 rfl rfl rfl (zar hpar rfl) rfl rfl tv <| zeb 101 rfl rfl rfl (zar hpar rfl) rfl rfl tv <| zbf 102 rfl rfl (zar hpar rfl) rfl rfl tv <| zad rfl rfl tv <| zaf tv <| zac <| zaa <| zan rfl rfl rfl rfl rfl rfl tv <| zbq [] [] [] rfl rfl (c94 s hs.q hs.f hs.e) zbs tv (.cons ((subP rfl)) .nil) rfl rfl (zce hpar rfl) rfl tv <| zbf 103 rfl rfl (zar hpar rfl) rfl rfl tv <| zah rfl rfl rfl rfl rfl rfl rfl rfl tv <| zaf tv <| zac <| zac <| zaa <| zan rfl rfl rfl rfl rfl rfl tv <| zbo rfl (c78 m) (.cons ((subP rfl)) .nil) rfl tv <| zad rfl rfl tv <| zaf tv <| zac <| zaa <| zae rfl rfl tv <| zfe rfl rfl rfl tv (fun h13 => ?_) (fun h13 => ?_)
 ·refine zaf tv <| zas rfl <| zac <| zaa <| zan rfl rfl rfl rfl rfl rfl tv <| zae rfl rfl tv <| zah rfl rfl rfl rfl rfl rfl rfl rfl tv <| zad rfl rfl tv <| zaf tv <| zav ?_
  rw [put_wrong h13]
  refine fin' [] (.inr rfl) (.cons (.cellN rfl rfl rfl rfl rfl) (.cons (.tmp rfl (nb rfl)) .nil)) (zaw [] rfl rfl ⟨⟨_, rfl, (.tup _ _ (.cons (.agg _ _ (.cons (zbn rfl (fzL rfl) ?_) (.cons (subI ?_) (.cons (subI ?_) (.cons (subI ?_) (.cons (subI ?_) (.cons (zbn rfl (fzL rfl) ?_) (.cons (subI ?_) .nil)))))))) (.cons (subI ?_) .nil)))⟩, tv⟩ tv (zax rfl rfl))
  all_goals (try rfl)
  all_goals
    rw [zdb]; rfl
 ·refine zaf tv <| zau rfl <| zbd <| zac <| zaz <| zac <| zaa <| zab rfl rfl rfl rfl rfl rfl tv <| zak rfl rfl rfl rfl rfl rfl tv <| zcs rfl rfl rfl tv <| s_geq rfl rfl rfl tv (fun h20 => ?_) (fun h20 => ?_)
  ·refine zad rfl rfl tv <| zaf tv <| zas rfl <| zac <| zaa <| zan rfl rfl rfl rfl rfl rfl tv <| zah rfl rfl rfl rfl rfl rfl rfl rfl tv <| zad rfl rfl tv <| zaf tv <| zav ?_
   rw [put_full h13 (by (try simp only [zap, zaj, zam, byteCells_length] at *); omega)]
   refine fin' [] (.inr rfl) (.cons (.cellN rfl rfl rfl rfl rfl) (.cons (.tmp rfl (nb rfl)) .nil)) (zaw [] rfl rfl ⟨⟨_, rfl, (.tup _ _ (.cons (.agg _ _ (.cons (zbn rfl (fzL rfl) ?_) (.cons (subI ?_) (.cons (subI ?_) (.cons (subI ?_) (.cons (subI ?_) (.cons (zbn rfl (fzL rfl) ?_) (.cons (subI ?_) .nil)))))))) (.cons (subI ?_) .nil)))⟩, tv⟩ tv (zax rfl rfl))
   all_goals (try rfl)
   all_goals
     rw [zdb]; rfl
  ·refine zad rfl rfl tv <| zaf tv <| zau rfl <| zac <| zaa <| zab rfl rfl rfl rfl rfl rfl tv <| zak rfl rfl rfl rfl rfl rfl tv <| zab rfl rfl rfl rfl rfl rfl tv <| zak rfl rfl rfl rfl rfl rfl tv <| zcs rfl rfl rfl tv <| zcg rfl rfl rfl (by (try simp only [zap, zaj, zam, byteCells_length] at *); unfold inI; omega) rfl tv <| s_geq rfl rfl rfl tv (fun h29 => ?_) (fun h29 => ?_)
   ·refine zad rfl rfl tv <| zaf tv <| zas rfl <| zac <| zaa <| zan rfl rfl rfl rfl rfl rfl tv <| zah rfl rfl rfl rfl rfl rfl rfl rfl tv <| zad rfl rfl tv <| zaf tv <| zav ?_
    rw [put_much h13 (by (try simp only [zap, zaj, zam, byteCells_length] at *); omega) (by (try simp only [zap, zaj, zam, byteCells_length] at *); omega)]
    refine fin' [] (.inr rfl) (.cons (.cellN rfl rfl rfl rfl rfl) (.cons (.tmp rfl (nb rfl)) .nil)) (zaw [] rfl rfl ⟨⟨_, rfl, (.tup _ _ (.cons (.agg _ _ (.cons (zbn rfl (fzL rfl) ?_) (.cons (subI ?_) (.cons (subI ?_) (.cons (subI ?_) (.cons (subI ?_) (.cons (zbn rfl (fzL rfl) ?_) (.cons (subI ?_) .nil)))))))) (.cons (subI ?_) .nil)))⟩, tv⟩ tv (zax rfl rfl))
    all_goals (try rfl)
    all_goals
      rw [zdb]; rfl
   ·refine zad rfl rfl tv <| zaf tv <| zau rfl <| zbd <| zac <| zcb <| zab rfl rfl rfl rfl rfl rfl tv <| zak rfl rfl rfl rfl rfl rfl tv <| zab rfl rfl rfl rfl rfl rfl tv <| zak rfl rfl rfl rfl rfl rfl tv <| zab rfl rfl rfl rfl rfl rfl tv <| zak rfl rfl rfl rfl rfl rfl tv <| zbo rfl (VFun.read (c136 0 _)) (.cons ((.shr _ _)) .nil) rfl tv <| zch rfl rfl rfl rfl rfl tv <| zba 104 rfl rfl rfl rfl rfl rfl rfl rfl rfl rfl (zar hpar rfl) rfl rfl tv <| zbt 105 rfl rfl rfl (zct rfl) rfl (zar hpar rfl) rfl rfl rfl rfl rfl (by simp [zby, zap]; omega) rfl tv <| zab rfl rfl rfl rfl rfl rfl tv <| zbm rfl rfl rfl rfl rfl rfl rfl tv <| zaf (by kernel_rfl) <| zac <| zaa <| zan rfl rfl rfl rfl rfl rfl tv <| zah rfl rfl rfl rfl rfl rfl rfl rfl tv <| zad rfl rfl tv <| zaf tv <| zav ?_
    rw [put_ok h13 (by (try simp only [zap, zaj, zam, byteCells_length] at *); omega) (by (try simp only [zap, zaj, zam, byteCells_length] at *); omega)]
    refine fin' [] (.inr rfl) (.cons (.cellN rfl rfl rfl rfl rfl) (.cons (.tmp rfl (nb rfl)) .nil)) (zaw [] rfl rfl ⟨⟨_, rfl, (.tup _ _ (.cons (.agg _ _ (.cons (zbn rfl (fzL rfl) ?_) (.cons (subI ?_) (.cons (subI ?_) (.cons (subI ?_) (.cons (subI ?_) (.cons (zbn rfl (fzL rfl) ?_) (.cons (subI ?_) .nil)))))))) (.cons (subI ?_) .nil)))⟩, tv⟩ tv (zax rfl rfl))
    all_goals (try rfl)
    all_goals
      rw [zdb]; rfl
end Go.Proofs.Ytaadloihphpdbaa
