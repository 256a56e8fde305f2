/- Walks. Printed by a small program (walk.py). -/
import Derived.Test.YtaadloihphpdbaaZWLane4H
set_option linter.unusedVariables false
set_option linter.unusedSimpArgs false
set_option maxRecDepth 4000
namespace Go.Proofs.Ytaadloihphpdbaa
open Go Go.Vc Go.RowKit
theorem c152u (P : zcw) (n : Nat) (q : List UInt8) (hq : P[n]? = some q) (hP : P.length ≤ 1000000) : VFun G 152 [.shr 1 (zbc P)] [] (.row 931) [(930, .row 5 1 (Vc.byteCells q)), (931, .rowv 46 1 ((zbc P).set n [.row 930]))] := by
 have hnl := (List.getElem?_eq_some_iff.1 hq).1
 refine VFun.intro (fn := Try.f152) rfl rfl (by kernel_rfl) (nb rfl) fun Γ hpar => ?_
 refine zad <| zaa <| zae rfl rfl tv <| zaf tv <| zad <| zaa <| zae rfl rfl tv <| zaf tv <| zad <| zad <| zaa <| zac rfl rfl tv <| zby rfl rfl rfl tv <| zac rfl rfl tv <| zaf tv <| zbb <| zbt (fun n_ E => (∃ (i : Nat), ((i ≤ P.length) ∧ (i ≤ n)) ∧ n_ = P.length - i ∧ E = ⟨[(3, .row 3), (6, .shr 1 (zbc P)), (7, .lit (.int .i64 (zbc P).length)), (8, .lit (.int .i64 i))], [(3, .row 46 1 (zbc (P.take i)))], 19⟩) ∨ (∃ (i : Nat) (hdr : Value), ((i ≤ P.length) ∧ (n < i)) ∧ n_ = P.length - i ∧ E = ⟨[(3, .row 3), (6, .shr 1 (zbc P)), (7, .lit (.int .i64 (zbc P).length)), (8, .lit (.int .i64 i))], [(3, .row 46 1 ((zbc (P.take i)).set n [.lit hdr])), (930, .rowh hdr 5 1 (Vc.byteCells q))], 19⟩)) (n0 := _) (E0 := _) (.inl ⟨0, by omega, rfl, rfl⟩) (ren []) (zay [] rfl rfl ⟨⟨_, rfl, .nilrow _ _ _ _ rfl rfl⟩, ⟨_, rfl, (.shr _ _)⟩, ⟨_, rfl, (.lit _)⟩, ⟨_, rfl, (.lit _)⟩, tv⟩ ⟨(.inr (.inl ⟨rfl, rfl⟩)), tv⟩ (zaz hpar rfl)) (fun n_ E hR => ?_)
 rcases hR with hR | hR
 ·obtain ⟨i, hI, rfl, rfl⟩ := hR
  obtain ⟨hI0, hI1⟩ := hI
  refine zad <| zaa <| zcg rfl rfl rfl tv (fun h9 => ?_) (fun h9 => ?_)
  ·refine zaf tv <| zad <| zao rfl <| zax <| zad <| zbb <| zad ?_
   rw [zan] at h9
   obtain ⟨p, hp⟩ : ∃ p, P[i]? = some p := ⟨_, List.getElem?_eq_getElem (by omega)⟩
   refine zaa <| zbh rfl rfl rfl rfl rfl rfl (zdc hp) rfl tv <| zbv rfl rfl rfl rfl rfl tv <| zae rfl rfl tv <| zaf tv ?_
   by_cases hin : n = i
   ·subst hin
    obtain rfl : q = p := by rw [hq] at hp; exact Option.some.inj hp
    refine vw_regionMid 3 <| zac rfl rfl tv <| zac rfl rfl tv <| u_callN [] rfl (c136 120 q) (.cons ((.shr _ _)) .nil) (fun k o h => by simp [Go.Vc.look] at h) (.inl rfl) rfl (zar hpar rfl) rfl tv <| zaf tv <| vx_hdr (t := 14) (k := 120) rfl rfl fun hdr => VX.of (log := []) <| zba 121 rfl rfl rfl rfl rfl rfl rfl rfl rfl rfl (zar hpar rfl) rfl rfl tv <| zbn 122 rfl rfl rfl (zdb rfl) rfl (zar hpar rfl) rfl rfl rfl rfl rfl (by simp [zbx, zan]; omega) rfl tv <| zae rfl rfl tv <| zaf tv <| zaa <| zbz rfl rfl rfl (by unfold inI; omega) rfl tv <| zac rfl rfl tv <| zaf tv <| ⟨_, _, ren [(3, 122), (930, 120)], ?_, .inr ⟨n + 1, hdr, ?_, rfl, rfl⟩, zay [(3, 122), (930, 120)] rfl rfl ⟨⟨_, rfl, (.row _ _ rfl (zak rfl))⟩, ⟨_, rfl, (.shr _ _)⟩, ⟨_, rfl, (.lit _)⟩, ⟨_, rfl, (.lit _)⟩, tv⟩ ⟨(.inl ⟨_, rfl, zcq rfl (by exact hdr_at hq _)⟩), ⟨_, rfl, rfl⟩, tv⟩ (zaz hpar rfl)⟩
    ·omega
    ·omega
   ·refine zaa <| zac rfl rfl tv <| zac rfl rfl tv <| zbi rfl (VFun.read (c136 0 _)) (.cons ((.shr _ _)) .nil) rfl tv <| zba 120 rfl rfl rfl rfl rfl rfl rfl rfl rfl rfl (zar hpar rfl) rfl rfl tv <| zbn 121 rfl rfl rfl (zdb rfl) rfl (zar hpar rfl) rfl rfl rfl rfl rfl (by simp [zbx, zan]; omega) rfl tv <| zae rfl rfl tv <| zaf tv <| zaa <| zbz rfl rfl rfl (by unfold inI; omega) rfl tv <| zac rfl rfl tv <| zaf tv <| ⟨_, _, ren [(3, 121)], ?_, .inl ⟨i + 1, ?_, rfl, rfl⟩, zay [(3, 121)] rfl rfl ⟨⟨_, rfl, (.row _ _ rfl (zak rfl))⟩, ⟨_, rfl, (.shr _ _)⟩, ⟨_, rfl, (.lit _)⟩, ⟨_, rfl, (.lit _)⟩, tv⟩ ⟨(.inl ⟨_, rfl, zcq rfl (by rw [List.take_add_one, hp, zez]; rfl)⟩), tv⟩ (zaz hpar rfl)⟩
    ·omega
    ·omega
  ·exfalso; rw [zan] at h9; omega
 ·obtain ⟨i, hdr, hI, rfl, rfl⟩ := hR
  obtain ⟨hI0, hI1⟩ := hI
  refine zad <| zaa <| zcg rfl rfl rfl tv (fun h9 => ?_) (fun h9 => ?_)
  ·refine zaf tv <| zad <| zao rfl <| zax <| zad <| zbb <| zad ?_
   rw [zan] at h9
   obtain ⟨p, hp⟩ : ∃ p, P[i]? = some p := ⟨_, List.getElem?_eq_getElem (by omega)⟩
   refine zaa <| zbh rfl rfl rfl rfl rfl rfl (zdc hp) rfl tv <| zbv rfl rfl rfl rfl rfl tv <| zae rfl rfl tv <| zaf tv <| zaa <| zac rfl rfl tv <| zac rfl rfl tv <| zbi rfl (VFun.read (c136 0 _)) (.cons ((.shr _ _)) .nil) rfl tv <| zba 120 rfl rfl rfl rfl rfl rfl rfl rfl rfl rfl (zar hpar rfl) rfl rfl tv <| zbn 121 rfl rfl rfl (zdb rfl) rfl (zar hpar rfl) rfl rfl rfl rfl rfl (by simp [zbx, zan]; omega) rfl tv <| zae rfl rfl tv <| zaf tv <| zaa <| zbz rfl rfl rfl (by unfold inI; omega) rfl tv <| zac rfl rfl tv <| zaf tv <| ⟨_, _, ren [(3, 121), (930, 930)], ?_, .inr ⟨i + 1, hdr, ?_, rfl, rfl⟩, zay [(3, 121), (930, 930)] rfl rfl ⟨⟨_, rfl, (.row _ _ rfl (zak rfl))⟩, ⟨_, rfl, (.shr _ _)⟩, ⟨_, rfl, (.lit _)⟩, ⟨_, rfl, (.lit _)⟩, tv⟩ ⟨(.inl ⟨_, rfl, zcq rfl (by exact hdr_next hp (by omega) _)⟩), ⟨_, rfl, rfl⟩, tv⟩ (zaz hpar rfl)⟩
   ·omega
   ·omega
  ·refine zaf tv <| zad <| zap rfl <| zbw <| iteP rfl <| zad ?_
   rw [zan] at h9
   rw [List.take_of_length_le (show P.length ≤ i by omega)]
   refine zaa <| zac rfl rfl tv <| zae rfl rfl tv <| zaf tv <| vw_unhdr (k1 := 3) (k2 := 930) (n := n) rfl rfl (by decide) (List.getElem?_set_self (by rw [zan]; exact hnl)) ?_
   refine zaw <| fin' [(930, 930), (931, 3)] (.inr rfl) (.cons (.tmp rfl (nb rfl)) .nil) (zay [(930, 930), (931, 3)] rfl rfl ⟨⟨_, rfl, (.row _ _ rfl (zak rfl))⟩, tv⟩ ⟨(.inl ⟨_, rfl, zcq rfl ?_⟩), ⟨_, _, rfl, .inl rfl, (by rw [List.set_set]; refine zfi ?_ P n; exact .row _ _ rfl (zak rfl))⟩, tv⟩ (zaz rfl rfl))
   all_goals (try rfl)
theorem c152v (P : zcw) (n : Nat) (q : List UInt8) (hq : P[n]? = some q) (hP : P.length ≤ 1000000) : VFun G 152 [.shr 1 (zbc P)] [] (.row 932) [(930, .row 5 1 (Vc.byteCells q)), (932, .rowv 46 1 ((zbc P).set n [.row 930]))] := by
 have hnl := (List.getElem?_eq_some_iff.1 hq).1
 refine VFun.intro (fn := Try.f152) rfl rfl (by kernel_rfl) (nb rfl) fun Γ hpar => ?_
 refine zad <| zaa <| zae rfl rfl tv <| zaf tv <| zad <| zaa <| zae rfl rfl tv <| zaf tv <| zad <| zad <| zaa <| zac rfl rfl tv <| zby rfl rfl rfl tv <| zac rfl rfl tv <| zaf tv <| zbb <| zbt (fun n_ E => (∃ (i : Nat), ((i ≤ P.length) ∧ (i ≤ n)) ∧ n_ = P.length - i ∧ E = ⟨[(3, .row 3), (6, .shr 1 (zbc P)), (7, .lit (.int .i64 (zbc P).length)), (8, .lit (.int .i64 i))], [(3, .row 46 1 (zbc (P.take i)))], 19⟩) ∨ (∃ (i : Nat) (hdr : Value), ((i ≤ P.length) ∧ (n < i)) ∧ n_ = P.length - i ∧ E = ⟨[(3, .row 3), (6, .shr 1 (zbc P)), (7, .lit (.int .i64 (zbc P).length)), (8, .lit (.int .i64 i))], [(3, .row 46 1 ((zbc (P.take i)).set n [.lit hdr])), (930, .rowh hdr 5 1 (Vc.byteCells q))], 19⟩)) (n0 := _) (E0 := _) (.inl ⟨0, by omega, rfl, rfl⟩) (ren []) (zay [] rfl rfl ⟨⟨_, rfl, .nilrow _ _ _ _ rfl rfl⟩, ⟨_, rfl, (.shr _ _)⟩, ⟨_, rfl, (.lit _)⟩, ⟨_, rfl, (.lit _)⟩, tv⟩ ⟨(.inr (.inl ⟨rfl, rfl⟩)), tv⟩ (zaz hpar rfl)) (fun n_ E hR => ?_)
 rcases hR with hR | hR
 ·obtain ⟨i, hI, rfl, rfl⟩ := hR
  obtain ⟨hI0, hI1⟩ := hI
  refine zad <| zaa <| zcg rfl rfl rfl tv (fun h9 => ?_) (fun h9 => ?_)
  ·refine zaf tv <| zad <| zao rfl <| zax <| zad <| zbb <| zad ?_
   rw [zan] at h9
   obtain ⟨p, hp⟩ : ∃ p, P[i]? = some p := ⟨_, List.getElem?_eq_getElem (by omega)⟩
   refine zaa <| zbh rfl rfl rfl rfl rfl rfl (zdc hp) rfl tv <| zbv rfl rfl rfl rfl rfl tv <| zae rfl rfl tv <| zaf tv ?_
   by_cases hin : n = i
   ·subst hin
    obtain rfl : q = p := by rw [hq] at hp; exact Option.some.inj hp
    refine vw_regionMid 3 <| zac rfl rfl tv <| zac rfl rfl tv <| u_callN [] rfl (c136 120 q) (.cons ((.shr _ _)) .nil) (fun k o h => by simp [Go.Vc.look] at h) (.inl rfl) rfl (zar hpar rfl) rfl tv <| zaf tv <| vx_hdr (t := 14) (k := 120) rfl rfl fun hdr => VX.of (log := []) <| zba 121 rfl rfl rfl rfl rfl rfl rfl rfl rfl rfl (zar hpar rfl) rfl rfl tv <| zbn 122 rfl rfl rfl (zdb rfl) rfl (zar hpar rfl) rfl rfl rfl rfl rfl (by simp [zbx, zan]; omega) rfl tv <| zae rfl rfl tv <| zaf tv <| zaa <| zbz rfl rfl rfl (by unfold inI; omega) rfl tv <| zac rfl rfl tv <| zaf tv <| ⟨_, _, ren [(3, 122), (930, 120)], ?_, .inr ⟨n + 1, hdr, ?_, rfl, rfl⟩, zay [(3, 122), (930, 120)] rfl rfl ⟨⟨_, rfl, (.row _ _ rfl (zak rfl))⟩, ⟨_, rfl, (.shr _ _)⟩, ⟨_, rfl, (.lit _)⟩, ⟨_, rfl, (.lit _)⟩, tv⟩ ⟨(.inl ⟨_, rfl, zcq rfl (by exact hdr_at hq _)⟩), ⟨_, rfl, rfl⟩, tv⟩ (zaz hpar rfl)⟩
    ·omega
    ·omega
   ·refine zaa <| zac rfl rfl tv <| zac rfl rfl tv <| zbi rfl (VFun.read (c136 0 _)) (.cons ((.shr _ _)) .nil) rfl tv <| zba 120 rfl rfl rfl rfl rfl rfl rfl rfl rfl rfl (zar hpar rfl) rfl rfl tv <| zbn 121 rfl rfl rfl (zdb rfl) rfl (zar hpar rfl) rfl rfl rfl rfl rfl (by simp [zbx, zan]; omega) rfl tv <| zae rfl rfl tv <| zaf tv <| zaa <| zbz rfl rfl rfl (by unfold inI; omega) rfl tv <| zac rfl rfl tv <| zaf tv <| ⟨_, _, ren [(3, 121)], ?_, .inl ⟨i + 1, ?_, rfl, rfl⟩, zay [(3, 121)] rfl rfl ⟨⟨_, rfl, (.row _ _ rfl (zak rfl))⟩, ⟨_, rfl, (.shr _ _)⟩, ⟨_, rfl, (.lit _)⟩, ⟨_, rfl, (.lit _)⟩, tv⟩ ⟨(.inl ⟨_, rfl, zcq rfl (by rw [List.take_add_one, hp, zez]; rfl)⟩), tv⟩ (zaz hpar rfl)⟩
    ·omega
    ·omega
  ·exfalso; rw [zan] at h9; omega
 ·obtain ⟨i, hdr, hI, rfl, rfl⟩ := hR
  obtain ⟨hI0, hI1⟩ := hI
  refine zad <| zaa <| zcg rfl rfl rfl tv (fun h9 => ?_) (fun h9 => ?_)
  ·refine zaf tv <| zad <| zao rfl <| zax <| zad <| zbb <| zad ?_
   rw [zan] at h9
   obtain ⟨p, hp⟩ : ∃ p, P[i]? = some p := ⟨_, List.getElem?_eq_getElem (by omega)⟩
   refine zaa <| zbh rfl rfl rfl rfl rfl rfl (zdc hp) rfl tv <| zbv rfl rfl rfl rfl rfl tv <| zae rfl rfl tv <| zaf tv <| zaa <| zac rfl rfl tv <| zac rfl rfl tv <| zbi rfl (VFun.read (c136 0 _)) (.cons ((.shr _ _)) .nil) rfl tv <| zba 120 rfl rfl rfl rfl rfl rfl rfl rfl rfl rfl (zar hpar rfl) rfl rfl tv <| zbn 121 rfl rfl rfl (zdb rfl) rfl (zar hpar rfl) rfl rfl rfl rfl rfl (by simp [zbx, zan]; omega) rfl tv <| zae rfl rfl tv <| zaf tv <| zaa <| zbz rfl rfl rfl (by unfold inI; omega) rfl tv <| zac rfl rfl tv <| zaf tv <| ⟨_, _, ren [(3, 121), (930, 930)], ?_, .inr ⟨i + 1, hdr, ?_, rfl, rfl⟩, zay [(3, 121), (930, 930)] rfl rfl ⟨⟨_, rfl, (.row _ _ rfl (zak rfl))⟩, ⟨_, rfl, (.shr _ _)⟩, ⟨_, rfl, (.lit _)⟩, ⟨_, rfl, (.lit _)⟩, tv⟩ ⟨(.inl ⟨_, rfl, zcq rfl (by exact hdr_next hp (by omega) _)⟩), ⟨_, rfl, rfl⟩, tv⟩ (zaz hpar rfl)⟩
   ·omega
   ·omega
  ·refine zaf tv <| zad <| zap rfl <| zbw <| iteP rfl <| zad ?_
   rw [zan] at h9
   rw [List.take_of_length_le (show P.length ≤ i by omega)]
   refine zaa <| zac rfl rfl tv <| zae rfl rfl tv <| zaf tv <| vw_unhdr (k1 := 3) (k2 := 930) (n := n) rfl rfl (by decide) (List.getElem?_set_self (by rw [zan]; exact hnl)) ?_
   refine zaw <| fin' [(930, 930), (932, 3)] (.inr rfl) (.cons (.tmp rfl (nb rfl)) .nil) (zay [(930, 930), (932, 3)] rfl rfl ⟨⟨_, rfl, (.row _ _ rfl (zak rfl))⟩, tv⟩ ⟨(.inl ⟨_, rfl, zcq rfl ?_⟩), ⟨_, _, rfl, .inl rfl, (by rw [List.set_set]; refine zfi ?_ P n; exact .row _ _ rfl (zak rfl))⟩, tv⟩ (zaz rfl rfl))
   all_goals (try rfl)
theorem c115u (l : Lane) (hl : BInv l) (n : Nat) (q : List UInt8) (hq : l.there[n]? = some q) : VFun G 115 [.agg (zdu l)] [] (.agg [.shr 2 (zbe l.s.queue), .lit (.int .i64 l.s.next), .lit (.int .i64 l.s.places.a), .lit (.int .i64 l.s.places.b), .lit (.int .i64 l.s.places.c), .shr 6 (zau l.s.flight), .lit (.int .i64 l.s.turn), .lit (.int .i64 l.r.next), .shr 1 (intCells l.r.early), .lit (.int .i64 l.r.places.a), .lit (.int .i64 l.r.places.b), .lit (.int .i64 l.r.places.c), .shr 6 (zau l.r.hold), .shr 2 (zbe l.r.told), .lit (.bool l.r.owes), .row 931, .row 932]) [(930, .row 5 1 (Vc.byteCells q)), (931, .rowv 46 1 ((zbc l.there).set n [.row 930])), (932, .row 46 1 (zbc l.back))] := by
 have hth := hl.there.1; have hba := hl.back.1
 refine VFun.intro (fn := Try.f115) rfl rfl (by kernel_rfl) (nb rfl) fun Γ hpar => ?_
 refine zad <| zaa <| zdh 100 rfl rfl rfl (zar hpar rfl) rfl rfl tv <| zbd 101 rfl rfl (zar hpar rfl) rfl rfl tv <| zaf tv <| zad <| zbo <| zab rfl rfl rfl rfl rfl rfl tv <| zds rfl rfl rfl rfl rfl rfl rfl tv <| zbi rfl (c94r l.s hl.s) (.cons ((subP rfl)) .nil) rfl tv <| zab rfl rfl rfl rfl rfl rfl tv <| zds rfl rfl rfl rfl rfl rfl rfl tv <| zbi rfl (c110r l.r hl.r) (.cons ((subP rfl)) .nil) rfl tv <| zab rfl rfl rfl rfl rfl rfl tv <| zah rfl rfl rfl rfl rfl rfl tv <| zck [] [] [] rfl rfl (c152u l.there n q hq (by omega)) zcl tv (.cons ((.shr _ _)) .nil) rfl rfl (zcy hpar rfl) rfl tv <| zab rfl rfl rfl rfl rfl rfl tv <| zah rfl rfl rfl rfl rfl rfl tv <| u_callN [] rfl (c152 102 l.back (by omega)) (.cons ((.shr _ _)) .nil) (fun k o h => by simp [Go.Vc.look] at h) (.inl rfl) rfl (zar hpar rfl) rfl tv <| zdi rfl rfl rfl rfl rfl tv <| zaj rfl rfl rfl rfl rfl rfl rfl rfl tv <| zaf (by kernel_rfl) <| zaw <| fin' [(930, 930), (931, 931), (932, 102)] (.inr rfl) (.cons (.cellN rfl rfl rfl rfl rfl) .nil) (zay [(930, 930), (931, 931), (932, 102)] rfl rfl ⟨⟨_, rfl, (.agg _ _ (.cons (subS ?_) (.cons (subI ?_) (.cons (subI ?_) (.cons (subI ?_) (.cons (subI ?_) (.cons (subS ?_) (.cons (subI ?_) (.cons (subI ?_) (.cons (subS ?_) (.cons (subI ?_) (.cons (subI ?_) (.cons (subI ?_) (.cons (subS ?_) (.cons (subS ?_) (.cons (subB ?_) (.cons (.row _ _ rfl (zak rfl)) (.cons (.row _ _ rfl (zak rfl)) .nil))))))))))))))))))⟩, tv⟩ ⟨(.inl ⟨_, rfl, zcq rfl ?_⟩), ⟨_, _, rfl, .inl rfl, (by refine zfi ?_ _ _; exact .row _ _ rfl (zak rfl))⟩, (.inl ⟨_, rfl, zcq rfl ?_⟩), tv⟩ (zaz rfl rfl))
 all_goals (try rfl)
theorem c115v (l : Lane) (hl : BInv l) (n : Nat) (q : List UInt8) (hq : l.back[n]? = some q) : VFun G 115 [.agg (zdu l)] [] (.agg [.shr 2 (zbe l.s.queue), .lit (.int .i64 l.s.next), .lit (.int .i64 l.s.places.a), .lit (.int .i64 l.s.places.b), .lit (.int .i64 l.s.places.c), .shr 6 (zau l.s.flight), .lit (.int .i64 l.s.turn), .lit (.int .i64 l.r.next), .shr 1 (intCells l.r.early), .lit (.int .i64 l.r.places.a), .lit (.int .i64 l.r.places.b), .lit (.int .i64 l.r.places.c), .shr 6 (zau l.r.hold), .shr 2 (zbe l.r.told), .lit (.bool l.r.owes), .row 931, .row 932]) [(930, .row 5 1 (Vc.byteCells q)), (931, .row 46 1 (zbc l.there)), (932, .rowv 46 1 ((zbc l.back).set n [.row 930]))] := by
 have hth := hl.there.1; have hba := hl.back.1
 refine VFun.intro (fn := Try.f115) rfl rfl (by kernel_rfl) (nb rfl) fun Γ hpar => ?_
 refine zad <| zaa <| zdh 100 rfl rfl rfl (zar hpar rfl) rfl rfl tv <| zbd 101 rfl rfl (zar hpar rfl) rfl rfl tv <| zaf tv <| zad <| zbo <| zab rfl rfl rfl rfl rfl rfl tv <| zds rfl rfl rfl rfl rfl rfl rfl tv <| zbi rfl (c94r l.s hl.s) (.cons ((subP rfl)) .nil) rfl tv <| zab rfl rfl rfl rfl rfl rfl tv <| zds rfl rfl rfl rfl rfl rfl rfl tv <| zbi rfl (c110r l.r hl.r) (.cons ((subP rfl)) .nil) rfl tv <| zab rfl rfl rfl rfl rfl rfl tv <| zah rfl rfl rfl rfl rfl rfl tv <| u_callN [] rfl (c152 102 l.there (by omega)) (.cons ((.shr _ _)) .nil) (fun k o h => by simp [Go.Vc.look] at h) (.inl rfl) rfl (zar hpar rfl) rfl tv <| zab rfl rfl rfl rfl rfl rfl tv <| zah rfl rfl rfl rfl rfl rfl tv <| zck [] [] [] rfl rfl (c152v l.back n q hq (by omega)) zcl tv (.cons ((.shr _ _)) .nil) rfl rfl (zcy hpar rfl) rfl tv <| zdi rfl rfl rfl rfl rfl tv <| zaj rfl rfl rfl rfl rfl rfl rfl rfl tv <| zaf (by kernel_rfl) <| zaw <| fin' [(930, 930), (931, 102), (932, 932)] (.inr rfl) (.cons (.cellN rfl rfl rfl rfl rfl) .nil) (zay [(930, 930), (931, 102), (932, 932)] rfl rfl ⟨⟨_, rfl, (.agg _ _ (.cons (subS ?_) (.cons (subI ?_) (.cons (subI ?_) (.cons (subI ?_) (.cons (subI ?_) (.cons (subS ?_) (.cons (subI ?_) (.cons (subI ?_) (.cons (subS ?_) (.cons (subI ?_) (.cons (subI ?_) (.cons (subI ?_) (.cons (subS ?_) (.cons (subS ?_) (.cons (subB ?_) (.cons (.row _ _ rfl (zak rfl)) (.cons (.row _ _ rfl (zak rfl)) .nil))))))))))))))))))⟩, tv⟩ ⟨(.inl ⟨_, rfl, zcq rfl ?_⟩), (.inl ⟨_, rfl, zcq rfl ?_⟩), ⟨_, _, rfl, .inl rfl, (by refine zfi ?_ _ _; exact .row _ _ rfl (zak rfl))⟩, tv⟩ (zaz rfl rfl))
 all_goals (try rfl)
end Go.Proofs.Ytaadloihphpdbaa
