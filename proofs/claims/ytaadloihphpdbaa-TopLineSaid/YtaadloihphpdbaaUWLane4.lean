/- Walks. Printed by a small program (walk.py). -/
import Derived.Test.YtaadloihphpdbaaUWLane4H
set_option linter.unusedVariables false
set_option linter.unusedSimpArgs false
set_option maxRecDepth 4000
namespace Go.Proofs.Ytaadloihphpdbaa
open Go Go.Vc Go.RowKit
theorem c152u (P : zcf) (n : Nat) (q : List UInt8) (hq : P[n]? = some q) (hP : P.length ≤ 1000000) : VFun G 152 [.shr 1 (zat P)] [] (.row 931) [(930, .row 5 1 (Vc.byteCells q)), (931, .rowv 46 1 ((zat P).set n [.row 930]))] := by
 have hnl := (List.getElem?_eq_some_iff.1 hq).1
 refine VFun.intro (fn := Try.f152) rfl rfl (by kernel_rfl) (nb rfl) fun Γ hpar => ?_
 refine zac <| zaa <| zad rfl rfl tv <| zaf tv <| zac <| zaa <| zad rfl rfl tv <| zaf tv <| zac <| zac <| zaa <| zae rfl rfl tv <| zcs rfl rfl rfl tv <| zae rfl rfl tv <| zaf tv <| zaz <| zbx (fun n_ E => (∃ (i : Nat), ((i ≤ P.length) ∧ (i ≤ n)) ∧ n_ = P.length - i ∧ E = ⟨[(3, .row 3), (6, .shr 1 (zat P)), (7, .lit (.int .i64 (zat P).length)), (8, .lit (.int .i64 i))], [(3, .row 46 1 (zat (P.take i)))], 19⟩) ∨ (∃ (i : Nat) (hdr : Value), ((i ≤ P.length) ∧ (n < i)) ∧ n_ = P.length - i ∧ E = ⟨[(3, .row 3), (6, .shr 1 (zat P)), (7, .lit (.int .i64 (zat P).length)), (8, .lit (.int .i64 i))], [(3, .row 46 1 ((zat (P.take i)).set n [.lit hdr])), (930, .rowh hdr 5 1 (Vc.byteCells q))], 19⟩)) (n0 := _) (E0 := _) (.inl ⟨0, by omega, rfl, rfl⟩) (ren []) (zaw [] rfl rfl ⟨⟨_, rfl, .nilrow _ _ _ _ rfl rfl⟩, ⟨_, rfl, (.shr _ _)⟩, ⟨_, rfl, (.lit _)⟩, ⟨_, rfl, (.lit _)⟩, tv⟩ ⟨(.inr (.inl ⟨rfl, rfl⟩)), tv⟩ (zax hpar rfl)) (fun n_ E hR => ?_)
 rcases hR with hR | hR
 ·obtain ⟨i, hI, rfl, rfl⟩ := hR
  obtain ⟨hI0, hI1⟩ := hI
  refine zac <| zaa <| zcm rfl rfl rfl tv (fun h9 => ?_) (fun h9 => ?_)
  ·refine zaf tv <| zac <| zas rfl <| zbd <| zac <| zaz <| zac ?_
   rw [zai] at h9
   obtain ⟨p, hp⟩ : ∃ p, P[i]? = some p := ⟨_, List.getElem?_eq_getElem (by omega)⟩
   refine zaa <| zbz rfl rfl rfl rfl rfl rfl (zde hp) rfl tv <| zcr rfl rfl rfl rfl rfl tv <| zad rfl rfl tv <| zaf tv ?_
   by_cases hin : n = i
   ·subst hin
    obtain rfl : q = p := by rw [hq] at hp; exact Option.some.inj hp
    refine vw_regionMid 3 <| zae rfl rfl tv <| zae rfl rfl tv <| u_callN [] rfl (c136 120 q) (.cons ((.shr _ _)) .nil) (fun k o h => by simp [Go.Vc.look] at h) (.inl rfl) rfl (zar hpar rfl) rfl tv <| zaf tv <| vx_hdr (t := 14) (k := 120) rfl rfl fun hdr => VX.of (log := []) <| zba 121 rfl rfl rfl rfl rfl rfl rfl rfl rfl rfl (zar hpar rfl) rfl rfl tv <| zbt 122 rfl rfl rfl (zct rfl) rfl (zar hpar rfl) rfl rfl rfl rfl rfl (by simp [zby, zai]; omega) rfl tv <| zad rfl rfl tv <| zaf tv <| zaa <| zcg rfl rfl rfl (by unfold inI; omega) rfl tv <| zae rfl rfl tv <| zaf tv <| ⟨_, _, ren [(3, 122), (930, 120)], ?_, .inr ⟨n + 1, hdr, ?_, rfl, rfl⟩, zaw [(3, 122), (930, 120)] rfl rfl ⟨⟨_, rfl, (.row _ _ rfl (zag rfl))⟩, ⟨_, rfl, (.shr _ _)⟩, ⟨_, rfl, (.lit _)⟩, ⟨_, rfl, (.lit _)⟩, tv⟩ ⟨(.inl ⟨_, rfl, zbr rfl (by exact hdr_at hq _)⟩), ⟨_, rfl, rfl⟩, tv⟩ (zax hpar rfl)⟩
    ·omega
    ·omega
   ·refine zaa <| zae rfl rfl tv <| zae rfl rfl tv <| zbo rfl (VFun.read (c136 0 _)) (.cons ((.shr _ _)) .nil) rfl tv <| zba 120 rfl rfl rfl rfl rfl rfl rfl rfl rfl rfl (zar hpar rfl) rfl rfl tv <| zbt 121 rfl rfl rfl (zct rfl) rfl (zar hpar rfl) rfl rfl rfl rfl rfl (by simp [zby, zai]; omega) rfl tv <| zad rfl rfl tv <| zaf tv <| zaa <| zcg rfl rfl rfl (by unfold inI; omega) rfl tv <| zae rfl rfl tv <| zaf tv <| ⟨_, _, ren [(3, 121)], ?_, .inl ⟨i + 1, ?_, rfl, rfl⟩, zaw [(3, 121)] rfl rfl ⟨⟨_, rfl, (.row _ _ rfl (zag rfl))⟩, ⟨_, rfl, (.shr _ _)⟩, ⟨_, rfl, (.lit _)⟩, ⟨_, rfl, (.lit _)⟩, tv⟩ ⟨(.inl ⟨_, rfl, zbr rfl (by rw [List.take_add_one, hp, zei]; rfl)⟩), tv⟩ (zax hpar rfl)⟩
    ·omega
    ·omega
  ·exfalso; rw [zai] at h9; omega
 ·obtain ⟨i, hdr, hI, rfl, rfl⟩ := hR
  obtain ⟨hI0, hI1⟩ := hI
  refine zac <| zaa <| zcm rfl rfl rfl tv (fun h9 => ?_) (fun h9 => ?_)
  ·refine zaf tv <| zac <| zas rfl <| zbd <| zac <| zaz <| zac ?_
   rw [zai] at h9
   obtain ⟨p, hp⟩ : ∃ p, P[i]? = some p := ⟨_, List.getElem?_eq_getElem (by omega)⟩
   refine zaa <| zbz rfl rfl rfl rfl rfl rfl (zde hp) rfl tv <| zcr rfl rfl rfl rfl rfl tv <| zad rfl rfl tv <| zaf tv <| zaa <| zae rfl rfl tv <| zae rfl rfl tv <| zbo rfl (VFun.read (c136 0 _)) (.cons ((.shr _ _)) .nil) rfl tv <| zba 120 rfl rfl rfl rfl rfl rfl rfl rfl rfl rfl (zar hpar rfl) rfl rfl tv <| zbt 121 rfl rfl rfl (zct rfl) rfl (zar hpar rfl) rfl rfl rfl rfl rfl (by simp [zby, zai]; omega) rfl tv <| zad rfl rfl tv <| zaf tv <| zaa <| zcg rfl rfl rfl (by unfold inI; omega) rfl tv <| zae rfl rfl tv <| zaf tv <| ⟨_, _, ren [(3, 121), (930, 930)], ?_, .inr ⟨i + 1, hdr, ?_, rfl, rfl⟩, zaw [(3, 121), (930, 930)] rfl rfl ⟨⟨_, rfl, (.row _ _ rfl (zag rfl))⟩, ⟨_, rfl, (.shr _ _)⟩, ⟨_, rfl, (.lit _)⟩, ⟨_, rfl, (.lit _)⟩, tv⟩ ⟨(.inl ⟨_, rfl, zbr rfl (by exact hdr_next hp (by omega) _)⟩), ⟨_, rfl, rfl⟩, tv⟩ (zax hpar rfl)⟩
   ·omega
   ·omega
  ·refine zaf tv <| zac <| zau rfl <| zcc <| iteP rfl <| zac ?_
   rw [zai] at h9
   rw [List.take_of_length_le (show P.length ≤ i by omega)]
   refine zaa <| zae rfl rfl tv <| zad rfl rfl tv <| zaf tv <| vw_unhdr (k1 := 3) (k2 := 930) (n := n) rfl rfl (by decide) (List.getElem?_set_self (by rw [zai]; exact hnl)) ?_
   refine zav <| fin' [(930, 930), (931, 3)] (.inr rfl) (.cons (.tmp rfl (nb rfl)) .nil) (zaw [(930, 930), (931, 3)] rfl rfl ⟨⟨_, rfl, (.row _ _ rfl (zag rfl))⟩, tv⟩ ⟨(.inl ⟨_, rfl, zbr rfl ?_⟩), ⟨_, _, rfl, .inl rfl, (by rw [List.set_set]; refine zea ?_ P n; exact .row _ _ rfl (zag rfl))⟩, tv⟩ (zax rfl rfl))
   all_goals (try rfl)
theorem c152v (P : zcf) (n : Nat) (q : List UInt8) (hq : P[n]? = some q) (hP : P.length ≤ 1000000) : VFun G 152 [.shr 1 (zat P)] [] (.row 932) [(930, .row 5 1 (Vc.byteCells q)), (932, .rowv 46 1 ((zat P).set n [.row 930]))] := by
 have hnl := (List.getElem?_eq_some_iff.1 hq).1
 refine VFun.intro (fn := Try.f152) rfl rfl (by kernel_rfl) (nb rfl) fun Γ hpar => ?_
 refine zac <| zaa <| zad rfl rfl tv <| zaf tv <| zac <| zaa <| zad rfl rfl tv <| zaf tv <| zac <| zac <| zaa <| zae rfl rfl tv <| zcs rfl rfl rfl tv <| zae rfl rfl tv <| zaf tv <| zaz <| zbx (fun n_ E => (∃ (i : Nat), ((i ≤ P.length) ∧ (i ≤ n)) ∧ n_ = P.length - i ∧ E = ⟨[(3, .row 3), (6, .shr 1 (zat P)), (7, .lit (.int .i64 (zat P).length)), (8, .lit (.int .i64 i))], [(3, .row 46 1 (zat (P.take i)))], 19⟩) ∨ (∃ (i : Nat) (hdr : Value), ((i ≤ P.length) ∧ (n < i)) ∧ n_ = P.length - i ∧ E = ⟨[(3, .row 3), (6, .shr 1 (zat P)), (7, .lit (.int .i64 (zat P).length)), (8, .lit (.int .i64 i))], [(3, .row 46 1 ((zat (P.take i)).set n [.lit hdr])), (930, .rowh hdr 5 1 (Vc.byteCells q))], 19⟩)) (n0 := _) (E0 := _) (.inl ⟨0, by omega, rfl, rfl⟩) (ren []) (zaw [] rfl rfl ⟨⟨_, rfl, .nilrow _ _ _ _ rfl rfl⟩, ⟨_, rfl, (.shr _ _)⟩, ⟨_, rfl, (.lit _)⟩, ⟨_, rfl, (.lit _)⟩, tv⟩ ⟨(.inr (.inl ⟨rfl, rfl⟩)), tv⟩ (zax hpar rfl)) (fun n_ E hR => ?_)
 rcases hR with hR | hR
 ·obtain ⟨i, hI, rfl, rfl⟩ := hR
  obtain ⟨hI0, hI1⟩ := hI
  refine zac <| zaa <| zcm rfl rfl rfl tv (fun h9 => ?_) (fun h9 => ?_)
  ·refine zaf tv <| zac <| zas rfl <| zbd <| zac <| zaz <| zac ?_
   rw [zai] at h9
   obtain ⟨p, hp⟩ : ∃ p, P[i]? = some p := ⟨_, List.getElem?_eq_getElem (by omega)⟩
   refine zaa <| zbz rfl rfl rfl rfl rfl rfl (zde hp) rfl tv <| zcr rfl rfl rfl rfl rfl tv <| zad rfl rfl tv <| zaf tv ?_
   by_cases hin : n = i
   ·subst hin
    obtain rfl : q = p := by rw [hq] at hp; exact Option.some.inj hp
    refine vw_regionMid 3 <| zae rfl rfl tv <| zae rfl rfl tv <| u_callN [] rfl (c136 120 q) (.cons ((.shr _ _)) .nil) (fun k o h => by simp [Go.Vc.look] at h) (.inl rfl) rfl (zar hpar rfl) rfl tv <| zaf tv <| vx_hdr (t := 14) (k := 120) rfl rfl fun hdr => VX.of (log := []) <| zba 121 rfl rfl rfl rfl rfl rfl rfl rfl rfl rfl (zar hpar rfl) rfl rfl tv <| zbt 122 rfl rfl rfl (zct rfl) rfl (zar hpar rfl) rfl rfl rfl rfl rfl (by simp [zby, zai]; omega) rfl tv <| zad rfl rfl tv <| zaf tv <| zaa <| zcg rfl rfl rfl (by unfold inI; omega) rfl tv <| zae rfl rfl tv <| zaf tv <| ⟨_, _, ren [(3, 122), (930, 120)], ?_, .inr ⟨n + 1, hdr, ?_, rfl, rfl⟩, zaw [(3, 122), (930, 120)] rfl rfl ⟨⟨_, rfl, (.row _ _ rfl (zag rfl))⟩, ⟨_, rfl, (.shr _ _)⟩, ⟨_, rfl, (.lit _)⟩, ⟨_, rfl, (.lit _)⟩, tv⟩ ⟨(.inl ⟨_, rfl, zbr rfl (by exact hdr_at hq _)⟩), ⟨_, rfl, rfl⟩, tv⟩ (zax hpar rfl)⟩
    ·omega
    ·omega
   ·refine zaa <| zae rfl rfl tv <| zae rfl rfl tv <| zbo rfl (VFun.read (c136 0 _)) (.cons ((.shr _ _)) .nil) rfl tv <| zba 120 rfl rfl rfl rfl rfl rfl rfl rfl rfl rfl (zar hpar rfl) rfl rfl tv <| zbt 121 rfl rfl rfl (zct rfl) rfl (zar hpar rfl) rfl rfl rfl rfl rfl (by simp [zby, zai]; omega) rfl tv <| zad rfl rfl tv <| zaf tv <| zaa <| zcg rfl rfl rfl (by unfold inI; omega) rfl tv <| zae rfl rfl tv <| zaf tv <| ⟨_, _, ren [(3, 121)], ?_, .inl ⟨i + 1, ?_, rfl, rfl⟩, zaw [(3, 121)] rfl rfl ⟨⟨_, rfl, (.row _ _ rfl (zag rfl))⟩, ⟨_, rfl, (.shr _ _)⟩, ⟨_, rfl, (.lit _)⟩, ⟨_, rfl, (.lit _)⟩, tv⟩ ⟨(.inl ⟨_, rfl, zbr rfl (by rw [List.take_add_one, hp, zei]; rfl)⟩), tv⟩ (zax hpar rfl)⟩
    ·omega
    ·omega
  ·exfalso; rw [zai] at h9; omega
 ·obtain ⟨i, hdr, hI, rfl, rfl⟩ := hR
  obtain ⟨hI0, hI1⟩ := hI
  refine zac <| zaa <| zcm rfl rfl rfl tv (fun h9 => ?_) (fun h9 => ?_)
  ·refine zaf tv <| zac <| zas rfl <| zbd <| zac <| zaz <| zac ?_
   rw [zai] at h9
   obtain ⟨p, hp⟩ : ∃ p, P[i]? = some p := ⟨_, List.getElem?_eq_getElem (by omega)⟩
   refine zaa <| zbz rfl rfl rfl rfl rfl rfl (zde hp) rfl tv <| zcr rfl rfl rfl rfl rfl tv <| zad rfl rfl tv <| zaf tv <| zaa <| zae rfl rfl tv <| zae rfl rfl tv <| zbo rfl (VFun.read (c136 0 _)) (.cons ((.shr _ _)) .nil) rfl tv <| zba 120 rfl rfl rfl rfl rfl rfl rfl rfl rfl rfl (zar hpar rfl) rfl rfl tv <| zbt 121 rfl rfl rfl (zct rfl) rfl (zar hpar rfl) rfl rfl rfl rfl rfl (by simp [zby, zai]; omega) rfl tv <| zad rfl rfl tv <| zaf tv <| zaa <| zcg rfl rfl rfl (by unfold inI; omega) rfl tv <| zae rfl rfl tv <| zaf tv <| ⟨_, _, ren [(3, 121), (930, 930)], ?_, .inr ⟨i + 1, hdr, ?_, rfl, rfl⟩, zaw [(3, 121), (930, 930)] rfl rfl ⟨⟨_, rfl, (.row _ _ rfl (zag rfl))⟩, ⟨_, rfl, (.shr _ _)⟩, ⟨_, rfl, (.lit _)⟩, ⟨_, rfl, (.lit _)⟩, tv⟩ ⟨(.inl ⟨_, rfl, zbr rfl (by exact hdr_next hp (by omega) _)⟩), ⟨_, rfl, rfl⟩, tv⟩ (zax hpar rfl)⟩
   ·omega
   ·omega
  ·refine zaf tv <| zac <| zau rfl <| zcc <| iteP rfl <| zac ?_
   rw [zai] at h9
   rw [List.take_of_length_le (show P.length ≤ i by omega)]
   refine zaa <| zae rfl rfl tv <| zad rfl rfl tv <| zaf tv <| vw_unhdr (k1 := 3) (k2 := 930) (n := n) rfl rfl (by decide) (List.getElem?_set_self (by rw [zai]; exact hnl)) ?_
   refine zav <| fin' [(930, 930), (932, 3)] (.inr rfl) (.cons (.tmp rfl (nb rfl)) .nil) (zaw [(930, 930), (932, 3)] rfl rfl ⟨⟨_, rfl, (.row _ _ rfl (zag rfl))⟩, tv⟩ ⟨(.inl ⟨_, rfl, zbr rfl ?_⟩), ⟨_, _, rfl, .inl rfl, (by rw [List.set_set]; refine zea ?_ P n; exact .row _ _ rfl (zag rfl))⟩, tv⟩ (zax rfl rfl))
   all_goals (try rfl)
theorem c115u (l : Lane) (hl : BInv l) (n : Nat) (q : List UInt8) (hq : l.there[n]? = some q) : VFun G 115 [.agg (zee l)] [] (.agg [.shr 2 (zaq l.s.queue), .lit (.int .i64 l.s.next), .lit (.int .i64 l.s.places.a), .lit (.int .i64 l.s.places.b), .lit (.int .i64 l.s.places.c), .shr 6 (zao l.s.flight), .lit (.int .i64 l.s.turn), .lit (.int .i64 l.r.next), .shr 1 (zay l.r.early), .lit (.int .i64 l.r.places.a), .lit (.int .i64 l.r.places.b), .lit (.int .i64 l.r.places.c), .shr 6 (zao l.r.hold), .shr 2 (zaq l.r.told), .lit (.bool l.r.owes), .row 931, .row 932]) [(930, .row 5 1 (Vc.byteCells q)), (931, .rowv 46 1 ((zat l.there).set n [.row 930])), (932, .row 46 1 (zat l.back))] := by
 have hth := hl.there.1; have hba := hl.back.1
 refine VFun.intro (fn := Try.f115) rfl rfl (by kernel_rfl) (nb rfl) fun Γ hpar => ?_
 refine zac <| zaa <| zeb 100 rfl rfl rfl (zar hpar rfl) rfl rfl tv <| zbf 101 rfl rfl (zar hpar rfl) rfl rfl tv <| zaf tv <| zac <| zcb <| zab rfl rfl rfl rfl rfl rfl tv <| u_loadN rfl rfl rfl rfl rfl rfl rfl tv <| zbo rfl (c94r l.s hl.s) (.cons ((subP rfl)) .nil) rfl tv <| zab rfl rfl rfl rfl rfl rfl tv <| u_loadN rfl rfl rfl rfl rfl rfl rfl tv <| zbo rfl (c110r l.r hl.r) (.cons ((subP rfl)) .nil) rfl tv <| zab rfl rfl rfl rfl rfl rfl tv <| zak rfl rfl rfl rfl rfl rfl tv <| zbq [] [] [] rfl rfl (c152u l.there n q hq (by omega)) zbs tv (.cons ((.shr _ _)) .nil) rfl rfl (zce hpar rfl) rfl tv <| zab rfl rfl rfl rfl rfl rfl tv <| zak rfl rfl rfl rfl rfl rfl tv <| u_callN [] rfl (c152 102 l.back (by omega)) (.cons ((.shr _ _)) .nil) (fun k o h => by simp [Go.Vc.look] at h) (.inl rfl) rfl (zar hpar rfl) rfl tv <| zch rfl rfl rfl rfl rfl tv <| zah rfl rfl rfl rfl rfl rfl rfl rfl tv <| zaf (by kernel_rfl) <| zav <| fin' [(930, 930), (931, 931), (932, 102)] (.inr rfl) (.cons (.cellN rfl rfl rfl rfl rfl) .nil) (zaw [(930, 930), (931, 931), (932, 102)] rfl rfl ⟨⟨_, rfl, (.agg _ _ (.cons (subS ?_) (.cons (subI ?_) (.cons (subI ?_) (.cons (subI ?_) (.cons (subI ?_) (.cons (subS ?_) (.cons (subI ?_) (.cons (subI ?_) (.cons (subS ?_) (.cons (subI ?_) (.cons (subI ?_) (.cons (subI ?_) (.cons (subS ?_) (.cons (subS ?_) (.cons (subB ?_) (.cons (.row _ _ rfl (zag rfl)) (.cons (.row _ _ rfl (zag rfl)) .nil))))))))))))))))))⟩, tv⟩ ⟨(.inl ⟨_, rfl, zbr rfl ?_⟩), ⟨_, _, rfl, .inl rfl, (by refine zea ?_ _ _; exact .row _ _ rfl (zag rfl))⟩, (.inl ⟨_, rfl, zbr rfl ?_⟩), tv⟩ (zax rfl rfl))
 all_goals (try rfl)
theorem c115v (l : Lane) (hl : BInv l) (n : Nat) (q : List UInt8) (hq : l.back[n]? = some q) : VFun G 115 [.agg (zee l)] [] (.agg [.shr 2 (zaq l.s.queue), .lit (.int .i64 l.s.next), .lit (.int .i64 l.s.places.a), .lit (.int .i64 l.s.places.b), .lit (.int .i64 l.s.places.c), .shr 6 (zao l.s.flight), .lit (.int .i64 l.s.turn), .lit (.int .i64 l.r.next), .shr 1 (zay l.r.early), .lit (.int .i64 l.r.places.a), .lit (.int .i64 l.r.places.b), .lit (.int .i64 l.r.places.c), .shr 6 (zao l.r.hold), .shr 2 (zaq l.r.told), .lit (.bool l.r.owes), .row 931, .row 932]) [(930, .row 5 1 (Vc.byteCells q)), (931, .row 46 1 (zat l.there)), (932, .rowv 46 1 ((zat l.back).set n [.row 930]))] := by
 have hth := hl.there.1; have hba := hl.back.1
 refine VFun.intro (fn := Try.f115) rfl rfl (by kernel_rfl) (nb rfl) fun Γ hpar => ?_
 refine zac <| zaa <| zeb 100 rfl rfl rfl (zar hpar rfl) rfl rfl tv <| zbf 101 rfl rfl (zar hpar rfl) rfl rfl tv <| zaf tv <| zac <| zcb <| zab rfl rfl rfl rfl rfl rfl tv <| u_loadN rfl rfl rfl rfl rfl rfl rfl tv <| zbo rfl (c94r l.s hl.s) (.cons ((subP rfl)) .nil) rfl tv <| zab rfl rfl rfl rfl rfl rfl tv <| u_loadN rfl rfl rfl rfl rfl rfl rfl tv <| zbo rfl (c110r l.r hl.r) (.cons ((subP rfl)) .nil) rfl tv <| zab rfl rfl rfl rfl rfl rfl tv <| zak rfl rfl rfl rfl rfl rfl tv <| u_callN [] rfl (c152 102 l.there (by omega)) (.cons ((.shr _ _)) .nil) (fun k o h => by simp [Go.Vc.look] at h) (.inl rfl) rfl (zar hpar rfl) rfl tv <| zab rfl rfl rfl rfl rfl rfl tv <| zak rfl rfl rfl rfl rfl rfl tv <| zbq [] [] [] rfl rfl (c152v l.back n q hq (by omega)) zbs tv (.cons ((.shr _ _)) .nil) rfl rfl (zce hpar rfl) rfl tv <| zch rfl rfl rfl rfl rfl tv <| zah rfl rfl rfl rfl rfl rfl rfl rfl tv <| zaf (by kernel_rfl) <| zav <| fin' [(930, 930), (931, 102), (932, 932)] (.inr rfl) (.cons (.cellN rfl rfl rfl rfl rfl) .nil) (zaw [(930, 930), (931, 102), (932, 932)] rfl rfl ⟨⟨_, rfl, (.agg _ _ (.cons (subS ?_) (.cons (subI ?_) (.cons (subI ?_) (.cons (subI ?_) (.cons (subI ?_) (.cons (subS ?_) (.cons (subI ?_) (.cons (subI ?_) (.cons (subS ?_) (.cons (subI ?_) (.cons (subI ?_) (.cons (subI ?_) (.cons (subS ?_) (.cons (subS ?_) (.cons (subB ?_) (.cons (.row _ _ rfl (zag rfl)) (.cons (.row _ _ rfl (zag rfl)) .nil))))))))))))))))))⟩, tv⟩ ⟨(.inl ⟨_, rfl, zbr rfl ?_⟩), (.inl ⟨_, rfl, zbr rfl ?_⟩), ⟨_, _, rfl, .inl rfl, (by refine zea ?_ _ _; exact .row _ _ rfl (zag rfl))⟩, tv⟩ (zax rfl rfl))
 all_goals (try rfl)
end Go.Proofs.Ytaadloihphpdbaa
