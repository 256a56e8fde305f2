/- What the walks of the package view, and its laws, need. Printed by a small program (walk.py). -/
import Derived.Test.YtaadloihphpdbaaZWLane6H
set_option linter.unusedVariables false
set_option linter.unusedSimpArgs false
set_option maxRecDepth 4000
namespace Go.Proofs.Ytaadloihphpdbaa
open Go Go.Vc Go.RowKit
theorem only_y {t : Int} {l : List Step} {i : Nat} {s : Step} (h : l[i]? = some s) (hm : mineB t s = true) : zcv t (l.take (i + 1)) = zcv t (l.take i) ++ [s] := by
  unfold zcv; rw [List.take_add_one, h, List.filter_append]; simp [hm]
theorem only_n {t : Int} {l : List Step} {i : Nat} {s : Step} (h : l[i]? = some s) (hm : mineB t s = false) : zcv t (l.take (i + 1)) = zcv t (l.take i) := by
  unfold zcv; rw [List.take_add_one, h, List.filter_append]; simp [hm]
theorem only_app (t : Int) (l m : List Step) : zcv t (l ++ m) = zcv t l ++ zcv t m := by unfold zcv; rw [List.filter_append]
theorem only_at {t : Int} {l : List Step} {i : Nat} {s : Step} (h : l[i]? = some s) (hm : mineB t s = true) : (zcv t l)[(zcv t (l.take i)).length]? = some s := by
  obtain ⟨hi, e⟩ := List.getElem?_eq_some_iff.1 h
  have e1 : l = l.take i ++ s :: l.drop (i + 1) := by rw [← e]; simp
  have e2 : zcv t l = zcv t (l.take i) ++ s :: zcv t (l.drop (i + 1)) := (congrArg (zcv t) e1).trans (by rw [only_app]; unfold zcv; rw [List.filter_cons_of_pos hm])
  rw [e2, List.getElem?_append_right (Nat.le_refl _), Nat.sub_self]; rfl
theorem only_take_len (t : Int) (l : List Step) (i : Nat) : (zcv t (l.take i)).length ≤ l.length := by
  have h1 := zfj t (l.take i)
  have h2 := List.length_take_le' i l
  omega
theorem only_mem {t : Int} {l : List Step} (hm : ∀ s ∈ l, inI s.m) : ∀ s ∈ zcv t l, inI s.m := fun s hs => hm s (List.mem_filter.1 hs).1
theorem mine_y {t : Int} {s : Step} (h : s.kind = 1 ∨ s.tenant = t) : mineB t s = true := by unfold mineB; simpa using h
theorem mine_n {t : Int} {s : Step} (h : ¬ s.kind = 1) (h2 : ¬ s.tenant = t) : mineB t s = false := by unfold mineB; simp [h, h2]
theorem putsI_not {t : Int} {l : List Step} {es : List Int} {i : Nat} {s : Step} (hs : l[i]? = some s) (hp : isPut t s = false) : putsI t l es (i + 1) = putsI t l es i := by
  by_cases h : i < es.length
  · rw [putsI_some hs (List.getElem?_eq_getElem h), if_neg (by rw [hp]; simp), List.append_nil]
  · exact putsI_none (by omega)
theorem lanes_same {n : Int} (h1 : 1 ≤ n) (h3 : n ≤ 3) {l m : List Step} {t : Int} {q : Nat} (ht : t = q) {x y : Lane} (hx : (play n l).1.lanes[q]? = some x) (hy : (play n m).1.lanes[q]? = some y) (hl : l.length ≤ 160) (hm : m.length ≤ 160) (h : zcv t l = zcv t m) : x = y ∧ (play n l).1.ticks = (play n m).1.ticks := by
  subst ht
  have hq := (List.getElem?_eq_some_iff.1 hx).1
  rw [zdw h1 h3] at hq
  have := play_same h1 h3 hq hl hm h
  have e1 : (atL (play n l).1 q).1 = x := by show (play n l).1.lanes.getD q zdl = x; rw [List.getD, hx]; rfl
  have e2 : (atL (play n m).1 q).1 = y := by show (play n m).1.lanes.getD q zdl = y; rw [List.getD, hy]; rfl
  exact ⟨by rw [← e1, ← e2, this], congrArg Prod.snd this⟩
theorem only_none {t : Int} {l : List Step} (h : l.all (fun s => !mineB t s) = true) {i : Nat} {s : Step} (hs : l[i]? = some s) : zcv t [s] = [] := by
  have := List.all_eq_true.1 h s (List.mem_of_getElem? hs)
  unfold zcv
  rw [List.filter_cons_of_neg (by simpa using this)]; rfl
end Go.Proofs.Ytaadloihphpdbaa
