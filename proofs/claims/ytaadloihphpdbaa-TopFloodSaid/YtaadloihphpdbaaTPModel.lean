/- The words of the contracts: sums, messages, chunks, senders, receivers, lanes, worlds, and what is done with them; and how they lie in memory. No program is in sight. -/
import Derived.Test.YtaadloihphpdbaaTVcB
set_option linter.unusedVariables false
set_option linter.unusedSimpArgs false
namespace Go.Proofs.Ytaadloihphpdbaa
open Go Go.Vc Go.RowKit
def sumStep (s : Int) (b : UInt8) : Int := (s * 139 + b.toNat + 1) % 65521
def sumOf (bs : List UInt8) : Int := bs.foldl sumStep 7
theorem sumStep_in (s : Int) (b : UInt8) : 0 ≤ sumStep s b ∧ sumStep s b < 65521 := by unfold sumStep; omega
theorem sumOf_snoc (bs : List UInt8) (b : UInt8) : sumOf (bs ++ [b]) = sumStep (sumOf bs) b := by simp [sumOf]
theorem sumFold_in : ∀ (bs : List UInt8) (s : Int), 0 ≤ s ∧ s < 65521 → 0 ≤ bs.foldl sumStep s ∧ bs.foldl sumStep s < 65521
  | [], s, h => h
  | b :: r, s, h => sumFold_in r _ (sumStep_in s b)
theorem sumOf_in (bs : List UInt8) : 0 ≤ sumOf bs ∧ sumOf bs < 65521 := sumFold_in bs 7 (by decide)
theorem sumOf_take {bs : List UInt8} {i : Nat} (h : i < bs.length) : sumOf (bs.take (i + 1)) = sumStep (sumOf (bs.take i)) (bs[i]'h) := by
  rw [← List.take_append_getElem h, sumOf_snoc]
def zfn (bs : List UInt8) : List UInt8 := bs ++ [u8 (sumOf bs / 256), u8 (sumOf bs)]
def opens (bs : List UInt8) : Bool := decide (2 ≤ bs.length) && (zfn (bs.take (bs.length - 2)) == bs)
def zdz (bs : List UInt8) : List UInt8 := if opens bs then bs.take (bs.length - 2) else []
theorem split2 (bs : List UInt8) (h : 2 ≤ bs.length) : ∃ p x y, bs = p ++ [x, y] := by
  have h1 := List.take_append_drop (bs.length - 2) bs
  have h2 : (bs.drop (bs.length - 2)).length = 2 := by rw [List.length_drop]; omega
  match hd : bs.drop (bs.length - 2), h2 with
  | [x, y], _ => exact ⟨_, x, y, by rw [hd] at h1; exact h1.symm⟩
theorem u8_eq (z : Int) (x : UInt8) : u8 z = x ↔ (x.toNat : Int) = z % 256 := by
  constructor
  · rintro rfl; exact zfk z
  · intro h
    apply UInt8.toNat_inj.1
    have := zfk z
    omega
theorem opens_is (bs : List UInt8) (h : 2 ≤ bs.length) : opens bs = (decide (((bs[bs.length - 2]'(by omega)).toNat : Int) = sumOf (bs.take (bs.length - 2)) / 256 % 256) && decide (((bs[bs.length - 1]'(by omega)).toNat : Int) = sumOf (bs.take (bs.length - 2)) % 256)) := by
  obtain ⟨p, x, y, rfl⟩ := split2 bs h
  have e : (p ++ [x, y]).length - 2 = p.length := by simp
  have e1 : (p ++ [x, y]).length - 1 = p.length + 1 := by simp
  have ht : (p ++ [x, y]).take ((p ++ [x, y]).length - 2) = p := by rw [e]; simp
  have hx : (p ++ [x, y])[(p ++ [x, y]).length - 2]'(by omega) = x := by simp [e]
  have hy : (p ++ [x, y])[(p ++ [x, y]).length - 1]'(by omega) = y := by simp [e1]
  unfold opens
  rw [ht, hx, hy, decide_eq_true h, Bool.true_and]
  unfold zfn
  by_cases h1 : (x.toNat : Int) = sumOf p / 256 % 256
  · by_cases h2 : (y.toNat : Int) = sumOf p % 256
    · rw [(u8_eq _ _).2 h1, (u8_eq _ _).2 h2]; simp [h1, h2]
    · have : u8 (sumOf p) ≠ y := fun e => h2 ((u8_eq _ _).1 e)
      simp [h2, this]
  · have : u8 (sumOf p / 256) ≠ x := fun e => h1 ((u8_eq _ _).1 e)
    simp [h1, this]
theorem sealed_length (bs : List UInt8) : (zfn bs).length = bs.length + 2 := by simp [zfn]
theorem set_u8 (s : List UInt8) (i : Nat) (n : Int) (hn : 0 ≤ n ∧ n ≤ 255) (u : AV) : (byteCells s).set i (wrA [u] 0 [.lit (.int .u8 n)]) = byteCells (s.set i (u8 n)) := by
  rw [← byteCells_set]
  have : ((u8 n).toNat : Int) = n := by rw [zfk]; omega
  rw [this]; rfl
abbrev Msg := Int × List UInt8
def msgAV (m : Msg) : List AV := [.lit (.int .i64 m.1), .shr 1 (byteCells m.2)]
def zau (l : List Msg) : List (List AV) := l.map msgAV
theorem zaq (l : List Msg) : (zau l).length = l.length := by simp [zau]
theorem zfd {l : List Msg} {i : Nat} (h : i < l.length) : (zau l)[i]? = some [.lit (.int .i64 (l[i]'h).1), .shr 1 (byteCells (l[i]'h).2)] := by simp [zau, msgAV, h]
def zcl (m : Msg) : Int := if m.1 < 0 ∨ 2 < m.1 then 3 else if 6 < m.2.length then 4 else 0
theorem wrongMsg1 {m : Msg} (h : m.1 < 0 ∨ 2 < m.1) : zcl m = 3 := if_pos h
theorem wrongMsg2 {m : Msg} (h : ¬ (m.1 < 0 ∨ 2 < m.1)) (h2 : 6 < m.2.length) : zcl m = 4 := by rw [zcl, if_neg h, if_pos h2]
theorem wrongMsg3 {m : Msg} (h : ¬ (m.1 < 0 ∨ 2 < m.1)) (h2 : ¬ 6 < m.2.length) : zcl m = 0 := by rw [zcl, if_neg h, if_neg h2]
def zct (s : Int) (l : List Msg) : List Msg := l.filter fun m => decide (m.1 = s)
theorem ofStream_len (s : Int) (l : List Msg) : (zct s l).length ≤ l.length := List.length_filter_le _ _
theorem ofStreamY {s : Int} {l : List Msg} {i : Nat} (h : i < l.length) (e : (l[i]'h).1 = s) : zct s (l.take (i + 1)) = zct s (l.take i) ++ [l[i]'h] := by
  unfold zct; rw [List.take_add_one, List.getElem?_eq_getElem h, List.filter_append]; simp [e]
theorem ofStreamN {s : Int} {l : List Msg} {i : Nat} (h : i < l.length) (e : (l[i]'h).1 ≠ s) : zct s (l.take (i + 1)) = zct s (l.take i) := by
  unfold zct; rw [List.take_add_one, List.getElem?_eq_getElem h, List.filter_append]; simp [e]
theorem msgCells_snoc (l : List Msg) (m : Msg) : zau (l ++ [m]) = zau l ++ [[.lit (.int .i64 m.1), .shr 1 (byteCells m.2)]] := by simp [zau, msgAV]
theorem msgCells_take (n : Nat) (l : List Msg) : (zau l).take n = zau (l.take n) := by simp [zau]
def fits1 (s : Int) (t p : List Msg) : Bool := decide ((zct s t).length ≤ (zct s p).length) && (zct s t == (zct s p).take (zct s t).length)
def fits (t p : List Msg) : Bool := fits1 ((0 : Nat) : Int) t p && (fits1 ((1 : Nat) : Int) t p && fits1 ((2 : Nat) : Int) t p)
theorem fitsN {t p : List Msg} {i : Nat} (hi : i < 3) (h : fits1 (i : Int) t p = false) : fits t p = false := by
  unfold fits
  rcases (by omega : i = 0 ∨ i = 1 ∨ i = 2) with rfl | rfl | rfl <;> rw [h] <;> simp
theorem fitsY {t p : List Msg} (h : ∀ j : Nat, j < 3 → fits1 (j : Int) t p = true) : fits t p = true := by
  unfold fits; rw [h 0 (by decide), h 1 (by decide), h 2 (by decide)]; rfl
structure Chunk where
  kind : Int
  num : Int
  stream : Int
  place : Int
  data : List UInt8
  early : List Int
deriving DecidableEq
def zff : Chunk := ⟨0, 0, 0, 0, [], []⟩
def rising : Int → List Int → Bool
  | _, [] => true
  | last, n :: r => decide (last < n) && (decide (n < 40) && rising n r)
def zdd (c : Chunk) : Int :=
  if c.kind ≠ 1 ∧ c.kind ≠ 2 then 1
  else if c.num < 0 ∨ 40 < c.num then 3
  else if c.kind = 1 then
    if 39 < c.num ∨ c.place < 0 ∨ c.num < c.place then 3
    else if 0 < c.early.length then 5
    else zcl (c.stream, c.data)
  else if c.stream ≠ 0 ∨ c.place ≠ 0 then 3
  else if 0 < c.data.length ∨ 3 < c.early.length then 5
  else if rising c.num c.early then 0 else 3
def body (c : Chunk) : List UInt8 := [u8 c.kind, u8 c.num] ++ (if c.kind = 1 then [u8 c.stream, u8 c.place] ++ c.data else []) ++ c.early.map u8
def bytes (c : Chunk) : List UInt8 := zfn (body c)
def ints (l : List UInt8) : List Int := l.map fun b => (b.toNat : Int)
def zfh : List UInt8 → Chunk
  | k :: n :: r => if k.toNat = 1 then (match r with | s :: p :: d => ⟨1, n.toNat, s.toNat, p.toNat, d, []⟩ | _ => zff) else ⟨k.toNat, n.toNat, 0, 0, [], ints r⟩
  | _ => zff
def short (x : List UInt8) : Bool := match x with
  | k :: _ :: r => decide (k.toNat = 1) && decide (r.length < 2)
  | _ => true
def read (b : List UInt8) : Chunk × Int :=
  if opens b = false then (zff, 7)
  else if short (zdz b) then (zff, 8)
  else if zdd (zfh (zdz b)) ≠ 0 then (zff, zdd (zfh (zdz b)))
  else (zfh (zdz b), 0)
structure Places where
  a : Int
  b : Int
  c : Int
deriving DecidableEq
def Places.get (p : Places) (s : Int) : Int := if s = 0 then p.a else if s = 1 then p.b else p.c
def Places.bump (p : Places) (s : Int) : Places := if s = 0 then ⟨p.a + 1, p.b, p.c⟩ else if s = 1 then ⟨p.a, p.b + 1, p.c⟩ else ⟨p.a, p.b, p.c + 1⟩
structure Sender where
  queue : List Msg
  next : Int
  places : Places
  flight : List Chunk
  turn : Int
deriving DecidableEq
structure Receiver where
  next : Int
  early : List Int
  places : Places
  hold : List Chunk
  told : List Msg
  owes : Bool
deriving DecidableEq
def places0 : Places := ⟨0, 0, 0⟩
def sender0 : Sender := ⟨[], 0, places0, [], 0⟩
def zer : Receiver := ⟨0, [], places0, [], [], false⟩
def put (s : Sender) (m : Msg) : Sender × Int :=
  if zcl m ≠ 0 then (s, zcl m)
  else if 5 < s.queue.length then (s, 9)
  else if 39 < s.next + s.queue.length then (s, 4)
  else ({ s with queue := s.queue ++ [m] }, 0)
def zes (s : Sender) (m : Msg) : Chunk := ⟨1, s.next, m.1, s.places.get m.1, m.2, []⟩
def sayNew (s : Sender) (m : Msg) (q : List Msg) : Sender × Chunk × Bool := (⟨q, s.next + 1, s.places.bump m.1, s.flight ++ [zes s m], s.turn⟩, zes s m, true)
def sayOld (s : Sender) : Sender × Chunk × Bool := ({ s with turn := s.turn % s.flight.length + 1 }, s.flight.getD (s.turn % s.flight.length).toNat zff, true)
def say (s : Sender) : Sender × Chunk × Bool := match s.queue with
  | m :: q => if s.flight.length < 4 then sayNew s m q else sayOld s
  | [] => if s.flight = [] then (s, zff, false) else sayOld s
def told (c x : Chunk) : Bool := decide (x.num < c.num) || c.early.contains x.num
def hear (s : Sender) (c : Chunk) : Sender := if c.kind ≠ 2 then s else { s with flight := s.flight.filter fun x => !told c x }
def zdv (n : Int) (l : List Int) : List Int := l.takeWhile (fun x => decide (x < n)) ++ n :: l.dropWhile (fun x => decide (x < n))
def zfb : List Int → Int → List Int × Int
  | n :: r, x => if n = x then zfb r (x + 1) else (n :: r, x)
  | [], x => ([], x)
def zdy (p : Places) (c : Chunk) : Bool := decide (c.place = p.get c.stream)
abbrev Tale := List Chunk × Places × List Msg
def tell1 (s : Tale) : Option Tale := match s.1.find? (zdy s.2.1) with
  | none => none
  | some c => some (s.1.eraseIdx (s.1.findIdx (zdy s.2.1)), s.2.1.bump c.stream, s.2.2 ++ [(c.stream, c.data)])
def tellN : Nat → Tale → Tale
  | 0, s => s
  | n + 1, s => match tell1 s with
    | none => s
    | some t => tellN n t
def zew (s : Tale) : Tale := tellN s.1.length s
def refuses (r : Receiver) (n : Int) : Prop := n < r.next ∨ n ∈ r.early ∨ (r.next < n ∧ 2 < r.early.length)
instance (r : Receiver) (n : Int) : Decidable (refuses r n) := by unfold refuses; exact inferInstance
def takes (r : Receiver) (c : Chunk) : Receiver :=
  let st := zfb (zdv c.num r.early) r.next
  let tl := zew (r.hold ++ [c], r.places, r.told)
  ⟨st.2, st.1, tl.2.1, tl.1, tl.2.2, true⟩
def rhear (r : Receiver) (c : Chunk) : Receiver :=
  if c.kind ≠ 1 then r
  else if refuses r c.num then { r with owes := true }
  else takes r c
def rsay (r : Receiver) : Receiver × Chunk × Bool := if r.owes then ({ r with owes := false }, ⟨2, r.next, 0, 0, [], r.early⟩, true) else (r, zff, false)
abbrev zcc := List (List UInt8)
structure Lane where
  s : Sender
  r : Receiver
  there : zcc
  back : zcc
deriving DecidableEq
def zdq : Lane := ⟨sender0, zer, [], []⟩
def putP (l : zcc) (b : List UInt8) : zcc := if 5 < l.length then l else l ++ [b]
def speak (l : Lane) : Lane :=
  ⟨(say l.s).1, (rsay l.r).1, if (say l.s).2.2 then putP l.there (bytes (say l.s).2.1) else l.there, if (rsay l.r).2.2 then putP l.back (bytes (rsay l.r).2.1) else l.back⟩
def way (l : Lane) (b : Bool) : zcc := if b then l.back else l.there
def withP (l : Lane) (b : Bool) (p : zcc) : Lane := if b then { l with back := p } else { l with there := p }
def flip1 (x : UInt8) : UInt8 := x ^^^ 1
def spoilAt (b : List UInt8) (at_ : Nat) : List UInt8 := b.set at_ (flip1 (b.getD at_ 0))
def comes (l : Lane) (k : Nat) (b : Bool) : Lane :=
  let p := way l b
  let l' := withP l b (p.eraseIdx k)
  let ce := read (p.getD k [])
  if ce.2 ≠ 0 then l' else if b then { l' with s := hear l'.s ce.1 } else { l' with r := rhear l'.r ce.1 }
def zcu (l : Lane) (kind n at_ : Int) (b : Bool) : Lane × Int :=
  let p := way l b
  if n < 0 ∨ (p.length : Int) ≤ n then (l, 6)
  else if kind = 4 then (withP l b (p.eraseIdx n.toNat), 0)
  else if kind = 5 then (withP l b (putP p (p.getD n.toNat [])), 0)
  else if kind = 6 then
    if at_ < 0 ∨ ((p.getD n.toNat []).length : Int) ≤ at_ then (l, 3)
    else (withP l b (p.set n.toNat (spoilAt (p.getD n.toNat []) at_.toNat)), 0)
  else (comes l n.toNat b, 0)
structure World' where
  lanes : List Lane
  ticks : Int
deriving DecidableEq
structure Step where
  kind : Int
  tenant : Int
  n : Int
  m : Int
  back : Bool
  msg : Msg
deriving DecidableEq
def zfi (n : Int) : Int := if n < 1 ∨ 3 < n then 3 else 0
def zde (n : Int) : World' := if n < 1 ∨ 3 < n then ⟨[], 0⟩ else ⟨List.replicate n.toNat zdq, 0⟩
def zdx (l : Lane) (s : Step) : Lane × Int :=
  if s.kind = 2 then ({ l with s := (put l.s s.msg).1 }, (put l.s s.msg).2) else zcu l s.kind s.n s.m s.back
def whose (w : World') : Nat := (w.ticks % w.lanes.length).toNat
def zcw (w : World') (s : Step) : World' × Int :=
  if s.kind < 1 ∨ 6 < s.kind then (w, 1)
  else if s.kind = 1 then (⟨w.lanes.set (whose w) (speak (w.lanes.getD (whose w) zdq)), w.ticks + 1⟩, 0)
  else if s.tenant < 0 ∨ (w.lanes.length : Int) ≤ s.tenant then (w, 6)
  else (⟨w.lanes.set s.tenant.toNat (zdx (w.lanes.getD s.tenant.toNat zdq) s).1, w.ticks⟩, (zdx (w.lanes.getD s.tenant.toNat zdq) s).2)
def zet (w : World') : List Step → World' × List Int
  | [] => (w, [])
  | s :: r => ((zet (zcw w s).1 r).1, (zcw w s).2 :: (zet (zcw w s).1 r).2)
def play (n : Int) (l : List Step) : World' × List Int := zet (zde n) (l.take 160)
def idleB (l : Lane) : Bool := decide (l.s.queue = []) && decide (l.s.flight = [])
def stillB (w : World') : Bool := w.lanes.all idleB
def drain : Nat → Bool → Lane → Lane
  | 0, _, l => l
  | n + 1, b, l => if way l b = [] then l else drain n b (comes l 0 b)
def zej (b : Bool) (l : Lane) : Lane := drain (way l b).length b l
def zcn (l : Lane) : Lane := zej true (zej false l)
def tick (w : World') : World' := ⟨w.lanes.set (whose w) (speak (w.lanes.getD (whose w) zdq)), w.ticks + 1⟩
def zeq (w : World') : World' := tick ⟨w.lanes.map zcn, w.ticks⟩
def zeu : Nat → World' → World' × Int
  | 0, w => (w, 0)
  | n + 1, w => if stillB w then (w, 0) else ((zeu n (zeq w)).1, (zeu n (zeq w)).2 + 1)
def zcj (c : Chunk) : List AV := [.lit (.int .i64 c.kind), .lit (.int .i64 c.num), .lit (.int .i64 c.stream), .lit (.int .i64 c.place), .shr 1 (byteCells c.data), .shr 1 (zaw c.early)]
def zao (l : List Chunk) : List (List AV) := l.map zcj
def zep (s : Sender) : List AV := [.shr 2 (zau s.queue), .lit (.int .i64 s.next), .lit (.int .i64 s.places.a), .lit (.int .i64 s.places.b), .lit (.int .i64 s.places.c), .shr 6 (zao s.flight), .lit (.int .i64 s.turn)]
def zem (r : Receiver) : List AV := [.lit (.int .i64 r.next), .shr 1 (zaw r.early), .lit (.int .i64 r.places.a), .lit (.int .i64 r.places.b), .lit (.int .i64 r.places.c), .shr 6 (zao r.hold), .shr 2 (zau r.told), .lit (.bool r.owes)]
def zat (l : zcc) : List (List AV) := l.map fun b => [.shr 1 (byteCells b)]
def zdk (l : Lane) : List AV := [.shr 2 (zau l.s.queue), .lit (.int .i64 l.s.next), .lit (.int .i64 l.s.places.a), .lit (.int .i64 l.s.places.b), .lit (.int .i64 l.s.places.c), .shr 6 (zao l.s.flight), .lit (.int .i64 l.s.turn),
  .lit (.int .i64 l.r.next), .shr 1 (zaw l.r.early), .lit (.int .i64 l.r.places.a), .lit (.int .i64 l.r.places.b), .lit (.int .i64 l.r.places.c), .shr 6 (zao l.r.hold), .shr 2 (zau l.r.told), .lit (.bool l.r.owes),
  .shr 1 (zat l.there), .shr 1 (zat l.back)]
def zcd (l : List Lane) : List (List AV) := l.map zdk
def zcz (w : World') : List AV := [.shr 17 (zcd w.lanes), .lit (.int .i64 w.ticks)]
def stepAV (s : Step) : List AV := [.lit (.int .i64 s.kind), .lit (.int .i64 s.tenant), .lit (.int .i64 s.n), .lit (.int .i64 s.m), .lit (.bool s.back), .lit (.int .i64 s.msg.1), .shr 1 (byteCells s.msg.2)]
def stepCells (l : List Step) : List (List AV) := l.map stepAV
theorem zaj (l : List Chunk) : (zao l).length = l.length := by simp [zao]
theorem zah (l : zcc) : (zat l).length = l.length := by simp [zat]
theorem zbj (l : List Lane) : (zcd l).length = l.length := by simp [zcd]
theorem zbo (l : List Step) : (stepCells l).length = l.length := by simp [stepCells]
theorem zcp {l : List Chunk} {i : Nat} (h : i < l.length) : (zao l)[i]? = some (zcj (l[i]'h)) := by simp [zao, h]
theorem zbw (l m : List Chunk) : zao (l ++ m) = zao l ++ zao m := by simp [zao]
theorem zdn (l m : zcc) : zat (l ++ m) = zat l ++ zat m := by simp [zat]
theorem laneCells_app (l m : List Lane) : zcd (l ++ m) = zcd l ++ zcd m := by simp [zcd]
theorem zfm (l m : List Step) : stepCells (l ++ m) = stepCells l ++ stepCells m := by simp [stepCells]
theorem zcs (l m : List Msg) : zau (l ++ m) = zau l ++ zau m := by simp [zau]
theorem chunkCells_take (n : Nat) (l : List Chunk) : (zao l).take n = zao (l.take n) := by simp [zao]
end Go.Proofs.Ytaadloihphpdbaa
