/- The words of the contracts: sums, messages, chunks, senders, receivers, lanes, worlds, and what is done with them; and how they lie in memory. No program is in sight. -/
import Derived.Test.YtaadloihphpdbaaVcB
set_option linter.unusedVariables false
set_option linter.unusedSimpArgs false
namespace Go.Proofs.Ytaadloihphpdbaa
open Go Go.Vc Go.RowKit
def sumStep (s : Int) (b : UInt8) : Int := (s * 139 + b.toNat + 1) % 65521
/-- The sum of bytes. -/
def sumOf (bs : List UInt8) : Int := bs.foldl sumStep 7
theorem sumStep_in (s : Int) (b : UInt8) : 0 ≤ sumStep s b ∧ sumStep s b < 65521 := by unfold sumStep; omega
theorem sumOf_snoc (bs : List UInt8) (b : UInt8) : sumOf (bs ++ [b]) = sumStep (sumOf bs) b := by simp [sumOf]
theorem sumFold_in : ∀ (bs : List UInt8) (s : Int), 0 ≤ s ∧ s < 65521 → 0 ≤ bs.foldl sumStep s ∧ bs.foldl sumStep s < 65521
  | [], s, h => h
  | b :: r, s, h => sumFold_in r _ (sumStep_in s b)
theorem sumOf_in (bs : List UInt8) : 0 ≤ sumOf bs ∧ sumOf bs < 65521 := sumFold_in bs 7 (by decide)
theorem sumOf_take {bs : List UInt8} {i : Nat} (h : i < bs.length) : sumOf (bs.take (i + 1)) = sumStep (sumOf (bs.take i)) (bs[i]'h) := by
  rw [← List.take_append_getElem h, sumOf_snoc]
/-- Bytes sealed. -/
def sealedUp (bs : List UInt8) : List UInt8 := bs ++ [u8 (sumOf bs / 256), u8 (sumOf bs)]
/-- Whether bytes are sealed ones; what they seal. -/
def opens (bs : List UInt8) : Bool := decide (2 ≤ bs.length) && (sealedUp (bs.take (bs.length - 2)) == bs)
def opened (bs : List UInt8) : List UInt8 := if opens bs then bs.take (bs.length - 2) else []
theorem split2 (bs : List UInt8) (h : 2 ≤ bs.length) : ∃ p x y, bs = p ++ [x, y] := by
  have h1 := List.take_append_drop (bs.length - 2) bs
  have h2 : (bs.drop (bs.length - 2)).length = 2 := by rw [List.length_drop]; omega
  match hd : bs.drop (bs.length - 2), h2 with
  | [x, y], _ => exact ⟨_, x, y, by rw [hd] at h1; exact h1.symm⟩
theorem u8_eq (z : Int) (x : UInt8) : u8 z = x ↔ (x.toNat : Int) = z % 256 := by
  constructor
  · rintro rfl; exact u8_toNat z
  · intro h
    apply UInt8.toNat_inj.1
    have := u8_toNat z
    omega
theorem opens_is (bs : List UInt8) (h : 2 ≤ bs.length) : opens bs = (decide (((bs[bs.length - 2]'(by omega)).toNat : Int) = sumOf (bs.take (bs.length - 2)) / 256 % 256) && decide (((bs[bs.length - 1]'(by omega)).toNat : Int) = sumOf (bs.take (bs.length - 2)) % 256)) := by
  obtain ⟨p, x, y, rfl⟩ := split2 bs h
  have e : (p ++ [x, y]).length - 2 = p.length := by simp
  have e1 : (p ++ [x, y]).length - 1 = p.length + 1 := by simp
  have ht : (p ++ [x, y]).take ((p ++ [x, y]).length - 2) = p := by rw [e]; simp
  have hx : (p ++ [x, y])[(p ++ [x, y]).length - 2]'(by omega) = x := by simp [e]
  have hy : (p ++ [x, y])[(p ++ [x, y]).length - 1]'(by omega) = y := by simp [e1]
  unfold opens
  rw [ht, hx, hy, decide_eq_true h, Bool.true_and]
  unfold sealedUp
  by_cases h1 : (x.toNat : Int) = sumOf p / 256 % 256
  · by_cases h2 : (y.toNat : Int) = sumOf p % 256
    · rw [(u8_eq _ _).2 h1, (u8_eq _ _).2 h2]; simp [h1, h2]
    · have : u8 (sumOf p) ≠ y := fun e => h2 ((u8_eq _ _).1 e)
      simp [h2, this]
  · have : u8 (sumOf p / 256) ≠ x := fun e => h1 ((u8_eq _ _).1 e)
    simp [h1, this]
theorem sealed_length (bs : List UInt8) : (sealedUp bs).length = bs.length + 2 := by simp [sealedUp]
theorem sealed_take (bs : List UInt8) : (sealedUp bs).take ((sealedUp bs).length - 2) = bs := by
  rw [sealed_length, show bs.length + 2 - 2 = bs.length by omega]; simp [sealedUp]
theorem opens_sealed (bs : List UInt8) : opens (sealedUp bs) = true := by
  unfold opens; rw [sealed_take, sealed_length]; simp
theorem opened_sealed (bs : List UInt8) : opened (sealedUp bs) = bs := by
  unfold opened; rw [if_pos (opens_sealed bs), sealed_take]
theorem set_u8 (s : List UInt8) (i : Nat) (n : Int) (hn : 0 ≤ n ∧ n ≤ 255) (u : AV) : (byteCells s).set i (wrA [u] 0 [.lit (.int .u8 n)]) = byteCells (s.set i (u8 n)) := by
  rw [← byteCells_set]
  have : ((u8 n).toNat : Int) = n := by rw [u8_toNat]; omega
  rw [this]; rfl
/-- A message: its stream, its bytes. -/
abbrev Msg := Int × List UInt8
def msgAV (m : Msg) : List AV := [.lit (.int .i64 m.1), .shr 1 (byteCells m.2)]
def msgCells (l : List Msg) : List (List AV) := l.map msgAV
theorem msgCells_length (l : List Msg) : (msgCells l).length = l.length := by simp [msgCells]
theorem msgCells_get {l : List Msg} {i : Nat} (h : i < l.length) : (msgCells l)[i]? = some [.lit (.int .i64 (l[i]'h).1), .shr 1 (byteCells (l[i]'h).2)] := by simp [msgCells, msgAV, h]
def wrongMsg (m : Msg) : Int := if m.1 < 0 ∨ 2 < m.1 then 3 else if 6 < m.2.length then 4 else 0
theorem wrongMsg1 {m : Msg} (h : m.1 < 0 ∨ 2 < m.1) : wrongMsg m = 3 := if_pos h
theorem wrongMsg2 {m : Msg} (h : ¬ (m.1 < 0 ∨ 2 < m.1)) (h2 : 6 < m.2.length) : wrongMsg m = 4 := by rw [wrongMsg, if_neg h, if_pos h2]
theorem wrongMsg3 {m : Msg} (h : ¬ (m.1 < 0 ∨ 2 < m.1)) (h2 : ¬ 6 < m.2.length) : wrongMsg m = 0 := by rw [wrongMsg, if_neg h, if_neg h2]
/-- Those of a stream. -/
def ofStream (s : Int) (l : List Msg) : List Msg := l.filter fun m => decide (m.1 = s)
theorem ofStream_len (s : Int) (l : List Msg) : (ofStream s l).length ≤ l.length := List.length_filter_le _ _
theorem ofStreamY {s : Int} {l : List Msg} {i : Nat} (h : i < l.length) (e : (l[i]'h).1 = s) : ofStream s (l.take (i + 1)) = ofStream s (l.take i) ++ [l[i]'h] := by
  unfold ofStream; rw [List.take_add_one, List.getElem?_eq_getElem h, List.filter_append]; simp [e]
theorem ofStreamN {s : Int} {l : List Msg} {i : Nat} (h : i < l.length) (e : (l[i]'h).1 ≠ s) : ofStream s (l.take (i + 1)) = ofStream s (l.take i) := by
  unfold ofStream; rw [List.take_add_one, List.getElem?_eq_getElem h, List.filter_append]; simp [e]
theorem msgCells_snoc (l : List Msg) (m : Msg) : msgCells (l ++ [m]) = msgCells l ++ [[.lit (.int .i64 m.1), .shr 1 (byteCells m.2)]] := by simp [msgCells, msgAV]
theorem msgCells_take (n : Nat) (l : List Msg) : (msgCells l).take n = msgCells (l.take n) := by simp [msgCells]
/-- In one stream what was told is the beginning of what was put. -/
def fits1 (s : Int) (t p : List Msg) : Bool := decide ((ofStream s t).length ≤ (ofStream s p).length) && (ofStream s t == (ofStream s p).take (ofStream s t).length)
def fits (t p : List Msg) : Bool := fits1 ((0 : Nat) : Int) t p && (fits1 ((1 : Nat) : Int) t p && fits1 ((2 : Nat) : Int) t p)
theorem fitsN {t p : List Msg} {i : Nat} (hi : i < 3) (h : fits1 (i : Int) t p = false) : fits t p = false := by
  unfold fits
  rcases (by omega : i = 0 ∨ i = 1 ∨ i = 2) with rfl | rfl | rfl <;> rw [h] <;> simp
theorem fitsY {t p : List Msg} (h : ∀ j : Nat, j < 3 → fits1 (j : Int) t p = true) : fits t p = true := by
  unfold fits; rw [h 0 (by decide), h 1 (by decide), h 2 (by decide)]; rfl

theorem step_inj (s s' : Int) (b : UInt8) (h : 0 ≤ s ∧ s < 65521) (h' : 0 ≤ s' ∧ s' < 65521) (e : sumStep s b = sumStep s' b) : s = s' := by
  unfold sumStep at e; omega
theorem fold_inj : ∀ (l : List UInt8) (s s' : Int), 0 ≤ s ∧ s < 65521 → 0 ≤ s' ∧ s' < 65521 → l.foldl sumStep s = l.foldl sumStep s' → s = s'
  | [], s, s', _, _, e => e
  | b :: l, s, s', h, h', e => step_inj s s' b h h' (fold_inj l _ _ (sumStep_in s b) (sumStep_in s' b) e)
theorem sum_set (bs : List UInt8) (i : Nat) (x : UInt8) (hi : i < bs.length) (hx : bs[i] ≠ x) : sumOf (bs.set i x) ≠ sumOf bs := by
  intro e
  have h1 : bs = bs.take i ++ bs[i] :: bs.drop (i + 1) := by simp
  have h2 : bs.set i x = bs.take i ++ x :: bs.drop (i + 1) := by rw [List.set_eq_take_append_cons_drop, if_pos hi]
  have e1 : sumOf (bs.set i x) = (bs.drop (i + 1)).foldl sumStep (sumStep (sumOf (bs.take i)) x) := by rw [h2]; simp [sumOf]
  have e2 : sumOf bs = (bs.drop (i + 1)).foldl sumStep (sumStep (sumOf (bs.take i)) bs[i]) :=
    (congrArg sumOf h1).trans (by unfold sumOf; rw [List.foldl_append]; rfl)
  rw [e1, e2] at e
  have h3 := fold_inj _ _ _ (sumStep_in _ _) (sumStep_in _ _) e
  unfold sumStep at h3
  have hs := sumOf_in (bs.take i)
  have u1 := x.toNat_lt
  have u2 := bs[i].toNat_lt
  exact hx (UInt8.toNat_inj.1 (by omega))
theorem byte_found (bs : List UInt8) (i : Nat) (n : Int) (hn : 0 ≤ n ∧ n ≤ 255) (hi : i < (sealedUp bs).length) (hx : (((sealedUp bs)[i]).toNat : Int) ≠ n) : opens ((sealedUp bs).set i (u8 n)) = false := by
  have hx' : (sealedUp bs)[i] ≠ u8 n := by
    intro e; apply hx; rw [e, u8_toNat]; omega
  cases ho : opens ((sealedUp bs).set i (u8 n)) with
  | false => rfl
  | true =>
    exfalso
    unfold opens at ho
    rw [List.length_set, sealed_length] at ho
    have ho2 := ((Bool.and_eq_true _ _).mp ho).2
    rw [beq_iff_eq, show bs.length + 2 - 2 = bs.length by omega] at ho2
    rw [sealed_length] at hi
    rcases Nat.lt_or_ge i bs.length with h | h
    · have e1 : ((sealedUp bs).set i (u8 n)) = bs.set i (u8 n) ++ [u8 (sumOf bs / 256), u8 (sumOf bs)] := by
        unfold sealedUp; rw [List.set_append_left _ _ h]
      have e2 : ((sealedUp bs).set i (u8 n)).take bs.length = bs.set i (u8 n) := by rw [e1]; exact List.take_left' (by simp)
      rw [e2, e1] at ho2
      unfold sealedUp at ho2
      have h4 := List.append_cancel_left ho2
      simp only [List.cons.injEq, and_true] at h4
      have hb : bs[i] ≠ u8 n := by
        intro e; apply hx'; rw [← e]; simp [sealedUp, List.getElem_append_left h]
      apply sum_set bs i (u8 n) h hb
      have a1 := sumOf_in bs
      have a2 := sumOf_in (bs.set i (u8 n))
      have b1 := u8_toNat (sumOf bs)
      have b2 := u8_toNat (sumOf (bs.set i (u8 n)))
      have b3 := u8_toNat (sumOf bs / 256)
      have b4 := u8_toNat (sumOf (bs.set i (u8 n)) / 256)
      rw [h4.1] at b4
      rw [h4.2] at b2
      omega
    · have e2 : ((sealedUp bs).set i (u8 n)).take bs.length = bs := by
        rw [List.take_set_of_le h]; simp [sealedUp]
      rw [e2] at ho2
      have := congrArg (fun l => l[i]?) ho2
      simp only [List.getElem?_set_self (show i < (sealedUp bs).length by rw [sealed_length]; exact hi)] at this
      rw [List.getElem?_eq_getElem (by rw [sealed_length]; exact hi)] at this
      exact hx' (Option.some.inj this)
/-! ### Chunks -/
structure Chunk where
  kind : Int
  num : Int
  stream : Int
  place : Int
  data : List UInt8
  early : List Int
deriving DecidableEq
def chunk0 : Chunk := ⟨0, 0, 0, 0, [], []⟩
/-- Rising, above a number, and below 40. -/
def rising : Int → List Int → Bool
  | _, [] => true
  | last, n :: r => decide (last < n) && (decide (n < 40) && rising n r)
def wrong (c : Chunk) : Int :=
  if c.kind ≠ 1 ∧ c.kind ≠ 2 then 1
  else if c.num < 0 ∨ 40 < c.num then 3
  else if c.kind = 1 then
    if 39 < c.num ∨ c.place < 0 ∨ c.num < c.place then 3
    else if 0 < c.early.length then 5
    else wrongMsg (c.stream, c.data)
  else if c.stream ≠ 0 ∨ c.place ≠ 0 then 3
  else if 0 < c.data.length ∨ 3 < c.early.length then 5
  else if rising c.num c.early then 0 else 3
def body (c : Chunk) : List UInt8 := [u8 c.kind, u8 c.num] ++ (if c.kind = 1 then [u8 c.stream, u8 c.place] ++ c.data else []) ++ c.early.map u8
def bytes (c : Chunk) : List UInt8 := sealedUp (body c)
def ints (l : List UInt8) : List Int := l.map fun b => (b.toNat : Int)
/-- What bytes say that were sealed. -/
def parsed : List UInt8 → Chunk
  | k :: n :: r => if k.toNat = 1 then (match r with | s :: p :: d => ⟨1, n.toNat, s.toNat, p.toNat, d, []⟩ | _ => chunk0) else ⟨k.toNat, n.toNat, 0, 0, [], ints r⟩
  | _ => chunk0
def short (x : List UInt8) : Bool := match x with
  | k :: _ :: r => decide (k.toNat = 1) && decide (r.length < 2)
  | _ => true
def read (b : List UInt8) : Chunk × Int :=
  if opens b = false then (chunk0, 7)
  else if short (opened b) then (chunk0, 8)
  else if wrong (parsed (opened b)) ≠ 0 then (chunk0, wrong (parsed (opened b)))
  else (parsed (opened b), 0)

/-! ### Senders, receivers -/
structure Places where
  a : Int
  b : Int
  c : Int
deriving DecidableEq
def Places.get (p : Places) (s : Int) : Int := if s = 0 then p.a else if s = 1 then p.b else p.c
def Places.bump (p : Places) (s : Int) : Places := if s = 0 then ⟨p.a + 1, p.b, p.c⟩ else if s = 1 then ⟨p.a, p.b + 1, p.c⟩ else ⟨p.a, p.b, p.c + 1⟩
structure Sender where
  queue : List Msg
  next : Int
  places : Places
  flight : List Chunk
  turn : Int
deriving DecidableEq
structure Receiver where
  next : Int
  early : List Int
  places : Places
  hold : List Chunk
  told : List Msg
  owes : Bool
deriving DecidableEq
def places0 : Places := ⟨0, 0, 0⟩
def sender0 : Sender := ⟨[], 0, places0, [], 0⟩
def receiver0 : Receiver := ⟨0, [], places0, [], [], false⟩
def put (s : Sender) (m : Msg) : Sender × Int :=
  if wrongMsg m ≠ 0 then (s, wrongMsg m)
  else if 5 < s.queue.length then (s, 9)
  else if 39 < s.next + s.queue.length then (s, 4)
  else ({ s with queue := s.queue ++ [m] }, 0)
def newChunk (s : Sender) (m : Msg) : Chunk := ⟨1, s.next, m.1, s.places.get m.1, m.2, []⟩
def sayNew (s : Sender) (m : Msg) (q : List Msg) : Sender × Chunk × Bool := (⟨q, s.next + 1, s.places.bump m.1, s.flight ++ [newChunk s m], s.turn⟩, newChunk s m, true)
def sayOld (s : Sender) : Sender × Chunk × Bool := ({ s with turn := s.turn % s.flight.length + 1 }, s.flight.getD (s.turn % s.flight.length).toNat chunk0, true)
def say (s : Sender) : Sender × Chunk × Bool := match s.queue with
  | m :: q => if s.flight.length < 4 then sayNew s m q else sayOld s
  | [] => if s.flight = [] then (s, chunk0, false) else sayOld s
def told (c x : Chunk) : Bool := decide (x.num < c.num) || c.early.contains x.num
def hear (s : Sender) (c : Chunk) : Sender := if c.kind ≠ 2 then s else { s with flight := s.flight.filter fun x => !told c x }

def insertS (n : Int) (l : List Int) : List Int := l.takeWhile (fun x => decide (x < n)) ++ n :: l.dropWhile (fun x => decide (x < n))
def strip : List Int → Int → List Int × Int
  | n :: r, x => if n = x then strip r (x + 1) else (n :: r, x)
  | [], x => ([], x)
def readyB (p : Places) (c : Chunk) : Bool := decide (c.place = p.get c.stream)
abbrev Tale := List Chunk × Places × List Msg
def tell1 (s : Tale) : Option Tale := match s.1.find? (readyB s.2.1) with
  | none => none
  | some c => some (s.1.eraseIdx (s.1.findIdx (readyB s.2.1)), s.2.1.bump c.stream, s.2.2 ++ [(c.stream, c.data)])
def tellN : Nat → Tale → Tale
  | 0, s => s
  | n + 1, s => match tell1 s with
    | none => s
    | some t => tellN n t
def tellAll (s : Tale) : Tale := tellN s.1.length s
def refuses (r : Receiver) (n : Int) : Prop := n < r.next ∨ n ∈ r.early ∨ (r.next < n ∧ 2 < r.early.length)
instance (r : Receiver) (n : Int) : Decidable (refuses r n) := by unfold refuses; exact inferInstance
def takes (r : Receiver) (c : Chunk) : Receiver :=
  let st := strip (insertS c.num r.early) r.next
  let tl := tellAll (r.hold ++ [c], r.places, r.told)
  ⟨st.2, st.1, tl.2.1, tl.1, tl.2.2, true⟩
def rhear (r : Receiver) (c : Chunk) : Receiver :=
  if c.kind ≠ 1 then r
  else if refuses r c.num then { r with owes := true }
  else takes r c
def rsay (r : Receiver) : Receiver × Chunk × Bool := if r.owes then ({ r with owes := false }, ⟨2, r.next, 0, 0, [], r.early⟩, true) else (r, chunk0, false)

/-! ### Lanes, worlds -/
abbrev Packets := List (List UInt8)
structure Lane where
  s : Sender
  r : Receiver
  there : Packets
  back : Packets
deriving DecidableEq
def lane0 : Lane := ⟨sender0, receiver0, [], []⟩
def putP (l : Packets) (b : List UInt8) : Packets := if 5 < l.length then l else l ++ [b]
def speak (l : Lane) : Lane :=
  ⟨(say l.s).1, (rsay l.r).1, if (say l.s).2.2 then putP l.there (bytes (say l.s).2.1) else l.there, if (rsay l.r).2.2 then putP l.back (bytes (rsay l.r).2.1) else l.back⟩
def way (l : Lane) (b : Bool) : Packets := if b then l.back else l.there
def withP (l : Lane) (b : Bool) (p : Packets) : Lane := if b then { l with back := p } else { l with there := p }
def flip1 (x : UInt8) : UInt8 := x ^^^ 1
def spoilAt (b : List UInt8) (at_ : Nat) : List UInt8 := b.set at_ (flip1 (b.getD at_ 0))
def comes (l : Lane) (k : Nat) (b : Bool) : Lane :=
  let p := way l b
  let l' := withP l b (p.eraseIdx k)
  let ce := read (p.getD k [])
  if ce.2 ≠ 0 then l' else if b then { l' with s := hear l'.s ce.1 } else { l' with r := rhear l'.r ce.1 }
def packet (l : Lane) (kind n at_ : Int) (b : Bool) : Lane × Int :=
  let p := way l b
  if n < 0 ∨ (p.length : Int) ≤ n then (l, 6)
  else if kind = 4 then (withP l b (p.eraseIdx n.toNat), 0)
  else if kind = 5 then (withP l b (putP p (p.getD n.toNat [])), 0)
  else if kind = 6 then
    if at_ < 0 ∨ ((p.getD n.toNat []).length : Int) ≤ at_ then (l, 3)
    else (withP l b (p.set n.toNat (spoilAt (p.getD n.toNat []) at_.toNat)), 0)
  else (comes l n.toNat b, 0)
structure World' where
  lanes : List Lane
  ticks : Int
deriving DecidableEq
structure Step where
  kind : Int
  tenant : Int
  n : Int
  m : Int
  back : Bool
  msg : Msg
deriving DecidableEq
def newErr (n : Int) : Int := if n < 1 ∨ 3 < n then 3 else 0
def newWorld (n : Int) : World' := if n < 1 ∨ 3 < n then ⟨[], 0⟩ else ⟨List.replicate n.toNat lane0, 0⟩
def stepLane (l : Lane) (s : Step) : Lane × Int :=
  if s.kind = 2 then ({ l with s := (put l.s s.msg).1 }, (put l.s s.msg).2) else packet l s.kind s.n s.m s.back
def whose (w : World') : Nat := (w.ticks % w.lanes.length).toNat
def doStep (w : World') (s : Step) : World' × Int :=
  if s.kind < 1 ∨ 6 < s.kind then (w, 1)
  else if s.kind = 1 then (⟨w.lanes.set (whose w) (speak (w.lanes.getD (whose w) lane0)), w.ticks + 1⟩, 0)
  else if s.tenant < 0 ∨ (w.lanes.length : Int) ≤ s.tenant then (w, 6)
  else (⟨w.lanes.set s.tenant.toNat (stepLane (w.lanes.getD s.tenant.toNat lane0) s).1, w.ticks⟩, (stepLane (w.lanes.getD s.tenant.toNat lane0) s).2)
/-- Steps, one behind the other; and their errors. -/
def plays (w : World') : List Step → World' × List Int
  | [] => (w, [])
  | s :: r => ((plays (doStep w s).1 r).1, (doStep w s).2 :: (plays (doStep w s).1 r).2)
def play (n : Int) (l : List Step) : World' × List Int := plays (newWorld n) (l.take 160)
def isPut (t : Int) (s : Step) : Bool := decide (s.kind = 2) && decide (s.tenant = t)
/-- The messages that a tenant's steps put. -/
def putsOf (t : Int) : List Step → List Int → List Msg
  | s :: r, e :: es => if e = 0 ∧ isPut t s = true then s.msg :: putsOf t r es else putsOf t r es
  | _, _ => []
def idleB (l : Lane) : Bool := decide (l.s.queue = []) && decide (l.s.flight = [])
def stillB (w : World') : Bool := w.lanes.all idleB
/-- All packets come, the first one first. -/
def drain : Nat → Bool → Lane → Lane
  | 0, _, l => l
  | n + 1, b, l => if way l b = [] then l else drain n b (comes l 0 b)
def drainAll (b : Bool) (l : Lane) : Lane := drain (way l b).length b l
def settleLane (l : Lane) : Lane := drainAll true (drainAll false l)
def tick (w : World') : World' := ⟨w.lanes.set (whose w) (speak (w.lanes.getD (whose w) lane0)), w.ticks + 1⟩
def roundW (w : World') : World' := tick ⟨w.lanes.map settleLane, w.ticks⟩
def settle : Nat → World' → World' × Int
  | 0, w => (w, 0)
  | n + 1, w => if stillB w then (w, 0) else ((settle n (roundW w)).1, (settle n (roundW w)).2 + 1)

/-! ### How they lie in memory -/
def li (n : Int) : AV := .lit (.int .i64 n)
def lb (b : Bool) : AV := .lit (.bool b)
def chunkAV (c : Chunk) : List AV := [.lit (.int .i64 c.kind), .lit (.int .i64 c.num), .lit (.int .i64 c.stream), .lit (.int .i64 c.place), .shr 1 (byteCells c.data), .shr 1 (intCells c.early)]
def chunkCells (l : List Chunk) : List (List AV) := l.map chunkAV
def senderAV (s : Sender) : List AV := [.shr 2 (msgCells s.queue), .lit (.int .i64 s.next), .lit (.int .i64 s.places.a), .lit (.int .i64 s.places.b), .lit (.int .i64 s.places.c), .shr 6 (chunkCells s.flight), .lit (.int .i64 s.turn)]
def receiverAV (r : Receiver) : List AV := [.lit (.int .i64 r.next), .shr 1 (intCells r.early), .lit (.int .i64 r.places.a), .lit (.int .i64 r.places.b), .lit (.int .i64 r.places.c), .shr 6 (chunkCells r.hold), .shr 2 (msgCells r.told), .lit (.bool r.owes)]
def packCells (l : Packets) : List (List AV) := l.map fun b => [.shr 1 (byteCells b)]
def laneAV (l : Lane) : List AV := [.shr 2 (msgCells l.s.queue), .lit (.int .i64 l.s.next), .lit (.int .i64 l.s.places.a), .lit (.int .i64 l.s.places.b), .lit (.int .i64 l.s.places.c), .shr 6 (chunkCells l.s.flight), .lit (.int .i64 l.s.turn),
  .lit (.int .i64 l.r.next), .shr 1 (intCells l.r.early), .lit (.int .i64 l.r.places.a), .lit (.int .i64 l.r.places.b), .lit (.int .i64 l.r.places.c), .shr 6 (chunkCells l.r.hold), .shr 2 (msgCells l.r.told), .lit (.bool l.r.owes),
  .shr 1 (packCells l.there), .shr 1 (packCells l.back)]
def laneCells (l : List Lane) : List (List AV) := l.map laneAV
def worldAV (w : World') : List AV := [.shr 17 (laneCells w.lanes), .lit (.int .i64 w.ticks)]
def stepAV (s : Step) : List AV := [.lit (.int .i64 s.kind), .lit (.int .i64 s.tenant), .lit (.int .i64 s.n), .lit (.int .i64 s.m), .lit (.bool s.back), .lit (.int .i64 s.msg.1), .shr 1 (byteCells s.msg.2)]
def stepCells (l : List Step) : List (List AV) := l.map stepAV
theorem chunkCells_length (l : List Chunk) : (chunkCells l).length = l.length := by simp [chunkCells]
theorem packCells_length (l : Packets) : (packCells l).length = l.length := by simp [packCells]
theorem laneCells_length (l : List Lane) : (laneCells l).length = l.length := by simp [laneCells]
theorem stepCells_length (l : List Step) : (stepCells l).length = l.length := by simp [stepCells]
theorem chunkCells_get {l : List Chunk} {i : Nat} (h : i < l.length) : (chunkCells l)[i]? = some (chunkAV (l[i]'h)) := by simp [chunkCells, h]
theorem packCells_get {l : Packets} {i : Nat} (h : i < l.length) : (packCells l)[i]? = some [.shr 1 (byteCells (l[i]'h))] := by simp [packCells, h]
theorem laneCells_get {l : List Lane} {i : Nat} (h : i < l.length) : (laneCells l)[i]? = some (laneAV (l[i]'h)) := by simp [laneCells, h]
theorem stepCells_get {l : List Step} {i : Nat} (h : i < l.length) : (stepCells l)[i]? = some (stepAV (l[i]'h)) := by simp [stepCells, h]
theorem chunkCells_app (l m : List Chunk) : chunkCells (l ++ m) = chunkCells l ++ chunkCells m := by simp [chunkCells]
theorem packCells_app (l m : Packets) : packCells (l ++ m) = packCells l ++ packCells m := by simp [packCells]
theorem laneCells_app (l m : List Lane) : laneCells (l ++ m) = laneCells l ++ laneCells m := by simp [laneCells]
theorem stepCells_app (l m : List Step) : stepCells (l ++ m) = stepCells l ++ stepCells m := by simp [stepCells]
theorem msgCells_app (l m : List Msg) : msgCells (l ++ m) = msgCells l ++ msgCells m := by simp [msgCells]
theorem intCells_app (l m : List Int) : intCells (l ++ m) = intCells l ++ intCells m := by simp [intCells]
theorem chunkCells_take (n : Nat) (l : List Chunk) : (chunkCells l).take n = chunkCells (l.take n) := by simp [chunkCells]
theorem chunkCells_drop (n : Nat) (l : List Chunk) : (chunkCells l).drop n = chunkCells (l.drop n) := by simp [chunkCells]
theorem packCells_take (n : Nat) (l : Packets) : (packCells l).take n = packCells (l.take n) := by simp [packCells]
theorem packCells_drop (n : Nat) (l : Packets) : (packCells l).drop n = packCells (l.drop n) := by simp [packCells]
theorem laneCells_take (n : Nat) (l : List Lane) : (laneCells l).take n = laneCells (l.take n) := by simp [laneCells]
theorem stepCells_take (n : Nat) (l : List Step) : (stepCells l).take n = stepCells (l.take n) := by simp [stepCells]
theorem msgCells_drop (n : Nat) (l : List Msg) : (msgCells l).drop n = msgCells (l.drop n) := by simp [msgCells]
theorem intCells_take (n : Nat) (l : List Int) : (intCells l).take n = intCells (l.take n) := by simp [intCells]
theorem intCells_drop (n : Nat) (l : List Int) : (intCells l).drop n = intCells (l.drop n) := by simp [intCells]
end Go.Proofs.Ytaadloihphpdbaa
