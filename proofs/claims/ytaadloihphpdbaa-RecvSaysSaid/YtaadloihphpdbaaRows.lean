/-
  No cell of these rows narrows 'for every input' (looked for: loops, veiled, ifaces, maps, wideKeys, modest, calm, conditions, laid).
  DERIVED. THE GIVEN ROWS OF THIS SEAT. 40 by the template 'for every input the law returns true; each argument reads behind the call as it read before'; 0 by the template 'total and deterministic' (their statements: YtaadloihphpdbaaTotals.lean).
  GIVEN WITH THE SEED: the statements are not yours to turn. If you find one false, say at which input.
  Laid BY PROGRAM, IN A SANDBOX (cutbox-rows.mjs): the forced cells as the released guide's own fill.sh prints them over the translation 40a657204ada85d3… (all of the seat's roots in one cut). By AI agents, Wed Nov 11 2026. No macro, syntax, notation, axiom, sorry.
-/
import Derived.Test.YtaadloihphpdbaaChecked
import GoSem.Claim
import GoSem.ClaimJoined
import GoSem.ClaimMapViews
import Derived.JoinedTies
import Derived.KernelRfl
namespace Go.Proofs.Ytaadloihphpdbaa
/- THE CELL 'sum', in the pinned program and in every row, IS THE sha256 OF THE DUMP (.gsa) THAT YtaadloihphpdbaaProg.lean LOADS. Nothing in Lean hashes anything: it is a label: what it is worth is what the hold of that sum in a sandbox is worth. -/
noncomputable def Try.pinned : Pinned := { name := "ytaadloihphpdbaa", sum := "40a657204ada85d348005e4a9c94627fcf4663a17881964da3cbc4d73a9601fe", checked := Try.checked }
namespace Rows
def none {H : Type} : Left H := { results := [], args := [] }

/-- 'lklaw11.LookTells': WHATEVER THE INPUT: true; the input reads as it did. -/
def lookTellsSpec : ChangeSpec := { name := "lookTells", fn := fun _ => fun
  | [d1, d2] => { results := [.lit (.bool true)], args := [d1, d2] }
  | _ => none }
def lookTellsRow : OpenClaim := { program := "ytaadloihphpdbaa", sum := "40a657204ada85d348005e4a9c94627fcf4663a17881964da3cbc4d73a9601fe", func := "lanekeeper/lklaw11.LookTells", spec := "lookTells", unfollowed := true, recurses := true, apart := false }
def LookTellsSaid : Prop := lookTellsRow.holds Try.pinned (OpenSpec.ofChange lookTellsSpec)

/-- ITS FALSE NEIGHBOUR: 'it returns false'. Refute it at one input. -/
def lookTellsWrong : ChangeSpec := { name := "lookTells", fn := fun _ => fun
  | [d1, d2] => { results := [.lit (.bool false)], args := [d1, d2] }
  | _ => none }
def LookTellsWrongFalsely : Prop := lookTellsRow.holds Try.pinned (OpenSpec.ofChange lookTellsWrong)

/-- 'lklaw11.LookBound': WHATEVER THE INPUT: true; the input reads as it did. -/
def lookBoundSpec : ChangeSpec := { name := "lookBound", fn := fun _ => fun
  | [d1, d2] => { results := [.lit (.bool true)], args := [d1, d2] }
  | _ => none }
def lookBoundRow : OpenClaim := { program := "ytaadloihphpdbaa", sum := "40a657204ada85d348005e4a9c94627fcf4663a17881964da3cbc4d73a9601fe", func := "lanekeeper/lklaw11.LookBound", spec := "lookBound", unfollowed := true, recurses := true, apart := false }
def LookBoundSaid : Prop := lookBoundRow.holds Try.pinned (OpenSpec.ofChange lookBoundSpec)

/-- ITS FALSE NEIGHBOUR: 'it returns false'. Refute it at one input. -/
def lookBoundWrong : ChangeSpec := { name := "lookBound", fn := fun _ => fun
  | [d1, d2] => { results := [.lit (.bool false)], args := [d1, d2] }
  | _ => none }
def LookBoundWrongFalsely : Prop := lookBoundRow.holds Try.pinned (OpenSpec.ofChange lookBoundWrong)

/-- 'lklaw11.LookKnows': WHATEVER THE INPUT: true; the input reads as it did. -/
def lookKnowsSpec : ChangeSpec := { name := "lookKnows", fn := fun _ => fun
  | [d1, d2] => { results := [.lit (.bool true)], args := [d1, d2] }
  | _ => none }
def lookKnowsRow : OpenClaim := { program := "ytaadloihphpdbaa", sum := "40a657204ada85d348005e4a9c94627fcf4663a17881964da3cbc4d73a9601fe", func := "lanekeeper/lklaw11.LookKnows", spec := "lookKnows", unfollowed := true, recurses := true, apart := false }
def LookKnowsSaid : Prop := lookKnowsRow.holds Try.pinned (OpenSpec.ofChange lookKnowsSpec)

/-- ITS FALSE NEIGHBOUR: 'it returns false'. Refute it at one input. -/
def lookKnowsWrong : ChangeSpec := { name := "lookKnows", fn := fun _ => fun
  | [d1, d2] => { results := [.lit (.bool false)], args := [d1, d2] }
  | _ => none }
def LookKnowsWrongFalsely : Prop := lookKnowsRow.holds Try.pinned (OpenSpec.ofChange lookKnowsWrong)

/-- 'lklaw8.SlotTells': WHATEVER THE INPUT: true; the input reads as it did. -/
def slotTellsSpec : ChangeSpec := { name := "slotTells", fn := fun _ => fun
  | [d1, d2, d3, d4] => { results := [.lit (.bool true)], args := [d1, d2, d3, d4] }
  | _ => none }
def slotTellsRow : OpenClaim := { program := "ytaadloihphpdbaa", sum := "40a657204ada85d348005e4a9c94627fcf4663a17881964da3cbc4d73a9601fe", func := "lanekeeper/lklaw8.SlotTells", spec := "slotTells", apart := false }
def SlotTellsSaid : Prop := slotTellsRow.holds Try.pinned (OpenSpec.ofChange slotTellsSpec)

/-- ITS FALSE NEIGHBOUR: 'it returns false'. Refute it at one input. -/
def slotTellsWrong : ChangeSpec := { name := "slotTells", fn := fun _ => fun
  | [d1, d2, d3, d4] => { results := [.lit (.bool false)], args := [d1, d2, d3, d4] }
  | _ => none }
def SlotTellsWrongFalsely : Prop := slotTellsRow.holds Try.pinned (OpenSpec.ofChange slotTellsWrong)

/-- 'lklaw8.SlotSoon': WHATEVER THE INPUT: true; the input reads as it did. -/
def slotSoonSpec : ChangeSpec := { name := "slotSoon", fn := fun _ => fun
  | [d1, d2, d3] => { results := [.lit (.bool true)], args := [d1, d2, d3] }
  | _ => none }
def slotSoonRow : OpenClaim := { program := "ytaadloihphpdbaa", sum := "40a657204ada85d348005e4a9c94627fcf4663a17881964da3cbc4d73a9601fe", func := "lanekeeper/lklaw8.SlotSoon", spec := "slotSoon", apart := false }
def SlotSoonSaid : Prop := slotSoonRow.holds Try.pinned (OpenSpec.ofChange slotSoonSpec)

/-- ITS FALSE NEIGHBOUR: 'it returns false'. Refute it at one input. -/
def slotSoonWrong : ChangeSpec := { name := "slotSoon", fn := fun _ => fun
  | [d1, d2, d3] => { results := [.lit (.bool false)], args := [d1, d2, d3] }
  | _ => none }
def SlotSoonWrongFalsely : Prop := slotSoonRow.holds Try.pinned (OpenSpec.ofChange slotSoonWrong)

/-- 'lklaw8.SlotShare': WHATEVER THE INPUT: true; the input reads as it did. -/
def slotShareSpec : ChangeSpec := { name := "slotShare", fn := fun _ => fun
  | [d1, d2, d3] => { results := [.lit (.bool true)], args := [d1, d2, d3] }
  | _ => none }
def slotShareRow : OpenClaim := { program := "ytaadloihphpdbaa", sum := "40a657204ada85d348005e4a9c94627fcf4663a17881964da3cbc4d73a9601fe", func := "lanekeeper/lklaw8.SlotShare", spec := "slotShare", apart := false }
def SlotShareSaid : Prop := slotShareRow.holds Try.pinned (OpenSpec.ofChange slotShareSpec)

/-- ITS FALSE NEIGHBOUR: 'it returns false'. Refute it at one input. -/
def slotShareWrong : ChangeSpec := { name := "slotShare", fn := fun _ => fun
  | [d1, d2, d3] => { results := [.lit (.bool false)], args := [d1, d2, d3] }
  | _ => none }
def SlotShareWrongFalsely : Prop := slotShareRow.holds Try.pinned (OpenSpec.ofChange slotShareWrong)

/-- 'lklaw1.SumTells': WHATEVER THE INPUT: true; the input reads as it did. -/
def sumTellsSpec : ChangeSpec := { name := "sumTells", fn := fun _ => fun
  | [d] => { results := [.lit (.bool true)], args := [d] }
  | _ => none }
def sumTellsRow : OpenClaim := { program := "ytaadloihphpdbaa", sum := "40a657204ada85d348005e4a9c94627fcf4663a17881964da3cbc4d73a9601fe", func := "lanekeeper/lklaw1.SumTells", spec := "sumTells", apart := false }
def SumTellsSaid : Prop := sumTellsRow.holds Try.pinned (OpenSpec.ofChange sumTellsSpec)

/-- ITS FALSE NEIGHBOUR: 'it returns false'. Refute it at one input. -/
def sumTellsWrong : ChangeSpec := { name := "sumTells", fn := fun _ => fun
  | [d] => { results := [.lit (.bool false)], args := [d] }
  | _ => none }
def SumTellsWrongFalsely : Prop := sumTellsRow.holds Try.pinned (OpenSpec.ofChange sumTellsWrong)

/-- 'lklaw1.SumByte': WHATEVER THE INPUT: true; the input reads as it did. -/
def sumByteSpec : ChangeSpec := { name := "sumByte", fn := fun _ => fun
  | [d1, d2, d3] => { results := [.lit (.bool true)], args := [d1, d2, d3] }
  | _ => none }
def sumByteRow : OpenClaim := { program := "ytaadloihphpdbaa", sum := "40a657204ada85d348005e4a9c94627fcf4663a17881964da3cbc4d73a9601fe", func := "lanekeeper/lklaw1.SumByte", spec := "sumByte", apart := false }
def SumByteSaid : Prop := sumByteRow.holds Try.pinned (OpenSpec.ofChange sumByteSpec)

/-- ITS FALSE NEIGHBOUR: 'it returns false'. Refute it at one input. -/
def sumByteWrong : ChangeSpec := { name := "sumByte", fn := fun _ => fun
  | [d1, d2, d3] => { results := [.lit (.bool false)], args := [d1, d2, d3] }
  | _ => none }
def SumByteWrongFalsely : Prop := sumByteRow.holds Try.pinned (OpenSpec.ofChange sumByteWrong)

/-- 'lklaw4.PlainTells': WHATEVER THE INPUT: true; the input reads as it did. -/
def plainTellsSpec : ChangeSpec := { name := "plainTells", fn := fun _ => fun
  | [d1, d2, d3] => { results := [.lit (.bool true)], args := [d1, d2, d3] }
  | _ => none }
def plainTellsRow : OpenClaim := { program := "ytaadloihphpdbaa", sum := "40a657204ada85d348005e4a9c94627fcf4663a17881964da3cbc4d73a9601fe", func := "lanekeeper/lklaw4.PlainTells", spec := "plainTells", unfollowed := true, recurses := true, apart := false }
def PlainTellsSaid : Prop := plainTellsRow.holds Try.pinned (OpenSpec.ofChange plainTellsSpec)

/-- ITS FALSE NEIGHBOUR: 'it returns false'. Refute it at one input. -/
def plainTellsWrong : ChangeSpec := { name := "plainTells", fn := fun _ => fun
  | [d1, d2, d3] => { results := [.lit (.bool false)], args := [d1, d2, d3] }
  | _ => none }
def PlainTellsWrongFalsely : Prop := plainTellsRow.holds Try.pinned (OpenSpec.ofChange plainTellsWrong)

/-- 'lklaw4.PlainFirst': WHATEVER THE INPUT: true; the input reads as it did. -/
def plainFirstSpec : ChangeSpec := { name := "plainFirst", fn := fun _ => fun
  | [d1, d2, d3] => { results := [.lit (.bool true)], args := [d1, d2, d3] }
  | _ => none }
def plainFirstRow : OpenClaim := { program := "ytaadloihphpdbaa", sum := "40a657204ada85d348005e4a9c94627fcf4663a17881964da3cbc4d73a9601fe", func := "lanekeeper/lklaw4.PlainFirst", spec := "plainFirst", unfollowed := true, recurses := true, apart := false }
def PlainFirstSaid : Prop := plainFirstRow.holds Try.pinned (OpenSpec.ofChange plainFirstSpec)

/-- ITS FALSE NEIGHBOUR: 'it returns false'. Refute it at one input. -/
def plainFirstWrong : ChangeSpec := { name := "plainFirst", fn := fun _ => fun
  | [d1, d2, d3] => { results := [.lit (.bool false)], args := [d1, d2, d3] }
  | _ => none }
def PlainFirstWrongFalsely : Prop := plainFirstRow.holds Try.pinned (OpenSpec.ofChange plainFirstWrong)

/-- 'lklaw10.ViewTells': WHATEVER THE INPUT: true; the input reads as it did. -/
def viewTellsSpec : ChangeSpec := { name := "viewTells", fn := fun _ => fun
  | [d1, d2, d3] => { results := [.lit (.bool true)], args := [d1, d2, d3] }
  | _ => none }
def viewTellsRow : OpenClaim := { program := "ytaadloihphpdbaa", sum := "40a657204ada85d348005e4a9c94627fcf4663a17881964da3cbc4d73a9601fe", func := "lanekeeper/lklaw10.ViewTells", spec := "viewTells", unfollowed := true, recurses := true, apart := false }
def ViewTellsSaid : Prop := viewTellsRow.holds Try.pinned (OpenSpec.ofChange viewTellsSpec)

/-- ITS FALSE NEIGHBOUR: 'it returns false'. Refute it at one input. -/
def viewTellsWrong : ChangeSpec := { name := "viewTells", fn := fun _ => fun
  | [d1, d2, d3] => { results := [.lit (.bool false)], args := [d1, d2, d3] }
  | _ => none }
def ViewTellsWrongFalsely : Prop := viewTellsRow.holds Try.pinned (OpenSpec.ofChange viewTellsWrong)

/-- 'lklaw10.ViewAlone': WHATEVER THE INPUT: true; the input reads as it did. -/
def viewAloneSpec : ChangeSpec := { name := "viewAlone", fn := fun _ => fun
  | [d1, d2, d3] => { results := [.lit (.bool true)], args := [d1, d2, d3] }
  | _ => none }
def viewAloneRow : OpenClaim := { program := "ytaadloihphpdbaa", sum := "40a657204ada85d348005e4a9c94627fcf4663a17881964da3cbc4d73a9601fe", func := "lanekeeper/lklaw10.ViewAlone", spec := "viewAlone", unfollowed := true, recurses := true, apart := false }
def ViewAloneSaid : Prop := viewAloneRow.holds Try.pinned (OpenSpec.ofChange viewAloneSpec)

/-- ITS FALSE NEIGHBOUR: 'it returns false'. Refute it at one input. -/
def viewAloneWrong : ChangeSpec := { name := "viewAlone", fn := fun _ => fun
  | [d1, d2, d3] => { results := [.lit (.bool false)], args := [d1, d2, d3] }
  | _ => none }
def ViewAloneWrongFalsely : Prop := viewAloneRow.holds Try.pinned (OpenSpec.ofChange viewAloneWrong)

/-- 'lklaw10.ViewSwap': WHATEVER THE INPUT: true; the input reads as it did. -/
def viewSwapSpec : ChangeSpec := { name := "viewSwap", fn := fun _ => fun
  | [d1, d2, d3, d4, d5] => { results := [.lit (.bool true)], args := [d1, d2, d3, d4, d5] }
  | _ => none }
def viewSwapRow : OpenClaim := { program := "ytaadloihphpdbaa", sum := "40a657204ada85d348005e4a9c94627fcf4663a17881964da3cbc4d73a9601fe", func := "lanekeeper/lklaw10.ViewSwap", spec := "viewSwap", unfollowed := true, recurses := true, apart := false }
def ViewSwapSaid : Prop := viewSwapRow.holds Try.pinned (OpenSpec.ofChange viewSwapSpec)

/-- ITS FALSE NEIGHBOUR: 'it returns false'. Refute it at one input. -/
def viewSwapWrong : ChangeSpec := { name := "viewSwap", fn := fun _ => fun
  | [d1, d2, d3, d4, d5] => { results := [.lit (.bool false)], args := [d1, d2, d3, d4, d5] }
  | _ => none }
def ViewSwapWrongFalsely : Prop := viewSwapRow.holds Try.pinned (OpenSpec.ofChange viewSwapWrong)

/-- 'lklaw2.ChunkTells': WHATEVER THE INPUT: true; the input reads as it did. -/
def chunkTellsSpec : ChangeSpec := { name := "chunkTells", fn := fun _ => fun
  | [d1, d2, d3] => { results := [.lit (.bool true)], args := [d1, d2, d3] }
  | _ => none }
def chunkTellsRow : OpenClaim := { program := "ytaadloihphpdbaa", sum := "40a657204ada85d348005e4a9c94627fcf4663a17881964da3cbc4d73a9601fe", func := "lanekeeper/lklaw2.ChunkTells", spec := "chunkTells", unfollowed := true, recurses := true, apart := false }
def ChunkTellsSaid : Prop := chunkTellsRow.holds Try.pinned (OpenSpec.ofChange chunkTellsSpec)

/-- ITS FALSE NEIGHBOUR: 'it returns false'. Refute it at one input. -/
def chunkTellsWrong : ChangeSpec := { name := "chunkTells", fn := fun _ => fun
  | [d1, d2, d3] => { results := [.lit (.bool false)], args := [d1, d2, d3] }
  | _ => none }
def ChunkTellsWrongFalsely : Prop := chunkTellsRow.holds Try.pinned (OpenSpec.ofChange chunkTellsWrong)

/-- 'lktop.TopFull': WHATEVER THE INPUT: true; the input reads as it did. -/
def topFullSpec : ChangeSpec := { name := "topFull", fn := fun _ => fun
  | [d] => { results := [.lit (.bool true)], args := [d] }
  | _ => none }
def topFullRow : OpenClaim := { program := "ytaadloihphpdbaa", sum := "40a657204ada85d348005e4a9c94627fcf4663a17881964da3cbc4d73a9601fe", func := "lanekeeper/lktop.TopFull", spec := "topFull", inPlace := ["internal/bytealg.IndexByteString", "internal/bytealg.IndexString", "slices.overlaps[int]"], unfollowed := true, recurses := true, named := ["internal/bytealg.MaxLen"], apart := false }
def TopFullSaid : Prop := topFullRow.holds Try.pinned (OpenSpec.ofChange topFullSpec)

/-- ITS FALSE NEIGHBOUR: 'it returns false'. Refute it at one input. -/
def topFullWrong : ChangeSpec := { name := "topFull", fn := fun _ => fun
  | [d] => { results := [.lit (.bool false)], args := [d] }
  | _ => none }
def TopFullWrongFalsely : Prop := topFullRow.holds Try.pinned (OpenSpec.ofChange topFullWrong)

/-- 'lklaw2.ChunkUnlike': WHATEVER THE INPUT: true; the input reads as it did. -/
def chunkUnlikeSpec : ChangeSpec := { name := "chunkUnlike", fn := fun _ => fun
  | [d1, d2] => { results := [.lit (.bool true)], args := [d1, d2] }
  | _ => none }
def chunkUnlikeRow : OpenClaim := { program := "ytaadloihphpdbaa", sum := "40a657204ada85d348005e4a9c94627fcf4663a17881964da3cbc4d73a9601fe", func := "lanekeeper/lklaw2.ChunkUnlike", spec := "chunkUnlike", apart := false }
def ChunkUnlikeSaid : Prop := chunkUnlikeRow.holds Try.pinned (OpenSpec.ofChange chunkUnlikeSpec)

/-- ITS FALSE NEIGHBOUR: 'it returns false'. Refute it at one input. -/
def chunkUnlikeWrong : ChangeSpec := { name := "chunkUnlike", fn := fun _ => fun
  | [d1, d2] => { results := [.lit (.bool false)], args := [d1, d2] }
  | _ => none }
def ChunkUnlikeWrongFalsely : Prop := chunkUnlikeRow.holds Try.pinned (OpenSpec.ofChange chunkUnlikeWrong)

/-- 'lklaw2.ChunkTurns': WHATEVER THE INPUT: true; the input reads as it did. -/
def chunkTurnsSpec : ChangeSpec := { name := "chunkTurns", fn := fun _ => fun
  | [d1, d2] => { results := [.lit (.bool true)], args := [d1, d2] }
  | _ => none }
def chunkTurnsRow : OpenClaim := { program := "ytaadloihphpdbaa", sum := "40a657204ada85d348005e4a9c94627fcf4663a17881964da3cbc4d73a9601fe", func := "lanekeeper/lklaw2.ChunkTurns", spec := "chunkTurns", apart := false }
def ChunkTurnsSaid : Prop := chunkTurnsRow.holds Try.pinned (OpenSpec.ofChange chunkTurnsSpec)

/-- ITS FALSE NEIGHBOUR: 'it returns false'. Refute it at one input. -/
def chunkTurnsWrong : ChangeSpec := { name := "chunkTurns", fn := fun _ => fun
  | [d1, d2] => { results := [.lit (.bool false)], args := [d1, d2] }
  | _ => none }
def ChunkTurnsWrongFalsely : Prop := chunkTurnsRow.holds Try.pinned (OpenSpec.ofChange chunkTurnsWrong)

/-- 'lklaw2.ChunkByte': WHATEVER THE INPUT: true; the input reads as it did. -/
def chunkByteSpec : ChangeSpec := { name := "chunkByte", fn := fun _ => fun
  | [d1, d2, d3] => { results := [.lit (.bool true)], args := [d1, d2, d3] }
  | _ => none }
def chunkByteRow : OpenClaim := { program := "ytaadloihphpdbaa", sum := "40a657204ada85d348005e4a9c94627fcf4663a17881964da3cbc4d73a9601fe", func := "lanekeeper/lklaw2.ChunkByte", spec := "chunkByte", apart := false }
def ChunkByteSaid : Prop := chunkByteRow.holds Try.pinned (OpenSpec.ofChange chunkByteSpec)

/-- ITS FALSE NEIGHBOUR: 'it returns false'. Refute it at one input. -/
def chunkByteWrong : ChangeSpec := { name := "chunkByte", fn := fun _ => fun
  | [d1, d2, d3] => { results := [.lit (.bool false)], args := [d1, d2, d3] }
  | _ => none }
def ChunkByteWrongFalsely : Prop := chunkByteRow.holds Try.pinned (OpenSpec.ofChange chunkByteWrong)

/-- 'lklaw5.SendTells': WHATEVER THE INPUT: true; the input reads as it did. -/
def sendTellsSpec : ChangeSpec := { name := "sendTells", fn := fun _ => fun
  | [d1, d2, d3, d4] => { results := [.lit (.bool true)], args := [d1, d2, d3, d4] }
  | _ => none }
def sendTellsRow : OpenClaim := { program := "ytaadloihphpdbaa", sum := "40a657204ada85d348005e4a9c94627fcf4663a17881964da3cbc4d73a9601fe", func := "lanekeeper/lklaw5.SendTells", spec := "sendTells", unfollowed := true, recurses := true, apart := false }
def SendTellsSaid : Prop := sendTellsRow.holds Try.pinned (OpenSpec.ofChange sendTellsSpec)

/-- ITS FALSE NEIGHBOUR: 'it returns false'. Refute it at one input. -/
def sendTellsWrong : ChangeSpec := { name := "sendTells", fn := fun _ => fun
  | [d1, d2, d3, d4] => { results := [.lit (.bool false)], args := [d1, d2, d3, d4] }
  | _ => none }
def SendTellsWrongFalsely : Prop := sendTellsRow.holds Try.pinned (OpenSpec.ofChange sendTellsWrong)

/-- 'lktop.TopSoon': WHATEVER THE INPUT: true; the input reads as it did. -/
def topSoonSpec : ChangeSpec := { name := "topSoon", fn := fun _ => fun
  | [d1, d2, d3] => { results := [.lit (.bool true)], args := [d1, d2, d3] }
  | _ => none }
def topSoonRow : OpenClaim := { program := "ytaadloihphpdbaa", sum := "40a657204ada85d348005e4a9c94627fcf4663a17881964da3cbc4d73a9601fe", func := "lanekeeper/lktop.TopSoon", spec := "topSoon", inPlace := ["internal/bytealg.IndexByteString", "internal/bytealg.IndexString", "slices.overlaps[int]"], unfollowed := true, recurses := true, named := ["internal/bytealg.MaxLen"], apart := false }
def TopSoonSaid : Prop := topSoonRow.holds Try.pinned (OpenSpec.ofChange topSoonSpec)

/-- ITS FALSE NEIGHBOUR: 'it returns false'. Refute it at one input. -/
def topSoonWrong : ChangeSpec := { name := "topSoon", fn := fun _ => fun
  | [d1, d2, d3] => { results := [.lit (.bool false)], args := [d1, d2, d3] }
  | _ => none }
def TopSoonWrongFalsely : Prop := topSoonRow.holds Try.pinned (OpenSpec.ofChange topSoonWrong)

/-- 'lklaw5.SendHeard': WHATEVER THE INPUT: true; the input reads as it did. -/
def sendHeardSpec : ChangeSpec := { name := "sendHeard", fn := fun _ => fun
  | [d1, d2, d3, d4] => { results := [.lit (.bool true)], args := [d1, d2, d3, d4] }
  | _ => none }
def sendHeardRow : OpenClaim := { program := "ytaadloihphpdbaa", sum := "40a657204ada85d348005e4a9c94627fcf4663a17881964da3cbc4d73a9601fe", func := "lanekeeper/lklaw5.SendHeard", spec := "sendHeard", unfollowed := true, recurses := true, apart := false }
def SendHeardSaid : Prop := sendHeardRow.holds Try.pinned (OpenSpec.ofChange sendHeardSpec)

/-- ITS FALSE NEIGHBOUR: 'it returns false'. Refute it at one input. -/
def sendHeardWrong : ChangeSpec := { name := "sendHeard", fn := fun _ => fun
  | [d1, d2, d3, d4] => { results := [.lit (.bool false)], args := [d1, d2, d3, d4] }
  | _ => none }
def SendHeardWrongFalsely : Prop := sendHeardRow.holds Try.pinned (OpenSpec.ofChange sendHeardWrong)

/-- 'lklaw5.SendEach': WHATEVER THE INPUT: true; the input reads as it did. -/
def sendEachSpec : ChangeSpec := { name := "sendEach", fn := fun _ => fun
  | [d1, d2, d3] => { results := [.lit (.bool true)], args := [d1, d2, d3] }
  | _ => none }
def sendEachRow : OpenClaim := { program := "ytaadloihphpdbaa", sum := "40a657204ada85d348005e4a9c94627fcf4663a17881964da3cbc4d73a9601fe", func := "lanekeeper/lklaw5.SendEach", spec := "sendEach", unfollowed := true, recurses := true, apart := false }
def SendEachSaid : Prop := sendEachRow.holds Try.pinned (OpenSpec.ofChange sendEachSpec)

/-- ITS FALSE NEIGHBOUR: 'it returns false'. Refute it at one input. -/
def sendEachWrong : ChangeSpec := { name := "sendEach", fn := fun _ => fun
  | [d1, d2, d3] => { results := [.lit (.bool false)], args := [d1, d2, d3] }
  | _ => none }
def SendEachWrongFalsely : Prop := sendEachRow.holds Try.pinned (OpenSpec.ofChange sendEachWrong)

/-- 'lklaw3.TextTells': WHATEVER THE INPUT: true; the input reads as it did. -/
def textTellsSpec : ChangeSpec := { name := "textTells", fn := fun _ => fun
  | [d1, d2] => { results := [.lit (.bool true)], args := [d1, d2] }
  | _ => none }
def textTellsRow : OpenClaim := { program := "ytaadloihphpdbaa", sum := "40a657204ada85d348005e4a9c94627fcf4663a17881964da3cbc4d73a9601fe", func := "lanekeeper/lklaw3.TextTells", spec := "textTells", inPlace := ["internal/bytealg.IndexByteString", "internal/bytealg.IndexString"], named := ["internal/bytealg.MaxLen"], apart := false }
def TextTellsSaid : Prop := textTellsRow.holds Try.pinned (OpenSpec.ofChange textTellsSpec)

/-- ITS FALSE NEIGHBOUR: 'it returns false'. Refute it at one input. -/
def textTellsWrong : ChangeSpec := { name := "textTells", fn := fun _ => fun
  | [d1, d2] => { results := [.lit (.bool false)], args := [d1, d2] }
  | _ => none }
def TextTellsWrongFalsely : Prop := textTellsRow.holds Try.pinned (OpenSpec.ofChange textTellsWrong)

/-- 'lklaw3.TextTurns': WHATEVER THE INPUT: true; the input reads as it did. -/
def textTurnsSpec : ChangeSpec := { name := "textTurns", fn := fun _ => fun
  | [d1, d2, d3] => { results := [.lit (.bool true)], args := [d1, d2, d3] }
  | _ => none }
def textTurnsRow : OpenClaim := { program := "ytaadloihphpdbaa", sum := "40a657204ada85d348005e4a9c94627fcf4663a17881964da3cbc4d73a9601fe", func := "lanekeeper/lklaw3.TextTurns", spec := "textTurns", inPlace := ["internal/bytealg.IndexByteString", "internal/bytealg.IndexString"], named := ["internal/bytealg.MaxLen"], apart := false }
def TextTurnsSaid : Prop := textTurnsRow.holds Try.pinned (OpenSpec.ofChange textTurnsSpec)

/-- ITS FALSE NEIGHBOUR: 'it returns false'. Refute it at one input. -/
def textTurnsWrong : ChangeSpec := { name := "textTurns", fn := fun _ => fun
  | [d1, d2, d3] => { results := [.lit (.bool false)], args := [d1, d2, d3] }
  | _ => none }
def TextTurnsWrongFalsely : Prop := textTurnsRow.holds Try.pinned (OpenSpec.ofChange textTurnsWrong)

/-- 'lklaw6.RecvTells': WHATEVER THE INPUT: true; the input reads as it did. -/
def recvTellsSpec : ChangeSpec := { name := "recvTells", fn := fun _ => fun
  | [d1, d2] => { results := [.lit (.bool true)], args := [d1, d2] }
  | _ => none }
def recvTellsRow : OpenClaim := { program := "ytaadloihphpdbaa", sum := "40a657204ada85d348005e4a9c94627fcf4663a17881964da3cbc4d73a9601fe", func := "lanekeeper/lklaw6.RecvTells", spec := "recvTells", inPlace := ["slices.overlaps[int]"], unfollowed := true, recurses := true, apart := false }
def RecvTellsSaid : Prop := recvTellsRow.holds Try.pinned (OpenSpec.ofChange recvTellsSpec)

/-- ITS FALSE NEIGHBOUR: 'it returns false'. Refute it at one input. -/
def recvTellsWrong : ChangeSpec := { name := "recvTells", fn := fun _ => fun
  | [d1, d2] => { results := [.lit (.bool false)], args := [d1, d2] }
  | _ => none }
def RecvTellsWrongFalsely : Prop := recvTellsRow.holds Try.pinned (OpenSpec.ofChange recvTellsWrong)

/-- 'lklaw6.RecvSays': WHATEVER THE INPUT: true; the input reads as it did. -/
def recvSaysSpec : ChangeSpec := { name := "recvSays", fn := fun _ => fun
  | [d] => { results := [.lit (.bool true)], args := [d] }
  | _ => none }
def recvSaysRow : OpenClaim := { program := "ytaadloihphpdbaa", sum := "40a657204ada85d348005e4a9c94627fcf4663a17881964da3cbc4d73a9601fe", func := "lanekeeper/lklaw6.RecvSays", spec := "recvSays", inPlace := ["slices.overlaps[int]"], unfollowed := true, recurses := true, apart := false }
def RecvSaysSaid : Prop := recvSaysRow.holds Try.pinned (OpenSpec.ofChange recvSaysSpec)

/-- ITS FALSE NEIGHBOUR: 'it returns false'. Refute it at one input. -/
def recvSaysWrong : ChangeSpec := { name := "recvSays", fn := fun _ => fun
  | [d] => { results := [.lit (.bool false)], args := [d] }
  | _ => none }
def RecvSaysWrongFalsely : Prop := recvSaysRow.holds Try.pinned (OpenSpec.ofChange recvSaysWrong)

/-- 'lklaw6.RecvTwice': WHATEVER THE INPUT: true; the input reads as it did. -/
def recvTwiceSpec : ChangeSpec := { name := "recvTwice", fn := fun _ => fun
  | [d1, d2] => { results := [.lit (.bool true)], args := [d1, d2] }
  | _ => none }
def recvTwiceRow : OpenClaim := { program := "ytaadloihphpdbaa", sum := "40a657204ada85d348005e4a9c94627fcf4663a17881964da3cbc4d73a9601fe", func := "lanekeeper/lklaw6.RecvTwice", spec := "recvTwice", inPlace := ["slices.overlaps[int]"], unfollowed := true, recurses := true, apart := false }
def RecvTwiceSaid : Prop := recvTwiceRow.holds Try.pinned (OpenSpec.ofChange recvTwiceSpec)

/-- ITS FALSE NEIGHBOUR: 'it returns false'. Refute it at one input. -/
def recvTwiceWrong : ChangeSpec := { name := "recvTwice", fn := fun _ => fun
  | [d1, d2] => { results := [.lit (.bool false)], args := [d1, d2] }
  | _ => none }
def RecvTwiceWrongFalsely : Prop := recvTwiceRow.holds Try.pinned (OpenSpec.ofChange recvTwiceWrong)

/-- 'lklaw6.RecvOrder': WHATEVER THE INPUT: true; the input reads as it did. -/
def recvOrderSpec : ChangeSpec := { name := "recvOrder", fn := fun _ => fun
  | [d1, d2] => { results := [.lit (.bool true)], args := [d1, d2] }
  | _ => none }
def recvOrderRow : OpenClaim := { program := "ytaadloihphpdbaa", sum := "40a657204ada85d348005e4a9c94627fcf4663a17881964da3cbc4d73a9601fe", func := "lanekeeper/lklaw6.RecvOrder", spec := "recvOrder", inPlace := ["slices.overlaps[int]"], unfollowed := true, recurses := true, apart := false }
def RecvOrderSaid : Prop := recvOrderRow.holds Try.pinned (OpenSpec.ofChange recvOrderSpec)

/-- ITS FALSE NEIGHBOUR: 'it returns false'. Refute it at one input. -/
def recvOrderWrong : ChangeSpec := { name := "recvOrder", fn := fun _ => fun
  | [d1, d2] => { results := [.lit (.bool false)], args := [d1, d2] }
  | _ => none }
def RecvOrderWrongFalsely : Prop := recvOrderRow.holds Try.pinned (OpenSpec.ofChange recvOrderWrong)

/-- 'lklaw7.LaneTells': WHATEVER THE INPUT: true; the input reads as it did. -/
def laneTellsSpec : ChangeSpec := { name := "laneTells", fn := fun _ => fun
  | [d1, d2, d3, d4, d5] => { results := [.lit (.bool true)], args := [d1, d2, d3, d4, d5] }
  | _ => none }
def laneTellsRow : OpenClaim := { program := "ytaadloihphpdbaa", sum := "40a657204ada85d348005e4a9c94627fcf4663a17881964da3cbc4d73a9601fe", func := "lanekeeper/lklaw7.LaneTells", spec := "laneTells", inPlace := ["slices.overlaps[int]"], unfollowed := true, recurses := true, apart := false }
def LaneTellsSaid : Prop := laneTellsRow.holds Try.pinned (OpenSpec.ofChange laneTellsSpec)

/-- ITS FALSE NEIGHBOUR: 'it returns false'. Refute it at one input. -/
def laneTellsWrong : ChangeSpec := { name := "laneTells", fn := fun _ => fun
  | [d1, d2, d3, d4, d5] => { results := [.lit (.bool false)], args := [d1, d2, d3, d4, d5] }
  | _ => none }
def LaneTellsWrongFalsely : Prop := laneTellsRow.holds Try.pinned (OpenSpec.ofChange laneTellsWrong)

/-- 'lklaw7.LaneSpoilt': WHATEVER THE INPUT: true; the input reads as it did. -/
def laneSpoiltSpec : ChangeSpec := { name := "laneSpoilt", fn := fun _ => fun
  | [d1, d2, d3, d4, d5] => { results := [.lit (.bool true)], args := [d1, d2, d3, d4, d5] }
  | _ => none }
def laneSpoiltRow : OpenClaim := { program := "ytaadloihphpdbaa", sum := "40a657204ada85d348005e4a9c94627fcf4663a17881964da3cbc4d73a9601fe", func := "lanekeeper/lklaw7.LaneSpoilt", spec := "laneSpoilt", inPlace := ["slices.overlaps[int]"], unfollowed := true, recurses := true, apart := false }
def LaneSpoiltSaid : Prop := laneSpoiltRow.holds Try.pinned (OpenSpec.ofChange laneSpoiltSpec)

/-- ITS FALSE NEIGHBOUR: 'it returns false'. Refute it at one input. -/
def laneSpoiltWrong : ChangeSpec := { name := "laneSpoilt", fn := fun _ => fun
  | [d1, d2, d3, d4, d5] => { results := [.lit (.bool false)], args := [d1, d2, d3, d4, d5] }
  | _ => none }
def LaneSpoiltWrongFalsely : Prop := laneSpoiltRow.holds Try.pinned (OpenSpec.ofChange laneSpoiltWrong)

/-- 'lklaw7.LaneFits': WHATEVER THE INPUT: true; the input reads as it did. -/
def laneFitsSpec : ChangeSpec := { name := "laneFits", fn := fun _ => fun
  | [d1, d2, d3, d4] => { results := [.lit (.bool true)], args := [d1, d2, d3, d4] }
  | _ => none }
def laneFitsRow : OpenClaim := { program := "ytaadloihphpdbaa", sum := "40a657204ada85d348005e4a9c94627fcf4663a17881964da3cbc4d73a9601fe", func := "lanekeeper/lklaw7.LaneFits", spec := "laneFits", inPlace := ["slices.overlaps[int]"], unfollowed := true, recurses := true, apart := false }
def LaneFitsSaid : Prop := laneFitsRow.holds Try.pinned (OpenSpec.ofChange laneFitsSpec)

/-- ITS FALSE NEIGHBOUR: 'it returns false'. Refute it at one input. -/
def laneFitsWrong : ChangeSpec := { name := "laneFits", fn := fun _ => fun
  | [d1, d2, d3, d4] => { results := [.lit (.bool false)], args := [d1, d2, d3, d4] }
  | _ => none }
def LaneFitsWrongFalsely : Prop := laneFitsRow.holds Try.pinned (OpenSpec.ofChange laneFitsWrong)

/-- 'lklaw9.WorldTells': WHATEVER THE INPUT: true; the input reads as it did. -/
def worldTellsSpec : ChangeSpec := { name := "worldTells", fn := fun _ => fun
  | [d1, d2, d3] => { results := [.lit (.bool true)], args := [d1, d2, d3] }
  | _ => none }
def worldTellsRow : OpenClaim := { program := "ytaadloihphpdbaa", sum := "40a657204ada85d348005e4a9c94627fcf4663a17881964da3cbc4d73a9601fe", func := "lanekeeper/lklaw9.WorldTells", spec := "worldTells", inPlace := ["slices.overlaps[int]"], unfollowed := true, recurses := true, apart := false }
def WorldTellsSaid : Prop := worldTellsRow.holds Try.pinned (OpenSpec.ofChange worldTellsSpec)

/-- ITS FALSE NEIGHBOUR: 'it returns false'. Refute it at one input. -/
def worldTellsWrong : ChangeSpec := { name := "worldTells", fn := fun _ => fun
  | [d1, d2, d3] => { results := [.lit (.bool false)], args := [d1, d2, d3] }
  | _ => none }
def WorldTellsWrongFalsely : Prop := worldTellsRow.holds Try.pinned (OpenSpec.ofChange worldTellsWrong)

/-- 'lklaw9.WorldApart': WHATEVER THE INPUT: true; the input reads as it did. -/
def worldApartSpec : ChangeSpec := { name := "worldApart", fn := fun _ => fun
  | [d1, d2, d3, d4] => { results := [.lit (.bool true)], args := [d1, d2, d3, d4] }
  | _ => none }
def worldApartRow : OpenClaim := { program := "ytaadloihphpdbaa", sum := "40a657204ada85d348005e4a9c94627fcf4663a17881964da3cbc4d73a9601fe", func := "lanekeeper/lklaw9.WorldApart", spec := "worldApart", inPlace := ["slices.overlaps[int]"], unfollowed := true, recurses := true, apart := false }
def WorldApartSaid : Prop := worldApartRow.holds Try.pinned (OpenSpec.ofChange worldApartSpec)

/-- ITS FALSE NEIGHBOUR: 'it returns false'. Refute it at one input. -/
def worldApartWrong : ChangeSpec := { name := "worldApart", fn := fun _ => fun
  | [d1, d2, d3, d4] => { results := [.lit (.bool false)], args := [d1, d2, d3, d4] }
  | _ => none }
def WorldApartWrongFalsely : Prop := worldApartRow.holds Try.pinned (OpenSpec.ofChange worldApartWrong)

/-- 'lklaw9.WorldOne': WHATEVER THE INPUT: true; the input reads as it did. -/
def worldOneSpec : ChangeSpec := { name := "worldOne", fn := fun _ => fun
  | [d1, d2, d3] => { results := [.lit (.bool true)], args := [d1, d2, d3] }
  | _ => none }
def worldOneRow : OpenClaim := { program := "ytaadloihphpdbaa", sum := "40a657204ada85d348005e4a9c94627fcf4663a17881964da3cbc4d73a9601fe", func := "lanekeeper/lklaw9.WorldOne", spec := "worldOne", inPlace := ["slices.overlaps[int]"], unfollowed := true, recurses := true, apart := false }
def WorldOneSaid : Prop := worldOneRow.holds Try.pinned (OpenSpec.ofChange worldOneSpec)

/-- ITS FALSE NEIGHBOUR: 'it returns false'. Refute it at one input. -/
def worldOneWrong : ChangeSpec := { name := "worldOne", fn := fun _ => fun
  | [d1, d2, d3] => { results := [.lit (.bool false)], args := [d1, d2, d3] }
  | _ => none }
def WorldOneWrongFalsely : Prop := worldOneRow.holds Try.pinned (OpenSpec.ofChange worldOneWrong)

/-- 'lklaw12.FairTells': WHATEVER THE INPUT: true; the input reads as it did. -/
def fairTellsSpec : ChangeSpec := { name := "fairTells", fn := fun _ => fun
  | [d1, d2] => { results := [.lit (.bool true)], args := [d1, d2] }
  | _ => none }
def fairTellsRow : OpenClaim := { program := "ytaadloihphpdbaa", sum := "40a657204ada85d348005e4a9c94627fcf4663a17881964da3cbc4d73a9601fe", func := "lanekeeper/lklaw12.FairTells", spec := "fairTells", inPlace := ["slices.overlaps[int]"], unfollowed := true, recurses := true, apart := false }
def FairTellsSaid : Prop := fairTellsRow.holds Try.pinned (OpenSpec.ofChange fairTellsSpec)

/-- ITS FALSE NEIGHBOUR: 'it returns false'. Refute it at one input. -/
def fairTellsWrong : ChangeSpec := { name := "fairTells", fn := fun _ => fun
  | [d1, d2] => { results := [.lit (.bool false)], args := [d1, d2] }
  | _ => none }
def FairTellsWrongFalsely : Prop := fairTellsRow.holds Try.pinned (OpenSpec.ofChange fairTellsWrong)

/-- 'lklaw12.FairEnds': WHATEVER THE INPUT: true; the input reads as it did. -/
def fairEndsSpec : ChangeSpec := { name := "fairEnds", fn := fun _ => fun
  | [d1, d2] => { results := [.lit (.bool true)], args := [d1, d2] }
  | _ => none }
def fairEndsRow : OpenClaim := { program := "ytaadloihphpdbaa", sum := "40a657204ada85d348005e4a9c94627fcf4663a17881964da3cbc4d73a9601fe", func := "lanekeeper/lklaw12.FairEnds", spec := "fairEnds", inPlace := ["slices.overlaps[int]"], unfollowed := true, recurses := true, apart := false }
def FairEndsSaid : Prop := fairEndsRow.holds Try.pinned (OpenSpec.ofChange fairEndsSpec)

/-- ITS FALSE NEIGHBOUR: 'it returns false'. Refute it at one input. -/
def fairEndsWrong : ChangeSpec := { name := "fairEnds", fn := fun _ => fun
  | [d1, d2] => { results := [.lit (.bool false)], args := [d1, d2] }
  | _ => none }
def FairEndsWrongFalsely : Prop := fairEndsRow.holds Try.pinned (OpenSpec.ofChange fairEndsWrong)

/-- 'lklaw12.FairDone': WHATEVER THE INPUT: true; the input reads as it did. -/
def fairDoneSpec : ChangeSpec := { name := "fairDone", fn := fun _ => fun
  | [d1, d2, d3] => { results := [.lit (.bool true)], args := [d1, d2, d3] }
  | _ => none }
def fairDoneRow : OpenClaim := { program := "ytaadloihphpdbaa", sum := "40a657204ada85d348005e4a9c94627fcf4663a17881964da3cbc4d73a9601fe", func := "lanekeeper/lklaw12.FairDone", spec := "fairDone", inPlace := ["slices.overlaps[int]"], unfollowed := true, recurses := true, apart := false }
def FairDoneSaid : Prop := fairDoneRow.holds Try.pinned (OpenSpec.ofChange fairDoneSpec)

/-- ITS FALSE NEIGHBOUR: 'it returns false'. Refute it at one input. -/
def fairDoneWrong : ChangeSpec := { name := "fairDone", fn := fun _ => fun
  | [d1, d2, d3] => { results := [.lit (.bool false)], args := [d1, d2, d3] }
  | _ => none }
def FairDoneWrongFalsely : Prop := fairDoneRow.holds Try.pinned (OpenSpec.ofChange fairDoneWrong)

/-- 'lklaw12.FairAlone': WHATEVER THE INPUT: true; the input reads as it did. -/
def fairAloneSpec : ChangeSpec := { name := "fairAlone", fn := fun _ => fun
  | [d1, d2, d3, d4] => { results := [.lit (.bool true)], args := [d1, d2, d3, d4] }
  | _ => none }
def fairAloneRow : OpenClaim := { program := "ytaadloihphpdbaa", sum := "40a657204ada85d348005e4a9c94627fcf4663a17881964da3cbc4d73a9601fe", func := "lanekeeper/lklaw12.FairAlone", spec := "fairAlone", inPlace := ["slices.overlaps[int]"], unfollowed := true, recurses := true, apart := false }
def FairAloneSaid : Prop := fairAloneRow.holds Try.pinned (OpenSpec.ofChange fairAloneSpec)

/-- ITS FALSE NEIGHBOUR: 'it returns false'. Refute it at one input. -/
def fairAloneWrong : ChangeSpec := { name := "fairAlone", fn := fun _ => fun
  | [d1, d2, d3, d4] => { results := [.lit (.bool false)], args := [d1, d2, d3, d4] }
  | _ => none }
def FairAloneWrongFalsely : Prop := fairAloneRow.holds Try.pinned (OpenSpec.ofChange fairAloneWrong)

/-- 'lktop.TopLine': WHATEVER THE INPUT: true; the input reads as it did. -/
def topLineSpec : ChangeSpec := { name := "topLine", fn := fun _ => fun
  | [d1, d2, d3] => { results := [.lit (.bool true)], args := [d1, d2, d3] }
  | _ => none }
def topLineRow : OpenClaim := { program := "ytaadloihphpdbaa", sum := "40a657204ada85d348005e4a9c94627fcf4663a17881964da3cbc4d73a9601fe", func := "lanekeeper/lktop.TopLine", spec := "topLine", inPlace := ["internal/bytealg.IndexByteString", "internal/bytealg.IndexString", "slices.overlaps[int]"], unfollowed := true, recurses := true, named := ["internal/bytealg.MaxLen"], apart := false }
def TopLineSaid : Prop := topLineRow.holds Try.pinned (OpenSpec.ofChange topLineSpec)

/-- ITS FALSE NEIGHBOUR: 'it returns false'. Refute it at one input. -/
def topLineWrong : ChangeSpec := { name := "topLine", fn := fun _ => fun
  | [d1, d2, d3] => { results := [.lit (.bool false)], args := [d1, d2, d3] }
  | _ => none }
def TopLineWrongFalsely : Prop := topLineRow.holds Try.pinned (OpenSpec.ofChange topLineWrong)

/-- 'lktop.TopFlood': WHATEVER THE INPUT: true; the input reads as it did. -/
def topFloodSpec : ChangeSpec := { name := "topFlood", fn := fun _ => fun
  | [d1, d2] => { results := [.lit (.bool true)], args := [d1, d2] }
  | _ => none }
def topFloodRow : OpenClaim := { program := "ytaadloihphpdbaa", sum := "40a657204ada85d348005e4a9c94627fcf4663a17881964da3cbc4d73a9601fe", func := "lanekeeper/lktop.TopFlood", spec := "topFlood", inPlace := ["internal/bytealg.IndexByteString", "internal/bytealg.IndexString", "slices.overlaps[int]"], unfollowed := true, recurses := true, named := ["internal/bytealg.MaxLen"], apart := false }
def TopFloodSaid : Prop := topFloodRow.holds Try.pinned (OpenSpec.ofChange topFloodSpec)

/-- ITS FALSE NEIGHBOUR: 'it returns false'. Refute it at one input. -/
def topFloodWrong : ChangeSpec := { name := "topFlood", fn := fun _ => fun
  | [d1, d2] => { results := [.lit (.bool false)], args := [d1, d2] }
  | _ => none }
def TopFloodWrongFalsely : Prop := topFloodRow.holds Try.pinned (OpenSpec.ofChange topFloodWrong)

/- THE SECOND FORM. 'bulk': how many values and letters a reading holds, each counted each time it is reached (what is shared counts as often as it is met; a slice's spare places count too). A statement '..UptoSaid' is the law's where the arguments, and the package variables that the reading takes, are together of bulk at most 1048576: NARROWER than '..Said'. Prove '..Said' where nothing that the law and all that it calls make is longer than what came in: it says more and counts as full. Else prove '..UptoSaid'. A law counts once. -/
mutual
def uptoBulk {H : Type} : DataW H → Nat
  | .lit (.string bytes) => bytes.length + 1
  | .lit _ => 1
  | .nil => 1
  | .ptr d => uptoBulk d + 1
  | .slice elems spare => uptoBulkAll elems + uptoBulkAll spare + 1
  | .agg parts => uptoBulkAll parts + 1
  | .iface _ d => uptoBulk d + 1
  | .map entries => uptoBulkEntries entries + 1
  | .held _ => 1
def uptoBulkAll {H : Type} : List (DataW H) → Nat
  | [] => 0
  | d :: r => uptoBulk d + uptoBulkAll r
def uptoBulkEntries {H : Type} : List (Lit × DataW H) → Nat
  | [] => 0
  | x :: r => uptoBulkEntry x + uptoBulkEntries r
def uptoBulkEntry {H : Type} : Lit × DataW H → Nat
  | (.string bytes, d) => bytes.length + uptoBulk d + 1
  | (_, d) => uptoBulk d + 1
 end
def uptoSmall : (H : Type) → List (DataW H) → Bool := fun _ ds => decide (uptoBulkAll ds ≤ 1048576)
def OpenSpec.upto (s : _root_.Go.ChangeSpec) : _root_.Go.OpenSpec := { _root_.Go.OpenSpec.ofChange s with cond := some uptoSmall }

/-- 'lklaw11.LookTells', WHERE WHAT IT READS IS OF BULK AT MOST 1048576: true; the input reads as it did. -/
def lookTellsUptoRow : OpenClaim := { program := "ytaadloihphpdbaa", sum := "40a657204ada85d348005e4a9c94627fcf4663a17881964da3cbc4d73a9601fe", func := "lanekeeper/lklaw11.LookTells", spec := "lookTells", unfollowed := true, recurses := true, apart := false, narrowed := true }
def LookTellsUptoSaid : Prop := lookTellsUptoRow.holds Try.pinned (OpenSpec.upto lookTellsSpec)

/-- 'lklaw11.LookBound', WHERE WHAT IT READS IS OF BULK AT MOST 1048576: true; the input reads as it did. -/
def lookBoundUptoRow : OpenClaim := { program := "ytaadloihphpdbaa", sum := "40a657204ada85d348005e4a9c94627fcf4663a17881964da3cbc4d73a9601fe", func := "lanekeeper/lklaw11.LookBound", spec := "lookBound", unfollowed := true, recurses := true, apart := false, narrowed := true }
def LookBoundUptoSaid : Prop := lookBoundUptoRow.holds Try.pinned (OpenSpec.upto lookBoundSpec)

/-- 'lklaw11.LookKnows', WHERE WHAT IT READS IS OF BULK AT MOST 1048576: true; the input reads as it did. -/
def lookKnowsUptoRow : OpenClaim := { program := "ytaadloihphpdbaa", sum := "40a657204ada85d348005e4a9c94627fcf4663a17881964da3cbc4d73a9601fe", func := "lanekeeper/lklaw11.LookKnows", spec := "lookKnows", unfollowed := true, recurses := true, apart := false, narrowed := true }
def LookKnowsUptoSaid : Prop := lookKnowsUptoRow.holds Try.pinned (OpenSpec.upto lookKnowsSpec)

/-- 'lklaw8.SlotTells', WHERE WHAT IT READS IS OF BULK AT MOST 1048576: true; the input reads as it did. -/
def slotTellsUptoRow : OpenClaim := { program := "ytaadloihphpdbaa", sum := "40a657204ada85d348005e4a9c94627fcf4663a17881964da3cbc4d73a9601fe", func := "lanekeeper/lklaw8.SlotTells", spec := "slotTells", apart := false, narrowed := true }
def SlotTellsUptoSaid : Prop := slotTellsUptoRow.holds Try.pinned (OpenSpec.upto slotTellsSpec)

/-- 'lklaw8.SlotSoon', WHERE WHAT IT READS IS OF BULK AT MOST 1048576: true; the input reads as it did. -/
def slotSoonUptoRow : OpenClaim := { program := "ytaadloihphpdbaa", sum := "40a657204ada85d348005e4a9c94627fcf4663a17881964da3cbc4d73a9601fe", func := "lanekeeper/lklaw8.SlotSoon", spec := "slotSoon", apart := false, narrowed := true }
def SlotSoonUptoSaid : Prop := slotSoonUptoRow.holds Try.pinned (OpenSpec.upto slotSoonSpec)

/-- 'lklaw8.SlotShare', WHERE WHAT IT READS IS OF BULK AT MOST 1048576: true; the input reads as it did. -/
def slotShareUptoRow : OpenClaim := { program := "ytaadloihphpdbaa", sum := "40a657204ada85d348005e4a9c94627fcf4663a17881964da3cbc4d73a9601fe", func := "lanekeeper/lklaw8.SlotShare", spec := "slotShare", apart := false, narrowed := true }
def SlotShareUptoSaid : Prop := slotShareUptoRow.holds Try.pinned (OpenSpec.upto slotShareSpec)

/-- 'lklaw1.SumTells', WHERE WHAT IT READS IS OF BULK AT MOST 1048576: true; the input reads as it did. -/
def sumTellsUptoRow : OpenClaim := { program := "ytaadloihphpdbaa", sum := "40a657204ada85d348005e4a9c94627fcf4663a17881964da3cbc4d73a9601fe", func := "lanekeeper/lklaw1.SumTells", spec := "sumTells", apart := false, narrowed := true }
def SumTellsUptoSaid : Prop := sumTellsUptoRow.holds Try.pinned (OpenSpec.upto sumTellsSpec)

/-- 'lklaw1.SumByte', WHERE WHAT IT READS IS OF BULK AT MOST 1048576: true; the input reads as it did. -/
def sumByteUptoRow : OpenClaim := { program := "ytaadloihphpdbaa", sum := "40a657204ada85d348005e4a9c94627fcf4663a17881964da3cbc4d73a9601fe", func := "lanekeeper/lklaw1.SumByte", spec := "sumByte", apart := false, narrowed := true }
def SumByteUptoSaid : Prop := sumByteUptoRow.holds Try.pinned (OpenSpec.upto sumByteSpec)

/-- 'lklaw4.PlainTells', WHERE WHAT IT READS IS OF BULK AT MOST 1048576: true; the input reads as it did. -/
def plainTellsUptoRow : OpenClaim := { program := "ytaadloihphpdbaa", sum := "40a657204ada85d348005e4a9c94627fcf4663a17881964da3cbc4d73a9601fe", func := "lanekeeper/lklaw4.PlainTells", spec := "plainTells", unfollowed := true, recurses := true, apart := false, narrowed := true }
def PlainTellsUptoSaid : Prop := plainTellsUptoRow.holds Try.pinned (OpenSpec.upto plainTellsSpec)

/-- 'lklaw4.PlainFirst', WHERE WHAT IT READS IS OF BULK AT MOST 1048576: true; the input reads as it did. -/
def plainFirstUptoRow : OpenClaim := { program := "ytaadloihphpdbaa", sum := "40a657204ada85d348005e4a9c94627fcf4663a17881964da3cbc4d73a9601fe", func := "lanekeeper/lklaw4.PlainFirst", spec := "plainFirst", unfollowed := true, recurses := true, apart := false, narrowed := true }
def PlainFirstUptoSaid : Prop := plainFirstUptoRow.holds Try.pinned (OpenSpec.upto plainFirstSpec)

/-- 'lklaw10.ViewTells', WHERE WHAT IT READS IS OF BULK AT MOST 1048576: true; the input reads as it did. -/
def viewTellsUptoRow : OpenClaim := { program := "ytaadloihphpdbaa", sum := "40a657204ada85d348005e4a9c94627fcf4663a17881964da3cbc4d73a9601fe", func := "lanekeeper/lklaw10.ViewTells", spec := "viewTells", unfollowed := true, recurses := true, apart := false, narrowed := true }
def ViewTellsUptoSaid : Prop := viewTellsUptoRow.holds Try.pinned (OpenSpec.upto viewTellsSpec)

/-- 'lklaw10.ViewAlone', WHERE WHAT IT READS IS OF BULK AT MOST 1048576: true; the input reads as it did. -/
def viewAloneUptoRow : OpenClaim := { program := "ytaadloihphpdbaa", sum := "40a657204ada85d348005e4a9c94627fcf4663a17881964da3cbc4d73a9601fe", func := "lanekeeper/lklaw10.ViewAlone", spec := "viewAlone", unfollowed := true, recurses := true, apart := false, narrowed := true }
def ViewAloneUptoSaid : Prop := viewAloneUptoRow.holds Try.pinned (OpenSpec.upto viewAloneSpec)

/-- 'lklaw10.ViewSwap', WHERE WHAT IT READS IS OF BULK AT MOST 1048576: true; the input reads as it did. -/
def viewSwapUptoRow : OpenClaim := { program := "ytaadloihphpdbaa", sum := "40a657204ada85d348005e4a9c94627fcf4663a17881964da3cbc4d73a9601fe", func := "lanekeeper/lklaw10.ViewSwap", spec := "viewSwap", unfollowed := true, recurses := true, apart := false, narrowed := true }
def ViewSwapUptoSaid : Prop := viewSwapUptoRow.holds Try.pinned (OpenSpec.upto viewSwapSpec)

/-- 'lklaw2.ChunkTells', WHERE WHAT IT READS IS OF BULK AT MOST 1048576: true; the input reads as it did. -/
def chunkTellsUptoRow : OpenClaim := { program := "ytaadloihphpdbaa", sum := "40a657204ada85d348005e4a9c94627fcf4663a17881964da3cbc4d73a9601fe", func := "lanekeeper/lklaw2.ChunkTells", spec := "chunkTells", unfollowed := true, recurses := true, apart := false, narrowed := true }
def ChunkTellsUptoSaid : Prop := chunkTellsUptoRow.holds Try.pinned (OpenSpec.upto chunkTellsSpec)

/-- 'lktop.TopFull', WHERE WHAT IT READS IS OF BULK AT MOST 1048576: true; the input reads as it did. -/
def topFullUptoRow : OpenClaim := { program := "ytaadloihphpdbaa", sum := "40a657204ada85d348005e4a9c94627fcf4663a17881964da3cbc4d73a9601fe", func := "lanekeeper/lktop.TopFull", spec := "topFull", inPlace := ["internal/bytealg.IndexByteString", "internal/bytealg.IndexString", "slices.overlaps[int]"], unfollowed := true, recurses := true, named := ["internal/bytealg.MaxLen"], apart := false, narrowed := true }
def TopFullUptoSaid : Prop := topFullUptoRow.holds Try.pinned (OpenSpec.upto topFullSpec)

/-- 'lklaw2.ChunkUnlike', WHERE WHAT IT READS IS OF BULK AT MOST 1048576: true; the input reads as it did. -/
def chunkUnlikeUptoRow : OpenClaim := { program := "ytaadloihphpdbaa", sum := "40a657204ada85d348005e4a9c94627fcf4663a17881964da3cbc4d73a9601fe", func := "lanekeeper/lklaw2.ChunkUnlike", spec := "chunkUnlike", apart := false, narrowed := true }
def ChunkUnlikeUptoSaid : Prop := chunkUnlikeUptoRow.holds Try.pinned (OpenSpec.upto chunkUnlikeSpec)

/-- 'lklaw2.ChunkTurns', WHERE WHAT IT READS IS OF BULK AT MOST 1048576: true; the input reads as it did. -/
def chunkTurnsUptoRow : OpenClaim := { program := "ytaadloihphpdbaa", sum := "40a657204ada85d348005e4a9c94627fcf4663a17881964da3cbc4d73a9601fe", func := "lanekeeper/lklaw2.ChunkTurns", spec := "chunkTurns", apart := false, narrowed := true }
def ChunkTurnsUptoSaid : Prop := chunkTurnsUptoRow.holds Try.pinned (OpenSpec.upto chunkTurnsSpec)

/-- 'lklaw2.ChunkByte', WHERE WHAT IT READS IS OF BULK AT MOST 1048576: true; the input reads as it did. -/
def chunkByteUptoRow : OpenClaim := { program := "ytaadloihphpdbaa", sum := "40a657204ada85d348005e4a9c94627fcf4663a17881964da3cbc4d73a9601fe", func := "lanekeeper/lklaw2.ChunkByte", spec := "chunkByte", apart := false, narrowed := true }
def ChunkByteUptoSaid : Prop := chunkByteUptoRow.holds Try.pinned (OpenSpec.upto chunkByteSpec)

/-- 'lklaw5.SendTells', WHERE WHAT IT READS IS OF BULK AT MOST 1048576: true; the input reads as it did. -/
def sendTellsUptoRow : OpenClaim := { program := "ytaadloihphpdbaa", sum := "40a657204ada85d348005e4a9c94627fcf4663a17881964da3cbc4d73a9601fe", func := "lanekeeper/lklaw5.SendTells", spec := "sendTells", unfollowed := true, recurses := true, apart := false, narrowed := true }
def SendTellsUptoSaid : Prop := sendTellsUptoRow.holds Try.pinned (OpenSpec.upto sendTellsSpec)

/-- 'lktop.TopSoon', WHERE WHAT IT READS IS OF BULK AT MOST 1048576: true; the input reads as it did. -/
def topSoonUptoRow : OpenClaim := { program := "ytaadloihphpdbaa", sum := "40a657204ada85d348005e4a9c94627fcf4663a17881964da3cbc4d73a9601fe", func := "lanekeeper/lktop.TopSoon", spec := "topSoon", inPlace := ["internal/bytealg.IndexByteString", "internal/bytealg.IndexString", "slices.overlaps[int]"], unfollowed := true, recurses := true, named := ["internal/bytealg.MaxLen"], apart := false, narrowed := true }
def TopSoonUptoSaid : Prop := topSoonUptoRow.holds Try.pinned (OpenSpec.upto topSoonSpec)

/-- 'lklaw5.SendHeard', WHERE WHAT IT READS IS OF BULK AT MOST 1048576: true; the input reads as it did. -/
def sendHeardUptoRow : OpenClaim := { program := "ytaadloihphpdbaa", sum := "40a657204ada85d348005e4a9c94627fcf4663a17881964da3cbc4d73a9601fe", func := "lanekeeper/lklaw5.SendHeard", spec := "sendHeard", unfollowed := true, recurses := true, apart := false, narrowed := true }
def SendHeardUptoSaid : Prop := sendHeardUptoRow.holds Try.pinned (OpenSpec.upto sendHeardSpec)

/-- 'lklaw5.SendEach', WHERE WHAT IT READS IS OF BULK AT MOST 1048576: true; the input reads as it did. -/
def sendEachUptoRow : OpenClaim := { program := "ytaadloihphpdbaa", sum := "40a657204ada85d348005e4a9c94627fcf4663a17881964da3cbc4d73a9601fe", func := "lanekeeper/lklaw5.SendEach", spec := "sendEach", unfollowed := true, recurses := true, apart := false, narrowed := true }
def SendEachUptoSaid : Prop := sendEachUptoRow.holds Try.pinned (OpenSpec.upto sendEachSpec)

/-- 'lklaw3.TextTells', WHERE WHAT IT READS IS OF BULK AT MOST 1048576: true; the input reads as it did. -/
def textTellsUptoRow : OpenClaim := { program := "ytaadloihphpdbaa", sum := "40a657204ada85d348005e4a9c94627fcf4663a17881964da3cbc4d73a9601fe", func := "lanekeeper/lklaw3.TextTells", spec := "textTells", inPlace := ["internal/bytealg.IndexByteString", "internal/bytealg.IndexString"], named := ["internal/bytealg.MaxLen"], apart := false, narrowed := true }
def TextTellsUptoSaid : Prop := textTellsUptoRow.holds Try.pinned (OpenSpec.upto textTellsSpec)

/-- 'lklaw3.TextTurns', WHERE WHAT IT READS IS OF BULK AT MOST 1048576: true; the input reads as it did. -/
def textTurnsUptoRow : OpenClaim := { program := "ytaadloihphpdbaa", sum := "40a657204ada85d348005e4a9c94627fcf4663a17881964da3cbc4d73a9601fe", func := "lanekeeper/lklaw3.TextTurns", spec := "textTurns", inPlace := ["internal/bytealg.IndexByteString", "internal/bytealg.IndexString"], named := ["internal/bytealg.MaxLen"], apart := false, narrowed := true }
def TextTurnsUptoSaid : Prop := textTurnsUptoRow.holds Try.pinned (OpenSpec.upto textTurnsSpec)

/-- 'lklaw6.RecvTells', WHERE WHAT IT READS IS OF BULK AT MOST 1048576: true; the input reads as it did. -/
def recvTellsUptoRow : OpenClaim := { program := "ytaadloihphpdbaa", sum := "40a657204ada85d348005e4a9c94627fcf4663a17881964da3cbc4d73a9601fe", func := "lanekeeper/lklaw6.RecvTells", spec := "recvTells", inPlace := ["slices.overlaps[int]"], unfollowed := true, recurses := true, apart := false, narrowed := true }
def RecvTellsUptoSaid : Prop := recvTellsUptoRow.holds Try.pinned (OpenSpec.upto recvTellsSpec)

/-- 'lklaw6.RecvSays', WHERE WHAT IT READS IS OF BULK AT MOST 1048576: true; the input reads as it did. -/
def recvSaysUptoRow : OpenClaim := { program := "ytaadloihphpdbaa", sum := "40a657204ada85d348005e4a9c94627fcf4663a17881964da3cbc4d73a9601fe", func := "lanekeeper/lklaw6.RecvSays", spec := "recvSays", inPlace := ["slices.overlaps[int]"], unfollowed := true, recurses := true, apart := false, narrowed := true }
def RecvSaysUptoSaid : Prop := recvSaysUptoRow.holds Try.pinned (OpenSpec.upto recvSaysSpec)

/-- 'lklaw6.RecvTwice', WHERE WHAT IT READS IS OF BULK AT MOST 1048576: true; the input reads as it did. -/
def recvTwiceUptoRow : OpenClaim := { program := "ytaadloihphpdbaa", sum := "40a657204ada85d348005e4a9c94627fcf4663a17881964da3cbc4d73a9601fe", func := "lanekeeper/lklaw6.RecvTwice", spec := "recvTwice", inPlace := ["slices.overlaps[int]"], unfollowed := true, recurses := true, apart := false, narrowed := true }
def RecvTwiceUptoSaid : Prop := recvTwiceUptoRow.holds Try.pinned (OpenSpec.upto recvTwiceSpec)

/-- 'lklaw6.RecvOrder', WHERE WHAT IT READS IS OF BULK AT MOST 1048576: true; the input reads as it did. -/
def recvOrderUptoRow : OpenClaim := { program := "ytaadloihphpdbaa", sum := "40a657204ada85d348005e4a9c94627fcf4663a17881964da3cbc4d73a9601fe", func := "lanekeeper/lklaw6.RecvOrder", spec := "recvOrder", inPlace := ["slices.overlaps[int]"], unfollowed := true, recurses := true, apart := false, narrowed := true }
def RecvOrderUptoSaid : Prop := recvOrderUptoRow.holds Try.pinned (OpenSpec.upto recvOrderSpec)

/-- 'lklaw7.LaneTells', WHERE WHAT IT READS IS OF BULK AT MOST 1048576: true; the input reads as it did. -/
def laneTellsUptoRow : OpenClaim := { program := "ytaadloihphpdbaa", sum := "40a657204ada85d348005e4a9c94627fcf4663a17881964da3cbc4d73a9601fe", func := "lanekeeper/lklaw7.LaneTells", spec := "laneTells", inPlace := ["slices.overlaps[int]"], unfollowed := true, recurses := true, apart := false, narrowed := true }
def LaneTellsUptoSaid : Prop := laneTellsUptoRow.holds Try.pinned (OpenSpec.upto laneTellsSpec)

/-- 'lklaw7.LaneSpoilt', WHERE WHAT IT READS IS OF BULK AT MOST 1048576: true; the input reads as it did. -/
def laneSpoiltUptoRow : OpenClaim := { program := "ytaadloihphpdbaa", sum := "40a657204ada85d348005e4a9c94627fcf4663a17881964da3cbc4d73a9601fe", func := "lanekeeper/lklaw7.LaneSpoilt", spec := "laneSpoilt", inPlace := ["slices.overlaps[int]"], unfollowed := true, recurses := true, apart := false, narrowed := true }
def LaneSpoiltUptoSaid : Prop := laneSpoiltUptoRow.holds Try.pinned (OpenSpec.upto laneSpoiltSpec)

/-- 'lklaw7.LaneFits', WHERE WHAT IT READS IS OF BULK AT MOST 1048576: true; the input reads as it did. -/
def laneFitsUptoRow : OpenClaim := { program := "ytaadloihphpdbaa", sum := "40a657204ada85d348005e4a9c94627fcf4663a17881964da3cbc4d73a9601fe", func := "lanekeeper/lklaw7.LaneFits", spec := "laneFits", inPlace := ["slices.overlaps[int]"], unfollowed := true, recurses := true, apart := false, narrowed := true }
def LaneFitsUptoSaid : Prop := laneFitsUptoRow.holds Try.pinned (OpenSpec.upto laneFitsSpec)

/-- 'lklaw9.WorldTells', WHERE WHAT IT READS IS OF BULK AT MOST 1048576: true; the input reads as it did. -/
def worldTellsUptoRow : OpenClaim := { program := "ytaadloihphpdbaa", sum := "40a657204ada85d348005e4a9c94627fcf4663a17881964da3cbc4d73a9601fe", func := "lanekeeper/lklaw9.WorldTells", spec := "worldTells", inPlace := ["slices.overlaps[int]"], unfollowed := true, recurses := true, apart := false, narrowed := true }
def WorldTellsUptoSaid : Prop := worldTellsUptoRow.holds Try.pinned (OpenSpec.upto worldTellsSpec)

/-- 'lklaw9.WorldApart', WHERE WHAT IT READS IS OF BULK AT MOST 1048576: true; the input reads as it did. -/
def worldApartUptoRow : OpenClaim := { program := "ytaadloihphpdbaa", sum := "40a657204ada85d348005e4a9c94627fcf4663a17881964da3cbc4d73a9601fe", func := "lanekeeper/lklaw9.WorldApart", spec := "worldApart", inPlace := ["slices.overlaps[int]"], unfollowed := true, recurses := true, apart := false, narrowed := true }
def WorldApartUptoSaid : Prop := worldApartUptoRow.holds Try.pinned (OpenSpec.upto worldApartSpec)

/-- 'lklaw9.WorldOne', WHERE WHAT IT READS IS OF BULK AT MOST 1048576: true; the input reads as it did. -/
def worldOneUptoRow : OpenClaim := { program := "ytaadloihphpdbaa", sum := "40a657204ada85d348005e4a9c94627fcf4663a17881964da3cbc4d73a9601fe", func := "lanekeeper/lklaw9.WorldOne", spec := "worldOne", inPlace := ["slices.overlaps[int]"], unfollowed := true, recurses := true, apart := false, narrowed := true }
def WorldOneUptoSaid : Prop := worldOneUptoRow.holds Try.pinned (OpenSpec.upto worldOneSpec)

/-- 'lklaw12.FairTells', WHERE WHAT IT READS IS OF BULK AT MOST 1048576: true; the input reads as it did. -/
def fairTellsUptoRow : OpenClaim := { program := "ytaadloihphpdbaa", sum := "40a657204ada85d348005e4a9c94627fcf4663a17881964da3cbc4d73a9601fe", func := "lanekeeper/lklaw12.FairTells", spec := "fairTells", inPlace := ["slices.overlaps[int]"], unfollowed := true, recurses := true, apart := false, narrowed := true }
def FairTellsUptoSaid : Prop := fairTellsUptoRow.holds Try.pinned (OpenSpec.upto fairTellsSpec)

/-- 'lklaw12.FairEnds', WHERE WHAT IT READS IS OF BULK AT MOST 1048576: true; the input reads as it did. -/
def fairEndsUptoRow : OpenClaim := { program := "ytaadloihphpdbaa", sum := "40a657204ada85d348005e4a9c94627fcf4663a17881964da3cbc4d73a9601fe", func := "lanekeeper/lklaw12.FairEnds", spec := "fairEnds", inPlace := ["slices.overlaps[int]"], unfollowed := true, recurses := true, apart := false, narrowed := true }
def FairEndsUptoSaid : Prop := fairEndsUptoRow.holds Try.pinned (OpenSpec.upto fairEndsSpec)

/-- 'lklaw12.FairDone', WHERE WHAT IT READS IS OF BULK AT MOST 1048576: true; the input reads as it did. -/
def fairDoneUptoRow : OpenClaim := { program := "ytaadloihphpdbaa", sum := "40a657204ada85d348005e4a9c94627fcf4663a17881964da3cbc4d73a9601fe", func := "lanekeeper/lklaw12.FairDone", spec := "fairDone", inPlace := ["slices.overlaps[int]"], unfollowed := true, recurses := true, apart := false, narrowed := true }
def FairDoneUptoSaid : Prop := fairDoneUptoRow.holds Try.pinned (OpenSpec.upto fairDoneSpec)

/-- 'lklaw12.FairAlone', WHERE WHAT IT READS IS OF BULK AT MOST 1048576: true; the input reads as it did. -/
def fairAloneUptoRow : OpenClaim := { program := "ytaadloihphpdbaa", sum := "40a657204ada85d348005e4a9c94627fcf4663a17881964da3cbc4d73a9601fe", func := "lanekeeper/lklaw12.FairAlone", spec := "fairAlone", inPlace := ["slices.overlaps[int]"], unfollowed := true, recurses := true, apart := false, narrowed := true }
def FairAloneUptoSaid : Prop := fairAloneUptoRow.holds Try.pinned (OpenSpec.upto fairAloneSpec)

/-- 'lktop.TopLine', WHERE WHAT IT READS IS OF BULK AT MOST 1048576: true; the input reads as it did. -/
def topLineUptoRow : OpenClaim := { program := "ytaadloihphpdbaa", sum := "40a657204ada85d348005e4a9c94627fcf4663a17881964da3cbc4d73a9601fe", func := "lanekeeper/lktop.TopLine", spec := "topLine", inPlace := ["internal/bytealg.IndexByteString", "internal/bytealg.IndexString", "slices.overlaps[int]"], unfollowed := true, recurses := true, named := ["internal/bytealg.MaxLen"], apart := false, narrowed := true }
def TopLineUptoSaid : Prop := topLineUptoRow.holds Try.pinned (OpenSpec.upto topLineSpec)

/-- 'lktop.TopFlood', WHERE WHAT IT READS IS OF BULK AT MOST 1048576: true; the input reads as it did. -/
def topFloodUptoRow : OpenClaim := { program := "ytaadloihphpdbaa", sum := "40a657204ada85d348005e4a9c94627fcf4663a17881964da3cbc4d73a9601fe", func := "lanekeeper/lktop.TopFlood", spec := "topFlood", inPlace := ["internal/bytealg.IndexByteString", "internal/bytealg.IndexString", "slices.overlaps[int]"], unfollowed := true, recurses := true, named := ["internal/bytealg.MaxLen"], apart := false, narrowed := true }
def TopFloodUptoSaid : Prop := topFloodUptoRow.holds Try.pinned (OpenSpec.upto topFloodSpec)

end Rows
end Go.Proofs.Ytaadloihphpdbaa
