/-
  No cell of these rows narrows 'for every input' (looked for: loops, veiled, ifaces, maps, wideKeys, modest, calm, conditions, laid).
  DERIVED. THE GIVEN ROWS OF THIS SEAT. 17 by the template 'for every input the law returns true; each argument reads behind the call as it read before'; 0 by the template 'total and deterministic' (their statements: YthjojkkjdaoocaaTotals.lean).
  GIVEN WITH THE SEED: the statements are not yours to turn. If you find one false, say at which input.
  Laid BY PROGRAM, IN A SANDBOX (cutbox-rows.mjs): the forced cells as the released guide's own fill.sh prints them over the translation 3ec01fe2a44d4e66… (all of the seat's roots in one cut). By AI agents, Wed Nov 11 2026. No macro, syntax, notation, axiom, sorry.
-/
import Derived.Test.YthjojkkjdaoocaaChecked
import GoSem.Claim
import GoSem.ClaimJoined
import GoSem.ClaimMapViews
import Derived.JoinedTies
import Derived.KernelRfl
namespace Go.Proofs.Ythjojkkjdaoocaa
/- THE CELL 'sum', in the pinned program and in every row, IS THE sha256 OF THE DUMP (.gsa) THAT YthjojkkjdaoocaaProg.lean LOADS. Nothing in Lean hashes anything: it is a label: what it is worth is what the hold of that sum in a sandbox is worth. -/
noncomputable def Try.pinned : Pinned := { name := "ythjojkkjdaoocaa", sum := "3ec01fe2a44d4e66f2c43c1e800bafb8f0f34af875ebc597f8515fbe50a8d33a", checked := Try.checked }
namespace Rows
def none {H : Type} : Left H := { results := [], args := [] }

/-- 'downpourlaw16.FlashFuse': WHATEVER THE INPUT: true; the input reads as it did. -/
def flashFuseSpec : ChangeSpec := { name := "flashFuse", fn := fun _ => fun
  | [d1, d2, d3] => { results := [.lit (.bool true)], args := [d1, d2, d3] }
  | _ => none }
def flashFuseRow : OpenClaim := { program := "ythjojkkjdaoocaa", sum := "3ec01fe2a44d4e66f2c43c1e800bafb8f0f34af875ebc597f8515fbe50a8d33a", func := "downpour/downpourlaw16.FlashFuse", spec := "flashFuse", inPlace := ["internal/bytealg.MakeNoZero", "sync/atomic.AddInt64", "sync/atomic.LoadInt64"], apart := false }
def FlashFuseSaid : Prop := flashFuseRow.holds Try.pinned (OpenSpec.ofChange flashFuseSpec)

/-- ITS FALSE NEIGHBOUR: 'it returns false'. Refute it at one input. -/
def flashFuseWrong : ChangeSpec := { name := "flashFuse", fn := fun _ => fun
  | [d1, d2, d3] => { results := [.lit (.bool false)], args := [d1, d2, d3] }
  | _ => none }
def FlashFuseWrongFalsely : Prop := flashFuseRow.holds Try.pinned (OpenSpec.ofChange flashFuseWrong)

/-- 'downpourlaw16.FlashWears': WHATEVER THE INPUT: true; the input reads as it did. -/
def flashWearsSpec : ChangeSpec := { name := "flashWears", fn := fun _ => fun
  | [d1, d2] => { results := [.lit (.bool true)], args := [d1, d2] }
  | _ => none }
def flashWearsRow : OpenClaim := { program := "ythjojkkjdaoocaa", sum := "3ec01fe2a44d4e66f2c43c1e800bafb8f0f34af875ebc597f8515fbe50a8d33a", func := "downpour/downpourlaw16.FlashWears", spec := "flashWears", inPlace := ["internal/bytealg.MakeNoZero", "sync/atomic.AddInt64", "sync/atomic.LoadInt64"], apart := false }
def FlashWearsSaid : Prop := flashWearsRow.holds Try.pinned (OpenSpec.ofChange flashWearsSpec)

/-- ITS FALSE NEIGHBOUR: 'it returns false'. Refute it at one input. -/
def flashWearsWrong : ChangeSpec := { name := "flashWears", fn := fun _ => fun
  | [d1, d2] => { results := [.lit (.bool false)], args := [d1, d2] }
  | _ => none }
def FlashWearsWrongFalsely : Prop := flashWearsRow.holds Try.pinned (OpenSpec.ofChange flashWearsWrong)

/-- 'downpourlaw16.FlashClears': WHATEVER THE INPUT: true; the input reads as it did. -/
def flashClearsSpec : ChangeSpec := { name := "flashClears", fn := fun _ => fun
  | [d] => { results := [.lit (.bool true)], args := [d] }
  | _ => none }
def flashClearsRow : OpenClaim := { program := "ythjojkkjdaoocaa", sum := "3ec01fe2a44d4e66f2c43c1e800bafb8f0f34af875ebc597f8515fbe50a8d33a", func := "downpour/downpourlaw16.FlashClears", spec := "flashClears", inPlace := ["internal/bytealg.MakeNoZero", "sync/atomic.AddInt64", "sync/atomic.LoadInt64"], apart := false }
def FlashClearsSaid : Prop := flashClearsRow.holds Try.pinned (OpenSpec.ofChange flashClearsSpec)

/-- ITS FALSE NEIGHBOUR: 'it returns false'. Refute it at one input. -/
def flashClearsWrong : ChangeSpec := { name := "flashClears", fn := fun _ => fun
  | [d] => { results := [.lit (.bool false)], args := [d] }
  | _ => none }
def FlashClearsWrongFalsely : Prop := flashClearsRow.holds Try.pinned (OpenSpec.ofChange flashClearsWrong)

/-- 'downpourlaw16.FlashTwice': WHATEVER THE INPUT: true; the input reads as it did. -/
def flashTwiceSpec : ChangeSpec := { name := "flashTwice", fn := fun _ => fun
  | [d1, d2, d3] => { results := [.lit (.bool true)], args := [d1, d2, d3] }
  | _ => none }
def flashTwiceRow : OpenClaim := { program := "ythjojkkjdaoocaa", sum := "3ec01fe2a44d4e66f2c43c1e800bafb8f0f34af875ebc597f8515fbe50a8d33a", func := "downpour/downpourlaw16.FlashTwice", spec := "flashTwice", inPlace := ["internal/bytealg.MakeNoZero", "sync/atomic.AddInt64", "sync/atomic.LoadInt64"], unfollowed := true, recurses := true, apart := false }
def FlashTwiceSaid : Prop := flashTwiceRow.holds Try.pinned (OpenSpec.ofChange flashTwiceSpec)

/-- ITS FALSE NEIGHBOUR: 'it returns false'. Refute it at one input. -/
def flashTwiceWrong : ChangeSpec := { name := "flashTwice", fn := fun _ => fun
  | [d1, d2, d3] => { results := [.lit (.bool false)], args := [d1, d2, d3] }
  | _ => none }
def FlashTwiceWrongFalsely : Prop := flashTwiceRow.holds Try.pinned (OpenSpec.ofChange flashTwiceWrong)

/-- 'downpourlaw16.FlashBounds': WHATEVER THE INPUT: true; the input reads as it did. -/
def flashBoundsSpec : ChangeSpec := { name := "flashBounds", fn := fun _ => fun
  | [d1, d2] => { results := [.lit (.bool true)], args := [d1, d2] }
  | _ => none }
def flashBoundsRow : OpenClaim := { program := "ythjojkkjdaoocaa", sum := "3ec01fe2a44d4e66f2c43c1e800bafb8f0f34af875ebc597f8515fbe50a8d33a", func := "downpour/downpourlaw16.FlashBounds", spec := "flashBounds", inPlace := ["internal/bytealg.MakeNoZero", "sync/atomic.AddInt64", "sync/atomic.LoadInt64"], unfollowed := true, recurses := true, apart := false }
def FlashBoundsSaid : Prop := flashBoundsRow.holds Try.pinned (OpenSpec.ofChange flashBoundsSpec)

/-- ITS FALSE NEIGHBOUR: 'it returns false'. Refute it at one input. -/
def flashBoundsWrong : ChangeSpec := { name := "flashBounds", fn := fun _ => fun
  | [d1, d2] => { results := [.lit (.bool false)], args := [d1, d2] }
  | _ => none }
def FlashBoundsWrongFalsely : Prop := flashBoundsRow.holds Try.pinned (OpenSpec.ofChange flashBoundsWrong)

/-- 'downpourlaw16.FlashPlays': WHATEVER THE INPUT: true; the input reads as it did. -/
def flashPlaysSpec : ChangeSpec := { name := "flashPlays", fn := fun _ => fun
  | [d1, d2] => { results := [.lit (.bool true)], args := [d1, d2] }
  | _ => none }
def flashPlaysRow : OpenClaim := { program := "ythjojkkjdaoocaa", sum := "3ec01fe2a44d4e66f2c43c1e800bafb8f0f34af875ebc597f8515fbe50a8d33a", func := "downpour/downpourlaw16.FlashPlays", spec := "flashPlays", inPlace := ["internal/bytealg.MakeNoZero", "sync/atomic.AddInt64", "sync/atomic.LoadInt64"], unfollowed := true, recurses := true, apart := false }
def FlashPlaysSaid : Prop := flashPlaysRow.holds Try.pinned (OpenSpec.ofChange flashPlaysSpec)

/-- ITS FALSE NEIGHBOUR: 'it returns false'. Refute it at one input. -/
def flashPlaysWrong : ChangeSpec := { name := "flashPlays", fn := fun _ => fun
  | [d1, d2] => { results := [.lit (.bool false)], args := [d1, d2] }
  | _ => none }
def FlashPlaysWrongFalsely : Prop := flashPlaysRow.holds Try.pinned (OpenSpec.ofChange flashPlaysWrong)

/-- 'downpourlaw16.FlashNil': WHATEVER THE INPUT: true; the input reads as it did. -/
def flashNilSpec : ChangeSpec := { name := "flashNil", fn := fun _ => fun
  | [d] => { results := [.lit (.bool true)], args := [d] }
  | _ => none }
def flashNilRow : OpenClaim := { program := "ythjojkkjdaoocaa", sum := "3ec01fe2a44d4e66f2c43c1e800bafb8f0f34af875ebc597f8515fbe50a8d33a", func := "downpour/downpourlaw16.FlashNil", spec := "flashNil", inPlace := ["sync/atomic.AddInt64", "sync/atomic.LoadInt64", "internal/bytealg.MakeNoZero"], unfollowed := true, recurses := true, apart := false }
def FlashNilSaid : Prop := flashNilRow.holds Try.pinned (OpenSpec.ofChange flashNilSpec)

/-- ITS FALSE NEIGHBOUR: 'it returns false'. Refute it at one input. -/
def flashNilWrong : ChangeSpec := { name := "flashNil", fn := fun _ => fun
  | [d] => { results := [.lit (.bool false)], args := [d] }
  | _ => none }
def FlashNilWrongFalsely : Prop := flashNilRow.holds Try.pinned (OpenSpec.ofChange flashNilWrong)

/-- 'downpourlaw17.CellSpoilt': WHATEVER THE INPUT: true; the input reads as it did. -/
def cellSpoiltSpec : ChangeSpec := { name := "cellSpoilt", fn := fun _ => fun
  | [d1, d2, d3] => { results := [.lit (.bool true)], args := [d1, d2, d3] }
  | _ => none }
def cellSpoiltRow : OpenClaim := { program := "ythjojkkjdaoocaa", sum := "3ec01fe2a44d4e66f2c43c1e800bafb8f0f34af875ebc597f8515fbe50a8d33a", func := "downpour/downpourlaw17.CellSpoilt", spec := "cellSpoilt", inPlace := ["internal/bytealg.MakeNoZero", "sync/atomic.AddInt64"], apart := false }
def CellSpoiltSaid : Prop := cellSpoiltRow.holds Try.pinned (OpenSpec.ofChange cellSpoiltSpec)

/-- ITS FALSE NEIGHBOUR: 'it returns false'. Refute it at one input. -/
def cellSpoiltWrong : ChangeSpec := { name := "cellSpoilt", fn := fun _ => fun
  | [d1, d2, d3] => { results := [.lit (.bool false)], args := [d1, d2, d3] }
  | _ => none }
def CellSpoiltWrongFalsely : Prop := cellSpoiltRow.holds Try.pinned (OpenSpec.ofChange cellSpoiltWrong)

/-- 'downpourlaw17.CellSame': WHATEVER THE INPUT: true; the input reads as it did. -/
def cellSameSpec : ChangeSpec := { name := "cellSame", fn := fun _ => fun
  | [d] => { results := [.lit (.bool true)], args := [d] }
  | _ => none }
def cellSameRow : OpenClaim := { program := "ythjojkkjdaoocaa", sum := "3ec01fe2a44d4e66f2c43c1e800bafb8f0f34af875ebc597f8515fbe50a8d33a", func := "downpour/downpourlaw17.CellSame", spec := "cellSame", inPlace := ["internal/bytealg.MakeNoZero", "sync/atomic.AddInt64"], apart := false }
def CellSameSaid : Prop := cellSameRow.holds Try.pinned (OpenSpec.ofChange cellSameSpec)

/-- ITS FALSE NEIGHBOUR: 'it returns false'. Refute it at one input. -/
def cellSameWrong : ChangeSpec := { name := "cellSame", fn := fun _ => fun
  | [d] => { results := [.lit (.bool false)], args := [d] }
  | _ => none }
def CellSameWrongFalsely : Prop := cellSameRow.holds Try.pinned (OpenSpec.ofChange cellSameWrong)

/-- 'downpourlaw17.CellWhole': WHATEVER THE INPUT: true; the input reads as it did. -/
def cellWholeSpec : ChangeSpec := { name := "cellWhole", fn := fun _ => fun
  | [d] => { results := [.lit (.bool true)], args := [d] }
  | _ => none }
def cellWholeRow : OpenClaim := { program := "ythjojkkjdaoocaa", sum := "3ec01fe2a44d4e66f2c43c1e800bafb8f0f34af875ebc597f8515fbe50a8d33a", func := "downpour/downpourlaw17.CellWhole", spec := "cellWhole", inPlace := ["internal/bytealg.MakeNoZero", "sync/atomic.AddInt64"], apart := false }
def CellWholeSaid : Prop := cellWholeRow.holds Try.pinned (OpenSpec.ofChange cellWholeSpec)

/-- ITS FALSE NEIGHBOUR: 'it returns false'. Refute it at one input. -/
def cellWholeWrong : ChangeSpec := { name := "cellWhole", fn := fun _ => fun
  | [d] => { results := [.lit (.bool false)], args := [d] }
  | _ => none }
def CellWholeWrongFalsely : Prop := cellWholeRow.holds Try.pinned (OpenSpec.ofChange cellWholeWrong)

/-- 'downpourlaw17.CellTurns': WHATEVER THE INPUT: true; the input reads as it did. -/
def cellTurnsSpec : ChangeSpec := { name := "cellTurns", fn := fun _ => fun
  | [d1, d2] => { results := [.lit (.bool true)], args := [d1, d2] }
  | _ => none }
def cellTurnsRow : OpenClaim := { program := "ythjojkkjdaoocaa", sum := "3ec01fe2a44d4e66f2c43c1e800bafb8f0f34af875ebc597f8515fbe50a8d33a", func := "downpour/downpourlaw17.CellTurns", spec := "cellTurns", inPlace := ["internal/bytealg.MakeNoZero", "sync/atomic.AddInt64", "sync/atomic.LoadInt64"], apart := false }
def CellTurnsSaid : Prop := cellTurnsRow.holds Try.pinned (OpenSpec.ofChange cellTurnsSpec)

/-- ITS FALSE NEIGHBOUR: 'it returns false'. Refute it at one input. -/
def cellTurnsWrong : ChangeSpec := { name := "cellTurns", fn := fun _ => fun
  | [d1, d2] => { results := [.lit (.bool false)], args := [d1, d2] }
  | _ => none }
def CellTurnsWrongFalsely : Prop := cellTurnsRow.holds Try.pinned (OpenSpec.ofChange cellTurnsWrong)

/-- 'downpourlaw17.CellPlays': WHATEVER THE INPUT: true; the input reads as it did. -/
def cellPlaysSpec : ChangeSpec := { name := "cellPlays", fn := fun _ => fun
  | [d1, d2] => { results := [.lit (.bool true)], args := [d1, d2] }
  | _ => none }
def cellPlaysRow : OpenClaim := { program := "ythjojkkjdaoocaa", sum := "3ec01fe2a44d4e66f2c43c1e800bafb8f0f34af875ebc597f8515fbe50a8d33a", func := "downpour/downpourlaw17.CellPlays", spec := "cellPlays", inPlace := ["internal/bytealg.MakeNoZero", "sync/atomic.AddInt64"], apart := false }
def CellPlaysSaid : Prop := cellPlaysRow.holds Try.pinned (OpenSpec.ofChange cellPlaysSpec)

/-- ITS FALSE NEIGHBOUR: 'it returns false'. Refute it at one input. -/
def cellPlaysWrong : ChangeSpec := { name := "cellPlays", fn := fun _ => fun
  | [d1, d2] => { results := [.lit (.bool false)], args := [d1, d2] }
  | _ => none }
def CellPlaysWrongFalsely : Prop := cellPlaysRow.holds Try.pinned (OpenSpec.ofChange cellPlaysWrong)

/-- 'downpourlaw20.SlotApart': WHATEVER THE INPUT: true; the input reads as it did. -/
def slotApartSpec : ChangeSpec := { name := "slotApart", fn := fun _ => fun
  | [d1, d2, d3] => { results := [.lit (.bool true)], args := [d1, d2, d3] }
  | _ => none }
def slotApartRow : OpenClaim := { program := "ythjojkkjdaoocaa", sum := "3ec01fe2a44d4e66f2c43c1e800bafb8f0f34af875ebc597f8515fbe50a8d33a", func := "downpour/downpourlaw20.SlotApart", spec := "slotApart", inPlace := ["internal/bytealg.MakeNoZero", "sync/atomic.AddInt64"], unfollowed := true, recurses := true, apart := false }
def SlotApartSaid : Prop := slotApartRow.holds Try.pinned (OpenSpec.ofChange slotApartSpec)

/-- ITS FALSE NEIGHBOUR: 'it returns false'. Refute it at one input. -/
def slotApartWrong : ChangeSpec := { name := "slotApart", fn := fun _ => fun
  | [d1, d2, d3] => { results := [.lit (.bool false)], args := [d1, d2, d3] }
  | _ => none }
def SlotApartWrongFalsely : Prop := slotApartRow.holds Try.pinned (OpenSpec.ofChange slotApartWrong)

/-- 'downpourlaw20.SlotSteps': WHATEVER THE INPUT: true; the input reads as it did. -/
def slotStepsSpec : ChangeSpec := { name := "slotSteps", fn := fun _ => fun
  | [d1, d2, d3] => { results := [.lit (.bool true)], args := [d1, d2, d3] }
  | _ => none }
def slotStepsRow : OpenClaim := { program := "ythjojkkjdaoocaa", sum := "3ec01fe2a44d4e66f2c43c1e800bafb8f0f34af875ebc597f8515fbe50a8d33a", func := "downpour/downpourlaw20.SlotSteps", spec := "slotSteps", inPlace := ["internal/bytealg.MakeNoZero", "sync/atomic.AddInt64", "sync/atomic.LoadInt64"], unfollowed := true, recurses := true, apart := false }
def SlotStepsSaid : Prop := slotStepsRow.holds Try.pinned (OpenSpec.ofChange slotStepsSpec)

/-- ITS FALSE NEIGHBOUR: 'it returns false'. Refute it at one input. -/
def slotStepsWrong : ChangeSpec := { name := "slotSteps", fn := fun _ => fun
  | [d1, d2, d3] => { results := [.lit (.bool false)], args := [d1, d2, d3] }
  | _ => none }
def SlotStepsWrongFalsely : Prop := slotStepsRow.holds Try.pinned (OpenSpec.ofChange slotStepsWrong)

/-- 'downpourlaw20.SlotOthers': WHATEVER THE INPUT: true; the input reads as it did. -/
def slotOthersSpec : ChangeSpec := { name := "slotOthers", fn := fun _ => fun
  | [d1, d2, d3, d4] => { results := [.lit (.bool true)], args := [d1, d2, d3, d4] }
  | _ => none }
def slotOthersRow : OpenClaim := { program := "ythjojkkjdaoocaa", sum := "3ec01fe2a44d4e66f2c43c1e800bafb8f0f34af875ebc597f8515fbe50a8d33a", func := "downpour/downpourlaw20.SlotOthers", spec := "slotOthers", inPlace := ["internal/bytealg.MakeNoZero", "sync/atomic.AddInt64", "sync/atomic.LoadInt64"], unfollowed := true, recurses := true, apart := false }
def SlotOthersSaid : Prop := slotOthersRow.holds Try.pinned (OpenSpec.ofChange slotOthersSpec)

/-- ITS FALSE NEIGHBOUR: 'it returns false'. Refute it at one input. -/
def slotOthersWrong : ChangeSpec := { name := "slotOthers", fn := fun _ => fun
  | [d1, d2, d3, d4] => { results := [.lit (.bool false)], args := [d1, d2, d3, d4] }
  | _ => none }
def SlotOthersWrongFalsely : Prop := slotOthersRow.holds Try.pinned (OpenSpec.ofChange slotOthersWrong)

/-- 'downpourlaw20.SlotWhole': WHATEVER THE INPUT: true; the input reads as it did. -/
def slotWholeSpec : ChangeSpec := { name := "slotWhole", fn := fun _ => fun
  | [d1, d2, d3, d4, d5] => { results := [.lit (.bool true)], args := [d1, d2, d3, d4, d5] }
  | _ => none }
def slotWholeRow : OpenClaim := { program := "ythjojkkjdaoocaa", sum := "3ec01fe2a44d4e66f2c43c1e800bafb8f0f34af875ebc597f8515fbe50a8d33a", func := "downpour/downpourlaw20.SlotWhole", spec := "slotWhole", inPlace := ["internal/bytealg.MakeNoZero", "sync/atomic.AddInt64"], unfollowed := true, recurses := true, apart := false }
def SlotWholeSaid : Prop := slotWholeRow.holds Try.pinned (OpenSpec.ofChange slotWholeSpec)

/-- ITS FALSE NEIGHBOUR: 'it returns false'. Refute it at one input. -/
def slotWholeWrong : ChangeSpec := { name := "slotWhole", fn := fun _ => fun
  | [d1, d2, d3, d4, d5] => { results := [.lit (.bool false)], args := [d1, d2, d3, d4, d5] }
  | _ => none }
def SlotWholeWrongFalsely : Prop := slotWholeRow.holds Try.pinned (OpenSpec.ofChange slotWholeWrong)

/-- 'downpourlaw20.SlotPlays': WHATEVER THE INPUT: true; the input reads as it did. -/
def slotPlaysSpec : ChangeSpec := { name := "slotPlays", fn := fun _ => fun
  | [d1, d2, d3] => { results := [.lit (.bool true)], args := [d1, d2, d3] }
  | _ => none }
def slotPlaysRow : OpenClaim := { program := "ythjojkkjdaoocaa", sum := "3ec01fe2a44d4e66f2c43c1e800bafb8f0f34af875ebc597f8515fbe50a8d33a", func := "downpour/downpourlaw20.SlotPlays", spec := "slotPlays", inPlace := ["internal/bytealg.MakeNoZero", "sync/atomic.AddInt64"], unfollowed := true, recurses := true, apart := false }
def SlotPlaysSaid : Prop := slotPlaysRow.holds Try.pinned (OpenSpec.ofChange slotPlaysSpec)

/-- ITS FALSE NEIGHBOUR: 'it returns false'. Refute it at one input. -/
def slotPlaysWrong : ChangeSpec := { name := "slotPlays", fn := fun _ => fun
  | [d1, d2, d3] => { results := [.lit (.bool false)], args := [d1, d2, d3] }
  | _ => none }
def SlotPlaysWrongFalsely : Prop := slotPlaysRow.holds Try.pinned (OpenSpec.ofChange slotPlaysWrong)

/- THE SECOND FORM. 'bulk': how many values and letters a reading holds, each counted each time it is reached (what is shared counts as often as it is met; a slice's spare places count too). A statement '..UptoSaid' is the law's where the arguments, and the package variables that the reading takes, are together of bulk at most 1048576: NARROWER than '..Said'. Prove '..Said' where nothing that the law and all that it calls make is longer than what came in: it says more and counts as full. Else prove '..UptoSaid'. A law counts once. -/
mutual
def uptoBulk {H : Type} : DataW H → Nat
  | .lit (.string bytes) => bytes.length + 1
  | .lit _ => 1
  | .nil => 1
  | .ptr d => uptoBulk d + 1
  | .slice elems spare => uptoBulkAll elems + uptoBulkAll spare + 1
  | .agg parts => uptoBulkAll parts + 1
  | .iface _ d => uptoBulk d + 1
  | .map entries => uptoBulkEntries entries + 1
  | .held _ => 1
def uptoBulkAll {H : Type} : List (DataW H) → Nat
  | [] => 0
  | d :: r => uptoBulk d + uptoBulkAll r
def uptoBulkEntries {H : Type} : List (Lit × DataW H) → Nat
  | [] => 0
  | x :: r => uptoBulkEntry x + uptoBulkEntries r
def uptoBulkEntry {H : Type} : Lit × DataW H → Nat
  | (.string bytes, d) => bytes.length + uptoBulk d + 1
  | (_, d) => uptoBulk d + 1
 end
def uptoSmall : (H : Type) → List (DataW H) → Bool := fun _ ds => decide (uptoBulkAll ds ≤ 1048576)
def OpenSpec.upto (s : _root_.Go.ChangeSpec) : _root_.Go.OpenSpec := { _root_.Go.OpenSpec.ofChange s with cond := some uptoSmall }

/-- 'downpourlaw16.FlashFuse', WHERE WHAT IT READS IS OF BULK AT MOST 1048576: true; the input reads as it did. -/
def flashFuseUptoRow : OpenClaim := { program := "ythjojkkjdaoocaa", sum := "3ec01fe2a44d4e66f2c43c1e800bafb8f0f34af875ebc597f8515fbe50a8d33a", func := "downpour/downpourlaw16.FlashFuse", spec := "flashFuse", inPlace := ["internal/bytealg.MakeNoZero", "sync/atomic.AddInt64", "sync/atomic.LoadInt64"], apart := false, narrowed := true }
def FlashFuseUptoSaid : Prop := flashFuseUptoRow.holds Try.pinned (OpenSpec.upto flashFuseSpec)

/-- 'downpourlaw16.FlashWears', WHERE WHAT IT READS IS OF BULK AT MOST 1048576: true; the input reads as it did. -/
def flashWearsUptoRow : OpenClaim := { program := "ythjojkkjdaoocaa", sum := "3ec01fe2a44d4e66f2c43c1e800bafb8f0f34af875ebc597f8515fbe50a8d33a", func := "downpour/downpourlaw16.FlashWears", spec := "flashWears", inPlace := ["internal/bytealg.MakeNoZero", "sync/atomic.AddInt64", "sync/atomic.LoadInt64"], apart := false, narrowed := true }
def FlashWearsUptoSaid : Prop := flashWearsUptoRow.holds Try.pinned (OpenSpec.upto flashWearsSpec)

/-- 'downpourlaw16.FlashClears', WHERE WHAT IT READS IS OF BULK AT MOST 1048576: true; the input reads as it did. -/
def flashClearsUptoRow : OpenClaim := { program := "ythjojkkjdaoocaa", sum := "3ec01fe2a44d4e66f2c43c1e800bafb8f0f34af875ebc597f8515fbe50a8d33a", func := "downpour/downpourlaw16.FlashClears", spec := "flashClears", inPlace := ["internal/bytealg.MakeNoZero", "sync/atomic.AddInt64", "sync/atomic.LoadInt64"], apart := false, narrowed := true }
def FlashClearsUptoSaid : Prop := flashClearsUptoRow.holds Try.pinned (OpenSpec.upto flashClearsSpec)

/-- 'downpourlaw16.FlashTwice', WHERE WHAT IT READS IS OF BULK AT MOST 1048576: true; the input reads as it did. -/
def flashTwiceUptoRow : OpenClaim := { program := "ythjojkkjdaoocaa", sum := "3ec01fe2a44d4e66f2c43c1e800bafb8f0f34af875ebc597f8515fbe50a8d33a", func := "downpour/downpourlaw16.FlashTwice", spec := "flashTwice", inPlace := ["internal/bytealg.MakeNoZero", "sync/atomic.AddInt64", "sync/atomic.LoadInt64"], unfollowed := true, recurses := true, apart := false, narrowed := true }
def FlashTwiceUptoSaid : Prop := flashTwiceUptoRow.holds Try.pinned (OpenSpec.upto flashTwiceSpec)

/-- 'downpourlaw16.FlashBounds', WHERE WHAT IT READS IS OF BULK AT MOST 1048576: true; the input reads as it did. -/
def flashBoundsUptoRow : OpenClaim := { program := "ythjojkkjdaoocaa", sum := "3ec01fe2a44d4e66f2c43c1e800bafb8f0f34af875ebc597f8515fbe50a8d33a", func := "downpour/downpourlaw16.FlashBounds", spec := "flashBounds", inPlace := ["internal/bytealg.MakeNoZero", "sync/atomic.AddInt64", "sync/atomic.LoadInt64"], unfollowed := true, recurses := true, apart := false, narrowed := true }
def FlashBoundsUptoSaid : Prop := flashBoundsUptoRow.holds Try.pinned (OpenSpec.upto flashBoundsSpec)

/-- 'downpourlaw16.FlashPlays', WHERE WHAT IT READS IS OF BULK AT MOST 1048576: true; the input reads as it did. -/
def flashPlaysUptoRow : OpenClaim := { program := "ythjojkkjdaoocaa", sum := "3ec01fe2a44d4e66f2c43c1e800bafb8f0f34af875ebc597f8515fbe50a8d33a", func := "downpour/downpourlaw16.FlashPlays", spec := "flashPlays", inPlace := ["internal/bytealg.MakeNoZero", "sync/atomic.AddInt64", "sync/atomic.LoadInt64"], unfollowed := true, recurses := true, apart := false, narrowed := true }
def FlashPlaysUptoSaid : Prop := flashPlaysUptoRow.holds Try.pinned (OpenSpec.upto flashPlaysSpec)

/-- 'downpourlaw16.FlashNil', WHERE WHAT IT READS IS OF BULK AT MOST 1048576: true; the input reads as it did. -/
def flashNilUptoRow : OpenClaim := { program := "ythjojkkjdaoocaa", sum := "3ec01fe2a44d4e66f2c43c1e800bafb8f0f34af875ebc597f8515fbe50a8d33a", func := "downpour/downpourlaw16.FlashNil", spec := "flashNil", inPlace := ["sync/atomic.AddInt64", "sync/atomic.LoadInt64", "internal/bytealg.MakeNoZero"], unfollowed := true, recurses := true, apart := false, narrowed := true }
def FlashNilUptoSaid : Prop := flashNilUptoRow.holds Try.pinned (OpenSpec.upto flashNilSpec)

/-- 'downpourlaw17.CellSpoilt', WHERE WHAT IT READS IS OF BULK AT MOST 1048576: true; the input reads as it did. -/
def cellSpoiltUptoRow : OpenClaim := { program := "ythjojkkjdaoocaa", sum := "3ec01fe2a44d4e66f2c43c1e800bafb8f0f34af875ebc597f8515fbe50a8d33a", func := "downpour/downpourlaw17.CellSpoilt", spec := "cellSpoilt", inPlace := ["internal/bytealg.MakeNoZero", "sync/atomic.AddInt64"], apart := false, narrowed := true }
def CellSpoiltUptoSaid : Prop := cellSpoiltUptoRow.holds Try.pinned (OpenSpec.upto cellSpoiltSpec)

/-- 'downpourlaw17.CellSame', WHERE WHAT IT READS IS OF BULK AT MOST 1048576: true; the input reads as it did. -/
def cellSameUptoRow : OpenClaim := { program := "ythjojkkjdaoocaa", sum := "3ec01fe2a44d4e66f2c43c1e800bafb8f0f34af875ebc597f8515fbe50a8d33a", func := "downpour/downpourlaw17.CellSame", spec := "cellSame", inPlace := ["internal/bytealg.MakeNoZero", "sync/atomic.AddInt64"], apart := false, narrowed := true }
def CellSameUptoSaid : Prop := cellSameUptoRow.holds Try.pinned (OpenSpec.upto cellSameSpec)

/-- 'downpourlaw17.CellWhole', WHERE WHAT IT READS IS OF BULK AT MOST 1048576: true; the input reads as it did. -/
def cellWholeUptoRow : OpenClaim := { program := "ythjojkkjdaoocaa", sum := "3ec01fe2a44d4e66f2c43c1e800bafb8f0f34af875ebc597f8515fbe50a8d33a", func := "downpour/downpourlaw17.CellWhole", spec := "cellWhole", inPlace := ["internal/bytealg.MakeNoZero", "sync/atomic.AddInt64"], apart := false, narrowed := true }
def CellWholeUptoSaid : Prop := cellWholeUptoRow.holds Try.pinned (OpenSpec.upto cellWholeSpec)

/-- 'downpourlaw17.CellTurns', WHERE WHAT IT READS IS OF BULK AT MOST 1048576: true; the input reads as it did. -/
def cellTurnsUptoRow : OpenClaim := { program := "ythjojkkjdaoocaa", sum := "3ec01fe2a44d4e66f2c43c1e800bafb8f0f34af875ebc597f8515fbe50a8d33a", func := "downpour/downpourlaw17.CellTurns", spec := "cellTurns", inPlace := ["internal/bytealg.MakeNoZero", "sync/atomic.AddInt64", "sync/atomic.LoadInt64"], apart := false, narrowed := true }
def CellTurnsUptoSaid : Prop := cellTurnsUptoRow.holds Try.pinned (OpenSpec.upto cellTurnsSpec)

/-- 'downpourlaw17.CellPlays', WHERE WHAT IT READS IS OF BULK AT MOST 1048576: true; the input reads as it did. -/
def cellPlaysUptoRow : OpenClaim := { program := "ythjojkkjdaoocaa", sum := "3ec01fe2a44d4e66f2c43c1e800bafb8f0f34af875ebc597f8515fbe50a8d33a", func := "downpour/downpourlaw17.CellPlays", spec := "cellPlays", inPlace := ["internal/bytealg.MakeNoZero", "sync/atomic.AddInt64"], apart := false, narrowed := true }
def CellPlaysUptoSaid : Prop := cellPlaysUptoRow.holds Try.pinned (OpenSpec.upto cellPlaysSpec)

/-- 'downpourlaw20.SlotApart', WHERE WHAT IT READS IS OF BULK AT MOST 1048576: true; the input reads as it did. -/
def slotApartUptoRow : OpenClaim := { program := "ythjojkkjdaoocaa", sum := "3ec01fe2a44d4e66f2c43c1e800bafb8f0f34af875ebc597f8515fbe50a8d33a", func := "downpour/downpourlaw20.SlotApart", spec := "slotApart", inPlace := ["internal/bytealg.MakeNoZero", "sync/atomic.AddInt64"], unfollowed := true, recurses := true, apart := false, narrowed := true }
def SlotApartUptoSaid : Prop := slotApartUptoRow.holds Try.pinned (OpenSpec.upto slotApartSpec)

/-- 'downpourlaw20.SlotSteps', WHERE WHAT IT READS IS OF BULK AT MOST 1048576: true; the input reads as it did. -/
def slotStepsUptoRow : OpenClaim := { program := "ythjojkkjdaoocaa", sum := "3ec01fe2a44d4e66f2c43c1e800bafb8f0f34af875ebc597f8515fbe50a8d33a", func := "downpour/downpourlaw20.SlotSteps", spec := "slotSteps", inPlace := ["internal/bytealg.MakeNoZero", "sync/atomic.AddInt64", "sync/atomic.LoadInt64"], unfollowed := true, recurses := true, apart := false, narrowed := true }
def SlotStepsUptoSaid : Prop := slotStepsUptoRow.holds Try.pinned (OpenSpec.upto slotStepsSpec)

/-- 'downpourlaw20.SlotOthers', WHERE WHAT IT READS IS OF BULK AT MOST 1048576: true; the input reads as it did. -/
def slotOthersUptoRow : OpenClaim := { program := "ythjojkkjdaoocaa", sum := "3ec01fe2a44d4e66f2c43c1e800bafb8f0f34af875ebc597f8515fbe50a8d33a", func := "downpour/downpourlaw20.SlotOthers", spec := "slotOthers", inPlace := ["internal/bytealg.MakeNoZero", "sync/atomic.AddInt64", "sync/atomic.LoadInt64"], unfollowed := true, recurses := true, apart := false, narrowed := true }
def SlotOthersUptoSaid : Prop := slotOthersUptoRow.holds Try.pinned (OpenSpec.upto slotOthersSpec)

/-- 'downpourlaw20.SlotWhole', WHERE WHAT IT READS IS OF BULK AT MOST 1048576: true; the input reads as it did. -/
def slotWholeUptoRow : OpenClaim := { program := "ythjojkkjdaoocaa", sum := "3ec01fe2a44d4e66f2c43c1e800bafb8f0f34af875ebc597f8515fbe50a8d33a", func := "downpour/downpourlaw20.SlotWhole", spec := "slotWhole", inPlace := ["internal/bytealg.MakeNoZero", "sync/atomic.AddInt64"], unfollowed := true, recurses := true, apart := false, narrowed := true }
def SlotWholeUptoSaid : Prop := slotWholeUptoRow.holds Try.pinned (OpenSpec.upto slotWholeSpec)

/-- 'downpourlaw20.SlotPlays', WHERE WHAT IT READS IS OF BULK AT MOST 1048576: true; the input reads as it did. -/
def slotPlaysUptoRow : OpenClaim := { program := "ythjojkkjdaoocaa", sum := "3ec01fe2a44d4e66f2c43c1e800bafb8f0f34af875ebc597f8515fbe50a8d33a", func := "downpour/downpourlaw20.SlotPlays", spec := "slotPlays", inPlace := ["internal/bytealg.MakeNoZero", "sync/atomic.AddInt64"], unfollowed := true, recurses := true, apart := false, narrowed := true }
def SlotPlaysUptoSaid : Prop := slotPlaysUptoRow.holds Try.pinned (OpenSpec.upto slotPlaysSpec)

end Rows
end Go.Proofs.Ythjojkkjdaoocaa
