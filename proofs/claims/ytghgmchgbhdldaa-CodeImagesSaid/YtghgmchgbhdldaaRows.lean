/-
  No cell of these rows narrows 'for every input' (looked for: loops, veiled, ifaces, maps, wideKeys, modest, calm, conditions, laid).
  DERIVED. THE GIVEN ROWS OF THIS SEAT. 15 by the template 'for every input the law returns true; each argument reads behind the call as it read before'; 0 by the template 'total and deterministic' (their statements: YtghgmchgbhdldaaTotals.lean).
  GIVEN WITH THE SEED: the statements are not yours to turn. If you find one false, say at which input.
  Laid BY PROGRAM, IN A SANDBOX (cutbox-rows.mjs): the forced cells as the released guide's own fill.sh prints them over the translation 57d2a5cf6b67ed1a… (all of the seat's roots in one cut). By AI agents, Wed Nov 11 2026. No macro, syntax, notation, axiom, sorry.
-/
import Derived.Test.YtghgmchgbhdldaaChecked
import GoSem.Claim
import GoSem.ClaimJoined
import GoSem.ClaimMapViews
import Derived.JoinedTies
import Derived.KernelRfl
namespace Go.Proofs.Ytghgmchgbhdldaa
/- THE CELL 'sum', in the pinned program and in every row, IS THE sha256 OF THE DUMP (.gsa) THAT YtghgmchgbhdldaaProg.lean LOADS. Nothing in Lean hashes anything: it is a label: what it is worth is what the hold of that sum in a sandbox is worth. -/
noncomputable def Try.pinned : Pinned := { name := "ytghgmchgbhdldaa", sum := "57d2a5cf6b67ed1a97206190e2502efef2ddebd0115a9234f04c817606b71fa6", checked := Try.checked }
namespace Rows
def none {H : Type} : Left H := { results := [], args := [] }

/-- 'downpourlaw18.WheelNil': WHATEVER THE INPUT: true; the input reads as it did. -/
def wheelNilSpec : ChangeSpec := { name := "wheelNil", fn := fun _ => fun
  | [d] => { results := [.lit (.bool true)], args := [d] }
  | _ => none }
def wheelNilRow : OpenClaim := { program := "ytghgmchgbhdldaa", sum := "57d2a5cf6b67ed1a97206190e2502efef2ddebd0115a9234f04c817606b71fa6", func := "downpour/downpourlaw18.WheelNil", spec := "wheelNil", inPlace := ["internal/bytealg.MakeNoZero", "sync/atomic.AddInt64"], unfollowed := true, recurses := true, apart := false }
def WheelNilSaid : Prop := wheelNilRow.holds Try.pinned (OpenSpec.ofChange wheelNilSpec)

/-- ITS FALSE NEIGHBOUR: 'it returns false'. Refute it at one input. -/
def wheelNilWrong : ChangeSpec := { name := "wheelNil", fn := fun _ => fun
  | [d] => { results := [.lit (.bool false)], args := [d] }
  | _ => none }
def WheelNilWrongFalsely : Prop := wheelNilRow.holds Try.pinned (OpenSpec.ofChange wheelNilWrong)

/-- 'downpourlaw18.WheelRoom': WHATEVER THE INPUT: true; the input reads as it did. -/
def wheelRoomSpec : ChangeSpec := { name := "wheelRoom", fn := fun _ => fun
  | [d1, d2] => { results := [.lit (.bool true)], args := [d1, d2] }
  | _ => none }
def wheelRoomRow : OpenClaim := { program := "ytghgmchgbhdldaa", sum := "57d2a5cf6b67ed1a97206190e2502efef2ddebd0115a9234f04c817606b71fa6", func := "downpour/downpourlaw18.WheelRoom", spec := "wheelRoom", inPlace := ["internal/bytealg.MakeNoZero", "sync/atomic.AddInt64"], unfollowed := true, recurses := true, apart := false }
def WheelRoomSaid : Prop := wheelRoomRow.holds Try.pinned (OpenSpec.ofChange wheelRoomSpec)

/-- ITS FALSE NEIGHBOUR: 'it returns false'. Refute it at one input. -/
def wheelRoomWrong : ChangeSpec := { name := "wheelRoom", fn := fun _ => fun
  | [d1, d2] => { results := [.lit (.bool false)], args := [d1, d2] }
  | _ => none }
def WheelRoomWrongFalsely : Prop := wheelRoomRow.holds Try.pinned (OpenSpec.ofChange wheelRoomWrong)

/-- 'downpourlaw18.WheelOther': WHATEVER THE INPUT: true; the input reads as it did. -/
def wheelOtherSpec : ChangeSpec := { name := "wheelOther", fn := fun _ => fun
  | [d1, d2, d3, d4] => { results := [.lit (.bool true)], args := [d1, d2, d3, d4] }
  | _ => none }
def wheelOtherRow : OpenClaim := { program := "ytghgmchgbhdldaa", sum := "57d2a5cf6b67ed1a97206190e2502efef2ddebd0115a9234f04c817606b71fa6", func := "downpour/downpourlaw18.WheelOther", spec := "wheelOther", inPlace := ["internal/bytealg.MakeNoZero", "sync/atomic.AddInt64"], unfollowed := true, recurses := true, apart := false }
def WheelOtherSaid : Prop := wheelOtherRow.holds Try.pinned (OpenSpec.ofChange wheelOtherSpec)

/-- ITS FALSE NEIGHBOUR: 'it returns false'. Refute it at one input. -/
def wheelOtherWrong : ChangeSpec := { name := "wheelOther", fn := fun _ => fun
  | [d1, d2, d3, d4] => { results := [.lit (.bool false)], args := [d1, d2, d3, d4] }
  | _ => none }
def WheelOtherWrongFalsely : Prop := wheelOtherRow.holds Try.pinned (OpenSpec.ofChange wheelOtherWrong)

/-- 'downpourlaw18.WheelTold': WHATEVER THE INPUT: true; the input reads as it did. -/
def wheelToldSpec : ChangeSpec := { name := "wheelTold", fn := fun _ => fun
  | [d] => { results := [.lit (.bool true)], args := [d] }
  | _ => none }
def wheelToldRow : OpenClaim := { program := "ytghgmchgbhdldaa", sum := "57d2a5cf6b67ed1a97206190e2502efef2ddebd0115a9234f04c817606b71fa6", func := "downpour/downpourlaw18.WheelTold", spec := "wheelTold", inPlace := ["internal/bytealg.MakeNoZero", "sync/atomic.AddInt64", "sync/atomic.LoadInt64"], unfollowed := true, recurses := true, apart := false }
def WheelToldSaid : Prop := wheelToldRow.holds Try.pinned (OpenSpec.ofChange wheelToldSpec)

/-- ITS FALSE NEIGHBOUR: 'it returns false'. Refute it at one input. -/
def wheelToldWrong : ChangeSpec := { name := "wheelTold", fn := fun _ => fun
  | [d] => { results := [.lit (.bool false)], args := [d] }
  | _ => none }
def WheelToldWrongFalsely : Prop := wheelToldRow.holds Try.pinned (OpenSpec.ofChange wheelToldWrong)

/-- 'downpourlaw18.WheelKept': WHATEVER THE INPUT: true; the input reads as it did. -/
def wheelKeptSpec : ChangeSpec := { name := "wheelKept", fn := fun _ => fun
  | [d1, d2] => { results := [.lit (.bool true)], args := [d1, d2] }
  | _ => none }
def wheelKeptRow : OpenClaim := { program := "ytghgmchgbhdldaa", sum := "57d2a5cf6b67ed1a97206190e2502efef2ddebd0115a9234f04c817606b71fa6", func := "downpour/downpourlaw18.WheelKept", spec := "wheelKept", inPlace := ["internal/bytealg.MakeNoZero", "sync/atomic.AddInt64"], unfollowed := true, recurses := true, apart := false }
def WheelKeptSaid : Prop := wheelKeptRow.holds Try.pinned (OpenSpec.ofChange wheelKeptSpec)

/-- ITS FALSE NEIGHBOUR: 'it returns false'. Refute it at one input. -/
def wheelKeptWrong : ChangeSpec := { name := "wheelKept", fn := fun _ => fun
  | [d1, d2] => { results := [.lit (.bool false)], args := [d1, d2] }
  | _ => none }
def WheelKeptWrongFalsely : Prop := wheelKeptRow.holds Try.pinned (OpenSpec.ofChange wheelKeptWrong)

/-- 'downpourlaw18.WheelPlays': WHATEVER THE INPUT: true; the input reads as it did. -/
def wheelPlaysSpec : ChangeSpec := { name := "wheelPlays", fn := fun _ => fun
  | [d1, d2, d3, d4] => { results := [.lit (.bool true)], args := [d1, d2, d3, d4] }
  | _ => none }
def wheelPlaysRow : OpenClaim := { program := "ytghgmchgbhdldaa", sum := "57d2a5cf6b67ed1a97206190e2502efef2ddebd0115a9234f04c817606b71fa6", func := "downpour/downpourlaw18.WheelPlays", spec := "wheelPlays", inPlace := ["internal/bytealg.MakeNoZero", "sync/atomic.AddInt64"], unfollowed := true, recurses := true, apart := false }
def WheelPlaysSaid : Prop := wheelPlaysRow.holds Try.pinned (OpenSpec.ofChange wheelPlaysSpec)

/-- ITS FALSE NEIGHBOUR: 'it returns false'. Refute it at one input. -/
def wheelPlaysWrong : ChangeSpec := { name := "wheelPlays", fn := fun _ => fun
  | [d1, d2, d3, d4] => { results := [.lit (.bool false)], args := [d1, d2, d3, d4] }
  | _ => none }
def WheelPlaysWrongFalsely : Prop := wheelPlaysRow.holds Try.pinned (OpenSpec.ofChange wheelPlaysWrong)

/-- 'downpourlaw4.RandNil': WHATEVER THE INPUT: true; the input reads as it did. -/
def randNilSpec : ChangeSpec := { name := "randNil", fn := fun _ => fun
  | [d] => { results := [.lit (.bool true)], args := [d] }
  | _ => none }
def randNilRow : OpenClaim := { program := "ytghgmchgbhdldaa", sum := "57d2a5cf6b67ed1a97206190e2502efef2ddebd0115a9234f04c817606b71fa6", func := "downpour/downpourlaw4.RandNil", spec := "randNil", inPlace := ["sync/atomic.CompareAndSwapUint32", "sync/atomic.LoadUint32", "sync/atomic.StoreUint32"], recurses := true, apart := false }
def RandNilSaid : Prop := randNilRow.holds Try.pinned (OpenSpec.ofChange randNilSpec)

/-- ITS FALSE NEIGHBOUR: 'it returns false'. Refute it at one input. -/
def randNilWrong : ChangeSpec := { name := "randNil", fn := fun _ => fun
  | [d] => { results := [.lit (.bool false)], args := [d] }
  | _ => none }
def RandNilWrongFalsely : Prop := randNilRow.holds Try.pinned (OpenSpec.ofChange randNilWrong)

/-- 'downpourlaw4.RandSome': WHATEVER THE INPUT: true; the input reads as it did. -/
def randSomeSpec : ChangeSpec := { name := "randSome", fn := fun _ => fun
  | [d1, d2, d3, d4] => { results := [.lit (.bool true)], args := [d1, d2, d3, d4] }
  | _ => none }
def randSomeRow : OpenClaim := { program := "ytghgmchgbhdldaa", sum := "57d2a5cf6b67ed1a97206190e2502efef2ddebd0115a9234f04c817606b71fa6", func := "downpour/downpourlaw4.RandSome", spec := "randSome", inPlace := ["sync/atomic.StoreUint32", "sync/atomic.CompareAndSwapUint32", "sync/atomic.LoadUint32"], recurses := true, apart := false }
def RandSomeSaid : Prop := randSomeRow.holds Try.pinned (OpenSpec.ofChange randSomeSpec)

/-- ITS FALSE NEIGHBOUR: 'it returns false'. Refute it at one input. -/
def randSomeWrong : ChangeSpec := { name := "randSome", fn := fun _ => fun
  | [d1, d2, d3, d4] => { results := [.lit (.bool false)], args := [d1, d2, d3, d4] }
  | _ => none }
def RandSomeWrongFalsely : Prop := randSomeRow.holds Try.pinned (OpenSpec.ofChange randSomeWrong)

/-- 'downpourlaw4.RandBelow': WHATEVER THE INPUT: true; the input reads as it did. -/
def randBelowSpec : ChangeSpec := { name := "randBelow", fn := fun _ => fun
  | [d1, d2, d3] => { results := [.lit (.bool true)], args := [d1, d2, d3] }
  | _ => none }
def randBelowRow : OpenClaim := { program := "ytghgmchgbhdldaa", sum := "57d2a5cf6b67ed1a97206190e2502efef2ddebd0115a9234f04c817606b71fa6", func := "downpour/downpourlaw4.RandBelow", spec := "randBelow", inPlace := ["sync/atomic.StoreUint32", "sync/atomic.CompareAndSwapUint32", "sync/atomic.LoadUint32"], recurses := true, apart := false }
def RandBelowSaid : Prop := randBelowRow.holds Try.pinned (OpenSpec.ofChange randBelowSpec)

/-- ITS FALSE NEIGHBOUR: 'it returns false'. Refute it at one input. -/
def randBelowWrong : ChangeSpec := { name := "randBelow", fn := fun _ => fun
  | [d1, d2, d3] => { results := [.lit (.bool false)], args := [d1, d2, d3] }
  | _ => none }
def RandBelowWrongFalsely : Prop := randBelowRow.holds Try.pinned (OpenSpec.ofChange randBelowWrong)

/-- 'downpourlaw4.RandRows': WHATEVER THE INPUT: true; the input reads as it did. -/
def randRowsSpec : ChangeSpec := { name := "randRows", fn := fun _ => fun
  | [d1, d2, d3, d4] => { results := [.lit (.bool true)], args := [d1, d2, d3, d4] }
  | _ => none }
def randRowsRow : OpenClaim := { program := "ytghgmchgbhdldaa", sum := "57d2a5cf6b67ed1a97206190e2502efef2ddebd0115a9234f04c817606b71fa6", func := "downpour/downpourlaw4.RandRows", spec := "randRows", inPlace := ["sync/atomic.StoreUint32", "sync/atomic.CompareAndSwapUint32", "sync/atomic.LoadUint32"], recurses := true, apart := false }
def RandRowsSaid : Prop := randRowsRow.holds Try.pinned (OpenSpec.ofChange randRowsSpec)

/-- ITS FALSE NEIGHBOUR: 'it returns false'. Refute it at one input. -/
def randRowsWrong : ChangeSpec := { name := "randRows", fn := fun _ => fun
  | [d1, d2, d3, d4] => { results := [.lit (.bool false)], args := [d1, d2, d3, d4] }
  | _ => none }
def RandRowsWrongFalsely : Prop := randRowsRow.holds Try.pinned (OpenSpec.ofChange randRowsWrong)

/-- 'downpourlaw4.RandAll': WHATEVER THE INPUT: true; the input reads as it did. -/
def randAllSpec : ChangeSpec := { name := "randAll", fn := fun _ => fun
  | [d1, d2, d3] => { results := [.lit (.bool true)], args := [d1, d2, d3] }
  | _ => none }
def randAllRow : OpenClaim := { program := "ytghgmchgbhdldaa", sum := "57d2a5cf6b67ed1a97206190e2502efef2ddebd0115a9234f04c817606b71fa6", func := "downpour/downpourlaw4.RandAll", spec := "randAll", inPlace := ["sync/atomic.StoreUint32", "sync/atomic.CompareAndSwapUint32", "sync/atomic.LoadUint32"], recurses := true, apart := false }
def RandAllSaid : Prop := randAllRow.holds Try.pinned (OpenSpec.ofChange randAllSpec)

/-- ITS FALSE NEIGHBOUR: 'it returns false'. Refute it at one input. -/
def randAllWrong : ChangeSpec := { name := "randAll", fn := fun _ => fun
  | [d1, d2, d3] => { results := [.lit (.bool false)], args := [d1, d2, d3] }
  | _ => none }
def RandAllWrongFalsely : Prop := randAllRow.holds Try.pinned (OpenSpec.ofChange randAllWrong)

/-- 'downpourlaw11.CodeNil': WHATEVER THE INPUT: true; the input reads as it did. -/
def codeNilSpec : ChangeSpec := { name := "codeNil", fn := fun _ => fun
  | [d1, d2, d3] => { results := [.lit (.bool true)], args := [d1, d2, d3] }
  | _ => none }
def codeNilRow : OpenClaim := { program := "ytghgmchgbhdldaa", sum := "57d2a5cf6b67ed1a97206190e2502efef2ddebd0115a9234f04c817606b71fa6", func := "downpour/downpourlaw11.CodeNil", spec := "codeNil", inPlace := ["sync/atomic.StoreUint32", "sync/atomic.CompareAndSwapUint32", "sync/atomic.LoadUint32", "(*internal/sync.Mutex).Lock", "internal/race.Disable", "sync/atomic.CompareAndSwapInt32", "internal/race.Enable", "internal/race.Acquire", "(*internal/sync.Mutex).lockSlow", "internal/sync.runtime_canSpin", "internal/sync.runtime_doSpin", "internal/sync.throw", "internal/sync.runtime_nanotime", "internal/sync.runtime_SemacquireMutex", "sync/atomic.AddInt32", "(*internal/sync.Mutex).Unlock", "internal/race.ReleaseMerge", "(*internal/sync.Mutex).unlockSlow", "internal/sync.fatal", "internal/sync.runtime_Semrelease"], unfollowed := true, recurses := true, apart := false }
def CodeNilSaid : Prop := codeNilRow.holds Try.pinned (OpenSpec.ofChange codeNilSpec)

/-- ITS FALSE NEIGHBOUR: 'it returns false'. Refute it at one input. -/
def codeNilWrong : ChangeSpec := { name := "codeNil", fn := fun _ => fun
  | [d1, d2, d3] => { results := [.lit (.bool false)], args := [d1, d2, d3] }
  | _ => none }
def CodeNilWrongFalsely : Prop := codeNilRow.holds Try.pinned (OpenSpec.ofChange codeNilWrong)

/-- 'downpourlaw11.CodeParity': WHATEVER THE INPUT: true; the input reads as it did. -/
def codeParitySpec : ChangeSpec := { name := "codeParity", fn := fun _ => fun
  | [d1, d2, d3] => { results := [.lit (.bool true)], args := [d1, d2, d3] }
  | _ => none }
def codeParityRow : OpenClaim := { program := "ytghgmchgbhdldaa", sum := "57d2a5cf6b67ed1a97206190e2502efef2ddebd0115a9234f04c817606b71fa6", func := "downpour/downpourlaw11.CodeParity", spec := "codeParity", inPlace := ["sync/atomic.StoreUint32", "sync/atomic.CompareAndSwapUint32", "sync/atomic.LoadUint32", "(*internal/sync.Mutex).Lock", "internal/race.Disable", "sync/atomic.CompareAndSwapInt32", "internal/race.Enable", "internal/race.Acquire", "(*internal/sync.Mutex).lockSlow", "internal/sync.runtime_canSpin", "internal/sync.runtime_doSpin", "internal/sync.throw", "internal/sync.runtime_nanotime", "internal/sync.runtime_SemacquireMutex", "sync/atomic.AddInt32", "(*internal/sync.Mutex).Unlock", "internal/race.ReleaseMerge", "(*internal/sync.Mutex).unlockSlow", "internal/sync.fatal", "internal/sync.runtime_Semrelease"], unfollowed := true, recurses := true, apart := false }
def CodeParitySaid : Prop := codeParityRow.holds Try.pinned (OpenSpec.ofChange codeParitySpec)

/-- ITS FALSE NEIGHBOUR: 'it returns false'. Refute it at one input. -/
def codeParityWrong : ChangeSpec := { name := "codeParity", fn := fun _ => fun
  | [d1, d2, d3] => { results := [.lit (.bool false)], args := [d1, d2, d3] }
  | _ => none }
def CodeParityWrongFalsely : Prop := codeParityRow.holds Try.pinned (OpenSpec.ofChange codeParityWrong)

/-- 'downpourlaw11.CodeImages': WHATEVER THE INPUT: true; the input reads as it did. -/
def codeImagesSpec : ChangeSpec := { name := "codeImages", fn := fun _ => fun
  | [d1, d2, d3, d4] => { results := [.lit (.bool true)], args := [d1, d2, d3, d4] }
  | _ => none }
def codeImagesRow : OpenClaim := { program := "ytghgmchgbhdldaa", sum := "57d2a5cf6b67ed1a97206190e2502efef2ddebd0115a9234f04c817606b71fa6", func := "downpour/downpourlaw11.CodeImages", spec := "codeImages", inPlace := ["sync/atomic.StoreUint32", "sync/atomic.CompareAndSwapUint32", "sync/atomic.LoadUint32", "(*internal/sync.Mutex).Lock", "internal/race.Disable", "sync/atomic.CompareAndSwapInt32", "internal/race.Enable", "internal/race.Acquire", "(*internal/sync.Mutex).lockSlow", "internal/sync.runtime_canSpin", "internal/sync.runtime_doSpin", "internal/sync.throw", "internal/sync.runtime_nanotime", "internal/sync.runtime_SemacquireMutex", "sync/atomic.AddInt32", "(*internal/sync.Mutex).Unlock", "internal/race.ReleaseMerge", "(*internal/sync.Mutex).unlockSlow", "internal/sync.fatal", "internal/sync.runtime_Semrelease"], unfollowed := true, recurses := true, apart := false }
def CodeImagesSaid : Prop := codeImagesRow.holds Try.pinned (OpenSpec.ofChange codeImagesSpec)

/-- ITS FALSE NEIGHBOUR: 'it returns false'. Refute it at one input. -/
def codeImagesWrong : ChangeSpec := { name := "codeImages", fn := fun _ => fun
  | [d1, d2, d3, d4] => { results := [.lit (.bool false)], args := [d1, d2, d3, d4] }
  | _ => none }
def CodeImagesWrongFalsely : Prop := codeImagesRow.holds Try.pinned (OpenSpec.ofChange codeImagesWrong)

/-- 'downpourlaw11.CodeSums': WHATEVER THE INPUT: true; the input reads as it did. -/
def codeSumsSpec : ChangeSpec := { name := "codeSums", fn := fun _ => fun
  | [d1, d2, d3, d4] => { results := [.lit (.bool true)], args := [d1, d2, d3, d4] }
  | _ => none }
def codeSumsRow : OpenClaim := { program := "ytghgmchgbhdldaa", sum := "57d2a5cf6b67ed1a97206190e2502efef2ddebd0115a9234f04c817606b71fa6", func := "downpour/downpourlaw11.CodeSums", spec := "codeSums", inPlace := ["sync/atomic.StoreUint32", "sync/atomic.CompareAndSwapUint32", "sync/atomic.LoadUint32", "(*internal/sync.Mutex).Lock", "internal/race.Disable", "sync/atomic.CompareAndSwapInt32", "internal/race.Enable", "internal/race.Acquire", "(*internal/sync.Mutex).lockSlow", "internal/sync.runtime_canSpin", "internal/sync.runtime_doSpin", "internal/sync.throw", "internal/sync.runtime_nanotime", "internal/sync.runtime_SemacquireMutex", "sync/atomic.AddInt32", "(*internal/sync.Mutex).Unlock", "internal/race.ReleaseMerge", "(*internal/sync.Mutex).unlockSlow", "internal/sync.fatal", "internal/sync.runtime_Semrelease"], unfollowed := true, recurses := true, apart := false }
def CodeSumsSaid : Prop := codeSumsRow.holds Try.pinned (OpenSpec.ofChange codeSumsSpec)

/-- ITS FALSE NEIGHBOUR: 'it returns false'. Refute it at one input. -/
def codeSumsWrong : ChangeSpec := { name := "codeSums", fn := fun _ => fun
  | [d1, d2, d3, d4] => { results := [.lit (.bool false)], args := [d1, d2, d3, d4] }
  | _ => none }
def CodeSumsWrongFalsely : Prop := codeSumsRow.holds Try.pinned (OpenSpec.ofChange codeSumsWrong)

/- THE SECOND FORM. 'bulk': how many values and letters a reading holds, each counted each time it is reached (what is shared counts as often as it is met; a slice's spare places count too). A statement '..UptoSaid' is the law's where the arguments, and the package variables that the reading takes, are together of bulk at most 1048576: NARROWER than '..Said'. Prove '..Said' where nothing that the law and all that it calls make is longer than what came in: it says more and counts as full. Else prove '..UptoSaid'. A law counts once. -/
mutual
def uptoBulk {H : Type} : DataW H → Nat
  | .lit (.string bytes) => bytes.length + 1
  | .lit _ => 1
  | .nil => 1
  | .ptr d => uptoBulk d + 1
  | .slice elems spare => uptoBulkAll elems + uptoBulkAll spare + 1
  | .agg parts => uptoBulkAll parts + 1
  | .iface _ d => uptoBulk d + 1
  | .map entries => uptoBulkEntries entries + 1
  | .held _ => 1
def uptoBulkAll {H : Type} : List (DataW H) → Nat
  | [] => 0
  | d :: r => uptoBulk d + uptoBulkAll r
def uptoBulkEntries {H : Type} : List (Lit × DataW H) → Nat
  | [] => 0
  | x :: r => uptoBulkEntry x + uptoBulkEntries r
def uptoBulkEntry {H : Type} : Lit × DataW H → Nat
  | (.string bytes, d) => bytes.length + uptoBulk d + 1
  | (_, d) => uptoBulk d + 1
 end
def uptoSmall : (H : Type) → List (DataW H) → Bool := fun _ ds => decide (uptoBulkAll ds ≤ 1048576)
def OpenSpec.upto (s : _root_.Go.ChangeSpec) : _root_.Go.OpenSpec := { _root_.Go.OpenSpec.ofChange s with cond := some uptoSmall }

/-- 'downpourlaw18.WheelNil', WHERE WHAT IT READS IS OF BULK AT MOST 1048576: true; the input reads as it did. -/
def wheelNilUptoRow : OpenClaim := { program := "ytghgmchgbhdldaa", sum := "57d2a5cf6b67ed1a97206190e2502efef2ddebd0115a9234f04c817606b71fa6", func := "downpour/downpourlaw18.WheelNil", spec := "wheelNil", inPlace := ["internal/bytealg.MakeNoZero", "sync/atomic.AddInt64"], unfollowed := true, recurses := true, apart := false, narrowed := true }
def WheelNilUptoSaid : Prop := wheelNilUptoRow.holds Try.pinned (OpenSpec.upto wheelNilSpec)

/-- 'downpourlaw18.WheelRoom', WHERE WHAT IT READS IS OF BULK AT MOST 1048576: true; the input reads as it did. -/
def wheelRoomUptoRow : OpenClaim := { program := "ytghgmchgbhdldaa", sum := "57d2a5cf6b67ed1a97206190e2502efef2ddebd0115a9234f04c817606b71fa6", func := "downpour/downpourlaw18.WheelRoom", spec := "wheelRoom", inPlace := ["internal/bytealg.MakeNoZero", "sync/atomic.AddInt64"], unfollowed := true, recurses := true, apart := false, narrowed := true }
def WheelRoomUptoSaid : Prop := wheelRoomUptoRow.holds Try.pinned (OpenSpec.upto wheelRoomSpec)

/-- 'downpourlaw18.WheelOther', WHERE WHAT IT READS IS OF BULK AT MOST 1048576: true; the input reads as it did. -/
def wheelOtherUptoRow : OpenClaim := { program := "ytghgmchgbhdldaa", sum := "57d2a5cf6b67ed1a97206190e2502efef2ddebd0115a9234f04c817606b71fa6", func := "downpour/downpourlaw18.WheelOther", spec := "wheelOther", inPlace := ["internal/bytealg.MakeNoZero", "sync/atomic.AddInt64"], unfollowed := true, recurses := true, apart := false, narrowed := true }
def WheelOtherUptoSaid : Prop := wheelOtherUptoRow.holds Try.pinned (OpenSpec.upto wheelOtherSpec)

/-- 'downpourlaw18.WheelTold', WHERE WHAT IT READS IS OF BULK AT MOST 1048576: true; the input reads as it did. -/
def wheelToldUptoRow : OpenClaim := { program := "ytghgmchgbhdldaa", sum := "57d2a5cf6b67ed1a97206190e2502efef2ddebd0115a9234f04c817606b71fa6", func := "downpour/downpourlaw18.WheelTold", spec := "wheelTold", inPlace := ["internal/bytealg.MakeNoZero", "sync/atomic.AddInt64", "sync/atomic.LoadInt64"], unfollowed := true, recurses := true, apart := false, narrowed := true }
def WheelToldUptoSaid : Prop := wheelToldUptoRow.holds Try.pinned (OpenSpec.upto wheelToldSpec)

/-- 'downpourlaw18.WheelKept', WHERE WHAT IT READS IS OF BULK AT MOST 1048576: true; the input reads as it did. -/
def wheelKeptUptoRow : OpenClaim := { program := "ytghgmchgbhdldaa", sum := "57d2a5cf6b67ed1a97206190e2502efef2ddebd0115a9234f04c817606b71fa6", func := "downpour/downpourlaw18.WheelKept", spec := "wheelKept", inPlace := ["internal/bytealg.MakeNoZero", "sync/atomic.AddInt64"], unfollowed := true, recurses := true, apart := false, narrowed := true }
def WheelKeptUptoSaid : Prop := wheelKeptUptoRow.holds Try.pinned (OpenSpec.upto wheelKeptSpec)

/-- 'downpourlaw18.WheelPlays', WHERE WHAT IT READS IS OF BULK AT MOST 1048576: true; the input reads as it did. -/
def wheelPlaysUptoRow : OpenClaim := { program := "ytghgmchgbhdldaa", sum := "57d2a5cf6b67ed1a97206190e2502efef2ddebd0115a9234f04c817606b71fa6", func := "downpour/downpourlaw18.WheelPlays", spec := "wheelPlays", inPlace := ["internal/bytealg.MakeNoZero", "sync/atomic.AddInt64"], unfollowed := true, recurses := true, apart := false, narrowed := true }
def WheelPlaysUptoSaid : Prop := wheelPlaysUptoRow.holds Try.pinned (OpenSpec.upto wheelPlaysSpec)

/-- 'downpourlaw4.RandNil', WHERE WHAT IT READS IS OF BULK AT MOST 1048576: true; the input reads as it did. -/
def randNilUptoRow : OpenClaim := { program := "ytghgmchgbhdldaa", sum := "57d2a5cf6b67ed1a97206190e2502efef2ddebd0115a9234f04c817606b71fa6", func := "downpour/downpourlaw4.RandNil", spec := "randNil", inPlace := ["sync/atomic.CompareAndSwapUint32", "sync/atomic.LoadUint32", "sync/atomic.StoreUint32"], recurses := true, apart := false, narrowed := true }
def RandNilUptoSaid : Prop := randNilUptoRow.holds Try.pinned (OpenSpec.upto randNilSpec)

/-- 'downpourlaw4.RandSome', WHERE WHAT IT READS IS OF BULK AT MOST 1048576: true; the input reads as it did. -/
def randSomeUptoRow : OpenClaim := { program := "ytghgmchgbhdldaa", sum := "57d2a5cf6b67ed1a97206190e2502efef2ddebd0115a9234f04c817606b71fa6", func := "downpour/downpourlaw4.RandSome", spec := "randSome", inPlace := ["sync/atomic.StoreUint32", "sync/atomic.CompareAndSwapUint32", "sync/atomic.LoadUint32"], recurses := true, apart := false, narrowed := true }
def RandSomeUptoSaid : Prop := randSomeUptoRow.holds Try.pinned (OpenSpec.upto randSomeSpec)

/-- 'downpourlaw4.RandBelow', WHERE WHAT IT READS IS OF BULK AT MOST 1048576: true; the input reads as it did. -/
def randBelowUptoRow : OpenClaim := { program := "ytghgmchgbhdldaa", sum := "57d2a5cf6b67ed1a97206190e2502efef2ddebd0115a9234f04c817606b71fa6", func := "downpour/downpourlaw4.RandBelow", spec := "randBelow", inPlace := ["sync/atomic.StoreUint32", "sync/atomic.CompareAndSwapUint32", "sync/atomic.LoadUint32"], recurses := true, apart := false, narrowed := true }
def RandBelowUptoSaid : Prop := randBelowUptoRow.holds Try.pinned (OpenSpec.upto randBelowSpec)

/-- 'downpourlaw4.RandRows', WHERE WHAT IT READS IS OF BULK AT MOST 1048576: true; the input reads as it did. -/
def randRowsUptoRow : OpenClaim := { program := "ytghgmchgbhdldaa", sum := "57d2a5cf6b67ed1a97206190e2502efef2ddebd0115a9234f04c817606b71fa6", func := "downpour/downpourlaw4.RandRows", spec := "randRows", inPlace := ["sync/atomic.StoreUint32", "sync/atomic.CompareAndSwapUint32", "sync/atomic.LoadUint32"], recurses := true, apart := false, narrowed := true }
def RandRowsUptoSaid : Prop := randRowsUptoRow.holds Try.pinned (OpenSpec.upto randRowsSpec)

/-- 'downpourlaw4.RandAll', WHERE WHAT IT READS IS OF BULK AT MOST 1048576: true; the input reads as it did. -/
def randAllUptoRow : OpenClaim := { program := "ytghgmchgbhdldaa", sum := "57d2a5cf6b67ed1a97206190e2502efef2ddebd0115a9234f04c817606b71fa6", func := "downpour/downpourlaw4.RandAll", spec := "randAll", inPlace := ["sync/atomic.StoreUint32", "sync/atomic.CompareAndSwapUint32", "sync/atomic.LoadUint32"], recurses := true, apart := false, narrowed := true }
def RandAllUptoSaid : Prop := randAllUptoRow.holds Try.pinned (OpenSpec.upto randAllSpec)

/-- 'downpourlaw11.CodeNil', WHERE WHAT IT READS IS OF BULK AT MOST 1048576: true; the input reads as it did. -/
def codeNilUptoRow : OpenClaim := { program := "ytghgmchgbhdldaa", sum := "57d2a5cf6b67ed1a97206190e2502efef2ddebd0115a9234f04c817606b71fa6", func := "downpour/downpourlaw11.CodeNil", spec := "codeNil", inPlace := ["sync/atomic.StoreUint32", "sync/atomic.CompareAndSwapUint32", "sync/atomic.LoadUint32", "(*internal/sync.Mutex).Lock", "internal/race.Disable", "sync/atomic.CompareAndSwapInt32", "internal/race.Enable", "internal/race.Acquire", "(*internal/sync.Mutex).lockSlow", "internal/sync.runtime_canSpin", "internal/sync.runtime_doSpin", "internal/sync.throw", "internal/sync.runtime_nanotime", "internal/sync.runtime_SemacquireMutex", "sync/atomic.AddInt32", "(*internal/sync.Mutex).Unlock", "internal/race.ReleaseMerge", "(*internal/sync.Mutex).unlockSlow", "internal/sync.fatal", "internal/sync.runtime_Semrelease"], unfollowed := true, recurses := true, apart := false, narrowed := true }
def CodeNilUptoSaid : Prop := codeNilUptoRow.holds Try.pinned (OpenSpec.upto codeNilSpec)

/-- 'downpourlaw11.CodeParity', WHERE WHAT IT READS IS OF BULK AT MOST 1048576: true; the input reads as it did. -/
def codeParityUptoRow : OpenClaim := { program := "ytghgmchgbhdldaa", sum := "57d2a5cf6b67ed1a97206190e2502efef2ddebd0115a9234f04c817606b71fa6", func := "downpour/downpourlaw11.CodeParity", spec := "codeParity", inPlace := ["sync/atomic.StoreUint32", "sync/atomic.CompareAndSwapUint32", "sync/atomic.LoadUint32", "(*internal/sync.Mutex).Lock", "internal/race.Disable", "sync/atomic.CompareAndSwapInt32", "internal/race.Enable", "internal/race.Acquire", "(*internal/sync.Mutex).lockSlow", "internal/sync.runtime_canSpin", "internal/sync.runtime_doSpin", "internal/sync.throw", "internal/sync.runtime_nanotime", "internal/sync.runtime_SemacquireMutex", "sync/atomic.AddInt32", "(*internal/sync.Mutex).Unlock", "internal/race.ReleaseMerge", "(*internal/sync.Mutex).unlockSlow", "internal/sync.fatal", "internal/sync.runtime_Semrelease"], unfollowed := true, recurses := true, apart := false, narrowed := true }
def CodeParityUptoSaid : Prop := codeParityUptoRow.holds Try.pinned (OpenSpec.upto codeParitySpec)

/-- 'downpourlaw11.CodeImages', WHERE WHAT IT READS IS OF BULK AT MOST 1048576: true; the input reads as it did. -/
def codeImagesUptoRow : OpenClaim := { program := "ytghgmchgbhdldaa", sum := "57d2a5cf6b67ed1a97206190e2502efef2ddebd0115a9234f04c817606b71fa6", func := "downpour/downpourlaw11.CodeImages", spec := "codeImages", inPlace := ["sync/atomic.StoreUint32", "sync/atomic.CompareAndSwapUint32", "sync/atomic.LoadUint32", "(*internal/sync.Mutex).Lock", "internal/race.Disable", "sync/atomic.CompareAndSwapInt32", "internal/race.Enable", "internal/race.Acquire", "(*internal/sync.Mutex).lockSlow", "internal/sync.runtime_canSpin", "internal/sync.runtime_doSpin", "internal/sync.throw", "internal/sync.runtime_nanotime", "internal/sync.runtime_SemacquireMutex", "sync/atomic.AddInt32", "(*internal/sync.Mutex).Unlock", "internal/race.ReleaseMerge", "(*internal/sync.Mutex).unlockSlow", "internal/sync.fatal", "internal/sync.runtime_Semrelease"], unfollowed := true, recurses := true, apart := false, narrowed := true }
def CodeImagesUptoSaid : Prop := codeImagesUptoRow.holds Try.pinned (OpenSpec.upto codeImagesSpec)

/-- 'downpourlaw11.CodeSums', WHERE WHAT IT READS IS OF BULK AT MOST 1048576: true; the input reads as it did. -/
def codeSumsUptoRow : OpenClaim := { program := "ytghgmchgbhdldaa", sum := "57d2a5cf6b67ed1a97206190e2502efef2ddebd0115a9234f04c817606b71fa6", func := "downpour/downpourlaw11.CodeSums", spec := "codeSums", inPlace := ["sync/atomic.StoreUint32", "sync/atomic.CompareAndSwapUint32", "sync/atomic.LoadUint32", "(*internal/sync.Mutex).Lock", "internal/race.Disable", "sync/atomic.CompareAndSwapInt32", "internal/race.Enable", "internal/race.Acquire", "(*internal/sync.Mutex).lockSlow", "internal/sync.runtime_canSpin", "internal/sync.runtime_doSpin", "internal/sync.throw", "internal/sync.runtime_nanotime", "internal/sync.runtime_SemacquireMutex", "sync/atomic.AddInt32", "(*internal/sync.Mutex).Unlock", "internal/race.ReleaseMerge", "(*internal/sync.Mutex).unlockSlow", "internal/sync.fatal", "internal/sync.runtime_Semrelease"], unfollowed := true, recurses := true, apart := false, narrowed := true }
def CodeSumsUptoSaid : Prop := codeSumsUptoRow.holds Try.pinned (OpenSpec.upto codeSumsSpec)

end Rows
end Go.Proofs.Ytghgmchgbhdldaa
