/-
  SlotM: slots as plain functions of flash. No program here.
-/
import Derived.Test.YtghgmchgbhdldaaFlashM
import Derived.Test.YtghgmchgbhdldaaShaM
namespace Go.Proofs.Ytghgmchgbhdldaa
open Go.RowKit

def mayB (b : List UInt8) : Bool := decide (1 ≤ b.length) && decide (b.length ≤ 512)

namespace Fla
def slotRead (F : Fla) (s n : Int) : List UInt8 × Int :=
  if (s ≠ 0 ∧ s ≠ 1) ∨ n < 0 ∨ n > 512 then ([], 1) else F.read ((2 + s * 2) * 256) n

def slotRight (F : Fla) (s n : Int) (hash : List UInt8) : Bool :=
  if n < 1 then false else if (F.slotRead s n).2 ≠ 0 then false else decide (sha (F.slotRead s n).1 = hash)

/-- One sector cleared, if it is not blank. -/
def clear1 (F : Fla) (k : Int) : Fla × Int := if F.blank (k * 256) 256 then (F, 0) else F.erase k

def clearTo (F : Fla) (b : Int) : Nat → Fla × Int
  | 0 => (F, 0)
  | k + 1 => if (clearTo F b k).2 ≠ 0 then clearTo F b k else (clearTo F b k).1.clear1 (b + k)

def slotClear (F : Fla) (s : Int) : Fla × Int := F.clearTo (2 + s * 2) 2

def slotWrite (F : Fla) (s : Int) (b : List UInt8) : Fla × Int :=
  if (s ≠ 0 ∧ s ≠ 1) ∨ mayB b = false then (F, 1)
  else if F.down then (F, 11)
  else if (F.slotClear s).2 ≠ 0 then F.slotClear s
  else if ((F.slotClear s).1.program ((2 + s * 2) * 256) b).2 ≠ 0 then (F.slotClear s).1.program ((2 + s * 2) * 256) b
  else
    let G := ((F.slotClear s).1.program ((2 + s * 2) * 256) b).1
    (G, if (G.slotRead s b.length).2 = 0 ∧ (G.slotRead s b.length).1 ≠ b then 13 else (G.slotRead s b.length).2)
end Fla

end Go.Proofs.Ytghgmchgbhdldaa
