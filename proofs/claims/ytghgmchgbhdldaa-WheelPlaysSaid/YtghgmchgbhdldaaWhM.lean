/-
  WhM: the wheel as plain functions of flash. No program here.
-/
import Derived.Test.YtghgmchgbhdldaaCellM
namespace Go.Proofs.Ytghgmchgbhdldaa
open Go.RowKit

abbrev Rec := UInt32 × List UInt8

/-- What a wheel holds, beside its flash. -/
structure Whl where
  gen : UInt32
  size : Nat
  l : List Rec
  ready : Int
  next : Nat

def wide (s : Nat) : Nat := s + 13
def places (s : Nat) : Nat := 256 / wide s
def whAt (s k : Nat) : Nat := (6 + k / places s) * 256 + k % places s * wide s

theorem places_bounds {s : Nat} (h1 : 1 ≤ s) (h2 : s ≤ 16) : 8 ≤ places s ∧ places s ≤ 18 := by
  unfold places wide
  constructor
  · rw [Nat.le_div_iff_mul_le (by omega)]; omega
  · exact Nat.le_of_lt_succ ((Nat.div_lt_iff_lt_mul (by omega)).2 (by omega))

theorem places_wide {s : Nat} : places s * wide s ≤ 256 := Nat.div_mul_le_self _ _

/-- A place's record, out of its bytes. -/
def recOf (gen : UInt32) (b : List UInt8) : Option Rec :=
  if b.getD (b.length - 1) 0 ≠ 0 then none
  else match crcRight (b.take (b.length - 1)) with
  | none => none
  | some m => if num4 m = gen then some (num4 (m.drop 4), m.drop 8) else none

namespace Fla
def place (F : Fla) (s k : Nat) : List UInt8 := (F.b.drop (whAt s k)).take (wide s)

def recAt (F : Fla) (gen : UInt32) (s k : Nat) : Option Rec := if F.down then none else recOf gen (F.place s k)

/-- A sector's records, from its place i on: n places. -/
def recsAt (F : Fla) (gen : UInt32) (s k : Nat) : Nat → List Rec
  | 0 => []
  | n + 1 => F.recsAt gen s k n ++ (F.recAt gen s (k + n)).toList

def readSec (F : Fla) (gen : UInt32) (s : Nat) (st : List Rec × Int) (sector : Nat) : List Rec × Int :=
  if (F.recAt gen s (sector * places s)).isNone then st else (st.1 ++ F.recsAt gen s (sector * places s) (places s), sector)

def readTo (F : Fla) (gen : UInt32) (s : Nat) : Nat → List Rec × Int
  | 0 => ([], -1)
  | n + 1 => F.readSec gen s (F.readTo gen s n) n

/-- From n places above the first one down, as long as they are blank. -/
def trim (F : Fla) (s first : Nat) : Nat → Nat
  | 0 => 0
  | n + 1 => if F.blank (whAt s (first + n)) (wide s) then F.trim s first n else n + 1

def nextOf (F : Fla) (s : Nat) (ready : Int) : Nat := if ready < 0 then 0 else ready.toNat * places s + F.trim s (ready.toNat * places s) (places s)

def openWh (F : Fla) (gen : UInt32) (s : Nat) : Whl := ⟨gen, s, (F.readTo gen s 8).1, (F.readTo gen s 8).2, F.nextOf s (F.readTo gen s 8).2⟩

def whOut (gen id : UInt32) (d : List UInt8) : List UInt8 := crcPut (be4 gen ++ be4 id ++ d)

def enters (F : Fla) (ready : Int) (sector : Nat) : Fla × Int :=
  if (sector : Int) = ready ∨ F.blank ((6 + sector) * 256 : Nat) 256 = true then (F, 0) else F.erase (6 + sector : Nat)

/-- A record's bytes, then its mark. -/
def whPut (F : Fla) (at_ : Nat) (out : List UInt8) : Fla × Int :=
  if (F.program at_ out).2 ≠ 0 then F.program at_ out else (F.program at_ out).1.program (at_ + out.length : Nat) [0]
end Fla

namespace Whl
def room (V : Whl) : Int := 8 * places V.size - V.next

def sector (V : Whl) : Nat := V.next / places V.size

def added (V : Whl) (id : UInt32) (d : List UInt8) : Whl := { V with ready := V.sector, next := V.next + 1, l := V.l ++ [(id, d)] }

def add (F : Fla) (V : Whl) (id : UInt32) (d : List UInt8) : Fla × Whl × Int :=
  if d.length ≠ V.size then (F, V, 1)
  else if V.room = 0 then (F, V, 9)
  else if F.down then (F, V, 11)
  else if (F.enters V.ready V.sector).2 ≠ 0 then ((F.enters V.ready V.sector).1, V, (F.enters V.ready V.sector).2)
  else
    let r := (F.enters V.ready V.sector).1.whPut (whAt V.size V.next) (Fla.whOut V.gen id d)
    if r.2 ≠ 0 then (r.1, V, r.2) else (r.1, V.added id d, 0)
end Whl

end Go.Proofs.Ytghgmchgbhdldaa
