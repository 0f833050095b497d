/-
  CellM: the cell as plain functions of flash. No program here.
-/
import Derived.Test.YtghgmchgbhdldaaFlashM
import Derived.Test.YtghgmchgbhdldaaCrcM
namespace Go.Proofs.Ytghgmchgbhdldaa
open Go.RowKit

/-- The number of the first four bytes, the greatest first. -/
def be32 (a b c d : UInt8) : UInt32 := (a.toUInt32 <<< 24) ||| (b.toUInt32 <<< 16) ||| (c.toUInt32 <<< 8) ||| d.toUInt32
def num4 (l : List UInt8) : UInt32 := be32 (l.getD 0 0) (l.getD 1 0) (l.getD 2 0) (l.getD 3 0)

/-- How many bytes a copy says it has. -/
def cpLen (s : List UInt8) : Nat := (s.getD 4 0).toNat * 256 + (s.getD 5 0).toNat

/-- A sector's copy, if it is whole. -/
def cellCopy (s : List UInt8) : Option (UInt32 × List UInt8) :=
  if cpLen s > 245 then none
  else if s.getD (10 + cpLen s) 0 ≠ 0 then none
  else (crcRight (s.take (10 + cpLen s))).map fun x => (num4 s, x.drop 6)

namespace Fla
def sec (F : Fla) (k : Nat) : List UInt8 := (F.b.drop (k * 256)).take 256

def whole (F : Fla) (k : Nat) : Option (UInt32 × List UInt8) := if F.down then none else cellCopy (F.sec k)

/-- One sector more: its copy, if it is whole, against what counts so far. -/
def stepF (st : Option (UInt32 × List UInt8 × Nat)) (k : Nat) (r : Option (UInt32 × List UInt8)) : Option (UInt32 × List UInt8 × Nat) :=
  match r with
  | none => st
  | some (n, b) => match st with
    | none => some (n, b, k)
    | some (m, _, _) => if n > m then some (n, b, k) else st

def foundTo (F : Fla) : Nat → Option (UInt32 × List UInt8 × Nat)
  | 0 => none
  | k + 1 => stepF (F.foundTo k) k (F.whole k)

def found (F : Fla) : Option (UInt32 × List UInt8 × Nat) := F.foundTo 2

def stNum (st : Option (UInt32 × List UInt8 × Nat)) : UInt32 := (st.map (·.1)).getD 0
def stB (st : Option (UInt32 × List UInt8 × Nat)) : List UInt8 := (st.map (·.2.1)).getD []
def stAt (st : Option (UInt32 × List UInt8 × Nat)) : Int := match st with
  | none => -1
  | some x => x.2.2

theorem step_take {st : Option (UInt32 × List UInt8 × Nat)} {k : Nat} {n : UInt32} {b : List UInt8} (h : stAt st < 0 ∨ (stNum st).toNat < n.toNat) : stepF st k (some (n, b)) = some (n, b, k) := by
  cases st with
  | none => rfl
  | some x =>
    obtain ⟨m, b', j⟩ := x
    have hm : n > m := by
      rcases h with h | h
      · simp only [stAt] at h; omega
      · exact UInt32.lt_iff_toNat_lt.2 h
    simp only [stepF, if_pos hm]

theorem step_keep {st : Option (UInt32 × List UInt8 × Nat)} {k : Nat} {n : UInt32} {b : List UInt8} (h0 : 0 ≤ stAt st) (h : ¬ (stNum st).toNat < n.toNat) : stepF st k (some (n, b)) = st := by
  cases st with
  | none => simp [stAt] at h0
  | some x =>
    obtain ⟨m, b', j⟩ := x
    have hm : ¬ n > m := fun h' => h (UInt32.lt_iff_toNat_lt.1 h')
    simp only [stepF, if_neg hm]

def cellRead (F : Fla) : List UInt8 × Int :=
  if F.down then ([], 11) else if stAt F.found < 0 then ([], 14) else (stB F.found, 0)

/-- A copy's bytes, without its mark. -/
def cellOut (n : UInt32) (b : List UInt8) : List UInt8 := crcPut (be4 n ++ [UInt8.ofNat (b.length / 256), UInt8.ofNat b.length] ++ b)

def cellPut (F : Fla) (to at_ : Int) (out : List UInt8) : Fla × Int :=
  if (F.erase to).2 ≠ 0 then F.erase to
  else if ((F.erase to).1.program at_ out).2 ≠ 0 then (F.erase to).1.program at_ out
  else ((F.erase to).1.program at_ out).1.program (at_ + out.length) [0]

def cellWrite (F : Fla) (b : List UInt8) : Fla × Int :=
  if b.length > 245 then (F, 1)
  else if F.down then (F, 11)
  else if stNum F.found = 4294967295 then (F, 9)
  else if stAt F.found = 0 then F.cellPut 1 256 (cellOut (stNum F.found + 1) b)
  else F.cellPut 0 0 (cellOut (stNum F.found + 1) b)
end Fla

end Go.Proofs.Ytghgmchgbhdldaa
