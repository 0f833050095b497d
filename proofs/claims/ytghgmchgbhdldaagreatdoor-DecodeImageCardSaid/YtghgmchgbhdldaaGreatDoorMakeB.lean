/-
  MakeB: make([]byte, n).
-/
import Derived.Test.YtghgmchgbhdldaaGreatDoorBytes
import Derived.Laws.MakeOwn
namespace Go.Proofs.YtghgmchgbhdldaaGreatDoor
open Go.RowKit

def zeros (n : Nat) : Array Value := ((List.replicate n (0 : UInt8)).map B8).toArray

theorem made_zeros (n : Nat) : madeCells #[.int .u8 0] n = zeros n := by
  apply Array.ext
  · simp [madeCells, zeros]
  · intro i h1 h2
    simp [madeCells, zeros, Nat.mod_one]

theorem make_u8 (n c : Nat) (hnc : n ≤ c) (hc : c ≤ 281474976710656) (w : World) :
    (Instr.makeSlice 28 (.int .i64 (n : Int)) (.int .i64 (c : Int))).run Tryz.prog w = .ok (.slice (some ⟨w.heap.size, 0, none⟩) n c) (w.alloc (.cells (zeros c) 5)) := by
  obtain ⟨i0, hi, hz0, hz1, hz2⟩ := info_parts Tryz.info_u8
  have hr := run_make (P := Tryz.prog) w 28 5 i0 _ Tryz.underlying28 hi hz0 .i64 .i64 n c (by omega) (by omega) (by rw [hz2]; omega) (by omega)
  rw [hz1] at hr
  simp only [Int.toNat_natCast, Nat.mul_one] at hr
  rw [hr, ← made_zeros]
  rfl


theorem zeros_rd (w : World) (n : Nat) : Rd (w.alloc (.cells (zeros n) 5)) (some ⟨w.heap.size, 0, none⟩) (List.replicate n 0) := Rd.lit w _ _ _ rfl

end Go.Proofs.YtghgmchgbhdldaaGreatDoor
