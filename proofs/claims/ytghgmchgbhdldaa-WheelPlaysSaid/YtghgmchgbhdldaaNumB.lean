/-
  NumB: numbers out of four bytes, as the code reckons them; a slice of bytes that is written out.
-/
import Derived.Test.YtghgmchgbhdldaaFlashN
import Derived.Test.YtghgmchgbhdldaaCrc
import Derived.Test.YtghgmchgbhdldaaCellM
import Derived.Test.YtghgmchgbhdldaaSl
set_option linter.unusedVariables false
namespace Go.Proofs.Ytghgmchgbhdldaa
open Go.RowKit

theorem i64_or_nat (a b : Nat) (ha : a < 4294967296) (hb : b < 4294967296) : bits .or .i64 (a : Int) (b : Int) = ((a ||| b : Nat) : Int) := by
  have hx : a ||| b < 2 ^ 32 := Nat.or_lt_two_pow (by omega) (by omega)
  show IntKind.i64.wrap ((BitVec.ofInt 64 (a : Int) ||| BitVec.ofInt 64 (b : Int)).toNat : Int) = _
  have t : ∀ a : Nat, a < 4294967296 → (BitVec.ofInt 64 (a : Int)).toNat = a := fun a ha => by
    rw [BitVec.ofInt_natCast, BitVec.toNat_ofNat]; exact Nat.mod_eq_of_lt (by omega)
  rw [BitVec.toNat_or, t a ha, t b hb]
  exact IntWalk.i64_in _ (by omega)

theorem or_len (x y : UInt8) : bits .or .i64 (wrap64 (wrap64 (x.toNat : Int) * 256)) (wrap64 (y.toNat : Int)) = ((x.toNat * 256 + y.toNat : Nat) : Int) := by
  have hx := x.toNat_lt
  have hy := y.toNat_lt
  rw [IntWalk.wrap64_in (x.toNat : Int) (by omega), IntWalk.wrap64_in (y.toNat : Int) (by omega), IntWalk.wrap64_in _ (by omega)]
  have e : (x.toNat : Int) * 256 = ((x.toNat * 256 : Nat) : Int) := by omega
  rw [e, i64_or_nat _ _ (by omega) (by omega)]
  have := Nat.shiftLeft_add_eq_or_of_lt (i := 8) (b := y.toNat) hy x.toNat
  rw [Nat.shiftLeft_eq] at this
  rw [← this]

theorem shl32 (x : UInt8) (k : Nat) (hk : k = 24 ∨ k = 16 ∨ k = 8) : (x.toNat : Int) % 4294967296 * (2 ^ k : Nat) % 4294967296 = ((x.toUInt32 <<< (UInt32.ofNat k)).toNat : Int) := by
  have hx := x.toNat_lt
  rw [UInt32.toNat_shiftLeft, UInt8.toNat_toUInt32]
  rcases hk with rfl | rfl | rfl
  · show _ = ((x.toNat <<< 24 % 4294967296 : Nat) : Int)
    rw [Nat.shiftLeft_eq]; omega
  · show _ = ((x.toNat <<< 16 % 4294967296 : Nat) : Int)
    rw [Nat.shiftLeft_eq]; omega
  · show _ = ((x.toNat <<< 8 % 4294967296 : Nat) : Int)
    rw [Nat.shiftLeft_eq]; omega

theorem num_bits (a b c d : UInt8) :
    bits .or .u32 (bits .or .u32 (bits .or .u32 ((a.toNat : Int) % 4294967296 * 16777216 % 4294967296) ((b.toNat : Int) % 4294967296 * 65536 % 4294967296)) ((c.toNat : Int) % 4294967296 * 256 % 4294967296)) ((d.toNat : Int) % 4294967296) = ((be32 a b c d).toNat : Int) := by
  have e1 := shl32 a 24 (.inl rfl)
  have e2 := shl32 b 16 (.inr (.inl rfl))
  have e3 := shl32 c 8 (.inr (.inr rfl))
  have e4 : (d.toNat : Int) % 4294967296 = (d.toUInt32.toNat : Int) := byte32 d
  have e1' : (a.toNat : Int) % 4294967296 * 16777216 % 4294967296 = ((a.toUInt32 <<< (24 : UInt32)).toNat : Int) := e1
  have e2' : (b.toNat : Int) % 4294967296 * 65536 % 4294967296 = ((b.toUInt32 <<< (16 : UInt32)).toNat : Int) := e2
  have e3' : (c.toNat : Int) % 4294967296 * 256 % 4294967296 = ((c.toUInt32 <<< (8 : UInt32)).toNat : Int) := e3
  rw [e1', e2', e3', e4, or32, or32, or32]
  rfl

theorem Keeps.cell {w w' : World} {a : Addr} {v : Value} (k : Keeps [] w w') (h : w.cell? a = some v) : w'.cell? a = some v :=
  (World.cell?_of_block (a := a) (k.block a.block (World.block_lt_of_cell? w _ h) (by simp))).trans h

theorem Own.lit (w : World) (c : Array Value) (l : List UInt8) (n : Nat) (hc : c.toList = l.map B8) (hn : l.length = n) (hm : n ≤ 1000000) :
    Own (w.alloc (.cells c 5)) w.heap.size (.slice (some ⟨w.heap.size, 0, none⟩) n n) l := by
  have hcs : c.size = n := by rw [← Array.length_toList, hc, List.length_map, hn]
  have hg : (w.alloc (.cells c 5)).heap[w.heap.size]? = some (.cells c 5 (0, 0)) := by
    show (w.heap.push _)[w.heap.size]? = _
    simp
  refine ⟨by simp, .inr ⟨w.heap.size, n, c, by rw [hn], Nat.le_refl _, hg, by omega, by unfold maxLen; omega, by omega, ?_⟩⟩
  rw [hc, List.take_of_length_le (by rw [List.length_map]; omega)]

end Go.Proofs.Ytghgmchgbhdldaa
