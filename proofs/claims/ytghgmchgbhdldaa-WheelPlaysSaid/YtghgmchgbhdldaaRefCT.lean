/-
  RefCT: the sum bit by bit is the sum byte by byte.
-/
import Derived.Test.YtghgmchgbhdldaaCrcT
namespace Go.Proofs.Ytghgmchgbhdldaa
open Go.RowKit

def sh : Nat → UInt32 → UInt32
  | 0, x => x
  | n + 1, x => (sh n x) >>> 1

theorem sh_toNat (n : Nat) (x : UInt32) : (sh n x).toNat = x.toNat / 2 ^ n := by
  induction n with
  | zero => simp [sh]
  | succ n ih => rw [sh, shr1_toNat, ih, Nat.pow_succ, Nat.div_div_eq_div_mul]

theorem sh_byte (x : UInt8) : sh 8 x.toUInt32 = 0 := by
  apply UInt32.toNat_inj.1
  rw [sh_toNat, UInt8.toNat_toUInt32]
  have := x.toNat_lt
  show x.toNat / 256 = 0
  omega

theorem crcBits_last (n : Nat) : ∀ c : UInt32, crcBits (n + 1) c = crcBit (crcBits n c) := by
  induction n with
  | zero => intro c; rfl
  | succ n ih => intro c; rw [crcBits, ih, crcBits]

/-- The state in which k bits have been taken. -/
def bitSt (l : List UInt8) (k : Nat) : UInt32 :=
  crcBits (k % 8) (crcFold (~~~ 0) (l.take (k / 8)) ^^^ (l.getD (k / 8) 0).toUInt32) ^^^ sh (k % 8) (l.getD (k / 8) 0).toUInt32

theorem bitSt_zero (l : List UInt8) : bitSt l 0 = 4294967295 := by
  unfold bitSt
  show (crcFold (~~~ 0) (l.take 0) ^^^ _) ^^^ _ = _
  rw [UInt32.xor_assoc]
  show (crcFold (~~~ 0) (l.take 0)) ^^^ ((l.getD 0 0).toUInt32 ^^^ (l.getD 0 0).toUInt32) = _
  rw [UInt32.xor_self, UInt32.xor_zero]
  rfl

theorem bitSt_full (l : List UInt8) (m : Nat) : bitSt l (8 * m) = crcFold (~~~ 0) (l.take m) := by
  unfold bitSt
  rw [show 8 * m % 8 = 0 from by omega, show 8 * m / 8 = m from by omega]
  show (crcFold (~~~ 0) (l.take m) ^^^ (l.getD m 0).toUInt32) ^^^ (l.getD m 0).toUInt32 = _
  rw [UInt32.xor_assoc, UInt32.xor_self, UInt32.xor_zero]

/-- One bit more. -/
def bitStep (y b : UInt32) : UInt32 := if (y &&& 1) ^^^ b = 1 then (y >>> 1) ^^^ 3988292384 else y >>> 1

theorem bitStep_eq (c : UInt32) (s : UInt32) : bitStep (c ^^^ s) (s &&& 1) = crcBit c ^^^ (s >>> 1) := by
  have h : ((c ^^^ s) &&& 1) ^^^ (s &&& 1) = c &&& 1 := by
    apply UInt32.toNat_inj.1
    rw [UInt32.toNat_xor, and1_toNat, and1_toNat, and1_toNat, xor_mod2]
    rcases Nat.mod_two_eq_zero_or_one c.toNat with h1 | h1 <;> rcases Nat.mod_two_eq_zero_or_one s.toNat with h2 | h2
    · rw [show (c.toNat + s.toNat) % 2 = 0 from by omega, h1, h2]; rfl
    · rw [show (c.toNat + s.toNat) % 2 = 1 from by omega, h1, h2]; rfl
    · rw [show (c.toNat + s.toNat) % 2 = 1 from by omega, h1, h2]; rfl
    · rw [show (c.toNat + s.toNat) % 2 = 0 from by omega, h1, h2]; rfl
  unfold bitStep
  rw [h, shr_xor]
  rcases crcBit_cases c with ⟨h1, h2⟩ | ⟨h1, h2⟩
  · have : c &&& 1 = 0 := by apply UInt32.toNat_inj.1; rw [and1_toNat, h1]; rfl
    rw [this, if_neg (by decide), h2]
  · have : c &&& 1 = 1 := by apply UInt32.toNat_inj.1; rw [and1_toNat, h1]; rfl
    rw [this, if_pos rfl, h2, UInt32.xor_assoc, UInt32.xor_assoc, UInt32.xor_comm (s >>> 1)]

theorem bitSt_succ (l : List UInt8) (k : Nat) (hk : k < 8 * l.length) : bitSt l (k + 1) = bitStep (bitSt l k) ((sh (k % 8) (l.getD (k / 8) 0).toUInt32) &&& 1) := by
  have h : bitStep (bitSt l k) ((sh (k % 8) (l.getD (k / 8) 0).toUInt32) &&& 1) = crcBits (k % 8 + 1) (crcFold (~~~ 0) (l.take (k / 8)) ^^^ (l.getD (k / 8) 0).toUInt32) ^^^ sh (k % 8 + 1) (l.getD (k / 8) 0).toUInt32 := by
    rw [crcBits_last, sh]
    exact bitStep_eq _ _
  rw [h]
  by_cases h7 : k % 8 = 7
  · have e : k + 1 = 8 * (k / 8 + 1) := by omega
    rw [e, bitSt_full, h7, sh_byte, UInt32.xor_zero]
    have hlt : k / 8 < l.length := by omega
    rw [List.take_add_one, List.getElem?_eq_getElem hlt, Option.toList_some, crcFold_append]
    have : l.getD (k / 8) 0 = l[k / 8] := by rw [List.getD, List.getElem?_eq_getElem hlt]; rfl
    rw [this]
    rfl
  · unfold bitSt
    rw [show (k + 1) % 8 = k % 8 + 1 from by omega, show (k + 1) / 8 = k / 8 from by omega]

end Go.Proofs.Ytghgmchgbhdldaa
