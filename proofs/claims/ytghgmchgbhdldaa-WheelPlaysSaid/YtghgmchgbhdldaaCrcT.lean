/-
  CrcT: two heads of four bytes that differ have different sums: the steps are linear, and one to one.
-/
import Derived.Test.YtghgmchgbhdldaaCrcM
namespace Go.Proofs.Ytghgmchgbhdldaa
open Go.RowKit

theorem mul01 (c : UInt32) : 3988292384 * (c &&& 1) = if c.toNat % 2 = 1 then 3988292384 else 0 := by
  rcases crcBit_cases c with ⟨h, _⟩ | ⟨h, _⟩
  · have : c &&& 1 = 0 := by apply UInt32.toNat_inj.1; rw [and1_toNat, h]; rfl
    rw [this, if_neg (by omega)]; rfl
  · have : c &&& 1 = 1 := by apply UInt32.toNat_inj.1; rw [and1_toNat, h]; rfl
    rw [this, if_pos h]; rfl

theorem xor_mod2 (a b : UInt32) : (a ^^^ b).toNat % 2 = (a.toNat + b.toNat) % 2 := by
  rw [UInt32.toNat_xor]
  have h := Nat.xor_mod_two_eq_one (a := a.toNat) (b := b.toNat)
  omega

theorem shr_xor (a b : UInt32) : (a ^^^ b) >>> 1 = (a >>> 1) ^^^ (b >>> 1) := by
  apply UInt32.toNat_inj.1
  rw [UInt32.toNat_shiftRight, UInt32.toNat_xor, UInt32.toNat_xor, UInt32.toNat_shiftRight, UInt32.toNat_shiftRight]
  exact Nat.shiftRight_xor_distrib

theorem crcBit_xor (a b : UInt32) : crcBit (a ^^^ b) = crcBit a ^^^ crcBit b := by
  rcases crcBit_cases a with ⟨ha, ea⟩ | ⟨ha, ea⟩ <;> rcases crcBit_cases b with ⟨hb, eb⟩ | ⟨hb, eb⟩ <;> rcases crcBit_cases (a ^^^ b) with ⟨hc, ec⟩ | ⟨hc, ec⟩ <;> rw [xor_mod2] at hc <;> first | omega | (rw [ea, eb, ec, shr_xor])
  · rw [UInt32.xor_assoc]
  · rw [UInt32.xor_assoc, UInt32.xor_assoc, UInt32.xor_comm (b >>> 1)]
  · rw [UInt32.xor_assoc (a >>> 1), ← UInt32.xor_assoc 3988292384, UInt32.xor_comm 3988292384 (b >>> 1), UInt32.xor_assoc (b >>> 1), UInt32.xor_self, UInt32.xor_zero]

theorem crcBits_xor (n : Nat) : ∀ (a b : UInt32), crcBits n (a ^^^ b) = crcBits n a ^^^ crcBits n b := by
  induction n with
  | zero => intro a b; rfl
  | succ n ih => intro a b; rw [crcBits, crcBits, crcBits, crcBit_xor, ih]

theorem crcBits_pow (n : Nat) : ∀ (y z : UInt32), z.toNat = y.toNat * 2 ^ n → crcBits n z = y := by
  induction n with
  | zero => intro y z h; apply UInt32.toNat_inj.1; rw [crcBits, h]; omega
  | succ n ih =>
    intro y z h
    rw [crcBits]
    have h2 : z.toNat = 2 * (y.toNat * 2 ^ n) := by rw [h, Nat.pow_succ]; rw [Nat.mul_comm 2, Nat.mul_assoc]
    apply ih
    rcases crcBit_cases z with ⟨hz, ez⟩ | ⟨hz, ez⟩
    · rw [ez, shr1_toNat]; omega
    · omega

/-- What eight steps make small was small before, but for its place. -/
theorem crc8_small {z y : UInt32} (h : crcBits 8 z = y) (hy : y.toNat < 16777216) : z.toNat = y.toNat * 256 := by
  have hs : (UInt32.ofNat (y.toNat * 256)).toNat = y.toNat * 2 ^ 8 := by
    rw [UInt32.toNat_ofNat']
    show y.toNat * 256 % 4294967296 = y.toNat * 256
    omega
  have := crcBits_pow 8 y _ hs
  have := crcBits_inj 8 (h.trans this.symm)
  rw [this, hs]

theorem xor_place (x e : Nat) (he : e < 256) : (x * 256) ^^^ e = x * 256 + e := by
  apply Nat.eq_of_testBit_eq
  intro j
  have h := Nat.testBit_two_pow_mul_add x (b := e) (i := 8) he j
  rw [show 2 ^ 8 * x + e = x * 256 + e from by omega] at h
  have h0 := Nat.testBit_two_pow_mul_add x (b := 0) (i := 8) (by omega) j
  rw [show 2 ^ 8 * x + 0 = x * 256 from by omega] at h0
  rw [Nat.testBit_xor, h, h0]
  by_cases hj : j < 8
  · simp [hj]
  · have : e.testBit j = false := Nat.testBit_lt_two_pow (Nat.lt_of_lt_of_le he (Nat.pow_le_pow_right (n := 2) (by omega) (show 8 ≤ j by omega)))
    simp [hj, this]

theorem byteXor (a b : UInt8) : (a.toUInt32 ^^^ b.toUInt32).toNat < 256 := by
  rw [UInt32.toNat_xor, UInt8.toNat_toUInt32, UInt8.toNat_toUInt32]
  exact Nat.xor_lt_two_pow (n := 8) a.toNat_lt b.toNat_lt

theorem byteXor_zero {a b : UInt8} (h : (a.toUInt32 ^^^ b.toUInt32).toNat = 0) : a = b := by
  have h1 : a.toUInt32 ^^^ b.toUInt32 = 0 := UInt32.toNat_inj.1 h
  have h2 := congrArg (fun z => z ^^^ b.toUInt32) h1
  simp only [UInt32.xor_assoc, UInt32.xor_self, UInt32.xor_zero, UInt32.zero_xor] at h2
  have h3 := congrArg UInt32.toNat h2
  rw [UInt8.toNat_toUInt32, UInt8.toNat_toUInt32] at h3
  exact UInt8.toNat_inj.1 h3

/-- The difference of two states behind a byte each. -/
theorem crcByte_diff (c d : UInt32) (a b : UInt8) : crcByte c a ^^^ crcByte d b = crcBits 8 ((c ^^^ d) ^^^ (a.toUInt32 ^^^ b.toUInt32)) := by
  unfold crcByte
  rw [← crcBits_xor]
  congr 1
  rw [UInt32.xor_assoc, UInt32.xor_assoc, ← UInt32.xor_assoc a.toUInt32, UInt32.xor_comm a.toUInt32 d, UInt32.xor_assoc d]

theorem undo {x e : UInt32} {v : Nat} (he : e.toNat < 256) (h : (x ^^^ e).toNat = v * 256) : x.toNat = v * 256 + e.toNat := by
  have h1 : x = (x ^^^ e) ^^^ e := by rw [UInt32.xor_assoc, UInt32.xor_self, UInt32.xor_zero]
  rw [h1, UInt32.toNat_xor, h, xor_place v _ he]

theorem heads_inj {c : UInt32} {a0 a1 a2 a3 b0 b1 b2 b3 : UInt8} (h : crcFold c [a0, a1, a2, a3] = crcFold c [b0, b1, b2, b3]) : a0 = b0 ∧ a1 = b1 ∧ a2 = b2 ∧ a3 = b3 := by
  have h0 : crcByte (crcByte (crcByte (crcByte c a0) a1) a2) a3 = crcByte (crcByte (crcByte (crcByte c b0) b1) b2) b3 := h
  have e3 := byteXor a3 b3
  have e2 := byteXor a2 b2
  have e1 := byteXor a1 b1
  have e0 := byteXor a0 b0
  have hx := congrArg (fun z => z ^^^ crcByte (crcByte (crcByte (crcByte c b0) b1) b2) b3) h0
  simp only [UInt32.xor_self] at hx
  rw [crcByte_diff] at hx
  have z0 : (0 : UInt32).toNat = 0 := rfl
  have t3 := undo e3 (v := 0) ((crc8_small hx (by rw [z0]; omega)).trans (by rw [z0]))
  rw [crcByte_diff] at t3
  have t2 := undo e2 (v := (a3.toUInt32 ^^^ b3.toUInt32).toNat) ((crc8_small (z := crcByte (crcByte c a0) a1 ^^^ crcByte (crcByte c b0) b1 ^^^ (a2.toUInt32 ^^^ b2.toUInt32)) rfl (by omega)).trans (by rw [t3]; omega))
  rw [crcByte_diff] at t2
  have t1 := undo e1 (v := (a3.toUInt32 ^^^ b3.toUInt32).toNat * 256 + (a2.toUInt32 ^^^ b2.toUInt32).toNat) ((crc8_small (z := crcByte c a0 ^^^ crcByte c b0 ^^^ (a1.toUInt32 ^^^ b1.toUInt32)) rfl (by omega)).trans (by rw [t2]))
  rw [crcByte_diff] at t1
  have t0 := crc8_small (z := (c ^^^ c) ^^^ (a0.toUInt32 ^^^ b0.toUInt32)) rfl (by omega)
  rw [UInt32.xor_self, UInt32.zero_xor] at t0
  rw [UInt32.xor_self, UInt32.zero_xor] at t1
  exact ⟨byteXor_zero (by omega), byteXor_zero (by omega), byteXor_zero (by omega), byteXor_zero (by omega)⟩

end Go.Proofs.Ytghgmchgbhdldaa
