/-
  PopT: how many bits of a word are set, by the road of math/bits.OnesCount64. No program here.
-/
import Derived.Test.YtghgmchgbhdldaaBase
set_option linter.unusedVariables false
set_option linter.unusedSimpArgs false
namespace Go.Proofs.Ytghgmchgbhdldaa
open Go.RowKit

theorem and_cat {k a c : Nat} (q m : Nat) (ha : a < 2 ^ k) (hc : c < 2 ^ k) : (2 ^ k * q + a) &&& (2 ^ k * m + c) = 2 ^ k * (q &&& m) + (a &&& c) := by
  have hac : a &&& c < 2 ^ k := Nat.lt_of_le_of_lt Nat.and_le_left ha
  apply Nat.eq_of_testBit_eq
  intro i
  rw [Nat.testBit_and, Nat.testBit_two_pow_mul_add _ ha, Nat.testBit_two_pow_mul_add _ hc, Nat.testBit_two_pow_mul_add _ hac]
  split
  · rw [Nat.testBit_and]
  · rw [Nat.testBit_and]

/-- Eight bytes, the lowest first. -/
def cat8 (b0 b1 b2 b3 b4 b5 b6 b7 : Nat) : Nat := 256 * (256 * (256 * (256 * (256 * (256 * (256 * b7 + b6) + b5) + b4) + b3) + b2) + b1) + b0

theorem and_cat256 {a c : Nat} (q m : Nat) (ha : a < 256) (hc : c < 256) : (256 * q + a) &&& (256 * m + c) = 256 * (q &&& m) + (a &&& c) := and_cat (k := 8) q m ha hc

theorem cat8_and {b0 b1 b2 b3 b4 b5 b6 b7 : Nat} (m : Nat) (h0 : b0 < 256) (h1 : b1 < 256) (h2 : b2 < 256) (h3 : b3 < 256) (h4 : b4 < 256) (h5 : b5 < 256) (h6 : b6 < 256) (hm : m < 256) :
    cat8 b0 b1 b2 b3 b4 b5 b6 b7 &&& cat8 m m m m m m m m = cat8 (b0 &&& m) (b1 &&& m) (b2 &&& m) (b3 &&& m) (b4 &&& m) (b5 &&& m) (b6 &&& m) (b7 &&& m) := by
  unfold cat8
  rw [and_cat256 _ _ h0 hm, and_cat256 _ _ h1 hm, and_cat256 _ _ h2 hm, and_cat256 _ _ h3 hm, and_cat256 _ _ h4 hm, and_cat256 _ _ h5 hm, and_cat256 _ _ h6 hm]

theorem mask0 : (6148914691236517205 : Nat) = cat8 85 85 85 85 85 85 85 85 := by decide
theorem mask1 : (3689348814741910323 : Nat) = cat8 51 51 51 51 51 51 51 51 := by decide
theorem mask2 : (1085102592571150095 : Nat) = cat8 15 15 15 15 15 15 15 15 := by decide

/-- The bits of a byte that are set. -/
def pop8 (b : Nat) : Nat := b % 2 + b / 2 % 2 + b / 4 % 2 + b / 8 % 2 + b / 16 % 2 + b / 32 % 2 + b / 64 % 2 + b / 128 % 2

def st1 (b : Nat) : Nat := (b / 2 &&& 85) + (b &&& 85)
def st2 (b : Nat) : Nat := (b / 4 &&& 51) + (b &&& 51)

theorem by1 : ∀ b : Fin 256, ∀ t : Fin 2, ((128 * t.val + b.val / 2) &&& 85) = (b.val / 2 &&& 85) := by decide +kernel
theorem by1b : ∀ b : Fin 256, st1 b.val < 256 := by decide +kernel
theorem by2 : ∀ b : Fin 256, ∀ t : Fin 4, ((64 * t.val + b.val / 4) &&& 51) = (b.val / 4 &&& 51) := by decide +kernel
theorem by2b : ∀ b : Fin 256, st2 (st1 b.val) ≤ 68 ∧ st1 b.val < 256 ∧ st2 (st1 b.val) % 16 ≤ 4 := by decide +kernel
theorem by3 : ∀ b : Fin 256, ∀ t : Fin 16, ((16 * t.val + st2 (st1 b.val) / 16 + st2 (st1 b.val)) &&& 15) = pop8 b.val := by decide +kernel

theorem cat8_half {b0 b1 b2 b3 b4 b5 b6 b7 : Nat} (h0 : b0 < 256) (h1 : b1 < 256) (h2 : b2 < 256) (h3 : b3 < 256) (h4 : b4 < 256) (h5 : b5 < 256) (h6 : b6 < 256) (h7 : b7 < 256) :
    cat8 b0 b1 b2 b3 b4 b5 b6 b7 / 2 = cat8 (128 * (b1 % 2) + b0 / 2) (128 * (b2 % 2) + b1 / 2) (128 * (b3 % 2) + b2 / 2) (128 * (b4 % 2) + b3 / 2) (128 * (b5 % 2) + b4 / 2) (128 * (b6 % 2) + b5 / 2) (128 * (b7 % 2) + b6 / 2) (128 * 0 + b7 / 2) := by
  unfold cat8; omega
theorem cat8_quart {b0 b1 b2 b3 b4 b5 b6 b7 : Nat} (h0 : b0 < 256) (h1 : b1 < 256) (h2 : b2 < 256) (h3 : b3 < 256) (h4 : b4 < 256) (h5 : b5 < 256) (h6 : b6 < 256) (h7 : b7 < 256) :
    cat8 b0 b1 b2 b3 b4 b5 b6 b7 / 4 = cat8 (64 * (b1 % 4) + b0 / 4) (64 * (b2 % 4) + b1 / 4) (64 * (b3 % 4) + b2 / 4) (64 * (b4 % 4) + b3 / 4) (64 * (b5 % 4) + b4 / 4) (64 * (b6 % 4) + b5 / 4) (64 * (b7 % 4) + b6 / 4) (64 * 0 + b7 / 4) := by
  unfold cat8; omega
theorem cat8_sixt {b0 b1 b2 b3 b4 b5 b6 b7 : Nat} (h0 : b0 ≤ 68) (h1 : b1 ≤ 68) (h2 : b2 ≤ 68) (h3 : b3 ≤ 68) (h4 : b4 ≤ 68) (h5 : b5 ≤ 68) (h6 : b6 ≤ 68) (h7 : b7 ≤ 68) :
    cat8 b0 b1 b2 b3 b4 b5 b6 b7 / 16 + cat8 b0 b1 b2 b3 b4 b5 b6 b7 = cat8 (16 * (b1 % 16) + b0 / 16 + b0) (16 * (b2 % 16) + b1 / 16 + b1) (16 * (b3 % 16) + b2 / 16 + b2) (16 * (b4 % 16) + b3 / 16 + b3) (16 * (b5 % 16) + b4 / 16 + b4) (16 * (b6 % 16) + b5 / 16 + b5) (16 * (b7 % 16) + b6 / 16 + b6) (16 * 0 + b7 / 16 + b7) := by
  unfold cat8; omega
theorem cat8_add {a0 a1 a2 a3 a4 a5 a6 a7 b0 b1 b2 b3 b4 b5 b6 b7 : Nat} : cat8 a0 a1 a2 a3 a4 a5 a6 a7 + cat8 b0 b1 b2 b3 b4 b5 b6 b7 = cat8 (a0 + b0) (a1 + b1) (a2 + b2) (a3 + b3) (a4 + b4) (a5 + b5) (a6 + b6) (a7 + b7) := by
  unfold cat8; omega

theorem pop8_le : ∀ b : Fin 256, pop8 b.val ≤ 8 := by decide +kernel

theorem cat8_d1 {b0 b1 b2 b3 b4 b5 b6 b7 : Nat} (h0 : b0 < 256) : cat8 b0 b1 b2 b3 b4 b5 b6 b7 / 256 = cat8 b1 b2 b3 b4 b5 b6 b7 0 := by
  unfold cat8; omega
theorem cat8_d2 {b0 b1 b2 b3 b4 b5 b6 b7 : Nat} (h0 : b0 < 256) (h1 : b1 < 256) : cat8 b0 b1 b2 b3 b4 b5 b6 b7 / 65536 = cat8 b2 b3 b4 b5 b6 b7 0 0 := by
  unfold cat8; omega
theorem cat8_d4 {b0 b1 b2 b3 b4 b5 b6 b7 : Nat} (h0 : b0 < 256) (h1 : b1 < 256) (h2 : b2 < 256) (h3 : b3 < 256) : cat8 b0 b1 b2 b3 b4 b5 b6 b7 / 4294967296 = cat8 b4 b5 b6 b7 0 0 0 0 := by
  unfold cat8; omega

/-- The road of the library: in words of 64 bits. -/
def ones1 (x : Nat) : Nat := (x / 2 &&& 6148914691236517205) + (x &&& 6148914691236517205)
def ones2 (x : Nat) : Nat := (x / 4 &&& 3689348814741910323) + (x &&& 3689348814741910323)
def ones3 (x : Nat) : Nat := (x / 16 + x) &&& 1085102592571150095
def ones4 (x : Nat) : Nat := x + x / 256
def ones5 (x : Nat) : Nat := x + x / 65536
def ones6 (x : Nat) : Nat := x + x / 4294967296
def onesAll (x : Nat) : Nat := ones6 (ones5 (ones4 (ones3 (ones2 (ones1 x))))) % 128

theorem ones1_cat {b0 b1 b2 b3 b4 b5 b6 b7 : Nat} (h0 : b0 < 256) (h1 : b1 < 256) (h2 : b2 < 256) (h3 : b3 < 256) (h4 : b4 < 256) (h5 : b5 < 256) (h6 : b6 < 256) (h7 : b7 < 256) : ones1 (cat8 b0 b1 b2 b3 b4 b5 b6 b7) = cat8 (st1 b0) (st1 b1) (st1 b2) (st1 b3) (st1 b4) (st1 b5) (st1 b6) (st1 b7) := by
  have e : ∀ b t, b < 256 → t < 2 → (128 * t + b / 2) &&& 85 = (b / 2 &&& 85) := fun b t hb ht => by1 ⟨b, hb⟩ ⟨t, ht⟩
  have l : ∀ b t, b < 256 → t < 2 → 128 * t + b / 2 < 256 := fun b t hb ht => by omega
  have m2 : ∀ b, b % 2 < 2 := fun b => Nat.mod_lt _ (by omega)
  unfold ones1
  rw [mask0, cat8_half h0 h1 h2 h3 h4 h5 h6 h7, cat8_and 85 (l _ _ h0 (m2 _)) (l _ _ h1 (m2 _)) (l _ _ h2 (m2 _)) (l _ _ h3 (m2 _)) (l _ _ h4 (m2 _)) (l _ _ h5 (m2 _)) (l _ _ h6 (m2 _)) (by omega), cat8_and 85 h0 h1 h2 h3 h4 h5 h6 (by omega), cat8_add]
  rw [e _ _ h0 (m2 _), e _ _ h1 (m2 _), e _ _ h2 (m2 _), e _ _ h3 (m2 _), e _ _ h4 (m2 _), e _ _ h5 (m2 _), e _ _ h6 (m2 _), e _ 0 h7 (by omega)]
  rfl

theorem ones2_cat {b0 b1 b2 b3 b4 b5 b6 b7 : Nat} (h0 : b0 < 256) (h1 : b1 < 256) (h2 : b2 < 256) (h3 : b3 < 256) (h4 : b4 < 256) (h5 : b5 < 256) (h6 : b6 < 256) (h7 : b7 < 256) : ones2 (cat8 b0 b1 b2 b3 b4 b5 b6 b7) = cat8 (st2 b0) (st2 b1) (st2 b2) (st2 b3) (st2 b4) (st2 b5) (st2 b6) (st2 b7) := by
  have e : ∀ b t, b < 256 → t < 4 → (64 * t + b / 4) &&& 51 = (b / 4 &&& 51) := fun b t hb ht => by2 ⟨b, hb⟩ ⟨t, ht⟩
  have l : ∀ b t, b < 256 → t < 4 → 64 * t + b / 4 < 256 := fun b t hb ht => by omega
  have m2 : ∀ b, b % 4 < 4 := fun b => Nat.mod_lt _ (by omega)
  unfold ones2
  rw [mask1, cat8_quart h0 h1 h2 h3 h4 h5 h6 h7, cat8_and 51 (l _ _ h0 (m2 _)) (l _ _ h1 (m2 _)) (l _ _ h2 (m2 _)) (l _ _ h3 (m2 _)) (l _ _ h4 (m2 _)) (l _ _ h5 (m2 _)) (l _ _ h6 (m2 _)) (by omega), cat8_and 51 h0 h1 h2 h3 h4 h5 h6 (by omega), cat8_add]
  rw [e _ _ h0 (m2 _), e _ _ h1 (m2 _), e _ _ h2 (m2 _), e _ _ h3 (m2 _), e _ _ h4 (m2 _), e _ _ h5 (m2 _), e _ _ h6 (m2 _), e _ 0 h7 (by omega)]
  rfl

theorem ones3_cat {b0 b1 b2 b3 b4 b5 b6 b7 : Nat} (h0 : b0 < 256) (h1 : b1 < 256) (h2 : b2 < 256) (h3 : b3 < 256) (h4 : b4 < 256) (h5 : b5 < 256) (h6 : b6 < 256) (h7 : b7 < 256) : ones3 (cat8 (st2 (st1 b0)) (st2 (st1 b1)) (st2 (st1 b2)) (st2 (st1 b3)) (st2 (st1 b4)) (st2 (st1 b5)) (st2 (st1 b6)) (st2 (st1 b7))) = cat8 (pop8 b0) (pop8 b1) (pop8 b2) (pop8 b3) (pop8 b4) (pop8 b5) (pop8 b6) (pop8 b7) := by
  have e : ∀ b t, b < 256 → t < 16 → (16 * t + st2 (st1 b) / 16 + st2 (st1 b)) &&& 15 = pop8 b := fun b t hb ht => by3 ⟨b, hb⟩ ⟨t, ht⟩
  have q : ∀ b, b < 256 → st2 (st1 b) ≤ 68 := fun b hb => (by2b ⟨b, hb⟩).1
  have m4 : ∀ b, b < 256 → st2 (st1 b) % 16 ≤ 4 := fun b hb => (by2b ⟨b, hb⟩).2.2
  have l : ∀ b t, b < 256 → t ≤ 4 → 16 * t + st2 (st1 b) / 16 + st2 (st1 b) < 256 := fun b t hb ht => by have := q b hb; omega
  unfold ones3
  rw [mask2, cat8_sixt (q _ h0) (q _ h1) (q _ h2) (q _ h3) (q _ h4) (q _ h5) (q _ h6) (q _ h7), cat8_and 15 (l _ _ h0 (m4 _ h1)) (l _ _ h1 (m4 _ h2)) (l _ _ h2 (m4 _ h3)) (l _ _ h3 (m4 _ h4)) (l _ _ h4 (m4 _ h5)) (l _ _ h5 (m4 _ h6)) (l _ _ h6 (m4 _ h7)) (by omega)]
  rw [e _ _ h0 (Nat.lt_of_le_of_lt (m4 _ h1) (by omega)), e _ _ h1 (Nat.lt_of_le_of_lt (m4 _ h2) (by omega)), e _ _ h2 (Nat.lt_of_le_of_lt (m4 _ h3) (by omega)), e _ _ h3 (Nat.lt_of_le_of_lt (m4 _ h4) (by omega)), e _ _ h4 (Nat.lt_of_le_of_lt (m4 _ h5) (by omega)), e _ _ h5 (Nat.lt_of_le_of_lt (m4 _ h6) (by omega)), e _ _ h6 (Nat.lt_of_le_of_lt (m4 _ h7) (by omega)), e _ 0 h7 (by omega)]

theorem ones_low {p0 p1 p2 p3 p4 p5 p6 p7 : Nat} (h0 : p0 ≤ 8) (h1 : p1 ≤ 8) (h2 : p2 ≤ 8) (h3 : p3 ≤ 8) (h4 : p4 ≤ 8) (h5 : p5 ≤ 8) (h6 : p6 ≤ 8) (h7 : p7 ≤ 8) : ones6 (ones5 (ones4 (cat8 p0 p1 p2 p3 p4 p5 p6 p7))) % 128 = p0 + p1 + p2 + p3 + p4 + p5 + p6 + p7 := by
  unfold ones4
  rw [cat8_d1 (by omega), cat8_add]
  unfold ones5
  rw [cat8_d2 (by omega) (by omega), cat8_add]
  unfold ones6
  rw [cat8_d4 (by omega) (by omega) (by omega) (by omega), cat8_add]
  unfold cat8
  omega

theorem onesAll_cat {b0 b1 b2 b3 b4 b5 b6 b7 : Nat} (h0 : b0 < 256) (h1 : b1 < 256) (h2 : b2 < 256) (h3 : b3 < 256) (h4 : b4 < 256) (h5 : b5 < 256) (h6 : b6 < 256) (h7 : b7 < 256) : onesAll (cat8 b0 b1 b2 b3 b4 b5 b6 b7) = pop8 b0 + pop8 b1 + pop8 b2 + pop8 b3 + pop8 b4 + pop8 b5 + pop8 b6 + pop8 b7 := by
  have a : ∀ b, b < 256 → st1 b < 256 := fun b hb => (by2b ⟨b, hb⟩).2.1
  have c : ∀ b, b < 256 → pop8 b ≤ 8 := fun b hb => pop8_le ⟨b, hb⟩
  unfold onesAll
  rw [ones1_cat h0 h1 h2 h3 h4 h5 h6 h7, ones2_cat (a _ h0) (a _ h1) (a _ h2) (a _ h3) (a _ h4) (a _ h5) (a _ h6) (a _ h7), ones3_cat h0 h1 h2 h3 h4 h5 h6 h7, ones_low (c _ h0) (c _ h1) (c _ h2) (c _ h3) (c _ h4) (c _ h5) (c _ h6) (c _ h7)]

/-- How many bits of a word are set. -/
def popN (x : Nat) : Nat := pop8 (x % 256) + pop8 (x / 256 % 256) + pop8 (x / 65536 % 256) + pop8 (x / 16777216 % 256) + pop8 (x / 4294967296 % 256) + pop8 (x / 1099511627776 % 256) + pop8 (x / 281474976710656 % 256) + pop8 (x / 72057594037927936 % 256)

theorem onesAll_eq (x : Nat) (hx : x < 18446744073709551616) : onesAll x = popN x := by
  have e : x = cat8 (x % 256) (x / 256 % 256) (x / 65536 % 256) (x / 16777216 % 256) (x / 4294967296 % 256) (x / 1099511627776 % 256) (x / 281474976710656 % 256) (x / 72057594037927936 % 256) := by
    unfold cat8; omega
  have m : ∀ y, y % 256 < 256 := fun y => Nat.mod_lt _ (by omega)
  have h := onesAll_cat (m x) (m (x / 256)) (m (x / 65536)) (m (x / 16777216)) (m (x / 4294967296)) (m (x / 1099511627776)) (m (x / 281474976710656)) (m (x / 72057594037927936))
  rw [← e] at h
  exact h

end Go.Proofs.Ytghgmchgbhdldaa
