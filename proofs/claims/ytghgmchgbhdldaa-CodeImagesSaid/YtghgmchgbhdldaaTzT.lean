/-
  TzT: the lowest bit of a word that is set, by the road of math/bits.TrailingZeros64. No program here.
-/
import Derived.Test.YtghgmchgbhdldaaPopT
set_option linter.unusedVariables false
set_option linter.unusedSimpArgs false
namespace Go.Proofs.Ytghgmchgbhdldaa
open Go.RowKit

theorem odd_part : ∀ (n x : Nat), x < 2 ^ n → x ≠ 0 → ∃ k m, k < n ∧ x = 2 ^ k * (2 * m + 1)
  | 0, x, h, h0 => by simp at h; omega
  | n + 1, x, h, h0 => by
    by_cases ho : x % 2 = 1
    · exact ⟨0, x / 2, by omega, by simp; omega⟩
    · obtain ⟨k, m, hk, he⟩ := odd_part n (x / 2) (by rw [Nat.pow_succ] at h; omega) (by omega)
      refine ⟨k + 1, m, by omega, ?_⟩
      rw [Nat.pow_succ, Nat.mul_right_comm, ← he]
      omega

theorem low_and {k m : Nat} (hx : 2 ^ k * (2 * m + 1) < 18446744073709551616) : 2 ^ k * (2 * m + 1) &&& (18446744073709551616 - 2 ^ k * (2 * m + 1)) = 2 ^ k := by
  have hp : 0 < 2 ^ k := Nat.two_pow_pos k
  have hx1 : 2 ^ k * (2 * m + 1) - 1 < 2 ^ 64 := by
    have : (2 : Nat) ^ 64 = 18446744073709551616 := by decide
    omega
  have hm1 : 2 ^ k * (2 * m + 1) - 1 = 2 ^ k * (2 * m) + (2 ^ k - 1) := by rw [Nat.mul_add]; omega
  have hneg : 18446744073709551616 - 2 ^ k * (2 * m + 1) = 2 ^ 64 - ((2 ^ k * (2 * m + 1) - 1) + 1) := by
    have : (2 : Nat) ^ 64 = 18446744073709551616 := by decide
    have h1 : 1 ≤ 2 ^ k * (2 * m + 1) := Nat.mul_pos hp (by omega)
    omega
  rw [hneg]
  apply Nat.eq_of_testBit_eq
  intro i
  rw [Nat.testBit_and, Nat.testBit_two_pow_sub_succ hx1, hm1]
  have e1 : (2 ^ k * (2 * m + 1)).testBit i = if i < k then false else (2 * m + 1).testBit (i - k) := by
    have := Nat.testBit_two_pow_mul_add (2 * m + 1) hp i
    rw [Nat.add_zero] at this
    rw [this]
    simp
  rw [e1, Nat.testBit_two_pow_mul_add (2 * m) (show 2 ^ k - 1 < 2 ^ k by omega)]
  rw [Nat.testBit_two_pow]
  by_cases hik : i < k
  · rw [if_pos hik, Bool.false_and]
    simp; omega
  · rw [if_neg hik, if_neg hik]
    by_cases he : k = i
    · subst he
      rw [Nat.sub_self]
      have hk64 : k < 64 := by
        cases Nat.lt_or_ge k 64 with
        | inl h => exact h
        | inr h =>
          exfalso
          have h1 : (2 : Nat) ^ 64 ≤ 2 ^ k := Nat.pow_le_pow_right (by omega) h
          have h2 : 2 ^ k ≤ 2 ^ k * (2 * m + 1) := Nat.le_mul_of_pos_right _ (by omega)
          have : (2 : Nat) ^ 64 = 18446744073709551616 := by decide
          omega
      simp [hk64, Nat.testBit_zero]
    · obtain ⟨j, hj⟩ : ∃ j, i - k = j + 1 := ⟨i - k - 1, by omega⟩
      rw [hj, Nat.testBit_succ, Nat.testBit_succ, show (2 * m + 1) / 2 = m from by omega, show 2 * m / 2 = m from by omega]
      cases m.testBit j <;> simp [he]

theorem low_bit {x : Nat} (hx : x < 18446744073709551616) (h0 : x ≠ 0) : ∃ k m, k < 64 ∧ x = 2 ^ k * (2 * m + 1) ∧ x &&& (18446744073709551616 - x) = 2 ^ k := by
  obtain ⟨k, m, hk, rfl⟩ := odd_part 64 x (by have : (2 : Nat) ^ 64 = 18446744073709551616 := by decide
                                              omega) h0
  exact ⟨k, m, hk, rfl, low_and hx⟩

/-- The library's table. -/
def tzTab : List Nat := [0, 1, 56, 2, 57, 49, 28, 3, 61, 58, 42, 50, 38, 29, 17, 4, 62, 47, 59, 36, 45, 43, 51, 22, 53, 39, 33, 30, 24, 18, 12, 5, 63, 55, 48, 27, 60, 41, 37, 16, 46, 35, 44, 21, 52, 32, 23, 11, 54, 26, 40, 15, 34, 20, 31, 10, 25, 14, 19, 9, 13, 8, 7, 6]

theorem tzTab_at : ∀ k : Fin 64, tzTab.getD (2 ^ k.val * 285870213051353865 % 18446744073709551616 / 288230376151711744) 0 = k.val := by decide +kernel

end Go.Proofs.Ytghgmchgbhdldaa
