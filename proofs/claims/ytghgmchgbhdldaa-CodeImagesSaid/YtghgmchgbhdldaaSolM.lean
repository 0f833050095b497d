/-
  SolM: how many pieces a symbol sums: the root, the weights, their sums, the number that chance picks. No program here.
-/
import Derived.Test.YtghgmchgbhdldaaVecM
set_option linter.unusedVariables false
set_option linter.unusedSimpArgs false
namespace Go.Proofs.Ytghgmchgbhdldaa
open Go.RowKit

def rootF (n : Nat) : Nat → Nat
  | 0 => 0
  | k + 1 => if (k + 1) * (k + 1) ≤ n then k + 1 else rootF n k
def rootN (n : Nat) : Nat := rootF n n

theorem rootF_sq (n : Nat) : ∀ k, rootF n k * rootF n k ≤ n
  | 0 => by simp [rootF]
  | k + 1 => by
    unfold rootF
    split
    · assumption
    · exact rootF_sq n k
theorem rootF_top (n : Nat) : ∀ k m, rootF n k < m → m ≤ k → n < m * m
  | 0, m, h, h2 => by simp [rootF] at h; omega
  | k + 1, m, h, h2 => by
    unfold rootF at h
    split at h
    · omega
    · next h3 =>
      by_cases hm : m = k + 1
      · subst hm; omega
      · exact rootF_top n k m h (by omega)
theorem rootN_sq (n : Nat) : rootN n * rootN n ≤ n := rootF_sq n n
theorem rootN_top {n m : Nat} (h : rootN n < m) : n < m * m := by
  by_cases hm : m ≤ n
  · exact rootF_top n n m h hm
  · exact Nat.lt_of_lt_of_le (by omega) (Nat.le_mul_of_pos_right m (by omega))
theorem rootN_uniq {n r : Nat} (h1 : r * r ≤ n) (h2 : n < (r + 1) * (r + 1)) : rootN n = r := by
  have a := rootN_sq n
  have c1 : ¬ rootN n < r := fun h => by have := rootN_top h; omega
  have c2 : ¬ r < rootN n := fun h => by
    have : (r + 1) * (r + 1) ≤ rootN n * rootN n := Nat.mul_le_mul h h
    omega
  omega
theorem rootN_pos {n : Nat} (h : 1 ≤ n) : 1 ≤ rootN n := by
  rcases Nat.eq_zero_or_pos (rootN n) with h0 | h0
  · have := rootN_top (n := n) (m := 1) (by omega); omega
  · exact h0
theorem rootN_le (n : Nat) : rootN n ≤ n := by
  have := rootN_sq n
  rcases Nat.eq_zero_or_pos (rootN n) with h0 | h0
  · omega
  · exact Nat.le_trans (Nat.le_mul_of_pos_right _ h0) this

def wbase (n d : Nat) : Nat := if 1 < d then 1048576 / (d * (d - 1)) else 1048576 / n
/-- How likely a number is. -/
def wgt (n d : Nat) : Nat := if d < n / rootN n then wbase n d + 262144 * rootN n / (d * n) else if d = n / rootN n then wbase n d + 524288 * rootN n / n else wbase n d

theorem wbase_le (n d : Nat) : wbase n d ≤ 1048576 := by
  unfold wbase
  split <;> exact Nat.div_le_self _ _
theorem share_le {n d : Nat} (hd : 1 ≤ d) : 262144 * rootN n / (d * n) ≤ 262144 := by
  have h : rootN n ≤ d * n := Nat.le_trans (rootN_le n) (Nat.le_mul_of_pos_left n hd)
  rcases Nat.eq_zero_or_pos (d * n) with h0 | h0
  · rw [h0]; simp
  · refine Nat.div_le_of_le_mul ?_
    rw [Nat.mul_comm (d * n)]
    exact Nat.mul_le_mul_left _ h
theorem spike_le (n : Nat) : 524288 * rootN n / n ≤ 524288 := by
  have h := rootN_le n
  rcases Nat.eq_zero_or_pos n with h0 | h0
  · rw [h0]; simp
  · refine Nat.div_le_of_le_mul ?_
    rw [Nat.mul_comm n]
    exact Nat.mul_le_mul_left _ h
theorem wgt_le {n d : Nat} (hd : 1 ≤ d) : wgt n d ≤ 2097152 := by
  have h1 := wbase_le n d
  have h2 := share_le (n := n) hd
  have h3 := spike_le n
  unfold wgt
  split
  · omega
  · split <;> omega

/-- The sum of the first k weights. -/
def sumTo (n : Nat) : Nat → Nat
  | 0 => 0
  | k + 1 => sumTo n k + wgt n (k + 1)
theorem sumTo_le (n k : Nat) : sumTo n k ≤ k * 2097152 := by
  induction k with
  | zero => simp [sumTo]
  | succ k ih => have := wgt_le (n := n) (d := k + 1) (by omega); rw [sumTo]; omega
theorem sumTo_mono (n : Nat) {a b : Nat} (h : a ≤ b) : sumTo n a ≤ sumTo n b := by
  induction b with
  | zero => obtain rfl : a = 0 := by omega
            exact Nat.le_refl _
  | succ b ih =>
    by_cases hb : a ≤ b
    · exact Nat.le_trans (ih hb) (by rw [sumTo]; omega)
    · obtain rfl : a = b + 1 := by omega
      exact Nat.le_refl _

def wgts (n k : Nat) : List Nat := (List.range k).map fun i => wgt n (i + 1)
def sums (n k : Nat) : List Nat := (List.range k).map fun i => sumTo n (i + 1)
theorem wgts_succ (n k : Nat) : wgts n (k + 1) = wgts n k ++ [wgt n (k + 1)] := by simp [wgts, List.range_succ]
theorem sums_succ (n k : Nat) : sums n (k + 1) = sums n k ++ [sumTo n (k + 1)] := by simp [sums, List.range_succ]
theorem wgts_len (n k : Nat) : (wgts n k).length = k := by simp [wgts]
theorem sums_len (n k : Nat) : (sums n k).length = k := by simp [sums]
theorem wgts_at (n : Nat) {k i : Nat} (hi : i < k) : (wgts n k).getD i 0 = wgt n (i + 1) := by simp [wgts, List.getD, hi]
theorem sums_at (n : Nat) {k i : Nat} (hi : i < k) : (sums n k).getD i 0 = sumTo n (i + 1) := by simp [sums, List.getD, hi]

/-- What chance points at. -/
def aim (n : Nat) (x : UInt32) : Nat := x.toNat * sumTo n n / 4294967296
def degree (n : Nat) (x : UInt32) : Nat := 1 + cnt (fun i => !decide (aim n x < sumTo n (i + 1))) n
theorem cnt_le (f : Nat → Bool) (n : Nat) : cnt f n ≤ n := by unfold cnt; exact Nat.le_trans List.countP_le_length (by simp)
theorem degree_le (n : Nat) (x : UInt32) : degree n x ≤ n + 1 := by
  have := cnt_le (fun i => !decide (aim n x < sumTo n (i + 1))) n
  unfold degree; omega

end Go.Proofs.Ytghgmchgbhdldaa
