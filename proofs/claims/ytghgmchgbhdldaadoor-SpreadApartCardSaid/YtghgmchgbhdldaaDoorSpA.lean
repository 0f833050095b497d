/-
  SpA: what the reference says of rows: bits as truths, their bytes; numbers by chance, marked. No program here.
-/
import Derived.Test.YtghgmchgbhdldaaDoorSpM
set_option linter.unusedVariables false
set_option linter.unusedSimpArgs false
namespace Go.Proofs.YtghgmchgbhdldaaDoor
open Go.RowKit

def bl (n X : Nat) : List Bool := (List.range n).map X.testBit
theorem bl_len (n X : Nat) : (bl n X).length = n := by simp [bl]
theorem bl_at (n X : Nat) {i : Nat} (hi : i < n) : (bl n X).getD i false = X.testBit i := by simp [bl, List.getD, hi]
theorem bl_zero (n : Nat) : bl n 0 = List.replicate n false := by
  apply List.ext_getElem
  · simp [bl]
  · intro i h1 h2; simp [bl]
theorem bl_set (n X : Nat) {i : Nat} (hi : i < n) : (bl n X).set i true = bl n (putB X i true) := by
  apply List.ext_getElem
  · simp [bl]
  · intro j h1 h2
    rw [List.getElem_set]
    simp only [bl, List.getElem_map, List.getElem_range, testBit_put]

/-- The bytes of a row. -/
def bytesB (n X : Nat) : List UInt8 := (List.range ((n + 7) / 8)).map fun j => UInt8.ofNat (X / 2 ^ (8 * j))
theorem bytesB_len (n X : Nat) : (bytesB n X).length = (n + 7) / 8 := by simp [bytesB]
theorem byte_eq {a b : UInt8} (h : ∀ t, t < 8 → a.toNat.testBit t = b.toNat.testBit t) : a = b := by
  apply UInt8.toNat_inj.1
  apply Nat.eq_of_testBit_eq
  intro t
  by_cases ht : t < 8
  · exact h t ht
  · have e : ∀ c : UInt8, c.toNat.testBit t = false := fun c => bit_ge (n := 8) (by have := c.toNat_lt; omega) (by omega)
    rw [e, e]
theorem ofNat_bit (x t : Nat) (ht : t < 8) : (UInt8.ofNat x).toNat.testBit t = x.testBit t := by
  rw [UInt8.toNat_ofNat', Nat.testBit_mod_two_pow]
  simp [ht]
theorem bytesB_at (n X : Nat) {j : Nat} (hj : j < (n + 7) / 8) : (bytesB n X)[j]? = some (UInt8.ofNat (X / 2 ^ (8 * j))) := by simp [bytesB, hj]

/-- One bit more. -/
theorem low_succ (X k : Nat) : X % 2 ^ (k + 1) = if X.testBit k then putB (X % 2 ^ k) k true else X % 2 ^ k := by
  apply Nat.eq_of_testBit_eq
  intro j
  by_cases h : X.testBit k = true
  · rw [if_pos h, Nat.testBit_mod_two_pow, testBit_put, Nat.testBit_mod_two_pow]
    by_cases hj : k = j
    · subst hj; simp [h]
    · simp only [hj, if_false]
      congr 1
      simp; omega
  · have h' : X.testBit k = false := by simpa using h
    rw [if_neg h, Nat.testBit_mod_two_pow, Nat.testBit_mod_two_pow]
    by_cases hj : k = j
    · subst hj; simp [h']
    · congr 1
      simp; omega
theorem bytesB_set (n Y : Nat) {k : Nat} (hk : k < n) : (bytesB n Y).set (k / 8) (UInt8.ofNat (Y / 2 ^ (8 * (k / 8))) ||| UInt8.ofNat (2 ^ (k % 8))) = bytesB n (putB Y k true) := by
  apply List.ext_getElem
  · simp [bytesB]
  · intro j h1 h2
    rw [List.getElem_set]
    simp only [bytesB, List.getElem_map, List.getElem_range]
    refine byte_eq fun t ht => ?_
    rw [ofNat_bit _ _ ht, Nat.testBit_div_two_pow, testBit_put]
    split
    · next h =>
      subst h
      rw [UInt8.toNat_or, Nat.testBit_or, ofNat_bit _ _ ht, ofNat_bit _ _ ht, Nat.testBit_div_two_pow, Nat.testBit_two_pow]
      by_cases hj : k = t + 8 * (k / 8)
      · rw [if_pos hj]
        have : k % 8 = t := by omega
        simp [this]
      · rw [if_neg hj]
        have : ¬ k % 8 = t := by omega
        simp [this]
    · next h =>
      rw [ofNat_bit _ _ ht, Nat.testBit_div_two_pow]
      have : ¬ k = t + 8 * j := by omega
      rw [if_neg this]

/-- What is left of a place by later places. -/
theorem swap_low {l : List Nat} {i j t : Nat} (ht : t < i) (hij : i ≤ j) : (swapAt l i j).getD t 0 = l.getD t 0 := by
  unfold swapAt
  rw [List.getD_eq_getElem?_getD, List.getElem?_set_ne (by omega), List.getElem?_set_ne (by omega), List.getD_eq_getElem?_getD]
theorem someLoop_low (n : Nat) : ∀ (m i : Nat) (s : UInt32) (l : List Nat) (t : Nat), t < i → (someLoop n m i s l).getD t 0 = l.getD t 0
  | 0, i, s, l, t, h => rfl
  | m + 1, i, s, l, t, h => by
    show (someLoop n m (i + 1) (rstep s) (swapAt l i (i + rlow s (n - i)))).getD t 0 = _
    rw [someLoop_low n m (i + 1) _ _ t (by omega), swap_low h (by omega)]
theorem someLoop_here (n m i : Nat) (s : UInt32) (l : List Nat) : (someLoop n (m + 1) i s l).getD i 0 = (swapAt l i (i + rlow s (n - i))).getD i 0 := by
  show (someLoop n m (i + 1) (rstep s) (swapAt l i (i + rlow s (n - i)))).getD i 0 = _
  exact someLoop_low n m (i + 1) _ _ i (by omega)

/-- Which are among the first k. -/
def marks (n : Nat) (F : List Nat) (k : Nat) : List Bool := (List.range n).map fun x => decide (x ∈ F.take k)
theorem marks_len (n : Nat) (F : List Nat) (k : Nat) : (marks n F k).length = n := by simp [marks]
theorem marks_zero (n : Nat) (F : List Nat) : marks n F 0 = List.replicate n false := by
  apply List.ext_getElem
  · simp [marks]
  · intro i h1 h2; simp [marks]
theorem marks_succ (n : Nat) (F : List Nat) {k : Nat} (hk : k < F.length) : (marks n F k).set (F.getD k 0) true = marks n F (k + 1) := by
  apply List.ext_getElem
  · simp [marks]
  · intro j h1 h2
    rw [List.getElem_set]
    have e : F.getD k 0 = F[k] := by rw [List.getD_eq_getElem?_getD, List.getElem?_eq_getElem hk]; rfl
    simp only [marks, List.getElem_map, List.getElem_range, List.take_add_one, List.getElem?_eq_getElem hk, Option.toList_some, List.mem_append, List.mem_singleton, e]
    split
    · next h => simp [h]
    · next h =>
      have : ¬ j = F[k] := fun e => h e.symm
      simp [this]
theorem marks_at (n : Nat) (F : List Nat) (k : Nat) {i : Nat} (hi : i < n) : (marks n F k).getD i false = decide (i ∈ F.take k) := by simp [marks, List.getD, hi]

/-- The places that are marked below i. -/
def marked (F : List Nat) (k i : Nat) : List Nat := (List.range i).filter fun x => decide (x ∈ F.take k)
theorem marked_succ (F : List Nat) (k i : Nat) : marked F k (i + 1) = marked F k i ++ (if i ∈ F.take k then [i] else []) := by
  unfold marked
  rw [List.range_succ, List.filter_append]
  congr 1
  by_cases h : i ∈ F.take k <;> simp [h]
theorem marked_all {n k : Nat} {F : List Nat} (hp : List.Perm F (List.range n)) : marked F k n = (F.take k).mergeSort := by
  have hnd : F.Nodup := hp.nodup_iff.2 List.nodup_range
  have hb : ∀ x ∈ F.take k, x < n := fun x hx => List.mem_range.1 (hp.mem_iff.1 (List.mem_of_mem_take hx))
  have h1 : (marked F k n).Pairwise (· < ·) := List.Pairwise.filter _ List.pairwise_lt_range
  have h2 := (sorted_rising (hnd.sublist (List.take_sublist k F)) hb).1
  refine List.Perm.eq_of_pairwise (le := (· < ·)) (fun a b _ _ h1 h2 => by omega) h1 h2 ?_
  rw [List.perm_ext_iff_of_nodup (h1.imp (fun {a b} h => by omega)) (h2.imp (fun {a b} h => by omega))]
  intro x
  rw [(List.mergeSort_perm _ _).mem_iff]
  unfold marked
  rw [List.mem_filter, List.mem_range, decide_eq_true_eq]
  exact ⟨fun h => h.2, fun h => ⟨hb x h, h⟩⟩

/-- Chance points at one of the sums. -/
theorem wbase_pos {n d : Nat} (h1 : 1 ≤ n) (h2 : n ≤ 80) (hd : d ≤ n) : 1 ≤ wbase n d := by
  unfold wbase
  split
  · next h =>
    have : d * (d - 1) ≤ 6400 := Nat.mul_le_mul (show d ≤ 80 by omega) (show d - 1 ≤ 80 by omega)
    have : 0 < d * (d - 1) := Nat.mul_pos (by omega) (by omega)
    rw [Nat.le_div_iff_mul_le (by omega)]; omega
  · rw [Nat.le_div_iff_mul_le (by omega)]; omega
theorem wgt_pos {n d : Nat} (h1 : 1 ≤ n) (h2 : n ≤ 80) (hd : d ≤ n) : 1 ≤ wgt n d := by
  have := wbase_pos h1 h2 hd
  unfold wgt
  split
  · exact Nat.le_trans this (Nat.le_add_right _ _)
  · split
    · exact Nat.le_trans this (Nat.le_add_right _ _)
    · exact this
theorem sumTo_pos {n : Nat} (h1 : 1 ≤ n) (h2 : n ≤ 80) : 1 ≤ sumTo n n := by
  obtain ⟨m, rfl⟩ : ∃ m, n = m + 1 := ⟨n - 1, by omega⟩
  have := wgt_pos (d := m + 1) h1 h2 (Nat.le_refl _)
  rw [sumTo]; omega
theorem aim_lt {n : Nat} (h1 : 1 ≤ n) (h2 : n ≤ 80) (x : UInt32) : aim n x < sumTo n n := by
  have hp := sumTo_pos h1 h2
  have hx := x.toNat_lt
  unfold aim
  rw [Nat.div_lt_iff_lt_mul (by omega), Nat.mul_comm]
  exact Nat.mul_lt_mul_of_pos_left (by omega) hp
theorem cnt_first {p : Nat → Bool} {n m : Nat} (hm : m < n) (h1 : ∀ t, t < m → p t = true) (h2 : ∀ t, m ≤ t → t < n → p t = false) : cnt p n = m := by
  have hf : cnt p m = m := by
    clear hm h2
    induction m with
    | zero => rfl
    | succ m ih => rw [cnt_succ, ih (fun i hi => h1 i (by omega)), h1 m (by omega)]; simp
  rw [show n = m + (n - m) from by omega, cnt_add, hf, cnt_none (n := n - m) (fun i hi => h2 (m + i) (by omega) (by omega)), Nat.add_zero]
/-- The first sum beyond what chance points at. -/
theorem degree_at {n i : Nat} {x : UInt32} (hi : i < n) (h1 : ∀ t, t < i → ¬ aim n x < sumTo n (t + 1)) (h2 : aim n x < sumTo n (i + 1)) : degree n x = i + 1 := by
  unfold degree
  rw [cnt_first (m := i) hi (fun t ht => by simpa using h1 t ht) (fun t ht htn => ?_), Nat.add_comm]
  have := sumTo_mono n (show i + 1 ≤ t + 1 by omega)
  simp; omega

end Go.Proofs.YtghgmchgbhdldaaDoor
