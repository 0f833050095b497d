/-
  GrPopT: the texts PopT, TzT, VecM, SolM, SpM, BkM, BkL, one behind another.
-/
import Derived.Test.YtijhaeapoapgfaaGreatDoorGrBase
set_option linter.unusedVariables false
set_option linter.unusedSimpArgs false
namespace Go.Proofs.YtijhaeapoapgfaaGreatDoor
open Go.RowKit

end Go.Proofs.YtijhaeapoapgfaaGreatDoor

set_option linter.unusedVariables false
set_option linter.unusedSimpArgs false
namespace Go.Proofs.YtijhaeapoapgfaaGreatDoor
open Go.RowKit

theorem odd_part : ∀ (n x : Nat), x < 2 ^ n → x ≠ 0 → ∃ k m, k < n ∧ x = 2 ^ k * (2 * m + 1)
  | 0, x, h, h0 => by simp at h; omega
  | n + 1, x, h, h0 => by
    by_cases ho : x % 2 = 1
    · exact ⟨0, x / 2, by omega, by simp; omega⟩
    · obtain ⟨k, m, hk, he⟩ := odd_part n (x / 2) (by rw [Nat.pow_succ] at h; omega) (by omega)
      refine ⟨k + 1, m, by omega, ?_⟩
      rw [Nat.pow_succ, Nat.mul_right_comm, ← he]
      omega

theorem low_and {k m : Nat} (hx : 2 ^ k * (2 * m + 1) < 18446744073709551616) : 2 ^ k * (2 * m + 1) &&& (18446744073709551616 - 2 ^ k * (2 * m + 1)) = 2 ^ k := by
  have hp : 0 < 2 ^ k := Nat.two_pow_pos k
  have hx1 : 2 ^ k * (2 * m + 1) - 1 < 2 ^ 64 := by
    have : (2 : Nat) ^ 64 = 18446744073709551616 := by decide
    omega
  have hm1 : 2 ^ k * (2 * m + 1) - 1 = 2 ^ k * (2 * m) + (2 ^ k - 1) := by rw [Nat.mul_add]; omega
  have hneg : 18446744073709551616 - 2 ^ k * (2 * m + 1) = 2 ^ 64 - ((2 ^ k * (2 * m + 1) - 1) + 1) := by
    have : (2 : Nat) ^ 64 = 18446744073709551616 := by decide
    have h1 : 1 ≤ 2 ^ k * (2 * m + 1) := Nat.mul_pos hp (by omega)
    omega
  rw [hneg]
  apply Nat.eq_of_testBit_eq
  intro i
  rw [Nat.testBit_and, Nat.testBit_two_pow_sub_succ hx1, hm1]
  have e1 : (2 ^ k * (2 * m + 1)).testBit i = if i < k then false else (2 * m + 1).testBit (i - k) := by
    have := Nat.testBit_two_pow_mul_add (2 * m + 1) hp i
    rw [Nat.add_zero] at this
    rw [this]
    simp
  rw [e1, Nat.testBit_two_pow_mul_add (2 * m) (show 2 ^ k - 1 < 2 ^ k by omega)]
  rw [Nat.testBit_two_pow]
  by_cases hik : i < k
  · rw [if_pos hik, Bool.false_and]
    simp; omega
  · rw [if_neg hik, if_neg hik]
    by_cases he : k = i
    · subst he
      rw [Nat.sub_self]
      have hk64 : k < 64 := by
        cases Nat.lt_or_ge k 64 with
        | inl h => exact h
        | inr h =>
          exfalso
          have h1 : (2 : Nat) ^ 64 ≤ 2 ^ k := Nat.pow_le_pow_right (by omega) h
          have h2 : 2 ^ k ≤ 2 ^ k * (2 * m + 1) := Nat.le_mul_of_pos_right _ (by omega)
          have : (2 : Nat) ^ 64 = 18446744073709551616 := by decide
          omega
      simp [hk64, Nat.testBit_zero]
    · obtain ⟨j, hj⟩ : ∃ j, i - k = j + 1 := ⟨i - k - 1, by omega⟩
      rw [hj, Nat.testBit_succ, Nat.testBit_succ, show (2 * m + 1) / 2 = m from by omega, show 2 * m / 2 = m from by omega]
      cases m.testBit j <;> simp [he]

theorem low_bit {x : Nat} (hx : x < 18446744073709551616) (h0 : x ≠ 0) : ∃ k m, k < 64 ∧ x = 2 ^ k * (2 * m + 1) ∧ x &&& (18446744073709551616 - x) = 2 ^ k := by
  obtain ⟨k, m, hk, rfl⟩ := odd_part 64 x (by have : (2 : Nat) ^ 64 = 18446744073709551616 := by decide
                                              omega) h0
  exact ⟨k, m, hk, rfl, low_and hx⟩

/-- The library's table. -/
def tzTab : List Nat := [0, 1, 56, 2, 57, 49, 28, 3, 61, 58, 42, 50, 38, 29, 17, 4, 62, 47, 59, 36, 45, 43, 51, 22, 53, 39, 33, 30, 24, 18, 12, 5, 63, 55, 48, 27, 60, 41, 37, 16, 46, 35, 44, 21, 52, 32, 23, 11, 54, 26, 40, 15, 34, 20, 31, 10, 25, 14, 19, 9, 13, 8, 7, 6]

theorem tzTab_at : ∀ k : Fin 64, tzTab.getD (2 ^ k.val * 285870213051353865 % 18446744073709551616 / 288230376151711744) 0 = k.val := by decide +kernel

end Go.Proofs.YtijhaeapoapgfaaGreatDoor

set_option linter.unusedVariables false
set_option linter.unusedSimpArgs false
namespace Go.Proofs.YtijhaeapoapgfaaGreatDoor
open Go.RowKit

theorem two64 : (2 : Nat) ^ 64 = 18446744073709551616 := by decide

/-- The k-th word. -/
def word (X k : Nat) : Nat := X / 2 ^ (64 * k) % 18446744073709551616

theorem word_lt (X k : Nat) : word X k < 18446744073709551616 := Nat.mod_lt _ (by omega)

theorem word_testBit (X k j : Nat) : (word X k).testBit j = (decide (j < 64) && X.testBit (64 * k + j)) := by
  unfold word
  rw [← two64, Nat.testBit_mod_two_pow, Nat.testBit_div_two_pow, Nat.add_comm]

/-- How many words. -/
def nw (n : Nat) : Nat := (n + 63) / 64
def words (n X : Nat) : List Nat := (List.range (nw n)).map (word X)

theorem words_len (n X : Nat) : (words n X).length = nw n := by simp [words]
theorem words_at (n X : Nat) {k : Nat} (hk : k < nw n) : (words n X).getD k 0 = word X k := by
  simp [words, List.getD, hk]
theorem words_ext {n : Nat} {l : List Nat} {X : Nat} (hl : l.length = nw n) (h : ∀ k, k < nw n → l.getD k 0 = word X k) : l = words n X := by
  apply List.ext_getElem
  · rw [hl, words_len]
  · intro i h1 h2
    have := h i (by omega)
    rw [List.getD_eq_getElem?_getD, List.getElem?_eq_getElem h1, Option.getD_some] at this
    rw [this]
    simp [words]

theorem words_zero (n : Nat) : words n 0 = List.replicate (nw n) 0 := by
  symm
  refine words_ext (by simp) (fun k hk => ?_)
  simp [word, List.getD, hk]

def clrB (X i : Nat) : Nat := X ^^^ (X &&& 2 ^ i)
def orB (X i : Nat) : Nat := X ||| 2 ^ i
def putB (X i : Nat) (on : Bool) : Nat := if on then orB (clrB X i) i else clrB X i

theorem testBit_clr (X i j : Nat) : (clrB X i).testBit j = (X.testBit j && !decide (i = j)) := by
  unfold clrB
  rw [Nat.testBit_xor, Nat.testBit_and, Nat.testBit_two_pow]
  cases X.testBit j <;> cases decide (i = j) <;> rfl
theorem testBit_orB (X i j : Nat) : (orB X i).testBit j = (X.testBit j || decide (i = j)) := by
  unfold orB
  rw [Nat.testBit_or, Nat.testBit_two_pow]
theorem testBit_put (X i j : Nat) (on : Bool) : (putB X i on).testBit j = if i = j then on else X.testBit j := by
  unfold putB
  cases on
  · simp only [Bool.false_eq_true, if_false]
    rw [testBit_clr]
    by_cases h : i = j <;> simp [h]
  · simp only [if_true]
    rw [testBit_orB, testBit_clr]
    by_cases h : i = j <;> simp [h]

theorem lt_of_bits {X n : Nat} (h : ∀ j, n ≤ j → X.testBit j = false) : X < 2 ^ n := Nat.lt_pow_two_of_testBit X h
theorem bit_ge {X n j : Nat} (hX : X < 2 ^ n) (hj : n ≤ j) : X.testBit j = false :=
  Nat.testBit_lt_two_pow (Nat.lt_of_lt_of_le hX (Nat.pow_le_pow_right (by omega) hj))

theorem clr_lt {X n i : Nat} (hX : X < 2 ^ n) : clrB X i < 2 ^ n := lt_of_bits fun j hj => by rw [testBit_clr, bit_ge hX hj]; rfl
theorem orB_lt {X n i : Nat} (hX : X < 2 ^ n) (hi : i < n) : orB X i < 2 ^ n := lt_of_bits fun j hj => by rw [testBit_orB, bit_ge hX hj]; simp; omega
theorem put_lt {X n i : Nat} {on : Bool} (hX : X < 2 ^ n) (hi : i < n) : putB X i on < 2 ^ n := by
  unfold putB; split
  · exact orB_lt (clr_lt hX) hi
  · exact clr_lt hX
theorem xor_lt {X Y n : Nat} (hX : X < 2 ^ n) (hY : Y < 2 ^ n) : X ^^^ Y < 2 ^ n := Nat.xor_lt_two_pow hX hY

theorem not_bit (a j : Nat) (ha : a < 64) : (18446744073709551615 - 2 ^ a).testBit j = (decide (j < 64) && !decide (a = j)) := by
  have h : 2 ^ a < 2 ^ 64 := Nat.pow_lt_pow_right (by omega) ha
  have := Nat.testBit_two_pow_sub_succ h j
  rw [show 18446744073709551615 - 2 ^ a = 2 ^ 64 - (2 ^ a + 1) from by rw [two64]; omega, this, Nat.testBit_two_pow]

theorem word_clr_same (X i : Nat) : word (clrB X i) (i / 64) = word X (i / 64) &&& (18446744073709551615 - 2 ^ (i % 64)) := by
  apply Nat.eq_of_testBit_eq
  intro j
  rw [Nat.testBit_and, not_bit _ _ (Nat.mod_lt _ (by omega)), word_testBit, word_testBit, testBit_clr]
  by_cases hj : j < 64
  · have e : decide (i = 64 * (i / 64) + j) = decide (i % 64 = j) := by congr 1; simp; omega
    rw [e]
    cases X.testBit (64 * (i / 64) + j) <;> cases decide (i % 64 = j) <;> simp [hj]
  · simp [hj]
theorem word_clr_other (X i k : Nat) (hk : k ≠ i / 64) : word (clrB X i) k = word X k := by
  apply Nat.eq_of_testBit_eq
  intro j
  rw [word_testBit, word_testBit, testBit_clr]
  by_cases hj : j < 64
  · have e : decide (i = 64 * k + j) = false := by simp; omega
    rw [e]
    simp
  · simp [hj]
theorem word_or_same (X i : Nat) : word (orB X i) (i / 64) = word X (i / 64) ||| 2 ^ (i % 64) := by
  apply Nat.eq_of_testBit_eq
  intro j
  rw [Nat.testBit_or, Nat.testBit_two_pow, word_testBit, word_testBit, testBit_orB]
  by_cases hj : j < 64
  · have e : decide (i = 64 * (i / 64) + j) = decide (i % 64 = j) := by congr 1; simp; omega
    rw [e]
    simp [hj]
  · have : ¬ i % 64 = j := by omega
    simp [hj, this]
theorem word_or_other (X i k : Nat) (hk : k ≠ i / 64) : word (orB X i) k = word X k := by
  apply Nat.eq_of_testBit_eq
  intro j
  rw [word_testBit, word_testBit, testBit_orB]
  by_cases hj : j < 64
  · have e : decide (i = 64 * k + j) = false := by simp; omega
    rw [e]
    simp
  · simp [hj]
theorem word_xor (X Y k : Nat) : word (X ^^^ Y) k = word X k ^^^ word Y k := by
  apply Nat.eq_of_testBit_eq
  intro j
  rw [Nat.testBit_xor, word_testBit, word_testBit, word_testBit, Nat.testBit_xor]
  cases decide (j < 64) <;> simp

theorem getD_set (l : List Nat) (i j v : Nat) (hi : i < l.length) : (l.set i v).getD j 0 = if j = i then v else l.getD j 0 := by
  rw [List.getD_eq_getElem?_getD, List.getElem?_set]
  by_cases h : j = i
  · subst h; simp [hi]
  · have : ¬ i = j := fun e => h e.symm
    simp [this, h, List.getD_eq_getElem?_getD]

theorem words_clr {n X i : Nat} (hi : i < n) : (words n X).set (i / 64) (word X (i / 64) &&& (18446744073709551615 - 2 ^ (i % 64))) = words n (clrB X i) := by
  have hq : i / 64 < nw n := by unfold nw; omega
  refine words_ext (by rw [List.length_set, words_len]) (fun k hk => ?_)
  rw [getD_set _ _ _ _ (by rw [words_len]; exact hq)]
  split
  · next h => subst h; rw [word_clr_same]
  · next h => rw [words_at _ _ hk, word_clr_other _ _ _ h]
theorem words_or {n X i : Nat} (hi : i < n) : (words n X).set (i / 64) (word X (i / 64) ||| 2 ^ (i % 64)) = words n (orB X i) := by
  have hq : i / 64 < nw n := by unfold nw; omega
  refine words_ext (by rw [List.length_set, words_len]) (fun k hk => ?_)
  rw [getD_set _ _ _ _ (by rw [words_len]; exact hq)]
  split
  · next h => subst h; rw [word_or_same]
  · next h => rw [words_at _ _ hk, word_or_other _ _ _ h]

/-- Is a bit set? -/
theorem word_has (X i : Nat) : ((word X (i / 64) / 2 ^ (i % 64)) &&& 1 = 1) ↔ X.testBit i = true := by
  have h := word_testBit X (i / 64) (i % 64)
  have h1 : i % 64 < 64 := Nat.mod_lt _ (by omega)
  rw [show 64 * (i / 64) + i % 64 = i from by omega] at h
  simp only [h1, decide_true, Bool.true_and] at h
  rw [← h, Nat.and_one_is_mod, Nat.testBit_eq_decide_div_mod_eq]
  simp

/-! How many. -/
def cnt (f : Nat → Bool) (n : Nat) : Nat := (List.range n).countP f
theorem cnt_succ (f : Nat → Bool) (n : Nat) : cnt f (n + 1) = cnt f n + (if f n then 1 else 0) := by
  unfold cnt
  rw [List.range_succ, List.countP_append]
  simp [List.countP_cons]
theorem cnt_add (f : Nat → Bool) (a b : Nat) : cnt f (a + b) = cnt f a + cnt (fun i => f (a + i)) b := by
  induction b with
  | zero => rfl
  | succ b ih => rw [← Nat.add_assoc, cnt_succ, cnt_succ, ih]; omega
theorem cnt_none {f : Nat → Bool} {n : Nat} (h : ∀ i, i < n → f i = false) : cnt f n = 0 := by
  induction n with
  | zero => rfl
  | succ n ih => rw [cnt_succ, ih (fun i hi => h i (by omega)), h n (by omega)]; rfl

/-- The bits that are set. -/
def bitsOf (n X : Nat) : List Nat := (List.range n).filter X.testBit
theorem bitsOf_succ (n X : Nat) : bitsOf (n + 1) X = bitsOf n X ++ (if X.testBit n then [n] else []) := by
  unfold bitsOf
  rw [List.range_succ, List.filter_append]
  congr 1
  by_cases h : X.testBit n <;> simp [h]

/-- The lowest bit that is set; -1: there is none. -/
def firstB (n X : Nat) : Int := match bitsOf n X with
  | [] => -1
  | a :: _ => a

theorem bitsOf_first : ∀ {n X r : Nat}, r < n → X.testBit r = true → (∀ j, j < r → X.testBit j = false) → ∃ t, bitsOf n X = r :: t
  | 0, X, r, h, _, _ => by omega
  | n + 1, X, r, h, h1, h2 => by
    rw [bitsOf_succ]
    by_cases hr : r = n
    · subst hr
      have : bitsOf r X = [] := by
        unfold bitsOf
        rw [List.filter_eq_nil_iff]
        intro a ha
        rw [h2 a (List.mem_range.1 ha)]
        simp
      exact ⟨[], by rw [this, h1]; rfl⟩
    · obtain ⟨t, ht⟩ := bitsOf_first (n := n) (by omega) h1 h2
      exact ⟨t ++ (if X.testBit n then [n] else []), by rw [ht]; rfl⟩
theorem firstB_at {n X r : Nat} (hr : r < n) (h1 : X.testBit r = true) (h2 : ∀ j, j < r → X.testBit j = false) : firstB n X = r := by
  obtain ⟨t, ht⟩ := bitsOf_first hr h1 h2
  unfold firstB; rw [ht]
theorem firstB_none {n X : Nat} (h : ∀ j, j < n → X.testBit j = false) : firstB n X = -1 := by
  have : bitsOf n X = [] := by
    unfold bitsOf
    rw [List.filter_eq_nil_iff]
    intro a ha
    rw [h a (List.mem_range.1 ha)]
    simp
  unfold firstB; rw [this]

/-- A word that is not zero: its lowest bit. -/
theorem word_low {x : Nat} (hx : x < 18446744073709551616) (h0 : x ≠ 0) : ∃ k, k < 64 ∧ x &&& (18446744073709551616 - x) = 2 ^ k ∧ x.testBit k = true ∧ ∀ j, j < k → x.testBit j = false := by
  obtain ⟨k, m, hk, rfl, he⟩ := low_bit hx h0
  have e1 : ∀ i, (2 ^ k * (2 * m + 1)).testBit i = if i < k then false else (2 * m + 1).testBit (i - k) := fun i => by
    have := Nat.testBit_two_pow_mul_add (2 * m + 1) (Nat.two_pow_pos k) i
    rw [Nat.add_zero] at this
    rw [this]
    simp
  refine ⟨k, hk, he, ?_, fun j hj => ?_⟩
  · rw [e1, if_neg (by omega), Nat.sub_self, Nat.testBit_zero]; simp
  · rw [e1, if_pos hj]

theorem first_word {n X k t : Nat} (hX : X < 2 ^ n) (hz : ∀ j, j < k → word X j = 0) (ht : t < 64) (h1 : (word X k).testBit t = true) (h2 : ∀ j, j < t → (word X k).testBit j = false) : firstB n X = ((64 * k + t : Nat) : Int) := by
  have hb : X.testBit (64 * k + t) = true := by rw [word_testBit] at h1; simpa [ht] using h1
  refine firstB_at ?_ hb (fun j hj => ?_)
  · rcases Nat.lt_or_ge (64 * k + t) n with h | h
    · exact h
    · rw [bit_ge hX h] at hb; cases hb
  · by_cases hk : j / 64 < k
    · have h3 := congrArg (fun x => x.testBit (j % 64)) (hz _ hk)
      have h4 : j % 64 < 64 := Nat.mod_lt _ (by omega)
      simp only [word_testBit, Nat.zero_testBit] at h3
      rw [show 64 * (j / 64) + j % 64 = j from by omega] at h3
      simpa [h4] using h3
    · have h3 := h2 (j - 64 * k) (by omega)
      rw [word_testBit, show 64 * k + (j - 64 * k) = j from by omega] at h3
      have : j - 64 * k < 64 := by omega
      simpa [this] using h3
theorem first_none {n X : Nat} (hz : ∀ j, j < nw n → word X j = 0) : firstB n X = -1 := by
  refine firstB_none (fun j hj => ?_)
  have h3 := congrArg (fun x => x.testBit (j % 64)) (hz (j / 64) (by unfold nw; omega))
  have h4 : j % 64 < 64 := Nat.mod_lt _ (by omega)
  simp only [word_testBit, Nat.zero_testBit] at h3
  rw [show 64 * (j / 64) + j % 64 = j from by omega] at h3
  simpa [h4] using h3

/-- A row with the bits of a list. -/
def putL (n X : Nat) (l : List Nat) : Nat := l.foldl (fun X i => if i < n then putB X i true else X) X

theorem testBit_putL (n : Nat) : ∀ (l : List Nat) (X j : Nat), (putL n X l).testBit j = (X.testBit j || decide (j < n ∧ j ∈ l))
  | [], X, j => by simp [putL]
  | i :: l, X, j => by
    show (putL n (if i < n then putB X i true else X) l).testBit j = _
    rw [testBit_putL n l]
    by_cases hi : i < n
    · rw [if_pos hi, testBit_put]
      by_cases hj : i = j
      · subst hj; simp [hi]
      · have : ¬ j = i := fun e => hj e.symm
        simp [hj, this]
    · rw [if_neg hi]
      have : j < n → ¬ j = i := by omega
      cases X.testBit j
      · simp only [Bool.false_or]
        congr 1
        simp only [List.mem_cons, eq_iff_iff]
        constructor
        · rintro ⟨h1, h2⟩; exact ⟨h1, .inr h2⟩
        · rintro ⟨h1, h2 | h2⟩
          · exact absurd h2 (this h1)
          · exact ⟨h1, h2⟩
      · simp

theorem putL_lt {n X : Nat} (hX : X < 2 ^ n) (l : List Nat) : putL n X l < 2 ^ n := lt_of_bits fun j hj => by
  rw [testBit_putL, bit_ge hX hj]; simp; omega

/-- A rising list of places is the list of its row. -/
theorem bitsOf_putL {n : Nat} {l : List Nat} (hl : l.Pairwise (· < ·)) (hb : ∀ x ∈ l, x < n) : bitsOf n (putL n 0 l) = l := by
  have h1 : (bitsOf n (putL n 0 l)).Pairwise (· < ·) := List.Pairwise.filter _ List.pairwise_lt_range
  have hm : ∀ x, x ∈ bitsOf n (putL n 0 l) ↔ x ∈ l := by
    intro x
    unfold bitsOf
    rw [List.mem_filter, List.mem_range, testBit_putL]
    simp only [Nat.zero_testBit, Bool.false_or, decide_eq_true_eq]
    constructor
    · rintro ⟨_, _, h⟩; exact h
    · intro h; exact ⟨hb x h, hb x h, h⟩
  refine List.Perm.eq_of_pairwise (le := (· < ·)) (fun a b _ _ h1 h2 => by omega) h1 hl ?_
  rw [List.perm_ext_iff_of_nodup (h1.imp (fun {a b} h => by omega)) (hl.imp (fun {a b} h => by omega))]
  exact hm

end Go.Proofs.YtijhaeapoapgfaaGreatDoor

set_option linter.unusedVariables false
set_option linter.unusedSimpArgs false
namespace Go.Proofs.YtijhaeapoapgfaaGreatDoor
open Go.RowKit

def rootF (n : Nat) : Nat → Nat
  | 0 => 0
  | k + 1 => if (k + 1) * (k + 1) ≤ n then k + 1 else rootF n k
def rootN (n : Nat) : Nat := rootF n n

theorem rootF_sq (n : Nat) : ∀ k, rootF n k * rootF n k ≤ n
  | 0 => by simp [rootF]
  | k + 1 => by
    unfold rootF
    split
    · assumption
    · exact rootF_sq n k
theorem rootF_top (n : Nat) : ∀ k m, rootF n k < m → m ≤ k → n < m * m
  | 0, m, h, h2 => by simp [rootF] at h; omega
  | k + 1, m, h, h2 => by
    unfold rootF at h
    split at h
    · omega
    · next h3 =>
      by_cases hm : m = k + 1
      · subst hm; omega
      · exact rootF_top n k m h (by omega)
theorem rootN_sq (n : Nat) : rootN n * rootN n ≤ n := rootF_sq n n
theorem rootN_top {n m : Nat} (h : rootN n < m) : n < m * m := by
  by_cases hm : m ≤ n
  · exact rootF_top n n m h hm
  · exact Nat.lt_of_lt_of_le (by omega) (Nat.le_mul_of_pos_right m (by omega))
theorem rootN_uniq {n r : Nat} (h1 : r * r ≤ n) (h2 : n < (r + 1) * (r + 1)) : rootN n = r := by
  have a := rootN_sq n
  have c1 : ¬ rootN n < r := fun h => by have := rootN_top h; omega
  have c2 : ¬ r < rootN n := fun h => by
    have : (r + 1) * (r + 1) ≤ rootN n * rootN n := Nat.mul_le_mul h h
    omega
  omega
theorem rootN_pos {n : Nat} (h : 1 ≤ n) : 1 ≤ rootN n := by
  rcases Nat.eq_zero_or_pos (rootN n) with h0 | h0
  · have := rootN_top (n := n) (m := 1) (by omega); omega
  · exact h0
theorem rootN_le (n : Nat) : rootN n ≤ n := by
  have := rootN_sq n
  rcases Nat.eq_zero_or_pos (rootN n) with h0 | h0
  · omega
  · exact Nat.le_trans (Nat.le_mul_of_pos_right _ h0) this

def wbase (n d : Nat) : Nat := if 1 < d then 1048576 / (d * (d - 1)) else 1048576 / n
/-- How likely a number is. -/
def wgt (n d : Nat) : Nat := if d < n / rootN n then wbase n d + 262144 * rootN n / (d * n) else if d = n / rootN n then wbase n d + 524288 * rootN n / n else wbase n d

theorem wbase_le (n d : Nat) : wbase n d ≤ 1048576 := by
  unfold wbase
  split <;> exact Nat.div_le_self _ _
theorem share_le {n d : Nat} (hd : 1 ≤ d) : 262144 * rootN n / (d * n) ≤ 262144 := by
  have h : rootN n ≤ d * n := Nat.le_trans (rootN_le n) (Nat.le_mul_of_pos_left n hd)
  rcases Nat.eq_zero_or_pos (d * n) with h0 | h0
  · rw [h0]; simp
  · refine Nat.div_le_of_le_mul ?_
    rw [Nat.mul_comm (d * n)]
    exact Nat.mul_le_mul_left _ h
theorem spike_le (n : Nat) : 524288 * rootN n / n ≤ 524288 := by
  have h := rootN_le n
  rcases Nat.eq_zero_or_pos n with h0 | h0
  · rw [h0]; simp
  · refine Nat.div_le_of_le_mul ?_
    rw [Nat.mul_comm n]
    exact Nat.mul_le_mul_left _ h
theorem wgt_le {n d : Nat} (hd : 1 ≤ d) : wgt n d ≤ 2097152 := by
  have h1 := wbase_le n d
  have h2 := share_le (n := n) hd
  have h3 := spike_le n
  unfold wgt
  split
  · omega
  · split <;> omega

/-- The sum of the first k weights. -/
def sumTo (n : Nat) : Nat → Nat
  | 0 => 0
  | k + 1 => sumTo n k + wgt n (k + 1)
theorem sumTo_le (n k : Nat) : sumTo n k ≤ k * 2097152 := by
  induction k with
  | zero => simp [sumTo]
  | succ k ih => have := wgt_le (n := n) (d := k + 1) (by omega); rw [sumTo]; omega
theorem sumTo_mono (n : Nat) {a b : Nat} (h : a ≤ b) : sumTo n a ≤ sumTo n b := by
  induction b with
  | zero => obtain rfl : a = 0 := by omega
            exact Nat.le_refl _
  | succ b ih =>
    by_cases hb : a ≤ b
    · exact Nat.le_trans (ih hb) (by rw [sumTo]; omega)
    · obtain rfl : a = b + 1 := by omega
      exact Nat.le_refl _

def wgts (n k : Nat) : List Nat := (List.range k).map fun i => wgt n (i + 1)
def sums (n k : Nat) : List Nat := (List.range k).map fun i => sumTo n (i + 1)
theorem wgts_succ (n k : Nat) : wgts n (k + 1) = wgts n k ++ [wgt n (k + 1)] := by simp [wgts, List.range_succ]
theorem sums_succ (n k : Nat) : sums n (k + 1) = sums n k ++ [sumTo n (k + 1)] := by simp [sums, List.range_succ]
theorem wgts_len (n k : Nat) : (wgts n k).length = k := by simp [wgts]
theorem sums_len (n k : Nat) : (sums n k).length = k := by simp [sums]
theorem wgts_at (n : Nat) {k i : Nat} (hi : i < k) : (wgts n k).getD i 0 = wgt n (i + 1) := by simp [wgts, List.getD, hi]
theorem sums_at (n : Nat) {k i : Nat} (hi : i < k) : (sums n k).getD i 0 = sumTo n (i + 1) := by simp [sums, List.getD, hi]

/-- What chance points at. -/
def aim (n : Nat) (x : UInt32) : Nat := x.toNat * sumTo n n / 4294967296
def degree (n : Nat) (x : UInt32) : Nat := 1 + cnt (fun i => !decide (aim n x < sumTo n (i + 1))) n
theorem cnt_le (f : Nat → Bool) (n : Nat) : cnt f n ≤ n := by unfold cnt; exact Nat.le_trans List.countP_le_length (by simp)
end Go.Proofs.YtijhaeapoapgfaaGreatDoor

set_option linter.unusedVariables false
set_option linter.unusedSimpArgs false
namespace Go.Proofs.YtijhaeapoapgfaaGreatDoor
open Go.RowKit

/-- The pieces that a symbol sums. -/
def rowL (s : UInt32) (K P : Nat) (id : UInt32) : List Nat :=
  if id.toNat < K then [id.toNat] else rsome (rstep (rseed s id)) ((K + P : Nat) : Int) ((degree (K + P) (rnext (rseed s id)) : Nat) : Int)
/-- .. as a row of bits. -/
def rowN (s : UInt32) (K P : Nat) (id : UInt32) : Nat := putL (K + P) 0 (rowL s K P id)

theorem degree_pos (n : Nat) (x : UInt32) : 1 ≤ degree n x := by unfold degree; omega

theorem rowL_rising (s : UInt32) (K P : Nat) (id : UInt32) (h1 : 1 ≤ K) (h2 : K + P ≤ 256) : (rowL s K P id).Pairwise (· < ·) ∧ (∀ x ∈ rowL s K P id, x < K + P) ∧ 1 ≤ (rowL s K P id).length ∧ (rowL s K P id).length ≤ K + P := by
  unfold rowL
  split
  · next h =>
    refine ⟨List.pairwise_singleton _ _, fun x hx => ?_, by simp, by simp; omega⟩
    obtain rfl := List.mem_singleton.1 hx
    omega
  · obtain ⟨hl, hr1, hr2⟩ := some_props (rstep (rseed s id)) ((K + P : Nat) : Int) ((degree (K + P) (rnext (rseed s id)) : Nat) : Int) (by omega) (by omega)
    have hd := degree_pos (K + P) (rnext (rseed s id))
    refine ⟨hr1, fun x hx => by have := hr2 x hx; omega, ?_, ?_⟩ <;> rw [hl] <;> unfold clampK <;> omega

theorem rowN_lt (s : UInt32) (K P : Nat) (id : UInt32) : rowN s K P id < 2 ^ (K + P) := putL_lt (Nat.two_pow_pos _) _
theorem rowN_bits (s : UInt32) (K P : Nat) (id : UInt32) (h1 : 1 ≤ K) (h2 : K + P ≤ 256) : bitsOf (K + P) (rowN s K P id) = rowL s K P id :=
  bitsOf_putL (rowL_rising s K P id h1 h2).1 (rowL_rising s K P id h1 h2).2.1
theorem rowL_first (s : UInt32) (K P : Nat) (id : UInt32) (h : id.toNat < K) : rowL s K P id = [id.toNat] := by unfold rowL; rw [if_pos h]
end Go.Proofs.YtijhaeapoapgfaaGreatDoor

set_option linter.unusedVariables false
set_option linter.unusedSimpArgs false
namespace Go.Proofs.YtijhaeapoapgfaaGreatDoor
open Go.RowKit

def zer (n : Nat) : List UInt8 := List.replicate n 0
def xorL (a b : List UInt8) : List UInt8 := List.zipWith (· ^^^ ·) a b
theorem zer_len (n : Nat) : (zer n).length = n := by simp [zer]
theorem xorL_len {a b : List UInt8} {n : Nat} (ha : a.length = n) (hb : b.length = n) : (xorL a b).length = n := by simp [xorL, ha, hb]
theorem xorL_at {a b : List UInt8} {i : Nat} (h1 : i < a.length) (h2 : i < b.length) : (xorL a b)[i]? = some (a[i] ^^^ b[i]) := by
  unfold xorL
  rw [List.getElem?_zipWith, List.getElem?_eq_getElem h1, List.getElem?_eq_getElem h2]

/-- a, with b added to its first k places. -/
def xorTo (a b : List UInt8) (k : Nat) : List UInt8 := xorL (a.take k) b ++ a.drop k
theorem xorTo_zero (a b : List UInt8) : xorTo a b 0 = a := by simp [xorTo, xorL]
theorem xorTo_len {a b : List UInt8} (h : a.length = b.length) (k : Nat) : (xorTo a b k).length = a.length := by simp [xorTo, xorL]; omega
theorem xorTo_all {a b : List UInt8} (h : a.length = b.length) : xorTo a b a.length = xorL a b := by simp [xorTo]
theorem xorTo_at {a b : List UInt8} (h : a.length = b.length) {k i : Nat} (hi : i < a.length) : (xorTo a b k)[i]? = some (if i < k then a.getD i 0 ^^^ b.getD i 0 else a.getD i 0) := by
  have hg : ∀ l : List UInt8, i < l.length → l.getD i 0 = l[i]?.getD 0 := fun l _ => by rw [List.getD_eq_getElem?_getD]
  unfold xorTo
  by_cases hk : i < k
  · rw [if_pos hk, List.getElem?_append_left (by simp [xorL]; omega)]
    unfold xorL
    rw [List.getElem?_zipWith, List.getElem?_take, if_pos hk, List.getElem?_eq_getElem hi, List.getElem?_eq_getElem (by omega : i < b.length)]
    simp only [List.getD_eq_getElem?_getD, List.getElem?_eq_getElem hi, List.getElem?_eq_getElem (by omega : i < b.length), Option.getD_some]
  · rw [if_neg hk]
    have hl : (xorL (a.take k) b).length = k := by simp [xorL]; omega
    rw [List.getElem?_append_right (by omega), hl, List.getElem?_drop, show k + (i - k) = i from by omega, List.getElem?_eq_getElem hi]
    simp only [List.getD_eq_getElem?_getD, List.getElem?_eq_getElem hi, Option.getD_some]
theorem xorTo_set {a b : List UInt8} (h : a.length = b.length) {k : Nat} (hk : k < a.length) : (xorTo a b k).set k ((xorTo a b k).getD k 0 ^^^ b.getD k 0) = xorTo a b (k + 1) := by
  apply List.ext_getElem?
  intro i
  by_cases hi : i < a.length
  · rw [List.getElem?_set, xorTo_at h hi, xorTo_at h hi]
    by_cases e : k = i
    · subst e
      have h3 : (xorTo a b k).getD k 0 = a.getD k 0 := by rw [List.getD_eq_getElem?_getD, xorTo_at h hk]; simp
      have h4 : k < (xorTo a b k).length := by rw [xorTo_len h]; exact hk
      rw [if_pos rfl, if_pos h4, h3, if_pos (by omega)]
    · have : (i < k + 1) = (i < k) := by simp; omega
      simp [e, this]
  · rw [List.getElem?_eq_none (by rw [List.length_set, xorTo_len h]; omega), List.getElem?_eq_none (by rw [xorTo_len h]; omega)]
theorem xorTo_getD {a b : List UInt8} (h : a.length = b.length) {k : Nat} (hk : k < a.length) : (xorTo a b k).getD k 0 = a.getD k 0 := by
  rw [List.getD_eq_getElem?_getD, xorTo_at h hk]; simp

/-- The sum of pieces of one length. -/
def bsum (n : Nat) (L : List (List UInt8)) : List UInt8 := L.foldl xorL (zer n)
theorem bsum_len {n : Nat} : ∀ {L : List (List UInt8)} {z : List UInt8}, z.length = n → (∀ x ∈ L, x.length = n) → (L.foldl xorL z).length = n
  | [], z, hz, _ => hz
  | x :: L, z, hz, h => bsum_len (L := L) (xorL_len hz (h x (by simp))) (fun y hy => h y (by simp [hy]))
theorem bsum_snoc (n : Nat) (L : List (List UInt8)) (x : List UInt8) : bsum n (L ++ [x]) = xorL (bsum n L) x := by unfold bsum; rw [List.foldl_append]; rfl

/-- How many pieces hold an image. -/
def bcount (len size : Nat) : Nat := if len = 0 then 0 else if (len + size - 1) / size ≤ 64 then (len + size - 1) / size else 0

/-- The image, filled up. -/
def bfull (img : List UInt8) (n : Nat) : List UInt8 := img ++ zer (n - img.length)
theorem bfull_len {img : List UInt8} {n : Nat} (h : img.length ≤ n) : (bfull img n).length = n := by simp [bfull, zer]; omega
/-- Its pieces. -/
def bpiece (img : List UInt8) (K size i : Nat) : List UInt8 := ((bfull img (K * size)).drop (i * size)).take size
def bsplit (img : List UInt8) (K size k : Nat) : List (List UInt8) := (List.range k).map (bpiece img K size)
theorem bsplit_len (img : List UInt8) (K size k : Nat) : (bsplit img K size k).length = k := by simp [bsplit]
theorem bsplit_succ (img : List UInt8) (K size k : Nat) : bsplit img K size (k + 1) = bsplit img K size k ++ [bpiece img K size k] := by simp [bsplit, List.range_succ]
theorem bpiece_len {img : List UInt8} {K size i : Nat} (h : img.length ≤ K * size) (hi : i < K) : (bpiece img K size i).length = size := by
  unfold bpiece
  rw [List.length_take, List.length_drop, bfull_len h]
  have : (i + 1) * size ≤ K * size := Nat.mul_le_mul_right _ hi
  rw [Nat.add_mul] at this
  omega
theorem bsplit_each {img : List UInt8} {K size k : Nat} (h : img.length ≤ K * size) (hk : k ≤ K) : ∀ x ∈ bsplit img K size k, x.length = size := by
  intro x hx
  unfold bsplit at hx
  obtain ⟨i, hi, rfl⟩ := List.mem_map.1 hx
  exact bpiece_len h (by have := List.mem_range.1 hi; omega)

/-- A bit of parity. -/
def parB (s : UInt32) (j i : Nat) : Bool := decide ((rnext (stepN i (rseed s (UInt32.ofNat (2147483648 + j))))).toNat % 2 = 1)
/-- The row of parity, its first k bits told. -/
def parX (s : UInt32) (K n j : Nat) : Nat → Nat
  | 0 => putL n 0 [K + j]
  | k + 1 => putB (parX s K n j k) k (parB s j k)
theorem parX_lt (s : UInt32) {K n j : Nat} (hn : K ≤ n) : ∀ k, k ≤ K → parX s K n j k < 2 ^ n
  | 0, _ => putL_lt (Nat.two_pow_pos _) _
  | k + 1, h => put_lt (parX_lt s hn k (by omega)) (by omega)
theorem parX_bit (s : UInt32) (K n j : Nat) : ∀ k i, i < k → k ≤ K → (parX s K n j k).testBit i = parB s j i
  | 0, i, h, _ => by omega
  | k + 1, i, h, hk => by
    show (putB (parX s K n j k) k (parB s j k)).testBit i = _
    rw [testBit_put]
    by_cases e : k = i
    · subst e; rw [if_pos rfl]
    · rw [if_neg e]; exact parX_bit s K n j k i (by omega) (by omega)

/-- The sum of those of the first k pieces that a row has. -/
def psum (f : Nat → Bool) (size : Nat) (L : List (List UInt8)) : Nat → List UInt8
  | 0 => zer size
  | k + 1 => if f k then xorL (psum f size L k) (L.getD k []) else psum f size L k
theorem psum_len {f : Nat → Bool} {size : Nat} {L : List (List UInt8)} (h : ∀ x ∈ L, x.length = size) : ∀ k, k ≤ L.length → (psum f size L k).length = size
  | 0, _ => zer_len _
  | k + 1, hk => by
    unfold psum
    split
    · refine xorL_len (psum_len h k (by omega)) ?_
      rw [List.getD_eq_getElem?_getD, List.getElem?_eq_getElem (by omega)]
      exact h _ (List.getElem_mem _)
    · exact psum_len h k (by omega)
theorem psum_congr {f g : Nat → Bool} {size : Nat} {L : List (List UInt8)} : ∀ k, (∀ i, i < k → f i = g i) → psum f size L k = psum g size L k
  | 0, _ => rfl
  | k + 1, h => by
    unfold psum
    rw [h k (by omega), psum_congr k (fun i hi => h i (by omega))]

/-- All pieces: the image's, and j of parity. -/
def bpars (s : UInt32) (size : Nat) (L : List (List UInt8)) (j : Nat) : List (List UInt8) := (List.range j).map fun j => psum (parB s j) size L L.length
def ball (s : UInt32) (size : Nat) (L : List (List UInt8)) (P : Nat) : List (List UInt8) := L ++ bpars s size L P
theorem bpars_succ (s : UInt32) (size : Nat) (L : List (List UInt8)) (j : Nat) : bpars s size L (j + 1) = bpars s size L j ++ [psum (parB s j) size L L.length] := by simp [bpars, List.range_succ]
theorem ball_len (s : UInt32) (size : Nat) (L : List (List UInt8)) (P : Nat) : (ball s size L P).length = L.length + P := by simp [ball, bpars]
theorem ball_each {s : UInt32} {size : Nat} {L : List (List UInt8)} {P : Nat} (h : ∀ x ∈ L, x.length = size) : ∀ x ∈ ball s size L P, x.length = size := by
  intro x hx
  unfold ball at hx
  rcases List.mem_append.1 hx with hx | hx
  · exact h x hx
  · unfold bpars at hx
    obtain ⟨j, _, rfl⟩ := List.mem_map.1 hx
    exact psum_len h _ (Nat.le_refl _)

/-- The pieces of an image under parameters. -/
def pieces (s : UInt32) (K P size : Nat) (img : List UInt8) : List (List UInt8) := ball s size (bsplit img K size K) P
/-- A symbol. -/
def symb (s : UInt32) (K P size : Nat) (img : List UInt8) (id : UInt32) : List UInt8 := bsum size ((rowL s K P id).map fun i => (pieces s K P size img).getD i [])

end Go.Proofs.YtijhaeapoapgfaaGreatDoor

set_option linter.unusedVariables false
set_option linter.unusedSimpArgs false
namespace Go.Proofs.YtijhaeapoapgfaaGreatDoor
open Go.RowKit

theorem xor4 (a b c d : UInt8) : (a ^^^ b) ^^^ (c ^^^ d) = (a ^^^ c) ^^^ (b ^^^ d) := by ac_rfl
theorem xorL_four {n : Nat} {a b c d : List UInt8} (ha : a.length = n) (hb : b.length = n) (hc : c.length = n) (hd : d.length = n) : xorL (xorL a b) (xorL c d) = xorL (xorL a c) (xorL b d) := by
  apply List.ext_getElem
  · simp [xorL, ha, hb, hc, hd]
  · intro i h1 h2
    simp only [xorL, List.getElem_zipWith]
    exact xor4 _ _ _ _
theorem xorL_zz (n : Nat) : xorL (zer n) (zer n) = zer n := by
  apply List.ext_getElem
  · simp [xorL, zer]
  · intro i h1 h2
    simp [xorL, zer]
theorem getD_len {A : List (List UInt8)} {z i : Nat} (h : ∀ x ∈ A, x.length = z) (hi : i < A.length) : (A.getD i []).length = z := by
  rw [List.getD_eq_getElem?_getD, List.getElem?_eq_getElem hi]; exact h _ (List.getElem_mem _)

theorem getD_append_left' {A B : List (List UInt8)} {i : Nat} (hi : i < A.length) : (A ++ B).getD i [] = A.getD i [] := by
  rw [List.getD_eq_getElem?_getD, List.getElem?_append_left hi, List.getD_eq_getElem?_getD]
theorem getD_append_right' {A B : List (List UInt8)} {i : Nat} (hi : A.length ≤ i) : (A ++ B).getD i [] = B.getD (i - A.length) [] := by
  rw [List.getD_eq_getElem?_getD, List.getElem?_append_right hi, List.getD_eq_getElem?_getD]

/-- The first k of a list, zeros behind. -/
def half (l : List UInt8) (k : Nat) : List UInt8 := l.take k ++ zer (l.length - k)
theorem half_len (l : List UInt8) {k : Nat} (h : k ≤ l.length) : (half l k).length = l.length := by simp [half, zer]; omega
theorem half_zero (l : List UInt8) : half l 0 = zer l.length := by simp [half]
theorem half_all (l : List UInt8) : half l l.length = l := by simp [half, zer]
theorem half_set (l : List UInt8) {k : Nat} (hk : k < l.length) : (half l k).set k (l.getD k 0) = half l (k + 1) := by
  rw [List.getD_eq_getElem?_getD, List.getElem?_eq_getElem hk, Option.getD_some]
  apply List.ext_getElem
  · simp [half, zer]; omega
  · intro j h1 h2
    simp only [half, zer, List.getElem_set, List.getElem_append, List.length_take, List.getElem_take, List.getElem_replicate]
    by_cases hj : k = j
    · subst hj
      have : k < min (k + 1) l.length := by omega
      simp [this]
    · by_cases h3 : j < k
      · have a1 : j < min k l.length := by omega
        have a2 : j < min (k + 1) l.length := by omega
        simp [hj, a1, a2]
      · have a1 : ¬ j < min k l.length := by omega
        have a2 : ¬ j < min (k + 1) l.length := by omega
        simp [hj, a1, a2]

end Go.Proofs.YtijhaeapoapgfaaGreatDoor
