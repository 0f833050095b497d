/-
  VecM: rows of bits as numbers: words of 64 bits, one bit set or unset, how many are set, the lowest one. No program here.
-/
import Derived.Test.YtghgmchgbhdldaaTzT
set_option linter.unusedVariables false
set_option linter.unusedSimpArgs false
namespace Go.Proofs.Ytghgmchgbhdldaa
open Go.RowKit

theorem two64 : (2 : Nat) ^ 64 = 18446744073709551616 := by decide

/-- The k-th word. -/
def word (X k : Nat) : Nat := X / 2 ^ (64 * k) % 18446744073709551616

theorem word_lt (X k : Nat) : word X k < 18446744073709551616 := Nat.mod_lt _ (by omega)

theorem word_testBit (X k j : Nat) : (word X k).testBit j = (decide (j < 64) && X.testBit (64 * k + j)) := by
  unfold word
  rw [← two64, Nat.testBit_mod_two_pow, Nat.testBit_div_two_pow, Nat.add_comm]

/-- How many words. -/
def nw (n : Nat) : Nat := (n + 63) / 64
def words (n X : Nat) : List Nat := (List.range (nw n)).map (word X)

theorem words_len (n X : Nat) : (words n X).length = nw n := by simp [words]
theorem words_at (n X : Nat) {k : Nat} (hk : k < nw n) : (words n X).getD k 0 = word X k := by
  simp [words, List.getD, hk]
theorem words_ext {n : Nat} {l : List Nat} {X : Nat} (hl : l.length = nw n) (h : ∀ k, k < nw n → l.getD k 0 = word X k) : l = words n X := by
  apply List.ext_getElem
  · rw [hl, words_len]
  · intro i h1 h2
    have := h i (by omega)
    rw [List.getD_eq_getElem?_getD, List.getElem?_eq_getElem h1, Option.getD_some] at this
    rw [this]
    simp [words]

theorem words_zero (n : Nat) : words n 0 = List.replicate (nw n) 0 := by
  symm
  refine words_ext (by simp) (fun k hk => ?_)
  simp [word, List.getD, hk]

def clrB (X i : Nat) : Nat := X ^^^ (X &&& 2 ^ i)
def orB (X i : Nat) : Nat := X ||| 2 ^ i
def putB (X i : Nat) (on : Bool) : Nat := if on then orB (clrB X i) i else clrB X i

theorem testBit_clr (X i j : Nat) : (clrB X i).testBit j = (X.testBit j && !decide (i = j)) := by
  unfold clrB
  rw [Nat.testBit_xor, Nat.testBit_and, Nat.testBit_two_pow]
  cases X.testBit j <;> cases decide (i = j) <;> rfl
theorem testBit_orB (X i j : Nat) : (orB X i).testBit j = (X.testBit j || decide (i = j)) := by
  unfold orB
  rw [Nat.testBit_or, Nat.testBit_two_pow]
theorem testBit_put (X i j : Nat) (on : Bool) : (putB X i on).testBit j = if i = j then on else X.testBit j := by
  unfold putB
  cases on
  · simp only [Bool.false_eq_true, if_false]
    rw [testBit_clr]
    by_cases h : i = j <;> simp [h]
  · simp only [if_true]
    rw [testBit_orB, testBit_clr]
    by_cases h : i = j <;> simp [h]

theorem lt_of_bits {X n : Nat} (h : ∀ j, n ≤ j → X.testBit j = false) : X < 2 ^ n := Nat.lt_pow_two_of_testBit X h
theorem bit_ge {X n j : Nat} (hX : X < 2 ^ n) (hj : n ≤ j) : X.testBit j = false :=
  Nat.testBit_lt_two_pow (Nat.lt_of_lt_of_le hX (Nat.pow_le_pow_right (by omega) hj))

theorem clr_lt {X n i : Nat} (hX : X < 2 ^ n) : clrB X i < 2 ^ n := lt_of_bits fun j hj => by rw [testBit_clr, bit_ge hX hj]; rfl
theorem orB_lt {X n i : Nat} (hX : X < 2 ^ n) (hi : i < n) : orB X i < 2 ^ n := lt_of_bits fun j hj => by rw [testBit_orB, bit_ge hX hj]; simp; omega
theorem put_lt {X n i : Nat} {on : Bool} (hX : X < 2 ^ n) (hi : i < n) : putB X i on < 2 ^ n := by
  unfold putB; split
  · exact orB_lt (clr_lt hX) hi
  · exact clr_lt hX
theorem xor_lt {X Y n : Nat} (hX : X < 2 ^ n) (hY : Y < 2 ^ n) : X ^^^ Y < 2 ^ n := Nat.xor_lt_two_pow hX hY

theorem not_bit (a j : Nat) (ha : a < 64) : (18446744073709551615 - 2 ^ a).testBit j = (decide (j < 64) && !decide (a = j)) := by
  have h : 2 ^ a < 2 ^ 64 := Nat.pow_lt_pow_right (by omega) ha
  have := Nat.testBit_two_pow_sub_succ h j
  rw [show 18446744073709551615 - 2 ^ a = 2 ^ 64 - (2 ^ a + 1) from by rw [two64]; omega, this, Nat.testBit_two_pow]

theorem split_eq {i k j : Nat} (hj : j < 64) : (i = 64 * k + j) ↔ (i / 64 = k ∧ i % 64 = j) := by omega

theorem word_clr_same (X i : Nat) : word (clrB X i) (i / 64) = word X (i / 64) &&& (18446744073709551615 - 2 ^ (i % 64)) := by
  apply Nat.eq_of_testBit_eq
  intro j
  rw [Nat.testBit_and, not_bit _ _ (Nat.mod_lt _ (by omega)), word_testBit, word_testBit, testBit_clr]
  by_cases hj : j < 64
  · have e : decide (i = 64 * (i / 64) + j) = decide (i % 64 = j) := by congr 1; simp; omega
    rw [e]
    cases X.testBit (64 * (i / 64) + j) <;> cases decide (i % 64 = j) <;> simp [hj]
  · simp [hj]
theorem word_clr_other (X i k : Nat) (hk : k ≠ i / 64) : word (clrB X i) k = word X k := by
  apply Nat.eq_of_testBit_eq
  intro j
  rw [word_testBit, word_testBit, testBit_clr]
  by_cases hj : j < 64
  · have e : decide (i = 64 * k + j) = false := by simp; omega
    rw [e]
    simp
  · simp [hj]
theorem word_or_same (X i : Nat) : word (orB X i) (i / 64) = word X (i / 64) ||| 2 ^ (i % 64) := by
  apply Nat.eq_of_testBit_eq
  intro j
  rw [Nat.testBit_or, Nat.testBit_two_pow, word_testBit, word_testBit, testBit_orB]
  by_cases hj : j < 64
  · have e : decide (i = 64 * (i / 64) + j) = decide (i % 64 = j) := by congr 1; simp; omega
    rw [e]
    simp [hj]
  · have : ¬ i % 64 = j := by omega
    simp [hj, this]
theorem word_or_other (X i k : Nat) (hk : k ≠ i / 64) : word (orB X i) k = word X k := by
  apply Nat.eq_of_testBit_eq
  intro j
  rw [word_testBit, word_testBit, testBit_orB]
  by_cases hj : j < 64
  · have e : decide (i = 64 * k + j) = false := by simp; omega
    rw [e]
    simp
  · simp [hj]
theorem word_xor (X Y k : Nat) : word (X ^^^ Y) k = word X k ^^^ word Y k := by
  apply Nat.eq_of_testBit_eq
  intro j
  rw [Nat.testBit_xor, word_testBit, word_testBit, word_testBit, Nat.testBit_xor]
  cases decide (j < 64) <;> simp

theorem getD_set (l : List Nat) (i j v : Nat) (hi : i < l.length) : (l.set i v).getD j 0 = if j = i then v else l.getD j 0 := by
  rw [List.getD_eq_getElem?_getD, List.getElem?_set]
  by_cases h : j = i
  · subst h; simp [hi]
  · have : ¬ i = j := fun e => h e.symm
    simp [this, h, List.getD_eq_getElem?_getD]

theorem words_clr {n X i : Nat} (hi : i < n) : (words n X).set (i / 64) (word X (i / 64) &&& (18446744073709551615 - 2 ^ (i % 64))) = words n (clrB X i) := by
  have hq : i / 64 < nw n := by unfold nw; omega
  refine words_ext (by rw [List.length_set, words_len]) (fun k hk => ?_)
  rw [getD_set _ _ _ _ (by rw [words_len]; exact hq)]
  split
  · next h => subst h; rw [word_clr_same]
  · next h => rw [words_at _ _ hk, word_clr_other _ _ _ h]
theorem words_or {n X i : Nat} (hi : i < n) : (words n X).set (i / 64) (word X (i / 64) ||| 2 ^ (i % 64)) = words n (orB X i) := by
  have hq : i / 64 < nw n := by unfold nw; omega
  refine words_ext (by rw [List.length_set, words_len]) (fun k hk => ?_)
  rw [getD_set _ _ _ _ (by rw [words_len]; exact hq)]
  split
  · next h => subst h; rw [word_or_same]
  · next h => rw [words_at _ _ hk, word_or_other _ _ _ h]

/-- Two rows of one length are the same just if their words are. -/
theorem words_inj {n X Y : Nat} (hX : X < 2 ^ n) (hY : Y < 2 ^ n) (h : words n X = words n Y) : X = Y := by
  apply Nat.eq_of_testBit_eq
  intro i
  by_cases hi : i < n
  · have hk : i / 64 < nw n := by unfold nw; omega
    have e := congrArg (fun l => (l.getD (i / 64) 0).testBit (i % 64)) h
    simp only [words_at _ _ hk, word_testBit] at e
    have h1 : i % 64 < 64 := Nat.mod_lt _ (by omega)
    rw [show 64 * (i / 64) + i % 64 = i from by omega] at e
    simpa [h1] using e
  · rw [bit_ge hX (by omega), bit_ge hY (by omega)]

/-- Is a bit set? -/
theorem word_has (X i : Nat) : ((word X (i / 64) / 2 ^ (i % 64)) &&& 1 = 1) ↔ X.testBit i = true := by
  have h := word_testBit X (i / 64) (i % 64)
  have h1 : i % 64 < 64 := Nat.mod_lt _ (by omega)
  rw [show 64 * (i / 64) + i % 64 = i from by omega] at h
  simp only [h1, decide_true, Bool.true_and] at h
  rw [← h, Nat.and_one_is_mod, Nat.testBit_eq_decide_div_mod_eq]
  simp

/-! How many. -/
def cnt (f : Nat → Bool) (n : Nat) : Nat := (List.range n).countP f
theorem cnt_zero (f : Nat → Bool) : cnt f 0 = 0 := rfl
theorem cnt_succ (f : Nat → Bool) (n : Nat) : cnt f (n + 1) = cnt f n + (if f n then 1 else 0) := by
  unfold cnt
  rw [List.range_succ, List.countP_append]
  simp [List.countP_cons]
theorem cnt_add (f : Nat → Bool) (a b : Nat) : cnt f (a + b) = cnt f a + cnt (fun i => f (a + i)) b := by
  induction b with
  | zero => rfl
  | succ b ih => rw [← Nat.add_assoc, cnt_succ, cnt_succ, ih]; omega
theorem cnt_congr {f g : Nat → Bool} {n : Nat} (h : ∀ i, i < n → f i = g i) : cnt f n = cnt g n := by
  induction n with
  | zero => rfl
  | succ n ih => rw [cnt_succ, cnt_succ, ih (fun i hi => h i (by omega)), h n (by omega)]
theorem cnt_none {f : Nat → Bool} {n : Nat} (h : ∀ i, i < n → f i = false) : cnt f n = 0 := by
  induction n with
  | zero => rfl
  | succ n ih => rw [cnt_succ, ih (fun i hi => h i (by omega)), h n (by omega)]; rfl

theorem pop8_cnt : ∀ b : Fin 256, pop8 b.val = cnt (fun i => b.val.testBit i) 8 := by decide +kernel
theorem byte_bit (x s i : Nat) (hi : i < 8) : (x / 2 ^ s % 256).testBit i = x.testBit (s + i) := by
  rw [show (256 : Nat) = 2 ^ 8 from rfl, Nat.testBit_mod_two_pow, Nat.testBit_div_two_pow, Nat.add_comm]
  simp [hi]
theorem pop8_at (x s : Nat) : pop8 (x / 2 ^ s % 256) = cnt (fun i => x.testBit (s + i)) 8 := by
  have h : x / 2 ^ s % 256 < 256 := Nat.mod_lt _ (by omega)
  rw [show pop8 (x / 2 ^ s % 256) = cnt (fun i => (x / 2 ^ s % 256).testBit i) 8 from pop8_cnt ⟨_, h⟩]
  exact cnt_congr fun i hi => byte_bit x s i hi
theorem popN_cnt (x : Nat) : popN x = cnt x.testBit 64 := by
  have h0 := pop8_at x 0
  have h1 := pop8_at x 8
  have h2 := pop8_at x 16
  have h3 := pop8_at x 24
  have h4 := pop8_at x 32
  have h5 := pop8_at x 40
  have h6 := pop8_at x 48
  have h7 := pop8_at x 56
  rw [show x / 2 ^ 0 = x from by simp] at h0
  unfold popN
  rw [h0, show (256 : Nat) = 2 ^ 8 from rfl, show (65536 : Nat) = 2 ^ 16 from rfl, show (16777216 : Nat) = 2 ^ 24 from rfl, show (4294967296 : Nat) = 2 ^ 32 from rfl, show (1099511627776 : Nat) = 2 ^ 40 from rfl, show (281474976710656 : Nat) = 2 ^ 48 from rfl, show (72057594037927936 : Nat) = 2 ^ 56 from rfl]
  rw [show (2 : Nat) ^ 8 = 256 from rfl] at h1 ⊢
  rw [h1, h2, h3, h4, h5, h6, h7]
  rw [show (64 : Nat) = 56 + 8 from rfl, cnt_add, show (56 : Nat) = 48 + 8 from rfl, cnt_add, show (48 : Nat) = 40 + 8 from rfl, cnt_add, show (40 : Nat) = 32 + 8 from rfl, cnt_add, show (32 : Nat) = 24 + 8 from rfl, cnt_add, show (24 : Nat) = 16 + 8 from rfl, cnt_add, show (16 : Nat) = 8 + 8 from rfl, cnt_add]
  simp only [Nat.zero_add]

/-- How many are set in the first k words. -/
def popW (X : Nat) : Nat → Nat
  | 0 => 0
  | k + 1 => popW X k + popN (word X k)
theorem popW_cnt (X k : Nat) : popW X k = cnt X.testBit (64 * k) := by
  induction k with
  | zero => rfl
  | succ k ih =>
    rw [popW, ih, popN_cnt, show 64 * (k + 1) = 64 * k + 64 from by omega, cnt_add]
    congr 1
    exact cnt_congr fun i hi => by rw [word_testBit]; simp [hi]

/-- The bits that are set. -/
def bitsOf (n X : Nat) : List Nat := (List.range n).filter X.testBit
theorem bitsOf_len (n X : Nat) : (bitsOf n X).length = cnt X.testBit n := by
  unfold bitsOf cnt; rw [List.countP_eq_length_filter]
theorem popW_all {n X : Nat} (hX : X < 2 ^ n) : popW X (nw n) = (bitsOf n X).length := by
  have hn : n ≤ 64 * nw n := by unfold nw; omega
  rw [popW_cnt, bitsOf_len, show 64 * nw n = n + (64 * nw n - n) from by omega, cnt_add, cnt_none (n := 64 * nw n - n), Nat.add_zero]
  intro i _
  exact bit_ge hX (by omega)
theorem popN_le (x : Nat) : popN x ≤ 64 := by rw [popN_cnt]; unfold cnt; exact Nat.le_trans List.countP_le_length (by simp)
theorem popW_le (X k : Nat) : popW X k ≤ 64 * k := by rw [popW_cnt]; unfold cnt; exact Nat.le_trans List.countP_le_length (by simp)

theorem bitsOf_succ (n X : Nat) : bitsOf (n + 1) X = bitsOf n X ++ (if X.testBit n then [n] else []) := by
  unfold bitsOf
  rw [List.range_succ, List.filter_append]
  congr 1
  by_cases h : X.testBit n <;> simp [h]

/-- The lowest bit that is set; -1: there is none. -/
def firstB (n X : Nat) : Int := match bitsOf n X with
  | [] => -1
  | a :: _ => a

theorem bitsOf_first : ∀ {n X r : Nat}, r < n → X.testBit r = true → (∀ j, j < r → X.testBit j = false) → ∃ t, bitsOf n X = r :: t
  | 0, X, r, h, _, _ => by omega
  | n + 1, X, r, h, h1, h2 => by
    rw [bitsOf_succ]
    by_cases hr : r = n
    · subst hr
      have : bitsOf r X = [] := by
        unfold bitsOf
        rw [List.filter_eq_nil_iff]
        intro a ha
        rw [h2 a (List.mem_range.1 ha)]
        simp
      exact ⟨[], by rw [this, h1]; rfl⟩
    · obtain ⟨t, ht⟩ := bitsOf_first (n := n) (by omega) h1 h2
      exact ⟨t ++ (if X.testBit n then [n] else []), by rw [ht]; rfl⟩
theorem firstB_at {n X r : Nat} (hr : r < n) (h1 : X.testBit r = true) (h2 : ∀ j, j < r → X.testBit j = false) : firstB n X = r := by
  obtain ⟨t, ht⟩ := bitsOf_first hr h1 h2
  unfold firstB; rw [ht]
theorem firstB_none {n X : Nat} (h : ∀ j, j < n → X.testBit j = false) : firstB n X = -1 := by
  have : bitsOf n X = [] := by
    unfold bitsOf
    rw [List.filter_eq_nil_iff]
    intro a ha
    rw [h a (List.mem_range.1 ha)]
    simp
  unfold firstB; rw [this]

/-- A word that is not zero: its lowest bit. -/
theorem word_low {x : Nat} (hx : x < 18446744073709551616) (h0 : x ≠ 0) : ∃ k, k < 64 ∧ x &&& (18446744073709551616 - x) = 2 ^ k ∧ x.testBit k = true ∧ ∀ j, j < k → x.testBit j = false := by
  obtain ⟨k, m, hk, rfl, he⟩ := low_bit hx h0
  have e1 : ∀ i, (2 ^ k * (2 * m + 1)).testBit i = if i < k then false else (2 * m + 1).testBit (i - k) := fun i => by
    have := Nat.testBit_two_pow_mul_add (2 * m + 1) (Nat.two_pow_pos k) i
    rw [Nat.add_zero] at this
    rw [this]
    simp
  refine ⟨k, hk, he, ?_, fun j hj => ?_⟩
  · rw [e1, if_neg (by omega), Nat.sub_self, Nat.testBit_zero]; simp
  · rw [e1, if_pos hj]

theorem first_word {n X k t : Nat} (hX : X < 2 ^ n) (hz : ∀ j, j < k → word X j = 0) (ht : t < 64) (h1 : (word X k).testBit t = true) (h2 : ∀ j, j < t → (word X k).testBit j = false) : firstB n X = ((64 * k + t : Nat) : Int) := by
  have hb : X.testBit (64 * k + t) = true := by rw [word_testBit] at h1; simpa [ht] using h1
  refine firstB_at ?_ hb (fun j hj => ?_)
  · rcases Nat.lt_or_ge (64 * k + t) n with h | h
    · exact h
    · rw [bit_ge hX h] at hb; cases hb
  · by_cases hk : j / 64 < k
    · have h3 := congrArg (fun x => x.testBit (j % 64)) (hz _ hk)
      have h4 : j % 64 < 64 := Nat.mod_lt _ (by omega)
      simp only [word_testBit, Nat.zero_testBit] at h3
      rw [show 64 * (j / 64) + j % 64 = j from by omega] at h3
      simpa [h4] using h3
    · have h3 := h2 (j - 64 * k) (by omega)
      rw [word_testBit, show 64 * k + (j - 64 * k) = j from by omega] at h3
      have : j - 64 * k < 64 := by omega
      simpa [this] using h3
theorem first_none {n X : Nat} (hz : ∀ j, j < nw n → word X j = 0) : firstB n X = -1 := by
  refine firstB_none (fun j hj => ?_)
  have h3 := congrArg (fun x => x.testBit (j % 64)) (hz (j / 64) (by unfold nw; omega))
  have h4 : j % 64 < 64 := Nat.mod_lt _ (by omega)
  simp only [word_testBit, Nat.zero_testBit] at h3
  rw [show 64 * (j / 64) + j % 64 = j from by omega] at h3
  simpa [h4] using h3

/-- A row with the bits of a list. -/
def putL (n X : Nat) (l : List Nat) : Nat := l.foldl (fun X i => if i < n then putB X i true else X) X

theorem testBit_putL (n : Nat) : ∀ (l : List Nat) (X j : Nat), (putL n X l).testBit j = (X.testBit j || decide (j < n ∧ j ∈ l))
  | [], X, j => by simp [putL]
  | i :: l, X, j => by
    show (putL n (if i < n then putB X i true else X) l).testBit j = _
    rw [testBit_putL n l]
    by_cases hi : i < n
    · rw [if_pos hi, testBit_put]
      by_cases hj : i = j
      · subst hj; simp [hi]
      · have : ¬ j = i := fun e => hj e.symm
        simp [hj, this]
    · rw [if_neg hi]
      have : j < n → ¬ j = i := by omega
      cases X.testBit j
      · simp only [Bool.false_or]
        congr 1
        simp only [List.mem_cons, eq_iff_iff]
        constructor
        · rintro ⟨h1, h2⟩; exact ⟨h1, .inr h2⟩
        · rintro ⟨h1, h2 | h2⟩
          · exact absurd h2 (this h1)
          · exact ⟨h1, h2⟩
      · simp

theorem putL_lt {n X : Nat} (hX : X < 2 ^ n) (l : List Nat) : putL n X l < 2 ^ n := lt_of_bits fun j hj => by
  rw [testBit_putL, bit_ge hX hj]; simp; omega

/-- A rising list of places is the list of its row. -/
theorem bitsOf_putL {n : Nat} {l : List Nat} (hl : l.Pairwise (· < ·)) (hb : ∀ x ∈ l, x < n) : bitsOf n (putL n 0 l) = l := by
  have h1 : (bitsOf n (putL n 0 l)).Pairwise (· < ·) := List.Pairwise.filter _ List.pairwise_lt_range
  have hm : ∀ x, x ∈ bitsOf n (putL n 0 l) ↔ x ∈ l := by
    intro x
    unfold bitsOf
    rw [List.mem_filter, List.mem_range, testBit_putL]
    simp only [Nat.zero_testBit, Bool.false_or, decide_eq_true_eq]
    constructor
    · rintro ⟨_, _, h⟩; exact h
    · intro h; exact ⟨hb x h, hb x h, h⟩
  refine List.Perm.eq_of_pairwise (le := (· < ·)) (fun a b _ _ h1 h2 => by omega) h1 hl ?_
  rw [List.perm_ext_iff_of_nodup (h1.imp (fun {a b} h => by omega)) (hl.imp (fun {a b} h => by omega))]
  exact hm

end Go.Proofs.Ytghgmchgbhdldaa
