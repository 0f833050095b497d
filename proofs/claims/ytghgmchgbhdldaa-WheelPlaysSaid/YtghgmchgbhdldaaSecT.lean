/-
  SecT: sectors of a flash's bytes: what programs and erasures do to them. No program here.
-/
import Derived.Test.YtghgmchgbhdldaaFlashT
set_option linter.unusedVariables false
set_option linter.unusedSimpArgs false
namespace Go.Proofs.Ytghgmchgbhdldaa
open Go.RowKit

theorem ext_getD {l m : List UInt8} (h : l.length = m.length) (hg : ∀ i, i < l.length → l.getD i 0 = m.getD i 0) : l = m := by
  apply List.ext_getElem h
  intro i h1 h2
  have := hg i h1
  simpa [List.getD, h1, h2] using this

def secOf (b : List UInt8) (k : Nat) : List UInt8 := (b.drop (k * 256)).take 256

theorem secOf_len {b : List UInt8} (hb : b.length = 3584) {k : Nat} (hk : k < 14) : (secOf b k).length = 256 := by
  unfold secOf; rw [List.length_take, List.length_drop, hb]; omega

theorem secOf_getD {b : List UInt8} {k i : Nat} (hi : i < 256) : (secOf b k).getD i 0 = b.getD (k * 256 + i) 0 := by
  unfold secOf; simp [List.getD, List.getElem?_take, hi, List.getElem?_drop]

theorem secOf_andAt_same {b : List UInt8} (hb : b.length = 3584) {k : Nat} (hk : k < 14) (o : Nat) (l : List UInt8) (h : o + l.length ≤ 256) :
    secOf (andAt b (k * 256 + o) l) k = andAt (secOf b k) o l := by
  apply ext_getD
  · rw [secOf_len (by rw [andAt_len, hb]) hk, andAt_len, secOf_len hb hk]
  · intro i hi
    rw [secOf_len (by rw [andAt_len, hb]) hk] at hi
    rw [secOf_getD hi, andAt_getD _ _ _ _ (by omega), andAt_getD _ _ _ _ (by rw [secOf_len hb hk]; omega), secOf_getD hi]
    by_cases hc : o ≤ i ∧ i < o + l.length
    · rw [if_pos (by omega), if_pos hc, show k * 256 + i - (k * 256 + o) = i - o from by omega]
    · rw [if_neg (by omega), if_neg hc]

theorem secOf_andAt_other {b : List UInt8} (hb : b.length = 3584) {k j : Nat} (hk : k < 14) (hj : j < 14) (hjk : j ≠ k) (o : Nat) (l : List UInt8) (h : o + l.length ≤ 256) :
    secOf (andAt b (k * 256 + o) l) j = secOf b j := by
  apply ext_getD
  · rw [secOf_len (by rw [andAt_len, hb]) hj, secOf_len hb hj]
  · intro i hi
    rw [secOf_len (by rw [andAt_len, hb]) hj] at hi
    rw [secOf_getD hi, andAt_getD _ _ _ _ (by omega), secOf_getD hi, if_neg (by omega)]

theorem secOf_set_same {b : List UInt8} (hb : b.length = 3584) {k i : Nat} (hk : k < 14) (hi : i < 256) (x : UInt8) : secOf (b.set (k * 256 + i) x) k = (secOf b k).set i x := by
  apply ext_getD
  · rw [secOf_len (by rw [List.length_set, hb]) hk, List.length_set, secOf_len hb hk]
  · intro j hj
    rw [secOf_len (by rw [List.length_set, hb]) hk] at hj
    rw [secOf_getD hj, getD_set, getD_set, secOf_getD hj, secOf_len hb hk, hb]
    by_cases h : i = j
    · rw [if_pos (by omega), if_pos (by omega)]
    · rw [if_neg (by omega), if_neg (by omega)]

theorem secOf_set_other {b : List UInt8} (hb : b.length = 3584) {k i j : Nat} (hj : j < 14) (hi : i < 256) (hjk : j ≠ k) (x : UInt8) : secOf (b.set (k * 256 + i) x) j = secOf b j := by
  apply ext_getD
  · rw [secOf_len (by rw [List.length_set, hb]) hj, secOf_len hb hj]
  · intro n hn
    rw [secOf_len (by rw [List.length_set, hb]) hj] at hn
    rw [secOf_getD hn, getD_set, secOf_getD hn, if_neg (by omega)]

def fillAt (b : List UInt8) (o n : Nat) : List UInt8 := b.take o ++ List.replicate n 255 ++ b.drop (o + n)

theorem fillAt_len {b : List UInt8} {o n : Nat} (h : o + n ≤ b.length) : (fillAt b o n).length = b.length := by
  unfold fillAt; simp; omega

theorem fillAt_getD {b : List UInt8} {o n : Nat} (h : o + n ≤ b.length) (j : Nat) : (fillAt b o n).getD j 0 = if o ≤ j ∧ j < o + n then 255 else b.getD j 0 := by
  unfold fillAt
  simp only [List.getD]
  by_cases h1 : j < o
  · rw [List.append_assoc, List.getElem?_append_left (by simp; omega), List.getElem?_take, if_pos h1, if_neg (by omega)]
  · by_cases h2 : j < o + n
    · rw [List.append_assoc, List.getElem?_append_right (by simp; omega), List.getElem?_append_left (by simp; omega), if_pos (by omega)]
      simp only [List.length_take, Nat.min_eq_left (show o ≤ b.length by omega)]
      rw [List.getElem?_replicate, if_pos (by omega)]; rfl
    · rw [List.getElem?_append_right (by simp; omega), List.getElem?_drop, if_neg (by omega)]
      simp only [List.length_append, List.length_take, List.length_replicate, Nat.min_eq_left (show o ≤ b.length by omega)]
      rw [show o + n + (j - (o + n)) = j from by omega]

/-- A sector whose first n bytes are erased. -/
def worn (s : List UInt8) (n : Nat) : List UInt8 := List.replicate n 255 ++ s.drop n

theorem worn_len {s : List UInt8} {n : Nat} (h : n ≤ s.length) : (worn s n).length = s.length := by unfold worn; simp; omega

theorem worn_getD {s : List UInt8} {n : Nat} (h : n ≤ s.length) (j : Nat) : (worn s n).getD j 0 = if j < n then 255 else s.getD j 0 := by
  have := fillAt_getD (b := s) (o := 0) (n := n) (by omega) j
  unfold fillAt at this
  simp only [List.take_zero, List.nil_append, Nat.zero_add] at this
  unfold worn
  rw [this]
  by_cases hj : j < n
  · rw [if_pos (by omega), if_pos hj]
  · rw [if_neg (by omega), if_neg hj]

theorem worn_worn {s : List UInt8} {n m : Nat} (hn : n ≤ s.length) (hm : m ≤ s.length) : worn (worn s n) m = worn s (max n m) := by
  apply ext_getD
  · rw [worn_len (by rw [worn_len hn]; exact hm), worn_len hn, worn_len (by omega)]
  · intro j _
    rw [worn_getD (by rw [worn_len hn]; exact hm), worn_getD hn, worn_getD (by omega)]
    by_cases h1 : j < m
    · rw [if_pos h1, if_pos (by omega)]
    · by_cases h2 : j < n
      · rw [if_neg h1, if_pos h2, if_pos (by omega)]
      · rw [if_neg h1, if_neg h2, if_neg (by omega)]

theorem secOf_fill_same {b : List UInt8} (hb : b.length = 3584) {k n : Nat} (hk : k < 14) (hn : n ≤ 256) : secOf (fillAt b (k * 256) n) k = worn (secOf b k) n := by
  apply ext_getD
  · rw [secOf_len (by rw [fillAt_len (by omega), hb]) hk, worn_len (by rw [secOf_len hb hk]; exact hn), secOf_len hb hk]
  · intro i hi
    rw [secOf_len (by rw [fillAt_len (by omega), hb]) hk] at hi
    rw [secOf_getD hi, fillAt_getD (by omega), worn_getD (by rw [secOf_len hb hk]; exact hn), secOf_getD hi]
    by_cases h : i < n
    · rw [if_pos (by omega), if_pos h]
    · rw [if_neg (by omega), if_neg h]

theorem secOf_fill_other {b : List UInt8} (hb : b.length = 3584) {k n j : Nat} (hk : k < 14) (hj : j < 14) (hjk : j ≠ k) (hn : n ≤ 256) : secOf (fillAt b (k * 256) n) j = secOf b j := by
  apply ext_getD
  · rw [secOf_len (by rw [fillAt_len (by omega), hb]) hj, secOf_len hb hj]
  · intro i hi
    rw [secOf_len (by rw [fillAt_len (by omega), hb]) hj] at hi
    rw [secOf_getD hi, fillAt_getD (by omega), secOf_getD hi, if_neg (by omega)]

theorem worn_all {s : List UInt8} (hs : s.length = 256) : worn s 256 = List.replicate 256 255 := by
  unfold worn; rw [List.drop_of_length_le (by omega), List.append_nil]

theorem and255 (x : UInt8) : (255 : UInt8) &&& x = x := by
  apply UInt8.toNat_inj.1
  rw [UInt8.toNat_and, Nat.and_comm]
  show x.toNat &&& (2 ^ 8 - 1) = _
  rw [Nat.and_two_pow_sub_one_eq_mod]
  have := x.toNat_lt
  omega

theorem replicate_getD (n i : Nat) (h : i < n) : (List.replicate n (255 : UInt8)).getD i 0 = 255 := by
  simp [List.getD, List.getElem?_replicate, h]

/-- Bytes programmed over what is erased. -/
theorem andAt_blank {l : List UInt8} (h : l.length ≤ 256) : andAt (List.replicate 256 255) 0 l = l ++ List.replicate (256 - l.length) 255 := by
  apply ext_getD
  · rw [andAt_len, List.length_append, List.length_replicate, List.length_replicate]; omega
  · intro i hi
    rw [andAt_len, List.length_replicate] at hi
    rw [andAt_getD _ _ _ _ (by rw [List.length_replicate]; omega), replicate_getD _ _ hi]
    by_cases hl : i < l.length
    · rw [if_pos (by omega), and255, Nat.sub_zero, List.getD, List.getD, List.getElem?_append_left hl]
    · rw [if_neg (by omega), List.getD, List.getElem?_append_right (by omega), List.getElem?_replicate, if_pos (by omega)]; rfl

/-- .. from a place on, where from there on all is erased. -/
theorem andAt_tail {l m : List UInt8} (h : l.length + m.length ≤ 256) : andAt (l ++ List.replicate (256 - l.length) 255) l.length m = l ++ m ++ List.replicate (256 - l.length - m.length) 255 := by
  apply ext_getD
  · rw [andAt_len]; simp; omega
  · intro i hi
    rw [andAt_len] at hi
    simp only [List.length_append, List.length_replicate] at hi
    rw [andAt_getD _ _ _ _ (by simp; omega)]
    by_cases h1 : i < l.length
    · rw [if_neg (by omega), List.getD, List.getD, List.append_assoc, List.getElem?_append_left h1, List.getElem?_append_left h1]
    · by_cases h2 : i < l.length + m.length
      · rw [if_pos (by omega), List.getD, List.getD, List.getD, List.getElem?_append_right (by omega), List.getElem?_replicate, if_pos (by omega), List.append_assoc, List.getElem?_append_right (by omega), List.getElem?_append_left (by omega)]
        exact and255 _
      · rw [if_neg (by omega), List.getD, List.getD, List.getElem?_append_right (by omega), List.getElem?_replicate, if_pos (by omega), List.getElem?_append_right (by simp; omega), List.getElem?_replicate, if_pos (by simp; omega)]

end Go.Proofs.Ytghgmchgbhdldaa
