/-
  BkM: pieces of an image, their sums, parity, symbols. No program here.
-/
import Derived.Test.YtghgmchgbhdldaaSpM
set_option linter.unusedVariables false
set_option linter.unusedSimpArgs false
namespace Go.Proofs.Ytghgmchgbhdldaa
open Go.RowKit

def zer (n : Nat) : List UInt8 := List.replicate n 0
def xorL (a b : List UInt8) : List UInt8 := List.zipWith (· ^^^ ·) a b
theorem zer_len (n : Nat) : (zer n).length = n := by simp [zer]
theorem xorL_len {a b : List UInt8} {n : Nat} (ha : a.length = n) (hb : b.length = n) : (xorL a b).length = n := by simp [xorL, ha, hb]
theorem xorL_at {a b : List UInt8} {i : Nat} (h1 : i < a.length) (h2 : i < b.length) : (xorL a b)[i]? = some (a[i] ^^^ b[i]) := by
  unfold xorL
  rw [List.getElem?_zipWith, List.getElem?_eq_getElem h1, List.getElem?_eq_getElem h2]

/-- a, with b added to its first k places. -/
def xorTo (a b : List UInt8) (k : Nat) : List UInt8 := xorL (a.take k) b ++ a.drop k
theorem xorTo_zero (a b : List UInt8) : xorTo a b 0 = a := by simp [xorTo, xorL]
theorem xorTo_len {a b : List UInt8} (h : a.length = b.length) (k : Nat) : (xorTo a b k).length = a.length := by simp [xorTo, xorL]; omega
theorem xorTo_all {a b : List UInt8} (h : a.length = b.length) : xorTo a b a.length = xorL a b := by simp [xorTo]
theorem xorTo_at {a b : List UInt8} (h : a.length = b.length) {k i : Nat} (hi : i < a.length) : (xorTo a b k)[i]? = some (if i < k then a.getD i 0 ^^^ b.getD i 0 else a.getD i 0) := by
  have hg : ∀ l : List UInt8, i < l.length → l.getD i 0 = l[i]?.getD 0 := fun l _ => by rw [List.getD_eq_getElem?_getD]
  unfold xorTo
  by_cases hk : i < k
  · rw [if_pos hk, List.getElem?_append_left (by simp [xorL]; omega)]
    unfold xorL
    rw [List.getElem?_zipWith, List.getElem?_take, if_pos hk, List.getElem?_eq_getElem hi, List.getElem?_eq_getElem (by omega : i < b.length)]
    simp only [List.getD_eq_getElem?_getD, List.getElem?_eq_getElem hi, List.getElem?_eq_getElem (by omega : i < b.length), Option.getD_some]
  · rw [if_neg hk]
    have hl : (xorL (a.take k) b).length = k := by simp [xorL]; omega
    rw [List.getElem?_append_right (by omega), hl, List.getElem?_drop, show k + (i - k) = i from by omega, List.getElem?_eq_getElem hi]
    simp only [List.getD_eq_getElem?_getD, List.getElem?_eq_getElem hi, Option.getD_some]
theorem xorTo_set {a b : List UInt8} (h : a.length = b.length) {k : Nat} (hk : k < a.length) : (xorTo a b k).set k ((xorTo a b k).getD k 0 ^^^ b.getD k 0) = xorTo a b (k + 1) := by
  apply List.ext_getElem?
  intro i
  by_cases hi : i < a.length
  · rw [List.getElem?_set, xorTo_at h hi, xorTo_at h hi]
    by_cases e : k = i
    · subst e
      have h3 : (xorTo a b k).getD k 0 = a.getD k 0 := by rw [List.getD_eq_getElem?_getD, xorTo_at h hk]; simp
      have h4 : k < (xorTo a b k).length := by rw [xorTo_len h]; exact hk
      rw [if_pos rfl, if_pos h4, h3, if_pos (by omega)]
    · have : (i < k + 1) = (i < k) := by simp; omega
      simp [e, this]
  · rw [List.getElem?_eq_none (by rw [List.length_set, xorTo_len h]; omega), List.getElem?_eq_none (by rw [xorTo_len h]; omega)]
theorem xorTo_getD {a b : List UInt8} (h : a.length = b.length) {k : Nat} (hk : k < a.length) : (xorTo a b k).getD k 0 = a.getD k 0 := by
  rw [List.getD_eq_getElem?_getD, xorTo_at h hk]; simp

/-- The sum of pieces of one length. -/
def bsum (n : Nat) (L : List (List UInt8)) : List UInt8 := L.foldl xorL (zer n)
theorem bsum_len {n : Nat} : ∀ {L : List (List UInt8)} {z : List UInt8}, z.length = n → (∀ x ∈ L, x.length = n) → (L.foldl xorL z).length = n
  | [], z, hz, _ => hz
  | x :: L, z, hz, h => bsum_len (L := L) (xorL_len hz (h x (by simp))) (fun y hy => h y (by simp [hy]))
theorem bsum_snoc (n : Nat) (L : List (List UInt8)) (x : List UInt8) : bsum n (L ++ [x]) = xorL (bsum n L) x := by unfold bsum; rw [List.foldl_append]; rfl

/-- How many pieces hold an image. -/
def bcount (len size : Nat) : Nat := if len = 0 then 0 else if (len + size - 1) / size ≤ 64 then (len + size - 1) / size else 0

/-- The image, filled up. -/
def bfull (img : List UInt8) (n : Nat) : List UInt8 := img ++ zer (n - img.length)
theorem bfull_len {img : List UInt8} {n : Nat} (h : img.length ≤ n) : (bfull img n).length = n := by simp [bfull, zer]; omega
/-- Its pieces. -/
def bpiece (img : List UInt8) (K size i : Nat) : List UInt8 := ((bfull img (K * size)).drop (i * size)).take size
def bsplit (img : List UInt8) (K size k : Nat) : List (List UInt8) := (List.range k).map (bpiece img K size)
theorem bsplit_len (img : List UInt8) (K size k : Nat) : (bsplit img K size k).length = k := by simp [bsplit]
theorem bsplit_succ (img : List UInt8) (K size k : Nat) : bsplit img K size (k + 1) = bsplit img K size k ++ [bpiece img K size k] := by simp [bsplit, List.range_succ]
theorem bpiece_len {img : List UInt8} {K size i : Nat} (h : img.length ≤ K * size) (hi : i < K) : (bpiece img K size i).length = size := by
  unfold bpiece
  rw [List.length_take, List.length_drop, bfull_len h]
  have : (i + 1) * size ≤ K * size := Nat.mul_le_mul_right _ hi
  rw [Nat.add_mul] at this
  omega
theorem bsplit_each {img : List UInt8} {K size k : Nat} (h : img.length ≤ K * size) (hk : k ≤ K) : ∀ x ∈ bsplit img K size k, x.length = size := by
  intro x hx
  unfold bsplit at hx
  obtain ⟨i, hi, rfl⟩ := List.mem_map.1 hx
  exact bpiece_len h (by have := List.mem_range.1 hi; omega)

/-- A bit of parity. -/
def parB (s : UInt32) (j i : Nat) : Bool := decide ((rnext (stepN i (rseed s (UInt32.ofNat (2147483648 + j))))).toNat % 2 = 1)
/-- The row of parity, its first k bits told. -/
def parX (s : UInt32) (K n j : Nat) : Nat → Nat
  | 0 => putL n 0 [K + j]
  | k + 1 => putB (parX s K n j k) k (parB s j k)
theorem parX_lt (s : UInt32) {K n j : Nat} (hn : K ≤ n) : ∀ k, k ≤ K → parX s K n j k < 2 ^ n
  | 0, _ => putL_lt (Nat.two_pow_pos _) _
  | k + 1, h => put_lt (parX_lt s hn k (by omega)) (by omega)
theorem parX_bit (s : UInt32) (K n j : Nat) : ∀ k i, i < k → k ≤ K → (parX s K n j k).testBit i = parB s j i
  | 0, i, h, _ => by omega
  | k + 1, i, h, hk => by
    show (putB (parX s K n j k) k (parB s j k)).testBit i = _
    rw [testBit_put]
    by_cases e : k = i
    · subst e; rw [if_pos rfl]
    · rw [if_neg e]; exact parX_bit s K n j k i (by omega) (by omega)

/-- The sum of those of the first k pieces that a row has. -/
def psum (f : Nat → Bool) (size : Nat) (L : List (List UInt8)) : Nat → List UInt8
  | 0 => zer size
  | k + 1 => if f k then xorL (psum f size L k) (L.getD k []) else psum f size L k
theorem psum_len {f : Nat → Bool} {size : Nat} {L : List (List UInt8)} (h : ∀ x ∈ L, x.length = size) : ∀ k, k ≤ L.length → (psum f size L k).length = size
  | 0, _ => zer_len _
  | k + 1, hk => by
    unfold psum
    split
    · refine xorL_len (psum_len h k (by omega)) ?_
      rw [List.getD_eq_getElem?_getD, List.getElem?_eq_getElem (by omega)]
      exact h _ (List.getElem_mem _)
    · exact psum_len h k (by omega)
theorem psum_congr {f g : Nat → Bool} {size : Nat} {L : List (List UInt8)} : ∀ k, (∀ i, i < k → f i = g i) → psum f size L k = psum g size L k
  | 0, _ => rfl
  | k + 1, h => by
    unfold psum
    rw [h k (by omega), psum_congr k (fun i hi => h i (by omega))]

/-- All pieces: the image's, and j of parity. -/
def bpars (s : UInt32) (size : Nat) (L : List (List UInt8)) (j : Nat) : List (List UInt8) := (List.range j).map fun j => psum (parB s j) size L L.length
def ball (s : UInt32) (size : Nat) (L : List (List UInt8)) (P : Nat) : List (List UInt8) := L ++ bpars s size L P
theorem bpars_succ (s : UInt32) (size : Nat) (L : List (List UInt8)) (j : Nat) : bpars s size L (j + 1) = bpars s size L j ++ [psum (parB s j) size L L.length] := by simp [bpars, List.range_succ]
theorem ball_len (s : UInt32) (size : Nat) (L : List (List UInt8)) (P : Nat) : (ball s size L P).length = L.length + P := by simp [ball, bpars]
theorem ball_each {s : UInt32} {size : Nat} {L : List (List UInt8)} {P : Nat} (h : ∀ x ∈ L, x.length = size) : ∀ x ∈ ball s size L P, x.length = size := by
  intro x hx
  unfold ball at hx
  rcases List.mem_append.1 hx with hx | hx
  · exact h x hx
  · unfold bpars at hx
    obtain ⟨j, _, rfl⟩ := List.mem_map.1 hx
    exact psum_len h _ (Nat.le_refl _)

/-- The pieces of an image under parameters. -/
def pieces (s : UInt32) (K P size : Nat) (img : List UInt8) : List (List UInt8) := ball s size (bsplit img K size K) P
/-- A symbol. -/
def symb (s : UInt32) (K P size : Nat) (img : List UInt8) (id : UInt32) : List UInt8 := bsum size ((rowL s K P id).map fun i => (pieces s K P size img).getD i [])

end Go.Proofs.Ytghgmchgbhdldaa
