/-
  BkL: the symbol of a sum of images is the sum of their symbols. No program here.
-/
import Derived.Test.YtghgmchgbhdldaaBkM
set_option linter.unusedVariables false
set_option linter.unusedSimpArgs false
namespace Go.Proofs.Ytghgmchgbhdldaa
open Go.RowKit

theorem xor4 (a b c d : UInt8) : (a ^^^ b) ^^^ (c ^^^ d) = (a ^^^ c) ^^^ (b ^^^ d) := by ac_rfl
theorem xorL_four {n : Nat} {a b c d : List UInt8} (ha : a.length = n) (hb : b.length = n) (hc : c.length = n) (hd : d.length = n) : xorL (xorL a b) (xorL c d) = xorL (xorL a c) (xorL b d) := by
  apply List.ext_getElem
  · simp [xorL, ha, hb, hc, hd]
  · intro i h1 h2
    simp only [xorL, List.getElem_zipWith]
    exact xor4 _ _ _ _
theorem xorL_zz (n : Nat) : xorL (zer n) (zer n) = zer n := by
  apply List.ext_getElem
  · simp [xorL, zer]
  · intro i h1 h2
    simp [xorL, zer]
theorem xorL_append {a b c d : List UInt8} (h : a.length = b.length) : xorL (a ++ c) (b ++ d) = xorL a b ++ xorL c d := by
  unfold xorL; exact List.zipWith_append h
theorem xorL_full {a b : List UInt8} (h : a.length = b.length) (n : Nat) : bfull (xorL a b) n = xorL (bfull a n) (bfull b n) := by
  have hl : (xorL a b).length = a.length := by simp [xorL]; omega
  unfold bfull
  rw [xorL_append h, hl, ← h, xorL_zz]
theorem xorL_piece {a b : List UInt8} (h : a.length = b.length) (K z i : Nat) : bpiece (xorL a b) K z i = xorL (bpiece a K z i) (bpiece b K z i) := by
  unfold bpiece
  rw [xorL_full h]
  unfold xorL
  rw [List.drop_zipWith, List.take_zipWith]

/-- Three rows of pieces, the third the sums of the others'. -/
structure Lin (z : Nat) (A B C : List (List UInt8)) : Prop where
  l1 : B.length = A.length
  l2 : C.length = A.length
  a : ∀ x ∈ A, x.length = z
  b : ∀ x ∈ B, x.length = z
  s : ∀ i, i < A.length → C.getD i [] = xorL (A.getD i []) (B.getD i [])

theorem getD_len {A : List (List UInt8)} {z i : Nat} (h : ∀ x ∈ A, x.length = z) (hi : i < A.length) : (A.getD i []).length = z := by
  rw [List.getD_eq_getElem?_getD, List.getElem?_eq_getElem hi]; exact h _ (List.getElem_mem _)

theorem lin_psum {z : Nat} {A B C : List (List UInt8)} (h : Lin z A B C) (f : Nat → Bool) : ∀ k, k ≤ A.length → psum f z C k = xorL (psum f z A k) (psum f z B k)
  | 0, _ => (xorL_zz z).symm
  | k + 1, hk => by
    unfold psum
    rw [lin_psum h f k (by omega), h.s k (by omega)]
    split
    · exact xorL_four (psum_len h.a k (by omega)) (psum_len h.b k (by rw [h.l1]; omega)) (getD_len h.a (by omega)) (getD_len h.b (by rw [h.l1]; omega))
    · rfl

theorem getD_append_left' {A B : List (List UInt8)} {i : Nat} (hi : i < A.length) : (A ++ B).getD i [] = A.getD i [] := by
  rw [List.getD_eq_getElem?_getD, List.getElem?_append_left hi, List.getD_eq_getElem?_getD]
theorem getD_append_right' {A B : List (List UInt8)} {i : Nat} (hi : A.length ≤ i) : (A ++ B).getD i [] = B.getD (i - A.length) [] := by
  rw [List.getD_eq_getElem?_getD, List.getElem?_append_right hi, List.getD_eq_getElem?_getD]

theorem lin_split {a b : List UInt8} {K z : Nat} (h : a.length = b.length) (hf : a.length ≤ K * z) : Lin z (bsplit a K z K) (bsplit b K z K) (bsplit (xorL a b) K z K) :=
  ⟨by rw [bsplit_len, bsplit_len], by rw [bsplit_len, bsplit_len], bsplit_each hf (Nat.le_refl _), bsplit_each (by omega) (Nat.le_refl _), fun i hi => by
    rw [bsplit_len] at hi
    have e : ∀ c : List UInt8, (bsplit c K z K).getD i [] = bpiece c K z i := fun c => by simp [bsplit, List.getD, hi]
    rw [e, e, e, xorL_piece h]⟩
theorem lin_all {z : Nat} {A B C : List (List UInt8)} (h : Lin z A B C) (s : UInt32) (P : Nat) : Lin z (ball s z A P) (ball s z B P) (ball s z C P) :=
  ⟨by rw [ball_len, ball_len, h.l1], by rw [ball_len, ball_len, h.l2], ball_each h.a, ball_each h.b, fun i hi => by
    rw [ball_len] at hi
    unfold ball
    have q1 := h.l1
    have q2 := h.l2
    by_cases hl : i < A.length
    · rw [getD_append_left' (A := A) hl, getD_append_left' (A := B) (by omega), getD_append_left' (A := C) (by omega), h.s i hl]
    · rw [getD_append_right' (A := A) (by omega), getD_append_right' (A := B) (by omega), getD_append_right' (A := C) (by omega), h.l1, h.l2]
      have hj : i - A.length < P := by omega
      have e : ∀ L : List (List UInt8), (bpars s z L P).getD (i - A.length) [] = psum (parB s (i - A.length)) z L L.length := fun L => by simp [bpars, List.getD, hj]
      rw [e, e, e, h.l1, h.l2]
      exact lin_psum h _ _ (Nat.le_refl _)⟩

theorem lin_sum {z : Nat} {A B C : List (List UInt8)} (h : Lin z A B C) : ∀ (R : List Nat) (u v : List UInt8), (∀ i ∈ R, i < A.length) → u.length = z → v.length = z →
    (R.map fun i => C.getD i []).foldl xorL (xorL u v) = xorL ((R.map fun i => A.getD i []).foldl xorL u) ((R.map fun i => B.getD i []).foldl xorL v)
  | [], u, v, _, _, _ => rfl
  | i :: R, u, v, hR, hu, hv => by
    have hi := hR i (by simp)
    have ha := getD_len h.a hi
    have hb := getD_len h.b (i := i) (by rw [h.l1]; exact hi)
    simp only [List.map_cons, List.foldl_cons]
    rw [h.s i hi, xorL_four hu hv ha hb]
    exact lin_sum h R _ _ (fun j hj => hR j (by simp [hj])) (xorL_len hu ha) (xorL_len hv hb)

theorem symb_lin {s : UInt32} {K P z : Nat} {a b : List UInt8} {id : UInt32} (h1 : 1 ≤ K) (h2 : K + P ≤ 256) (h : a.length = b.length) (hf : a.length ≤ K * z) : symb s K P z (xorL a b) id = xorL (symb s K P z a id) (symb s K P z b id) := by
  have hl := lin_all (lin_split h hf) s P
  have hr := (rowL_rising s K P id h1 h2).2.1
  unfold symb bsum pieces
  have := lin_sum hl (rowL s K P id) (zer z) (zer z) (fun i hi => by rw [ball_len, bsplit_len]; exact hr i hi) (zer_len _) (zer_len _)
  rwa [xorL_zz] at this

/-- The other image: by steps of five. -/
def oth (y : UInt8) (n : Nat) : List UInt8 := (List.range n).map fun i => y + UInt8.ofNat (i * 5)
theorem oth_len (y : UInt8) (n : Nat) : (oth y n).length = n := by simp [oth]
/-- The first k of a list, zeros behind. -/
def half (l : List UInt8) (k : Nat) : List UInt8 := l.take k ++ zer (l.length - k)
theorem half_len (l : List UInt8) {k : Nat} (h : k ≤ l.length) : (half l k).length = l.length := by simp [half, zer]; omega
theorem half_zero (l : List UInt8) : half l 0 = zer l.length := by simp [half]
theorem half_all (l : List UInt8) : half l l.length = l := by simp [half, zer]
theorem half_set (l : List UInt8) {k : Nat} (hk : k < l.length) : (half l k).set k (l.getD k 0) = half l (k + 1) := by
  rw [List.getD_eq_getElem?_getD, List.getElem?_eq_getElem hk, Option.getD_some]
  apply List.ext_getElem
  · simp [half, zer]; omega
  · intro j h1 h2
    simp only [half, zer, List.getElem_set, List.getElem_append, List.length_take, List.getElem_take, List.getElem_replicate]
    by_cases hj : k = j
    · subst hj
      have : k < min (k + 1) l.length := by omega
      simp [this]
    · by_cases h3 : j < k
      · have a1 : j < min k l.length := by omega
        have a2 : j < min (k + 1) l.length := by omega
        simp [hj, a1, a2]
      · have a1 : ¬ j < min k l.length := by omega
        have a2 : ¬ j < min (k + 1) l.length := by omega
        simp [hj, a1, a2]

end Go.Proofs.Ytghgmchgbhdldaa
