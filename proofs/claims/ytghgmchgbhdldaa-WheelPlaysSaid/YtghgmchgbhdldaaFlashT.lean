/-
  FlashT: what the plain functions of flash come to: a program that is done whole, one that is torn; erasing.
-/
import Derived.Test.YtghgmchgbhdldaaFlashM
namespace Go.Proofs.Ytghgmchgbhdldaa
open Go.RowKit

theorem wrap64_add_wrap (a b : Int) : wrap64 (wrap64 a + b) = wrap64 (a + b) := by unfold wrap64; omega
theorem wrap64_sub_wrap (a b : Int) : wrap64 (wrap64 a - b) = wrap64 (a - b) := by unfold wrap64; omega

/-- Bytes of which some are cleared by others, from a place on. -/
def andAt (b : List UInt8) : Nat → List UInt8 → List UInt8
  | _, [] => b
  | a, x :: xs => andAt (b.set a (b.getD a 0 &&& x)) (a + 1) xs

theorem andAt_len (l : List UInt8) : ∀ (b : List UInt8) (a : Nat), (andAt b a l).length = b.length := by
  induction l with
  | nil => intro b a; rfl
  | cons x xs ih => intro b a; rw [andAt, ih, List.length_set]

theorem getD_set (b : List UInt8) (i j : Nat) (x : UInt8) : (b.set i x).getD j 0 = if i = j ∧ j < b.length then x else b.getD j 0 := by
  by_cases h : i = j
  · subst h
    by_cases hl : i < b.length
    · rw [if_pos ⟨rfl, hl⟩, List.getD, List.getElem?_set_self hl]; rfl
    · rw [if_neg (by omega), List.getD, List.getD, List.getElem?_eq_none (by rw [List.length_set]; omega), List.getElem?_eq_none (by omega)]
  · rw [if_neg (by omega), List.getD, List.getD, List.getElem?_set_ne h]

theorem andAt_getD (l : List UInt8) : ∀ (b : List UInt8) (a j : Nat), a + l.length ≤ b.length →
    (andAt b a l).getD j 0 = if a ≤ j ∧ j < a + l.length then b.getD j 0 &&& l.getD (j - a) 0 else b.getD j 0 := by
  induction l with
  | nil => intro b a j _; rw [andAt, if_neg (by simp)]
  | cons x xs ih =>
    intro b a j h
    simp only [List.length_cons] at h ⊢
    rw [andAt, ih _ _ _ (by rw [List.length_set]; omega), getD_set]
    by_cases h1 : a = j
    · subst h1
      rw [if_neg (by omega), if_pos ⟨rfl, by omega⟩, if_pos (by omega), Nat.sub_self]
      rfl
    · by_cases h2 : a + 1 ≤ j ∧ j < a + 1 + xs.length
      · rw [if_pos h2, if_neg (by omega), if_pos (by omega), show j - a = (j - (a + 1)) + 1 from by omega, List.getD_cons_succ]
      · rw [if_neg h2, if_neg (by omega), if_neg (by omega)]

theorem andAt_nil (b : List UInt8) (a : Nat) : andAt b a [] = b := rfl

/-- A flash behind n steps that are done whole. -/
def Fla.stepped (F : Fla) (n : Nat) : Fla := { F with steps := wrap64 (F.steps + n), left := wrap64 (F.left - n) }

theorem Fla.prog_whole (l : List UInt8) : ∀ (F : Fla) (a : Nat), F.down = false → (F.fused = true → (l.length : Int) ≤ F.left) → F.left ≤ 9223372036854775807 → -9223372036854775808 ≤ F.left →
    F.steps ≤ 9223372036854775807 → -9223372036854775808 ≤ F.steps →
    F.prog a l = ({ F.stepped l.length with b := andAt F.b a l }, 0) := by
  induction l with
  | nil =>
    intro F a _ _ h1 h2 h3 h4
    rw [Fla.prog, andAt]
    obtain ⟨b, er, wear, down, fused, left, torn, steps⟩ := F
    unfold Fla.stepped
    dsimp only at *
    rw [List.length_nil, Int.natCast_zero, Int.sub_zero, Int.add_zero, IntWalk.wrap64_in _ ⟨h2, h1⟩, IntWalk.wrap64_in _ ⟨h4, h3⟩]
  | cons x xs ih =>
    intro F a hd hf h1 h2 h3 h4
    have hw : F.fused = true → ¬ wrap64 (F.left - 1) < 0 := by
      intro h
      have := hf h
      simp only [List.length_cons] at this
      rw [IntWalk.wrap64_in _ (by omega)]; omega
    have hs : F.step.down = false := by
      unfold Fla.step
      simp only [hd, Bool.false_or]
      cases hfu : F.fused
      · rfl
      · simp [hw hfu]
    have hb : ∀ n, -9223372036854775808 ≤ wrap64 n ∧ wrap64 n ≤ 9223372036854775807 := fun n => by unfold wrap64; omega
    rw [Fla.prog, if_neg (by simp [hs]), ih]
    · unfold Fla.stepped Fla.setB Fla.at_
      simp only [Fla.step, andAt, List.length_cons]
      rw [wrap64_add_wrap, wrap64_sub_wrap]
      have e1 : F.steps + 1 + (xs.length : Int) = F.steps + ((xs.length + 1 : Nat) : Int) := by omega
      have e2 : F.left - 1 - (xs.length : Int) = F.left - ((xs.length + 1 : Nat) : Int) := by omega
      rw [e1, e2]
      have e3 : (F.down || (F.fused && decide (wrap64 (F.left - 1) < 0))) = F.down := by
        have := hs; unfold Fla.step at this; simp only at this; rw [this, hd]
      rw [e3]
    · exact hs
    · intro h
      have h' : F.fused = true := h
      have := hf h'
      simp only [List.length_cons] at this
      show (xs.length : Int) ≤ wrap64 (F.left - 1)
      rw [IntWalk.wrap64_in _ (by omega)]; omega
    · exact (hb _).2
    · exact (hb _).1
    · exact (hb _).2
    · exact (hb _).1

/-- A program that the fuse tears at byte n. -/
theorem Fla.prog_torn (l : List UInt8) : ∀ (F : Fla) (a n : Nat), F.down = false → F.fused = true → F.left = n → n < l.length → n < 9223372036854775807 →
    F.prog a l = ({ F with b := (andAt F.b a (l.take n)).set (a + n) ((andAt F.b a (l.take n)).getD (a + n) 0 &&& (l.getD n 0 ||| F.tornB)), steps := wrap64 (F.steps + (n + 1)), left := -1, down := true }, 11) := by
  induction l with
  | nil => intro F a n _ _ _ h; simp at h
  | cons x xs ih =>
    intro F a n hd hf hl hn hb
    cases n with
    | zero =>
      have hs : F.step.down = true := by
        unfold Fla.step
        simp only [hf, hl]
        rw [IntWalk.wrap64_in _ (by omega)]
        simp
      rw [Fla.prog, if_pos hs]
      unfold Fla.setB Fla.at_
      simp only [List.take_zero, andAt, Nat.add_zero, List.getD_cons_zero]
      unfold Fla.step at hs
      simp only at hs
      unfold Fla.step
      simp only [hs]
      rw [hl, IntWalk.wrap64_in _ (by omega)]
      simp
    | succ n =>
      have hs : F.step.down = false := by
        unfold Fla.step
        simp only [hf, hl, hd]
        rw [IntWalk.wrap64_in _ (by omega)]
        simp
      simp only [List.length_cons] at hn
      rw [Fla.prog, if_neg (by simp [hs]), ih (F.step.setB a (F.at_ a &&& x)) (a + 1) n]
      · unfold Fla.setB Fla.at_ Fla.tornB
        simp only [Fla.step, List.take_succ_cons, andAt, List.getD_cons_succ]
        rw [wrap64_add_wrap, show a + 1 + n = a + (n + 1) from by omega]
        have e1 : F.steps + 1 + ((n : Int) + 1) = F.steps + (((n + 1 : Nat) : Int) + 1) := by omega
        rw [e1]
      · exact hs
      · exact hf
      · show wrap64 (F.left - 1) = n
        rw [hl, IntWalk.wrap64_in _ (by omega)]; omega
      · omega
      · omega

end Go.Proofs.Ytghgmchgbhdldaa
