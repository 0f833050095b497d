/-
  Law17T: what the laws of the cell lean on, without a program.
-/
import Derived.Test.YthjojkkjdaoocaaCellT3
set_option linter.unusedVariables false
set_option linter.unusedSimpArgs false
namespace Go.Proofs.Ythjojkkjdaoocaa
open Go.RowKit

theorem new_dead (wear : Int) {k : Nat} (hk : k < 14) : Dead (secOf (Fla.new wear).b k) := by
  show Dead (secOf blankAll k)
  rw [secOf_blank hk]; exact blank_dead

theorem read_none {F : Fla} (hd : F.down = false) (h0 : Dead (secOf F.b 0)) (h1 : Dead (secOf F.b 1)) : F.cellRead = ([], 14) := by
  unfold Fla.cellRead
  rw [if_neg (by simp [hd]), found_none h0 h1, if_pos (by simp [Fla.stAt])]

theorem new_read (wear : Int) : (Fla.new wear).cellRead = ([], 14) := read_none rfl (new_dead wear (by omega)) (new_dead wear (by omega))

theorem new_wear (wear : Int) : 1 ≤ (Fla.new wear).wear := by show 1 ≤ max 1 (min wear 10000); omega

/-- Without a fuse a write is done. -/
theorem CellIs.writeCalm {F : Fla} {C : Nat} {cur : UInt32} {was : List UInt8} (h : CellIs F C cur was) (hG : Good F) (hf : F.fused = false) (hw : F.er.getD (1 - C) 0 < F.wear) (b : List UInt8) (hb : b.length ≤ 245) (hcur : cur.toNat + 1 < 16777216) :
    ∃ G, F.cellWrite b = (G, 0) ∧ Rest F G (1 - C) ∧ Good G ∧ CellIs G (1 - C) (cur + 1) b ∧ G.steps = wrap64 (F.steps + (12 + b.length)) := by
  obtain ⟨G, e, h1, h2, h3⟩ := h.write hG hw b hb hcur
  rcases h3 with ⟨rfl, h4, h5, h6⟩ | ⟨_, _, h4, _⟩
  · exact ⟨G, h1, h2, h4, h5, h6⟩
  · rw [hf] at h4; cases h4

theorem first_write (wear : Int) (b : List UInt8) (hb : b.length ≤ 245) :
    ∃ G, (Fla.new wear).cellWrite b = (G, 0) ∧ Rest (Fla.new wear) G 0 ∧ Good G ∧ CellIs G 0 1 b ∧ G.steps = 12 + b.length := by
  obtain ⟨G, h1, h2, h3, h4, h5⟩ := cell_first (new_good wear) (new_dead wear (by omega)) (new_dead wear (by omega)) (by have := new_wear wear; show (0 : Int) < _; omega) rfl b hb
  refine ⟨G, h1, h2, h3, h4, ?_⟩
  rw [h5]
  show wrap64 (0 + _) = _
  rw [Int.zero_add, IntWalk.wrap64_in _ (by omega)]

theorem two_writes (wear : Int) (a b : List UInt8) (ha : a.length ≤ 245) (hb : b.length ≤ 245) :
    ∃ G1 G2, (Fla.new wear).cellWrite a = (G1, 0) ∧ G1.cellWrite b = (G2, 0) ∧ Rest (Fla.new wear) G1 0 ∧ Rest G1 G2 1 ∧ Good G2 ∧ CellIs G1 0 1 a ∧ CellIs G2 1 2 b := by
  obtain ⟨G1, h1, h2, h3, h4, _⟩ := first_write wear a ha
  have her : G1.er.getD (1 - 0) 0 < G1.wear := by
    rw [h2.er, h2.wear]
    have := new_wear wear
    show (0 : Int) < _
    omega
  obtain ⟨G2, k1, k2, k3, k4, _⟩ := h4.writeCalm h3 (h2.fused.trans rfl) her b hb (by decide)
  exact ⟨G1, G2, h1, k1, h2, k2, k3, h4, k4⟩

theorem erase_sec {F : Fla} (h : Good F) (hf : F.fused = false) {s : Nat} (hs : s < 14) (hw : F.er.getD s 0 < F.wear) :
    ∃ G, F.erase s = (G, 0) ∧ Good G ∧ G.fused = false ∧ G.wear = F.wear ∧ G.er = F.er.set s (wrap64 (F.er.getD s 0 + 1)) ∧ Dead (secOf G.b s) ∧ ∀ j, j < 14 → j ≠ s → secOf G.b j = secOf F.b j := by
  have he := h.erase hs hw (by intro h; rw [hf] at h; cases h)
  have hl : (fillAt F.b (s * 256) 256).length = 3584 := (fillAt_len (by rw [h.len]; omega)).trans h.len
  refine ⟨_, he, h.step1 1 (by intro h; rw [hf] at h; cases h) (by omega) _ _ hl (by rw [List.length_set, h.er]), hf, rfl, rfl, ?_, fun j hj hjs => secOf_fill_other h.len hs hj hjs (by omega)⟩
  show Dead (secOf (fillAt F.b (s * 256) 256) s)
  rw [secOf_fill_same h.len hs (by omega), worn_all (secOf_len h.len hs)]
  exact blank_dead

theorem spoilt_law (a b : List UInt8) (ha : a.length ≤ 245) (hb : b.length ≤ 245) (k : Nat) (hk : k < 2) :
    ∃ G1 G2 G3 G4, (Fla.new 9).cellWrite a = (G1, 0) ∧ G1.cellWrite b = (G2, 0) ∧ G2.erase k = (G3, 0) ∧ G3.cellRead = (if k = 1 then a else b, 0) ∧ G3.erase (1 - (k : Int)) = (G4, 0) ∧ G4.cellRead = ([], 14) := by
  obtain ⟨G1, G2, h1, h2, h3, h4, h5, h6, h7⟩ := two_writes 9 a b ha hb
  have hf2 : G2.fused = false := h4.fused.trans (h3.fused.trans rfl)
  have hw2 : G2.wear = 9 := h4.wear.trans (h3.wear.trans rfl)
  have he1 : G1.er = [1, 0, 0, 0, 0, 0, 0, 0, 0, 0, 0, 0, 0, 0] := h3.er.trans (by decide +kernel)
  have he2 : G2.er = [1, 1, 0, 0, 0, 0, 0, 0, 0, 0, 0, 0, 0, 0] := h4.er.trans (by rw [he1]; decide +kernel)
  have hk01 : k = 0 ∨ k = 1 := by omega
  obtain ⟨G3, k1, k2, k3, k4, k5, k6, k7⟩ := erase_sec h5 hf2 (s := k) (by omega) (by rw [hw2, he2]; rcases hk01 with rfl | rfl <;> decide)
  have hw3 : G3.wear = 9 := k4.trans hw2
  obtain ⟨G4, j1, j2, j3, j4, j5, j6, j7⟩ := erase_sec k2 k3 (s := 1 - k) (by omega) (by rw [hw3, k5, he2]; rcases hk01 with rfl | rfl <;> decide)
  refine ⟨G1, G2, G3, G4, h1, h2, k1, ?_, ?_, ?_⟩
  · rcases hk01 with rfl | rfl
    · have hc : CellIs G3 1 2 b := ⟨by omega, by decide, by rw [k7 1 (by omega) (by omega)]; exact h7.head, .inl k6⟩
      exact hc.read k2.down
    · have hc : CellIs G3 0 1 a := ⟨by omega, by decide, by rw [k7 0 (by omega) (by omega), h4.secs 0 (by omega) (by omega)]; exact h6.head, .inl k6⟩
      exact hc.read k2.down
  · rw [← j1]
    rcases hk01 with rfl | rfl <;> rfl
  · rcases hk01 with rfl | rfl
    · exact read_none j2.down (by rw [j7 0 (by omega) (by omega)]; exact k6) j6
    · exact read_none j2.down j6 (by rw [j7 1 (by omega) (by omega)]; exact k6)

end Go.Proofs.Ythjojkkjdaoocaa
