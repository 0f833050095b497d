/-
  ApartT: what SlotApart comes to, in plain flash.
-/
import Derived.Test.YthjojkkjdaoocaaLawSteps
set_option linter.unusedVariables false
set_option linter.unusedSimpArgs false
namespace Go.Proofs.Ythjojkkjdaoocaa
open Go.RowKit

/-- A flash with power, no fuse, whose slot t is erased. -/
structure Calm (F : Fla) (t : Nat) : Prop where
  good : Good F
  fused : F.fused = false
  wear : F.wear = 1
  free : ∀ j, (2 + 2 * t) * 256 ≤ j → j < (2 + 2 * t) * 256 + 512 → F.b.getD j 0 = 255

theorem Calm.blank0 {F : Fla} {t : Nat} (h : Calm F t) (ht : t < 2) : blankSec F.b (2 + 2 * t) = true :=
  blankSec_iff h.good.len (by omega) (fun i hi => h.free _ (by omega) (by omega))
theorem Calm.blank1 {F : Fla} {t : Nat} (h : Calm F t) (ht : t < 2) : blankSec F.b (3 + 2 * t) = true :=
  blankSec_iff h.good.len (by omega) (fun i hi => h.free _ (by omega) (by omega))

theorem Wrote.calm {F G : Fla} {s t : Nat} {img : List UInt8} (h : Wrote F G s img) (c : Calm F t) (hst : s ≠ t) : Calm G t :=
  ⟨h.good, h.fused, h.wear.trans c.wear, fun j h1 h2 => by rw [h.b, if_neg (by omega)]; exact c.free j h1 h2⟩

set_option maxRecDepth 100000 in
theorem new_calm {t : Nat} (ht : t < 2) : Calm (Fla.new 1) t := by
  refine ⟨new_good 1, rfl, rfl, fun j h1 h2 => ?_⟩
  show blankAll.getD j 0 = 255
  unfold blankAll
  rw [List.getD, List.getElem?_replicate, if_pos (by omega)]
  rfl

theorem erase_worn {F : Fla} (h : Good F) {k : Nat} (hk : k < 14) (hw : ¬ F.er.getD k 0 < F.wear) : F.erase k = (F, 10) := by
  unfold Fla.erase
  rw [if_neg (by simp [h.down]), if_neg (by omega), if_pos (by simp only [Int.toNat_natCast]; omega)]

theorem clear1_worn {F : Fla} (h : Good F) {k : Nat} (hk : k < 14) (hb : blankSec F.b k = false) (hw : ¬ F.er.getD k 0 < F.wear) : F.clear1 k = (F, 10) := by
  unfold Fla.clear1
  rw [h.blank hk, hb, if_neg (by simp)]
  exact erase_worn h hk hw

theorem slotWrite_clearFail {F G : Fla} (h : Good F) {s : Nat} (hs : s < 2) {img : List UInt8} (hm : mayB img = true) {e : Int} (he : e ≠ 0) (hc : F.slotClear s = (G, e)) : F.slotWrite s img = (G, e) := by
  unfold Fla.slotWrite
  rw [if_neg (by intro h; rcases h with h | h; omega; rw [hm] at h; cases h), if_neg (by simp [h.down]), hc]
  rw [if_pos he]

theorem slotClear_eq (F : Fla) (s : Nat) : F.slotClear s = if (F.clear1 (2 + 2 * s : Nat)).2 ≠ 0 then F.clear1 (2 + 2 * s : Nat) else (F.clear1 (2 + 2 * s : Nat)).1.clear1 (3 + 2 * s : Nat) := by
  have h1 : F.clearTo (2 + (s : Int) * 2) 1 = F.clear1 (2 + 2 * s : Nat) := by
    show (if (F, (0 : Int)).2 ≠ 0 then (F, 0) else F.clear1 (2 + (s : Int) * 2 + ((0 : Nat) : Int))) = _
    rw [if_neg (by simp), show 2 + (s : Int) * 2 + ((0 : Nat) : Int) = ((2 + 2 * s : Nat) : Int) from by omega]
  show (if (F.clearTo (2 + (s : Int) * 2) 1).2 ≠ 0 then F.clearTo (2 + (s : Int) * 2) 1 else (F.clearTo (2 + (s : Int) * 2) 1).1.clear1 (2 + (s : Int) * 2 + ((1 : Nat) : Int))) = _
  rw [h1, show 2 + (s : Int) * 2 + ((1 : Nat) : Int) = ((3 + 2 * s : Nat) : Int) from by omega]

/-- To write once more: it is told that a sector is worn, and nothing is done; or it is written. -/
theorem again {F G : Fla} {s t : Nat} {b : List UInt8} (hs : s < 2) (hm : mayB b = true) (hw : Wrote F G s b) (c : Calm G t) (hst : s ≠ t) (he : G.er.getD (2 + 2 * s) 0 = 1) :
    ∃ H y, G.slotWrite s b = (H, y) ∧ (hasN b 0 = true → y = 10) ∧ H.slotRead s b.length = (b, 0) ∧ Calm H t := by
  have hl : 1 ≤ b.length ∧ b.length ≤ 512 := by unfold mayB at hm; simpa using hm
  have h0 := imgAt_blank hs hw hl.2 0 (by omega)
  rw [Nat.add_zero] at h0
  cases hN : hasN b 0
  · rw [hN] at h0
    have hc0 : G.clear1 (2 + 2 * s : Nat) = (G, 0) := by
      unfold Fla.clear1
      rw [c.good.blank (by omega), h0]; rfl
    by_cases h1 : blankSec G.b (3 + 2 * s) = false ∧ ¬ G.er.getD (3 + 2 * s) 0 < G.wear
    · refine ⟨G, 10, slotWrite_clearFail c.good hs hm (by decide) ?_, fun _ => rfl, hw.read, c⟩
      rw [slotClear_eq, hc0, if_neg (by simp)]
      exact clear1_worn c.good (by omega) h1.1 h1.2
    · obtain ⟨H, e, w⟩ := slotWrite_calm c.good c.fused hs hm (by rw [h0]; intro h; cases h) (fun h => by
        cases Classical.em (G.er.getD (3 + 2 * s) 0 < G.wear) with
        | inl h => exact h
        | inr h' => exact absurd ⟨h, h'⟩ h1)
      exact ⟨H, 0, e, (fun h => by cases h), w.read, w.calm c hst⟩
  · rw [hN] at h0
    refine ⟨G, 10, slotWrite_clearFail c.good hs hm (by decide) ?_, fun _ => rfl, hw.read, c⟩
    have hc0 : G.clear1 (2 + 2 * s : Nat) = (G, 10) := clear1_worn c.good (by omega) h0 (by rw [he, c.wear]; omega)
    rw [slotClear_eq, hc0, if_pos (by simp)]

set_option maxRecDepth 100000 in
theorem apart_plain (s : Nat) (hs : s < 2) (a b : List UInt8) (ha : mayB a = true) (hb : mayB b = true) :
    ∃ F1 F2 F3 F4 F5 y, (Fla.new 1).slotWrite s a = (F1, 0) ∧ F1.program ((2 + 2 * (s : Int)) * 256) [0] = (F2, 0) ∧ F2.slotWrite s b = (F3, 0) ∧ F3.slotWrite s b = (F4, y) ∧ (hasN b 0 = true → y = 10) ∧
      F4.slotRead s b.length = (b, 0) ∧ F4.slotWrite ((1 - s : Nat) : Int) b = (F5, 0) ∧ F4.b.length = 3584 ∧ F5.b.length = 3584 ∧
      ∀ j, j < 14 → j ≠ 2 + 2 * (1 - s) → j ≠ 3 + 2 * (1 - s) → secOf F5.b j = secOf F4.b j := by
  have ht : 1 - s < 2 := by omega
  have hst : s ≠ 1 - s := by omega
  have c0 := new_calm ht
  have z : ∀ k, k < 14 → (Fla.new 1).er.getD k 0 = 0 := by decide
  obtain ⟨F1, e1, w1⟩ := slotWrite_calm (new_good 1) rfl hs ha (by rw [new_blank 1 (by omega)]; intro h; cases h) (by rw [new_blank 1 (by omega)]; intro h; cases h)
  have c1 := w1.calm c0 hst
  have hp := c1.good.prog (a := (2 + 2 * s) * 256) (l := [0]) (by simp; omega) (by rw [c1.fused]; intro h; cases h)
  have hal : (andAt F1.b ((2 + 2 * s) * 256) [0]).length = 3584 := by rw [andAt_len]; exact c1.good.len
  have hG2 := c1.good.step1 1 (by rw [c1.fused]; intro h; cases h) (by omega) _ _ hal c1.good.er
  have c2 : Calm { F1.stepped 1 with b := andAt F1.b ((2 + 2 * s) * 256) [0] } (1 - s) := by
    refine ⟨hG2, c1.fused, c1.wear, fun j h1 h2 => ?_⟩
    show (andAt F1.b ((2 + 2 * s) * 256) [0]).getD j 0 = 255
    rw [andAt_getD _ _ _ _ (by rw [c1.good.len]; simp; omega), if_neg (by simp; omega)]
    exact c1.free j h1 h2
  have er1 : ∀ k, k < 14 → F1.er.getD k 0 = 0 := by
    intro k hk
    by_cases h0 : k = 2 + 2 * s
    · rw [h0, w1.er0, new_blank 1 (by omega), if_pos rfl, z _ (by omega)]
    · by_cases h1 : k = 3 + 2 * s
      · rw [h1, w1.er1, new_blank 1 (by omega), if_pos rfl, z _ (by omega)]
      · rw [w1.er _ h0 h1, z _ hk]
  have hnb : blankSec (andAt F1.b ((2 + 2 * s) * 256) [0]) (2 + 2 * s) = false := by
    cases hbk : blankSec (andAt F1.b ((2 + 2 * s) * 256) [0]) (2 + 2 * s)
    · rfl
    · exfalso
      have h1 := blankSec_getD hal (by omega) hbk (i := 0) (by omega)
      rw [Nat.add_zero, andAt_getD _ _ _ _ (by rw [c1.good.len]; simp; omega), if_pos (by simp), Nat.sub_self] at h1
      simp at h1
  obtain ⟨F3, e3, w3⟩ := slotWrite_calm c2.good c2.fused hs hb
    (by intro _; show F1.er.getD (2 + 2 * s) 0 < F1.wear; rw [er1 _ (by omega), c1.wear]; omega)
    (by intro _; show F1.er.getD (3 + 2 * s) 0 < F1.wear; rw [er1 _ (by omega), c1.wear]; omega)
  have c3 := w3.calm c2 hst
  have he3 : F3.er.getD (2 + 2 * s) 0 = 1 := by
    rw [w3.er0]
    show (if blankSec (andAt F1.b ((2 + 2 * s) * 256) [0]) (2 + 2 * s) = true then F1.er.getD (2 + 2 * s) 0 else wrap64 (F1.er.getD (2 + 2 * s) 0 + 1)) = 1
    rw [hnb, if_neg (by simp), er1 _ (by omega), IntWalk.wrap64_in _ (by omega)]; rfl
  obtain ⟨F4, y, e4, hy, r4, c4⟩ := again hs hb w3 c3 hst he3
  obtain ⟨F5, e5, w5⟩ := slotWrite_calm c4.good c4.fused ht hb (by rw [c4.blank0 ht]; intro h; cases h) (by rw [c4.blank1 ht]; intro h; cases h)
  refine ⟨F1, _, F3, F4, F5, y, e1, ?_, e3, e4, hy, r4, e5, c4.good.len, w5.good.len, fun j hj h0 h1 => ?_⟩
  · rw [show (2 + 2 * (s : Int)) * 256 = (((2 + 2 * s) * 256 : Nat) : Int) from by omega]
    exact hp
  · exact secOf_congr w5.good.len c4.good.len hj (fun i hi => by rw [w5.b, if_neg (by omega)])

end Go.Proofs.Ythjojkkjdaoocaa
