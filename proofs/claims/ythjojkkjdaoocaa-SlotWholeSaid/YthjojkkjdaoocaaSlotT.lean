/-
  SlotT: writing a slot while power stays.
-/
import Derived.Test.YthjojkkjdaoocaaSlotM
import Derived.Test.YthjojkkjdaoocaaCellT3
set_option linter.unusedVariables false
set_option linter.unusedSimpArgs false
namespace Go.Proofs.Ythjojkkjdaoocaa
open Go.RowKit

def blankSec (b : List UInt8) (k : Nat) : Bool := (secOf b k).all (· == 255)

theorem blankSec_getD {b : List UInt8} (hb : b.length = 3584) {k : Nat} (hk : k < 14) (h : blankSec b k = true) {i : Nat} (hi : i < 256) : b.getD (k * 256 + i) 0 = 255 := by
  rw [← secOf_getD hi]
  have hl := secOf_len hb hk
  unfold blankSec at h
  rw [List.all_eq_true] at h
  have := h ((secOf b k)[i]'(by omega)) (List.getElem_mem _)
  rw [List.getD, List.getElem?_eq_getElem (by omega)]
  simpa using this

theorem Good.blank {F : Fla} (h : Good F) {k : Nat} (hk : k < 14) : F.blank ((k : Int) * 256) 256 = blankSec F.b k := by
  have hr : F.ready ((k : Int) * 256) 256 = 0 := by
    have := h.ready (a := k * 256) (n := 256) (by omega)
    simpa using this
  unfold Fla.blank Fla.read blankSec secOf
  rw [if_neg (by simp [hr]), show ((k : Int) * 256).toNat = k * 256 from by omega]
  rfl

structure Cleared (F G : Fla) (k : Nat) : Prop where
  good : Good G
  fused : G.fused = false
  wear : G.wear = F.wear
  b : ∀ j, G.b.getD j 0 = if k * 256 ≤ j ∧ j < k * 256 + 256 then 255 else F.b.getD j 0
  steps : G.steps = wrap64 (F.steps + (if blankSec F.b k then 0 else 1))
  er : ∀ j, j ≠ k → G.er.getD j 0 = F.er.getD j 0
  erk : G.er.getD k 0 = if blankSec F.b k then F.er.getD k 0 else wrap64 (F.er.getD k 0 + 1)

theorem getD_setInt (l : List Int) (i j : Nat) (x : Int) (hi : i < l.length) : (l.set i x).getD j 0 = if i = j then x else l.getD j 0 := by
  by_cases h : i = j
  · subst h; rw [if_pos rfl, List.getD, List.getElem?_set_self hi]; rfl
  · rw [if_neg h, List.getD, List.getD, List.getElem?_set_ne h]

theorem clear1_calm {F : Fla} (h : Good F) (hf : F.fused = false) {k : Nat} (hk : k < 14) (hw : blankSec F.b k = false → F.er.getD k 0 < F.wear) :
    ∃ G, F.clear1 k = (G, 0) ∧ Cleared F G k := by
  unfold Fla.clear1
  rw [h.blank hk]
  cases hb : blankSec F.b k
  · rw [if_neg (by simp), h.erase hk (hw hb) (by rw [hf]; intro h; cases h)]
    have hl : (fillAt F.b (k * 256) 256).length = 3584 := by rw [fillAt_len (by rw [h.len]; omega)]; exact h.len
    refine ⟨_, rfl, h.step1 1 (by rw [hf]; intro h; cases h) (by omega) _ _ hl (by rw [List.length_set]; exact h.er), hf, rfl, ?_, ?_, ?_, ?_⟩
    · intro j; exact fillAt_getD (by rw [h.len]; omega) j
    · rw [hb]; rfl
    · intro j hj; exact (getD_setInt _ _ _ _ (by rw [h.er]; exact hk)).trans (if_neg (by omega))
    · rw [hb]; exact (getD_setInt _ _ _ _ (by rw [h.er]; exact hk)).trans (if_pos rfl)
  · rw [if_pos rfl]
    refine ⟨F, rfl, h, hf, rfl, ?_, ?_, fun _ _ => rfl, ?_⟩
    · intro j
      by_cases hj : k * 256 ≤ j ∧ j < k * 256 + 256
      · rw [if_pos hj]
        have := blankSec_getD h.len hk hb (i := j - k * 256) (by omega)
        rwa [show k * 256 + (j - k * 256) = j from by omega] at this
      · rw [if_neg hj]
    · rw [hb, if_pos rfl, Int.add_zero, IntWalk.wrap64_in _ ⟨h.s2, h.s1⟩]
    · rw [hb]; rfl

/-- A slot's bytes: an image, and what is erased behind it. -/
def imgAt (img : List UInt8) (i : Nat) : UInt8 := if i < img.length then img.getD i 0 else 255

def nBlank (b : List UInt8) (k : Nat) : Int := if blankSec b k then 0 else 1

structure Wrote (F G : Fla) (s : Nat) (img : List UInt8) : Prop where
  good : Good G
  fused : G.fused = false
  wear : G.wear = F.wear
  b : ∀ j, G.b.getD j 0 = if (2 + 2 * s) * 256 ≤ j ∧ j < (2 + 2 * s) * 256 + 512 then imgAt img (j - (2 + 2 * s) * 256) else F.b.getD j 0
  steps : G.steps = wrap64 (F.steps + (nBlank F.b (2 + 2 * s) + nBlank F.b (3 + 2 * s) + img.length))
  er : ∀ j, j ≠ 2 + 2 * s → j ≠ 3 + 2 * s → G.er.getD j 0 = F.er.getD j 0
  er0 : G.er.getD (2 + 2 * s) 0 = if blankSec F.b (2 + 2 * s) then F.er.getD (2 + 2 * s) 0 else wrap64 (F.er.getD (2 + 2 * s) 0 + 1)
  er1 : G.er.getD (3 + 2 * s) 0 = if blankSec F.b (3 + 2 * s) then F.er.getD (3 + 2 * s) 0 else wrap64 (F.er.getD (3 + 2 * s) 0 + 1)
  read : G.slotRead s img.length = (img, 0)

theorem secOf_congr {a b : List UInt8} (ha : a.length = 3584) (hb : b.length = 3584) {k : Nat} (hk : k < 14) (h : ∀ i, i < 256 → a.getD (k * 256 + i) 0 = b.getD (k * 256 + i) 0) : secOf a k = secOf b k := by
  apply ext_getD
  · rw [secOf_len ha hk, secOf_len hb hk]
  · intro i hi
    rw [secOf_len ha hk] at hi
    rw [secOf_getD hi, secOf_getD hi]
    exact h i hi

theorem Good.slotRead {F : Fla} (h : Good F) {s n : Nat} (hs : s < 2) (hn : n ≤ 512) : F.slotRead s n = ((F.b.drop ((2 + 2 * s) * 256)).take n, 0) := by
  unfold Fla.slotRead
  rw [if_neg (by omega)]
  have hr : F.ready ((2 + (s : Int) * 2) * 256) n = 0 := by
    rw [show (2 + (s : Int) * 2) * 256 = (((2 + 2 * s) * 256 : Nat) : Int) from by omega]
    exact h.ready (a := (2 + 2 * s) * 256) (n := n) (by omega)
  unfold Fla.read
  rw [if_neg (by simp [hr]), show ((2 + (s : Int) * 2) * 256).toNat = (2 + 2 * s) * 256 from by omega]
  rfl

set_option maxRecDepth 100000 in
theorem slotWrite_calm {F : Fla} (h : Good F) (hf : F.fused = false) {s : Nat} (hs : s < 2) {img : List UInt8} (hm : mayB img = true)
    (hw0 : blankSec F.b (2 + 2 * s) = false → F.er.getD (2 + 2 * s) 0 < F.wear) (hw1 : blankSec F.b (3 + 2 * s) = false → F.er.getD (3 + 2 * s) 0 < F.wear) :
    ∃ G, F.slotWrite s img = (G, 0) ∧ Wrote F G s img := by
  have hl : 1 ≤ img.length ∧ img.length ≤ 512 := by unfold mayB at hm; simpa using hm
  obtain ⟨G1, e1, c1⟩ := clear1_calm h hf (k := 2 + 2 * s) (by omega) hw0
  have hsec : secOf G1.b (3 + 2 * s) = secOf F.b (3 + 2 * s) := secOf_congr c1.good.len h.len (by omega) (fun i hi => by rw [c1.b, if_neg (by omega)])
  have hbs : blankSec G1.b (3 + 2 * s) = blankSec F.b (3 + 2 * s) := by unfold blankSec; rw [hsec]
  obtain ⟨G2, e2, c2⟩ := clear1_calm c1.good c1.fused (k := 3 + 2 * s) (by omega) (by rw [hbs, c1.er _ (by omega), c1.wear]; exact hw1)
  have hp := c2.good.prog (a := (2 + 2 * s) * 256) (l := img) (by omega) (by rw [c2.fused]; intro h; cases h)
  have hC : F.slotClear s = (G2, 0) := by
    have h1 : F.clearTo (2 + (s : Int) * 2) 1 = (G1, 0) := by
      show (if (F, (0 : Int)).2 ≠ 0 then (F, 0) else F.clear1 (2 + (s : Int) * 2 + ((0 : Nat) : Int))) = _
      rw [if_neg (by simp), show 2 + (s : Int) * 2 + ((0 : Nat) : Int) = ((2 + 2 * s : Nat) : Int) from by omega]
      exact e1
    show (if (F.clearTo (2 + (s : Int) * 2) 1).2 ≠ 0 then F.clearTo (2 + (s : Int) * 2) 1 else (F.clearTo (2 + (s : Int) * 2) 1).1.clear1 (2 + (s : Int) * 2 + ((1 : Nat) : Int))) = _
    rw [h1, if_neg (by simp), show 2 + (s : Int) * 2 + ((1 : Nat) : Int) = ((3 + 2 * s : Nat) : Int) from by omega]
    exact e2
  have hal : (andAt G2.b ((2 + 2 * s) * 256) img).length = 3584 := by rw [andAt_len]; exact c2.good.len
  have hG := c2.good.step1 img.length (by rw [c2.fused]; intro h; cases h) (by omega) _ _ hal c2.good.er
  have hgb : ∀ j, (andAt G2.b ((2 + 2 * s) * 256) img).getD j 0 = if (2 + 2 * s) * 256 ≤ j ∧ j < (2 + 2 * s) * 256 + 512 then imgAt img (j - (2 + 2 * s) * 256) else F.b.getD j 0 := by
    intro j
    rw [andAt_getD _ _ _ _ (by rw [c2.good.len]; omega), c2.b, c1.b]
    unfold imgAt
    by_cases hj : (2 + 2 * s) * 256 ≤ j ∧ j < (2 + 2 * s) * 256 + 512
    · rw [if_pos hj]
      have h255 : (if (3 + 2 * s) * 256 ≤ j ∧ j < (3 + 2 * s) * 256 + 256 then (255 : UInt8) else if (2 + 2 * s) * 256 ≤ j ∧ j < (2 + 2 * s) * 256 + 256 then 255 else F.b.getD j 0) = 255 := by
        by_cases hq : (3 + 2 * s) * 256 ≤ j ∧ j < (3 + 2 * s) * 256 + 256
        · rw [if_pos hq]
        · rw [if_neg hq, if_pos (by omega)]
      rw [h255]
      by_cases hi : j < (2 + 2 * s) * 256 + img.length
      · rw [if_pos ⟨hj.1, hi⟩, if_pos (by omega), and255]
      · rw [if_neg (by omega), if_neg (by omega)]
    · rw [if_neg (by omega), if_neg (by omega), if_neg (by omega), if_neg hj]
  have hrd := hG.slotRead (s := s) (n := img.length) hs hl.2
  have hread : (((andAt G2.b ((2 + 2 * s) * 256) img).drop ((2 + 2 * s) * 256)).take img.length) = img := by
    apply ext_getD
    · rw [List.length_take, List.length_drop, hal]; omega
    · intro i hi
      rw [List.length_take, List.length_drop, hal] at hi
      have h1 := hgb ((2 + 2 * s) * 256 + i)
      rw [if_pos (by omega), show (2 + 2 * s) * 256 + i - (2 + 2 * s) * 256 = i from by omega] at h1
      unfold imgAt at h1
      rw [if_pos (by omega)] at h1
      rw [← h1, List.getD, List.getElem?_take, if_pos (by omega), List.getElem?_drop]
      rfl
  have hread2 : ({ G2.stepped img.length with b := andAt G2.b ((2 + 2 * s) * 256) img } : Fla).slotRead s img.length = (img, 0) := by
    refine Eq.trans hrd ?_
    exact congrArg (fun x => (x, (0 : Int))) hread
  refine ⟨_, ?_, hG, c2.fused, c2.wear.trans c1.wear, hgb, ?_, ?_, ?_, ?_, hread2⟩
  · unfold Fla.slotWrite
    rw [if_neg (by intro h; rcases h with h | h; omega; rw [hm] at h; cases h), if_neg (by simp [h.down]), hC]
    rw [if_neg (by simp)]
    have hp' : G2.program ((2 + (s : Int) * 2) * 256) img = ({ G2.stepped img.length with b := andAt G2.b ((2 + 2 * s) * 256) img }, 0) := by
      rw [show (2 + (s : Int) * 2) * 256 = (((2 + 2 * s) * 256 : Nat) : Int) from by omega]
      exact hp
    rw [hp', if_neg (by simp)]
    dsimp only
    have e : ({ G2.stepped img.length with b := andAt G2.b ((2 + 2 * s) * 256) img } : Fla).slotRead s img.length = (img, 0) := hread2
    rw [e, if_neg (by simp)]
    rfl
  · show wrap64 (G2.steps + (img.length : Int)) = _
    rw [c2.steps, c1.steps, hbs]
    unfold nBlank
    rw [wrap64_add_wrap, show wrap64 (F.steps + if blankSec F.b (2 + 2 * s) = true then 0 else 1) + (if blankSec F.b (3 + 2 * s) = true then 0 else 1) + (img.length : Int) = wrap64 (F.steps + if blankSec F.b (2 + 2 * s) = true then 0 else 1) + ((if blankSec F.b (3 + 2 * s) = true then 0 else 1) + (img.length : Int)) from by omega, wrap64_add_wrap]
    exact congrArg wrap64 (by omega)
  · intro j h0 h1
    exact (c2.er j h1).trans (c1.er j h0)
  · refine (c2.er _ (by omega)).trans c1.erk
  · refine c2.erk.trans ?_
    rw [hbs, c1.er _ (by omega)]

end Go.Proofs.Ythjojkkjdaoocaa
