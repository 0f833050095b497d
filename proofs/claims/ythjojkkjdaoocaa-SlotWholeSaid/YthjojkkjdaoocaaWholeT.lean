/-
  WholeT: what SlotWhole comes to, in plain flash: a write of a slot wherever power goes, then one more.
-/
import Derived.Test.YthjojkkjdaoocaaLawSteps
set_option linter.unusedVariables false
set_option linter.unusedSimpArgs false
namespace Go.Proofs.Ythjojkkjdaoocaa
open Go.RowKit

def AtMost (F : Fla) (n : Nat) : Prop := ∀ k, 0 ≤ F.er.getD k 0 ∧ F.er.getD k 0 ≤ n

theorem AtMost.mono {F : Fla} {n m : Nat} (h : AtMost F n) (hnm : n ≤ m) : AtMost F m := fun k => ⟨(h k).1, by have := (h k).2; omega⟩

theorem AtMost.set {F G : Fla} {n : Nat} (h : AtMost F n) (hn : n ≤ 1000) {k : Nat} (hk : k < F.er.length) (he : G.er = F.er.set k (wrap64 (F.er.getD k 0 + 1))) : AtMost G (n + 1) := by
  intro j
  rw [he, getD_setInt _ _ _ _ hk]
  have h1 := h k
  have h2 := h j
  split
  · rw [IntWalk.wrap64_in _ (by omega)]; omega
  · omega

/-- What is as it was but for bytes from lo to hi, and the counts. -/
structure Near (F G : Fla) (lo hi n : Nat) : Prop where
  len : G.b.length = 3584
  erl : G.er.length = 14
  l1 : G.left ≤ 9223372036854775807
  l2 : -9223372036854775808 ≤ G.left
  s1 : G.steps ≤ 9223372036854775807
  s2 : -9223372036854775808 ≤ G.steps
  wear : G.wear = F.wear
  fused : G.fused = F.fused
  out : ∀ j, ¬ (lo ≤ j ∧ j < hi) → G.b.getD j 0 = F.b.getD j 0
  er : AtMost G n

theorem Near.trans {F G H : Fla} {lo hi n m : Nat} (h : Near F G lo hi n) (k : Near G H lo hi m) : Near F H lo hi m :=
  ⟨k.len, k.erl, k.l1, k.l2, k.s1, k.s2, k.wear.trans h.wear, k.fused.trans h.fused, fun j hj => (k.out j hj).trans (h.out j hj), k.er⟩

theorem Near.wide {F G : Fla} {lo hi lo' hi' n m : Nat} (h : Near F G lo hi n) (h1 : lo' ≤ lo) (h2 : hi ≤ hi') (h3 : n ≤ m) : Near F G lo' hi' m :=
  ⟨h.len, h.erl, h.l1, h.l2, h.s1, h.s2, h.wear, h.fused, fun j hj => h.out j (by omega), h.er.mono h3⟩

theorem Near.refl {F : Fla} (h : Good F) {lo hi n : Nat} (ha : AtMost F n) : Near F F lo hi n :=
  ⟨h.len, h.er, h.l1, h.l2, h.s1, h.s2, rfl, rfl, fun _ _ => rfl, ha⟩

set_option maxRecDepth 100000 in
theorem clear1_any {F : Fla} (h : Good F) {k n : Nat} (hk : k < 14) (hn : n ≤ 1000) (ha : AtMost F n) (hw : F.er.getD k 0 < F.wear) :
    ∃ G e, F.clear1 k = (G, e) ∧ Near F G (k * 256) (k * 256 + 256) (n + 1) ∧
      ((e = 0 ∧ Good G ∧ ∀ j, G.b.getD j 0 = if k * 256 ≤ j ∧ j < k * 256 + 256 then 255 else F.b.getD j 0) ∨ (e = 11 ∧ G.down = true)) := by
  have rS := fun n => wrap64_rng n
  unfold Fla.clear1
  rw [h.blank hk]
  cases hb : blankSec F.b k
  · rw [if_neg (by simp)]
    by_cases hA : F.fused = true ∧ F.left = 0
    · obtain ⟨m, hm, he⟩ := h.eraseTorn hk hw hA.1 hA.2
      rw [he]
      refine ⟨_, _, rfl, ⟨?_, ?_, by simp, by simp, (rS _).2, (rS _).1, rfl, rfl, ?_, ?_⟩, .inr ⟨rfl, rfl⟩⟩
      · exact (fillAt_len (by rw [h.len]; omega)).trans h.len
      · exact (List.length_set ..).trans h.er
      · intro j hj
        refine (fillAt_getD (by rw [h.len]; omega) j).trans (if_neg (by omega))
      · exact ha.set hn (by rw [h.er]; exact hk) rfl
    · have hf1 : F.fused = true → (1 : Int) ≤ F.left := fun hf => by
        have := h.arm hf
        have : F.left ≠ 0 := fun h0 => hA ⟨hf, h0⟩
        omega
      rw [h.erase hk hw hf1]
      have hl : (fillAt F.b (k * 256) 256).length = 3584 := by rw [fillAt_len (by rw [h.len]; omega)]; exact h.len
      have hG := h.step1 1 hf1 (by omega) (fillAt F.b (k * 256) 256) (F.er.set k (wrap64 (F.er.getD k 0 + 1))) hl (by rw [List.length_set]; exact h.er)
      refine ⟨_, _, rfl, ⟨hl, (List.length_set ..).trans h.er, hG.l1, hG.l2, hG.s1, hG.s2, rfl, rfl, ?_, ?_⟩, .inl ⟨rfl, hG, ?_⟩⟩
      · intro j hj
        refine (fillAt_getD (by rw [h.len]; omega) j).trans (if_neg (by omega))
      · exact ha.set hn (by rw [h.er]; exact hk) rfl
      · intro j
        exact fillAt_getD (by rw [h.len]; omega) j
  · rw [if_pos rfl]
    refine ⟨F, 0, rfl, Near.refl h (ha.mono (by omega)), .inl ⟨rfl, h, ?_⟩⟩
    intro j
    by_cases hj : k * 256 ≤ j ∧ j < k * 256 + 256
    · rw [if_pos hj]
      have := blankSec_getD h.len hk hb (i := j - k * 256) (by omega)
      rwa [show k * 256 + (j - k * 256) = j from by omega] at this
    · rw [if_neg hj]

theorem slotClear_eq' (F : Fla) (s : Nat) : F.slotClear s = if (F.clear1 (2 + 2 * s : Nat)).2 ≠ 0 then F.clear1 (2 + 2 * s : Nat) else (F.clear1 (2 + 2 * s : Nat)).1.clear1 (3 + 2 * s : Nat) := by
  have h1 : F.clearTo (2 + (s : Int) * 2) 1 = F.clear1 (2 + 2 * s : Nat) := by
    show (if (F, (0 : Int)).2 ≠ 0 then (F, 0) else F.clear1 (2 + (s : Int) * 2 + ((0 : Nat) : Int))) = _
    rw [if_neg (by simp), show 2 + (s : Int) * 2 + ((0 : Nat) : Int) = ((2 + 2 * s : Nat) : Int) from by omega]
  show (if (F.clearTo (2 + (s : Int) * 2) 1).2 ≠ 0 then F.clearTo (2 + (s : Int) * 2) 1 else (F.clearTo (2 + (s : Int) * 2) 1).1.clear1 (2 + (s : Int) * 2 + ((1 : Nat) : Int))) = _
  rw [h1, show 2 + (s : Int) * 2 + ((1 : Nat) : Int) = ((3 + 2 * s : Nat) : Int) from by omega]

set_option maxRecDepth 100000 in
theorem slotClear_any {F : Fla} (h : Good F) {s n : Nat} (hs : s < 2) (hn : n ≤ 900) (ha : AtMost F n) (hw : (n : Int) + 1 < F.wear) :
    ∃ G e, F.slotClear s = (G, e) ∧ Near F G ((2 + 2 * s) * 256) ((2 + 2 * s) * 256 + 512) (n + 2) ∧
      ((e = 0 ∧ Good G ∧ ∀ j, G.b.getD j 0 = if (2 + 2 * s) * 256 ≤ j ∧ j < (2 + 2 * s) * 256 + 512 then 255 else F.b.getD j 0) ∨ (e = 11 ∧ G.down = true)) := by
  obtain ⟨G1, e1, h1, n1, c1⟩ := clear1_any h (k := 2 + 2 * s) (by omega) (by omega) ha (by have := (ha (2 + 2 * s)).2; omega)
  rw [slotClear_eq', h1]
  rcases c1 with ⟨rfl, g1, b1⟩ | ⟨rfl, d1⟩
  · rw [if_neg (by simp)]
    obtain ⟨G2, e2, h2, n2, c2⟩ := clear1_any g1 (k := 3 + 2 * s) (by omega) (by omega) n1.er (by have := (n1.er (3 + 2 * s)).2; rw [n1.wear]; omega)
    refine ⟨G2, e2, h2, (n1.wide (by omega) (by omega) (Nat.le_refl _)).trans (n2.wide (by omega) (by omega) (by omega)), ?_⟩
    rcases c2 with ⟨rfl, g2, b2⟩ | ⟨rfl, d2⟩
    · refine .inl ⟨rfl, g2, fun j => ?_⟩
      rw [b2, b1]
      by_cases hj : (3 + 2 * s) * 256 ≤ j ∧ j < (3 + 2 * s) * 256 + 256
      · rw [if_pos hj, if_pos (by omega)]
      · rw [if_neg hj]
        by_cases hj2 : (2 + 2 * s) * 256 ≤ j ∧ j < (2 + 2 * s) * 256 + 256
        · rw [if_pos hj2, if_pos (by omega)]
        · rw [if_neg hj2, if_neg (by omega)]
    · exact .inr ⟨rfl, d2⟩
  · rw [if_pos (by simp)]
    exact ⟨G1, 11, rfl, n1.wide (by omega) (by omega) (by omega), .inr ⟨rfl, d1⟩⟩

set_option maxRecDepth 100000 in
theorem imgRead {b img : List UInt8} (hb : b.length = 3584) {s : Nat} (hs : s < 2) (hl : img.length ≤ 512)
    (h : ∀ j, (2 + 2 * s) * 256 ≤ j → j < (2 + 2 * s) * 256 + img.length → b.getD j 0 = img.getD (j - (2 + 2 * s) * 256) 0) :
    (b.drop ((2 + 2 * s) * 256)).take img.length = img := by
  apply ext_getD
  · rw [List.length_take, List.length_drop, hb]; omega
  · intro i hi
    rw [List.length_take, List.length_drop, hb] at hi
    have h1 := h ((2 + 2 * s) * 256 + i) (by omega) (by omega)
    rw [show (2 + 2 * s) * 256 + i - (2 + 2 * s) * 256 = i from by omega] at h1
    rw [← h1, List.getD, List.getElem?_take, if_pos (by omega), List.getElem?_drop]
    rfl

set_option maxRecDepth 100000 in
/-- To write a slot, wherever power goes. -/
theorem slotWrite_any {F : Fla} (h : Good F) {s n : Nat} (hs : s < 2) {img : List UInt8} (hm : mayB img = true) (hn : n ≤ 900) (ha : AtMost F n) (hw : (n : Int) + 1 < F.wear) :
    ∃ G e, F.slotWrite s img = (G, e) ∧ Near F G ((2 + 2 * s) * 256) ((2 + 2 * s) * 256 + 512) (n + 2) ∧ (e = 0 ∨ e = 11) := by
  have rS := fun n => wrap64_rng n
  have hl : 1 ≤ img.length ∧ img.length ≤ 512 := by unfold mayB at hm; simpa using hm
  obtain ⟨G, e, h1, n1, c1⟩ := slotClear_any h hs hn ha hw
  unfold Fla.slotWrite
  rw [if_neg (by intro h; rcases h with h | h; omega; rw [hm] at h; cases h), if_neg (by simp [h.down]), h1]
  rcases c1 with ⟨rfl, g1, b1⟩ | ⟨rfl, d1⟩
  · rw [if_neg (by simp)]
    have hcast : (2 + (s : Int) * 2) * 256 = (((2 + 2 * s) * 256 : Nat) : Int) := by omega
    rw [hcast]
    by_cases hB : G.fused = true ∧ G.left < img.length
    · obtain ⟨k, hk⟩ : ∃ k : Nat, G.left = k := ⟨G.left.toNat, by have := g1.arm hB.1; omega⟩
      have hk2 : k < img.length := by have := hB.2; omega
      have htl : (img.take k).length = k := by rw [List.length_take]; omega
      have hal : (andAt G.b ((2 + 2 * s) * 256) (img.take k)).length = 3584 := by rw [andAt_len, g1.len]
      rw [g1.progTorn (a := (2 + 2 * s) * 256) (n := k) (by omega) hB.1 hk hk2, if_pos (by simp)]
      refine ⟨_, _, rfl, n1.trans ⟨?_, n1.erl, by simp, by simp, (rS _).2, (rS _).1, rfl, rfl, ?_, n1.er⟩, .inr rfl⟩
      · exact (List.length_set ..).trans hal
      · intro j hj
        refine (set_getD (by rw [hal]; omega)).trans ?_
        rw [if_neg (by omega), andAt_getD _ _ _ _ (by rw [g1.len]; omega), if_neg (by omega)]
    · have hf : G.fused = true → (img.length : Int) ≤ G.left := fun hf => by
        rcases Int.lt_or_le G.left img.length with h2 | h2
        · exact absurd ⟨hf, h2⟩ hB
        · exact h2
      rw [g1.prog (a := (2 + 2 * s) * 256) (by omega) hf, if_neg (by simp)]
      have hal : (andAt G.b ((2 + 2 * s) * 256) img).length = 3584 := by rw [andAt_len, g1.len]
      have g2 := g1.step1 img.length hf (by omega) _ _ hal g1.er
      have hr : ({ G.stepped img.length with b := andAt G.b ((2 + 2 * s) * 256) img } : Fla).slotRead s img.length = (img, 0) := by
        refine (g2.slotRead (s := s) (n := img.length) hs hl.2).trans ?_
        refine congrArg (fun x => (x, (0 : Int))) (imgRead hal hs hl.2 (fun j h1 h2 => ?_))
        rw [andAt_getD _ _ _ _ (by rw [g1.len]; omega), if_pos ⟨h1, h2⟩, b1, if_pos (by omega), and255]
      dsimp only
      have e : ({ G.stepped img.length with b := andAt G.b ((2 + 2 * s) * 256) img } : Fla).slotRead s img.length = (img, 0) := hr
      rw [e, if_neg (by simp)]
      refine ⟨_, _, rfl, n1.trans ⟨hal, n1.erl, g2.l1, g2.l2, g2.s1, g2.s2, rfl, rfl, ?_, n1.er⟩, .inl rfl⟩
      intro j hj
      exact (andAt_getD _ _ _ _ (by rw [g1.len]; omega)).trans (if_neg (by omega))
  · rw [if_pos (by simp)]
    exact ⟨G, 11, rfl, n1, .inr rfl⟩

set_option maxRecDepth 100000 in
theorem whole_plain (s : Nat) (hs : s < 2) (was image : List UInt8) (hwas : mayB was = true) (himg : mayB image = true) (m : Nat) (hm : m < 600) (torn : Int) :
    ∃ F1 F2 F4 F7 y, (Fla.new 10).slotWrite ((1 - s : Nat) : Int) was = (F1, 0) ∧ F1.slotWrite s was = (F2, 0) ∧ (F2.fuse m torn).slotWrite s image = (F4, y) ∧ (y = 0 ∨ y = 11) ∧
      ((F4.start).fuse (-1) 0).slotWrite s image = (F7, 0) ∧ F7.slotRead s image.length = (image, 0) ∧ F7.slotRead ((1 - s : Nat) : Int) was.length = (was, 0) ∧
      F7.slotRight s image.length (sha image) = true := by
  have hl : 1 ≤ was.length ∧ was.length ≤ 512 := by unfold mayB at hwas; simpa using hwas
  have hi : 1 ≤ image.length ∧ image.length ≤ 512 := by unfold mayB at himg; simpa using himg
  have ht : 1 - s < 2 := by omega
  have z : ∀ k, k < 14 → (Fla.new 10).er.getD k 0 = 0 := by decide
  obtain ⟨F1, e1, w1⟩ := slotWrite_calm (new_good 10) rfl ht hwas (by rw [new_blank 10 (by omega)]; intro h; cases h) (by rw [new_blank 10 (by omega)]; intro h; cases h)
  have er1 : ∀ k, k < 14 → F1.er.getD k 0 = 0 := by
    intro k hk
    by_cases h0 : k = 2 + 2 * (1 - s)
    · rw [h0, w1.er0, new_blank 10 (by omega), if_pos rfl, z _ (by omega)]
    · by_cases h1 : k = 3 + 2 * (1 - s)
      · rw [h1, w1.er1, new_blank 10 (by omega), if_pos rfl, z _ (by omega)]
      · rw [w1.er _ h0 h1, z _ hk]
  have hwe1 : F1.wear = 10 := w1.wear
  obtain ⟨F2, e2, w2⟩ := slotWrite_calm w1.good w1.fused hs hwas (by intro _; rw [er1 _ (by omega), hwe1]; omega) (by intro _; rw [er1 _ (by omega), hwe1]; omega)
  have hwe2 : F2.wear = 10 := w2.wear.trans hwe1
  have er2 : AtMost F2 1 := by
    intro k
    have hw1 : wrap64 (0 + 1) = 1 := by unfold wrap64; omega
    by_cases hk : k < 14
    · by_cases h0 : k = 2 + 2 * s
      · rw [h0, w2.er0, er1 _ (by omega), hw1]; split <;> omega
      · by_cases h1 : k = 3 + 2 * s
        · rw [h1, w2.er1, er1 _ (by omega), hw1]; split <;> omega
        · rw [w2.er _ h0 h1, er1 _ hk]; omega
    · rw [List.getD, List.getElem?_eq_none (by rw [w2.good.er]; omega)]; simp
  have g3 : Good (F2.fuse m torn) := ⟨w2.good.len, w2.good.er, w2.good.down, (fun _ => (by show (0 : Int) ≤ (m : Int); omega)), (by show (m : Int) ≤ _; omega), (by show _ ≤ (m : Int); omega), w2.good.s1, w2.good.s2⟩
  obtain ⟨F4, y, e4, n4, hy⟩ := slotWrite_any g3 hs himg (n := 1) (by omega) er2 (by show (1 : Int) + 1 < F2.wear; omega)
  have g6 : Good ((F4.start).fuse (-1) 0) := ⟨n4.len, n4.erl, rfl, (fun h => Bool.noConfusion h), (by show (-1 : Int) ≤ _; omega), (by show _ ≤ (-1 : Int); omega), n4.s1, n4.s2⟩
  have hwe4 : ((F4.start).fuse (-1) 0).wear = 10 := n4.wear.trans hwe2
  obtain ⟨F7, e7, w7⟩ := slotWrite_calm g6 rfl hs himg (by intro _; have := (n4.er (2 + 2 * s)).2; rw [hwe4]; show F4.er.getD _ 0 < 10; omega) (by intro _; have := (n4.er (3 + 2 * s)).2; rw [hwe4]; show F4.er.getD _ 0 < 10; omega)
  refine ⟨F1, F2, F4, F7, y, e1, e2, e4, hy, e7, w7.read, ?_, ?_⟩
  · refine (w7.good.slotRead ht hl.2).trans ?_
    refine congrArg (fun x => (x, (0 : Int))) (imgRead w7.good.len ht hl.2 (fun j h1 h2 => ?_))
    rw [w7.b, if_neg (by omega)]
    show F4.b.getD j 0 = _
    rw [n4.out j (by omega)]
    show F2.b.getD j 0 = _
    rw [w2.b, if_neg (by omega), w1.b, if_pos (by omega)]
    unfold imgAt
    rw [if_pos (by omega)]
  · unfold Fla.slotRight
    rw [if_neg (by omega), w7.read, if_neg (by simp)]
    simp

end Go.Proofs.Ythjojkkjdaoocaa
