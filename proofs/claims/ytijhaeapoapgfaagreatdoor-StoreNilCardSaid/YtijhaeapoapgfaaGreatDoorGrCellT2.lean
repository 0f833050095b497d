/-
  GrCellT2: the texts CellT2, WhT, one behind another.
-/
import Derived.Test.YtijhaeapoapgfaaGreatDoorGrElM
set_option linter.unusedVariables false
set_option linter.unusedSimpArgs false
namespace Go.Proofs.YtijhaeapoapgfaaGreatDoor
open Go.RowKit

/-- A flash that has power; a fuse that is set has not blown. -/
structure Good (F : Fla) : Prop where
  len : F.b.length = 3584
  er : F.er.length = 14
  down : F.down = false
  arm : F.fused = true → 0 ≤ F.left
  l1 : F.left ≤ 9223372036854775807
  l2 : -9223372036854775808 ≤ F.left
  s1 : F.steps ≤ 9223372036854775807
  s2 : -9223372036854775808 ≤ F.steps

theorem wrap64_rng (n : Int) : -9223372036854775808 ≤ wrap64 n ∧ wrap64 n ≤ 9223372036854775807 := by unfold wrap64; omega

theorem Good.ready {F : Fla} (h : Good F) {a n : Nat} (han : a + n ≤ 3584) : F.ready a n = 0 := by
  unfold Fla.ready; rw [if_neg (by simp [h.down]), if_neg (by omega)]

theorem Good.prog {F : Fla} (h : Good F) {a : Nat} {l : List UInt8} (hl : a + l.length ≤ 3584) (hf : F.fused = true → (l.length : Int) ≤ F.left) :
    F.program a l = ({ F.stepped l.length with b := andAt F.b a l }, 0) := by
  unfold Fla.program
  rw [h.ready hl, if_neg (by simp)]
  exact Fla.prog_whole l F a h.down hf h.l1 h.l2 h.s1 h.s2

theorem Good.progTorn {F : Fla} (h : Good F) {a n : Nat} {l : List UInt8} (hl : a + l.length ≤ 3584) (hf : F.fused = true) (hn : F.left = n) (hnl : n < l.length) :
    F.program a l = ({ F with b := (andAt F.b a (l.take n)).set (a + n) ((andAt F.b a (l.take n)).getD (a + n) 0 &&& (l.getD n 0 ||| F.tornB)), steps := wrap64 (F.steps + (n + 1)), left := -1, down := true }, 11) := by
  unfold Fla.program
  rw [h.ready hl, if_neg (by simp)]
  exact Fla.prog_torn l F a n h.down hf hn hnl (by omega)

theorem Good.erase {F : Fla} (h : Good F) {s : Nat} (hs : s < 14) (hw : F.er.getD s 0 < F.wear) (hf : F.fused = true → 1 ≤ F.left) :
    F.erase s = ({ F.stepped 1 with er := F.er.set s (wrap64 (F.er.getD s 0 + 1)), b := fillAt F.b (s * 256) 256 }, 0) := by
  have hd : F.step.down = false := by
    unfold Fla.step
    simp only [h.down, Bool.false_or]
    cases hfu : F.fused
    · rfl
    · have := hf hfu
      have := h.l1
      simp only [Bool.true_and, decide_eq_false_iff_not]
      rw [IntWalk.wrap64_in _ (by omega)]; omega
  unfold Fla.erase
  rw [if_neg (by simp [h.down]), if_neg (by omega), if_neg (by simp only [Int.toNat_natCast]; omega)]
  simp only [hd, Int.toNat_natCast]
  rw [if_neg (by simp)]
  have hd2 : F.step.down = F.down := by rw [hd, h.down]
  unfold Fla.step at hd2
  unfold Fla.fill Fla.stepped Fla.step fillAt
  simp only at hd2 ⊢
  rw [h.down]
  rfl

theorem Good.eraseTorn {F : Fla} (h : Good F) {s : Nat} (hs : s < 14) (hw : F.er.getD s 0 < F.wear) (hf : F.fused = true) (hl : F.left = 0) :
    ∃ n, n ≤ 256 ∧ F.erase s = ({ F with er := F.er.set s (wrap64 (F.er.getD s 0 + 1)), b := fillAt F.b (s * 256) n, steps := wrap64 (F.steps + 1), left := -1, down := true }, 11) := by
  have hd : F.step.down = true := by
    unfold Fla.step
    simp only [hf, hl, Bool.true_and]
    rw [IntWalk.wrap64_in _ (by omega)]; simp
  refine ⟨((max 0 F.torn) % 257).toNat, by omega, ?_⟩
  unfold Fla.erase
  rw [if_neg (by simp [h.down]), if_neg (by omega), if_neg (by simp only [Int.toNat_natCast]; omega)]
  simp only [hd, Int.toNat_natCast]
  rw [if_pos trivial]
  unfold Fla.step at hd
  unfold Fla.fill Fla.step fillAt
  simp only at hd ⊢
  rw [hl, IntWalk.wrap64_in (0 - 1) (by omega)]
  rfl

theorem set_getD {l : List UInt8} {i j : Nat} {x : UInt8} (hi : i < l.length) : (l.set i x).getD j 0 = if i = j then x else l.getD j 0 := by
  rw [getD_setB]
  by_cases h : i = j
  · rw [if_pos ⟨h, by omega⟩, if_pos h]
  · rw [if_neg (by omega), if_neg h]

theorem or_ne (x t : UInt8) (h : x ≠ 0) : x ||| t ≠ 0 := by
  intro e
  apply h
  apply UInt8.toNat_inj.1
  have := congrArg UInt8.toNat e
  rw [UInt8.toNat_or] at this
  have h1 := Nat.left_le_or (n := x.toNat) (m := t.toNat)
  have h2 : (0 : UInt8).toNat = 0 := rfl
  omega

theorem out_4 (n : UInt32) (b : List UInt8) (hb : b.length ≤ 245) : (Fla.cellOut n b).getD 4 0 = 0 := by
  have := out_getD (n := n) (b := b) (m := []) (i := 4) (by omega)
  rw [List.append_nil] at this
  rw [this]
  show UInt8.ofNat (b.length / 256) = 0
  rw [show b.length / 256 = 0 from by omega]; rfl
theorem out_5 (n : UInt32) (b : List UInt8) : (Fla.cellOut n b).getD 5 0 = UInt8.ofNat b.length := by
  have := out_getD (n := n) (b := b) (m := []) (i := 5) (by omega)
  rw [List.append_nil] at this
  rw [this]; rfl
theorem ofNat_len {b : List UInt8} (hb : b.length ≤ 245) : (UInt8.ofNat b.length).toNat = b.length := by
  rw [UInt8.toNat_ofNat']; omega

/-- A copy that was torn says nothing. -/
theorem torn_dead (n : UInt32) (b : List UInt8) (hb : b.length ≤ 245) (k : Nat) (hk : k < 10 + b.length) (t : UInt8) :
    Dead ((andAt (List.replicate 256 255) 0 ((Fla.cellOut n b).take k)).set k (255 &&& ((Fla.cellOut n b).getD k 0 ||| t))) := by
  have hol := cellOut_len n b
  have htl : ((Fla.cellOut n b).take k).length = k := by rw [List.length_take]; omega
  rw [andAt_blank (by omega), and255]
  have hl : ((Fla.cellOut n b).take k ++ List.replicate (256 - ((Fla.cellOut n b).take k).length) 255).length = 256 := by rw [List.length_append, List.length_replicate]; omega
  have hlt : ∀ i, i < k → (((Fla.cellOut n b).take k ++ List.replicate (256 - ((Fla.cellOut n b).take k).length) 255).set k ((Fla.cellOut n b).getD k 0 ||| t)).getD i 0 = (Fla.cellOut n b).getD i 0 := by
    intro i hi
    rw [set_getD (by omega), if_neg (by omega), getD_app_left (by omega), List.getD, List.getElem?_take, if_pos hi]; rfl
  have heq : (((Fla.cellOut n b).take k ++ List.replicate (256 - ((Fla.cellOut n b).take k).length) 255).set k ((Fla.cellOut n b).getD k 0 ||| t)).getD k 0 = ((Fla.cellOut n b).getD k 0 ||| t) := by
    rw [set_getD (by omega), if_pos rfl]
  have hgt : ∀ i, k < i → i < 256 → (((Fla.cellOut n b).take k ++ List.replicate (256 - ((Fla.cellOut n b).take k).length) 255).set k ((Fla.cellOut n b).getD k 0 ||| t)).getD i 0 = 255 := by
    intro i hi h256
    rw [set_getD (by omega), if_neg (by omega), List.getD, List.getElem?_append_right (by omega), List.getElem?_replicate, if_pos (by omega)]; rfl
  have hsl : (((Fla.cellOut n b).take k ++ List.replicate (256 - ((Fla.cellOut n b).take k).length) 255).set k ((Fla.cellOut n b).getD k 0 ||| t)).length = 256 := by rw [List.length_set, hl]
  generalize (((Fla.cellOut n b).take k ++ List.replicate (256 - ((Fla.cellOut n b).take k).length) 255).set k ((Fla.cellOut n b).getD k 0 ||| t)) = s at *
  have h255 : (255 : UInt8).toNat = 255 := rfl
  have h0 : (0 : UInt8).toNat = 0 := rfl
  refine ⟨hsl, ?_⟩
  by_cases h4 : k < 4
  · left; exact cpLen_dead (hgt 4 h4 (by omega))
  by_cases h4' : k = 4
  · left
    unfold cpLen
    rw [hgt 5 (by omega) (by omega), h255]; omega
  have e4 : s.getD 4 0 = 0 := by rw [hlt 4 (by omega), out_4 n b hb]
  by_cases h5 : k = 5
  · by_cases hc : cpLen s > 245
    · exact .inl hc
    · right
      rw [hgt _ (by omega) (by omega)]; simp
  · right
    have e5 : s.getD 5 0 = UInt8.ofNat b.length := by rw [hlt 5 (by omega), out_5]
    have hc : cpLen s = b.length := by unfold cpLen; rw [e4, e5, h0, ofNat_len hb]; omega
    rw [hc, hgt _ (by omega) (by omega)]; simp

/-- A copy whose mark is not, or may be, what it should be. -/
theorem mark_cases (n : UInt32) (b : List UInt8) (hb : b.length ≤ 245) (t : UInt8) (s : List UInt8) (hs : s = Fla.cellOut n b ++ t :: List.replicate (245 - b.length) 255) :
    (t = 0 → Headed s n b 0) ∧ (t ≠ 0 → Dead s) := by
  refine ⟨fun h => ⟨hb, by omega, List.replicate (245 - b.length) 255, by rw [List.length_replicate], ?_⟩, fun h => ⟨?_, .inr ?_⟩⟩
  · subst h; rw [hs]; unfold worn; simp
  · rw [hs, List.length_append, cellOut_len, List.length_cons, List.length_replicate]; omega
  · rw [hs, out_cpLen hb, List.getD, List.getElem?_append_right (by rw [cellOut_len]; omega), cellOut_len, Nat.sub_self]
    exact h

theorem Good.step1 {F : Fla} (h : Good F) (n : Nat) (hf : F.fused = true → (n : Int) ≤ F.left) (hn : n < 4611686018427387904) (b : List UInt8) (e : List Int) (hb : b.length = 3584) (he : e.length = 14) : Good { F.stepped n with b := b, er := e } := by
  have r1 := wrap64_rng (F.left - n)
  have r2 := wrap64_rng (F.steps + n)
  have h1 := h.l1
  refine ⟨hb, he, h.down, fun hfu => ?_, r1.2, r1.1, r2.2, r2.1⟩
  have := hf hfu
  show 0 ≤ wrap64 (F.left - n)
  rw [IntWalk.wrap64_in _ (by omega)]; omega

set_option maxRecDepth 100000 in
/-- What a write of a copy does, wherever power goes. -/
theorem cellPut_spec {F : Fla} (hG : Good F) (T : Nat) (hT : T < 2) (hw : F.er.getD T 0 < F.wear) (n : UInt32) (b : List UInt8) (hb : b.length ≤ 245) :
    ∃ G e, F.cellPut T (T * 256 : Nat) (Fla.cellOut n b) = (G, e) ∧ G.b.length = 3584 ∧ G.er = F.er.set T (wrap64 (F.er.getD T 0 + 1)) ∧ G.wear = F.wear ∧ G.fused = F.fused ∧
      (∀ j, j < 14 → j ≠ T → secOf G.b j = secOf F.b j) ∧
      (-9223372036854775808 ≤ G.left ∧ G.left ≤ 9223372036854775807 ∧ -9223372036854775808 ≤ G.steps ∧ G.steps ≤ 9223372036854775807) ∧
      ((e = 0 ∧ Good G ∧ Headed (secOf G.b T) n b 0 ∧ G.steps = wrap64 (F.steps + (12 + b.length)) ∧ (F.fused = true → G.left = F.left - (12 + b.length))) ∨
       (e = 11 ∧ G.down = true ∧ F.fused = true ∧ ((∃ m, m ≤ 256 ∧ secOf G.b T = worn (secOf F.b T) m) ∨ Dead (secOf G.b T) ∨ Headed (secOf G.b T) n b 0))) := by
  have hol := cellOut_len n b
  have rS := fun n => wrap64_rng n
  unfold Fla.cellPut
  by_cases hA : F.fused = true ∧ F.left = 0
  · obtain ⟨m, hm, he⟩ := hG.eraseTorn (s := T) (by omega) hw hA.1 hA.2
    rw [he]
    refine ⟨_, _, if_pos (by simp), ?_, rfl, rfl, rfl, ?_, ⟨by simp, by simp, (rS _).1, (rS _).2⟩, .inr ⟨rfl, rfl, hA.1, .inl ⟨m, hm, ?_⟩⟩⟩
    · exact (fillAt_len (by rw [hG.len]; omega)).trans hG.len
    · intro j hj hjT; exact secOf_fill_other hG.len (by omega) hj hjT hm
    · exact secOf_fill_same hG.len (by omega) hm
  have hf1 : F.fused = true → 1 ≤ F.left := fun h => by
    have := hG.arm h
    have : F.left ≠ 0 := fun h0 => hA ⟨h, h0⟩
    omega
  rw [hG.erase (s := T) (by omega) hw hf1]
  have hlen1 : (fillAt F.b (T * 256) 256).length = 3584 := (fillAt_len (by rw [hG.len]; omega)).trans hG.len
  have hG1 := hG.step1 1 hf1 (by omega) (fillAt F.b (T * 256) 256) (F.er.set T (wrap64 (F.er.getD T 0 + 1))) hlen1 (by rw [List.length_set, hG.er])
  have hs1 : secOf (fillAt F.b (T * 256) 256) T = List.replicate 256 255 := by rw [secOf_fill_same hG.len (by omega) (by omega), worn_all (secOf_len hG.len (by omega))]
  have ho1 : ∀ j, j < 14 → j ≠ T → secOf (fillAt F.b (T * 256) 256) j = secOf F.b j := fun j hj hjT => secOf_fill_other hG.len (by omega) hj hjT (by omega)
  have hleft1 : F.fused = true → wrap64 (F.left - 1) = F.left - 1 := fun h => by have := hf1 h; have := hG.l1; exact IntWalk.wrap64_in _ (by omega)
  rw [if_neg (by simp)]
  dsimp only
  obtain ⟨F1, hF1⟩ : ∃ F1, F1 = ({ F.stepped 1 with er := F.er.set T (wrap64 (F.er.getD T 0 + 1)), b := fillAt F.b (T * 256) 256 } : Fla) := ⟨_, rfl⟩
  have hG1' : Good F1 := hF1 ▸ hG1
  have b1 : F1.b = fillAt F.b (T * 256) 256 := by rw [hF1]
  have e1 : F1.er = F.er.set T (wrap64 (F.er.getD T 0 + 1)) := by rw [hF1]
  have w1 : F1.wear = F.wear := by rw [hF1]; rfl
  have f1 : F1.fused = F.fused := by rw [hF1]; rfl
  have st1 : F1.steps = wrap64 (F.steps + 1) := by rw [hF1]; rfl
  have lf1 : F.fused = true → F1.left = F.left - 1 := fun h => by rw [hF1]; exact hleft1 h
  rw [← hF1]
  clear hF1 hG1
  rw [← b1] at hlen1 hs1 ho1
  rw [← e1]
  have hae : ∀ l : List UInt8, l.length ≤ 256 → secOf (andAt F1.b (T * 256) l) T = andAt (List.replicate 256 255) 0 l := fun l hl => by
    have := secOf_andAt_same hlen1 (k := T) (by omega) 0 l (by omega)
    rw [hs1] at this
    exact this
  have hao : ∀ l : List UInt8, l.length ≤ 256 → ∀ j, j < 14 → j ≠ T → secOf (andAt F1.b (T * 256) l) j = secOf F.b j := fun l hl j hj hjT => by
    have := secOf_andAt_other hlen1 (k := T) (j := j) (by omega) hj hjT 0 l (by omega)
    exact this.trans (ho1 j hj hjT)
  by_cases hB : F.fused = true ∧ F1.left < (10 + b.length : Nat)
  · obtain ⟨k, hk⟩ : ∃ k : Nat, F1.left = k := ⟨F1.left.toNat, by have := hG1'.arm (f1.trans hB.1); omega⟩
    have hk2 : k < 10 + b.length := by have := hB.2; omega
    have htl : ((Fla.cellOut n b).take k).length = k := by rw [List.length_take]; omega
    have hal : (andAt F1.b (T * 256) ((Fla.cellOut n b).take k)).length = 3584 := by rw [andAt_len, hlen1]
    rw [hG1'.progTorn (a := T * 256) (n := k) (by rw [hol]; omega) (f1.trans hB.1) hk (by omega)]
    refine ⟨_, _, if_pos (by simp), ?_, rfl, w1, f1, ?_, ⟨by simp, by simp, (rS _).1, (rS _).2⟩, .inr ⟨rfl, rfl, hB.1, .inr (.inl ?_)⟩⟩
    · show ((andAt F1.b (T * 256) ((Fla.cellOut n b).take k)).set _ _).length = 3584
      rw [List.length_set, hal]
    · intro j hj hjT
      show secOf ((andAt F1.b (T * 256) ((Fla.cellOut n b).take k)).set _ _) j = _
      rw [secOf_set_other hal hj (by omega) hjT]
      exact hao _ (by omega) j hj hjT
    · show Dead (secOf ((andAt F1.b (T * 256) ((Fla.cellOut n b).take k)).set _ _) T)
      rw [secOf_set_same hal (by omega) (by omega), ← secOf_getD (k := T) (by omega), hae _ (by omega)]
      have h255 : (andAt (List.replicate 256 255) 0 ((Fla.cellOut n b).take k)).getD k 0 = 255 := by
        rw [andAt_getD _ _ _ _ (by rw [List.length_replicate]; omega), if_neg (by omega), replicate_getD _ _ (by omega)]
      rw [h255]
      exact torn_dead n b hb k hk2 _
  have hf2 : F1.fused = true → ((Fla.cellOut n b).length : Int) ≤ F1.left := fun h => by
    rw [hol]
    rcases Int.lt_or_le F1.left (10 + b.length : Nat) with h2 | h2
    · exact absurd ⟨f1.symm.trans h, h2⟩ hB
    · exact h2
  rw [hG1'.prog (a := T * 256) (by rw [hol]; omega) hf2]
  rw [if_neg (by simp)]
  dsimp only
  have hlen2 : (andAt F1.b (T * 256) (Fla.cellOut n b)).length = 3584 := by rw [andAt_len, hlen1]
  have hG2 := hG1'.step1 (Fla.cellOut n b).length hf2 (by omega) (andAt F1.b (T * 256) (Fla.cellOut n b)) F1.er hlen2 hG1'.er
  have hs2 : secOf (andAt F1.b (T * 256) (Fla.cellOut n b)) T = Fla.cellOut n b ++ List.replicate (256 - (Fla.cellOut n b).length) 255 := by
    rw [hae _ (by omega), andAt_blank (by omega)]
  have ho2 := hao (Fla.cellOut n b) (by omega)
  obtain ⟨F2, hF2⟩ : ∃ F2, F2 = ({ F1.stepped (Fla.cellOut n b).length with b := andAt F1.b (T * 256) (Fla.cellOut n b) } : Fla) := ⟨_, rfl⟩
  have hG2' : Good F2 := hF2 ▸ hG2
  have b2 : F2.b = andAt F1.b (T * 256) (Fla.cellOut n b) := by rw [hF2]
  have e2 : F2.er = F1.er := by rw [hF2]; rfl
  have w2 : F2.wear = F.wear := by rw [hF2]; exact w1
  have f2 : F2.fused = F.fused := by rw [hF2]; exact f1
  have st2 : F2.steps = wrap64 (F1.steps + (Fla.cellOut n b).length) := by rw [hF2]; rfl
  have lf2 : F.fused = true → F2.left = F.left - (11 + b.length) := fun h => by
    have h1 := hf2 (f1.trans h)
    have h2 := hG1'.l1
    have h3 := lf1 h
    rw [hF2]
    show wrap64 (F1.left - (Fla.cellOut n b).length) = _
    rw [IntWalk.wrap64_in _ (by omega), hol]
    omega
  rw [← hF2]
  clear hF2 hG2
  rw [← b2] at hlen2 hs2 ho2
  rw [← e2]
  clear hae hao b1 e1 hf2 hB lf1 hlen1 hs1 ho1 hA hf1 hleft1
  rw [← Int.natCast_add]
  have hL : (Fla.cellOut n b).length = 10 + b.length := hol
  have hmk : ∀ t : UInt8, (Fla.cellOut n b ++ List.replicate (256 - (Fla.cellOut n b).length) 255).set (Fla.cellOut n b).length t = Fla.cellOut n b ++ t :: List.replicate (245 - b.length) 255 := fun t => by
    rw [List.set_append_right _ _ (Nat.le_refl _), Nat.sub_self, show 256 - (Fla.cellOut n b).length = (245 - b.length) + 1 from by omega, List.replicate_succ, List.set_cons_zero]
  have h255 : (secOf F2.b T).getD (Fla.cellOut n b).length 0 = 255 := by
    rw [hs2, List.getD, List.getElem?_append_right (Nat.le_refl _), Nat.sub_self, List.getElem?_replicate, if_pos (by omega)]; rfl
  by_cases hC : F.fused = true ∧ F2.left = 0
  · rw [hG2'.progTorn (a := T * 256 + (Fla.cellOut n b).length) (n := 0) (l := [0]) (by simp; omega) (f2.trans hC.1) hC.2 (by simp)]
    refine ⟨_, _, rfl, ?_, rfl, w2, f2, ?_, ⟨by simp, by simp, (rS _).1, (rS _).2⟩, .inr ⟨rfl, rfl, hC.1, .inr ?_⟩⟩
    · show (F2.b.set _ _).length = 3584
      rw [List.length_set, hlen2]
    · intro j hj hjT
      show secOf (F2.b.set (T * 256 + (Fla.cellOut n b).length + 0) _) j = _
      rw [Nat.add_zero, secOf_set_other hlen2 hj (by omega) hjT]
      exact ho2 j hj hjT
    · show Dead (secOf (F2.b.set (T * 256 + (Fla.cellOut n b).length + 0) (F2.b.getD (T * 256 + (Fla.cellOut n b).length + 0) 0 &&& (0 ||| F2.tornB))) T) ∨ Headed (secOf (F2.b.set (T * 256 + (Fla.cellOut n b).length + 0) (F2.b.getD (T * 256 + (Fla.cellOut n b).length + 0) 0 &&& (0 ||| F2.tornB))) T) n b 0
      rw [Nat.add_zero, secOf_set_same hlen2 (by omega) (by omega), ← secOf_getD (k := T) (by omega), h255, and255, UInt8.zero_or, hs2, hmk]
      have hm := mark_cases n b hb F2.tornB _ rfl
      by_cases ht : F2.tornB = 0
      · exact .inr (hm.1 ht)
      · exact .inl (hm.2 ht)
  have hf3 : F2.fused = true → (([0] : List UInt8).length : Int) ≤ F2.left := fun h => by
    have h1 := hG2'.arm h
    have h2 : F2.left ≠ 0 := fun h0 => hC ⟨f2.symm.trans h, h0⟩
    simp only [List.length_cons, List.length_nil]
    omega
  rw [hG2'.prog (a := T * 256 + (Fla.cellOut n b).length) (l := [0]) (by simp; omega) hf3]
  have hlen3 : (andAt F2.b (T * 256 + (Fla.cellOut n b).length) [0]).length = 3584 := by rw [andAt_len, hlen2]
  have hG3 := hG2'.step1 1 hf3 (by omega) (andAt F2.b (T * 256 + (Fla.cellOut n b).length) [0]) F2.er hlen3 hG2'.er
  refine ⟨_, _, rfl, hlen3, rfl, w2, f2, ?_, ⟨(rS _).1, (rS _).2, (rS _).1, (rS _).2⟩, .inl ⟨rfl, hG3, ?_, ?_, ?_⟩⟩
  · intro j hj hjT
    exact (secOf_andAt_other hlen2 (by omega) hj hjT _ [0] (by simp; omega)).trans (ho2 j hj hjT)
  · show Headed (secOf (andAt F2.b (T * 256 + (Fla.cellOut n b).length) [0]) T) n b 0
    rw [secOf_andAt_same hlen2 (by omega) _ [0] (by simp; omega)]
    show Headed ((secOf F2.b T).set (Fla.cellOut n b).length ((secOf F2.b T).getD (Fla.cellOut n b).length 0 &&& 0)) n b 0
    rw [h255, and255, hs2, hmk]
    exact (mark_cases n b hb 0 _ rfl).1 rfl
  · show wrap64 (F2.steps + 1) = _
    rw [st2, st1, wrap64_add_wrap, Int.add_assoc, wrap64_add_wrap, hol]
    congr 1
    omega
  · intro h
    show wrap64 (F2.left - 1) = _
    have h1 := lf2 h
    have h2 := hG2'.l1
    have h3 := hf3 (f2.trans h)
    simp only [List.length_cons, List.length_nil] at h3
    rw [IntWalk.wrap64_in _ (by omega)]
    omega

end Go.Proofs.YtijhaeapoapgfaaGreatDoor

/-
  CellT3: the cell tells what was there, or what was written, whole, wherever power goes.
-/
set_option linter.unusedVariables false
set_option linter.unusedSimpArgs false
namespace Go.Proofs.YtijhaeapoapgfaaGreatDoor
open Go.RowKit

/-- A sector that does not count beside a copy of number cur. -/
def Other (s : List UInt8) (cur : UInt32) : Prop := Dead s ∨ ∃ n b k, Headed s n b k ∧ n.toNat < cur.toNat

structure CellIs (F : Fla) (C : Nat) (cur : UInt32) (was : List UInt8) : Prop where
  C2 : C < 2
  small : cur.toNat < 16777216
  head : Headed (secOf F.b C) cur was 0
  other : Other (secOf F.b (1 - C)) cur

theorem Other.copy {s : List UInt8} {cur : UInt32} (h : Other s cur) (hs : cur.toNat < 16777216) : cellCopy s = none ∨ ∃ n b, cellCopy s = some (n, b) ∧ n.toNat < cur.toNat := by
  rcases h with h | ⟨n, b, k, h, hn⟩
  · exact .inl h.copy
  · by_cases hk : k = 0
    · subst hk; exact .inr ⟨n, b, h.copy0, hn⟩
    · exact .inl (h.copyk hk (by omega))

theorem Other.wornTo {s : List UInt8} {cur : UInt32} (h : Other s cur) {m : Nat} (hm : m ≤ 256) : Other (worn s m) cur := by
  rcases h with h | ⟨n, b, k, h, hn⟩
  · exact .inl (h.wornTo hm)
  · rcases h.wornTo hm with ⟨j, hj⟩ | hd
    · exact .inr ⟨n, b, j, hj, hn⟩
    · exact .inl hd

theorem Other.mono {s : List UInt8} {c d : UInt32} (h : Other s c) (hcd : c.toNat ≤ d.toNat) : Other s d := by
  rcases h with h | ⟨n, b, k, h, hn⟩
  · exact .inl h
  · exact .inr ⟨n, b, k, h, by omega⟩

theorem Fla.whole_eq {F : Fla} (hd : F.down = false) (k : Nat) : F.whole k = cellCopy (secOf F.b k) := by unfold Fla.whole; rw [if_neg (by simp [hd])]; rfl

theorem found_eq (F : Fla) : F.found = Fla.stepF (Fla.stepF none 0 (F.whole 0)) 1 (F.whole 1) := rfl

set_option maxRecDepth 100000 in
theorem CellIs.found {F : Fla} {C : Nat} {cur : UInt32} {was : List UInt8} (h : CellIs F C cur was) (hd : F.down = false) : F.found = some (cur, was, C) := by
  have h0 := h.head.copy0
  have h1 := h.other.copy h.small
  have hC := h.C2
  rw [found_eq, F.whole_eq hd, F.whole_eq hd]
  clear h
  rcases Nat.lt_or_ge C 1 with hc | hc
  · obtain rfl : C = 0 := by omega
    rw [h0]
    rcases h1 with h1 | ⟨n, b, h1, hn⟩
    · rw [show (1 - 0) = 1 from rfl] at h1
      rw [h1]; rfl
    · rw [show (1 - 0) = 1 from rfl] at h1
      rw [h1]
      exact Fla.step_keep (st := some (cur, was, 0)) (by simp [Fla.stAt]) (by simp only [Fla.stNum, Option.map_some, Option.getD_some]; omega)
  · obtain rfl : C = 1 := by omega
    rw [h0]
    rcases h1 with h1 | ⟨n, b, h1, hn⟩
    · rw [show (1 - 1) = 0 from rfl] at h1
      rw [h1]; rfl
    · rw [show (1 - 1) = 0 from rfl] at h1
      rw [h1]
      exact Fla.step_take (st := some (n, b, 0)) (.inr (by simp only [Fla.stNum, Option.map_some, Option.getD_some]; omega))

theorem found_none {F : Fla} (h0 : Dead (secOf F.b 0)) (h1 : Dead (secOf F.b 1)) : F.found = none := by
  rw [found_eq]
  have w (k : Nat) (h : Dead (secOf F.b k)) : F.whole k = none := by
    unfold Fla.whole
    split
    · rfl
    · exact h.copy
  rw [w 0 h0, w 1 h1]; rfl

theorem CellIs.read {F : Fla} {C : Nat} {cur : UInt32} {was : List UInt8} (h : CellIs F C cur was) (hd : F.down = false) : F.cellRead = (was, 0) := by
  unfold Fla.cellRead
  rw [if_neg (by simp [hd]), h.found hd, if_neg (by simp only [Fla.stAt]; omega)]
  rfl

/-- What is as it was but for the cell's two sectors and the counts. -/
structure Rest (F G : Fla) (T : Nat) : Prop where
  len : G.b.length = 3584
  er : G.er = F.er.set T (wrap64 (F.er.getD T 0 + 1))
  wear : G.wear = F.wear
  fused : G.fused = F.fused
  secs : ∀ j, j < 14 → j ≠ T → secOf G.b j = secOf F.b j
  l1 : G.left ≤ 9223372036854775807
  l2 : -9223372036854775808 ≤ G.left
  s1 : G.steps ≤ 9223372036854775807
  s2 : -9223372036854775808 ≤ G.steps

theorem cellPut_is {F : Fla} (hG : Good F) (T : Nat) (hT : T < 2) (hw : F.er.getD T 0 < F.wear) (cur : UInt32) (b : List UInt8) (hb : b.length ≤ 245) (hcur : cur.toNat + 1 < 16777216) (ho : Other (secOf F.b T) cur) :
    ∃ G e, F.cellPut T (T * 256 : Nat) (Fla.cellOut (cur + 1) b) = (G, e) ∧ Rest F G T ∧
      ((e = 0 ∧ Good G ∧ Headed (secOf G.b T) (cur + 1) b 0 ∧ G.steps = wrap64 (F.steps + (12 + b.length))) ∨
       (e = 11 ∧ G.down = true ∧ F.fused = true ∧ (Other (secOf G.b T) cur ∨ Headed (secOf G.b T) (cur + 1) b 0))) := by
  obtain ⟨G, e, h1, h2, h3, h4, h5, h6, h7, h8⟩ := cellPut_spec hG T hT hw (cur + 1) b hb
  refine ⟨G, e, h1, ⟨h2, h3, h4, h5, h6, h7.2.1, h7.1, h7.2.2.2, h7.2.2.1⟩, ?_⟩
  rcases h8 with ⟨he, hg, hh, hs, _⟩ | ⟨he, hd, hf, hh⟩
  · exact .inl ⟨he, hg, hh, hs⟩
  · refine .inr ⟨he, hd, hf, ?_⟩
    rcases hh with ⟨m, hm, hh⟩ | hh | hh
    · rw [hh]; exact .inl (ho.wornTo hm)
    · exact .inl (.inl hh)
    · exact .inr hh

theorem succ_toNat {cur : UInt32} (h : cur.toNat + 1 < 16777216) : (cur + 1).toNat = cur.toNat + 1 := by
  rw [UInt32.toNat_add]
  show (cur.toNat + 1) % 4294967296 = _
  omega

/-- A write over a cell: what was, or what is written; what is written, if it says OK. -/
theorem CellIs.write {F : Fla} {C : Nat} {cur : UInt32} {was : List UInt8} (h : CellIs F C cur was) (hG : Good F) (hw : F.er.getD (1 - C) 0 < F.wear) (b : List UInt8) (hb : b.length ≤ 245) (hcur : cur.toNat + 1 < 16777216) :
    ∃ G e, F.cellWrite b = (G, e) ∧ Rest F G (1 - C) ∧
      ((e = 0 ∧ Good G ∧ CellIs G (1 - C) (cur + 1) b ∧ G.steps = wrap64 (F.steps + (12 + b.length))) ∨
       (e = 11 ∧ G.down = true ∧ F.fused = true ∧ (CellIs G C cur was ∨ CellIs G (1 - C) (cur + 1) b))) := by
  have hC := h.C2
  have hf := h.found hG.down
  have hs := succ_toNat hcur
  have hmax : ¬ (cur = 4294967295) := fun e => by
    rw [e] at hcur
    exact absurd hcur (by decide)
  have hW : F.cellWrite b = F.cellPut (1 - C : Nat) ((1 - C) * 256 : Nat) (Fla.cellOut (cur + 1) b) := by
    unfold Fla.cellWrite
    rw [if_neg (by omega), if_neg (by simp [hG.down]), hf]
    show (if cur = 4294967295 then _ else if ((C : Int) = 0) then _ else _) = _
    rw [if_neg hmax]
    match C, hC with
    | 0, _ => rfl
    | 1, _ => rfl
  obtain ⟨G, e, h1, hR, h2⟩ := cellPut_is hG (1 - C) (by omega) hw cur b hb hcur h.other
  have hsC : secOf G.b C = secOf F.b C := hR.secs C (by omega) (by omega)
  have hn : Headed (secOf G.b (1 - C)) (cur + 1) b 0 → CellIs G (1 - C) (cur + 1) b := fun hh =>
    ⟨by omega, by omega, hh, by rw [show 1 - (1 - C) = C from by omega, hsC]; exact .inr ⟨cur, was, 0, h.head, by omega⟩⟩
  refine ⟨G, e, hW.trans h1, hR, ?_⟩
  rcases h2 with ⟨he, hg, hh, hst⟩ | ⟨he, hd, hfu, hh⟩
  · exact .inl ⟨he, hg, hn hh, hst⟩
  · refine .inr ⟨he, hd, hfu, ?_⟩
    rcases hh with hh | hh
    · exact .inl ⟨hC, h.small, by rw [hsC]; exact h.head, hh⟩
    · exact .inr (hn hh)

/-- The first write. -/
theorem cell_first {F : Fla} (hG : Good F) (h0 : Dead (secOf F.b 0)) (h1 : Dead (secOf F.b 1)) (hw : F.er.getD 0 0 < F.wear) (hf : F.fused = false) (b : List UInt8) (hb : b.length ≤ 245) :
    ∃ G, F.cellWrite b = (G, 0) ∧ Rest F G 0 ∧ Good G ∧ CellIs G 0 1 b ∧ G.steps = wrap64 (F.steps + (12 + b.length)) := by
  have hW : F.cellWrite b = F.cellPut (0 : Nat) (0 * 256 : Nat) (Fla.cellOut (0 + 1) b) := by
    unfold Fla.cellWrite
    rw [if_neg (by omega), if_neg (by simp [hG.down]), found_none h0 h1]
    rfl
  obtain ⟨G, e, he, hR, h2⟩ := cellPut_is hG 0 (by omega) hw 0 b hb (by decide) (.inl h0)
  rcases h2 with ⟨rfl, hg, hh, hst⟩ | ⟨_, _, hfu, _⟩
  · exact ⟨G, hW.trans he, hR, hg, ⟨by omega, by decide, hh, .inl (by rw [hR.secs 1 (by omega) (by omega)]; exact h1)⟩, hst⟩
  · rw [hf] at hfu; cases hfu

theorem blank_dead : Dead (List.replicate 256 255) := ⟨List.length_replicate, .inl (cpLen_dead (replicate_getD _ _ (by omega)))⟩

theorem secOf_blank {k : Nat} (hk : k < 14) : secOf blankAll k = List.replicate 256 255 := by
  apply ext_getD
  · rw [secOf_len blankAll_len hk, List.length_replicate]
  · intro i hi
    rw [secOf_len blankAll_len hk] at hi
    rw [secOf_getD hi, replicate_getD _ _ hi]
    unfold blankAll
    exact replicate_getD _ _ (by omega)

theorem new_good (wear : Int) : Good (Fla.new wear) := ⟨blankAll_len, rfl, rfl, (fun h => Bool.noConfusion h), (by show (0 : Int) ≤ _; omega), (by show _ ≤ (0 : Int); omega), (by show (0 : Int) ≤ _; omega), (by show _ ≤ (0 : Int); omega)⟩

theorem fuse_good {F : Fla} (h : Good F) {n t : Int} (h0 : 0 ≤ n) (hn : n ≤ 9223372036854775807) : Good (F.fuse n t) :=
  ⟨h.len, h.er, h.down, fun _ => h0, hn, by show _ ≤ n; omega, h.s1, h.s2⟩

theorem start_good {F G : Fla} {T : Nat} (h : Rest F G T) (he : F.er.length = 14) : Good G.start := by
  refine ⟨h.len, by show G.er.length = 14; rw [h.er, List.length_set, he], rfl, ?_, h.l1, h.l2, h.s1, h.s2⟩
  intro hf
  have : (G.fused && decide (0 ≤ G.left)) = true := hf
  simp only [Bool.and_eq_true, decide_eq_true_eq] at this
  exact this.2

theorem CellIs.start {F : Fla} {C : Nat} {cur : UInt32} {was : List UInt8} (h : CellIs F C cur was) : CellIs F.start C cur was := ⟨h.C2, h.small, h.head, h.other⟩
theorem CellIs.fuse {F : Fla} {C : Nat} {cur : UInt32} {was : List UInt8} (h : CellIs F C cur was) (n t : Int) : CellIs (F.fuse n t) C cur was := ⟨h.C2, h.small, h.head, h.other⟩

end Go.Proofs.YtijhaeapoapgfaaGreatDoor

set_option linter.unusedVariables false
set_option linter.unusedSimpArgs false
namespace Go.Proofs.YtijhaeapoapgfaaGreatDoor
open Go.RowKit

theorem num4_be4 (n : UInt32) (m : List UInt8) : num4 (be4 n ++ m) = n := be32_be4 n

theorem whAt_top' {s k : Nat} (h1 : 1 ≤ s) (hs : s ≤ 16) (hk : k < 8 * places s) : whAt s k + wide s ≤ 3584 := by
  have hp := places_bounds h1 hs
  have hpw := @places_wide s
  have hd : k / places s < 8 := (Nat.div_lt_iff_lt_mul (by omega)).2 hk
  have hm : k % places s < places s := Nat.mod_lt _ (by omega)
  have : (k % places s + 1) * wide s ≤ places s * wide s := Nat.mul_le_mul_right _ hm
  unfold whAt
  rw [Nat.add_mul] at this
  omega

/-- A place's bytes. -/
def pl (b : List UInt8) (s k : Nat) : List UInt8 := (b.drop (whAt s k)).take (wide s)
theorem place_pl (F : Fla) (s k : Nat) : F.place s k = pl F.b s k := rfl

/-- A place within its sector's bytes. -/
def plOf (S : List UInt8) (s i : Nat) : List UInt8 := (S.drop (i * wide s)).take (wide s)

theorem wide_in {s i : Nat} (h : i < places s) : i * wide s + wide s ≤ 256 := by
  have h1 : (i + 1) * wide s ≤ places s * wide s := Nat.mul_le_mul_right _ h
  have h2 := places_wide (s := s)
  rw [Nat.add_mul] at h1
  omega

theorem places_pos {s : Nat} (hs : s ≤ 16) : 0 < places s := by
  unfold places wide
  exact Nat.div_pos (by omega) (by omega)

theorem pl_eq {b : List UInt8} {s k : Nat} (hs : s ≤ 16) : pl b s k = plOf (secOf b (6 + k / places s)) s (k % places s) := by
  have h := wide_in (Nat.mod_lt k (places_pos hs))
  unfold pl plOf secOf whAt
  rw [List.drop_take, List.drop_drop, List.take_take, Nat.min_eq_left (by omega)]

theorem plOf_len {S : List UInt8} {s i : Nat} (hS : S.length = 256) (hi : i < places s) : (plOf S s i).length = wide s := by
  have h := wide_in hi
  unfold plOf; rw [List.length_take, List.length_drop, hS]; omega

theorem plOf_getD {S : List UInt8} {s i t : Nat} (ht : t < wide s) : (plOf S s i).getD t 0 = S.getD (i * wide s + t) 0 := by
  unfold plOf; simp [List.getD, List.getElem?_take, ht, List.getElem?_drop]

theorem apart {s i j : Nat} (h : i ≠ j) : i * wide s + wide s ≤ j * wide s ∨ j * wide s + wide s ≤ i * wide s := by
  rcases Nat.lt_or_gt_of_ne h with h | h
  · left; have := Nat.mul_le_mul_right (wide s) (show i + 1 ≤ j from h); rw [Nat.add_mul] at this; omega
  · right; have := Nat.mul_le_mul_right (wide s) (show j + 1 ≤ i from h); rw [Nat.add_mul] at this; omega

theorem plOf_andAt_other {S : List UInt8} {s i j o : Nat} {l : List UInt8} (hS : S.length = 256) (hi : i < places s) (hj : j < places s) (hij : j ≠ i) (hl : o + l.length ≤ wide s) :
    plOf (andAt S (i * wide s + o) l) s j = plOf S s j := by
  have h1 := wide_in hi
  have h2 := wide_in hj
  apply ext_getD
  · rw [plOf_len (by rw [andAt_len, hS]) hj, plOf_len hS hj]
  · intro t ht
    rw [plOf_len (by rw [andAt_len, hS]) hj] at ht
    rw [plOf_getD ht, plOf_getD ht, andAt_getD _ _ _ _ (by omega), if_neg (by have := apart (s := s) hij; omega)]

theorem plOf_andAt_same {S : List UInt8} {s i o : Nat} {l : List UInt8} (hS : S.length = 256) (hi : i < places s) (hl : o + l.length ≤ wide s) :
    plOf (andAt S (i * wide s + o) l) s i = andAt (plOf S s i) o l := by
  have h1 := wide_in hi
  apply ext_getD
  · rw [plOf_len (by rw [andAt_len, hS]) hi, andAt_len, plOf_len hS hi]
  · intro t ht
    rw [plOf_len (by rw [andAt_len, hS]) hi] at ht
    rw [plOf_getD ht, andAt_getD _ _ _ _ (by omega), andAt_getD _ _ _ _ (by rw [plOf_len hS hi]; omega), plOf_getD ht]
    by_cases hc : o ≤ t ∧ t < o + l.length
    · rw [if_pos (by omega), if_pos hc, show i * wide s + t - (i * wide s + o) = t - o from by omega]
    · rw [if_neg (by omega), if_neg hc]

theorem plOf_set_other {S : List UInt8} {s i j o : Nat} {x : UInt8} (hS : S.length = 256) (hi : i < places s) (hj : j < places s) (hij : j ≠ i) (ho : o < wide s) :
    plOf (S.set (i * wide s + o) x) s j = plOf S s j := by
  have h1 := wide_in hi
  have h2 := wide_in hj
  apply ext_getD
  · rw [plOf_len (by rw [List.length_set, hS]) hj, plOf_len hS hj]
  · intro t ht
    rw [plOf_len (by rw [List.length_set, hS]) hj] at ht
    rw [plOf_getD ht, plOf_getD ht, getD_setB, if_neg (by have := apart (s := s) hij; omega)]

theorem plOf_set_same {S : List UInt8} {s i o : Nat} {x : UInt8} (hS : S.length = 256) (hi : i < places s) (ho : o < wide s) :
    plOf (S.set (i * wide s + o) x) s i = (plOf S s i).set o x := by
  have h1 := wide_in hi
  apply ext_getD
  · rw [plOf_len (by rw [List.length_set, hS]) hi, List.length_set, plOf_len hS hi]
  · intro t ht
    rw [plOf_len (by rw [List.length_set, hS]) hi] at ht
    rw [plOf_getD ht, getD_setB, getD_setB, plOf_getD ht, plOf_len hS hi, hS]
    by_cases hc : o = t
    · rw [if_pos (by omega), if_pos (by omega)]
    · rw [if_neg (by omega), if_neg (by omega)]

def blankW (s : Nat) : List UInt8 := List.replicate (wide s) 255

theorem plOf_blank {s i : Nat} (hi : i < places s) : plOf (List.replicate 256 255) s i = blankW s := by
  have h1 := wide_in hi
  unfold plOf blankW
  rw [List.drop_replicate, List.take_replicate]
  congr 1
  omega

/-- A place counts only if its mark is 0. -/
theorem recOf_mark {gen : UInt32} {b : List UInt8} {s : Nat} (hb : b.length = wide s) (h : b.getD (s + 12) 0 ≠ 0) : recOf gen b = none := by
  unfold recOf
  rw [if_pos (by rw [hb]; exact h)]

theorem recOf_blank {gen : UInt32} {s : Nat} : recOf gen (blankW s) = none := by
  refine recOf_mark (s := s) (by unfold blankW; simp) ?_
  unfold blankW wide
  rw [replicate_getD _ _ (by omega)]
  decide

theorem whOut_len' (gen id : UInt32) (d : List UInt8) : (Fla.whOut gen id d).length = d.length + 12 := by
  unfold Fla.whOut; rw [crcPut_len]; simp [be4]

theorem recOf_out (gen id : UInt32) (d : List UInt8) : recOf gen (Fla.whOut gen id d ++ [0]) = some (id, d) := by
  unfold recOf
  have hl := whOut_len' gen id d
  rw [if_neg (by rw [List.length_append, hl, List.getD, List.getElem?_append_right (by simp [hl])]; simp [hl]), List.length_append]
  simp only [List.length_cons, List.length_nil, Nat.zero_add, Nat.add_sub_cancel, List.take_left]
  unfold Fla.whOut
  rw [crcRight_put]
  dsimp only
  rw [List.append_assoc, num4_be4, if_pos rfl]
  have h4 : ∀ (x : UInt32) (m : List UInt8), (be4 x ++ m).drop 4 = m := fun _ _ => rfl
  rw [show ∀ m : List UInt8, m.drop 8 = (m.drop 4).drop 4 from fun m => by rw [List.drop_drop], h4, num4_be4, h4]

/-- A record's place begins with its generation. -/
theorem recOf_gen {gen : UInt32} {b : List UInt8} {r : Rec} (h : recOf gen b = some r) (hb : 9 ≤ b.length) : num4 b = gen := by
  unfold recOf at h
  split at h
  · cases h
  · split at h
    · cases h
    · rename_i m hm
      split at h
      · rename_i hg
        have hr := crcRight_some hm
        rw [← hg]
        unfold num4
        have e : ∀ i, i < 4 → m.getD i 0 = b.getD i 0 := fun i hi => by
          rw [hr.2.1, List.take_take, List.length_take]
          simp only [List.getD, List.getElem?_take]
          rw [if_pos (by omega)]
        rw [e 0 (by omega), e 1 (by omega), e 2 (by omega), e 3 (by omega)]
      · cases h

theorem recOf_other {gen : UInt32} {b : List UInt8} (hb : 9 ≤ b.length) (h : num4 b ≠ gen) : recOf gen b = none := by
  cases hr : recOf gen b with
  | none => rfl
  | some r => exact absurd (recOf_gen hr hb) h

/-- A wheel's log on flash: L tells for each place that was used its record, if it is whole; mk: the sectors to come hold no mark. -/
structure WLog (b : List UInt8) (gen : UInt32) (s : Nat) (L : List (Option Rec)) (mk : Prop) : Prop where
  len : b.length = 3584
  s1 : 1 ≤ s
  s16 : s ≤ 16
  le : L.length ≤ 8 * places s
  used : ∀ k, k < L.length → L[k]? = some (recOf gen (pl b s k)) ∧ pl b s k ≠ blankW s
  head : ∀ c, c * places s < L.length → ∃ r, L[c * places s]? = some (some r)
  rest : ∀ k, L.length ≤ k → k / places s * places s < L.length → pl b s k = blankW s
  next : ∀ c, c < 8 → L.length ≤ c * places s → recOf gen (pl b s (c * places s)) = none ∧ (mk → (pl b s (c * places s)).getD (s + 12) 0 ≠ 0)

def logReady (s : Nat) (L : List (Option Rec)) : Int := if L.length = 0 then -1 else ((L.length - 1) / places s : Nat)

/-- The wheel that a log is. -/
def logWh (gen : UInt32) (s : Nat) (L : List (Option Rec)) : Whl := ⟨gen, s, L.filterMap id, logReady s L, L.length⟩

theorem recAt_up {F : Fla} (hd : F.down = false) (gen : UInt32) (s k : Nat) : F.recAt gen s k = recOf gen (pl F.b s k) := by
  unfold Fla.recAt; rw [if_neg (by simp [hd])]; rfl

theorem take_one (L : List (Option Rec)) (k : Nat) : (L.take (k + 1)).filterMap id = (L.take k).filterMap id ++ ((L[k]?).getD none).toList := by
  rw [List.take_add_one, List.filterMap_append]
  cases L[k]? with
  | none => rfl
  | some o => cases o <;> rfl

theorem WLog.at {F : Fla} {gen : UInt32} {s : Nat} {L : List (Option Rec)} {mk : Prop} (h : WLog F.b gen s L mk) (hd : F.down = false) (k : Nat) (hk : k / places s * places s < L.length) : F.recAt gen s k = (L[k]?).getD none := by
  rw [recAt_up hd]
  by_cases hl : k < L.length
  · rw [(h.used k hl).1]; rfl
  · rw [h.rest k (by omega) hk, recOf_blank, List.getElem?_eq_none (by omega)]; rfl

theorem WLog.recsAt {F : Fla} {gen : UInt32} {s : Nat} {L : List (Option Rec)} {mk : Prop} (h : WLog F.b gen s L mk) (hd : F.down = false) (c : Nat) (hc : c * places s < L.length) :
    ∀ m, m ≤ places s → (L.take (c * places s)).filterMap id ++ F.recsAt gen s (c * places s) m = (L.take (c * places s + m)).filterMap id
  | 0, _ => by rw [Fla.recsAt, List.append_nil, Nat.add_zero]
  | m + 1, hm => by
    have hp := places_pos h.s16
    rw [Fla.recsAt, ← List.append_assoc, h.recsAt hd c hc m (by omega), ← Nat.add_assoc, take_one, h.at hd _ (by
      rw [Nat.mul_comm c, Nat.mul_add_div hp, Nat.div_eq_of_lt (by omega), Nat.add_zero]; exact hc)]

theorem WLog.readTo {F : Fla} {gen : UInt32} {s : Nat} {L : List (Option Rec)} {mk : Prop} (h : WLog F.b gen s L mk) (hd : F.down = false) :
    ∀ c, c ≤ 8 → F.readTo gen s c = ((L.take (c * places s)).filterMap id, if L.length = 0 ∨ c = 0 then -1 else if c * places s < L.length then (c : Int) - 1 else logReady s L)
  | 0, _ => by simp [Fla.readTo]
  | c + 1, hc => by
    have hp := places_pos h.s16
    have ih := h.readTo hd c (by omega)
    have hmul : (c + 1) * places s = c * places s + places s := by rw [Nat.add_mul, Nat.one_mul]
    rw [Fla.readTo, ih, Fla.readSec]
    by_cases hl : c * places s < L.length
    · obtain ⟨r, hr⟩ := h.head c hl
      have ha := h.at hd (c * places s) (by rw [Nat.mul_div_cancel _ hp]; exact hl)
      rw [hr] at ha
      rw [if_neg (by simp [ha]), h.recsAt hd c hl _ (Nat.le_refl _), ← hmul]
      congr 1
      rw [if_neg (by omega)]
      split
      · omega
      · unfold logReady
        rw [if_neg (by omega)]
        congr 1
        apply Nat.le_antisymm
        · exact (Nat.le_div_iff_mul_le hp).2 (by omega)
        · exact Nat.le_of_lt_succ ((Nat.div_lt_iff_lt_mul hp).2 (by rw [Nat.succ_eq_add_one, hmul]; omega))
    · have ha := h.next c (by omega) (by omega)
      rw [if_pos (by rw [recAt_up hd, ha.1]; rfl)]
      have e : ∀ n, L.length ≤ n → L.take n = L := fun n hn => List.take_of_length_le hn
      rw [e _ (by omega), e _ (by omega)]
      congr 1
      by_cases h0 : L.length = 0
      · rw [if_pos (.inl h0), if_pos (.inl h0)]
      · have hc0 : c ≠ 0 := by intro hc0; subst hc0; omega
        rw [if_neg (by omega), if_neg (by omega), if_neg (by omega), if_neg (by omega)]

theorem blank_eq {F : Fla} (hb : F.b.length = 3584) (hd : F.down = false) {s k : Nat} (h1 : 1 ≤ s) (hs : s ≤ 16) (hk : k < 8 * places s) : F.blank (whAt s k) (wide s) = true ↔ pl F.b s k = blankW s := by
  have htop := whAt_top' h1 hs hk
  have hr : F.ready (whAt s k) (wide s) = 0 := by unfold Fla.ready; rw [if_neg (by simp [hd]), if_neg (by omega)]
  unfold Fla.blank Fla.read
  rw [if_neg (by simp [hr])]
  simp only [Int.toNat_natCast, beq_self_eq_true, Bool.true_and]
  show (pl F.b s k).all (· == 255) = true ↔ _
  have hl : (pl F.b s k).length = wide s := by unfold pl; rw [List.length_take, List.length_drop, hb]; omega
  rw [List.all_eq_true]
  constructor
  · intro h
    rw [List.eq_replicate_iff.2 ⟨hl, fun x hx => by simpa using h x hx⟩]; rfl
  · intro h x hx
    rw [h] at hx
    have := List.eq_of_mem_replicate hx
    simp [this]

theorem WLog.trim {F : Fla} {gen : UInt32} {s : Nat} {L : List (Option Rec)} {mk : Prop} (h : WLog F.b gen s L mk) (hd : F.down = false) (c : Nat) (hc : c * places s < L.length) (hc2 : L.length ≤ c * places s + places s) :
    ∀ m, m ≤ places s → L.length ≤ c * places s + m → F.trim s (c * places s) m = L.length - c * places s
  | 0, _, hl => by omega
  | m + 1, hm, hl => by
    have hp := places_pos h.s16
    have hle := h.le
    have hk : c * places s + m < 8 * places s := by
      have : c < 8 := by
        rcases Nat.lt_or_ge c 8 with h8 | h8
        · exact h8
        · have := Nat.mul_le_mul_right (places s) h8; omega
      have := Nat.mul_le_mul_right (places s) (show c + 1 ≤ 8 from this)
      rw [Nat.add_mul] at this
      omega
    rw [Fla.trim]
    by_cases hb : L.length ≤ c * places s + m
    · rw [if_pos ((blank_eq h.len hd h.s1 h.s16 hk).2 (h.rest _ hb (by rw [Nat.mul_comm c, Nat.mul_add_div hp, Nat.div_eq_of_lt (by omega), Nat.add_zero]; exact hc)))]
      exact h.trim hd c hc hc2 m (by omega) hb
    · rw [if_neg (fun hbl => (h.used _ (by omega)).2 ((blank_eq h.len hd h.s1 h.s16 hk).1 hbl))]
      omega

/-- What a log tells, opened. -/
theorem WLog.open {F : Fla} {gen : UInt32} {s : Nat} {L : List (Option Rec)} {mk : Prop} (h : WLog F.b gen s L mk) (hd : F.down = false) : F.openWh gen s = logWh gen s L := by
  have hp := places_pos h.s16
  have hr := h.readTo hd 8 (Nat.le_refl _)
  have e : L.take (8 * places s) = L := List.take_of_length_le h.le
  have hle := h.le
  rw [e, if_neg (show ¬ 8 * places s < L.length by omega)] at hr
  unfold Fla.openWh logWh
  by_cases h0 : L.length = 0
  · rw [if_pos (.inl h0)] at hr
    rw [hr]
    unfold logReady
    rw [if_pos h0, h0]
    rfl
  · rw [if_neg (by omega)] at hr
    rw [hr]
    have hlr : logReady s L = ((L.length - 1) / places s : Nat) := by unfold logReady; rw [if_neg h0]
    have hc1 : (L.length - 1) / places s * places s ≤ L.length - 1 := Nat.div_mul_le_self _ _
    have hc2 : L.length - 1 < (L.length - 1) / places s * places s + places s := by
      have := Nat.lt_div_mul_add hp (a := L.length - 1)
      exact this
    dsimp only
    unfold Fla.nextOf
    rw [if_neg (by rw [hlr]; exact Int.not_lt.2 (Int.natCast_nonneg _)), hlr, Int.toNat_natCast, h.trim hd _ (by omega) (by omega) _ (Nat.le_refl _) (by omega)]
    congr 1
    omega

end Go.Proofs.YtijhaeapoapgfaaGreatDoor
