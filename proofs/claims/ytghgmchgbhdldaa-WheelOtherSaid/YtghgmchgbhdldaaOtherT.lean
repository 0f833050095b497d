/-
  OtherT: records of another generation, or another size: what the plain functions of the wheel come to. No program here.
-/
import Derived.Test.YtghgmchgbhdldaaFreshT
set_option linter.unusedVariables false
namespace Go.Proofs.Ytghgmchgbhdldaa
open Go.RowKit

theorem num4_take {S : List UInt8} {n : Nat} (h : 4 ≤ n) : num4 (S.take n) = num4 S := by
  unfold num4
  have e : ∀ i, i < 4 → (S.take n).getD i 0 = S.getD i 0 := fun i hi => by simp only [List.getD, List.getElem?_take]; rw [if_pos (by omega)]
  rw [e 0 (by omega), e 1 (by omega), e 2 (by omega), e 3 (by omega)]

theorem num4_first (S : List UInt8) (s : Nat) : num4 (plOf S s 0) = num4 S := by
  unfold plOf
  rw [Nat.zero_mul, List.drop_zero]
  exact num4_take (by unfold wide; omega)

theorem pl_first {b : List UInt8} {s c : Nat} (hs : s ≤ 16) : pl b s (c * places s) = plOf (secOf b (6 + c)) s 0 := by
  have hp := places_pos hs
  rw [pl_eq hs, Nat.mul_div_cancel _ hp, Nat.mul_mod_left]

/-- A sector's first four bytes tell the generation, whatever the size. -/
theorem sector_gen {b : List UInt8} (hb : b.length = 3584) {gen : UInt32} {s c : Nat} (hs : s ≤ 16) (hc : c < 8) {r : Rec} (h : recOf gen (pl b s (c * places s)) = some r) : num4 (secOf b (6 + c)) = gen := by
  have hp := places_pos hs
  have hl := pl_len hb hs (k := c * places s) (Nat.mul_lt_mul_of_pos_right hc hp)
  have := recOf_gen h (by rw [hl]; unfold wide; omega)
  rwa [pl_first hs, num4_first] at this

theorem first_none {b : List UInt8} (hb : b.length = 3584) {gen gen' : UInt32} {s c : Nat} (hs : s ≤ 16) (hc : c < 8) (h : num4 (secOf b (6 + c)) = gen') (hne : gen' ≠ gen) : recOf gen (pl b s (c * places s)) = none := by
  have hp := places_pos hs
  have hl := pl_len hb hs (k := c * places s) (Nat.mul_lt_mul_of_pos_right hc hp)
  refine recOf_other (by rw [hl]; unfold wide; omega) ?_
  rw [pl_first hs, num4_first, h]
  exact hne

theorem FreshIs.other {F : Fla} {s : Nat} {l : List Rec} (h : FreshIs F 1 s l) {o : Nat} (h1 : 1 ≤ o) (ho : o ≤ 16) : WLog F.b 2 o [] False := by
  have hp := places_pos ho
  have hL : (l.map some).length = l.length := List.length_map _
  refine ⟨h.good.len, h1, ho, by simp, by simp, by simp, by simp, fun c hc _ => ⟨?_, fun hf => hf.elim⟩⟩
  by_cases hl : c * places s < l.length
  · obtain ⟨r, hr⟩ := h.log.head c (by rw [hL]; exact hl)
    have hu := (h.log.used (c * places s) (by rw [hL]; exact hl)).1
    rw [hr] at hu
    simp only [Option.some.injEq] at hu
    exact first_none h.good.len ho hc (sector_gen h.good.len h.log.s16 hc hu.symm) (by decide)
  · rw [pl_first ho, h.sec c hc (by omega), plOf_blank hp, recOf_blank]

/-- What comes of a record of generation 2 over it. -/
theorem FreshIs.over {F : Fla} {s : Nat} {l : List Rec} (h : FreshIs F 1 s l) {o : Nat} (h1 : 1 ≤ o) (ho : o ≤ 16) (d : List UInt8) (hd : d.length = o) :
    ∃ G, (logWh 2 o []).add F 9 d = (G, logWh 2 o [some (9, d)], 0) ∧ G.down = false ∧ (l.length = 0 ∨ G.erases 6 = 1) ∧ (G.openWh 1 s).l.length ≤ l.length := by
  have hp := places_pos ho
  have hps := places_pos h.log.s16
  have hL : (l.map some).length = l.length := List.length_map _
  have h0 : ([] : List (Option Rec)).length / places o = 0 := by simp
  obtain ⟨G, V, e, ha, hR, hc⟩ := add_log h.good (h.other h1 ho) (by simp; omega) (by rw [h0, h.wear, h.er 0 (by omega)]; omega) (fun hf => by rw [h.fused] at hf; cases hf) 9 d hd
  rw [h0] at hR
  rcases hc with hc | hc
  case inr =>
    have := hc.2.2.1
    rw [h.fused] at this
    cases this
  obtain ⟨rfl, hG, rfl, hl⟩ := hc
  rw [List.nil_append] at ha hl
  refine ⟨G, ha, hG.down, ?_, ?_⟩
  · by_cases hn : l.length = 0
    · exact .inl hn
    · right
      have hera : erases? F o [] := by
        refine ⟨by simp, fun hb => ?_⟩
        rw [h0] at hb
        have hu := (h.log.used 0 (by rw [hL]; omega)).2
        apply hu
        have e := pl_first (b := F.b) (c := 0) h.log.s16
        rw [Nat.zero_mul] at e
        rw [e, hb, plOf_blank hps]
      rcases hR.er with ⟨_, he⟩ | ⟨hne, _⟩
      · unfold Fla.erases
        rw [if_neg (by omega), he, h.er 0 (by omega), show ((6 : Int)).toNat = 6 + 0 from rfl, List.getD, List.getElem?_set_self (by rw [h.good.er]; omega)]
        show wrap64 (0 + 1) = 1
        rw [IntWalk.wrap64_in _ (by omega)]
        rfl
      · exact absurd hera hne
  · have hle : ∀ c, c ≤ 8 → (G.readTo 1 s c).1.length ≤ (F.readTo 1 s c).1.length := by
      intro c
      induction c with
      | zero => intro _; simp [Fla.readTo]
      | succ c ih =>
        intro hc
        have ih := ih (by omega)
        rw [Fla.readTo, Fla.readTo]
        unfold Fla.readSec
        by_cases hc0 : c = 0
        · subst hc0
          have hu := (hl.used 0 (by simp)).1
          simp only [List.getElem?_cons_zero, Option.some.injEq] at hu
          have hg : num4 (secOf G.b (6 + 0)) = 2 := by
            refine sector_gen (c := 0) hG.len ho (by omega) (r := (9, d)) ?_
            rw [Nat.zero_mul]; exact hu.symm
          have hno : G.recAt 1 s (0 * places s) = none := by
            rw [recAt_up hG.down]
            exact first_none hG.len h.log.s16 (by omega) hg (by decide)
          rw [if_pos (by rw [hno]; rfl)]
          simp [Fla.readTo]
        · have hs : secOf G.b (6 + c) = secOf F.b (6 + c) := hR.secs _ (by omega) (by omega)
          have hat : ∀ k, k / places s = c → G.recAt 1 s k = F.recAt 1 s k := fun k hk => by
            rw [recAt_up hG.down, recAt_up h.good.down, pl_eq h.log.s16, pl_eq h.log.s16, hk, hs]
          have hrs : ∀ m, m ≤ places s → G.recsAt 1 s (c * places s) m = F.recsAt 1 s (c * places s) m := by
            intro m
            induction m with
            | zero => intro _; rfl
            | succ m ihm =>
              intro hm
              rw [Fla.recsAt, Fla.recsAt, ihm (by omega), hat _ (by rw [Nat.mul_comm c, Nat.mul_add_div hps, Nat.div_eq_of_lt (by omega), Nat.add_zero])]
          rw [hat _ (Nat.mul_div_cancel _ hps), hrs _ (Nat.le_refl _)]
          split
          · exact ih
          · rw [List.length_append, List.length_append]; omega
    have h8 := hle 8 (Nat.le_refl _)
    have ho := h.log.open h.good.down
    have e : (F.readTo 1 s 8).1 = l := by
      have := congrArg Whl.l ho
      rw [logWh_some] at this
      exact this
    rw [e] at h8
    exact h8

end Go.Proofs.Ytghgmchgbhdldaa
