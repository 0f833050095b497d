/-
  RoomT: so many records and no more: what the plain functions of the wheel come to. No program here.
-/
import Derived.Test.YtghgmchgbhdldaaWhT3
set_option linter.unusedVariables false
namespace Go.Proofs.Ytghgmchgbhdldaa
open Go.RowKit

theorem getD_setI (l : List Int) (i j : Nat) (x : Int) (hi : i < l.length) : (l.set i x).getD j 0 = if i = j then x else l.getD j 0 := by
  by_cases h : i = j
  · subst h
    rw [if_pos rfl, List.getD, List.getElem?_set_self hi]; rfl
  · rw [if_neg h, List.getD, List.getD, List.getElem?_set_ne h]

/-- Generation g has written the records l, where each generation ahead of it was written whole. -/
structure RoomIs (F : Fla) (g s : Nat) (l : List Rec) : Prop where
  good : Good F
  fused : F.fused = false
  wear : F.wear = 100
  log : WLog F.b (UInt32.ofNat g) s (l.map some) False
  er : ∀ c, c < 8 → F.er.getD (6 + c) 0 = if c * places s < l.length then (g : Int) else ((g - 1 : Nat) : Int)
  sec : ∀ c, c < 8 → l.length ≤ c * places s → (g = 0 → secOf F.b (6 + c) = List.replicate 256 255) ∧ (g ≠ 0 → secOf F.b (6 + c) ≠ List.replicate 256 255)

theorem RoomIs.add {F : Fla} {g s : Nat} {l : List Rec} (h : RoomIs F g s l) (hg : g ≤ 3) (hn : l.length < 8 * places s) (id : UInt32) (d : List UInt8) (hd : d.length = s) :
    ∃ G, (logWh (UInt32.ofNat g) s (l.map some)).add F id d = (G, logWh (UInt32.ofNat g) s ((l ++ [(id, d)]).map some), 0) ∧ RoomIs G g s (l ++ [(id, d)]) := by
  have hp := places_pos h.log.s16
  have hL : (l.map some).length = l.length := List.length_map _
  have hc8 : l.length / places s < 8 := (Nat.div_lt_iff_lt_mul hp).2 hn
  have dm : l.length / places s * places s ≤ l.length := Nat.div_mul_le_self _ _
  have hmod := Nat.mod_add_div l.length (places s)
  rw [Nat.mul_comm] at hmod
  have her : F.er.getD (6 + l.length / places s) 0 < 100 := by
    rw [h.er _ hc8]; split <;> omega
  obtain ⟨G, V, e, ha, hR, hc⟩ := add_log h.good h.log (by rw [hL]; exact hn) (by rw [hL, h.wear]; exact her) (fun hf => by rw [h.fused] at hf; cases hf) id d hd
  rw [hL] at hR
  rcases hc with hc | hc
  case inr =>
    have := hc.2.2.1
    rw [h.fused] at this
    cases this
  obtain ⟨rfl, hG, rfl, hl⟩ := hc
  have e : l.map some ++ [some (id, d)] = (l ++ [(id, d)]).map some := by simp
  rw [e] at ha hl
  refine ⟨G, ha, hG, hR.fused.trans h.fused, hR.wear.trans h.wear, hl, ?_, ?_⟩
  · intro c hc
    have h0 := h.er c hc
    have hlen : (l ++ [(id, d)]).length = l.length + 1 := by simp
    rw [hlen]
    have hold : c * places s ≠ l.length → (c * places s < l.length + 1 ↔ c * places s < l.length) := fun hne => by omega
    rcases hR.er with ⟨hera, he⟩ | ⟨hera, he⟩
    · obtain ⟨hz, hnb⟩ := hera
      rw [hL] at hz hnb
      have hg0 : g ≠ 0 := fun hg0 => hnb ((h.sec _ hc8 (by omega)).1 hg0)
      rw [he, getD_setI _ _ _ _ (by rw [h.good.er]; omega), h.er _ hc8, if_neg (show ¬ l.length / places s * places s < l.length by omega)]
      by_cases hcc : 6 + l.length / places s = 6 + c
      · have : c = l.length / places s := by omega
        have hck : c * places s < l.length + 1 := by rw [this]; exact Nat.lt_succ_of_le dm
        rw [if_pos hcc, if_pos hck, IntWalk.wrap64_in _ (by omega)]
        omega
      · rw [if_neg hcc, h0]
        have : c * places s ≠ l.length := fun hne => hcc (by
          have := congrArg (· / places s) hne
          simp only [Nat.mul_div_cancel _ hp] at this
          omega)
        simp only [hold this]
    · rw [he, h0]
      by_cases hne : c * places s = l.length
      · have hcz : c = l.length / places s := by rw [← hne, Nat.mul_div_cancel _ hp]
        have hg0 : g = 0 := by
          rcases Nat.eq_zero_or_pos g with h0 | h0
          · exact h0
          · exfalso
            apply hera
            have hz : l.length % places s = 0 := by rw [← hne]; exact Nat.mul_mod_left _ _
            refine ⟨by rw [hL]; exact hz, ?_⟩
            rw [hL]
            exact (h.sec _ hc8 (by omega)).2 (by omega)
        subst hg0
        simp
      · simp only [hold hne]
  · intro c hc hcl
    have hlen : (l ++ [(id, d)]).length = l.length + 1 := by simp
    rw [hlen] at hcl
    have hne : c ≠ l.length / places s := by rintro rfl; omega
    rw [hR.secs (6 + c) (by omega) (by omega)]
    exact h.sec c hc (by omega)

theorem ofNat_ne {g : Nat} (hg : g ≤ 3) : UInt32.ofNat g ≠ UInt32.ofNat (g + 1) := by
  intro e
  have := congrArg UInt32.toNat e
  rw [UInt32.toNat_ofNat', UInt32.toNat_ofNat'] at this
  omega

theorem RoomIs.next {F : Fla} {g s : Nat} {l : List Rec} (h : RoomIs F g s l) (hg : g ≤ 3) (hn : l.length = 8 * places s) : RoomIs F (g + 1) s [] := by
  have hp := places_pos h.log.s16
  have hL : (l.map some).length = l.length := List.length_map _
  have hlt : ∀ c, c < 8 → c * places s < l.length := fun c hc => by rw [hn]; exact Nat.mul_lt_mul_of_pos_right hc hp
  have hw : wide s = s + 13 := rfl
  refine ⟨h.good, h.fused, h.wear, ⟨h.good.len, h.log.s1, h.log.s16, by simp, by simp, by simp, by simp, fun c hc _ => ⟨?_, fun hf => hf.elim⟩⟩, ?_, ?_⟩
  · obtain ⟨r, hr⟩ := h.log.head c (by rw [hL]; exact hlt c hc)
    have hu := (h.log.used (c * places s) (by rw [hL]; exact hlt c hc)).1
    rw [hr] at hu
    simp only [Option.some.injEq] at hu
    have hlen := pl_len h.good.len h.log.s16 (k := c * places s) (Nat.mul_lt_mul_of_pos_right hc hp)
    refine recOf_other (by omega) ?_
    rw [recOf_gen hu.symm (by omega)]
    exact ofNat_ne hg
  · intro c hc
    rw [h.er c hc, if_pos (hlt c hc), if_neg (by simp)]
    simp
  · intro c hc _
    refine ⟨by omega, fun _ hb => ?_⟩
    refine (h.log.used (c * places s) (by rw [hL]; exact hlt c hc)).2 ?_
    rw [pl_eq h.log.s16, Nat.mul_div_cancel _ hp, hb, plOf_blank (Nat.mod_lt _ hp)]

theorem RoomIs.erases {F : Fla} {g s : Nat} {l : List Rec} (h : RoomIs F g s l) (hn : l.length = 8 * places s) (c : Nat) (hc : c < 8) : F.erases ((6 : Int) + c) = g := by
  have hp := places_pos h.log.s16
  unfold Fla.erases
  rw [if_neg (by omega), show ((6 : Int) + (c : Int)).toNat = 6 + c from by omega, h.er c hc, if_pos (by rw [hn]; exact Nat.mul_lt_mul_of_pos_right hc hp)]

theorem RoomIs.new {s : Nat} (h1 : 1 ≤ s) (hs : s ≤ 16) (hb : WLog blankAll (UInt32.ofNat 0) s [] False) : RoomIs (Fla.new 100) 0 s [] := by
  refine ⟨new_good 100, rfl, rfl, hb, ?_, ?_⟩
  · intro c hc
    show (List.replicate 14 (0 : Int)).getD (6 + c) 0 = _
    have : (List.replicate 14 (0 : Int)).getD (6 + c) 0 = 0 := by
      rw [List.getD, List.getElem?_replicate, if_pos (by omega)]; rfl
    rw [this]
    simp
  · intro c hc _
    exact ⟨fun _ => secOf_blank (by omega), fun h => absurd rfl h⟩

theorem RoomIs.full {F : Fla} {g s : Nat} {l : List Rec} (h : RoomIs F g s l) (hn : l.length = 8 * places s) (id : UInt32) (d : List UInt8) (hd : d.length = s) :
    (logWh (UInt32.ofNat g) s (l.map some)).add F id d = (F, logWh (UInt32.ofNat g) s (l.map some), 9) := by
  unfold Whl.add
  rw [if_neg (show ¬ d.length ≠ (logWh (UInt32.ofNat g) s (l.map some)).size from fun hne => hne hd), if_pos]
  show 8 * (places s : Int) - (l.map some).length = 0
  rw [List.length_map, hn]
  omega

theorem logWh_l (gen : UInt32) (s : Nat) (l : List Rec) : (logWh gen s (l.map some)).l = l := by
  show (l.map some).filterMap id = l
  rw [List.filterMap_map]
  induction l with
  | nil => rfl
  | cons x xs ih => rw [List.filterMap_cons]; simp at ih ⊢

end Go.Proofs.Ytghgmchgbhdldaa
