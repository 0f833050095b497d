/-
  FreshT: records that are added to a new flash, one behind the other. No program here.
-/
import Derived.Test.YtghgmchgbhdldaaWhT3
set_option linter.unusedVariables false
namespace Go.Proofs.Ytghgmchgbhdldaa
open Go.RowKit

/-- A wheel of generation gen has written the records l on a new flash. -/
structure FreshIs (F : Fla) (gen : UInt32) (s : Nat) (l : List Rec) : Prop where
  good : Good F
  fused : F.fused = false
  wear : F.wear = 9
  log : WLog F.b gen s (l.map some) False
  er : ∀ c, c < 8 → F.er.getD (6 + c) 0 = 0
  sec : ∀ c, c < 8 → l.length ≤ c * places s → secOf F.b (6 + c) = List.replicate 256 255

theorem FreshIs.add {F : Fla} {gen : UInt32} {s : Nat} {l : List Rec} (h : FreshIs F gen s l) (hn : l.length < 8 * places s) (id : UInt32) (d : List UInt8) (hd : d.length = s) :
    ∃ G, (logWh gen s (l.map some)).add F id d = (G, logWh gen s ((l ++ [(id, d)]).map some), 0) ∧ FreshIs G gen s (l ++ [(id, d)]) := by
  have hp := places_pos h.log.s16
  have hL : (l.map some).length = l.length := List.length_map _
  have hc8 : l.length / places s < 8 := (Nat.div_lt_iff_lt_mul hp).2 hn
  have dm : l.length / places s * places s ≤ l.length := Nat.div_mul_le_self _ _
  have hmod := Nat.mod_add_div l.length (places s)
  rw [Nat.mul_comm] at hmod
  obtain ⟨G, V, e, ha, hR, hc⟩ := add_log h.good h.log (by rw [hL]; exact hn) (by rw [hL, h.wear, h.er _ hc8]; omega) (fun hf => by rw [h.fused] at hf; cases hf) id d hd
  rw [hL] at hR
  rcases hc with hc | hc
  case inr =>
    have := hc.2.2.1
    rw [h.fused] at this
    cases this
  obtain ⟨rfl, hG, rfl, hl⟩ := hc
  have e : l.map some ++ [some (id, d)] = (l ++ [(id, d)]).map some := by simp
  have hlen : (l ++ [(id, d)]).length = l.length + 1 := by simp
  rw [e] at ha hl
  refine ⟨G, ha, hG, hR.fused.trans h.fused, hR.wear.trans h.wear, hl, ?_, ?_⟩
  · intro c hc
    rcases hR.er with ⟨hera, he⟩ | ⟨hera, he⟩
    · obtain ⟨hz, hnb⟩ := hera
      rw [hL] at hz hnb
      exact absurd (h.sec _ hc8 (by omega)) hnb
    · rw [he]; exact h.er c hc
  · intro c hc hcl
    rw [hlen] at hcl
    have hne : c ≠ l.length / places s := by rintro rfl; omega
    rw [hR.secs (6 + c) (by omega) (by omega)]
    exact h.sec c hc (by omega)

theorem FreshIs.new {gen : UInt32} {s : Nat} (hb : WLog blankAll gen s [] False) : FreshIs (Fla.new 9) gen s [] := by
  refine ⟨new_good 9, rfl, rfl, hb, ?_, fun c hc _ => secOf_blank (by omega)⟩
  intro c hc
  show (List.replicate 14 (0 : Int)).getD (6 + c) 0 = _
  rw [List.getD, List.getElem?_replicate, if_pos (by omega)]; rfl

/-- A record of another length. -/
theorem add_other {F : Fla} {gen : UInt32} {s : Nat} {L : List (Option Rec)} (id : UInt32) (d : List UInt8) (hd : d.length ≠ s) : (logWh gen s L).add F id d = (F, logWh gen s L, 1) := by
  unfold Whl.add
  rw [if_pos (show d.length ≠ (logWh gen s L).size from hd)]

theorem logWh_some (gen : UInt32) (s : Nat) (l : List Rec) : (logWh gen s (l.map some)).l = l := by
  show (l.map some).filterMap id = l
  rw [List.filterMap_map]
  induction l with
  | nil => rfl
  | cons x xs ih => rw [List.filterMap_cons]; simp at ih ⊢

end Go.Proofs.Ytghgmchgbhdldaa
