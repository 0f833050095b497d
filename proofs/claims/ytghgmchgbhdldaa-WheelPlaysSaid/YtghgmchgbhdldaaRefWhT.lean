/-
  RefWhT: the reference's way to open a wheel, place by place, comes to what WhM's comes to. No program here.
-/
import Derived.Test.YtghgmchgbhdldaaWhT
set_option linter.unusedVariables false
namespace Go.Proofs.Ytghgmchgbhdldaa
open Go.RowKit

/-- One place more: the records, the last sector that counts (-1: none), does this sector count. -/
def rStep (F : Fla) (gen : UInt32) (s : Nat) (st : List Rec × Int × Bool) (p : Nat) : List Rec × Int × Bool :=
  let r := F.recAt gen s p
  let counts := if p % places s = 0 then r.isSome else st.2.2
  match r with
  | none => (st.1, st.2.1, counts)
  | some d => if counts then (st.1 ++ [d], ((p / places s : Nat) : Int), counts) else (st.1, st.2.1, counts)

def rTo (F : Fla) (gen : UInt32) (s : Nat) : Nat → List Rec × Int × Bool
  | 0 => ([], -1, false)
  | p + 1 => rStep F gen s (rTo F gen s p) p

theorem rTo_in {F : Fla} {gen : UInt32} {s : Nat} (hs : s ≤ 16) (c : Nat) (R : List Rec) (rd : Int) (b : Bool) (h : rTo F gen s (c * places s) = (R, rd, b)) :
    ∀ m, m + 1 ≤ places s → rTo F gen s (c * places s + (m + 1)) =
      if (F.recAt gen s (c * places s)).isSome then (R ++ F.recsAt gen s (c * places s) (m + 1), (c : Int), true) else (R, rd, false) := by
  have hp := places_pos hs
  intro m
  induction m with
  | zero =>
    intro _
    show rStep F gen s (rTo F gen s (c * places s)) (c * places s) = _
    rw [h]
    unfold rStep
    simp only [Nat.mul_mod_left, ↓reduceIte, Nat.mul_div_cancel _ hp]
    cases hr : F.recAt gen s (c * places s) with
    | none => simp
    | some d => simp [Fla.recsAt, hr]
  | succ m ih =>
    intro hm
    have hmod : (c * places s + (m + 1)) % places s ≠ 0 := by
      rw [Nat.add_comm, Nat.add_mul_mod_self_right, Nat.mod_eq_of_lt (by omega)]; omega
    have hdiv : (c * places s + (m + 1)) / places s = c := by
      rw [Nat.mul_comm c, Nat.mul_add_div hp, Nat.div_eq_of_lt (by omega), Nat.add_zero]
    show rStep F gen s (rTo F gen s (c * places s + (m + 1))) (c * places s + (m + 1)) = _
    rw [ih (by omega)]
    unfold rStep
    dsimp only
    rw [if_neg hmod, hdiv]
    cases h0 : F.recAt gen s (c * places s) with
    | none =>
      simp only [Option.isSome_none, Bool.false_eq_true, ↓reduceIte]
      cases F.recAt gen s (c * places s + (m + 1)) <;> simp
    | some d =>
      simp only [Option.isSome_some, ↓reduceIte]
      rw [Fla.recsAt.eq_def F gen s (c * places s) (m + 1 + 1)]
      cases hr : F.recAt gen s (c * places s + (m + 1)) <;> simp [hr]

theorem rTo_sector {F : Fla} {gen : UInt32} {s : Nat} (hs : s ≤ 16) : ∀ c, ∃ b, rTo F gen s (c * places s) = ((F.readTo gen s c).1, (F.readTo gen s c).2, b)
  | 0 => ⟨false, by rw [Nat.zero_mul]; rfl⟩
  | c + 1 => by
    have hp := places_pos hs
    obtain ⟨b, h⟩ := rTo_sector hs c
    obtain ⟨m, hm⟩ : ∃ m, places s = m + 1 := ⟨places s - 1, by omega⟩
    have h1 := rTo_in hs c _ _ b h m (by omega)
    rw [← hm] at h1
    have e : (c + 1) * places s = c * places s + places s := by rw [Nat.add_mul, Nat.one_mul]
    rw [e, h1, Fla.readTo, Fla.readSec]
    cases h0 : F.recAt gen s (c * places s) with
    | none => exact ⟨false, by simp⟩
    | some d => exact ⟨true, by simp⟩

end Go.Proofs.Ytghgmchgbhdldaa
