/-
  WhA: enters of package wheel, slices.Concat of three, walked.
-/
import Derived.Test.YtghgmchgbhdldaaWhC
import Derived.Test.YtghgmchgbhdldaaAppB
import Derived.Test.YtghgmchgbhdldaaMakeB
set_option linter.unusedVariables false
namespace Go.Proofs.Ytghgmchgbhdldaa
open Go.RowKit
attribute [local go_sem ↓] Go.wp_at_zero Go.wp_at_succ

set_option maxRecDepth 100000 in
set_option maxHeartbeats 1000000 in
theorem enters_calls {w : World} {p q u s : Nat} {F : Fla} {gen : UInt32} {v : Value} {ready next : Int} (h : FlaAt w p q F) (hW : WhB w p u gen s v ready next) (hu : u ∉ [p, q]) (k : Nat) (hk : k < 8) :
    Calls Try.prog 61 #[.pointer (some ⟨u, 0, none⟩), .int .i64 k] w (FPost w p q (F.enters ready k).1 (.int .i64 (F.enters ready k).2)) := by
  have hBl := blank_calls h ((6 + k) * 256 : Nat) 256
  have hEr := fun (w : World) (h : FlaAt w p q F) => erase_calls h (6 + k : Nat)
  have c0 := hW.cell' (i := 0) rfl
  have c4 := hW.cell' (i := 4) rfl
  have hen : F.enters ready k = if (k : Int) = ready ∨ F.blank ((6 + k) * 256 : Nat) 256 = true then (F, 0) else F.erase (6 + k : Nat) := rfl
  have e1 : (((6 + k) * 256 : Nat) : Int) = (6 + (k : Int)) * 256 := by omega
  have e2 : ((6 + k : Nat) : Int) = 6 + (k : Int) := by omega
  rw [e1] at hBl hen
  rw [e2] at hEr hen
  by_cases hr : (k : Int) = ready
  · subst hr
    rw [if_pos (.inl rfl)] at hen
    rw [hen]
    clear hBl hEr hen hW
    go_enter Try.func61, Try.ntmps61
    go_wp2_with fail
    go_ret
    exact ⟨rfl, h, Keeps.refl _ _⟩
  · have hb1 : ((k : Int) == ready) = false := by simpa using hr
    cases hb : F.blank ((6 + (k : Int)) * 256) 256
    · rw [if_neg (by simp [hr, hb])] at hen
      rw [hb] at hBl
      have Hen := Lib.hid hen
      clear hen hb hr e1 e2
      go_enter Try.func61, Try.ntmps61
      go_wp2_with fail
      refine hBl.mono ?_
      rintro e w1 ⟨rfl, hk1⟩
      have c0' := hk1.cell c0
      go_wp2_with fail
      refine (hEr _ (h.keeps hk1 (by simp) (by simp))).mono ?_
      rintro e w2 ⟨rfl, hF2, hk2⟩
      go_wp2_with fail
      go_ret
      rw [Hen.out]
      exact ⟨rfl, hF2, hk1.nil.trans hk2⟩
    · rw [if_pos (.inr hb)] at hen
      rw [hb] at hBl
      have Hen := Lib.hid hen
      clear hen hb hr e1 e2 hEr
      go_enter Try.func61, Try.ntmps61
      go_wp2_with fail
      refine hBl.mono ?_
      rintro e w1 ⟨rfl, hk1⟩
      go_wp2_with fail
      go_ret
      rw [Hen.out]
      exact ⟨rfl, h.keeps hk1 (by simp) (by simp), hk1.nil⟩

end Go.Proofs.Ytghgmchgbhdldaa
