/-
  FlashW: the walks of package flash: each method does to the flash in memory what the plain function of FlashM says.
-/
import Derived.Test.YtghgmchgbhdldaaRows
import Derived.Test.YtghgmchgbhdldaaFlashM
namespace Go.Proofs.Ytghgmchgbhdldaa
open Go.RowKit

/-- A method of a flash that tells one number: the flash becomes G, all else stays. -/
def FPost (w : World) (p q : Nat) (G : Fla) (v : Value) (e : Ending) (w' : World) : Prop := e = .returned v ∧ FlaAt w' p q G ∧ Keeps [p, q] w w'

theorem add_run (w : World) (p o : Nat) (x y : Int) (hc : w.cell? ⟨p, o, none⟩ = some (.int .i64 x)) (hz : w.frozen? ⟨p, o, none⟩ = false) :
    (callFunc 151 #[.pointer (some ⟨p, o, none⟩), .int .i64 y]).run Try.prog w = .ok (.value (.int .i64 (wrap64 (x + y)))) (w.setCell ⟨p, o, none⟩ (.int .i64 (wrap64 (x + y)))) :=
  run_call_add (P := Try.prog) Try.func151 (by kernel_rfl) (by kernel_rfl) (by kernel_rfl) .i64 (by kernel_rfl) hc hz (by simp only [go_sem]; simp; exact IntWalk.i64_left _)

set_option maxRecDepth 100000 in
set_option maxHeartbeats 400000 in
theorem step_calls {w : World} {p q : Nat} {F : Fla} (h : FlaAt w p q F) :
    Calls Try.prog 104 #[.pointer (some ⟨p, 0, none⟩)] w (FPost w p q F.step (.bool (!F.step.down))) := by
  have c16 := h.down
  have c17 := h.fused
  have c18 := h.left
  have c20 := h.steps
  have f16 := h.frz 16
  have f18 := h.frz 18
  have f20 := h.frz 20
  have ha := fun y => add_run w p 20 F.steps y c20 f20
  obtain ⟨b, er, wear, down, fused, left, torn, steps⟩ := F
  dsimp only at *
  cases fused
  · go_enter Try.func104, Try.ntmps104
    go_wp2
    go_ret
    refine ⟨by simp [Fla.step], ?_, ((Keeps.refl _ _).setCell (by simp) _).setCell (by simp) _⟩
    have := (h.setSteps (wrap64 (steps + 1))).setLeft (wrap64 (left - 1))
    simpa [Fla.step] using this
  · by_cases hl : wrap64 (left - 1) < 0
    · go_enter Try.func104, Try.ntmps104
      go_wp2
      go_ret
      refine ⟨by simp [Fla.step, hl], ?_, (((Keeps.refl _ _).setCell (by simp) _).setCell (by simp) _).setCell (by simp) _⟩
      have := ((h.setSteps (wrap64 (steps + 1))).setLeft (wrap64 (left - 1))).setDown true
      simpa [Fla.step, hl] using this
    · go_enter Try.func104, Try.ntmps104
      go_wp2
      go_ret
      refine ⟨by simp [Fla.step, decide_eq_false (Int.not_lt.mpr hl)], ?_, ((Keeps.refl _ _).setCell (by simp) _).setCell (by simp) _⟩
      have := (h.setSteps (wrap64 (steps + 1))).setLeft (wrap64 (left - 1))
      simpa [Fla.step, decide_eq_false (Int.not_lt.mpr hl)] using this


theorem load_run (w : World) (p o : Nat) (x : Int) (hc : w.cell? ⟨p, o, none⟩ = some (.int .i64 x)) :
    (callFunc 105 #[.pointer (some ⟨p, o, none⟩)]).run Try.prog w = .ok (.value (.int .i64 x)) w :=
  run_call_load (P := Try.prog) Try.func105 (by kernel_rfl) (by kernel_rfl) (by kernel_rfl) .i64 (by kernel_rfl) hc

set_option maxRecDepth 100000 in
set_option maxHeartbeats 400000 in
theorem ready_calls {w : World} {p q : Nat} {F : Fla} (h : FlaAt w p q F) (a n : Int) :
    Calls Try.prog 97 #[.pointer (some ⟨p, 0, none⟩), .int .i64 a, .int .i64 n] w fun e w' => e = .returned (.int .i64 (F.ready a n)) ∧ w = w' := by
  have c16 := h.down
  clear h
  obtain ⟨b, er, wear, down, fused, left, torn, steps⟩ := F
  dsimp only at c16
  cases down
  · by_cases h1 : n < 0
    · go_enter Try.func97, Try.ntmps97
      go_wp2
      go_ret
      exact ⟨by simp [Fla.ready, h1], rfl⟩
    · by_cases h2 : 3584 < n
      · go_enter Try.func97, Try.ntmps97
        go_wp2
        go_ret
        exact ⟨by simp [Fla.ready, h2], rfl⟩
      · by_cases h3 : a < 0
        · go_enter Try.func97, Try.ntmps97
          go_wp2
          go_ret
          exact ⟨by simp [Fla.ready, h3], rfl⟩
        · by_cases h4 : 3584 - n < a
          · go_enter Try.func97, Try.ntmps97
            go_wp2
            go_ret
            exact ⟨by simp [Fla.ready, h4], rfl⟩
          · go_enter Try.func97, Try.ntmps97
            go_wp2
            go_ret
            have e : Fla.ready ⟨b, er, wear, false, fused, left, torn, steps⟩ a n = 0 := by unfold Fla.ready; rw [if_neg (by simp), if_neg (by omega)]
            exact ⟨by rw [e]; rfl, rfl⟩
  · go_enter Try.func97, Try.ntmps97
    go_wp2
    go_ret
    exact ⟨by simp [Fla.ready], rfl⟩

set_option maxRecDepth 100000 in
set_option maxHeartbeats 400000 in
theorem fuse_calls {w : World} {p q : Nat} {F : Fla} (h : FlaAt w p q F) (n t : Int) :
    Calls Try.prog 29 #[.pointer (some ⟨p, 0, none⟩), .int .i64 n, .int .i64 t] w (FPost w p q (F.fuse n t) (.tuple #[])) := by
  have c17 := h.fused
  have c18 := h.left
  have c19 := h.torn
  have f17 := h.frz 17
  have f18 := h.frz 18
  have f19 := h.frz 19
  go_enter Try.func29, Try.ntmps29
  go_wp2
  go_end0
  refine ⟨rfl, ?_, (((Keeps.refl _ _).setCell (by simp) _).setCell (by simp) _).setCell (by simp) _⟩
  exact ((h.setFused (decide (0 ≤ n))).setLeft n).setTorn t

set_option maxRecDepth 100000 in
set_option maxHeartbeats 400000 in
theorem cut_calls {w : World} {p q : Nat} {F : Fla} (h : FlaAt w p q F) :
    Calls Try.prog 19 #[.pointer (some ⟨p, 0, none⟩)] w (FPost w p q F.cut (.tuple #[])) := by
  have c16 := h.down
  have f16 := h.frz 16
  go_enter Try.func19, Try.ntmps19
  go_wp2
  go_end0
  exact ⟨rfl, h.setDown true, (Keeps.refl _ _).setCell (by simp) _⟩

set_option maxRecDepth 100000 in
set_option maxHeartbeats 400000 in
theorem start_calls {w : World} {p q : Nat} {F : Fla} (h : FlaAt w p q F) :
    Calls Try.prog 30 #[.pointer (some ⟨p, 0, none⟩)] w (FPost w p q F.start (.tuple #[])) := by
  have c16 := h.down
  have c17 := h.fused
  have c18 := h.left
  have f16 := h.frz 16
  have f17 := h.frz 17
  obtain ⟨b, er, wear, down, fused, left, torn, steps⟩ := F
  dsimp only at *
  cases fused
  · go_enter Try.func30, Try.ntmps30
    go_wp2
    go_end0
    exact ⟨rfl, (h.setDown false).setFused false, ((Keeps.refl _ _).setCell (by simp) _).setCell (by simp) _⟩
  · by_cases hl : 0 ≤ left
    · go_enter Try.func30, Try.ntmps30
      go_wp2
      go_end0
      refine ⟨rfl, ?_, ((Keeps.refl _ _).setCell (by simp) _).setCell (by simp) _⟩
      have := (h.setDown false).setFused true
      simpa [Fla.start, hl] using this
    · go_enter Try.func30, Try.ntmps30
      go_wp2
      go_end0
      refine ⟨rfl, ?_, ((Keeps.refl _ _).setCell (by simp) _).setCell (by simp) _⟩
      have := (h.setDown false).setFused false
      simpa [Fla.start, decide_eq_false (Int.not_le.mpr hl)] using this

set_option maxRecDepth 100000 in
set_option maxHeartbeats 400000 in
theorem down_calls {w : World} {p q : Nat} {F : Fla} (h : FlaAt w p q F) :
    Calls Try.prog 60 #[.pointer (some ⟨p, 0, none⟩)] w fun e w' => e = .returned (.bool F.down) ∧ w = w' := by
  have c16 := h.down
  clear h
  go_enter Try.func60, Try.ntmps60
  go_wp2
  go_ret
  exact ⟨rfl, rfl⟩

set_option maxRecDepth 100000 in
set_option maxHeartbeats 400000 in
theorem steps_calls {w : World} {p q : Nat} {F : Fla} (h : FlaAt w p q F) :
    Calls Try.prog 28 #[.pointer (some ⟨p, 0, none⟩)] w fun e w' => e = .returned (.int .i64 F.steps) ∧ w = w' := by
  have hr := load_run w p 20 _ h.steps
  clear h
  go_enter Try.func28, Try.ntmps28
  go_wp2
  go_ret
  exact ⟨rfl, rfl⟩

set_option maxRecDepth 100000 in
set_option maxHeartbeats 400000 in
theorem erases_calls {w : World} {p q : Nat} {F : Fla} (h : FlaAt w p q F) (s : Int) :
    Calls Try.prog 25 #[.pointer (some ⟨p, 0, none⟩), .int .i64 s] w fun e w' => e = .returned (.int .i64 (F.erases s)) ∧ w = w' := by
  by_cases h1 : s < 0
  · clear h
    go_enter Try.func25, Try.ntmps25
    go_wp2
    go_ret
    exact ⟨by unfold Fla.erases; rw [if_pos (.inl h1)]; rfl, rfl⟩
  · by_cases h2 : 14 ≤ s
    · clear h
      go_enter Try.func25, Try.ntmps25
      go_wp2
      go_ret
      exact ⟨by unfold Fla.erases; rw [if_pos (.inr h2)]; rfl, rfl⟩
    · obtain ⟨n, rfl⟩ : ∃ n : Nat, s = n := ⟨s.toNat, by omega⟩
      have hc := h.erC (s := n) (by omega)
      have hn : n < 14 := by omega
      clear h
      go_enter Try.func25, Try.ntmps25
      go_wp2
      go_ret
      exact ⟨by unfold Fla.erases; rw [if_neg (by omega)]; rfl, rfl⟩

end Go.Proofs.Ytghgmchgbhdldaa
