/-
  RefW: the walks of the reference's flash: step, there, Fuse, Cut, Start, Program, Read, Blank.
-/
import Derived.Test.YtghgmchgbhdldaaRefM
import Derived.StillTailTactics
import Derived.BigQuiet
namespace Go.Proofs.Ytghgmchgbhdldaa
open Go.RowKit

theorem wrap_i64 (x : Int) : IntKind.i64.wrap x = wrap64 x := IntWalk.i64_left x

set_option maxRecDepth 100000 in
set_option maxHeartbeats 400000 in
theorem rstep_calls {w : World} {p q : Nat} {F : Fla} (h : RfAt w p q F) (hd : F.down = false) :
    Calls Try.prog 110 #[.pointer (some ⟨p, 0, none⟩)] w (RPost w p q F.step (.bool (!F.step.down))) := by
  obtain ⟨z, hz, h⟩ := h
  have c17 := h.steps
  have c18 := h.fused
  have c19 := h.left
  have c16 := h.down
  have f16 := h.frz 16
  have f17 := h.frz 17
  have f19 := h.frz 19
  obtain ⟨b, er, wear, down, fused, left, torn, steps⟩ := F
  dsimp only at *
  subst hd
  cases fused
  · clear hz
    go_enter Try.func110, Try.ntmps110
    go_wp2_with fail
    go_ret
    refine ⟨by simp [Fla.step], ⟨z, by simp [Fla.step], ?_⟩, (Keeps.refl _ _).setCell (by simp) _⟩
    have := ((h.setSteps (wrap64 (steps + 1))).other (wrap64 (left - 1)))
    simpa [Fla.step] using this
  · obtain rfl := hz rfl
    by_cases hl : wrap64 (z - 1) < 0
    · go_enter Try.func110, Try.ntmps110
      go_wp2_with fail
      go_ret
      refine ⟨by simp [Fla.step, hl], ⟨wrap64 (z - 1), fun _ => rfl, ?_⟩, (((Keeps.refl _ _).setCell (by simp) _).setCell (by simp) _).setCell (by simp) _⟩
      have := ((h.setSteps (wrap64 (steps + 1))).setLeft (wrap64 (z - 1)) (wrap64 (z - 1))).setDown true
      simpa [Fla.step, hl, wrap_i64] using this
    · go_enter Try.func110, Try.ntmps110
      go_wp2_with fail
      go_ret
      refine ⟨by simp [Fla.step, decide_eq_false (Int.not_lt.mpr hl)], ⟨wrap64 (z - 1), fun _ => rfl, ?_⟩, ((Keeps.refl _ _).setCell (by simp) _).setCell (by simp) _⟩
      have := (h.setSteps (wrap64 (steps + 1))).setLeft (wrap64 (z - 1)) (wrap64 (z - 1))
      simpa [Fla.step, decide_eq_false (Int.not_lt.mpr hl), wrap_i64] using this

/-- Are n bytes there from a on? -/
def thereB (a n : Int) : Bool := decide (0 ≤ n) && decide (n ≤ 3584) && decide (0 ≤ a) && decide (a ≤ 3584 - n)

theorem thereB_ready (F : Fla) (hd : F.down = false) (a n : Int) : F.ready a n = if thereB a n then 0 else 1 := by
  unfold Fla.ready thereB
  rw [if_neg (by simp [hd])]
  by_cases h : n < 0 ∨ n > 3584 ∨ a < 0 ∨ a > 3584 - n
  · rw [if_pos h, if_neg (by simp; omega)]
  · rw [if_neg h, if_pos (by simp; omega)]

set_option maxRecDepth 100000 in
set_option maxHeartbeats 400000 in
theorem there_calls {w : World} (a n : Int) :
    Calls Try.prog 109 #[.int .i64 a, .int .i64 n] w fun e w' => e = .returned (.bool (thereB a n)) ∧ w = w' := by
  by_cases h1 : 0 ≤ n
  · by_cases h2 : n ≤ 3584
    · have hw : IntKind.i64.wrap (3584 - n) = 3584 - n := IntWalk.i64_in _ (by omega)
      go_enter Try.func109, Try.ntmps109
      go_wp2_with fail
      all_goals
        go_ret
        exact ⟨by (unfold thereB; simp [*]; try omega), rfl⟩
    · go_enter Try.func109, Try.ntmps109
      go_wp2_with fail
      go_ret
      exact ⟨by (unfold thereB; simp [*]; try omega), rfl⟩
  · go_enter Try.func109, Try.ntmps109
    go_wp2_with fail
    go_ret
    exact ⟨by (unfold thereB; simp [*]; try omega), rfl⟩

set_option maxRecDepth 100000 in
set_option maxHeartbeats 400000 in
theorem rfuse_calls {w : World} {p q : Nat} {F : Fla} (h : RfAt w p q F) (n t : Int) :
    Calls Try.prog 33 #[.pointer (some ⟨p, 0, none⟩), .int .i64 n, .int .i64 t] w (RPost w p q (F.fuse n t) (.tuple #[])) := by
  obtain ⟨z, hz, h⟩ := h
  clear hz
  have c18 := h.fused
  have c19 := h.left
  have c20 := h.torn
  have f18 := h.frz 18
  have f19 := h.frz 19
  have f20 := h.frz 20
  go_enter Try.func33, Try.ntmps33
  go_wp2_with fail
  go_end0
  refine ⟨rfl, ⟨n, fun _ => rfl, ?_⟩, (((Keeps.refl _ _).setCell (by simp) _).setCell (by simp) _).setCell (by simp) _⟩
  exact ((h.setFused (decide (0 ≤ n))).setLeft n n).setTorn t

set_option maxRecDepth 100000 in
set_option maxHeartbeats 400000 in
theorem rstart_calls {w : World} {p q : Nat} {F : Fla} (h : RfAt w p q F) :
    Calls Try.prog 35 #[.pointer (some ⟨p, 0, none⟩)] w (RPost w p q F.start (.tuple #[])) := by
  obtain ⟨z, hz, h⟩ := h
  have c16 := h.down
  have c18 := h.fused
  have c19 := h.left
  have f16 := h.frz 16
  have f18 := h.frz 18
  obtain ⟨b, er, wear, down, fused, left, torn, steps⟩ := F
  dsimp only at *
  cases fused
  · clear hz
    go_enter Try.func35, Try.ntmps35
    go_wp2_with fail
    go_end0
    exact ⟨rfl, ⟨z, by simp [Fla.start], (h.setDown false).setFused false⟩, ((Keeps.refl _ _).setCell (by simp) _).setCell (by simp) _⟩
  · obtain rfl := hz rfl
    by_cases hl : 0 ≤ z
    · go_enter Try.func35, Try.ntmps35
      go_wp2_with fail
      go_end0
      refine ⟨rfl, ⟨z, fun _ => rfl, ?_⟩, ((Keeps.refl _ _).setCell (by simp) _).setCell (by simp) _⟩
      have := (h.setDown false).setFused true
      simpa [Fla.start, hl] using this
    · go_enter Try.func35, Try.ntmps35
      go_wp2_with fail
      go_end0
      refine ⟨rfl, ⟨z, fun _ => rfl, ?_⟩, ((Keeps.refl _ _).setCell (by simp) _).setCell (by simp) _⟩
      have := (h.setDown false).setFused false
      simpa [Fla.start, decide_eq_false (Int.not_le.mpr hl)] using this

end Go.Proofs.Ytghgmchgbhdldaa
