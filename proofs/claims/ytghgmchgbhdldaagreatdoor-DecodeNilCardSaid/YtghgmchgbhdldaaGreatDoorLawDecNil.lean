/-
  LawDecNil: DecodeNil, walked.
-/
import Derived.Test.YtghgmchgbhdldaaGreatDoorLaw12a
set_option linter.unusedVariables false
set_option linter.unusedSimpArgs false
namespace Go.Proofs.YtghgmchgbhdldaaGreatDoor
open Go.RowKit
attribute [local go_sem ↓] Go.wp_at_zero Go.wp_at_succ

set_option maxRecDepth 100000 in
set_option maxHeartbeats 1600000 in
theorem decodeNil_walk {w : World} (ht : TzAt w) (id : UInt32) (a : Option Addr) (m c : Nat) (len : Int) :
    Calls Tryz.prog 4 #[.agg #[B32 id, .slice a m c], .int .i64 len] w fun e w' => e = .returned (.bool true) ∧ Keeps [] w w' := by
  have kA : Keeps [] w (w.alloc (.cells #[B32 id, .slice a m c] 36)) := (Keeps.refl [] w).alloc _
  have hB := Blk.newA w 36 #[B32 id, .slice a m c]
  have HI := Lib.hid (fun w => dimageNil_calls (w := w) len)
  have HS := Lib.hid (fun w => dsaysNil_calls (w := w) id)
  have HT := Lib.hid (fun w => dtakeNil_calls (w := w) id (.slice a m c))
  go_enter Tryz.func4, Tryz.ntmps4
  go_wp2_with fail
  generalize w.alloc (.cells #[B32 id, .slice a m c] 36) = w0 at *
  refine (HI.out _).mono ?_
  rintro e w1 ⟨rfl, k1⟩
  have hB1 := hB.keeps k1 (by simp)
  have c0 := hB1.cell' (i := 0) rfl
  go_wp2_with fail
  refine (HS.out _).mono ?_
  rintro e w2 ⟨rfl, k2⟩
  have hB2 := hB1.keeps k2 (by simp)
  clear c0
  have c0 := hB2.cell' (i := 0) rfl
  have c1 := hB2.cell' (i := 1) rfl
  go_wp2_with fail
  refine (HT.out _).mono ?_
  rintro e w3 ⟨rfl, k3⟩
  have kk := ((kA.trans k1).trans k2).trans k3
  clear c0 c1
  go_wp2_with fail
  refine (dtakenNil_calls).mono ?_
  rintro e w' ⟨rfl, rfl⟩
  go_wp2_with fail
  refine (dneedsNil_calls).mono ?_
  rintro e w' ⟨rfl, rfl⟩
  go_wp2_with fail
  refine (awake12_calls (ht.keeps kk (by simp))).mono ?_
  rintro e w4 ⟨rfl, k4⟩
  go_wp2_with fail
  go_ret
  exact ⟨rfl, kk.trans k4⟩

end Go.Proofs.YtghgmchgbhdldaaGreatDoor
