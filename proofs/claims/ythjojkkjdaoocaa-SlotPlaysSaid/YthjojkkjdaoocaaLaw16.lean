/-
  Law16: the walks of the statements of layer 16 that need no reference.
-/
import Derived.Test.YthjojkkjdaoocaaFlashN
namespace Go.Proofs.Ythjojkkjdaoocaa
open Go.RowKit

def aw1 : Fla := ((Fla.new 10).program 0 [15]).1
def aw2 : Fla := (aw1.program 0 [240, 1]).1
theorem aw1_ok : ((Fla.new 10).program 0 [15]).2 = 0 := by decide +kernel
theorem aw2_ok : (aw1.program 0 [240, 1]).2 = 0 := by decide +kernel
theorem aw2_read : aw2.read 0 3 = ([0, 1, 255], 0) := by decide +kernel
theorem aw2_steps : aw2.steps = 3 := by decide +kernel

set_option maxRecDepth 100000 in
set_option maxHeartbeats 1000000 in
theorem awake16 {w : World} : Calls Try.prog 20 #[] w (TrueKeep w) := by
  go_enter Try.func20, Try.ntmps20
  go_wp2_with fail
  refine (new_calls 10).mono ?_
  rintro e w1 ⟨p, q, rfl, hp, hq, hF, hK⟩
  go_wp2_with fail
  have hp1 := hF.ltp
  have hq1 := hF.ltq
  refine (program_calls (hF.alloc _) 0 _ 1 [15] (Rd.lit w1 _ _ [15] rfl) (by simp; omega)).mono ?_
  rintro e w2 ⟨rfl, hF2, hK2⟩
  rw [aw1_ok]
  replace hF2 : FlaAt w2 p q aw1 := hF2
  have hs2 := hK2.size
  simp only [World.size_alloc] at hs2
  clear hF
  go_wp2_with fail
  refine (program_calls (hF2.alloc _) 0 _ 2 [240, 1] (Rd.lit w2 _ _ [240, 1] rfl) (by simp; omega)).mono ?_
  rintro e w3 ⟨rfl, hF3, hK3⟩
  rw [aw2_ok]
  replace hF3 : FlaAt w3 p q aw2 := hF3
  clear hF2
  go_wp2_with fail
  refine (read_calls hF3 0 3).mono ?_
  rw [aw2_read]
  rintro e w4 ⟨v, rfl, hv, hK4⟩
  obtain ⟨a, c, rfl, _, hrd, _, _, h0⟩ := hv.rd
  have hF4 := hF3.keeps hK4 (by simp) (by simp)
  have hstr := str_run 3 c hrd rfl h0
  have hk : Keeps [p, q] w w4 := ((((hK.nil.alloc _).trans hK2).alloc _).trans hK3).trans hK4.nil
  clear hv hrd h0 hF3 hK hK2 hK3 hK4
  go_wp2_with fail
  refine (steps_calls hF4).mono ?_
  rintro e w' ⟨rfl, rfl⟩
  rw [aw2_steps]
  go_wp2_with fail
  go_ret
  exact ⟨rfl, hk.mono (by simp [hp, hq])⟩

end Go.Proofs.Ythjojkkjdaoocaa
