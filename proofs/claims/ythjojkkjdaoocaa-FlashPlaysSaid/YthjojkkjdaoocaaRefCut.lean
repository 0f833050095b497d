/-
  RefCut: Cut of the reference's flash, walked (it lies in seat r1's translation alone).
-/
import Derived.Test.YthjojkkjdaoocaaRefW
namespace Go.Proofs.Ythjojkkjdaoocaa
open Go.RowKit

set_option maxRecDepth 100000 in
set_option maxHeartbeats 400000 in
theorem rcut_calls {w : World} {p q : Nat} {F : Fla} (h : RfAt w p q F) :
    Calls Try.prog 40 #[.pointer (some ⟨p, 0, none⟩)] w (RPost w p q F.cut (.tuple #[])) := by
  obtain ⟨z, hz, h⟩ := h
  have c16 := h.down
  have f16 := h.frz 16
  have Hz := Lib.hid hz
  clear hz
  go_enter Try.func40, Try.ntmps40
  go_wp2_with fail
  go_end0
  exact ⟨rfl, ⟨z, Hz.out, h.setDown true⟩, (Keeps.refl _ _).setCell (by simp) _⟩

end Go.Proofs.Ythjojkkjdaoocaa
