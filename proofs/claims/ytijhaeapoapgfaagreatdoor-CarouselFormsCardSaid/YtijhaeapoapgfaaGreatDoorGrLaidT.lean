/-
  GrLaidT: the texts LaidT, one behind another.
-/
import Derived.Test.YtijhaeapoapgfaaGreatDoorGrRows8
import Derived.Test.YtijhaeapoapgfaaGreatDoorGrCd2
import Derived.Deep.DeepHandedRow
import Derived.Lib.LaidTab
set_option linter.unusedVariables false
namespace Go.Proofs.YtijhaeapoapgfaaGreatDoor
open Go.ChangeShapes Go.WideShapes Go.ChangeAt Go.RowKit Go.Deep Go.Joins

theorem gTab : Tryz.prog.globalNamed "math/bits.deBruijn64tab" = some 1 := by kernel_rfl
theorem gTabType : (Tryz.prog.globals[1]?).map (·.type) = some 253 := by kernel_rfl
theorem cellsTab : Tryz.prog.cellsOf 253 = 64 := by kernel_rfl
theorem cellsU8 : Tryz.prog.cellsOf 5 = 1 := by kernel_rfl
def tzInts : List Int := tzTab.map fun (x : Nat) => (x : Int)
theorem tzInts_len : tzInts.length = 64 := by decide
theorem tzInts_at {k : Nat} (hk : k < 64) : tzInts.getD k 0 = ((tzTab.getD k 0 : Nat) : Int) := by
  have : k < tzTab.length := hk
  unfold tzInts
  rw [List.getD_eq_getElem?_getD, List.getElem?_map, List.getElem?_eq_getElem this, List.getD_eq_getElem?_getD, List.getElem?_eq_getElem this]
  rfl

theorem tz_laid {W : World} (h : laidMetH Tryz.prog [("math/bits.deBruijn64tab", Lib.tabData .u8 tzInts)] W) : TzAt W := by
  have hT : Lib.TabIs Tryz.prog W "math/bits.deBruijn64tab" .u8 tzInts := Lib.tabIs_of_head (rest := []) gTab gTabType Tryz.underlying253 Tryz.underlying5 cellsU8 cellsTab h
  intro k hk
  have := hT.cell gTab k (by rw [tzInts_len]; exact hk)
  rw [tzInts_at hk] at this
  exact this

/-- The settled world, the table (its block) holding what its initialiser lays. -/
noncomputable def laidWorld (os : Os) : World :=
  { World.holding Tryz.prog os ⟨#[], #[], []⟩ with heap := (World.holding Tryz.prog os ⟨#[], #[], []⟩).heap.modify 1 fun
      | .cells _ t frozen => .cells (tzInts.map fun z => Value.int .u8 z).toArray t frozen
      | o => o }

end Go.Proofs.YtijhaeapoapgfaaGreatDoor
