/-
  ShaC: package digest: constants, walked.
-/
import Derived.Test.YthjojkkjdaoocaaSha1
set_option linter.unusedVariables false
set_option linter.unusedSimpArgs false
namespace Go.Proofs.Ythjojkkjdaoocaa
open Go.RowKit
attribute [local go_sem ↓] Go.wp_at_zero Go.wp_at_succ

theorem all_one (l : List UInt32) : ∀ v ∈ l.map B32, v.oneCell' = true := by intro v hv; obtain ⟨x, _, rfl⟩ := List.mem_map.1 hv; rfl

set_option maxRecDepth 100000 in
set_option maxHeartbeats 1000000 in
theorem constants_calls {w : World} :
    Calls Try.prog 98 #[] w fun e w' => e = .returned (.agg (shaK.map B32).toArray) ∧ Keeps [] w w' := by
  go_enter Try.func98, Try.ntmps98
  go_upto_region 1 with (fail)
  apply wp_region_lit
  go_step
  go_step
  go_step
  have hB0 : Blk (w.alloc (.cells #[.int .u32 0, .int .u32 0, .int .u32 0, .int .u32 0, .int .u32 0, .int .u32 0, .int .u32 0, .int .u32 0, .int .u32 0, .int .u32 0, .int .u32 0, .int .u32 0, .int .u32 0, .int .u32 0, .int .u32 0, .int .u32 0, .int .u32 0, .int .u32 0, .int .u32 0, .int .u32 0, .int .u32 0, .int .u32 0, .int .u32 0, .int .u32 0, .int .u32 0, .int .u32 0, .int .u32 0, .int .u32 0, .int .u32 0, .int .u32 0, .int .u32 0, .int .u32 0, .int .u32 0, .int .u32 0, .int .u32 0, .int .u32 0, .int .u32 0, .int .u32 0, .int .u32 0, .int .u32 0, .int .u32 0, .int .u32 0, .int .u32 0, .int .u32 0, .int .u32 0, .int .u32 0, .int .u32 0, .int .u32 0, .int .u32 0, .int .u32 0, .int .u32 0, .int .u32 0, .int .u32 0, .int .u32 0, .int .u32 0, .int .u32 0, .int .u32 0, .int .u32 0, .int .u32 0, .int .u32 0, .int .u32 0, .int .u32 0, .int .u32 0, .int .u32 0] 111)) w.heap.size 111 ((List.replicate 64 (0 : UInt32)).map B32) := Blk.newA w 111 #[.int .u32 0, .int .u32 0, .int .u32 0, .int .u32 0, .int .u32 0, .int .u32 0, .int .u32 0, .int .u32 0, .int .u32 0, .int .u32 0, .int .u32 0, .int .u32 0, .int .u32 0, .int .u32 0, .int .u32 0, .int .u32 0, .int .u32 0, .int .u32 0, .int .u32 0, .int .u32 0, .int .u32 0, .int .u32 0, .int .u32 0, .int .u32 0, .int .u32 0, .int .u32 0, .int .u32 0, .int .u32 0, .int .u32 0, .int .u32 0, .int .u32 0, .int .u32 0, .int .u32 0, .int .u32 0, .int .u32 0, .int .u32 0, .int .u32 0, .int .u32 0, .int .u32 0, .int .u32 0, .int .u32 0, .int .u32 0, .int .u32 0, .int .u32 0, .int .u32 0, .int .u32 0, .int .u32 0, .int .u32 0, .int .u32 0, .int .u32 0, .int .u32 0, .int .u32 0, .int .u32 0, .int .u32 0, .int .u32 0, .int .u32 0, .int .u32 0, .int .u32 0, .int .u32 0, .int .u32 0, .int .u32 0, .int .u32 0, .int .u32 0, .int .u32 0]
  have hlen : (shaK.map B32).length = 64 := by rw [List.length_map]; exact shaK_len
  have hsz : (Try.prog.info? 111).map (·.size) = some (shaK.map B32).length := by rw [hlen]; kernel_rfl
  have hB2 := hB0.setCells (cs := shaK.map B32) (by rw [hlen]; rfl)
  have hK2 := Keeps.setCellsNew (S := []) (b := w.heap.size) (Nat.le_refl _) (shaK.map B32) 0 _ ((Keeps.refl [] w).alloc (.cells #[.int .u32 0, .int .u32 0, .int .u32 0, .int .u32 0, .int .u32 0, .int .u32 0, .int .u32 0, .int .u32 0, .int .u32 0, .int .u32 0, .int .u32 0, .int .u32 0, .int .u32 0, .int .u32 0, .int .u32 0, .int .u32 0, .int .u32 0, .int .u32 0, .int .u32 0, .int .u32 0, .int .u32 0, .int .u32 0, .int .u32 0, .int .u32 0, .int .u32 0, .int .u32 0, .int .u32 0, .int .u32 0, .int .u32 0, .int .u32 0, .int .u32 0, .int .u32 0, .int .u32 0, .int .u32 0, .int .u32 0, .int .u32 0, .int .u32 0, .int .u32 0, .int .u32 0, .int .u32 0, .int .u32 0, .int .u32 0, .int .u32 0, .int .u32 0, .int .u32 0, .int .u32 0, .int .u32 0, .int .u32 0, .int .u32 0, .int .u32 0, .int .u32 0, .int .u32 0, .int .u32 0, .int .u32 0, .int .u32 0, .int .u32 0, .int .u32 0, .int .u32 0, .int .u32 0, .int .u32 0, .int .u32 0, .int .u32 0, .int .u32 0, .int .u32 0] 111))
  have hT := hB0.there (shaK.map B32).toArray.size (by rw [List.size_toArray, hlen]; rfl)
  refine wpList_store_mid rfl 111 (.tmp 0) (.tmp 1) rfl w.heap.size 0 (shaK.map B32).toArray (by rfl) (by rfl) hT (by rw [List.size_toArray]; exact hsz) (all_oneCell_toArray (all_one _)) ?_
  simp only [Act.put]
  go_wp2_with fail
  exact bodyPost_ret (v := .agg (shaK.map B32).toArray) (results_cell_row Try.results98 _ _ _ _ _ _ _ (by rfl) hB2 Try.underlying111 rfl (by rw [List.size_toArray]; exact hsz)) rfl ⟨rfl, hK2⟩

end Go.Proofs.Ythjojkkjdaoocaa
