/-
  RDig0: the reference's turn and table, walked; what Digest wants of arrays.
-/
import Derived.Test.YthjojkkjdaoocaaRShaT
import Derived.Test.YthjojkkjdaoocaaSha2
set_option linter.unusedVariables false
set_option linter.unusedSimpArgs false
namespace Go.Proofs.Ythjojkkjdaoocaa
open Go.RowKit
attribute [local go_sem ↓] Go.wp_at_zero Go.wp_at_succ

theorem rrot_int (x : UInt32) (n : Nat) (P Q : Int) (h0 : 0 < n) (hn : n < 32) (hP : P = ((2 ^ (32 - n) : Nat) : Int)) (hQ : Q = ((2 ^ n : Nat) : Int)) :
    bits .or .u32 ((x.toNat : Int) / Q) ((x.toNat : Int) * P % (4294967296 : Int)) = ((rotr n x).toNat : Int) := by
  have e1 : (x.toNat : Int) * P % (4294967296 : Int) = ((x <<< UInt32.ofNat (32 - n)).toNat : Int) := by
    rw [hP, UInt32.toNat_shiftLeft, UInt32.toNat_ofNat', Nat.shiftLeft_eq, Nat.mod_eq_of_lt (a := 32 - n) (b := 2 ^ 32) (by omega), Nat.mod_eq_of_lt (a := 32 - n) (b := 32) (by omega)]
    rw [Int.natCast_emod, Int.natCast_mul]
    rfl
  have e2 : (x.toNat : Int) / Q = ((x >>> UInt32.ofNat n).toNat : Int) := by
    rw [hQ, UInt32.toNat_shiftRight, UInt32.toNat_ofNat', Nat.shiftRight_eq_div_pow, Nat.mod_eq_of_lt (a := n) (b := 2 ^ 32) (by omega), Nat.mod_eq_of_lt (a := n) (b := 32) (by omega)]
    rw [Int.natCast_ediv]
  rw [e1, e2, or32, rturn_eq]

set_option maxRecDepth 100000 in
theorem rturn_calls {w : World} (x : UInt32) (n : Nat) (hn : n ∈ rotArgs) :
    Calls Try.prog 85 #[B32 x, .int .u64 (n : Int)] w fun e w' => e = .returned (B32 (rotr n x)) ∧ w = w' := by
  simp only [rotArgs, List.mem_cons, List.not_mem_nil, or_false] at hn
  rcases hn with rfl | rfl | rfl | rfl | rfl | rfl | rfl | rfl | rfl | rfl
  · go_enter Try.func85, Try.ntmps85
    go_wp2_with fail
    go_ret
    exact ⟨congrArg (fun z => Ending.returned (.int .u32 z)) (rrot_int x 2 _ _ (by decide) (by decide) (by decide) (by decide)), rfl⟩
  · go_enter Try.func85, Try.ntmps85
    go_wp2_with fail
    go_ret
    exact ⟨congrArg (fun z => Ending.returned (.int .u32 z)) (rrot_int x 6 _ _ (by decide) (by decide) (by decide) (by decide)), rfl⟩
  · go_enter Try.func85, Try.ntmps85
    go_wp2_with fail
    go_ret
    exact ⟨congrArg (fun z => Ending.returned (.int .u32 z)) (rrot_int x 7 _ _ (by decide) (by decide) (by decide) (by decide)), rfl⟩
  · go_enter Try.func85, Try.ntmps85
    go_wp2_with fail
    go_ret
    exact ⟨congrArg (fun z => Ending.returned (.int .u32 z)) (rrot_int x 11 _ _ (by decide) (by decide) (by decide) (by decide)), rfl⟩
  · go_enter Try.func85, Try.ntmps85
    go_wp2_with fail
    go_ret
    exact ⟨congrArg (fun z => Ending.returned (.int .u32 z)) (rrot_int x 13 _ _ (by decide) (by decide) (by decide) (by decide)), rfl⟩
  · go_enter Try.func85, Try.ntmps85
    go_wp2_with fail
    go_ret
    exact ⟨congrArg (fun z => Ending.returned (.int .u32 z)) (rrot_int x 17 _ _ (by decide) (by decide) (by decide) (by decide)), rfl⟩
  · go_enter Try.func85, Try.ntmps85
    go_wp2_with fail
    go_ret
    exact ⟨congrArg (fun z => Ending.returned (.int .u32 z)) (rrot_int x 18 _ _ (by decide) (by decide) (by decide) (by decide)), rfl⟩
  · go_enter Try.func85, Try.ntmps85
    go_wp2_with fail
    go_ret
    exact ⟨congrArg (fun z => Ending.returned (.int .u32 z)) (rrot_int x 19 _ _ (by decide) (by decide) (by decide) (by decide)), rfl⟩
  · go_enter Try.func85, Try.ntmps85
    go_wp2_with fail
    go_ret
    exact ⟨congrArg (fun z => Ending.returned (.int .u32 z)) (rrot_int x 22 _ _ (by decide) (by decide) (by decide) (by decide)), rfl⟩
  · go_enter Try.func85, Try.ntmps85
    go_wp2_with fail
    go_ret
    exact ⟨congrArg (fun z => Ending.returned (.int .u32 z)) (rrot_int x 25 _ _ (by decide) (by decide) (by decide) (by decide)), rfl⟩

set_option maxRecDepth 100000 in
set_option maxHeartbeats 1000000 in
theorem rtable_calls {w : World} :
    Calls Try.prog 83 #[] w fun e w' => e = .returned (.agg (shaK.map B32).toArray) ∧ Keeps [] w w' := by
  go_enter Try.func83, Try.ntmps83
  go_upto_region 1 with (fail)
  apply wp_region_lit
  go_step
  go_step
  go_step
  have hB0 : Blk (w.alloc (.cells #[.int .u32 0, .int .u32 0, .int .u32 0, .int .u32 0, .int .u32 0, .int .u32 0, .int .u32 0, .int .u32 0, .int .u32 0, .int .u32 0, .int .u32 0, .int .u32 0, .int .u32 0, .int .u32 0, .int .u32 0, .int .u32 0, .int .u32 0, .int .u32 0, .int .u32 0, .int .u32 0, .int .u32 0, .int .u32 0, .int .u32 0, .int .u32 0, .int .u32 0, .int .u32 0, .int .u32 0, .int .u32 0, .int .u32 0, .int .u32 0, .int .u32 0, .int .u32 0, .int .u32 0, .int .u32 0, .int .u32 0, .int .u32 0, .int .u32 0, .int .u32 0, .int .u32 0, .int .u32 0, .int .u32 0, .int .u32 0, .int .u32 0, .int .u32 0, .int .u32 0, .int .u32 0, .int .u32 0, .int .u32 0, .int .u32 0, .int .u32 0, .int .u32 0, .int .u32 0, .int .u32 0, .int .u32 0, .int .u32 0, .int .u32 0, .int .u32 0, .int .u32 0, .int .u32 0, .int .u32 0, .int .u32 0, .int .u32 0, .int .u32 0, .int .u32 0] 111)) w.heap.size 111 ((List.replicate 64 (0 : UInt32)).map B32) := Blk.newA w 111 #[.int .u32 0, .int .u32 0, .int .u32 0, .int .u32 0, .int .u32 0, .int .u32 0, .int .u32 0, .int .u32 0, .int .u32 0, .int .u32 0, .int .u32 0, .int .u32 0, .int .u32 0, .int .u32 0, .int .u32 0, .int .u32 0, .int .u32 0, .int .u32 0, .int .u32 0, .int .u32 0, .int .u32 0, .int .u32 0, .int .u32 0, .int .u32 0, .int .u32 0, .int .u32 0, .int .u32 0, .int .u32 0, .int .u32 0, .int .u32 0, .int .u32 0, .int .u32 0, .int .u32 0, .int .u32 0, .int .u32 0, .int .u32 0, .int .u32 0, .int .u32 0, .int .u32 0, .int .u32 0, .int .u32 0, .int .u32 0, .int .u32 0, .int .u32 0, .int .u32 0, .int .u32 0, .int .u32 0, .int .u32 0, .int .u32 0, .int .u32 0, .int .u32 0, .int .u32 0, .int .u32 0, .int .u32 0, .int .u32 0, .int .u32 0, .int .u32 0, .int .u32 0, .int .u32 0, .int .u32 0, .int .u32 0, .int .u32 0, .int .u32 0, .int .u32 0]
  have hlen : (shaK.map B32).length = 64 := by rw [List.length_map]; exact shaK_len
  have hsz : (Try.prog.info? 111).map (·.size) = some (shaK.map B32).length := by rw [hlen]; kernel_rfl
  have hB2 := hB0.setCells (cs := shaK.map B32) (by rw [hlen]; rfl)
  have hK2 := Keeps.setCellsNew (S := []) (b := w.heap.size) (Nat.le_refl _) (shaK.map B32) 0 _ ((Keeps.refl [] w).alloc (.cells #[.int .u32 0, .int .u32 0, .int .u32 0, .int .u32 0, .int .u32 0, .int .u32 0, .int .u32 0, .int .u32 0, .int .u32 0, .int .u32 0, .int .u32 0, .int .u32 0, .int .u32 0, .int .u32 0, .int .u32 0, .int .u32 0, .int .u32 0, .int .u32 0, .int .u32 0, .int .u32 0, .int .u32 0, .int .u32 0, .int .u32 0, .int .u32 0, .int .u32 0, .int .u32 0, .int .u32 0, .int .u32 0, .int .u32 0, .int .u32 0, .int .u32 0, .int .u32 0, .int .u32 0, .int .u32 0, .int .u32 0, .int .u32 0, .int .u32 0, .int .u32 0, .int .u32 0, .int .u32 0, .int .u32 0, .int .u32 0, .int .u32 0, .int .u32 0, .int .u32 0, .int .u32 0, .int .u32 0, .int .u32 0, .int .u32 0, .int .u32 0, .int .u32 0, .int .u32 0, .int .u32 0, .int .u32 0, .int .u32 0, .int .u32 0, .int .u32 0, .int .u32 0, .int .u32 0, .int .u32 0, .int .u32 0, .int .u32 0, .int .u32 0, .int .u32 0] 111))
  have hT := hB0.there (shaK.map B32).toArray.size (by rw [List.size_toArray, hlen]; rfl)
  refine wpList_store_mid rfl 111 (.tmp 0) (.tmp 1) rfl w.heap.size 0 (shaK.map B32).toArray (by rfl) (by rfl) hT (by rw [List.size_toArray]; exact hsz) (all_oneCell_toArray (all_one _)) ?_
  simp only [Act.put]
  go_wp2_with fail
  exact bodyPost_ret (v := .agg (shaK.map B32).toArray) (results_cell_row Try.results83 _ _ _ _ _ _ _ (by rfl) hB2 Try.underlying111 rfl (by rw [List.size_toArray]; exact hsz)) rfl ⟨rfl, hK2⟩

set_option maxRecDepth 100000 in
theorem index_runA (w : World) (cells : Array Value) (j : Nat) (hj : j < 8) (v : Value) (hv : cells[j]? = some v) :
    (Instr.index 107 (.agg cells) (.int .i64 (j : Int))).run Try.prog w = .ok v w := by
  have hu : (underlying 107).run Try.prog w = .ok (.array 8 66) w := run_underlying Try.underlying107 w
  have hs : (sizeOf 66).run Try.prog w = .ok 1 w := by
    have : (Try.prog.info? 66).map (·.size) = some 1 := by kernel_rfl
    cases hq : Try.prog.info? 66 with
    | none => simp [hq] at this
    | some i => simp [hq] at this; simp [sizeOf, typeInfo, hq, this]
  have h0 : (0 : Int) ≤ (j : Int) ∧ (j : Int) < 8 := by omega
  simp only [Instr.index, asIntOf, Sem.run_bind, Sem.run_pure, Result.andThen_ok, hu]
  simp [h0, hs, Sem.run_bind, part, hv]

theorem wpList_indexA {w : World} {ops : Array Oper} {rest : List Oper} {o : Oper} {act : Act} {Q : Exit → Act → World → Prop} (hgd : o.guard = none) (x y : Operand) (ho : o.op = .index 107 x y)
    (cells : Array Value) (hx : act.eval x = .agg cells) (j : Nat) (hj : j < 8) (hy : act.eval y = .int .i64 (j : Int)) (v : Value) (hv : cells[j]? = some v)
    (h : wpList Try.prog ops Q rest (act.put o.dst v) w) : wpList Try.prog ops Q (o :: rest) act w := by
  refine wpList_plain hgd fun K hK => ?_
  have hr := index_runA w cells j hj v hv
  unfold Oper.wp
  simp only [execOp, ho, hx, hy, hr, Sem.run_bind, Result.andThen_ok, Sem.run_pure, Oper.upon]
  exact hK _ _ h

/-- The words of a block, the first i of them made. -/
def rW (D : List UInt8) (i : Nat) : List UInt32 := if i ≤ 16 then wBytes D (4 * i) else wExt (wBytes D 64) (i - 16)

theorem rW_len (D : List UInt8) (i : Nat) : (rW D i).length = 64 := by
  unfold rW
  split
  · exact wBytes_len _ _
  · exact wExt_len _ (wBytes_len _ _) _

theorem rW_zero (D : List UInt8) : rW D 0 = List.replicate 64 0 := rfl

theorem rW_low (D : List UInt8) (hD : D.length = 64) (i : Nat) (hi : i < 16) : rW D (i + 1) = (rW D i).set i (numFold ((D.drop (4 * i)).take 4)) := by
  unfold rW
  rw [if_pos (by omega), if_pos (by omega)]
  exact wBytes_four D i hi (by omega)

theorem rW_high (D : List UInt8) (i : Nat) (h16 : 16 ≤ i) : rW D (i + 1) = (rW D i).set i (wNew (rW D i) i) := by
  obtain ⟨j, rfl⟩ : ∃ j, i = 16 + j := ⟨i - 16, by omega⟩
  have e : ∀ j, rW D (16 + j) = wExt (wBytes D 64) j := by
    intro j
    unfold rW
    by_cases h : 16 + j ≤ 16
    · obtain rfl : j = 0 := by omega
      rw [if_pos (by omega)]; rfl
    · rw [if_neg h, show 16 + j - 16 = j from by omega]
  rw [e, show 16 + j + 1 = 16 + (j + 1) from by omega, e]
  rfl

theorem rW_all (D : List UInt8) (hD : D.length = 64) : rW D 64 = wAll D := by
  unfold rW wAll
  rw [if_neg (by omega), hD]

end Go.Proofs.Ythjojkkjdaoocaa
