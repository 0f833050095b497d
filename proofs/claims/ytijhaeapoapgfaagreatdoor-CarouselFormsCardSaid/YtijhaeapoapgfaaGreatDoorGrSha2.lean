/-
  GrSha2: the texts Sha2, RDig0, one behind another.
-/
import Derived.Test.YtijhaeapoapgfaaGreatDoorGrSha1
import Derived.StillTailTactics
import Derived.BigQuiet
import Derived.Deep.QuietTactic
import Derived.Test.YtijhaeapoapgfaaGreatDoorGrRand
set_option linter.unusedVariables false
set_option linter.unusedSimpArgs false
namespace Go.Proofs.YtijhaeapoapgfaaGreatDoor
open Go.RowKit
attribute [local go_sem ↓] Go.wp_at_zero Go.wp_at_succ

def St.cells (s : St) : List Value := s.list.map B32

theorem St.list_len (s : St) : s.list.length = 8 := rfl
theorem St.cells_len (s : St) : s.cells.length = 8 := rfl
theorem St.cells_size (s : St) : s.cells.toArray.size = 8 := rfl

set_option maxRecDepth 100000 in
set_option maxHeartbeats 1000000 in
theorem begin_calls {w : World} :
    Calls Tryz.prog 77 #[] w fun e w' => e = .returned (.agg St.first.cells.toArray) ∧ Keeps [] w w' := by
  go_enter Tryz.func77, Tryz.ntmps77
  go_upto_region 1 with (fail)
  apply wp_region_lit
  go_step
  go_step
  go_step
  have hB0 : Blk (w.alloc (.cells #[.int .u32 0, .int .u32 0, .int .u32 0, .int .u32 0, .int .u32 0, .int .u32 0, .int .u32 0, .int .u32 0] 143)) w.heap.size 143 ((List.replicate 8 (0 : UInt32)).map B32) := Blk.newA w 143 #[.int .u32 0, .int .u32 0, .int .u32 0, .int .u32 0, .int .u32 0, .int .u32 0, .int .u32 0, .int .u32 0]
  have hlen : St.first.cells.length = 8 := rfl
  have hsz : (Tryz.prog.info? 143).map (·.size) = some St.first.cells.length := by rw [hlen]; kernel_rfl
  have hB2 := hB0.setCells (cs := St.first.cells) (by rw [hlen]; rfl)
  have hK2 := Keeps.setCellsNew (S := []) (b := w.heap.size) (Nat.le_refl _) St.first.cells 0 _ ((Keeps.refl [] w).alloc (.cells #[.int .u32 0, .int .u32 0, .int .u32 0, .int .u32 0, .int .u32 0, .int .u32 0, .int .u32 0, .int .u32 0] 143))
  have hT := hB0.there St.first.cells.toArray.size (by rw [List.size_toArray, hlen]; rfl)
  refine wpList_store_mid rfl 143 (.tmp 0) (.tmp 1) rfl w.heap.size 0 St.first.cells.toArray (by rfl) (by rfl) hT (by rw [List.size_toArray]; exact hsz) (all_oneCell_toArray (all_one _)) ?_
  simp only [Act.put]
  go_wp2_with fail
  exact bodyPost_ret (v := .agg St.first.cells.toArray) (results_cell_row Tryz.results77 _ _ _ _ _ _ _ (by rfl) hB2 Tryz.underlying143 rfl (by rw [List.size_toArray]; exact hsz)) rfl ⟨rfl, hK2⟩

theorem wadd32 (a b : UInt32) : IntKind.u32.wrap ((a.toNat : Int) + (b.toNat : Int)) = ((a + b).toNat : Int) := by
  rw [IntKind.wrap_u32']; exact add32 a b

theorem ch_int (e f g : UInt32) : bits .or .u32 (bits .and .u32 (e.toNat : Int) (f.toNat : Int)) (bits .and .u32 (bits .xor .u32 IntKind.u32.max (e.toNat : Int)) (g.toNat : Int)) = (((e &&& f) ||| (~~~ e &&& g)).toNat : Int) := by
  rw [not32, and32, and32, or32]
theorem mj_int (a b c : UInt32) : bits .or .u32 (bits .or .u32 (bits .and .u32 (a.toNat : Int) (b.toNat : Int)) (bits .and .u32 (a.toNat : Int) (c.toNat : Int))) (bits .and .u32 (b.toNat : Int) (c.toNat : Int)) = ((((a &&& b) ||| (a &&& c)) ||| (b &&& c)).toNat : Int) := by
  rw [and32, and32, and32, or32, or32]

/-- The words of x, added one by one. -/
def plusTo (S X : List UInt32) : Nat → List UInt32
  | 0 => S
  | j + 1 => (plusTo S X j).set j ((plusTo S X j).getD j 0 + X.getD j 0)

theorem plusTo_len (S X : List UInt32) : ∀ j, (plusTo S X j).length = S.length
  | 0 => rfl
  | j + 1 => by unfold plusTo; rw [List.length_set]; exact plusTo_len S X j

theorem plusTo_succ (S X : List UInt32) (j : Nat) : plusTo S X (j + 1) = (plusTo S X j).set j ((plusTo S X j).getD j 0 + X.getD j 0) := rfl

theorem plusTo_all (s x : St) : (plusTo s.list x.list 8).map B32 = (s.add x).cells := by
  obtain ⟨a, b, c, d, e, f, g, h⟩ := s
  obtain ⟨a', b', c', d', e', f', g', h'⟩ := x
  rfl

set_option maxRecDepth 100000 in
set_option maxHeartbeats 4000000 in
theorem takes_calls {w : World} (s : St) (a : Option Addr) (c : Nat) (l : List UInt8) (hl : Rd w a l) (hn : l.length = 64) :
    Calls Tryz.prog 79 #[.agg s.cells.toArray, .slice a 64 c] w fun e w' => e = .returned (.agg (s.takes l).cells.toArray) ∧ Keeps [] w w' := by
  have hs8 : s.cells.length = 8 := rfl
  have hszW : (Tryz.prog.info? 79).map (·.size) = some 64 := by kernel_rfl
  have hszS : (Tryz.prog.info? 143).map (·.size) = some 8 := by kernel_rfl
  have hW := fun w1 (k : Keeps [] w w1) => words64_calls (w := w1) a c l (hl.keepsNil k) (by omega)
  rw [hn] at hW
  have hWl := wAll_len l
  have HW := Lib.hid hW
  have HsW := Lib.hid hszW
  have HsS := Lib.hid hszS
  clear hW hszW hszS hl
  go_enter Tryz.func79, Tryz.ntmps79
  go_upto_region 1 with (fail)
  have hA0 : Blk ((w.alloc (.cells s.cells.toArray 143)).alloc (.cells #[.int .u32 0, .int .u32 0, .int .u32 0, .int .u32 0, .int .u32 0, .int .u32 0, .int .u32 0, .int .u32 0] 143)) w.heap.size 143 s.cells := (Blk.newA w _ s.cells.toArray).alloc _
  have hA1 : Blk ((w.alloc (.cells s.cells.toArray 143)).alloc (.cells #[.int .u32 0, .int .u32 0, .int .u32 0, .int .u32 0, .int .u32 0, .int .u32 0, .int .u32 0, .int .u32 0] 143)) (w.heap.size + 1) 143 ((List.replicate 8 (0 : UInt32)).map B32) := by
    have := Blk.newA (w.alloc (.cells s.cells.toArray 143)) 143 #[.int .u32 0, .int .u32 0, .int .u32 0, .int .u32 0, .int .u32 0, .int .u32 0, .int .u32 0, .int .u32 0]
    rw [World.size_alloc] at this
    exact this
  have hK2 : Keeps [] w ((w.alloc (.cells s.cells.toArray 143)).alloc (.cells #[.int .u32 0, .int .u32 0, .int .u32 0, .int .u32 0, .int .u32 0, .int .u32 0, .int .u32 0, .int .u32 0] 143)) := ((Keeps.refl [] w).alloc _).alloc _
  generalize (w.alloc (.cells s.cells.toArray 143)).alloc (.cells #[.int .u32 0, .int .u32 0, .int .u32 0, .int .u32 0, .int .u32 0, .int .u32 0, .int .u32 0, .int .u32 0] 143) = w2 at *
  go_wp2_with fail
  refine (HW.out _ hK2).mono ?_
  rintro e w3 ⟨rfl, hk3⟩
  go_wp2_with fail
  refine constants_calls.mono ?_
  rintro e w4 ⟨rfl, hk4⟩
  replace hA0 := (hA0.keeps hk3 (by simp)).keeps hk4 (by simp)
  replace hA1 := (hA1.keeps hk3 (by simp)).keeps hk4 (by simp)
  have hK4 := (hK2.trans hk3).trans hk4
  have hl0 := hA0.lt
  have hl1 := hA1.lt
  clear hK2 hk3 hk4 HW
  dsimp only
  go_step
  go_step
  go_step
  go_step
  go_step
  go_step
  go_step
  have hP5 : Blk ((w4.alloc (.cells #[.int .u32 0, .int .u32 0, .int .u32 0, .int .u32 0, .int .u32 0, .int .u32 0, .int .u32 0, .int .u32 0, .int .u32 0, .int .u32 0, .int .u32 0, .int .u32 0, .int .u32 0, .int .u32 0, .int .u32 0, .int .u32 0, .int .u32 0, .int .u32 0, .int .u32 0, .int .u32 0, .int .u32 0, .int .u32 0, .int .u32 0, .int .u32 0, .int .u32 0, .int .u32 0, .int .u32 0, .int .u32 0, .int .u32 0, .int .u32 0, .int .u32 0, .int .u32 0, .int .u32 0, .int .u32 0, .int .u32 0, .int .u32 0, .int .u32 0, .int .u32 0, .int .u32 0, .int .u32 0, .int .u32 0, .int .u32 0, .int .u32 0, .int .u32 0, .int .u32 0, .int .u32 0, .int .u32 0, .int .u32 0, .int .u32 0, .int .u32 0, .int .u32 0, .int .u32 0, .int .u32 0, .int .u32 0, .int .u32 0, .int .u32 0, .int .u32 0, .int .u32 0, .int .u32 0, .int .u32 0, .int .u32 0, .int .u32 0, .int .u32 0, .int .u32 0] 79)).alloc (.cells #[.int .u32 0, .int .u32 0, .int .u32 0, .int .u32 0, .int .u32 0, .int .u32 0, .int .u32 0, .int .u32 0, .int .u32 0, .int .u32 0, .int .u32 0, .int .u32 0, .int .u32 0, .int .u32 0, .int .u32 0, .int .u32 0, .int .u32 0, .int .u32 0, .int .u32 0, .int .u32 0, .int .u32 0, .int .u32 0, .int .u32 0, .int .u32 0, .int .u32 0, .int .u32 0, .int .u32 0, .int .u32 0, .int .u32 0, .int .u32 0, .int .u32 0, .int .u32 0, .int .u32 0, .int .u32 0, .int .u32 0, .int .u32 0, .int .u32 0, .int .u32 0, .int .u32 0, .int .u32 0, .int .u32 0, .int .u32 0, .int .u32 0, .int .u32 0, .int .u32 0, .int .u32 0, .int .u32 0, .int .u32 0, .int .u32 0, .int .u32 0, .int .u32 0, .int .u32 0, .int .u32 0, .int .u32 0, .int .u32 0, .int .u32 0, .int .u32 0, .int .u32 0, .int .u32 0, .int .u32 0, .int .u32 0, .int .u32 0, .int .u32 0, .int .u32 0] 79)) w4.heap.size 79 ((List.replicate 64 (0 : UInt32)).map B32) := (Blk.newA w4 79 #[.int .u32 0, .int .u32 0, .int .u32 0, .int .u32 0, .int .u32 0, .int .u32 0, .int .u32 0, .int .u32 0, .int .u32 0, .int .u32 0, .int .u32 0, .int .u32 0, .int .u32 0, .int .u32 0, .int .u32 0, .int .u32 0, .int .u32 0, .int .u32 0, .int .u32 0, .int .u32 0, .int .u32 0, .int .u32 0, .int .u32 0, .int .u32 0, .int .u32 0, .int .u32 0, .int .u32 0, .int .u32 0, .int .u32 0, .int .u32 0, .int .u32 0, .int .u32 0, .int .u32 0, .int .u32 0, .int .u32 0, .int .u32 0, .int .u32 0, .int .u32 0, .int .u32 0, .int .u32 0, .int .u32 0, .int .u32 0, .int .u32 0, .int .u32 0, .int .u32 0, .int .u32 0, .int .u32 0, .int .u32 0, .int .u32 0, .int .u32 0, .int .u32 0, .int .u32 0, .int .u32 0, .int .u32 0, .int .u32 0, .int .u32 0, .int .u32 0, .int .u32 0, .int .u32 0, .int .u32 0, .int .u32 0, .int .u32 0, .int .u32 0, .int .u32 0]).alloc _
  have hP6 : Blk ((w4.alloc (.cells #[.int .u32 0, .int .u32 0, .int .u32 0, .int .u32 0, .int .u32 0, .int .u32 0, .int .u32 0, .int .u32 0, .int .u32 0, .int .u32 0, .int .u32 0, .int .u32 0, .int .u32 0, .int .u32 0, .int .u32 0, .int .u32 0, .int .u32 0, .int .u32 0, .int .u32 0, .int .u32 0, .int .u32 0, .int .u32 0, .int .u32 0, .int .u32 0, .int .u32 0, .int .u32 0, .int .u32 0, .int .u32 0, .int .u32 0, .int .u32 0, .int .u32 0, .int .u32 0, .int .u32 0, .int .u32 0, .int .u32 0, .int .u32 0, .int .u32 0, .int .u32 0, .int .u32 0, .int .u32 0, .int .u32 0, .int .u32 0, .int .u32 0, .int .u32 0, .int .u32 0, .int .u32 0, .int .u32 0, .int .u32 0, .int .u32 0, .int .u32 0, .int .u32 0, .int .u32 0, .int .u32 0, .int .u32 0, .int .u32 0, .int .u32 0, .int .u32 0, .int .u32 0, .int .u32 0, .int .u32 0, .int .u32 0, .int .u32 0, .int .u32 0, .int .u32 0] 79)).alloc (.cells #[.int .u32 0, .int .u32 0, .int .u32 0, .int .u32 0, .int .u32 0, .int .u32 0, .int .u32 0, .int .u32 0, .int .u32 0, .int .u32 0, .int .u32 0, .int .u32 0, .int .u32 0, .int .u32 0, .int .u32 0, .int .u32 0, .int .u32 0, .int .u32 0, .int .u32 0, .int .u32 0, .int .u32 0, .int .u32 0, .int .u32 0, .int .u32 0, .int .u32 0, .int .u32 0, .int .u32 0, .int .u32 0, .int .u32 0, .int .u32 0, .int .u32 0, .int .u32 0, .int .u32 0, .int .u32 0, .int .u32 0, .int .u32 0, .int .u32 0, .int .u32 0, .int .u32 0, .int .u32 0, .int .u32 0, .int .u32 0, .int .u32 0, .int .u32 0, .int .u32 0, .int .u32 0, .int .u32 0, .int .u32 0, .int .u32 0, .int .u32 0, .int .u32 0, .int .u32 0, .int .u32 0, .int .u32 0, .int .u32 0, .int .u32 0, .int .u32 0, .int .u32 0, .int .u32 0, .int .u32 0, .int .u32 0, .int .u32 0, .int .u32 0, .int .u32 0] 79)) (w4.heap.size + 1) 79 ((List.replicate 64 (0 : UInt32)).map B32) := by
    have := Blk.newA (w4.alloc (.cells #[.int .u32 0, .int .u32 0, .int .u32 0, .int .u32 0, .int .u32 0, .int .u32 0, .int .u32 0, .int .u32 0, .int .u32 0, .int .u32 0, .int .u32 0, .int .u32 0, .int .u32 0, .int .u32 0, .int .u32 0, .int .u32 0, .int .u32 0, .int .u32 0, .int .u32 0, .int .u32 0, .int .u32 0, .int .u32 0, .int .u32 0, .int .u32 0, .int .u32 0, .int .u32 0, .int .u32 0, .int .u32 0, .int .u32 0, .int .u32 0, .int .u32 0, .int .u32 0, .int .u32 0, .int .u32 0, .int .u32 0, .int .u32 0, .int .u32 0, .int .u32 0, .int .u32 0, .int .u32 0, .int .u32 0, .int .u32 0, .int .u32 0, .int .u32 0, .int .u32 0, .int .u32 0, .int .u32 0, .int .u32 0, .int .u32 0, .int .u32 0, .int .u32 0, .int .u32 0, .int .u32 0, .int .u32 0, .int .u32 0, .int .u32 0, .int .u32 0, .int .u32 0, .int .u32 0, .int .u32 0, .int .u32 0, .int .u32 0, .int .u32 0, .int .u32 0] 79)) 79 #[.int .u32 0, .int .u32 0, .int .u32 0, .int .u32 0, .int .u32 0, .int .u32 0, .int .u32 0, .int .u32 0, .int .u32 0, .int .u32 0, .int .u32 0, .int .u32 0, .int .u32 0, .int .u32 0, .int .u32 0, .int .u32 0, .int .u32 0, .int .u32 0, .int .u32 0, .int .u32 0, .int .u32 0, .int .u32 0, .int .u32 0, .int .u32 0, .int .u32 0, .int .u32 0, .int .u32 0, .int .u32 0, .int .u32 0, .int .u32 0, .int .u32 0, .int .u32 0, .int .u32 0, .int .u32 0, .int .u32 0, .int .u32 0, .int .u32 0, .int .u32 0, .int .u32 0, .int .u32 0, .int .u32 0, .int .u32 0, .int .u32 0, .int .u32 0, .int .u32 0, .int .u32 0, .int .u32 0, .int .u32 0, .int .u32 0, .int .u32 0, .int .u32 0, .int .u32 0, .int .u32 0, .int .u32 0, .int .u32 0, .int .u32 0, .int .u32 0, .int .u32 0, .int .u32 0, .int .u32 0, .int .u32 0, .int .u32 0, .int .u32 0, .int .u32 0]
    rw [World.size_alloc] at this
    exact this
  have hK5 : Keeps [] w4 ((w4.alloc (.cells #[.int .u32 0, .int .u32 0, .int .u32 0, .int .u32 0, .int .u32 0, .int .u32 0, .int .u32 0, .int .u32 0, .int .u32 0, .int .u32 0, .int .u32 0, .int .u32 0, .int .u32 0, .int .u32 0, .int .u32 0, .int .u32 0, .int .u32 0, .int .u32 0, .int .u32 0, .int .u32 0, .int .u32 0, .int .u32 0, .int .u32 0, .int .u32 0, .int .u32 0, .int .u32 0, .int .u32 0, .int .u32 0, .int .u32 0, .int .u32 0, .int .u32 0, .int .u32 0, .int .u32 0, .int .u32 0, .int .u32 0, .int .u32 0, .int .u32 0, .int .u32 0, .int .u32 0, .int .u32 0, .int .u32 0, .int .u32 0, .int .u32 0, .int .u32 0, .int .u32 0, .int .u32 0, .int .u32 0, .int .u32 0, .int .u32 0, .int .u32 0, .int .u32 0, .int .u32 0, .int .u32 0, .int .u32 0, .int .u32 0, .int .u32 0, .int .u32 0, .int .u32 0, .int .u32 0, .int .u32 0, .int .u32 0, .int .u32 0, .int .u32 0, .int .u32 0] 79)).alloc (.cells #[.int .u32 0, .int .u32 0, .int .u32 0, .int .u32 0, .int .u32 0, .int .u32 0, .int .u32 0, .int .u32 0, .int .u32 0, .int .u32 0, .int .u32 0, .int .u32 0, .int .u32 0, .int .u32 0, .int .u32 0, .int .u32 0, .int .u32 0, .int .u32 0, .int .u32 0, .int .u32 0, .int .u32 0, .int .u32 0, .int .u32 0, .int .u32 0, .int .u32 0, .int .u32 0, .int .u32 0, .int .u32 0, .int .u32 0, .int .u32 0, .int .u32 0, .int .u32 0, .int .u32 0, .int .u32 0, .int .u32 0, .int .u32 0, .int .u32 0, .int .u32 0, .int .u32 0, .int .u32 0, .int .u32 0, .int .u32 0, .int .u32 0, .int .u32 0, .int .u32 0, .int .u32 0, .int .u32 0, .int .u32 0, .int .u32 0, .int .u32 0, .int .u32 0, .int .u32 0, .int .u32 0, .int .u32 0, .int .u32 0, .int .u32 0, .int .u32 0, .int .u32 0, .int .u32 0, .int .u32 0, .int .u32 0, .int .u32 0, .int .u32 0, .int .u32 0] 79)) := ((Keeps.refl [] w4).alloc _).alloc _
  generalize (w4.alloc (.cells #[.int .u32 0, .int .u32 0, .int .u32 0, .int .u32 0, .int .u32 0, .int .u32 0, .int .u32 0, .int .u32 0, .int .u32 0, .int .u32 0, .int .u32 0, .int .u32 0, .int .u32 0, .int .u32 0, .int .u32 0, .int .u32 0, .int .u32 0, .int .u32 0, .int .u32 0, .int .u32 0, .int .u32 0, .int .u32 0, .int .u32 0, .int .u32 0, .int .u32 0, .int .u32 0, .int .u32 0, .int .u32 0, .int .u32 0, .int .u32 0, .int .u32 0, .int .u32 0, .int .u32 0, .int .u32 0, .int .u32 0, .int .u32 0, .int .u32 0, .int .u32 0, .int .u32 0, .int .u32 0, .int .u32 0, .int .u32 0, .int .u32 0, .int .u32 0, .int .u32 0, .int .u32 0, .int .u32 0, .int .u32 0, .int .u32 0, .int .u32 0, .int .u32 0, .int .u32 0, .int .u32 0, .int .u32 0, .int .u32 0, .int .u32 0, .int .u32 0, .int .u32 0, .int .u32 0, .int .u32 0, .int .u32 0, .int .u32 0, .int .u32 0, .int .u32 0] 79)).alloc (.cells #[.int .u32 0, .int .u32 0, .int .u32 0, .int .u32 0, .int .u32 0, .int .u32 0, .int .u32 0, .int .u32 0, .int .u32 0, .int .u32 0, .int .u32 0, .int .u32 0, .int .u32 0, .int .u32 0, .int .u32 0, .int .u32 0, .int .u32 0, .int .u32 0, .int .u32 0, .int .u32 0, .int .u32 0, .int .u32 0, .int .u32 0, .int .u32 0, .int .u32 0, .int .u32 0, .int .u32 0, .int .u32 0, .int .u32 0, .int .u32 0, .int .u32 0, .int .u32 0, .int .u32 0, .int .u32 0, .int .u32 0, .int .u32 0, .int .u32 0, .int .u32 0, .int .u32 0, .int .u32 0, .int .u32 0, .int .u32 0, .int .u32 0, .int .u32 0, .int .u32 0, .int .u32 0, .int .u32 0, .int .u32 0, .int .u32 0, .int .u32 0, .int .u32 0, .int .u32 0, .int .u32 0, .int .u32 0, .int .u32 0, .int .u32 0, .int .u32 0, .int .u32 0, .int .u32 0, .int .u32 0, .int .u32 0, .int .u32 0, .int .u32 0, .int .u32 0] 79) = w5 at *
  have hVl : ((wAll l).map B32).length = 64 := by rw [List.length_map]; exact hWl
  have hKl : (shaK.map B32).length = 64 := by rw [List.length_map]; exact shaK_len
  refine wpList_store_mid rfl 79 (.tmp 5) (.tmp 17) rfl w4.heap.size 0 ((wAll l).map B32).toArray (by rfl) (by rfl) (hP5.there _ (by rw [List.size_toArray, hVl]; rfl)) (by rw [List.size_toArray, hVl]; exact HsW.out) (all_oneCell_toArray (all_one _)) ?_
  simp only [Act.put]
  have hP5' := hP5.setCells (cs := (wAll l).map B32) (by rw [hVl]; rfl)
  have hK6 := Keeps.setCellsNew (S := []) (b := w4.heap.size) (Nat.le_refl _) ((wAll l).map B32) 0 _ hK5
  have hP6' : Blk (w5.setCells w4.heap.size 0 ((wAll l).map B32)) (w4.heap.size + 1) 79 ((List.replicate 64 (0 : UInt32)).map B32) := hP6.keeps (Keeps.setCells (S := [w4.heap.size]) (b := w4.heap.size) (by simp) _ 0 w5 w5 (Keeps.refl _ _)) (by simp)
  refine wpList_store_mid rfl 79 (.tmp 6) (.tmp 18) rfl (w4.heap.size + 1) 0 (shaK.map B32).toArray (by rfl) (by rfl) (hP6'.there _ (by rw [List.size_toArray, hKl]; rfl)) (by rw [List.size_toArray, hKl]; exact HsW.out) (all_oneCell_toArray (all_one _)) ?_
  simp only [Act.put]
  have hP6'' := hP6'.setCells (cs := shaK.map B32) (by rw [hKl]; rfl)
  have hP5'' := hP5'.keeps (Keeps.setCells (S := [w4.heap.size + 1]) (b := w4.heap.size + 1) (by simp) (shaK.map B32) 0 _ _ (Keeps.refl _ _)) (by simp)
  have hK7 := Keeps.setCellsNew (S := []) (b := w4.heap.size + 1) (by omega) (shaK.map B32) 0 _ hK6
  have hV : wAll l = wAll l := rfl
  generalize hVV : wAll l = V at *
  replace hA0 := hA0.keeps hK7 (by simp)
  replace hA1 := hA1.keeps hK7 (by simp)
  have hK8 := hK4.trans hK7
  have HVV := Lib.hid hVV
  clear hP5 hP6 hP5' hP6' hK5 hK6 hK7 hK4 hV hVV
  generalize hw6 : (w5.setCells w4.heap.size 0 (V.map B32)).setCells (w4.heap.size + 1) 0 (shaK.map B32) = w6 at *
  have hs6 : w4.heap.size + 2 ≤ w6.heap.size := by have := hP6''.lt; omega
  clear hw6
  generalize hp5 : w4.heap.size = p5 at *
  clear hp5
  go_upto_region 2 with (fail)
  apply wp_region_lit
  refine wpList_load_mid rfl 143 (.tmp 2) rfl w.heap.size 0 (by rfl) s.cells _ hA0.range Tryz.underlying143 rfl HsS.out ?_
  simp only [Act.put, List.setIfInBounds_toArray, List.set_cons_zero, List.set_cons_succ]
  go_step
  go_step
  go_step
  have hX : Blk (w6.alloc (.cells #[.int .u32 0, .int .u32 0, .int .u32 0, .int .u32 0, .int .u32 0, .int .u32 0, .int .u32 0, .int .u32 0] 143)) w6.heap.size 143 ((List.replicate 8 (0 : UInt32)).map B32) := Blk.newA w6 143 #[.int .u32 0, .int .u32 0, .int .u32 0, .int .u32 0, .int .u32 0, .int .u32 0, .int .u32 0, .int .u32 0]
  refine wpList_store_mid rfl 143 (.tmp 7) (.tmp 19) rfl w6.heap.size 0 s.cells.toArray (by rfl) (by rfl) (hX.there _ rfl) HsS.out (all_oneCell_toArray (all_one _)) ?_
  simp only [Act.put]
  have hX2 := hX.setCells (cs := s.cells) rfl
  have hKX : Keeps [] w6 ((w6.alloc (.cells #[.int .u32 0, .int .u32 0, .int .u32 0, .int .u32 0, .int .u32 0, .int .u32 0, .int .u32 0, .int .u32 0] 143)).setCells w6.heap.size 0 s.cells) := Keeps.setCellsNew (S := []) (b := w6.heap.size) (Nat.le_refl _) s.cells 0 _ ((Keeps.refl [] w6).alloc _)
  replace hA0 := hA0.keeps hKX (by simp)
  replace hA1 := hA1.keeps hKX (by simp)
  replace hP5'' := hP5''.keeps hKX (by simp)
  replace hP6'' := hP6''.keeps hKX (by simp)
  have hK9 := hK8.trans hKX
  have hne : w.heap.size ≠ w6.heap.size ∧ w.heap.size + 1 ≠ w6.heap.size ∧ p5 ≠ w6.heap.size ∧ p5 + 1 ≠ w6.heap.size ∧ w.heap.size ≤ w6.heap.size := by omega
  have Hne := Lib.hid hne
  clear hK8 hKX hX hne hs6 hl0 hl1
  generalize ((w6.alloc (.cells #[.int .u32 0, .int .u32 0, .int .u32 0, .int .u32 0, .int .u32 0, .int .u32 0, .int .u32 0, .int .u32 0] 143)).setCells w6.heap.size 0 s.cells) = w7 at *
  generalize w6.heap.size = X at *
  go_wp2_with fail
  go_loopw [20] (fun i wr => ∃ k : Nat, k ≤ 64 ∧ i = .int .i64 k ∧ Blk wr X 143 (s.rounds V k).cells ∧ Blk wr p5 79 (V.map B32) ∧ Blk wr (p5 + 1) 79 (shaK.map B32) ∧ Blk wr w.heap.size 143 s.cells ∧ Blk wr (w.heap.size + 1) 143 ((List.replicate 8 (0 : UInt32)).map B32) ∧ Keeps [] w wr) (fun i _ => 64 - (intOf i).toNat)
  case atStart => exact ⟨0, by omega, rfl, hX2, hP5'', hP6'', hA0, hA1, hK9⟩
  case round =>
    clear hX2 hP5'' hP6'' hA0 hA1 hK9
    obtain ⟨k, hk, rfl, hX, hP5, hP6, hA0, hA1, hK⟩ := hrel
    by_cases hlt : k < 64
    · have hst : s.rounds V (k + 1) = (s.rounds V k).round (shaK.getD k 0) (V.getD k 0) := rfl
      generalize s.rounds V k = x at *
      obtain ⟨xa, xb, xc, xd, xe, xf, xg, xh⟩ := x
      have HX := Lib.hid hX
      have HP5 := Lib.hid hP5
      have HP6 := Lib.hid hP6
      have HA0 := Lib.hid hA0
      have HA1 := Lib.hid hA1
      have HK := Lib.hid hK
      have x0 : wr.cell? ⟨X, 0, none⟩ = some (B32 xa) := hX.cell' rfl
      have x1 : wr.cell? ⟨X, 1, none⟩ = some (B32 xb) := hX.cell' rfl
      have x2 : wr.cell? ⟨X, 2, none⟩ = some (B32 xc) := hX.cell' rfl
      have x3 : wr.cell? ⟨X, 3, none⟩ = some (B32 xd) := hX.cell' rfl
      have x4 : wr.cell? ⟨X, 4, none⟩ = some (B32 xe) := hX.cell' rfl
      have x5 : wr.cell? ⟨X, 5, none⟩ = some (B32 xf) := hX.cell' rfl
      have x6 : wr.cell? ⟨X, 6, none⟩ = some (B32 xg) := hX.cell' rfl
      have x7 : wr.cell? ⟨X, 7, none⟩ = some (B32 xh) := hX.cell' rfl
      have fX := fun i => hX.frozen i
      have ck : wr.cell? ⟨p5 + 1, k, none⟩ = some (B32 (shaK.getD k 0)) := hP6.cell' (by rw [List.getElem?_map, List.getD, List.getElem?_eq_getElem (by rw [shaK_len]; exact hlt)]; rfl)
      have cw : wr.cell? ⟨p5, k, none⟩ = some (B32 (V.getD k 0)) := hP5.cell' (by rw [List.getElem?_map, List.getD, List.getElem?_eq_getElem (by omega)]; rfl)
      generalize shaK.getD k 0 = kk at *
      generalize V.getD k 0 = ww at *
      have Hst := Lib.hid hst
      have hk0 : (k : Int) < 64 := by omega
      have wk : IntKind.i64.wrap (k : Int) = (k : Int) := by rw [IntWalk.i64_left, IntWalk.wrap64_in _ (by omega)]
      clear hst hX hP5 hP6 hA0 hA1 hK
      go_wp2_with fail
      refine wp_region_noPanic ?_
      refine wp_region_held_drew (S := (fun w' => w'.cell? ⟨X, 0, none⟩ = some (B32 xa) ∧ w'.cell? ⟨X, 4, none⟩ = some (B32 xe))) (by kernel_rfl) ⟨x0, x4⟩ (fun hHeld => ?_)
      refine wpAnyH_take (i := 0) (v := ?v1_1) rfl (by kernel_rfl) (by kernel_rfl) (by kernel_rfl) (fun _ _ _ h => h) (Or.inl ⟨by rfl, ?y1_1⟩) (by assumption) ?r1_1
      case y1_1 => (intro w hSw; (try dsimp only at hSw); go_simp; try with_reducible rfl)
      (try simp only [Act.put, List.getElem_toArray, List.getElem_cons_zero, List.getElem_cons_succ, List.setIfInBounds_toArray, List.set_cons_zero, List.set_cons_succ])
      refine wpAnyH_take (i := 1) (v := ?v1_2) rfl (by kernel_rfl) (by kernel_rfl) (by kernel_rfl) (fun _ _ _ h => h) (Or.inl ⟨by rfl, ?y1_2⟩) (by assumption) ?r1_2
      case y1_2 => (intro w hSw; (try dsimp only at hSw); go_simp; try with_reducible rfl)
      (try simp only [Act.put, List.getElem_toArray, List.getElem_cons_zero, List.getElem_cons_succ, List.setIfInBounds_toArray, List.set_cons_zero, List.set_cons_succ])
      refine wpAnyH_take (i := 2) (v := ?v1_3) rfl (by kernel_rfl) (by kernel_rfl) (by kernel_rfl) (fun _ _ _ h => h) (Or.inl ⟨by rfl, ?y1_3⟩) (by assumption) ?r1_3
      case y1_3 => (intro w hSw; (try dsimp only at hSw); go_simp; try with_reducible rfl)
      (try simp only [Act.put, List.getElem_toArray, List.getElem_cons_zero, List.getElem_cons_succ, List.setIfInBounds_toArray, List.set_cons_zero, List.set_cons_succ])
      refine wpAnyH_take (i := 3) (v := ?v1_4) rfl (by kernel_rfl) (by kernel_rfl) (by kernel_rfl) (fun _ _ _ h => h) (Or.inl ⟨by rfl, ?y1_4⟩) (by assumption) ?r1_4
      case y1_4 => (intro w hSw; (try dsimp only at hSw); go_simp; try with_reducible rfl)
      (try simp only [Act.put, List.getElem_toArray, List.getElem_cons_zero, List.getElem_cons_succ, List.setIfInBounds_toArray, List.set_cons_zero, List.set_cons_succ])
      refine wpAnyH_take (i := 4) (v := ?v1_5) rfl (by kernel_rfl) (by kernel_rfl) (by kernel_rfl) (fun _ _ _ h => h) (Or.inl ⟨by rfl, ?y1_5⟩) (by assumption) ?r1_5
      case y1_5 => (intro w hSw; (try dsimp only at hSw); go_simp; try with_reducible rfl)
      (try simp only [Act.put, List.getElem_toArray, List.getElem_cons_zero, List.getElem_cons_succ, List.setIfInBounds_toArray, List.set_cons_zero, List.set_cons_succ])
      refine wpAnyH_take (i := 5) (v := ?v1_6) rfl (by kernel_rfl) (by kernel_rfl) (by kernel_rfl) (fun _ _ _ h => h) (Or.inl ⟨by rfl, ?y1_6⟩) (by assumption) ?r1_6
      case y1_6 => (intro w hSw; (try dsimp only at hSw); go_simp; try with_reducible rfl)
      (try simp only [Act.put, List.getElem_toArray, List.getElem_cons_zero, List.getElem_cons_succ, List.setIfInBounds_toArray, List.set_cons_zero, List.set_cons_succ])
      refine wpAnyH_done (by kernel_rfl) ?_ _
      refine NoPanic.normal ?_
      go_upto_region 9 with (fail)
      rw [show (if IntKind.u32.signed = true then (-1 : Int) else IntKind.u32.max) = IntKind.u32.max from rfl, ch_int, mj_int]
      have hone : ∀ s : St, s = ⟨xa, xb, xc, xd, xe, xf, xg, xh⟩ → s.one kk ww = xh + (rotr 6 xe ^^^ rotr 11 xe ^^^ rotr 25 xe) + ((xe &&& xf) ||| (~~~ xe &&& xg)) + kk + ww := by rintro _ rfl; rfl
      have htwo : ∀ s : St, s = ⟨xa, xb, xc, xd, xe, xf, xg, xh⟩ → s.two = (rotr 2 xa ^^^ rotr 13 xa ^^^ rotr 22 xa) + (((xa &&& xb) ||| (xa &&& xc)) ||| (xb &&& xc)) := by rintro _ rfl; rfl
      generalize ((xe &&& xf) ||| (~~~ xe &&& xg)) = ch at *
      generalize (((xa &&& xb) ||| (xa &&& xc)) ||| (xb &&& xc)) = mj at *
      have H1 := Lib.hid (hone _ rfl)
      have H2 := Lib.hid (htwo _ rfl)
      clear hone htwo
      refine wp_region_noPanic ?_
      refine wp_region_held_drew (S := (fun w' => w'.cell? ⟨X, 7, none⟩ = some (B32 xh) ∧ w'.cell? ⟨p5 + 1, k, none⟩ = some (B32 kk) ∧ w'.cell? ⟨p5, k, none⟩ = some (B32 ww))) (by kernel_rfl) ⟨x7, ck, cw⟩ (fun hHeld => ?_)
      refine wpAnyH_take (i := 0) (v := ?v2_7) rfl (by kernel_rfl) (by kernel_rfl) (by kernel_rfl) (fun _ _ _ h => h) (Or.inl ⟨by rfl, ?y2_7⟩) (by assumption) ?r2_7
      case y2_7 => (intro w hSw; (try dsimp only at hSw); go_simp; try with_reducible rfl)
      (try simp only [Act.put, List.getElem_toArray, List.getElem_cons_zero, List.getElem_cons_succ, List.setIfInBounds_toArray, List.set_cons_zero, List.set_cons_succ])
      refine wpAnyH_take (i := 1) (v := ?v2_8) rfl (by kernel_rfl) (by kernel_rfl) (by kernel_rfl) (fun _ _ _ h => h) (Or.inl ⟨by rfl, ?y2_8⟩) (by assumption) ?r2_8
      case y2_8 => (intro w hSw; (try dsimp only at hSw); go_simp; try with_reducible rfl)
      (try simp only [Act.put, List.getElem_toArray, List.getElem_cons_zero, List.getElem_cons_succ, List.setIfInBounds_toArray, List.set_cons_zero, List.set_cons_succ])
      refine wpAnyH_take (i := 2) (v := ?v2_9) rfl (by kernel_rfl) (by kernel_rfl) (by kernel_rfl) (fun _ _ _ h => h) (Or.inl ⟨by rfl, ?y2_9⟩) (by assumption) ?r2_9
      case y2_9 => (intro w hSw; (try dsimp only at hSw); go_simp; try with_reducible rfl)
      (try simp only [Act.put, List.getElem_toArray, List.getElem_cons_zero, List.getElem_cons_succ, List.setIfInBounds_toArray, List.set_cons_zero, List.set_cons_succ])
      refine wpAnyH_take (i := 4) (v := ?v2_10) rfl (by kernel_rfl) (by kernel_rfl) (by kernel_rfl) (fun _ _ _ h => h) (Or.inl ⟨by rfl, ?y2_10⟩) (by assumption) ?r2_10
      case y2_10 => (intro w hSw; (try dsimp only at hSw); go_simp; try with_reducible rfl)
      (try simp only [Act.put, List.getElem_toArray, List.getElem_cons_zero, List.getElem_cons_succ, List.setIfInBounds_toArray, List.set_cons_zero, List.set_cons_succ])
      refine wpAnyH_take (i := 7) (v := ?v2_11) rfl (by kernel_rfl) (by kernel_rfl) (by kernel_rfl) (fun _ _ _ h => h) (Or.inl ⟨by rfl, ?y2_11⟩) (by assumption) ?r2_11
      case y2_11 => (intro w hSw; (try dsimp only at hSw); go_simp; try with_reducible rfl)
      (try simp only [Act.put, List.getElem_toArray, List.getElem_cons_zero, List.getElem_cons_succ, List.setIfInBounds_toArray, List.set_cons_zero, List.set_cons_succ])
      refine wpAnyH_take (i := 11) (v := ?v2_12) rfl (by kernel_rfl) (by kernel_rfl) (by kernel_rfl) (fun _ _ _ h => h) (Or.inl ⟨by rfl, ?y2_12⟩) (by assumption) ?r2_12
      case y2_12 => (intro w hSw; (try dsimp only at hSw); go_simp; try with_reducible rfl)
      (try simp only [Act.put, List.getElem_toArray, List.getElem_cons_zero, List.getElem_cons_succ, List.setIfInBounds_toArray, List.set_cons_zero, List.set_cons_succ])
      refine wpAnyH_take (i := 13) (v := ?v2_13) rfl (by kernel_rfl) (by kernel_rfl) (by kernel_rfl) (fun _ _ _ h => h) (Or.inl ⟨by rfl, ?y2_13⟩) (by assumption) ?r2_13
      case y2_13 => (intro w hSw; (try dsimp only at hSw); go_simp; try with_reducible rfl)
      (try simp only [Act.put, List.getElem_toArray, List.getElem_cons_zero, List.getElem_cons_succ, List.setIfInBounds_toArray, List.set_cons_zero, List.set_cons_succ])
      refine wpAnyH_take (i := 14) (v := ?v2_14) rfl (by kernel_rfl) (by kernel_rfl) (by kernel_rfl) (fun _ _ _ h => h) (Or.inl ⟨by rfl, ?y2_14⟩) (by assumption) ?r2_14
      case y2_14 => (intro w hSw; (try dsimp only at hSw); go_simp; try with_reducible rfl)
      (try simp only [Act.put, List.getElem_toArray, List.getElem_cons_zero, List.getElem_cons_succ, List.setIfInBounds_toArray, List.set_cons_zero, List.set_cons_succ])
      refine wpAnyH_take (i := 15) (v := ?v2_15) rfl (by kernel_rfl) (by kernel_rfl) (by kernel_rfl) (fun _ _ _ h => h) (Or.inl ⟨by rfl, ?y2_15⟩) (by assumption) ?r2_15
      case y2_15 => (intro w hSw; (try dsimp only at hSw); go_simp; try with_reducible rfl)
      (try simp only [Act.put, List.getElem_toArray, List.getElem_cons_zero, List.getElem_cons_succ, List.setIfInBounds_toArray, List.set_cons_zero, List.set_cons_succ])
      refine wpAnyH_take (i := 17) (v := ?v2_16) rfl (by kernel_rfl) (by kernel_rfl) (by kernel_rfl) (fun _ _ _ h => h) (Or.inl ⟨by rfl, ?y2_16⟩) (by assumption) ?r2_16
      case y2_16 => (intro w hSw; (try dsimp only at hSw); go_simp; try with_reducible rfl)
      (try simp only [Act.put, List.getElem_toArray, List.getElem_cons_zero, List.getElem_cons_succ, List.setIfInBounds_toArray, List.set_cons_zero, List.set_cons_succ])
      refine wpAnyH_take (i := 18) (v := ?v2_17) rfl (by kernel_rfl) (by kernel_rfl) (by kernel_rfl) (fun _ _ _ h => h) (Or.inl ⟨by rfl, ?y2_17⟩) (by assumption) ?r2_17
      case y2_17 => (intro w hSw; (try dsimp only at hSw); go_simp; try with_reducible rfl)
      (try simp only [Act.put, List.getElem_toArray, List.getElem_cons_zero, List.getElem_cons_succ, List.setIfInBounds_toArray, List.set_cons_zero, List.set_cons_succ])
      refine wpAnyH_take (i := 19) (v := ?v2_18) rfl (by kernel_rfl) (by kernel_rfl) (by kernel_rfl) (fun _ _ _ h => h) (Or.inl ⟨by rfl, ?y2_18⟩) (by assumption) ?r2_18
      case y2_18 => (intro w hSw; (try dsimp only at hSw); go_simp; try with_reducible rfl)
      (try simp only [Act.put, List.getElem_toArray, List.getElem_cons_zero, List.getElem_cons_succ, List.setIfInBounds_toArray, List.set_cons_zero, List.set_cons_succ])
      refine wpAnyH_ready (rs := [3]) (by kernel_rfl) (by simp) ?_
      refine AllReadyH.cons rfl (fun K hK => ?_) AllReadyH.nil
      go_simp
      refine (turned_calls xe 6 (by decide)).mono ?_
      rintro e w' ⟨rfl, rfl⟩
      go_wp2_with fail
      refine hK.out _ _ ?s2_19 (fun hHeld => ?_)
      case s2_19 => ((try dsimp only) <;> (first | exact ⟨x7, ck, cw⟩))
      clear hK K
      (try simp only [Act.put, List.getElem_toArray, List.getElem_cons_zero, List.getElem_cons_succ, List.setIfInBounds_toArray, List.set_cons_zero, List.set_cons_succ])
      refine wpAnyH_ready (rs := [5]) (by kernel_rfl) (by simp) ?_
      refine AllReadyH.cons rfl (fun K hK => ?_) AllReadyH.nil
      go_simp
      refine (turned_calls xe 11 (by decide)).mono ?_
      rintro e w' ⟨rfl, rfl⟩
      go_wp2_with fail
      refine hK.out _ _ ?s2_20 (fun hHeld => ?_)
      case s2_20 => ((try dsimp only) <;> (first | exact ⟨x7, ck, cw⟩))
      clear hK K
      (try simp only [Act.put, List.getElem_toArray, List.getElem_cons_zero, List.getElem_cons_succ, List.setIfInBounds_toArray, List.set_cons_zero, List.set_cons_succ])
      refine wpAnyH_take (i := 6) (v := ?v2_21) rfl (by kernel_rfl) (by kernel_rfl) (by kernel_rfl) (fun _ _ _ h => h) (Or.inl ⟨by rfl, ?y2_21⟩) (by assumption) ?r2_21
      case y2_21 => (intro w hSw; (try dsimp only at hSw); go_simp; try with_reducible rfl)
      (try simp only [Act.put, List.getElem_toArray, List.getElem_cons_zero, List.getElem_cons_succ, List.setIfInBounds_toArray, List.set_cons_zero, List.set_cons_succ])
      refine wpAnyH_ready (rs := [8]) (by kernel_rfl) (by simp) ?_
      refine AllReadyH.cons rfl (fun K hK => ?_) AllReadyH.nil
      go_simp
      refine (turned_calls xe 25 (by decide)).mono ?_
      rintro e w' ⟨rfl, rfl⟩
      go_wp2_with fail
      refine hK.out _ _ ?s2_22 (fun hHeld => ?_)
      case s2_22 => ((try dsimp only) <;> (first | exact ⟨x7, ck, cw⟩))
      clear hK K
      (try simp only [Act.put, List.getElem_toArray, List.getElem_cons_zero, List.getElem_cons_succ, List.setIfInBounds_toArray, List.set_cons_zero, List.set_cons_succ])
      refine wpAnyH_take (i := 9) (v := ?v2_23) rfl (by kernel_rfl) (by kernel_rfl) (by kernel_rfl) (fun _ _ _ h => h) (Or.inl ⟨by rfl, ?y2_23⟩) (by assumption) ?r2_23
      case y2_23 => (intro w hSw; (try dsimp only at hSw); go_simp; try with_reducible rfl)
      (try simp only [Act.put, List.getElem_toArray, List.getElem_cons_zero, List.getElem_cons_succ, List.setIfInBounds_toArray, List.set_cons_zero, List.set_cons_succ])
      refine wpAnyH_take (i := 10) (v := ?v2_24) rfl (by kernel_rfl) (by kernel_rfl) (by kernel_rfl) (fun _ _ _ h => h) (Or.inl ⟨by rfl, ?y2_24⟩) (by assumption) ?r2_24
      case y2_24 => (intro w hSw; (try dsimp only at hSw); go_simp; try with_reducible rfl)
      (try simp only [Act.put, List.getElem_toArray, List.getElem_cons_zero, List.getElem_cons_succ, List.setIfInBounds_toArray, List.set_cons_zero, List.set_cons_succ])
      refine wpAnyH_take (i := 12) (v := ?v2_25) rfl (by kernel_rfl) (by kernel_rfl) (by kernel_rfl) (fun _ _ _ h => h) (Or.inl ⟨by rfl, ?y2_25⟩) (by assumption) ?r2_25
      case y2_25 => (intro w hSw; (try dsimp only at hSw); go_simp; try with_reducible rfl)
      (try simp only [Act.put, List.getElem_toArray, List.getElem_cons_zero, List.getElem_cons_succ, List.setIfInBounds_toArray, List.set_cons_zero, List.set_cons_succ])
      refine wpAnyH_take (i := 16) (v := ?v2_26) rfl (by kernel_rfl) (by kernel_rfl) (by kernel_rfl) (fun _ _ _ h => h) (Or.inl ⟨by rfl, ?y2_26⟩) (by assumption) ?r2_26
      case y2_26 => (intro w hSw; (try dsimp only at hSw); go_simp; try with_reducible rfl)
      (try simp only [Act.put, List.getElem_toArray, List.getElem_cons_zero, List.getElem_cons_succ, List.setIfInBounds_toArray, List.set_cons_zero, List.set_cons_succ])
      refine wpAnyH_take (i := 20) (v := ?v2_27) rfl (by kernel_rfl) (by kernel_rfl) (by kernel_rfl) (fun _ _ _ h => h) (Or.inl ⟨by rfl, ?y2_27⟩) (by assumption) ?r2_27
      case y2_27 => (intro w hSw; (try dsimp only at hSw); go_simp; try with_reducible rfl)
      (try simp only [Act.put, List.getElem_toArray, List.getElem_cons_zero, List.getElem_cons_succ, List.setIfInBounds_toArray, List.set_cons_zero, List.set_cons_succ])
      refine wpAnyH_take (i := 21) (v := ?v2_28) rfl (by kernel_rfl) (by kernel_rfl) (by kernel_rfl) (fun _ _ _ h => h) (Or.inl ⟨by rfl, ?y2_28⟩) (by assumption) ?r2_28
      case y2_28 => (intro w hSw; (try dsimp only at hSw); go_simp; try with_reducible rfl)
      (try simp only [Act.put, List.getElem_toArray, List.getElem_cons_zero, List.getElem_cons_succ, List.setIfInBounds_toArray, List.set_cons_zero, List.set_cons_succ])
      refine wpAnyH_done (by kernel_rfl) ?_ _
      refine NoPanic.normal ?_
      rw [xor32, xor32, wadd32, wadd32, wadd32, wadd32, ← H1.out]
      generalize ho : St.one _ kk ww = one at *
      have HO := Lib.hid ho
      clear ho
      go_wp2_with fail
      refine (turned_calls xa 2 (by decide)).mono ?_
      rintro e w' ⟨rfl, rfl⟩
      go_wp2_with fail
      refine (turned_calls xa 13 (by decide)).mono ?_
      rintro e w' ⟨rfl, rfl⟩
      go_wp2_with fail
      refine (turned_calls xa 22 (by decide)).mono ?_
      rintro e w' ⟨rfl, rfl⟩
      go_upto_region 11 with (fail)
      rw [xor32, xor32]
      first | rw [add32, ← H2.out] | rw [wadd32, ← H2.out]
      generalize hw2 : St.two _ = two at *
      have HTw := Lib.hid hw2
      clear hw2
      clear ck cw H1 H2
      have hne := Hne.out
      have hXd : Blk wr.drew.drew X 143 (St.mk xa xb xc xd xe xf xg xh).cells := HX.out
      have hT : wr.drew.drew.there X 0 8 := hXd.there 8 rfl
      have hB := hXd.setCells (cs := (St.mk (one + two) xa xb xc (xd + one) xe xf xg).cells) rfl
      have hK1 := Keeps.setCells (S := [X]) (b := X) (by simp) (St.mk (one + two) xa xb xc (xd + one) xe xf xg).cells 0 wr wr.drew.drew ((Keeps.refl [X] wr).drew.drew)
      have HT := Lib.hid hT
      have HB := Lib.hid hB
      have HK1 := Lib.hid hK1
      have Hne2 := Lib.hid hne
      clear hT hB hK1 hne hXd
      apply wp_region_lit
      iterate 54 go_step
      rw [add32, add32]
      refine wpList_store_mid rfl 143 (.tmp 7) (.tmp 100) rfl X 0 (St.mk (one + two) xa xb xc (xd + one) xe xf xg).cells.toArray (by rfl) (by rfl) HT.out HsS.out (all_oneCell_toArray (all_one _)) ?_
      simp only [Act.put]
      generalize wr.drew.drew.setCells X 0 _ = wz at *
      go_wp2_with fail
      go_roundw
      case rel =>
        have hne := Hne2.out
        refine ⟨k + 1, by omega, by go_num, by rw [Hst.out]; unfold St.round; rw [HO.out, HTw.out]; exact HB.out, HP5.out.keeps HK1.out (by simp; omega), HP6.out.keeps HK1.out (by simp; omega), HA0.out.keeps HK1.out (by simp; omega), HA1.out.keeps HK1.out (by simp; omega), HK.out.trans' HK1.out (by simp) (by simp; omega)⟩
      case measure => simp [intOf]; omega
    · obtain rfl : k = 64 := by omega
      have hT : s.takes l = s.add (s.rounds V 64) := by rw [← HVV.out]; unfold St.takes; rfl
      have hAl := plusTo_len s.list (s.rounds V 64).list
      have hA8 := plusTo_all s (s.rounds V 64)
      generalize s.rounds V 64 = x at *
      have HT := Lib.hid hT
      have HA8 := Lib.hid hA8
      clear hT hA8 hP5 hP6 hlt hk
      go_wp2_with fail
      go_loopw [102] (fun i wz => ∃ j : Nat, j ≤ 8 ∧ i = .int .i64 j ∧ Blk wz w.heap.size 143 ((plusTo s.list x.list j).map B32) ∧ Blk wz X 143 x.cells ∧ Blk wz (w.heap.size + 1) 143 ((List.replicate 8 (0 : UInt32)).map B32) ∧ Keeps [] w wz) (fun i _ => 8 - (intOf i).toNat)
      case atStart => exact ⟨0, by omega, rfl, hA0, hX, hA1, hK⟩
      case round =>
        clear hA0 hX hA1 hK
        obtain ⟨j, hj, rfl, hA0, hX, hA1, hK⟩ := hrel
        have hAj := hAl j
        by_cases hlt : j < 8
        · have hstep := plusTo_succ s.list x.list j
          have hx8 := St.list_len x
          have ca : wr.cell? ⟨w.heap.size, j, none⟩ = some (B32 ((plusTo s.list x.list j).getD j 0)) := hA0.cell' (by rw [List.getElem?_map, List.getD, List.getElem?_eq_getElem (by rw [hAj]; exact hlt)]; rfl)
          have cx : wr.cell? ⟨X, j, none⟩ = some (B32 (x.list.getD j 0)) := hX.cell' (by rw [St.cells, List.getElem?_map, List.getD, List.getElem?_eq_getElem (Nat.lt_of_lt_of_eq hlt (St.list_len x).symm)]; rfl)
          have fa : wr.frozen? ⟨w.heap.size, j, none⟩ = false := hA0.frozen _
          generalize plusTo s.list x.list j = A at *
          generalize A.getD j 0 = y at *
          generalize x.list.getD j 0 = z at *
          have hk0 : (j : Int) < 8 := by omega
          have wk : IntKind.i64.wrap (j : Int) = (j : Int) := by rw [IntWalk.i64_left, IntWalk.wrap64_in _ (by omega)]
          have Hstep := Lib.hid hstep
          have HA0 := Lib.hid hA0
          have HX := Lib.hid hX
          have HA1 := Lib.hid hA1
          have HK := Lib.hid hK
          clear hstep hA0 hX hA1 hK hAj hAl hx8
          go_wp2_with fail
          go_still_tail 8, (by kernel_rfl)
          change wpList _ _ _ _ _ wr.drew
          have fa' : wr.drew.frozen? ⟨w.heap.size, j, none⟩ = false := fa
          have ca' : wr.drew.cell? ⟨w.heap.size, j, none⟩ = some (B32 y) := ca
          go_wp2_with fail
          first | rw [wadd32] | rw [add32]
          go_roundw
          case rel =>
            have hne := Hne.out
            (repeat apply Exists.intro)
            refine ⟨?rel2, rfl⟩
            refine ⟨j + 1, by omega, by go_num, ?_, HX.out.drew.setOther _ (by simp; omega), HA1.out.drew.setOther _ (by simp), HK.out.drew.setCell (by simp) _⟩
            rw [Hstep.out, List.map_set]
            exact HA0.out.drew.set j _
          case measure => simp [intOf]; omega
        · obtain rfl : j = 8 := by omega
          rw [HA8.out, ← HT.out] at hA0
          generalize hR : s.takes l = R at *
          have HR := Lib.hid hR
          clear hR
          have hB2 : Blk (wr.setCells (w.heap.size + 1) 0 R.cells) (w.heap.size + 1) 143 R.cells := hA1.setCells (by rw [St.cells_len]; rfl)
          have hK2 := Keeps.setCellsNew (S := []) (a := w) (b := w.heap.size + 1) (by omega) R.cells 0 wr hK
          have hth : wr.there (w.heap.size + 1) 0 8 := hA1.there 8 rfl
          have HA0 := Lib.hid hA0
          have HB2 := Lib.hid hB2
          have HK2 := Lib.hid hK2
          have Hth := Lib.hid hth
          clear hA0 hX hA1 hK hB2 hK2 hlt hj hAj hAl hth
          go_upto_region 18 with (fail)
          apply wp_region_lit
          refine wpList_load_mid rfl 143 (.tmp 2) rfl w.heap.size 0 (by rfl) R.cells _ HA0.out.range Tryz.underlying143 rfl (by rw [St.cells_len]; exact HsS.out) ?_
          simp only [Act.put, List.setIfInBounds_toArray, List.set_cons_zero, List.set_cons_succ]
          refine wpList_store_mid rfl 143 (.tmp 4) (.tmp 114) rfl (w.heap.size + 1) 0 R.cells.toArray (by rfl) (by rfl) (by rw [St.cells_size]; exact Hth.out) (by rw [St.cells_size]; exact HsS.out) (all_oneCell_toArray (all_one _)) ?_
          simp only [Act.put]
          go_wp2_with fail
          exact bodyPost_ret (v := .agg R.cells.toArray) (results_cell_row Tryz.results79 _ _ _ _ _ _ _ (by rfl) HB2.out Tryz.underlying143 rfl (by rw [St.cells_size]; exact HsS.out)) rfl ⟨by rw [HR.out], HK2.out⟩

end Go.Proofs.YtijhaeapoapgfaaGreatDoor

set_option linter.unusedVariables false
set_option linter.unusedSimpArgs false
namespace Go.Proofs.YtijhaeapoapgfaaGreatDoor
open Go.RowKit
attribute [local go_sem ↓] Go.wp_at_zero Go.wp_at_succ

theorem rrot_int (x : UInt32) (n : Nat) (P Q : Int) (h0 : 0 < n) (hn : n < 32) (hP : P = ((2 ^ (32 - n) : Nat) : Int)) (hQ : Q = ((2 ^ n : Nat) : Int)) :
    bits .or .u32 ((x.toNat : Int) / Q) ((x.toNat : Int) * P % (4294967296 : Int)) = ((rotr n x).toNat : Int) := by
  have e1 : (x.toNat : Int) * P % (4294967296 : Int) = ((x <<< UInt32.ofNat (32 - n)).toNat : Int) := by
    rw [hP, UInt32.toNat_shiftLeft, UInt32.toNat_ofNat', Nat.shiftLeft_eq, Nat.mod_eq_of_lt (a := 32 - n) (b := 2 ^ 32) (by omega), Nat.mod_eq_of_lt (a := 32 - n) (b := 32) (by omega)]
    rw [Int.natCast_emod, Int.natCast_mul]
    rfl
  have e2 : (x.toNat : Int) / Q = ((x >>> UInt32.ofNat n).toNat : Int) := by
    rw [hQ, UInt32.toNat_shiftRight, UInt32.toNat_ofNat', Nat.shiftRight_eq_div_pow, Nat.mod_eq_of_lt (a := n) (b := 2 ^ 32) (by omega), Nat.mod_eq_of_lt (a := n) (b := 32) (by omega)]
    rw [Int.natCast_ediv]
  rw [e1, e2, or32, rturn_eq]

set_option maxRecDepth 100000 in
theorem rturn_calls {w : World} (x : UInt32) (n : Nat) (hn : n ∈ rotArgs) :
    Calls Tryz.prog 45 #[B32 x, .int .u64 (n : Int)] w fun e w' => e = .returned (B32 (rotr n x)) ∧ w = w' := by
  simp only [rotArgs, List.mem_cons, List.not_mem_nil, or_false] at hn
  rcases hn with rfl | rfl | rfl | rfl | rfl | rfl | rfl | rfl | rfl | rfl
  · go_enter Tryz.func45, Tryz.ntmps45
    go_wp2_with fail
    go_ret
    exact ⟨congrArg (fun z => Ending.returned (.int .u32 z)) (rrot_int x 2 _ _ (by decide) (by decide) (by decide) (by decide)), rfl⟩
  · go_enter Tryz.func45, Tryz.ntmps45
    go_wp2_with fail
    go_ret
    exact ⟨congrArg (fun z => Ending.returned (.int .u32 z)) (rrot_int x 6 _ _ (by decide) (by decide) (by decide) (by decide)), rfl⟩
  · go_enter Tryz.func45, Tryz.ntmps45
    go_wp2_with fail
    go_ret
    exact ⟨congrArg (fun z => Ending.returned (.int .u32 z)) (rrot_int x 7 _ _ (by decide) (by decide) (by decide) (by decide)), rfl⟩
  · go_enter Tryz.func45, Tryz.ntmps45
    go_wp2_with fail
    go_ret
    exact ⟨congrArg (fun z => Ending.returned (.int .u32 z)) (rrot_int x 11 _ _ (by decide) (by decide) (by decide) (by decide)), rfl⟩
  · go_enter Tryz.func45, Tryz.ntmps45
    go_wp2_with fail
    go_ret
    exact ⟨congrArg (fun z => Ending.returned (.int .u32 z)) (rrot_int x 13 _ _ (by decide) (by decide) (by decide) (by decide)), rfl⟩
  · go_enter Tryz.func45, Tryz.ntmps45
    go_wp2_with fail
    go_ret
    exact ⟨congrArg (fun z => Ending.returned (.int .u32 z)) (rrot_int x 17 _ _ (by decide) (by decide) (by decide) (by decide)), rfl⟩
  · go_enter Tryz.func45, Tryz.ntmps45
    go_wp2_with fail
    go_ret
    exact ⟨congrArg (fun z => Ending.returned (.int .u32 z)) (rrot_int x 18 _ _ (by decide) (by decide) (by decide) (by decide)), rfl⟩
  · go_enter Tryz.func45, Tryz.ntmps45
    go_wp2_with fail
    go_ret
    exact ⟨congrArg (fun z => Ending.returned (.int .u32 z)) (rrot_int x 19 _ _ (by decide) (by decide) (by decide) (by decide)), rfl⟩
  · go_enter Tryz.func45, Tryz.ntmps45
    go_wp2_with fail
    go_ret
    exact ⟨congrArg (fun z => Ending.returned (.int .u32 z)) (rrot_int x 22 _ _ (by decide) (by decide) (by decide) (by decide)), rfl⟩
  · go_enter Tryz.func45, Tryz.ntmps45
    go_wp2_with fail
    go_ret
    exact ⟨congrArg (fun z => Ending.returned (.int .u32 z)) (rrot_int x 25 _ _ (by decide) (by decide) (by decide) (by decide)), rfl⟩

set_option maxRecDepth 100000 in
set_option maxHeartbeats 1000000 in
theorem rtable_calls {w : World} :
    Calls Tryz.prog 42 #[] w fun e w' => e = .returned (.agg (shaK.map B32).toArray) ∧ Keeps [] w w' := by
  go_enter Tryz.func42, Tryz.ntmps42
  go_upto_region 1 with (fail)
  apply wp_region_lit
  go_step
  go_step
  go_step
  have hB0 : Blk (w.alloc (.cells #[.int .u32 0, .int .u32 0, .int .u32 0, .int .u32 0, .int .u32 0, .int .u32 0, .int .u32 0, .int .u32 0, .int .u32 0, .int .u32 0, .int .u32 0, .int .u32 0, .int .u32 0, .int .u32 0, .int .u32 0, .int .u32 0, .int .u32 0, .int .u32 0, .int .u32 0, .int .u32 0, .int .u32 0, .int .u32 0, .int .u32 0, .int .u32 0, .int .u32 0, .int .u32 0, .int .u32 0, .int .u32 0, .int .u32 0, .int .u32 0, .int .u32 0, .int .u32 0, .int .u32 0, .int .u32 0, .int .u32 0, .int .u32 0, .int .u32 0, .int .u32 0, .int .u32 0, .int .u32 0, .int .u32 0, .int .u32 0, .int .u32 0, .int .u32 0, .int .u32 0, .int .u32 0, .int .u32 0, .int .u32 0, .int .u32 0, .int .u32 0, .int .u32 0, .int .u32 0, .int .u32 0, .int .u32 0, .int .u32 0, .int .u32 0, .int .u32 0, .int .u32 0, .int .u32 0, .int .u32 0, .int .u32 0, .int .u32 0, .int .u32 0, .int .u32 0] 79)) w.heap.size 79 ((List.replicate 64 (0 : UInt32)).map B32) := Blk.newA w 79 #[.int .u32 0, .int .u32 0, .int .u32 0, .int .u32 0, .int .u32 0, .int .u32 0, .int .u32 0, .int .u32 0, .int .u32 0, .int .u32 0, .int .u32 0, .int .u32 0, .int .u32 0, .int .u32 0, .int .u32 0, .int .u32 0, .int .u32 0, .int .u32 0, .int .u32 0, .int .u32 0, .int .u32 0, .int .u32 0, .int .u32 0, .int .u32 0, .int .u32 0, .int .u32 0, .int .u32 0, .int .u32 0, .int .u32 0, .int .u32 0, .int .u32 0, .int .u32 0, .int .u32 0, .int .u32 0, .int .u32 0, .int .u32 0, .int .u32 0, .int .u32 0, .int .u32 0, .int .u32 0, .int .u32 0, .int .u32 0, .int .u32 0, .int .u32 0, .int .u32 0, .int .u32 0, .int .u32 0, .int .u32 0, .int .u32 0, .int .u32 0, .int .u32 0, .int .u32 0, .int .u32 0, .int .u32 0, .int .u32 0, .int .u32 0, .int .u32 0, .int .u32 0, .int .u32 0, .int .u32 0, .int .u32 0, .int .u32 0, .int .u32 0, .int .u32 0]
  have hlen : (shaK.map B32).length = 64 := by rw [List.length_map]; exact shaK_len
  have hsz : (Tryz.prog.info? 79).map (·.size) = some (shaK.map B32).length := by rw [hlen]; kernel_rfl
  have hB2 := hB0.setCells (cs := shaK.map B32) (by rw [hlen]; rfl)
  have hK2 := Keeps.setCellsNew (S := []) (b := w.heap.size) (Nat.le_refl _) (shaK.map B32) 0 _ ((Keeps.refl [] w).alloc (.cells #[.int .u32 0, .int .u32 0, .int .u32 0, .int .u32 0, .int .u32 0, .int .u32 0, .int .u32 0, .int .u32 0, .int .u32 0, .int .u32 0, .int .u32 0, .int .u32 0, .int .u32 0, .int .u32 0, .int .u32 0, .int .u32 0, .int .u32 0, .int .u32 0, .int .u32 0, .int .u32 0, .int .u32 0, .int .u32 0, .int .u32 0, .int .u32 0, .int .u32 0, .int .u32 0, .int .u32 0, .int .u32 0, .int .u32 0, .int .u32 0, .int .u32 0, .int .u32 0, .int .u32 0, .int .u32 0, .int .u32 0, .int .u32 0, .int .u32 0, .int .u32 0, .int .u32 0, .int .u32 0, .int .u32 0, .int .u32 0, .int .u32 0, .int .u32 0, .int .u32 0, .int .u32 0, .int .u32 0, .int .u32 0, .int .u32 0, .int .u32 0, .int .u32 0, .int .u32 0, .int .u32 0, .int .u32 0, .int .u32 0, .int .u32 0, .int .u32 0, .int .u32 0, .int .u32 0, .int .u32 0, .int .u32 0, .int .u32 0, .int .u32 0, .int .u32 0] 79))
  have hT := hB0.there (shaK.map B32).toArray.size (by rw [List.size_toArray, hlen]; rfl)
  refine wpList_store_mid rfl 79 (.tmp 0) (.tmp 1) rfl w.heap.size 0 (shaK.map B32).toArray (by rfl) (by rfl) hT (by rw [List.size_toArray]; exact hsz) (all_oneCell_toArray (all_one _)) ?_
  simp only [Act.put]
  go_wp2_with fail
  exact bodyPost_ret (v := .agg (shaK.map B32).toArray) (results_cell_row Tryz.results42 _ _ _ _ _ _ _ (by rfl) hB2 Tryz.underlying79 rfl (by rw [List.size_toArray]; exact hsz)) rfl ⟨rfl, hK2⟩

set_option maxRecDepth 100000 in
theorem index_runA (w : World) (cells : Array Value) (j : Nat) (hj : j < 8) (v : Value) (hv : cells[j]? = some v) :
    (Instr.index 78 (.agg cells) (.int .i64 (j : Int))).run Tryz.prog w = .ok v w := by
  have hu : (underlying 78).run Tryz.prog w = .ok (.array 8 30) w := run_underlying Tryz.underlying78 w
  have hs : (sizeOf 30).run Tryz.prog w = .ok 1 w := by
    have : (Tryz.prog.info? 30).map (·.size) = some 1 := by kernel_rfl
    cases hq : Tryz.prog.info? 30 with
    | none => simp [hq] at this
    | some i => simp [hq] at this; simp [sizeOf, typeInfo, hq, this]
  have h0 : (0 : Int) ≤ (j : Int) ∧ (j : Int) < 8 := by omega
  simp only [Instr.index, asIntOf, Sem.run_bind, Sem.run_pure, Result.andThen_ok, hu]
  simp [h0, hs, Sem.run_bind, part, hv]

theorem wpList_indexA {w : World} {ops : Array Oper} {rest : List Oper} {o : Oper} {act : Act} {Q : Exit → Act → World → Prop} (hgd : o.guard = none) (x y : Operand) (ho : o.op = .index 78 x y)
    (cells : Array Value) (hx : act.eval x = .agg cells) (j : Nat) (hj : j < 8) (hy : act.eval y = .int .i64 (j : Int)) (v : Value) (hv : cells[j]? = some v)
    (h : wpList Tryz.prog ops Q rest (act.put o.dst v) w) : wpList Tryz.prog ops Q (o :: rest) act w := by
  refine wpList_plain hgd fun K hK => ?_
  have hr := index_runA w cells j hj v hv
  unfold Oper.wp
  simp only [execOp, ho, hx, hy, hr, Sem.run_bind, Result.andThen_ok, Sem.run_pure, Oper.upon]
  exact hK _ _ h

/-- The words of a block, the first i of them made. -/
def rW (D : List UInt8) (i : Nat) : List UInt32 := if i ≤ 16 then wBytes D (4 * i) else wExt (wBytes D 64) (i - 16)

theorem rW_len (D : List UInt8) (i : Nat) : (rW D i).length = 64 := by
  unfold rW
  split
  · exact wBytes_len _ _
  · exact wExt_len _ (wBytes_len _ _) _

theorem rW_zero (D : List UInt8) : rW D 0 = List.replicate 64 0 := rfl

theorem rW_low (D : List UInt8) (hD : D.length = 64) (i : Nat) (hi : i < 16) : rW D (i + 1) = (rW D i).set i (numFold ((D.drop (4 * i)).take 4)) := by
  unfold rW
  rw [if_pos (by omega), if_pos (by omega)]
  exact wBytes_four D i hi (by omega)

theorem rW_high (D : List UInt8) (i : Nat) (h16 : 16 ≤ i) : rW D (i + 1) = (rW D i).set i (wNew (rW D i) i) := by
  obtain ⟨j, rfl⟩ : ∃ j, i = 16 + j := ⟨i - 16, by omega⟩
  have e : ∀ j, rW D (16 + j) = wExt (wBytes D 64) j := by
    intro j
    unfold rW
    by_cases h : 16 + j ≤ 16
    · obtain rfl : j = 0 := by omega
      rw [if_pos (by omega)]; rfl
    · rw [if_neg h, show 16 + j - 16 = j from by omega]
  rw [e, show 16 + j + 1 = 16 + (j + 1) from by omega, e]
  rfl

theorem rW_all (D : List UInt8) (hD : D.length = 64) : rW D 64 = wAll D := by
  unfold rW wAll
  rw [if_neg (by omega), hD]

end Go.Proofs.YtijhaeapoapgfaaGreatDoor
