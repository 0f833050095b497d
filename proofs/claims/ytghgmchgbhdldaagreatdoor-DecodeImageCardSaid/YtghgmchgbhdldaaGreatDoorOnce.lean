/-
  Once: sync.Once.Do (one goroutine), whatever the function does: after the how-to's Lazy*.lean.
-/
import Derived.Test.YtghgmchgbhdldaaGreatDoorSol2
import Derived.Tactics
import Derived.Tactics2
import Derived.Defers
import Derived.Laws.Pointers
import Derived.Laws.LoneSync
import Derived.RegionTactic
import Derived.RegionCalls
import Derived.ChangeAlike
set_option linter.unusedVariables false
set_option linter.unusedSimpArgs false
namespace Go.Proofs.YtghgmchgbhdldaaGreatDoor
open Go.RowKit
attribute [local go_sem ↓] Go.wp_at_zero Go.wp_at_succ

theorem lz_disable (w : World) : (callFunc 101 #[]).run Tryz.prog w = .ok (.value (.tuple #[])) w := run_call_mark0 Tryz.func101 (by kernel_rfl) (by kernel_rfl) (by kernel_rfl) .disable (by kernel_rfl) w
theorem lz_enable (w : World) : (callFunc 103 #[]).run Tryz.prog w = .ok (.value (.tuple #[])) w := run_call_mark0 Tryz.func103 (by kernel_rfl) (by kernel_rfl) (by kernel_rfl) .enable (by kernel_rfl) w
theorem lz_acquire (a : Addr) (w : World) : (callFunc 104 #[.pointer (some a)]).run Tryz.prog w = .ok (.value (.tuple #[])) w := run_call_marked Tryz.func104 (by kernel_rfl) (by kernel_rfl) (by kernel_rfl) .acquire (by kernel_rfl) a w
theorem lz_releaseMerge (a : Addr) (w : World) : (callFunc 106 #[.pointer (some a)]).run Tryz.prog w = .ok (.value (.tuple #[])) w := run_call_marked Tryz.func106 (by kernel_rfl) (by kernel_rfl) (by kernel_rfl) .releaseMerge (by kernel_rfl) a w

/-- '(*sync/atomic.Bool).Store(true)', ENTERED AS A DEFERRED CALL: the cell holds 1. -/
theorem store_deferred (a : Addr) (x : Value) (u : FrameMode) (w : World) (hc : w.cell? a = some x) (hz : w.frozen? a = false) :
    CallsD Tryz.prog 76 #[.pointer (some a), .bool true] u w fun e u' w' => u' = u ∧ (e = .returned (.tuple #[]) ∧ w' = w.drew.setCell a (.int .u32 1)) := by
  have hc' : w.drew.cell? a = some x := by go_simp
  have hz' : w.drew.frozen? a = false := by go_simp
  have hst := run_call_store (P := Tryz.prog) Tryz.func79 (by kernel_rfl) (by kernel_rfl) (by kernel_rfl) (by kernel_rfl) (k := .u32) (y := 1) hc' hz'
  go_enter_d Tryz.func76, Tryz.ntmps76
  go_wp2
  go_region_calls
  all_goals (go_end0; exact ⟨rfl, rfl⟩)

set_option maxRecDepth 100000 in
/-- '(*sync.Mutex).Unlock', ENTERED AS A DEFERRED CALL, the lock held and nobody waiting (state 1): state 0. -/
theorem unlock_deferred (a : Addr) (u : FrameMode) (w : World) (hc : w.cell? a = some (.int .i32 1)) (hz : w.frozen? a = false) :
    CallsD Tryz.prog 75 #[.pointer (some a)] u w fun e u' w' => u' = u ∧ (e = .returned (.tuple #[]) ∧ w' = w.setCell a (.int .i32 0)) := by
  have hd := lz_disable
  have he := lz_enable
  have hr := lz_releaseMerge
  have hadd := run_call_add (P := Tryz.prog) Tryz.func107 (by kernel_rfl) (by kernel_rfl) (by kernel_rfl) .i32 (by kernel_rfl) (y := -1) (s := 0) hc hz (by simp [go_sem]; rfl)
  have hcv := run_convert_to_unsafe (P := Tryz.prog) (src := 160) (dst := 164) Tryz.underlying160 Tryz.underlying164 (by kernel_rfl) hc
  go_enter_d Tryz.func75, Tryz.ntmps75
  go_wp2
  go_end0
  go_wp2
  go_end0
  exact ⟨rfl, rfl⟩

set_option maxRecDepth 100000 in
/-- '(*sync.Mutex).Lock', the lock free (state 0): state 1. -/
theorem lock_free (a : Addr) (w : World) (hc : w.cell? a = some (.int .i32 0)) (hz : w.frozen? a = false) :
    Calls Tryz.prog 74 #[.pointer (some a)] w fun e w' => e = .returned (.tuple #[]) ∧ w' = w.setCell a (.int .i32 1) := by
  have hd := lz_disable
  have he := lz_enable
  have ha := lz_acquire
  have hcas := run_call_cas_hit (P := Tryz.prog) Tryz.func102 (by kernel_rfl) (by kernel_rfl) (by kernel_rfl) .i32 (by kernel_rfl) (y := 1) hc hz
  have hc' : (w.setCell a (.int .i32 1)).cell? a = some (.int .i32 1) := World.cell?_setCell_same w a _ hc
  have hcv := run_convert_to_unsafe (P := Tryz.prog) (src := 160) (dst := 164) Tryz.underlying160 Tryz.underlying164 (by kernel_rfl) hc'
  go_enter Tryz.func74, Tryz.ntmps74
  go_wp2
  first | go_end0 | (simp only [Exit.inBlock, Exit.then]; refine bodyPost_ret (results_none rfl _ _ _) rfl ?_) | refine bodyPost_ret (results_none rfl _ _ _) rfl ?_
  go_wp2
  go_end0
  exact ⟨rfl, rfl⟩

set_option maxRecDepth 100000 in
set_option maxHeartbeats 1600000 in
theorem slow_calls {w : World} {p n : Nat} (hb : Blk w p 131 [.int .i64 n, .int .u32 0, .int .i32 0, .int .u32 0, .slice none 0 0]) (h1 : 1 ≤ n) (h2 : n ≤ 80) :
    Calls Tryz.prog 53 #[.pointer (some ⟨p, 1, none⟩), .func (.func 70) #[.pointer (some ⟨p, 0, none⟩)] #[]] w (FillPost w p n (.int .u32 1) (.int .i32 0) (.int .u32 0)) := by
  have hb1 := hb.set 2 (.int .i32 1)
  have kp : Keeps [p] w (w.setCell ⟨p, 2, none⟩ (.int .i32 1)) := (Keeps.refl [p] w).setCell (by simp) _
  have hF := fill_calls hb1 h1 h2
  have hsz : (w.setCell ⟨p, 2, none⟩ (.int .i32 1)).heap.size = w.heap.size := by simp [World.setCell]
  have hpl := hb.lt
  have hl := run_call_load (P := Tryz.prog) Tryz.func73 (by kernel_rfl) (by kernel_rfl) (by kernel_rfl) .u32 (by kernel_rfl) (w := w.setCell ⟨p, 2, none⟩ (.int .i32 1)) (a := ⟨p, 1, none⟩) (x := 0) (hb1.cell' (i := 1) rfl)
  have hnot : ∀ (x : Bool) (w : World), (Op.unary .not (.bool x)).run Tryz.prog w = .ok (.bool (!x)) w := fun _ _ => rfl
  have c2 := hb.cell' (i := 2) rfl
  have f2 := hb.frozen 2
  go_enter_defers Tryz.func53, Tryz.ntmps53
  go_wp2_with (first | (go_at_call 74; refine (lock_free ⟨p, 2, none⟩ _ c2 f2).mono ?_; rintro e w' ⟨rfl, rfl⟩) | (go_at_call 52; go_in) | (go_at_call 70; refine hF.mono ?_; rintro e w2 ⟨v, rfl, hb2, hO, hK⟩))
  have b3 := hb2.drew.set 1 (.int .u32 1)
  have b4 := b3.set 2 (.int .i32 0)
  have k3 : Keeps [p] w2 (w2.drew.setCell ⟨p, 1, none⟩ (.int .u32 1)) := ((Keeps.refl [p] w2).drew).setCell (by simp) _
  have k4 : Keeps [p] w2 ((w2.drew.setCell ⟨p, 1, none⟩ (.int .u32 1)).setCell ⟨p, 2, none⟩ (.int .i32 0)) := k3.setCell (by simp) _
  have o4 := hO.keeps k4 (by simp; omega)
  go_wp2
  refine leaves_cons (f := 76) (args := #[.pointer (some ⟨p, 1, none⟩), .bool true]) (by simp) (by simp [go_sem]) ?_
  refine (store_deferred ⟨p, 1, none⟩ (.int .u32 0) .returning _ (hb2.cell' (i := 1) rfl) (hb2.frozen 1)).mono ?_
  rintro e u' w'' ⟨rfl, rfl, rfl⟩
  refine leaves_cons (f := 75) (args := #[.pointer (some ⟨p, 2, none⟩)]) (by simp [settle]) (by simp [go_sem]) ?_
  refine (unlock_deferred ⟨p, 2, none⟩ _ _ (b3.cell' (i := 2) rfl) (b3.frozen 2)).mono ?_
  rintro e u' w'' ⟨rfl, rfl, rfl⟩
  simp [Leaves, settle, results, Tryz.results53]
  exact ⟨v, rfl, b4, o4.mono (by omega), (kp.trans hK).trans k4⟩

set_option maxRecDepth 100000 in
set_option maxHeartbeats 1600000 in
/-- '(*sync.Once).Do', not yet done, the lock free. -/
theorem once_calls {w : World} {p n : Nat} (hb : Blk w p 131 [.int .i64 n, .int .u32 0, .int .i32 0, .int .u32 0, .slice none 0 0]) (h1 : 1 ≤ n) (h2 : n ≤ 80) :
    Calls Tryz.prog 30 #[.pointer (some ⟨p, 1, none⟩), .func (.func 70) #[.pointer (some ⟨p, 0, none⟩)] #[]] w (FillPost w p n (.int .u32 1) (.int .i32 0) (.int .u32 0)) := by
  have hS := slow_calls hb h1 h2
  have c1 := hb.cell' (i := 1) rfl
  have hl := run_call_load (P := Tryz.prog) Tryz.func73 (by kernel_rfl) (by kernel_rfl) (by kernel_rfl) .u32 (by kernel_rfl) c1
  have hnot : ∀ (x : Bool) (w : World), (Op.unary .not (.bool x)).run Tryz.prog w = .ok (.bool (!x)) w := fun _ _ => rfl
  go_enter Tryz.func30, Tryz.ntmps30
  go_wp2_with (first | (go_at_call 53; refine hS.mono ?_; rintro e w2 ⟨v, rfl, hb2, hO, hK⟩) | (go_at_call 52; go_in))
  go_end0
  exact ⟨v, rfl, hb2, hO, hK⟩

end Go.Proofs.YtghgmchgbhdldaaGreatDoor
