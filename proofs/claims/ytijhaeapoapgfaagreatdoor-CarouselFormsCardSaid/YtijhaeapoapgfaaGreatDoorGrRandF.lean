/-
  GrRandF: the texts RandF, one behind another.
-/
import Derived.Test.YtijhaeapoapgfaaGreatDoorGrRand
set_option linter.unusedVariables false
set_option linter.unusedSimpArgs false
namespace Go.Proofs.YtijhaeapoapgfaaGreatDoor
open Go.RowKit
attribute [local go_sem ↓] Go.wp_at_zero Go.wp_at_succ

def RSrcAt (w : World) (p : Nat) (s : UInt32) : Prop := Blk w p 206 [B32 s]
def RSrcNew (w : World) (s : UInt32) (e : Ending) (w' : World) : Prop := ∃ p, e = .returned (.pointer (some ⟨p, 0, none⟩)) ∧ w.heap.size ≤ p ∧ RSrcAt w' p s ∧ Keeps [] w w'
def RSrcPost (w : World) (p : Nat) (s : UInt32) (v : Value) (e : Ending) (w' : World) : Prop := e = .returned v ∧ RSrcAt w' p s ∧ Keeps [p] w w'

set_option maxRecDepth 100000 in
theorem refmix_calls {w : World} (x : UInt32) : Calls Tryz.prog 139 #[B32 x] w fun e w' => e = .returned (B32 (mixU x)) ∧ w = w' := by
  have hx := x.toNat_lt
  go_enter Tryz.func139, Tryz.ntmps139
  go_wp2_with fail
  go_ret
  exact ⟨congrArg (fun z => Ending.returned (.int .u32 z)) (mix_int x), rfl⟩

set_option maxRecDepth 100000 in
theorem refnew_calls {w : World} (a b : UInt32) : Calls Tryz.prog 89 #[B32 a, B32 b] w (RSrcNew w (rseed a b)) := by
  have hsd : rseed a b = mixU a + b * 2654435769 + 1 := rfl
  have hM := refmix_calls (w := w) a
  generalize mixU a = m at *
  have Hsd := Lib.hid hsd
  clear hsd
  have hm := m.toNat_lt
  have hb := b.toNat_lt
  go_enter Tryz.func89, Tryz.ntmps89
  go_wp2_with fail
  refine hM.mono ?_
  rintro e w' ⟨rfl, rfl⟩
  go_wp2_with fail
  go_ret
  refine ⟨_, rfl, Nat.le_refl _, ?_, (Keeps.refl [] w).alloc _⟩
  rw [Hsd.out]
  have := Blk.newA w 206 #[.int .u32 (((m.toNat : Int) + (b.toNat : Int) * 2654435769 + 1) % 4294967296)]
  rw [seed_flat] at this
  rw [seed_flat]
  exact this

set_option maxRecDepth 100000 in
set_option maxHeartbeats 1000000 in
theorem refnext_calls {w : World} {p : Nat} {s : UInt32} (h : RSrcAt w p s) :
    Calls Tryz.prog 91 #[.pointer (some ⟨p, 0, none⟩)] w (RSrcPost w p (rstep s) (B32 (rnext s))) := by
  have hst := rstep_wake s
  have c0 : w.cell? ⟨p, 0, none⟩ = some (B32 s) := Blk.cell' h (i := 0) rfl
  have f0 : w.frozen? ⟨p, 0, none⟩ = false := Blk.frozen h 0
  have hset := fun y : UInt32 => (Blk.set h 0 (B32 y))
  by_cases hs : s = 0
  · subst hs
    have hst1 : rstep 0 = 270369 := by decide
    have Hst := Lib.hid hst1
    have Hset := Lib.hid hset
    clear hst hst1 hset
    go_enter Tryz.func91, Tryz.ntmps91
    go_wp2_with fail
    have hE : bits .xor .u32 (bits .xor .u32 (bits .xor .u32 1 8192) (bits .xor .u32 1 8192 / 131072)) (bits .xor .u32 (bits .xor .u32 1 8192) (bits .xor .u32 1 8192 / 131072) * 32 % 4294967296) = ((270369 : UInt32).toNat : Int) := by decide +kernel
    rw [hE]
    generalize (270369 : UInt32) = y at *
    refine (refmix_calls y).mono ?_
    rintro e w' ⟨rfl, rfl⟩
    go_wp2_with fail
    go_ret
    unfold RSrcPost rnext
    rw [Hst.out]
    exact ⟨rfl, Hset.out y, (Keeps.refl _ _).setCell (by simp) _⟩
  · have hw : wake s = s := by unfold wake; rw [if_neg hs]
    rw [hw] at hst
    have hn : ((s.toNat : Int) == 0) = false := by
      rw [beq_eq_false_iff_ne]; intro e; exact hs (UInt32.toNat_inj.1 (by show s.toNat = 0; omega))
    have Hst := Lib.hid hst
    have Hset := Lib.hid hset
    clear hst hset hs hw
    go_enter Tryz.func91, Tryz.ntmps91
    go_wp2_with fail
    rw [step1_int, step2_int, step3_int]
    have hy : rstep s = ((s ^^^ s <<< 13) ^^^ ((s ^^^ s <<< 13) >>> 17)) ^^^ (((s ^^^ s <<< 13) ^^^ ((s ^^^ s <<< 13) >>> 17)) <<< 5) := Hst.out
    generalize ((s ^^^ s <<< 13) ^^^ ((s ^^^ s <<< 13) >>> 17)) ^^^ (((s ^^^ s <<< 13) ^^^ ((s ^^^ s <<< 13) >>> 17)) <<< 5) = y at *
    have Hy := Lib.hid hy
    clear hy Hst
    refine (refmix_calls y).mono ?_
    rintro e w' ⟨rfl, rfl⟩
    go_wp2_with fail
    go_ret
    unfold RSrcPost rnext
    rw [Hy.out]
    exact ⟨rfl, Hset.out y, (Keeps.refl _ _).setCell (by simp) _⟩

end Go.Proofs.YtijhaeapoapgfaaGreatDoor
