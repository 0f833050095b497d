/-
  Rand: package rand, walked: mix, New, Next, Below.
-/
import Derived.Test.YtijhaeapoapgfaaGreatDoorPlain
import Derived.Test.YtijhaeapoapgfaaGreatDoorRows
import Derived.BigQuiet
import Derived.Deep.QuietTactic
import Derived.Deep.RegionWith
import Derived.Deep.DrawnRows
import Derived.Deep.DeepMust
set_option linter.unusedVariables false
set_option linter.unusedSimpArgs false
namespace Go.Proofs.YtijhaeapoapgfaaGreatDoor
open Go.RowKit
attribute [local go_sem ↓] Go.wp_at_zero Go.wp_at_succ

abbrev B32 (x : UInt32) : Value := .int .u32 x.toNat

theorem xor32 (a b : UInt32) : bits .xor .u32 (a.toNat : Int) (b.toNat : Int) = ((a ^^^ b).toNat : Int) := by
  rw [u32_xor_nat _ _ a.toNat_lt b.toNat_lt, UInt32.toNat_xor]
theorem shr16 (x : UInt32) : (x.toNat : Int) / (65536 : Int) = ((x >>> 16).toNat : Int) := by
  rw [UInt32.toNat_shiftRight]
  show _ = ((x.toNat >>> 16 : Nat) : Int)
  rw [Nat.shiftRight_eq_div_pow]; omega
theorem shr15 (x : UInt32) : (x.toNat : Int) / (32768 : Int) = ((x >>> 15).toNat : Int) := by
  rw [UInt32.toNat_shiftRight]
  show _ = ((x.toNat >>> 15 : Nat) : Int)
  rw [Nat.shiftRight_eq_div_pow]; omega
theorem shr17 (x : UInt32) : (x.toNat : Int) / (131072 : Int) = ((x >>> 17).toNat : Int) := by
  rw [UInt32.toNat_shiftRight]
  show _ = ((x.toNat >>> 17 : Nat) : Int)
  rw [Nat.shiftRight_eq_div_pow]; omega
theorem shl13 (x : UInt32) : (x.toNat : Int) * (8192 : Int) % (4294967296 : Int) = ((x <<< 13).toNat : Int) := by
  rw [UInt32.toNat_shiftLeft]
  show _ = ((x.toNat <<< 13 % 4294967296 : Nat) : Int)
  rw [Nat.shiftLeft_eq]; omega
theorem shl5 (x : UInt32) : (x.toNat : Int) * (32 : Int) % (4294967296 : Int) = ((x <<< 5).toNat : Int) := by
  rw [UInt32.toNat_shiftLeft]
  show _ = ((x.toNat <<< 5 % 4294967296 : Nat) : Int)
  rw [Nat.shiftLeft_eq]; omega
theorem mulA (x : UInt32) : (x.toNat : Int) * (2146121005 : Int) % (4294967296 : Int) = ((x * 2146121005).toNat : Int) := by
  rw [UInt32.toNat_mul]
  show _ = ((x.toNat * 2146121005 % 4294967296 : Nat) : Int)
  omega
theorem mulB (x : UInt32) : (x.toNat : Int) * (2221713035 : Int) % (4294967296 : Int) = ((x * 2221713035).toNat : Int) := by
  rw [UInt32.toNat_mul]
  show _ = ((x.toNat * 2221713035 % 4294967296 : Nat) : Int)
  omega

theorem mix_int (x : UInt32) : bits .xor .u32 ((bits .xor .u32 (bits .xor .u32 (x.toNat : Int) ((x.toNat : Int) / (65536 : Int)) * (2146121005 : Int) % (4294967296 : Int)) (bits .xor .u32 (x.toNat : Int) ((x.toNat : Int) / (65536 : Int)) * (2146121005 : Int) % (4294967296 : Int) / (32768 : Int))) * (2221713035 : Int) % (4294967296 : Int)) ((bits .xor .u32 (bits .xor .u32 (x.toNat : Int) ((x.toNat : Int) / (65536 : Int)) * (2146121005 : Int) % (4294967296 : Int)) (bits .xor .u32 (x.toNat : Int) ((x.toNat : Int) / (65536 : Int)) * (2146121005 : Int) % (4294967296 : Int) / (32768 : Int))) * (2221713035 : Int) % (4294967296 : Int) / (65536 : Int)) = ((mixU x).toNat : Int) := by
  rw [shr16, xor32, mulA, shr15, xor32, mulB, shr16, xor32]
  rfl

set_option maxRecDepth 100000 in
theorem rmix_calls {w : World} (x : UInt32) : Calls Tryz.prog 163 #[B32 x] w fun e w' => e = .returned (B32 (mixU x)) ∧ w = w' := by
  have hx := x.toNat_lt
  go_enter Tryz.func163, Tryz.ntmps163
  go_wp2_with fail
  go_ret
  exact ⟨congrArg (fun z => Ending.returned (.int .u32 z)) (mix_int x), rfl⟩

def SrcAt (w : World) (p : Nat) (s : UInt32) : Prop := Blk w p 225 [B32 s]
def SrcPost (w : World) (p : Nat) (s : UInt32) (v : Value) (e : Ending) (w' : World) : Prop := e = .returned v ∧ SrcAt w' p s ∧ Keeps [p] w w'

theorem SrcAt.cell {w : World} {p : Nat} {s : UInt32} (h : SrcAt w p s) : w.cell? ⟨p, 0, none⟩ = some (B32 s) := Blk.cell' h (i := 0) rfl
theorem SrcAt.frz {w : World} {p : Nat} {s : UInt32} (h : SrcAt w p s) : w.frozen? ⟨p, 0, none⟩ = false := Blk.frozen h 0
theorem SrcAt.keeps {S : List Nat} {w w' : World} {p : Nat} {s : UInt32} (h : SrcAt w p s) (k : Keeps S w w') (hp : p ∉ S) : SrcAt w' p s := Blk.keeps h k hp
theorem SrcAt.set {w : World} {p : Nat} {s : UInt32} (h : SrcAt w p s) (t : UInt32) : SrcAt (w.setCell ⟨p, 0, none⟩ (B32 t)) p t := Blk.set h 0 (B32 t)
theorem SrcAt.ltp {w : World} {p : Nat} {s : UInt32} (h : SrcAt w p s) : p < w.heap.size := Blk.lt h

def wake (s : UInt32) : UInt32 := if s = 0 then 1 else s

set_option maxRecDepth 100000 in
theorem cas_calls {w : World} {p : Nat} {s : UInt32} (h : SrcAt w p s) :
    Calls Tryz.prog 170 #[.pointer (some ⟨p, 0, none⟩), .int .u32 0, .int .u32 1] w (SrcPost w p (wake s) (.bool (s == 0))) := by
  have hc := h.cell
  have hz := h.frz
  by_cases h0 : s = 0
  · subst h0
    have hr : (callFunc 191 #[.pointer (some ⟨p, 0, none⟩), .int .u32 0, .int .u32 1]).run Tryz.prog w = .ok (.value (.bool true)) (w.setCell ⟨p, 0, none⟩ (.int .u32 1)) :=
      run_call_cas_hit (P := Tryz.prog) Tryz.func191 (by kernel_rfl) (by kernel_rfl) (by kernel_rfl) .u32 (by kernel_rfl) hc hz
    clear hc hz
    go_enter Tryz.func170, Tryz.ntmps170
    go_wp2
    go_ret
    exact ⟨rfl, h.set 1, (Keeps.refl _ _).setCell (by simp) _⟩
  · have hn : ¬ ((s.toNat : Int) = 0) := fun e => h0 (UInt32.toNat_inj.1 (by show s.toNat = 0; omega))
    have hr : (callFunc 191 #[.pointer (some ⟨p, 0, none⟩), .int .u32 0, .int .u32 1]).run Tryz.prog w = .ok (.value (.bool false)) w :=
      run_call_cas_miss (P := Tryz.prog) Tryz.func191 (by kernel_rfl) (by kernel_rfl) (by kernel_rfl) .u32 (by kernel_rfl) hc hz hn
    clear hc hz hn
    go_enter Tryz.func170, Tryz.ntmps170
    go_wp2
    go_ret
    exact ⟨by simp [h0], by unfold wake; rw [if_neg h0]; exact h, Keeps.refl _ _⟩

set_option maxRecDepth 100000 in
theorem load_calls {w : World} {p : Nat} {s : UInt32} (h : SrcAt w p s) :
    Calls Tryz.prog 171 #[.pointer (some ⟨p, 0, none⟩)] w fun e w' => e = .returned (B32 s) ∧ w = w' := by
  have hc := h.cell
  have hr : (callFunc 179 #[.pointer (some ⟨p, 0, none⟩)]).run Tryz.prog w = .ok (.value (.int .u32 s.toNat)) w :=
    run_call_load (P := Tryz.prog) Tryz.func179 (by kernel_rfl) (by kernel_rfl) (by kernel_rfl) .u32 (by kernel_rfl) hc
  clear hc h
  go_enter Tryz.func171, Tryz.ntmps171
  go_wp2
  go_ret
  exact ⟨rfl, rfl⟩

set_option maxRecDepth 100000 in
theorem store_calls {w : World} {p : Nat} {s : UInt32} (h : SrcAt w p s) (t : UInt32) :
    Calls Tryz.prog 162 #[.pointer (some ⟨p, 0, none⟩), B32 t] w (SrcPost w p t (.tuple #[])) := by
  have hc := h.cell
  have hz := h.frz
  have hr : (callFunc 187 #[.pointer (some ⟨p, 0, none⟩), .int .u32 t.toNat]).run Tryz.prog w = .ok (.value (.tuple #[])) (w.setCell ⟨p, 0, none⟩ (.int .u32 t.toNat)) :=
    run_call_store (P := Tryz.prog) Tryz.func187 (by kernel_rfl) (by kernel_rfl) (by kernel_rfl) (by kernel_rfl) hc hz
  clear hc hz
  go_enter Tryz.func162, Tryz.ntmps162
  go_wp2
  go_end0
  exact ⟨rfl, h.set t, (Keeps.refl _ _).setCell (by simp) _⟩

theorem step1_int (x : UInt32) : bits .xor .u32 (x.toNat : Int) ((x.toNat : Int) * (8192 : Int) % (4294967296 : Int)) = ((x ^^^ (x <<< 13)).toNat : Int) := by rw [shl13, xor32]
theorem step2_int (x : UInt32) : bits .xor .u32 (x.toNat : Int) ((x.toNat : Int) / (131072 : Int)) = ((x ^^^ (x >>> 17)).toNat : Int) := by rw [shr17, xor32]
theorem step3_int (x : UInt32) : bits .xor .u32 (x.toNat : Int) ((x.toNat : Int) * (32 : Int) % (4294967296 : Int)) = ((x ^^^ (x <<< 5)).toNat : Int) := by rw [shl5, xor32]

theorem rstep_wake (s : UInt32) : rstep s = (fun b : UInt32 => b ^^^ (b <<< 5)) ((fun a : UInt32 => a ^^^ (a >>> 17)) (wake s ^^^ (wake s <<< 13))) := rfl

set_option maxRecDepth 100000 in
set_option maxHeartbeats 1000000 in
theorem next_calls {w : World} {p : Nat} {s : UInt32} (h : SrcAt w p s) :
    Calls Tryz.prog 128 #[.pointer (some ⟨p, 0, none⟩)] w (SrcPost w p (rstep s) (B32 (rnext s))) := by
  have hst := Lib.hid (rstep_wake s)
  go_enter Tryz.func128, Tryz.ntmps128
  go_wp2_with fail
  refine (cas_calls h).mono ?_
  rintro e w1 ⟨rfl, h1, hk1⟩
  go_wp2_with fail
  refine (load_calls h1).mono ?_
  rintro e w' ⟨rfl, rfl⟩
  generalize wake s = x at *
  go_wp2_with fail
  rw [step1_int, step2_int, step3_int]
  have hy : rstep s = ((x ^^^ x <<< 13) ^^^ ((x ^^^ x <<< 13) >>> 17)) ^^^ (((x ^^^ x <<< 13) ^^^ ((x ^^^ x <<< 13) >>> 17)) <<< 5) := hst.out
  clear hst
  generalize ((x ^^^ x <<< 13) ^^^ ((x ^^^ x <<< 13) >>> 17)) ^^^ (((x ^^^ x <<< 13) ^^^ ((x ^^^ x <<< 13) >>> 17)) <<< 5) = y at *
  have Hy := Lib.hid hy
  clear hy
  refine (store_calls h1 y).mono ?_
  rintro e w2 ⟨rfl, h2, hk2⟩
  go_wp2_with fail
  refine (rmix_calls _).mono ?_
  rintro e w' ⟨rfl, rfl⟩
  go_wp2_with fail
  go_ret
  unfold SrcPost rnext
  rw [Hy.out]
  exact ⟨rfl, h2, hk1.trans hk2⟩

theorem seed_int (m b : UInt32) : ((m.toNat : Int) + (b.toNat : Int) * (2654435769 : Int) % (4294967296 : Int)) % (4294967296 : Int) = ((m + b * 2654435769).toNat : Int) := by
  rw [UInt32.toNat_add, UInt32.toNat_mul]
  show _ = (((m.toNat + b.toNat * 2654435769 % 4294967296) % 4294967296 : Nat) : Int)
  omega
theorem succ_int (m : UInt32) : ((m.toNat : Int) + 1) % (4294967296 : Int) = ((m + 1).toNat : Int) := by
  rw [UInt32.toNat_add]
  show _ = (((m.toNat + 1) % 4294967296 : Nat) : Int)
  omega

theorem seed_wrap (m b : UInt32) : IntKind.u32.wrap (IntKind.u32.wrap ((m.toNat : Int) + IntKind.u32.wrap ((b.toNat : Int) * 2654435769)) + 1) = ((m + b * 2654435769 + 1).toNat : Int) := by
  rw [IntKind.wrap_u32', IntKind.wrap_u32', IntKind.wrap_u32']
  have h1 := seed_int m b
  have h2 := succ_int (m + b * 2654435769)
  rw [← h1] at h2
  exact h2

theorem seed_flat (m b : UInt32) : ((m.toNat : Int) + (b.toNat : Int) * 2654435769 + 1) % 4294967296 = ((m + b * 2654435769 + 1).toNat : Int) := by
  have h1 := seed_int m b
  have h2 := succ_int (m + b * 2654435769)
  rw [← h1] at h2
  rw [← h2]
  show ((m.toNat : Int) + (b.toNat : Int) * (2654435769 : Int) + (1 : Int)) % (4294967296 : Int) = _
  omega

def SrcNew (w : World) (s : UInt32) (e : Ending) (w' : World) : Prop := ∃ p, e = .returned (.pointer (some ⟨p, 0, none⟩)) ∧ w.heap.size ≤ p ∧ SrcAt w' p s ∧ Keeps [] w w'

set_option maxRecDepth 100000 in
set_option maxHeartbeats 1000000 in
theorem randnew_calls {w : World} (a b : UInt32) : Calls Tryz.prog 124 #[B32 a, B32 b] w (SrcNew w (rseed a b)) := by
  have hS : SrcAt (w.alloc (.cells #[.int .u32 0] 225)).drew w.heap.size 0 := Blk.newA w 225 #[.int .u32 0]
  have hsd : rseed a b = mixU a + b * 2654435769 + 1 := rfl
  have hM := rmix_calls (w := (w.alloc (.cells #[.int .u32 0] 225)).drew) a
  generalize mixU a = m at *
  have Hsd := Lib.hid hsd
  have HS := Lib.hid hS
  have HM := Lib.hid hM
  clear hsd hM hS
  go_enter Tryz.func124, Tryz.ntmps124
  go_wp2_with fail
  go_region_with (first | (go_at_call 163; (refine HM.out.mono ?_); rintro e w' ⟨rfl, rfl⟩) | (go_at_call 162; rw [seed_wrap]; generalize m + b * 2654435769 + 1 = sd at *; (refine (store_calls HS.out sd).mono ?_); rintro e w2 ⟨rfl, h2, hk2⟩))
  go_wp2_with fail
  go_ret
  refine ⟨_, rfl, Nat.le_refl _, by rw [Hsd.out]; exact h2, ((Keeps.refl [] w).alloc _).drew.trans' hk2 (by simp) (by simp)⟩

set_option maxRecDepth 100000 in
set_option maxHeartbeats 1000000 in
theorem below_calls {w : World} {p : Nat} {s : UInt32} (h : SrcAt w p s) (n : Int) (hn : (Lit.int .i64 n).wf = true) :
    Calls Tryz.prog 164 #[.pointer (some ⟨p, 0, none⟩), .int .i64 n] w (SrcPost w p (rbelow s n).2 (.int .i64 (rbelow s n).1)) := by
  by_cases h1 : n < 1
  · have e : rbelow s n = (0, s) := by unfold rbelow; rw [if_pos (.inl h1)]
    rw [e]
    go_enter Tryz.func164, Tryz.ntmps164
    go_wp2_with fail
    go_ret
    exact ⟨rfl, h, Keeps.refl _ _⟩
  by_cases h2 : 2147483648 < n
  · have e : rbelow s n = (0, s) := by unfold rbelow; rw [if_pos (.inr h2)]
    rw [e]
    go_enter Tryz.func164, Tryz.ntmps164
    go_wp2_with fail
    go_ret
    exact ⟨rfl, h, Keeps.refl _ _⟩
  have e : rbelow s n = (((rlow s n.toNat : Nat) : Int), rstep s) := by unfold rbelow; rw [if_neg (by omega)]
  rw [e]
  obtain ⟨m, rfl⟩ : ∃ m : Nat, n = m := ⟨n.toNat, by omega⟩
  have hl : rlow s m = (rnext s).toNat * m / 4294967296 := rfl
  have hv := (rnext s).toNat_lt
  have hN := next_calls h
  rw [show ((m : Int)).toNat = m from by omega, hl]
  clear e hl h
  generalize rnext s = v at *
  have hb : v.toNat * m ≤ 4294967296 * 2147483648 := Nat.mul_le_mul (by omega) (by omega)
  have hb1 := Int.ofNat_le.2 hb
  rw [Int.natCast_mul] at hb1
  have hb2 : (v.toNat : Int) * (m : Int) ≤ 9223372036854775808 := by omega
  have hb0 : (0 : Int) ≤ (v.toNat : Int) * (m : Int) := Int.mul_nonneg (by omega) (by omega)
  clear hb hb1
  go_enter Tryz.func164, Tryz.ntmps164
  go_wp2_with fail
  refine hN.mono ?_
  rintro e w1 ⟨rfl, h1', hk1⟩
  go_wp2_with fail
  go_ret
  refine ⟨?_, h1', hk1⟩
  show Ending.returned (.int .i64 ((v.toNat : Int) * (m : Int) / 4294967296)) = .returned (.int .i64 ((v.toNat * m / 4294967296 : Nat) : Int))
  rw [Int.natCast_ediv, Int.natCast_mul]
  rfl

theorem nextNil_calls {w : World} : Calls Tryz.prog 128 #[.pointer none] w fun e w' => e = .returned (.int .u32 0) ∧ w = w' := by
  go_enter Tryz.func128, Tryz.ntmps128
  go_wp2_with fail
  go_ret
  exact ⟨rfl, rfl⟩
theorem belowNil_calls {w : World} (n : Int) : Calls Tryz.prog 164 #[.pointer none, .int .i64 n] w fun e w' => e = .returned (.int .i64 0) ∧ w = w' := by
  go_enter Tryz.func164, Tryz.ntmps164
  go_wp2_with fail
  go_ret
  exact ⟨rfl, rfl⟩

/-! The reference's source: the same numbers. -/

end Go.Proofs.YtijhaeapoapgfaaGreatDoor
