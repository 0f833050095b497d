/-
  GrRand: the texts Rand, Crc, RefC, RShaT, Sha3, one behind another.
-/
import Derived.Test.YtijhaeapoapgfaaGreatDoorGrBase
import Derived.Test.YtijhaeapoapgfaaGreatDoorRows
import Derived.BigQuiet
import Derived.Deep.QuietTactic
import Derived.Deep.RegionWith
import Derived.Deep.DrawnRows
import Derived.Deep.DeepMust
import Derived.Test.YtijhaeapoapgfaaGreatDoorGrBytes
set_option linter.unusedVariables false
set_option linter.unusedSimpArgs false
namespace Go.Proofs.YtijhaeapoapgfaaGreatDoor
open Go.RowKit
attribute [local go_sem ↓] Go.wp_at_zero Go.wp_at_succ

abbrev B32 (x : UInt32) : Value := .int .u32 x.toNat

theorem xor32 (a b : UInt32) : bits .xor .u32 (a.toNat : Int) (b.toNat : Int) = ((a ^^^ b).toNat : Int) := by
  rw [u32_xor_nat _ _ a.toNat_lt b.toNat_lt, UInt32.toNat_xor]
theorem shr16 (x : UInt32) : (x.toNat : Int) / (65536 : Int) = ((x >>> 16).toNat : Int) := by
  rw [UInt32.toNat_shiftRight]
  show _ = ((x.toNat >>> 16 : Nat) : Int)
  rw [Nat.shiftRight_eq_div_pow]; omega
theorem shr15 (x : UInt32) : (x.toNat : Int) / (32768 : Int) = ((x >>> 15).toNat : Int) := by
  rw [UInt32.toNat_shiftRight]
  show _ = ((x.toNat >>> 15 : Nat) : Int)
  rw [Nat.shiftRight_eq_div_pow]; omega
theorem shr17 (x : UInt32) : (x.toNat : Int) / (131072 : Int) = ((x >>> 17).toNat : Int) := by
  rw [UInt32.toNat_shiftRight]
  show _ = ((x.toNat >>> 17 : Nat) : Int)
  rw [Nat.shiftRight_eq_div_pow]; omega
theorem shl13 (x : UInt32) : (x.toNat : Int) * (8192 : Int) % (4294967296 : Int) = ((x <<< 13).toNat : Int) := by
  rw [UInt32.toNat_shiftLeft]
  show _ = ((x.toNat <<< 13 % 4294967296 : Nat) : Int)
  rw [Nat.shiftLeft_eq]; omega
theorem shl5 (x : UInt32) : (x.toNat : Int) * (32 : Int) % (4294967296 : Int) = ((x <<< 5).toNat : Int) := by
  rw [UInt32.toNat_shiftLeft]
  show _ = ((x.toNat <<< 5 % 4294967296 : Nat) : Int)
  rw [Nat.shiftLeft_eq]; omega
theorem mulA (x : UInt32) : (x.toNat : Int) * (2146121005 : Int) % (4294967296 : Int) = ((x * 2146121005).toNat : Int) := by
  rw [UInt32.toNat_mul]
  show _ = ((x.toNat * 2146121005 % 4294967296 : Nat) : Int)
  omega
theorem mulB (x : UInt32) : (x.toNat : Int) * (2221713035 : Int) % (4294967296 : Int) = ((x * 2221713035).toNat : Int) := by
  rw [UInt32.toNat_mul]
  show _ = ((x.toNat * 2221713035 % 4294967296 : Nat) : Int)
  omega

theorem mix_int (x : UInt32) : bits .xor .u32 ((bits .xor .u32 (bits .xor .u32 (x.toNat : Int) ((x.toNat : Int) / (65536 : Int)) * (2146121005 : Int) % (4294967296 : Int)) (bits .xor .u32 (x.toNat : Int) ((x.toNat : Int) / (65536 : Int)) * (2146121005 : Int) % (4294967296 : Int) / (32768 : Int))) * (2221713035 : Int) % (4294967296 : Int)) ((bits .xor .u32 (bits .xor .u32 (x.toNat : Int) ((x.toNat : Int) / (65536 : Int)) * (2146121005 : Int) % (4294967296 : Int)) (bits .xor .u32 (x.toNat : Int) ((x.toNat : Int) / (65536 : Int)) * (2146121005 : Int) % (4294967296 : Int) / (32768 : Int))) * (2221713035 : Int) % (4294967296 : Int) / (65536 : Int)) = ((mixU x).toNat : Int) := by
  rw [shr16, xor32, mulA, shr15, xor32, mulB, shr16, xor32]
  rfl

set_option maxRecDepth 100000 in
theorem rmix_calls {w : World} (x : UInt32) : Calls Tryz.prog 163 #[B32 x] w fun e w' => e = .returned (B32 (mixU x)) ∧ w = w' := by
  have hx := x.toNat_lt
  go_enter Tryz.func163, Tryz.ntmps163
  go_wp2_with fail
  go_ret
  exact ⟨congrArg (fun z => Ending.returned (.int .u32 z)) (mix_int x), rfl⟩

def SrcAt (w : World) (p : Nat) (s : UInt32) : Prop := Blk w p 225 [B32 s]
def SrcPost (w : World) (p : Nat) (s : UInt32) (v : Value) (e : Ending) (w' : World) : Prop := e = .returned v ∧ SrcAt w' p s ∧ Keeps [p] w w'

theorem SrcAt.cell {w : World} {p : Nat} {s : UInt32} (h : SrcAt w p s) : w.cell? ⟨p, 0, none⟩ = some (B32 s) := Blk.cell' h (i := 0) rfl
theorem SrcAt.frz {w : World} {p : Nat} {s : UInt32} (h : SrcAt w p s) : w.frozen? ⟨p, 0, none⟩ = false := Blk.frozen h 0
theorem SrcAt.keeps {S : List Nat} {w w' : World} {p : Nat} {s : UInt32} (h : SrcAt w p s) (k : Keeps S w w') (hp : p ∉ S) : SrcAt w' p s := Blk.keeps h k hp
theorem SrcAt.set {w : World} {p : Nat} {s : UInt32} (h : SrcAt w p s) (t : UInt32) : SrcAt (w.setCell ⟨p, 0, none⟩ (B32 t)) p t := Blk.set h 0 (B32 t)
theorem SrcAt.ltp {w : World} {p : Nat} {s : UInt32} (h : SrcAt w p s) : p < w.heap.size := Blk.lt h

def wake (s : UInt32) : UInt32 := if s = 0 then 1 else s

set_option maxRecDepth 100000 in
theorem cas_calls {w : World} {p : Nat} {s : UInt32} (h : SrcAt w p s) :
    Calls Tryz.prog 170 #[.pointer (some ⟨p, 0, none⟩), .int .u32 0, .int .u32 1] w (SrcPost w p (wake s) (.bool (s == 0))) := by
  have hc := h.cell
  have hz := h.frz
  by_cases h0 : s = 0
  · subst h0
    have hr : (callFunc 191 #[.pointer (some ⟨p, 0, none⟩), .int .u32 0, .int .u32 1]).run Tryz.prog w = .ok (.value (.bool true)) (w.setCell ⟨p, 0, none⟩ (.int .u32 1)) :=
      run_call_cas_hit (P := Tryz.prog) Tryz.func191 (by kernel_rfl) (by kernel_rfl) (by kernel_rfl) .u32 (by kernel_rfl) hc hz
    clear hc hz
    go_enter Tryz.func170, Tryz.ntmps170
    go_wp2
    go_ret
    exact ⟨rfl, h.set 1, (Keeps.refl _ _).setCell (by simp) _⟩
  · have hn : ¬ ((s.toNat : Int) = 0) := fun e => h0 (UInt32.toNat_inj.1 (by show s.toNat = 0; omega))
    have hr : (callFunc 191 #[.pointer (some ⟨p, 0, none⟩), .int .u32 0, .int .u32 1]).run Tryz.prog w = .ok (.value (.bool false)) w :=
      run_call_cas_miss (P := Tryz.prog) Tryz.func191 (by kernel_rfl) (by kernel_rfl) (by kernel_rfl) .u32 (by kernel_rfl) hc hz hn
    clear hc hz hn
    go_enter Tryz.func170, Tryz.ntmps170
    go_wp2
    go_ret
    exact ⟨by simp [h0], by unfold wake; rw [if_neg h0]; exact h, Keeps.refl _ _⟩

set_option maxRecDepth 100000 in
theorem load_calls {w : World} {p : Nat} {s : UInt32} (h : SrcAt w p s) :
    Calls Tryz.prog 171 #[.pointer (some ⟨p, 0, none⟩)] w fun e w' => e = .returned (B32 s) ∧ w = w' := by
  have hc := h.cell
  have hr : (callFunc 179 #[.pointer (some ⟨p, 0, none⟩)]).run Tryz.prog w = .ok (.value (.int .u32 s.toNat)) w :=
    run_call_load (P := Tryz.prog) Tryz.func179 (by kernel_rfl) (by kernel_rfl) (by kernel_rfl) .u32 (by kernel_rfl) hc
  clear hc h
  go_enter Tryz.func171, Tryz.ntmps171
  go_wp2
  go_ret
  exact ⟨rfl, rfl⟩

set_option maxRecDepth 100000 in
theorem store_calls {w : World} {p : Nat} {s : UInt32} (h : SrcAt w p s) (t : UInt32) :
    Calls Tryz.prog 162 #[.pointer (some ⟨p, 0, none⟩), B32 t] w (SrcPost w p t (.tuple #[])) := by
  have hc := h.cell
  have hz := h.frz
  have hr : (callFunc 187 #[.pointer (some ⟨p, 0, none⟩), .int .u32 t.toNat]).run Tryz.prog w = .ok (.value (.tuple #[])) (w.setCell ⟨p, 0, none⟩ (.int .u32 t.toNat)) :=
    run_call_store (P := Tryz.prog) Tryz.func187 (by kernel_rfl) (by kernel_rfl) (by kernel_rfl) (by kernel_rfl) hc hz
  clear hc hz
  go_enter Tryz.func162, Tryz.ntmps162
  go_wp2
  go_end0
  exact ⟨rfl, h.set t, (Keeps.refl _ _).setCell (by simp) _⟩

theorem step1_int (x : UInt32) : bits .xor .u32 (x.toNat : Int) ((x.toNat : Int) * (8192 : Int) % (4294967296 : Int)) = ((x ^^^ (x <<< 13)).toNat : Int) := by rw [shl13, xor32]
theorem step2_int (x : UInt32) : bits .xor .u32 (x.toNat : Int) ((x.toNat : Int) / (131072 : Int)) = ((x ^^^ (x >>> 17)).toNat : Int) := by rw [shr17, xor32]
theorem step3_int (x : UInt32) : bits .xor .u32 (x.toNat : Int) ((x.toNat : Int) * (32 : Int) % (4294967296 : Int)) = ((x ^^^ (x <<< 5)).toNat : Int) := by rw [shl5, xor32]

theorem rstep_wake (s : UInt32) : rstep s = (fun b : UInt32 => b ^^^ (b <<< 5)) ((fun a : UInt32 => a ^^^ (a >>> 17)) (wake s ^^^ (wake s <<< 13))) := rfl

set_option maxRecDepth 100000 in
set_option maxHeartbeats 1000000 in
theorem next_calls {w : World} {p : Nat} {s : UInt32} (h : SrcAt w p s) :
    Calls Tryz.prog 128 #[.pointer (some ⟨p, 0, none⟩)] w (SrcPost w p (rstep s) (B32 (rnext s))) := by
  have hst := Lib.hid (rstep_wake s)
  go_enter Tryz.func128, Tryz.ntmps128
  go_wp2_with fail
  refine (cas_calls h).mono ?_
  rintro e w1 ⟨rfl, h1, hk1⟩
  go_wp2_with fail
  refine (load_calls h1).mono ?_
  rintro e w' ⟨rfl, rfl⟩
  generalize wake s = x at *
  go_wp2_with fail
  rw [step1_int, step2_int, step3_int]
  have hy : rstep s = ((x ^^^ x <<< 13) ^^^ ((x ^^^ x <<< 13) >>> 17)) ^^^ (((x ^^^ x <<< 13) ^^^ ((x ^^^ x <<< 13) >>> 17)) <<< 5) := hst.out
  clear hst
  generalize ((x ^^^ x <<< 13) ^^^ ((x ^^^ x <<< 13) >>> 17)) ^^^ (((x ^^^ x <<< 13) ^^^ ((x ^^^ x <<< 13) >>> 17)) <<< 5) = y at *
  have Hy := Lib.hid hy
  clear hy
  refine (store_calls h1 y).mono ?_
  rintro e w2 ⟨rfl, h2, hk2⟩
  go_wp2_with fail
  refine (rmix_calls _).mono ?_
  rintro e w' ⟨rfl, rfl⟩
  go_wp2_with fail
  go_ret
  unfold SrcPost rnext
  rw [Hy.out]
  exact ⟨rfl, h2, hk1.trans hk2⟩

theorem seed_int (m b : UInt32) : ((m.toNat : Int) + (b.toNat : Int) * (2654435769 : Int) % (4294967296 : Int)) % (4294967296 : Int) = ((m + b * 2654435769).toNat : Int) := by
  rw [UInt32.toNat_add, UInt32.toNat_mul]
  show _ = (((m.toNat + b.toNat * 2654435769 % 4294967296) % 4294967296 : Nat) : Int)
  omega
theorem succ_int (m : UInt32) : ((m.toNat : Int) + 1) % (4294967296 : Int) = ((m + 1).toNat : Int) := by
  rw [UInt32.toNat_add]
  show _ = (((m.toNat + 1) % 4294967296 : Nat) : Int)
  omega

theorem seed_wrap (m b : UInt32) : IntKind.u32.wrap (IntKind.u32.wrap ((m.toNat : Int) + IntKind.u32.wrap ((b.toNat : Int) * 2654435769)) + 1) = ((m + b * 2654435769 + 1).toNat : Int) := by
  rw [IntKind.wrap_u32', IntKind.wrap_u32', IntKind.wrap_u32']
  have h1 := seed_int m b
  have h2 := succ_int (m + b * 2654435769)
  rw [← h1] at h2
  exact h2

theorem seed_flat (m b : UInt32) : ((m.toNat : Int) + (b.toNat : Int) * 2654435769 + 1) % 4294967296 = ((m + b * 2654435769 + 1).toNat : Int) := by
  have h1 := seed_int m b
  have h2 := succ_int (m + b * 2654435769)
  rw [← h1] at h2
  rw [← h2]
  show ((m.toNat : Int) + (b.toNat : Int) * (2654435769 : Int) + (1 : Int)) % (4294967296 : Int) = _
  omega

def SrcNew (w : World) (s : UInt32) (e : Ending) (w' : World) : Prop := ∃ p, e = .returned (.pointer (some ⟨p, 0, none⟩)) ∧ w.heap.size ≤ p ∧ SrcAt w' p s ∧ Keeps [] w w'

set_option maxRecDepth 100000 in
set_option maxHeartbeats 1000000 in
theorem randnew_calls {w : World} (a b : UInt32) : Calls Tryz.prog 124 #[B32 a, B32 b] w (SrcNew w (rseed a b)) := by
  have hS : SrcAt (w.alloc (.cells #[.int .u32 0] 225)).drew w.heap.size 0 := Blk.newA w 225 #[.int .u32 0]
  have hsd : rseed a b = mixU a + b * 2654435769 + 1 := rfl
  have hM := rmix_calls (w := (w.alloc (.cells #[.int .u32 0] 225)).drew) a
  generalize mixU a = m at *
  have Hsd := Lib.hid hsd
  have HS := Lib.hid hS
  have HM := Lib.hid hM
  clear hsd hM hS
  go_enter Tryz.func124, Tryz.ntmps124
  go_wp2_with fail
  go_region_with (first | (go_at_call 163; (refine HM.out.mono ?_); rintro e w' ⟨rfl, rfl⟩) | (go_at_call 162; rw [seed_wrap]; generalize m + b * 2654435769 + 1 = sd at *; (refine (store_calls HS.out sd).mono ?_); rintro e w2 ⟨rfl, h2, hk2⟩))
  go_wp2_with fail
  go_ret
  refine ⟨_, rfl, Nat.le_refl _, by rw [Hsd.out]; exact h2, ((Keeps.refl [] w).alloc _).drew.trans' hk2 (by simp) (by simp)⟩

set_option maxRecDepth 100000 in
set_option maxHeartbeats 1000000 in
theorem below_calls {w : World} {p : Nat} {s : UInt32} (h : SrcAt w p s) (n : Int) (hn : (Lit.int .i64 n).wf = true) :
    Calls Tryz.prog 164 #[.pointer (some ⟨p, 0, none⟩), .int .i64 n] w (SrcPost w p (rbelow s n).2 (.int .i64 (rbelow s n).1)) := by
  by_cases h1 : n < 1
  · have e : rbelow s n = (0, s) := by unfold rbelow; rw [if_pos (.inl h1)]
    rw [e]
    go_enter Tryz.func164, Tryz.ntmps164
    go_wp2_with fail
    go_ret
    exact ⟨rfl, h, Keeps.refl _ _⟩
  by_cases h2 : 2147483648 < n
  · have e : rbelow s n = (0, s) := by unfold rbelow; rw [if_pos (.inr h2)]
    rw [e]
    go_enter Tryz.func164, Tryz.ntmps164
    go_wp2_with fail
    go_ret
    exact ⟨rfl, h, Keeps.refl _ _⟩
  have e : rbelow s n = (((rlow s n.toNat : Nat) : Int), rstep s) := by unfold rbelow; rw [if_neg (by omega)]
  rw [e]
  obtain ⟨m, rfl⟩ : ∃ m : Nat, n = m := ⟨n.toNat, by omega⟩
  have hl : rlow s m = (rnext s).toNat * m / 4294967296 := rfl
  have hv := (rnext s).toNat_lt
  have hN := next_calls h
  rw [show ((m : Int)).toNat = m from by omega, hl]
  clear e hl h
  generalize rnext s = v at *
  have hb : v.toNat * m ≤ 4294967296 * 2147483648 := Nat.mul_le_mul (by omega) (by omega)
  have hb1 := Int.ofNat_le.2 hb
  rw [Int.natCast_mul] at hb1
  have hb2 : (v.toNat : Int) * (m : Int) ≤ 9223372036854775808 := by omega
  have hb0 : (0 : Int) ≤ (v.toNat : Int) * (m : Int) := Int.mul_nonneg (by omega) (by omega)
  clear hb hb1
  go_enter Tryz.func164, Tryz.ntmps164
  go_wp2_with fail
  refine hN.mono ?_
  rintro e w1 ⟨rfl, h1', hk1⟩
  go_wp2_with fail
  go_ret
  refine ⟨?_, h1', hk1⟩
  show Ending.returned (.int .i64 ((v.toNat : Int) * (m : Int) / 4294967296)) = .returned (.int .i64 ((v.toNat * m / 4294967296 : Nat) : Int))
  rw [Int.natCast_ediv, Int.natCast_mul]
  rfl

/-! The reference's source: the same numbers. -/

end Go.Proofs.YtijhaeapoapgfaaGreatDoor

set_option linter.unusedSimpArgs false
set_option linter.unusedVariables false
namespace Go.Proofs.YtijhaeapoapgfaaGreatDoor
open Go.RowKit
attribute [local go_sem ↓] Go.wp_at_zero Go.wp_at_succ

theorem and32 (a b : UInt32) : bits .and .u32 (a.toNat : Int) (b.toNat : Int) = ((a &&& b).toNat : Int) := by
  rw [u32_and_nat _ _ a.toNat_lt b.toNat_lt, UInt32.toNat_and]
theorem or32 (a b : UInt32) : bits .or .u32 (a.toNat : Int) (b.toNat : Int) = ((a ||| b).toNat : Int) := by
  rw [u32_or_nat _ _ a.toNat_lt b.toNat_lt, UInt32.toNat_or]
theorem not32 (a : UInt32) : bits .xor .u32 IntKind.u32.max (a.toNat : Int) = ((~~~ a).toNat : Int) := by
  have h : IntKind.u32.max = ((4294967295 : UInt32).toNat : Int) := by decide
  rw [h, xor32]
  congr 2
theorem byte32 (x : UInt8) : (x.toNat : Int) % 4294967296 = ((x.toUInt32).toNat : Int) := by
  rw [UInt8.toNat_toUInt32]
  have := x.toNat_lt
  omega
theorem crcBit_int (z : UInt32) : bits .xor .u32 ((z.toNat : Int) / 2) (3988292384 * bits .and .u32 (z.toNat : Int) 1 % 4294967296) = ((crcBit z).toNat : Int) := by
  have h1 : bits .and .u32 (z.toNat : Int) 1 = ((z &&& 1).toNat : Int) := and32 z 1
  have h2 : (3988292384 * ((z &&& 1).toNat : Int)) % 4294967296 = ((3988292384 * (z &&& 1) : UInt32).toNat : Int) := by
    rw [UInt32.toNat_mul]
    show _ = (((3988292384 * (z &&& 1).toNat) % 4294967296 : Nat) : Int)
    omega
  have h3 : (z.toNat : Int) / (2 : Int) = ((z >>> 1).toNat : Int) := by
    rw [UInt32.toNat_shiftRight]
    show _ = ((z.toNat >>> 1 : Nat) : Int)
    rw [Nat.shiftRight_eq_div_pow]
    omega
  rw [h1, h2, h3, xor32]
  rfl

set_option maxRecDepth 100000 in
set_option maxHeartbeats 1000000 in
theorem crcadd_calls {w : World} (s : UInt32) (a : Option Addr) (n c : Nat) (l : List UInt8) (hl : Rd w a l) (hn : l.length = n) (hm : n ≤ 140737488351232) :
    Calls Tryz.prog 178 #[B32 s, .slice a n c] w fun e w' => e = .returned (B32 (crcAdd s l)) ∧ w = w' := by
  subst hn
  go_enter Tryz.func178, Tryz.ntmps178
  go_wp2_with fail
  go_loop [13, 5] (fun i v => ∃ k : Nat, k ≤ l.length ∧ i = .int .i64 k ∧ ∃ y : UInt32, v = B32 y ∧ crcFold y (l.drop k) = crcFold (~~~ s) l) (fun i _ => l.length - (intOf i).toNat)
  case atStart => exact ⟨0, Nat.zero_le _, rfl, ~~~ s, by rw [not32], by simp⟩
  case round =>
    obtain ⟨k, hk, rfl, y, rfl, hy⟩ := hrel
    by_cases hlt : k < l.length
    · obtain ⟨b0, o0, rfl, hc0⟩ := hl k l[k] (by simp [hlt])
      rw [List.drop_eq_getElem_cons hlt] at hy
      generalize l[k] = x at hc0 hy
      have hy' : crcFold (crcBits 8 (y ^^^ x.toUInt32)) (l.drop (k + 1)) = crcFold (~~~ s) l := hy
      have Hy := Lib.hid hy'
      clear hy hy' hl
      go_wp2_with fail
      go_loop [21, 5] (fun i v => ∃ j : Nat, j ≤ 8 ∧ i = .int .i64 j ∧ ∃ z : UInt32, v = B32 z ∧ crcBits (8 - j) z = crcBits 8 (y ^^^ x.toUInt32)) (fun i _ => 8 - (intOf i).toNat)
      case atStart => exact ⟨0, Nat.zero_le _, rfl, y ^^^ x.toUInt32, by rw [byte32, xor32], rfl⟩
      case round =>
        obtain ⟨j, hj, rfl, z, rfl, hz⟩ := hrel
        by_cases hlt8 : j < 8
        · have Hz := Lib.hid hz
          clear hz
          go_wp2_with fail
          go_round
          case rel => exact ⟨j + 1, by omega, by go_num, crcBit z, by rw [crcBit_int], by rw [← Hz.out, show 8 - j = (8 - (j + 1)) + 1 from by omega]; rfl⟩
          case measure => simp [intOf]; omega
        · have : j = 8 := by omega
          subst this
          have Hz := Lib.hid hz
          clear hz
          go_wp2_with fail
          go_round
          case rel => exact ⟨k + 1, by omega, by go_num, z, rfl, by rw [← Hy.out, ← Hz.out]; rfl⟩
          case measure => simp [intOf]; omega
    · have hkl : k = l.length := by omega
      subst hkl
      rw [List.drop_length] at hy
      have Hy := Lib.hid hy
      clear hy hl
      go_wp2_with fail
      go_ret
      have hf : crcAdd s l = ~~~ y := by unfold crcAdd; rw [← Hy.out]; rfl
      have hx := not32 y
      refine ⟨?_, rfl⟩
      rw [hf]
      show Ending.returned (.int .u32 (bits BinOp.xor IntKind.u32 IntKind.u32.max ↑y.toNat)) = _
      rw [hx]

set_option maxRecDepth 100000 in
set_option maxHeartbeats 400000 in
theorem crcsum_calls {w : World} (a : Option Addr) (n c : Nat) (l : List UInt8) (hl : Rd w a l) (hn : l.length = n) (hm : n ≤ 140737488351232) :
    Calls Tryz.prog 145 #[.slice a n c] w fun e w' => e = .returned (B32 (crcSum l)) ∧ w = w' := by
  have hc : Calls Tryz.prog 178 #[.int .u32 0, .slice a n c] w fun e w' => e = .returned (B32 (crcSum l)) ∧ w = w' := crcadd_calls 0 a n c l hl hn hm
  clear hl
  go_enter Tryz.func145, Tryz.ntmps145
  go_wp2_with fail
  refine hc.mono ?_
  rintro e w' ⟨rfl, rfl⟩
  go_wp2_with fail
  go_ret
  exact ⟨rfl, rfl⟩

theorem Own.ne_lt {w : World} {B : Nat} {v : Value} {l : List UInt8} (h : Own w B v l) : ∀ y, v.ownBlock = some y → B ≤ y := by
  intro y hy
  rcases h.2 with ⟨rfl, _⟩ | ⟨g, cap, cur, rfl, hb, _⟩
  · simp [Value.ownBlock] at hy
  · simp [Value.ownBlock] at hy; omega

set_option maxRecDepth 100000 in
set_option maxHeartbeats 1000000 in
theorem crcput_calls {w : World} (a : Option Addr) (n c : Nat) (l : List UInt8) (hl : Rd w a l) (hn : l.length = n) (hm : n ≤ 70368744177664) (h0 : a = none → n = 0 ∧ c = 0) :
    Calls Tryz.prog 99 #[.slice a n c] w (ClonePost w (crcPut l)) := by
  subst hn
  go_enter Tryz.func99, Tryz.ntmps99
  go_wp2_with (at_builtin; (refine wpList_append_bytes rfl _ _ rfl (Own.nil w w.heap.size) rfl a l.length c rfl hl rfl h0 (by simp; omega) (Nat.le_refl _) ?_); intro v1 w1 hO1 hG1 hB1)
  have hK1 : Keeps [] w w1 := (Keeps.refl [] w).grown hG1 (by simp [Value.ownBlock])
  refine (crcsum_calls a l.length c l (hl.keepsNil hK1) rfl (by omega)).mono ?_
  rintro e w' ⟨rfl, rfl⟩
  go_wp2_with fail
  clear hl
  go_loopw [5, 3] (fun i v wr => ∃ j : Nat, j ≤ 4 ∧ i = .int .i64 (24 - 8 * (j : Int)) ∧ Own wr w.heap.size v (l ++ (be4 (crcSum l)).take j) ∧ Keeps [] w wr) (fun i _ _ => (intOf i + 8).toNat)
  case atStart => exact ⟨0, Nat.zero_le _, rfl, by simpa using hO1, hK1⟩
  case round =>
    obtain ⟨j, hj, rfl, hO, hK⟩ := hrel
    clear hO1 hG1 hB1 hK1
    have hs := hK.size
    generalize hsum : crcSum l = s at *
    have Hsum := Lib.hid hsum
    clear hsum
    match j, hj with
    | 0, _ =>
      go_wp2_with (at_builtin; (refine wpList_append_bytes rfl _ _ rfl (hO.keeps ((Keeps.refl [] wr).alloc _) (by simp)) rfl _ 1 1 rfl (Rd.lit wr _ _ [(s >>> 24).toUInt8] (B8_24 s)) rfl (by simp) (by simp [be4]; omega) (by simp; omega) ?_); intro v2 w2 hO2 hG2 hB2)
      go_roundw
      case rel => exact ⟨1, by omega, rfl, by simpa [be4] using hO2, (hK.alloc _).grown hG2 (fun y hy => .inr (hO.ne_lt y hy))⟩
      case measure => simp [intOf]
    | 1, _ =>
      go_wp2_with (at_builtin; (refine wpList_append_bytes rfl _ _ rfl (hO.keeps ((Keeps.refl [] wr).alloc _) (by simp)) rfl _ 1 1 rfl (Rd.lit wr _ _ [(s >>> 16).toUInt8] (B8_16 s)) rfl (by simp) (by simp [be4]; omega) (by simp; omega) ?_); intro v2 w2 hO2 hG2 hB2)
      go_roundw
      case rel => exact ⟨2, by omega, rfl, by simpa [be4] using hO2, (hK.alloc _).grown hG2 (fun y hy => .inr (hO.ne_lt y hy))⟩
      case measure => simp [intOf]
    | 2, _ =>
      go_wp2_with (at_builtin; (refine wpList_append_bytes rfl _ _ rfl (hO.keeps ((Keeps.refl [] wr).alloc _) (by simp)) rfl _ 1 1 rfl (Rd.lit wr _ _ [(s >>> 8).toUInt8] (B8_8 s)) rfl (by simp) (by simp [be4]; omega) (by simp; omega) ?_); intro v2 w2 hO2 hG2 hB2)
      go_roundw
      case rel => exact ⟨3, by omega, rfl, by simpa [be4] using hO2, (hK.alloc _).grown hG2 (fun y hy => .inr (hO.ne_lt y hy))⟩
      case measure => simp [intOf]
    | 3, _ =>
      go_wp2_with (at_builtin; (refine wpList_append_bytes rfl _ _ rfl (hO.keeps ((Keeps.refl [] wr).alloc _) (by simp)) rfl _ 1 1 rfl (Rd.lit wr _ _ [s.toUInt8] (B8_0 s)) rfl (by simp) (by simp [be4]; omega) (by simp; omega) ?_); intro v2 w2 hO2 hG2 hB2)
      go_roundw
      case rel => exact ⟨4, by omega, rfl, by simpa [be4] using hO2, (hK.alloc _).grown hG2 (fun y hy => .inr (hO.ne_lt y hy))⟩
      case measure => simp [intOf]
    | 4, _ =>
      go_wp2_with fail
      go_ret
      exact ⟨_, rfl, by unfold crcPut; rw [Hsum.out]; simpa [be4] using hO, hK⟩

end Go.Proofs.YtijhaeapoapgfaaGreatDoor

set_option linter.unusedVariables false
set_option linter.unusedSimpArgs false
namespace Go.Proofs.YtijhaeapoapgfaaGreatDoor
open Go.RowKit
attribute [local go_sem ↓] Go.wp_at_zero Go.wp_at_succ

theorem test_eq (y : UInt32) (x : UInt8) (j : Nat) : bits .xor .u32 (bits .and .u32 (y.toNat : Int) 1) (bits .and .u32 ((x.toNat : Int) / 2 ^ j % 4294967296) 1) = (((y &&& 1) ^^^ (sh j x.toUInt32 &&& 1)).toNat : Int) := by
  have h1 : (x.toNat : Int) / 2 ^ j % 4294967296 = ((sh j x.toUInt32).toNat : Int) := by
    rw [sh_toNat, UInt8.toNat_toUInt32]
    have hx : x.toNat / 2 ^ j ≤ x.toNat := Nat.div_le_self _ _
    have := x.toNat_lt
    have e : (x.toNat : Int) / 2 ^ j = ((x.toNat / 2 ^ j : Nat) : Int) := by
      rw [Int.natCast_ediv, Int.natCast_pow]; rfl
    rw [e]
    generalize x.toNat / 2 ^ j = q at *
    omega
  rw [h1]
  have h2 : bits .and .u32 (y.toNat : Int) 1 = ((y &&& 1).toNat : Int) := and32 y 1
  have h3 : bits .and .u32 ((sh j x.toUInt32).toNat : Int) 1 = ((sh j x.toUInt32 &&& 1).toNat : Int) := and32 _ 1
  rw [h2, h3, xor32]

theorem test_true {z : UInt32} {t : Int} (h : t = (z.toNat : Int)) (hz : z = 1) : (t == 1) = true := by rw [h, hz]; rfl
theorem test_false {z : UInt32} {t : Int} (h : t = (z.toNat : Int)) (hz : z ≠ 1) : (t == 1) = false := by
  rw [h, beq_eq_false_iff_ne]; intro e; exact hz (UInt32.toNat_inj.1 (by show z.toNat = 1; omega))

theorem half32 (y : UInt32) : (y.toNat : Int) / (2 : Int) = ((y >>> 1).toNat : Int) := by rw [shr1_toNat]; omega

set_option maxRecDepth 100000 in
set_option maxHeartbeats 1000000 in
theorem rcrc_calls {w : World} (a : Option Addr) (n c : Nat) (l : List UInt8) (hl : Rd w a l) (hn : l.length = n) (hm : n ≤ 140737488351232) :
    Calls Tryz.prog 86 #[.slice a n c] w fun e w' => e = .returned (B32 (crcSum l)) ∧ w = w' := by
  subst hn
  go_enter Tryz.func86, Tryz.ntmps86
  go_wp2_with fail
  go_loop [3, 10] (fun v i => ∃ k : Nat, k ≤ 8 * l.length ∧ i = .int .i64 k ∧ ∃ y : UInt32, v = B32 y ∧ y = bitSt l k) (fun _ i => 8 * l.length - (intOf i).toNat)
  case atStart => exact ⟨0, Nat.zero_le _, rfl, 4294967295, rfl, (bitSt_zero l).symm⟩
  case round =>
    obtain ⟨k, hk, rfl, y, rfl, hy⟩ := hrel
    by_cases hlt : k < 8 * l.length
    · have hq : k / 8 < l.length := by omega
      obtain ⟨b0, o0, rfl, hc0⟩ := hl (k / 8) l[k / 8] (by simp [hq])
      have hs := bitSt_succ l k hlt
      rw [← hy] at hs
      have hg : l.getD (k / 8) 0 = l[k / 8] := by rw [List.getD, List.getElem?_eq_getElem hq]; rfl
      rw [hg] at hs
      generalize l[k / 8] = x at *
      have HS := Lib.hid hs
      clear hs hy hg hl
      have ht := test_eq y x (k % 8)
      by_cases hz : (y &&& 1) ^^^ (sh (k % 8) x.toUInt32 &&& 1) = 1
      · have hb := test_true ht hz
        have HS2 := Lib.hid (show bitSt l (k + 1) = (y >>> 1) ^^^ 3988292384 from by rw [HS.out]; unfold bitStep; rw [if_pos hz])
        clear ht hz HS
        go_wp2_with fail
        go_round
        case rel => exact ⟨k + 1, by omega, by go_num, _, by rw [half32]; exact congrArg (Value.int .u32) (xor32 (y >>> 1) 3988292384), HS2.out.symm⟩
        case measure => simp [intOf]; omega
      · have hb := test_false ht hz
        have HS2 := Lib.hid (show bitSt l (k + 1) = y >>> 1 from by rw [HS.out]; unfold bitStep; rw [if_neg hz])
        clear ht hz HS
        go_wp2_with fail
        go_round
        case rel => exact ⟨k + 1, by omega, by go_num, _, by rw [half32], HS2.out.symm⟩
        case measure => simp [intOf]; omega
    · have : k = 8 * l.length := by omega
      subst this
      rw [bitSt_full, List.take_length] at hy
      have Hy := Lib.hid hy
      clear hy hl
      go_wp2_with fail
      go_ret
      have hx := not32 y
      refine ⟨?_, rfl⟩
      have hf : crcSum l = ~~~ y := by rw [Hy.out]; rfl
      rw [hf]
      show Ending.returned (.int .u32 (bits BinOp.xor IntKind.u32 IntKind.u32.max ↑y.toNat)) = _
      rw [hx]

theorem rfour_bytes (M : UInt32) (x0 x1 x2 x3 : Int) (h0 : x0 = (M.toNat : Int) / (16777216 : Int) % (256 : Int)) (h1 : x1 = (M.toNat : Int) / (65536 : Int) % (256 : Int)) (h2 : x2 = (M.toNat : Int) / (256 : Int) % (256 : Int)) (h3 : x3 = (M.toNat : Int) % (256 : Int)) :
    [Value.int .u8 x0, .int .u8 x1, .int .u8 x2, .int .u8 x3] = List.map B8 (be4 M) := by
  have g0 := be4_24 M
  have g1 := be4_16 M
  have g2 := be4_8 M
  have g3 := be4_0 M
  have e0 : x0 = (((M >>> 24).toUInt8).toNat : Int) := by rw [h0, ← g0]; rfl
  have e1 : x1 = (((M >>> 16).toUInt8).toNat : Int) := by rw [h1, ← g1]; rfl
  have e2 : x2 = (((M >>> 8).toUInt8).toNat : Int) := by rw [h2, ← g2]; rfl
  have e3 : x3 = ((M.toUInt8).toNat : Int) := by rw [h3, ← g3]
  rw [e0, e1, e2, e3]
  rfl

theorem Own.lit' (w : World) (c : Array Value) (l : List UInt8) (n : Nat) (hc : c.toList = l.map B8) (hn : l.length = n) (hm : n ≤ 1000000) :
    Own (w.alloc (.cells c 5)) w.heap.size (.slice (some ⟨w.heap.size, 0, none⟩) n n) l := by
  have hcs : c.size = n := by rw [← Array.length_toList, hc, List.length_map, hn]
  have hg : (w.alloc (.cells c 5)).heap[w.heap.size]? = some (.cells c 5 (0, 0)) := by
    show (w.heap.push _)[w.heap.size]? = _
    simp
  refine ⟨by simp, .inr ⟨w.heap.size, n, c, by rw [hn], Nat.le_refl _, hg, by omega, by unfold maxLen; omega, by omega, ?_⟩⟩
  rw [hc, List.take_of_length_le (by rw [List.length_map]; omega)]

set_option maxRecDepth 100000 in
theorem four_calls {w : World} (M : UInt32) : Calls Tryz.prog 43 #[B32 M] w (ClonePost w (be4 M)) := by
  have hM := M.toNat_lt
  go_enter Tryz.func43, Tryz.ntmps43
  go_wp2_with fail
  go_ret
  exact ⟨_, rfl, Own.lit' w _ (be4 M) 4 (rfour_bytes M _ _ _ _ (by omega) (by omega) (by omega) (by omega)) rfl (by omega), (Keeps.refl [] w).alloc _⟩

/-- The number of bytes, the greatest first. -/
def numFold (l : List UInt8) : UInt32 := l.foldl (fun n x => (n <<< 8) ||| x.toUInt32) 0

theorem shl8 (y : UInt32) : (y.toNat : Int) * (256 : Int) % (4294967296 : Int) = ((y <<< 8).toNat : Int) := by
  rw [UInt32.toNat_shiftLeft]
  show _ = ((y.toNat <<< 8 % 4294967296 : Nat) : Int)
  rw [Nat.shiftLeft_eq]; omega

theorem byte32' (x : UInt8) : (x.toNat : Int) % (4294967296 : Int) = ((x.toUInt32).toNat : Int) := byte32 x

set_option maxRecDepth 100000 in
set_option maxHeartbeats 1000000 in
theorem number_calls {w : World} (a : Option Addr) (n c : Nat) (l : List UInt8) (hl : Rd w a l) (hn : l.length = n) (hm : n ≤ 140737488351232) :
    Calls Tryz.prog 44 #[.slice a n c] w fun e w' => e = .returned (B32 (numFold l)) ∧ w = w' := by
  subst hn
  go_enter Tryz.func44, Tryz.ntmps44
  go_wp2_with fail
  go_loop [3, 8] (fun v i => ∃ k : Nat, k ≤ l.length ∧ i = .int .i64 k ∧ ∃ y : UInt32, v = B32 y ∧ y = numFold (l.take k)) (fun _ i => l.length - (intOf i).toNat)
  case atStart => exact ⟨0, Nat.zero_le _, rfl, 0, rfl, rfl⟩
  case round =>
    obtain ⟨k, hk, rfl, y, rfl, hy⟩ := hrel
    by_cases hlt : k < l.length
    · obtain ⟨b0, o0, rfl, hc0⟩ := hl k l[k] (by simp [hlt])
      have hs : numFold (l.take (k + 1)) = (y <<< 8) ||| l[k].toUInt32 := by
        rw [hy, List.take_add_one, List.getElem?_eq_getElem hlt, Option.toList_some]
        unfold numFold
        rw [List.foldl_append]; rfl
      generalize l[k] = x at *
      have HS := Lib.hid hs
      clear hs hy hl
      go_wp2_with fail
      go_round
      case rel => exact ⟨k + 1, by omega, by go_num, _, by rw [shl8, byte32']; exact congrArg (Value.int .u32) (or32 (y <<< 8) x.toUInt32), HS.out.symm⟩
      case measure => simp [intOf]; omega
    · have : k = l.length := by omega
      subst this
      rw [List.take_length] at hy
      have Hy := Lib.hid hy
      clear hy hl
      go_wp2_with fail
      go_ret
      exact ⟨by rw [← Hy.out]; rfl, rfl⟩

set_option maxRecDepth 100000 in
set_option maxHeartbeats 1000000 in
theorem rput_calls {w : World} (a : Option Addr) (n c : Nat) (l : List UInt8) (hl : Rd w a l) (hn : l.length = n) (hm : n ≤ 70368744177664) (h0 : a = none → n = 0 ∧ c = 0) :
    Calls Tryz.prog 52 #[.slice a n c] w (ClonePost w (crcPut l)) := by
  subst hn
  go_enter Tryz.func52, Tryz.ntmps52
  go_wp2_with (at_builtin; (refine wpList_append_bytes rfl _ _ rfl (Own.nil w w.heap.size) rfl a l.length c rfl hl rfl h0 (by simp; omega) (Nat.le_refl _) ?_); intro v1 w1 hO1 hG1 hB1)
  have hK1 : Keeps [] w w1 := (Keeps.refl [] w).grown hG1 (by simp [Value.ownBlock])
  refine (rcrc_calls a l.length c l (hl.keepsNil hK1) rfl (by omega)).mono ?_
  rintro e w' ⟨rfl, rfl⟩
  go_wp2_with fail
  refine (four_calls (crcSum l)).mono ?_
  rintro e w2 ⟨v2, rfl, hO2, hk2⟩
  obtain ⟨a2, c2, rfl, h1, h2, h3, h4, h5⟩ := hO2.sl
  have hO1' := hO1.keeps hk2 (by simp)
  have hs := hK1.size
  have hs2 := hk2.size
  go_wp2_with (at_builtin; (refine wpList_append_bytes rfl _ _ rfl hO1' rfl a2 4 c2 rfl h3 rfl (fun h => ⟨by have := (h4 h).1; simp [be4] at this, (h4 h).2⟩) (by simp; omega) (by omega) ?_); intro v3 w3 hO3 hG3 hB3)
  go_ret
  refine ⟨v3, rfl, by simpa [crcPut] using hO3, (hK1.trans hk2).grown hG3 (fun y hy => .inr (hO1.ne_lt y hy))⟩

end Go.Proofs.YtijhaeapoapgfaaGreatDoor

set_option linter.unusedVariables false
set_option linter.unusedSimpArgs false
namespace Go.Proofs.YtijhaeapoapgfaaGreatDoor
open Go.RowKit

theorem rturn_eq (n : Nat) (x : UInt32) : (x >>> UInt32.ofNat n) ||| (x <<< UInt32.ofNat (32 - n)) = rotr n x := UInt32.or_comm _ _

theorem ch_xor (e f g : UInt32) : (e &&& f) ^^^ (~~~ e &&& g) = (e &&& f) ||| (~~~ e &&& g) := by
  apply UInt32.toBitVec_inj.1
  simp only [UInt32.toBitVec_xor, UInt32.toBitVec_and, UInt32.toBitVec_or, UInt32.toBitVec_not]
  ext i hi
  simp only [BitVec.getElem_xor, BitVec.getElem_and, BitVec.getElem_or, BitVec.getElem_not]
  cases e.toBitVec[i] <;> cases f.toBitVec[i] <;> cases g.toBitVec[i] <;> rfl

theorem mj_xor (a b c : UInt32) : ((a &&& b) ^^^ (a &&& c)) ^^^ (b &&& c) = ((a &&& b) ||| (a &&& c)) ||| (b &&& c) := by
  apply UInt32.toBitVec_inj.1
  simp only [UInt32.toBitVec_xor, UInt32.toBitVec_and, UInt32.toBitVec_or]
  ext i hi
  simp only [BitVec.getElem_xor, BitVec.getElem_and, BitVec.getElem_or]
  cases a.toBitVec[i] <;> cases b.toBitVec[i] <;> cases c.toBitVec[i] <;> rfl

theorem wNew_ref (W : List UInt32) (i : Nat) : W.getD (i - 16) 0 + sgB (W.getD (i - 15) 0) + W.getD (i - 7) 0 + sgA (W.getD (i - 2) 0) = wNew W i := by
  unfold wNew
  generalize W.getD (i - 16) 0 = a
  generalize sgB (W.getD (i - 15) 0) = b
  generalize W.getD (i - 7) 0 = c
  generalize sgA (W.getD (i - 2) 0) = d
  ac_rfl

theorem getD_set32 (l : List UInt32) (i j : Nat) (x : UInt32) (hi : i < l.length) : (l.set i x).getD j 0 = if i = j then x else l.getD j 0 := by
  by_cases h : i = j
  · subst h; rw [if_pos rfl, List.getD, List.getElem?_set_self hi]; rfl
  · rw [if_neg h, List.getD, List.getD, List.getElem?_set_ne h]

theorem wBytes_zero (l : List UInt8) (m : Nat) (hm : m < 64) : ∀ k, k ≤ 4 * m → (wBytes l k).getD m 0 = 0
  | 0, _ => by
    show (List.replicate 64 (0 : UInt32)).getD m 0 = 0
    rw [List.getD, List.getElem?_replicate, if_pos hm]; rfl
  | k + 1, h => by
    have := wBytes_zero l m hm k (by omega)
    unfold wBytes wPut
    rw [getD_set32 _ _ _ _ (by rw [wBytes_len]; omega), if_neg (by omega)]
    exact this

theorem wPut_at (W : List UInt32) (hW : W.length = 64) (i r : Nat) (hi : i < 64) (hr : r < 4) (c : UInt8) : wPut W (4 * i + r) c = W.set i ((W.getD i 0 <<< 8) ||| c.toUInt32) := by
  unfold wPut
  rw [show (4 * i + r) / 4 = i from by omega]

theorem wBytes_four (l : List UInt8) (i : Nat) (hi : i < 16) (hl : 4 * i + 4 ≤ l.length) : wBytes l (4 * (i + 1)) = (wBytes l (4 * i)).set i (numFold ((l.drop (4 * i)).take 4)) := by
  have h0 := wBytes_zero l i (by omega) (4 * i) (Nat.le_refl _)
  have hW := wBytes_len l (4 * i)
  have e : wBytes l (4 * (i + 1)) = wPut (wPut (wPut (wPut (wBytes l (4 * i)) (4 * i + 0) (l.getD (4 * i + 0) 0)) (4 * i + 1) (l.getD (4 * i + 1) 0)) (4 * i + 2) (l.getD (4 * i + 2) 0)) (4 * i + 3) (l.getD (4 * i + 3) 0) := by
    rw [show 4 * (i + 1) = 4 * i + 3 + 1 from by omega]
    rfl
  have ht : (l.drop (4 * i)).take 4 = [l.getD (4 * i + 0) 0, l.getD (4 * i + 1) 0, l.getD (4 * i + 2) 0, l.getD (4 * i + 3) 0] := by
    apply List.ext_getElem?
    intro j
    rw [List.getElem?_take]
    have hg : ∀ r, r < 4 → l[4 * i + r]? = some (l.getD (4 * i + r) 0) := fun r hr => by
      rw [List.getD, List.getElem?_eq_getElem (by omega)]; rfl
    match j with
    | 0 => rw [if_pos (by omega), List.getElem?_drop, hg 0 (by omega)]; rfl
    | 1 => rw [if_pos (by omega), List.getElem?_drop, hg 1 (by omega)]; rfl
    | 2 => rw [if_pos (by omega), List.getElem?_drop, hg 2 (by omega)]; rfl
    | 3 => rw [if_pos (by omega), List.getElem?_drop, hg 3 (by omega)]; rfl
    | j + 4 => rw [if_neg (by omega)]; rfl
  rw [e, ht]
  generalize wBytes l (4 * i) = W at *
  generalize l.getD (4 * i + 0) 0 = x0
  generalize l.getD (4 * i + 1) 0 = x1
  generalize l.getD (4 * i + 2) 0 = x2
  generalize l.getD (4 * i + 3) 0 = x3
  have hn : ∀ x : UInt32, (W.set i x).length = 64 := fun x => by rw [List.length_set, hW]
  have hg : ∀ x : UInt32, (W.set i x).getD i 0 = x := fun x => by rw [getD_set32 _ _ _ _ (by omega), if_pos rfl]
  rw [wPut_at W hW i 0 (by omega) (by omega), wPut_at _ (hn _) i 1 (by omega) (by omega), hg, List.set_set, wPut_at _ (hn _) i 2 (by omega) (by omega), hg, List.set_set, wPut_at _ (hn _) i 3 (by omega) (by omega), hg, List.set_set, h0]
  rfl

theorem bits8_four (n : Nat) : bits8 n = be4 (UInt32.ofNat (n * 8 / 4294967296)) ++ be4 (UInt32.ofNat (n * 8)) := by
  have hb : ∀ (x : UInt32), be4 x = [UInt8.ofNat (x.toNat / 16777216), UInt8.ofNat (x.toNat / 65536), UInt8.ofNat (x.toNat / 256), UInt8.ofNat x.toNat] := fun x => by
    unfold be4
    have e : ∀ (y : UInt32) (m : Nat), y.toNat = m → y.toUInt8 = UInt8.ofNat m := fun y m h => by
      apply UInt8.toNat_inj.1
      rw [UInt32.toNat_toUInt8, UInt8.toNat_ofNat', h]
    rw [e (x >>> 24) (x.toNat / 16777216) (by rw [UInt32.toNat_shiftRight]; exact Nat.shiftRight_eq_div_pow _ _), e (x >>> 16) (x.toNat / 65536) (by rw [UInt32.toNat_shiftRight]; exact Nat.shiftRight_eq_div_pow _ _), e (x >>> 8) (x.toNat / 256) (by rw [UInt32.toNat_shiftRight]; exact Nat.shiftRight_eq_div_pow _ _), e x x.toNat rfl]
  rw [hb, hb, UInt32.toNat_ofNat', UInt32.toNat_ofNat']
  have e8 : ∀ a b : Nat, a % 256 = b % 256 → UInt8.ofNat a = UInt8.ofNat b := fun a b h => by
    apply UInt8.toNat_inj.1
    rw [UInt8.toNat_ofNat', UInt8.toNat_ofNat']; exact h
  unfold bits8
  show [_, _, _, _, _, _, _, _] = [_, _, _, _, _, _, _, _]
  generalize n * 8 = N
  rw [e8 (N / 2 ^ 56) (N / 4294967296 % 2 ^ 32 / 16777216) (by omega), e8 (N / 2 ^ 48) (N / 4294967296 % 2 ^ 32 / 65536) (by omega), e8 (N / 2 ^ 40) (N / 4294967296 % 2 ^ 32 / 256) (by omega), e8 (N / 2 ^ 32) (N / 4294967296 % 2 ^ 32) (by omega), e8 (N / 2 ^ 24) (N % 2 ^ 32 / 16777216) (by omega), e8 (N / 2 ^ 16) (N % 2 ^ 32 / 65536) (by omega), e8 (N / 2 ^ 8) (N % 2 ^ 32 / 256) (by omega), e8 N (N % 2 ^ 32) (by omega)]

theorem size_hi (n : Nat) (hm : n ≤ 70368744177664) (v : Int) (hv : v = (n : Int) * 8 / 4294967296) : Value.int .u32 v = B32 (UInt32.ofNat (n * 8 / 4294967296)) := by
  subst hv
  show _ = Value.int .u32 _
  refine congrArg (Value.int .u32) ?_
  rw [UInt32.toNat_ofNat']
  omega
theorem size_lo (n : Nat) (v : Int) (hv : v = (n : Int) * 8 % 4294967296) : Value.int .u32 v = B32 (UInt32.ofNat (n * 8)) := by
  subst hv
  show _ = Value.int .u32 _
  refine congrArg (Value.int .u32) ?_
  rw [UInt32.toNat_ofNat']
  omega

end Go.Proofs.YtijhaeapoapgfaaGreatDoor

set_option linter.unusedVariables false
set_option linter.unusedSimpArgs false
namespace Go.Proofs.YtijhaeapoapgfaaGreatDoor
open Go.RowKit
attribute [local go_sem ↓] Go.wp_at_zero Go.wp_at_succ

def slLen : Value → Nat
  | .slice _ n _ => n
  | _ => 0

theorem bN (m : Nat) (P : Int) (P' : Nat) (hP : P = (P' : Int)) (v : Int) (hv : v = (m : Int) * 8 / P % 256) : (#[Value.int .u8 v] : Array Value).toList = [UInt8.ofNat (m * 8 / P')].map B8 := by
  obtain ⟨N, hN⟩ : ∃ N, m * 8 = N := ⟨_, rfl⟩
  rw [show (m : Int) * 8 = (N : Int) from by omega] at hv
  rw [hN]
  subst hP hv
  show [Value.int .u8 _] = [Value.int .u8 _]
  refine congrArg (fun z => [Value.int .u8 z]) ?_
  rw [UInt8.toNat_ofNat']
  show _ = ((N / P' % 256 : Nat) : Int)
  rw [Int.natCast_emod, Int.natCast_ediv]; rfl

theorem bN0 (m : Nat) (v : Int) (hv : v = (m : Int) * 8 % 256) : (#[Value.int .u8 v] : Array Value).toList = [UInt8.ofNat (m * 8)].map B8 := by
  obtain ⟨N, hN⟩ : ∃ N, m * 8 = N := ⟨_, rfl⟩
  rw [show (m : Int) * 8 = (N : Int) from by omega] at hv
  rw [hN]
  subst hv
  show [Value.int .u8 _] = [Value.int .u8 _]
  refine congrArg (fun z => [Value.int .u8 z]) ?_
  rw [UInt8.toNat_ofNat']
  show _ = ((N % 256 : Nat) : Int)
  rw [Int.natCast_emod]; rfl

set_option maxRecDepth 100000 in
set_option maxHeartbeats 2000000 in
theorem filled_calls {w : World} (a : Option Addr) (n c : Nat) (l : List UInt8) (hl : Rd w a l) (hn : l.length = n) (hm : n ≤ 70368744177664) (h0 : a = none → n = 0 ∧ c = 0) :
    Calls Tryz.prog 78 #[.slice a n c] w (ClonePost w (filled l)) := by
  subst hn
  have HF := Lib.hid (show filled l = l ++ 128 :: List.replicate (padN l.length) 0 ++ bits8 l.length from rfl)
  have hp64 : padN l.length < 64 := by unfold padN; omega
  go_enter Tryz.func78, Tryz.ntmps78
  go_wp2_with (at_builtin; first | (refine wpList_append_bytes rfl _ _ rfl (Own.nil w w.heap.size) rfl a l.length c rfl hl rfl h0 (by simp; omega) (Nat.le_refl _) ?_; intro v1 w1 hO1 hG1 hB1; have hK1 : Keeps [] w w1 := (Keeps.refl [] w).grown hG1 (by simp [Value.ownBlock]); have hs1 := hK1.size) | (refine wpList_append_bytes rfl _ _ rfl (hO1.keeps ((Keeps.refl [] w1).alloc _) (by simp)) rfl _ 1 1 rfl (Rd.lit w1 _ _ [128] rfl) rfl (by simp) (by simp; omega) (by simp; omega) ?_; intro v2 w2 hO2 hG2 hB2))
  have hK2 : Keeps [] w w2 := (hK1.alloc _).grown hG2 (fun y hy => .inr (hO1.ne_lt y hy))
  simp only [List.nil_append] at hO2
  clear hO1 hG1 hB1 hK1 hG2 hB2 hl
  go_loopw [3] (fun v wr => ∃ j : Nat, j ≤ padN l.length ∧ Own wr w.heap.size v (l ++ 128 :: List.replicate j 0) ∧ Keeps [] w wr) (fun v _ => l.length + 100 - slLen v)
  case atStart => exact ⟨0, Nat.zero_le _, hO2, hK2⟩
  case round =>
    clear hO2 hK2
    obtain ⟨j, hj, hO, hK⟩ := hrel
    have hs := hK.size
    have hlen : (l ++ 128 :: List.replicate j (0 : UInt8)).length = l.length + 1 + j := by simp; omega
    have hO' := hO
    obtain ⟨a3, c3, rfl, _⟩ := hO'.cap
    rw [hlen] at hO ⊢
    by_cases hlt : j < padN l.length
    · have hne : ¬ ((l.length + 1 + j) % 64 = 56) := fun h => by have := padN_least l.length j h (by omega); omega
      have hd : (((l.length + 1 + j : Nat) : Int) % 64 == 56) = false := by rw [beq_eq_false_iff_ne]; omega
      have hl2 : l.length + 1 + j ≤ 140737488355000 := by omega
      have hnx : l ++ 128 :: List.replicate (j + 1) (0 : UInt8) = (l ++ 128 :: List.replicate j 0) ++ [0] := by rw [List.replicate_succ']; simp
      have hlt1 : (l ++ 128 :: List.replicate j (0 : UInt8)).length + 1 ≤ 140737488351232 := by rw [hlen]; omega
      have HO := Lib.hid hO
      generalize hM : l.length + 1 + j = M at *
      clear hO hO' hne
      go_wp2_with (at_builtin; (refine wpList_append_bytes rfl _ _ rfl (HO.out.keeps ((Keeps.refl [] wr).alloc _) (by simp)) rfl _ 1 1 rfl (Rd.lit wr _ _ [0] rfl) rfl (by simp) hlt1 (by simp; omega) ?_); intro v2 w2 hO2 hG2 hB2)
      rw [← hnx] at hO2
      have hK2 : Keeps [] w w2 := (hK.alloc _).grown hG2 (fun y hy => .inr (HO.out.ne_lt y hy))
      have hO2' := hO2
      obtain ⟨a4, c4, rfl, _⟩ := hO2'.cap
      go_roundw
      case rel => exact ⟨j + 1, by omega, hO2, hK2⟩
      case measure =>
        show l.length + 100 - (l ++ 128 :: List.replicate (j + 1) (0 : UInt8)).length < l.length + 100 - M
        simp
        omega
    · obtain rfl : j = padN l.length := by omega
      have hmod := padN_mod l.length
      have hd : (((l.length + 1 + padN l.length : Nat) : Int) % 64 == 56) = true := by rw [beq_iff_eq]; omega
      have HO := Lib.hid hO
      have HM := Lib.hid hlen
      generalize hLL : l ++ 128 :: List.replicate (padN l.length) (0 : UInt8) = L at *
      have HF2 : Hid (filled l = L ++ bits8 l.length) := Lib.hid HF.out
      clear hLL
      have hL2 : L.length ≤ 70368744180000 := by rw [hlen]; omega
      generalize hMM : l.length + 1 + padN l.length = M at *
      clear hO hO' hmod hMM hlen
      go_wp2_with fail
      rw [show ((M : Int) % 64 != 56) = false from by rw [bne, hd]; rfl]
      clear hd
      go_loopw [5, 3] (fun i v wr => ∃ j : Nat, j ≤ 8 ∧ i = .int .i64 (56 - 8 * (j : Int)) ∧ Own wr w.heap.size v (L ++ (bits8 l.length).take j) ∧ Keeps [] w wr) (fun i _ _ => (intOf i + 8).toNat)
      case atStart => exact ⟨0, Nat.zero_le _, rfl, by simpa using HO.out, hK⟩
      case round =>
        clear hK hs
        obtain ⟨j, hj, rfl, hO, hK⟩ := hrel
        have hs := hK.size
        generalize hm8 : l.length = m8 at *
        clear hm8
        match j, hj with
        | 0, _ =>
          go_wp2_with (at_builtin; (refine wpList_append_bytes rfl _ _ rfl (hO.keeps ((Keeps.refl [] wr).alloc _) (by simp)) rfl _ 1 1 rfl (Rd.lit wr _ _ [UInt8.ofNat (m8 * 8 / 72057594037927936)] (bN m8 72057594037927936 72057594037927936 rfl _ (by omega))) rfl (by simp) (by simp [bits8]; omega) (by simp; omega) ?_); intro v2 w2 hO2 hG2 hB2)
          go_roundw
          case rel =>
            have R : Own w2 w.heap.size v2 (L ++ (bits8 m8).take 1) := by simpa [bits8] using hO2
            have K : Keeps [] w w2 := (hK.alloc _).grown hG2 (fun y hy => .inr (hO.ne_lt y hy))
            first
              | exact ⟨1, by omega, rfl, R, K⟩
              | ((repeat apply Exists.intro); refine ⟨?_, rfl⟩; exact ⟨1, by omega, rfl, R, K⟩)
          case measure => simp [intOf]
        | 1, _ =>
          go_wp2_with (at_builtin; (refine wpList_append_bytes rfl _ _ rfl (hO.keeps ((Keeps.refl [] wr).alloc _) (by simp)) rfl _ 1 1 rfl (Rd.lit wr _ _ [UInt8.ofNat (m8 * 8 / 281474976710656)] (bN m8 281474976710656 281474976710656 rfl _ (by omega))) rfl (by simp) (by simp [bits8]; omega) (by simp; omega) ?_); intro v2 w2 hO2 hG2 hB2)
          go_roundw
          case rel =>
            have R : Own w2 w.heap.size v2 (L ++ (bits8 m8).take 2) := by simpa [bits8] using hO2
            have K : Keeps [] w w2 := (hK.alloc _).grown hG2 (fun y hy => .inr (hO.ne_lt y hy))
            first
              | exact ⟨2, by omega, rfl, R, K⟩
              | ((repeat apply Exists.intro); refine ⟨?_, rfl⟩; exact ⟨2, by omega, rfl, R, K⟩)
          case measure => simp [intOf]
        | 2, _ =>
          go_wp2_with (at_builtin; (refine wpList_append_bytes rfl _ _ rfl (hO.keeps ((Keeps.refl [] wr).alloc _) (by simp)) rfl _ 1 1 rfl (Rd.lit wr _ _ [UInt8.ofNat (m8 * 8 / 1099511627776)] (bN m8 1099511627776 1099511627776 rfl _ (by omega))) rfl (by simp) (by simp [bits8]; omega) (by simp; omega) ?_); intro v2 w2 hO2 hG2 hB2)
          go_roundw
          case rel =>
            have R : Own w2 w.heap.size v2 (L ++ (bits8 m8).take 3) := by simpa [bits8] using hO2
            have K : Keeps [] w w2 := (hK.alloc _).grown hG2 (fun y hy => .inr (hO.ne_lt y hy))
            first
              | exact ⟨3, by omega, rfl, R, K⟩
              | ((repeat apply Exists.intro); refine ⟨?_, rfl⟩; exact ⟨3, by omega, rfl, R, K⟩)
          case measure => simp [intOf]
        | 3, _ =>
          go_wp2_with (at_builtin; (refine wpList_append_bytes rfl _ _ rfl (hO.keeps ((Keeps.refl [] wr).alloc _) (by simp)) rfl _ 1 1 rfl (Rd.lit wr _ _ [UInt8.ofNat (m8 * 8 / 4294967296)] (bN m8 4294967296 4294967296 rfl _ (by omega))) rfl (by simp) (by simp [bits8]; omega) (by simp; omega) ?_); intro v2 w2 hO2 hG2 hB2)
          go_roundw
          case rel =>
            have R : Own w2 w.heap.size v2 (L ++ (bits8 m8).take 4) := by simpa [bits8] using hO2
            have K : Keeps [] w w2 := (hK.alloc _).grown hG2 (fun y hy => .inr (hO.ne_lt y hy))
            first
              | exact ⟨4, by omega, rfl, R, K⟩
              | ((repeat apply Exists.intro); refine ⟨?_, rfl⟩; exact ⟨4, by omega, rfl, R, K⟩)
          case measure => simp [intOf]
        | 4, _ =>
          go_wp2_with (at_builtin; (refine wpList_append_bytes rfl _ _ rfl (hO.keeps ((Keeps.refl [] wr).alloc _) (by simp)) rfl _ 1 1 rfl (Rd.lit wr _ _ [UInt8.ofNat (m8 * 8 / 16777216)] (bN m8 16777216 16777216 rfl _ (by omega))) rfl (by simp) (by simp [bits8]; omega) (by simp; omega) ?_); intro v2 w2 hO2 hG2 hB2)
          go_roundw
          case rel =>
            have R : Own w2 w.heap.size v2 (L ++ (bits8 m8).take 5) := by simpa [bits8] using hO2
            have K : Keeps [] w w2 := (hK.alloc _).grown hG2 (fun y hy => .inr (hO.ne_lt y hy))
            first
              | exact ⟨5, by omega, rfl, R, K⟩
              | ((repeat apply Exists.intro); refine ⟨?_, rfl⟩; exact ⟨5, by omega, rfl, R, K⟩)
          case measure => simp [intOf]
        | 5, _ =>
          go_wp2_with (at_builtin; (refine wpList_append_bytes rfl _ _ rfl (hO.keeps ((Keeps.refl [] wr).alloc _) (by simp)) rfl _ 1 1 rfl (Rd.lit wr _ _ [UInt8.ofNat (m8 * 8 / 65536)] (bN m8 65536 65536 rfl _ (by omega))) rfl (by simp) (by simp [bits8]; omega) (by simp; omega) ?_); intro v2 w2 hO2 hG2 hB2)
          go_roundw
          case rel =>
            have R : Own w2 w.heap.size v2 (L ++ (bits8 m8).take 6) := by simpa [bits8] using hO2
            have K : Keeps [] w w2 := (hK.alloc _).grown hG2 (fun y hy => .inr (hO.ne_lt y hy))
            first
              | exact ⟨6, by omega, rfl, R, K⟩
              | ((repeat apply Exists.intro); refine ⟨?_, rfl⟩; exact ⟨6, by omega, rfl, R, K⟩)
          case measure => simp [intOf]
        | 6, _ =>
          go_wp2_with (at_builtin; (refine wpList_append_bytes rfl _ _ rfl (hO.keeps ((Keeps.refl [] wr).alloc _) (by simp)) rfl _ 1 1 rfl (Rd.lit wr _ _ [UInt8.ofNat (m8 * 8 / 256)] (bN m8 256 256 rfl _ (by omega))) rfl (by simp) (by simp [bits8]; omega) (by simp; omega) ?_); intro v2 w2 hO2 hG2 hB2)
          go_roundw
          case rel =>
            have R : Own w2 w.heap.size v2 (L ++ (bits8 m8).take 7) := by simpa [bits8] using hO2
            have K : Keeps [] w w2 := (hK.alloc _).grown hG2 (fun y hy => .inr (hO.ne_lt y hy))
            first
              | exact ⟨7, by omega, rfl, R, K⟩
              | ((repeat apply Exists.intro); refine ⟨?_, rfl⟩; exact ⟨7, by omega, rfl, R, K⟩)
          case measure => simp [intOf]
        | 7, _ =>
          go_wp2_with (at_builtin; (refine wpList_append_bytes rfl _ _ rfl (hO.keeps ((Keeps.refl [] wr).alloc _) (by simp)) rfl _ 1 1 rfl (Rd.lit wr _ _ [UInt8.ofNat (m8 * 8)] (bN0 m8 _ (by omega))) rfl (by simp) (by simp [bits8]; omega) (by simp; omega) ?_); intro v2 w2 hO2 hG2 hB2)
          go_roundw
          case rel =>
            have R : Own w2 w.heap.size v2 (L ++ (bits8 m8).take 8) := by simpa [bits8] using hO2
            have K : Keeps [] w w2 := (hK.alloc _).grown hG2 (fun y hy => .inr (hO.ne_lt y hy))
            first
              | exact ⟨8, by omega, rfl, R, K⟩
              | ((repeat apply Exists.intro); refine ⟨?_, rfl⟩; exact ⟨8, by omega, rfl, R, K⟩)
          case measure => simp [intOf]
        | 8, _ =>
          go_wp2_with fail
          go_ret
          exact ⟨_, rfl, by rw [HF2.out]; simpa [bits8] using hO, hK⟩

end Go.Proofs.YtijhaeapoapgfaaGreatDoor
