/-
  Crc: package crc, walked: Add, Sum, Put, Right.
-/
import Derived.Test.YtghgmchgbhdldaaAppB
import Derived.Test.YtghgmchgbhdldaaCrcM
import Derived.BigQuiet
import Derived.Deep.QuietTactic
import Derived.Deep.RegionWith
import Derived.Deep.DrawnRows
import Derived.Deep.DeepMust
set_option linter.unusedSimpArgs false
set_option linter.unusedVariables false
namespace Go.Proofs.Ytghgmchgbhdldaa
open Go.RowKit
attribute [local go_sem ↓] Go.wp_at_zero Go.wp_at_succ

abbrev B32 (x : UInt32) : Value := .int .u32 x.toNat

theorem xor32 (a b : UInt32) : bits .xor .u32 (a.toNat : Int) (b.toNat : Int) = ((a ^^^ b).toNat : Int) := by
  rw [u32_xor_nat _ _ a.toNat_lt b.toNat_lt, UInt32.toNat_xor]
theorem and32 (a b : UInt32) : bits .and .u32 (a.toNat : Int) (b.toNat : Int) = ((a &&& b).toNat : Int) := by
  rw [u32_and_nat _ _ a.toNat_lt b.toNat_lt, UInt32.toNat_and]
theorem or32 (a b : UInt32) : bits .or .u32 (a.toNat : Int) (b.toNat : Int) = ((a ||| b).toNat : Int) := by
  rw [u32_or_nat _ _ a.toNat_lt b.toNat_lt, UInt32.toNat_or]
theorem not32 (a : UInt32) : bits .xor .u32 IntKind.u32.max (a.toNat : Int) = ((~~~ a).toNat : Int) := by
  have h : IntKind.u32.max = ((4294967295 : UInt32).toNat : Int) := by decide
  rw [h, xor32]
  congr 2
theorem byte32 (x : UInt8) : (x.toNat : Int) % 4294967296 = ((x.toUInt32).toNat : Int) := by
  rw [UInt8.toNat_toUInt32]
  have := x.toNat_lt
  omega
theorem crcBit_int (z : UInt32) : bits .xor .u32 ((z.toNat : Int) / 2) (3988292384 * bits .and .u32 (z.toNat : Int) 1 % 4294967296) = ((crcBit z).toNat : Int) := by
  have h1 : bits .and .u32 (z.toNat : Int) 1 = ((z &&& 1).toNat : Int) := and32 z 1
  have h2 : (3988292384 * ((z &&& 1).toNat : Int)) % 4294967296 = ((3988292384 * (z &&& 1) : UInt32).toNat : Int) := by
    rw [UInt32.toNat_mul]
    show _ = (((3988292384 * (z &&& 1).toNat) % 4294967296 : Nat) : Int)
    omega
  have h3 : (z.toNat : Int) / (2 : Int) = ((z >>> 1).toNat : Int) := by
    rw [UInt32.toNat_shiftRight]
    show _ = ((z.toNat >>> 1 : Nat) : Int)
    rw [Nat.shiftRight_eq_div_pow]
    omega
  rw [h1, h2, h3, xor32]
  rfl

set_option maxRecDepth 100000 in
set_option maxHeartbeats 1000000 in
theorem crcadd_calls {w : World} (s : UInt32) (a : Option Addr) (n c : Nat) (l : List UInt8) (hl : Rd w a l) (hn : l.length = n) (hm : n ≤ 140737488351232) :
    Calls Try.prog 132 #[B32 s, .slice a n c] w fun e w' => e = .returned (B32 (crcAdd s l)) ∧ w = w' := by
  subst hn
  go_enter Try.func132, Try.ntmps132
  go_wp2_with fail
  go_loop [13, 5] (fun i v => ∃ k : Nat, k ≤ l.length ∧ i = .int .i64 k ∧ ∃ y : UInt32, v = B32 y ∧ crcFold y (l.drop k) = crcFold (~~~ s) l) (fun i _ => l.length - (intOf i).toNat)
  case atStart => exact ⟨0, Nat.zero_le _, rfl, ~~~ s, by rw [not32], by simp⟩
  case round =>
    obtain ⟨k, hk, rfl, y, rfl, hy⟩ := hrel
    by_cases hlt : k < l.length
    · obtain ⟨b0, o0, rfl, hc0⟩ := hl k l[k] (by simp [hlt])
      rw [List.drop_eq_getElem_cons hlt] at hy
      generalize l[k] = x at hc0 hy
      have hy' : crcFold (crcBits 8 (y ^^^ x.toUInt32)) (l.drop (k + 1)) = crcFold (~~~ s) l := hy
      have Hy := Lib.hid hy'
      clear hy hy' hl
      go_wp2_with fail
      go_loop [21, 5] (fun i v => ∃ j : Nat, j ≤ 8 ∧ i = .int .i64 j ∧ ∃ z : UInt32, v = B32 z ∧ crcBits (8 - j) z = crcBits 8 (y ^^^ x.toUInt32)) (fun i _ => 8 - (intOf i).toNat)
      case atStart => exact ⟨0, Nat.zero_le _, rfl, y ^^^ x.toUInt32, by rw [byte32, xor32], rfl⟩
      case round =>
        obtain ⟨j, hj, rfl, z, rfl, hz⟩ := hrel
        by_cases hlt8 : j < 8
        · have Hz := Lib.hid hz
          clear hz
          go_wp2_with fail
          go_round
          case rel => exact ⟨j + 1, by omega, by go_num, crcBit z, by rw [crcBit_int], by rw [← Hz.out, show 8 - j = (8 - (j + 1)) + 1 from by omega]; rfl⟩
          case measure => simp [intOf]; omega
        · have : j = 8 := by omega
          subst this
          have Hz := Lib.hid hz
          clear hz
          go_wp2_with fail
          go_round
          case rel => exact ⟨k + 1, by omega, by go_num, z, rfl, by rw [← Hy.out, ← Hz.out]; rfl⟩
          case measure => simp [intOf]; omega
    · have hkl : k = l.length := by omega
      subst hkl
      rw [List.drop_length] at hy
      have Hy := Lib.hid hy
      clear hy hl
      go_wp2_with fail
      go_ret
      have hf : crcAdd s l = ~~~ y := by unfold crcAdd; rw [← Hy.out]; rfl
      have hx := not32 y
      refine ⟨?_, rfl⟩
      rw [hf]
      show Ending.returned (.int .u32 (bits BinOp.xor IntKind.u32 IntKind.u32.max ↑y.toNat)) = _
      rw [hx]

set_option maxRecDepth 100000 in
set_option maxHeartbeats 400000 in
theorem crcsum_calls {w : World} (a : Option Addr) (n c : Nat) (l : List UInt8) (hl : Rd w a l) (hn : l.length = n) (hm : n ≤ 140737488351232) :
    Calls Try.prog 102 #[.slice a n c] w fun e w' => e = .returned (B32 (crcSum l)) ∧ w = w' := by
  have hc : Calls Try.prog 132 #[.int .u32 0, .slice a n c] w fun e w' => e = .returned (B32 (crcSum l)) ∧ w = w' := crcadd_calls 0 a n c l hl hn hm
  clear hl
  go_enter Try.func102, Try.ntmps102
  go_wp2_with fail
  refine hc.mono ?_
  rintro e w' ⟨rfl, rfl⟩
  go_wp2_with fail
  go_ret
  exact ⟨rfl, rfl⟩

theorem Own.ne_lt {w : World} {B : Nat} {v : Value} {l : List UInt8} (h : Own w B v l) : ∀ y, v.ownBlock = some y → B ≤ y := by
  intro y hy
  rcases h.2 with ⟨rfl, _⟩ | ⟨g, cap, cur, rfl, hb, _⟩
  · simp [Value.ownBlock] at hy
  · simp [Value.ownBlock] at hy; omega

set_option maxRecDepth 100000 in
set_option maxHeartbeats 1000000 in
theorem crcput_calls {w : World} (a : Option Addr) (n c : Nat) (l : List UInt8) (hl : Rd w a l) (hn : l.length = n) (hm : n ≤ 70368744177664) (h0 : a = none → n = 0 ∧ c = 0) :
    Calls Try.prog 62 #[.slice a n c] w (ClonePost w (crcPut l)) := by
  subst hn
  go_enter Try.func62, Try.ntmps62
  go_wp2_with (at_builtin; (refine wpList_append_bytes rfl _ _ rfl (Own.nil w w.heap.size) rfl a l.length c rfl hl rfl h0 (by simp; omega) (Nat.le_refl _) ?_); intro v1 w1 hO1 hG1 hB1)
  have hK1 : Keeps [] w w1 := (Keeps.refl [] w).grown hG1 (by simp [Value.ownBlock])
  refine (crcsum_calls a l.length c l (hl.keepsNil hK1) rfl (by omega)).mono ?_
  rintro e w' ⟨rfl, rfl⟩
  go_wp2_with fail
  clear hl
  go_loopw [5, 3] (fun i v wr => ∃ j : Nat, j ≤ 4 ∧ i = .int .i64 (24 - 8 * (j : Int)) ∧ Own wr w.heap.size v (l ++ (be4 (crcSum l)).take j) ∧ Keeps [] w wr) (fun i _ _ => (intOf i + 8).toNat)
  case atStart => exact ⟨0, Nat.zero_le _, rfl, by simpa using hO1, hK1⟩
  case round =>
    obtain ⟨j, hj, rfl, hO, hK⟩ := hrel
    clear hO1 hG1 hB1 hK1
    have hs := hK.size
    generalize hsum : crcSum l = s at *
    have Hsum := Lib.hid hsum
    clear hsum
    match j, hj with
    | 0, _ =>
      go_wp2_with (at_builtin; (refine wpList_append_bytes rfl _ _ rfl (hO.keeps ((Keeps.refl [] wr).alloc _) (by simp)) rfl _ 1 1 rfl (Rd.lit wr _ _ [(s >>> 24).toUInt8] (B8_24 s)) rfl (by simp) (by simp [be4]; omega) (by simp; omega) ?_); intro v2 w2 hO2 hG2 hB2)
      go_roundw
      case rel => exact ⟨1, by omega, rfl, by simpa [be4] using hO2, (hK.alloc _).grown hG2 (fun y hy => .inr (hO.ne_lt y hy))⟩
      case measure => simp [intOf]
    | 1, _ =>
      go_wp2_with (at_builtin; (refine wpList_append_bytes rfl _ _ rfl (hO.keeps ((Keeps.refl [] wr).alloc _) (by simp)) rfl _ 1 1 rfl (Rd.lit wr _ _ [(s >>> 16).toUInt8] (B8_16 s)) rfl (by simp) (by simp [be4]; omega) (by simp; omega) ?_); intro v2 w2 hO2 hG2 hB2)
      go_roundw
      case rel => exact ⟨2, by omega, rfl, by simpa [be4] using hO2, (hK.alloc _).grown hG2 (fun y hy => .inr (hO.ne_lt y hy))⟩
      case measure => simp [intOf]
    | 2, _ =>
      go_wp2_with (at_builtin; (refine wpList_append_bytes rfl _ _ rfl (hO.keeps ((Keeps.refl [] wr).alloc _) (by simp)) rfl _ 1 1 rfl (Rd.lit wr _ _ [(s >>> 8).toUInt8] (B8_8 s)) rfl (by simp) (by simp [be4]; omega) (by simp; omega) ?_); intro v2 w2 hO2 hG2 hB2)
      go_roundw
      case rel => exact ⟨3, by omega, rfl, by simpa [be4] using hO2, (hK.alloc _).grown hG2 (fun y hy => .inr (hO.ne_lt y hy))⟩
      case measure => simp [intOf]
    | 3, _ =>
      go_wp2_with (at_builtin; (refine wpList_append_bytes rfl _ _ rfl (hO.keeps ((Keeps.refl [] wr).alloc _) (by simp)) rfl _ 1 1 rfl (Rd.lit wr _ _ [s.toUInt8] (B8_0 s)) rfl (by simp) (by simp [be4]; omega) (by simp; omega) ?_); intro v2 w2 hO2 hG2 hB2)
      go_roundw
      case rel => exact ⟨4, by omega, rfl, by simpa [be4] using hO2, (hK.alloc _).grown hG2 (fun y hy => .inr (hO.ne_lt y hy))⟩
      case measure => simp [intOf]
    | 4, _ =>
      go_wp2_with fail
      go_ret
      exact ⟨_, rfl, by unfold crcPut; rw [Hsum.out]; simpa [be4] using hO, hK⟩

/-- crc.Right's two results. -/
def RightPost (w : World) (l : List UInt8) (e : Ending) (w' : World) : Prop :=
  ∃ v, e = .returned (.tuple #[v, .bool (crcRight l).isSome]) ∧ Own w' w.heap.size v ((crcRight l).getD []) ∧ Keeps [] w w'

theorem Rd.takeN {w : World} {a : Option Addr} {l : List UInt8} (h : Rd w a l) (n : Nat) : Rd w a (l.take n) := h.take n

set_option maxRecDepth 100000 in
set_option maxHeartbeats 1000000 in
theorem crcright_calls {w : World} (a : Option Addr) (n c : Nat) (l : List UInt8) (hl : Rd w a l) (hn : l.length = n) (hnc : n ≤ c) (hm : n ≤ 70368744177664) (hcm : c ≤ 9223372036854775807) (h0 : a = none → n = 0 ∧ c = 0) :
    Calls Try.prog 129 #[.slice a n c] w (RightPost w l) := by
  by_cases h4 : n < 4
  · have e : crcRight l = none := by unfold crcRight; rw [if_pos (by omega)]
    unfold RightPost
    rw [e]
    clear hl h0
    go_enter Try.func129, Try.ntmps129
    go_wp2_with fail
    have hd : decide ((n : Int) - 4 < 0) = true := by simp; omega
    go_quiet (fail)
    go_wp2_with fail
    go_ret2
    exact ⟨_, rfl, Own.nil _ _, (Keeps.refl _ _).drewN _⟩
  obtain ⟨x, rfl⟩ : ∃ x, a = some x := by
    cases a with
    | none => have := h0 rfl; omega
    | some x => exact ⟨x, rfl⟩
  obtain ⟨k, rfl⟩ : ∃ k, n = k + 4 := ⟨n - 4, by omega⟩
  have hlt : (l.take k).length = k := by rw [List.length_take]; omega
  have hP' := crcput_calls (w := w.drew) (some x) k c (l.take k) (hl.take k) hlt (by omega) (by simp)
  have hk0 : ¬ (k : Int) < 0 := by omega
  by_cases heq : crcPut (l.take k) = l
  · have hb : (crcPut (l.take k) == l) = true := by simpa using heq
    have e : crcRight l = some (l.take k) := by unfold crcRight; rw [if_neg (by omega), show l.length - 4 = k from by omega, if_pos heq]
    have E := Lib.hid e
    clear e heq
    go_enter Try.func129, Try.ntmps129
    go_wp2_with fail
    have hS := str_run (w := w.drew) (k + 4) c hl hn (by simp)
    go_region_with (go_at_call 62; (refine hP'.mono ?_); rintro e w1 ⟨v, rfl, hv, hk⟩; have hst1 : (convert 23 9 v).run Try.prog w1 = .ok (.string ⟨(crcPut (l.take k)).toArray⟩) w1 := (by obtain ⟨a1, k1, rfl, _, hrd1, _, _, hn1⟩ := hv.rd; exact str_run _ k1 hrd1 rfl hn1); have hst2 := str_run (w := w1) (k + 4) c (hl.keepsNil ((Keeps.refl [] w).drew.trans hk)) hn (by simp))
    all_goals
      have hrd := (hl.take k).keepsNil ((Keeps.refl [] w).drew.trans hk)
      clear hst1 hst2 hS
      go_wp2_with (at_builtin; refine wpList_append_bytes rfl _ _ rfl (Own.nil w1 w1.heap.size) rfl (some x) k c rfl hrd hlt (by simp) (by simp; omega) (Nat.le_refl _) ?_; intro v2 w2 hO2 hG2 hB2)
      go_ret2
      have hs1 := hk.size
      simp only [World.size_drew] at hs1
      exact ⟨v2, by rw [E.out]; rfl, by rw [E.out]; exact hO2.mono hs1, ((Keeps.refl [] w).drew.trans hk).grown hG2 (by simp [Value.ownBlock])⟩
  · have hb : (crcPut (l.take k) == l) = false := by simpa using heq
    have e : crcRight l = none := by unfold crcRight; rw [if_neg (by omega), show l.length - 4 = k from by omega, if_neg heq]
    have E := Lib.hid e
    clear e heq
    go_enter Try.func129, Try.ntmps129
    go_wp2_with fail
    have hS := str_run (w := w.drew) (k + 4) c hl hn (by simp)
    go_region_with (go_at_call 62; (refine hP'.mono ?_); rintro e w1 ⟨v, rfl, hv, hk⟩; have hst1 : (convert 23 9 v).run Try.prog w1 = .ok (.string ⟨(crcPut (l.take k)).toArray⟩) w1 := (by obtain ⟨a1, k1, rfl, _, hrd1, _, _, hn1⟩ := hv.rd; exact str_run _ k1 hrd1 rfl hn1); have hst2 := str_run (w := w1) (k + 4) c (hl.keepsNil ((Keeps.refl [] w).drew.trans hk)) hn (by simp))
    all_goals
      clear hst1 hst2 hS
      go_wp2_with fail
      go_ret2
      exact ⟨_, by rw [E.out]; rfl, by rw [E.out]; exact Own.nil _ _, (Keeps.refl [] w).drew.trans hk⟩

end Go.Proofs.Ytghgmchgbhdldaa
