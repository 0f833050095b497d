/-
  GrCrc: the texts Crc, RefC, one behind another.
-/
import Derived.Test.YtijhaeapoapgfaaGreatDoorGrBy
import Derived.Test.YtijhaeapoapgfaaGreatDoorPlain
import Derived.Test.YtijhaeapoapgfaaGreatDoorRand
import Derived.BigQuiet
import Derived.Deep.QuietTactic
import Derived.Deep.RegionWith
import Derived.Deep.DrawnRows
import Derived.Deep.DeepMust
set_option linter.unusedSimpArgs false
set_option linter.unusedVariables false
namespace Go.Proofs.YtijhaeapoapgfaaGreatDoor
open Go.RowKit
attribute [local go_sem ↓] Go.wp_at_zero Go.wp_at_succ

theorem and32 (a b : UInt32) : bits .and .u32 (a.toNat : Int) (b.toNat : Int) = ((a &&& b).toNat : Int) := by
  rw [u32_and_nat _ _ a.toNat_lt b.toNat_lt, UInt32.toNat_and]
theorem or32 (a b : UInt32) : bits .or .u32 (a.toNat : Int) (b.toNat : Int) = ((a ||| b).toNat : Int) := by
  rw [u32_or_nat _ _ a.toNat_lt b.toNat_lt, UInt32.toNat_or]
theorem not32 (a : UInt32) : bits .xor .u32 IntKind.u32.max (a.toNat : Int) = ((~~~ a).toNat : Int) := by
  have h : IntKind.u32.max = ((4294967295 : UInt32).toNat : Int) := by decide
  rw [h, xor32]
  congr 2
theorem byte32 (x : UInt8) : (x.toNat : Int) % 4294967296 = ((x.toUInt32).toNat : Int) := by
  rw [UInt8.toNat_toUInt32]
  have := x.toNat_lt
  omega
theorem crcBit_int (z : UInt32) : bits .xor .u32 ((z.toNat : Int) / 2) (3988292384 * bits .and .u32 (z.toNat : Int) 1 % 4294967296) = ((crcBit z).toNat : Int) := by
  have h1 : bits .and .u32 (z.toNat : Int) 1 = ((z &&& 1).toNat : Int) := and32 z 1
  have h2 : (3988292384 * ((z &&& 1).toNat : Int)) % 4294967296 = ((3988292384 * (z &&& 1) : UInt32).toNat : Int) := by
    rw [UInt32.toNat_mul]
    show _ = (((3988292384 * (z &&& 1).toNat) % 4294967296 : Nat) : Int)
    omega
  have h3 : (z.toNat : Int) / (2 : Int) = ((z >>> 1).toNat : Int) := by
    rw [UInt32.toNat_shiftRight]
    show _ = ((z.toNat >>> 1 : Nat) : Int)
    rw [Nat.shiftRight_eq_div_pow]
    omega
  rw [h1, h2, h3, xor32]
  rfl

set_option maxRecDepth 100000 in
set_option maxHeartbeats 1000000 in
theorem crcadd_calls {w : World} (s : UInt32) (a : Option Addr) (n c : Nat) (l : List UInt8) (hl : Rd w a l) (hn : l.length = n) (hm : n ≤ 140737488351232) :
    Calls Tryz.prog 178 #[B32 s, .slice a n c] w fun e w' => e = .returned (B32 (crcAdd s l)) ∧ w = w' := by
  subst hn
  go_enter Tryz.func178, Tryz.ntmps178
  go_wp2_with fail
  go_loop [13, 5] (fun i v => ∃ k : Nat, k ≤ l.length ∧ i = .int .i64 k ∧ ∃ y : UInt32, v = B32 y ∧ crcFold y (l.drop k) = crcFold (~~~ s) l) (fun i _ => l.length - (intOf i).toNat)
  case atStart => exact ⟨0, Nat.zero_le _, rfl, ~~~ s, by rw [not32], by simp⟩
  case round =>
    obtain ⟨k, hk, rfl, y, rfl, hy⟩ := hrel
    by_cases hlt : k < l.length
    · obtain ⟨b0, o0, rfl, hc0⟩ := hl k l[k] (by simp [hlt])
      rw [List.drop_eq_getElem_cons hlt] at hy
      generalize l[k] = x at hc0 hy
      have hy' : crcFold (crcBits 8 (y ^^^ x.toUInt32)) (l.drop (k + 1)) = crcFold (~~~ s) l := hy
      have Hy := Lib.hid hy'
      clear hy hy' hl
      go_wp2_with fail
      go_loop [21, 5] (fun i v => ∃ j : Nat, j ≤ 8 ∧ i = .int .i64 j ∧ ∃ z : UInt32, v = B32 z ∧ crcBits (8 - j) z = crcBits 8 (y ^^^ x.toUInt32)) (fun i _ => 8 - (intOf i).toNat)
      case atStart => exact ⟨0, Nat.zero_le _, rfl, y ^^^ x.toUInt32, by rw [byte32, xor32], rfl⟩
      case round =>
        obtain ⟨j, hj, rfl, z, rfl, hz⟩ := hrel
        by_cases hlt8 : j < 8
        · have Hz := Lib.hid hz
          clear hz
          go_wp2_with fail
          go_round
          case rel => exact ⟨j + 1, by omega, by go_num, crcBit z, by rw [crcBit_int], by rw [← Hz.out, show 8 - j = (8 - (j + 1)) + 1 from by omega]; rfl⟩
          case measure => simp [intOf]; omega
        · have : j = 8 := by omega
          subst this
          have Hz := Lib.hid hz
          clear hz
          go_wp2_with fail
          go_round
          case rel => exact ⟨k + 1, by omega, by go_num, z, rfl, by rw [← Hy.out, ← Hz.out]; rfl⟩
          case measure => simp [intOf]; omega
    · have hkl : k = l.length := by omega
      subst hkl
      rw [List.drop_length] at hy
      have Hy := Lib.hid hy
      clear hy hl
      go_wp2_with fail
      go_ret
      have hf : crcAdd s l = ~~~ y := by unfold crcAdd; rw [← Hy.out]; rfl
      have hx := not32 y
      refine ⟨?_, rfl⟩
      rw [hf]
      show Ending.returned (.int .u32 (bits BinOp.xor IntKind.u32 IntKind.u32.max ↑y.toNat)) = _
      rw [hx]

set_option maxRecDepth 100000 in
set_option maxHeartbeats 400000 in
theorem crcsum_calls {w : World} (a : Option Addr) (n c : Nat) (l : List UInt8) (hl : Rd w a l) (hn : l.length = n) (hm : n ≤ 140737488351232) :
    Calls Tryz.prog 145 #[.slice a n c] w fun e w' => e = .returned (B32 (crcSum l)) ∧ w = w' := by
  have hc : Calls Tryz.prog 178 #[.int .u32 0, .slice a n c] w fun e w' => e = .returned (B32 (crcSum l)) ∧ w = w' := crcadd_calls 0 a n c l hl hn hm
  clear hl
  go_enter Tryz.func145, Tryz.ntmps145
  go_wp2_with fail
  refine hc.mono ?_
  rintro e w' ⟨rfl, rfl⟩
  go_wp2_with fail
  go_ret
  exact ⟨rfl, rfl⟩

theorem Own.ne_lt {w : World} {B : Nat} {v : Value} {l : List UInt8} (h : Own w B v l) : ∀ y, v.ownBlock = some y → B ≤ y := by
  intro y hy
  rcases h.2 with ⟨rfl, _⟩ | ⟨g, cap, cur, rfl, hb, _⟩
  · simp [Value.ownBlock] at hy
  · simp [Value.ownBlock] at hy; omega

set_option maxRecDepth 100000 in
set_option maxHeartbeats 1000000 in
theorem crcput_calls {w : World} (a : Option Addr) (n c : Nat) (l : List UInt8) (hl : Rd w a l) (hn : l.length = n) (hm : n ≤ 70368744177664) (h0 : a = none → n = 0 ∧ c = 0) :
    Calls Tryz.prog 99 #[.slice a n c] w (ClonePost w (crcPut l)) := by
  subst hn
  go_enter Tryz.func99, Tryz.ntmps99
  go_wp2_with (at_builtin; (refine wpList_append_bytes rfl _ _ rfl (Own.nil w w.heap.size) rfl a l.length c rfl hl rfl h0 (by simp; omega) (Nat.le_refl _) ?_); intro v1 w1 hO1 hG1 hB1)
  have hK1 : Keeps [] w w1 := (Keeps.refl [] w).grown hG1 (by simp [Value.ownBlock])
  refine (crcsum_calls a l.length c l (hl.keepsNil hK1) rfl (by omega)).mono ?_
  rintro e w' ⟨rfl, rfl⟩
  go_wp2_with fail
  clear hl
  go_loopw [5, 3] (fun i v wr => ∃ j : Nat, j ≤ 4 ∧ i = .int .i64 (24 - 8 * (j : Int)) ∧ Own wr w.heap.size v (l ++ (be4 (crcSum l)).take j) ∧ Keeps [] w wr) (fun i _ _ => (intOf i + 8).toNat)
  case atStart => exact ⟨0, Nat.zero_le _, rfl, by simpa using hO1, hK1⟩
  case round =>
    obtain ⟨j, hj, rfl, hO, hK⟩ := hrel
    clear hO1 hG1 hB1 hK1
    have hs := hK.size
    generalize hsum : crcSum l = s at *
    have Hsum := Lib.hid hsum
    clear hsum
    match j, hj with
    | 0, _ =>
      go_wp2_with (at_builtin; (refine wpList_append_bytes rfl _ _ rfl (hO.keeps ((Keeps.refl [] wr).alloc _) (by simp)) rfl _ 1 1 rfl (Rd.lit wr _ _ [(s >>> 24).toUInt8] (B8_24 s)) rfl (by simp) (by simp [be4]; omega) (by simp; omega) ?_); intro v2 w2 hO2 hG2 hB2)
      go_roundw
      case rel => exact ⟨1, by omega, rfl, by simpa [be4] using hO2, (hK.alloc _).grown hG2 (fun y hy => .inr (hO.ne_lt y hy))⟩
      case measure => simp [intOf]
    | 1, _ =>
      go_wp2_with (at_builtin; (refine wpList_append_bytes rfl _ _ rfl (hO.keeps ((Keeps.refl [] wr).alloc _) (by simp)) rfl _ 1 1 rfl (Rd.lit wr _ _ [(s >>> 16).toUInt8] (B8_16 s)) rfl (by simp) (by simp [be4]; omega) (by simp; omega) ?_); intro v2 w2 hO2 hG2 hB2)
      go_roundw
      case rel => exact ⟨2, by omega, rfl, by simpa [be4] using hO2, (hK.alloc _).grown hG2 (fun y hy => .inr (hO.ne_lt y hy))⟩
      case measure => simp [intOf]
    | 2, _ =>
      go_wp2_with (at_builtin; (refine wpList_append_bytes rfl _ _ rfl (hO.keeps ((Keeps.refl [] wr).alloc _) (by simp)) rfl _ 1 1 rfl (Rd.lit wr _ _ [(s >>> 8).toUInt8] (B8_8 s)) rfl (by simp) (by simp [be4]; omega) (by simp; omega) ?_); intro v2 w2 hO2 hG2 hB2)
      go_roundw
      case rel => exact ⟨3, by omega, rfl, by simpa [be4] using hO2, (hK.alloc _).grown hG2 (fun y hy => .inr (hO.ne_lt y hy))⟩
      case measure => simp [intOf]
    | 3, _ =>
      go_wp2_with (at_builtin; (refine wpList_append_bytes rfl _ _ rfl (hO.keeps ((Keeps.refl [] wr).alloc _) (by simp)) rfl _ 1 1 rfl (Rd.lit wr _ _ [s.toUInt8] (B8_0 s)) rfl (by simp) (by simp [be4]; omega) (by simp; omega) ?_); intro v2 w2 hO2 hG2 hB2)
      go_roundw
      case rel => exact ⟨4, by omega, rfl, by simpa [be4] using hO2, (hK.alloc _).grown hG2 (fun y hy => .inr (hO.ne_lt y hy))⟩
      case measure => simp [intOf]
    | 4, _ =>
      go_wp2_with fail
      go_ret
      exact ⟨_, rfl, by unfold crcPut; rw [Hsum.out]; simpa [be4] using hO, hK⟩

/-- crc.Right's two results. -/
def RightPost (w : World) (l : List UInt8) (e : Ending) (w' : World) : Prop :=
  ∃ v, e = .returned (.tuple #[v, .bool (crcRight l).isSome]) ∧ Own w' w.heap.size v ((crcRight l).getD []) ∧ Keeps [] w w'

theorem Rd.takeN {w : World} {a : Option Addr} {l : List UInt8} (h : Rd w a l) (n : Nat) : Rd w a (l.take n) := h.take n

set_option maxRecDepth 100000 in
set_option maxHeartbeats 1000000 in
theorem crcright_calls {w : World} (a : Option Addr) (n c : Nat) (l : List UInt8) (hl : Rd w a l) (hn : l.length = n) (hnc : n ≤ c) (hm : n ≤ 70368744177664) (hcm : c ≤ 9223372036854775807) (h0 : a = none → n = 0 ∧ c = 0) :
    Calls Tryz.prog 183 #[.slice a n c] w (RightPost w l) := by
  by_cases h4 : n < 4
  · have e : crcRight l = none := by unfold crcRight; rw [if_pos (by omega)]
    unfold RightPost
    rw [e]
    clear hl h0
    go_enter Tryz.func183, Tryz.ntmps183
    go_wp2_with fail
    have hd : decide ((n : Int) - 4 < 0) = true := by simp; omega
    go_quiet (fail)
    go_wp2_with fail
    go_ret2
    exact ⟨_, rfl, Own.nil _ _, (Keeps.refl _ _).drewN _⟩
  obtain ⟨x, rfl⟩ : ∃ x, a = some x := by
    cases a with
    | none => have := h0 rfl; omega
    | some x => exact ⟨x, rfl⟩
  obtain ⟨k, rfl⟩ : ∃ k, n = k + 4 := ⟨n - 4, by omega⟩
  have hlt : (l.take k).length = k := by rw [List.length_take]; omega
  have hP' := crcput_calls (w := w.drew) (some x) k c (l.take k) (hl.take k) hlt (by omega) (by simp)
  have hk0 : ¬ (k : Int) < 0 := by omega
  by_cases heq : crcPut (l.take k) = l
  · have hb : (crcPut (l.take k) == l) = true := by simpa using heq
    have e : crcRight l = some (l.take k) := by unfold crcRight; rw [if_neg (by omega), show l.length - 4 = k from by omega, if_pos heq]
    have E := Lib.hid e
    clear e heq
    go_enter Tryz.func183, Tryz.ntmps183
    go_wp2_with fail
    have hS := str_run (w := w.drew) (k + 4) c hl hn (by simp)
    go_region_with (go_at_call 99; (refine hP'.mono ?_); rintro e w1 ⟨v, rfl, hv, hk⟩; have hst1 : (convert 22 9 v).run Tryz.prog w1 = .ok (.string ⟨(crcPut (l.take k)).toArray⟩) w1 := (by obtain ⟨a1, k1, rfl, _, hrd1, _, _, hn1⟩ := hv.rd; exact str_run _ k1 hrd1 rfl hn1); have hst2 := str_run (w := w1) (k + 4) c (hl.keepsNil ((Keeps.refl [] w).drew.trans hk)) hn (by simp))
    all_goals
      have hrd := (hl.take k).keepsNil ((Keeps.refl [] w).drew.trans hk)
      clear hst1 hst2 hS
      go_wp2_with (at_builtin; refine wpList_append_bytes rfl _ _ rfl (Own.nil w1 w1.heap.size) rfl (some x) k c rfl hrd hlt (by simp) (by simp; omega) (Nat.le_refl _) ?_; intro v2 w2 hO2 hG2 hB2)
      go_ret2
      have hs1 := hk.size
      simp only [World.size_drew] at hs1
      exact ⟨v2, by rw [E.out]; rfl, by rw [E.out]; exact hO2.mono hs1, ((Keeps.refl [] w).drew.trans hk).grown hG2 (by simp [Value.ownBlock])⟩
  · have hb : (crcPut (l.take k) == l) = false := by simpa using heq
    have e : crcRight l = none := by unfold crcRight; rw [if_neg (by omega), show l.length - 4 = k from by omega, if_neg heq]
    have E := Lib.hid e
    clear e heq
    go_enter Tryz.func183, Tryz.ntmps183
    go_wp2_with fail
    have hS := str_run (w := w.drew) (k + 4) c hl hn (by simp)
    go_region_with (go_at_call 99; (refine hP'.mono ?_); rintro e w1 ⟨v, rfl, hv, hk⟩; have hst1 : (convert 22 9 v).run Tryz.prog w1 = .ok (.string ⟨(crcPut (l.take k)).toArray⟩) w1 := (by obtain ⟨a1, k1, rfl, _, hrd1, _, _, hn1⟩ := hv.rd; exact str_run _ k1 hrd1 rfl hn1); have hst2 := str_run (w := w1) (k + 4) c (hl.keepsNil ((Keeps.refl [] w).drew.trans hk)) hn (by simp))
    all_goals
      clear hst1 hst2 hS
      go_wp2_with fail
      go_ret2
      exact ⟨_, by rw [E.out]; rfl, by rw [E.out]; exact Own.nil _ _, (Keeps.refl [] w).drew.trans hk⟩

end Go.Proofs.YtijhaeapoapgfaaGreatDoor

set_option linter.unusedVariables false
set_option linter.unusedSimpArgs false
namespace Go.Proofs.YtijhaeapoapgfaaGreatDoor
open Go.RowKit
attribute [local go_sem ↓] Go.wp_at_zero Go.wp_at_succ

theorem test_eq (y : UInt32) (x : UInt8) (j : Nat) : bits .xor .u32 (bits .and .u32 (y.toNat : Int) 1) (bits .and .u32 ((x.toNat : Int) / 2 ^ j % 4294967296) 1) = (((y &&& 1) ^^^ (sh j x.toUInt32 &&& 1)).toNat : Int) := by
  have h1 : (x.toNat : Int) / 2 ^ j % 4294967296 = ((sh j x.toUInt32).toNat : Int) := by
    rw [sh_toNat, UInt8.toNat_toUInt32]
    have hx : x.toNat / 2 ^ j ≤ x.toNat := Nat.div_le_self _ _
    have := x.toNat_lt
    have e : (x.toNat : Int) / 2 ^ j = ((x.toNat / 2 ^ j : Nat) : Int) := by
      rw [Int.natCast_ediv, Int.natCast_pow]; rfl
    rw [e]
    generalize x.toNat / 2 ^ j = q at *
    omega
  rw [h1]
  have h2 : bits .and .u32 (y.toNat : Int) 1 = ((y &&& 1).toNat : Int) := and32 y 1
  have h3 : bits .and .u32 ((sh j x.toUInt32).toNat : Int) 1 = ((sh j x.toUInt32 &&& 1).toNat : Int) := and32 _ 1
  rw [h2, h3, xor32]

theorem test_true {z : UInt32} {t : Int} (h : t = (z.toNat : Int)) (hz : z = 1) : (t == 1) = true := by rw [h, hz]; rfl
theorem test_false {z : UInt32} {t : Int} (h : t = (z.toNat : Int)) (hz : z ≠ 1) : (t == 1) = false := by
  rw [h, beq_eq_false_iff_ne]; intro e; exact hz (UInt32.toNat_inj.1 (by show z.toNat = 1; omega))

theorem half32 (y : UInt32) : (y.toNat : Int) / (2 : Int) = ((y >>> 1).toNat : Int) := by rw [shr1_toNat]; omega

set_option maxRecDepth 100000 in
set_option maxHeartbeats 1000000 in
theorem rcrc_calls {w : World} (a : Option Addr) (n c : Nat) (l : List UInt8) (hl : Rd w a l) (hn : l.length = n) (hm : n ≤ 140737488351232) :
    Calls Tryz.prog 86 #[.slice a n c] w fun e w' => e = .returned (B32 (crcSum l)) ∧ w = w' := by
  subst hn
  go_enter Tryz.func86, Tryz.ntmps86
  go_wp2_with fail
  go_loop [3, 10] (fun v i => ∃ k : Nat, k ≤ 8 * l.length ∧ i = .int .i64 k ∧ ∃ y : UInt32, v = B32 y ∧ y = bitSt l k) (fun _ i => 8 * l.length - (intOf i).toNat)
  case atStart => exact ⟨0, Nat.zero_le _, rfl, 4294967295, rfl, (bitSt_zero l).symm⟩
  case round =>
    obtain ⟨k, hk, rfl, y, rfl, hy⟩ := hrel
    by_cases hlt : k < 8 * l.length
    · have hq : k / 8 < l.length := by omega
      obtain ⟨b0, o0, rfl, hc0⟩ := hl (k / 8) l[k / 8] (by simp [hq])
      have hs := bitSt_succ l k hlt
      rw [← hy] at hs
      have hg : l.getD (k / 8) 0 = l[k / 8] := by rw [List.getD, List.getElem?_eq_getElem hq]; rfl
      rw [hg] at hs
      generalize l[k / 8] = x at *
      have HS := Lib.hid hs
      clear hs hy hg hl
      have ht := test_eq y x (k % 8)
      by_cases hz : (y &&& 1) ^^^ (sh (k % 8) x.toUInt32 &&& 1) = 1
      · have hb := test_true ht hz
        have HS2 := Lib.hid (show bitSt l (k + 1) = (y >>> 1) ^^^ 3988292384 from by rw [HS.out]; unfold bitStep; rw [if_pos hz])
        clear ht hz HS
        go_wp2_with fail
        go_round
        case rel => exact ⟨k + 1, by omega, by go_num, _, by rw [half32]; exact congrArg (Value.int .u32) (xor32 (y >>> 1) 3988292384), HS2.out.symm⟩
        case measure => simp [intOf]; omega
      · have hb := test_false ht hz
        have HS2 := Lib.hid (show bitSt l (k + 1) = y >>> 1 from by rw [HS.out]; unfold bitStep; rw [if_neg hz])
        clear ht hz HS
        go_wp2_with fail
        go_round
        case rel => exact ⟨k + 1, by omega, by go_num, _, by rw [half32], HS2.out.symm⟩
        case measure => simp [intOf]; omega
    · have : k = 8 * l.length := by omega
      subst this
      rw [bitSt_full, List.take_length] at hy
      have Hy := Lib.hid hy
      clear hy hl
      go_wp2_with fail
      go_ret
      have hx := not32 y
      refine ⟨?_, rfl⟩
      have hf : crcSum l = ~~~ y := by rw [Hy.out]; rfl
      rw [hf]
      show Ending.returned (.int .u32 (bits BinOp.xor IntKind.u32 IntKind.u32.max ↑y.toNat)) = _
      rw [hx]

theorem rfour_bytes (M : UInt32) (x0 x1 x2 x3 : Int) (h0 : x0 = (M.toNat : Int) / (16777216 : Int) % (256 : Int)) (h1 : x1 = (M.toNat : Int) / (65536 : Int) % (256 : Int)) (h2 : x2 = (M.toNat : Int) / (256 : Int) % (256 : Int)) (h3 : x3 = (M.toNat : Int) % (256 : Int)) :
    [Value.int .u8 x0, .int .u8 x1, .int .u8 x2, .int .u8 x3] = List.map B8 (be4 M) := by
  have g0 := be4_24 M
  have g1 := be4_16 M
  have g2 := be4_8 M
  have g3 := be4_0 M
  have e0 : x0 = (((M >>> 24).toUInt8).toNat : Int) := by rw [h0, ← g0]; rfl
  have e1 : x1 = (((M >>> 16).toUInt8).toNat : Int) := by rw [h1, ← g1]; rfl
  have e2 : x2 = (((M >>> 8).toUInt8).toNat : Int) := by rw [h2, ← g2]; rfl
  have e3 : x3 = ((M.toUInt8).toNat : Int) := by rw [h3, ← g3]
  rw [e0, e1, e2, e3]
  rfl

theorem Own.lit' (w : World) (c : Array Value) (l : List UInt8) (n : Nat) (hc : c.toList = l.map B8) (hn : l.length = n) (hm : n ≤ 1000000) :
    Own (w.alloc (.cells c 5)) w.heap.size (.slice (some ⟨w.heap.size, 0, none⟩) n n) l := by
  have hcs : c.size = n := by rw [← Array.length_toList, hc, List.length_map, hn]
  have hg : (w.alloc (.cells c 5)).heap[w.heap.size]? = some (.cells c 5 (0, 0)) := by
    show (w.heap.push _)[w.heap.size]? = _
    simp
  refine ⟨by simp, .inr ⟨w.heap.size, n, c, by rw [hn], Nat.le_refl _, hg, by omega, by unfold maxLen; omega, by omega, ?_⟩⟩
  rw [hc, List.take_of_length_le (by rw [List.length_map]; omega)]

set_option maxRecDepth 100000 in
theorem four_calls {w : World} (M : UInt32) : Calls Tryz.prog 43 #[B32 M] w (ClonePost w (be4 M)) := by
  have hM := M.toNat_lt
  go_enter Tryz.func43, Tryz.ntmps43
  go_wp2_with fail
  go_ret
  exact ⟨_, rfl, Own.lit' w _ (be4 M) 4 (rfour_bytes M _ _ _ _ (by omega) (by omega) (by omega) (by omega)) rfl (by omega), (Keeps.refl [] w).alloc _⟩

/-- The number of bytes, the greatest first. -/
def numFold (l : List UInt8) : UInt32 := l.foldl (fun n x => (n <<< 8) ||| x.toUInt32) 0

theorem shl8 (y : UInt32) : (y.toNat : Int) * (256 : Int) % (4294967296 : Int) = ((y <<< 8).toNat : Int) := by
  rw [UInt32.toNat_shiftLeft]
  show _ = ((y.toNat <<< 8 % 4294967296 : Nat) : Int)
  rw [Nat.shiftLeft_eq]; omega

theorem byte32' (x : UInt8) : (x.toNat : Int) % (4294967296 : Int) = ((x.toUInt32).toNat : Int) := byte32 x

set_option maxRecDepth 100000 in
set_option maxHeartbeats 1000000 in
theorem number_calls {w : World} (a : Option Addr) (n c : Nat) (l : List UInt8) (hl : Rd w a l) (hn : l.length = n) (hm : n ≤ 140737488351232) :
    Calls Tryz.prog 44 #[.slice a n c] w fun e w' => e = .returned (B32 (numFold l)) ∧ w = w' := by
  subst hn
  go_enter Tryz.func44, Tryz.ntmps44
  go_wp2_with fail
  go_loop [3, 8] (fun v i => ∃ k : Nat, k ≤ l.length ∧ i = .int .i64 k ∧ ∃ y : UInt32, v = B32 y ∧ y = numFold (l.take k)) (fun _ i => l.length - (intOf i).toNat)
  case atStart => exact ⟨0, Nat.zero_le _, rfl, 0, rfl, rfl⟩
  case round =>
    obtain ⟨k, hk, rfl, y, rfl, hy⟩ := hrel
    by_cases hlt : k < l.length
    · obtain ⟨b0, o0, rfl, hc0⟩ := hl k l[k] (by simp [hlt])
      have hs : numFold (l.take (k + 1)) = (y <<< 8) ||| l[k].toUInt32 := by
        rw [hy, List.take_add_one, List.getElem?_eq_getElem hlt, Option.toList_some]
        unfold numFold
        rw [List.foldl_append]; rfl
      generalize l[k] = x at *
      have HS := Lib.hid hs
      clear hs hy hl
      go_wp2_with fail
      go_round
      case rel => exact ⟨k + 1, by omega, by go_num, _, by rw [shl8, byte32']; exact congrArg (Value.int .u32) (or32 (y <<< 8) x.toUInt32), HS.out.symm⟩
      case measure => simp [intOf]; omega
    · have : k = l.length := by omega
      subst this
      rw [List.take_length] at hy
      have Hy := Lib.hid hy
      clear hy hl
      go_wp2_with fail
      go_ret
      exact ⟨by rw [← Hy.out]; rfl, rfl⟩

set_option maxRecDepth 100000 in
set_option maxHeartbeats 1000000 in
theorem rput_calls {w : World} (a : Option Addr) (n c : Nat) (l : List UInt8) (hl : Rd w a l) (hn : l.length = n) (hm : n ≤ 70368744177664) (h0 : a = none → n = 0 ∧ c = 0) :
    Calls Tryz.prog 52 #[.slice a n c] w (ClonePost w (crcPut l)) := by
  subst hn
  go_enter Tryz.func52, Tryz.ntmps52
  go_wp2_with (at_builtin; (refine wpList_append_bytes rfl _ _ rfl (Own.nil w w.heap.size) rfl a l.length c rfl hl rfl h0 (by simp; omega) (Nat.le_refl _) ?_); intro v1 w1 hO1 hG1 hB1)
  have hK1 : Keeps [] w w1 := (Keeps.refl [] w).grown hG1 (by simp [Value.ownBlock])
  refine (rcrc_calls a l.length c l (hl.keepsNil hK1) rfl (by omega)).mono ?_
  rintro e w' ⟨rfl, rfl⟩
  go_wp2_with fail
  refine (four_calls (crcSum l)).mono ?_
  rintro e w2 ⟨v2, rfl, hO2, hk2⟩
  obtain ⟨a2, c2, rfl, h1, h2, h3, h4, h5⟩ := hO2.sl
  have hO1' := hO1.keeps hk2 (by simp)
  have hs := hK1.size
  have hs2 := hk2.size
  go_wp2_with (at_builtin; (refine wpList_append_bytes rfl _ _ rfl hO1' rfl a2 4 c2 rfl h3 rfl (fun h => ⟨by have := (h4 h).1; simp [be4] at this, (h4 h).2⟩) (by simp; omega) (by omega) ?_); intro v3 w3 hO3 hG3 hB3)
  go_ret
  refine ⟨v3, rfl, by simpa [crcPut] using hO3, (hK1.trans hk2).grown hG3 (fun y hy => .inr (hO1.ne_lt y hy))⟩

theorem crcRight_iff (l : List UInt8) (k : Nat) (hl : l.length = k + 4) : crcRight l = if be4 (crcSum (l.take k)) = l.drop k then some (l.take k) else none := by
  unfold crcRight
  rw [if_neg (by omega), show l.length - 4 = k from by omega]
  by_cases h : be4 (crcSum (l.take k)) = l.drop k
  · rw [if_pos h, if_pos]
    unfold crcPut; rw [h, List.take_append_drop]
  · rw [if_neg h, if_neg]
    intro h2
    apply h
    unfold crcPut at h2
    have h3 := congrArg (List.drop k) h2
    rwa [List.drop_left' (by rw [List.length_take]; omega)] at h3

end Go.Proofs.YtijhaeapoapgfaaGreatDoor
