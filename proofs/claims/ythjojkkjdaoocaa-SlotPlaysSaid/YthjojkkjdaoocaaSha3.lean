/-
  Sha3: package digest: filled, walked.
-/
import Derived.Test.YthjojkkjdaoocaaShaM
import Derived.Test.YthjojkkjdaoocaaCrc
import Derived.Test.YthjojkkjdaoocaaSl
set_option linter.unusedVariables false
set_option linter.unusedSimpArgs false
namespace Go.Proofs.Ythjojkkjdaoocaa
open Go.RowKit
attribute [local go_sem ↓] Go.wp_at_zero Go.wp_at_succ

def slLen : Value → Nat
  | .slice _ n _ => n
  | _ => 0

theorem bN (m : Nat) (P : Int) (P' : Nat) (hP : P = (P' : Int)) (v : Int) (hv : v = (m : Int) * 8 / P % 256) : (#[Value.int .u8 v] : Array Value).toList = [UInt8.ofNat (m * 8 / P')].map B8 := by
  obtain ⟨N, hN⟩ : ∃ N, m * 8 = N := ⟨_, rfl⟩
  rw [show (m : Int) * 8 = (N : Int) from by omega] at hv
  rw [hN]
  subst hP hv
  show [Value.int .u8 _] = [Value.int .u8 _]
  refine congrArg (fun z => [Value.int .u8 z]) ?_
  rw [UInt8.toNat_ofNat']
  show _ = ((N / P' % 256 : Nat) : Int)
  rw [Int.natCast_emod, Int.natCast_ediv]; rfl

theorem bN0 (m : Nat) (v : Int) (hv : v = (m : Int) * 8 % 256) : (#[Value.int .u8 v] : Array Value).toList = [UInt8.ofNat (m * 8)].map B8 := by
  obtain ⟨N, hN⟩ : ∃ N, m * 8 = N := ⟨_, rfl⟩
  rw [show (m : Int) * 8 = (N : Int) from by omega] at hv
  rw [hN]
  subst hv
  show [Value.int .u8 _] = [Value.int .u8 _]
  refine congrArg (fun z => [Value.int .u8 z]) ?_
  rw [UInt8.toNat_ofNat']
  show _ = ((N % 256 : Nat) : Int)
  rw [Int.natCast_emod]; rfl

set_option maxRecDepth 100000 in
set_option maxHeartbeats 2000000 in
theorem filled_calls {w : World} (a : Option Addr) (n c : Nat) (l : List UInt8) (hl : Rd w a l) (hn : l.length = n) (hm : n ≤ 70368744177664) (h0 : a = none → n = 0 ∧ c = 0) :
    Calls Try.prog 81 #[.slice a n c] w (ClonePost w (filled l)) := by
  subst hn
  have HF := Lib.hid (show filled l = l ++ 128 :: List.replicate (padN l.length) 0 ++ bits8 l.length from rfl)
  have hp64 : padN l.length < 64 := by unfold padN; omega
  go_enter Try.func81, Try.ntmps81
  go_wp2_with (at_builtin; first | (refine wpList_append_bytes rfl _ _ rfl (Own.nil w w.heap.size) rfl a l.length c rfl hl rfl h0 (by simp; omega) (Nat.le_refl _) ?_; intro v1 w1 hO1 hG1 hB1; have hK1 : Keeps [] w w1 := (Keeps.refl [] w).grown hG1 (by simp [Value.ownBlock]); have hs1 := hK1.size) | (refine wpList_append_bytes rfl _ _ rfl (hO1.keeps ((Keeps.refl [] w1).alloc _) (by simp)) rfl _ 1 1 rfl (Rd.lit w1 _ _ [128] rfl) rfl (by simp) (by simp; omega) (by simp; omega) ?_; intro v2 w2 hO2 hG2 hB2))
  have hK2 : Keeps [] w w2 := (hK1.alloc _).grown hG2 (fun y hy => .inr (hO1.ne_lt y hy))
  simp only [List.nil_append] at hO2
  clear hO1 hG1 hB1 hK1 hG2 hB2 hl
  go_loopw [3] (fun v wr => ∃ j : Nat, j ≤ padN l.length ∧ Own wr w.heap.size v (l ++ 128 :: List.replicate j 0) ∧ Keeps [] w wr) (fun v _ => l.length + 100 - slLen v)
  case atStart => exact ⟨0, Nat.zero_le _, hO2, hK2⟩
  case round =>
    clear hO2 hK2
    obtain ⟨j, hj, hO, hK⟩ := hrel
    have hs := hK.size
    have hlen : (l ++ 128 :: List.replicate j (0 : UInt8)).length = l.length + 1 + j := by simp; omega
    have hO' := hO
    obtain ⟨a3, c3, rfl, _⟩ := hO'.cap
    rw [hlen] at hO ⊢
    by_cases hlt : j < padN l.length
    · have hne : ¬ ((l.length + 1 + j) % 64 = 56) := fun h => by have := padN_least l.length j h (by omega); omega
      have hd : (((l.length + 1 + j : Nat) : Int) % 64 == 56) = false := by rw [beq_eq_false_iff_ne]; omega
      have hl2 : l.length + 1 + j ≤ 140737488355000 := by omega
      have hnx : l ++ 128 :: List.replicate (j + 1) (0 : UInt8) = (l ++ 128 :: List.replicate j 0) ++ [0] := by rw [List.replicate_succ']; simp
      have hlt1 : (l ++ 128 :: List.replicate j (0 : UInt8)).length + 1 ≤ 140737488351232 := by rw [hlen]; omega
      have HO := Lib.hid hO
      generalize hM : l.length + 1 + j = M at *
      clear hO hO' hne
      go_wp2_with (at_builtin; (refine wpList_append_bytes rfl _ _ rfl (HO.out.keeps ((Keeps.refl [] wr).alloc _) (by simp)) rfl _ 1 1 rfl (Rd.lit wr _ _ [0] rfl) rfl (by simp) hlt1 (by simp; omega) ?_); intro v2 w2 hO2 hG2 hB2)
      rw [← hnx] at hO2
      have hK2 : Keeps [] w w2 := (hK.alloc _).grown hG2 (fun y hy => .inr (HO.out.ne_lt y hy))
      have hO2' := hO2
      obtain ⟨a4, c4, rfl, _⟩ := hO2'.cap
      go_roundw
      case rel => exact ⟨j + 1, by omega, hO2, hK2⟩
      case measure =>
        show l.length + 100 - (l ++ 128 :: List.replicate (j + 1) (0 : UInt8)).length < l.length + 100 - M
        simp
        omega
    · obtain rfl : j = padN l.length := by omega
      have hmod := padN_mod l.length
      have hd : (((l.length + 1 + padN l.length : Nat) : Int) % 64 == 56) = true := by rw [beq_iff_eq]; omega
      have HO := Lib.hid hO
      have HM := Lib.hid hlen
      generalize hLL : l ++ 128 :: List.replicate (padN l.length) (0 : UInt8) = L at *
      have HF2 : Hid (filled l = L ++ bits8 l.length) := Lib.hid HF.out
      clear hLL
      have hL2 : L.length ≤ 70368744180000 := by rw [hlen]; omega
      generalize hMM : l.length + 1 + padN l.length = M at *
      clear hO hO' hmod hMM hlen
      go_wp2_with fail
      rw [show ((M : Int) % 64 != 56) = false from by rw [bne, hd]; rfl]
      clear hd
      go_loopw [5, 3] (fun i v wr => ∃ j : Nat, j ≤ 8 ∧ i = .int .i64 (56 - 8 * (j : Int)) ∧ Own wr w.heap.size v (L ++ (bits8 l.length).take j) ∧ Keeps [] w wr) (fun i _ _ => (intOf i + 8).toNat)
      case atStart => exact ⟨0, Nat.zero_le _, rfl, by simpa using HO.out, hK⟩
      case round =>
        clear hK hs
        obtain ⟨j, hj, rfl, hO, hK⟩ := hrel
        have hs := hK.size
        generalize hm8 : l.length = m8 at *
        clear hm8
        match j, hj with
        | 0, _ =>
          go_wp2_with (at_builtin; (refine wpList_append_bytes rfl _ _ rfl (hO.keeps ((Keeps.refl [] wr).alloc _) (by simp)) rfl _ 1 1 rfl (Rd.lit wr _ _ [UInt8.ofNat (m8 * 8 / 72057594037927936)] (bN m8 72057594037927936 72057594037927936 rfl _ (by omega))) rfl (by simp) (by simp [bits8]; omega) (by simp; omega) ?_); intro v2 w2 hO2 hG2 hB2)
          go_roundw
          case rel =>
            have R : Own w2 w.heap.size v2 (L ++ (bits8 m8).take 1) := by simpa [bits8] using hO2
            have K : Keeps [] w w2 := (hK.alloc _).grown hG2 (fun y hy => .inr (hO.ne_lt y hy))
            first
              | exact ⟨1, by omega, rfl, R, K⟩
              | ((repeat apply Exists.intro); refine ⟨?_, rfl⟩; exact ⟨1, by omega, rfl, R, K⟩)
          case measure => simp [intOf]
        | 1, _ =>
          go_wp2_with (at_builtin; (refine wpList_append_bytes rfl _ _ rfl (hO.keeps ((Keeps.refl [] wr).alloc _) (by simp)) rfl _ 1 1 rfl (Rd.lit wr _ _ [UInt8.ofNat (m8 * 8 / 281474976710656)] (bN m8 281474976710656 281474976710656 rfl _ (by omega))) rfl (by simp) (by simp [bits8]; omega) (by simp; omega) ?_); intro v2 w2 hO2 hG2 hB2)
          go_roundw
          case rel =>
            have R : Own w2 w.heap.size v2 (L ++ (bits8 m8).take 2) := by simpa [bits8] using hO2
            have K : Keeps [] w w2 := (hK.alloc _).grown hG2 (fun y hy => .inr (hO.ne_lt y hy))
            first
              | exact ⟨2, by omega, rfl, R, K⟩
              | ((repeat apply Exists.intro); refine ⟨?_, rfl⟩; exact ⟨2, by omega, rfl, R, K⟩)
          case measure => simp [intOf]
        | 2, _ =>
          go_wp2_with (at_builtin; (refine wpList_append_bytes rfl _ _ rfl (hO.keeps ((Keeps.refl [] wr).alloc _) (by simp)) rfl _ 1 1 rfl (Rd.lit wr _ _ [UInt8.ofNat (m8 * 8 / 1099511627776)] (bN m8 1099511627776 1099511627776 rfl _ (by omega))) rfl (by simp) (by simp [bits8]; omega) (by simp; omega) ?_); intro v2 w2 hO2 hG2 hB2)
          go_roundw
          case rel =>
            have R : Own w2 w.heap.size v2 (L ++ (bits8 m8).take 3) := by simpa [bits8] using hO2
            have K : Keeps [] w w2 := (hK.alloc _).grown hG2 (fun y hy => .inr (hO.ne_lt y hy))
            first
              | exact ⟨3, by omega, rfl, R, K⟩
              | ((repeat apply Exists.intro); refine ⟨?_, rfl⟩; exact ⟨3, by omega, rfl, R, K⟩)
          case measure => simp [intOf]
        | 3, _ =>
          go_wp2_with (at_builtin; (refine wpList_append_bytes rfl _ _ rfl (hO.keeps ((Keeps.refl [] wr).alloc _) (by simp)) rfl _ 1 1 rfl (Rd.lit wr _ _ [UInt8.ofNat (m8 * 8 / 4294967296)] (bN m8 4294967296 4294967296 rfl _ (by omega))) rfl (by simp) (by simp [bits8]; omega) (by simp; omega) ?_); intro v2 w2 hO2 hG2 hB2)
          go_roundw
          case rel =>
            have R : Own w2 w.heap.size v2 (L ++ (bits8 m8).take 4) := by simpa [bits8] using hO2
            have K : Keeps [] w w2 := (hK.alloc _).grown hG2 (fun y hy => .inr (hO.ne_lt y hy))
            first
              | exact ⟨4, by omega, rfl, R, K⟩
              | ((repeat apply Exists.intro); refine ⟨?_, rfl⟩; exact ⟨4, by omega, rfl, R, K⟩)
          case measure => simp [intOf]
        | 4, _ =>
          go_wp2_with (at_builtin; (refine wpList_append_bytes rfl _ _ rfl (hO.keeps ((Keeps.refl [] wr).alloc _) (by simp)) rfl _ 1 1 rfl (Rd.lit wr _ _ [UInt8.ofNat (m8 * 8 / 16777216)] (bN m8 16777216 16777216 rfl _ (by omega))) rfl (by simp) (by simp [bits8]; omega) (by simp; omega) ?_); intro v2 w2 hO2 hG2 hB2)
          go_roundw
          case rel =>
            have R : Own w2 w.heap.size v2 (L ++ (bits8 m8).take 5) := by simpa [bits8] using hO2
            have K : Keeps [] w w2 := (hK.alloc _).grown hG2 (fun y hy => .inr (hO.ne_lt y hy))
            first
              | exact ⟨5, by omega, rfl, R, K⟩
              | ((repeat apply Exists.intro); refine ⟨?_, rfl⟩; exact ⟨5, by omega, rfl, R, K⟩)
          case measure => simp [intOf]
        | 5, _ =>
          go_wp2_with (at_builtin; (refine wpList_append_bytes rfl _ _ rfl (hO.keeps ((Keeps.refl [] wr).alloc _) (by simp)) rfl _ 1 1 rfl (Rd.lit wr _ _ [UInt8.ofNat (m8 * 8 / 65536)] (bN m8 65536 65536 rfl _ (by omega))) rfl (by simp) (by simp [bits8]; omega) (by simp; omega) ?_); intro v2 w2 hO2 hG2 hB2)
          go_roundw
          case rel =>
            have R : Own w2 w.heap.size v2 (L ++ (bits8 m8).take 6) := by simpa [bits8] using hO2
            have K : Keeps [] w w2 := (hK.alloc _).grown hG2 (fun y hy => .inr (hO.ne_lt y hy))
            first
              | exact ⟨6, by omega, rfl, R, K⟩
              | ((repeat apply Exists.intro); refine ⟨?_, rfl⟩; exact ⟨6, by omega, rfl, R, K⟩)
          case measure => simp [intOf]
        | 6, _ =>
          go_wp2_with (at_builtin; (refine wpList_append_bytes rfl _ _ rfl (hO.keeps ((Keeps.refl [] wr).alloc _) (by simp)) rfl _ 1 1 rfl (Rd.lit wr _ _ [UInt8.ofNat (m8 * 8 / 256)] (bN m8 256 256 rfl _ (by omega))) rfl (by simp) (by simp [bits8]; omega) (by simp; omega) ?_); intro v2 w2 hO2 hG2 hB2)
          go_roundw
          case rel =>
            have R : Own w2 w.heap.size v2 (L ++ (bits8 m8).take 7) := by simpa [bits8] using hO2
            have K : Keeps [] w w2 := (hK.alloc _).grown hG2 (fun y hy => .inr (hO.ne_lt y hy))
            first
              | exact ⟨7, by omega, rfl, R, K⟩
              | ((repeat apply Exists.intro); refine ⟨?_, rfl⟩; exact ⟨7, by omega, rfl, R, K⟩)
          case measure => simp [intOf]
        | 7, _ =>
          go_wp2_with (at_builtin; (refine wpList_append_bytes rfl _ _ rfl (hO.keeps ((Keeps.refl [] wr).alloc _) (by simp)) rfl _ 1 1 rfl (Rd.lit wr _ _ [UInt8.ofNat (m8 * 8)] (bN0 m8 _ (by omega))) rfl (by simp) (by simp [bits8]; omega) (by simp; omega) ?_); intro v2 w2 hO2 hG2 hB2)
          go_roundw
          case rel =>
            have R : Own w2 w.heap.size v2 (L ++ (bits8 m8).take 8) := by simpa [bits8] using hO2
            have K : Keeps [] w w2 := (hK.alloc _).grown hG2 (fun y hy => .inr (hO.ne_lt y hy))
            first
              | exact ⟨8, by omega, rfl, R, K⟩
              | ((repeat apply Exists.intro); refine ⟨?_, rfl⟩; exact ⟨8, by omega, rfl, R, K⟩)
          case measure => simp [intOf]
        | 8, _ =>
          go_wp2_with fail
          go_ret
          exact ⟨_, rfl, by rw [HF2.out]; simpa [bits8] using hO, hK⟩

end Go.Proofs.Ythjojkkjdaoocaa
