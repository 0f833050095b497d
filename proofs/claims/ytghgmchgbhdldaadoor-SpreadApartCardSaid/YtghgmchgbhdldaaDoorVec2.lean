/-
  Vec2: package vec, walked: bits of words counted, the lowest of them (math/bits), First, Count.
-/
import Derived.Test.YtghgmchgbhdldaaDoorVec
import Derived.Laws.Bits128
set_option linter.unusedVariables false
set_option linter.unusedSimpArgs false
namespace Go.Proofs.YtghgmchgbhdldaaDoor
open Go.RowKit
attribute [local go_sem ↓] Go.wp_at_zero Go.wp_at_succ

theorem wrapU {x : Nat} (hx : x < 18446744073709551616) : IntKind.u64.wrap (x : Int) = x := by rw [IntKind.wrap_u64]; omega

theorem and_le (x m : Nat) : x &&& m ≤ m := Nat.and_le_right
theorem e1_val (x : Nat) (hx : x < 18446744073709551616) : IntKind.u64.wrap (bits .and .u64 ((x : Int) / 2) 6148914691236517205 + bits .and .u64 (x : Int) 6148914691236517205) = (ones1 x : Int) := by
  have h1 := u64_and_nat (x / 2) 6148914691236517205 (by omega) (by omega)
  have h2 := u64_and_nat x 6148914691236517205 hx (by omega)
  have e : ((x : Int) / 2) = ((x / 2 : Nat) : Int) := by omega
  rw [e, show (6148914691236517205 : Int) = ((6148914691236517205 : Nat) : Int) from rfl, h1, h2]
  have a1 := and_le (x / 2) 6148914691236517205
  have a2 := and_le x 6148914691236517205
  unfold ones1
  rw [← Int.natCast_add]
  exact wrapU (by omega)
theorem e2_val (x : Nat) (hx : x < 18446744073709551616) : IntKind.u64.wrap (bits .and .u64 ((x : Int) / 4) 3689348814741910323 + bits .and .u64 (x : Int) 3689348814741910323) = (ones2 x : Int) := by
  have h1 := u64_and_nat (x / 4) 3689348814741910323 (by omega) (by omega)
  have h2 := u64_and_nat x 3689348814741910323 hx (by omega)
  have e : ((x : Int) / 4) = ((x / 4 : Nat) : Int) := by omega
  rw [e, show (3689348814741910323 : Int) = ((3689348814741910323 : Nat) : Int) from rfl, h1, h2]
  have a1 := and_le (x / 4) 3689348814741910323
  have a2 := and_le x 3689348814741910323
  unfold ones2
  rw [← Int.natCast_add]
  exact wrapU (by omega)
theorem e3_val (x : Nat) (hx : x ≤ 7378697629483820646) : bits .and .u64 (IntKind.u64.wrap ((x : Int) / 16 + (x : Int))) 1085102592571150095 = (ones3 x : Int) := by
  have e : ((x : Int) / 16 + (x : Int)) = ((x / 16 + x : Nat) : Int) := by omega
  rw [e, wrapU (by omega), show (1085102592571150095 : Int) = ((1085102592571150095 : Nat) : Int) from rfl, u64_and_nat _ _ (by omega) (by omega)]
  rfl
theorem e4_val (x : Nat) (hx : x ≤ 1085102592571150095) : IntKind.u64.wrap ((x : Int) + (x : Int) / 256) = (ones4 x : Int) := by
  have e : ((x : Int) + (x : Int) / 256) = ((x + x / 256 : Nat) : Int) := by omega
  rw [e, wrapU (by omega)]
  rfl
theorem e5_val (x : Nat) (hx : x ≤ 1085102592571150095 * 2) : IntKind.u64.wrap ((x : Int) + (x : Int) / 65536) = (ones5 x : Int) := by
  have e : ((x : Int) + (x : Int) / 65536) = ((x + x / 65536 : Nat) : Int) := by omega
  rw [e, wrapU (by omega)]
  rfl
theorem e6_val (x : Nat) (hx : x ≤ 1085102592571150095 * 4) : IntKind.u64.wrap ((x : Int) + (x : Int) / 4294967296) = (ones6 x : Int) := by
  have e : ((x : Int) + (x : Int) / 4294967296) = ((x + x / 4294967296 : Nat) : Int) := by omega
  rw [e, wrapU (by omega)]
  rfl
theorem ones_bounds (x : Nat) (hx : x < 18446744073709551616) : ones1 x < 18446744073709551616 ∧ ones2 (ones1 x) ≤ 7378697629483820646 ∧ ones3 (ones2 (ones1 x)) ≤ 1085102592571150095 ∧ ones4 (ones3 (ones2 (ones1 x))) ≤ 1085102592571150095 * 2 ∧ ones5 (ones4 (ones3 (ones2 (ones1 x)))) ≤ 1085102592571150095 * 4 ∧ ones6 (ones5 (ones4 (ones3 (ones2 (ones1 x))))) ≤ 1085102592571150095 * 8 := by
  have a1 := and_le (x / 2) 6148914691236517205
  have a2 := and_le x 6148914691236517205
  have h1 : ones1 x < 18446744073709551616 := by unfold ones1; omega
  generalize ones1 x = y at *
  have b1 := and_le (y / 4) 3689348814741910323
  have b2 := and_le y 3689348814741910323
  have h2 : ones2 y ≤ 7378697629483820646 := by unfold ones2; omega
  generalize ones2 y = z at *
  have h3 : ones3 z ≤ 1085102592571150095 := by unfold ones3; exact and_le _ _
  generalize ones3 z = t at *
  have h4 : ones4 t ≤ 1085102592571150095 * 2 := by unfold ones4; omega
  generalize ones4 t = u at *
  have h5 : ones5 u ≤ 1085102592571150095 * 4 := by unfold ones5; omega
  generalize ones5 u = v at *
  have h6 : ones6 v ≤ 1085102592571150095 * 8 := by unfold ones6; omega
  exact ⟨h1, h2, h3, h4, h5, h6⟩

set_option maxRecDepth 100000 in
theorem ones_calls {w : World} (x : Nat) (hx : x < 18446744073709551616) : Calls Tryd.prog 29 #[U64 x] w fun e w' => e = .returned (.int .i64 (popN x)) ∧ w = w' := by
  go_enter Tryd.func29, Tryd.ntmps29
  go_wp2_with fail
  go_ret
  obtain ⟨h1, h2, h3, h4, h5, h6⟩ := ones_bounds x hx
  have hO := onesAll_eq x hx
  unfold onesAll at hO
  rw [e1_val x hx, e2_val _ h1, e3_val _ h2, e4_val _ h3, e5_val _ h4, e6_val _ h5]
  rw [← hO]
  generalize ones6 (ones5 (ones4 (ones3 (ones2 (ones1 x))))) = z at *
  rw [IntWalk.wrap64_in _ (by omega), i64_and127]
  exact ⟨rfl, rfl⟩

/-- The library's table lies there. -/
def TzAt (w : World) : Prop := ∀ k, k < 64 → w.cell? ⟨0, k, none⟩ = some (.int .u8 (tzTab.getD k 0 : Nat))
theorem TzAt.keeps {S : List Nat} {w w' : World} (h : TzAt w) (k : Keeps S w w') (hS : 0 ∉ S) : TzAt w' := fun i hi =>
  (World.cell?_of_block (a := ⟨0, i, none⟩) (k.block 0 (World.block_lt_of_cell? w _ (h i hi)) hS)).trans (h i hi)

theorem tz_val (x k : Nat) (hx : x < 18446744073709551616) (hk : k < 64) (h0 : x ≠ 0) (he : x &&& (18446744073709551616 - x) = 2 ^ k) :
    IntKind.u64.wrap (bits .and .u64 (x : Int) (IntKind.u64.wrap (-(x : Int))) * 285870213051353865) / 288230376151711744 = ((2 ^ k * 285870213051353865 % 18446744073709551616 / 288230376151711744 : Nat) : Int) := by
  have h1 : IntKind.u64.wrap (-(x : Int)) = ((18446744073709551616 - x : Nat) : Int) := by rw [IntKind.wrap_u64]; omega
  rw [h1, u64_and_nat _ _ hx (by omega), he, IntKind.wrap_u64]
  generalize 2 ^ k = v
  omega

set_option maxRecDepth 100000 in
theorem tz_calls {w : World} (ht : TzAt w) (x k : Nat) (hx : x < 18446744073709551616) (h0 : x ≠ 0) (hk : k < 64) (he : x &&& (18446744073709551616 - x) = 2 ^ k) :
    Calls Tryd.prog 31 #[U64 x] w fun e w' => e = .returned (.int .i64 k) ∧ w = w' := by
  have hE := tz_val x k hx hk h0 he
  have hc : w.cell? ⟨0, (IntKind.u64.wrap (bits .and .u64 (x : Int) (IntKind.u64.wrap (-(x : Int))) * 285870213051353865) / 288230376151711744).toNat, none⟩ = some (.int .u8 k) := by
    rw [hE, Int.toNat_natCast, ht _ (by omega), tzTab_at ⟨k, hk⟩]
  have hb : 0 ≤ IntKind.u64.wrap (bits .and .u64 (x : Int) (IntKind.u64.wrap (-(x : Int))) * 285870213051353865) / 288230376151711744 ∧ IntKind.u64.wrap (bits .and .u64 (x : Int) (IntKind.u64.wrap (-(x : Int))) * 285870213051353865) / 288230376151711744 < 64 := by
    rw [hE]; omega
  have h0' : ((x : Int) == 0) = false := by simp; omega
  have HE := Lib.hid hE
  clear hE he
  go_enter Tryd.func31, Tryd.ntmps31
  go_wp2_with fail
  go_ret
  exact ⟨rfl, rfl⟩

set_option maxRecDepth 100000 in
theorem vfirst_calls {w : World} {p g n X : Nat} (h : VecAt w p g n X) (ht : TzAt w) :
    Calls Tryd.prog 12 #[.pointer (some ⟨p, 0, none⟩)] w fun e w' => e = .returned (.int .i64 (firstB n X)) ∧ w = w' := by
  have c1 := h.b.cell' (i := 1) rfl
  have hN : nw n ≤ 4 := by have := h.le; unfold nw; omega
  have hfs := fun k t hz h1 h2 h3 => first_word (n := n) (X := X) (k := k) (t := t) h.lt hz h1 h2 h3
  have hfn := first_none (n := n) (X := X)
  have hcw := fun k (hk : k < nw n) => h.wd hk
  have Hcw := Lib.hid hcw
  have Hfs := Lib.hid hfs
  have Hfn := Lib.hid hfn
  clear hcw hfs hfn
  generalize nw n = N at *
  go_enter Tryd.func12, Tryd.ntmps12
  go_wp2_with fail
  go_loopw [12] (fun i wr => ∃ k : Nat, k ≤ N ∧ i = .int .i64 k ∧ (∀ j, j < k → word X j = 0) ∧ wr = w) (fun i _ => N - (intOf i).toNat)
  case atStart => exact ⟨0, Nat.zero_le _, rfl, fun j hj => absurd hj (Nat.not_lt_zero _), rfl⟩
  case round =>
    obtain ⟨k, hk, rfl, hz, rfl⟩ := hrel
    by_cases hlt : k < N
    · have cw := Hcw.out k hlt
      by_cases h0 : word X k = 0
      · rw [h0] at cw
        have Hz := Lib.hid hz
        have H0 := Lib.hid h0
        clear hz h0
        go_wp2_with fail
        go_roundw
        case rel =>
          refine ⟨k + 1, by omega, by go_num, fun j hj => ?_, trivial⟩
          by_cases hjk : j = k
          · subst hjk; exact H0.out
          · exact Hz.out j (by omega)
        case measure => simp [intOf]; omega
      · have hwl := word_lt X k
        obtain ⟨t, ht64, he, ht1, ht2⟩ := word_low hwl h0
        have hT := tz_calls ht (word X k) t hwl h0 ht64 he
        have hF := Hfs.out k t hz ht64 ht1 ht2
        have hne : ((word X k : Int) == 0) = false := by simp; omega
        have HF := Lib.hid hF
        clear hF he ht1 ht2 hz
        generalize word X k = x at *
        go_wp2_with fail
        refine hT.mono ?_
        rintro e w' ⟨rfl, rfl⟩
        go_wp2_with fail
        go_ret
        exact ⟨by rw [HF.out]; simp; omega, rfl⟩
    · obtain rfl : N = k := by omega
      have HF := Lib.hid (Hfn.out hz)
      clear hz
      go_wp2_with fail
      go_ret
      exact ⟨by rw [HF.out]; rfl, rfl⟩

set_option maxRecDepth 100000 in
theorem vcount_calls {w : World} {p g n X : Nat} (h : VecAt w p g n X) :
    Calls Tryd.prog 9 #[.pointer (some ⟨p, 0, none⟩)] w fun e w' => e = .returned (.int .i64 (bitsOf n X).length) ∧ w = w' := by
  have c1 := h.b.cell' (i := 1) rfl
  have hN : nw n ≤ 4 := by have := h.le; unfold nw; omega
  have hall := popW_all h.lt
  have hcw := fun k (hk : k < nw n) => h.wd hk
  have Hcw := Lib.hid hcw
  have Hall := Lib.hid hall
  clear hcw hall
  generalize nw n = N at *
  go_enter Tryd.func9, Tryd.ntmps9
  go_wp2_with fail
  go_loopw [3, 13] (fun a i wr => ∃ k : Nat, k ≤ N ∧ i = .int .i64 k ∧ a = .int .i64 (popW X k) ∧ wr = w) (fun _ i _ => N - (intOf i).toNat)
  case atStart => exact ⟨0, Nat.zero_le _, rfl, rfl, rfl⟩
  case round =>
    obtain ⟨k, hk, rfl, rfl, rfl⟩ := hrel
    by_cases hlt : k < N
    · have cw := Hcw.out k hlt
      have hC := ones_calls (w := wr) (word X k) (word_lt X k)
      have hs : popW X (k + 1) = popW X k + popN (word X k) := rfl
      have hb := popW_le X k
      have hb2 := popN_le (word X k)
      have Hs := Lib.hid hs
      clear hs
      generalize popN (word X k) = d at *
      generalize word X k = x at *
      generalize popW X k = a at *
      go_wp2_with fail
      refine hC.mono ?_
      rintro e w' ⟨rfl, rfl⟩
      go_wp2_with fail
      go_roundw
      case rel => exact ⟨k + 1, by omega, by go_num, by rw [Hs.out]; go_num, trivial⟩
      case measure => simp [intOf]; omega
    · obtain rfl : N = k := by omega
      go_wp2_with fail
      go_ret
      exact ⟨by rw [← Hall.out]; rfl, rfl⟩

end Go.Proofs.YtghgmchgbhdldaaDoor
