/-
  Sol: package soliton, walked: Root, weight.
-/
import Derived.Test.YtghgmchgbhdldaaGreatDoorPlain
import Derived.Test.YtghgmchgbhdldaaGreatDoorVecL
set_option linter.unusedVariables false
set_option linter.unusedSimpArgs false
namespace Go.Proofs.YtghgmchgbhdldaaGreatDoor
open Go.RowKit
attribute [local go_sem ↓] Go.wp_at_zero Go.wp_at_succ

set_option maxRecDepth 100000 in
theorem root_calls {w : World} (n : Nat) (h1 : 1 ≤ n) (h2 : n ≤ 80) : Calls Tryz.prog 115 #[.int .i64 n] w fun e w' => e = .returned (.int .i64 (rootN n)) ∧ w = w' := by
  go_enter Tryz.func115, Tryz.ntmps115
  go_wp2_with fail
  rw [show min (n : Int) 4294967295 = n from by omega]
  go_loopw [3, 4] (fun a b wr => ∃ lo hi : Nat, a = .int .i64 lo ∧ b = .int .i64 hi ∧ 1 ≤ lo ∧ lo ≤ hi ∧ hi ≤ n ∧ lo * lo ≤ n ∧ n < (hi + 1) * (hi + 1) ∧ wr = w) (fun a b _ => (intOf b).toNat - (intOf a).toNat)
  case atStart => exact ⟨1, n, rfl, rfl, Nat.le_refl _, h1, Nat.le_refl _, h1, by rw [Nat.add_mul]; omega, rfl⟩
  case round =>
    obtain ⟨lo, hi, rfl, rfl, hl1, hlh, hhn, hsq, htop, rfl⟩ := hrel
    by_cases hlt : lo < hi
    · have hm : ∃ m : Nat, (hi : Int) - ((hi : Int) - (lo : Int)) / 2 = m ∧ lo < m ∧ m ≤ hi := ⟨hi - (hi - lo) / 2, by omega, by omega, by omega⟩
      obtain ⟨m, hm, hm1, hm2⟩ := hm
      have hqd := Nat.le_div_iff_mul_le (x := m) (y := n) (show 0 < m by omega)
      have hq : (n : Int) / (m : Int) = ((n / m : Nat) : Int) := by simp
      have hqb : n / m ≤ n := Nat.div_le_self _ _
      generalize n / m = q at *
      have Htop := Lib.hid htop
      have Hsq := Lib.hid hsq
      clear htop hsq
      by_cases hmq : m ≤ q
      · have hm2q := Lib.hid (hqd.1 hmq)
        clear hqd
        go_wp2_with fail
        go_roundw
        case rel => exact ⟨m, hi, rfl, rfl, by omega, by omega, by omega, hm2q.out, Htop.out, trivial⟩
        case measure => simp [intOf]; omega
      · have hm2q := Lib.hid (show ¬ m * m ≤ n from fun h => hmq (hqd.2 h))
        clear hqd
        go_wp2_with fail
        go_roundw
        case rel => exact ⟨lo, m - 1, rfl, by congr 1; omega, by omega, by omega, by omega, Hsq.out, by rw [show m - 1 + 1 = m from by omega]; have := hm2q.out; omega, trivial⟩
        case measure => simp [intOf]; omega
    · obtain rfl : hi = lo := by omega
      have HR := Lib.hid (rootN_uniq hsq htop)
      clear hsq htop
      go_wp2_with fail
      go_ret
      exact ⟨by rw [HR.out]; rfl, rfl⟩

/-- A table of n pieces, its sums not made yet. -/
structure SolAt (w : World) (p n : Nat) (done : Int) (v : Value) : Prop where
  b : Blk w p 131 [.int .i64 n, .int .u32 done, .int .i32 0, .int .u32 0, v]
  lo : 1 ≤ n
  hi : n ≤ 80

set_option maxRecDepth 100000 in
set_option maxHeartbeats 1000000 in
theorem weight_calls {w : World} {p n : Nat} {t : Int} {s : Int} {v : Value} (c0 : w.cell? ⟨p, 0, none⟩ = some (.int .i64 n)) (h1 : 1 ≤ n) (h2 : n ≤ 80) (d : Nat) (hd1 : 1 ≤ d) (hd2 : d ≤ n) :
    Calls Tryz.prog 100 #[.pointer (some ⟨p, 0, none⟩), .int .i64 d] w fun e w' => e = .returned (.int .u32 (wgt n d)) ∧ w = w' := by
  have hr := root_calls (w := w) n h1 h2
  have hr1 := rootN_pos h1
  have hr2 := rootN_le n
  have hw : wgt n d = if d < n / rootN n then wbase n d + 262144 * rootN n / (d * n) else if d = n / rootN n then wbase n d + 524288 * rootN n / n else wbase n d := rfl
  have hs := share_le (n := n) hd1
  have hp := spike_le n
  have hbv : (1 < d → wbase n d = 1048576 / (d * (d - 1))) ∧ (¬ 1 < d → wbase n d = 1048576 / n) := by unfold wbase; constructor <;> intro h <;> simp [h]
  have hbl := wbase_le n d
  generalize wbase n d = wb at *
  generalize rootN n = r at *
  go_enter Tryz.func100, Tryz.ntmps100
  go_wp2_with fail
  refine hr.mono ?_
  rintro e w' ⟨rfl, rfl⟩
  have htop : (n : Int) / (r : Int) = ((n / r : Nat) : Int) := by simp
  have htb : n / r ≤ n := Nat.div_le_self _ _
  generalize n / r = top at *
  have Hw := Lib.hid hw
  clear hw
  have hdn : (d : Int) * (n : Int) = ((d * n : Nat) : Int) := by simp
  have hdn1 : 1 ≤ d * n := Nat.mul_pos (by omega) (by omega)
  have hdn2 : d * n ≤ 6400 := Nat.mul_le_mul (show d ≤ 80 by omega) h2
  have hsv : 262144 * (r : Int) / ((d * n : Nat) : Int) = ((262144 * r / (d * n) : Nat) : Int) := by simp
  have hpv : 524288 * (r : Int) / (n : Int) = ((524288 * r / n : Nat) : Int) := by simp
  have hz : (1048576 : Int) / (n : Int) = ((1048576 / n : Nat) : Int) := by simp
  have hzb : 1048576 / n ≤ 1048576 := Nat.div_le_self _ _
  generalize 262144 * r / (d * n) = sh at *
  generalize 524288 * r / n = sp at *
  generalize d * n = dn at *
  by_cases hd : 1 < d
  · obtain ⟨hb1, _⟩ := hbv
    have hb := hb1 hd
    have hdd : (d : Int) * ((d : Int) - 1) = ((d * (d - 1) : Nat) : Int) := by rw [Int.natCast_mul]; congr 1; omega
    have hdd1 : 1 ≤ d * (d - 1) := Nat.mul_pos (by omega) (by omega)
    have hdd2 : d * (d - 1) ≤ 6400 := Nat.mul_le_mul (show d ≤ 80 by omega) (show d - 1 ≤ 80 by omega)
    have hbz : (1048576 : Int) / ((d * (d - 1) : Nat) : Int) = (wb : Int) := by rw [hb]; simp
    generalize d * (d - 1) = dd at *
    clear hb hb1
    by_cases ht : d < top
    · go_wp2_with fail
      go_ret
      exact ⟨by rw [Hw.out, if_pos ht, Int.natCast_add]; rfl, rfl⟩
    · by_cases ht2 : d = top
      · subst ht2
        go_wp2_with fail
        go_ret
        exact ⟨by rw [Hw.out, if_neg ht, if_pos trivial, Int.natCast_add]; rfl, rfl⟩
      · have hne : ¬ ((d : Int) = (top : Int)) := by omega
        go_wp2_with fail
        go_ret
        exact ⟨by rw [Hw.out, if_neg ht, if_neg ht2]; rfl, rfl⟩
  · have hb := hbv.2 hd
    rw [← hb] at hz
    clear hbv hb hzb
    by_cases ht : d < top
    · go_wp2_with fail
      go_ret
      exact ⟨by rw [Hw.out, if_pos ht, Int.natCast_add]; rfl, rfl⟩
    · by_cases ht2 : d = top
      · subst ht2
        go_wp2_with fail
        go_ret
        exact ⟨by rw [Hw.out, if_neg ht, if_pos trivial, Int.natCast_add]; rfl, rfl⟩
      · have hne : ¬ ((d : Int) = (top : Int)) := by omega
        go_wp2_with fail
        go_ret
        exact ⟨by rw [Hw.out, if_neg ht, if_neg ht2]; rfl, rfl⟩

end Go.Proofs.YtghgmchgbhdldaaGreatDoor
