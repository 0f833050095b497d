/-
  ApDeg: the reference's Root, Weights, Degree, walked (printed by apdeg.py).
-/
import Derived.Test.YtghgmchgbhdldaaDoorSolS
import Derived.Test.YtghgmchgbhdldaaDoorSpA
set_option linter.unusedVariables false
set_option linter.unusedSimpArgs false
namespace Go.Proofs.YtghgmchgbhdldaaDoor
open Go.RowKit
attribute [local go_sem ↓] Go.wp_at_zero Go.wp_at_succ

set_option maxRecDepth 100000 in
theorem rroot_calls {w : World} (n : Nat) (h1 : 1 ≤ n) (h2 : n ≤ 80) : Calls Tryd.prog 66 #[.int .i64 n] w fun e w' => e = .returned (.int .i64 (rootN n)) ∧ w = w' := by
  go_enter Tryd.func66, Tryd.ntmps66
  go_wp2_with fail
  go_loopw [3, 4] (fun a b wr => ∃ lo hi : Nat, a = .int .i64 lo ∧ b = .int .i64 hi ∧ lo ≤ hi ∧ hi ≤ 3037000499 ∧ Hid (lo * lo ≤ n ∧ n < (hi + 1) * (hi + 1)) ∧ wr = w) (fun a b _ => (intOf b).toNat - (intOf a).toNat)
  case atStart => exact ⟨0, 3037000499, rfl, rfl, Nat.zero_le _, Nat.le_refl _, Lib.hid ⟨by omega, by omega⟩, rfl⟩
  case round =>
    obtain ⟨lo, hi, rfl, rfl, hlh, hhi, hI, rfl⟩ := hrel
    by_cases hlt : lo < hi
    · have hm : ∃ m : Nat, (lo : Int) + ((hi : Int) - (lo : Int) + 1) / 2 = m ∧ lo < m ∧ m ≤ hi := ⟨lo + (hi - lo + 1) / 2, by omega, by omega, by omega⟩
      obtain ⟨m, hm, hm1, hm2⟩ := hm
      have hqd := Nat.le_div_iff_mul_le (x := m) (y := n) (show 0 < m by omega)
      have hq : (n : Int) / (m : Int) = ((n / m : Nat) : Int) := by simp
      have hqb : n / m ≤ n := Nat.div_le_self _ _
      generalize n / m = q at *
      by_cases hmq : m ≤ q
      · have hm2q := Lib.hid (hqd.1 hmq)
        clear hqd
        go_wp2_with fail
        go_roundw
        case rel => exact ⟨m, hi, rfl, rfl, by omega, by omega, Lib.hid ⟨hm2q.out, hI.out.2⟩, trivial⟩
        case measure => simp [intOf]; omega
      · have hm2q := Lib.hid (show ¬ m * m ≤ n from fun h => hmq (hqd.2 h))
        clear hqd
        go_wp2_with fail
        go_roundw
        case rel => exact ⟨lo, m - 1, rfl, by congr 1; omega, by omega, by omega, Lib.hid ⟨hI.out.1, by rw [show m - 1 + 1 = m from by omega]; have := hm2q.out; omega⟩, trivial⟩
        case measure => simp [intOf]; omega
    · obtain rfl : hi = lo := by omega
      have HR := Lib.hid (rootN_uniq hI.out.1 hI.out.2)
      go_wp2_with fail
      go_ret
      exact ⟨by rw [HR.out]; rfl, rfl⟩

set_option maxRecDepth 100000 in
set_option maxHeartbeats 2000000 in
theorem rweights_calls {w : World} (n : Nat) (h1 : 1 ≤ n) (h2 : n ≤ 80) :
    Calls Tryd.prog 56 #[.int .i64 n] w (WListPost w (wgts n n)) := by
  have hr := rroot_calls (w := w) n h1 h2
  have hr1 := rootN_pos h1
  have hr2 := rootN_le n
  have hB0 := OwnW.nil w w.heap.size
  have hw : ∀ d, wgt n d = if d < n / rootN n then wbase n d + 262144 * rootN n / (d * n) else if d = n / rootN n then wbase n d + 524288 * rootN n / n else wbase n d := fun d => rfl
  have hs : ∀ d, 1 ≤ d → 262144 * rootN n / (d * n) ≤ 262144 := fun d hd => share_le (n := n) hd
  have hp := spike_le n
  have hbv : ∀ d, (1 < d → wbase n d = 1048576 / (d * (d - 1))) ∧ (¬ 1 < d → wbase n d = 1048576 / n) := by intro d; unfold wbase; constructor <;> intro h <;> simp [h]
  have hbl := wbase_le n
  generalize rootN n = r at *
  go_enter Tryd.func56, Tryd.ntmps56
  go_wp2_with fail
  refine hr.mono ?_
  rintro e w' ⟨rfl, rfl⟩
  have htop : (n : Int) / (r : Int) = ((n / r : Nat) : Int) := by simp
  have htb : n / r ≤ n := Nat.div_le_self _ _
  generalize n / r = top at *
  have hpv : 524288 * (r : Int) / (n : Int) = ((524288 * r / n : Nat) : Int) := by simp
  generalize 524288 * r / n = sp at *
  have hz : (1048576 : Int) / (n : Int) = ((1048576 / n : Nat) : Int) := by simp
  have hzb : 1048576 / n ≤ 1048576 := Nat.div_le_self _ _
  have Hw := Lib.hid hw
  have Hs := Lib.hid hs
  have Hbv := Lib.hid hbv
  have Hbl := Lib.hid hbl
  clear hw hs hbv hbl
  generalize hz0 : 1048576 / n = z0 at *
  have Hz0 := Lib.hid hz0
  clear hz0 hr
  go_wp2_with fail
  go_loopw [5, 6] (fun v i wr => ∃ d : Nat, 1 ≤ d ∧ d ≤ n + 1 ∧ i = .int .i64 d ∧ OwnW wr w.heap.size v (wgts n (d - 1)) ∧ Keeps [] w wr) (fun _ i _ => n + 1 - (intOf i).toNat)
  case atStart => exact ⟨1, by omega, by omega, rfl, hB0, Keeps.refl _ _⟩
  case round =>
    clear hB0
    obtain ⟨d, hd1, hd2, rfl, hO, hK⟩ := hrel
    by_cases hlt : d ≤ n
    · have hsu := wgts_succ n (d - 1)
      rw [show d - 1 + 1 = d from by omega] at hsu
      have hlen := wgts_len n (d - 1)
      have hsz := hK.size
      have hwd := Hw.out d
      have hsd := Hs.out d hd1
      obtain ⟨hb1, hb2⟩ := Hbv.out d
      have hbd := Hbl.out d
      generalize wbase n d = wb at *
      have hdn : (d : Int) * (n : Int) = ((d * n : Nat) : Int) := by simp
      have hdn1 : 1 ≤ d * n := Nat.mul_pos (by omega) (by omega)
      have hdn2 : d * n ≤ 6400 := Nat.mul_le_mul (show d ≤ 80 by omega) h2
      have hsv : 262144 * (r : Int) / ((d * n : Nat) : Int) = ((262144 * r / (d * n) : Nat) : Int) := by simp
      generalize 262144 * r / (d * n) = sh at *
      generalize d * n = dn at *
      generalize wgt n d = x at *
      generalize wgts n (d - 1) = L at *
      have Hs := Lib.hid hsu
      have HO := Lib.hid (hO.keeps ((Keeps.refl [] wr).alloc (.cells #[V32 x] 22)) (by simp))
      have HK := Lib.hid hK
      have HX := Lib.hid (show (wr.alloc (.cells #[V32 x] 22)).cell? ⟨wr.heap.size, 0, none⟩ = some (V32 x) from (Blk.newA wr 22 #[V32 x]).cell' rfl)
      have hB : w.heap.size ≤ (wr.alloc (.cells #[V32 x] 22)).heap.size := by simp; omega
      have hL6 : L.length ≤ 1000000 := by omega
      clear hsu hO hK
      by_cases hd : 1 < d
      · have hb := hb1 hd
        have hdd : (d : Int) * ((d : Int) - 1) = ((d * (d - 1) : Nat) : Int) := by rw [Int.natCast_mul]; congr 1; omega
        have hdd1 : 1 ≤ d * (d - 1) := Nat.mul_pos (by omega) (by omega)
        have hdd2 : d * (d - 1) ≤ 6400 := Nat.mul_le_mul (show d ≤ 80 by omega) (show d - 1 ≤ 80 by omega)
        have hbz : (1048576 : Int) / ((d * (d - 1) : Nat) : Int) = (wb : Int) := by rw [hb]; simp
        generalize d * (d - 1) = dd at *
        clear hb hb1 hb2
        by_cases ht : d < top
        · rw [if_pos ht] at hwd
          have hxe : (wb : Int) + (sh : Int) = (x : Int) := by omega
          have hxb : x ≤ 2097152 := by omega
          have hne : ¬ ((d : Int) = (top : Int)) := by omega
          clear hwd
          go_wp2_with (at_builtin; (refine wpList_append_u32 rfl (.tmp 53) (.tmp 56) rfl HO.out rfl x _ 0 1 rfl HX.out hL6 hB ?_); intro v2 w2 g1 g2 g3)
          go_roundw
          case rel =>
            refine ⟨d + 1, by omega, by omega, by go_num, by rw [show d + 1 - 1 = d from by omega, Hs.out]; exact g1, (HK.out.alloc _).grown g2 (fun x hx => .inr ?_)⟩
            exact (HO.out.block hx).1
          case measure => simp [intOf]; omega
        · rw [if_neg ht] at hwd
          by_cases ht2 : d = top
          · rw [if_pos ht2] at hwd
            subst ht2
            have hxe : (wb : Int) + (sp : Int) = (x : Int) := by omega
            have hxb : x ≤ 2097152 := by omega
            clear hwd
            go_wp2_with (at_builtin; (refine wpList_append_u32 rfl (.tmp 53) (.tmp 56) rfl HO.out rfl x _ 0 1 rfl HX.out hL6 hB ?_); intro v2 w2 g1 g2 g3)
            go_roundw
            case rel =>
              refine ⟨d + 1, by omega, by omega, by go_num, by rw [show d + 1 - 1 = d from by omega, Hs.out]; exact g1, (HK.out.alloc _).grown g2 (fun x hx => .inr ?_)⟩
              exact (HO.out.block hx).1
            case measure => simp [intOf]; omega
          · rw [if_neg ht2] at hwd
            subst hwd
            have hne : ¬ ((d : Int) = (top : Int)) := by omega
            go_wp2_with (at_builtin; (refine wpList_append_u32 rfl (.tmp 53) (.tmp 56) rfl HO.out rfl x _ 0 1 rfl HX.out hL6 hB ?_); intro v2 w2 g1 g2 g3)
            go_roundw
            case rel =>
              refine ⟨d + 1, by omega, by omega, by go_num, by rw [show d + 1 - 1 = d from by omega, Hs.out]; exact g1, (HK.out.alloc _).grown g2 (fun x hx => .inr ?_)⟩
              exact (HO.out.block hx).1
            case measure => simp [intOf]; omega
      · have hb := hb2 hd
        subst hb
        clear hb1 hb2
        by_cases ht : d < top
        · rw [if_pos ht] at hwd
          have hxe : (wb : Int) + (sh : Int) = (x : Int) := by omega
          have hxb : x ≤ 2097152 := by omega
          have hne : ¬ ((d : Int) = (top : Int)) := by omega
          clear hwd
          go_wp2_with (at_builtin; (refine wpList_append_u32 rfl (.tmp 53) (.tmp 56) rfl HO.out rfl x _ 0 1 rfl HX.out hL6 hB ?_); intro v2 w2 g1 g2 g3)
          go_roundw
          case rel =>
            refine ⟨d + 1, by omega, by omega, by go_num, by rw [show d + 1 - 1 = d from by omega, Hs.out]; exact g1, (HK.out.alloc _).grown g2 (fun x hx => .inr ?_)⟩
            exact (HO.out.block hx).1
          case measure => simp [intOf]; omega
        · rw [if_neg ht] at hwd
          by_cases ht2 : d = top
          · rw [if_pos ht2] at hwd
            subst ht2
            have hxe : (wb : Int) + (sp : Int) = (x : Int) := by omega
            have hxb : x ≤ 2097152 := by omega
            clear hwd
            go_wp2_with (at_builtin; (refine wpList_append_u32 rfl (.tmp 53) (.tmp 56) rfl HO.out rfl x _ 0 1 rfl HX.out hL6 hB ?_); intro v2 w2 g1 g2 g3)
            go_roundw
            case rel =>
              refine ⟨d + 1, by omega, by omega, by go_num, by rw [show d + 1 - 1 = d from by omega, Hs.out]; exact g1, (HK.out.alloc _).grown g2 (fun x hx => .inr ?_)⟩
              exact (HO.out.block hx).1
            case measure => simp [intOf]; omega
          · rw [if_neg ht2] at hwd
            subst hwd
            have hne : ¬ ((d : Int) = (top : Int)) := by omega
            go_wp2_with (at_builtin; (refine wpList_append_u32 rfl (.tmp 53) (.tmp 56) rfl HO.out rfl x _ 0 1 rfl HX.out hL6 hB ?_); intro v2 w2 g1 g2 g3)
            go_roundw
            case rel =>
              refine ⟨d + 1, by omega, by omega, by go_num, by rw [show d + 1 - 1 = d from by omega, Hs.out]; exact g1, (HK.out.alloc _).grown g2 (fun x hx => .inr ?_)⟩
              exact (HO.out.block hx).1
            case measure => simp [intOf]; omega
    · obtain rfl : d = n + 1 := by omega
      have HO := Lib.hid hO
      have HK := Lib.hid hK
      clear hO hK
      go_wp2_with fail
      go_ret
      exact ⟨_, rfl, HO.out, HK.out⟩

end Go.Proofs.YtghgmchgbhdldaaDoor
