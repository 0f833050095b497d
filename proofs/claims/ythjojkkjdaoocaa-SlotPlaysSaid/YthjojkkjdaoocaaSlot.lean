/-
  Slot: package slot, walked: may, first, Read, clear.
-/
import Derived.Test.YthjojkkjdaoocaaSlotM
import Derived.Test.YthjojkkjdaoocaaFlashN
import Derived.Test.YthjojkkjdaoocaaSlEq
set_option linter.unusedVariables false
set_option linter.unusedSimpArgs false
namespace Go.Proofs.Ythjojkkjdaoocaa
open Go.RowKit
attribute [local go_sem ↓] Go.wp_at_zero Go.wp_at_succ

set_option maxRecDepth 100000 in
theorem may_calls {w : World} (a : Option Addr) (c : Nat) (l : List UInt8) : Calls Try.prog 76 #[.slice a l.length c] w fun e w' => e = .returned (.bool (mayB l)) ∧ w = w' := by
  by_cases h1 : 1 ≤ l.length
  · by_cases h2 : l.length ≤ 512
    · have E := Lib.hid (show mayB l = true from by unfold mayB; simp [h1, h2])
      have h1' : (1 : Int) ≤ (l.length : Int) := by omega
      have h2' : (l.length : Int) ≤ 512 := by omega
      clear h1 h2
      go_enter Try.func76, Try.ntmps76
      go_wp2_with fail
      go_ret
      exact ⟨by rw [E.out]; simp [h1', h2'], rfl⟩
    · have E := Lib.hid (show mayB l = false from by unfold mayB; rw [decide_eq_false h2, Bool.and_false])
      have h1' : (1 : Int) ≤ (l.length : Int) := by omega
      have h2' : ¬ (l.length : Int) ≤ 512 := by omega
      clear h1 h2
      go_enter Try.func76, Try.ntmps76
      go_wp2_with fail
      go_ret
      exact ⟨by rw [E.out]; first | (simp; done) | (simp; omega), rfl⟩
  · have E := Lib.hid (show mayB l = false from by unfold mayB; rw [decide_eq_false h1, Bool.false_and])
    have h1' : ¬ (1 : Int) ≤ (l.length : Int) := by omega
    clear h1
    go_enter Try.func76, Try.ntmps76
    go_wp2_with fail
    go_ret
    exact ⟨by rw [E.out]; first | rfl | (simp; omega), rfl⟩

set_option maxRecDepth 100000 in
theorem first_calls {w : World} (s : Int) (hs : s = 0 ∨ s = 1) : Calls Try.prog 78 #[.int .i64 s] w fun e w' => e = .returned (.int .i64 (2 + s * 2)) ∧ w = w' := by
  rcases hs with rfl | rfl
  all_goals
    go_enter Try.func78, Try.ntmps78
    go_wp2_with fail
    go_ret
    exact ⟨rfl, rfl⟩

set_option maxRecDepth 100000 in
set_option maxHeartbeats 1000000 in
theorem slotread_calls {w : World} {p q : Nat} {F : Fla} (h : FlaAt w p q F) (s n : Int) :
    Calls Try.prog 49 #[.pointer (some ⟨p, 0, none⟩), .int .i64 s, .int .i64 n] w (ReadPost w (F.slotRead s n)) := by
  by_cases hb : (s ≠ 0 ∧ s ≠ 1) ∨ n < 0 ∨ n > 512
  · have e : F.slotRead s n = ([], 1) := by unfold Fla.slotRead; rw [if_pos hb]
    rw [e]
    clear e h
    by_cases h0 : s = 0
    · subst h0
      have hb2 : n < 0 ∨ n > 512 := by simpa using hb
      clear hb
      by_cases hn : n < 0
      · have hd : decide (n < 0) = true := by simpa using hn
        clear hn hb2
        go_enter Try.func49, Try.ntmps49
        go_wp2_with fail
        go_ret2
        exact ⟨_, rfl, Own.nil _ _, Keeps.refl _ _⟩
      · have hd : decide (n < 0) = false := by simpa using hn
        have hd2 : decide (512 < n) = true := by simp; omega
        clear hb2 hn
        go_enter Try.func49, Try.ntmps49
        go_wp2_with fail
        go_ret2
        exact ⟨_, rfl, Own.nil _ _, Keeps.refl _ _⟩
    by_cases h1 : s = 1
    · subst h1
      have hb2 : n < 0 ∨ n > 512 := by simpa using hb
      clear hb h0
      by_cases hn : n < 0
      · have hd : decide (n < 0) = true := by simpa using hn
        clear hn hb2
        go_enter Try.func49, Try.ntmps49
        go_wp2_with fail
        go_ret2
        exact ⟨_, rfl, Own.nil _ _, Keeps.refl _ _⟩
      · have hd : decide (n < 0) = false := by simpa using hn
        have hd2 : decide (512 < n) = true := by simp; omega
        clear hb2 hn
        go_enter Try.func49, Try.ntmps49
        go_wp2_with fail
        go_ret2
        exact ⟨_, rfl, Own.nil _ _, Keeps.refl _ _⟩
    clear hb
    go_enter Try.func49, Try.ntmps49
    go_wp2_with fail
    go_ret2
    exact ⟨_, rfl, Own.nil _ _, Keeps.refl _ _⟩
  · have e : F.slotRead s n = F.read ((2 + s * 2) * 256) n := by unfold Fla.slotRead; rw [if_neg hb]
    rw [e]
    have hs : s = 0 ∨ s = 1 := by omega
    have hn1 : ¬ n < 0 := by omega
    have hn2 : ¬ 512 < n := by omega
    have hs' := hs
    rcases hs' with rfl | rfl
    · have hR := read_calls h 512 n
      have hf : Calls Try.prog 78 #[.int .i64 0] w fun e w' => e = .returned (.int .i64 2) ∧ w = w' := first_calls (w := w) 0 hs
      rw [show (2 + (0 : Int) * 2) * 256 = 512 from rfl]
      generalize F.read 512 n = r at *
      have HR := Lib.hid hR
      have Hf := Lib.hid hf
      clear hR hf h hb hs e
      go_enter Try.func49, Try.ntmps49
      go_wp2_with fail
      refine Hf.out.mono ?_
      rintro e w' ⟨rfl, rfl⟩
      go_wp2_with fail
      refine HR.out.mono ?_
      rintro e w1 ⟨v, rfl, hv, hk⟩
      go_wp2_with fail
      go_ret2
      exact ⟨v, rfl, hv, hk⟩
    · have hR := read_calls h 1024 n
      have hf : Calls Try.prog 78 #[.int .i64 1] w fun e w' => e = .returned (.int .i64 4) ∧ w = w' := first_calls (w := w) 1 hs
      rw [show (2 + (1 : Int) * 2) * 256 = 1024 from rfl]
      generalize F.read 1024 n = r at *
      have HR := Lib.hid hR
      have Hf := Lib.hid hf
      clear hR hf h hb hs e
      go_enter Try.func49, Try.ntmps49
      go_wp2_with fail
      refine Hf.out.mono ?_
      rintro e w' ⟨rfl, rfl⟩
      go_wp2_with fail
      refine HR.out.mono ?_
      rintro e w1 ⟨v, rfl, hv, hk⟩
      go_wp2_with fail
      go_ret2
      exact ⟨v, rfl, hv, hk⟩

theorem clear1_eq (F : Fla) (k : Int) : F.clear1 k = if F.blank (k * 256) 256 then (F, 0) else F.erase k := rfl
theorem clearTo_succ (F : Fla) (b : Int) (k : Nat) : F.clearTo b (k + 1) = if (F.clearTo b k).2 ≠ 0 then F.clearTo b k else (F.clearTo b k).1.clear1 (b + k) := rfl
theorem clearTo_stop {F : Fla} {b : Int} {k : Nat} (h : (F.clearTo b k).2 ≠ 0) : ∀ j, F.clearTo b (k + j) = F.clearTo b k
  | 0 => rfl
  | j + 1 => by
    have ih := clearTo_stop h j
    rw [← Nat.add_assoc, clearTo_succ, ih, if_pos h]

set_option maxRecDepth 100000 in
set_option maxHeartbeats 1000000 in
theorem slotclear_calls {w : World} {p q : Nat} {F : Fla} (h : FlaAt w p q F) (s : Int) (hs : s = 0 ∨ s = 1) :
    Calls Try.prog 77 #[.pointer (some ⟨p, 0, none⟩), .int .i64 s] w (FPost w p q (F.slotClear s).1 (.int .i64 (F.slotClear s).2)) := by
  have hC : F.slotClear s = F.clearTo (2 + s * 2) 2 := rfl
  generalize F.slotClear s = R at *
  have HC := Lib.hid hC
  clear hC
  go_enter Try.func77, Try.ntmps77
  go_wp2_with fail
  go_loopw [8] (fun i wr => ∃ (k : Nat) (G : Fla), k ≤ 2 ∧ i = .int .i64 k ∧ F.clearTo (2 + s * 2) k = (G, 0) ∧ FlaAt wr p q G ∧ Keeps [p, q] w wr) (fun i _ => 2 - (intOf i).toNat)
  case atStart => exact ⟨0, F, by omega, rfl, rfl, h, Keeps.refl _ _⟩
  case round =>
    clear h
    obtain ⟨k, G, hk, rfl, hT, hF, hK⟩ := hrel
    by_cases hlt : k < 2
    · have hsucc := clearTo_succ F (2 + s * 2) k
      rw [hT] at hsucc
      simp only [ne_eq, not_true_eq_false, ↓reduceIte] at hsucc
      have hB := fun w1 (h1 : FlaAt w1 p q G) => blank_calls h1 ((2 + s * 2 + k) * 256) 256
      have hE := fun w1 (h1 : FlaAt w1 p q G) => erase_calls h1 (2 + s * 2 + k)
      have hc1 := clear1_eq G (2 + s * 2 + k)
      have hstop := fun h => clearTo_stop (F := F) (b := 2 + s * 2) (k := k + 1) h (1 - k)
      rw [show k + 1 + (1 - k) = 2 from by omega, ← HC.out] at hstop
      rw [hsucc] at hstop
      have hf := fun w1 => first_calls (w := w1) s hs
      have hs2 : 2 + s * 2 + (k : Int) ≤ 5 ∧ 2 ≤ 2 + s * 2 + (k : Int) := by omega
      generalize hM : 2 + s * 2 + (k : Int) = M at *
      have hM0 : (2 + s * 2) + (k : Int) = M := hM
      have Hsucc := Lib.hid hsucc
      have HB := Lib.hid hB
      have HE := Lib.hid hE
      have Hstop := Lib.hid hstop
      have Hf := Lib.hid hf
      have HF := Lib.hid hF
      have HK := Lib.hid hK
      clear hsucc hB hE hstop hf hF hK hT
      cases hbl : G.blank (M * 256) 256
      · rw [hbl] at hc1
        simp only [Bool.false_eq_true, ↓reduceIte] at hc1
        rw [hc1] at Hsucc Hstop
        generalize G.erase M = r at *
        obtain ⟨G2, z⟩ := r
        have HB2 := Lib.hid (fun w1 h1 => by have := HB.out w1 h1; rw [hbl] at this; exact this)
        clear hbl hc1 HB
        go_wp2_with fail
        refine (Hf.out _).mono ?_
        rintro e w' ⟨rfl, rfl⟩
        go_wp2_with fail
        refine (HB2.out _ HF.out).mono ?_
        rintro e w1 ⟨rfl, hk1⟩
        have hF1 := HF.out.keeps hk1 (by simp) (by simp)
        have HE1 := Lib.hid (HE.out w1 hF1)
        clear HE HB2 hF1
        by_cases hz : z = 0
        · subst hz
          clear Hstop
          go_wp2_with fail
          refine HE1.out.mono ?_
          rintro e w2 ⟨rfl, hF2, hk2⟩
          have HF2 := Lib.hid hF2
          have HK2 := Lib.hid (((HK.out.trans hk1.nil).trans hk2))
          clear hF2 hk1 hk2
          go_wp2_with fail
          go_roundw
          case rel => exact ⟨k + 1, G2, by omega, by go_num, Hsucc.out, HF2.out, HK2.out⟩
          case measure => simp [intOf]; omega
        · have hzb : (z == 0) = false := by simpa using hz
          have HR := Lib.hid (Hstop.out hz)
          clear Hstop hz
          go_wp2_with fail
          refine HE1.out.mono ?_
          rintro e w2 ⟨rfl, hF2, hk2⟩
          have HF2 := Lib.hid hF2
          have HK2 := Lib.hid (((HK.out.trans hk1.nil).trans hk2))
          clear hF2 hk1 hk2
          go_wp2_with fail
          go_ret
          rw [HR.out]
          exact ⟨rfl, HF2.out, HK2.out⟩
      · rw [hbl] at hc1
        simp only [↓reduceIte] at hc1
        rw [hc1] at Hsucc
        have HB2 := Lib.hid (fun w1 h1 => by have := HB.out w1 h1; rw [hbl] at this; exact this)
        clear hbl hc1 HB HE Hstop
        go_wp2_with fail
        refine (Hf.out _).mono ?_
        rintro e w' ⟨rfl, rfl⟩
        go_wp2_with fail
        refine (HB2.out _ HF.out).mono ?_
        rintro e w1 ⟨rfl, hk1⟩
        have HF2 := Lib.hid (HF.out.keeps hk1 (by simp) (by simp))
        have HK2 := Lib.hid (HK.out.trans hk1.nil)
        clear hk1
        go_wp2_with fail
        go_roundw
        case rel => exact ⟨k + 1, G, by omega, by go_num, Hsucc.out, HF2.out, HK2.out⟩
        case measure => simp [intOf]; omega
    · obtain rfl : k = 2 := by omega
      rw [← HC.out] at hT
      have HT := Lib.hid hT
      have HF := Lib.hid hF
      have HK := Lib.hid hK
      clear hT hF hK
      go_wp2_with fail
      go_ret
      rw [HT.out]
      exact ⟨rfl, HF.out, HK.out⟩

end Go.Proofs.Ythjojkkjdaoocaa
