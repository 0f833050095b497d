/-
  RefSl: the reference's slots, walked: clear, place, ReadSlot, WriteSlot.
-/
import Derived.Test.YthjojkkjdaoocaaSlotW
import Derived.Test.YthjojkkjdaoocaaRefN2
import Derived.Test.YthjojkkjdaoocaaSlot
set_option linter.unusedVariables false
set_option linter.unusedSimpArgs false
namespace Go.Proofs.Ythjojkkjdaoocaa
open Go.RowKit
attribute [local go_sem ↓] Go.wp_at_zero Go.wp_at_succ

set_option maxRecDepth 100000 in
theorem rclear_calls {w : World} {p q : Nat} {F : Fla} (h : RfAt w p q F) (k : Int) (hk : 0 ≤ k ∧ k ≤ 100) :
    Calls Try.prog 86 #[.pointer (some ⟨p, 0, none⟩), .int .i64 k] w (RPost w p q (F.clear1 k).1 (.int .i64 (F.clear1 k).2)) := by
  have hB := rblank_calls h (k * 256) 256
  have hE := fun w1 (h1 : RfAt w1 p q F) => rerase_calls h1 k
  have hc1 := clear1_eq F k
  cases hbl : F.blank (k * 256) 256
  · rw [hbl] at hc1 hB
    simp only [Bool.false_eq_true, ↓reduceIte] at hc1
    rw [hc1]
    generalize F.erase k = r at *
    obtain ⟨G, z⟩ := r
    have HB := Lib.hid hB
    have HE := Lib.hid hE
    have H := Lib.hid h
    clear hB hE h hbl hc1
    go_enter Try.func86, Try.ntmps86
    go_wp2_with fail
    refine HB.out.mono ?_
    rintro e w1 ⟨rfl, hk1⟩
    go_wp2_with fail
    refine (HE.out w1 (H.out.keeps hk1 (by simp) (by simp))).mono ?_
    rintro e w2 ⟨rfl, hF2, hk2⟩
    go_wp2_with fail
    go_ret
    exact ⟨rfl, hF2, hk1.nil.trans hk2⟩
  · rw [hbl] at hc1 hB
    simp only [↓reduceIte] at hc1
    rw [hc1]
    have HB := Lib.hid hB
    have H := Lib.hid h
    clear hB hE h hbl hc1
    go_enter Try.func86, Try.ntmps86
    go_wp2_with fail
    refine HB.out.mono ?_
    rintro e w1 ⟨rfl, hk1⟩
    go_wp2_with fail
    go_ret
    exact ⟨rfl, H.out.keeps hk1 (by simp) (by simp), hk1.nil⟩

set_option maxRecDepth 100000 in
theorem rplace_calls {w : World} (s : Int) (hs : s = 0 ∨ s = 1) : Calls Try.prog 87 #[.int .i64 s] w fun e w' => e = .returned (.int .i64 ((2 + s * 2) * 256)) ∧ w = w' := by
  rcases hs with rfl | rfl
  all_goals
    go_enter Try.func87, Try.ntmps87
    go_wp2_with fail
    go_ret
    exact ⟨rfl, rfl⟩

set_option maxRecDepth 100000 in
set_option maxHeartbeats 1000000 in
theorem rslotread_calls {w : World} {p q : Nat} {F : Fla} (h : RfAt w p q F) (s n : Int) :
    Calls Try.prog 56 #[.pointer (some ⟨p, 0, none⟩), .int .i64 s, .int .i64 n] w (ReadPost w (F.slotRead s n)) := by
  by_cases hb : (s ≠ 0 ∧ s ≠ 1) ∨ n < 0 ∨ n > 512
  · have e : F.slotRead s n = ([], 1) := by unfold Fla.slotRead; rw [if_pos hb]
    rw [e]
    clear e h
    by_cases h0 : s < 0
    · clear hb
      go_enter Try.func56, Try.ntmps56
      go_wp2_with fail
      go_ret2
      exact ⟨_, rfl, Own.nil _ _, Keeps.refl _ _⟩
    by_cases h1 : 1 < s
    · clear hb
      go_enter Try.func56, Try.ntmps56
      go_wp2_with fail
      go_ret2
      exact ⟨_, rfl, Own.nil _ _, Keeps.refl _ _⟩
    by_cases hn : n < 0
    · clear hb
      go_enter Try.func56, Try.ntmps56
      go_wp2_with fail
      go_ret2
      exact ⟨_, rfl, Own.nil _ _, Keeps.refl _ _⟩
    have hn2 : 512 < n := by omega
    clear hb
    go_enter Try.func56, Try.ntmps56
    go_wp2_with fail
    go_ret2
    exact ⟨_, rfl, Own.nil _ _, Keeps.refl _ _⟩
  · have e : F.slotRead s n = F.read ((2 + s * 2) * 256) n := by unfold Fla.slotRead; rw [if_neg hb]
    rw [e]
    have hs : s = 0 ∨ s = 1 := by omega
    have hn1 : ¬ n < 0 := by omega
    have hn2 : ¬ 512 < n := by omega
    have hf := rplace_calls (w := w) s hs
    have hR := rread_calls h ((2 + s * 2) * 256) n
    generalize F.read ((2 + s * 2) * 256) n = r at *
    have hs0 : ¬ s < 0 := by omega
    have hs1 : ¬ 1 < s := by omega
    generalize (2 + s * 2) * 256 = P at *
    have HR := Lib.hid hR
    have Hf := Lib.hid hf
    clear hR hf h hb hs e
    go_enter Try.func56, Try.ntmps56
    go_wp2_with fail
    refine Hf.out.mono ?_
    rintro e w' ⟨rfl, rfl⟩
    go_wp2_with fail
    refine HR.out.mono ?_
    rintro e w1 ⟨v, rfl, hv, hk⟩
    go_wp2_with fail
    go_ret2
    exact ⟨v, rfl, hv, hk⟩

set_option maxRecDepth 100000 in
set_option maxHeartbeats 4000000 in
theorem rslotwrite_calls {w : World} {p q : Nat} {F : Fla} (h : RfAt w p q F) (s : Int) (A : Option Addr) (c : Nat) (b : List UInt8) (hb : Rd w A b) (hb0 : A = none → b = [] ∧ c = 0) (ha : ∀ x, A = some x → b ≠ [] → x.block ∉ [p, q]) :
    Calls Try.prog 55 #[.pointer (some ⟨p, 0, none⟩), .int .i64 s, .slice A b.length c] w (RPost w p q (F.slotWrite s b).1 (.int .i64 (F.slotWrite s b).2)) := by
  by_cases hs0 : s < 0
  · have e : F.slotWrite s b = (F, 1) := by unfold Fla.slotWrite; rw [if_pos (.inl (by omega))]
    rw [e]
    have H := Lib.hid h
    clear e h hb ha
    go_enter Try.func55, Try.ntmps55
    go_wp2_with fail
    go_ret
    exact ⟨rfl, H.out, Keeps.refl _ _⟩
  by_cases hs1 : 1 < s
  · have e : F.slotWrite s b = (F, 1) := by unfold Fla.slotWrite; rw [if_pos (.inl (by omega))]
    rw [e]
    have H := Lib.hid h
    clear e h hb ha
    go_enter Try.func55, Try.ntmps55
    go_wp2_with fail
    go_ret
    exact ⟨rfl, H.out, Keeps.refl _ _⟩
  by_cases hl0 : b.length < 1
  · have e : F.slotWrite s b = (F, 1) := by unfold Fla.slotWrite; rw [if_pos (.inr (by unfold mayB; simp; omega))]
    rw [e]
    have H := Lib.hid h
    clear e h hb ha
    go_enter Try.func55, Try.ntmps55
    go_wp2_with fail
    go_ret
    exact ⟨rfl, H.out, Keeps.refl _ _⟩
  by_cases hl1 : 512 < b.length
  · have e : F.slotWrite s b = (F, 1) := by unfold Fla.slotWrite; rw [if_pos (.inr (by unfold mayB; simp; omega))]
    rw [e]
    have H := Lib.hid h
    clear e h hb ha
    go_enter Try.func55, Try.ntmps55
    go_wp2_with fail
    go_ret
    exact ⟨rfl, H.out, Keeps.refl _ _⟩
  have hm : mayB b = true := by unfold mayB; simp; omega
  have hs : s = 0 ∨ s = 1 := by omega
  obtain ⟨z, hz, h0⟩ := h
  have c16 := h0.down
  have h : RfAt w p q F := ⟨z, hz, h0⟩
  have H := Lib.hid h
  clear hz h0 h
  by_cases hd : F.down = true
  · have e : F.slotWrite s b = (F, 11) := by unfold Fla.slotWrite; rw [if_neg (by intro h; rcases h with h | h; exact absurd hs (by omega); rw [hm] at h; cases h), if_pos hd]
    rw [e]
    rw [hd] at c16
    clear e hb ha hm hs hd
    go_enter Try.func55, Try.ntmps55
    go_wp2_with fail
    go_ret
    exact ⟨rfl, H.out, Keeps.refl _ _⟩
  rw [show F.down = false from by simpa using hd] at c16
  have hW : F.slotWrite s b = if (F.slotClear s).2 ≠ 0 then F.slotClear s
      else if ((F.slotClear s).1.program ((2 + s * 2) * 256) b).2 ≠ 0 then (F.slotClear s).1.program ((2 + s * 2) * 256) b
      else (((F.slotClear s).1.program ((2 + s * 2) * 256) b).1, if ((((F.slotClear s).1.program ((2 + s * 2) * 256) b).1).slotRead s b.length).2 = 0 ∧ ((((F.slotClear s).1.program ((2 + s * 2) * 256) b).1).slotRead s b.length).1 ≠ b then 13 else ((((F.slotClear s).1.program ((2 + s * 2) * 256) b).1).slotRead s b.length).2) := by
    unfold Fla.slotWrite
    rw [if_neg (by intro h; rcases h with h | h; exact absurd hs (by omega); rw [hm] at h; cases h), if_neg hd]
  have hC : F.slotClear s = F.clearTo (2 + s * 2) 2 := rfl
  generalize F.slotClear s = R at *
  generalize F.slotWrite s b = V at *
  have HC := Lib.hid hC
  have HW := Lib.hid hW
  have Hb := Lib.hid hb
  have Ha := Lib.hid ha
  have Hb0 := Lib.hid hb0
  clear hC hW hb ha hm hd hb0
  go_enter Try.func55, Try.ntmps55
  go_wp2_with fail
  go_loopw [32] (fun i wr => ∃ (k : Nat) (G : Fla), k ≤ 2 ∧ i = .int .i64 k ∧ F.clearTo (2 + s * 2) k = (G, 0) ∧ RfAt wr p q G ∧ Keeps [p, q] w wr) (fun i _ => 2 - (intOf i).toNat)
  case atStart => exact ⟨0, F, by omega, rfl, rfl, H.out, Keeps.refl _ _⟩
  case round =>
    clear H c16
    obtain ⟨k, G, hk, rfl, hT, hF, hK⟩ := hrel
    by_cases hlt : k < 2
    · have hsucc := clearTo_succ F (2 + s * 2) k
      rw [hT] at hsucc
      simp only [ne_eq, not_true_eq_false, ↓reduceIte] at hsucc
      have hstop := fun h => clearTo_stop (F := F) (b := 2 + s * 2) (k := k + 1) h (1 - k)
      rw [show k + 1 + (1 - k) = 2 from by omega, ← HC.out] at hstop
      rw [hsucc] at hstop
      have hs2 : 2 + s * 2 + (k : Int) ≤ 5 ∧ 2 ≤ 2 + s * 2 + (k : Int) := by omega
      obtain ⟨M, hM⟩ : ∃ M, 2 + s * 2 + (k : Int) = M := ⟨_, rfl⟩
      rw [hM] at hsucc hstop hs2
      have hM0 : (2 + 2 * s) + (k : Int) = M := by omega
      have hCl := rclear_calls hF M (by omega)
      generalize G.clear1 M = r at *
      obtain ⟨G2, z⟩ := r
      have Hsucc := Lib.hid hsucc
      have Hstop := Lib.hid hstop
      have HCl := Lib.hid hCl
      have HK := Lib.hid hK
      clear hsucc hstop hCl hF hK hT hM hs
      by_cases hz : z = 0
      · subst hz
        clear Hstop
        go_wp2_with fail
        refine HCl.out.mono ?_
        rintro e w2 ⟨rfl, hF2, hk2⟩
        have HF2 := Lib.hid hF2
        have HK2 := Lib.hid (HK.out.trans hk2)
        clear hF2 hk2
        go_wp2_with fail
        go_roundw
        case rel => exact ⟨k + 1, G2, by omega, by go_num, Hsucc.out, HF2.out, HK2.out⟩
        case measure => simp [intOf]; omega
      · have hzb : (z == 0) = false := by simpa using hz
        have HR := Lib.hid (show V = (G2, z) from by rw [HW.out, Hstop.out hz, if_pos hz])
        clear Hstop hz
        go_wp2_with fail
        refine HCl.out.mono ?_
        rintro e w2 ⟨rfl, hF2, hk2⟩
        have HF2 := Lib.hid hF2
        have HK2 := Lib.hid (HK.out.trans hk2)
        clear hF2 hk2
        go_wp2_with fail
        go_ret
        rw [HR.out]
        exact ⟨rfl, HF2.out, HK2.out⟩
    · obtain rfl : k = 2 := by omega
      have hR : R = (G, 0) := HC.out.trans hT
      have hW := HW.out
      rw [hR, if_neg (by simp)] at hW
      dsimp only at hW
      have hpl := rplace_calls (w := wr) s hs
      generalize hPP : (2 + s * 2) * 256 = P at *
      have hP := fun (hb1 : Rd wr A b) => rprogram_calls hF P A c b hb1 Ha.out
      generalize G.program P b = R2 at *
      obtain ⟨G2, z2⟩ := R2
      dsimp only at hW hP
      have HP := Lib.hid hP
      have Hpl := Lib.hid hpl
      have HK := Lib.hid hK
      clear hP hpl hT hR hF HC HW hs hk hlt hPP
      have hb1 := Hb.out.keeps HK.out Ha.out
      by_cases hz2 : z2 = 0
      · subst hz2
        rw [if_neg (by simp)] at hW
        have hRd := fun w1 (h1 : RfAt w1 p q G2) => rslotread_calls h1 s b.length
        have hlen : (G2.slotRead s b.length).1.length ≤ 3584 ∨ ¬ G2.b.length = 3584 := by
          by_cases hG : G2.b.length = 3584
          · left
            unfold Fla.slotRead
            split
            · simp
            · exact G2.read_len _ _ hG
          · right; exact hG
        generalize G2.slotRead s b.length = R3 at *
        obtain ⟨L, z3⟩ := R3
        unfold ReadPost at hRd
        dsimp only at hW hRd hlen
        have HRd := Lib.hid hRd
        have HW := Lib.hid hW
        clear hRd hW hlen
        go_wp2_with fail
        refine Hpl.out.mono ?_
        rintro e w' ⟨rfl, rfl⟩
        go_wp2_with fail
        refine (HP.out hb1).mono ?_
        rintro e w3 ⟨rfl, hF3, hk3⟩
        have hb3 := hb1.keeps hk3 Ha.out
        have HF3 := Lib.hid hF3
        have HK3 := Lib.hid (HK.out.trans hk3)
        clear hF3 hk3 hb1
        go_wp2_with fail
        refine (HRd.out _ HF3.out).mono ?_
        rintro e w4 ⟨v4, rfl, hv4, hk4⟩
        have HF4 := Lib.hid (HF3.out.keeps hk4 (by simp) (by simp))
        have HK4 := Lib.hid (HK3.out.trans hk4.nil)
        have hst1 := hv4.sl.str
        have hst2 := str_run (w := w4) (a := A) b.length c (hb3.keepsNil hk4) rfl (fun h => (Hb0.out h).1)
        obtain ⟨a4, k4, rfl, _⟩ := hv4.cap
        clear hv4 hb3 hk4
        by_cases hz3 : z3 = 0
        · subst hz3
          by_cases hLb : L = b
          · have HW2 := Lib.hid (show V = (G2, 0) from by rw [HW.out, if_neg (by simp [hLb])])
            subst hLb
            clear HW
            go_wp2_with fail
            go_ret
            rw [HW2.out]
            exact ⟨rfl, HF4.out, HK4.out⟩
          · have HW2 := Lib.hid (show V = (G2, 13) from by rw [HW.out, if_pos ⟨rfl, hLb⟩])
            have hLbb : (L == b) = false := by simpa using hLb
            clear HW
            go_wp2_with fail
            go_ret
            rw [HW2.out]
            exact ⟨rfl, HF4.out, HK4.out⟩
        · have hzb : (z3 == 0) = false := by simpa using hz3
          have HW2 := Lib.hid (show V = (G2, z3) from by rw [HW.out, if_neg (fun h => hz3 h.1)])
          clear HW
          go_wp2_with fail
          go_ret
          rw [HW2.out]
          exact ⟨rfl, HF4.out, HK4.out⟩
      · rw [if_pos hz2] at hW
        have hzb : (z2 == 0) = false := by simpa using hz2
        have HW := Lib.hid hW
        clear hW
        go_wp2_with fail
        refine Hpl.out.mono ?_
        rintro e w' ⟨rfl, rfl⟩
        go_wp2_with fail
        refine (HP.out hb1).mono ?_
        rintro e w3 ⟨rfl, hF3, hk3⟩
        have HF3 := Lib.hid hF3
        have HK3 := Lib.hid (HK.out.trans hk3)
        clear hF3 hk3 hb1
        go_wp2_with fail
        go_ret
        rw [HW.out]
        exact ⟨rfl, HF3.out, HK3.out⟩

end Go.Proofs.Ythjojkkjdaoocaa
