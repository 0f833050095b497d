/-
  SlotWr: package slot, walked: Write.
-/
import Derived.Test.YthjojkkjdaoocaaSlotW
set_option linter.unusedVariables false
set_option linter.unusedSimpArgs false
namespace Go.Proofs.Ythjojkkjdaoocaa
open Go.RowKit
attribute [local go_sem ↓] Go.wp_at_zero Go.wp_at_succ

set_option maxRecDepth 100000 in
set_option maxHeartbeats 4000000 in
theorem slotwrite_calls {w : World} {p q : Nat} {F : Fla} (h : FlaAt w p q F) (s : Int) (A : Option Addr) (c : Nat) (b : List UInt8) (hb : Rd w A b) (ha : ∀ x, A = some x → b ≠ [] → x.block ∉ [p, q]) :
    Calls Try.prog 48 #[.pointer (some ⟨p, 0, none⟩), .int .i64 s, .slice A b.length c] w (FPost w p q (F.slotWrite s b).1 (.int .i64 (F.slotWrite s b).2)) := by
  have hmay := fun w1 => may_calls (w := w1) A c b
  by_cases hs : s = 0 ∨ s = 1
  · cases hm : mayB b
    · have e : F.slotWrite s b = (F, 1) := by unfold Fla.slotWrite; rw [if_pos (.inr hm)]
      rw [e]
      have Hmay := Lib.hid (fun w1 => by have := hmay w1; rw [hm] at this; exact this)
      have H := Lib.hid h
      clear e hmay hm h hb ha
      rcases hs with rfl | rfl
      · go_enter Try.func48, Try.ntmps48
        go_wp2_with fail
        refine (Hmay.out _).mono ?_
        rintro e w' ⟨rfl, rfl⟩
        go_wp2_with fail
        go_ret
        exact ⟨rfl, H.out, Keeps.refl _ _⟩
      · go_enter Try.func48, Try.ntmps48
        go_wp2_with fail
        refine (Hmay.out _).mono ?_
        rintro e w' ⟨rfl, rfl⟩
        go_wp2_with fail
        go_ret
        exact ⟨rfl, H.out, Keeps.refl _ _⟩
    have Hmay := Lib.hid (fun w1 => by have := hmay w1; rw [hm] at this; exact this)
    have hdn := down_calls h
    clear hmay
    by_cases hd : F.down = true
    · have e : F.slotWrite s b = (F, 11) := by unfold Fla.slotWrite; rw [if_neg (by intro h; rcases h with h | h; exact absurd hs (by omega); rw [hm] at h; cases h), if_pos hd]
      rw [e]
      rw [hd] at hdn
      have Hd := Lib.hid hdn
      have H := Lib.hid h
      clear e hm h hb ha hdn hd
      rcases hs with rfl | rfl
      · go_enter Try.func48, Try.ntmps48
        go_wp2_with fail
        refine (Hmay.out _).mono ?_
        rintro e w' ⟨rfl, rfl⟩
        go_wp2_with fail
        refine (Hd.out).mono ?_
        rintro e w' ⟨rfl, rfl⟩
        go_wp2_with fail
        go_ret
        exact ⟨rfl, H.out, Keeps.refl _ _⟩
      · go_enter Try.func48, Try.ntmps48
        go_wp2_with fail
        refine (Hmay.out _).mono ?_
        rintro e w' ⟨rfl, rfl⟩
        go_wp2_with fail
        refine (Hd.out).mono ?_
        rintro e w' ⟨rfl, rfl⟩
        go_wp2_with fail
        go_ret
        exact ⟨rfl, H.out, Keeps.refl _ _⟩
    rw [show F.down = false from by simpa using hd] at hdn
    have Hd := Lib.hid hdn
    clear hdn
    have hs0 := hs
    rcases hs0 with rfl | rfl
    · have hf : ∀ w1 : World, Calls Try.prog 78 #[.int .i64 0] w1 fun e w' => e = .returned (.int .i64 2) ∧ w1 = w' := fun w1 => first_calls (w := w1) 0 (by omega)
      have hW : F.slotWrite 0 b = if (F.slotClear 0).2 ≠ 0 then F.slotClear 0
          else if ((F.slotClear 0).1.program 512 b).2 ≠ 0 then (F.slotClear 0).1.program 512 b
          else (((F.slotClear 0).1.program 512 b).1, if ((((F.slotClear 0).1.program 512 b).1).slotRead 0 b.length).2 = 0 ∧ ((((F.slotClear 0).1.program 512 b).1).slotRead 0 b.length).1 ≠ b then 13 else ((((F.slotClear 0).1.program 512 b).1).slotRead 0 b.length).2) := by
        unfold Fla.slotWrite
        rw [if_neg (by simp [hm]), if_neg hd]
        rfl
      have hC := fun w1 (h1 : FlaAt w1 p q F) => slotclear_calls h1 0 (by omega)
      generalize F.slotClear 0 = R at *
      obtain ⟨G, z⟩ := R
      dsimp only at hW hC
      have HC := Lib.hid hC
      have Hf := Lib.hid hf
      have H := Lib.hid h
      have Hb := Lib.hid hb
      have Ha := Lib.hid ha
      clear hC hf h hb ha hm hs hd
      by_cases hz : z = 0
      · subst hz
        rw [if_neg (by simp)] at hW
        have hP := fun w1 (h1 : FlaAt w1 p q G) (hb1 : Rd w1 A b) => program_calls h1 512 A c b hb1 Ha.out
        generalize G.program 512 b = R2 at *
        obtain ⟨G2, z2⟩ := R2
        dsimp only at hW hP
        have HP := Lib.hid hP
        clear hP
        by_cases hz2 : z2 = 0
        · subst hz2
          rw [if_neg (by simp)] at hW
          have hRd := fun w1 (h1 : FlaAt w1 p q G2) => slotread_calls h1 0 b.length
          have hlen : (G2.slotRead 0 b.length).1.length ≤ 3584 ∨ ¬ G2.b.length = 3584 := by
            by_cases hG : G2.b.length = 3584
            · left
              unfold Fla.slotRead
              split
              · simp
              · exact G2.read_len _ _ hG
            · right; exact hG
          generalize G2.slotRead 0 b.length = R3 at *
          obtain ⟨L, z3⟩ := R3
          unfold ReadPost at hRd
          dsimp only at hW hRd hlen
          have HRd := Lib.hid hRd
          have HW := Lib.hid hW
          have Hlen := Lib.hid hlen
          clear hRd hW hlen
          go_enter Try.func48, Try.ntmps48
          go_wp2_with fail
          refine (Hmay.out _).mono ?_
          rintro e w' ⟨rfl, rfl⟩
          go_wp2_with fail
          refine (Hd.out).mono ?_
          rintro e w' ⟨rfl, rfl⟩
          go_wp2_with fail
          refine (HC.out _ H.out).mono ?_
          rintro e w2 ⟨rfl, hF2, hk2⟩
          have HF2 := Lib.hid hF2
          clear hF2
          go_wp2_with fail
          refine (Hf.out _).mono ?_
          rintro e w' ⟨rfl, rfl⟩
          go_wp2_with fail
          refine (HP.out _ HF2.out (Hb.out.keeps hk2 Ha.out)).mono ?_
          rintro e w3 ⟨rfl, hF3, hk3⟩
          have HF3 := Lib.hid hF3
          have hb3 : Rd w3 A b := (Hb.out.keeps hk2 Ha.out).keeps hk3 Ha.out
          have HK3 := Lib.hid (hk2.trans hk3)
          clear hF3 hk2 hk3
          go_wp2_with fail
          refine (HRd.out _ HF3.out).mono ?_
          rintro e w4 ⟨v4, rfl, hv4, hk4⟩
          have hl4 : L.length ≤ 3584 := by
            rcases Hlen.out with h | h
            · exact h
            · exact absurd HF3.out.len h
          have HF4 := Lib.hid (HF3.out.keeps hk4 (by simp) (by simp))
          have HK4 := Lib.hid (HK3.out.trans hk4.nil)
          obtain ⟨a4, k4, rfl, _, hrd4, _, _, _⟩ := hv4.rd
          have hQ := equal_calls (w := w4) a4 L.length k4 L A b.length c b hrd4 rfl (hb3.keepsNil hk4) rfl (by omega)
          have HQ := Lib.hid hQ
          clear hQ hv4 hrd4 hb3 hk4 hl4
          by_cases hz3 : z3 = 0
          · subst hz3
            by_cases hLb : L = b
            · have HQ2 := Lib.hid (show Calls Try.prog 79 #[.slice a4 L.length k4, .slice A b.length c] w4 (EqPost w4 true) from by have := HQ.out; rwa [decide_eq_true hLb] at this)
              have HW2 := Lib.hid (show F.slotWrite 0 b = (G2, 0) from by rw [HW.out, if_neg (by simp [hLb])])
              clear HQ HW hLb
              go_wp2_with fail
              refine HQ2.out.mono ?_
              rintro e w5 ⟨rfl, hk5⟩
              go_wp2_with fail
              go_ret
              rw [HW2.out]
              exact ⟨rfl, HF4.out.keeps hk5 (by simp) (by simp), HK4.out.trans hk5.nil⟩
            · have HQ2 := Lib.hid (show Calls Try.prog 79 #[.slice a4 L.length k4, .slice A b.length c] w4 (EqPost w4 false) from by have := HQ.out; rwa [decide_eq_false hLb] at this)
              have HW2 := Lib.hid (show F.slotWrite 0 b = (G2, 13) from by rw [HW.out, if_pos ⟨rfl, hLb⟩])
              clear HQ HW hLb
              go_wp2_with fail
              refine HQ2.out.mono ?_
              rintro e w5 ⟨rfl, hk5⟩
              go_wp2_with fail
              go_ret
              rw [HW2.out]
              exact ⟨rfl, HF4.out.keeps hk5 (by simp) (by simp), HK4.out.trans hk5.nil⟩
          · have hzb : (z3 == 0) = false := by simpa using hz3
            have HW2 := Lib.hid (show F.slotWrite 0 b = (G2, z3) from by rw [HW.out, if_neg (fun h => hz3 h.1)])
            clear HQ HW
            go_wp2_with fail
            go_ret
            rw [HW2.out]
            exact ⟨rfl, HF4.out, HK4.out⟩
        · rw [if_pos hz2] at hW
          have hzb : (z2 == 0) = false := by simpa using hz2
          have HW := Lib.hid hW
          clear hW
          go_enter Try.func48, Try.ntmps48
          go_wp2_with fail
          refine (Hmay.out _).mono ?_
          rintro e w' ⟨rfl, rfl⟩
          go_wp2_with fail
          refine (Hd.out).mono ?_
          rintro e w' ⟨rfl, rfl⟩
          go_wp2_with fail
          refine (HC.out _ H.out).mono ?_
          rintro e w2 ⟨rfl, hF2, hk2⟩
          have HF2 := Lib.hid hF2
          clear hF2
          go_wp2_with fail
          refine (Hf.out _).mono ?_
          rintro e w' ⟨rfl, rfl⟩
          go_wp2_with fail
          refine (HP.out _ HF2.out (Hb.out.keeps hk2 Ha.out)).mono ?_
          rintro e w3 ⟨rfl, hF3, hk3⟩
          have HF3 := Lib.hid hF3
          clear hF3
          go_wp2_with fail
          go_ret
          rw [HW.out]
          exact ⟨rfl, HF3.out, hk2.trans hk3⟩
      · rw [if_pos hz] at hW
        have hzb : (z == 0) = false := by simpa using hz
        have HW := Lib.hid hW
        clear hW
        go_enter Try.func48, Try.ntmps48
        go_wp2_with fail
        refine (Hmay.out _).mono ?_
        rintro e w' ⟨rfl, rfl⟩
        go_wp2_with fail
        refine (Hd.out).mono ?_
        rintro e w' ⟨rfl, rfl⟩
        go_wp2_with fail
        refine (HC.out _ H.out).mono ?_
        rintro e w2 ⟨rfl, hF2, hk2⟩
        have HF2 := Lib.hid hF2
        clear hF2
        go_wp2_with fail
        go_ret
        rw [HW.out]
        exact ⟨rfl, HF2.out, hk2⟩
    · have hf : ∀ w1 : World, Calls Try.prog 78 #[.int .i64 1] w1 fun e w' => e = .returned (.int .i64 4) ∧ w1 = w' := fun w1 => first_calls (w := w1) 1 (by omega)
      have hW : F.slotWrite 1 b = if (F.slotClear 1).2 ≠ 0 then F.slotClear 1
          else if ((F.slotClear 1).1.program 1024 b).2 ≠ 0 then (F.slotClear 1).1.program 1024 b
          else (((F.slotClear 1).1.program 1024 b).1, if ((((F.slotClear 1).1.program 1024 b).1).slotRead 1 b.length).2 = 0 ∧ ((((F.slotClear 1).1.program 1024 b).1).slotRead 1 b.length).1 ≠ b then 13 else ((((F.slotClear 1).1.program 1024 b).1).slotRead 1 b.length).2) := by
        unfold Fla.slotWrite
        rw [if_neg (by simp [hm]), if_neg hd]
        rfl
      have hC := fun w1 (h1 : FlaAt w1 p q F) => slotclear_calls h1 1 (by omega)
      generalize F.slotClear 1 = R at *
      obtain ⟨G, z⟩ := R
      dsimp only at hW hC
      have HC := Lib.hid hC
      have Hf := Lib.hid hf
      have H := Lib.hid h
      have Hb := Lib.hid hb
      have Ha := Lib.hid ha
      clear hC hf h hb ha hm hs hd
      by_cases hz : z = 0
      · subst hz
        rw [if_neg (by simp)] at hW
        have hP := fun w1 (h1 : FlaAt w1 p q G) (hb1 : Rd w1 A b) => program_calls h1 1024 A c b hb1 Ha.out
        generalize G.program 1024 b = R2 at *
        obtain ⟨G2, z2⟩ := R2
        dsimp only at hW hP
        have HP := Lib.hid hP
        clear hP
        by_cases hz2 : z2 = 0
        · subst hz2
          rw [if_neg (by simp)] at hW
          have hRd := fun w1 (h1 : FlaAt w1 p q G2) => slotread_calls h1 1 b.length
          have hlen : (G2.slotRead 1 b.length).1.length ≤ 3584 ∨ ¬ G2.b.length = 3584 := by
            by_cases hG : G2.b.length = 3584
            · left
              unfold Fla.slotRead
              split
              · simp
              · exact G2.read_len _ _ hG
            · right; exact hG
          generalize G2.slotRead 1 b.length = R3 at *
          obtain ⟨L, z3⟩ := R3
          unfold ReadPost at hRd
          dsimp only at hW hRd hlen
          have HRd := Lib.hid hRd
          have HW := Lib.hid hW
          have Hlen := Lib.hid hlen
          clear hRd hW hlen
          go_enter Try.func48, Try.ntmps48
          go_wp2_with fail
          refine (Hmay.out _).mono ?_
          rintro e w' ⟨rfl, rfl⟩
          go_wp2_with fail
          refine (Hd.out).mono ?_
          rintro e w' ⟨rfl, rfl⟩
          go_wp2_with fail
          refine (HC.out _ H.out).mono ?_
          rintro e w2 ⟨rfl, hF2, hk2⟩
          have HF2 := Lib.hid hF2
          clear hF2
          go_wp2_with fail
          refine (Hf.out _).mono ?_
          rintro e w' ⟨rfl, rfl⟩
          go_wp2_with fail
          refine (HP.out _ HF2.out (Hb.out.keeps hk2 Ha.out)).mono ?_
          rintro e w3 ⟨rfl, hF3, hk3⟩
          have HF3 := Lib.hid hF3
          have hb3 : Rd w3 A b := (Hb.out.keeps hk2 Ha.out).keeps hk3 Ha.out
          have HK3 := Lib.hid (hk2.trans hk3)
          clear hF3 hk2 hk3
          go_wp2_with fail
          refine (HRd.out _ HF3.out).mono ?_
          rintro e w4 ⟨v4, rfl, hv4, hk4⟩
          have hl4 : L.length ≤ 3584 := by
            rcases Hlen.out with h | h
            · exact h
            · exact absurd HF3.out.len h
          have HF4 := Lib.hid (HF3.out.keeps hk4 (by simp) (by simp))
          have HK4 := Lib.hid (HK3.out.trans hk4.nil)
          obtain ⟨a4, k4, rfl, _, hrd4, _, _, _⟩ := hv4.rd
          have hQ := equal_calls (w := w4) a4 L.length k4 L A b.length c b hrd4 rfl (hb3.keepsNil hk4) rfl (by omega)
          have HQ := Lib.hid hQ
          clear hQ hv4 hrd4 hb3 hk4 hl4
          by_cases hz3 : z3 = 0
          · subst hz3
            by_cases hLb : L = b
            · have HQ2 := Lib.hid (show Calls Try.prog 79 #[.slice a4 L.length k4, .slice A b.length c] w4 (EqPost w4 true) from by have := HQ.out; rwa [decide_eq_true hLb] at this)
              have HW2 := Lib.hid (show F.slotWrite 1 b = (G2, 0) from by rw [HW.out, if_neg (by simp [hLb])])
              clear HQ HW hLb
              go_wp2_with fail
              refine HQ2.out.mono ?_
              rintro e w5 ⟨rfl, hk5⟩
              go_wp2_with fail
              go_ret
              rw [HW2.out]
              exact ⟨rfl, HF4.out.keeps hk5 (by simp) (by simp), HK4.out.trans hk5.nil⟩
            · have HQ2 := Lib.hid (show Calls Try.prog 79 #[.slice a4 L.length k4, .slice A b.length c] w4 (EqPost w4 false) from by have := HQ.out; rwa [decide_eq_false hLb] at this)
              have HW2 := Lib.hid (show F.slotWrite 1 b = (G2, 13) from by rw [HW.out, if_pos ⟨rfl, hLb⟩])
              clear HQ HW hLb
              go_wp2_with fail
              refine HQ2.out.mono ?_
              rintro e w5 ⟨rfl, hk5⟩
              go_wp2_with fail
              go_ret
              rw [HW2.out]
              exact ⟨rfl, HF4.out.keeps hk5 (by simp) (by simp), HK4.out.trans hk5.nil⟩
          · have hzb : (z3 == 0) = false := by simpa using hz3
            have HW2 := Lib.hid (show F.slotWrite 1 b = (G2, z3) from by rw [HW.out, if_neg (fun h => hz3 h.1)])
            clear HQ HW
            go_wp2_with fail
            go_ret
            rw [HW2.out]
            exact ⟨rfl, HF4.out, HK4.out⟩
        · rw [if_pos hz2] at hW
          have hzb : (z2 == 0) = false := by simpa using hz2
          have HW := Lib.hid hW
          clear hW
          go_enter Try.func48, Try.ntmps48
          go_wp2_with fail
          refine (Hmay.out _).mono ?_
          rintro e w' ⟨rfl, rfl⟩
          go_wp2_with fail
          refine (Hd.out).mono ?_
          rintro e w' ⟨rfl, rfl⟩
          go_wp2_with fail
          refine (HC.out _ H.out).mono ?_
          rintro e w2 ⟨rfl, hF2, hk2⟩
          have HF2 := Lib.hid hF2
          clear hF2
          go_wp2_with fail
          refine (Hf.out _).mono ?_
          rintro e w' ⟨rfl, rfl⟩
          go_wp2_with fail
          refine (HP.out _ HF2.out (Hb.out.keeps hk2 Ha.out)).mono ?_
          rintro e w3 ⟨rfl, hF3, hk3⟩
          have HF3 := Lib.hid hF3
          clear hF3
          go_wp2_with fail
          go_ret
          rw [HW.out]
          exact ⟨rfl, HF3.out, hk2.trans hk3⟩
      · rw [if_pos hz] at hW
        have hzb : (z == 0) = false := by simpa using hz
        have HW := Lib.hid hW
        clear hW
        go_enter Try.func48, Try.ntmps48
        go_wp2_with fail
        refine (Hmay.out _).mono ?_
        rintro e w' ⟨rfl, rfl⟩
        go_wp2_with fail
        refine (Hd.out).mono ?_
        rintro e w' ⟨rfl, rfl⟩
        go_wp2_with fail
        refine (HC.out _ H.out).mono ?_
        rintro e w2 ⟨rfl, hF2, hk2⟩
        have HF2 := Lib.hid hF2
        clear hF2
        go_wp2_with fail
        go_ret
        rw [HW.out]
        exact ⟨rfl, HF2.out, hk2⟩
  · have h0 : ¬ s = 0 := fun h => hs (.inl h)
    have h1 : ¬ s = 1 := fun h => hs (.inr h)
    have e : F.slotWrite s b = (F, 1) := by unfold Fla.slotWrite; rw [if_pos (.inl ⟨h0, h1⟩)]
    rw [e]
    have H := Lib.hid h
    clear e hmay h hb ha hs
    go_enter Try.func48, Try.ntmps48
    go_wp2_with fail
    go_ret
    exact ⟨rfl, H.out, Keeps.refl _ _⟩

end Go.Proofs.Ythjojkkjdaoocaa
