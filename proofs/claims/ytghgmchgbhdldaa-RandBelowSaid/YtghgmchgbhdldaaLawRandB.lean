/-
  LawRandB: the walk of RandBelow.
-/
import Derived.Test.YtghgmchgbhdldaaLawRand0
set_option linter.unusedVariables false
set_option linter.unusedSimpArgs false
namespace Go.Proofs.Ytghgmchgbhdldaa
open Go.RowKit

theorem rlow_one (s : UInt32) : rlow s 1 = 0 := by have := rlow_lt s (m := 1) (by omega); omega

set_option maxRecDepth 100000 in
set_option maxHeartbeats 2000000 in
theorem randBelow_walk {w : World} (a : Int) (ha : (Lit.int .u32 a).wf = true) (b : Int) (hb : (Lit.int .u32 b).wf = true) (z : Int) (hz : (Lit.int .i64 z).wf = true) :
    Calls Try.prog 11 #[.int .u32 a, .int .u32 b, .int .i64 z] w (TrueKeep w) := by
  obtain ⟨a, rfl⟩ := u32_of ha
  obtain ⟨b, rfl⟩ := u32_of hb
  obtain ⟨n, hn, hu1, hu2⟩ := umod z 2147483648 (by omega) (by omega)
  have hN := fun w => randnew_calls (w := w) a b
  generalize rseed a b = S at *
  have HN := Lib.hid hN
  have hbe0 : ∀ st, rbelow st (1 + (n : Int)) = (((rlow st (n + 1) : Nat) : Int), rstep st) := fun st => by
    unfold rbelow
    rw [if_neg (by omega), show (1 + (n : Int)).toNat = n + 1 from by omega]
  have hwf : (Lit.int .i64 (1 + (n : Int))).wf = true := WalkArith.wf_i64 (by omega)
  have hwf2 : (Lit.int .i64 (-(1 + (n : Int)))).wf = true := WalkArith.wf_i64 (by omega)
  have hneg : wrap64 (-(1 + (n : Int))) = -(1 + (n : Int)) := IntWalk.wrap64_in _ (by omega)
  have hneg2 : IntKind.i64.wrap (-(1 + (n : Int))) = -(1 + (n : Int)) := IntWalk.i64_in _ (by omega)
  have HBE := Lib.hid hbe0
  have HWF := Lib.hid hwf
  have HWF2 := Lib.hid hwf2
  have HNEG := Lib.hid hneg
  have HNEG2 := Lib.hid hneg2
  clear hN hbe0 hwf hwf2 hneg hneg2
  go_enter Try.func11, Try.ntmps11
  go_wp2_with fail
  refine (HN.out _).mono ?_
  rintro e w1 ⟨p, rfl, hp, hS, hk1⟩
  go_wp2_with fail
  refine (HN.out _).mono ?_
  rintro e w2 ⟨q, rfl, hq, hT, hk2⟩
  have hS2 := hS.keeps hk2 (by simp)
  have hpl := hS.ltp
  have hs1 := hk1.size
  have hpq : p ≠ q ∧ w.heap.size ≤ p ∧ w.heap.size ≤ q := by omega
  have hK := (hk1.trans hk2).nil (S := [p, q])
  clear hS hk1 hk2 hp hq hpl hs1
  go_wp2_with fail
  clear hn
  go_loopw [21] (fun i wr => ∃ (j : Nat) (st : UInt32), j ≤ 20 ∧ i = .int .i64 j ∧ SrcAt wr p st ∧ SrcAt wr q st ∧ Keeps [p, q] w wr) (fun i _ => 20 - (intOf i).toNat)
  case atStart => exact ⟨0, S, by omega, rfl, hS2, hT, hK⟩
  case round =>
    clear hS2 hT hK hu1 hu2
    obtain ⟨j, st, hj, rfl, hS, hT, hK⟩ := hrel
    by_cases hlt : j < 20
    · have hbe := HBE.out st
      have hlow := rlow_lt st (m := n + 1) (by omega)
      have hC1 := below_calls hS (1 + (n : Int)) HWF.out
      rw [hbe] at hC1
      have hC2 := fun (w' : World) (h : SrcAt w' q st) => below_calls h (1 + (n : Int)) HWF.out
      rw [hbe] at hC2
      have hql := hT.ltp
      have hpl := hS.ltp
      generalize rlow st (n + 1) = x at *
      have HC1 := Lib.hid hC1
      have HC2 := Lib.hid hC2
      clear hbe hC1 hC2
      have i0 : (0 : Int) ≤ (x : Int) := by omega
      have i1 : (x : Int) < 1 + (n : Int) := by omega
      have d1 : decide ((x : Int) < 0) = false := by simp
      have d2 : decide (1 + (n : Int) ≤ (x : Int)) = false := by simp; omega
      have I1 := Lib.hid i1
      clear i1 i0
      have HL := Lib.hid hlow
      clear hlow
      go_wp2_with fail
      refine HC1.out.mono ?_
      rintro e w3 ⟨rfl, hS3, hk3⟩
      have hT3 := hT.keeps hk3 (by simp; omega)
      have hs3 := hk3.size
      clear HC1 hS hT
      go_wp2_with fail
      refine (HN.out _).mono ?_
      rintro e w4 ⟨r, rfl, hr, hR, hk4⟩
      go_wp2_with fail
      refine (next_calls hR).mono ?_
      rintro e w5 ⟨rfl, hR5, hk5⟩
      have hS5 := (hS3.keeps hk4 (by simp)).keeps hk5 (by simp; omega)
      have hT5 := (hT3.keeps hk4 (by simp)).keeps hk5 (by simp; omega)
      have hK5 : Keeps [p, q] w w5 := ((hK.trans (hk3.mono (by simp))).trans hk4.nil).trans' hk5 (fun _ h => .inl h) (by have := hK.size; simp; omega)
      clear hR hR5 hS3 hT3 hk3 hk4 hk5 hK
      go_wp2_with fail
      refine (HC2.out _ hT5).mono ?_
      rintro e w6 ⟨rfl, hT6, hk6⟩
      have hS6 := hS5.keeps hk6 (by simp; omega)
      clear HC2 hT5 hS5
      go_wp2_with fail
      go_roundw
      case rel => exact ⟨j + 1, rstep st, by omega, by go_num, hS6, hT6, hK5.trans (hk6.mono (by simp))⟩
      case measure => simp [intOf]; omega
    · have : j = 20 := by omega
      subst this
      have hb1 : rbelow st 1 = (0, rstep st) := by
        unfold rbelow
        rw [if_neg (by omega), show (1 : Int).toNat = 1 from rfl, rlow_one]; rfl
      have hb2 : ∀ t, rbelow t 0 = (0, t) := fun t => by unfold rbelow; rw [if_pos (by omega)]
      have hb3 : ∀ t, rbelow t (-(1 + (n : Int))) = (0, t) := fun t => by unfold rbelow; rw [if_pos (by omega)]
      have hC1 := below_calls hS 1 (by decide)
      rw [hb1] at hC1
      have hC2 := fun (w' : World) (t : UInt32) (h : SrcAt w' p t) => below_calls h 0 (by decide)
      have hC3 := fun (w' : World) (t : UInt32) (h : SrcAt w' p t) => below_calls h (-(1 + (n : Int))) HWF2.out
      simp only [hb2] at hC2
      simp only [hb3] at hC3
      have HC1 := Lib.hid hC1
      have HC2 := Lib.hid hC2
      have HC3 := Lib.hid hC3
      clear hb1 hb2 hb3 hT hC1 hC2 hC3
      go_wp2_with fail
      refine HC1.out.mono ?_
      rintro e w3 ⟨rfl, hS3, hk3⟩
      go_wp2_with fail
      refine (HC2.out _ _ hS3).mono ?_
      rintro e w4 ⟨rfl, hS4, hk4⟩
      have hneg := HNEG.out
      have hneg2 := HNEG2.out
      go_wp2_with fail
      clear hneg hneg2
      refine (HC3.out _ _ hS4).mono ?_
      rintro e w5 ⟨rfl, hS5, hk5⟩
      have hK5 : Keeps [p, q] w w5 := ((hK.trans (hk3.mono (by simp))).trans (hk4.mono (by simp))).trans (hk5.mono (by simp))
      go_wp2_with fail
      refine awake4.mono ?_
      rintro e w6 ⟨rfl, hk6⟩
      go_wp2_with fail
      go_ret
      exact ⟨rfl, (hK5.mono (by simp; omega)).trans hk6⟩

end Go.Proofs.Ytghgmchgbhdldaa
