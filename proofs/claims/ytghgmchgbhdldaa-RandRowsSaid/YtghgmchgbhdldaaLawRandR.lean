/-
  LawRandR: the walk of RandRows.
-/
import Derived.Test.YtghgmchgbhdldaaLawRand0
set_option linter.unusedVariables false
set_option linter.unusedSimpArgs false
namespace Go.Proofs.Ytghgmchgbhdldaa
open Go.RowKit

set_option maxRecDepth 100000 in
set_option maxHeartbeats 2000000 in
theorem randRows_walk {w : World} (a : Int) (ha : (Lit.int .u32 a).wf = true) (b : Int) (hb : (Lit.int .u32 b).wf = true) (y : Int) (hy : (Lit.int .i64 y).wf = true) (z : Int) (hz : (Lit.int .i64 z).wf = true) :
    Calls Try.prog 12 #[.int .u32 a, .int .u32 b, .int .i64 y, .int .i64 z] w (TrueKeep w) := by
  obtain ⟨a, rfl⟩ := u32_of ha
  obtain ⟨b, rfl⟩ := u32_of hb
  obtain ⟨n, hn, hu1, hu2⟩ := umod y 257 (by omega) (by omega)
  obtain ⟨k, hk, hv1, hv2⟩ := umod z 300 (by omega) (by omega)
  have hN := fun w => randnew_calls (w := w) a b
  generalize rseed a b = S at *
  obtain ⟨m, hm⟩ : ∃ m : Nat, m = min n k := ⟨_, rfl⟩
  have hst : rsomeSt S n k = stepN m S := by
    unfold rsomeSt clampK
    by_cases h : (n : Int) < 1 ∨ 256 < (n : Int)
    · rw [if_pos h, show m = 0 from by omega]; rfl
    · rw [if_neg h, show (max 0 (min (k : Int) (n : Int))).toNat = m from by omega]
  have hmi : min (n : Int) (k : Int) = (m : Int) := by omega
  have hmb : m ≤ 300 := by omega
  have Hmi := Lib.hid hmi
  have Hst := Lib.hid hst
  have HN := Lib.hid hN
  clear hN hst hmi hm
  go_enter Try.func12, Try.ntmps12
  go_wp2_with fail
  refine (HN.out _).mono ?_
  rintro e w1 ⟨p, rfl, hp, hS, hk1⟩
  go_wp2_with fail
  refine (HN.out _).mono ?_
  rintro e w2 ⟨q, rfl, hq, hT, hk2⟩
  have hS2 := hS.keeps hk2 (by simp)
  have hpl := hS.ltp
  have hs1 := hk1.size
  have hpq : p ≠ q ∧ w.heap.size ≤ p ∧ w.heap.size ≤ q := by omega
  have hK := (hk1.trans hk2).nil (S := [p, q])
  clear hS hk1 hk2 hp hq hpl hs1
  go_wp2_with fail
  refine (some_any hS2 n k).mono ?_
  rw [Hst.out]
  rintro e w3 ⟨v3, rfl, _, hS3, hk3⟩
  have hT3 := hT.keeps hk3 (by simp; omega)
  have hK3 := hK.trans (hk3.mono (T := [p, q]) (by simp))
  obtain ⟨fin, hfin⟩ : ∃ fin, stepN m S = fin := ⟨_, rfl⟩
  rw [hfin] at hS3
  have Hfin := Lib.hid hfin
  clear hfin hS2 hT hK hk3 hu1 hu2 hv1 hv2
  go_wp2_with fail
  rw [Hmi.out]
  go_loopw [32] (fun i wr => ∃ (j : Nat) (st : UInt32), j ≤ m ∧ i = .int .i64 j ∧ SrcAt wr p fin ∧ SrcAt wr q st ∧ stepN (m - j) st = fin ∧ Keeps [p, q] w wr) (fun i _ => m - (intOf i).toNat)
  case atStart => exact ⟨0, S, by omega, rfl, hS3, hT3, Hfin.out, hK3⟩
  case round =>
    clear hS3 hT3 hK3
    obtain ⟨j, st, hj, rfl, hS, hT, hf, hK⟩ := hrel
    have Hf := Lib.hid hf
    clear hf
    have hql := hT.ltp
    by_cases hlt : j < m
    · go_wp2_with fail
      refine (next_calls hT).mono ?_
      rintro e w4 ⟨rfl, hT4, hk4⟩
      have hS4 := hS.keeps hk4 (by simp; omega)
      go_wp2_with fail
      go_roundw
      case rel =>
        refine ⟨j + 1, rstep st, by omega, by go_num, hS4, hT4, ?_, hK.trans (hk4.mono (by simp))⟩
        have := Hf.out
        rw [show m - j = (m - (j + 1)) + 1 from (by omega)] at this; exact this
      case measure => simp [intOf]; omega
    · have : j = m := by omega
      subst this
      have hst : st = fin := by have := Hf.out; rwa [Nat.sub_self, stepN] at this
      subst hst
      clear Hf Hfin
      go_wp2_with fail
      refine (next_calls hS).mono ?_
      rintro e w4 ⟨rfl, hS4, hk4⟩
      have hT4 := hT.keeps hk4 (by simp; omega)
      go_wp2_with fail
      refine (next_calls hT4).mono ?_
      rintro e w5 ⟨rfl, hT5, hk5⟩
      have hS5 := hS4.keeps hk5 (by simp; omega)
      go_wp2_with fail
      refine (next_calls hS5).mono ?_
      rintro e w6 ⟨rfl, hS6, hk6⟩
      have hT6 := hT5.keeps hk6 (by simp; omega)
      go_wp2_with fail
      refine (next_calls hT6).mono ?_
      rintro e w7 ⟨rfl, hT7, hk7⟩
      have hK7 : Keeps [p, q] w w7 := (((hK.trans (hk4.mono (by simp))).trans (hk5.mono (by simp))).trans (hk6.mono (by simp))).trans (hk7.mono (by simp))
      go_wp2_with fail
      refine awake4.mono ?_
      rintro e w8 ⟨rfl, hk8⟩
      go_wp2_with fail
      go_ret
      exact ⟨rfl, (hK7.mono (by simp; omega)).trans hk8⟩

end Go.Proofs.Ytghgmchgbhdldaa
