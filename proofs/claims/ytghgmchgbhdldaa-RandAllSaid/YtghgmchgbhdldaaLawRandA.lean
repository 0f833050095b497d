/-
  LawRandA: the walk of RandAll.
-/
import Derived.Test.YtghgmchgbhdldaaLawRand0
set_option linter.unusedVariables false
set_option linter.unusedSimpArgs false
namespace Go.Proofs.Ytghgmchgbhdldaa
open Go.RowKit

theorem some_out (s : UInt32) (n k : Int) (h : n < 0 ∨ 256 < n) : rsome s n k = [] := by unfold rsome; rw [if_pos (by omega)]
theorem some_range (s : UInt32) (n : Nat) (h : n ≤ 256) : rsome s n n = List.range n := by
  by_cases h0 : n = 0
  · subst h0; unfold rsome; rw [if_pos (by omega)]; rfl
  · have := some_all s n (by omega) (by omega)
    rwa [show ((n : Int)).toNat = n from by omega] at this
theorem some_none (s : UInt32) (n : Nat) (k : Int) (h : n ≤ 256) (hk : k ≤ 0) : rsome s n k = [] := by
  by_cases h0 : n = 0
  · subst h0; unfold rsome; rw [if_pos (by omega)]
  · have h1 := (some_props s n k (by omega) (by omega)).1
    have : clampK n k = 0 := by unfold clampK; omega
    rw [this] at h1
    exact List.length_eq_zero_iff.1 h1

set_option maxRecDepth 100000 in
set_option maxHeartbeats 2000000 in
theorem randAll_walk {w : World} (a : Int) (ha : (Lit.int .u32 a).wf = true) (b : Int) (hb : (Lit.int .u32 b).wf = true) (z : Int) (hz : (Lit.int .i64 z).wf = true) :
    Calls Try.prog 13 #[.int .u32 a, .int .u32 b, .int .i64 z] w (TrueKeep w) := by
  obtain ⟨a, rfl⟩ := u32_of ha
  obtain ⟨b, rfl⟩ := u32_of hb
  have hN := fun w => randnew_calls (w := w) a b
  generalize rseed a b = S at *
  have HN := Lib.hid hN
  clear hN
  by_cases hout : z < 0 ∨ 256 < z
  · have h1 : ∀ s, rsome s z z = [] := fun s => some_out s z z hout
    have h3 : ∀ s, rsome s z 3 = [] := fun s => some_out s z 3 hout
    have hC1 := fun (w' : World) (p : Nat) (s : UInt32) (h : SrcAt w' p s) => some_any h z z
    have hC3 := fun (w' : World) (p : Nat) (s : UInt32) (h : SrcAt w' p s) => some_any h z 3
    simp only [h1] at hC1
    simp only [h3] at hC3
    have HC1 := Lib.hid hC1
    have HC3 := Lib.hid hC3
    clear h1 h3 hC1 hC3
    have key : (z < 0) ∨ (¬ z < 0 ∧ 256 < z) := by omega
    clear hout
    rcases key with hz0 | ⟨hz0, hz1⟩
    all_goals
      go_enter Try.func13, Try.ntmps13
      go_wp2_with fail
      refine (HN.out _).mono ?_
      rintro e w1 ⟨p, rfl, hp, hS, hk1⟩
      go_wp2_with fail
      refine (HC1.out _ _ _ hS).mono ?_
      rintro e w2 ⟨v2, rfl, hI2, hS2, hk2⟩
      obtain ⟨a2, c2, rfl, _⟩ := hI2
      go_wp2_with fail
      refine (HC3.out _ _ _ hS2).mono ?_
      rintro e w3 ⟨v3, rfl, hI3, hS3, hk3⟩
      obtain ⟨a3, c3, rfl, _⟩ := hI3
      have hK : Keeps [] w w3 := (hk1.trans' (T := []) hk2 (by simp) (by simp; omega)).trans' hk3 (by simp) (by simp; omega)
      go_wp2_with fail
      refine awake4.mono ?_
      rintro e w4 ⟨rfl, hk4⟩
      go_wp2_with fail
      go_ret
      exact ⟨rfl, hK.trans hk4⟩
  obtain ⟨n, rfl⟩ : ∃ n : Nat, z = n := ⟨z.toNat, by omega⟩
  have hn : n ≤ 256 := by omega
  have hC1 := fun (w' : World) (p : Nat) (s : UInt32) (h : SrcAt w' p s) => some_any h (n : Int) (n : Int)
  have hC2 := fun (w' : World) (p : Nat) (s : UInt32) (h : SrcAt w' p s) => some_any h (n : Int) 0
  have hC3 := fun (w' : World) (p : Nat) (s : UInt32) (h : SrcAt w' p s) => some_any h (n : Int) (-1)
  simp only [fun s => some_range s n hn] at hC1
  simp only [fun s => some_none s n 0 hn (by omega)] at hC2
  simp only [fun s => some_none s n (-1) hn (by omega)] at hC3
  have HC1 := Lib.hid hC1
  have HC2 := Lib.hid hC2
  have HC3 := Lib.hid hC3
  clear hC1 hC2 hC3 hout
  go_enter Try.func13, Try.ntmps13
  go_wp2_with fail
  refine (HN.out _).mono ?_
  rintro e w1 ⟨p, rfl, hp, hS, hk1⟩
  go_wp2_with fail
  refine (HC1.out _ _ _ hS).mono ?_
  rintro e w2 ⟨v2, rfl, hI2, hS2, hk2⟩
  obtain ⟨a2, c2, rfl, hI2'⟩ := hI2
  rw [List.length_range]
  have HI2 : Hid (IsInts w2 w1.heap.size (.slice a2 (List.range n).length c2) (List.range n)) := Lib.hid ⟨a2, c2, rfl, hI2'⟩
  have hK2 : Keeps [] w w2 := hk1.trans' (T := []) hk2 (by simp) (by simp; omega)
  clear hI2' hS hk1 hk2
  go_wp2_with fail
  go_loopw [39] (fun i wr => ∃ j : Nat, j ≤ n ∧ i = .int .i64 j ∧ wr = w2) (fun i _ => n - (intOf i).toNat)
  case atStart => exact ⟨0, by omega, rfl, rfl⟩
  case round =>
    obtain ⟨j, hj, rfl, rfl⟩ := hrel
    by_cases hlt : j < n
    · obtain ⟨a', c', he, hc', hcm', hcells⟩ := HI2.out
      simp only [Value.slice.injEq] at he
      obtain ⟨rfl, _, rfl⟩ := he
      obtain ⟨g, rfl, _, hx⟩ := hcells j (by rw [List.length_range]; exact hlt)
      have hr : (List.range n).getD j 0 = j := by rw [List.getD, List.getElem?_range hlt]; rfl
      rw [hr] at hx
      have i0 : (0 : Int) ≤ (j : Int) := by omega
      have i1 : (j : Int) < (n : Int) := by omega
      clear hcells hr
      go_wp2_with fail
      go_roundw
      case rel => exact ⟨j + 1, by omega, by go_num, trivial⟩
      case measure => simp [intOf]; omega
    · have : j = n := by omega
      subst this
      go_wp2_with fail
      refine (HC2.out _ _ _ hS2).mono ?_
      rintro e w3 ⟨v3, rfl, hI3, hS3, hk3⟩
      obtain ⟨a3, c3, rfl, _⟩ := hI3
      go_wp2_with fail
      refine (HC3.out _ _ _ hS3).mono ?_
      rintro e w4 ⟨v4, rfl, hI4, hS4, hk4⟩
      obtain ⟨a4, c4, rfl, _⟩ := hI4
      have hK : Keeps [] w w4 := (hK2.trans' (T := []) hk3 (by simp) (by simp; omega)).trans' hk4 (by simp) (by simp; omega)
      go_wp2_with fail
      refine awake4.mono ?_
      rintro e w5 ⟨rfl, hk5⟩
      go_wp2_with fail
      go_ret
      exact ⟨rfl, hK.trans hk5⟩

end Go.Proofs.Ytghgmchgbhdldaa
