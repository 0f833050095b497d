/-
  LawRandS: the walk of RandSome.
-/
import Derived.Test.YtghgmchgbhdldaaLawRand0
set_option linter.unusedVariables false
set_option linter.unusedSimpArgs false
namespace Go.Proofs.Ytghgmchgbhdldaa
open Go.RowKit

theorem Rising.lt {l : List Nat} {n : Nat} (h : Rising l n) {i : Nat} (hi : i < l.length) : l.getD i 0 < n := by
  rw [List.getD, List.getElem?_eq_getElem hi]
  exact h.2 _ (List.getElem_mem hi)

theorem Rising.step {l : List Nat} {n : Nat} (h : Rising l n) {i : Nat} (hi : i + 1 < l.length) : l.getD i 0 < l.getD (i + 1) 0 := by
  rw [List.getD, List.getD, List.getElem?_eq_getElem hi, List.getElem?_eq_getElem (by omega)]
  exact List.pairwise_iff_getElem.1 h.1 i (i + 1) (by omega) hi (by omega)

theorem some_law (S : UInt32) (n k : Nat) (hn : n ≤ 256) : (rsome S n k).length = min n k ∧ Rising (rsome S n k) n := by
  by_cases h0 : n = 0
  · subst h0
    have : rsome S (0 : Nat) k = [] := by unfold rsome; rw [if_pos (by omega)]
    rw [this]
    exact ⟨by simp, by simp [Rising]⟩
  · obtain ⟨h1, h2⟩ := some_props S n k (by omega) (by omega)
    rw [show ((n : Int)).toNat = n from by omega] at h2
    exact ⟨by rw [h1]; unfold clampK; omega, h2⟩

set_option maxRecDepth 100000 in
set_option maxHeartbeats 2000000 in
theorem randSome_walk {w : World} (a : Int) (ha : (Lit.int .u32 a).wf = true) (b : Int) (hb : (Lit.int .u32 b).wf = true) (y : Int) (hy : (Lit.int .i64 y).wf = true) (z : Int) (hz : (Lit.int .i64 z).wf = true) :
    Calls Try.prog 10 #[.int .u32 a, .int .u32 b, .int .i64 y, .int .i64 z] w (TrueKeep w) := by
  obtain ⟨a, rfl⟩ := u32_of ha
  obtain ⟨b, rfl⟩ := u32_of hb
  obtain ⟨n, hn, hu1, hu2⟩ := umod y 257 (by omega) (by omega)
  obtain ⟨k, hk, hv1, hv2⟩ := umod z 300 (by omega) (by omega)
  have hN := fun w => randnew_calls (w := w) a b
  generalize rseed a b = S at *
  obtain ⟨hlen, hris⟩ := some_law S n k (by omega)
  have hmi : ((rsome S n k).length : Int) = min (n : Int) (k : Int) := by omega
  have hl256 : (rsome S n k).length ≤ 256 := by omega
  have hSo := fun (w' : World) (p : Nat) (h : SrcAt w' p S) => some_any h (n : Int) (k : Int)
  generalize rsome S n k = L at *
  generalize rsomeSt S n k = S' at *
  have HSo := Lib.hid hSo
  have Hris := Lib.hid hris
  have HN := Lib.hid hN
  have Hmi := Lib.hid hmi
  clear hN hSo hlen hris hmi
  go_enter Try.func10, Try.ntmps10
  go_wp2_with fail
  refine (HN.out _).mono ?_
  rintro e w1 ⟨p, rfl, hp, hS, hk1⟩
  go_wp2_with fail
  refine (HSo.out _ _ hS).mono ?_
  rintro e w2 ⟨v2, rfl, hI2, _, hk2⟩
  have hpl := hS.ltp
  obtain ⟨a2, c2, rfl, hI2'⟩ := hI2
  have HI2 : Hid (IsInts w2 w1.heap.size (.slice a2 L.length c2) L) := Lib.hid ⟨a2, c2, rfl, hI2'⟩
  have hK2 : Keeps [] w w2 := hk1.trans' hk2 (by simp) (by simp; omega)
  have hs1 := hk1.size
  have hs2 := hk2.size
  clear hI2' hS hk1 hk2 hu1 hu2 hv1 hv2
  have hmb : ((L.length : Int) != min (n : Int) (k : Int)) = false := by rw [← Hmi.out]; simp
  go_wp2_with fail
  refine (HN.out _).mono ?_
  rintro e w3 ⟨q, rfl, hq, hT, hk3⟩
  go_wp2_with fail
  refine (HSo.out _ _ hT).mono ?_
  rintro e w4 ⟨v4, rfl, hI4, _, hk4⟩
  have hI24 := HI2.out.keeps (hk3.trans' (T := []) hk4 (by simp) (by simp; omega)) (by simp)
  obtain ⟨a4, c4, rfl, hI4'⟩ := hI4
  have HI4 : Hid (IsInts w4 w3.heap.size (.slice a4 L.length c4) L) := Lib.hid ⟨a4, c4, rfl, hI4'⟩
  have hK4 : Keeps [] w w4 := (hK2.trans hk3).trans' hk4 (by simp) (by simp; omega)
  clear hI4' hT hk3 hk4 HI2
  go_wp2_with fail
  refine (same_calls hI24 HI4.out (by omega) (by omega)).mono ?_
  rintro e w5 ⟨rfl, hk5⟩
  rw [show (L == L) = true from by simp]
  have hI5 := hI24.keeps hk5 (by simp)
  have hK5 := hK4.trans hk5
  clear hI24 hK4 hk5 HI4
  go_wp2_with fail
  go_loopw [45] (fun i wr => ∃ j : Nat, j ≤ L.length ∧ i = .int .i64 j ∧ IsInts wr w1.heap.size (.slice a2 L.length c2) L ∧ Keeps [] w wr) (fun i _ => L.length - (intOf i).toNat)
  case atStart => exact ⟨0, by omega, rfl, hI5, hK5⟩
  case round =>
    clear hI5 hK5 hmb
    obtain ⟨j, hj, rfl, hI, hK⟩ := hrel
    have HI := Lib.hid hI
    by_cases hlt : j < L.length
    · obtain ⟨a', c', he, hc', hcm', hcells⟩ := hI
      simp only [Value.slice.injEq] at he
      obtain ⟨rfl, _, rfl⟩ := he
      obtain ⟨g, rfl, _, hx⟩ := hcells j hlt
      have hlow := Hris.out.lt hlt
      have i0 : (0 : Int) ≤ (j : Int) := by omega
      have i1 : (j : Int) < (L.length : Int) := by omega
      have HK := Lib.hid hK
      clear hK
      by_cases hj0 : j = 0
      · subst hj0
        clear hcells
        generalize L.getD 0 0 = x at *
        have i2 : (x : Int) < (n : Int) := by omega
        go_wp2_with fail
        go_roundw
        case rel => exact ⟨1, by omega, rfl, HI.out, HK.out⟩
        case measure => simp [intOf]; omega
      · obtain ⟨i, rfl⟩ : ∃ i, j = i + 1 := ⟨j - 1, by omega⟩
        obtain ⟨g', hg', _, hy'⟩ := hcells i (by omega)
        simp only [Option.some.injEq, Addr.mk.injEq] at hg'
        obtain ⟨rfl, _⟩ := hg'
        have hst := Hris.out.step hlt
        clear hcells
        generalize L.getD (i + 1) 0 = x at *
        generalize L.getD i 0 = u at *
        have i2 : (x : Int) < (n : Int) := by omega
        have i3 : (u : Int) < (x : Int) := by omega
        go_wp2_with fail
        go_roundw
        case rel => exact ⟨i + 2, by omega, by go_num, HI.out, HK.out⟩
        case measure => simp [intOf]; omega
    · have : j = L.length := by omega
      subst this
      clear hI
      go_wp2_with fail
      refine awake4.mono ?_
      rintro e w6 ⟨rfl, hk6⟩
      go_wp2_with fail
      go_ret
      exact ⟨rfl, hK.trans hk6⟩

end Go.Proofs.Ytghgmchgbhdldaa
