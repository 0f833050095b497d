/-
  LawWears: the walk of FlashWears.
-/
import Derived.Test.YthjojkkjdaoocaaLaw16
namespace Go.Proofs.Ythjojkkjdaoocaa
open Go.RowKit

structure WearInv (s W k : Nat) (G : Fla) : Prop where
  down : G.down = false
  fused : G.fused = false
  er : G.er = (List.replicate 14 (0 : Int)).set s k
  wear : G.wear = W
  steps : G.steps = k

theorem Fla.step_free {G : Fla} (hd : G.down = false) (hf : G.fused = false) : G.step.down = false := by simp [Fla.step, hd, hf]

theorem wear_erase {s W k : Nat} {G : Fla} (h : WearInv s W k G) (hs : s < 14) (hk : k < W) (hW : W ≤ 50) : (G.erase s).2 = 0 ∧ WearInv s W (k + 1) (G.erase s).1 := by
  have hg : G.er.getD s 0 = k := by rw [h.er]; simp [List.getD, hs]
  have hsd := Fla.step_free h.down h.fused
  have e : G.erase s = (({ G.step with er := G.er.set s (wrap64 (G.er.getD s 0 + 1)) } : Fla).fill (s * 256) 256, 0) := by
    unfold Fla.erase
    rw [if_neg (by simp [h.down]), if_neg (by omega), if_neg (by rw [Int.toNat_natCast, hg, h.wear]; omega)]
    simp only [Int.toNat_natCast]
    rw [if_neg (by simp [hsd])]
  rw [e]
  refine ⟨rfl, ⟨hsd, h.fused, ?_, h.wear, ?_⟩⟩
  · show G.er.set s _ = _
    rw [hg, h.er, List.set_set, IntWalk.wrap64_in _ (by omega)]
    rfl
  · show wrap64 (G.steps + 1) = _
    rw [h.steps, IntWalk.wrap64_in _ (by omega)]
    rfl

theorem wear_new (s W : Nat) (hW : 1 ≤ W ∧ W ≤ 50) : WearInv s W 0 (Fla.new W) := by
  refine ⟨rfl, rfl, ?_, ?_, rfl⟩
  · show List.replicate 14 (0 : Int) = _
    apply List.ext_getElem
    · simp
    · intro i h1 h2
      simp only [List.getElem_replicate, List.getElem_set]
      split <;> simp
  · show max 1 (min (W : Int) 10000) = W
    omega

theorem wear_worn {s W : Nat} {G : Fla} (h : WearInv s W W G) (hs : s < 14) : G.erase s = (G, 10) := by
  have hg : G.er.getD s 0 = W := by rw [h.er]; simp [List.getD, hs]
  unfold Fla.erase
  rw [if_neg (by simp [h.down]), if_neg (by omega), if_pos (by rw [Int.toNat_natCast, hg, h.wear]; omega)]

theorem wear_other {s W t : Nat} {G : Fla} (h : WearInv s W W G) (ht : t < 14) (hst : t ≠ s) (hW : 1 ≤ W ∧ W ≤ 50) : (G.erase t).2 = 0 ∧ (G.erase t).1.steps = W + 1 := by
  have hg : G.er.getD t 0 = 0 := by rw [h.er, List.getD, List.getElem?_set_ne (Ne.symm hst), List.getElem?_replicate, if_pos ht]; rfl
  have hsd := Fla.step_free h.down h.fused
  have e : G.erase t = (({ G.step with er := G.er.set t (wrap64 (G.er.getD t 0 + 1)) } : Fla).fill (t * 256) 256, 0) := by
    unfold Fla.erase
    rw [if_neg (by simp [h.down]), if_neg (by omega), if_neg (by rw [Int.toNat_natCast, hg, h.wear]; omega)]
    simp only [Int.toNat_natCast]
    rw [if_neg (by simp [hsd])]
  rw [e]
  refine ⟨rfl, ?_⟩
  show wrap64 (G.steps + 1) = _
  rw [h.steps, IntWalk.wrap64_in _ (by omega)]

set_option maxRecDepth 100000 in
set_option maxHeartbeats 400000 in
theorem flashWears_walk {w : World} (a : Int) (_ : (Lit.int .i64 a).wf = true) (n : Int) (_ : (Lit.int .i64 n).wf = true) : Calls Try.prog 4 #[.int .i64 a, .int .i64 n] w (TrueKeep w) := by
  obtain ⟨x, hx, e1, _⟩ := umod a 50 (by omega) (by omega)
  obtain ⟨s, hs, e2, _⟩ := umod n 14 (by omega) (by omega)
  replace hs : s < 14 := by omega
  obtain ⟨W, hW0⟩ : ∃ W : Nat, W = x + 1 := ⟨_, rfl⟩
  have e3 : 1 + (x : Int) = (W : Int) := by omega
  have hW1 : 1 ≤ W := by omega
  have hW2 : W ≤ 50 := by omega
  clear hW0
  go_enter Try.func4, Try.ntmps4
  go_wp2_with fail
  refine (new_calls W).mono ?_
  rintro e w1 ⟨p, q, rfl, hp, hq, hF, hK⟩
  go_wp2_with fail
  go_loopw [18] (fun i wr => ∃ (k : Nat) (G : Fla), k ≤ W ∧ i = .int .i64 k ∧ WearInv s W k G ∧ FlaAt wr p q G ∧ Keeps [p, q] w wr) (fun i _ => W - (intOf i).toNat)
  case atStart => exact ⟨0, _, Nat.zero_le _, rfl, wear_new s W (by omega), hF, hK.nil⟩
  case round =>
    obtain ⟨k, G, hk, rfl, hI, hG, hKw⟩ := hrel
    by_cases hlt : k < W
    · have hE := wear_erase hI hs hlt hW2
      go_wp2_with fail
      refine (erase_calls hG s).mono ?_
      rintro e w2 ⟨rfl, hG2, hK2⟩
      rw [hE.1]
      have hI2 := hE.2
      generalize (G.erase s).1 = G2 at hI2 hG2
      clear hE
      go_wp2_with fail
      go_roundw
      case rel => exact ⟨k + 1, G2, by omega, by go_num, hI2, hG2, hKw.trans hK2⟩
      case measure => simp [intOf]; omega
    · obtain rfl : k = W := by omega
      have hE := wear_worn hI hs
      obtain ⟨t, ht⟩ : ∃ t : Nat, t = (s + 1) % 14 := ⟨_, rfl⟩
      have hO := wear_other (t := t) hI (by omega) (by omega) (by omega)
      have et : ((s : Int) + 1) % 14 = (t : Int) := by omega
      have hes : G.erases s = k := by
        unfold Fla.erases
        rw [if_neg (by omega), hI.er, Int.toNat_natCast, List.getD, List.getElem?_set_self (by rw [List.length_replicate]; exact hs)]
        rfl
      clear ht hI
      go_wp2_with fail
      refine (erase_calls hG s).mono ?_
      rw [hE]
      rintro e w2 ⟨rfl, hG2, hK2⟩
      go_wp2_with fail
      refine (erases_calls hG2 s).mono ?_
      rintro e w' ⟨rfl, rfl⟩
      rw [hes]
      go_wp2_with fail
      refine (erase_calls hG2 t).mono ?_
      rintro e w3 ⟨rfl, hG3, hK3⟩
      rw [hO.1]
      have hst := hO.2
      generalize (G.erase t).1 = G3 at hst hG3
      clear hO hG2
      go_wp2_with fail
      refine (steps_calls hG3).mono ?_
      rintro e w' ⟨rfl, rfl⟩
      rw [hst]
      clear hst
      go_wp2_with fail
      refine awake16.mono ?_
      rintro e wa ⟨rfl, hKa⟩
      have hka := ((hKw.trans hK2).trans hK3).trans hKa.nil
      go_wp2_with fail
      go_ret
      exact ⟨rfl, hka.mono (by simp [hp, hq])⟩

end Go.Proofs.Ythjojkkjdaoocaa
