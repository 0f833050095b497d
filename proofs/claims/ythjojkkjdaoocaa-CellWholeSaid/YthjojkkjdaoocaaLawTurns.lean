/-
  LawTurns: the walk of CellTurns.
-/
import Derived.Test.YthjojkkjdaoocaaLaw17
import Derived.Test.YthjojkkjdaoocaaMakeB
set_option linter.unusedVariables false
set_option linter.unusedSimpArgs false
namespace Go.Proofs.Ythjojkkjdaoocaa
open Go.RowKit

/-- Behind i writes of b. -/
structure TurnSt (b : List UInt8) (i : Nat) (F : Fla) : Prop where
  good : Good F
  fused : F.fused = false
  wear : F.wear = 100
  er : F.er = [((((i + 1) / 2 : Nat)) : Int), ((i / 2 : Nat) : Int), 0, 0, 0, 0, 0, 0, 0, 0, 0, 0, 0, 0]
  steps : F.steps = ((i * (12 + b.length) : Nat) : Int)
  st : (i = 0 ∧ Dead (secOf F.b 0) ∧ Dead (secOf F.b 1)) ∨ (1 ≤ i ∧ CellIs F ((i - 1) % 2) (UInt32.ofNat i) b)

theorem ofNat32 {i : Nat} (h : i < 1000000) : (UInt32.ofNat i).toNat = i := by
  rw [UInt32.toNat_ofNat']
  show i % 4294967296 = i
  omega

theorem ofNat32_succ {i : Nat} (h : i < 100000) : UInt32.ofNat i + 1 = UInt32.ofNat (i + 1) := by
  apply UInt32.toNat_inj.1
  have h1 := succ_toNat (cur := UInt32.ofNat i) (by rw [ofNat32 (by omega)]; omega)
  rw [h1, ofNat32 (i := i) (by omega), ofNat32 (i := i + 1) (by omega)]

theorem turn_first (b : List UInt8) : TurnSt b 0 (Fla.new 100) := ⟨new_good 100, rfl, by decide, rfl, by show (0 : Int) = _; simp, .inl ⟨rfl, new_dead 100 (by omega), new_dead 100 (by omega)⟩⟩

theorem turn_step {b : List UInt8} {i : Nat} {F : Fla} (h : TurnSt b i F) (hi : i < 40) (hb : b.length ≤ 245) : ∃ G, F.cellWrite b = (G, 0) ∧ TurnSt b (i + 1) G := by
  have hm : i * (12 + b.length) ≤ 39 * 257 := Nat.mul_le_mul (by omega) (by omega)
  have hst : ∀ G : Fla, G.steps = wrap64 (F.steps + (12 + b.length)) → G.steps = (((i + 1) * (12 + b.length) : Nat) : Int) := fun G hG => by
    rw [hG, h.steps, IntWalk.wrap64_in _ (by omega), Nat.succ_mul]; omega
  rcases h.st with ⟨rfl, h0, h1⟩ | ⟨h1, hc⟩
  · obtain ⟨G, k1, k2, k3, k4, k5⟩ := cell_first h.good h0 h1 (by rw [h.er, h.wear]; decide) h.fused b hb
    refine ⟨G, k1, k3, k2.fused.trans h.fused, k2.wear.trans h.wear, ?_, hst G k5, .inr ⟨by omega, k4⟩⟩
    rw [k2.er, h.er]; decide +kernel
  · have he : F.er.getD (1 - (i - 1) % 2) 0 < F.wear := by
      rw [h.er, h.wear]
      rcases Nat.mod_two_eq_zero_or_one (i - 1) with hp | hp <;> rw [hp]
      · show ((i / 2 : Nat) : Int) < 100
        omega
      · show (((i + 1) / 2 : Nat) : Int) < 100
        omega
    obtain ⟨G, k1, k2, k3, k4, k5⟩ := hc.writeCalm h.good h.fused he b hb (by rw [ofNat32 (by omega)]; omega)
    rw [ofNat32_succ (by omega)] at k4
    refine ⟨G, k1, k3, k2.fused.trans h.fused, k2.wear.trans h.wear, ?_, hst G k5, .inr ⟨by omega, ?_⟩⟩
    · rw [k2.er, h.er]
      rcases Nat.mod_two_eq_zero_or_one (i - 1) with hp | hp <;> rw [hp]
      · show [_, wrap64 (((i / 2 : Nat) : Int) + 1), _, _, _, _, _, _, _, _, _, _, _, _] = _
        rw [IntWalk.wrap64_in _ (by omega)]
        congr 1
        · omega
        · congr 1
          omega
      · show [wrap64 ((((i + 1) / 2 : Nat) : Int) + 1), _, _, _, _, _, _, _, _, _, _, _, _, _] = _
        rw [IntWalk.wrap64_in _ (by omega)]
        congr 1
        · omega
        · congr 1
          omega
    · have : 1 - (i - 1) % 2 = (i + 1 - 1) % 2 := by omega
      rw [this] at k4
      exact k4

theorem TurnSt.erases {b : List UInt8} {i : Nat} {F : Fla} (h : TurnSt b i F) : F.erases 0 = (((i + 1) / 2 : Nat) : Int) ∧ F.erases 1 = ((i / 2 : Nat) : Int) ∧ F.erases 2 = 0 := by
  unfold Fla.erases
  rw [if_neg (by omega), if_neg (by omega), if_neg (by omega), h.er]
  exact ⟨rfl, rfl, rfl⟩

theorem cellWrite_long (F : Fla) {b : List UInt8} (hb : 245 < b.length) : F.cellWrite b = (F, 1) := by unfold Fla.cellWrite; rw [if_pos hb]

set_option maxRecDepth 100000 in
set_option maxHeartbeats 2000000 in
theorem cellTurns_walk {w : World} (z : Int) (hz : (Lit.int .i64 z).wf = true) (B : Option Addr) (cb : Nat) (b : List UInt8) (hbc : b.length ≤ cb) (hbm : cb ≤ maxLen) (hB : Rd w B b) (hB0 : B = none → b = [] ∧ cb = 0) :
    Calls Try.prog 13 #[.int .i64 z, .slice B b.length cb] w (TrueKeep w) := by
  unfold maxLen at hbm
  by_cases hb : 245 < b.length
  · clear hB hB0
    go_enter Try.func13, Try.ntmps13
    go_wp2_with fail
    refine awake17.mono ?_
    rintro e w1 ⟨rfl, hk⟩
    go_wp2_with fail
    go_ret
    exact ⟨rfl, hk⟩
  obtain ⟨n, hn40, hu1, hu2⟩ := umod z 40 (by omega) (by omega)
  have hmk : ∀ w, (Instr.makeSlice 22 (.int .i64 246) (.int .i64 246)).run Try.prog w = .ok (.slice (some ⟨w.heap.size, 0, none⟩) 246 246) (w.alloc (.cells (zeros 246) 5)) := make_u8 246 246 (by omega) (by omega)
  go_enter Try.func13, Try.ntmps13
  go_wp2_with fail
  refine (new_calls 100).mono ?_
  rintro e w1 ⟨p, q, rfl, hp, hq, hF, hK⟩
  have ha1 : ∀ x, B = some x → b ≠ [] → x.block ∉ [p, q] := fun x hx hne => by have := hB.lt x hx hne; simp; omega
  go_wp2_with fail
  go_loopw [18] (fun i wr => ∃ (k : Nat) (F : Fla), k ≤ n ∧ i = .int .i64 k ∧ FlaAt wr p q F ∧ TurnSt b k F ∧ Keeps [p, q] w wr) (fun i _ => n - (intOf i).toNat)
  case atStart => exact ⟨0, _, Nat.zero_le _, rfl, hF, turn_first b, hK.nil⟩
  case round =>
    clear hF hK
    obtain ⟨k, F, hk, rfl, hF, hT, hK⟩ := hrel
    by_cases hlt : k < n
    · obtain ⟨G, hW, hT2⟩ := turn_step hT (by omega) (by omega)
      have hs := hT.steps
      have hs2 := hT2.steps
      obtain ⟨e0, e1, e2⟩ := hT2.erases
      have hm : k * (12 + b.length) ≤ 39 * 257 := Nat.mul_le_mul (by omega) (by omega)
      have hm2 : (k + 1) * (12 + b.length) = k * (12 + b.length) + 12 + b.length := by rw [Nat.succ_mul]; omega
      rw [hm2] at hs2
      have HW := Lib.hid hW
      have HT := Lib.hid hT2
      have HS := Lib.hid hs
      have HS2 := Lib.hid hs2
      have E0 := Lib.hid e0
      have E1 := Lib.hid e1
      have E2 := Lib.hid e2
      have hBr := hB.keeps hK ha1
      clear hW hT hT2 hs hs2 e0 e1 e2 hm2
      go_wp2_with fail
      refine (steps_calls hF).mono ?_
      rintro e w' ⟨rfl, rfl⟩
      rw [HS.out]
      generalize k * (12 + b.length) = m at *
      go_wp2_with fail
      refine (cellwrite_calls hF B cb b hBr (by omega) hbc (by omega) hB0 ha1).mono ?_
      rw [HW.out]
      rintro e w2 ⟨rfl, hF2, hk2⟩
      go_wp2_with fail
      refine (steps_calls hF2).mono ?_
      rintro e w' ⟨rfl, rfl⟩
      rw [HS2.out]
      have t1 : ((m + 12 + b.length : Nat) : Int) = (m : Int) + 1 + (b.length : Int) + 11 := by omega
      rw [t1]
      go_wp2_with fail
      refine (erases_calls hF2 0).mono ?_
      rintro e w' ⟨rfl, rfl⟩
      rw [E0.out, show (((k + 1 + 1) / 2 : Nat) : Int) = ((k : Int) + 2) / 2 from by omega]
      go_wp2_with fail
      refine (erases_calls hF2 1).mono ?_
      rintro e w' ⟨rfl, rfl⟩
      rw [E1.out, show (((k + 1) / 2 : Nat) : Int) = ((k : Int) + 1) / 2 from by omega]
      go_wp2_with fail
      refine (erases_calls hF2 2).mono ?_
      rintro e w' ⟨rfl, rfl⟩
      rw [E2.out]
      go_wp2_with fail
      go_roundw
      case rel => exact ⟨k + 1, G, by omega, by go_num, hF2, HT.out, hK.trans hk2⟩
      case measure => simp [intOf]; omega
    · have hkn : k = n := by omega
      subst hkn
      clear hT hu1 hu2 hB
      go_wp2_with fail
      refine (cellwrite_calls (hF.alloc _) _ 246 (List.replicate 246 0) (zeros_rd wr 246) (by simp) (by simp) (by omega) (by simp) (by have := hF.ltp; have := hF.ltq; simp; omega)).mono ?_
      rw [cellWrite_long F (by simp)]
      rintro e w2 ⟨rfl, hF2, hk2⟩
      go_wp2_with fail
      refine awake17.mono ?_
      rintro e w3 ⟨rfl, hk3⟩
      go_wp2_with fail
      go_ret
      exact ⟨rfl, ((hK.alloc _).trans hk2 |>.mono (by simp [hp, hq])).trans hk3⟩

end Go.Proofs.Ythjojkkjdaoocaa
