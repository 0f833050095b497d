/-
  LawSteps: the walk of SlotSteps.
-/
import Derived.Test.YthjojkkjdaoocaaLaw20
import Derived.Test.YthjojkkjdaoocaaSlotT
set_option linter.unusedVariables false
set_option linter.unusedSimpArgs false
namespace Go.Proofs.Ythjojkkjdaoocaa
open Go.RowKit
attribute [local go_sem ↓] Go.wp_at_zero Go.wp_at_succ

/-- Has sector j of these bytes one that is not ff? -/
def hasN (l : List UInt8) (j : Nat) : Bool := (List.range l.length).any fun k => k / 256 == j && l.getD k 0 != 255

theorem hasN_true {l : List UInt8} {j k : Nat} (hk : k < l.length) (h1 : k / 256 = j) (h2 : l.getD k 0 ≠ 255) : hasN l j = true := by
  unfold hasN
  rw [List.any_eq_true]
  exact ⟨k, List.mem_range.2 hk, by simp [h1]; exact h2⟩
theorem hasN_false {l : List UInt8} {j : Nat} (h : ∀ k, k < l.length → k / 256 = j → l.getD k 0 = 255) : hasN l j = false := by
  unfold hasN
  rw [List.any_eq_false]
  intro k hk
  have hk := List.mem_range.1 hk
  intro hc
  simp only [Bool.and_eq_true, beq_iff_eq, bne_iff_ne] at hc
  exact hc.2 (h k hk hc.1)
theorem hasN_spec {l : List UInt8} {j : Nat} (h : hasN l j = false) {k : Nat} (hk : k < l.length) (h1 : k / 256 = j) : l.getD k 0 = 255 := by
  cases Classical.em (l.getD k 0 = 255) with
  | inl h => exact h
  | inr h2 => rw [hasN_true hk h1 h2] at h; cases h

def cntN (l : List UInt8) : Nat → Nat
  | 0 => 0
  | j + 1 => cntN l j + (if hasN l j then 1 else 0)

theorem blankSec_iff {b : List UInt8} (hb : b.length = 3584) {k : Nat} (hk : k < 14) (h : ∀ i, i < 256 → b.getD (k * 256 + i) 0 = 255) : blankSec b k = true := by
  unfold blankSec
  rw [List.all_eq_true]
  intro x hx
  obtain ⟨i, hi, rfl⟩ := List.mem_iff_getElem.1 hx
  have hl := secOf_len hb hk
  have := h i (by omega)
  rw [← secOf_getD (by omega), List.getD, List.getElem?_eq_getElem hi] at this
  simpa using this

theorem imgAt_blank {F G : Fla} {s : Nat} {img : List UInt8} (hs : s < 2) (hw : Wrote F G s img) (hl : img.length ≤ 512) (j : Nat) (hj : j < 2) : blankSec G.b (2 + 2 * s + j) = !hasN img j := by
  cases hN : hasN img j
  · refine blankSec_iff hw.good.len (by omega) ?_
    intro i hi
    rw [hw.b, if_pos (by omega)]
    unfold imgAt
    split
    · exact hasN_spec hN (by assumption) (by omega)
    · rfl
  · cases hb : blankSec G.b (2 + 2 * s + j)
    · rfl
    · exfalso
      have : hasN img j = false := by
        refine hasN_false (fun k hk h1 => ?_)
        have h2 := blankSec_getD hw.good.len (by omega) hb (i := k - j * 256) (by omega)
        rw [hw.b, if_pos (by omega)] at h2
        unfold imgAt at h2
        rw [if_pos (by omega)] at h2
        rwa [show (2 + 2 * s + j) * 256 + (k - j * 256) - (2 + 2 * s) * 256 = k from by omega] at h2
      rw [this] at hN; cases hN

set_option maxRecDepth 100000 in
theorem new_blank (wear : Int) {k : Nat} (hk : k < 14) : blankSec (Fla.new wear).b k = true := by
  unfold blankSec
  rw [show (Fla.new wear).b = blankAll from rfl, secOf_blank hk, List.all_eq_true]
  intro x hx
  rw [List.eq_of_mem_replicate hx]; rfl

theorem steps_none (s : Nat) (hs : s < 2) (img : List UInt8) (hm : mayB img = true) : ∃ H, (Fla.new 10).slotWrite s img = (H, 0) ∧ H.steps = img.length := by
  have hl : 1 ≤ img.length ∧ img.length ≤ 512 := by unfold mayB at hm; simpa using hm
  obtain ⟨G, e, w⟩ := slotWrite_calm (new_good 10) rfl hs hm (by rw [new_blank 10 (by omega)]; intro h; cases h) (by rw [new_blank 10 (by omega)]; intro h; cases h)
  refine ⟨G, e, ?_⟩
  rw [w.steps]
  unfold nBlank
  rw [new_blank 10 (by omega), new_blank 10 (by omega), if_pos rfl, show (Fla.new 10).steps = 0 from rfl, IntWalk.wrap64_in _ (by omega)]
  omega

theorem steps_two (s : Nat) (hs : s < 2) (first img : List UInt8) (hf : mayB first = true) (hm : mayB img = true) :
    ∃ G H, (Fla.new 10).slotWrite s first = (G, 0) ∧ G.steps = first.length ∧ G.slotWrite s img = (H, 0) ∧ H.steps = (first.length + cntN first 2 + img.length : Nat) := by
  have hl : 1 ≤ img.length ∧ img.length ≤ 512 := by unfold mayB at hm; simpa using hm
  have hl2 : 1 ≤ first.length ∧ first.length ≤ 512 := by unfold mayB at hf; simpa using hf
  obtain ⟨G, e, w⟩ := slotWrite_calm (new_good 10) rfl hs hf (by rw [new_blank 10 (by omega)]; intro h; cases h) (by rw [new_blank 10 (by omega)]; intro h; cases h)
  have hG : G.steps = first.length := by
    rw [w.steps]
    unfold nBlank
    rw [new_blank 10 (by omega), new_blank 10 (by omega), if_pos rfl, show (Fla.new 10).steps = 0 from rfl, IntWalk.wrap64_in _ (by omega)]
    omega
  have h0 := imgAt_blank hs w hl2.2 0 (by omega)
  have h1 := imgAt_blank hs w hl2.2 1 (by omega)
  rw [Nat.add_zero] at h0
  rw [show 2 + 2 * s + 1 = 3 + 2 * s from by omega] at h1
  have z : ∀ k, k < 14 → (Fla.new 10).er.getD k 0 = 0 := by decide
  have e0 : G.er.getD (2 + 2 * s) 0 = 0 := by rw [w.er0, new_blank 10 (by omega), if_pos rfl, z _ (by omega)]
  have e1 : G.er.getD (3 + 2 * s) 0 = 0 := by rw [w.er1, new_blank 10 (by omega), if_pos rfl, z _ (by omega)]
  have hw10 : G.wear = 10 := w.wear
  obtain ⟨H, e', w'⟩ := slotWrite_calm w.good w.fused hs hm (by rw [e0, hw10]; intro; omega) (by rw [e1, hw10]; intro; omega)
  refine ⟨G, H, e, hG, e', ?_⟩
  rw [w'.steps, hG]
  unfold nBlank cntN cntN cntN
  rw [h0, h1]
  cases hasN first 0 <;> cases hasN first 1 <;> simp <;> (rw [IntWalk.wrap64_in _ (by omega)]; try omega)

set_option maxRecDepth 100000 in
set_option maxHeartbeats 4000000 in
theorem slotSteps_walk {w : World} (z : Int) (hz : (Lit.int .i64 z).wf = true) (B : Option Addr) (cb : Nat) (b : List UInt8) (hbc : b.length ≤ cb) (hbm : cb ≤ maxLen) (hB : Rd w B b) (hB0 : B = none → b = [] ∧ cb = 0)
    (A : Option Addr) (ca : Nat) (a : List UInt8) (hac : a.length ≤ ca) (ham : ca ≤ maxLen) (hA : Rd w A a) (hA0 : A = none → a = [] ∧ ca = 0) :
    Calls Try.prog 16 #[.int .i64 z, .slice B b.length cb, .slice A a.length ca] w (TrueKeep w) := by
  by_cases h1 : 512 < b.length
  · go_enter Try.func16, Try.ntmps16
    go_wp2_with fail
    refine awake20.mono ?_
    rintro e wa ⟨rfl, hKa⟩
    go_wp2_with fail
    go_ret
    exact ⟨rfl, hKa⟩
  by_cases h2 : a.length < 1
  · go_enter Try.func16, Try.ntmps16
    go_wp2_with fail
    refine awake20.mono ?_
    rintro e wa ⟨rfl, hKa⟩
    go_wp2_with fail
    go_ret
    exact ⟨rfl, hKa⟩
  by_cases h3 : 512 < a.length
  · go_enter Try.func16, Try.ntmps16
    go_wp2_with fail
    refine awake20.mono ?_
    rintro e wa ⟨rfl, hKa⟩
    go_wp2_with fail
    go_ret
    exact ⟨rfl, hKa⟩
  have hma : mayB a = true := by unfold mayB; simp; omega
  obtain ⟨s, hs, hu1, hu2⟩ := umod z 2 (by omega) (by omega)
  have hs2 : s < 2 := by omega
  by_cases hb0 : b = []
  · subst hb0
    obtain ⟨H, hW, hSt⟩ := steps_none s hs2 a hma
    have HW := Lib.hid hW
    have HSt := Lib.hid hSt
    have HA := Lib.hid hA
    have Hs2 := Lib.hid hs2
    clear hW hSt hma hA hB0 hA0 hs2 hB
    rw [show ([] : List UInt8).length = 0 from rfl]
    go_enter Try.func16, Try.ntmps16
    go_wp2_with fail
    refine (new_calls 10).mono ?_
    rintro e w1 ⟨p, q, rfl, hp, hq, hF, hK⟩
    have hab : ∀ x, A = some x → a ≠ [] → x.block ∉ [p, q] := by
      intro x hx hne
      have := HA.out.lt x hx hne
      simp; omega
    have hWr := slotwrite_calls hF s A ca a (HA.out.keepsNil hK) hab
    rw [HW.out] at hWr
    have HWr := Lib.hid hWr
    clear hWr hF hab
    go_wp2_with fail
    refine HWr.out.mono ?_
    rintro e w2 ⟨rfl, hF2, hk2⟩
    have HS := Lib.hid (steps_calls hF2)
    rw [HSt.out] at HS
    clear hF2
    go_wp2_with fail
    refine HS.out.mono ?_
    rintro e w' ⟨rfl, rfl⟩
    go_wp2_with fail
    refine awake20.mono ?_
    rintro e wa ⟨rfl, hKa⟩
    go_wp2_with fail
    go_ret
    exact ⟨rfl, ((hK.nil.trans hk2).trans hKa.nil).mono (by simp [hp, hq])⟩
  · have hmb : mayB b = true := by
      unfold mayB
      have : b.length ≠ 0 := fun h => hb0 (List.length_eq_zero_iff.1 h)
      simp; omega
    have hbl : 1 ≤ b.length := by
      have : b.length ≠ 0 := fun h => hb0 (List.length_eq_zero_iff.1 h)
      omega
    obtain ⟨G, H, hW1, hSt1, hW2, hSt2⟩ := steps_two s hs2 b a hmb hma
    have HW1 := Lib.hid hW1
    have HSt1 := Lib.hid hSt1
    have HW2 := Lib.hid hW2
    have HSt2 := Lib.hid hSt2
    have HA := Lib.hid hA
    have HB := Lib.hid hB
    have Hs2 := Lib.hid hs2
    have Hh2 := Lib.hid (show ¬ a.length < 1 ∧ ¬ 512 < a.length from ⟨h2, h3⟩)
    clear hW1 hSt1 hW2 hSt2 hma hmb hA hB0 hA0 hB hs2 hb0
    go_enter Try.func16, Try.ntmps16
    go_wp2_with fail
    refine (new_calls 10).mono ?_
    rintro e w1 ⟨p, q, rfl, hp, hq, hF, hK⟩
    have hab : ∀ x, A = some x → a ≠ [] → x.block ∉ [p, q] := by
      intro x hx hne
      have := HA.out.lt x hx hne
      simp; omega
    have hbb : ∀ x, B = some x → b ≠ [] → x.block ∉ [p, q] := by
      intro x hx hne
      have := HB.out.lt x hx hne
      simp; omega
    have hWr := slotwrite_calls hF s B cb b (HB.out.keepsNil hK) hbb
    rw [HW1.out] at hWr
    have HWr := Lib.hid hWr
    have Hab := Lib.hid hab
    have Hbb := Lib.hid hbb
    have HK := Lib.hid hK
    have Hpq := Lib.hid (show w.heap.size ≤ p ∧ w.heap.size ≤ q from ⟨hp, hq⟩)
    clear hWr hF hab hbb hK hp hq
    go_wp2_with fail
    refine HWr.out.mono ?_
    rintro e w2 ⟨rfl, hF2, hk2⟩
    have HS := Lib.hid (steps_calls hF2)
    rw [HSt1.out] at HS
    have hK2 : Keeps [p, q] w w2 := HK.out.nil.trans hk2
    go_wp2_with fail
    refine HS.out.mono ?_
    rintro e w' ⟨rfl, rfl⟩
    clear hk2
    go_wp2_with fail
    go_loopw [46, 8] (fun i v wr => ∃ j : Nat, j ≤ 2 ∧ i = .int .i64 j ∧ v = .int .i64 (cntN b j) ∧ FlaAt wr p q G ∧ Keeps [p, q] w wr) (fun i _ _ => 2 - (intOf i).toNat)
    case atStart => exact ⟨0, by omega, rfl, rfl, hF2, hK2⟩
    case round =>
      clear hF2 hK2
      obtain ⟨j, hj, rfl, rfl, hF, hK⟩ := hrel
      by_cases hlt : j < 2
      · have hrb : Rd wr B b := HB.out.keeps hK Hbb.out
        have hcn : cntN b (j + 1) = cntN b j + (if hasN b j then 1 else 0) := rfl
        have hcb : cntN b j ≤ 2 := by
          have h01 : j = 0 ∨ j = 1 := by omega
          rcases h01 with rfl | rfl
          · show 0 ≤ 2; omega
          · show 0 + (if hasN b 0 then 1 else 0) ≤ 2; split <;> omega
        have Hcn := Lib.hid hcn
        have HF := Lib.hid hF
        have HK2 := Lib.hid hK
        clear hF hK hcn
        generalize cntN b j = cj at *
        go_wp2_with fail
        go_loopw [51, 8] (fun u v wx => ∃ k : Nat, k ≤ b.length ∧ u = .int .i64 k ∧ v = .int .i64 cj ∧ (∀ m, m < k → m / 256 = j → b.getD m 0 = 255) ∧ wr = wx) (fun u _ _ => b.length - (intOf u).toNat)
        case atStart => exact ⟨0, Nat.zero_le _, rfl, rfl, by intro m hm; omega, rfl⟩
        case round =>
          obtain ⟨k, hk, rfl, rfl, hno, rfl⟩ := hrel
          by_cases hkl : k < b.length
          · obtain ⟨b0, o0, rfl, hc0⟩ := hrb k b[k] (by simp [hkl])
            have hg : b.getD k 0 = b[k] := by rw [List.getD, List.getElem?_eq_getElem hkl]; rfl
            have hno' : (k / 256 = j → b[k] = 255) → ∀ m, m < k + 1 → m / 256 = j → b.getD m 0 = 255 := by
              intro h m hm1 hm2
              by_cases hmk : m = k
              · subst hmk; rw [hg]; exact h hm2
              · exact hno m (by omega) hm2
            have hyes : k / 256 = j → b[k] ≠ 255 → hasN b j = true := fun e1 e2 => hasN_true hkl e1 (by rw [hg]; exact e2)
            generalize b[k] = x at *
            have Hno := Lib.hid hno'
            have Hyes := Lib.hid hyes
            clear hno hno' hyes hg
            by_cases hq : k / 256 = j
            · have d1 : ((k : Int) / 256 == (j : Int)) = true := by rw [beq_iff_eq]; omega
              by_cases hx : x = 255
              · subst hx
                have HN := Lib.hid (Hno.out (fun _ => rfl))
                have Hq := Lib.hid hq
                clear Hno Hyes hq
                go_wp2_with fail
                go_roundw
                case rel => exact ⟨k + 1, by omega, by go_num, rfl, HN.out, trivial⟩
                case measure => simp [intOf]; omega
              · have d2 : ((x.toNat : Int) == 255) = false := by
                  rw [beq_eq_false_iff_ne]; intro h; exact hx (UInt8.toNat_inj.1 (by show x.toNat = 255; omega))
                have HN := Lib.hid (Hyes.out hq hx)
                clear Hno Hyes hq hx
                go_wp2_with fail
                go_roundw
                case rel => exact ⟨j + 1, by omega, by go_num, by rw [Hcn.out, HN.out, if_pos rfl]; go_num, HF.out, HK2.out⟩
                case measure => simp [intOf]; omega
            · have d1 : ((k : Int) / 256 == (j : Int)) = false := by rw [beq_eq_false_iff_ne]; omega
              have HN := Lib.hid (Hno.out (fun h => absurd h hq))
              clear Hno Hyes hq
              go_wp2_with fail
              go_roundw
              case rel => exact ⟨k + 1, by omega, by go_num, rfl, HN.out, trivial⟩
              case measure => simp [intOf]; omega
          · have hN : hasN b j = false := hasN_false (fun m hm1 hm2 => hno m (by omega) hm2)
            have HN := Lib.hid hN
            clear hno hN
            go_wp2_with fail
            go_roundw
            case rel => exact ⟨j + 1, by omega, by go_num, by rw [Hcn.out, HN.out, if_neg (by simp), Nat.add_zero], HF.out, HK2.out⟩
            case measure => simp [intOf]; omega
      · obtain rfl : j = 2 := by omega
        have hWr2 := slotwrite_calls hF s A ca a (HA.out.keeps hK Hab.out) Hab.out
        rw [HW2.out] at hWr2
        have HWr2 := Lib.hid hWr2
        have HK2 := Lib.hid hK
        have hc2 : cntN b 2 ≤ 2 := by
          show 0 + (if hasN b 0 then 1 else 0) + (if hasN b 1 then 1 else 0) ≤ 2
          split <;> split <;> omega
        clear hF hK hWr2
        generalize hcc : cntN b 2 = c2 at *
        have Hcc := Lib.hid hcc
        clear hcc
        go_wp2_with fail
        refine HWr2.out.mono ?_
        rintro e w3 ⟨rfl, hF3, hk3⟩
        have HS3 := Lib.hid (steps_calls hF3)
        rw [HSt2.out] at HS3
        clear hF3
        go_wp2_with fail
        refine HS3.out.mono ?_
        rintro e w' ⟨rfl, rfl⟩
        go_wp2_with fail
        refine awake20.mono ?_
        rintro e wa ⟨rfl, hKa⟩
        go_wp2_with fail
        go_ret
        exact ⟨rfl, ((HK2.out.trans hk3).trans hKa.nil).mono (by simp [Hpq.out.1, Hpq.out.2])⟩

end Go.Proofs.Ythjojkkjdaoocaa
