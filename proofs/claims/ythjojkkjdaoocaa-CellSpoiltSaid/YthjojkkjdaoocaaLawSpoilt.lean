/-
  LawSpoilt: the walk of CellSpoilt.
-/
import Derived.Test.YthjojkkjdaoocaaLaw17
set_option linter.unusedVariables false
namespace Go.Proofs.Ythjojkkjdaoocaa
open Go.RowKit

set_option maxRecDepth 100000 in
set_option maxHeartbeats 2000000 in
theorem cellSpoilt_walk {w : World} (A : Option Addr) (ca : Nat) (a : List UInt8) (hac : a.length ≤ ca) (hcm : ca ≤ maxLen) (hA : Rd w A a) (hA0 : A = none → a = [] ∧ ca = 0)
    (B : Option Addr) (cb : Nat) (b : List UInt8) (hbc : b.length ≤ cb) (hbm : cb ≤ maxLen) (hB : Rd w B b) (hB0 : B = none → b = [] ∧ cb = 0) (z : Int) (hz : (Lit.int .i64 z).wf = true) :
    Calls Try.prog 10 #[.slice A a.length ca, .slice B b.length cb, .int .i64 z] w (TrueKeep w) := by
  unfold maxLen at hcm hbm
  by_cases ha : 245 < a.length
  · clear hA hB hA0 hB0
    go_enter Try.func10, Try.ntmps10
    go_wp2_with fail
    refine awake17.mono ?_
    rintro e w1 ⟨rfl, hk⟩
    go_wp2_with fail
    go_ret
    exact ⟨rfl, hk⟩
  by_cases hb : 245 < b.length
  · clear hA hB hA0 hB0
    go_enter Try.func10, Try.ntmps10
    go_wp2_with fail
    refine awake17.mono ?_
    rintro e w1 ⟨rfl, hk⟩
    go_wp2_with fail
    go_ret
    exact ⟨rfl, hk⟩
  obtain ⟨k, hk2, hu1, hu2⟩ := umod z 2 (by omega) (by omega)
  obtain ⟨G1, G2, G3, G4, h1, h2, h3, h4, h5, h6⟩ := spoilt_law a b (by omega) (by omega) k (by omega)
  have H1 := Lib.hid h1
  have H2 := Lib.hid h2
  have H3 := Lib.hid h3
  have H4 := Lib.hid h4
  have H5 := Lib.hid h5
  have H6 := Lib.hid h6
  clear h1 h2 h3 h4 h5 h6
  have hk01 : k = 0 ∨ k = 1 := by omega
  go_enter Try.func10, Try.ntmps10
  go_wp2_with fail
  refine (new_calls 9).mono ?_
  rintro e w1 ⟨p, q, rfl, hp, hq, hF, hK⟩
  have hA1 := hA.keepsNil hK
  have hB1 := hB.keepsNil hK
  have ha1 : ∀ x, A = some x → a ≠ [] → x.block ∉ [p, q] := fun x hx hne => by have := hA.lt x hx hne; simp; omega
  have hb1 : ∀ x, B = some x → b ≠ [] → x.block ∉ [p, q] := fun x hx hne => by have := hB.lt x hx hne; simp; omega
  go_wp2_with fail
  refine (cellwrite_calls hF A ca a hA1 (by omega) hac (by omega) hA0 ha1).mono ?_
  rw [H1.out]
  rintro e w2 ⟨rfl, hF2, hk2'⟩
  have hA2 := hA1.keeps hk2' ha1
  have hB2 := hB1.keeps hk2' hb1
  go_wp2_with fail
  refine (cellwrite_calls hF2 B cb b hB2 (by omega) hbc (by omega) hB0 hb1).mono ?_
  rw [H2.out]
  rintro e w3 ⟨rfl, hF3, hk3⟩
  have hA3 := hA2.keeps hk3 ha1
  have hB3 := hB2.keeps hk3 hb1
  have hkk : Keeps [p, q] w w3 := (hK.nil.trans hk2').trans hk3
  clear hA hB hA1 hB1 hA2 hB2 hF hF2 hK hk2' hk3
  rcases hk01 with rfl | rfl
  · replace hu1 : wrap64 ((IntKind.u64.wrap z).tmod 2) = 0 := hu1
    replace hu2 : (IntKind.u64.wrap z).tmod 2 = 0 := hu2
    go_wp2_with fail
    refine (erase_calls hF3 0).mono ?_
    rw [show G2.erase 0 = (G3, 0) from H3.out]
    rintro e w4 ⟨rfl, hF4, hk4⟩
    have hB4 := hB3.keeps hk4 hb1
    clear hF3
    go_wp2_with fail
    refine (cellread_calls hF4).mono ?_
    rw [H4.out]
    rintro e w5 ⟨v5, rfl, hv5, hk5⟩
    replace hv5 : Sl w5 w4.heap.size v5 b := hv5
    obtain ⟨a5, c5, rfl, hv5'⟩ := hv5
    have HV : Hid (Sl w5 w4.heap.size (.slice a5 b.length c5) b) := Lib.hid ⟨a5, c5, rfl, hv5'⟩
    have hF5 := hF4.keeps hk5 (by simp) (by simp)
    have hp4 := hF4.ltp
    have hq4 := hF4.ltq
    have hB5 := hB4.keepsNil hk5
    clear hv5' hF4 hB4 hB3
    go_wp2_with fail
    refine (erase_calls hF5 1).mono ?_
    rw [show G3.erase 1 = (G4, 0) from H5.out]
    rintro e w6 ⟨rfl, hF6, hk6⟩
    have hB6 := hB5.keeps hk6 hb1
    clear hF5 hB5
    go_wp2_with fail
    refine (cellread_calls hF6).mono ?_
    rw [H6.out]
    rintro e w7 ⟨v7, rfl, hv7, hk7⟩
    obtain ⟨a7, c7, rfl, hv7'⟩ := hv7
    have hs1 : (convert 22 9 (.slice a5 b.length c5)).run Try.prog w7 = .ok (.string ⟨b.toArray⟩) w7 := ((HV.out.keeps hk6 (by simp; omega)).keeps hk7 (by simp)).str
    have hs2 := str_run (w := w7) (a := B) b.length cb (hB6.keepsNil hk7) rfl (fun h => (hB0 h).1)
    have hkz := (((hkk.trans hk4).trans hk5.nil).trans hk6).trans hk7.nil
    clear hv7' hF6 hB6 hk6 hk5 hk4
    go_wp2_with fail
    refine awake17.mono ?_
    rintro e w8 ⟨rfl, hk8⟩
    go_wp2_with fail
    go_ret
    exact ⟨rfl, (hkz.mono (by simp [hp, hq])).trans hk8⟩
  · replace hu1 : wrap64 ((IntKind.u64.wrap z).tmod 2) = 1 := hu1
    replace hu2 : (IntKind.u64.wrap z).tmod 2 = 1 := hu2
    go_wp2_with fail
    refine (erase_calls hF3 1).mono ?_
    rw [show G2.erase 1 = (G3, 0) from H3.out]
    rintro e w4 ⟨rfl, hF4, hk4⟩
    have hA4 := hA3.keeps hk4 ha1
    clear hF3
    go_wp2_with fail
    refine (cellread_calls hF4).mono ?_
    rw [H4.out]
    rintro e w5 ⟨v5, rfl, hv5, hk5⟩
    replace hv5 : Sl w5 w4.heap.size v5 a := hv5
    obtain ⟨a5, c5, rfl, hv5'⟩ := hv5
    have HV : Hid (Sl w5 w4.heap.size (.slice a5 a.length c5) a) := Lib.hid ⟨a5, c5, rfl, hv5'⟩
    have hF5 := hF4.keeps hk5 (by simp) (by simp)
    have hp4 := hF4.ltp
    have hq4 := hF4.ltq
    have hA5 := hA4.keepsNil hk5
    clear hv5' hF4 hA4 hA3
    go_wp2_with fail
    refine (erase_calls hF5 0).mono ?_
    rw [show G3.erase 0 = (G4, 0) from H5.out]
    rintro e w6 ⟨rfl, hF6, hk6⟩
    have hA6 := hA5.keeps hk6 ha1
    clear hF5 hA5
    go_wp2_with fail
    refine (cellread_calls hF6).mono ?_
    rw [H6.out]
    rintro e w7 ⟨v7, rfl, hv7, hk7⟩
    obtain ⟨a7, c7, rfl, hv7'⟩ := hv7
    have hs1 : (convert 22 9 (.slice a5 a.length c5)).run Try.prog w7 = .ok (.string ⟨a.toArray⟩) w7 := ((HV.out.keeps hk6 (by simp; omega)).keeps hk7 (by simp)).str
    have hs2 := str_run (w := w7) (a := A) a.length ca (hA6.keepsNil hk7) rfl (fun h => (hA0 h).1)
    have hkz := (((hkk.trans hk4).trans hk5.nil).trans hk6).trans hk7.nil
    clear hv7' hF6 hA6 hk6 hk5 hk4
    go_wp2_with fail
    refine awake17.mono ?_
    rintro e w8 ⟨rfl, hk8⟩
    go_wp2_with fail
    go_ret
    exact ⟨rfl, (hkz.mono (by simp [hp, hq])).trans hk8⟩

end Go.Proofs.Ythjojkkjdaoocaa
