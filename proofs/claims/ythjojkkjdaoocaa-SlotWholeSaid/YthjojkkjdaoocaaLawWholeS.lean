/-
  LawWholeS: the walk of SlotWhole.
-/
import Derived.Test.YthjojkkjdaoocaaWholeT
import Derived.Test.YthjojkkjdaoocaaSlotWr
import Derived.Test.YthjojkkjdaoocaaRDig
import Derived.Test.YthjojkkjdaoocaaLaw20
set_option linter.unusedVariables false
set_option linter.unusedSimpArgs false
namespace Go.Proofs.Ythjojkkjdaoocaa
open Go.RowKit
attribute [local go_sem ↓] Go.wp_at_zero Go.wp_at_succ

set_option maxRecDepth 100000 in
set_option maxHeartbeats 8000000 in
theorem slotWhole_walk {w : World} (z : Int) (hz : (Lit.int .i64 z).wf = true) (A : Option Addr) (ca : Nat) (a : List UInt8) (hac : a.length ≤ ca) (ham : ca ≤ maxLen) (hA : Rd w A a) (hA0 : A = none → a = [] ∧ ca = 0)
    (B : Option Addr) (cb : Nat) (b : List UInt8) (hbc : b.length ≤ cb) (hbm : cb ≤ maxLen) (hB : Rd w B b) (hB0 : B = none → b = [] ∧ cb = 0) (fz : Int) (hfz : (Lit.int .i64 fz).wf = true) (tz : Int) (htz : (Lit.int .i64 tz).wf = true) :
    Calls Try.prog 18 #[.int .i64 z, .slice A a.length ca, .slice B b.length cb, .int .i64 fz, .int .i64 tz] w (TrueKeep w) := by
  have HA := Lib.hid hA
  have HB := Lib.hid hB
  have HA0 := Lib.hid hA0
  have HB0 := Lib.hid hB0
  clear hA hB hA0 hB0 hz hfz htz
  by_cases g0 : a.length < 1
  · go_enter Try.func18, Try.ntmps18
    go_wp2_with fail
    refine awake20.mono ?_
    rintro e wa ⟨rfl, hKa⟩
    go_wp2_with fail
    go_ret
    exact ⟨rfl, hKa⟩
  by_cases g1 : 512 < a.length
  · go_enter Try.func18, Try.ntmps18
    go_wp2_with fail
    refine awake20.mono ?_
    rintro e wa ⟨rfl, hKa⟩
    go_wp2_with fail
    go_ret
    exact ⟨rfl, hKa⟩
  by_cases g2 : b.length < 1
  · go_enter Try.func18, Try.ntmps18
    go_wp2_with fail
    refine awake20.mono ?_
    rintro e wa ⟨rfl, hKa⟩
    go_wp2_with fail
    go_ret
    exact ⟨rfl, hKa⟩
  by_cases g3 : 512 < b.length
  · go_enter Try.func18, Try.ntmps18
    go_wp2_with fail
    refine awake20.mono ?_
    rintro e wa ⟨rfl, hKa⟩
    go_wp2_with fail
    go_ret
    exact ⟨rfl, hKa⟩
  have hma : mayB a = true := by unfold mayB; simp; omega
  have hmb : mayB b = true := by unfold mayB; simp; omega
  obtain ⟨s, hs, hu1, hu2⟩ := umod z 2 (by omega) (by omega)
  obtain ⟨m, hm, hm1, hm2⟩ := umod fz 600 (by omega) (by omega)
  have hs2 : s < 2 := by omega
  obtain ⟨F1, F2, F4, F7, y, e1, e2, e4, hy, e7, r7, r8, q7⟩ := whole_plain s hs2 a b hma hmb m (by omega) tz
  obtain ⟨t, ht⟩ : ∃ t, 1 - s = t := ⟨_, rfl⟩
  rw [ht] at e1 r8
  have E1 := Lib.hid e1
  have E2 := Lib.hid e2
  have E4 := Lib.hid e4
  have E7 := Lib.hid e7
  have R7 := Lib.hid r7
  have R8 := Lib.hid r8
  have Q7 := Lib.hid q7
  have Hmb := Lib.hid hmb
  have h1s : (1 : Int) - (s : Int) = (t : Int) := by omega
  clear e1 e2 e4 e7 r7 r8 q7 hma hmb ht hs2
  go_enter Try.func18, Try.ntmps18
  go_wp2_with fail
  refine (new_calls 10).mono ?_
  rintro e w1 ⟨p, q, rfl, hp, hq, hF, hK⟩
  have hab : ∀ x, A = some x → a ≠ [] → x.block ∉ [p, q] := by
    intro x hx hne
    have := HA.out.lt x hx hne
    simp; omega
  have hbb : ∀ x, B = some x → b ≠ [] → x.block ∉ [p, q] := by
    intro x hx hne
    have := HB.out.lt x hx hne
    simp; omega
  have Hab := Lib.hid hab
  have Hbb := Lib.hid hbb
  have Hpq := Lib.hid (show w.heap.size ≤ p ∧ w.heap.size ≤ q from ⟨hp, hq⟩)
  have hc := slotwrite_calls hF t A ca a (HA.out.keepsNil hK) hab
  rw [E1.out] at hc
  have HC := Lib.hid hc
  have HK1 : Hid (Keeps [p, q] w w1) := Lib.hid hK.nil
  clear hc hF hab hbb hp hq hK
  go_wp2_with fail
  refine HC.out.mono ?_
  rintro e w2 ⟨rfl, hF2, hk2⟩
  have hK2 := HK1.out.trans hk2
  have hc := slotwrite_calls hF2 s A ca a (HA.out.keeps hK2 Hab.out) Hab.out
  rw [E2.out] at hc
  have HC := Lib.hid hc
  clear hc hF2 hk2
  go_wp2_with fail
  refine HC.out.mono ?_
  rintro e w3 ⟨rfl, hF3, hk3⟩
  have hK3 := hK2.trans hk3
  have HC := Lib.hid (fuse_calls hF3 (m : Int) tz)
  clear hF3 hk3 hK2
  go_wp2_with fail
  refine HC.out.mono ?_
  rintro e w4 ⟨rfl, hF4, hk4⟩
  have hK4 := hK3.trans hk4
  have hc := slotwrite_calls hF4 s B cb b (HB.out.keeps hK4 Hbb.out) Hbb.out
  rw [E4.out] at hc
  have HC := Lib.hid hc
  clear hc hF4 hk4 hK3
  go_wp2_with fail
  refine HC.out.mono ?_
  rintro e w5 ⟨rfl, hF5, hk5⟩
  have hK5 := hK4.trans hk5
  have HC := Lib.hid (start_calls hF5)
  clear hF5 hk5 hK4
  go_wp2_with fail
  refine HC.out.mono ?_
  rintro e w6 ⟨rfl, hF6, hk6⟩
  have hK6 := hK5.trans hk6
  have HC := Lib.hid (fuse_calls hF6 (-1) 0)
  clear hF6 hk6 hK5
  go_wp2_with fail
  refine HC.out.mono ?_
  rintro e w7 ⟨rfl, hF7, hk7⟩
  have hK7 := hK6.trans hk7
  have hc := slotwrite_calls hF7 s B cb b (HB.out.keeps hK7 Hbb.out) Hbb.out
  rw [E7.out] at hc
  have HCz := Lib.hid hc
  clear hc hF7 hk7 hK6
  have HK7 := Lib.hid hK7
  clear hK7
  rcases hy with rfl | rfl
  · go_wp2_with fail
    refine HCz.out.mono ?_
    rintro e w8 ⟨rfl, hF8, hk8⟩
    have hK8 := HK7.out.trans hk8
    have hc := slotread_calls hF8 s b.length
    rw [R7.out] at hc
    have HC := Lib.hid hc
    have HF8 := Lib.hid hF8
    have HK8 := Lib.hid hK8
    clear hc hF8 hk8 HK7 hK8
    go_wp2_with fail
    refine HC.out.mono ?_
    rintro e w9 ⟨v9, rfl, hv9, hk9⟩
    have hF9 := HF8.out.keeps hk9 (by simp) (by simp)
    have hK9 := HK8.out.trans hk9.nil
    obtain ⟨a9, k9, rfl, _⟩ := hv9.cap
    have hc := slotread_calls hF9 t a.length
    rw [R8.out] at hc
    have HC := Lib.hid hc
    have HF9 := Lib.hid hF9
    have HV9 := Lib.hid hv9
    have HK9 := Lib.hid hK9
    clear hc hF9 hk9 hK9 hv9
    go_wp2_with fail
    refine HC.out.mono ?_
    rintro e w10 ⟨v10, rfl, hv10, hk10⟩
    have HF10 := Lib.hid (HF9.out.keeps hk10 (by simp) (by simp))
    have HK10 : Hid (Keeps [p, q] w w10) := Lib.hid (HK9.out.trans hk10.nil)
    have HV9 := Lib.hid (HV9.out.keeps hk10 (by simp))
    obtain ⟨a10, k10, rfl, _⟩ := hv10.cap
    have HV10 := Lib.hid hv10
    have HOf := Lib.hid (slotof_yes (w := w10) 1 B cb b (HB.out.keeps HK10.out Hbb.out) HB0.out Hmb.out)
    clear hk10 hv10 HF9 HK9
    go_wp2_with fail
    refine HOf.out.mono ?_
    rintro e w11 ⟨v11, rfl, hv11, hk11⟩
    have hsl := sha_len b
    obtain ⟨g, gc, gr, rfl, hg1, hg2, hg3, hg4, hBg⟩ := hv11.rowc (by intro h; rw [h] at hsl; simp at hsl)
    have hrdD : Rd w11 (some ⟨g, 0, none⟩) (sha b) := by have := hBg.rdSub 0 (sha b).length; simpa using this
    have hF11 := HF10.out.keeps hk11 (by simp) (by simp)
    have hK11 : Keeps [p, q] w w11 := HK10.out.trans hk11.nil
    have HV9 := Lib.hid (HV9.out.keeps hk11 (by simp))
    have HV10 := Lib.hid (HV10.out.keeps hk11 (by simp))
    generalize hD : sha b = D at *
    rw [hsl] at hg1 ⊢
    have HD := Lib.hid hD
    have HrdD := Lib.hid hrdD
    have HF11 := Lib.hid hF11
    have HK11 := Lib.hid hK11
    clear hk11 hv11 hBg hrdD hF11 hK11 hD HF10 HK10 HOf
    go_upto_region 16 with (fail)
    have hT := Blk.newA w11 68 #[.int .u32 1, .int .i64 b.length, .slice (some ⟨g, 0, none⟩) 32 gc]
    have hKT := (Keeps.refl [] w11).alloc (.cells #[.int .u32 1, .int .i64 b.length, .slice (some ⟨g, 0, none⟩) 32 gc] 68)
    generalize w11.alloc (.cells #[.int .u32 1, .int .i64 b.length, .slice (some ⟨g, 0, none⟩) 32 gc] 68) = w12 at *
    have hK12 : Keeps [p, q] w w12 := HK11.out.trans hKT.nil
    have hF12 := HF11.out.keeps hKT (by simp) (by simp)
    have hV9 := HV9.out.keeps hKT (by simp)
    have hV10 := HV10.out.keeps hKT (by simp)
    have hD12 := HrdD.out.keepsNil hKT
    generalize w11.heap.size = M0 at *
    have hall : ∀ w', Keeps [] w12 w' → ((convert 22 9 (.slice a9 b.length k9)).run Try.prog w' = .ok (.string ⟨b.toArray⟩) w' ∧ (convert 22 9 (.slice B b.length cb)).run Try.prog w' = .ok (.string ⟨b.toArray⟩) w' ∧ (convert 22 9 (.slice a10 a.length k10)).run Try.prog w' = .ok (.string ⟨a.toArray⟩) w' ∧ (convert 22 9 (.slice A a.length ca)).run Try.prog w' = .ok (.string ⟨a.toArray⟩) w' ∧ (convert 22 9 (.slice (some ⟨g, 0, none⟩) 32 gc)).run Try.prog w' = .ok (.string ⟨D.toArray⟩) w' ∧ w'.cell? ⟨M0, 0, none⟩ = some (.int .u32 1) ∧ w'.cell? ⟨M0, 1, none⟩ = some (.int .i64 b.length) ∧ w'.cell? ⟨M0, 2, none⟩ = some (.slice (some ⟨g, 0, none⟩) 32 gc)) := fun w' k =>
      ⟨(hV9.keeps k (by simp)).sl.str, str_run (w := w') (a := B) b.length cb (HB.out.keeps (hK12.trans k.nil) Hbb.out) rfl (fun h => (HB0.out h).1),
        (hV10.keeps k (by simp)).sl.str, str_run (w := w') (a := A) a.length ca (HA.out.keeps (hK12.trans k.nil) Hab.out) rfl (fun h => (HA0.out h).1),
        str_run (w := w') (a := some ⟨g, 0, none⟩) 32 gc (hD12.keepsNil k) hsl (by simp),
        (hT.keeps k (by simp)).cell' (i := 0) rfl, (hT.keeps k (by simp)).cell' (i := 1) rfl, (hT.keeps k (by simp)).cell' (i := 2) rfl⟩
    have HALL := Lib.hid hall
    have h0 := hall _ (Keeps.refl [] w12).drew
    have hRg := slotright_calls hF12.drew s 1 b.length (some ⟨g, 0, none⟩) 32 gc D (hD12.keepsNil (Keeps.refl [] w12).drew) hsl
    rw [Q7.out] at hRg
    have HRg := Lib.hid hRg
    have hDg := fun w' (k : Keeps [] w12 w') => rdigest_calls (w := w') B b.length cb b (HB.out.keeps (hK12.trans k.nil) Hbb.out) rfl (by omega) (fun h => ⟨by rw [(HB0.out h).1]; rfl, (HB0.out h).2⟩)
    rw [HD.out] at hDg
    have HDg := Lib.hid hDg
    have HK12 := Lib.hid hK12
    have Hsl := Lib.hid hsl
    clear hT hKT hK12 hF12 hV9 hV10 hD12 hall hRg hDg hsl HF11 HK11 HV9 HV10 HrdD HCz HC
    refine wp_region_noPanic ?_
    refine wp_region_held_drew (S := (fun w' => (convert 22 9 (.slice a9 b.length k9)).run Try.prog w' = .ok (.string ⟨b.toArray⟩) w' ∧ (convert 22 9 (.slice B b.length cb)).run Try.prog w' = .ok (.string ⟨b.toArray⟩) w' ∧ (convert 22 9 (.slice a10 a.length k10)).run Try.prog w' = .ok (.string ⟨a.toArray⟩) w' ∧ (convert 22 9 (.slice A a.length ca)).run Try.prog w' = .ok (.string ⟨a.toArray⟩) w' ∧ (convert 22 9 (.slice (some ⟨g, 0, none⟩) 32 gc)).run Try.prog w' = .ok (.string ⟨D.toArray⟩) w' ∧ w'.cell? ⟨M0, 0, none⟩ = some (.int .u32 1) ∧ w'.cell? ⟨M0, 1, none⟩ = some (.int .i64 b.length) ∧ w'.cell? ⟨M0, 2, none⟩ = some (.slice (some ⟨g, 0, none⟩) 32 gc))) (by kernel_rfl) h0 (fun hHeld => ?_)
    refine wpAnyH_take (i := 0) (v := ?v1_1) rfl (by kernel_rfl) (by kernel_rfl) (by kernel_rfl) (fun _ _ _ h => h) (Or.inl ⟨by rfl, ?y1_1⟩) (by assumption) ?r1_1
    case y1_1 => (intro w hSw; (try dsimp only at hSw); go_simp; try with_reducible rfl)
    (try simp only [Act.put, List.getElem_toArray, List.getElem_cons_zero, List.getElem_cons_succ, List.setIfInBounds_toArray, List.set_cons_zero, List.set_cons_succ])
    refine wpAnyH_take (i := 1) (v := ?v1_2) rfl (by kernel_rfl) (by kernel_rfl) (by kernel_rfl) (fun _ _ _ h => h) (Or.inl ⟨by rfl, ?y1_2⟩) (by assumption) ?r1_2
    case y1_2 => (intro w hSw; (try dsimp only at hSw); go_simp; try with_reducible rfl)
    (try simp only [Act.put, List.getElem_toArray, List.getElem_cons_zero, List.getElem_cons_succ, List.setIfInBounds_toArray, List.set_cons_zero, List.set_cons_succ])
    refine wpAnyH_take (i := 2) (v := ?v1_3) rfl (by kernel_rfl) (by kernel_rfl) (by kernel_rfl) (fun _ _ _ h => h) (Or.inl ⟨by rfl, ?y1_3⟩) (by assumption) ?r1_3
    case y1_3 => (intro w hSw; (try dsimp only at hSw); go_simp; try with_reducible rfl)
    (try simp only [Act.put, List.getElem_toArray, List.getElem_cons_zero, List.getElem_cons_succ, List.setIfInBounds_toArray, List.set_cons_zero, List.set_cons_succ])
    refine wpAnyH_take (i := 3) (v := ?v1_4) rfl (by kernel_rfl) (by kernel_rfl) (by kernel_rfl) (fun _ _ _ h => h) (Or.inl ⟨by rfl, ?y1_4⟩) (by assumption) ?r1_4
    case y1_4 => (intro w hSw; (try dsimp only at hSw); go_simp; try with_reducible rfl)
    (try simp only [Act.put, List.getElem_toArray, List.getElem_cons_zero, List.getElem_cons_succ, List.setIfInBounds_toArray, List.set_cons_zero, List.set_cons_succ])
    refine wpAnyH_take (i := 4) (v := ?v1_5) rfl (by kernel_rfl) (by kernel_rfl) (by kernel_rfl) (fun _ _ _ h => h) (Or.inl ⟨by rfl, ?y1_5⟩) (by assumption) ?r1_5
    case y1_5 => (intro w hSw; (try dsimp only at hSw); go_simp; try with_reducible rfl)
    (try simp only [Act.put, List.getElem_toArray, List.getElem_cons_zero, List.getElem_cons_succ, List.setIfInBounds_toArray, List.set_cons_zero, List.set_cons_succ])
    refine wpAnyH_take (i := 5) (v := ?v1_6) rfl (by kernel_rfl) (by kernel_rfl) (by kernel_rfl) (fun _ _ _ h => h) (Or.inl ⟨by rfl, ?y1_6⟩) (by assumption) ?r1_6
    case y1_6 => (intro w hSw; (try dsimp only at hSw); go_simp; try with_reducible rfl)
    (try simp only [Act.put, List.getElem_toArray, List.getElem_cons_zero, List.getElem_cons_succ, List.setIfInBounds_toArray, List.set_cons_zero, List.set_cons_succ])
    refine wpAnyH_take (i := 6) (v := ?v1_7) rfl (by kernel_rfl) (by kernel_rfl) (by kernel_rfl) (fun _ _ _ h => h) (Or.inl ⟨by rfl, ?y1_7⟩) (by assumption) ?r1_7
    case y1_7 => (intro w hSw; (try dsimp only at hSw); go_simp; try with_reducible rfl)
    (try simp only [Act.put, List.getElem_toArray, List.getElem_cons_zero, List.getElem_cons_succ, List.setIfInBounds_toArray, List.set_cons_zero, List.set_cons_succ])
    refine wpAnyH_take (i := 7) (v := ?v1_8) rfl (by kernel_rfl) (by kernel_rfl) (by kernel_rfl) (fun _ _ _ h => h) (Or.inl ⟨by rfl, ?y1_8⟩) (by assumption) ?r1_8
    case y1_8 => (intro w hSw; (try dsimp only at hSw); go_simp; try with_reducible rfl)
    (try simp only [Act.put, List.getElem_toArray, List.getElem_cons_zero, List.getElem_cons_succ, List.setIfInBounds_toArray, List.set_cons_zero, List.set_cons_succ])
    refine wpAnyH_take (i := 8) (v := ?v1_9) rfl (by kernel_rfl) (by kernel_rfl) (by kernel_rfl) (fun _ _ _ h => h) (Or.inl ⟨by rfl, ?y1_9⟩) (by assumption) ?r1_9
    case y1_9 => (intro w hSw; (try dsimp only at hSw); go_simp; try with_reducible rfl)
    (try simp only [Act.put, List.getElem_toArray, List.getElem_cons_zero, List.getElem_cons_succ, List.setIfInBounds_toArray, List.set_cons_zero, List.set_cons_succ])
    refine wpAnyH_take (i := 9) (v := ?v1_10) rfl (by kernel_rfl) (by kernel_rfl) (by kernel_rfl) (fun _ _ _ h => h) (Or.inl ⟨by rfl, ?y1_10⟩) (by assumption) ?r1_10
    case y1_10 => (intro w hSw; (try dsimp only at hSw); go_simp; try with_reducible rfl)
    (try simp only [Act.put, List.getElem_toArray, List.getElem_cons_zero, List.getElem_cons_succ, List.setIfInBounds_toArray, List.set_cons_zero, List.set_cons_succ])
    refine wpAnyH_take (i := 10) (v := ?v1_11) rfl (by kernel_rfl) (by kernel_rfl) (by kernel_rfl) (fun _ _ _ h => h) (Or.inl ⟨by rfl, ?y1_11⟩) (by assumption) ?r1_11
    case y1_11 => (intro w hSw; (try dsimp only at hSw); go_simp; try with_reducible rfl)
    (try simp only [Act.put, List.getElem_toArray, List.getElem_cons_zero, List.getElem_cons_succ, List.setIfInBounds_toArray, List.set_cons_zero, List.set_cons_succ])
    refine wpAnyH_take (i := 11) (v := ?v1_12) rfl (by kernel_rfl) (by kernel_rfl) (by kernel_rfl) (fun _ _ _ h => h) (Or.inl ⟨by rfl, ?y1_12⟩) (by assumption) ?r1_12
    case y1_12 => (intro w hSw; (try dsimp only at hSw); go_simp; try with_reducible rfl)
    (try simp only [Act.put, List.getElem_toArray, List.getElem_cons_zero, List.getElem_cons_succ, List.setIfInBounds_toArray, List.set_cons_zero, List.set_cons_succ])
    refine wpAnyH_take (i := 12) (v := ?v1_13) rfl (by kernel_rfl) (by kernel_rfl) (by kernel_rfl) (fun _ _ _ h => h) (Or.inl ⟨by rfl, ?y1_13⟩) (by assumption) ?r1_13
    case y1_13 => (intro w hSw; (try dsimp only at hSw); go_simp; try with_reducible rfl)
    (try simp only [Act.put, List.getElem_toArray, List.getElem_cons_zero, List.getElem_cons_succ, List.setIfInBounds_toArray, List.set_cons_zero, List.set_cons_succ])
    refine wpAnyH_take (i := 13) (v := ?v1_14) rfl (by kernel_rfl) (by kernel_rfl) (by kernel_rfl) (fun _ _ _ h => h) (Or.inl ⟨by rfl, ?y1_14⟩) (by assumption) ?r1_14
    case y1_14 => (intro w hSw; (try dsimp only at hSw); go_simp; try with_reducible rfl)
    (try simp only [Act.put, List.getElem_toArray, List.getElem_cons_zero, List.getElem_cons_succ, List.setIfInBounds_toArray, List.set_cons_zero, List.set_cons_succ])
    refine wpAnyH_take (i := 14) (v := ?v1_15) rfl (by kernel_rfl) (by kernel_rfl) (by kernel_rfl) (fun _ _ _ h => h) (Or.inl ⟨by rfl, ?y1_15⟩) (by assumption) ?r1_15
    case y1_15 => (intro w hSw; (try dsimp only at hSw); go_simp; try with_reducible rfl)
    (try simp only [Act.put, List.getElem_toArray, List.getElem_cons_zero, List.getElem_cons_succ, List.setIfInBounds_toArray, List.set_cons_zero, List.set_cons_succ])
    refine wpAnyH_take (i := 15) (v := ?v1_16) rfl (by kernel_rfl) (by kernel_rfl) (by kernel_rfl) (fun _ _ _ h => h) (Or.inl ⟨by rfl, ?y1_16⟩) (by assumption) ?r1_16
    case y1_16 => (intro w hSw; (try dsimp only at hSw); go_simp; try with_reducible rfl)
    (try simp only [Act.put, List.getElem_toArray, List.getElem_cons_zero, List.getElem_cons_succ, List.setIfInBounds_toArray, List.set_cons_zero, List.set_cons_succ])
    refine wpAnyH_take (i := 16) (v := ?v1_17) rfl (by kernel_rfl) (by kernel_rfl) (by kernel_rfl) (fun _ _ _ h => h) (Or.inl ⟨by rfl, ?y1_17⟩) (by assumption) ?r1_17
    case y1_17 => (intro w hSw; (try dsimp only at hSw); go_simp; try with_reducible rfl)
    (try simp only [Act.put, List.getElem_toArray, List.getElem_cons_zero, List.getElem_cons_succ, List.setIfInBounds_toArray, List.set_cons_zero, List.set_cons_succ])
    refine wpAnyH_take (i := 17) (v := ?v1_18) rfl (by kernel_rfl) (by kernel_rfl) (by kernel_rfl) (fun _ _ _ h => h) (Or.inl ⟨by rfl, ?y1_18⟩) (by assumption) ?r1_18
    case y1_18 => (intro w hSw; (try dsimp only at hSw); go_simp; try with_reducible rfl)
    (try simp only [Act.put, List.getElem_toArray, List.getElem_cons_zero, List.getElem_cons_succ, List.setIfInBounds_toArray, List.set_cons_zero, List.set_cons_succ])
    refine wpAnyH_take (i := 18) (v := ?v1_19) rfl (by kernel_rfl) (by kernel_rfl) (by kernel_rfl) (fun _ _ _ h => h) (Or.inl ⟨by rfl, ?y1_19⟩) (by assumption) ?r1_19
    case y1_19 => (intro w hSw; (try dsimp only at hSw); go_simp; try with_reducible rfl)
    (try simp only [Act.put, List.getElem_toArray, List.getElem_cons_zero, List.getElem_cons_succ, List.setIfInBounds_toArray, List.set_cons_zero, List.set_cons_succ])
    refine wpAnyH_take (i := 19) (v := ?v1_20) rfl (by kernel_rfl) (by kernel_rfl) (by kernel_rfl) (fun _ _ _ h => h) (Or.inl ⟨by rfl, ?y1_20⟩) (by assumption) ?r1_20
    case y1_20 => (intro w hSw; (try dsimp only at hSw); go_simp; try with_reducible rfl)
    (try simp only [Act.put, List.getElem_toArray, List.getElem_cons_zero, List.getElem_cons_succ, List.setIfInBounds_toArray, List.set_cons_zero, List.set_cons_succ])
    refine wpAnyH_take (i := 20) (v := ?v1_21) rfl (by kernel_rfl) (by kernel_rfl) (by kernel_rfl) (fun _ _ _ h => h) (Or.inl ⟨by rfl, ?y1_21⟩) (by assumption) ?r1_21
    case y1_21 => (intro w hSw; (try dsimp only at hSw); go_simp; try with_reducible rfl)
    (try simp only [Act.put, List.getElem_toArray, List.getElem_cons_zero, List.getElem_cons_succ, List.setIfInBounds_toArray, List.set_cons_zero, List.set_cons_succ])
    refine wpAnyH_take (i := 21) (v := ?v1_22) rfl (by kernel_rfl) (by kernel_rfl) (by kernel_rfl) (fun _ _ _ h => h) (Or.inl ⟨by rfl, ?y1_22⟩) (by assumption) ?r1_22
    case y1_22 => (intro w hSw; (try dsimp only at hSw); go_simp; try with_reducible rfl)
    (try simp only [Act.put, List.getElem_toArray, List.getElem_cons_zero, List.getElem_cons_succ, List.setIfInBounds_toArray, List.set_cons_zero, List.set_cons_succ])
    refine wpAnyH_take (i := 22) (v := ?v1_23) rfl (by kernel_rfl) (by kernel_rfl) (by kernel_rfl) (fun _ _ _ h => h) (Or.inl ⟨by rfl, ?y1_23⟩) (by assumption) ?r1_23
    case y1_23 => (intro w hSw; (try dsimp only at hSw); go_simp; try with_reducible rfl)
    (try simp only [Act.put, List.getElem_toArray, List.getElem_cons_zero, List.getElem_cons_succ, List.setIfInBounds_toArray, List.set_cons_zero, List.set_cons_succ])
    refine wpAnyH_take (i := 23) (v := ?v1_24) rfl (by kernel_rfl) (by kernel_rfl) (by kernel_rfl) (fun _ _ _ h => h) (Or.inl ⟨by rfl, ?y1_24⟩) (by assumption) ?r1_24
    case y1_24 => (intro w hSw; (try dsimp only at hSw); go_simp; try with_reducible rfl)
    (try simp only [Act.put, List.getElem_toArray, List.getElem_cons_zero, List.getElem_cons_succ, List.setIfInBounds_toArray, List.set_cons_zero, List.set_cons_succ])
    refine wpAnyH_take (i := 24) (v := ?v1_25) rfl (by kernel_rfl) (by kernel_rfl) (by kernel_rfl) (fun _ _ _ h => h) (Or.inl ⟨by rfl, ?y1_25⟩) (by assumption) ?r1_25
    case y1_25 => (intro w hSw; (try dsimp only at hSw); go_simp; try with_reducible rfl)
    (try simp only [Act.put, List.getElem_toArray, List.getElem_cons_zero, List.getElem_cons_succ, List.setIfInBounds_toArray, List.set_cons_zero, List.set_cons_succ])
    refine wpAnyH_take (i := 25) (v := ?v1_26) rfl (by kernel_rfl) (by kernel_rfl) (by kernel_rfl) (fun _ _ _ h => h) (Or.inl ⟨by rfl, ?y1_26⟩) (by assumption) ?r1_26
    case y1_26 => (intro w hSw; (try dsimp only at hSw); go_simp; try with_reducible rfl)
    (try simp only [Act.put, List.getElem_toArray, List.getElem_cons_zero, List.getElem_cons_succ, List.setIfInBounds_toArray, List.set_cons_zero, List.set_cons_succ])
    refine wpAnyH_take (i := 26) (v := ?v1_27) rfl (by kernel_rfl) (by kernel_rfl) (by kernel_rfl) (fun _ _ _ h => h) (Or.inl ⟨by rfl, ?y1_27⟩) (by assumption) ?r1_27
    case y1_27 => (intro w hSw; (try dsimp only at hSw); go_simp; try with_reducible rfl)
    (try simp only [Act.put, List.getElem_toArray, List.getElem_cons_zero, List.getElem_cons_succ, List.setIfInBounds_toArray, List.set_cons_zero, List.set_cons_succ])
    refine wpAnyH_ready (rs := [27]) (by kernel_rfl) (by simp) ?_
    refine AllReadyH.cons rfl (fun K hK => ?_) AllReadyH.nil
    go_simp
    refine HRg.out.mono ?_
    rintro e w13 ⟨rfl, hk13⟩
    have hK13 := (Keeps.refl [] w12).drew.trans hk13
    have h13 := HALL.out _ hK13
    go_wp2_with fail
    refine hK.out _ _ ?s1_28 (fun hHeld => ?_)
    case s1_28 => ((try dsimp only) <;> (first | exact h13))
    clear hK K
    (try simp only [Act.put, List.getElem_toArray, List.getElem_cons_zero, List.getElem_cons_succ, List.setIfInBounds_toArray, List.set_cons_zero, List.set_cons_succ])
    refine wpAnyH_take (i := 28) (v := ?v1_29) rfl (by kernel_rfl) (by kernel_rfl) (by kernel_rfl) (fun _ _ _ h => h) (Or.inl ⟨by rfl, ?y1_29⟩) (by assumption) ?r1_29
    case y1_29 => (intro w hSw; (try dsimp only at hSw); go_simp; try with_reducible rfl)
    (try simp only [Act.put, List.getElem_toArray, List.getElem_cons_zero, List.getElem_cons_succ, List.setIfInBounds_toArray, List.set_cons_zero, List.set_cons_succ])
    refine wpAnyH_take (i := 29) (v := ?v1_30) rfl (by kernel_rfl) (by kernel_rfl) (by kernel_rfl) (fun _ _ _ h => h) (Or.inl ⟨by rfl, ?y1_30⟩) (by assumption) ?r1_30
    case y1_30 => (intro w hSw; (try dsimp only at hSw); go_simp; try with_reducible rfl)
    (try simp only [Act.put, List.getElem_toArray, List.getElem_cons_zero, List.getElem_cons_succ, List.setIfInBounds_toArray, List.set_cons_zero, List.set_cons_succ])
    refine wpAnyH_take (i := 30) (v := ?v1_31) rfl (by kernel_rfl) (by kernel_rfl) (by kernel_rfl) (fun _ _ _ h => h) (Or.inl ⟨by rfl, ?y1_31⟩) (by assumption) ?r1_31
    case y1_31 => (intro w hSw; (try dsimp only at hSw); go_simp; try with_reducible rfl)
    (try simp only [Act.put, List.getElem_toArray, List.getElem_cons_zero, List.getElem_cons_succ, List.setIfInBounds_toArray, List.set_cons_zero, List.set_cons_succ])
    refine wpAnyH_take (i := 31) (v := ?v1_32) rfl (by kernel_rfl) (by kernel_rfl) (by kernel_rfl) (fun _ _ _ h => h) (Or.inl ⟨by rfl, ?y1_32⟩) (by assumption) ?r1_32
    case y1_32 => (intro w hSw; (try dsimp only at hSw); go_simp; try with_reducible rfl)
    (try simp only [Act.put, List.getElem_toArray, List.getElem_cons_zero, List.getElem_cons_succ, List.setIfInBounds_toArray, List.set_cons_zero, List.set_cons_succ])
    refine wpAnyH_take (i := 32) (v := ?v1_33) rfl (by kernel_rfl) (by kernel_rfl) (by kernel_rfl) (fun _ _ _ h => h) (Or.inl ⟨by rfl, ?y1_33⟩) (by assumption) ?r1_33
    case y1_33 => (intro w hSw; (try dsimp only at hSw); go_simp; try with_reducible rfl)
    (try simp only [Act.put, List.getElem_toArray, List.getElem_cons_zero, List.getElem_cons_succ, List.setIfInBounds_toArray, List.set_cons_zero, List.set_cons_succ])
    refine wpAnyH_take (i := 33) (v := ?v1_34) rfl (by kernel_rfl) (by kernel_rfl) (by kernel_rfl) (fun _ _ _ h => h) (Or.inl ⟨by rfl, ?y1_34⟩) (by assumption) ?r1_34
    case y1_34 => (intro w hSw; (try dsimp only at hSw); go_simp; try with_reducible rfl)
    (try simp only [Act.put, List.getElem_toArray, List.getElem_cons_zero, List.getElem_cons_succ, List.setIfInBounds_toArray, List.set_cons_zero, List.set_cons_succ])
    refine wpAnyH_take (i := 34) (v := ?v1_35) rfl (by kernel_rfl) (by kernel_rfl) (by kernel_rfl) (fun _ _ _ h => h) (Or.inl ⟨by rfl, ?y1_35⟩) (by assumption) ?r1_35
    case y1_35 => (intro w hSw; (try dsimp only at hSw); go_simp; try with_reducible rfl)
    (try simp only [Act.put, List.getElem_toArray, List.getElem_cons_zero, List.getElem_cons_succ, List.setIfInBounds_toArray, List.set_cons_zero, List.set_cons_succ])
    refine wpAnyH_take (i := 35) (v := ?v1_36) rfl (by kernel_rfl) (by kernel_rfl) (by kernel_rfl) (fun _ _ _ h => h) (Or.inl ⟨by rfl, ?y1_36⟩) (by assumption) ?r1_36
    case y1_36 => (intro w hSw; (try dsimp only at hSw); go_simp; try with_reducible rfl)
    (try simp only [Act.put, List.getElem_toArray, List.getElem_cons_zero, List.getElem_cons_succ, List.setIfInBounds_toArray, List.set_cons_zero, List.set_cons_succ])
    refine wpAnyH_take (i := 36) (v := ?v1_37) rfl (by kernel_rfl) (by kernel_rfl) (by kernel_rfl) (fun _ _ _ h => h) (Or.inl ⟨by rfl, ?y1_37⟩) (by assumption) ?r1_37
    case y1_37 => (intro w hSw; (try dsimp only at hSw); go_simp; try with_reducible rfl)
    (try simp only [Act.put, List.getElem_toArray, List.getElem_cons_zero, List.getElem_cons_succ, List.setIfInBounds_toArray, List.set_cons_zero, List.set_cons_succ])
    refine wpAnyH_take (i := 37) (v := ?v1_38) rfl (by kernel_rfl) (by kernel_rfl) (by kernel_rfl) (fun _ _ _ h => h) (Or.inl ⟨by rfl, ?y1_38⟩) (by assumption) ?r1_38
    case y1_38 => (intro w hSw; (try dsimp only at hSw); go_simp; try with_reducible rfl)
    (try simp only [Act.put, List.getElem_toArray, List.getElem_cons_zero, List.getElem_cons_succ, List.setIfInBounds_toArray, List.set_cons_zero, List.set_cons_succ])
    refine wpAnyH_take (i := 38) (v := ?v1_39) rfl (by kernel_rfl) (by kernel_rfl) (by kernel_rfl) (fun _ _ _ h => h) (Or.inl ⟨by rfl, ?y1_39⟩) (by assumption) ?r1_39
    case y1_39 => (intro w hSw; (try dsimp only at hSw); go_simp; try with_reducible rfl)
    (try simp only [Act.put, List.getElem_toArray, List.getElem_cons_zero, List.getElem_cons_succ, List.setIfInBounds_toArray, List.set_cons_zero, List.set_cons_succ])
    refine wpAnyH_take (i := 39) (v := ?v1_40) rfl (by kernel_rfl) (by kernel_rfl) (by kernel_rfl) (fun _ _ _ h => h) (Or.inl ⟨by rfl, ?y1_40⟩) (by assumption) ?r1_40
    case y1_40 => (intro w hSw; (try dsimp only at hSw); go_simp; try with_reducible rfl)
    (try simp only [Act.put, List.getElem_toArray, List.getElem_cons_zero, List.getElem_cons_succ, List.setIfInBounds_toArray, List.set_cons_zero, List.set_cons_succ])
    refine wpAnyH_ready (rs := [40]) (by kernel_rfl) (by simp) ?_
    refine AllReadyH.cons rfl (fun K hK => ?_) AllReadyH.nil
    go_simp
    refine (HDg.out _ hK13).mono ?_
    rintro e w14 ⟨v14, rfl, hv14, hk14⟩
    have hK14 := hK13.trans hk14
    have h14 := HALL.out _ hK14
    have hst14 := hv14.sl.str
    have hsl := Hsl.out
    obtain ⟨a14, k14, rfl, _⟩ := hv14.cap
    rw [hsl] at hst14 ⊢
    clear hv14 hsl
    go_wp2_with fail
    refine hK.out _ _ ?s1_41 (fun hHeld => ?_)
    case s1_41 => ((try dsimp only) <;> (first | exact h14))
    clear hK K
    (try simp only [Act.put, List.getElem_toArray, List.getElem_cons_zero, List.getElem_cons_succ, List.setIfInBounds_toArray, List.set_cons_zero, List.set_cons_succ])
    refine wpAnyH_ready (rs := [41]) (by kernel_rfl) (by simp) ?_
    refine AllReadyH.cons rfl (fun K hK => ?_) AllReadyH.nil
    go_simp
    refine hK.out _ _ ?s1_42 (fun hHeld => ?_)
    case s1_42 => ((try dsimp only) <;> (first | exact h14))
    clear hK K
    (try simp only [Act.put, List.getElem_toArray, List.getElem_cons_zero, List.getElem_cons_succ, List.setIfInBounds_toArray, List.set_cons_zero, List.set_cons_succ])
    refine wpAnyH_take (i := 42) (v := ?v1_43) rfl (by kernel_rfl) (by kernel_rfl) (by kernel_rfl) (fun _ _ _ h => h) (Or.inl ⟨by rfl, ?y1_43⟩) (by assumption) ?r1_43
    case y1_43 => (intro w hSw; (try dsimp only at hSw); go_simp; try with_reducible rfl)
    (try simp only [Act.put, List.getElem_toArray, List.getElem_cons_zero, List.getElem_cons_succ, List.setIfInBounds_toArray, List.set_cons_zero, List.set_cons_succ])
    refine wpAnyH_take (i := 43) (v := ?v1_44) rfl (by kernel_rfl) (by kernel_rfl) (by kernel_rfl) (fun _ _ _ h => h) (Or.inl ⟨by rfl, ?y1_44⟩) (by assumption) ?r1_44
    case y1_44 => (intro w hSw; (try dsimp only at hSw); go_simp; try with_reducible rfl)
    (try simp only [Act.put, List.getElem_toArray, List.getElem_cons_zero, List.getElem_cons_succ, List.setIfInBounds_toArray, List.set_cons_zero, List.set_cons_succ])
    refine wpAnyH_take (i := 44) (v := ?v1_45) rfl (by kernel_rfl) (by kernel_rfl) (by kernel_rfl) (fun _ _ _ h => h) (Or.inl ⟨by rfl, ?y1_45⟩) (by assumption) ?r1_45
    case y1_45 => (intro w hSw; (try dsimp only at hSw); go_simp; try with_reducible rfl)
    (try simp only [Act.put, List.getElem_toArray, List.getElem_cons_zero, List.getElem_cons_succ, List.setIfInBounds_toArray, List.set_cons_zero, List.set_cons_succ])
    refine wpAnyH_ready (rs := [45]) (by kernel_rfl) (by simp) ?_
    refine AllReadyH.cons rfl (fun K hK => ?_) AllReadyH.nil
    go_simp
    refine awake20.mono ?_
    rintro e w15 ⟨rfl, hk15⟩
    have hK15 := hK14.trans hk15
    have h15 := HALL.out _ hK15
    go_wp2_with fail
    refine hK.out _ _ ?s1_46 (fun hHeld => ?_)
    case s1_46 => ((try dsimp only) <;> (first | exact h15))
    clear hK K
    (try simp only [Act.put, List.getElem_toArray, List.getElem_cons_zero, List.getElem_cons_succ, List.setIfInBounds_toArray, List.set_cons_zero, List.set_cons_succ])
    refine wpAnyH_take (i := 46) (v := ?v1_47) rfl (by kernel_rfl) (by kernel_rfl) (by kernel_rfl) (fun _ _ _ h => h) (Or.inl ⟨by rfl, ?y1_47⟩) (by assumption) ?r1_47
    case y1_47 => (intro w hSw; (try dsimp only at hSw); go_simp; try with_reducible rfl)
    (try simp only [Act.put, List.getElem_toArray, List.getElem_cons_zero, List.getElem_cons_succ, List.setIfInBounds_toArray, List.set_cons_zero, List.set_cons_succ])
    refine wpAnyH_take (i := 47) (v := ?v1_48) rfl (by kernel_rfl) (by kernel_rfl) (by kernel_rfl) (fun _ _ _ h => h) (Or.inl ⟨by rfl, ?y1_48⟩) (by assumption) ?r1_48
    case y1_48 => (intro w hSw; (try dsimp only at hSw); go_simp; try with_reducible rfl)
    (try simp only [Act.put, List.getElem_toArray, List.getElem_cons_zero, List.getElem_cons_succ, List.setIfInBounds_toArray, List.set_cons_zero, List.set_cons_succ])
    refine wpAnyH_done (by kernel_rfl) ?_ _
    refine NoPanic.normal ?_
    go_wp2_with fail
    go_ret
    have hpq := Hpq.out
    exact ⟨rfl, (HK12.out.trans hK15.nil).mono (by simp; exact hpq)⟩
  · go_wp2_with fail
    refine HCz.out.mono ?_
    rintro e w8 ⟨rfl, hF8, hk8⟩
    have hK8 := HK7.out.trans hk8
    have hc := slotread_calls hF8 s b.length
    rw [R7.out] at hc
    have HC := Lib.hid hc
    have HF8 := Lib.hid hF8
    have HK8 := Lib.hid hK8
    clear hc hF8 hk8 HK7 hK8
    go_wp2_with fail
    refine HC.out.mono ?_
    rintro e w9 ⟨v9, rfl, hv9, hk9⟩
    have hF9 := HF8.out.keeps hk9 (by simp) (by simp)
    have hK9 := HK8.out.trans hk9.nil
    obtain ⟨a9, k9, rfl, _⟩ := hv9.cap
    have hc := slotread_calls hF9 t a.length
    rw [R8.out] at hc
    have HC := Lib.hid hc
    have HF9 := Lib.hid hF9
    have HV9 := Lib.hid hv9
    have HK9 := Lib.hid hK9
    clear hc hF9 hk9 hK9 hv9
    go_wp2_with fail
    refine HC.out.mono ?_
    rintro e w10 ⟨v10, rfl, hv10, hk10⟩
    have HF10 := Lib.hid (HF9.out.keeps hk10 (by simp) (by simp))
    have HK10 : Hid (Keeps [p, q] w w10) := Lib.hid (HK9.out.trans hk10.nil)
    have HV9 := Lib.hid (HV9.out.keeps hk10 (by simp))
    obtain ⟨a10, k10, rfl, _⟩ := hv10.cap
    have HV10 := Lib.hid hv10
    have HOf := Lib.hid (slotof_yes (w := w10) 1 B cb b (HB.out.keeps HK10.out Hbb.out) HB0.out Hmb.out)
    clear hk10 hv10 HF9 HK9
    go_wp2_with fail
    refine HOf.out.mono ?_
    rintro e w11 ⟨v11, rfl, hv11, hk11⟩
    have hsl := sha_len b
    obtain ⟨g, gc, gr, rfl, hg1, hg2, hg3, hg4, hBg⟩ := hv11.rowc (by intro h; rw [h] at hsl; simp at hsl)
    have hrdD : Rd w11 (some ⟨g, 0, none⟩) (sha b) := by have := hBg.rdSub 0 (sha b).length; simpa using this
    have hF11 := HF10.out.keeps hk11 (by simp) (by simp)
    have hK11 : Keeps [p, q] w w11 := HK10.out.trans hk11.nil
    have HV9 := Lib.hid (HV9.out.keeps hk11 (by simp))
    have HV10 := Lib.hid (HV10.out.keeps hk11 (by simp))
    generalize hD : sha b = D at *
    rw [hsl] at hg1 ⊢
    have HD := Lib.hid hD
    have HrdD := Lib.hid hrdD
    have HF11 := Lib.hid hF11
    have HK11 := Lib.hid hK11
    clear hk11 hv11 hBg hrdD hF11 hK11 hD HF10 HK10 HOf
    go_upto_region 16 with (fail)
    have hT := Blk.newA w11 68 #[.int .u32 1, .int .i64 b.length, .slice (some ⟨g, 0, none⟩) 32 gc]
    have hKT := (Keeps.refl [] w11).alloc (.cells #[.int .u32 1, .int .i64 b.length, .slice (some ⟨g, 0, none⟩) 32 gc] 68)
    generalize w11.alloc (.cells #[.int .u32 1, .int .i64 b.length, .slice (some ⟨g, 0, none⟩) 32 gc] 68) = w12 at *
    have hK12 : Keeps [p, q] w w12 := HK11.out.trans hKT.nil
    have hF12 := HF11.out.keeps hKT (by simp) (by simp)
    have hV9 := HV9.out.keeps hKT (by simp)
    have hV10 := HV10.out.keeps hKT (by simp)
    have hD12 := HrdD.out.keepsNil hKT
    generalize w11.heap.size = M0 at *
    have hall : ∀ w', Keeps [] w12 w' → ((convert 22 9 (.slice a9 b.length k9)).run Try.prog w' = .ok (.string ⟨b.toArray⟩) w' ∧ (convert 22 9 (.slice B b.length cb)).run Try.prog w' = .ok (.string ⟨b.toArray⟩) w' ∧ (convert 22 9 (.slice a10 a.length k10)).run Try.prog w' = .ok (.string ⟨a.toArray⟩) w' ∧ (convert 22 9 (.slice A a.length ca)).run Try.prog w' = .ok (.string ⟨a.toArray⟩) w' ∧ (convert 22 9 (.slice (some ⟨g, 0, none⟩) 32 gc)).run Try.prog w' = .ok (.string ⟨D.toArray⟩) w' ∧ w'.cell? ⟨M0, 0, none⟩ = some (.int .u32 1) ∧ w'.cell? ⟨M0, 1, none⟩ = some (.int .i64 b.length) ∧ w'.cell? ⟨M0, 2, none⟩ = some (.slice (some ⟨g, 0, none⟩) 32 gc)) := fun w' k =>
      ⟨(hV9.keeps k (by simp)).sl.str, str_run (w := w') (a := B) b.length cb (HB.out.keeps (hK12.trans k.nil) Hbb.out) rfl (fun h => (HB0.out h).1),
        (hV10.keeps k (by simp)).sl.str, str_run (w := w') (a := A) a.length ca (HA.out.keeps (hK12.trans k.nil) Hab.out) rfl (fun h => (HA0.out h).1),
        str_run (w := w') (a := some ⟨g, 0, none⟩) 32 gc (hD12.keepsNil k) hsl (by simp),
        (hT.keeps k (by simp)).cell' (i := 0) rfl, (hT.keeps k (by simp)).cell' (i := 1) rfl, (hT.keeps k (by simp)).cell' (i := 2) rfl⟩
    have HALL := Lib.hid hall
    have h0 := hall _ (Keeps.refl [] w12).drew
    have hRg := slotright_calls hF12.drew s 1 b.length (some ⟨g, 0, none⟩) 32 gc D (hD12.keepsNil (Keeps.refl [] w12).drew) hsl
    rw [Q7.out] at hRg
    have HRg := Lib.hid hRg
    have hDg := fun w' (k : Keeps [] w12 w') => rdigest_calls (w := w') B b.length cb b (HB.out.keeps (hK12.trans k.nil) Hbb.out) rfl (by omega) (fun h => ⟨by rw [(HB0.out h).1]; rfl, (HB0.out h).2⟩)
    rw [HD.out] at hDg
    have HDg := Lib.hid hDg
    have HK12 := Lib.hid hK12
    have Hsl := Lib.hid hsl
    clear hT hKT hK12 hF12 hV9 hV10 hD12 hall hRg hDg hsl HF11 HK11 HV9 HV10 HrdD HCz HC
    refine wp_region_noPanic ?_
    refine wp_region_held_drew (S := (fun w' => (convert 22 9 (.slice a9 b.length k9)).run Try.prog w' = .ok (.string ⟨b.toArray⟩) w' ∧ (convert 22 9 (.slice B b.length cb)).run Try.prog w' = .ok (.string ⟨b.toArray⟩) w' ∧ (convert 22 9 (.slice a10 a.length k10)).run Try.prog w' = .ok (.string ⟨a.toArray⟩) w' ∧ (convert 22 9 (.slice A a.length ca)).run Try.prog w' = .ok (.string ⟨a.toArray⟩) w' ∧ (convert 22 9 (.slice (some ⟨g, 0, none⟩) 32 gc)).run Try.prog w' = .ok (.string ⟨D.toArray⟩) w' ∧ w'.cell? ⟨M0, 0, none⟩ = some (.int .u32 1) ∧ w'.cell? ⟨M0, 1, none⟩ = some (.int .i64 b.length) ∧ w'.cell? ⟨M0, 2, none⟩ = some (.slice (some ⟨g, 0, none⟩) 32 gc))) (by kernel_rfl) h0 (fun hHeld => ?_)
    refine wpAnyH_take (i := 0) (v := ?v2_49) rfl (by kernel_rfl) (by kernel_rfl) (by kernel_rfl) (fun _ _ _ h => h) (Or.inl ⟨by rfl, ?y2_49⟩) (by assumption) ?r2_49
    case y2_49 => (intro w hSw; (try dsimp only at hSw); go_simp; try with_reducible rfl)
    (try simp only [Act.put, List.getElem_toArray, List.getElem_cons_zero, List.getElem_cons_succ, List.setIfInBounds_toArray, List.set_cons_zero, List.set_cons_succ])
    refine wpAnyH_take (i := 1) (v := ?v2_50) rfl (by kernel_rfl) (by kernel_rfl) (by kernel_rfl) (fun _ _ _ h => h) (Or.inl ⟨by rfl, ?y2_50⟩) (by assumption) ?r2_50
    case y2_50 => (intro w hSw; (try dsimp only at hSw); go_simp; try with_reducible rfl)
    (try simp only [Act.put, List.getElem_toArray, List.getElem_cons_zero, List.getElem_cons_succ, List.setIfInBounds_toArray, List.set_cons_zero, List.set_cons_succ])
    refine wpAnyH_take (i := 2) (v := ?v2_51) rfl (by kernel_rfl) (by kernel_rfl) (by kernel_rfl) (fun _ _ _ h => h) (Or.inl ⟨by rfl, ?y2_51⟩) (by assumption) ?r2_51
    case y2_51 => (intro w hSw; (try dsimp only at hSw); go_simp; try with_reducible rfl)
    (try simp only [Act.put, List.getElem_toArray, List.getElem_cons_zero, List.getElem_cons_succ, List.setIfInBounds_toArray, List.set_cons_zero, List.set_cons_succ])
    refine wpAnyH_take (i := 3) (v := ?v2_52) rfl (by kernel_rfl) (by kernel_rfl) (by kernel_rfl) (fun _ _ _ h => h) (Or.inl ⟨by rfl, ?y2_52⟩) (by assumption) ?r2_52
    case y2_52 => (intro w hSw; (try dsimp only at hSw); go_simp; try with_reducible rfl)
    (try simp only [Act.put, List.getElem_toArray, List.getElem_cons_zero, List.getElem_cons_succ, List.setIfInBounds_toArray, List.set_cons_zero, List.set_cons_succ])
    refine wpAnyH_take (i := 4) (v := ?v2_53) rfl (by kernel_rfl) (by kernel_rfl) (by kernel_rfl) (fun _ _ _ h => h) (Or.inl ⟨by rfl, ?y2_53⟩) (by assumption) ?r2_53
    case y2_53 => (intro w hSw; (try dsimp only at hSw); go_simp; try with_reducible rfl)
    (try simp only [Act.put, List.getElem_toArray, List.getElem_cons_zero, List.getElem_cons_succ, List.setIfInBounds_toArray, List.set_cons_zero, List.set_cons_succ])
    refine wpAnyH_take (i := 5) (v := ?v2_54) rfl (by kernel_rfl) (by kernel_rfl) (by kernel_rfl) (fun _ _ _ h => h) (Or.inl ⟨by rfl, ?y2_54⟩) (by assumption) ?r2_54
    case y2_54 => (intro w hSw; (try dsimp only at hSw); go_simp; try with_reducible rfl)
    (try simp only [Act.put, List.getElem_toArray, List.getElem_cons_zero, List.getElem_cons_succ, List.setIfInBounds_toArray, List.set_cons_zero, List.set_cons_succ])
    refine wpAnyH_take (i := 6) (v := ?v2_55) rfl (by kernel_rfl) (by kernel_rfl) (by kernel_rfl) (fun _ _ _ h => h) (Or.inl ⟨by rfl, ?y2_55⟩) (by assumption) ?r2_55
    case y2_55 => (intro w hSw; (try dsimp only at hSw); go_simp; try with_reducible rfl)
    (try simp only [Act.put, List.getElem_toArray, List.getElem_cons_zero, List.getElem_cons_succ, List.setIfInBounds_toArray, List.set_cons_zero, List.set_cons_succ])
    refine wpAnyH_take (i := 7) (v := ?v2_56) rfl (by kernel_rfl) (by kernel_rfl) (by kernel_rfl) (fun _ _ _ h => h) (Or.inl ⟨by rfl, ?y2_56⟩) (by assumption) ?r2_56
    case y2_56 => (intro w hSw; (try dsimp only at hSw); go_simp; try with_reducible rfl)
    (try simp only [Act.put, List.getElem_toArray, List.getElem_cons_zero, List.getElem_cons_succ, List.setIfInBounds_toArray, List.set_cons_zero, List.set_cons_succ])
    refine wpAnyH_take (i := 8) (v := ?v2_57) rfl (by kernel_rfl) (by kernel_rfl) (by kernel_rfl) (fun _ _ _ h => h) (Or.inl ⟨by rfl, ?y2_57⟩) (by assumption) ?r2_57
    case y2_57 => (intro w hSw; (try dsimp only at hSw); go_simp; try with_reducible rfl)
    (try simp only [Act.put, List.getElem_toArray, List.getElem_cons_zero, List.getElem_cons_succ, List.setIfInBounds_toArray, List.set_cons_zero, List.set_cons_succ])
    refine wpAnyH_take (i := 9) (v := ?v2_58) rfl (by kernel_rfl) (by kernel_rfl) (by kernel_rfl) (fun _ _ _ h => h) (Or.inl ⟨by rfl, ?y2_58⟩) (by assumption) ?r2_58
    case y2_58 => (intro w hSw; (try dsimp only at hSw); go_simp; try with_reducible rfl)
    (try simp only [Act.put, List.getElem_toArray, List.getElem_cons_zero, List.getElem_cons_succ, List.setIfInBounds_toArray, List.set_cons_zero, List.set_cons_succ])
    refine wpAnyH_take (i := 10) (v := ?v2_59) rfl (by kernel_rfl) (by kernel_rfl) (by kernel_rfl) (fun _ _ _ h => h) (Or.inl ⟨by rfl, ?y2_59⟩) (by assumption) ?r2_59
    case y2_59 => (intro w hSw; (try dsimp only at hSw); go_simp; try with_reducible rfl)
    (try simp only [Act.put, List.getElem_toArray, List.getElem_cons_zero, List.getElem_cons_succ, List.setIfInBounds_toArray, List.set_cons_zero, List.set_cons_succ])
    refine wpAnyH_take (i := 11) (v := ?v2_60) rfl (by kernel_rfl) (by kernel_rfl) (by kernel_rfl) (fun _ _ _ h => h) (Or.inl ⟨by rfl, ?y2_60⟩) (by assumption) ?r2_60
    case y2_60 => (intro w hSw; (try dsimp only at hSw); go_simp; try with_reducible rfl)
    (try simp only [Act.put, List.getElem_toArray, List.getElem_cons_zero, List.getElem_cons_succ, List.setIfInBounds_toArray, List.set_cons_zero, List.set_cons_succ])
    refine wpAnyH_take (i := 12) (v := ?v2_61) rfl (by kernel_rfl) (by kernel_rfl) (by kernel_rfl) (fun _ _ _ h => h) (Or.inl ⟨by rfl, ?y2_61⟩) (by assumption) ?r2_61
    case y2_61 => (intro w hSw; (try dsimp only at hSw); go_simp; try with_reducible rfl)
    (try simp only [Act.put, List.getElem_toArray, List.getElem_cons_zero, List.getElem_cons_succ, List.setIfInBounds_toArray, List.set_cons_zero, List.set_cons_succ])
    refine wpAnyH_take (i := 13) (v := ?v2_62) rfl (by kernel_rfl) (by kernel_rfl) (by kernel_rfl) (fun _ _ _ h => h) (Or.inl ⟨by rfl, ?y2_62⟩) (by assumption) ?r2_62
    case y2_62 => (intro w hSw; (try dsimp only at hSw); go_simp; try with_reducible rfl)
    (try simp only [Act.put, List.getElem_toArray, List.getElem_cons_zero, List.getElem_cons_succ, List.setIfInBounds_toArray, List.set_cons_zero, List.set_cons_succ])
    refine wpAnyH_take (i := 14) (v := ?v2_63) rfl (by kernel_rfl) (by kernel_rfl) (by kernel_rfl) (fun _ _ _ h => h) (Or.inl ⟨by rfl, ?y2_63⟩) (by assumption) ?r2_63
    case y2_63 => (intro w hSw; (try dsimp only at hSw); go_simp; try with_reducible rfl)
    (try simp only [Act.put, List.getElem_toArray, List.getElem_cons_zero, List.getElem_cons_succ, List.setIfInBounds_toArray, List.set_cons_zero, List.set_cons_succ])
    refine wpAnyH_take (i := 15) (v := ?v2_64) rfl (by kernel_rfl) (by kernel_rfl) (by kernel_rfl) (fun _ _ _ h => h) (Or.inl ⟨by rfl, ?y2_64⟩) (by assumption) ?r2_64
    case y2_64 => (intro w hSw; (try dsimp only at hSw); go_simp; try with_reducible rfl)
    (try simp only [Act.put, List.getElem_toArray, List.getElem_cons_zero, List.getElem_cons_succ, List.setIfInBounds_toArray, List.set_cons_zero, List.set_cons_succ])
    refine wpAnyH_take (i := 16) (v := ?v2_65) rfl (by kernel_rfl) (by kernel_rfl) (by kernel_rfl) (fun _ _ _ h => h) (Or.inl ⟨by rfl, ?y2_65⟩) (by assumption) ?r2_65
    case y2_65 => (intro w hSw; (try dsimp only at hSw); go_simp; try with_reducible rfl)
    (try simp only [Act.put, List.getElem_toArray, List.getElem_cons_zero, List.getElem_cons_succ, List.setIfInBounds_toArray, List.set_cons_zero, List.set_cons_succ])
    refine wpAnyH_take (i := 17) (v := ?v2_66) rfl (by kernel_rfl) (by kernel_rfl) (by kernel_rfl) (fun _ _ _ h => h) (Or.inl ⟨by rfl, ?y2_66⟩) (by assumption) ?r2_66
    case y2_66 => (intro w hSw; (try dsimp only at hSw); go_simp; try with_reducible rfl)
    (try simp only [Act.put, List.getElem_toArray, List.getElem_cons_zero, List.getElem_cons_succ, List.setIfInBounds_toArray, List.set_cons_zero, List.set_cons_succ])
    refine wpAnyH_take (i := 18) (v := ?v2_67) rfl (by kernel_rfl) (by kernel_rfl) (by kernel_rfl) (fun _ _ _ h => h) (Or.inl ⟨by rfl, ?y2_67⟩) (by assumption) ?r2_67
    case y2_67 => (intro w hSw; (try dsimp only at hSw); go_simp; try with_reducible rfl)
    (try simp only [Act.put, List.getElem_toArray, List.getElem_cons_zero, List.getElem_cons_succ, List.setIfInBounds_toArray, List.set_cons_zero, List.set_cons_succ])
    refine wpAnyH_take (i := 19) (v := ?v2_68) rfl (by kernel_rfl) (by kernel_rfl) (by kernel_rfl) (fun _ _ _ h => h) (Or.inl ⟨by rfl, ?y2_68⟩) (by assumption) ?r2_68
    case y2_68 => (intro w hSw; (try dsimp only at hSw); go_simp; try with_reducible rfl)
    (try simp only [Act.put, List.getElem_toArray, List.getElem_cons_zero, List.getElem_cons_succ, List.setIfInBounds_toArray, List.set_cons_zero, List.set_cons_succ])
    refine wpAnyH_take (i := 20) (v := ?v2_69) rfl (by kernel_rfl) (by kernel_rfl) (by kernel_rfl) (fun _ _ _ h => h) (Or.inl ⟨by rfl, ?y2_69⟩) (by assumption) ?r2_69
    case y2_69 => (intro w hSw; (try dsimp only at hSw); go_simp; try with_reducible rfl)
    (try simp only [Act.put, List.getElem_toArray, List.getElem_cons_zero, List.getElem_cons_succ, List.setIfInBounds_toArray, List.set_cons_zero, List.set_cons_succ])
    refine wpAnyH_take (i := 21) (v := ?v2_70) rfl (by kernel_rfl) (by kernel_rfl) (by kernel_rfl) (fun _ _ _ h => h) (Or.inl ⟨by rfl, ?y2_70⟩) (by assumption) ?r2_70
    case y2_70 => (intro w hSw; (try dsimp only at hSw); go_simp; try with_reducible rfl)
    (try simp only [Act.put, List.getElem_toArray, List.getElem_cons_zero, List.getElem_cons_succ, List.setIfInBounds_toArray, List.set_cons_zero, List.set_cons_succ])
    refine wpAnyH_take (i := 22) (v := ?v2_71) rfl (by kernel_rfl) (by kernel_rfl) (by kernel_rfl) (fun _ _ _ h => h) (Or.inl ⟨by rfl, ?y2_71⟩) (by assumption) ?r2_71
    case y2_71 => (intro w hSw; (try dsimp only at hSw); go_simp; try with_reducible rfl)
    (try simp only [Act.put, List.getElem_toArray, List.getElem_cons_zero, List.getElem_cons_succ, List.setIfInBounds_toArray, List.set_cons_zero, List.set_cons_succ])
    refine wpAnyH_take (i := 23) (v := ?v2_72) rfl (by kernel_rfl) (by kernel_rfl) (by kernel_rfl) (fun _ _ _ h => h) (Or.inl ⟨by rfl, ?y2_72⟩) (by assumption) ?r2_72
    case y2_72 => (intro w hSw; (try dsimp only at hSw); go_simp; try with_reducible rfl)
    (try simp only [Act.put, List.getElem_toArray, List.getElem_cons_zero, List.getElem_cons_succ, List.setIfInBounds_toArray, List.set_cons_zero, List.set_cons_succ])
    refine wpAnyH_take (i := 24) (v := ?v2_73) rfl (by kernel_rfl) (by kernel_rfl) (by kernel_rfl) (fun _ _ _ h => h) (Or.inl ⟨by rfl, ?y2_73⟩) (by assumption) ?r2_73
    case y2_73 => (intro w hSw; (try dsimp only at hSw); go_simp; try with_reducible rfl)
    (try simp only [Act.put, List.getElem_toArray, List.getElem_cons_zero, List.getElem_cons_succ, List.setIfInBounds_toArray, List.set_cons_zero, List.set_cons_succ])
    refine wpAnyH_take (i := 25) (v := ?v2_74) rfl (by kernel_rfl) (by kernel_rfl) (by kernel_rfl) (fun _ _ _ h => h) (Or.inl ⟨by rfl, ?y2_74⟩) (by assumption) ?r2_74
    case y2_74 => (intro w hSw; (try dsimp only at hSw); go_simp; try with_reducible rfl)
    (try simp only [Act.put, List.getElem_toArray, List.getElem_cons_zero, List.getElem_cons_succ, List.setIfInBounds_toArray, List.set_cons_zero, List.set_cons_succ])
    refine wpAnyH_take (i := 26) (v := ?v2_75) rfl (by kernel_rfl) (by kernel_rfl) (by kernel_rfl) (fun _ _ _ h => h) (Or.inl ⟨by rfl, ?y2_75⟩) (by assumption) ?r2_75
    case y2_75 => (intro w hSw; (try dsimp only at hSw); go_simp; try with_reducible rfl)
    (try simp only [Act.put, List.getElem_toArray, List.getElem_cons_zero, List.getElem_cons_succ, List.setIfInBounds_toArray, List.set_cons_zero, List.set_cons_succ])
    refine wpAnyH_ready (rs := [27]) (by kernel_rfl) (by simp) ?_
    refine AllReadyH.cons rfl (fun K hK => ?_) AllReadyH.nil
    go_simp
    refine HRg.out.mono ?_
    rintro e w13 ⟨rfl, hk13⟩
    have hK13 := (Keeps.refl [] w12).drew.trans hk13
    have h13 := HALL.out _ hK13
    go_wp2_with fail
    refine hK.out _ _ ?s2_76 (fun hHeld => ?_)
    case s2_76 => ((try dsimp only) <;> (first | exact h13))
    clear hK K
    (try simp only [Act.put, List.getElem_toArray, List.getElem_cons_zero, List.getElem_cons_succ, List.setIfInBounds_toArray, List.set_cons_zero, List.set_cons_succ])
    refine wpAnyH_take (i := 28) (v := ?v2_77) rfl (by kernel_rfl) (by kernel_rfl) (by kernel_rfl) (fun _ _ _ h => h) (Or.inl ⟨by rfl, ?y2_77⟩) (by assumption) ?r2_77
    case y2_77 => (intro w hSw; (try dsimp only at hSw); go_simp; try with_reducible rfl)
    (try simp only [Act.put, List.getElem_toArray, List.getElem_cons_zero, List.getElem_cons_succ, List.setIfInBounds_toArray, List.set_cons_zero, List.set_cons_succ])
    refine wpAnyH_take (i := 29) (v := ?v2_78) rfl (by kernel_rfl) (by kernel_rfl) (by kernel_rfl) (fun _ _ _ h => h) (Or.inl ⟨by rfl, ?y2_78⟩) (by assumption) ?r2_78
    case y2_78 => (intro w hSw; (try dsimp only at hSw); go_simp; try with_reducible rfl)
    (try simp only [Act.put, List.getElem_toArray, List.getElem_cons_zero, List.getElem_cons_succ, List.setIfInBounds_toArray, List.set_cons_zero, List.set_cons_succ])
    refine wpAnyH_take (i := 30) (v := ?v2_79) rfl (by kernel_rfl) (by kernel_rfl) (by kernel_rfl) (fun _ _ _ h => h) (Or.inl ⟨by rfl, ?y2_79⟩) (by assumption) ?r2_79
    case y2_79 => (intro w hSw; (try dsimp only at hSw); go_simp; try with_reducible rfl)
    (try simp only [Act.put, List.getElem_toArray, List.getElem_cons_zero, List.getElem_cons_succ, List.setIfInBounds_toArray, List.set_cons_zero, List.set_cons_succ])
    refine wpAnyH_take (i := 31) (v := ?v2_80) rfl (by kernel_rfl) (by kernel_rfl) (by kernel_rfl) (fun _ _ _ h => h) (Or.inl ⟨by rfl, ?y2_80⟩) (by assumption) ?r2_80
    case y2_80 => (intro w hSw; (try dsimp only at hSw); go_simp; try with_reducible rfl)
    (try simp only [Act.put, List.getElem_toArray, List.getElem_cons_zero, List.getElem_cons_succ, List.setIfInBounds_toArray, List.set_cons_zero, List.set_cons_succ])
    refine wpAnyH_take (i := 32) (v := ?v2_81) rfl (by kernel_rfl) (by kernel_rfl) (by kernel_rfl) (fun _ _ _ h => h) (Or.inl ⟨by rfl, ?y2_81⟩) (by assumption) ?r2_81
    case y2_81 => (intro w hSw; (try dsimp only at hSw); go_simp; try with_reducible rfl)
    (try simp only [Act.put, List.getElem_toArray, List.getElem_cons_zero, List.getElem_cons_succ, List.setIfInBounds_toArray, List.set_cons_zero, List.set_cons_succ])
    refine wpAnyH_take (i := 33) (v := ?v2_82) rfl (by kernel_rfl) (by kernel_rfl) (by kernel_rfl) (fun _ _ _ h => h) (Or.inl ⟨by rfl, ?y2_82⟩) (by assumption) ?r2_82
    case y2_82 => (intro w hSw; (try dsimp only at hSw); go_simp; try with_reducible rfl)
    (try simp only [Act.put, List.getElem_toArray, List.getElem_cons_zero, List.getElem_cons_succ, List.setIfInBounds_toArray, List.set_cons_zero, List.set_cons_succ])
    refine wpAnyH_take (i := 34) (v := ?v2_83) rfl (by kernel_rfl) (by kernel_rfl) (by kernel_rfl) (fun _ _ _ h => h) (Or.inl ⟨by rfl, ?y2_83⟩) (by assumption) ?r2_83
    case y2_83 => (intro w hSw; (try dsimp only at hSw); go_simp; try with_reducible rfl)
    (try simp only [Act.put, List.getElem_toArray, List.getElem_cons_zero, List.getElem_cons_succ, List.setIfInBounds_toArray, List.set_cons_zero, List.set_cons_succ])
    refine wpAnyH_take (i := 35) (v := ?v2_84) rfl (by kernel_rfl) (by kernel_rfl) (by kernel_rfl) (fun _ _ _ h => h) (Or.inl ⟨by rfl, ?y2_84⟩) (by assumption) ?r2_84
    case y2_84 => (intro w hSw; (try dsimp only at hSw); go_simp; try with_reducible rfl)
    (try simp only [Act.put, List.getElem_toArray, List.getElem_cons_zero, List.getElem_cons_succ, List.setIfInBounds_toArray, List.set_cons_zero, List.set_cons_succ])
    refine wpAnyH_take (i := 36) (v := ?v2_85) rfl (by kernel_rfl) (by kernel_rfl) (by kernel_rfl) (fun _ _ _ h => h) (Or.inl ⟨by rfl, ?y2_85⟩) (by assumption) ?r2_85
    case y2_85 => (intro w hSw; (try dsimp only at hSw); go_simp; try with_reducible rfl)
    (try simp only [Act.put, List.getElem_toArray, List.getElem_cons_zero, List.getElem_cons_succ, List.setIfInBounds_toArray, List.set_cons_zero, List.set_cons_succ])
    refine wpAnyH_take (i := 37) (v := ?v2_86) rfl (by kernel_rfl) (by kernel_rfl) (by kernel_rfl) (fun _ _ _ h => h) (Or.inl ⟨by rfl, ?y2_86⟩) (by assumption) ?r2_86
    case y2_86 => (intro w hSw; (try dsimp only at hSw); go_simp; try with_reducible rfl)
    (try simp only [Act.put, List.getElem_toArray, List.getElem_cons_zero, List.getElem_cons_succ, List.setIfInBounds_toArray, List.set_cons_zero, List.set_cons_succ])
    refine wpAnyH_take (i := 38) (v := ?v2_87) rfl (by kernel_rfl) (by kernel_rfl) (by kernel_rfl) (fun _ _ _ h => h) (Or.inl ⟨by rfl, ?y2_87⟩) (by assumption) ?r2_87
    case y2_87 => (intro w hSw; (try dsimp only at hSw); go_simp; try with_reducible rfl)
    (try simp only [Act.put, List.getElem_toArray, List.getElem_cons_zero, List.getElem_cons_succ, List.setIfInBounds_toArray, List.set_cons_zero, List.set_cons_succ])
    refine wpAnyH_take (i := 39) (v := ?v2_88) rfl (by kernel_rfl) (by kernel_rfl) (by kernel_rfl) (fun _ _ _ h => h) (Or.inl ⟨by rfl, ?y2_88⟩) (by assumption) ?r2_88
    case y2_88 => (intro w hSw; (try dsimp only at hSw); go_simp; try with_reducible rfl)
    (try simp only [Act.put, List.getElem_toArray, List.getElem_cons_zero, List.getElem_cons_succ, List.setIfInBounds_toArray, List.set_cons_zero, List.set_cons_succ])
    refine wpAnyH_ready (rs := [40]) (by kernel_rfl) (by simp) ?_
    refine AllReadyH.cons rfl (fun K hK => ?_) AllReadyH.nil
    go_simp
    refine (HDg.out _ hK13).mono ?_
    rintro e w14 ⟨v14, rfl, hv14, hk14⟩
    have hK14 := hK13.trans hk14
    have h14 := HALL.out _ hK14
    have hst14 := hv14.sl.str
    have hsl := Hsl.out
    obtain ⟨a14, k14, rfl, _⟩ := hv14.cap
    rw [hsl] at hst14 ⊢
    clear hv14 hsl
    go_wp2_with fail
    refine hK.out _ _ ?s2_89 (fun hHeld => ?_)
    case s2_89 => ((try dsimp only) <;> (first | exact h14))
    clear hK K
    (try simp only [Act.put, List.getElem_toArray, List.getElem_cons_zero, List.getElem_cons_succ, List.setIfInBounds_toArray, List.set_cons_zero, List.set_cons_succ])
    refine wpAnyH_ready (rs := [41]) (by kernel_rfl) (by simp) ?_
    refine AllReadyH.cons rfl (fun K hK => ?_) AllReadyH.nil
    go_simp
    refine hK.out _ _ ?s2_90 (fun hHeld => ?_)
    case s2_90 => ((try dsimp only) <;> (first | exact h14))
    clear hK K
    (try simp only [Act.put, List.getElem_toArray, List.getElem_cons_zero, List.getElem_cons_succ, List.setIfInBounds_toArray, List.set_cons_zero, List.set_cons_succ])
    refine wpAnyH_take (i := 42) (v := ?v2_91) rfl (by kernel_rfl) (by kernel_rfl) (by kernel_rfl) (fun _ _ _ h => h) (Or.inl ⟨by rfl, ?y2_91⟩) (by assumption) ?r2_91
    case y2_91 => (intro w hSw; (try dsimp only at hSw); go_simp; try with_reducible rfl)
    (try simp only [Act.put, List.getElem_toArray, List.getElem_cons_zero, List.getElem_cons_succ, List.setIfInBounds_toArray, List.set_cons_zero, List.set_cons_succ])
    refine wpAnyH_take (i := 43) (v := ?v2_92) rfl (by kernel_rfl) (by kernel_rfl) (by kernel_rfl) (fun _ _ _ h => h) (Or.inl ⟨by rfl, ?y2_92⟩) (by assumption) ?r2_92
    case y2_92 => (intro w hSw; (try dsimp only at hSw); go_simp; try with_reducible rfl)
    (try simp only [Act.put, List.getElem_toArray, List.getElem_cons_zero, List.getElem_cons_succ, List.setIfInBounds_toArray, List.set_cons_zero, List.set_cons_succ])
    refine wpAnyH_take (i := 44) (v := ?v2_93) rfl (by kernel_rfl) (by kernel_rfl) (by kernel_rfl) (fun _ _ _ h => h) (Or.inl ⟨by rfl, ?y2_93⟩) (by assumption) ?r2_93
    case y2_93 => (intro w hSw; (try dsimp only at hSw); go_simp; try with_reducible rfl)
    (try simp only [Act.put, List.getElem_toArray, List.getElem_cons_zero, List.getElem_cons_succ, List.setIfInBounds_toArray, List.set_cons_zero, List.set_cons_succ])
    refine wpAnyH_ready (rs := [45]) (by kernel_rfl) (by simp) ?_
    refine AllReadyH.cons rfl (fun K hK => ?_) AllReadyH.nil
    go_simp
    refine awake20.mono ?_
    rintro e w15 ⟨rfl, hk15⟩
    have hK15 := hK14.trans hk15
    have h15 := HALL.out _ hK15
    go_wp2_with fail
    refine hK.out _ _ ?s2_94 (fun hHeld => ?_)
    case s2_94 => ((try dsimp only) <;> (first | exact h15))
    clear hK K
    (try simp only [Act.put, List.getElem_toArray, List.getElem_cons_zero, List.getElem_cons_succ, List.setIfInBounds_toArray, List.set_cons_zero, List.set_cons_succ])
    refine wpAnyH_take (i := 46) (v := ?v2_95) rfl (by kernel_rfl) (by kernel_rfl) (by kernel_rfl) (fun _ _ _ h => h) (Or.inl ⟨by rfl, ?y2_95⟩) (by assumption) ?r2_95
    case y2_95 => (intro w hSw; (try dsimp only at hSw); go_simp; try with_reducible rfl)
    (try simp only [Act.put, List.getElem_toArray, List.getElem_cons_zero, List.getElem_cons_succ, List.setIfInBounds_toArray, List.set_cons_zero, List.set_cons_succ])
    refine wpAnyH_take (i := 47) (v := ?v2_96) rfl (by kernel_rfl) (by kernel_rfl) (by kernel_rfl) (fun _ _ _ h => h) (Or.inl ⟨by rfl, ?y2_96⟩) (by assumption) ?r2_96
    case y2_96 => (intro w hSw; (try dsimp only at hSw); go_simp; try with_reducible rfl)
    (try simp only [Act.put, List.getElem_toArray, List.getElem_cons_zero, List.getElem_cons_succ, List.setIfInBounds_toArray, List.set_cons_zero, List.set_cons_succ])
    refine wpAnyH_done (by kernel_rfl) ?_ _
    refine NoPanic.normal ?_
    go_wp2_with fail
    go_ret
    have hpq := Hpq.out
    exact ⟨rfl, (HK12.out.trans hK15.nil).mono (by simp; exact hpq)⟩

end Go.Proofs.Ythjojkkjdaoocaa
