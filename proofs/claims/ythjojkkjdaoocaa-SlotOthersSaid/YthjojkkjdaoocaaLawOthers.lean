/-
  LawOthers: the walk of SlotOthers.
-/
import Derived.Test.YthjojkkjdaoocaaLawSteps
set_option linter.unusedVariables false
set_option linter.unusedSimpArgs false
namespace Go.Proofs.Ythjojkkjdaoocaa
open Go.RowKit
attribute [local go_sem ↓] Go.wp_at_zero Go.wp_at_succ

theorem set_eq_iff {l : List UInt8} {i : Nat} {y : UInt8} (hi : i < l.length) : (l = l.set i y) ↔ l.getD i 0 = y := by
  constructor
  · intro h
    have h2 : l.getD i 0 = (l.set i y).getD i 0 := congrArg (fun m => m.getD i 0) h
    rw [h2, List.getD, List.getElem?_set_self hi]; rfl
  · intro h
    apply ext_getD
    · rw [List.length_set]
    · intro j hj
      rw [getD_set]
      by_cases e : i = j ∧ j < l.length
      · rw [if_pos e, ← e.1, h]
      · rw [if_neg e]

theorem xor8 (a b : UInt8) : bits .xor .u8 (a.toNat : Int) (b.toNat : Int) = ((a ^^^ b).toNat : Int) := by
  rw [u8_xor_nat _ _ a.toNat_lt b.toNat_lt, UInt8.toNat_xor]

theorem xor_eq_self (h x : UInt8) : (h = h ^^^ x) ↔ x = 0 := by
  constructor
  · intro e
    have : h ^^^ h = h ^^^ (h ^^^ x) := congrArg (h ^^^ ·) e
    rw [UInt8.xor_self, ← UInt8.xor_assoc, UInt8.xor_self, UInt8.zero_xor] at this
    exact this.symm
  · rintro rfl; rw [UInt8.xor_zero]

theorem others_plain (s : Nat) (hs : s < 2) (img : List UInt8) (hm : mayB img = true) (i : Nat) (hi : i < 32) (x : UInt8) :
    ∃ G, (Fla.new 9).slotWrite s img = (G, 0) ∧ G.slotRight s img.length (sha img) = true ∧ G.slotRight s img.length ((sha img).set i ((sha img).getD i 0 ^^^ x)) = decide (x = 0) ∧ G.slotRight s 0 (sha img) = false := by
  have hl : 1 ≤ img.length ∧ img.length ≤ 512 := by unfold mayB at hm; simpa using hm
  obtain ⟨G, e, w⟩ := slotWrite_calm (new_good 9) rfl hs hm (by rw [new_blank 9 (by omega)]; intro h; cases h) (by rw [new_blank 9 (by omega)]; intro h; cases h)
  refine ⟨G, e, ?_, ?_, ?_⟩
  · unfold Fla.slotRight
    rw [if_neg (by omega), w.read, if_neg (by simp)]
    simp
  · unfold Fla.slotRight
    rw [if_neg (by omega), w.read, if_neg (by simp)]
    dsimp only
    have h1 := set_eq_iff (l := sha img) (i := i) (y := (sha img).getD i 0 ^^^ x) (by rw [sha_len]; exact hi)
    have h2 := xor_eq_self ((sha img).getD i 0) x
    by_cases hx : x = 0
    · rw [decide_eq_true hx, decide_eq_true (h1.2 (h2.2 hx))]
    · rw [decide_eq_false hx, decide_eq_false (fun h => hx (h2.1 (h1.1 h)))]
  · unfold Fla.slotRight
    rw [if_pos (by omega)]

set_option maxRecDepth 100000 in
set_option maxHeartbeats 4000000 in
theorem slotOthers_walk {w : World} (z : Int) (hz : (Lit.int .i64 z).wf = true) (A : Option Addr) (ca : Nat) (a : List UInt8) (hac : a.length ≤ ca) (ham : ca ≤ maxLen) (hA : Rd w A a) (hA0 : A = none → a = [] ∧ ca = 0)
    (at_ : Int) (hat : (Lit.int .i64 at_).wf = true) (x : Int) (hx : (Lit.int .u8 x).wf = true) :
    Calls Try.prog 17 #[.int .i64 z, .slice A a.length ca, .int .i64 at_, .int .u8 x] w (TrueKeep w) := by
  have HA := Lib.hid hA
  clear hA
  cases hm : mayB a
  · have hW : (Fla.new 9).slotWrite 0 a = (Fla.new 9, 1) := by unfold Fla.slotWrite; rw [if_pos (.inr hm)]
    have HW := Lib.hid hW
    have h12 : a.length < 1 ∨ 512 < a.length := by
      by_cases h : a.length < 1
      · exact .inl h
      · by_cases h' : 512 < a.length
        · exact .inr h'
        · exfalso
          have : mayB a = true := by unfold mayB; simp; omega
          rw [this] at hm; cases hm
    clear hW hm
    rcases h12 with h1 | h1
    · go_enter Try.func17, Try.ntmps17
      go_wp2_with fail
      refine (new_calls 9).mono ?_
      rintro e w1 ⟨p, q, rfl, hp, hq, hF, hK⟩
      have hWr := slotwrite_calls hF 0 A ca a (HA.out.keepsNil hK) (by intro y hy hne; have := HA.out.lt y hy hne; simp; omega)
      rw [HW.out] at hWr
      have HWr := Lib.hid hWr
      clear hWr hF
      go_wp2_with fail
      refine HWr.out.mono ?_
      rintro e w2 ⟨rfl, hF2, hk2⟩
      go_wp2_with fail
      refine awake20.mono ?_
      rintro e wa ⟨rfl, hKa⟩
      go_wp2_with fail
      go_ret
      exact ⟨rfl, ((hK.nil.trans hk2).trans hKa.nil).mono (by simp [hp, hq])⟩
    · go_enter Try.func17, Try.ntmps17
      go_wp2_with fail
      refine (new_calls 9).mono ?_
      rintro e w1 ⟨p, q, rfl, hp, hq, hF, hK⟩
      have hWr := slotwrite_calls hF 0 A ca a (HA.out.keepsNil hK) (by intro y hy hne; have := HA.out.lt y hy hne; simp; omega)
      rw [HW.out] at hWr
      have HWr := Lib.hid hWr
      clear hWr hF
      go_wp2_with fail
      refine HWr.out.mono ?_
      rintro e w2 ⟨rfl, hF2, hk2⟩
      go_wp2_with fail
      refine awake20.mono ?_
      rintro e wa ⟨rfl, hKa⟩
      go_wp2_with fail
      go_ret
      exact ⟨rfl, ((hK.nil.trans hk2).trans hKa.nil).mono (by simp [hp, hq])⟩
  have hl : 1 ≤ a.length ∧ a.length ≤ 512 := (mayB_iff a).1 hm
  have n1 : ¬ a.length < 1 := by omega
  have n2 : ¬ 512 < a.length := by omega
  by_cases hz01 : z < 0 ∨ 1 < z
  · have hW : (Fla.new 9).slotWrite z a = (Fla.new 9, 1) := by unfold Fla.slotWrite; rw [if_pos (.inl (by omega))]
    have hR : (Fla.new 9).slotRead z 1 = ([], 1) := by unfold Fla.slotRead; rw [if_pos (.inl (by omega))]
    have HW := Lib.hid hW
    have HR := Lib.hid hR
    clear hW hR hl hm
    rcases hz01 with h1 | h1
    · go_enter Try.func17, Try.ntmps17
      go_wp2_with fail
      refine (new_calls 9).mono ?_
      rintro e w1 ⟨p, q, rfl, hp, hq, hF, hK⟩
      have HF := Lib.hid hF
      clear hF
      go_wp2_with fail
      refine (slotread_calls HF.out z 1).mono ?_
      rw [HR.out]
      rintro e w2 ⟨v2, rfl, hv2, hk2⟩
      obtain ⟨a2, c2, rfl, _⟩ := hv2.cap
      have hF2 := HF.out.keeps hk2 (by simp) (by simp)
      have hK2 := hK.trans hk2
      have hWr := slotwrite_calls hF2 z A ca a (HA.out.keepsNil hK2) (by intro y hy hne; have := HA.out.lt y hy hne; simp; omega)
      rw [HW.out] at hWr
      have HWr := Lib.hid hWr
      clear hWr hF2 hv2
      go_wp2_with fail
      refine HWr.out.mono ?_
      rintro e w3 ⟨rfl, hF3, hk3⟩
      have HS := Lib.hid (steps_calls hF3)
      rw [show (Fla.new 9).steps = 0 from rfl] at HS
      clear hF3
      go_wp2_with fail
      refine HS.out.mono ?_
      rintro e w' ⟨rfl, rfl⟩
      go_wp2_with fail
      refine awake20.mono ?_
      rintro e wa ⟨rfl, hKa⟩
      go_wp2_with fail
      go_ret
      exact ⟨rfl, ((hK2.nil.trans hk3).trans hKa.nil).mono (by simp [hp, hq])⟩
    · go_enter Try.func17, Try.ntmps17
      go_wp2_with fail
      refine (new_calls 9).mono ?_
      rintro e w1 ⟨p, q, rfl, hp, hq, hF, hK⟩
      have HF := Lib.hid hF
      clear hF
      go_wp2_with fail
      refine (slotread_calls HF.out z 1).mono ?_
      rw [HR.out]
      rintro e w2 ⟨v2, rfl, hv2, hk2⟩
      obtain ⟨a2, c2, rfl, _⟩ := hv2.cap
      have hF2 := HF.out.keeps hk2 (by simp) (by simp)
      have hK2 := hK.trans hk2
      have hWr := slotwrite_calls hF2 z A ca a (HA.out.keepsNil hK2) (by intro y hy hne; have := HA.out.lt y hy hne; simp; omega)
      rw [HW.out] at hWr
      have HWr := Lib.hid hWr
      clear hWr hF2 hv2
      go_wp2_with fail
      refine HWr.out.mono ?_
      rintro e w3 ⟨rfl, hF3, hk3⟩
      have HS := Lib.hid (steps_calls hF3)
      rw [show (Fla.new 9).steps = 0 from rfl] at HS
      clear hF3
      go_wp2_with fail
      refine HS.out.mono ?_
      rintro e w' ⟨rfl, rfl⟩
      go_wp2_with fail
      refine awake20.mono ?_
      rintro e wa ⟨rfl, hKa⟩
      go_wp2_with fail
      go_ret
      exact ⟨rfl, ((hK2.nil.trans hk3).trans hKa.nil).mono (by simp [hp, hq])⟩
  obtain ⟨s, rfl⟩ : ∃ s : Nat, z = s := ⟨z.toNat, by omega⟩
  have hs : s < 2 := by omega
  obtain ⟨xb, rfl⟩ : ∃ xb : UInt8, x = xb.toNat := by
    have hb : 0 ≤ x ∧ x ≤ 255 := by simpa [Lit.wf, IntKind.has, IntKind.min, IntKind.max, IntKind.signed, IntKind.bits] using hx
    refine ⟨UInt8.ofNat x.toNat, ?_⟩
    rw [UInt8.toNat_ofNat']
    omega
  obtain ⟨i, hi, hu1, hu2⟩ := umod at_ 32 (by omega) (by omega)
  obtain ⟨G, hW, hR1, hR2, hR3⟩ := others_plain s hs a hm i (by omega) xb
  have hsl := sha_len a
  generalize hD : sha a = D at *
  have HD := Lib.hid hD
  have HW := Lib.hid hW
  have HR1 := Lib.hid hR1
  have HR2 := Lib.hid hR2
  have HR3 := Lib.hid hR3
  have z0 : ¬ (s : Int) < 0 := by omega
  have z1 : ¬ (1 : Int) < (s : Int) := by omega
  have HA0 := Lib.hid hA0
  have Hm := Lib.hid hm
  have Hx := Lib.hid hx
  clear hD hW hR1 hR2 hR3 hz01 hl hm hA0 hz hx
  go_enter Try.func17, Try.ntmps17
  go_wp2_with fail
  refine (new_calls 9).mono ?_
  rintro e w1 ⟨p, q, rfl, hp, hq, hF, hK⟩
  have hp1 := hF.ltp
  have hq1 := hF.ltq
  have HF := Lib.hid hF
  have Hk := Lib.hid (show w.heap.size ≤ p ∧ w.heap.size ≤ q from ⟨hp, hq⟩)
  clear hF
  have hOf := slotof_yes (w := w1) 4 A ca a (HA.out.keepsNil hK) HA0.out Hm.out
  rw [HD.out] at hOf
  have HOf := Lib.hid hOf
  clear hOf
  go_wp2_with fail
  refine HOf.out.mono ?_
  rintro e w2 ⟨v2, rfl, hv2, hk2⟩
  have hF2 := HF.out.keeps hk2 (by simp) (by simp)
  have hp2 := hF2.ltp
  have hq2 := hF2.ltq
  obtain ⟨g, gc, gr, rfl, hg1, hg2, hg3, hg4, hBg⟩ := hv2.rowc (by rintro rfl; simp at hsl)
  have hrdD : Rd w2 (some ⟨g, 0, none⟩) D := by have := hBg.rdSub 0 D.length; simpa using this
  rw [hsl] at hg1 ⊢
  clear hv2 hBg
  go_upto_region 8 with (fail)
  have hB := Blk.newA w2 68 #[.int .u32 4, .int .i64 a.length, .slice (some ⟨g, 0, none⟩) 32 gc]
  have hKB := (Keeps.refl [] w2).alloc (.cells #[.int .u32 4, .int .i64 a.length, .slice (some ⟨g, 0, none⟩) 32 gc] 68)
  have hK2 : Keeps [] w w2 := hK.trans hk2
  generalize w2.alloc (.cells #[.int .u32 4, .int .i64 a.length, .slice (some ⟨g, 0, none⟩) 32 gc] 68) = w3 at *
  have hn : w2.heap.size ≠ p ∧ w2.heap.size ≠ q ∧ g ≠ p ∧ g ≠ q ∧ g ≠ w2.heap.size := by omega
  have hF3 := hF2.keeps hKB (by simp) (by simp)
  have hK3 := hK2.trans hKB
  have hD3 := hrdD.keepsNil hKB
  have hsz3 := hB.lt
  have hw2 := hK2.size
  generalize hS0 : w2.heap.size = S0 at *
  clear hS0
  have hWr := slotwrite_calls hF3 s A ca a (HA.out.keepsNil hK3) (by intro y hy hne; have := HA.out.lt y hy hne; simp; omega)
  rw [HW.out] at hWr
  have HWr := Lib.hid hWr
  have HB := Lib.hid hB
  have HD3 := Lib.hid hD3
  have Hn := Lib.hid hn
  have HK3 := Lib.hid hK3
  clear hWr hF2 hF3 hB hD3 hrdD hn hKB hK2 hK3 hk2 hK
  go_wp2_with fail
  refine HWr.out.mono ?_
  rintro e w4 ⟨rfl, hF4, hk4⟩
  have hn := Hn.out
  have hB4 := HB.out.keeps hk4 (by simp; exact ⟨hn.1, hn.2.1⟩)
  have hD4 : Rd w4 (some ⟨g, 0, none⟩) D := HD3.out.keeps hk4 (by intro y hy _; simp only [Option.some.injEq] at hy; subst hy; simp; exact ⟨hn.2.2.1, hn.2.2.2.1⟩)
  have c0 := hB4.cell' (i := 0) rfl
  have c1 := hB4.cell' (i := 1) rfl
  have c2 := hB4.cell' (i := 2) rfl
  have hRg := slotright_calls hF4 s 4 a.length (some ⟨g, 0, none⟩) 32 gc D hD4 hsl
  rw [HR1.out] at hRg
  have HRg := Lib.hid hRg
  have HF4 := Lib.hid hF4
  have HB4 := Lib.hid hB4
  have HD4 := Lib.hid hD4
  have HK4 := Lib.hid (HK3.out.nil.trans hk4)
  clear hRg hF4 hB4 hD4 hn hk4
  go_wp2_with fail
  refine HRg.out.mono ?_
  rintro e w5 ⟨rfl, hk5⟩
  have hF5 := HF4.out.keeps hk5 (by simp) (by simp)
  have hB5 := HB4.out.keeps hk5 (by simp)
  have hD5 := HD4.out.keepsNil hk5
  have hK5 := HK4.out.trans hk5.nil
  clear hk5 c0 c1 c2
  have c0 := hB5.cell' (i := 0) rfl
  have c1 := hB5.cell' (i := 1) rfl
  have c2 := hB5.cell' (i := 2) rfl
  go_upto_region 11 with (fail)
  have hT := Blk.newA w5 68 #[.int .u32 4, .int .i64 a.length, .slice (some ⟨g, 0, none⟩) 32 gc]
  have hKT := (Keeps.refl [] w5).alloc (.cells #[.int .u32 4, .int .i64 a.length, .slice (some ⟨g, 0, none⟩) 32 gc] 68)
  generalize w5.alloc (.cells #[.int .u32 4, .int .i64 a.length, .slice (some ⟨g, 0, none⟩) 32 gc] 68) = w6 at *
  have hF6 := hF5.keeps hKT (by simp) (by simp)
  have hB6 := hB5.keeps hKT (by simp)
  have hD6 := hD5.keepsNil hKT
  have hK6 := hK5.trans hKT.nil
  have hn := Hn.out
  have hp5 := hF5.ltp
  have hq5 := hF5.ltq
  have hb5 := hB5.lt
  have hg5 : g < w5.heap.size := by
    have := hD5.lt ⟨g, 0, none⟩ rfl (by rintro rfl; simp at hsl)
    exact this
  have hw5 := hK5.size
  have hn6 : w5.heap.size ≠ p ∧ w5.heap.size ≠ q ∧ w5.heap.size ≠ S0 ∧ w5.heap.size ≠ g ∧ w.heap.size ≤ w5.heap.size := by omega
  generalize w5.heap.size = T0 at *
  have Hn6 := Lib.hid hn6
  have HF6 := Lib.hid hF6
  have HB6 := Lib.hid hB6
  have HD6 := Lib.hid hD6
  have HK6 := Lib.hid hK6
  have HT := Lib.hid hT
  have e2 := hB6.cell' (i := 2) rfl
  have hT2 := hT.cell' (i := 2) rfl
  have hTf := hT.frozen 2
  clear c0 c1 c2 hF5 hB5 hD5 hK5 hF6 hB6 hD6 hK6 hT hKT hn hn6 hp5 hq5 hb5 hg5 hw5
  have e2' : (w6.alloc (.cells #[] 5)).cell? ⟨S0, 2, none⟩ = some (.slice (some ⟨g, 0, none⟩) 32 gc) := (HB6.out.alloc _).cell' (i := 2) rfl
  clear e2 hT2 hTf
  have htl6 := HT.out.lt
  go_upto_region 14 with (at_builtin; (refine wpList_append_bytes rfl _ _ rfl (Own.lit w6 #[] [] 0 rfl rfl (by omega)) rfl (some ⟨g, 0, none⟩) 32 gc rfl (HD6.out.keepsNil ((Keeps.refl [] w6).alloc _)) hsl (by simp) (by simp) (by simp) ?_); intro v7 w7 hO7 hG7 hB7; rw [List.nil_append] at hO7; have hK67 : Keeps [] w6 w7 := ((Keeps.refl [] w6).alloc _).grown hG7 (by intro y hy; simp [Value.ownBlock] at hy; right; omega); have hT7 := HT.out.keeps hK67 (by simp); have hT72 := hT7.cell' (i := 2) rfl; have hT7f := hT7.frozen 2; obtain ⟨g7, gc7, gr7, rfl, hg71, hg72, hg73, hg74, hBg7⟩ := hO7.rowc (by rintro rfl; simp at hsl); rw [hsl] at hg71 ⊢)
  have hn6 := Hn6.out
  have K78 : Keeps [T0] w7 (w7.setCell ⟨T0, 2, none⟩ (.slice (some ⟨g7, 0, none⟩) 32 gc7)) := (Keeps.refl [T0] w7).setCell (by simp) _
  have hT8 := hT7.set 2 (.slice (some ⟨g7, 0, none⟩) 32 gc7)
  have hB8 := (HB6.out.keeps hK67 (by simp)).keeps K78 (by simp; omega)
  have hF8 := (HF6.out.keeps hK67 (by simp) (by simp)).keeps K78 (by simp; omega) (by simp; omega)
  have hD8 := (HD6.out.keepsNil hK67).keeps K78 (by intro y hy _; simp only [Option.some.injEq] at hy; subst hy; simp; omega)
  have hG8 := hBg7.keeps K78 (by simp; omega)
  have hK8 : Keeps [p, q] w (w7.setCell ⟨T0, 2, none⟩ (.slice (some ⟨g7, 0, none⟩) 32 gc7)) := (HK6.out.trans hK67.nil).setCell (.inr (show w.heap.size ≤ T0 by omega)) _
  generalize w7.setCell ⟨T0, 2, none⟩ (.slice (some ⟨g7, 0, none⟩) 32 gc7) = w8 at *
  clear K78 hT7 hT72 hT7f hBg7 hO7 hG7 hB7 hK67 e2'
  have hg7n : g7 ≠ T0 ∧ w.heap.size ≤ g7 := by have := HK6.out.size; omega
  have bi := hG8.byteAt (i := i) (by omega)
  have fi := hG8.frozen i
  have t2 := hT8.cell' (i := 2) rfl
  have hgd : ∃ y, D.getD i 0 = y := ⟨_, rfl⟩
  obtain ⟨y, hy⟩ := hgd
  rw [hy] at bi
  have i32 : (i : Int) < 32 := hi
  have wi : IntKind.i64.wrap (i : Int) = (i : Int) := by rw [IntWalk.i64_left, IntWalk.wrap64_in _ (by omega)]
  have HF8 := Lib.hid hF8
  have HB8 := Lib.hid hB8
  have HD8 := Lib.hid hD8
  have HG8 := Lib.hid hG8
  have HT8 := Lib.hid hT8
  have HK8 := Lib.hid hK8
  have Hy := Lib.hid hy
  have Hg7 := Lib.hid hg7n
  have s0 := hB8.cell' (i := 0) rfl
  have s1 := hB8.cell' (i := 1) rfl
  have s2 := hB8.cell' (i := 2) rfl
  have hSg : S0 ≠ g7 := by
    rintro rfl
    have h1 := HB6.out.lt
    omega
  clear hF8 hB8 hD8 hG8 hT8 hK8 hy hg7n hn6 htl6
  go_upto_region 15 with (fail)
  rw [xor8]
  have hg7n := Hg7.out
  have hn := Hn.out
  have hn6 := Hn6.out
  have hpq7 : g7 ≠ p ∧ g7 ≠ q ∧ g7 ≠ g := by
    have h1 := HF6.out.ltp
    have h2 := HF6.out.ltq
    have h3 := HD6.out.lt ⟨g, 0, none⟩ rfl (by rintro rfl; simp at hsl)
    have h3' : g < w6.heap.size := h3
    omega
  have K89 : Keeps [g7] w8 (w8.setCell ⟨g7, i, none⟩ (B8 (y ^^^ xb))) := (Keeps.refl [g7] w8).setCell (by simp) _
  have hB9 := HB8.out.keeps K89 (by simp; exact hSg)
  have hF9 := HF8.out.keeps K89 (by simp; omega) (by simp; omega)
  have hT9 := HT8.out.keeps K89 (by simp; omega)
  have hD9 := HD8.out.keeps K89 (by intro y hy _; simp only [Option.some.injEq] at hy; subst hy; simp; omega)
  have hG9 : Blk (w8.setCell ⟨g7, i, none⟩ (B8 (y ^^^ xb))) g7 5 ((D.set i (y ^^^ xb)).map B8 ++ gr7) := by
    have := HG8.out.set i (B8 (y ^^^ xb))
    rwa [List.set_append_left _ _ (by rw [List.length_map, hsl]; omega), ← List.map_set] at this
  have hK9 : Keeps [p, q] w (w8.setCell ⟨g7, i, none⟩ (B8 (y ^^^ xb))) := HK8.out.setCell (.inr (show w.heap.size ≤ g7 from hg7n.2)) _
  generalize w8.setCell ⟨g7, i, none⟩ (B8 (y ^^^ xb)) = w9 at *
  clear s0 s1 s2 bi fi t2 K89
  have s0 := hB9.cell' (i := 0) rfl
  have s1 := hB9.cell' (i := 1) rfl
  have s2 := hB9.cell' (i := 2) rfl
  have hU := Blk.newA w9 68 #[.int .u32 4, .int .i64 a.length, .slice (some ⟨g, 0, none⟩) 32 gc]
  have hU1 := hU.cell' (i := 1) rfl
  have hUf := hU.frozen 1
  have HF9 := Lib.hid hF9
  have HB9 := Lib.hid hB9
  have HD9 := Lib.hid hD9
  have HG9 := Lib.hid hG9
  have HT9 := Lib.hid hT9
  have HK9 := Lib.hid hK9
  have HU := Lib.hid hU
  have Hpq7 := Lib.hid hpq7
  clear hF9 hB9 hD9 hG9 hT9 hK9 hU hn hn6 hg7n hpq7
  have hpqw : w.heap.size ≤ p ∧ w.heap.size ≤ q := by have := Hk.out; omega
  have Hpq := Lib.hid hpqw
  clear hpqw
  go_upto_region 17 with (fail)
  have hU2 : Blk (w9.alloc (.cells #[.int .u32 4, .int .i64 0, .slice (some ⟨g, 0, none⟩) 32 gc] 68)) w9.heap.size 68 [.int .u32 4, .int .i64 0, .slice (some ⟨g, 0, none⟩) 32 gc] := Blk.newA w9 _ #[.int .u32 4, .int .i64 0, .slice (some ⟨g, 0, none⟩) 32 gc]
  have hKU := (Keeps.refl [] w9).alloc (.cells #[.int .u32 4, .int .i64 0, .slice (some ⟨g, 0, none⟩) 32 gc] 68)
  generalize w9.alloc (.cells #[.int .u32 4, .int .i64 0, .slice (some ⟨g, 0, none⟩) 32 gc] 68) = w10 at *
  have hK10 := HK9.out.trans hKU.nil
  have hT10 := HT9.out.keeps hKU (by simp)
  have hB10 := HB9.out.keeps hKU (by simp)
  have hD10 := HD9.out.keepsNil hKU
  have hG10 : Rd w10 (some ⟨g7, 0, none⟩) (D.set i (y ^^^ xb)) := by
    have := (HG9.out.keeps hKU (by simp)).rdSub 0 32
    rwa [List.drop_zero, List.take_of_length_le (by rw [List.length_set]; omega)] at this
  have hF10 := HF9.out.keeps hKU (by simp) (by simp)
  generalize w9.heap.size = U0 at *
  have hSS : ∀ w', Keeps [] w10 w' → (w'.cell? ⟨T0, 0, none⟩ = some (.int .u32 4) ∧ w'.cell? ⟨T0, 1, none⟩ = some (.int .i64 a.length) ∧ w'.cell? ⟨T0, 2, none⟩ = some (.slice (some ⟨g7, 0, none⟩) 32 gc7)) ∧ (w'.cell? ⟨U0, 0, none⟩ = some (.int .u32 4) ∧ w'.cell? ⟨U0, 1, none⟩ = some (.int .i64 0) ∧ w'.cell? ⟨U0, 2, none⟩ = some (.slice (some ⟨g, 0, none⟩) 32 gc)) ∧ w'.cell? ⟨S0, 2, none⟩ = some (.slice (some ⟨g, 0, none⟩) 32 gc) ∧ (convert 22 9 (.slice (some ⟨g, 0, none⟩) 32 gc)).run Try.prog w' = .ok (.string ⟨D.toArray⟩) w' := fun w' k =>
    ⟨⟨(hT10.keeps k (by simp)).cell' rfl, (hT10.keeps k (by simp)).cell' rfl, (hT10.keeps k (by simp)).cell' rfl⟩, ⟨(hU2.keeps k (by simp)).cell' rfl, (hU2.keeps k (by simp)).cell' rfl, (hU2.keeps k (by simp)).cell' rfl⟩, (hB10.keeps k (by simp)).cell' rfl, str_run 32 gc (hD10.keepsNil k) hsl (by simp)⟩
  have hQ1 := slotright_calls (hF10.drew) s 4 a.length (some ⟨g7, 0, none⟩) 32 gc7 (D.set i (y ^^^ xb)) (hG10.keepsNil ((Keeps.refl [] w10).drew)) (by rw [List.length_set]; exact hsl)
  have hR2 := HR2.out
  rw [Hy.out] at hR2
  rw [hR2] at hQ1
  have hQ2 := fun w' (k : Keeps [] w10 w') => slotright_calls (hF10.keeps k (by simp) (by simp)) s 4 0 (some ⟨g, 0, none⟩) 32 gc D (hD10.keepsNil k) hsl
  rw [HR3.out] at hQ2
  have hAw : Rd w10 A a := by
    refine HA.out.keeps hK10 (by intro y hy hne; have h1 := HA.out.lt y hy hne; have h2 := Hpq.out; simp; omega)
  have hQ3 := fun w' (k : Keeps [] w10 w') => shasum_calls (w := w') A a.length ca a (hAw.keepsNil k) rfl (by omega) (fun h => ⟨by rw [(HA0.out h).1]; rfl, (HA0.out h).2⟩)
  rw [HD.out] at hQ3
  have HSS := Lib.hid hSS
  have HQ2 := Lib.hid hQ2
  have HQ3 := Lib.hid hQ3
  have HK10 := Lib.hid hK10
  clear hSS hQ2 hQ3 hK10 hT10 hB10 hD10 hG10 hF10 hU2 hKU hAw hR2 s0 s1 s2 hU1 hUf hSg
  by_cases hx0 : xb = 0
  · have d : ((xb.toNat : Int) == 0) = true := by rw [hx0]; rfl
    rw [decide_eq_true hx0] at hQ1
    have HQ1 := Lib.hid hQ1
    clear hQ1 hx0
    refine wp_region_noPanic ?_
    refine wp_region_held_drew (S := (fun w' => (w'.cell? ⟨T0, 0, none⟩ = some (.int .u32 4) ∧ w'.cell? ⟨T0, 1, none⟩ = some (.int .i64 a.length) ∧ w'.cell? ⟨T0, 2, none⟩ = some (.slice (some ⟨g7, 0, none⟩) 32 gc7)) ∧ (w'.cell? ⟨U0, 0, none⟩ = some (.int .u32 4) ∧ w'.cell? ⟨U0, 1, none⟩ = some (.int .i64 0) ∧ w'.cell? ⟨U0, 2, none⟩ = some (.slice (some ⟨g, 0, none⟩) 32 gc)) ∧ w'.cell? ⟨S0, 2, none⟩ = some (.slice (some ⟨g, 0, none⟩) 32 gc) ∧ (convert 22 9 (.slice (some ⟨g, 0, none⟩) 32 gc)).run Try.prog w' = .ok (.string ⟨D.toArray⟩) w')) (by kernel_rfl) (HSS.out _ ((Keeps.refl [] w10).drew)) (fun hHeld => ?_)
    refine wpAnyH_take (i := 0) (v := ?v1_1) rfl (by kernel_rfl) (by kernel_rfl) (by kernel_rfl) (fun _ _ _ h => h) (Or.inl ⟨by rfl, ?y1_1⟩) (by assumption) ?r1_1
    case y1_1 => (intro w hSw; (try dsimp only at hSw); go_simp; try with_reducible rfl)
    (try simp only [Act.put, List.getElem_toArray, List.getElem_cons_zero, List.getElem_cons_succ, List.setIfInBounds_toArray, List.set_cons_zero, List.set_cons_succ])
    refine wpAnyH_take (i := 1) (v := ?v1_2) rfl (by kernel_rfl) (by kernel_rfl) (by kernel_rfl) (fun _ _ _ h => h) (Or.inl ⟨by rfl, ?y1_2⟩) (by assumption) ?r1_2
    case y1_2 => (intro w hSw; (try dsimp only at hSw); go_simp; try with_reducible rfl)
    (try simp only [Act.put, List.getElem_toArray, List.getElem_cons_zero, List.getElem_cons_succ, List.setIfInBounds_toArray, List.set_cons_zero, List.set_cons_succ])
    refine wpAnyH_take (i := 2) (v := ?v1_3) rfl (by kernel_rfl) (by kernel_rfl) (by kernel_rfl) (fun _ _ _ h => h) (Or.inl ⟨by rfl, ?y1_3⟩) (by assumption) ?r1_3
    case y1_3 => (intro w hSw; (try dsimp only at hSw); go_simp; try with_reducible rfl)
    (try simp only [Act.put, List.getElem_toArray, List.getElem_cons_zero, List.getElem_cons_succ, List.setIfInBounds_toArray, List.set_cons_zero, List.set_cons_succ])
    refine wpAnyH_take (i := 4) (v := ?v1_4) rfl (by kernel_rfl) (by kernel_rfl) (by kernel_rfl) (fun _ _ _ h => h) (Or.inl ⟨by rfl, ?y1_4⟩) (by assumption) ?r1_4
    case y1_4 => (intro w hSw; (try dsimp only at hSw); go_simp; try with_reducible rfl)
    (try simp only [Act.put, List.getElem_toArray, List.getElem_cons_zero, List.getElem_cons_succ, List.setIfInBounds_toArray, List.set_cons_zero, List.set_cons_succ])
    refine wpAnyH_take (i := 5) (v := ?v1_5) rfl (by kernel_rfl) (by kernel_rfl) (by kernel_rfl) (fun _ _ _ h => h) (Or.inl ⟨by rfl, ?y1_5⟩) (by assumption) ?r1_5
    case y1_5 => (intro w hSw; (try dsimp only at hSw); go_simp; try with_reducible rfl)
    (try simp only [Act.put, List.getElem_toArray, List.getElem_cons_zero, List.getElem_cons_succ, List.setIfInBounds_toArray, List.set_cons_zero, List.set_cons_succ])
    refine wpAnyH_ready (rs := [3]) (by kernel_rfl) (by simp) ?_
    refine AllReadyH.cons rfl (fun K hK => ?_) AllReadyH.nil
    go_simp
    refine HQ1.out.mono ?_
    rintro e w11 ⟨rfl, hk11⟩
    have hK11 := (Keeps.refl [] w10).drew.trans hk11
    go_wp2_with fail
    refine hK.out _ _ ?s1_6 (fun hHeld => ?_)
    case s1_6 => ((try dsimp only) <;> (first | exact HSS.out _ hK11))
    clear hK K
    (try simp only [Act.put, List.getElem_toArray, List.getElem_cons_zero, List.getElem_cons_succ, List.setIfInBounds_toArray, List.set_cons_zero, List.set_cons_succ])
    refine wpAnyH_take (i := 6) (v := ?v1_7) rfl (by kernel_rfl) (by kernel_rfl) (by kernel_rfl) (fun _ _ _ h => h) (Or.inl ⟨by rfl, ?y1_7⟩) (by assumption) ?r1_7
    case y1_7 => (intro w hSw; (try dsimp only at hSw); go_simp; try with_reducible rfl)
    (try simp only [Act.put, List.getElem_toArray, List.getElem_cons_zero, List.getElem_cons_succ, List.setIfInBounds_toArray, List.set_cons_zero, List.set_cons_succ])
    refine wpAnyH_take (i := 7) (v := ?v1_8) rfl (by kernel_rfl) (by kernel_rfl) (by kernel_rfl) (fun _ _ _ h => h) (Or.inl ⟨by rfl, ?y1_8⟩) (by assumption) ?r1_8
    case y1_8 => (intro w hSw; (try dsimp only at hSw); go_simp; try with_reducible rfl)
    (try simp only [Act.put, List.getElem_toArray, List.getElem_cons_zero, List.getElem_cons_succ, List.setIfInBounds_toArray, List.set_cons_zero, List.set_cons_succ])
    refine wpAnyH_take (i := 8) (v := ?v1_9) rfl (by kernel_rfl) (by kernel_rfl) (by kernel_rfl) (fun _ _ _ h => h) (Or.inl ⟨by rfl, ?y1_9⟩) (by assumption) ?r1_9
    case y1_9 => (intro w hSw; (try dsimp only at hSw); go_simp; try with_reducible rfl)
    (try simp only [Act.put, List.getElem_toArray, List.getElem_cons_zero, List.getElem_cons_succ, List.setIfInBounds_toArray, List.set_cons_zero, List.set_cons_succ])
    refine wpAnyH_take (i := 9) (v := ?v1_10) rfl (by kernel_rfl) (by kernel_rfl) (by kernel_rfl) (fun _ _ _ h => h) (Or.inl ⟨by rfl, ?y1_10⟩) (by assumption) ?r1_10
    case y1_10 => (intro w hSw; (try dsimp only at hSw); go_simp; try with_reducible rfl)
    (try simp only [Act.put, List.getElem_toArray, List.getElem_cons_zero, List.getElem_cons_succ, List.setIfInBounds_toArray, List.set_cons_zero, List.set_cons_succ])
    refine wpAnyH_take (i := 10) (v := ?v1_11) rfl (by kernel_rfl) (by kernel_rfl) (by kernel_rfl) (fun _ _ _ h => h) (Or.inl ⟨by rfl, ?y1_11⟩) (by assumption) ?r1_11
    case y1_11 => (intro w hSw; (try dsimp only at hSw); go_simp; try with_reducible rfl)
    (try simp only [Act.put, List.getElem_toArray, List.getElem_cons_zero, List.getElem_cons_succ, List.setIfInBounds_toArray, List.set_cons_zero, List.set_cons_succ])
    refine wpAnyH_ready (rs := [11]) (by kernel_rfl) (by simp) ?_
    refine AllReadyH.cons rfl (fun K hK => ?_) AllReadyH.nil
    go_simp
    refine (HQ2.out _ hK11).mono ?_
    rintro e w12 ⟨rfl, hk12⟩
    have hK12 := hK11.trans hk12
    go_wp2_with fail
    refine hK.out _ _ ?s1_12 (fun hHeld => ?_)
    case s1_12 => ((try dsimp only) <;> (first | exact HSS.out _ hK12))
    clear hK K
    (try simp only [Act.put, List.getElem_toArray, List.getElem_cons_zero, List.getElem_cons_succ, List.setIfInBounds_toArray, List.set_cons_zero, List.set_cons_succ])
    refine wpAnyH_take (i := 12) (v := ?v1_13) rfl (by kernel_rfl) (by kernel_rfl) (by kernel_rfl) (fun _ _ _ h => h) (Or.inl ⟨by rfl, ?y1_13⟩) (by assumption) ?r1_13
    case y1_13 => (intro w hSw; (try dsimp only at hSw); go_simp; try with_reducible rfl)
    (try simp only [Act.put, List.getElem_toArray, List.getElem_cons_zero, List.getElem_cons_succ, List.setIfInBounds_toArray, List.set_cons_zero, List.set_cons_succ])
    refine wpAnyH_take (i := 13) (v := ?v1_14) rfl (by kernel_rfl) (by kernel_rfl) (by kernel_rfl) (fun _ _ _ h => h) (Or.inl ⟨by rfl, ?y1_14⟩) (by assumption) ?r1_14
    case y1_14 => (intro w hSw; (try dsimp only at hSw); go_simp; try with_reducible rfl)
    (try simp only [Act.put, List.getElem_toArray, List.getElem_cons_zero, List.getElem_cons_succ, List.setIfInBounds_toArray, List.set_cons_zero, List.set_cons_succ])
    refine wpAnyH_take (i := 14) (v := ?v1_15) rfl (by kernel_rfl) (by kernel_rfl) (by kernel_rfl) (fun _ _ _ h => h) (Or.inl ⟨by rfl, ?y1_15⟩) (by assumption) ?r1_15
    case y1_15 => (intro w hSw; (try dsimp only at hSw); go_simp; try with_reducible rfl)
    (try simp only [Act.put, List.getElem_toArray, List.getElem_cons_zero, List.getElem_cons_succ, List.setIfInBounds_toArray, List.set_cons_zero, List.set_cons_succ])
    refine wpAnyH_take (i := 15) (v := ?v1_16) rfl (by kernel_rfl) (by kernel_rfl) (by kernel_rfl) (fun _ _ _ h => h) (Or.inl ⟨by rfl, ?y1_16⟩) (by assumption) ?r1_16
    case y1_16 => (intro w hSw; (try dsimp only at hSw); go_simp; try with_reducible rfl)
    (try simp only [Act.put, List.getElem_toArray, List.getElem_cons_zero, List.getElem_cons_succ, List.setIfInBounds_toArray, List.set_cons_zero, List.set_cons_succ])
    refine wpAnyH_take (i := 16) (v := ?v1_17) rfl (by kernel_rfl) (by kernel_rfl) (by kernel_rfl) (fun _ _ _ h => h) (Or.inl ⟨by rfl, ?y1_17⟩) (by assumption) ?r1_17
    case y1_17 => (intro w hSw; (try dsimp only at hSw); go_simp; try with_reducible rfl)
    (try simp only [Act.put, List.getElem_toArray, List.getElem_cons_zero, List.getElem_cons_succ, List.setIfInBounds_toArray, List.set_cons_zero, List.set_cons_succ])
    refine wpAnyH_take (i := 17) (v := ?v1_18) rfl (by kernel_rfl) (by kernel_rfl) (by kernel_rfl) (fun _ _ _ h => h) (Or.inl ⟨by rfl, ?y1_18⟩) (by assumption) ?r1_18
    case y1_18 => (intro w hSw; (try dsimp only at hSw); go_simp; try with_reducible rfl)
    (try simp only [Act.put, List.getElem_toArray, List.getElem_cons_zero, List.getElem_cons_succ, List.setIfInBounds_toArray, List.set_cons_zero, List.set_cons_succ])
    refine wpAnyH_take (i := 18) (v := ?v1_19) rfl (by kernel_rfl) (by kernel_rfl) (by kernel_rfl) (fun _ _ _ h => h) (Or.inl ⟨by rfl, ?y1_19⟩) (by assumption) ?r1_19
    case y1_19 => (intro w hSw; (try dsimp only at hSw); go_simp; try with_reducible rfl)
    (try simp only [Act.put, List.getElem_toArray, List.getElem_cons_zero, List.getElem_cons_succ, List.setIfInBounds_toArray, List.set_cons_zero, List.set_cons_succ])
    refine wpAnyH_ready (rs := [19]) (by kernel_rfl) (by simp) ?_
    refine AllReadyH.cons rfl (fun K hK => ?_) AllReadyH.nil
    go_simp
    refine (HQ3.out _ hK12).mono ?_
    rintro e w13 ⟨v13, rfl, hv13, hk13⟩
    have hK13 := hK12.trans hk13
    have hst := hv13.sl.str
    obtain ⟨a13, k13, rfl, _⟩ := hv13.cap
    rw [hsl] at hst ⊢
    clear hv13
    go_wp2_with fail
    refine hK.out _ _ ?s1_20 (fun hHeld => ?_)
    case s1_20 => ((try dsimp only) <;> (first | exact HSS.out _ hK13))
    clear hK K
    (try simp only [Act.put, List.getElem_toArray, List.getElem_cons_zero, List.getElem_cons_succ, List.setIfInBounds_toArray, List.set_cons_zero, List.set_cons_succ])
    refine wpAnyH_ready (rs := [20]) (by kernel_rfl) (by simp) ?_
    refine AllReadyH.cons rfl (fun K hK => ?_) AllReadyH.nil
    go_simp
    refine hK.out _ _ ?s1_21 (fun hHeld => ?_)
    case s1_21 => ((try dsimp only) <;> (first | exact HSS.out _ hK13))
    clear hK K
    (try simp only [Act.put, List.getElem_toArray, List.getElem_cons_zero, List.getElem_cons_succ, List.setIfInBounds_toArray, List.set_cons_zero, List.set_cons_succ])
    refine wpAnyH_take (i := 21) (v := ?v1_22) rfl (by kernel_rfl) (by kernel_rfl) (by kernel_rfl) (fun _ _ _ h => h) (Or.inl ⟨by rfl, ?y1_22⟩) (by assumption) ?r1_22
    case y1_22 => (intro w hSw; (try dsimp only at hSw); go_simp; try with_reducible rfl)
    (try simp only [Act.put, List.getElem_toArray, List.getElem_cons_zero, List.getElem_cons_succ, List.setIfInBounds_toArray, List.set_cons_zero, List.set_cons_succ])
    refine wpAnyH_take (i := 22) (v := ?v1_23) rfl (by kernel_rfl) (by kernel_rfl) (by kernel_rfl) (fun _ _ _ h => h) (Or.inl ⟨by rfl, ?y1_23⟩) (by assumption) ?r1_23
    case y1_23 => (intro w hSw; (try dsimp only at hSw); go_simp; try with_reducible rfl)
    (try simp only [Act.put, List.getElem_toArray, List.getElem_cons_zero, List.getElem_cons_succ, List.setIfInBounds_toArray, List.set_cons_zero, List.set_cons_succ])
    refine wpAnyH_take (i := 23) (v := ?v1_24) rfl (by kernel_rfl) (by kernel_rfl) (by kernel_rfl) (fun _ _ _ h => h) (Or.inl ⟨by rfl, ?y1_24⟩) (by assumption) ?r1_24
    case y1_24 => (intro w hSw; (try dsimp only at hSw); go_simp; try with_reducible rfl)
    (try simp only [Act.put, List.getElem_toArray, List.getElem_cons_zero, List.getElem_cons_succ, List.setIfInBounds_toArray, List.set_cons_zero, List.set_cons_succ])
    refine wpAnyH_ready (rs := [24]) (by kernel_rfl) (by simp) ?_
    refine AllReadyH.cons rfl (fun K hK => ?_) AllReadyH.nil
    go_simp
    refine awake20.mono ?_
    rintro e w14 ⟨rfl, hk14⟩
    have hK14 := hK13.trans hk14
    go_wp2_with fail
    refine hK.out _ _ ?s1_25 (fun hHeld => ?_)
    case s1_25 => ((try dsimp only) <;> (first | exact HSS.out _ hK14))
    clear hK K
    (try simp only [Act.put, List.getElem_toArray, List.getElem_cons_zero, List.getElem_cons_succ, List.setIfInBounds_toArray, List.set_cons_zero, List.set_cons_succ])
    refine wpAnyH_take (i := 25) (v := ?v1_26) rfl (by kernel_rfl) (by kernel_rfl) (by kernel_rfl) (fun _ _ _ h => h) (Or.inl ⟨by rfl, ?y1_26⟩) (by assumption) ?r1_26
    case y1_26 => (intro w hSw; (try dsimp only at hSw); go_simp; try with_reducible rfl)
    (try simp only [Act.put, List.getElem_toArray, List.getElem_cons_zero, List.getElem_cons_succ, List.setIfInBounds_toArray, List.set_cons_zero, List.set_cons_succ])
    refine wpAnyH_take (i := 26) (v := ?v1_27) rfl (by kernel_rfl) (by kernel_rfl) (by kernel_rfl) (fun _ _ _ h => h) (Or.inl ⟨by rfl, ?y1_27⟩) (by assumption) ?r1_27
    case y1_27 => (intro w hSw; (try dsimp only at hSw); go_simp; try with_reducible rfl)
    (try simp only [Act.put, List.getElem_toArray, List.getElem_cons_zero, List.getElem_cons_succ, List.setIfInBounds_toArray, List.set_cons_zero, List.set_cons_succ])
    refine wpAnyH_done (by kernel_rfl) ?_ _
    refine NoPanic.normal ?_
    go_wp2_with fail
    go_ret
    exact ⟨by rfl, (HK10.out.trans hK14.nil).mono (by simp [Hpq.out.1, Hpq.out.2])⟩
  · have d : ((xb.toNat : Int) == 0) = false := by
      rw [beq_eq_false_iff_ne]; intro h; exact hx0 (UInt8.toNat_inj.1 (by simpa using h))
    rw [decide_eq_false hx0] at hQ1
    have HQ1 := Lib.hid hQ1
    clear hQ1 hx0
    refine wp_region_noPanic ?_
    refine wp_region_held_drew (S := (fun w' => (w'.cell? ⟨T0, 0, none⟩ = some (.int .u32 4) ∧ w'.cell? ⟨T0, 1, none⟩ = some (.int .i64 a.length) ∧ w'.cell? ⟨T0, 2, none⟩ = some (.slice (some ⟨g7, 0, none⟩) 32 gc7)) ∧ (w'.cell? ⟨U0, 0, none⟩ = some (.int .u32 4) ∧ w'.cell? ⟨U0, 1, none⟩ = some (.int .i64 0) ∧ w'.cell? ⟨U0, 2, none⟩ = some (.slice (some ⟨g, 0, none⟩) 32 gc)) ∧ w'.cell? ⟨S0, 2, none⟩ = some (.slice (some ⟨g, 0, none⟩) 32 gc) ∧ (convert 22 9 (.slice (some ⟨g, 0, none⟩) 32 gc)).run Try.prog w' = .ok (.string ⟨D.toArray⟩) w')) (by kernel_rfl) (HSS.out _ ((Keeps.refl [] w10).drew)) (fun hHeld => ?_)
    refine wpAnyH_take (i := 0) (v := ?v2_28) rfl (by kernel_rfl) (by kernel_rfl) (by kernel_rfl) (fun _ _ _ h => h) (Or.inl ⟨by rfl, ?y2_28⟩) (by assumption) ?r2_28
    case y2_28 => (intro w hSw; (try dsimp only at hSw); go_simp; try with_reducible rfl)
    (try simp only [Act.put, List.getElem_toArray, List.getElem_cons_zero, List.getElem_cons_succ, List.setIfInBounds_toArray, List.set_cons_zero, List.set_cons_succ])
    refine wpAnyH_take (i := 1) (v := ?v2_29) rfl (by kernel_rfl) (by kernel_rfl) (by kernel_rfl) (fun _ _ _ h => h) (Or.inl ⟨by rfl, ?y2_29⟩) (by assumption) ?r2_29
    case y2_29 => (intro w hSw; (try dsimp only at hSw); go_simp; try with_reducible rfl)
    (try simp only [Act.put, List.getElem_toArray, List.getElem_cons_zero, List.getElem_cons_succ, List.setIfInBounds_toArray, List.set_cons_zero, List.set_cons_succ])
    refine wpAnyH_take (i := 2) (v := ?v2_30) rfl (by kernel_rfl) (by kernel_rfl) (by kernel_rfl) (fun _ _ _ h => h) (Or.inl ⟨by rfl, ?y2_30⟩) (by assumption) ?r2_30
    case y2_30 => (intro w hSw; (try dsimp only at hSw); go_simp; try with_reducible rfl)
    (try simp only [Act.put, List.getElem_toArray, List.getElem_cons_zero, List.getElem_cons_succ, List.setIfInBounds_toArray, List.set_cons_zero, List.set_cons_succ])
    refine wpAnyH_take (i := 4) (v := ?v2_31) rfl (by kernel_rfl) (by kernel_rfl) (by kernel_rfl) (fun _ _ _ h => h) (Or.inl ⟨by rfl, ?y2_31⟩) (by assumption) ?r2_31
    case y2_31 => (intro w hSw; (try dsimp only at hSw); go_simp; try with_reducible rfl)
    (try simp only [Act.put, List.getElem_toArray, List.getElem_cons_zero, List.getElem_cons_succ, List.setIfInBounds_toArray, List.set_cons_zero, List.set_cons_succ])
    refine wpAnyH_take (i := 5) (v := ?v2_32) rfl (by kernel_rfl) (by kernel_rfl) (by kernel_rfl) (fun _ _ _ h => h) (Or.inl ⟨by rfl, ?y2_32⟩) (by assumption) ?r2_32
    case y2_32 => (intro w hSw; (try dsimp only at hSw); go_simp; try with_reducible rfl)
    (try simp only [Act.put, List.getElem_toArray, List.getElem_cons_zero, List.getElem_cons_succ, List.setIfInBounds_toArray, List.set_cons_zero, List.set_cons_succ])
    refine wpAnyH_ready (rs := [3]) (by kernel_rfl) (by simp) ?_
    refine AllReadyH.cons rfl (fun K hK => ?_) AllReadyH.nil
    go_simp
    refine HQ1.out.mono ?_
    rintro e w11 ⟨rfl, hk11⟩
    have hK11 := (Keeps.refl [] w10).drew.trans hk11
    go_wp2_with fail
    refine hK.out _ _ ?s2_33 (fun hHeld => ?_)
    case s2_33 => ((try dsimp only) <;> (first | exact HSS.out _ hK11))
    clear hK K
    (try simp only [Act.put, List.getElem_toArray, List.getElem_cons_zero, List.getElem_cons_succ, List.setIfInBounds_toArray, List.set_cons_zero, List.set_cons_succ])
    refine wpAnyH_take (i := 6) (v := ?v2_34) rfl (by kernel_rfl) (by kernel_rfl) (by kernel_rfl) (fun _ _ _ h => h) (Or.inl ⟨by rfl, ?y2_34⟩) (by assumption) ?r2_34
    case y2_34 => (intro w hSw; (try dsimp only at hSw); go_simp; try with_reducible rfl)
    (try simp only [Act.put, List.getElem_toArray, List.getElem_cons_zero, List.getElem_cons_succ, List.setIfInBounds_toArray, List.set_cons_zero, List.set_cons_succ])
    refine wpAnyH_take (i := 7) (v := ?v2_35) rfl (by kernel_rfl) (by kernel_rfl) (by kernel_rfl) (fun _ _ _ h => h) (Or.inl ⟨by rfl, ?y2_35⟩) (by assumption) ?r2_35
    case y2_35 => (intro w hSw; (try dsimp only at hSw); go_simp; try with_reducible rfl)
    (try simp only [Act.put, List.getElem_toArray, List.getElem_cons_zero, List.getElem_cons_succ, List.setIfInBounds_toArray, List.set_cons_zero, List.set_cons_succ])
    refine wpAnyH_take (i := 8) (v := ?v2_36) rfl (by kernel_rfl) (by kernel_rfl) (by kernel_rfl) (fun _ _ _ h => h) (Or.inl ⟨by rfl, ?y2_36⟩) (by assumption) ?r2_36
    case y2_36 => (intro w hSw; (try dsimp only at hSw); go_simp; try with_reducible rfl)
    (try simp only [Act.put, List.getElem_toArray, List.getElem_cons_zero, List.getElem_cons_succ, List.setIfInBounds_toArray, List.set_cons_zero, List.set_cons_succ])
    refine wpAnyH_take (i := 9) (v := ?v2_37) rfl (by kernel_rfl) (by kernel_rfl) (by kernel_rfl) (fun _ _ _ h => h) (Or.inl ⟨by rfl, ?y2_37⟩) (by assumption) ?r2_37
    case y2_37 => (intro w hSw; (try dsimp only at hSw); go_simp; try with_reducible rfl)
    (try simp only [Act.put, List.getElem_toArray, List.getElem_cons_zero, List.getElem_cons_succ, List.setIfInBounds_toArray, List.set_cons_zero, List.set_cons_succ])
    refine wpAnyH_take (i := 10) (v := ?v2_38) rfl (by kernel_rfl) (by kernel_rfl) (by kernel_rfl) (fun _ _ _ h => h) (Or.inl ⟨by rfl, ?y2_38⟩) (by assumption) ?r2_38
    case y2_38 => (intro w hSw; (try dsimp only at hSw); go_simp; try with_reducible rfl)
    (try simp only [Act.put, List.getElem_toArray, List.getElem_cons_zero, List.getElem_cons_succ, List.setIfInBounds_toArray, List.set_cons_zero, List.set_cons_succ])
    refine wpAnyH_ready (rs := [11]) (by kernel_rfl) (by simp) ?_
    refine AllReadyH.cons rfl (fun K hK => ?_) AllReadyH.nil
    go_simp
    refine (HQ2.out _ hK11).mono ?_
    rintro e w12 ⟨rfl, hk12⟩
    have hK12 := hK11.trans hk12
    go_wp2_with fail
    refine hK.out _ _ ?s2_39 (fun hHeld => ?_)
    case s2_39 => ((try dsimp only) <;> (first | exact HSS.out _ hK12))
    clear hK K
    (try simp only [Act.put, List.getElem_toArray, List.getElem_cons_zero, List.getElem_cons_succ, List.setIfInBounds_toArray, List.set_cons_zero, List.set_cons_succ])
    refine wpAnyH_take (i := 12) (v := ?v2_40) rfl (by kernel_rfl) (by kernel_rfl) (by kernel_rfl) (fun _ _ _ h => h) (Or.inl ⟨by rfl, ?y2_40⟩) (by assumption) ?r2_40
    case y2_40 => (intro w hSw; (try dsimp only at hSw); go_simp; try with_reducible rfl)
    (try simp only [Act.put, List.getElem_toArray, List.getElem_cons_zero, List.getElem_cons_succ, List.setIfInBounds_toArray, List.set_cons_zero, List.set_cons_succ])
    refine wpAnyH_take (i := 13) (v := ?v2_41) rfl (by kernel_rfl) (by kernel_rfl) (by kernel_rfl) (fun _ _ _ h => h) (Or.inl ⟨by rfl, ?y2_41⟩) (by assumption) ?r2_41
    case y2_41 => (intro w hSw; (try dsimp only at hSw); go_simp; try with_reducible rfl)
    (try simp only [Act.put, List.getElem_toArray, List.getElem_cons_zero, List.getElem_cons_succ, List.setIfInBounds_toArray, List.set_cons_zero, List.set_cons_succ])
    refine wpAnyH_take (i := 14) (v := ?v2_42) rfl (by kernel_rfl) (by kernel_rfl) (by kernel_rfl) (fun _ _ _ h => h) (Or.inl ⟨by rfl, ?y2_42⟩) (by assumption) ?r2_42
    case y2_42 => (intro w hSw; (try dsimp only at hSw); go_simp; try with_reducible rfl)
    (try simp only [Act.put, List.getElem_toArray, List.getElem_cons_zero, List.getElem_cons_succ, List.setIfInBounds_toArray, List.set_cons_zero, List.set_cons_succ])
    refine wpAnyH_take (i := 15) (v := ?v2_43) rfl (by kernel_rfl) (by kernel_rfl) (by kernel_rfl) (fun _ _ _ h => h) (Or.inl ⟨by rfl, ?y2_43⟩) (by assumption) ?r2_43
    case y2_43 => (intro w hSw; (try dsimp only at hSw); go_simp; try with_reducible rfl)
    (try simp only [Act.put, List.getElem_toArray, List.getElem_cons_zero, List.getElem_cons_succ, List.setIfInBounds_toArray, List.set_cons_zero, List.set_cons_succ])
    refine wpAnyH_take (i := 16) (v := ?v2_44) rfl (by kernel_rfl) (by kernel_rfl) (by kernel_rfl) (fun _ _ _ h => h) (Or.inl ⟨by rfl, ?y2_44⟩) (by assumption) ?r2_44
    case y2_44 => (intro w hSw; (try dsimp only at hSw); go_simp; try with_reducible rfl)
    (try simp only [Act.put, List.getElem_toArray, List.getElem_cons_zero, List.getElem_cons_succ, List.setIfInBounds_toArray, List.set_cons_zero, List.set_cons_succ])
    refine wpAnyH_take (i := 17) (v := ?v2_45) rfl (by kernel_rfl) (by kernel_rfl) (by kernel_rfl) (fun _ _ _ h => h) (Or.inl ⟨by rfl, ?y2_45⟩) (by assumption) ?r2_45
    case y2_45 => (intro w hSw; (try dsimp only at hSw); go_simp; try with_reducible rfl)
    (try simp only [Act.put, List.getElem_toArray, List.getElem_cons_zero, List.getElem_cons_succ, List.setIfInBounds_toArray, List.set_cons_zero, List.set_cons_succ])
    refine wpAnyH_take (i := 18) (v := ?v2_46) rfl (by kernel_rfl) (by kernel_rfl) (by kernel_rfl) (fun _ _ _ h => h) (Or.inl ⟨by rfl, ?y2_46⟩) (by assumption) ?r2_46
    case y2_46 => (intro w hSw; (try dsimp only at hSw); go_simp; try with_reducible rfl)
    (try simp only [Act.put, List.getElem_toArray, List.getElem_cons_zero, List.getElem_cons_succ, List.setIfInBounds_toArray, List.set_cons_zero, List.set_cons_succ])
    refine wpAnyH_ready (rs := [19]) (by kernel_rfl) (by simp) ?_
    refine AllReadyH.cons rfl (fun K hK => ?_) AllReadyH.nil
    go_simp
    refine (HQ3.out _ hK12).mono ?_
    rintro e w13 ⟨v13, rfl, hv13, hk13⟩
    have hK13 := hK12.trans hk13
    have hst := hv13.sl.str
    obtain ⟨a13, k13, rfl, _⟩ := hv13.cap
    rw [hsl] at hst ⊢
    clear hv13
    go_wp2_with fail
    refine hK.out _ _ ?s2_47 (fun hHeld => ?_)
    case s2_47 => ((try dsimp only) <;> (first | exact HSS.out _ hK13))
    clear hK K
    (try simp only [Act.put, List.getElem_toArray, List.getElem_cons_zero, List.getElem_cons_succ, List.setIfInBounds_toArray, List.set_cons_zero, List.set_cons_succ])
    refine wpAnyH_ready (rs := [20]) (by kernel_rfl) (by simp) ?_
    refine AllReadyH.cons rfl (fun K hK => ?_) AllReadyH.nil
    go_simp
    refine hK.out _ _ ?s2_48 (fun hHeld => ?_)
    case s2_48 => ((try dsimp only) <;> (first | exact HSS.out _ hK13))
    clear hK K
    (try simp only [Act.put, List.getElem_toArray, List.getElem_cons_zero, List.getElem_cons_succ, List.setIfInBounds_toArray, List.set_cons_zero, List.set_cons_succ])
    refine wpAnyH_take (i := 21) (v := ?v2_49) rfl (by kernel_rfl) (by kernel_rfl) (by kernel_rfl) (fun _ _ _ h => h) (Or.inl ⟨by rfl, ?y2_49⟩) (by assumption) ?r2_49
    case y2_49 => (intro w hSw; (try dsimp only at hSw); go_simp; try with_reducible rfl)
    (try simp only [Act.put, List.getElem_toArray, List.getElem_cons_zero, List.getElem_cons_succ, List.setIfInBounds_toArray, List.set_cons_zero, List.set_cons_succ])
    refine wpAnyH_take (i := 22) (v := ?v2_50) rfl (by kernel_rfl) (by kernel_rfl) (by kernel_rfl) (fun _ _ _ h => h) (Or.inl ⟨by rfl, ?y2_50⟩) (by assumption) ?r2_50
    case y2_50 => (intro w hSw; (try dsimp only at hSw); go_simp; try with_reducible rfl)
    (try simp only [Act.put, List.getElem_toArray, List.getElem_cons_zero, List.getElem_cons_succ, List.setIfInBounds_toArray, List.set_cons_zero, List.set_cons_succ])
    refine wpAnyH_take (i := 23) (v := ?v2_51) rfl (by kernel_rfl) (by kernel_rfl) (by kernel_rfl) (fun _ _ _ h => h) (Or.inl ⟨by rfl, ?y2_51⟩) (by assumption) ?r2_51
    case y2_51 => (intro w hSw; (try dsimp only at hSw); go_simp; try with_reducible rfl)
    (try simp only [Act.put, List.getElem_toArray, List.getElem_cons_zero, List.getElem_cons_succ, List.setIfInBounds_toArray, List.set_cons_zero, List.set_cons_succ])
    refine wpAnyH_ready (rs := [24]) (by kernel_rfl) (by simp) ?_
    refine AllReadyH.cons rfl (fun K hK => ?_) AllReadyH.nil
    go_simp
    refine awake20.mono ?_
    rintro e w14 ⟨rfl, hk14⟩
    have hK14 := hK13.trans hk14
    go_wp2_with fail
    refine hK.out _ _ ?s2_52 (fun hHeld => ?_)
    case s2_52 => ((try dsimp only) <;> (first | exact HSS.out _ hK14))
    clear hK K
    (try simp only [Act.put, List.getElem_toArray, List.getElem_cons_zero, List.getElem_cons_succ, List.setIfInBounds_toArray, List.set_cons_zero, List.set_cons_succ])
    refine wpAnyH_take (i := 25) (v := ?v2_53) rfl (by kernel_rfl) (by kernel_rfl) (by kernel_rfl) (fun _ _ _ h => h) (Or.inl ⟨by rfl, ?y2_53⟩) (by assumption) ?r2_53
    case y2_53 => (intro w hSw; (try dsimp only at hSw); go_simp; try with_reducible rfl)
    (try simp only [Act.put, List.getElem_toArray, List.getElem_cons_zero, List.getElem_cons_succ, List.setIfInBounds_toArray, List.set_cons_zero, List.set_cons_succ])
    refine wpAnyH_take (i := 26) (v := ?v2_54) rfl (by kernel_rfl) (by kernel_rfl) (by kernel_rfl) (fun _ _ _ h => h) (Or.inl ⟨by rfl, ?y2_54⟩) (by assumption) ?r2_54
    case y2_54 => (intro w hSw; (try dsimp only at hSw); go_simp; try with_reducible rfl)
    (try simp only [Act.put, List.getElem_toArray, List.getElem_cons_zero, List.getElem_cons_succ, List.setIfInBounds_toArray, List.set_cons_zero, List.set_cons_succ])
    refine wpAnyH_done (by kernel_rfl) ?_ _
    refine NoPanic.normal ?_
    go_wp2_with fail
    go_ret
    exact ⟨by rfl, (HK10.out.trans hK14.nil).mono (by simp [Hpq.out.1, Hpq.out.2])⟩

end Go.Proofs.Ythjojkkjdaoocaa
