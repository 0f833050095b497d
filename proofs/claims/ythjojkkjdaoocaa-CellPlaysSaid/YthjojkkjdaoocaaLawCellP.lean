/-
  LawCellP: the walk of CellPlays.
-/
import Derived.Test.YthjojkkjdaoocaaRows17
import Derived.Test.YthjojkkjdaoocaaRefN2
import Derived.Test.YthjojkkjdaoocaaRefCellW
import Derived.Test.YthjojkkjdaoocaaLaw17
import Derived.Test.YthjojkkjdaoocaaFlashNilW
import Derived.Deep.DeepCutAuto
import Derived.Deep.CutBlock
import Derived.Deep.RegionHeld3
import Derived.Deep.RegionWith
import Derived.Deep.DrawnRows
set_option linter.unusedVariables false
set_option linter.unusedSimpArgs false
namespace Go.Proofs.Ythjojkkjdaoocaa
open Go.RowKit
attribute [local go_sem ↓] Go.wp_at_zero Go.wp_at_succ

theorem Keeps.cellAt {S : List Nat} {w w' : World} {a : Addr} {v : Value} (k : Keeps S w w') (h : w.cell? a = some v) (ha : a.block ∉ S) : w'.cell? a = some v :=
  (World.cell?_of_block (a := a) (k.block a.block (World.block_lt_of_cell? w _ h) ha)).trans h

set_option maxRecDepth 100000 in
theorem cellready_nil {w : World} : Calls Try.prog 68 #[.pointer none] w fun e w' => e = .returned (.int .i64 1) ∧ w = w' := by
  go_enter Try.func68, Try.ntmps68
  go_wp2_with fail
  refine (read_nil 0 0).mono ?_
  rintro e w1 ⟨rfl, rfl⟩
  go_wp2_with fail
  go_ret
  exact ⟨rfl, rfl⟩

set_option maxRecDepth 100000 in
theorem cellread_nil {w : World} : Calls Try.prog 44 #[.pointer none] w fun e w' => e = .returned (.tuple #[.slice none 0 0, .int .i64 1]) ∧ w = w' := by
  go_enter Try.func44, Try.ntmps44
  go_wp2_with fail
  refine cellready_nil.mono ?_
  rintro e w1 ⟨rfl, rfl⟩
  go_wp2_with fail
  go_ret2
  exact ⟨rfl, rfl⟩

set_option maxRecDepth 100000 in
theorem cellwrite_nil {w : World} : Calls Try.prog 43 #[.pointer none, .slice none 0 0] w fun e w' => e = .returned (.int .i64 1) ∧ w = w' := by
  go_enter Try.func43, Try.ntmps43
  go_wp2_with fail
  go_ret
  exact ⟨rfl, rfl⟩

set_option maxRecDepth 100000 in
set_option maxHeartbeats 10000000 in
theorem cellPlays_walk {w : World} (wear : Int) (hwear : (Lit.int .i64 wear).wf = true) (A : Option Addr) (c : Nat) (l : List C16) (hm : l.length ≤ maxLen) (hl : CallsC w A l) :
    Calls Try.prog 14 #[.int .i64 wear, .slice A l.length c] w (TrueKeep w) := by
  unfold maxLen at hm
  go_enter Try.func14, Try.ntmps14
  go_wp2_with fail
  refine (new_calls wear).mono ?_
  rintro e w2 ⟨p, q, rfl, hp, hq, hF, hK2⟩
  go_wp2_with fail
  refine (rnew_calls wear).mono ?_
  rintro e w3 ⟨p2, q2, rfl, hp2, hq2, hR, hK3⟩
  have hF3 := hF.keeps hK3 (by simp) (by simp)
  have hpp := hF.ltp
  have hqq := hF.ltq
  have hs2 := hK2.size
  have hK13 := hK2.trans hK3
  have hn : p ≠ p2 ∧ p ≠ q2 ∧ q ≠ p2 ∧ q ≠ q2 ∧ w.heap.size ≤ p ∧ w.heap.size ≤ q ∧ w.heap.size ≤ p2 ∧ w.heap.size ≤ q2 := by refine ⟨?_, ?_, ?_, ?_, ?_, ?_, ?_, ?_⟩ <;> omega
  have Hn := Lib.hid hn
  clear hF hn hpp hqq hs2 hp hq hp2 hq2 hK2 hK3
  go_wp2_with fail
  go_loopw [24] (fun i wr => ∃ (k : Nat) (F : Fla), k ≤ l.length ∧ i = .int .i64 k ∧ FlaAt wr p q F ∧ RfAt wr p2 q2 F ∧ Keeps [p, q, p2, q2] w wr) (fun i _ => l.length - (intOf i).toNat)
  case atStart => exact ⟨0, _, Nat.zero_le _, rfl, hF3, hR, hK13.nil⟩
  case round =>
    clear hF3 hR hK13
    obtain ⟨k, F, hk, rfl, hF, hR, hK⟩ := hrel
    by_cases hlt : k < l.length
    · have hrdw := (hl k l[k] (by simp [hlt])).1.s.rd
      obtain ⟨hok, b, o, rfl, hc⟩ := (hl.below (hK.below (B := w.heap.size) (Nat.le_refl _) (by simp; exact ⟨Hn.out.2.2.2.2.1, Hn.out.2.2.2.2.2.1, Hn.out.2.2.2.2.2.2.1, Hn.out.2.2.2.2.2.2.2⟩)) (fun c h => h.below (hK.below (Nat.le_refl _) (by simp; exact ⟨Hn.out.2.2.2.2.1, Hn.out.2.2.2.2.2.1, Hn.out.2.2.2.2.2.2.1, Hn.out.2.2.2.2.2.2.2⟩)))) k l[k] (by simp [hlt])
      generalize l[k] = x at *
      obtain ⟨xd, xa, xn, ⟨xA, xcap, xb⟩⟩ := x
      dsimp only at *
      have c0 : wr.cell? ⟨b, o + k * 4, none⟩ = some (.int .i64 xd) := hc 0 _ rfl
      have c1 := hc 1 _ rfl
      have c2 := hc 2 _ rfl
      have c3 := hc 3 _ rfl
      unfold BS.val at c3
      clear hc
      have hsok := hok.s
      have hxle : xb.length ≤ xcap := hsok.le
      have hxmax : xcap ≤ maxLen := hsok.max
      have hxnil : xA = none → xb = [] := hsok.nil
      have hxnil0 : xA = none → xcap = 0 := hsok.nil0
      unfold maxLen at hxmax
      clear hsok hok
      have hrd0 : Rd w xA xb := hrdw
      have hab : ∀ y, xA = some y → xb ≠ [] → y.block ∉ [p, q, p2, q2] := by
        intro y hy hne
        have h1 := hrd0.lt y hy hne
        have h2 := Hn.out
        simp only [List.mem_cons, List.not_mem_nil, or_false]
        omega
      have hp1 := hF.ltp
      have hq1 := hF.ltq
      have hp2 : p2 < wr.heap.size ∧ q2 < wr.heap.size := by obtain ⟨z, _, h⟩ := hR; exact ⟨h.ltp, h.ltq⟩
      have hB0 : Blk (wr.alloc (.cells #[.int .i64 xd, .int .i64 xa, .int .i64 xn, .slice xA xb.length xcap] 57)) wr.heap.size 57 [.int .i64 xd, .int .i64 xa, .int .i64 xn, .slice xA xb.length xcap] := Blk.newA wr _ _
      have hF1 := hF.alloc (.cells #[.int .i64 xd, .int .i64 xa, .int .i64 xn, .slice xA xb.length xcap] 57)
      have hR1 := hR.keeps ((Keeps.refl [] wr).alloc (.cells #[.int .i64 xd, .int .i64 xa, .int .i64 xn, .slice xA xb.length xcap] 57)) (by simp) (by simp)
      have hK1 := hK.alloc (.cells #[.int .i64 xd, .int .i64 xa, .int .i64 xn, .slice xA xb.length xcap] 57)
      have hmn : wr.heap.size ∉ [p, q, p2, q2] := by simp only [List.mem_cons, List.not_mem_nil, or_false]; omega
      have m0 := hB0.cell' (i := 0) rfl
      have m3 := hB0.cell' (i := 3) rfl
      have f0 := hB0.frozen 0
      clear hF hR hK hp1 hq1 hp2
      have HF := Lib.hid hF1
      have HR := Lib.hid hR1
      have HK := Lib.hid hK1
      have HB := Lib.hid hB0
      have Hrd0 := Lib.hid hrd0
      have Hab := Lib.hid hab
      clear hF1 hR1 hK1 hB0 hrd0 hab hrdw
      have hpq := Hn.out
      by_cases h60 : 60 ≤ k
      · have h60' : (60 : Int) ≤ (k : Int) := by omega
        clear h60 hpq
        go_wp2_with fail
        refine awake17.mono ?_
        rintro e wa ⟨rfl, hKa⟩
        go_wp2_with fail
        go_ret
        have hn := Hn.out
        exact ⟨rfl, (HK.out.trans hKa.nil).mono (by simp; exact ⟨hn.2.2.2.2.1, hn.2.2.2.2.2.1, hn.2.2.2.2.2.2.1, hn.2.2.2.2.2.2.2⟩)⟩
      have h60' : ¬ (60 : Int) ≤ (k : Int) := by omega
      by_cases h300 : 300 < xb.length
      · have h300' : (300 : Int) < (xb.length : Int) := by omega
        clear h60 hpq h300
        go_wp2_with fail
        refine awake17.mono ?_
        rintro e wa ⟨rfl, hKa⟩
        go_wp2_with fail
        go_ret
        have hn := Hn.out
        exact ⟨rfl, (HK.out.trans hKa.nil).mono (by simp; exact ⟨hn.2.2.2.2.1, hn.2.2.2.2.2.1, hn.2.2.2.2.2.2.1, hn.2.2.2.2.2.2.2⟩)⟩
      have h300' : ¬ (300 : Int) < (xb.length : Int) := by omega
      clear h60 h300
      go_upto_block 2 with (fail)
      clear c0 c1 c2 c3 hl
      generalize wr.alloc _ = w1 at *
      generalize wr.heap.size = m at *
      go_cut [9] (fun s9 wx => s9 = .bool true ∧ ∃ F', FlaAt wx p q F' ∧ RfAt wx p2 q2 F' ∧ Keeps [p, q, p2, q2] w wx)
      case first =>
        have hS1 : ∀ y, y ∈ [p, q] → y ∈ [p, q, p2, q2] := by intro y hy; simp at hy ⊢; omega
        have hS2 : ∀ y, y ∈ [p2, q2] → y ∈ [p, q, p2, q2] := by intro y hy; simp at hy ⊢; omega
        have hmp : m ∉ [p, q] := by simp at hmn ⊢; omega
        have hmr : m ∉ [p2, q2] := by simp at hmn ⊢; omega
        have hpq : p ∉ [p2, q2] ∧ q ∉ [p2, q2] ∧ p2 ∉ [p, q] ∧ q2 ∉ [p, q] := by
          have h2 := Hn.out
          simp only [List.mem_cons, List.not_mem_nil, or_false]
          omega
        have hrd1 : Rd w1 xA xb := Hrd0.out.keeps HK.out Hab.out
        have l1 : w1.cell? ⟨m, 1, none⟩ = some (.int .i64 xa) := HB.out.cell' (i := 1) rfl
        have l2 : w1.cell? ⟨m, 2, none⟩ = some (.int .i64 xn) := HB.out.cell' (i := 2) rfl
        have l3 : w1.cell? ⟨m, 3, none⟩ = some (.slice xA xb.length xcap) := HB.out.cell' (i := 3) rfl
        have m3' : w1.drew.cell? ⟨m, 3, none⟩ = some (.slice xA xb.length xcap) := HB.out.cell' (i := 3) rfl
        have habp : ∀ y, xA = some y → xb ≠ [] → y.block ∉ [p, q] := fun y h1 h2 => by have := Hab.out y h1 h2; simp at this ⊢; omega
        have habr : ∀ y, xA = some y → xb ≠ [] → y.block ∉ [p2, q2] := fun y h1 h2 => by have := Hab.out y h1 h2; simp at this ⊢; omega
        have Hrd := Lib.hid hrd1
        have Hpq := Lib.hid hpq
        have HS1 := Lib.hid hS1
        have HS2 := Lib.hid hS2
        have Hap := Lib.hid habp
        have Har := Lib.hid habr
        have Hxn := Lib.hid (show xA = none → xb = [] ∧ xcap = 0 from fun h => ⟨hxnil h, hxnil0 h⟩)
        clear hrd1 hpq hS1 hS2 habp habr hmn m0 m3 f0 hxnil hxnil0
        by_cases d0 : xd = 0
        · subst d0
          have C1 := Lib.hid (cellread_calls HF.out)
          have C2 := Lib.hid (fun (w2 : World) (h : RfAt w2 p2 q2 F) => rcellread_calls h)
          generalize F.cellRead = r at *
          go_wp2_with fail
          refine C1.out.mono ?_
          rintro e w2 ⟨v1, rfl, hv1, hk1⟩
          have hR2 := HR.out.keeps hk1 (by simp) (by simp)
          clear C1
          have Hv1 := Lib.hid hv1
          obtain ⟨a1, k1, rfl, _⟩ := hv1
          go_wp2_with fail
          refine (C2.out _ hR2).mono ?_
          rintro e w3 ⟨v2, rfl, hv2, hk2⟩
          have hst1 := (Hv1.out.keeps hk2 (by simp)).str
          have hst2 := hv2.str
          obtain ⟨a2, k2, rfl, _⟩ := hv2
          have R1 := Lib.hid ((HF.out.keeps hk1 (by simp) (by simp)).keeps hk2 (by simp) (by simp))
          have R2 := Lib.hid (hR2.keeps hk2 (by simp) (by simp))
          have R3 := Lib.hid ((HK.out.trans hk1.nil).trans hk2.nil)
          clear hk1 hk2 hR2 C2
          go_wp2_with fail
          go_meet
          case rel => exact ⟨by simp, F, R1.out, R2.out, R3.out⟩
        by_cases d1 : xd = 1
        · subst d1
          have c1' := cellwrite_calls HF.out.drew xA xcap xb (Hrd.out.keepsNil ((Keeps.refl [] w1).drew)) (by omega) (by omega) (by omega) Hxn.out Hap.out
          have c2' := fun (w2 : World) (h : RfAt w2 p2 q2 F) (h2 : Rd w2 xA xb) => rcellwrite_calls h xA xcap xb h2 (by omega) (by omega) Hxn.out Har.out
          generalize F.cellWrite xb = r at *
          obtain ⟨G, z⟩ := r
          dsimp only at c1' c2'
          have C1 := Lib.hid c1'
          have C2 := Lib.hid c2'
          clear c1' c2'
          go_wp2_with fail
          refine wp_region_noPanic ?_
          refine wp_region_held_drew (S := (fun w' => w'.cell? ⟨m, 3, none⟩ = some (.slice xA xb.length xcap))) (by kernel_rfl) m3' (fun hHeld => ?_)
          refine wpAnyH_take (i := 0) (v := ?v1_1) rfl (by kernel_rfl) (by kernel_rfl) (by kernel_rfl) (fun _ _ _ h => h) (Or.inl ⟨by rfl, ?y1_1⟩) (by assumption) ?r1_1
          case y1_1 => (intro w hSw; (try dsimp only at hSw); go_simp; try with_reducible rfl)
          (try simp only [Act.put, List.getElem_toArray, List.getElem_cons_zero, List.getElem_cons_succ, List.setIfInBounds_toArray, List.set_cons_zero, List.set_cons_succ])
          refine wpAnyH_take (i := 1) (v := ?v1_2) rfl (by kernel_rfl) (by kernel_rfl) (by kernel_rfl) (fun _ _ _ h => h) (Or.inl ⟨by rfl, ?y1_2⟩) (by assumption) ?r1_2
          case y1_2 => (intro w hSw; (try dsimp only at hSw); go_simp; try with_reducible rfl)
          (try simp only [Act.put, List.getElem_toArray, List.getElem_cons_zero, List.getElem_cons_succ, List.setIfInBounds_toArray, List.set_cons_zero, List.set_cons_succ])
          refine wpAnyH_take (i := 2) (v := ?v1_3) rfl (by kernel_rfl) (by kernel_rfl) (by kernel_rfl) (fun _ _ _ h => h) (Or.inl ⟨by rfl, ?y1_3⟩) (by assumption) ?r1_3
          case y1_3 => (intro w hSw; (try dsimp only at hSw); go_simp; try with_reducible rfl)
          (try simp only [Act.put, List.getElem_toArray, List.getElem_cons_zero, List.getElem_cons_succ, List.setIfInBounds_toArray, List.set_cons_zero, List.set_cons_succ])
          refine wpAnyH_take (i := 4) (v := ?v1_4) rfl (by kernel_rfl) (by kernel_rfl) (by kernel_rfl) (fun _ _ _ h => h) (Or.inl ⟨by rfl, ?y1_4⟩) (by assumption) ?r1_4
          case y1_4 => (intro w hSw; (try dsimp only at hSw); go_simp; try with_reducible rfl)
          (try simp only [Act.put, List.getElem_toArray, List.getElem_cons_zero, List.getElem_cons_succ, List.setIfInBounds_toArray, List.set_cons_zero, List.set_cons_succ])
          refine wpAnyH_take (i := 5) (v := ?v1_5) rfl (by kernel_rfl) (by kernel_rfl) (by kernel_rfl) (fun _ _ _ h => h) (Or.inl ⟨by rfl, ?y1_5⟩) (by assumption) ?r1_5
          case y1_5 => (intro w hSw; (try dsimp only at hSw); go_simp; try with_reducible rfl)
          (try simp only [Act.put, List.getElem_toArray, List.getElem_cons_zero, List.getElem_cons_succ, List.setIfInBounds_toArray, List.set_cons_zero, List.set_cons_succ])
          refine wpAnyH_take (i := 6) (v := ?v1_6) rfl (by kernel_rfl) (by kernel_rfl) (by kernel_rfl) (fun _ _ _ h => h) (Or.inl ⟨by rfl, ?y1_6⟩) (by assumption) ?r1_6
          case y1_6 => (intro w hSw; (try dsimp only at hSw); go_simp; try with_reducible rfl)
          (try simp only [Act.put, List.getElem_toArray, List.getElem_cons_zero, List.getElem_cons_succ, List.setIfInBounds_toArray, List.set_cons_zero, List.set_cons_succ])
          refine wpAnyH_ready (rs := [3]) (by kernel_rfl) (by simp) ?_
          refine AllReadyH.cons rfl (fun K hK => ?_) AllReadyH.nil
          go_simp
          refine C1.out.mono ?_
          rintro e w3 ⟨rfl, hF3, hK3⟩
          have n3 := hK3.cellAt m3' hmp
          have hR3 := HR.out.keeps (Keeps.trans' (Keeps.refl [] w1).drew hK3 (by simp) (fun _ h => .inl h)) Hpq.out.2.2.1 Hpq.out.2.2.2
          have hr3 := Hrd.out.keeps (Keeps.trans' (Keeps.refl [] w1).drew hK3 (by simp) (fun _ h => .inl h)) Hap.out
          have HF3 := Lib.hid hF3
          clear hF3
          go_wp2_with fail
          refine hK.out _ _ ?s1_7 (fun hHeld => ?_)
          case s1_7 => ((try dsimp only) <;> (first | exact n3))
          clear hK K
          (try simp only [Act.put, List.getElem_toArray, List.getElem_cons_zero, List.getElem_cons_succ, List.setIfInBounds_toArray, List.set_cons_zero, List.set_cons_succ])
          refine wpAnyH_ready (rs := [7]) (by kernel_rfl) (by simp) ?_
          refine AllReadyH.cons rfl (fun K hK => ?_) AllReadyH.nil
          go_simp
          refine (C2.out _ hR3 hr3).mono ?_
          rintro e w4 ⟨rfl, hR4, hK4⟩
          have o3 := hK4.cellAt n3 hmr
          have HR4 := Lib.hid hR4
          clear hR4
          go_wp2_with fail
          refine hK.out _ _ ?s1_8 (fun hHeld => ?_)
          case s1_8 => ((try dsimp only) <;> (first | exact o3))
          clear hK K
          (try simp only [Act.put, List.getElem_toArray, List.getElem_cons_zero, List.getElem_cons_succ, List.setIfInBounds_toArray, List.set_cons_zero, List.set_cons_succ])
          refine wpAnyH_take (i := 8) (v := ?v1_9) rfl (by kernel_rfl) (by kernel_rfl) (by kernel_rfl) (fun _ _ _ h => h) (Or.inl ⟨by rfl, ?y1_9⟩) (by assumption) ?r1_9
          case y1_9 => (intro w hSw; (try dsimp only at hSw); go_simp; try with_reducible rfl)
          (try simp only [Act.put, List.getElem_toArray, List.getElem_cons_zero, List.getElem_cons_succ, List.setIfInBounds_toArray, List.set_cons_zero, List.set_cons_succ])
          refine wpAnyH_take (i := 9) (v := ?v1_10) rfl (by kernel_rfl) (by kernel_rfl) (by kernel_rfl) (fun _ _ _ h => h) (Or.inl ⟨by rfl, ?y1_10⟩) (by assumption) ?r1_10
          case y1_10 => (intro w hSw; (try dsimp only at hSw); go_simp; try with_reducible rfl)
          (try simp only [Act.put, List.getElem_toArray, List.getElem_cons_zero, List.getElem_cons_succ, List.setIfInBounds_toArray, List.set_cons_zero, List.set_cons_succ])
          refine wpAnyH_done (by kernel_rfl) ?_ _
          refine NoPanic.normal ?_
          have R1 := Lib.hid (HF3.out.keeps hK4 Hpq.out.1 Hpq.out.2.1)
          have R3 := Lib.hid ((HK.out.drew.trans (hK3.mono fun y h => .inl (HS1.out y h))).trans (hK4.mono fun y h => .inl (HS2.out y h)))
          clear hK3 hK4 hR3 hr3
          go_wp2_with fail
          go_meet
          case rel => exact ⟨by simp, G, R1.out, HR4.out, R3.out⟩
        by_cases d2 : xd = 2
        · subst d2
          go_wp2_with fail
          refine (fuse_calls HF.out xa xn).mono ?_
          rintro e w2 ⟨rfl, hF2, hk2⟩
          have hR2 := HR.out.keeps hk2 Hpq.out.2.2.1 Hpq.out.2.2.2
          have n1 := hk2.cellAt l1 hmp
          have n2 := hk2.cellAt l2 hmp
          go_wp2_with fail
          refine (rfuse_calls hR2 xa xn).mono ?_
          rintro e w3 ⟨rfl, hR3, hk3⟩
          have R1 := Lib.hid (hF2.keeps hk3 Hpq.out.1 Hpq.out.2.1)
          have R2 := Lib.hid hR3
          have R3 := Lib.hid ((HK.out.trans (hk2.mono fun y h => .inl (HS1.out y h))).trans (hk3.mono fun y h => .inl (HS2.out y h)))
          clear hF2 hR2 hR3 hk2 hk3
          go_wp2_with fail
          go_meet
          case rel => exact ⟨rfl, F.fuse xa xn, R1.out, R2.out, R3.out⟩
        by_cases d3 : xd = 3
        · subst d3
          obtain ⟨at_, hat, hu1, hu2⟩ := umod xa 512 (by omega) (by omega)
          have hB := fun (B : List UInt8) (hBl : ∃ t, B = xb.take t) (n : Nat) (hn : B.length = n) => (show ((Calls Try.prog 23 #[.pointer (some ⟨p, 0, none⟩), .int .i64 at_, .slice xA n xcap] w1 (FPost w1 p q (F.program at_ B).1 (.int .i64 (F.program at_ B).2))) ∧ (∀ w2, RfAt w2 p2 q2 F → Keeps [p, q] w1 w2 → Calls Try.prog 36 #[.pointer (some ⟨p2, 0, none⟩), .int .i64 at_, .slice xA n xcap] w2 (RPost w2 p2 q2 (F.program at_ B).1 (.int .i64 (F.program at_ B).2)))) from by
            subst hn
            obtain ⟨t, rfl⟩ := hBl
            exact ⟨program_calls HF.out at_ xA xcap _ (Hrd.out.take t) (fun y hy hne => Hap.out y hy (by rintro rfl; simp at hne)), fun w2 h k => rprogram_calls h at_ xA xcap _ ((Hrd.out.keeps k Hap.out).take t) (fun y hy hne => Har.out y hy (by rintro rfl; simp at hne))⟩)
          by_cases h20 : xb.length ≤ 20
          · obtain ⟨C1, C2⟩ := hB xb ⟨xb.length, by simp⟩ xb.length rfl
            generalize F.program at_ xb = r at *
            obtain ⟨G, z⟩ := r
            dsimp only at C1 C2
            have H1 := Lib.hid C1
            have H2 := Lib.hid C2
            have h20i : (xb.length : Int) ≤ 20 := by omega
            have hxi : (xb.length : Int) ≤ (xcap : Int) := by omega
            clear C1 C2 hB
            go_wp2_with fail
            refine H1.out.mono ?_
            rintro e w2 ⟨rfl, hF2, hk2⟩
            have hR2 := HR.out.keeps hk2 Hpq.out.2.2.1 Hpq.out.2.2.2
            have H3 := Lib.hid (H2.out _ hR2 hk2)
            have HF2 := Lib.hid hF2
            clear hF2
            go_wp2_with fail
            refine H3.out.mono ?_
            rintro e w3 ⟨rfl, hR3, hk3⟩
            have R1 := Lib.hid (HF2.out.keeps hk3 Hpq.out.1 Hpq.out.2.1)
            have R2 := Lib.hid hR3
            have R3 := Lib.hid ((HK.out.trans (hk2.mono fun y h => .inl (HS1.out y h))).trans (hk3.mono fun y h => .inl (HS2.out y h)))
            clear hR2 hR3 hk2 hk3
            go_wp2_with fail
            go_meet
            case rel => exact ⟨by simp, G, R1.out, R2.out, R3.out⟩
          · have hl20 : (xb.take 20).length = 20 := by rw [List.length_take]; omega
            obtain ⟨C1, C2⟩ := hB (xb.take 20) ⟨20, rfl⟩ 20 hl20
            generalize F.program at_ (xb.take 20) = r at *
            obtain ⟨G, z⟩ := r
            dsimp only at C1 C2
            have H1 := Lib.hid C1
            have H2 := Lib.hid C2
            have h20i : (20 : Int) < (xb.length : Int) := by omega
            have hxi : (20 : Int) ≤ (xcap : Int) := by omega
            clear C1 C2 hB hl20
            go_wp2_with fail
            refine H1.out.mono ?_
            rintro e w2 ⟨rfl, hF2, hk2⟩
            have hR2 := HR.out.keeps hk2 Hpq.out.2.2.1 Hpq.out.2.2.2
            have H3 := Lib.hid (H2.out _ hR2 hk2)
            have HF2 := Lib.hid hF2
            clear hF2
            go_wp2_with fail
            refine H3.out.mono ?_
            rintro e w3 ⟨rfl, hR3, hk3⟩
            have R1 := Lib.hid (HF2.out.keeps hk3 Hpq.out.1 Hpq.out.2.1)
            have R2 := Lib.hid hR3
            have R3 := Lib.hid ((HK.out.trans (hk2.mono fun y h => .inl (HS1.out y h))).trans (hk3.mono fun y h => .inl (HS2.out y h)))
            clear hR2 hR3 hk2 hk3
            go_wp2_with fail
            go_meet
            case rel => exact ⟨by simp, G, R1.out, R2.out, R3.out⟩
        go_wp2_with fail
        refine (start_calls HF.out).mono ?_
        rintro e w2 ⟨rfl, hF2, hk2⟩
        have hR2 := HR.out.keeps hk2 Hpq.out.2.2.1 Hpq.out.2.2.2
        go_wp2_with fail
        refine (rstart_calls hR2).mono ?_
        rintro e w3 ⟨rfl, hR3, hk3⟩
        have R1 := Lib.hid (hF2.keeps hk3 Hpq.out.1 Hpq.out.2.1)
        have R2 := Lib.hid hR3
        have R3 := Lib.hid ((HK.out.trans (hk2.mono fun y h => .inl (HS1.out y h))).trans (hk3.mono fun y h => .inl (HS2.out y h)))
        clear hF2 hR2 hR3 hk2 hk3
        go_wp2_with fail
        go_meet
        case rel => exact ⟨rfl, F.start, R1.out, R2.out, R3.out⟩
      case rest =>
        clear HF HR HK HB Hrd0 Hab hpq hmn m0 m3 f0
        obtain ⟨rfl, F', hF, hR, hK⟩ := hcut
        have HF := Lib.hid hF
        have HR := Lib.hid hR
        have HK := Lib.hid hK
        obtain ⟨z, hz, hZ⟩ := hR
        have HZ := Lib.hid hZ.drew
        have c00 := hZ.drew.c0
        have hst0 := str_run (w := wc.drew) (a := some ⟨q2, 0, none⟩) 3584 3584 (l := F'.b) (by have := hZ.drew.rd 0 3584; rwa [List.drop_zero, List.take_of_length_le (by rw [hZ.len]; omega)] at this) hZ.len (by simp)
        have C3 := Lib.hid (bytes_calls hF.drew)
        clear hF hK hz hZ
        go_wp2_with fail
        refine wp_region_noPanic ?_
        refine wp_region_held_drew (S := (fun w' => w'.cell? ⟨p2, 0, none⟩ = some (.slice (some ⟨q2, 0, none⟩) 3584 3584) ∧ (convert 22 9 (.slice (some ⟨q2, 0, none⟩) 3584 3584)).run Try.prog w' = .ok (.string ⟨F'.b.toArray⟩) w')) (by kernel_rfl) ⟨c00, hst0⟩ (fun hHeld => ?_)
        refine wpAnyH_take (i := 0) (v := ?v2_11) rfl (by kernel_rfl) (by kernel_rfl) (by kernel_rfl) (fun _ _ _ h => h) (Or.inl ⟨by rfl, ?y2_11⟩) (by assumption) ?r2_11
        case y2_11 => (intro w hSw; (try dsimp only at hSw); go_simp; try with_reducible rfl)
        (try simp only [Act.put, List.getElem_toArray, List.getElem_cons_zero, List.getElem_cons_succ, List.setIfInBounds_toArray, List.set_cons_zero, List.set_cons_succ])
        refine wpAnyH_take (i := 1) (v := ?v2_12) rfl (by kernel_rfl) (by kernel_rfl) (by kernel_rfl) (fun _ _ _ h => h) (Or.inl ⟨by rfl, ?y2_12⟩) (by assumption) ?r2_12
        case y2_12 => (intro w hSw; (try dsimp only at hSw); go_simp; try with_reducible rfl)
        (try simp only [Act.put, List.getElem_toArray, List.getElem_cons_zero, List.getElem_cons_succ, List.setIfInBounds_toArray, List.set_cons_zero, List.set_cons_succ])
        refine wpAnyH_take (i := 2) (v := ?v2_13) rfl (by kernel_rfl) (by kernel_rfl) (by kernel_rfl) (fun _ _ _ h => h) (Or.inl ⟨by rfl, ?y2_13⟩) (by assumption) ?r2_13
        case y2_13 => (intro w hSw; (try dsimp only at hSw); go_simp; try with_reducible rfl)
        (try simp only [Act.put, List.getElem_toArray, List.getElem_cons_zero, List.getElem_cons_succ, List.setIfInBounds_toArray, List.set_cons_zero, List.set_cons_succ])
        refine wpAnyH_take (i := 3) (v := ?v2_14) rfl (by kernel_rfl) (by kernel_rfl) (by kernel_rfl) (fun _ _ _ h => h) (Or.inl ⟨by rfl, ?y2_14⟩) (by assumption) ?r2_14
        case y2_14 => (intro w hSw; (try dsimp only at hSw); go_simp; try with_reducible rfl)
        (try simp only [Act.put, List.getElem_toArray, List.getElem_cons_zero, List.getElem_cons_succ, List.setIfInBounds_toArray, List.set_cons_zero, List.set_cons_succ])
        refine wpAnyH_take (i := 6) (v := ?v2_15) rfl (by kernel_rfl) (by kernel_rfl) (by kernel_rfl) (fun _ _ _ h => h) (Or.inl ⟨by rfl, ?y2_15⟩) (by assumption) ?r2_15
        case y2_15 => (intro w hSw; (try dsimp only at hSw); go_simp; try with_reducible rfl)
        (try simp only [Act.put, List.getElem_toArray, List.getElem_cons_zero, List.getElem_cons_succ, List.setIfInBounds_toArray, List.set_cons_zero, List.set_cons_succ])
        refine wpAnyH_take (i := 7) (v := ?v2_16) rfl (by kernel_rfl) (by kernel_rfl) (by kernel_rfl) (fun _ _ _ h => h) (Or.inl ⟨by rfl, ?y2_16⟩) (by assumption) ?r2_16
        case y2_16 => (intro w hSw; (try dsimp only at hSw); go_simp; try with_reducible rfl)
        (try simp only [Act.put, List.getElem_toArray, List.getElem_cons_zero, List.getElem_cons_succ, List.setIfInBounds_toArray, List.set_cons_zero, List.set_cons_succ])
        refine wpAnyH_take (i := 8) (v := ?v2_17) rfl (by kernel_rfl) (by kernel_rfl) (by kernel_rfl) (fun _ _ _ h => h) (Or.inl ⟨by rfl, ?y2_17⟩) (by assumption) ?r2_17
        case y2_17 => (intro w hSw; (try dsimp only at hSw); go_simp; try with_reducible rfl)
        (try simp only [Act.put, List.getElem_toArray, List.getElem_cons_zero, List.getElem_cons_succ, List.setIfInBounds_toArray, List.set_cons_zero, List.set_cons_succ])
        refine wpAnyH_take (i := 9) (v := ?v2_18) rfl (by kernel_rfl) (by kernel_rfl) (by kernel_rfl) (fun _ _ _ h => h) (Or.inl ⟨by rfl, ?y2_18⟩) (by assumption) ?r2_18
        case y2_18 => (intro w hSw; (try dsimp only at hSw); go_simp; try with_reducible rfl)
        (try simp only [Act.put, List.getElem_toArray, List.getElem_cons_zero, List.getElem_cons_succ, List.setIfInBounds_toArray, List.set_cons_zero, List.set_cons_succ])
        refine wpAnyH_take (i := 10) (v := ?v2_19) rfl (by kernel_rfl) (by kernel_rfl) (by kernel_rfl) (fun _ _ _ h => h) (Or.inl ⟨by rfl, ?y2_19⟩) (by assumption) ?r2_19
        case y2_19 => (intro w hSw; (try dsimp only at hSw); go_simp; try with_reducible rfl)
        (try simp only [Act.put, List.getElem_toArray, List.getElem_cons_zero, List.getElem_cons_succ, List.setIfInBounds_toArray, List.set_cons_zero, List.set_cons_succ])
        refine wpAnyH_ready (rs := [4]) (by kernel_rfl) (by simp) ?_
        refine AllReadyH.cons rfl (fun K hK => ?_) AllReadyH.nil
        go_simp
        refine C3.out.mono ?_
        rintro e w5 ⟨v, rfl, hv, hk5⟩
        have hst1 : (convert 22 9 v).run Try.prog w5 = .ok (.string ⟨F'.b.toArray⟩) w5 := (by obtain ⟨a1, k1, rfl, _, hrd1, _, _, hn1⟩ := hv.rd; exact str_run F'.b.length k1 hrd1 rfl hn1)
        have hZ5 := HZ.out.keeps hk5 (by simp) (by simp)
        have e00 := hZ5.c0
        have hst2 := str_run (w := w5) (a := some ⟨q2, 0, none⟩) 3584 3584 (l := F'.b) (by have := hZ5.rd 0 3584; rwa [List.drop_zero, List.take_of_length_le (by rw [hZ5.len]; omega)] at this) hZ5.len (by simp)
        clear hZ5
        go_wp2_with fail
        refine hK.out _ _ ?s2_20 (fun hHeld => ?_)
        case s2_20 => ((try dsimp only) <;> (first | exact ⟨e00, hst2⟩))
        clear hK K
        (try simp only [Act.put, List.getElem_toArray, List.getElem_cons_zero, List.getElem_cons_succ, List.setIfInBounds_toArray, List.set_cons_zero, List.set_cons_succ])
        refine wpAnyH_ready (rs := [5]) (by kernel_rfl) (by simp) ?_
        refine AllReadyH.cons rfl (fun K hK => ?_) AllReadyH.nil
        go_simp
        refine hK.out _ _ ?s2_21 (fun hHeld => ?_)
        case s2_21 => ((try dsimp only) <;> (first | exact ⟨e00, hst2⟩))
        clear hK K
        (try simp only [Act.put, List.getElem_toArray, List.getElem_cons_zero, List.getElem_cons_succ, List.setIfInBounds_toArray, List.set_cons_zero, List.set_cons_succ])
        refine wpAnyH_take (i := 11) (v := ?v2_22) rfl (by kernel_rfl) (by kernel_rfl) (by kernel_rfl) (fun _ _ _ h => h) (Or.inl ⟨by rfl, ?y2_22⟩) (by assumption) ?r2_22
        case y2_22 => (intro w hSw; (try dsimp only at hSw); go_simp; try with_reducible rfl)
        (try simp only [Act.put, List.getElem_toArray, List.getElem_cons_zero, List.getElem_cons_succ, List.setIfInBounds_toArray, List.set_cons_zero, List.set_cons_succ])
        refine wpAnyH_take (i := 12) (v := ?v2_23) rfl (by kernel_rfl) (by kernel_rfl) (by kernel_rfl) (fun _ _ _ h => h) (Or.inl ⟨by rfl, ?y2_23⟩) (by assumption) ?r2_23
        case y2_23 => (intro w hSw; (try dsimp only at hSw); go_simp; try with_reducible rfl)
        (try simp only [Act.put, List.getElem_toArray, List.getElem_cons_zero, List.getElem_cons_succ, List.setIfInBounds_toArray, List.set_cons_zero, List.set_cons_succ])
        refine wpAnyH_done (by kernel_rfl) ?_ _
        refine NoPanic.normal ?_
        go_wp2_with fail
        go_roundw
        case rel => exact ⟨k + 1, F', by omega, by go_num, HF.out.drew.keeps hk5 (by simp) (by simp), HR.out.keeps ((Keeps.refl [] wc).drew.trans hk5) (by simp) (by simp), HK.out.drew.trans hk5.nil⟩
        case measure => simp [intOf]; omega
    · have hkl : k = l.length := by omega
      subst hkl
      have HK := Lib.hid hK
      clear hF hR hK hl
      go_wp2_with fail
      refine cellread_nil.mono ?_
      rintro e w1 ⟨rfl, rfl⟩
      go_wp2_with fail
      refine cellwrite_nil.mono ?_
      rintro e w1 ⟨rfl, rfl⟩
      go_wp2_with fail
      refine awake17.mono ?_
      rintro e wa ⟨rfl, hKa⟩
      go_wp2_with fail
      go_ret
      have hn := Hn.out
      exact ⟨rfl, (HK.out.trans hKa.nil).mono (by simp; exact ⟨hn.2.2.2.2.1, hn.2.2.2.2.2.1, hn.2.2.2.2.2.2.1, hn.2.2.2.2.2.2.2⟩)⟩

end Go.Proofs.Ythjojkkjdaoocaa
