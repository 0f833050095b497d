/-
  LawPlays: the walk of FlashPlays.
-/
import Derived.Test.YthjojkkjdaoocaaRows16
import Derived.Test.YthjojkkjdaoocaaRefN2
import Derived.Test.YthjojkkjdaoocaaRefCut
import Derived.Test.YthjojkkjdaoocaaLaw16
import Derived.Deep.DeepCutAuto
import Derived.Deep.CutBlock
import Derived.Deep.RegionHeld3
import Derived.Deep.RegionWith
import Derived.Deep.DrawnRows
set_option linter.unusedVariables false
set_option linter.unusedSimpArgs false
namespace Go.Proofs.Ythjojkkjdaoocaa
open Go.RowKit
attribute [local go_sem ↓] Go.wp_at_zero Go.wp_at_succ

theorem Keeps.cellAt {S : List Nat} {w w' : World} {a : Addr} {v : Value} (k : Keeps S w w') (h : w.cell? a = some v) (ha : a.block ∉ S) : w'.cell? a = some v :=
  (World.cell?_of_block (a := a) (k.block a.block (World.block_lt_of_cell? w _ h) ha)).trans h

set_option maxRecDepth 100000 in
set_option maxHeartbeats 10000000 in
theorem flashPlays_walk {w : World} (wear : Int) (hwear : (Lit.int .i64 wear).wf = true) (A : Option Addr) (c : Nat) (l : List C16) (hm : l.length ≤ maxLen) (hl : Calls16 w A l) :
    Calls Try.prog 8 #[.int .i64 wear, .slice A l.length c] w (TrueKeep w) := by
  have hfew := few16_calls A c l hl hm
  unfold maxLen at hm
  cases hfw : fewFrom16 0 l
  · rw [hfw] at hfew
    clear hl
    go_enter Try.func8, Try.ntmps8
    go_wp2_with fail
    refine hfew.mono ?_
    rintro e w1 ⟨rfl, hK1⟩
    go_wp2_with fail
    refine awake16.mono ?_
    rintro e wa ⟨rfl, hKa⟩
    go_wp2_with fail
    go_ret
    exact ⟨rfl, hK1.trans hKa⟩
  rw [hfw] at hfew
  obtain ⟨hlen, hlb⟩ := fewFrom16_len l 0 hfw (by omega)
  rw [Nat.zero_add] at hlen
  have Hlb := Lib.hid hlb
  clear hlb hfw
  go_enter Try.func8, Try.ntmps8
  go_wp2_with fail
  refine hfew.mono ?_
  rintro e w1 ⟨rfl, hK1⟩
  clear hfew
  go_wp2_with fail
  refine (new_calls wear).mono ?_
  rintro e w2 ⟨p, q, rfl, hp, hq, hF, hK2⟩
  go_wp2_with fail
  refine (rnew_calls wear).mono ?_
  rintro e w3 ⟨p2, q2, rfl, hp2, hq2, hR, hK3⟩
  have hF3 := hF.keeps hK3 (by simp) (by simp)
  have hpp := hF.ltp
  have hqq := hF.ltq
  have hs1 := hK1.size
  have hs2 := hK2.size
  have hK13 := (hK1.trans hK2).trans hK3
  have hn : p ≠ p2 ∧ p ≠ q2 ∧ q ≠ p2 ∧ q ≠ q2 ∧ w.heap.size ≤ p ∧ w.heap.size ≤ q ∧ w.heap.size ≤ p2 ∧ w.heap.size ≤ q2 := by refine ⟨?_, ?_, ?_, ?_, ?_, ?_, ?_, ?_⟩ <;> omega
  have Hn := Lib.hid hn
  clear hF hn hpp hqq hs1 hs2 hp hq hp2 hq2 hK1 hK2 hK3
  go_wp2_with fail
  go_loopw [28] (fun i wr => ∃ (k : Nat) (F : Fla), k ≤ l.length ∧ i = .int .i64 k ∧ FlaAt wr p q F ∧ RfAt wr p2 q2 F ∧ Keeps [p, q, p2, q2] w wr) (fun i _ => l.length - (intOf i).toNat)
  case atStart => exact ⟨0, _, Nat.zero_le _, rfl, hF3, hR, hK13.nil⟩
  case round =>
    clear hF3 hR hK13
    obtain ⟨k, F, hk, rfl, hF, hR, hK⟩ := hrel
    by_cases hlt : k < l.length
    · have hrdw := (hl k l[k] (by simp [hlt])).1.s.rd
      obtain ⟨hok, b, o, rfl, hc⟩ := (hl.below (hK.below (B := w.heap.size) (Nat.le_refl _) (by simp; exact ⟨Hn.out.2.2.2.2.1, Hn.out.2.2.2.2.2.1, Hn.out.2.2.2.2.2.2.1, Hn.out.2.2.2.2.2.2.2⟩)) (fun c h => h.below (hK.below (Nat.le_refl _) (by simp; exact ⟨Hn.out.2.2.2.2.1, Hn.out.2.2.2.2.2.1, Hn.out.2.2.2.2.2.2.1, Hn.out.2.2.2.2.2.2.2⟩)))) k l[k] (by simp [hlt])
      have hb3 : (l[k]).s.b.length ≤ 300 := Hlb.out _ (List.getElem_mem _)
      generalize l[k] = x at *
      obtain ⟨xd, xa, xn, ⟨xA, xcap, xb⟩⟩ := x
      dsimp only at *
      have c0 : wr.cell? ⟨b, o + k * 4, none⟩ = some (.int .i64 xd) := hc 0 _ rfl
      have c1 := hc 1 _ rfl
      have c2 := hc 2 _ rfl
      have c3 := hc 3 _ rfl
      unfold BS.val at c3
      clear hc
      have hrd0 : Rd w xA xb := hrdw
      have hab : ∀ y, xA = some y → xb ≠ [] → y.block ∉ [p, q, p2, q2] := by
        intro y hy hne
        have h1 := hrd0.lt y hy hne
        have h2 := Hn.out
        simp only [List.mem_cons, List.not_mem_nil, or_false]
        omega
      have hp1 := hF.ltp
      have hq1 := hF.ltq
      have hp2 : p2 < wr.heap.size ∧ q2 < wr.heap.size := by obtain ⟨z, _, h⟩ := hR; exact ⟨h.ltp, h.ltq⟩
      have hB0 : Blk (wr.alloc (.cells #[.int .i64 xd, .int .i64 xa, .int .i64 xn, .slice xA xb.length xcap] 39)) wr.heap.size 39 [.int .i64 xd, .int .i64 xa, .int .i64 xn, .slice xA xb.length xcap] := Blk.newA wr _ _
      have hF1 := hF.alloc (.cells #[.int .i64 xd, .int .i64 xa, .int .i64 xn, .slice xA xb.length xcap] 39)
      have hR1 := hR.keeps ((Keeps.refl [] wr).alloc (.cells #[.int .i64 xd, .int .i64 xa, .int .i64 xn, .slice xA xb.length xcap] 39)) (by simp) (by simp)
      have hK1 := hK.alloc (.cells #[.int .i64 xd, .int .i64 xa, .int .i64 xn, .slice xA xb.length xcap] 39)
      have hmn : wr.heap.size ∉ [p, q, p2, q2] := by simp only [List.mem_cons, List.not_mem_nil, or_false]; omega
      have m0 := hB0.cell' (i := 0) rfl
      have f0 := hB0.frozen 0
      clear hF hR hK hp1 hq1 hp2
      go_upto_block 2 with (fail)
      generalize wr.alloc _ = w1 at *
      generalize wr.heap.size = m at *
      have hrd1 : Rd w1 xA xb := hrd0.keeps hK1 hab
      have hpq : p ∉ [p2, q2] ∧ q ∉ [p2, q2] ∧ p2 ∉ [p, q] ∧ q2 ∉ [p, q] := by
        have h2 := Hn.out
        simp only [List.mem_cons, List.not_mem_nil, or_false]
        omega
      go_cut [9] (fun s9 wx => s9 = .bool true ∧ ∃ F', FlaAt wx p q F' ∧ RfAt wx p2 q2 F' ∧ Keeps [p, q, p2, q2] w wx)
      case first =>
        have hS1 : ∀ y, y ∈ [p, q] → y ∈ [p, q, p2, q2] := by intro y hy; simp at hy ⊢; omega
        have hS2 : ∀ y, y ∈ [p2, q2] → y ∈ [p, q, p2, q2] := by intro y hy; simp at hy ⊢; omega
        have hmp : m ∉ [p, q] := by simp at hmn ⊢; omega
        have hmr : m ∉ [p2, q2] := by simp at hmn ⊢; omega
        have m1 : w1.drew.cell? ⟨m, 1, none⟩ = some (.int .i64 xa) := hB0.cell' (i := 1) rfl
        have m2 : w1.drew.cell? ⟨m, 2, none⟩ = some (.int .i64 xn) := hB0.cell' (i := 2) rfl
        have m3 : w1.drew.cell? ⟨m, 3, none⟩ = some (.slice xA xb.length xcap) := hB0.cell' (i := 3) rfl
        have l1 : w1.cell? ⟨m, 1, none⟩ = some (.int .i64 xa) := hB0.cell' (i := 1) rfl
        have l2 : w1.cell? ⟨m, 2, none⟩ = some (.int .i64 xn) := hB0.cell' (i := 2) rfl
        have habp : ∀ y, xA = some y → xb ≠ [] → y.block ∉ [p, q] := fun y h1 h2 => by have := hab y h1 h2; simp at this ⊢; omega
        have habr : ∀ y, xA = some y → xb ≠ [] → y.block ∉ [p2, q2] := fun y h1 h2 => by have := hab y h1 h2; simp at this ⊢; omega
        have HF := Lib.hid hF1
        have HR := Lib.hid hR1
        have HK := Lib.hid hK1
        have Hrd := Lib.hid hrd1
        have Hpq := Lib.hid hpq
        have HS1 := Lib.hid hS1
        have HS2 := Lib.hid hS2
        have Hap := Lib.hid habp
        have Har := Lib.hid habr
        have HB := Lib.hid hB0
        clear hF1 hR1 hK1 hrd1 hpq hS1 hS2 habp habr hab hrd0 hB0 hrdw hmn hok c0 c1 c2 c3 hl m0 f0
        by_cases d0 : xd = 0
        · subst d0
          have C1 := read_calls HF.out xa xn
          have C2 := fun (w2 : World) (h : RfAt w2 p2 q2 F) => rread_calls h xa xn
          generalize F.read xa xn = r at *
          go_wp2_with fail
          refine C1.mono ?_
          rintro e w2 ⟨v1, rfl, hv1, hk1⟩
          have hR2 := HR.out.keeps hk1 (by simp) (by simp)
          have n1 := hk1.cellAt l1 (by simp)
          have n2 := hk1.cellAt l2 (by simp)
          clear C1
          go_wp2_with fail
          refine (C2 _ hR2).mono ?_
          rintro e w3 ⟨v2, rfl, hv2, hk2⟩
          obtain ⟨a1, k1, rfl, _, hrd1, _, _, hn1⟩ := hv1.rd
          obtain ⟨a2, k2, rfl, _, hrd2, _, _, hn2⟩ := hv2.rd
          have hst1 := str_run _ k1 (hrd1.keepsNil hk2) rfl hn1
          have hst2 := str_run _ k2 hrd2 rfl hn2
          have R1 := Lib.hid ((HF.out.keeps hk1 (by simp) (by simp)).keeps hk2 (by simp) (by simp))
          have R2 := Lib.hid (hR2.keeps hk2 (by simp) (by simp))
          have R3 := Lib.hid ((HK.out.trans hk1.nil).trans hk2.nil)
          clear hv1 hv2 hk1 hk2 hrd1 hrd2 hn1 hn2 hR2 C2
          go_wp2_with fail
          go_meet
          case rel => exact ⟨by simp, F, R1.out, R2.out, R3.out⟩
        by_cases d1 : xd = 1
        · subst d1
          have c1' := program_calls HF.out.drew xa xA xcap xb (Hrd.out.keepsNil ((Keeps.refl [] w1).drew)) Hap.out
          have c2' := fun (w2 : World) (h : RfAt w2 p2 q2 F) (h2 : Rd w2 xA xb) => rprogram_calls h xa xA xcap xb h2 Har.out
          generalize F.program xa xb = r at *
          obtain ⟨G, z⟩ := r
          dsimp only at c1' c2'
          have C1 := Lib.hid c1'
          have C2 := Lib.hid c2'
          clear c1' c2'
          go_wp2_with fail
          go_region_held3 (fun w' => w'.cell? ⟨m, 1, none⟩ = some (.int .i64 xa) ∧ w'.cell? ⟨m, 3, none⟩ = some (.slice xA xb.length xcap)) (first | exact ⟨m1, m3⟩ | exact ⟨n1, n3⟩ | exact ⟨o1, o3⟩) (first | (go_at_call 23; refine C1.out.mono ?_; rintro e w3 ⟨rfl, hF3, hK3⟩; have n1 := hK3.cellAt m1 hmp; have n3 := hK3.cellAt m3 hmp; have hR3 := HR.out.keeps (Keeps.trans' (Keeps.refl [] w1).drew hK3 (by simp) (fun _ h => .inl h)) Hpq.out.2.2.1 Hpq.out.2.2.2; have hr3 := Hrd.out.keeps (Keeps.trans' (Keeps.refl [] w1).drew hK3 (by simp) (fun _ h => .inl h)) Hap.out) | (go_at_call 36; refine (C2.out _ hR3 hr3).mono ?_; rintro e w4 ⟨rfl, hR4, hK4⟩; have o1 := hK4.cellAt n1 hmr; have o3 := hK4.cellAt n3 hmr))
          have R1 := Lib.hid (hF3.keeps hK4 Hpq.out.1 Hpq.out.2.1)
          have R2 := Lib.hid hR4
          have R3 := Lib.hid ((HK.out.drew.trans (hK3.mono fun y h => .inl (HS1.out y h))).trans (hK4.mono fun y h => .inl (HS2.out y h)))
          clear hF3 hR4 hK3 hK4 hR3 hr3
          go_wp2_with fail
          go_meet
          case rel => exact ⟨by simp, G, R1.out, R2.out, R3.out⟩
        by_cases d2 : xd = 2
        · subst d2
          have c1' := erase_calls HF.out.drew xa
          have c2' := fun (w2 : World) (h : RfAt w2 p2 q2 F) => rerase_calls h xa
          generalize F.erase xa = r at *
          obtain ⟨G, z⟩ := r
          dsimp only at c1' c2'
          have C1 := Lib.hid c1'
          have C2 := Lib.hid c2'
          clear c1' c2'
          go_wp2_with fail
          go_region_held3 (fun w' => w'.cell? ⟨m, 1, none⟩ = some (.int .i64 xa)) (first | exact m1 | exact n1 | exact o1) (first | (go_at_call 28; refine C1.out.mono ?_; rintro e w3 ⟨rfl, hF3, hK3⟩; have n1 := hK3.cellAt m1 hmp; have hR3 := HR.out.keeps (Keeps.trans' (Keeps.refl [] w1).drew hK3 (by simp) (fun _ h => .inl h)) Hpq.out.2.2.1 Hpq.out.2.2.2; have hr3 := Hrd.out.keeps (Keeps.trans' (Keeps.refl [] w1).drew hK3 (by simp) (fun _ h => .inl h)) Hap.out) | (go_at_call 37; refine (C2.out _ hR3).mono ?_; rintro e w4 ⟨rfl, hR4, hK4⟩; have o1 := hK4.cellAt n1 hmr))
          have R1 := Lib.hid (hF3.keeps hK4 Hpq.out.1 Hpq.out.2.1)
          have R2 := Lib.hid hR4
          have R3 := Lib.hid ((HK.out.drew.trans (hK3.mono fun y h => .inl (HS1.out y h))).trans (hK4.mono fun y h => .inl (HS2.out y h)))
          clear hF3 hR4 hK3 hK4 hR3 hr3
          go_wp2_with fail
          go_meet
          case rel => exact ⟨by simp, G, R1.out, R2.out, R3.out⟩
        by_cases d3 : xd = 3
        · subst d3
          have c1' := blank_calls HF.out.drew xa xn
          have c2' := fun (w2 : World) (h : RfAt w2 p2 q2 F) => rblank_calls h xa xn
          generalize F.blank xa xn = r at *
          have C1 := Lib.hid c1'
          have C2 := Lib.hid c2'
          clear c1' c2'
          go_wp2_with fail
          go_region_held3 (fun w' => w'.cell? ⟨m, 1, none⟩ = some (.int .i64 xa) ∧ w'.cell? ⟨m, 2, none⟩ = some (.int .i64 xn)) (first | exact ⟨m1, m2⟩ | exact ⟨n1, n2⟩ | exact ⟨o1, o2⟩) (first | (go_at_call 32; refine C1.out.mono ?_; rintro e w3 ⟨rfl, hK3⟩; have n1 := hK3.cellAt m1 (by simp); have n2 := hK3.cellAt m2 (by simp); have hR3 := HR.out.keeps (Keeps.trans' (Keeps.refl [] w1).drew hK3 (by simp) (fun _ h => .inl h)) (by simp) (by simp)) | (go_at_call 38; refine (C2.out _ hR3).mono ?_; rintro e w4 ⟨rfl, hK4⟩; have o1 := hK4.cellAt n1 (by simp); have o2 := hK4.cellAt n2 (by simp)))
          have R1 := Lib.hid ((HF.out.drew.keeps hK3 (by simp) (by simp)).keeps hK4 (by simp) (by simp))
          have R2 := Lib.hid (hR3.keeps hK4 (by simp) (by simp))
          have R3 := Lib.hid ((HK.out.drew.trans hK3.nil).trans hK4.nil)
          clear hK3 hK4 hR3
          go_wp2_with fail
          go_meet
          case rel => exact ⟨by simp, F, R1.out, R2.out, R3.out⟩
        by_cases d4 : xd = 4
        · subst d4
          go_wp2_with fail
          refine (fuse_calls HF.out xn xa).mono ?_
          rintro e w2 ⟨rfl, hF2, hk2⟩
          have hR2 := HR.out.keeps hk2 Hpq.out.2.2.1 Hpq.out.2.2.2
          have n1 := hk2.cellAt l1 hmp
          have n2 := hk2.cellAt l2 hmp
          go_wp2_with fail
          refine (rfuse_calls hR2 xn xa).mono ?_
          rintro e w3 ⟨rfl, hR3, hk3⟩
          have R1 := Lib.hid (hF2.keeps hk3 Hpq.out.1 Hpq.out.2.1)
          have R2 := Lib.hid hR3
          have R3 := Lib.hid ((HK.out.trans (hk2.mono fun y h => .inl (HS1.out y h))).trans (hk3.mono fun y h => .inl (HS2.out y h)))
          clear hF2 hR2 hR3 hk2 hk3
          go_wp2_with fail
          go_meet
          case rel => exact ⟨rfl, F.fuse xn xa, R1.out, R2.out, R3.out⟩
        by_cases d5 : xd = 5
        · subst d5
          go_wp2_with fail
          refine (cut_calls HF.out).mono ?_
          rintro e w2 ⟨rfl, hF2, hk2⟩
          have hR2 := HR.out.keeps hk2 Hpq.out.2.2.1 Hpq.out.2.2.2
          have n1 := hk2.cellAt l1 hmp
          have n2 := hk2.cellAt l2 hmp
          go_wp2_with fail
          refine (rcut_calls hR2).mono ?_
          rintro e w3 ⟨rfl, hR3, hk3⟩
          have R1 := Lib.hid (hF2.keeps hk3 Hpq.out.1 Hpq.out.2.1)
          have R2 := Lib.hid hR3
          have R3 := Lib.hid ((HK.out.trans (hk2.mono fun y h => .inl (HS1.out y h))).trans (hk3.mono fun y h => .inl (HS2.out y h)))
          clear hF2 hR2 hR3 hk2 hk3
          go_wp2_with fail
          go_meet
          case rel => exact ⟨rfl, F.cut, R1.out, R2.out, R3.out⟩
        go_wp2_with fail
        refine (start_calls HF.out).mono ?_
        rintro e w2 ⟨rfl, hF2, hk2⟩
        have hR2 := HR.out.keeps hk2 Hpq.out.2.2.1 Hpq.out.2.2.2
        have n1 := hk2.cellAt l1 hmp
        have n2 := hk2.cellAt l2 hmp
        go_wp2_with fail
        refine (rstart_calls hR2).mono ?_
        rintro e w3 ⟨rfl, hR3, hk3⟩
        have R1 := Lib.hid (hF2.keeps hk3 Hpq.out.1 Hpq.out.2.1)
        have R2 := Lib.hid hR3
        have R3 := Lib.hid ((HK.out.trans (hk2.mono fun y h => .inl (HS1.out y h))).trans (hk3.mono fun y h => .inl (HS2.out y h)))
        clear hF2 hR2 hR3 hk2 hk3
        go_wp2_with fail
        go_meet
        case rel => exact ⟨rfl, F.start, R1.out, R2.out, R3.out⟩
      case rest =>
        clear hF1 hR1 hK1 hrd1 hpq hab hrd0 hB0 hrdw hmn hok c0 c1 c2 c3 hl m0 f0
        obtain ⟨rfl, F', hF, hR, hK⟩ := hcut
        have HF := Lib.hid hF
        have HR := Lib.hid hR
        have HK := Lib.hid hK
        obtain ⟨z, hz, hZ⟩ := hR
        have HZ := Lib.hid hZ.drew
        have c16 := hZ.drew.down
        have c17 := hZ.drew.steps
        have c00 := hZ.drew.c0
        have hst0 := str_run (w := wc.drew) (a := some ⟨q2, 0, none⟩) 3584 3584 (l := F'.b) (by have := hZ.drew.rd 0 3584; rwa [List.drop_zero, List.take_of_length_le (by rw [hZ.len]; omega)] at this) hZ.len (by simp)
        have C1 := Lib.hid (down_calls hF.drew)
        have C2 := Lib.hid (steps_calls hF.drew)
        have C3 := Lib.hid (bytes_calls hF.drew)
        clear hF hK hz hZ
        go_wp2_with fail
        refine wp_region_noPanic ?_
        refine wp_region_held_drew (S := (fun w' => w'.cell? ⟨p2, 16, none⟩ = some (.bool F'.down) ∧ w'.cell? ⟨p2, 17, none⟩ = some (.int .i64 F'.steps) ∧ w'.cell? ⟨p2, 0, none⟩ = some (.slice (some ⟨q2, 0, none⟩) 3584 3584) ∧ (convert 22 9 (.slice (some ⟨q2, 0, none⟩) 3584 3584)).run Try.prog w' = .ok (.string ⟨F'.b.toArray⟩) w')) (by kernel_rfl) ⟨c16, c17, c00, hst0⟩ (fun hHeld => ?_)
        refine wpAnyH_take (i := 0) (v := ?v1_1) rfl (by kernel_rfl) (by kernel_rfl) (by kernel_rfl) (fun _ _ _ h => h) (Or.inl ⟨by rfl, ?y1_1⟩) (by assumption) ?r1_1
        case y1_1 => (intro w hSw; (try dsimp only at hSw); go_simp; try with_reducible rfl)
        (try simp only [Act.put, List.getElem_toArray, List.getElem_cons_zero, List.getElem_cons_succ, List.setIfInBounds_toArray, List.set_cons_zero, List.set_cons_succ])
        refine wpAnyH_take (i := 1) (v := ?v1_2) rfl (by kernel_rfl) (by kernel_rfl) (by kernel_rfl) (fun _ _ _ h => h) (Or.inl ⟨by rfl, ?y1_2⟩) (by assumption) ?r1_2
        case y1_2 => (intro w hSw; (try dsimp only at hSw); go_simp; try with_reducible rfl)
        (try simp only [Act.put, List.getElem_toArray, List.getElem_cons_zero, List.getElem_cons_succ, List.setIfInBounds_toArray, List.set_cons_zero, List.set_cons_succ])
        refine wpAnyH_take (i := 2) (v := ?v1_3) rfl (by kernel_rfl) (by kernel_rfl) (by kernel_rfl) (fun _ _ _ h => h) (Or.inl ⟨by rfl, ?y1_3⟩) (by assumption) ?r1_3
        case y1_3 => (intro w hSw; (try dsimp only at hSw); go_simp; try with_reducible rfl)
        (try simp only [Act.put, List.getElem_toArray, List.getElem_cons_zero, List.getElem_cons_succ, List.setIfInBounds_toArray, List.set_cons_zero, List.set_cons_succ])
        refine wpAnyH_take (i := 3) (v := ?v1_4) rfl (by kernel_rfl) (by kernel_rfl) (by kernel_rfl) (fun _ _ _ h => h) (Or.inl ⟨by rfl, ?y1_4⟩) (by assumption) ?r1_4
        case y1_4 => (intro w hSw; (try dsimp only at hSw); go_simp; try with_reducible rfl)
        (try simp only [Act.put, List.getElem_toArray, List.getElem_cons_zero, List.getElem_cons_succ, List.setIfInBounds_toArray, List.set_cons_zero, List.set_cons_succ])
        refine wpAnyH_take (i := 5) (v := ?v1_5) rfl (by kernel_rfl) (by kernel_rfl) (by kernel_rfl) (fun _ _ _ h => h) (Or.inl ⟨by rfl, ?y1_5⟩) (by assumption) ?r1_5
        case y1_5 => (intro w hSw; (try dsimp only at hSw); go_simp; try with_reducible rfl)
        (try simp only [Act.put, List.getElem_toArray, List.getElem_cons_zero, List.getElem_cons_succ, List.setIfInBounds_toArray, List.set_cons_zero, List.set_cons_succ])
        refine wpAnyH_take (i := 6) (v := ?v1_6) rfl (by kernel_rfl) (by kernel_rfl) (by kernel_rfl) (fun _ _ _ h => h) (Or.inl ⟨by rfl, ?y1_6⟩) (by assumption) ?r1_6
        case y1_6 => (intro w hSw; (try dsimp only at hSw); go_simp; try with_reducible rfl)
        (try simp only [Act.put, List.getElem_toArray, List.getElem_cons_zero, List.getElem_cons_succ, List.setIfInBounds_toArray, List.set_cons_zero, List.set_cons_succ])
        refine wpAnyH_take (i := 7) (v := ?v1_7) rfl (by kernel_rfl) (by kernel_rfl) (by kernel_rfl) (fun _ _ _ h => h) (Or.inl ⟨by rfl, ?y1_7⟩) (by assumption) ?r1_7
        case y1_7 => (intro w hSw; (try dsimp only at hSw); go_simp; try with_reducible rfl)
        (try simp only [Act.put, List.getElem_toArray, List.getElem_cons_zero, List.getElem_cons_succ, List.setIfInBounds_toArray, List.set_cons_zero, List.set_cons_succ])
        refine wpAnyH_take (i := 8) (v := ?v1_8) rfl (by kernel_rfl) (by kernel_rfl) (by kernel_rfl) (fun _ _ _ h => h) (Or.inl ⟨by rfl, ?y1_8⟩) (by assumption) ?r1_8
        case y1_8 => (intro w hSw; (try dsimp only at hSw); go_simp; try with_reducible rfl)
        (try simp only [Act.put, List.getElem_toArray, List.getElem_cons_zero, List.getElem_cons_succ, List.setIfInBounds_toArray, List.set_cons_zero, List.set_cons_succ])
        refine wpAnyH_ready (rs := [4]) (by kernel_rfl) (by simp) ?_
        refine AllReadyH.cons rfl (fun K hK => ?_) AllReadyH.nil
        go_simp
        refine C1.out.mono ?_
        rintro e w' ⟨rfl, rfl⟩
        go_wp2_with fail
        refine hK.out _ _ ?s1_9 (fun hHeld => ?_)
        case s1_9 => ((try dsimp only); first | exact ⟨c16, c17, c00, hst0⟩)
        clear hK K
        (try simp only [Act.put, List.getElem_toArray, List.getElem_cons_zero, List.getElem_cons_succ, List.setIfInBounds_toArray, List.set_cons_zero, List.set_cons_succ])
        refine wpAnyH_take (i := 9) (v := ?v1_10) rfl (by kernel_rfl) (by kernel_rfl) (by kernel_rfl) (fun _ _ _ h => h) (Or.inl ⟨by rfl, ?y1_10⟩) (by assumption) ?r1_10
        case y1_10 => (intro w hSw; (try dsimp only at hSw); go_simp; try with_reducible rfl)
        (try simp only [Act.put, List.getElem_toArray, List.getElem_cons_zero, List.getElem_cons_succ, List.setIfInBounds_toArray, List.set_cons_zero, List.set_cons_succ])
        refine wpAnyH_take (i := 10) (v := ?v1_11) rfl (by kernel_rfl) (by kernel_rfl) (by kernel_rfl) (fun _ _ _ h => h) (Or.inl ⟨by rfl, ?y1_11⟩) (by assumption) ?r1_11
        case y1_11 => (intro w hSw; (try dsimp only at hSw); go_simp; try with_reducible rfl)
        (try simp only [Act.put, List.getElem_toArray, List.getElem_cons_zero, List.getElem_cons_succ, List.setIfInBounds_toArray, List.set_cons_zero, List.set_cons_succ])
        refine wpAnyH_take (i := 11) (v := ?v1_12) rfl (by kernel_rfl) (by kernel_rfl) (by kernel_rfl) (fun _ _ _ h => h) (Or.inl ⟨by rfl, ?y1_12⟩) (by assumption) ?r1_12
        case y1_12 => (intro w hSw; (try dsimp only at hSw); go_simp; try with_reducible rfl)
        (try simp only [Act.put, List.getElem_toArray, List.getElem_cons_zero, List.getElem_cons_succ, List.setIfInBounds_toArray, List.set_cons_zero, List.set_cons_succ])
        refine wpAnyH_take (i := 12) (v := ?v1_13) rfl (by kernel_rfl) (by kernel_rfl) (by kernel_rfl) (fun _ _ _ h => h) (Or.inl ⟨by rfl, ?y1_13⟩) (by assumption) ?r1_13
        case y1_13 => (intro w hSw; (try dsimp only at hSw); go_simp; try with_reducible rfl)
        (try simp only [Act.put, List.getElem_toArray, List.getElem_cons_zero, List.getElem_cons_succ, List.setIfInBounds_toArray, List.set_cons_zero, List.set_cons_succ])
        refine wpAnyH_take (i := 14) (v := ?v1_14) rfl (by kernel_rfl) (by kernel_rfl) (by kernel_rfl) (fun _ _ _ h => h) (Or.inl ⟨by rfl, ?y1_14⟩) (by assumption) ?r1_14
        case y1_14 => (intro w hSw; (try dsimp only at hSw); go_simp; try with_reducible rfl)
        (try simp only [Act.put, List.getElem_toArray, List.getElem_cons_zero, List.getElem_cons_succ, List.setIfInBounds_toArray, List.set_cons_zero, List.set_cons_succ])
        refine wpAnyH_take (i := 15) (v := ?v1_15) rfl (by kernel_rfl) (by kernel_rfl) (by kernel_rfl) (fun _ _ _ h => h) (Or.inl ⟨by rfl, ?y1_15⟩) (by assumption) ?r1_15
        case y1_15 => (intro w hSw; (try dsimp only at hSw); go_simp; try with_reducible rfl)
        (try simp only [Act.put, List.getElem_toArray, List.getElem_cons_zero, List.getElem_cons_succ, List.setIfInBounds_toArray, List.set_cons_zero, List.set_cons_succ])
        refine wpAnyH_take (i := 16) (v := ?v1_16) rfl (by kernel_rfl) (by kernel_rfl) (by kernel_rfl) (fun _ _ _ h => h) (Or.inl ⟨by rfl, ?y1_16⟩) (by assumption) ?r1_16
        case y1_16 => (intro w hSw; (try dsimp only at hSw); go_simp; try with_reducible rfl)
        (try simp only [Act.put, List.getElem_toArray, List.getElem_cons_zero, List.getElem_cons_succ, List.setIfInBounds_toArray, List.set_cons_zero, List.set_cons_succ])
        refine wpAnyH_take (i := 17) (v := ?v1_17) rfl (by kernel_rfl) (by kernel_rfl) (by kernel_rfl) (fun _ _ _ h => h) (Or.inl ⟨by rfl, ?y1_17⟩) (by assumption) ?r1_17
        case y1_17 => (intro w hSw; (try dsimp only at hSw); go_simp; try with_reducible rfl)
        (try simp only [Act.put, List.getElem_toArray, List.getElem_cons_zero, List.getElem_cons_succ, List.setIfInBounds_toArray, List.set_cons_zero, List.set_cons_succ])
        refine wpAnyH_ready (rs := [13]) (by kernel_rfl) (by simp) ?_
        refine AllReadyH.cons rfl (fun K hK => ?_) AllReadyH.nil
        go_simp
        refine C2.out.mono ?_
        rintro e w' ⟨rfl, rfl⟩
        go_wp2_with fail
        refine hK.out _ _ ?s1_18 (fun hHeld => ?_)
        case s1_18 => ((try dsimp only); first | exact ⟨c16, c17, c00, hst0⟩)
        clear hK K
        (try simp only [Act.put, List.getElem_toArray, List.getElem_cons_zero, List.getElem_cons_succ, List.setIfInBounds_toArray, List.set_cons_zero, List.set_cons_succ])
        refine wpAnyH_take (i := 18) (v := ?v1_19) rfl (by kernel_rfl) (by kernel_rfl) (by kernel_rfl) (fun _ _ _ h => h) (Or.inl ⟨by rfl, ?y1_19⟩) (by assumption) ?r1_19
        case y1_19 => (intro w hSw; (try dsimp only at hSw); go_simp; try with_reducible rfl)
        (try simp only [Act.put, List.getElem_toArray, List.getElem_cons_zero, List.getElem_cons_succ, List.setIfInBounds_toArray, List.set_cons_zero, List.set_cons_succ])
        refine wpAnyH_take (i := 19) (v := ?v1_20) rfl (by kernel_rfl) (by kernel_rfl) (by kernel_rfl) (fun _ _ _ h => h) (Or.inl ⟨by rfl, ?y1_20⟩) (by assumption) ?r1_20
        case y1_20 => (intro w hSw; (try dsimp only at hSw); go_simp; try with_reducible rfl)
        (try simp only [Act.put, List.getElem_toArray, List.getElem_cons_zero, List.getElem_cons_succ, List.setIfInBounds_toArray, List.set_cons_zero, List.set_cons_succ])
        refine wpAnyH_take (i := 20) (v := ?v1_21) rfl (by kernel_rfl) (by kernel_rfl) (by kernel_rfl) (fun _ _ _ h => h) (Or.inl ⟨by rfl, ?y1_21⟩) (by assumption) ?r1_21
        case y1_21 => (intro w hSw; (try dsimp only at hSw); go_simp; try with_reducible rfl)
        (try simp only [Act.put, List.getElem_toArray, List.getElem_cons_zero, List.getElem_cons_succ, List.setIfInBounds_toArray, List.set_cons_zero, List.set_cons_succ])
        refine wpAnyH_take (i := 21) (v := ?v1_22) rfl (by kernel_rfl) (by kernel_rfl) (by kernel_rfl) (fun _ _ _ h => h) (Or.inl ⟨by rfl, ?y1_22⟩) (by assumption) ?r1_22
        case y1_22 => (intro w hSw; (try dsimp only at hSw); go_simp; try with_reducible rfl)
        (try simp only [Act.put, List.getElem_toArray, List.getElem_cons_zero, List.getElem_cons_succ, List.setIfInBounds_toArray, List.set_cons_zero, List.set_cons_succ])
        refine wpAnyH_take (i := 24) (v := ?v1_23) rfl (by kernel_rfl) (by kernel_rfl) (by kernel_rfl) (fun _ _ _ h => h) (Or.inl ⟨by rfl, ?y1_23⟩) (by assumption) ?r1_23
        case y1_23 => (intro w hSw; (try dsimp only at hSw); go_simp; try with_reducible rfl)
        (try simp only [Act.put, List.getElem_toArray, List.getElem_cons_zero, List.getElem_cons_succ, List.setIfInBounds_toArray, List.set_cons_zero, List.set_cons_succ])
        refine wpAnyH_take (i := 25) (v := ?v1_24) rfl (by kernel_rfl) (by kernel_rfl) (by kernel_rfl) (fun _ _ _ h => h) (Or.inl ⟨by rfl, ?y1_24⟩) (by assumption) ?r1_24
        case y1_24 => (intro w hSw; (try dsimp only at hSw); go_simp; try with_reducible rfl)
        (try simp only [Act.put, List.getElem_toArray, List.getElem_cons_zero, List.getElem_cons_succ, List.setIfInBounds_toArray, List.set_cons_zero, List.set_cons_succ])
        refine wpAnyH_take (i := 26) (v := ?v1_25) rfl (by kernel_rfl) (by kernel_rfl) (by kernel_rfl) (fun _ _ _ h => h) (Or.inl ⟨by rfl, ?y1_25⟩) (by assumption) ?r1_25
        case y1_25 => (intro w hSw; (try dsimp only at hSw); go_simp; try with_reducible rfl)
        (try simp only [Act.put, List.getElem_toArray, List.getElem_cons_zero, List.getElem_cons_succ, List.setIfInBounds_toArray, List.set_cons_zero, List.set_cons_succ])
        refine wpAnyH_take (i := 27) (v := ?v1_26) rfl (by kernel_rfl) (by kernel_rfl) (by kernel_rfl) (fun _ _ _ h => h) (Or.inl ⟨by rfl, ?y1_26⟩) (by assumption) ?r1_26
        case y1_26 => (intro w hSw; (try dsimp only at hSw); go_simp; try with_reducible rfl)
        (try simp only [Act.put, List.getElem_toArray, List.getElem_cons_zero, List.getElem_cons_succ, List.setIfInBounds_toArray, List.set_cons_zero, List.set_cons_succ])
        refine wpAnyH_take (i := 28) (v := ?v1_27) rfl (by kernel_rfl) (by kernel_rfl) (by kernel_rfl) (fun _ _ _ h => h) (Or.inl ⟨by rfl, ?y1_27⟩) (by assumption) ?r1_27
        case y1_27 => (intro w hSw; (try dsimp only at hSw); go_simp; try with_reducible rfl)
        (try simp only [Act.put, List.getElem_toArray, List.getElem_cons_zero, List.getElem_cons_succ, List.setIfInBounds_toArray, List.set_cons_zero, List.set_cons_succ])
        refine wpAnyH_ready (rs := [22]) (by kernel_rfl) (by simp) ?_
        refine AllReadyH.cons rfl (fun K hK => ?_) AllReadyH.nil
        go_simp
        refine C3.out.mono ?_
        rintro e w5 ⟨v, rfl, hv, hk5⟩
        have hst1 : (convert 22 9 v).run Try.prog w5 = .ok (.string ⟨F'.b.toArray⟩) w5 := (by obtain ⟨a1, k1, rfl, _, hrd1, _, _, hn1⟩ := hv.rd; exact str_run F'.b.length k1 hrd1 rfl hn1)
        have hZ5 := HZ.out.keeps hk5 (by simp) (by simp)
        have e16 := hZ5.down
        have e17 := hZ5.steps
        have e00 := hZ5.c0
        have hst2 := str_run (w := w5) (a := some ⟨q2, 0, none⟩) 3584 3584 (l := F'.b) (by have := hZ5.rd 0 3584; rwa [List.drop_zero, List.take_of_length_le (by rw [hZ5.len]; omega)] at this) hZ5.len (by simp)
        clear hZ5
        go_wp2_with fail
        refine hK.out _ _ ?s1_28 (fun hHeld => ?_)
        case s1_28 => ((try dsimp only); first | exact ⟨e16, e17, e00, hst2⟩)
        clear hK K
        (try simp only [Act.put, List.getElem_toArray, List.getElem_cons_zero, List.getElem_cons_succ, List.setIfInBounds_toArray, List.set_cons_zero, List.set_cons_succ])
        refine wpAnyH_ready (rs := [23]) (by kernel_rfl) (by simp) ?_
        refine AllReadyH.cons rfl (fun K hK => ?_) AllReadyH.nil
        go_simp
        refine hK.out _ _ ?s1_29 (fun hHeld => ?_)
        case s1_29 => ((try dsimp only); first | exact ⟨e16, e17, e00, hst2⟩)
        clear hK K
        (try simp only [Act.put, List.getElem_toArray, List.getElem_cons_zero, List.getElem_cons_succ, List.setIfInBounds_toArray, List.set_cons_zero, List.set_cons_succ])
        refine wpAnyH_take (i := 29) (v := ?v1_30) rfl (by kernel_rfl) (by kernel_rfl) (by kernel_rfl) (fun _ _ _ h => h) (Or.inl ⟨by rfl, ?y1_30⟩) (by assumption) ?r1_30
        case y1_30 => (intro w hSw; (try dsimp only at hSw); go_simp; try with_reducible rfl)
        (try simp only [Act.put, List.getElem_toArray, List.getElem_cons_zero, List.getElem_cons_succ, List.setIfInBounds_toArray, List.set_cons_zero, List.set_cons_succ])
        refine wpAnyH_take (i := 30) (v := ?v1_31) rfl (by kernel_rfl) (by kernel_rfl) (by kernel_rfl) (fun _ _ _ h => h) (Or.inl ⟨by rfl, ?y1_31⟩) (by assumption) ?r1_31
        case y1_31 => (intro w hSw; (try dsimp only at hSw); go_simp; try with_reducible rfl)
        (try simp only [Act.put, List.getElem_toArray, List.getElem_cons_zero, List.getElem_cons_succ, List.setIfInBounds_toArray, List.set_cons_zero, List.set_cons_succ])
        refine wpAnyH_done (by kernel_rfl) ?_ _
        refine NoPanic.normal ?_
        go_wp2_with fail
        go_roundw
        case rel => exact ⟨k + 1, F', by omega, by go_num, HF.out.drew.keeps hk5 (by simp) (by simp), HR.out.keeps ((Keeps.refl [] wc).drew.trans hk5) (by simp) (by simp), HK.out.drew.trans hk5.nil⟩
        case measure => simp [intOf]; omega
    · have hkl : k = l.length := by omega
      subst hkl
      go_wp2_with fail
      go_loopw [14] (fun v wx => ∃ s : Int, -1 ≤ s ∧ s ≤ 15 ∧ v = .int .i64 s ∧ wr = wx) (fun v _ => (16 - intOf v).toNat)
      case atStart => exact ⟨-1, by omega, by omega, rfl, rfl⟩
      case round =>
        obtain ⟨s, hs1, hs2, rfl, rfl⟩ := hrel
        by_cases h14 : s ≤ 14
        · by_cases hin : 0 ≤ s ∧ s < 14
          · obtain ⟨n, rfl⟩ : ∃ n : Nat, s = n := ⟨s.toNat, by omega⟩
            have hn14 : n < 14 := by omega
            have he : F.erases n = F.er.getD n 0 := by unfold Fla.erases; rw [if_neg (by omega)]; rfl
            have ce : wr.cell? ⟨p2, 2 + n, none⟩ = some (.int .i64 (F.er.getD n 0)) := by obtain ⟨z, _, h⟩ := hR; exact h.erC hn14
            have Hc := Lib.hid (erases_calls hF n)
            have HK := Lib.hid hK
            have HF := Lib.hid hF
            have HR := Lib.hid hR
            clear hF hR hK hin
            generalize F.er.getD n 0 = y at *
            go_wp2_with fail
            refine Hc.out.mono ?_
            rintro e w' ⟨rfl, rfl⟩
            rw [he]
            clear he
            go_wp2_with fail
            go_roundw
            case rel => exact ⟨(n : Int) + 1, by omega, by omega, by go_num, trivial⟩
            case measure => simp [intOf]; omega
          · have he : F.erases s = 0 := by unfold Fla.erases; rw [if_pos (by omega)]
            have Hc := Lib.hid (erases_calls hF s)
            have HK := Lib.hid hK
            have HF := Lib.hid hF
            have HR := Lib.hid hR
            clear hF hR hK
            by_cases h0 : 0 ≤ s
            · have h14' : ¬ s < 14 := by omega
              clear hin
              go_wp2_with fail
              refine Hc.out.mono ?_
              rintro e w' ⟨rfl, rfl⟩
              rw [he]
              clear he
              go_wp2_with fail
              go_roundw
              case rel => exact ⟨s + 1, by omega, by omega, by go_num, trivial⟩
              case measure => simp [intOf]; omega
            · clear hin
              go_wp2_with fail
              refine Hc.out.mono ?_
              rintro e w' ⟨rfl, rfl⟩
              rw [he]
              clear he
              go_wp2_with fail
              go_roundw
              case rel => exact ⟨s + 1, by omega, by omega, by go_num, trivial⟩
              case measure => simp [intOf]; omega
        · have HK := Lib.hid hK
          clear hF hR hK
          go_wp2_with fail
          refine awake16.mono ?_
          rintro e wa ⟨rfl, hKa⟩
          go_wp2_with fail
          go_ret
          have hn := Hn.out
          exact ⟨rfl, (HK.out.trans hKa.nil).mono (by simp; exact ⟨hn.2.2.2.2.1, hn.2.2.2.2.2.1, hn.2.2.2.2.2.2.1, hn.2.2.2.2.2.2.2⟩)⟩

end Go.Proofs.Ythjojkkjdaoocaa
