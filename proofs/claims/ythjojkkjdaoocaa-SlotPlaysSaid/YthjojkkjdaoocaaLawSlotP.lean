/-
  LawSlotP: the walk of SlotPlays.
-/
import Derived.Test.YthjojkkjdaoocaaRows20
import Derived.Test.YthjojkkjdaoocaaSlotNil
import Derived.Deep.DeepCutAuto
import Derived.Deep.CutBlock
import Derived.Deep.RegionHeld3
import Derived.Deep.RegionWith
import Derived.Deep.DrawnRows
set_option linter.unusedVariables false
set_option linter.unusedSimpArgs false
namespace Go.Proofs.Ythjojkkjdaoocaa
open Go.RowKit
attribute [local go_sem ↓] Go.wp_at_zero Go.wp_at_succ

theorem Keeps.cellAt {S : List Nat} {w w' : World} {a : Addr} {v : Value} (k : Keeps S w w') (h : w.cell? a = some v) (ha : a.block ∉ S) : w'.cell? a = some v :=
  (World.cell?_of_block (a := a) (k.block a.block (World.block_lt_of_cell? w _ h) ha)).trans h

set_option maxRecDepth 100000 in
set_option maxHeartbeats 10000000 in
theorem slotPlays_walk {w : World} (wear : Int) (hwear : (Lit.int .i64 wear).wf = true) (ver : Int) (hver : (Lit.int .u32 ver).wf = true) (A : Option Addr) (c : Nat) (l : List C20) (hm : l.length ≤ maxLen) (hl : Calls20 w A l) :
    Calls Try.prog 19 #[.int .i64 wear, .int .u32 ver, .slice A l.length c] w (TrueKeep w) := by
  unfold maxLen at hm
  go_enter Try.func19, Try.ntmps19
  go_wp2_with fail
  refine (new_calls wear).mono ?_
  rintro e w2 ⟨p, q, rfl, hp, hq, hF, hK2⟩
  go_wp2_with fail
  refine (rnew_calls wear).mono ?_
  rintro e w3 ⟨p2, q2, rfl, hp2, hq2, hR, hK3⟩
  have hF3 := hF.keeps hK3 (by simp) (by simp)
  have hpp := hF.ltp
  have hqq := hF.ltq
  have hs2 := hK2.size
  have hK13 := hK2.trans hK3
  have hn : p ≠ p2 ∧ p ≠ q2 ∧ q ≠ p2 ∧ q ≠ q2 ∧ w.heap.size ≤ p ∧ w.heap.size ≤ q ∧ w.heap.size ≤ p2 ∧ w.heap.size ≤ q2 := by refine ⟨?_, ?_, ?_, ?_, ?_, ?_, ?_, ?_⟩ <;> omega
  have Hn := Lib.hid hn
  clear hF hn hpp hqq hs2 hp hq hp2 hq2 hK2 hK3 hver
  go_wp2_with fail
  go_loopw [30] (fun i wr => ∃ (k : Nat) (F : Fla), k ≤ l.length ∧ i = .int .i64 k ∧ FlaAt wr p q F ∧ RfAt wr p2 q2 F ∧ Keeps [p, q, p2, q2] w wr) (fun i _ => l.length - (intOf i).toNat)
  case atStart => exact ⟨0, _, Nat.zero_le _, rfl, hF3, hR, hK13.nil⟩
  case round =>
    clear hF3 hR hK13
    obtain ⟨k, F, hk, rfl, hF, hR, hK⟩ := hrel
    by_cases hlt : k < l.length
    · have hrdw := (hl k l[k] (by simp [hlt])).1.s.rd
      obtain ⟨hok, b, o, rfl, hc⟩ := (hl.below (hK.below (B := w.heap.size) (Nat.le_refl _) (by simp; exact ⟨Hn.out.2.2.2.2.1, Hn.out.2.2.2.2.2.1, Hn.out.2.2.2.2.2.2.1, Hn.out.2.2.2.2.2.2.2⟩)) (fun c h => h.below (hK.below (Nat.le_refl _) (by simp; exact ⟨Hn.out.2.2.2.2.1, Hn.out.2.2.2.2.2.1, Hn.out.2.2.2.2.2.2.1, Hn.out.2.2.2.2.2.2.2⟩)))) k l[k] (by simp [hlt])
      generalize l[k] = x at *
      obtain ⟨xd, xs, xn, xt, ⟨xA, xcap, xb⟩⟩ := x
      dsimp only at *
      have c0 : wr.cell? ⟨b, o + k * 5, none⟩ = some (.int .i64 xd) := hc 0 _ rfl
      have c1 := hc 1 _ rfl
      have c2 := hc 2 _ rfl
      have c3 := hc 3 _ rfl
      have c4 := hc 4 _ rfl
      unfold BS.val at c4
      clear hc
      have hsok := hok.s
      have hxle : xb.length ≤ xcap := hsok.le
      have hxmax : xcap ≤ maxLen := hsok.max
      have hxnil : xA = none → xb = [] := hsok.nil
      have hxnil0 : xA = none → xcap = 0 := hsok.nil0
      unfold maxLen at hxmax
      clear hsok hok
      have hrd0 : Rd w xA xb := hrdw
      have hab : ∀ y, xA = some y → xb ≠ [] → y.block ∉ [p, q, p2, q2] := by
        intro y hy hne
        have h1 := hrd0.lt y hy hne
        have h2 := Hn.out
        simp only [List.mem_cons, List.not_mem_nil, or_false]
        omega
      have hp1 := hF.ltp
      have hq1 := hF.ltq
      have hp2 : p2 < wr.heap.size ∧ q2 < wr.heap.size := by obtain ⟨z, _, h⟩ := hR; exact ⟨h.ltp, h.ltq⟩
      have hB0 : Blk (wr.alloc (.cells #[.int .i64 xd, .int .i64 xs, .int .i64 xn, .int .i64 xt, .slice xA xb.length xcap] 77)) wr.heap.size 77 [.int .i64 xd, .int .i64 xs, .int .i64 xn, .int .i64 xt, .slice xA xb.length xcap] := Blk.newA wr _ _
      have hF1 := hF.alloc (.cells #[.int .i64 xd, .int .i64 xs, .int .i64 xn, .int .i64 xt, .slice xA xb.length xcap] 77)
      have hR1 := hR.keeps ((Keeps.refl [] wr).alloc (.cells #[.int .i64 xd, .int .i64 xs, .int .i64 xn, .int .i64 xt, .slice xA xb.length xcap] 77)) (by simp) (by simp)
      have hK1 := hK.alloc (.cells #[.int .i64 xd, .int .i64 xs, .int .i64 xn, .int .i64 xt, .slice xA xb.length xcap] 77)
      have hmn : wr.heap.size ∉ [p, q, p2, q2] := by simp only [List.mem_cons, List.not_mem_nil, or_false]; omega
      have m0 := hB0.cell' (i := 0) rfl
      have m4 := hB0.cell' (i := 4) rfl
      clear hF hR hK hp1 hq1 hp2
      have HF := Lib.hid hF1
      have HR := Lib.hid hR1
      have HK := Lib.hid hK1
      have HB := Lib.hid hB0
      have Hrd0 := Lib.hid hrd0
      have Hab := Lib.hid hab
      clear hF1 hR1 hK1 hB0 hrd0 hab hrdw
      have hpq := Hn.out
      by_cases h30 : 30 ≤ k
      · have h30' : (30 : Int) ≤ (k : Int) := by omega
        clear h30 hpq
        go_wp2_with fail
        refine awake20.mono ?_
        rintro e wa ⟨rfl, hKa⟩
        go_wp2_with fail
        go_ret
        have hn := Hn.out
        exact ⟨rfl, (HK.out.trans hKa.nil).mono (by simp; exact ⟨hn.2.2.2.2.1, hn.2.2.2.2.2.1, hn.2.2.2.2.2.2.1, hn.2.2.2.2.2.2.2⟩)⟩
      have h30' : ¬ (30 : Int) ≤ (k : Int) := by omega
      by_cases h600 : 600 < xb.length
      · have h600' : (600 : Int) < (xb.length : Int) := by omega
        clear h30 hpq h600
        go_wp2_with fail
        refine awake20.mono ?_
        rintro e wa ⟨rfl, hKa⟩
        go_wp2_with fail
        go_ret
        have hn := Hn.out
        exact ⟨rfl, (HK.out.trans hKa.nil).mono (by simp; exact ⟨hn.2.2.2.2.1, hn.2.2.2.2.2.1, hn.2.2.2.2.2.2.1, hn.2.2.2.2.2.2.2⟩)⟩
      have h600' : ¬ (600 : Int) < (xb.length : Int) := by omega
      clear h30 h600
      have Hxn := Lib.hid (show xA = none → xb = [] ∧ xcap = 0 from fun h => ⟨hxnil h, hxnil0 h⟩)
      have Hmn := Lib.hid hmn
      clear hxnil hxnil0 hpq hmn
      go_wp2_with fail
      have hmn := Hmn.out
      have hn := Hn.out
      have hwm := HK.out.size
      have hlt1 := HB.out.lt
      have hOf := fun (w1 : World) (k : Keeps [p, q, p2, q2] w w1) => slotof_img (w := w1) ver xA xcap xb (Hrd0.out.keeps k Hab.out) Hxn.out
      have hOr := fun (w1 : World) (k : Keeps [p, q, p2, q2] w w1) => rslotof_img (w := w1) ver xA xcap xb (Hrd0.out.keeps k Hab.out) Hxn.out
      have hil := imgIs_len ver xb
      generalize imgIs ver xb = R at *
      obtain ⟨rv, rl, rh, ro⟩ := R
      unfold ImgPost at hOf hOr
      dsimp only at hOf hOr hil
      have HOf := Lib.hid hOf
      have HOr := Lib.hid hOr
      clear hOf hOr hl c0 c1 c2 c3 c4
      generalize wr.alloc (.cells #[.int .i64 xd, .int .i64 xs, .int .i64 xn, .int .i64 xt, .slice xA xb.length xcap] 77) = w1 at *
      generalize wr.heap.size = m at *
      refine (HOf.out _ HK.out).mono ?_
      rintro e w5 ⟨a5, n5, c5, rfl, hrd5, hl5, hn5, hb5, hk5⟩
      have HB5 := Lib.hid (HB.out.keeps hk5 (by simp))
      have HK5 := Lib.hid (HK.out.trans hk5.nil)
      have HF5 := Lib.hid (HF.out.keeps hk5 (by simp) (by simp))
      have HR5 := Lib.hid (HR.out.keeps hk5 (by simp) (by simp))
      have hs5 := hk5.size
      have Hb5 := Lib.hid hb5
      have Hrd5 := Lib.hid hrd5
      have Hn5 := Lib.hid hn5
      clear hk5 HB HK HF HR hb5 hrd5 hn5
      go_upto_region 8 with (fail)
      have hM := Blk.newA w5 68 #[.int .u32 rv, .int .i64 rl, .slice a5 n5 c5]
      have hKM := (Keeps.refl [] w5).alloc (.cells #[.int .u32 rv, .int .i64 rl, .slice a5 n5 c5] 68)
      generalize w5.alloc (.cells #[.int .u32 rv, .int .i64 rl, .slice a5 n5 c5] 68) = w6 at *
      have HB6 := Lib.hid (HB5.out.keeps hKM (by simp))
      have HK6 := Lib.hid (HK5.out.trans hKM.nil)
      have HF6 := Lib.hid (HF5.out.keeps hKM (by simp) (by simp))
      have HR6 := Lib.hid (HR5.out.keeps hKM (by simp) (by simp))
      have Hrd6 := Lib.hid (Hrd5.out.keepsNil hKM)
      have hm4 : w6.cell? ⟨m, 4, none⟩ = some (.slice xA xb.length xcap) := HB6.out.cell' (i := 4) rfl
      have hlM := hM.lt
      have HM := Lib.hid hM
      generalize w5.heap.size = M1 at *
      clear hM hKM HB5 HK5 HF5 HR5 Hrd5 m0 m4
      go_wp2_with fail
      refine (HOr.out _ HK6.out).mono ?_
      rintro e w7 ⟨a7, n7, c7, rfl, hrd7, hl7, hn7, hb7, hk7⟩
      have hs7 := hk7.size
      have HB7 := Lib.hid (HB6.out.keeps hk7 (by simp))
      have HK7 := Lib.hid (HK6.out.trans hk7.nil)
      have HF7 := Lib.hid (HF6.out.keeps hk7 (by simp) (by simp))
      have HR7 := Lib.hid (HR6.out.keeps hk7 (by simp) (by simp))
      have Hrd57 := Lib.hid (Hrd6.out.keepsNil hk7)
      have HM7 := Lib.hid (HM.out.keeps hk7 (by simp))
      have Hb7 := Lib.hid hb7
      have Hrd7 := Lib.hid hrd7
      have Hn7 := Lib.hid hn7
      clear hk7 HB6 HK6 HF6 HR6 Hrd6 HM hb7 hrd7 hn7 hm4
      go_upto_region 9 with (fail)
      have hT := Blk.newA w7 68 #[.int .u32 rv, .int .i64 rl, .slice a7 n7 c7]
      have hKT := (Keeps.refl [] w7).alloc (.cells #[.int .u32 rv, .int .i64 rl, .slice a7 n7 c7] 68)
      generalize w7.alloc (.cells #[.int .u32 rv, .int .i64 rl, .slice a7 n7 c7] 68) = w8 at *
      have HB8 := Lib.hid (HB7.out.keeps hKT (by simp))
      have HK8 := Lib.hid (HK7.out.trans hKT.nil)
      have HF8 := Lib.hid (HF7.out.keeps hKT (by simp) (by simp))
      have HR8 := Lib.hid (HR7.out.keeps hKT (by simp) (by simp))
      have Hrd58 := Lib.hid (Hrd57.out.keepsNil hKT)
      have Hrd78 := Lib.hid (Hrd7.out.keepsNil hKT)
      have HM8 := Lib.hid (HM7.out.keeps hKT (by simp))
      have HT := Lib.hid hT
      have hlT := hT.lt
      have hst5 := str_run (w := w8) (a := a5) n5 c5 Hrd58.out hl5 Hn5.out
      have hst7 := str_run (w := w8) (a := a7) n7 c7 Hrd78.out hl7 Hn7.out
      have s0 := HM8.out.cell' (i := 0) rfl
      have s1 := HM8.out.cell' (i := 1) rfl
      have s2 := HM8.out.cell' (i := 2) rfl
      have t0 := hT.cell' (i := 0) rfl
      have t1 := hT.cell' (i := 1) rfl
      have t2 := hT.cell' (i := 2) rfl
      have m0 : w8.cell? ⟨m, 0, none⟩ = some (.int .i64 xd) := HB8.out.cell' (i := 0) rfl
      generalize w7.heap.size = M2 at *
      clear hT hKT HB7 HK7 HF7 HR7 Hrd7 Hrd57 HM7
      go_upto_block 2 with (fail)
      have Hlt := Lib.hid hlt
      clear hst5 hst7 s0 s1 s2 t0 t1 t2 m0 hlt h30' h600'
      go_cut [15] (fun s15 wx => s15 = .bool true ∧ ∃ F', FlaAt wx p q F' ∧ RfAt wx p2 q2 F' ∧ Keeps [p, q, p2, q2] w wx)
      case first =>
        have hmn := Hmn.out
        have hS1 : ∀ y, y ∈ [p, q] → y ∈ [p, q, p2, q2] := by intro y hy; simp at hy ⊢; omega
        have hS2 : ∀ y, y ∈ [p2, q2] → y ∈ [p, q, p2, q2] := by intro y hy; simp at hy ⊢; omega
        have hmp : m ∉ [p, q] := by simp at hmn ⊢; omega
        have hmr : m ∉ [p2, q2] := by simp at hmn ⊢; omega
        have hpq : p ∉ [p2, q2] ∧ q ∉ [p2, q2] ∧ p2 ∉ [p, q] ∧ q2 ∉ [p, q] := by
          have h2 := Hn.out
          simp only [List.mem_cons, List.not_mem_nil, or_false]
          omega
        have hrd1 : Rd w8 xA xb := Hrd0.out.keeps HK8.out Hab.out
        have l1 : w8.cell? ⟨m, 1, none⟩ = some (.int .i64 xs) := HB8.out.cell' (i := 1) rfl
        have l2 : w8.cell? ⟨m, 2, none⟩ = some (.int .i64 xn) := HB8.out.cell' (i := 2) rfl
        have l3 : w8.cell? ⟨m, 3, none⟩ = some (.int .i64 xt) := HB8.out.cell' (i := 3) rfl
        have l4 : w8.cell? ⟨m, 4, none⟩ = some (.slice xA xb.length xcap) := HB8.out.cell' (i := 4) rfl
        have m1' : w8.drew.cell? ⟨m, 1, none⟩ = some (.int .i64 xs) := HB8.out.cell' (i := 1) rfl
        have m4' : w8.drew.cell? ⟨m, 4, none⟩ = some (.slice xA xb.length xcap) := HB8.out.cell' (i := 4) rfl
        have habp : ∀ y, xA = some y → xb ≠ [] → y.block ∉ [p, q] := fun y h1 h2 => by have := Hab.out y h1 h2; simp at this ⊢; omega
        have habr : ∀ y, xA = some y → xb ≠ [] → y.block ∉ [p2, q2] := fun y h1 h2 => by have := Hab.out y h1 h2; simp at this ⊢; omega
        have Hrd := Lib.hid hrd1
        have Hpq := Lib.hid hpq
        have HS1 := Lib.hid hS1
        have HS2 := Lib.hid hS2
        have Hap := Lib.hid habp
        have Har := Lib.hid habr
        clear hrd1 hpq hS1 hS2 habp habr hmn
        by_cases d0 : xd = 0
        · subst d0
          have c1' := slotwrite_calls HF8.out.drew xs xA xcap xb (Hrd.out.keepsNil ((Keeps.refl [] w8).drew)) Hap.out
          have c2' := fun (w2 : World) (h : RfAt w2 p2 q2 F) (h2 : Rd w2 xA xb) => rslotwrite_calls h xs xA xcap xb h2 Hxn.out Har.out
          generalize F.slotWrite xs xb = r at *
          obtain ⟨G, z⟩ := r
          dsimp only at c1' c2'
          have C1 := Lib.hid c1'
          have C2 := Lib.hid c2'
          clear c1' c2'
          go_wp2_with fail
          refine wp_region_noPanic ?_
          refine wp_region_held_drew (S := (fun w' => w'.cell? ⟨m, 1, none⟩ = some (.int .i64 xs) ∧ w'.cell? ⟨m, 4, none⟩ = some (.slice xA xb.length xcap))) (by kernel_rfl) ⟨m1', m4'⟩ (fun hHeld => ?_)
          refine wpAnyH_take (i := 0) (v := ?v1_1) rfl (by kernel_rfl) (by kernel_rfl) (by kernel_rfl) (fun _ _ _ h => h) (Or.inl ⟨by rfl, ?y1_1⟩) (by assumption) ?r1_1
          case y1_1 => (intro w hSw; (try dsimp only at hSw); go_simp; try with_reducible rfl)
          (try simp only [Act.put, List.getElem_toArray, List.getElem_cons_zero, List.getElem_cons_succ, List.setIfInBounds_toArray, List.set_cons_zero, List.set_cons_succ])
          refine wpAnyH_take (i := 1) (v := ?v1_2) rfl (by kernel_rfl) (by kernel_rfl) (by kernel_rfl) (fun _ _ _ h => h) (Or.inl ⟨by rfl, ?y1_2⟩) (by assumption) ?r1_2
          case y1_2 => (intro w hSw; (try dsimp only at hSw); go_simp; try with_reducible rfl)
          (try simp only [Act.put, List.getElem_toArray, List.getElem_cons_zero, List.getElem_cons_succ, List.setIfInBounds_toArray, List.set_cons_zero, List.set_cons_succ])
          refine wpAnyH_take (i := 2) (v := ?v1_3) rfl (by kernel_rfl) (by kernel_rfl) (by kernel_rfl) (fun _ _ _ h => h) (Or.inl ⟨by rfl, ?y1_3⟩) (by assumption) ?r1_3
          case y1_3 => (intro w hSw; (try dsimp only at hSw); go_simp; try with_reducible rfl)
          (try simp only [Act.put, List.getElem_toArray, List.getElem_cons_zero, List.getElem_cons_succ, List.setIfInBounds_toArray, List.set_cons_zero, List.set_cons_succ])
          refine wpAnyH_take (i := 3) (v := ?v1_4) rfl (by kernel_rfl) (by kernel_rfl) (by kernel_rfl) (fun _ _ _ h => h) (Or.inl ⟨by rfl, ?y1_4⟩) (by assumption) ?r1_4
          case y1_4 => (intro w hSw; (try dsimp only at hSw); go_simp; try with_reducible rfl)
          (try simp only [Act.put, List.getElem_toArray, List.getElem_cons_zero, List.getElem_cons_succ, List.setIfInBounds_toArray, List.set_cons_zero, List.set_cons_succ])
          refine wpAnyH_take (i := 4) (v := ?v1_5) rfl (by kernel_rfl) (by kernel_rfl) (by kernel_rfl) (fun _ _ _ h => h) (Or.inl ⟨by rfl, ?y1_5⟩) (by assumption) ?r1_5
          case y1_5 => (intro w hSw; (try dsimp only at hSw); go_simp; try with_reducible rfl)
          (try simp only [Act.put, List.getElem_toArray, List.getElem_cons_zero, List.getElem_cons_succ, List.setIfInBounds_toArray, List.set_cons_zero, List.set_cons_succ])
          refine wpAnyH_take (i := 5) (v := ?v1_6) rfl (by kernel_rfl) (by kernel_rfl) (by kernel_rfl) (fun _ _ _ h => h) (Or.inl ⟨by rfl, ?y1_6⟩) (by assumption) ?r1_6
          case y1_6 => (intro w hSw; (try dsimp only at hSw); go_simp; try with_reducible rfl)
          (try simp only [Act.put, List.getElem_toArray, List.getElem_cons_zero, List.getElem_cons_succ, List.setIfInBounds_toArray, List.set_cons_zero, List.set_cons_succ])
          refine wpAnyH_take (i := 6) (v := ?v1_7) rfl (by kernel_rfl) (by kernel_rfl) (by kernel_rfl) (fun _ _ _ h => h) (Or.inl ⟨by rfl, ?y1_7⟩) (by assumption) ?r1_7
          case y1_7 => (intro w hSw; (try dsimp only at hSw); go_simp; try with_reducible rfl)
          (try simp only [Act.put, List.getElem_toArray, List.getElem_cons_zero, List.getElem_cons_succ, List.setIfInBounds_toArray, List.set_cons_zero, List.set_cons_succ])
          refine wpAnyH_take (i := 8) (v := ?v1_8) rfl (by kernel_rfl) (by kernel_rfl) (by kernel_rfl) (fun _ _ _ h => h) (Or.inl ⟨by rfl, ?y1_8⟩) (by assumption) ?r1_8
          case y1_8 => (intro w hSw; (try dsimp only at hSw); go_simp; try with_reducible rfl)
          (try simp only [Act.put, List.getElem_toArray, List.getElem_cons_zero, List.getElem_cons_succ, List.setIfInBounds_toArray, List.set_cons_zero, List.set_cons_succ])
          refine wpAnyH_take (i := 9) (v := ?v1_9) rfl (by kernel_rfl) (by kernel_rfl) (by kernel_rfl) (fun _ _ _ h => h) (Or.inl ⟨by rfl, ?y1_9⟩) (by assumption) ?r1_9
          case y1_9 => (intro w hSw; (try dsimp only at hSw); go_simp; try with_reducible rfl)
          (try simp only [Act.put, List.getElem_toArray, List.getElem_cons_zero, List.getElem_cons_succ, List.setIfInBounds_toArray, List.set_cons_zero, List.set_cons_succ])
          refine wpAnyH_take (i := 10) (v := ?v1_10) rfl (by kernel_rfl) (by kernel_rfl) (by kernel_rfl) (fun _ _ _ h => h) (Or.inl ⟨by rfl, ?y1_10⟩) (by assumption) ?r1_10
          case y1_10 => (intro w hSw; (try dsimp only at hSw); go_simp; try with_reducible rfl)
          (try simp only [Act.put, List.getElem_toArray, List.getElem_cons_zero, List.getElem_cons_succ, List.setIfInBounds_toArray, List.set_cons_zero, List.set_cons_succ])
          refine wpAnyH_take (i := 11) (v := ?v1_11) rfl (by kernel_rfl) (by kernel_rfl) (by kernel_rfl) (fun _ _ _ h => h) (Or.inl ⟨by rfl, ?y1_11⟩) (by assumption) ?r1_11
          case y1_11 => (intro w hSw; (try dsimp only at hSw); go_simp; try with_reducible rfl)
          (try simp only [Act.put, List.getElem_toArray, List.getElem_cons_zero, List.getElem_cons_succ, List.setIfInBounds_toArray, List.set_cons_zero, List.set_cons_succ])
          refine wpAnyH_take (i := 12) (v := ?v1_12) rfl (by kernel_rfl) (by kernel_rfl) (by kernel_rfl) (fun _ _ _ h => h) (Or.inl ⟨by rfl, ?y1_12⟩) (by assumption) ?r1_12
          case y1_12 => (intro w hSw; (try dsimp only at hSw); go_simp; try with_reducible rfl)
          (try simp only [Act.put, List.getElem_toArray, List.getElem_cons_zero, List.getElem_cons_succ, List.setIfInBounds_toArray, List.set_cons_zero, List.set_cons_succ])
          refine wpAnyH_ready (rs := [7]) (by kernel_rfl) (by simp) ?_
          refine AllReadyH.cons rfl (fun K hK => ?_) AllReadyH.nil
          go_simp
          refine C1.out.mono ?_
          rintro e wa ⟨rfl, hFa, hKa⟩
          have n1 := hKa.cellAt m1' hmp
          have n4 := hKa.cellAt m4' hmp
          have hRa := HR8.out.keeps (Keeps.trans' (Keeps.refl [] w8).drew hKa (by simp) (fun _ h => .inl h)) Hpq.out.2.2.1 Hpq.out.2.2.2
          have hra := Hrd.out.keeps (Keeps.trans' (Keeps.refl [] w8).drew hKa (by simp) (fun _ h => .inl h)) Hap.out
          have HFa := Lib.hid hFa
          clear hFa
          go_wp2_with fail
          refine hK.out _ _ ?s1_13 (fun hHeld => ?_)
          case s1_13 => ((try dsimp only) <;> (first | exact ⟨n1, n4⟩))
          clear hK K
          (try simp only [Act.put, List.getElem_toArray, List.getElem_cons_zero, List.getElem_cons_succ, List.setIfInBounds_toArray, List.set_cons_zero, List.set_cons_succ])
          refine wpAnyH_ready (rs := [13]) (by kernel_rfl) (by simp) ?_
          refine AllReadyH.cons rfl (fun K hK => ?_) AllReadyH.nil
          go_simp
          refine (C2.out _ hRa hra).mono ?_
          rintro e wb ⟨rfl, hRb, hKb⟩
          have o1 := hKb.cellAt n1 hmr
          have o4 := hKb.cellAt n4 hmr
          have HRb := Lib.hid hRb
          clear hRb
          go_wp2_with fail
          refine hK.out _ _ ?s1_14 (fun hHeld => ?_)
          case s1_14 => ((try dsimp only) <;> (first | exact ⟨o1, o4⟩))
          clear hK K
          (try simp only [Act.put, List.getElem_toArray, List.getElem_cons_zero, List.getElem_cons_succ, List.setIfInBounds_toArray, List.set_cons_zero, List.set_cons_succ])
          refine wpAnyH_take (i := 14) (v := ?v1_15) rfl (by kernel_rfl) (by kernel_rfl) (by kernel_rfl) (fun _ _ _ h => h) (Or.inl ⟨by rfl, ?y1_15⟩) (by assumption) ?r1_15
          case y1_15 => (intro w hSw; (try dsimp only at hSw); go_simp; try with_reducible rfl)
          (try simp only [Act.put, List.getElem_toArray, List.getElem_cons_zero, List.getElem_cons_succ, List.setIfInBounds_toArray, List.set_cons_zero, List.set_cons_succ])
          refine wpAnyH_take (i := 15) (v := ?v1_16) rfl (by kernel_rfl) (by kernel_rfl) (by kernel_rfl) (fun _ _ _ h => h) (Or.inl ⟨by rfl, ?y1_16⟩) (by assumption) ?r1_16
          case y1_16 => (intro w hSw; (try dsimp only at hSw); go_simp; try with_reducible rfl)
          (try simp only [Act.put, List.getElem_toArray, List.getElem_cons_zero, List.getElem_cons_succ, List.setIfInBounds_toArray, List.set_cons_zero, List.set_cons_succ])
          refine wpAnyH_take (i := 16) (v := ?v1_17) rfl (by kernel_rfl) (by kernel_rfl) (by kernel_rfl) (fun _ _ _ h => h) (Or.inl ⟨by rfl, ?y1_17⟩) (by assumption) ?r1_17
          case y1_17 => (intro w hSw; (try dsimp only at hSw); go_simp; try with_reducible rfl)
          (try simp only [Act.put, List.getElem_toArray, List.getElem_cons_zero, List.getElem_cons_succ, List.setIfInBounds_toArray, List.set_cons_zero, List.set_cons_succ])
          refine wpAnyH_done (by kernel_rfl) ?_ _
          refine NoPanic.normal ?_
          have R1 := Lib.hid (HFa.out.keeps hKb Hpq.out.1 Hpq.out.2.1)
          have R3 := Lib.hid ((HK8.out.drew.trans (hKa.mono fun y h => .inl (HS1.out y h))).trans (hKb.mono fun y h => .inl (HS2.out y h)))
          clear hKa hKb hRa hra
          go_wp2_with fail
          go_meet
          case rel => exact ⟨by simp, G, R1.out, HRb.out, R3.out⟩
        by_cases d1 : xd = 1
        · subst d1
          have C1 := Lib.hid (slotread_calls HF8.out xs xn)
          have C2 := Lib.hid (fun (w2 : World) (h : RfAt w2 p2 q2 F) => rslotread_calls h xs xn)
          generalize F.slotRead xs xn = r at *
          go_wp2_with fail
          refine C1.out.mono ?_
          rintro e wa ⟨v1, rfl, hv1, hk1⟩
          have hRa := HR8.out.keeps hk1 (by simp) (by simp)
          have n1 := hk1.cell l1
          have n2 := hk1.cell l2
          clear C1
          have Hv1 := Lib.hid hv1
          obtain ⟨a1, k1, rfl, _⟩ := hv1.cap
          go_wp2_with fail
          refine (C2.out _ hRa).mono ?_
          rintro e wb ⟨v2, rfl, hv2, hk2⟩
          have hst1 := (Hv1.out.sl.keeps hk2 (by simp)).str
          have hst2 := hv2.sl.str
          obtain ⟨a2, k2, rfl, _⟩ := hv2.cap
          have R1 := Lib.hid ((HF8.out.keeps hk1 (by simp) (by simp)).keeps hk2 (by simp) (by simp))
          have R2 := Lib.hid (hRa.keeps hk2 (by simp) (by simp))
          have R3 := Lib.hid ((HK8.out.trans hk1.nil).trans hk2.nil)
          clear hk1 hk2 hRa C2 hv2
          go_wp2_with fail
          go_meet
          case rel => exact ⟨by simp, F, R1.out, R2.out, R3.out⟩
        by_cases d2 : xd = 2
        · subst d2
          have C1 := Lib.hid (slotright_calls HF8.out.drew xs rv rl a7 n7 c7 rh (Hrd78.out.keepsNil ((Keeps.refl [] w8).drew)) hl7)
          have C2 := Lib.hid (fun (w2 : World) (k : Keeps [] w8 w2) => rslotright_calls (HR8.out.keeps k (by simp) (by simp)) xs rv rl a7 n7 c7 rh (Hrd78.out.keepsNil k) hl7 Hn7.out)
          generalize F.slotRight xs rl rh = bo at *
          have hall : ∀ w', Keeps [] w8 w' → (w'.cell? ⟨m, 1, none⟩ = some (.int .i64 xs) ∧ w'.cell? ⟨M2, 0, none⟩ = some (.int .u32 rv) ∧ w'.cell? ⟨M2, 1, none⟩ = some (.int .i64 rl) ∧ w'.cell? ⟨M2, 2, none⟩ = some (.slice a7 n7 c7)) := fun w' k =>
            ⟨(HB8.out.keeps k (by simp)).cell' (i := 1) rfl, (HT.out.keeps k (by simp)).cell' (i := 0) rfl, (HT.out.keeps k (by simp)).cell' (i := 1) rfl, (HT.out.keeps k (by simp)).cell' (i := 2) rfl⟩
          have h0 := hall _ (Keeps.refl [] w8).drew
          have Hall := Lib.hid hall
          clear hall
          go_wp2_with fail
          refine wp_region_noPanic ?_
          refine wp_region_held_drew (S := (fun w' => w'.cell? ⟨m, 1, none⟩ = some (.int .i64 xs) ∧ w'.cell? ⟨M2, 0, none⟩ = some (.int .u32 rv) ∧ w'.cell? ⟨M2, 1, none⟩ = some (.int .i64 rl) ∧ w'.cell? ⟨M2, 2, none⟩ = some (.slice a7 n7 c7))) (by kernel_rfl) h0 (fun hHeld => ?_)
          refine wpAnyH_take (i := 0) (v := ?v2_18) rfl (by kernel_rfl) (by kernel_rfl) (by kernel_rfl) (fun _ _ _ h => h) (Or.inl ⟨by rfl, ?y2_18⟩) (by assumption) ?r2_18
          case y2_18 => (intro w hSw; (try dsimp only at hSw); go_simp; try with_reducible rfl)
          (try simp only [Act.put, List.getElem_toArray, List.getElem_cons_zero, List.getElem_cons_succ, List.setIfInBounds_toArray, List.set_cons_zero, List.set_cons_succ])
          refine wpAnyH_take (i := 1) (v := ?v2_19) rfl (by kernel_rfl) (by kernel_rfl) (by kernel_rfl) (fun _ _ _ h => h) (Or.inl ⟨by rfl, ?y2_19⟩) (by assumption) ?r2_19
          case y2_19 => (intro w hSw; (try dsimp only at hSw); go_simp; try with_reducible rfl)
          (try simp only [Act.put, List.getElem_toArray, List.getElem_cons_zero, List.getElem_cons_succ, List.setIfInBounds_toArray, List.set_cons_zero, List.set_cons_succ])
          refine wpAnyH_take (i := 2) (v := ?v2_20) rfl (by kernel_rfl) (by kernel_rfl) (by kernel_rfl) (fun _ _ _ h => h) (Or.inl ⟨by rfl, ?y2_20⟩) (by assumption) ?r2_20
          case y2_20 => (intro w hSw; (try dsimp only at hSw); go_simp; try with_reducible rfl)
          (try simp only [Act.put, List.getElem_toArray, List.getElem_cons_zero, List.getElem_cons_succ, List.setIfInBounds_toArray, List.set_cons_zero, List.set_cons_succ])
          refine wpAnyH_take (i := 3) (v := ?v2_21) rfl (by kernel_rfl) (by kernel_rfl) (by kernel_rfl) (fun _ _ _ h => h) (Or.inl ⟨by rfl, ?y2_21⟩) (by assumption) ?r2_21
          case y2_21 => (intro w hSw; (try dsimp only at hSw); go_simp; try with_reducible rfl)
          (try simp only [Act.put, List.getElem_toArray, List.getElem_cons_zero, List.getElem_cons_succ, List.setIfInBounds_toArray, List.set_cons_zero, List.set_cons_succ])
          refine wpAnyH_take (i := 4) (v := ?v2_22) rfl (by kernel_rfl) (by kernel_rfl) (by kernel_rfl) (fun _ _ _ h => h) (Or.inl ⟨by rfl, ?y2_22⟩) (by assumption) ?r2_22
          case y2_22 => (intro w hSw; (try dsimp only at hSw); go_simp; try with_reducible rfl)
          (try simp only [Act.put, List.getElem_toArray, List.getElem_cons_zero, List.getElem_cons_succ, List.setIfInBounds_toArray, List.set_cons_zero, List.set_cons_succ])
          refine wpAnyH_take (i := 5) (v := ?v2_23) rfl (by kernel_rfl) (by kernel_rfl) (by kernel_rfl) (fun _ _ _ h => h) (Or.inl ⟨by rfl, ?y2_23⟩) (by assumption) ?r2_23
          case y2_23 => (intro w hSw; (try dsimp only at hSw); go_simp; try with_reducible rfl)
          (try simp only [Act.put, List.getElem_toArray, List.getElem_cons_zero, List.getElem_cons_succ, List.setIfInBounds_toArray, List.set_cons_zero, List.set_cons_succ])
          refine wpAnyH_take (i := 7) (v := ?v2_24) rfl (by kernel_rfl) (by kernel_rfl) (by kernel_rfl) (fun _ _ _ h => h) (Or.inl ⟨by rfl, ?y2_24⟩) (by assumption) ?r2_24
          case y2_24 => (intro w hSw; (try dsimp only at hSw); go_simp; try with_reducible rfl)
          (try simp only [Act.put, List.getElem_toArray, List.getElem_cons_zero, List.getElem_cons_succ, List.setIfInBounds_toArray, List.set_cons_zero, List.set_cons_succ])
          refine wpAnyH_take (i := 8) (v := ?v2_25) rfl (by kernel_rfl) (by kernel_rfl) (by kernel_rfl) (fun _ _ _ h => h) (Or.inl ⟨by rfl, ?y2_25⟩) (by assumption) ?r2_25
          case y2_25 => (intro w hSw; (try dsimp only at hSw); go_simp; try with_reducible rfl)
          (try simp only [Act.put, List.getElem_toArray, List.getElem_cons_zero, List.getElem_cons_succ, List.setIfInBounds_toArray, List.set_cons_zero, List.set_cons_succ])
          refine wpAnyH_take (i := 9) (v := ?v2_26) rfl (by kernel_rfl) (by kernel_rfl) (by kernel_rfl) (fun _ _ _ h => h) (Or.inl ⟨by rfl, ?y2_26⟩) (by assumption) ?r2_26
          case y2_26 => (intro w hSw; (try dsimp only at hSw); go_simp; try with_reducible rfl)
          (try simp only [Act.put, List.getElem_toArray, List.getElem_cons_zero, List.getElem_cons_succ, List.setIfInBounds_toArray, List.set_cons_zero, List.set_cons_succ])
          refine wpAnyH_take (i := 10) (v := ?v2_27) rfl (by kernel_rfl) (by kernel_rfl) (by kernel_rfl) (fun _ _ _ h => h) (Or.inl ⟨by rfl, ?y2_27⟩) (by assumption) ?r2_27
          case y2_27 => (intro w hSw; (try dsimp only at hSw); go_simp; try with_reducible rfl)
          (try simp only [Act.put, List.getElem_toArray, List.getElem_cons_zero, List.getElem_cons_succ, List.setIfInBounds_toArray, List.set_cons_zero, List.set_cons_succ])
          refine wpAnyH_ready (rs := [6]) (by kernel_rfl) (by simp) ?_
          refine AllReadyH.cons rfl (fun K hK => ?_) AllReadyH.nil
          go_simp
          refine C1.out.mono ?_
          rintro e wa ⟨rfl, hka⟩
          have hKa := (Keeps.refl [] w8).drew.trans hka
          have ha := Hall.out _ hKa
          go_wp2_with fail
          refine hK.out _ _ ?s2_28 (fun hHeld => ?_)
          case s2_28 => ((try dsimp only) <;> (first | exact ha))
          clear hK K
          (try simp only [Act.put, List.getElem_toArray, List.getElem_cons_zero, List.getElem_cons_succ, List.setIfInBounds_toArray, List.set_cons_zero, List.set_cons_succ])
          refine wpAnyH_ready (rs := [11]) (by kernel_rfl) (by simp) ?_
          refine AllReadyH.cons rfl (fun K hK => ?_) AllReadyH.nil
          go_simp
          refine (C2.out _ hKa).mono ?_
          rintro e wb ⟨rfl, hkb⟩
          have hKb := hKa.trans hkb
          have hb := Hall.out _ hKb
          go_wp2_with fail
          refine hK.out _ _ ?s2_29 (fun hHeld => ?_)
          case s2_29 => ((try dsimp only) <;> (first | exact hb))
          clear hK K
          (try simp only [Act.put, List.getElem_toArray, List.getElem_cons_zero, List.getElem_cons_succ, List.setIfInBounds_toArray, List.set_cons_zero, List.set_cons_succ])
          refine wpAnyH_take (i := 12) (v := ?v2_30) rfl (by kernel_rfl) (by kernel_rfl) (by kernel_rfl) (fun _ _ _ h => h) (Or.inl ⟨by rfl, ?y2_30⟩) (by assumption) ?r2_30
          case y2_30 => (intro w hSw; (try dsimp only at hSw); go_simp; try with_reducible rfl)
          (try simp only [Act.put, List.getElem_toArray, List.getElem_cons_zero, List.getElem_cons_succ, List.setIfInBounds_toArray, List.set_cons_zero, List.set_cons_succ])
          refine wpAnyH_take (i := 13) (v := ?v2_31) rfl (by kernel_rfl) (by kernel_rfl) (by kernel_rfl) (fun _ _ _ h => h) (Or.inl ⟨by rfl, ?y2_31⟩) (by assumption) ?r2_31
          case y2_31 => (intro w hSw; (try dsimp only at hSw); go_simp; try with_reducible rfl)
          (try simp only [Act.put, List.getElem_toArray, List.getElem_cons_zero, List.getElem_cons_succ, List.setIfInBounds_toArray, List.set_cons_zero, List.set_cons_succ])
          refine wpAnyH_take (i := 14) (v := ?v2_32) rfl (by kernel_rfl) (by kernel_rfl) (by kernel_rfl) (fun _ _ _ h => h) (Or.inl ⟨by rfl, ?y2_32⟩) (by assumption) ?r2_32
          case y2_32 => (intro w hSw; (try dsimp only at hSw); go_simp; try with_reducible rfl)
          (try simp only [Act.put, List.getElem_toArray, List.getElem_cons_zero, List.getElem_cons_succ, List.setIfInBounds_toArray, List.set_cons_zero, List.set_cons_succ])
          refine wpAnyH_done (by kernel_rfl) ?_ _
          refine NoPanic.normal ?_
          have R1 := Lib.hid (HF8.out.keeps hKb (by simp) (by simp))
          have R2 := Lib.hid (HR8.out.keeps hKb (by simp) (by simp))
          have R3 := Lib.hid (HK8.out.trans hKb.nil)
          clear hka hkb hKa hKb C1 C2
          go_wp2_with fail
          go_meet
          case rel => exact ⟨by simp, F, R1.out, R2.out, R3.out⟩
        by_cases d3 : xd = 3
        · subst d3
          go_wp2_with fail
          refine (fuse_calls HF8.out xn xt).mono ?_
          rintro e wa ⟨rfl, hFa, hka⟩
          have hRa := HR8.out.keeps hka Hpq.out.2.2.1 Hpq.out.2.2.2
          have n2 := hka.cellAt l2 hmp
          have n3 := hka.cellAt l3 hmp
          go_wp2_with fail
          refine (rfuse_calls hRa xn xt).mono ?_
          rintro e wb ⟨rfl, hRb, hkb⟩
          have R1 := Lib.hid (hFa.keeps hkb Hpq.out.1 Hpq.out.2.1)
          have R2 := Lib.hid hRb
          have R3 := Lib.hid ((HK8.out.trans (hka.mono fun y h => .inl (HS1.out y h))).trans (hkb.mono fun y h => .inl (HS2.out y h)))
          clear hFa hRa hRb hka hkb
          go_wp2_with fail
          go_meet
          case rel => exact ⟨rfl, F.fuse xn xt, R1.out, R2.out, R3.out⟩
        by_cases d4 : xd = 4
        · subst d4
          obtain ⟨at_, hat, hu1, hu2⟩ := umod xn 1000 (by omega) (by omega)
          obtain ⟨pl, hpl⟩ : ∃ pl : Int, 512 + (at_ : Int) = pl := ⟨_, rfl⟩
          have hB := fun (B : List UInt8) (hBl : ∃ t, B = xb.take t) (n : Nat) (hn : B.length = n) => (show ((Calls Try.prog 23 #[.pointer (some ⟨p, 0, none⟩), .int .i64 pl, .slice xA n xcap] w8 (FPost w8 p q (F.program pl B).1 (.int .i64 (F.program pl B).2))) ∧ (∀ w2, RfAt w2 p2 q2 F → Keeps [p, q] w8 w2 → Calls Try.prog 36 #[.pointer (some ⟨p2, 0, none⟩), .int .i64 pl, .slice xA n xcap] w2 (RPost w2 p2 q2 (F.program pl B).1 (.int .i64 (F.program pl B).2)))) from by
            subst hn
            obtain ⟨t, rfl⟩ := hBl
            exact ⟨program_calls HF8.out pl xA xcap _ (Hrd.out.take t) (fun y hy hne => Hap.out y hy (by rintro rfl; simp at hne)), fun w2 h k => rprogram_calls h pl xA xcap _ ((Hrd.out.keeps k Hap.out).take t) (fun y hy hne => Har.out y hy (by rintro rfl; simp at hne))⟩)
          by_cases h20 : xb.length ≤ 20
          · obtain ⟨C1, C2⟩ := hB xb ⟨xb.length, by simp⟩ xb.length rfl
            generalize F.program pl xb = r at *
            obtain ⟨G, z⟩ := r
            dsimp only at C1 C2
            have H1 := Lib.hid C1
            have H2 := Lib.hid C2
            have h20i : (xb.length : Int) ≤ 20 := by omega
            have hxi : (xb.length : Int) ≤ (xcap : Int) := by omega
            clear C1 C2 hB
            go_wp2_with fail
            refine H1.out.mono ?_
            rintro e wa ⟨rfl, hFa, hka⟩
            have hRa := HR8.out.keeps hka Hpq.out.2.2.1 Hpq.out.2.2.2
            have H3 := Lib.hid (H2.out _ hRa hka)
            have HFa := Lib.hid hFa
            clear hFa
            go_wp2_with fail
            refine H3.out.mono ?_
            rintro e wb ⟨rfl, hRb, hkb⟩
            have R1 := Lib.hid (HFa.out.keeps hkb Hpq.out.1 Hpq.out.2.1)
            have R2 := Lib.hid hRb
            have R3 := Lib.hid ((HK8.out.trans (hka.mono fun y h => .inl (HS1.out y h))).trans (hkb.mono fun y h => .inl (HS2.out y h)))
            clear hRa hRb hka hkb
            go_wp2_with fail
            go_meet
            case rel => exact ⟨by simp, G, R1.out, R2.out, R3.out⟩
          · have hl20 : (xb.take 20).length = 20 := by rw [List.length_take]; omega
            obtain ⟨C1, C2⟩ := hB (xb.take 20) ⟨20, rfl⟩ 20 hl20
            generalize F.program pl (xb.take 20) = r at *
            obtain ⟨G, z⟩ := r
            dsimp only at C1 C2
            have H1 := Lib.hid C1
            have H2 := Lib.hid C2
            have h20i : (20 : Int) < (xb.length : Int) := by omega
            have hxi : (20 : Int) ≤ (xcap : Int) := by omega
            clear C1 C2 hB hl20
            go_wp2_with fail
            refine H1.out.mono ?_
            rintro e wa ⟨rfl, hFa, hka⟩
            have hRa := HR8.out.keeps hka Hpq.out.2.2.1 Hpq.out.2.2.2
            have H3 := Lib.hid (H2.out _ hRa hka)
            have HFa := Lib.hid hFa
            clear hFa
            go_wp2_with fail
            refine H3.out.mono ?_
            rintro e wb ⟨rfl, hRb, hkb⟩
            have R1 := Lib.hid (HFa.out.keeps hkb Hpq.out.1 Hpq.out.2.1)
            have R2 := Lib.hid hRb
            have R3 := Lib.hid ((HK8.out.trans (hka.mono fun y h => .inl (HS1.out y h))).trans (hkb.mono fun y h => .inl (HS2.out y h)))
            clear hRa hRb hka hkb
            go_wp2_with fail
            go_meet
            case rel => exact ⟨by simp, G, R1.out, R2.out, R3.out⟩
        go_wp2_with fail
        refine (start_calls HF8.out).mono ?_
        rintro e wa ⟨rfl, hFa, hka⟩
        have hRa := HR8.out.keeps hka Hpq.out.2.2.1 Hpq.out.2.2.2
        go_wp2_with fail
        refine (rstart_calls hRa).mono ?_
        rintro e wb ⟨rfl, hRb, hkb⟩
        have R1 := Lib.hid (hFa.keeps hkb Hpq.out.1 Hpq.out.2.1)
        have R2 := Lib.hid hRb
        have R3 := Lib.hid ((HK8.out.trans (hka.mono fun y h => .inl (HS1.out y h))).trans (hkb.mono fun y h => .inl (HS2.out y h)))
        clear hFa hRa hRb hka hkb
        go_wp2_with fail
        go_meet
        case rel => exact ⟨rfl, F.start, R1.out, R2.out, R3.out⟩
      case rest =>
        clear HF8 HR8 HK8 HB8 Hrd0 Hab HM8 HT Hrd58 Hrd78
        obtain ⟨rfl, F', hF, hR, hK⟩ := hcut
        have HF := Lib.hid hF
        have HR := Lib.hid hR
        have HK := Lib.hid hK
        obtain ⟨z, hz, hZ⟩ := hR
        have HZ := Lib.hid hZ.drew
        have c00 := hZ.drew.c0
        have hst0 := str_run (w := wc.drew) (a := some ⟨q2, 0, none⟩) 3584 3584 (l := F'.b) (by have := hZ.drew.rd 0 3584; rwa [List.drop_zero, List.take_of_length_le (by rw [hZ.len]; omega)] at this) hZ.len (by simp)
        have C3 := Lib.hid (bytes_calls hF.drew)
        clear hF hK hz hZ
        go_wp2_with fail
        refine wp_region_noPanic ?_
        refine wp_region_held_drew (S := (fun w' => w'.cell? ⟨p2, 0, none⟩ = some (.slice (some ⟨q2, 0, none⟩) 3584 3584) ∧ (convert 22 9 (.slice (some ⟨q2, 0, none⟩) 3584 3584)).run Try.prog w' = .ok (.string ⟨F'.b.toArray⟩) w')) (by kernel_rfl) ⟨c00, hst0⟩ (fun hHeld => ?_)
        refine wpAnyH_take (i := 0) (v := ?v3_33) rfl (by kernel_rfl) (by kernel_rfl) (by kernel_rfl) (fun _ _ _ h => h) (Or.inl ⟨by rfl, ?y3_33⟩) (by assumption) ?r3_33
        case y3_33 => (intro w hSw; (try dsimp only at hSw); go_simp; try with_reducible rfl)
        (try simp only [Act.put, List.getElem_toArray, List.getElem_cons_zero, List.getElem_cons_succ, List.setIfInBounds_toArray, List.set_cons_zero, List.set_cons_succ])
        refine wpAnyH_take (i := 1) (v := ?v3_34) rfl (by kernel_rfl) (by kernel_rfl) (by kernel_rfl) (fun _ _ _ h => h) (Or.inl ⟨by rfl, ?y3_34⟩) (by assumption) ?r3_34
        case y3_34 => (intro w hSw; (try dsimp only at hSw); go_simp; try with_reducible rfl)
        (try simp only [Act.put, List.getElem_toArray, List.getElem_cons_zero, List.getElem_cons_succ, List.setIfInBounds_toArray, List.set_cons_zero, List.set_cons_succ])
        refine wpAnyH_take (i := 2) (v := ?v3_35) rfl (by kernel_rfl) (by kernel_rfl) (by kernel_rfl) (fun _ _ _ h => h) (Or.inl ⟨by rfl, ?y3_35⟩) (by assumption) ?r3_35
        case y3_35 => (intro w hSw; (try dsimp only at hSw); go_simp; try with_reducible rfl)
        (try simp only [Act.put, List.getElem_toArray, List.getElem_cons_zero, List.getElem_cons_succ, List.setIfInBounds_toArray, List.set_cons_zero, List.set_cons_succ])
        refine wpAnyH_take (i := 3) (v := ?v3_36) rfl (by kernel_rfl) (by kernel_rfl) (by kernel_rfl) (fun _ _ _ h => h) (Or.inl ⟨by rfl, ?y3_36⟩) (by assumption) ?r3_36
        case y3_36 => (intro w hSw; (try dsimp only at hSw); go_simp; try with_reducible rfl)
        (try simp only [Act.put, List.getElem_toArray, List.getElem_cons_zero, List.getElem_cons_succ, List.setIfInBounds_toArray, List.set_cons_zero, List.set_cons_succ])
        refine wpAnyH_take (i := 6) (v := ?v3_37) rfl (by kernel_rfl) (by kernel_rfl) (by kernel_rfl) (fun _ _ _ h => h) (Or.inl ⟨by rfl, ?y3_37⟩) (by assumption) ?r3_37
        case y3_37 => (intro w hSw; (try dsimp only at hSw); go_simp; try with_reducible rfl)
        (try simp only [Act.put, List.getElem_toArray, List.getElem_cons_zero, List.getElem_cons_succ, List.setIfInBounds_toArray, List.set_cons_zero, List.set_cons_succ])
        refine wpAnyH_take (i := 7) (v := ?v3_38) rfl (by kernel_rfl) (by kernel_rfl) (by kernel_rfl) (fun _ _ _ h => h) (Or.inl ⟨by rfl, ?y3_38⟩) (by assumption) ?r3_38
        case y3_38 => (intro w hSw; (try dsimp only at hSw); go_simp; try with_reducible rfl)
        (try simp only [Act.put, List.getElem_toArray, List.getElem_cons_zero, List.getElem_cons_succ, List.setIfInBounds_toArray, List.set_cons_zero, List.set_cons_succ])
        refine wpAnyH_take (i := 8) (v := ?v3_39) rfl (by kernel_rfl) (by kernel_rfl) (by kernel_rfl) (fun _ _ _ h => h) (Or.inl ⟨by rfl, ?y3_39⟩) (by assumption) ?r3_39
        case y3_39 => (intro w hSw; (try dsimp only at hSw); go_simp; try with_reducible rfl)
        (try simp only [Act.put, List.getElem_toArray, List.getElem_cons_zero, List.getElem_cons_succ, List.setIfInBounds_toArray, List.set_cons_zero, List.set_cons_succ])
        refine wpAnyH_take (i := 9) (v := ?v3_40) rfl (by kernel_rfl) (by kernel_rfl) (by kernel_rfl) (fun _ _ _ h => h) (Or.inl ⟨by rfl, ?y3_40⟩) (by assumption) ?r3_40
        case y3_40 => (intro w hSw; (try dsimp only at hSw); go_simp; try with_reducible rfl)
        (try simp only [Act.put, List.getElem_toArray, List.getElem_cons_zero, List.getElem_cons_succ, List.setIfInBounds_toArray, List.set_cons_zero, List.set_cons_succ])
        refine wpAnyH_take (i := 10) (v := ?v3_41) rfl (by kernel_rfl) (by kernel_rfl) (by kernel_rfl) (fun _ _ _ h => h) (Or.inl ⟨by rfl, ?y3_41⟩) (by assumption) ?r3_41
        case y3_41 => (intro w hSw; (try dsimp only at hSw); go_simp; try with_reducible rfl)
        (try simp only [Act.put, List.getElem_toArray, List.getElem_cons_zero, List.getElem_cons_succ, List.setIfInBounds_toArray, List.set_cons_zero, List.set_cons_succ])
        refine wpAnyH_ready (rs := [4]) (by kernel_rfl) (by simp) ?_
        refine AllReadyH.cons rfl (fun K hK => ?_) AllReadyH.nil
        go_simp
        refine C3.out.mono ?_
        rintro e w5 ⟨v, rfl, hv, hk5⟩
        have hst1 : (convert 22 9 v).run Try.prog w5 = .ok (.string ⟨F'.b.toArray⟩) w5 := (by obtain ⟨a1, k1, rfl, _, hrd1, _, _, hn1⟩ := hv.rd; exact str_run F'.b.length k1 hrd1 rfl hn1)
        have hZ5 := HZ.out.keeps hk5 (by simp) (by simp)
        have e00 := hZ5.c0
        have hst2 := str_run (w := w5) (a := some ⟨q2, 0, none⟩) 3584 3584 (l := F'.b) (by have := hZ5.rd 0 3584; rwa [List.drop_zero, List.take_of_length_le (by rw [hZ5.len]; omega)] at this) hZ5.len (by simp)
        clear hZ5
        go_wp2_with fail
        refine hK.out _ _ ?s3_42 (fun hHeld => ?_)
        case s3_42 => ((try dsimp only) <;> (first | exact ⟨e00, hst2⟩))
        clear hK K
        (try simp only [Act.put, List.getElem_toArray, List.getElem_cons_zero, List.getElem_cons_succ, List.setIfInBounds_toArray, List.set_cons_zero, List.set_cons_succ])
        refine wpAnyH_ready (rs := [5]) (by kernel_rfl) (by simp) ?_
        refine AllReadyH.cons rfl (fun K hK => ?_) AllReadyH.nil
        go_simp
        refine hK.out _ _ ?s3_43 (fun hHeld => ?_)
        case s3_43 => ((try dsimp only) <;> (first | exact ⟨e00, hst2⟩))
        clear hK K
        (try simp only [Act.put, List.getElem_toArray, List.getElem_cons_zero, List.getElem_cons_succ, List.setIfInBounds_toArray, List.set_cons_zero, List.set_cons_succ])
        refine wpAnyH_take (i := 11) (v := ?v3_44) rfl (by kernel_rfl) (by kernel_rfl) (by kernel_rfl) (fun _ _ _ h => h) (Or.inl ⟨by rfl, ?y3_44⟩) (by assumption) ?r3_44
        case y3_44 => (intro w hSw; (try dsimp only at hSw); go_simp; try with_reducible rfl)
        (try simp only [Act.put, List.getElem_toArray, List.getElem_cons_zero, List.getElem_cons_succ, List.setIfInBounds_toArray, List.set_cons_zero, List.set_cons_succ])
        refine wpAnyH_take (i := 12) (v := ?v3_45) rfl (by kernel_rfl) (by kernel_rfl) (by kernel_rfl) (fun _ _ _ h => h) (Or.inl ⟨by rfl, ?y3_45⟩) (by assumption) ?r3_45
        case y3_45 => (intro w hSw; (try dsimp only at hSw); go_simp; try with_reducible rfl)
        (try simp only [Act.put, List.getElem_toArray, List.getElem_cons_zero, List.getElem_cons_succ, List.setIfInBounds_toArray, List.set_cons_zero, List.set_cons_succ])
        refine wpAnyH_done (by kernel_rfl) ?_ _
        refine NoPanic.normal ?_
        have hlt := Hlt.out
        go_wp2_with fail
        go_roundw
        case rel =>
          exact ⟨k + 1, F', by omega, by go_num, HF.out.drew.keeps hk5 (by simp) (by simp), HR.out.keeps ((Keeps.refl [] wc).drew.trans hk5) (by simp) (by simp), HK.out.drew.trans hk5.nil⟩
        case measure => (simp [intOf]; omega)
    · have hkl : k = l.length := by omega
      subst hkl
      have HK := Lib.hid hK
      clear hF hR hK hl
      go_wp2_with fail
      refine slotread_nil.mono ?_
      rintro e w1 ⟨rfl, rfl⟩
      go_wp2_with fail
      refine (slotwrite_nil _ _ _).mono ?_
      rintro e w1 ⟨rfl, rfl⟩
      go_wp2_with fail
      refine slotright_nil.mono ?_
      rintro e w1 ⟨rfl, hk1⟩
      go_wp2_with fail
      refine awake20.mono ?_
      rintro e wa ⟨rfl, hKa⟩
      go_wp2_with fail
      go_ret
      have hn := Hn.out
      exact ⟨rfl, ((((HK.out.alloc _).trans hk1.nil)).trans hKa.nil).mono (by simp; exact ⟨hn.2.2.2.2.1, hn.2.2.2.2.2.1, hn.2.2.2.2.2.2.1, hn.2.2.2.2.2.2.2⟩)⟩

end Go.Proofs.Ythjojkkjdaoocaa
