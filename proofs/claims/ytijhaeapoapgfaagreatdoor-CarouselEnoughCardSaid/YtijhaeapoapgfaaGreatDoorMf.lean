/-
  Mf: manifests: code.Of, the reference's Params; May; walked.
-/
import Derived.Test.YtijhaeapoapgfaaGreatDoorGrMac
import Derived.Test.YtijhaeapoapgfaaGreatDoorGrCd
import Derived.Test.YtijhaeapoapgfaaGreatDoorGrBk
import Derived.Deep.RegionHeld3
import Derived.Deep.DrawnRows
set_option linter.unusedVariables false
set_option linter.unusedSimpArgs false
namespace Go.Proofs.YtijhaeapoapgfaaGreatDoor
open Go.RowKit
attribute [local go_sem ↓] Go.wp_at_zero Go.wp_at_succ

/-- A manifest. -/
abbrev MfL (s v : UInt32) (n z P : Nat) (h : Value) : List Value := [B32 s, B32 v, .int .i64 n, .int .i64 z, .int .i64 P, h]
abbrev MfV (s v : UInt32) (n z P : Nat) (h : Value) : Value := .agg #[B32 s, B32 v, .int .i64 n, .int .i64 z, .int .i64 P, h]
/-- Numbers that may be. -/
structure MfOk (n z P nK : Nat) : Prop where
  n1 : 1 ≤ n
  n2 : n ≤ 512
  k1 : 1 ≤ nK
  k2 : nK ≤ 64
  p2 : P ≤ 16
  z1 : 1 ≤ z
  z2 : z ≤ 16
  c : bcount n z = nK
def OfPost (w : World) (s : UInt32) (nK P z : Nat) (e : Ending) (w' : World) : Prop := e = .returned (.tuple #[.agg #[B32 s, .int .i64 nK, .int .i64 P, .int .i64 z], .bool true]) ∧ Keeps [] w w'

set_option maxRecDepth 100000 in
set_option maxHeartbeats 1600000 in
theorem of_calls {w : World} (s v : UInt32) {n z P nK : Nat} (h : Value) (hm : MfOk n z P nK) :
    Calls Tryz.prog 31 #[MfV s v n z P h] w (OfPost w s nK P z) := by
  have hC := fun w => bcount_calls (w := w) n z hm.n2 hm.z1 hm.z2
  have hok : PmOk (nK : Int) (P : Int) (z : Int) = true := by have := hm.k1; have := hm.k2; have := hm.p2; have := hm.z1; have := hm.z2; simp [PmOk]; omega
  have hMy := fun w => may_calls (w := w) s nK P z
  simp only [hok] at hMy
  simp only [hm.c] at hC
  have HC := Lib.hid hC
  have HMy := Lib.hid hMy
  have hB0 := Blk.newA w 35 (MfL s v n z P h).toArray
  have hB := hB0.alloc (.cells #[.int .u32 0, .int .i64 0, .int .i64 0, .int .i64 0] 38)
  have hR := Blk.newA (w.alloc (.cells (MfL s v n z P h).toArray 35)) 38 #[.int .u32 0, .int .i64 0, .int .i64 0, .int .i64 0]
  rw [World.size_alloc] at hR
  have kA : Keeps [] w ((w.alloc (.cells (MfL s v n z P h).toArray 35)).alloc (.cells #[.int .u32 0, .int .i64 0, .int .i64 0, .int .i64 0] 38)) := ((Keeps.refl [] w).alloc _).alloc _
  have hsA : ((w.alloc (.cells (MfL s v n z P h).toArray 35)).alloc (.cells #[.int .u32 0, .int .i64 0, .int .i64 0, .int .i64 0] 38)).heap.size = w.heap.size + 1 + 1 := by simp
  clear hC hMy hok hm hB0
  go_enter Tryz.func31, Tryz.ntmps31
  go_upto_region 1 with (fail)
  generalize (w.alloc (.cells (MfL s v n z P h).toArray 35)).alloc (.cells #[.int .u32 0, .int .i64 0, .int .i64 0, .int .i64 0] 38) = w0 at *
  have c0 := hB.cell' (i := 0) rfl
  have c2 := hB.cell' (i := 2) rfl
  have c3 := hB.cell' (i := 3) rfl
  have c4 := hB.cell' (i := 4) rfl
  have HR := Lib.hid hR
  have HkA := Lib.hid kA
  clear hR hB kA
  go_cut [4] (fun s4 wx => ∃ q, s4 = .pointer (some ⟨q, 0, none⟩) ∧ w0.heap.size ≤ q ∧ Blk wx q 38 [B32 s, .int .i64 nK, .int .i64 P, .int .i64 z] ∧ Keeps [] w0 wx)
  case first =>
    have hal : Keeps [] w0 ((w0.alloc (.cells #[.int .u32 0, .int .i64 0, .int .i64 0, .int .i64 0] 38)).drew) := ((Keeps.refl [] w0).alloc _).drew
    have hW := (Blk.newA w0 38 #[B32 s, .int .i64 nK, .int .i64 P, .int .i64 z]).drew
    rw [hsA] at hW
    have kW : Keeps [] w0 ((w0.alloc (.cells #[B32 s, .int .i64 nK, .int .i64 P, .int .i64 z] 38)).drew) := ((Keeps.refl [] w0).alloc _).drew
    refine wp_region_noPanic ?_
    refine wp_region_held_drew (S := (fun w' => w'.cell? ⟨w.heap.size, 0, none⟩ = some (B32 s) ∧ w'.cell? ⟨w.heap.size, 2, none⟩ = some (.int .i64 n) ∧ w'.cell? ⟨w.heap.size, 3, none⟩ = some (.int .i64 z) ∧ w'.cell? ⟨w.heap.size, 4, none⟩ = some (.int .i64 P))) (by kernel_rfl) ⟨c0, c2, c3, c4⟩ (fun hHeld => ?_)
    refine wpAnyH_take (i := 0) (v := ?v1_1) rfl (by kernel_rfl) (by kernel_rfl) (by kernel_rfl) (fun _ _ _ h => h) (Or.inl ⟨by rfl, ?y1_1⟩) (by assumption) ?r1_1
    case y1_1 => (intro w hSw; (try dsimp only at hSw); go_simp; try with_reducible rfl)
    (try simp only [Act.put, List.getElem_toArray, List.getElem_cons_zero, List.getElem_cons_succ, List.setIfInBounds_toArray, List.set_cons_zero, List.set_cons_succ])
    refine wpAnyH_take (i := 1) (v := ?v1_2) rfl (by kernel_rfl) (by kernel_rfl) (by kernel_rfl) (fun _ _ _ h => h) (Or.inl ⟨by rfl, ?y1_2⟩) (by assumption) ?r1_2
    case y1_2 => (intro w hSw; (try dsimp only at hSw); go_simp; try with_reducible rfl)
    (try simp only [Act.put, List.getElem_toArray, List.getElem_cons_zero, List.getElem_cons_succ, List.setIfInBounds_toArray, List.set_cons_zero, List.set_cons_succ])
    refine wpAnyH_take (i := 2) (v := ?v1_3) rfl (by kernel_rfl) (by kernel_rfl) (by kernel_rfl) (fun _ _ _ h => h) (Or.inl ⟨by rfl, ?y1_3⟩) (by assumption) ?r1_3
    case y1_3 => (intro w hSw; (try dsimp only at hSw); go_simp; try with_reducible rfl)
    (try simp only [Act.put, List.getElem_toArray, List.getElem_cons_zero, List.getElem_cons_succ, List.setIfInBounds_toArray, List.set_cons_zero, List.set_cons_succ])
    refine wpAnyH_take (i := 3) (v := ?v1_4) rfl (by kernel_rfl) (by kernel_rfl) (by kernel_rfl) (fun _ _ _ h => h) (Or.inl ⟨by rfl, ?y1_4⟩) (by assumption) ?r1_4
    case y1_4 => (intro w hSw; (try dsimp only at hSw); go_simp; try with_reducible rfl)
    (try simp only [Act.put, List.getElem_toArray, List.getElem_cons_zero, List.getElem_cons_succ, List.setIfInBounds_toArray, List.set_cons_zero, List.set_cons_succ])
    refine wpAnyH_take (i := 4) (v := ?v1_5) rfl (by kernel_rfl) (by kernel_rfl) (by kernel_rfl) (fun _ _ _ h => h) (Or.inl ⟨by rfl, ?y1_5⟩) (by assumption) ?r1_5
    case y1_5 => (intro w hSw; (try dsimp only at hSw); go_simp; try with_reducible rfl)
    (try simp only [Act.put, List.getElem_toArray, List.getElem_cons_zero, List.getElem_cons_succ, List.setIfInBounds_toArray, List.set_cons_zero, List.set_cons_succ])
    refine wpAnyH_take (i := 5) (v := ?v1_6) rfl (by kernel_rfl) (by kernel_rfl) (by kernel_rfl) (fun _ _ _ h => h) (Or.inl ⟨by rfl, ?y1_6⟩) (by assumption) ?r1_6
    case y1_6 => (intro w hSw; (try dsimp only at hSw); go_simp; try with_reducible rfl)
    (try simp only [Act.put, List.getElem_toArray, List.getElem_cons_zero, List.getElem_cons_succ, List.setIfInBounds_toArray, List.set_cons_zero, List.set_cons_succ])
    refine wpAnyH_take (i := 7) (v := ?v1_7) rfl (by kernel_rfl) (by kernel_rfl) (by kernel_rfl) (fun _ _ _ h => h) (Or.inl ⟨by rfl, ?y1_7⟩) (by assumption) ?r1_7
    case y1_7 => (intro w hSw; (try dsimp only at hSw); go_simp; try with_reducible rfl)
    (try simp only [Act.put, List.getElem_toArray, List.getElem_cons_zero, List.getElem_cons_succ, List.setIfInBounds_toArray, List.set_cons_zero, List.set_cons_succ])
    refine wpAnyH_take (i := 8) (v := ?v1_8) rfl (by kernel_rfl) (by kernel_rfl) (by kernel_rfl) (fun _ _ _ h => h) (Or.inl ⟨by rfl, ?y1_8⟩) (by assumption) ?r1_8
    case y1_8 => (intro w hSw; (try dsimp only at hSw); go_simp; try with_reducible rfl)
    (try simp only [Act.put, List.getElem_toArray, List.getElem_cons_zero, List.getElem_cons_succ, List.setIfInBounds_toArray, List.set_cons_zero, List.set_cons_succ])
    refine wpAnyH_take (i := 9) (v := ?v1_9) rfl (by kernel_rfl) (by kernel_rfl) (by kernel_rfl) (fun _ _ _ h => h) (Or.inl ⟨by rfl, ?y1_9⟩) (by assumption) ?r1_9
    case y1_9 => (intro w hSw; (try dsimp only at hSw); go_simp; try with_reducible rfl)
    (try simp only [Act.put, List.getElem_toArray, List.getElem_cons_zero, List.getElem_cons_succ, List.setIfInBounds_toArray, List.set_cons_zero, List.set_cons_succ])
    refine wpAnyH_take (i := 10) (v := ?v1_10) rfl (by kernel_rfl) (by kernel_rfl) (by kernel_rfl) (fun _ _ _ h => h) (Or.inl ⟨by rfl, ?y1_10⟩) (by assumption) ?r1_10
    case y1_10 => (intro w hSw; (try dsimp only at hSw); go_simp; try with_reducible rfl)
    (try simp only [Act.put, List.getElem_toArray, List.getElem_cons_zero, List.getElem_cons_succ, List.setIfInBounds_toArray, List.set_cons_zero, List.set_cons_succ])
    refine wpAnyH_ready (rs := [6, 12]) (by kernel_rfl) (by simp) ?_
    refine AllReadyH.cons rfl (fun K hK => ?ba) (AllReadyH.cons rfl (fun K hK => ?bb) AllReadyH.nil)
    case ba =>
      go_simp
      refine (HC.out _).mono ?_
      rintro e w' ⟨rfl, rfl⟩
      go_wp2_with fail
      refine hK.out _ _ ?s1_11 (fun hHeld => ?_)
      case s1_11 => ((try dsimp only) <;> (first | exact ⟨c0, c2, c3, c4⟩))
      clear hK K
      (try simp only [Act.put, List.getElem_toArray, List.getElem_cons_zero, List.getElem_cons_succ, List.setIfInBounds_toArray, List.set_cons_zero, List.set_cons_succ])
      refine wpAnyH_take (i := 11) (v := ?v1_12) rfl (by kernel_rfl) (by kernel_rfl) (by kernel_rfl) (fun _ _ _ h => h) (Or.inl ⟨by rfl, ?y1_12⟩) (by assumption) ?r1_12
      case y1_12 => (intro w hSw; (try dsimp only at hSw); go_simp; try with_reducible rfl)
      (try simp only [Act.put, List.getElem_toArray, List.getElem_cons_zero, List.getElem_cons_succ, List.setIfInBounds_toArray, List.set_cons_zero, List.set_cons_succ])
      refine wpAnyH_ready (rs := [12]) (by kernel_rfl) (by simp) ?_
      refine AllReadyH.cons rfl (fun K hK => ?_) AllReadyH.nil
      go_simp
      refine hK.out _ _ ?s1_13 (fun hHeld => ?_)
      case s1_13 => ((try dsimp only) <;> (first | exact ⟨hal.cell0 c0, hal.cell0 c2, hal.cell0 c3, hal.cell0 c4⟩))
      clear hK K
      (try simp only [Act.put, List.getElem_toArray, List.getElem_cons_zero, List.getElem_cons_succ, List.setIfInBounds_toArray, List.set_cons_zero, List.set_cons_succ])
      refine wpAnyH_ready (rs := [13]) (by kernel_rfl) (by simp) ?_
      refine AllReadyH.cons rfl (fun K hK => ?_) AllReadyH.nil
      go_simp
      refine hK.out _ _ ?s1_14 (fun hHeld => ?_)
      case s1_14 => ((try dsimp only) <;> (first | exact ⟨kW.cell0 c0, kW.cell0 c2, kW.cell0 c3, kW.cell0 c4⟩))
      clear hK K
      (try simp only [Act.put, List.getElem_toArray, List.getElem_cons_zero, List.getElem_cons_succ, List.setIfInBounds_toArray, List.set_cons_zero, List.set_cons_succ])
      refine wpAnyH_done (by kernel_rfl) ?_ _
      refine NoPanic.normal ?_
      go_wp2_with fail
      go_meet
      exact ⟨_, rfl, by omega, hW, kW⟩
    case bb =>
      go_simp
      refine hK.out _ _ ?s1_15 (fun hHeld => ?_)
      case s1_15 => ((try dsimp only) <;> (first | exact ⟨hal.cell0 c0, hal.cell0 c2, hal.cell0 c3, hal.cell0 c4⟩))
      clear hK K
      (try simp only [Act.put, List.getElem_toArray, List.getElem_cons_zero, List.getElem_cons_succ, List.setIfInBounds_toArray, List.set_cons_zero, List.set_cons_succ])
      refine wpAnyH_ready (rs := [6]) (by kernel_rfl) (by simp) ?_
      refine AllReadyH.cons rfl (fun K hK => ?_) AllReadyH.nil
      go_simp
      refine (HC.out _).mono ?_
      rintro e w' ⟨rfl, rfl⟩
      go_wp2_with fail
      refine hK.out _ _ ?s1_16 (fun hHeld => ?_)
      case s1_16 => ((try dsimp only) <;> (first | exact ⟨hal.cell0 c0, hal.cell0 c2, hal.cell0 c3, hal.cell0 c4⟩))
      clear hK K
      (try simp only [Act.put, List.getElem_toArray, List.getElem_cons_zero, List.getElem_cons_succ, List.setIfInBounds_toArray, List.set_cons_zero, List.set_cons_succ])
      refine wpAnyH_take (i := 11) (v := ?v1_17) rfl (by kernel_rfl) (by kernel_rfl) (by kernel_rfl) (fun _ _ _ h => h) (Or.inl ⟨by rfl, ?y1_17⟩) (by assumption) ?r1_17
      case y1_17 => (intro w hSw; (try dsimp only at hSw); go_simp; try with_reducible rfl)
      (try simp only [Act.put, List.getElem_toArray, List.getElem_cons_zero, List.getElem_cons_succ, List.setIfInBounds_toArray, List.set_cons_zero, List.set_cons_succ])
      refine wpAnyH_ready (rs := [13]) (by kernel_rfl) (by simp) ?_
      refine AllReadyH.cons rfl (fun K hK => ?_) AllReadyH.nil
      go_simp
      refine hK.out _ _ ?s1_18 (fun hHeld => ?_)
      case s1_18 => ((try dsimp only) <;> (first | exact ⟨kW.cell0 c0, kW.cell0 c2, kW.cell0 c3, kW.cell0 c4⟩))
      clear hK K
      (try simp only [Act.put, List.getElem_toArray, List.getElem_cons_zero, List.getElem_cons_succ, List.setIfInBounds_toArray, List.set_cons_zero, List.set_cons_succ])
      refine wpAnyH_done (by kernel_rfl) ?_ _
      refine NoPanic.normal ?_
      go_wp2_with fail
      go_meet
      exact ⟨_, rfl, by omega, hW, kW⟩
  case rest =>
  obtain ⟨q, rfl, hq, hb, kc⟩ := hcut
  have q0 := hb.cell' (i := 0) rfl
  have q1 := hb.cell' (i := 1) rfl
  have q2 := hb.cell' (i := 2) rfl
  have q3 := hb.cell' (i := 3) rfl
  have HB := Lib.hid hb
  have HK := Lib.hid kc
  clear c0 c2 c3 c4 hb kc
  go_wp2_with fail
  refine (HMy.out _).mono ?_
  rintro e w2 ⟨rfl, k2⟩
  have hR2 := HR.out.keeps (HK.out.trans k2) (by simp)
  have hB2 := HB.out.keeps k2 (by simp)
  have HK2 := Lib.hid (HkA.out.trans (HK.out.trans k2))
  clear q0 q1 q2 q3 k2
  have q0 := hB2.cell' (i := 0) rfl
  have q1 := hB2.cell' (i := 1) rfl
  have q2 := hB2.cell' (i := 2) rfl
  have q3 := hB2.cell' (i := 3) rfl
  have r0 := hR2.cell' (i := 0) rfl
  have r1 := hR2.cell' (i := 1) rfl
  have r2 := hR2.cell' (i := 2) rfl
  have r3 := hR2.cell' (i := 3) rfl
  have f0 := hR2.frozen 0
  have f1 := hR2.frozen 1
  have f2 := hR2.frozen 2
  have f3 := hR2.frozen 3
  have hR3 := hR2.put4 (B32 s) (.int .i64 nK) (.int .i64 P) (.int .i64 z)
  have K3 := Lib.hid (HK2.out.put4 (p := w.heap.size + 1) (.inr (by omega)) (B32 s) (.int .i64 nK) (.int .i64 P) (.int .i64 z))
  have e0 := hR3.cell' (i := 0) rfl
  have e1 := hR3.cell' (i := 1) rfl
  have e2 := hR3.cell' (i := 2) rfl
  have e3 := hR3.cell' (i := 3) rfl
  clear hR2 hB2 hR3
  go_wp2_with fail
  refine bodyPost_ret (v := .tuple #[.agg #[B32 s, .int .i64 nK, .int .i64 P, .int .i64 z], .bool true]) (by simp [results, Tryz.results31, go_sem, e0, e1, e2, e3]) rfl ?_
  exact ⟨rfl, K3.out⟩

theorem MfOk.q {n z P nK : Nat} (h : MfOk n z P nK) : ((n : Int) + (z : Int) - 1) / (z : Int) = (nK : Int) := by
  have hc := h.c
  have h1 := h.n1
  have h2 := h.k1
  unfold bcount at hc
  rw [if_neg (by omega)] at hc
  split at hc
  · rw [show (n : Int) + (z : Int) - 1 = ((n + z - 1 : Nat) : Int) from by omega, ← Int.natCast_ediv, hc]
  · omega

set_option maxRecDepth 100000 in
set_option maxHeartbeats 1600000 in
theorem rcount_calls {w : World} {n z P nK : Nat} (hm : MfOk n z P nK) :
    Calls Tryz.prog 46 #[.int .i64 n, .int .i64 z] w fun e w' => e = .returned (.int .i64 nK) ∧ w = w' := by
  have hq := hm.q
  have h1 : ¬ ((n : Int) < 1) := by have := hm.n1; omega
  have h2 : ¬ ((512 : Int) < (n : Int)) := by have := hm.n2; omega
  have h3 : ¬ ((z : Int) < 1) := by have := hm.z1; omega
  have h4 : ¬ ((16 : Int) < (z : Int)) := by have := hm.z2; omega
  have h5 : ¬ ((64 : Int) < (nK : Int)) := by have := hm.k2; omega
  have hz0 : (z : Int) ≠ 0 := by omega
  clear hm
  go_enter Tryz.func46, Tryz.ntmps46
  go_wp2_with fail
  go_ret
  exact ⟨rfl, rfl⟩

set_option maxRecDepth 100000 in
set_option maxHeartbeats 1600000 in
theorem rmay_calls {w : World} (s : UInt32) {n z P nK : Nat} (hm : MfOk n z P nK) :
    Calls Tryz.prog 47 #[.agg #[B32 s, .int .i64 nK, .int .i64 P, .int .i64 z]] w fun e w' => e = .returned (.bool true) ∧ Keeps [] w w' := by
  have h1 : (1 : Int) ≤ (nK : Int) := by have := hm.k1; omega
  have h2 : (nK : Int) ≤ 64 := by have := hm.k2; omega
  have h3 : (P : Int) ≤ 16 := by have := hm.p2; omega
  have h4 : (1 : Int) ≤ (z : Int) := by have := hm.z1; omega
  have h5 : (z : Int) ≤ 16 := by have := hm.z2; omega
  have h6 : (0 : Int) ≤ (P : Int) := by omega
  have hB := Blk.newA w 38 #[B32 s, .int .i64 nK, .int .i64 P, .int .i64 z]
  have kA : Keeps [] w (w.alloc (.cells #[B32 s, .int .i64 nK, .int .i64 P, .int .i64 z] 38)) := (Keeps.refl [] w).alloc _
  clear hm
  go_enter Tryz.func47, Tryz.ntmps47
  go_wp2_with fail
  go_ret
  exact ⟨rfl, kA⟩

set_option maxRecDepth 100000 in
set_option maxHeartbeats 1600000 in
theorem rparams_calls {w : World} (s v : UInt32) {n z P nK : Nat} (h : Value) (hm : MfOk n z P nK) :
    Calls Tryz.prog 12 #[MfV s v n z P h] w (OfPost w s nK P z) := by
  have hC := fun w => rcount_calls (w := w) hm
  have hMy := fun w => rmay_calls (w := w) s hm
  have HC := Lib.hid hC
  have HMy := Lib.hid hMy
  have hB0 := Blk.newA w 35 (MfL s v n z P h).toArray
  have hB := hB0.alloc (.cells #[.int .u32 0, .int .i64 0, .int .i64 0, .int .i64 0] 38)
  have hR := Blk.newA (w.alloc (.cells (MfL s v n z P h).toArray 35)) 38 #[.int .u32 0, .int .i64 0, .int .i64 0, .int .i64 0]
  rw [World.size_alloc] at hR
  have kA : Keeps [] w ((w.alloc (.cells (MfL s v n z P h).toArray 35)).alloc (.cells #[.int .u32 0, .int .i64 0, .int .i64 0, .int .i64 0] 38)) := ((Keeps.refl [] w).alloc _).alloc _
  have hsA : ((w.alloc (.cells (MfL s v n z P h).toArray 35)).alloc (.cells #[.int .u32 0, .int .i64 0, .int .i64 0, .int .i64 0] 38)).heap.size = w.heap.size + 1 + 1 := by simp
  clear hC hMy hm hB0
  go_enter Tryz.func12, Tryz.ntmps12
  go_upto_region 1 with (fail)
  generalize (w.alloc (.cells (MfL s v n z P h).toArray 35)).alloc (.cells #[.int .u32 0, .int .i64 0, .int .i64 0, .int .i64 0] 38) = w0 at *
  have c0 := hB.cell' (i := 0) rfl
  have c2 := hB.cell' (i := 2) rfl
  have c3 := hB.cell' (i := 3) rfl
  have c4 := hB.cell' (i := 4) rfl
  have HR := Lib.hid hR
  have HkA := Lib.hid kA
  clear hR hB kA
  go_cut [4] (fun s4 wx => ∃ q, s4 = .pointer (some ⟨q, 0, none⟩) ∧ w0.heap.size ≤ q ∧ Blk wx q 38 [B32 s, .int .i64 nK, .int .i64 P, .int .i64 z] ∧ Keeps [] w0 wx)
  case first =>
    have hal : Keeps [] w0 ((w0.alloc (.cells #[.int .u32 0, .int .i64 0, .int .i64 0, .int .i64 0] 38)).drew) := ((Keeps.refl [] w0).alloc _).drew
    have hW := (Blk.newA w0 38 #[B32 s, .int .i64 nK, .int .i64 P, .int .i64 z]).drew
    rw [hsA] at hW
    have kW : Keeps [] w0 ((w0.alloc (.cells #[B32 s, .int .i64 nK, .int .i64 P, .int .i64 z] 38)).drew) := ((Keeps.refl [] w0).alloc _).drew
    refine wp_region_noPanic ?_
    refine wp_region_held_drew (S := (fun w' => w'.cell? ⟨w.heap.size, 0, none⟩ = some (B32 s) ∧ w'.cell? ⟨w.heap.size, 2, none⟩ = some (.int .i64 n) ∧ w'.cell? ⟨w.heap.size, 3, none⟩ = some (.int .i64 z) ∧ w'.cell? ⟨w.heap.size, 4, none⟩ = some (.int .i64 P))) (by kernel_rfl) ⟨c0, c2, c3, c4⟩ (fun hHeld => ?_)
    refine wpAnyH_take (i := 0) (v := ?v2_19) rfl (by kernel_rfl) (by kernel_rfl) (by kernel_rfl) (fun _ _ _ h => h) (Or.inl ⟨by rfl, ?y2_19⟩) (by assumption) ?r2_19
    case y2_19 => (intro w hSw; (try dsimp only at hSw); go_simp; try with_reducible rfl)
    (try simp only [Act.put, List.getElem_toArray, List.getElem_cons_zero, List.getElem_cons_succ, List.setIfInBounds_toArray, List.set_cons_zero, List.set_cons_succ])
    refine wpAnyH_take (i := 1) (v := ?v2_20) rfl (by kernel_rfl) (by kernel_rfl) (by kernel_rfl) (fun _ _ _ h => h) (Or.inl ⟨by rfl, ?y2_20⟩) (by assumption) ?r2_20
    case y2_20 => (intro w hSw; (try dsimp only at hSw); go_simp; try with_reducible rfl)
    (try simp only [Act.put, List.getElem_toArray, List.getElem_cons_zero, List.getElem_cons_succ, List.setIfInBounds_toArray, List.set_cons_zero, List.set_cons_succ])
    refine wpAnyH_take (i := 2) (v := ?v2_21) rfl (by kernel_rfl) (by kernel_rfl) (by kernel_rfl) (fun _ _ _ h => h) (Or.inl ⟨by rfl, ?y2_21⟩) (by assumption) ?r2_21
    case y2_21 => (intro w hSw; (try dsimp only at hSw); go_simp; try with_reducible rfl)
    (try simp only [Act.put, List.getElem_toArray, List.getElem_cons_zero, List.getElem_cons_succ, List.setIfInBounds_toArray, List.set_cons_zero, List.set_cons_succ])
    refine wpAnyH_take (i := 3) (v := ?v2_22) rfl (by kernel_rfl) (by kernel_rfl) (by kernel_rfl) (fun _ _ _ h => h) (Or.inl ⟨by rfl, ?y2_22⟩) (by assumption) ?r2_22
    case y2_22 => (intro w hSw; (try dsimp only at hSw); go_simp; try with_reducible rfl)
    (try simp only [Act.put, List.getElem_toArray, List.getElem_cons_zero, List.getElem_cons_succ, List.setIfInBounds_toArray, List.set_cons_zero, List.set_cons_succ])
    refine wpAnyH_take (i := 4) (v := ?v2_23) rfl (by kernel_rfl) (by kernel_rfl) (by kernel_rfl) (fun _ _ _ h => h) (Or.inl ⟨by rfl, ?y2_23⟩) (by assumption) ?r2_23
    case y2_23 => (intro w hSw; (try dsimp only at hSw); go_simp; try with_reducible rfl)
    (try simp only [Act.put, List.getElem_toArray, List.getElem_cons_zero, List.getElem_cons_succ, List.setIfInBounds_toArray, List.set_cons_zero, List.set_cons_succ])
    refine wpAnyH_take (i := 5) (v := ?v2_24) rfl (by kernel_rfl) (by kernel_rfl) (by kernel_rfl) (fun _ _ _ h => h) (Or.inl ⟨by rfl, ?y2_24⟩) (by assumption) ?r2_24
    case y2_24 => (intro w hSw; (try dsimp only at hSw); go_simp; try with_reducible rfl)
    (try simp only [Act.put, List.getElem_toArray, List.getElem_cons_zero, List.getElem_cons_succ, List.setIfInBounds_toArray, List.set_cons_zero, List.set_cons_succ])
    refine wpAnyH_take (i := 7) (v := ?v2_25) rfl (by kernel_rfl) (by kernel_rfl) (by kernel_rfl) (fun _ _ _ h => h) (Or.inl ⟨by rfl, ?y2_25⟩) (by assumption) ?r2_25
    case y2_25 => (intro w hSw; (try dsimp only at hSw); go_simp; try with_reducible rfl)
    (try simp only [Act.put, List.getElem_toArray, List.getElem_cons_zero, List.getElem_cons_succ, List.setIfInBounds_toArray, List.set_cons_zero, List.set_cons_succ])
    refine wpAnyH_take (i := 8) (v := ?v2_26) rfl (by kernel_rfl) (by kernel_rfl) (by kernel_rfl) (fun _ _ _ h => h) (Or.inl ⟨by rfl, ?y2_26⟩) (by assumption) ?r2_26
    case y2_26 => (intro w hSw; (try dsimp only at hSw); go_simp; try with_reducible rfl)
    (try simp only [Act.put, List.getElem_toArray, List.getElem_cons_zero, List.getElem_cons_succ, List.setIfInBounds_toArray, List.set_cons_zero, List.set_cons_succ])
    refine wpAnyH_take (i := 9) (v := ?v2_27) rfl (by kernel_rfl) (by kernel_rfl) (by kernel_rfl) (fun _ _ _ h => h) (Or.inl ⟨by rfl, ?y2_27⟩) (by assumption) ?r2_27
    case y2_27 => (intro w hSw; (try dsimp only at hSw); go_simp; try with_reducible rfl)
    (try simp only [Act.put, List.getElem_toArray, List.getElem_cons_zero, List.getElem_cons_succ, List.setIfInBounds_toArray, List.set_cons_zero, List.set_cons_succ])
    refine wpAnyH_take (i := 10) (v := ?v2_28) rfl (by kernel_rfl) (by kernel_rfl) (by kernel_rfl) (fun _ _ _ h => h) (Or.inl ⟨by rfl, ?y2_28⟩) (by assumption) ?r2_28
    case y2_28 => (intro w hSw; (try dsimp only at hSw); go_simp; try with_reducible rfl)
    (try simp only [Act.put, List.getElem_toArray, List.getElem_cons_zero, List.getElem_cons_succ, List.setIfInBounds_toArray, List.set_cons_zero, List.set_cons_succ])
    refine wpAnyH_ready (rs := [6, 12]) (by kernel_rfl) (by simp) ?_
    refine AllReadyH.cons rfl (fun K hK => ?ba) (AllReadyH.cons rfl (fun K hK => ?bb) AllReadyH.nil)
    case ba =>
      go_simp
      refine (HC.out _).mono ?_
      rintro e w' ⟨rfl, rfl⟩
      go_wp2_with fail
      refine hK.out _ _ ?s2_29 (fun hHeld => ?_)
      case s2_29 => ((try dsimp only) <;> (first | exact ⟨c0, c2, c3, c4⟩))
      clear hK K
      (try simp only [Act.put, List.getElem_toArray, List.getElem_cons_zero, List.getElem_cons_succ, List.setIfInBounds_toArray, List.set_cons_zero, List.set_cons_succ])
      refine wpAnyH_take (i := 11) (v := ?v2_30) rfl (by kernel_rfl) (by kernel_rfl) (by kernel_rfl) (fun _ _ _ h => h) (Or.inl ⟨by rfl, ?y2_30⟩) (by assumption) ?r2_30
      case y2_30 => (intro w hSw; (try dsimp only at hSw); go_simp; try with_reducible rfl)
      (try simp only [Act.put, List.getElem_toArray, List.getElem_cons_zero, List.getElem_cons_succ, List.setIfInBounds_toArray, List.set_cons_zero, List.set_cons_succ])
      refine wpAnyH_ready (rs := [12]) (by kernel_rfl) (by simp) ?_
      refine AllReadyH.cons rfl (fun K hK => ?_) AllReadyH.nil
      go_simp
      refine hK.out _ _ ?s2_31 (fun hHeld => ?_)
      case s2_31 => ((try dsimp only) <;> (first | exact ⟨hal.cell0 c0, hal.cell0 c2, hal.cell0 c3, hal.cell0 c4⟩))
      clear hK K
      (try simp only [Act.put, List.getElem_toArray, List.getElem_cons_zero, List.getElem_cons_succ, List.setIfInBounds_toArray, List.set_cons_zero, List.set_cons_succ])
      refine wpAnyH_ready (rs := [13]) (by kernel_rfl) (by simp) ?_
      refine AllReadyH.cons rfl (fun K hK => ?_) AllReadyH.nil
      go_simp
      refine hK.out _ _ ?s2_32 (fun hHeld => ?_)
      case s2_32 => ((try dsimp only) <;> (first | exact ⟨kW.cell0 c0, kW.cell0 c2, kW.cell0 c3, kW.cell0 c4⟩))
      clear hK K
      (try simp only [Act.put, List.getElem_toArray, List.getElem_cons_zero, List.getElem_cons_succ, List.setIfInBounds_toArray, List.set_cons_zero, List.set_cons_succ])
      refine wpAnyH_done (by kernel_rfl) ?_ _
      refine NoPanic.normal ?_
      go_wp2_with fail
      go_meet
      exact ⟨_, rfl, by omega, hW, kW⟩
    case bb =>
      go_simp
      refine hK.out _ _ ?s2_33 (fun hHeld => ?_)
      case s2_33 => ((try dsimp only) <;> (first | exact ⟨hal.cell0 c0, hal.cell0 c2, hal.cell0 c3, hal.cell0 c4⟩))
      clear hK K
      (try simp only [Act.put, List.getElem_toArray, List.getElem_cons_zero, List.getElem_cons_succ, List.setIfInBounds_toArray, List.set_cons_zero, List.set_cons_succ])
      refine wpAnyH_ready (rs := [6]) (by kernel_rfl) (by simp) ?_
      refine AllReadyH.cons rfl (fun K hK => ?_) AllReadyH.nil
      go_simp
      refine (HC.out _).mono ?_
      rintro e w' ⟨rfl, rfl⟩
      go_wp2_with fail
      refine hK.out _ _ ?s2_34 (fun hHeld => ?_)
      case s2_34 => ((try dsimp only) <;> (first | exact ⟨hal.cell0 c0, hal.cell0 c2, hal.cell0 c3, hal.cell0 c4⟩))
      clear hK K
      (try simp only [Act.put, List.getElem_toArray, List.getElem_cons_zero, List.getElem_cons_succ, List.setIfInBounds_toArray, List.set_cons_zero, List.set_cons_succ])
      refine wpAnyH_take (i := 11) (v := ?v2_35) rfl (by kernel_rfl) (by kernel_rfl) (by kernel_rfl) (fun _ _ _ h => h) (Or.inl ⟨by rfl, ?y2_35⟩) (by assumption) ?r2_35
      case y2_35 => (intro w hSw; (try dsimp only at hSw); go_simp; try with_reducible rfl)
      (try simp only [Act.put, List.getElem_toArray, List.getElem_cons_zero, List.getElem_cons_succ, List.setIfInBounds_toArray, List.set_cons_zero, List.set_cons_succ])
      refine wpAnyH_ready (rs := [13]) (by kernel_rfl) (by simp) ?_
      refine AllReadyH.cons rfl (fun K hK => ?_) AllReadyH.nil
      go_simp
      refine hK.out _ _ ?s2_36 (fun hHeld => ?_)
      case s2_36 => ((try dsimp only) <;> (first | exact ⟨kW.cell0 c0, kW.cell0 c2, kW.cell0 c3, kW.cell0 c4⟩))
      clear hK K
      (try simp only [Act.put, List.getElem_toArray, List.getElem_cons_zero, List.getElem_cons_succ, List.setIfInBounds_toArray, List.set_cons_zero, List.set_cons_succ])
      refine wpAnyH_done (by kernel_rfl) ?_ _
      refine NoPanic.normal ?_
      go_wp2_with fail
      go_meet
      exact ⟨_, rfl, by omega, hW, kW⟩
  case rest =>
  obtain ⟨q, rfl, hq, hb, kc⟩ := hcut
  have q0 := hb.cell' (i := 0) rfl
  have q1 := hb.cell' (i := 1) rfl
  have q2 := hb.cell' (i := 2) rfl
  have q3 := hb.cell' (i := 3) rfl
  have HB := Lib.hid hb
  have HK := Lib.hid kc
  clear c0 c2 c3 c4 hb kc
  go_wp2_with fail
  refine (HMy.out _).mono ?_
  rintro e w2 ⟨rfl, k2⟩
  have hR2 := HR.out.keeps (HK.out.trans k2) (by simp)
  have hB2 := HB.out.keeps k2 (by simp)
  have HK2 := Lib.hid (HkA.out.trans (HK.out.trans k2))
  clear q0 q1 q2 q3 k2
  have q0 := hB2.cell' (i := 0) rfl
  have q1 := hB2.cell' (i := 1) rfl
  have q2 := hB2.cell' (i := 2) rfl
  have q3 := hB2.cell' (i := 3) rfl
  have r0 := hR2.cell' (i := 0) rfl
  have r1 := hR2.cell' (i := 1) rfl
  have r2 := hR2.cell' (i := 2) rfl
  have r3 := hR2.cell' (i := 3) rfl
  have f0 := hR2.frozen 0
  have f1 := hR2.frozen 1
  have f2 := hR2.frozen 2
  have f3 := hR2.frozen 3
  have hR3 := hR2.put4 (B32 s) (.int .i64 nK) (.int .i64 P) (.int .i64 z)
  have K3 := Lib.hid (HK2.out.put4 (p := w.heap.size + 1) (.inr (by omega)) (B32 s) (.int .i64 nK) (.int .i64 P) (.int .i64 z))
  have e0 := hR3.cell' (i := 0) rfl
  have e1 := hR3.cell' (i := 1) rfl
  have e2 := hR3.cell' (i := 2) rfl
  have e3 := hR3.cell' (i := 3) rfl
  clear hR2 hB2 hR3
  go_wp2_with fail
  refine bodyPost_ret (v := .tuple #[.agg #[B32 s, .int .i64 nK, .int .i64 P, .int .i64 z], .bool true]) (by simp [results, Tryz.results12, go_sem, e0, e1, e2, e3]) rfl ?_
  exact ⟨rfl, K3.out⟩

set_option maxRecDepth 100000 in
set_option maxHeartbeats 1600000 in
theorem mfmay_calls {w : World} (s v : UInt32) {n z P nK : Nat} (a : Option Addr) (c : Nat) (hm : MfOk n z P nK) :
    Calls Tryz.prog 37 #[MfV s v n z P (.slice a 32 c)] w fun e w' => e = .returned (.bool true) ∧ Keeps [] w w' := by
  have HO := Lib.hid (fun w => of_calls (w := w) s v (.slice a 32 c) hm)
  have hB0 := Blk.newA w 35 (MfL s v n z P (.slice a 32 c)).toArray
  have kA : Keeps [] w (w.alloc (.cells (MfL s v n z P (.slice a 32 c)).toArray 35)) := (Keeps.refl [] w).alloc _
  go_enter Tryz.func37, Tryz.ntmps37
  go_wp2_with fail
  generalize w.alloc (.cells (MfL s v n z P (.slice a 32 c)).toArray 35) = w0 at *
  refine (HO.out _).mono ?_
  rintro e w1 ⟨rfl, k1⟩
  have hB1 := (hB0.keeps k1 (by simp)).alloc (.cells #[B32 s, .int .i64 nK, .int .i64 P, .int .i64 z] 38)
  have c5 := hB1.cell' (i := 5) rfl
  have k2 : Keeps [] w1 (w1.alloc (.cells #[B32 s, .int .i64 nK, .int .i64 P, .int .i64 z] 38)) := (Keeps.refl [] w1).alloc _
  have HK := Lib.hid ((kA.trans k1).trans k2)
  clear hB0 hB1 kA k1 k2
  go_wp2_with fail
  go_ret
  exact ⟨rfl, HK.out⟩

set_option maxRecDepth 100000 in
set_option maxHeartbeats 1600000 in
theorem rmfmay_calls {w : World} (s v : UInt32) {n z P nK : Nat} (a : Option Addr) (c : Nat) (hm : MfOk n z P nK) :
    Calls Tryz.prog 11 #[MfV s v n z P (.slice a 32 c)] w fun e w' => e = .returned (.bool true) ∧ Keeps [] w w' := by
  have HO := Lib.hid (fun w => rparams_calls (w := w) s v (.slice a 32 c) hm)
  have hB0 := Blk.newA w 35 (MfL s v n z P (.slice a 32 c)).toArray
  have kA : Keeps [] w (w.alloc (.cells (MfL s v n z P (.slice a 32 c)).toArray 35)) := (Keeps.refl [] w).alloc _
  go_enter Tryz.func11, Tryz.ntmps11
  go_wp2_with fail
  generalize w.alloc (.cells (MfL s v n z P (.slice a 32 c)).toArray 35) = w0 at *
  refine (HO.out _).mono ?_
  rintro e w1 ⟨rfl, k1⟩
  have hB1 := (hB0.keeps k1 (by simp)).alloc (.cells #[B32 s, .int .i64 nK, .int .i64 P, .int .i64 z] 38)
  have c5 := hB1.cell' (i := 5) rfl
  have k2 : Keeps [] w1 (w1.alloc (.cells #[B32 s, .int .i64 nK, .int .i64 P, .int .i64 z] 38)) := (Keeps.refl [] w1).alloc _
  have HK := Lib.hid ((kA.trans k1).trans k2)
  clear hB0 hB1 kA k1 k2
  go_wp2_with fail
  go_ret
  exact ⟨rfl, HK.out⟩

end Go.Proofs.YtijhaeapoapgfaaGreatDoor
