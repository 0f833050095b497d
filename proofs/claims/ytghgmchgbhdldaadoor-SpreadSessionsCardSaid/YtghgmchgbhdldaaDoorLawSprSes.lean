/-
  LawSprSes: downpourlaw8.SpreadSessions, walked.
-/
import Derived.Test.YtghgmchgbhdldaaDoorLaw8
import Derived.Deep.Cut
set_option linter.unusedVariables false
set_option linter.unusedSimpArgs false
namespace Go.Proofs.YtghgmchgbhdldaaDoor
open Go.RowKit
attribute [local go_sem ↓] Go.wp_at_zero Go.wp_at_succ

set_option maxRecDepth 100000 in
set_option maxHeartbeats 1000000 in
theorem spreadSessions_walk {w : World} (ht : TzAt w) (s : UInt32) (k p z : Int) (other id : UInt32) :
    Calls Tryd.prog 5 #[.agg #[B32 s, .int .i64 k, .int .i64 p, .int .i64 z], B32 other, B32 id] w fun e w' => e = .returned (.bool true) ∧ Keeps [] w w' := by
  have kA : Keeps [] w (w.alloc (.cells #[B32 s, .int .i64 k, .int .i64 p, .int .i64 z] 24)) := (Keeps.refl [] w).alloc _
  have hB0 := Blk.newA w 24 #[B32 s, .int .i64 k, .int .i64 p, .int .i64 z]
  go_enter Tryd.func5, Tryd.ntmps5
  go_wp2_with fail
  generalize w.alloc (.cells #[B32 s, .int .i64 k, .int .i64 p, .int .i64 z] 24) = w0 at *
  refine (sound_calls s k p z).mono ?_
  rintro e w1 ⟨nK, P, Z, rfl, hs, k1⟩
  have hB1 := hB0.keeps k1 (by simp)
  have c0 := hB1.cell' (i := 0) rfl
  have c1 := hB1.cell' (i := 1) rfl
  have c2 := hB1.cell' (i := 2) rfl
  have c3 := hB1.cell' (i := 3) rfl
  have f0 := hB1.frozen 0
  have f1 := hB1.frozen 1
  have f2 := hB1.frozen 2
  have f3 := hB1.frozen 3
  have hK1 := hs.k1
  have hK2 := hs.k2
  have hP2 := hs.p2
  have hidl := id.toNat_lt
  have hjl : id.toNat % nK < nK := Nat.mod_lt _ (by omega)
  obtain ⟨j, hj⟩ : ∃ j : UInt32, j.toNat = id.toNat % nK := ⟨UInt32.ofNat (id.toNat % nK), by rw [UInt32.toNat_ofNat']; omega⟩
  have hwk : IntKind.u32.wrap (nK : Int) = (nK : Int) := by rw [IntKind.wrap_u32]; omega
  have hK0 : ¬ (nK : Int) = 0 := by omega
  have hmd : (id.toNat : Int).tmod (nK : Int) = (j.toNat : Int) := by rw [hj, Int.tmod_eq_emod_of_nonneg (by omega)]; omega
  have hmd2 : (id.toNat : Int) % (nK : Int) = (j.toNat : Int) := by rw [hj]; omega
  have hjK : j.toNat < nK := by omega
  clear hj hjl
  have hRp : ∀ w, Calls Tryd.prog 8 #[.agg #[B32 s, .int .i64 nK, .int .i64 P, .int .i64 Z], B32 j] w (VecNew w (nK + P) (putL (nK + P) 0 [j.toNat])) := fun w => by
    have := rowS_calls (w := w) s hs j
    rwa [show rowN s nK P j = putL (nK + P) 0 [j.toNat] from by unfold rowN; rw [rowL_first _ _ _ _ hjK]] at this
  have hRq : ∀ w, Calls Tryd.prog 8 #[.agg #[B32 other, .int .i64 nK, .int .i64 P, .int .i64 Z], B32 j] w (VecNew w (nK + P) (putL (nK + P) 0 [j.toNat])) := fun w => by
    have := rowS_calls (w := w) other hs j
    rwa [show rowN other nK P j = putL (nK + P) 0 [j.toNat] from by unfold rowN; rw [rowL_first _ _ _ _ hjK]] at this
  have hRr : ∀ w, Calls Tryd.prog 8 #[.agg #[B32 s, .int .i64 nK, .int .i64 0, .int .i64 Z], B32 j] w (VecNew w nK (putL nK 0 [j.toNat])) := fun w => by
    have := rowS_calls (w := w) s (P := 0) ⟨hs.k1, hs.k2, by omega, hs.z1, hs.z2⟩ j
    rw [show rowN s nK 0 j = putL nK 0 [j.toNat] from by unfold rowN; rw [rowL_first _ _ _ _ hjK]; rfl] at this
    exact this
  have hPp : ∀ w, Calls Tryd.prog 15 #[.agg #[B32 s, .int .i64 nK, .int .i64 P, .int .i64 Z]] w fun e w' => e = .returned (.int .i64 ((nK + P : Nat) : Int)) ∧ Keeps [] w w' := fun w => by
    have := pieces_calls (w := w) s (nK : Int) (P : Int) (Z : Int)
    rwa [hs.ok, if_pos rfl, ← Int.natCast_add] at this
  have hbt : bitsOf (nK + P) (putL (nK + P) 0 [j.toNat]) = [j.toNat] := bitsOf_putL (List.pairwise_singleton _ _) (fun x hx => by obtain rfl := List.mem_singleton.1 hx; omega)
  have hn80 : nK + P ≤ 80 := by omega
  generalize hXX : putL (nK + P) 0 [j.toNat] = X at *
  generalize hYY : putL nK 0 [j.toNat] = Y at *
  have HY := Lib.hid hYY
  clear hXX hYY
  generalize nK + P = n at *
  have HRp := Lib.hid hRp
  have HRq := Lib.hid hRq
  have HRr := Lib.hid hRr
  have HPp := Lib.hid hPp
  have Hbt := Lib.hid hbt
  have hs' := Lib.hid hs
  clear hRp hRq hRr hPp hbt hs
  go_upto_region 2 with (fail)
  have hB2 := hB1.put4 (B32 s) (.int .i64 nK) (.int .i64 P) (.int .i64 Z)
  have k2 := (kA.trans k1).put4 (.inr (Nat.le_refl _)) (B32 s) (.int .i64 nK) (.int .i64 P) (.int .i64 Z)
  clear c0 c1 c2 c3 f0 f1 f2 f3 hB1 hB0 kA k1
  generalize ((((w1.setCell ⟨w.heap.size, 0, none⟩ (B32 s)).setCell ⟨w.heap.size, 1, none⟩ (.int .i64 nK)).setCell ⟨w.heap.size, 2, none⟩ (.int .i64 P)).setCell ⟨w.heap.size, 3, none⟩ (.int .i64 Z)) = w2 at *
  have c0 := hB2.cell' (i := 0) rfl
  have c1 := hB2.cell' (i := 1) rfl
  have c2 := hB2.cell' (i := 2) rfl
  have c3 := hB2.cell' (i := 3) rfl
  go_upto_region 4 with (fail)
  have hQ3 := Blk.newA w2 24 #[B32 other, .int .i64 nK, .int .i64 P, .int .i64 Z]
  have k3 := (Keeps.refl [] w2).alloc (.cells #[B32 other, .int .i64 nK, .int .i64 P, .int .i64 Z] 24)
  have hP3 := hB2.keeps k3 (by simp)
  clear c0 c1 c2 c3
  generalize w2.alloc (.cells #[B32 other, .int .i64 nK, .int .i64 P, .int .i64 Z] 24) = w3 at *
  have c0 := hP3.cell' (i := 0) rfl
  have c1 := hP3.cell' (i := 1) rfl
  have c2 := hP3.cell' (i := 2) rfl
  have c3 := hP3.cell' (i := 3) rfl
  go_upto_region 6 with (fail)
  have hR4 := Blk.newA w3 24 #[B32 s, .int .i64 nK, .int .i64 0, .int .i64 Z]
  have k4 := (Keeps.refl [] w3).alloc (.cells #[B32 s, .int .i64 nK, .int .i64 0, .int .i64 Z] 24)
  have hP4 := hP3.keeps k4 (by simp)
  have hQ4 := hQ3.keeps k4 (by simp)
  have kk := (k2.trans k3).trans k4
  clear c0 c1 c2 c3
  generalize w3.alloc (.cells #[B32 s, .int .i64 nK, .int .i64 0, .int .i64 Z] 24) = w4 at *
  have c0 := hP4.cell' (i := 0) rfl
  have c1 := hP4.cell' (i := 1) rfl
  have c2 := hP4.cell' (i := 2) rfl
  have c3 := hP4.cell' (i := 3) rfl
  go_wp2_with fail
  refine (HRp.out w4).mono ?_
  rintro e w5 ⟨vp, vg, rfl, _, _, hV, k5⟩
  replace kk := kk.trans k5
  have ht5 := ht.keeps kk (by simp)
  have p0 := (hP4.keeps k5 (by simp)).cell' (i := 0) rfl
  have p1 := (hP4.keeps k5 (by simp)).cell' (i := 1) rfl
  have p2 := (hP4.keeps k5 (by simp)).cell' (i := 2) rfl
  have p3 := (hP4.keeps k5 (by simp)).cell' (i := 3) rfl
  have q0 := (hQ4.keeps k5 (by simp)).cell' (i := 0) rfl
  have q1 := (hQ4.keeps k5 (by simp)).cell' (i := 1) rfl
  have q2 := (hQ4.keeps k5 (by simp)).cell' (i := 2) rfl
  have q3 := (hQ4.keeps k5 (by simp)).cell' (i := 3) rfl
  have r0 := (hR4.keeps k5 (by simp)).cell' (i := 0) rfl
  have r1 := (hR4.keeps k5 (by simp)).cell' (i := 1) rfl
  have r2 := (hR4.keeps k5 (by simp)).cell' (i := 2) rfl
  have r3 := (hR4.keeps k5 (by simp)).cell' (i := 3) rfl
  clear c0 c1 c2 c3 hB2 hP3 hQ3 hP4 hQ4 hR4 k2 k3 k4 k5 hwk hK0 hmd hmd2
  go_wp2_with fail
  refine wp_region_noPanic ?_
  refine wp_region_held_drew (S := (fun w' => w'.cell? ⟨w.heap.size, 0, none⟩ = some (B32 s) ∧ w'.cell? ⟨w.heap.size, 1, none⟩ = some (.int .i64 nK) ∧ w'.cell? ⟨w.heap.size, 2, none⟩ = some (.int .i64 P) ∧ w'.cell? ⟨w.heap.size, 3, none⟩ = some (.int .i64 Z) ∧ w'.cell? ⟨w2.heap.size, 0, none⟩ = some (B32 other) ∧ w'.cell? ⟨w2.heap.size, 1, none⟩ = some (.int .i64 nK) ∧ w'.cell? ⟨w2.heap.size, 2, none⟩ = some (.int .i64 P) ∧ w'.cell? ⟨w2.heap.size, 3, none⟩ = some (.int .i64 Z) ∧ w'.cell? ⟨w3.heap.size, 0, none⟩ = some (B32 s) ∧ w'.cell? ⟨w3.heap.size, 1, none⟩ = some (.int .i64 nK) ∧ w'.cell? ⟨w3.heap.size, 2, none⟩ = some (.int .i64 0) ∧ w'.cell? ⟨w3.heap.size, 3, none⟩ = some (.int .i64 Z))) (by kernel_rfl) ⟨p0, p1, p2, p3, q0, q1, q2, q3, r0, r1, r2, r3⟩ (fun hHeld => ?_)
  have kd : Keeps [] w5 w5.drew := (Keeps.refl [] w5).drew
  refine wpAnyH_take (i := 0) (v := ?v1_1) rfl (by kernel_rfl) (by kernel_rfl) (by kernel_rfl) (fun _ _ _ h => h) (Or.inl ⟨by rfl, ?y1_1⟩) (by assumption) ?r1_1
  case y1_1 => (intro w hSw; (try dsimp only at hSw); go_simp; try with_reducible rfl)
  (try simp only [Act.put, List.getElem_toArray, List.getElem_cons_zero, List.getElem_cons_succ, List.setIfInBounds_toArray, List.set_cons_zero, List.set_cons_succ])
  refine wpAnyH_take (i := 1) (v := ?v1_2) rfl (by kernel_rfl) (by kernel_rfl) (by kernel_rfl) (fun _ _ _ h => h) (Or.inl ⟨by rfl, ?y1_2⟩) (by assumption) ?r1_2
  case y1_2 => (intro w hSw; (try dsimp only at hSw); go_simp; try with_reducible rfl)
  (try simp only [Act.put, List.getElem_toArray, List.getElem_cons_zero, List.getElem_cons_succ, List.setIfInBounds_toArray, List.set_cons_zero, List.set_cons_succ])
  refine wpAnyH_take (i := 2) (v := ?v1_3) rfl (by kernel_rfl) (by kernel_rfl) (by kernel_rfl) (fun _ _ _ h => h) (Or.inl ⟨by rfl, ?y1_3⟩) (by assumption) ?r1_3
  case y1_3 => (intro w hSw; (try dsimp only at hSw); go_simp; try with_reducible rfl)
  (try simp only [Act.put, List.getElem_toArray, List.getElem_cons_zero, List.getElem_cons_succ, List.setIfInBounds_toArray, List.set_cons_zero, List.set_cons_succ])
  refine wpAnyH_ready (rs := [3]) (by kernel_rfl) (by simp) ?_
  refine AllReadyH.cons rfl (fun K hK => ?_) AllReadyH.nil
  go_simp
  refine (HRq.out _).mono ?_
  rintro e w6 ⟨xp, xg, rfl, _, _, hV6, j6⟩
  replace kd := kd.trans j6
  go_wp2_with fail
  refine hK.out _ _ ?s1_4 (fun hHeld => ?_)
  case s1_4 => ((try dsimp only) <;> (first | exact ⟨kd.cell0 p0, kd.cell0 p1, kd.cell0 p2, kd.cell0 p3, kd.cell0 q0, kd.cell0 q1, kd.cell0 q2, kd.cell0 q3, kd.cell0 r0, kd.cell0 r1, kd.cell0 r2, kd.cell0 r3⟩))
  clear hK K
  (try simp only [Act.put, List.getElem_toArray, List.getElem_cons_zero, List.getElem_cons_succ, List.setIfInBounds_toArray, List.set_cons_zero, List.set_cons_succ])
  refine wpAnyH_ready (rs := [4]) (by kernel_rfl) (by simp) ?_
  refine AllReadyH.cons rfl (fun K hK => ?_) AllReadyH.nil
  go_simp
  refine (vsame_calls (hV.keeps kd (by simp) (by simp)) hV6).mono ?_
  rintro e w7 ⟨rfl, j7⟩
  rw [show decide (n = n ∧ X = X) = true from by simp]
  replace kd := kd.trans j7
  go_wp2_with fail
  refine hK.out _ _ ?s1_5 (fun hHeld => ?_)
  case s1_5 => ((try dsimp only) <;> (first | exact ⟨kd.cell0 p0, kd.cell0 p1, kd.cell0 p2, kd.cell0 p3, kd.cell0 q0, kd.cell0 q1, kd.cell0 q2, kd.cell0 q3, kd.cell0 r0, kd.cell0 r1, kd.cell0 r2, kd.cell0 r3⟩))
  clear hK K
  (try simp only [Act.put, List.getElem_toArray, List.getElem_cons_zero, List.getElem_cons_succ, List.setIfInBounds_toArray, List.set_cons_zero, List.set_cons_succ])
  refine wpAnyH_take (i := 5) (v := ?v1_6) rfl (by kernel_rfl) (by kernel_rfl) (by kernel_rfl) (fun _ _ _ h => h) (Or.inl ⟨by rfl, ?y1_6⟩) (by assumption) ?r1_6
  case y1_6 => (intro w hSw; (try dsimp only at hSw); go_simp; try with_reducible rfl)
  (try simp only [Act.put, List.getElem_toArray, List.getElem_cons_zero, List.getElem_cons_succ, List.setIfInBounds_toArray, List.set_cons_zero, List.set_cons_succ])
  refine wpAnyH_take (i := 6) (v := ?v1_7) rfl (by kernel_rfl) (by kernel_rfl) (by kernel_rfl) (fun _ _ _ h => h) (Or.inl ⟨by rfl, ?y1_7⟩) (by assumption) ?r1_7
  case y1_7 => (intro w hSw; (try dsimp only at hSw); go_simp; try with_reducible rfl)
  (try simp only [Act.put, List.getElem_toArray, List.getElem_cons_zero, List.getElem_cons_succ, List.setIfInBounds_toArray, List.set_cons_zero, List.set_cons_succ])
  refine wpAnyH_take (i := 7) (v := ?v1_8) rfl (by kernel_rfl) (by kernel_rfl) (by kernel_rfl) (fun _ _ _ h => h) (Or.inl ⟨by rfl, ?y1_8⟩) (by assumption) ?r1_8
  case y1_8 => (intro w hSw; (try dsimp only at hSw); go_simp; try with_reducible rfl)
  (try simp only [Act.put, List.getElem_toArray, List.getElem_cons_zero, List.getElem_cons_succ, List.setIfInBounds_toArray, List.set_cons_zero, List.set_cons_succ])
  refine wpAnyH_take (i := 8) (v := ?v1_9) rfl (by kernel_rfl) (by kernel_rfl) (by kernel_rfl) (fun _ _ _ h => h) (Or.inl ⟨by rfl, ?y1_9⟩) (by assumption) ?r1_9
  case y1_9 => (intro w hSw; (try dsimp only at hSw); go_simp; try with_reducible rfl)
  (try simp only [Act.put, List.getElem_toArray, List.getElem_cons_zero, List.getElem_cons_succ, List.setIfInBounds_toArray, List.set_cons_zero, List.set_cons_succ])
  refine wpAnyH_take (i := 11) (v := ?v1_10) rfl (by kernel_rfl) (by kernel_rfl) (by kernel_rfl) (fun _ _ _ h => h) (Or.inl ⟨by rfl, ?y1_10⟩) (by assumption) ?r1_10
  case y1_10 => (intro w hSw; (try dsimp only at hSw); go_simp; try with_reducible rfl)
  (try simp only [Act.put, List.getElem_toArray, List.getElem_cons_zero, List.getElem_cons_succ, List.setIfInBounds_toArray, List.set_cons_zero, List.set_cons_succ])
  refine wpAnyH_take (i := 12) (v := ?v1_11) rfl (by kernel_rfl) (by kernel_rfl) (by kernel_rfl) (fun _ _ _ h => h) (Or.inl ⟨by rfl, ?y1_11⟩) (by assumption) ?r1_11
  case y1_11 => (intro w hSw; (try dsimp only at hSw); go_simp; try with_reducible rfl)
  (try simp only [Act.put, List.getElem_toArray, List.getElem_cons_zero, List.getElem_cons_succ, List.setIfInBounds_toArray, List.set_cons_zero, List.set_cons_succ])
  refine wpAnyH_ready (rs := [9]) (by kernel_rfl) (by simp) ?_
  refine AllReadyH.cons rfl (fun K hK => ?_) AllReadyH.nil
  go_simp
  refine (vlist_calls (hV.keeps kd (by simp) (by simp))).mono ?_
  rintro e w8 ⟨v8, rfl, hO8, j8⟩
  replace kd := kd.trans j8
  rw [Hbt.out] at hO8
  have hI8 := hO8.ints
  obtain ⟨a8, c8, rfl, i1, i2, i3⟩ := hI8
  have hI8 := Lib.hid (show IsInts w8 _ (.slice a8 [j.toNat].length c8) [j.toNat] from ⟨a8, c8, rfl, i1, i2, i3⟩)
  go_wp2_with fail
  refine hK.out _ _ ?s1_12 (fun hHeld => ?_)
  case s1_12 => ((try dsimp only) <;> (first | exact ⟨kd.cell0 p0, kd.cell0 p1, kd.cell0 p2, kd.cell0 p3, kd.cell0 q0, kd.cell0 q1, kd.cell0 q2, kd.cell0 q3, kd.cell0 r0, kd.cell0 r1, kd.cell0 r2, kd.cell0 r3⟩))
  clear hK K
  (try simp only [Act.put, List.getElem_toArray, List.getElem_cons_zero, List.getElem_cons_succ, List.setIfInBounds_toArray, List.set_cons_zero, List.set_cons_succ])
  refine wpAnyH_ready (rs := [10]) (by kernel_rfl) (by simp) ?_
  refine AllReadyH.cons rfl (fun K hK => ?_) AllReadyH.nil
  go_simp
  refine (vof_calls hI8.out nK (by omega) (by simp)).mono ?_
  rintro e w9 ⟨yp, yg, rfl, _, _, hV9, j9⟩
  rw [HY.out] at hV9
  replace kd := kd.trans j9
  go_wp2_with fail
  refine hK.out _ _ ?s1_13 (fun hHeld => ?_)
  case s1_13 => ((try dsimp only) <;> (first | exact ⟨kd.cell0 p0, kd.cell0 p1, kd.cell0 p2, kd.cell0 p3, kd.cell0 q0, kd.cell0 q1, kd.cell0 q2, kd.cell0 q3, kd.cell0 r0, kd.cell0 r1, kd.cell0 r2, kd.cell0 r3⟩))
  clear hK K
  (try simp only [Act.put, List.getElem_toArray, List.getElem_cons_zero, List.getElem_cons_succ, List.setIfInBounds_toArray, List.set_cons_zero, List.set_cons_succ])
  refine wpAnyH_ready (rs := [13]) (by kernel_rfl) (by simp) ?_
  refine AllReadyH.cons rfl (fun K hK => ?_) AllReadyH.nil
  go_simp
  refine (HRr.out _).mono ?_
  rintro e w10 ⟨zp, zg, rfl, _, _, hV10, j10⟩
  replace kd := kd.trans j10
  go_wp2_with fail
  refine hK.out _ _ ?s1_14 (fun hHeld => ?_)
  case s1_14 => ((try dsimp only) <;> (first | exact ⟨kd.cell0 p0, kd.cell0 p1, kd.cell0 p2, kd.cell0 p3, kd.cell0 q0, kd.cell0 q1, kd.cell0 q2, kd.cell0 q3, kd.cell0 r0, kd.cell0 r1, kd.cell0 r2, kd.cell0 r3⟩))
  clear hK K
  (try simp only [Act.put, List.getElem_toArray, List.getElem_cons_zero, List.getElem_cons_succ, List.setIfInBounds_toArray, List.set_cons_zero, List.set_cons_succ])
  refine wpAnyH_ready (rs := [14]) (by kernel_rfl) (by simp) ?_
  refine AllReadyH.cons rfl (fun K hK => ?_) AllReadyH.nil
  go_simp
  refine (vsame_calls (hV9.keeps j10 (by simp) (by simp)) hV10).mono ?_
  rintro e w11 ⟨rfl, j11⟩
  rw [show decide (nK = nK ∧ Y = Y) = true from by simp]
  replace kd := kd.trans j11
  go_wp2_with fail
  refine hK.out _ _ ?s1_15 (fun hHeld => ?_)
  case s1_15 => ((try dsimp only) <;> (first | exact ⟨kd.cell0 p0, kd.cell0 p1, kd.cell0 p2, kd.cell0 p3, kd.cell0 q0, kd.cell0 q1, kd.cell0 q2, kd.cell0 q3, kd.cell0 r0, kd.cell0 r1, kd.cell0 r2, kd.cell0 r3⟩))
  clear hK K
  (try simp only [Act.put, List.getElem_toArray, List.getElem_cons_zero, List.getElem_cons_succ, List.setIfInBounds_toArray, List.set_cons_zero, List.set_cons_succ])
  refine wpAnyH_take (i := 15) (v := ?v1_16) rfl (by kernel_rfl) (by kernel_rfl) (by kernel_rfl) (fun _ _ _ h => h) (Or.inl ⟨by rfl, ?y1_16⟩) (by assumption) ?r1_16
  case y1_16 => (intro w hSw; (try dsimp only at hSw); go_simp; try with_reducible rfl)
  (try simp only [Act.put, List.getElem_toArray, List.getElem_cons_zero, List.getElem_cons_succ, List.setIfInBounds_toArray, List.set_cons_zero, List.set_cons_succ])
  refine wpAnyH_take (i := 16) (v := ?v1_17) rfl (by kernel_rfl) (by kernel_rfl) (by kernel_rfl) (fun _ _ _ h => h) (Or.inl ⟨by rfl, ?y1_17⟩) (by assumption) ?r1_17
  case y1_17 => (intro w hSw; (try dsimp only at hSw); go_simp; try with_reducible rfl)
  (try simp only [Act.put, List.getElem_toArray, List.getElem_cons_zero, List.getElem_cons_succ, List.setIfInBounds_toArray, List.set_cons_zero, List.set_cons_succ])
  refine wpAnyH_take (i := 17) (v := ?v1_18) rfl (by kernel_rfl) (by kernel_rfl) (by kernel_rfl) (fun _ _ _ h => h) (Or.inl ⟨by rfl, ?y1_18⟩) (by assumption) ?r1_18
  case y1_18 => (intro w hSw; (try dsimp only at hSw); go_simp; try with_reducible rfl)
  (try simp only [Act.put, List.getElem_toArray, List.getElem_cons_zero, List.getElem_cons_succ, List.setIfInBounds_toArray, List.set_cons_zero, List.set_cons_succ])
  refine wpAnyH_take (i := 19) (v := ?v1_19) rfl (by kernel_rfl) (by kernel_rfl) (by kernel_rfl) (fun _ _ _ h => h) (Or.inl ⟨by rfl, ?y1_19⟩) (by assumption) ?r1_19
  case y1_19 => (intro w hSw; (try dsimp only at hSw); go_simp; try with_reducible rfl)
  (try simp only [Act.put, List.getElem_toArray, List.getElem_cons_zero, List.getElem_cons_succ, List.setIfInBounds_toArray, List.set_cons_zero, List.set_cons_succ])
  refine wpAnyH_ready (rs := [18]) (by kernel_rfl) (by simp) ?_
  refine AllReadyH.cons rfl (fun K hK => ?_) AllReadyH.nil
  go_simp
  refine (vlen_calls (hV.keeps kd (by simp) (by simp))).mono ?_
  rintro e w' ⟨rfl, rfl⟩
  go_wp2_with fail
  refine hK.out _ _ ?s1_20 (fun hHeld => ?_)
  case s1_20 => ((try dsimp only) <;> (first | exact ⟨kd.cell0 p0, kd.cell0 p1, kd.cell0 p2, kd.cell0 p3, kd.cell0 q0, kd.cell0 q1, kd.cell0 q2, kd.cell0 q3, kd.cell0 r0, kd.cell0 r1, kd.cell0 r2, kd.cell0 r3⟩))
  clear hK K
  (try simp only [Act.put, List.getElem_toArray, List.getElem_cons_zero, List.getElem_cons_succ, List.setIfInBounds_toArray, List.set_cons_zero, List.set_cons_succ])
  refine wpAnyH_ready (rs := [20]) (by kernel_rfl) (by simp) ?_
  refine AllReadyH.cons rfl (fun K hK => ?_) AllReadyH.nil
  go_simp
  refine (HPp.out _).mono ?_
  rintro e w12 ⟨rfl, j12⟩
  replace kd := kd.trans j12
  go_wp2_with fail
  refine hK.out _ _ ?s1_21 (fun hHeld => ?_)
  case s1_21 => ((try dsimp only) <;> (first | exact ⟨kd.cell0 p0, kd.cell0 p1, kd.cell0 p2, kd.cell0 p3, kd.cell0 q0, kd.cell0 q1, kd.cell0 q2, kd.cell0 q3, kd.cell0 r0, kd.cell0 r1, kd.cell0 r2, kd.cell0 r3⟩))
  clear hK K
  (try simp only [Act.put, List.getElem_toArray, List.getElem_cons_zero, List.getElem_cons_succ, List.setIfInBounds_toArray, List.set_cons_zero, List.set_cons_succ])
  refine wpAnyH_take (i := 21) (v := ?v1_22) rfl (by kernel_rfl) (by kernel_rfl) (by kernel_rfl) (fun _ _ _ h => h) (Or.inl ⟨by rfl, ?y1_22⟩) (by assumption) ?r1_22
  case y1_22 => (intro w hSw; (try dsimp only at hSw); go_simp; try with_reducible rfl)
  (try simp only [Act.put, List.getElem_toArray, List.getElem_cons_zero, List.getElem_cons_succ, List.setIfInBounds_toArray, List.set_cons_zero, List.set_cons_succ])
  refine wpAnyH_take (i := 22) (v := ?v1_23) rfl (by kernel_rfl) (by kernel_rfl) (by kernel_rfl) (fun _ _ _ h => h) (Or.inl ⟨by rfl, ?y1_23⟩) (by assumption) ?r1_23
  case y1_23 => (intro w hSw; (try dsimp only at hSw); go_simp; try with_reducible rfl)
  (try simp only [Act.put, List.getElem_toArray, List.getElem_cons_zero, List.getElem_cons_succ, List.setIfInBounds_toArray, List.set_cons_zero, List.set_cons_succ])
  refine wpAnyH_take (i := 23) (v := ?v1_24) rfl (by kernel_rfl) (by kernel_rfl) (by kernel_rfl) (fun _ _ _ h => h) (Or.inl ⟨by rfl, ?y1_24⟩) (by assumption) ?r1_24
  case y1_24 => (intro w hSw; (try dsimp only at hSw); go_simp; try with_reducible rfl)
  (try simp only [Act.put, List.getElem_toArray, List.getElem_cons_zero, List.getElem_cons_succ, List.setIfInBounds_toArray, List.set_cons_zero, List.set_cons_succ])
  refine wpAnyH_ready (rs := [24]) (by kernel_rfl) (by simp) ?_
  refine AllReadyH.cons rfl (fun K hK => ?_) AllReadyH.nil
  go_simp
  refine (awake8_calls (ht5.keeps kd (by simp))).mono ?_
  rintro e w13 ⟨rfl, j13⟩
  replace kd := kd.trans j13
  go_wp2_with fail
  refine hK.out _ _ ?s1_25 (fun hHeld => ?_)
  case s1_25 => ((try dsimp only) <;> (first | exact ⟨kd.cell0 p0, kd.cell0 p1, kd.cell0 p2, kd.cell0 p3, kd.cell0 q0, kd.cell0 q1, kd.cell0 q2, kd.cell0 q3, kd.cell0 r0, kd.cell0 r1, kd.cell0 r2, kd.cell0 r3⟩))
  clear hK K
  (try simp only [Act.put, List.getElem_toArray, List.getElem_cons_zero, List.getElem_cons_succ, List.setIfInBounds_toArray, List.set_cons_zero, List.set_cons_succ])
  refine wpAnyH_take (i := 25) (v := ?v1_26) rfl (by kernel_rfl) (by kernel_rfl) (by kernel_rfl) (fun _ _ _ h => h) (Or.inl ⟨by rfl, ?y1_26⟩) (by assumption) ?r1_26
  case y1_26 => (intro w hSw; (try dsimp only at hSw); go_simp; try with_reducible rfl)
  (try simp only [Act.put, List.getElem_toArray, List.getElem_cons_zero, List.getElem_cons_succ, List.setIfInBounds_toArray, List.set_cons_zero, List.set_cons_succ])
  refine wpAnyH_take (i := 26) (v := ?v1_27) rfl (by kernel_rfl) (by kernel_rfl) (by kernel_rfl) (fun _ _ _ h => h) (Or.inl ⟨by rfl, ?y1_27⟩) (by assumption) ?r1_27
  case y1_27 => (intro w hSw; (try dsimp only at hSw); go_simp; try with_reducible rfl)
  (try simp only [Act.put, List.getElem_toArray, List.getElem_cons_zero, List.getElem_cons_succ, List.setIfInBounds_toArray, List.set_cons_zero, List.set_cons_succ])
  refine wpAnyH_done (by kernel_rfl) ?_ _
  refine NoPanic.normal ?_
  go_wp2_with fail
  go_ret
  exact ⟨rfl, kk.trans kd⟩

end Go.Proofs.YtghgmchgbhdldaaDoor
