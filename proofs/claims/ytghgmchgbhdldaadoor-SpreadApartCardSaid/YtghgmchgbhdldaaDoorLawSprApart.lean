/-
  LawSprApart: downpourlaw8.SpreadApart, walked.
-/
import Derived.Test.YtghgmchgbhdldaaDoorApLike
import Derived.Deep.Cut
set_option linter.unusedVariables false
set_option linter.unusedSimpArgs false
namespace Go.Proofs.YtghgmchgbhdldaaDoor
open Go.RowKit
attribute [local go_sem ↓] Go.wp_at_zero Go.wp_at_succ

theorem vset_any {w : World} {p g n X : Nat} (h : VecAt w p g n X) (i : Int) (on : Bool) :
    Calls Tryd.prog 19 #[.pointer (some ⟨p, 0, none⟩), .int .i64 i, .bool on] w fun e w' => ∃ (b : Bool) (X' : Nat), e = .returned (.bool b) ∧ VecAt w' p g n X' ∧ Keeps [g] w w' := by
  by_cases hi : 0 ≤ i ∧ i < n
  · obtain ⟨k, rfl⟩ : ∃ k : Nat, i = k := ⟨i.toNat, by omega⟩
    exact (vset_calls h k on (by omega)).mono fun e w' ⟨h1, h2, h3⟩ => ⟨true, _, h1, h2, h3⟩
  · exact (vsetout_calls h i on hi).mono fun e w' ⟨h1, h2⟩ => ⟨false, X, h1, h2 ▸ h, h2 ▸ Keeps.refl _ _⟩

set_option maxRecDepth 100000 in
set_option maxHeartbeats 1000000 in
theorem spreadApart_walk {w : World} (ht : TzAt w) (s : UInt32) (k p z : Int) (id : UInt32) (i : Int) :
    Calls Tryd.prog 6 #[.agg #[B32 s, .int .i64 k, .int .i64 p, .int .i64 z], B32 id, .int .i64 i] w fun e w' => e = .returned (.bool true) ∧ Keeps [] w w' := by
  have kA : Keeps [] w (w.alloc (.cells #[B32 s, .int .i64 k, .int .i64 p, .int .i64 z] 24)) := (Keeps.refl [] w).alloc _
  have hB0 := Blk.newA w 24 #[B32 s, .int .i64 k, .int .i64 p, .int .i64 z]
  go_enter Tryd.func6, Tryd.ntmps6
  go_wp2_with fail
  generalize w.alloc (.cells #[B32 s, .int .i64 k, .int .i64 p, .int .i64 z] 24) = w0 at *
  refine (sound_calls s k p z).mono ?_
  rintro e w1 ⟨nK, P, Z, rfl, hs, k1⟩
  have hB1 := hB0.keeps k1 (by simp)
  have c0 := hB1.cell' (i := 0) rfl
  have c1 := hB1.cell' (i := 1) rfl
  have c2 := hB1.cell' (i := 2) rfl
  have c3 := hB1.cell' (i := 3) rfl
  have f0 := hB1.frozen 0
  have f1 := hB1.frozen 1
  have f2 := hB1.frozen 2
  have f3 := hB1.frozen 3
  have hsj := succ_int id
  have hsw : IntKind.u32.wrap ((id.toNat : Int) + 1) = ((id + 1).toNat : Int) := by rw [IntKind.wrap_u32, ← hsj]
  go_upto_region 2 with (fail)
  have hB2 := hB1.put4 (B32 s) (.int .i64 nK) (.int .i64 P) (.int .i64 Z)
  have k2 := (kA.trans k1).put4 (.inr (Nat.le_refl _)) (B32 s) (.int .i64 nK) (.int .i64 P) (.int .i64 Z)
  clear c0 c1 c2 c3 f0 f1 f2 f3 hB1 hB0 kA k1
  generalize ((((w1.setCell ⟨w.heap.size, 0, none⟩ (B32 s)).setCell ⟨w.heap.size, 1, none⟩ (.int .i64 nK)).setCell ⟨w.heap.size, 2, none⟩ (.int .i64 P)).setCell ⟨w.heap.size, 3, none⟩ (.int .i64 Z)) = w2 at *
  have hpb := hB2.lt
  have c0 := hB2.cell' (i := 0) rfl
  have c1 := hB2.cell' (i := 1) rfl
  have c2 := hB2.cell' (i := 2) rfl
  have c3 := hB2.cell' (i := 3) rfl
  have hR := fun (w : World) => rowS_calls (w := w) s hs id
  have hR1 := fun (w : World) => rowS_calls (w := w) s hs (id + 1)
  have hRr := fun (w : World) => rrow_calls (w := w) s hs id
  have hbll : (bitsOf (nK + P) (rowN s nK P id)).length ≤ nK + P := by unfold bitsOf; exact Nat.le_trans (List.length_filter_le _ _) (by simp)
  have hn80 : nK + P ≤ 80 := by have := hs.k2; have := hs.p2; omega
  generalize rowN s nK P id = X at *
  generalize rowN s nK P (id + 1) = Y at *
  generalize nK + P = n at *
  generalize id + 1 = id1 at *
  have ht2 := ht.keeps k2 (by simp)
  have HR := Lib.hid hR
  have HR1 := Lib.hid hR1
  have HRr := Lib.hid hRr
  clear hR hR1 hRr hs
  refine wp_region_noPanic ?_
  refine wp_region_held_drew (S := (fun w' => w'.cell? ⟨w.heap.size, 0, none⟩ = some (B32 s) ∧ w'.cell? ⟨w.heap.size, 1, none⟩ = some (.int .i64 nK) ∧ w'.cell? ⟨w.heap.size, 2, none⟩ = some (.int .i64 P) ∧ w'.cell? ⟨w.heap.size, 3, none⟩ = some (.int .i64 Z))) (by kernel_rfl) ⟨c0, c1, c2, c3⟩ (fun hHeld => ?_)
  have kd : Keeps [] w2 w2.drew := (Keeps.refl [] w2).drew
  refine wpAnyH_take (i := 0) (v := ?v1_1) rfl (by kernel_rfl) (by kernel_rfl) (by kernel_rfl) (fun _ _ _ h => h) (Or.inl ⟨by rfl, ?y1_1⟩) (by assumption) ?r1_1
  case y1_1 => (intro w hSw; (try dsimp only at hSw); go_simp; try with_reducible rfl)
  (try simp only [Act.put, List.getElem_toArray, List.getElem_cons_zero, List.getElem_cons_succ, List.setIfInBounds_toArray, List.set_cons_zero, List.set_cons_succ])
  refine wpAnyH_take (i := 1) (v := ?v1_2) rfl (by kernel_rfl) (by kernel_rfl) (by kernel_rfl) (fun _ _ _ h => h) (Or.inl ⟨by rfl, ?y1_2⟩) (by assumption) ?r1_2
  case y1_2 => (intro w hSw; (try dsimp only at hSw); go_simp; try with_reducible rfl)
  (try simp only [Act.put, List.getElem_toArray, List.getElem_cons_zero, List.getElem_cons_succ, List.setIfInBounds_toArray, List.set_cons_zero, List.set_cons_succ])
  refine wpAnyH_take (i := 3) (v := ?v1_3) rfl (by kernel_rfl) (by kernel_rfl) (by kernel_rfl) (fun _ _ _ h => h) (Or.inl ⟨by rfl, ?y1_3⟩) (by assumption) ?r1_3
  case y1_3 => (intro w hSw; (try dsimp only at hSw); go_simp; try with_reducible rfl)
  (try simp only [Act.put, List.getElem_toArray, List.getElem_cons_zero, List.getElem_cons_succ, List.setIfInBounds_toArray, List.set_cons_zero, List.set_cons_succ])
  refine wpAnyH_take (i := 4) (v := ?v1_4) rfl (by kernel_rfl) (by kernel_rfl) (by kernel_rfl) (fun _ _ _ h => h) (Or.inl ⟨by rfl, ?y1_4⟩) (by assumption) ?r1_4
  case y1_4 => (intro w hSw; (try dsimp only at hSw); go_simp; try with_reducible rfl)
  (try simp only [Act.put, List.getElem_toArray, List.getElem_cons_zero, List.getElem_cons_succ, List.setIfInBounds_toArray, List.set_cons_zero, List.set_cons_succ])
  refine wpAnyH_ready (rs := [2]) (by kernel_rfl) (by simp) ?_
  refine AllReadyH.cons rfl (fun K hK => ?_) AllReadyH.nil
  go_simp
  refine (HR.out _).mono ?_
  rintro e w3 ⟨p1, g1, rfl, hp1, hg1, hV1, j3⟩
  replace kd := kd.trans j3
  go_wp2_with fail
  refine hK.out _ _ ?s1_5 (fun hHeld => ?_)
  case s1_5 => ((try dsimp only) <;> (first | exact ⟨kd.cell0 c0, kd.cell0 c1, kd.cell0 c2, kd.cell0 c3⟩))
  clear hK K
  (try simp only [Act.put, List.getElem_toArray, List.getElem_cons_zero, List.getElem_cons_succ, List.setIfInBounds_toArray, List.set_cons_zero, List.set_cons_succ])
  refine wpAnyH_ready (rs := [5]) (by kernel_rfl) (by simp) ?_
  refine AllReadyH.cons rfl (fun K hK => ?_) AllReadyH.nil
  go_simp
  refine (HR.out _).mono ?_
  rintro e w4 ⟨p2, g2, rfl, hp2, hg2, hV2, j4⟩
  replace kd := kd.trans j4
  go_wp2_with fail
  refine hK.out _ _ ?s1_6 (fun hHeld => ?_)
  case s1_6 => ((try dsimp only) <;> (first | exact ⟨kd.cell0 c0, kd.cell0 c1, kd.cell0 c2, kd.cell0 c3⟩))
  clear hK K
  (try simp only [Act.put, List.getElem_toArray, List.getElem_cons_zero, List.getElem_cons_succ, List.setIfInBounds_toArray, List.set_cons_zero, List.set_cons_succ])
  refine wpAnyH_take (i := 6) (v := ?v1_7) rfl (by kernel_rfl) (by kernel_rfl) (by kernel_rfl) (fun _ _ _ h => h) (Or.inl ⟨by rfl, ?y1_7⟩) (by assumption) ?r1_7
  case y1_7 => (intro w hSw; (try dsimp only at hSw); go_simp; try with_reducible rfl)
  (try simp only [Act.put, List.getElem_toArray, List.getElem_cons_zero, List.getElem_cons_succ, List.setIfInBounds_toArray, List.set_cons_zero, List.set_cons_succ])
  refine wpAnyH_take (i := 7) (v := ?v1_8) rfl (by kernel_rfl) (by kernel_rfl) (by kernel_rfl) (fun _ _ _ h => h) (Or.inl ⟨by rfl, ?y1_8⟩) (by assumption) ?r1_8
  case y1_8 => (intro w hSw; (try dsimp only at hSw); go_simp; try with_reducible rfl)
  (try simp only [Act.put, List.getElem_toArray, List.getElem_cons_zero, List.getElem_cons_succ, List.setIfInBounds_toArray, List.set_cons_zero, List.set_cons_succ])
  refine wpAnyH_done (by kernel_rfl) ?_ _
  refine NoPanic.normal ?_
  have hV1' := hV1.keeps j4 (by simp) (by simp)
  have hlp1 := hV1.b.lt
  have hlg1 := hV1.r.lt
  have hsz3 : w2.heap.size ≤ w3.heap.size := j3.size
  have k4 := k2.trans kd
  have ht4 := ht2.keeps kd (by simp)
  have hB4 := hB2.keeps kd (by simp)
  have hw2 := k2.size
  have hg1' : w2.heap.size ≤ g1 := hg1
  have hp1' : w2.heap.size ≤ p1 := hp1
  clear hV1 c0 c1 c2 c3 hB2 k2 kd ht2 hg1 hp1 hHeld
  go_wp2_with fail
  refine (vhas_calls hV1' i).mono ?_
  rintro e w' ⟨rfl, rfl⟩
  generalize (decide (0 ≤ i ∧ i < (n : Int)) && X.testBit i.toNat) = b
  go_wp2_with fail
  refine (vset_any hV1' i _).mono ?_
  rintro e w5 ⟨b5, X5, rfl, hV5, k5⟩
  have hB5 := hB4.keeps k5 (by simp; omega)
  have c0 := hB5.cell' (i := 0) rfl
  have c1 := hB5.cell' (i := 1) rfl
  have c2 := hB5.cell' (i := 2) rfl
  have c3 := hB5.cell' (i := 3) rfl
  go_wp2_with fail
  refine (HR1.out w5).mono ?_
  rintro e w6 ⟨p3, g3, rfl, hp3, hg3, hV3, k6⟩
  have hs5 := k5.size
  have hs4 := j4.size
  go_wp2_with fail
  refine (vxor_calls (hV5.keeps k6 (by simp) (by simp)) hV3 (by omega) (by omega)).mono ?_
  rintro e w7 ⟨rfl, hV7, k7⟩
  have k47 : Keeps [g1] w4 w7 := (k5.trans' k6 (fun _ h => .inl h) (by simp)).trans k7
  have hV27 := hV2.keeps k47 (by simp; omega) (by simp; omega)
  have ht7 := ht4.keeps k47 (by simp; omega)
  have hB7 := hB4.keeps k47 (by simp; omega)
  have kk7 := k4.trans' k47 (fun _ h => .inl h) (fun x hx => .inr (by simp at hx; omega))
  have e0 := hB7.cell' (i := 0) rfl
  have e1 := hB7.cell' (i := 1) rfl
  have e2 := hB7.cell' (i := 2) rfl
  have e3 := hB7.cell' (i := 3) rfl
  clear c0 c1 c2 c3 hB4 hB5 hB7 hV5 hV3 hV7 hV2 hV1' hsj hsw ht4
  have kd : Keeps [] w7 w7 := Keeps.refl [] w7
  go_wp2_with fail
  refine (HRr.out _).mono ?_
  rintro e w8 ⟨b8, rfl, _, hb8, j8⟩
  replace kd := kd.trans j8
  go_wp2_with fail
  refine (like_calls (hV27.keeps kd (by simp) (by simp)) hb8 (ht7.keeps kd (by simp))).mono ?_
  rintro e w9 ⟨rfl, j9⟩
  replace kd := kd.trans j9
  have q0 := kd.cell0 e0
  have q1 := kd.cell0 e1
  have q2 := kd.cell0 e2
  have q3 := kd.cell0 e3
  go_wp2_with fail
  refine (HRr.out _).mono ?_
  rintro e w10 ⟨b10, rfl, _, hb10, j10⟩
  replace kd := kd.trans j10
  go_wp2_with fail
  refine (rlist_calls hb10 (by omega) n (Nat.le_refl _) (by omega)).mono ?_
  rintro e w11 ⟨v11, rfl, hO11, j11⟩
  obtain ⟨a11, c11, rfl, i1, i2, _⟩ := hO11.ints
  clear hO11
  replace kd := kd.trans j11
  go_wp2_with fail
  refine (vcount_calls (hV27.keeps kd (by simp) (by simp))).mono ?_
  rintro e w' ⟨rfl, rfl⟩
  go_wp2_with fail
  refine (awake8_calls (ht7.keeps kd (by simp))).mono ?_
  rintro e w13 ⟨rfl, j13⟩
  replace kd := kd.trans j13
  go_wp2_with fail
  go_ret
  exact ⟨rfl, kk7.trans kd⟩

end Go.Proofs.YtghgmchgbhdldaaDoor
