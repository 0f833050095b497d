/-
  LawSprSome: downpourlaw8.SpreadSome, walked.
-/
import Derived.Test.YtghgmchgbhdldaaDoorLaw8
set_option linter.unusedVariables false
set_option linter.unusedSimpArgs false
namespace Go.Proofs.YtghgmchgbhdldaaDoor
open Go.RowKit
attribute [local go_sem ↓] Go.wp_at_zero Go.wp_at_succ

set_option maxRecDepth 100000 in
set_option maxHeartbeats 1000000 in
theorem spreadSome_walk {w : World} (ht : TzAt w) (s : UInt32) (k p z : Int) (id : UInt32) (size : Int) :
    Calls Tryd.prog 3 #[.agg #[B32 s, .int .i64 k, .int .i64 p, .int .i64 z], B32 id, .int .i64 size] w fun e w' => e = .returned (.bool true) ∧ Keeps [] w w' := by
  have kA : Keeps [] w (w.alloc (.cells #[B32 s, .int .i64 k, .int .i64 p, .int .i64 z] 24)) := (Keeps.refl [] w).alloc _
  have hB0 := Blk.newA w 24 #[B32 s, .int .i64 k, .int .i64 p, .int .i64 z]
  obtain ⟨q, hq, eq1, eq2⟩ := umod size 16 (by omega) (by omega)
  go_enter Tryd.func3, Tryd.ntmps3
  go_wp2_with fail
  generalize w.alloc (.cells #[B32 s, .int .i64 k, .int .i64 p, .int .i64 z] 24) = w0 at *
  refine (sound_calls s k p z).mono ?_
  rintro e w1 ⟨K, P, Z, rfl, hs, k1⟩
  have hB1 := hB0.keeps k1 (by simp)
  have c0 := hB1.cell' (i := 0) rfl
  have c1 := hB1.cell' (i := 1) rfl
  have c2 := hB1.cell' (i := 2) rfl
  have c3 := hB1.cell' (i := 3) rfl
  have f0 := hB1.frozen 0
  have f1 := hB1.frozen 1
  have f2 := hB1.frozen 2
  have f3 := hB1.frozen 3
  go_wp2_with fail
  have hB2 := hB1.put4 (B32 s) (.int .i64 K) (.int .i64 P) (.int .i64 Z)
  have k2 := (kA.trans k1).put4 (.inr (Nat.le_refl _)) (B32 s) (.int .i64 K) (.int .i64 P) (.int .i64 Z)
  clear c0 c1 c2 c3 f0 f1 f2 f3 hB1 hB0 kA k1
  generalize ((((w1.setCell ⟨w.heap.size, 0, none⟩ (B32 s)).setCell ⟨w.heap.size, 1, none⟩ (.int .i64 K)).setCell ⟨w.heap.size, 2, none⟩ (.int .i64 P)).setCell ⟨w.heap.size, 3, none⟩ (.int .i64 Z)) = w2 at *
  have hlt := rowN_first s K P id hs.k1 (by have := hs.k2; have := hs.p2; omega)
  obtain ⟨hm1, hm2⟩ := rowN_count s K P id hs.k1 (by have := hs.k2; have := hs.p2; omega)
  have hR : ∀ (w : World) (Z : Nat), 1 ≤ Z → Z ≤ 16 → Calls Tryd.prog 8 #[.agg #[B32 s, .int .i64 K, .int .i64 P, .int .i64 Z], B32 id] w (VecNew w (K + P) (rowN s K P id)) := fun w Z h1 h2 => rowS_calls s ⟨hs.k1, hs.k2, hs.p2, h1, h2⟩ id
  have hz1 := hs.z1
  have hz2 := hs.z2
  have hk2 := hs.k2
  have hn : (K : Int) + (P : Int) = ((K + P : Nat) : Int) := by omega
  have hn80 : K + P ≤ 80 := by have := hs.p2; omega
  obtain ⟨Y, hY, hY1, hY2⟩ : ∃ Y : Nat, (1 : Int) + (q : Int) = (Y : Int) ∧ 1 ≤ Y ∧ Y ≤ 16 := ⟨1 + q, by omega, by omega, by omega⟩
  have hco := fun (w : World) (p g : Nat) (h : VecAt w p g (K + P) (rowN s K P id)) => vcount_calls h
  generalize rowN s K P id = X at *
  generalize K + P = n at *
  have ht2 := ht.keeps k2 (by simp)
  refine (hR w2 Z hz1 hz2).mono ?_
  rintro e w3 ⟨vp, vg, rfl, hvp, hvg, hV, k3⟩
  have hB3 := hB2.keeps k3 (by simp)
  have hQ := Blk.newA w3 24 #[B32 s, .int .i64 K, .int .i64 P, .int .i64 Y]
  have kQ : Keeps [] w3 (w3.alloc (.cells #[B32 s, .int .i64 K, .int .i64 P, .int .i64 Y] 24)) := (Keeps.refl [] w3).alloc _
  have c0 := hB3.cell' (i := 0) rfl
  have c1 := hB3.cell' (i := 1) rfl
  have c2 := hB3.cell' (i := 2) rfl
  have c3 := hB3.cell' (i := 3) rfl
  go_wp2_with fail
  have hV4 := hV.keeps kQ (by simp) (by simp)
  have ht4 := (ht2.keeps k3 (by simp)).keeps kQ (by simp)
  have b0 := kQ.cell0 c0
  have b1 := kQ.cell0 c1
  have b2 := kQ.cell0 c2
  have b3 := kQ.cell0 c3
  have d0 := hQ.cell' (i := 0) rfl
  have d1 := hQ.cell' (i := 1) rfl
  have d2 := hQ.cell' (i := 2) rfl
  have d3 := hQ.cell' (i := 3) rfl
  have k4 := (k2.trans k3).trans kQ
  clear c0 c1 c2 c3 hQ hB3 hB2 k2 k3 kQ hV ht2 ht eq1 eq2 hY
  generalize w3.alloc (.cells #[B32 s, .int .i64 K, .int .i64 P, .int .i64 Y] 24) = w4 at *
  have hco4 := hco w4 vp vg hV4
  generalize (bitsOf n X).length = m at *
  refine hco4.mono ?_
  rintro e w' ⟨rfl, rfl⟩
  have e0 : IntKind.i64.wrap (n : Int) = (n : Int) := IntWalk.i64_in _ (by omega)
  have e1 : decide ((m : Int) < 1) = false := by simp; omega
  have e2 : decide (n < m) = false := by simp; omega
  go_wp2_with fail
  refine wp_region_noPanic ?_
  refine wp_region_held_drew (S := (fun w' => w'.cell? ⟨w.heap.size, 0, none⟩ = some (B32 s) ∧ w'.cell? ⟨w.heap.size, 1, none⟩ = some (.int .i64 K) ∧ w'.cell? ⟨w.heap.size, 2, none⟩ = some (.int .i64 P) ∧ w'.cell? ⟨w.heap.size, 3, none⟩ = some (.int .i64 Z) ∧ w'.cell? ⟨w3.heap.size, 0, none⟩ = some (B32 s) ∧ w'.cell? ⟨w3.heap.size, 1, none⟩ = some (.int .i64 K) ∧ w'.cell? ⟨w3.heap.size, 2, none⟩ = some (.int .i64 P) ∧ w'.cell? ⟨w3.heap.size, 3, none⟩ = some (.int .i64 Y))) (by kernel_rfl) ⟨b0, b1, b2, b3, d0, d1, d2, d3⟩ (fun hHeld => ?_)
  refine wpAnyH_take (i := 0) (v := ?v1_1) rfl (by kernel_rfl) (by kernel_rfl) (by kernel_rfl) (fun _ _ _ h => h) (Or.inl ⟨by rfl, ?y1_1⟩) (by assumption) ?r1_1
  case y1_1 => (intro w hSw; (try dsimp only at hSw); go_simp; try with_reducible rfl)
  (try simp only [Act.put, List.getElem_toArray, List.getElem_cons_zero, List.getElem_cons_succ, List.setIfInBounds_toArray, List.set_cons_zero, List.set_cons_succ])
  refine wpAnyH_take (i := 1) (v := ?v1_2) rfl (by kernel_rfl) (by kernel_rfl) (by kernel_rfl) (fun _ _ _ h => h) (Or.inl ⟨by rfl, ?y1_2⟩) (by assumption) ?r1_2
  case y1_2 => (intro w hSw; (try dsimp only at hSw); go_simp; try with_reducible rfl)
  (try simp only [Act.put, List.getElem_toArray, List.getElem_cons_zero, List.getElem_cons_succ, List.setIfInBounds_toArray, List.set_cons_zero, List.set_cons_succ])
  refine wpAnyH_take (i := 2) (v := ?v1_3) rfl (by kernel_rfl) (by kernel_rfl) (by kernel_rfl) (fun _ _ _ h => h) (Or.inl ⟨by rfl, ?y1_3⟩) (by assumption) ?r1_3
  case y1_3 => (intro w hSw; (try dsimp only at hSw); go_simp; try with_reducible rfl)
  (try simp only [Act.put, List.getElem_toArray, List.getElem_cons_zero, List.getElem_cons_succ, List.setIfInBounds_toArray, List.set_cons_zero, List.set_cons_succ])
  refine wpAnyH_take (i := 3) (v := ?v1_4) rfl (by kernel_rfl) (by kernel_rfl) (by kernel_rfl) (fun _ _ _ h => h) (Or.inl ⟨by rfl, ?y1_4⟩) (by assumption) ?r1_4
  case y1_4 => (intro w hSw; (try dsimp only at hSw); go_simp; try with_reducible rfl)
  (try simp only [Act.put, List.getElem_toArray, List.getElem_cons_zero, List.getElem_cons_succ, List.setIfInBounds_toArray, List.set_cons_zero, List.set_cons_succ])
  refine wpAnyH_take (i := 4) (v := ?v1_5) rfl (by kernel_rfl) (by kernel_rfl) (by kernel_rfl) (fun _ _ _ h => h) (Or.inl ⟨by rfl, ?y1_5⟩) (by assumption) ?r1_5
  case y1_5 => (intro w hSw; (try dsimp only at hSw); go_simp; try with_reducible rfl)
  (try simp only [Act.put, List.getElem_toArray, List.getElem_cons_zero, List.getElem_cons_succ, List.setIfInBounds_toArray, List.set_cons_zero, List.set_cons_succ])
  refine wpAnyH_take (i := 5) (v := ?v1_6) rfl (by kernel_rfl) (by kernel_rfl) (by kernel_rfl) (fun _ _ _ h => h) (Or.inl ⟨by rfl, ?y1_6⟩) (by assumption) ?r1_6
  case y1_6 => (intro w hSw; (try dsimp only at hSw); go_simp; try with_reducible rfl)
  (try simp only [Act.put, List.getElem_toArray, List.getElem_cons_zero, List.getElem_cons_succ, List.setIfInBounds_toArray, List.set_cons_zero, List.set_cons_succ])
  refine wpAnyH_take (i := 6) (v := ?v1_7) rfl (by kernel_rfl) (by kernel_rfl) (by kernel_rfl) (fun _ _ _ h => h) (Or.inl ⟨by rfl, ?y1_7⟩) (by assumption) ?r1_7
  case y1_7 => (intro w hSw; (try dsimp only at hSw); go_simp; try with_reducible rfl)
  (try simp only [Act.put, List.getElem_toArray, List.getElem_cons_zero, List.getElem_cons_succ, List.setIfInBounds_toArray, List.set_cons_zero, List.set_cons_succ])
  refine wpAnyH_take (i := 7) (v := ?v1_8) rfl (by kernel_rfl) (by kernel_rfl) (by kernel_rfl) (fun _ _ _ h => h) (Or.inl ⟨by rfl, ?y1_8⟩) (by assumption) ?r1_8
  case y1_8 => (intro w hSw; (try dsimp only at hSw); go_simp; try with_reducible rfl)
  (try simp only [Act.put, List.getElem_toArray, List.getElem_cons_zero, List.getElem_cons_succ, List.setIfInBounds_toArray, List.set_cons_zero, List.set_cons_succ])
  refine wpAnyH_take (i := 8) (v := ?v1_9) rfl (by kernel_rfl) (by kernel_rfl) (by kernel_rfl) (fun _ _ _ h => h) (Or.inl ⟨by rfl, ?y1_9⟩) (by assumption) ?r1_9
  case y1_9 => (intro w hSw; (try dsimp only at hSw); go_simp; try with_reducible rfl)
  (try simp only [Act.put, List.getElem_toArray, List.getElem_cons_zero, List.getElem_cons_succ, List.setIfInBounds_toArray, List.set_cons_zero, List.set_cons_succ])
  refine wpAnyH_take (i := 9) (v := ?v1_10) rfl (by kernel_rfl) (by kernel_rfl) (by kernel_rfl) (fun _ _ _ h => h) (Or.inl ⟨by rfl, ?y1_10⟩) (by assumption) ?r1_10
  case y1_10 => (intro w hSw; (try dsimp only at hSw); go_simp; try with_reducible rfl)
  (try simp only [Act.put, List.getElem_toArray, List.getElem_cons_zero, List.getElem_cons_succ, List.setIfInBounds_toArray, List.set_cons_zero, List.set_cons_succ])
  refine wpAnyH_take (i := 10) (v := ?v1_11) rfl (by kernel_rfl) (by kernel_rfl) (by kernel_rfl) (fun _ _ _ h => h) (Or.inl ⟨by rfl, ?y1_11⟩) (by assumption) ?r1_11
  case y1_11 => (intro w hSw; (try dsimp only at hSw); go_simp; try with_reducible rfl)
  (try simp only [Act.put, List.getElem_toArray, List.getElem_cons_zero, List.getElem_cons_succ, List.setIfInBounds_toArray, List.set_cons_zero, List.set_cons_succ])
  refine wpAnyH_take (i := 11) (v := ?v1_12) rfl (by kernel_rfl) (by kernel_rfl) (by kernel_rfl) (fun _ _ _ h => h) (Or.inl ⟨by rfl, ?y1_12⟩) (by assumption) ?r1_12
  case y1_12 => (intro w hSw; (try dsimp only at hSw); go_simp; try with_reducible rfl)
  (try simp only [Act.put, List.getElem_toArray, List.getElem_cons_zero, List.getElem_cons_succ, List.setIfInBounds_toArray, List.set_cons_zero, List.set_cons_succ])
  refine wpAnyH_take (i := 12) (v := ?v1_13) rfl (by kernel_rfl) (by kernel_rfl) (by kernel_rfl) (fun _ _ _ h => h) (Or.inl ⟨by rfl, ?y1_13⟩) (by assumption) ?r1_13
  case y1_13 => (intro w hSw; (try dsimp only at hSw); go_simp; try with_reducible rfl)
  (try simp only [Act.put, List.getElem_toArray, List.getElem_cons_zero, List.getElem_cons_succ, List.setIfInBounds_toArray, List.set_cons_zero, List.set_cons_succ])
  refine wpAnyH_take (i := 14) (v := ?v1_14) rfl (by kernel_rfl) (by kernel_rfl) (by kernel_rfl) (fun _ _ _ h => h) (Or.inl ⟨by rfl, ?y1_14⟩) (by assumption) ?r1_14
  case y1_14 => (intro w hSw; (try dsimp only at hSw); go_simp; try with_reducible rfl)
  (try simp only [Act.put, List.getElem_toArray, List.getElem_cons_zero, List.getElem_cons_succ, List.setIfInBounds_toArray, List.set_cons_zero, List.set_cons_succ])
  refine wpAnyH_take (i := 15) (v := ?v1_15) rfl (by kernel_rfl) (by kernel_rfl) (by kernel_rfl) (fun _ _ _ h => h) (Or.inl ⟨by rfl, ?y1_15⟩) (by assumption) ?r1_15
  case y1_15 => (intro w hSw; (try dsimp only at hSw); go_simp; try with_reducible rfl)
  (try simp only [Act.put, List.getElem_toArray, List.getElem_cons_zero, List.getElem_cons_succ, List.setIfInBounds_toArray, List.set_cons_zero, List.set_cons_succ])
  refine wpAnyH_take (i := 16) (v := ?v1_16) rfl (by kernel_rfl) (by kernel_rfl) (by kernel_rfl) (fun _ _ _ h => h) (Or.inl ⟨by rfl, ?y1_16⟩) (by assumption) ?r1_16
  case y1_16 => (intro w hSw; (try dsimp only at hSw); go_simp; try with_reducible rfl)
  (try simp only [Act.put, List.getElem_toArray, List.getElem_cons_zero, List.getElem_cons_succ, List.setIfInBounds_toArray, List.set_cons_zero, List.set_cons_succ])
  refine wpAnyH_take (i := 17) (v := ?v1_17) rfl (by kernel_rfl) (by kernel_rfl) (by kernel_rfl) (fun _ _ _ h => h) (Or.inl ⟨by rfl, ?y1_17⟩) (by assumption) ?r1_17
  case y1_17 => (intro w hSw; (try dsimp only at hSw); go_simp; try with_reducible rfl)
  (try simp only [Act.put, List.getElem_toArray, List.getElem_cons_zero, List.getElem_cons_succ, List.setIfInBounds_toArray, List.set_cons_zero, List.set_cons_succ])
  refine wpAnyH_take (i := 18) (v := ?v1_18) rfl (by kernel_rfl) (by kernel_rfl) (by kernel_rfl) (fun _ _ _ h => h) (Or.inl ⟨by rfl, ?y1_18⟩) (by assumption) ?r1_18
  case y1_18 => (intro w hSw; (try dsimp only at hSw); go_simp; try with_reducible rfl)
  (try simp only [Act.put, List.getElem_toArray, List.getElem_cons_zero, List.getElem_cons_succ, List.setIfInBounds_toArray, List.set_cons_zero, List.set_cons_succ])
  refine wpAnyH_ready (rs := [13]) (by kernel_rfl) (by simp) ?_
  refine AllReadyH.cons rfl (fun K hK => ?_) AllReadyH.nil
  go_simp
  refine (vlen_calls (hV4.keeps (Keeps.refl [] w4).drew (by simp) (by simp))).mono ?_
  rintro e w' ⟨rfl, rfl⟩
  go_wp2_with fail
  refine hK.out _ _ ?s1_19 (fun hHeld => ?_)
  case s1_19 => ((try dsimp only) <;> (first | exact ⟨b0, b1, b2, b3, d0, d1, d2, d3⟩))
  clear hK K
  (try simp only [Act.put, List.getElem_toArray, List.getElem_cons_zero, List.getElem_cons_succ, List.setIfInBounds_toArray, List.set_cons_zero, List.set_cons_succ])
  refine wpAnyH_take (i := 19) (v := ?v1_20) rfl (by kernel_rfl) (by kernel_rfl) (by kernel_rfl) (fun _ _ _ h => h) (Or.inl ⟨by rfl, ?y1_20⟩) (by assumption) ?r1_20
  case y1_20 => (intro w hSw; (try dsimp only at hSw); go_simp; try with_reducible rfl)
  (try simp only [Act.put, List.getElem_toArray, List.getElem_cons_zero, List.getElem_cons_succ, List.setIfInBounds_toArray, List.set_cons_zero, List.set_cons_succ])
  refine wpAnyH_take (i := 20) (v := ?v1_21) rfl (by kernel_rfl) (by kernel_rfl) (by kernel_rfl) (fun _ _ _ h => h) (Or.inl ⟨by rfl, ?y1_21⟩) (by assumption) ?r1_21
  case y1_21 => (intro w hSw; (try dsimp only at hSw); go_simp; try with_reducible rfl)
  (try simp only [Act.put, List.getElem_toArray, List.getElem_cons_zero, List.getElem_cons_succ, List.setIfInBounds_toArray, List.set_cons_zero, List.set_cons_succ])
  refine wpAnyH_take (i := 21) (v := ?v1_22) rfl (by kernel_rfl) (by kernel_rfl) (by kernel_rfl) (fun _ _ _ h => h) (Or.inl ⟨by rfl, ?y1_22⟩) (by assumption) ?r1_22
  case y1_22 => (intro w hSw; (try dsimp only at hSw); go_simp; try with_reducible rfl)
  (try simp only [Act.put, List.getElem_toArray, List.getElem_cons_zero, List.getElem_cons_succ, List.setIfInBounds_toArray, List.set_cons_zero, List.set_cons_succ])
  refine wpAnyH_take (i := 22) (v := ?v1_23) rfl (by kernel_rfl) (by kernel_rfl) (by kernel_rfl) (fun _ _ _ h => h) (Or.inl ⟨by rfl, ?y1_23⟩) (by assumption) ?r1_23
  case y1_23 => (intro w hSw; (try dsimp only at hSw); go_simp; try with_reducible rfl)
  (try simp only [Act.put, List.getElem_toArray, List.getElem_cons_zero, List.getElem_cons_succ, List.setIfInBounds_toArray, List.set_cons_zero, List.set_cons_succ])
  refine wpAnyH_take (i := 23) (v := ?v1_24) rfl (by kernel_rfl) (by kernel_rfl) (by kernel_rfl) (fun _ _ _ h => h) (Or.inl ⟨by rfl, ?y1_24⟩) (by assumption) ?r1_24
  case y1_24 => (intro w hSw; (try dsimp only at hSw); go_simp; try with_reducible rfl)
  (try simp only [Act.put, List.getElem_toArray, List.getElem_cons_zero, List.getElem_cons_succ, List.setIfInBounds_toArray, List.set_cons_zero, List.set_cons_succ])
  refine wpAnyH_take (i := 24) (v := ?v1_25) rfl (by kernel_rfl) (by kernel_rfl) (by kernel_rfl) (fun _ _ _ h => h) (Or.inl ⟨by rfl, ?y1_25⟩) (by assumption) ?r1_25
  case y1_25 => (intro w hSw; (try dsimp only at hSw); go_simp; try with_reducible rfl)
  (try simp only [Act.put, List.getElem_toArray, List.getElem_cons_zero, List.getElem_cons_succ, List.setIfInBounds_toArray, List.set_cons_zero, List.set_cons_succ])
  refine wpAnyH_ready (rs := [25]) (by kernel_rfl) (by simp) ?_
  refine AllReadyH.cons rfl (fun K hK => ?_) AllReadyH.nil
  go_simp
  refine (hR _ Y hY1 hY2).mono ?_
  rintro e w5 ⟨xp, xg, rfl, _, _, hV5, k5⟩
  go_wp2_with fail
  refine hK.out _ _ ?s1_26 (fun hHeld => ?_)
  case s1_26 => ((try dsimp only) <;> (first | exact ⟨k5.cell0 b0, k5.cell0 b1, k5.cell0 b2, k5.cell0 b3, k5.cell0 d0, k5.cell0 d1, k5.cell0 d2, k5.cell0 d3⟩))
  clear hK K
  (try simp only [Act.put, List.getElem_toArray, List.getElem_cons_zero, List.getElem_cons_succ, List.setIfInBounds_toArray, List.set_cons_zero, List.set_cons_succ])
  refine wpAnyH_ready (rs := [26]) (by kernel_rfl) (by simp) ?_
  refine AllReadyH.cons rfl (fun K hK => ?_) AllReadyH.nil
  go_simp
  refine (vsame_calls (hV4.keeps ((Keeps.refl [] w4).drew.trans k5) (by simp) (by simp)) hV5).mono ?_
  rintro e w6 ⟨rfl, k6⟩
  rw [show decide (n = n ∧ X = X) = true from by simp]
  have k56 := k5.trans k6
  go_wp2_with fail
  refine hK.out _ _ ?s1_27 (fun hHeld => ?_)
  case s1_27 => ((try dsimp only) <;> (first | exact ⟨k56.cell0 b0, k56.cell0 b1, k56.cell0 b2, k56.cell0 b3, k56.cell0 d0, k56.cell0 d1, k56.cell0 d2, k56.cell0 d3⟩))
  clear hK K
  (try simp only [Act.put, List.getElem_toArray, List.getElem_cons_zero, List.getElem_cons_succ, List.setIfInBounds_toArray, List.set_cons_zero, List.set_cons_succ])
  refine wpAnyH_take (i := 27) (v := ?v1_28) rfl (by kernel_rfl) (by kernel_rfl) (by kernel_rfl) (fun _ _ _ h => h) (Or.inl ⟨by rfl, ?y1_28⟩) (by assumption) ?r1_28
  case y1_28 => (intro w hSw; (try dsimp only at hSw); go_simp; try with_reducible rfl)
  (try simp only [Act.put, List.getElem_toArray, List.getElem_cons_zero, List.getElem_cons_succ, List.setIfInBounds_toArray, List.set_cons_zero, List.set_cons_succ])
  refine wpAnyH_take (i := 28) (v := ?v1_29) rfl (by kernel_rfl) (by kernel_rfl) (by kernel_rfl) (fun _ _ _ h => h) (Or.inl ⟨by rfl, ?y1_29⟩) (by assumption) ?r1_29
  case y1_29 => (intro w hSw; (try dsimp only at hSw); go_simp; try with_reducible rfl)
  (try simp only [Act.put, List.getElem_toArray, List.getElem_cons_zero, List.getElem_cons_succ, List.setIfInBounds_toArray, List.set_cons_zero, List.set_cons_succ])
  refine wpAnyH_take (i := 29) (v := ?v1_30) rfl (by kernel_rfl) (by kernel_rfl) (by kernel_rfl) (fun _ _ _ h => h) (Or.inl ⟨by rfl, ?y1_30⟩) (by assumption) ?r1_30
  case y1_30 => (intro w hSw; (try dsimp only at hSw); go_simp; try with_reducible rfl)
  (try simp only [Act.put, List.getElem_toArray, List.getElem_cons_zero, List.getElem_cons_succ, List.setIfInBounds_toArray, List.set_cons_zero, List.set_cons_succ])
  refine wpAnyH_take (i := 30) (v := ?v1_31) rfl (by kernel_rfl) (by kernel_rfl) (by kernel_rfl) (fun _ _ _ h => h) (Or.inl ⟨by rfl, ?y1_31⟩) (by assumption) ?r1_31
  case y1_31 => (intro w hSw; (try dsimp only at hSw); go_simp; try with_reducible rfl)
  (try simp only [Act.put, List.getElem_toArray, List.getElem_cons_zero, List.getElem_cons_succ, List.setIfInBounds_toArray, List.set_cons_zero, List.set_cons_succ])
  refine wpAnyH_take (i := 31) (v := ?v1_32) rfl (by kernel_rfl) (by kernel_rfl) (by kernel_rfl) (fun _ _ _ h => h) (Or.inl ⟨by rfl, ?y1_32⟩) (by assumption) ?r1_32
  case y1_32 => (intro w hSw; (try dsimp only at hSw); go_simp; try with_reducible rfl)
  (try simp only [Act.put, List.getElem_toArray, List.getElem_cons_zero, List.getElem_cons_succ, List.setIfInBounds_toArray, List.set_cons_zero, List.set_cons_succ])
  refine wpAnyH_take (i := 32) (v := ?v1_33) rfl (by kernel_rfl) (by kernel_rfl) (by kernel_rfl) (fun _ _ _ h => h) (Or.inl ⟨by rfl, ?y1_33⟩) (by assumption) ?r1_33
  case y1_33 => (intro w hSw; (try dsimp only at hSw); go_simp; try with_reducible rfl)
  (try simp only [Act.put, List.getElem_toArray, List.getElem_cons_zero, List.getElem_cons_succ, List.setIfInBounds_toArray, List.set_cons_zero, List.set_cons_succ])
  refine wpAnyH_ready (rs := [33]) (by kernel_rfl) (by simp) ?_
  refine AllReadyH.cons rfl (fun K hK => ?_) AllReadyH.nil
  go_simp
  refine (hR _ Z hz1 hz2).mono ?_
  rintro e w7 ⟨yp, yg, rfl, _, _, hV7, k7⟩
  have k57 := k56.trans k7
  go_wp2_with fail
  refine hK.out _ _ ?s1_34 (fun hHeld => ?_)
  case s1_34 => ((try dsimp only) <;> (first | exact ⟨k57.cell0 b0, k57.cell0 b1, k57.cell0 b2, k57.cell0 b3, k57.cell0 d0, k57.cell0 d1, k57.cell0 d2, k57.cell0 d3⟩))
  clear hK K
  (try simp only [Act.put, List.getElem_toArray, List.getElem_cons_zero, List.getElem_cons_succ, List.setIfInBounds_toArray, List.set_cons_zero, List.set_cons_succ])
  refine wpAnyH_ready (rs := [34]) (by kernel_rfl) (by simp) ?_
  refine AllReadyH.cons rfl (fun K hK => ?_) AllReadyH.nil
  go_simp
  refine (vsame_calls (hV4.keeps ((Keeps.refl [] w4).drew.trans k57) (by simp) (by simp)) hV7).mono ?_
  rintro e w8 ⟨rfl, k8⟩
  rw [show decide (n = n ∧ X = X) = true from by simp]
  have k58 := k57.trans k8
  go_wp2_with fail
  refine hK.out _ _ ?s1_35 (fun hHeld => ?_)
  case s1_35 => ((try dsimp only) <;> (first | exact ⟨k58.cell0 b0, k58.cell0 b1, k58.cell0 b2, k58.cell0 b3, k58.cell0 d0, k58.cell0 d1, k58.cell0 d2, k58.cell0 d3⟩))
  clear hK K
  (try simp only [Act.put, List.getElem_toArray, List.getElem_cons_zero, List.getElem_cons_succ, List.setIfInBounds_toArray, List.set_cons_zero, List.set_cons_succ])
  refine wpAnyH_take (i := 35) (v := ?v1_36) rfl (by kernel_rfl) (by kernel_rfl) (by kernel_rfl) (fun _ _ _ h => h) (Or.inl ⟨by rfl, ?y1_36⟩) (by assumption) ?r1_36
  case y1_36 => (intro w hSw; (try dsimp only at hSw); go_simp; try with_reducible rfl)
  (try simp only [Act.put, List.getElem_toArray, List.getElem_cons_zero, List.getElem_cons_succ, List.setIfInBounds_toArray, List.set_cons_zero, List.set_cons_succ])
  refine wpAnyH_take (i := 36) (v := ?v1_37) rfl (by kernel_rfl) (by kernel_rfl) (by kernel_rfl) (fun _ _ _ h => h) (Or.inl ⟨by rfl, ?y1_37⟩) (by assumption) ?r1_37
  case y1_37 => (intro w hSw; (try dsimp only at hSw); go_simp; try with_reducible rfl)
  (try simp only [Act.put, List.getElem_toArray, List.getElem_cons_zero, List.getElem_cons_succ, List.setIfInBounds_toArray, List.set_cons_zero, List.set_cons_succ])
  refine wpAnyH_done (by kernel_rfl) ?_ _
  refine NoPanic.normal ?_
  have k8' := k4.trans ((Keeps.refl [] w4).drew.trans k58)
  have ht8 := ht4.keeps ((Keeps.refl [] w4).drew.trans k58) (by simp)
  have hV8 := hV4.keeps ((Keeps.refl [] w4).drew.trans k58) (by simp) (by simp)
  have g1 := k58.cell0 b1
  have hwk : IntKind.u32.wrap (K : Int) = (K : Int) := by rw [IntKind.wrap_u32]; omega
  have hidl := id.toNat_lt
  by_cases hl : id.toNat < K
  · obtain ⟨hf, hm⟩ := hlt hl
    subst hm
    have hfi := vfirst_calls hV8 ht8
    rw [hf] at hfi
    have hu : ¬ ((K : Int) ≤ (id.toNat : Int)) := by omega
    go_wp2_with fail
    refine hfi.mono ?_
    rintro e w' ⟨rfl, rfl⟩
    go_wp2_with fail
    refine (awake8_calls ht8).mono ?_
    rintro e w9 ⟨rfl, k9⟩
    go_wp2_with fail
    go_ret
    exact ⟨rfl, k8'.trans k9⟩
  · have hu : (K : Int) ≤ (id.toNat : Int) := by omega
    go_wp2_with fail
    refine (awake8_calls ht8).mono ?_
    rintro e w9 ⟨rfl, k9⟩
    go_wp2_with fail
    go_ret
    exact ⟨rfl, k8'.trans k9⟩

end Go.Proofs.YtghgmchgbhdldaaDoor
