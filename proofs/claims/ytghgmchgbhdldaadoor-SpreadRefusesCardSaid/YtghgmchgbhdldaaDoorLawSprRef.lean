/-
  LawSprRef: downpourlaw8.SpreadRefuses, walked.
-/
import Derived.Test.YtghgmchgbhdldaaDoorLaw8
import Derived.Deep.DeepCutAuto
import Derived.Deep.CutBlock
set_option linter.unusedVariables false
set_option linter.unusedSimpArgs false
namespace Go.Proofs.YtghgmchgbhdldaaDoor
open Go.RowKit
attribute [local go_sem ↓] Go.wp_at_zero Go.wp_at_succ

set_option maxRecDepth 100000 in
set_option maxHeartbeats 1000000 in
theorem rowBad_calls {w : World} (s : UInt32) (k p z : Int) (id : UInt32) (h : PmOk k p z = false) :
    Calls Tryd.prog 8 #[.agg #[B32 s, .int .i64 k, .int .i64 p, .int .i64 z], B32 id] w fun e w' => e = .returned (.pointer none) ∧ Keeps [] w w' := by
  have hP := pieces_calls (w := w.alloc (.cells #[B32 s, .int .i64 k, .int .i64 p, .int .i64 z] 24)) s k p z
  rw [h] at hP
  have hk0 : Keeps [] w (w.alloc (.cells #[B32 s, .int .i64 k, .int .i64 p, .int .i64 z] 24)) := (Keeps.refl _ _).alloc _
  clear h
  go_enter Tryd.func8, Tryd.ntmps8
  go_wp2_with fail
  refine hP.mono ?_
  rintro e w1 ⟨rfl, k1⟩
  go_wp2_with fail
  go_ret
  exact ⟨rfl, hk0.trans k1⟩

set_option maxRecDepth 100000 in
set_option maxHeartbeats 1000000 in
theorem spreadRefuses_walk {w : World} (ht : TzAt w) (s : UInt32) (k p z : Int) (how : Int) (id : UInt32) :
    Calls Tryd.prog 4 #[.agg #[B32 s, .int .i64 k, .int .i64 p, .int .i64 z], .int .i64 how, B32 id] w fun e w' => e = .returned (.bool true) ∧ Keeps [] w w' := by
  have kA : Keeps [] w (w.alloc (.cells #[B32 s, .int .i64 k, .int .i64 p, .int .i64 z] 24)) := (Keeps.refl [] w).alloc _
  have hB0 := Blk.newA w 24 #[B32 s, .int .i64 k, .int .i64 p, .int .i64 z]
  obtain ⟨hn, hh, eh1, eh2⟩ := umod how 3 (by omega) (by omega)
  go_enter Tryd.func4, Tryd.ntmps4
  go_wp2_with fail
  generalize w.alloc (.cells #[B32 s, .int .i64 k, .int .i64 p, .int .i64 z] 24) = w0 at *
  refine (sound_calls s k p z).mono ?_
  rintro e w1 ⟨K, P, Z, rfl, hs, k1⟩
  have hB1 := hB0.keeps k1 (by simp)
  have c0 := hB1.cell' (i := 0) rfl
  have c1 := hB1.cell' (i := 1) rfl
  have c2 := hB1.cell' (i := 2) rfl
  have c3 := hB1.cell' (i := 3) rfl
  have f0 := hB1.frozen 0
  have f1 := hB1.frozen 1
  have f2 := hB1.frozen 2
  have f3 := hB1.frozen 3
  go_wp2_with fail
  have hB2 := hB1.put4 (B32 s) (.int .i64 K) (.int .i64 P) (.int .i64 Z)
  have k2 := (kA.trans k1).put4 (.inr (Nat.le_refl _)) (B32 s) (.int .i64 K) (.int .i64 P) (.int .i64 Z)
  clear c0 c1 c2 c3 f0 f1 f2 f3 hB1 hB0 kA k1
  generalize ((((w1.setCell ⟨w.heap.size, 0, none⟩ (B32 s)).setCell ⟨w.heap.size, 1, none⟩ (.int .i64 K)).setCell ⟨w.heap.size, 2, none⟩ (.int .i64 P)).setCell ⟨w.heap.size, 3, none⟩ (.int .i64 Z)) = w2 at *
  have c0 := hB2.cell' (i := 0) rfl
  have c1 := hB2.cell' (i := 1) rfl
  have c2 := hB2.cell' (i := 2) rfl
  have c3 := hB2.cell' (i := 3) rfl
  go_cut [7, 8] (fun a b wx => ∃ x y, a = .pointer (some ⟨x, 0, none⟩) ∧ b = .pointer (some ⟨y, 0, none⟩) ∧ x ≠ y ∧ w2.heap.size ≤ x ∧ w2.heap.size ≤ y ∧ Blk wx x 24 [B32 s, .int .i64 K, .int .i64 P, .int .i64 Z] ∧ Blk wx y 24 [B32 s, .int .i64 K, .int .i64 P, .int .i64 Z] ∧ Keeps [] w2 wx)
  case first =>
    have m1 : ∀ v : Array Value, Keeps [] w2 (w2.alloc (.cells v 24)) := fun v => (Keeps.refl [] w2).alloc _
    have m2 : ∀ v u : Array Value, Keeps [] w2 ((w2.alloc (.cells v 24)).alloc (.cells u 24)) := fun v u => (m1 v).alloc _
    have a0 := fun v => (m1 v).cell0 c0
    have a1 := fun v => (m1 v).cell0 c1
    have a2 := fun v => (m1 v).cell0 c2
    have a3 := fun v => (m1 v).cell0 c3
    have b0 := fun v u => (m2 v u).cell0 c0
    have b1 := fun v u => (m2 v u).cell0 c1
    have b2 := fun v u => (m2 v u).cell0 c2
    have b3 := fun v u => (m2 v u).cell0 c3
    go_region
    all_goals go_wp2_with fail
    all_goals go_meet
    · refine ⟨w2.heap.size, w2.heap.size + 1, rfl, rfl, by omega, Nat.le_refl _, by omega, ?_, ?_, (m2 _ _).drew⟩
      · exact ((Blk.newA w2 _ _).alloc _).drew
      · have := Blk.newA (w2.alloc (.cells #[B32 s, .int .i64 K, .int .i64 P, .int .i64 Z] 24)) 24 #[B32 s, .int .i64 K, .int .i64 P, .int .i64 Z]
        rw [World.size_alloc] at this
        exact this.drew
    · refine ⟨w2.heap.size + 1, w2.heap.size, rfl, rfl, by omega, by omega, Nat.le_refl _, ?_, ?_, (m2 _ _).drew⟩
      · have := Blk.newA (w2.alloc (.cells #[B32 s, .int .i64 K, .int .i64 P, .int .i64 Z] 24)) 24 #[B32 s, .int .i64 K, .int .i64 P, .int .i64 Z]
        rw [World.size_alloc] at this
        exact this.drew
      · exact ((Blk.newA w2 _ _).alloc _).drew
  case rest =>
    obtain ⟨x, y, rfl, rfl, hxy, hx, hy, hX, hY, k3⟩ := hcut
    clear c0 c1 c2 c3
    have ht3 := (ht.keeps k2 (by simp)).keeps k3 (by simp)
    have k3' := k2.trans k3
    go_upto_block 0 with (fail)
    go_cut [] (fun wx => ∃ (q1 q2 q3 : Int) (r1 r2 r3 : Nat), Blk wx x 24 [B32 s, .int .i64 q1, .int .i64 q2, .int .i64 q3] ∧ Blk wx y 24 [B32 s, .int .i64 r1, .int .i64 r2, .int .i64 r3] ∧ PmOk q1 q2 q3 = false ∧ Snd r1 r2 r3 ∧ Keeps [] w wx)
    case first =>
      obtain ⟨z1, z2, z3, z4, z5⟩ := hs
      have hxw : w.heap.size ≤ x := Nat.le_trans k2.size hx
      have hyw : w.heap.size ≤ y := Nat.le_trans k2.size hy
      have x1 := hX.cell' (i := 1) rfl
      have x2 := hX.cell' (i := 2) rfl
      have x3 := hX.cell' (i := 3) rfl
      have y1 := hY.cell' (i := 1) rfl
      have y2 := hY.cell' (i := 2) rfl
      have y3 := hY.cell' (i := 3) rfl
      have fx := hX.frozen
      have fy := hY.frozen
      have hyx : y ≠ x := fun h => hxy h.symm
      obtain rfl | rfl | rfl : hn = 0 ∨ hn = 1 ∨ hn = 2 := by omega
      · go_wp2_with fail
        go_meet
        exact ⟨65, P, Z, 64, P, Z, (hX.set 1 _).setOther _ (by simpa using hxy), (hY.setOther _ (by simpa using hyx)).set 1 _, by simp [PmOk], ⟨by omega, by omega, z3, z4, z5⟩, (k3'.setCell (.inr hxw) _).setCell (.inr hyw) _⟩
      · go_wp2_with fail
        go_meet
        exact ⟨K, 17, Z, K, 16, Z, (hX.set 2 _).setOther _ (by simpa using hxy), (hY.setOther _ (by simpa using hyx)).set 2 _, by simp [PmOk], ⟨z1, z2, by omega, z4, z5⟩, (k3'.setCell (.inr hxw) _).setCell (.inr hyw) _⟩
      · go_wp2_with fail
        go_meet
        exact ⟨K, P, 0, K, P, 16, (hX.set 3 _).setOther _ (by simpa using hxy), (hY.setOther _ (by simpa using hyx)).set 3 _, by simp [PmOk], ⟨z1, z2, z3, by omega, by omega⟩, (k3'.setCell (.inr hxw) _).setCell (.inr hyw) _⟩
    case rest =>
      clear hX hY k3' eh1 eh2
      obtain ⟨q1, q2, q3, r1, r2, r3, hX, hY, hq, hr, k4⟩ := hcut
      have ht4 := ht.keeps k4 (by simp)
      have hMq := fun w => may_calls (w := w) s q1 q2 q3
      have hPq := fun w => pieces_calls (w := w) s q1 q2 q3
      have hRq := fun w => rowBad_calls (w := w) s q1 q2 q3 id hq
      have hMr := fun w => may_calls (w := w) s r1 r2 r3
      have hRr := fun w => rowS_calls (w := w) s hr id
      simp only [hq, Bool.false_eq_true, if_false] at hMq hPq
      simp only [hr.ok] at hMr
      have hm : (r1 : Int) + (r2 : Int) = ((r1 + r2 : Nat) : Int) := by omega
      have hmb : r1 + r2 ≤ 80 := by have := hr.k2; have := hr.p2; omega
      generalize rowN s r1 r2 id = X at *
      generalize r1 + r2 = m at *
      have e0 : IntKind.i64.wrap (m : Int) = (m : Int) := IntWalk.i64_in _ (by omega)
      have x0 := hX.cell' (i := 0) rfl
      have x1 := hX.cell' (i := 1) rfl
      have x2 := hX.cell' (i := 2) rfl
      have x3 := hX.cell' (i := 3) rfl
      have y0 := hY.cell' (i := 0) rfl
      have y1 := hY.cell' (i := 1) rfl
      have y2 := hY.cell' (i := 2) rfl
      have y3 := hY.cell' (i := 3) rfl
      clear hX hY hs hq hr
      go_wp2_with fail
      refine wp_region_noPanic ?_
      refine wp_region_held_drew (S := (fun w' => w'.cell? ⟨x, 0, none⟩ = some (B32 s) ∧ w'.cell? ⟨x, 1, none⟩ = some (.int .i64 q1) ∧ w'.cell? ⟨x, 2, none⟩ = some (.int .i64 q2) ∧ w'.cell? ⟨x, 3, none⟩ = some (.int .i64 q3) ∧ w'.cell? ⟨y, 0, none⟩ = some (B32 s) ∧ w'.cell? ⟨y, 1, none⟩ = some (.int .i64 r1) ∧ w'.cell? ⟨y, 2, none⟩ = some (.int .i64 r2) ∧ w'.cell? ⟨y, 3, none⟩ = some (.int .i64 r3))) (by kernel_rfl) ⟨x0, x1, x2, x3, y0, y1, y2, y3⟩ (fun hHeld => ?_)
      have kd : Keeps [] wc wc.drew := (Keeps.refl [] wc).drew
      refine wpAnyH_take (i := 0) (v := ?v1_1) rfl (by kernel_rfl) (by kernel_rfl) (by kernel_rfl) (fun _ _ _ h => h) (Or.inl ⟨by rfl, ?y1_1⟩) (by assumption) ?r1_1
      case y1_1 => (intro w hSw; (try dsimp only at hSw); go_simp; try with_reducible rfl)
      (try simp only [Act.put, List.getElem_toArray, List.getElem_cons_zero, List.getElem_cons_succ, List.setIfInBounds_toArray, List.set_cons_zero, List.set_cons_succ])
      refine wpAnyH_ready (rs := [1]) (by kernel_rfl) (by simp) ?_
      refine AllReadyH.cons rfl (fun K hK => ?_) AllReadyH.nil
      go_simp
      refine (hMq _).mono ?_
      rintro e w5 ⟨rfl, j5⟩
      replace kd := kd.trans j5
      go_wp2_with fail
      refine hK.out _ _ ?s1_2 (fun hHeld => ?_)
      case s1_2 => ((try dsimp only) <;> (first | exact ⟨kd.cell0 x0, kd.cell0 x1, kd.cell0 x2, kd.cell0 x3, kd.cell0 y0, kd.cell0 y1, kd.cell0 y2, kd.cell0 y3⟩))
      clear hK K
      (try simp only [Act.put, List.getElem_toArray, List.getElem_cons_zero, List.getElem_cons_succ, List.setIfInBounds_toArray, List.set_cons_zero, List.set_cons_succ])
      refine wpAnyH_take (i := 2) (v := ?v1_3) rfl (by kernel_rfl) (by kernel_rfl) (by kernel_rfl) (fun _ _ _ h => h) (Or.inl ⟨by rfl, ?y1_3⟩) (by assumption) ?r1_3
      case y1_3 => (intro w hSw; (try dsimp only at hSw); go_simp; try with_reducible rfl)
      (try simp only [Act.put, List.getElem_toArray, List.getElem_cons_zero, List.getElem_cons_succ, List.setIfInBounds_toArray, List.set_cons_zero, List.set_cons_succ])
      refine wpAnyH_take (i := 3) (v := ?v1_4) rfl (by kernel_rfl) (by kernel_rfl) (by kernel_rfl) (fun _ _ _ h => h) (Or.inl ⟨by rfl, ?y1_4⟩) (by assumption) ?r1_4
      case y1_4 => (intro w hSw; (try dsimp only at hSw); go_simp; try with_reducible rfl)
      (try simp only [Act.put, List.getElem_toArray, List.getElem_cons_zero, List.getElem_cons_succ, List.setIfInBounds_toArray, List.set_cons_zero, List.set_cons_succ])
      refine wpAnyH_take (i := 4) (v := ?v1_5) rfl (by kernel_rfl) (by kernel_rfl) (by kernel_rfl) (fun _ _ _ h => h) (Or.inl ⟨by rfl, ?y1_5⟩) (by assumption) ?r1_5
      case y1_5 => (intro w hSw; (try dsimp only at hSw); go_simp; try with_reducible rfl)
      (try simp only [Act.put, List.getElem_toArray, List.getElem_cons_zero, List.getElem_cons_succ, List.setIfInBounds_toArray, List.set_cons_zero, List.set_cons_succ])
      refine wpAnyH_take (i := 5) (v := ?v1_6) rfl (by kernel_rfl) (by kernel_rfl) (by kernel_rfl) (fun _ _ _ h => h) (Or.inl ⟨by rfl, ?y1_6⟩) (by assumption) ?r1_6
      case y1_6 => (intro w hSw; (try dsimp only at hSw); go_simp; try with_reducible rfl)
      (try simp only [Act.put, List.getElem_toArray, List.getElem_cons_zero, List.getElem_cons_succ, List.setIfInBounds_toArray, List.set_cons_zero, List.set_cons_succ])
      refine wpAnyH_ready (rs := [6]) (by kernel_rfl) (by simp) ?_
      refine AllReadyH.cons rfl (fun K hK => ?_) AllReadyH.nil
      go_simp
      refine (hRq _).mono ?_
      rintro e w6 ⟨rfl, j6⟩
      replace kd := kd.trans j6
      go_wp2_with fail
      refine hK.out _ _ ?s1_7 (fun hHeld => ?_)
      case s1_7 => ((try dsimp only) <;> (first | exact ⟨kd.cell0 x0, kd.cell0 x1, kd.cell0 x2, kd.cell0 x3, kd.cell0 y0, kd.cell0 y1, kd.cell0 y2, kd.cell0 y3⟩))
      clear hK K
      (try simp only [Act.put, List.getElem_toArray, List.getElem_cons_zero, List.getElem_cons_succ, List.setIfInBounds_toArray, List.set_cons_zero, List.set_cons_succ])
      refine wpAnyH_take (i := 7) (v := ?v1_8) rfl (by kernel_rfl) (by kernel_rfl) (by kernel_rfl) (fun _ _ _ h => h) (Or.inl ⟨by rfl, ?y1_8⟩) (by assumption) ?r1_8
      case y1_8 => (intro w hSw; (try dsimp only at hSw); go_simp; try with_reducible rfl)
      (try simp only [Act.put, List.getElem_toArray, List.getElem_cons_zero, List.getElem_cons_succ, List.setIfInBounds_toArray, List.set_cons_zero, List.set_cons_succ])
      refine wpAnyH_take (i := 8) (v := ?v1_9) rfl (by kernel_rfl) (by kernel_rfl) (by kernel_rfl) (fun _ _ _ h => h) (Or.inl ⟨by rfl, ?y1_9⟩) (by assumption) ?r1_9
      case y1_9 => (intro w hSw; (try dsimp only at hSw); go_simp; try with_reducible rfl)
      (try simp only [Act.put, List.getElem_toArray, List.getElem_cons_zero, List.getElem_cons_succ, List.setIfInBounds_toArray, List.set_cons_zero, List.set_cons_succ])
      refine wpAnyH_take (i := 9) (v := ?v1_10) rfl (by kernel_rfl) (by kernel_rfl) (by kernel_rfl) (fun _ _ _ h => h) (Or.inl ⟨by rfl, ?y1_10⟩) (by assumption) ?r1_10
      case y1_10 => (intro w hSw; (try dsimp only at hSw); go_simp; try with_reducible rfl)
      (try simp only [Act.put, List.getElem_toArray, List.getElem_cons_zero, List.getElem_cons_succ, List.setIfInBounds_toArray, List.set_cons_zero, List.set_cons_succ])
      refine wpAnyH_take (i := 10) (v := ?v1_11) rfl (by kernel_rfl) (by kernel_rfl) (by kernel_rfl) (fun _ _ _ h => h) (Or.inl ⟨by rfl, ?y1_11⟩) (by assumption) ?r1_11
      case y1_11 => (intro w hSw; (try dsimp only at hSw); go_simp; try with_reducible rfl)
      (try simp only [Act.put, List.getElem_toArray, List.getElem_cons_zero, List.getElem_cons_succ, List.setIfInBounds_toArray, List.set_cons_zero, List.set_cons_succ])
      refine wpAnyH_ready (rs := [11]) (by kernel_rfl) (by simp) ?_
      refine AllReadyH.cons rfl (fun K hK => ?_) AllReadyH.nil
      go_simp
      refine (hPq _).mono ?_
      rintro e w7 ⟨rfl, j7⟩
      replace kd := kd.trans j7
      go_wp2_with fail
      refine hK.out _ _ ?s1_12 (fun hHeld => ?_)
      case s1_12 => ((try dsimp only) <;> (first | exact ⟨kd.cell0 x0, kd.cell0 x1, kd.cell0 x2, kd.cell0 x3, kd.cell0 y0, kd.cell0 y1, kd.cell0 y2, kd.cell0 y3⟩))
      clear hK K
      (try simp only [Act.put, List.getElem_toArray, List.getElem_cons_zero, List.getElem_cons_succ, List.setIfInBounds_toArray, List.set_cons_zero, List.set_cons_succ])
      refine wpAnyH_take (i := 12) (v := ?v1_13) rfl (by kernel_rfl) (by kernel_rfl) (by kernel_rfl) (fun _ _ _ h => h) (Or.inl ⟨by rfl, ?y1_13⟩) (by assumption) ?r1_13
      case y1_13 => (intro w hSw; (try dsimp only at hSw); go_simp; try with_reducible rfl)
      (try simp only [Act.put, List.getElem_toArray, List.getElem_cons_zero, List.getElem_cons_succ, List.setIfInBounds_toArray, List.set_cons_zero, List.set_cons_succ])
      refine wpAnyH_take (i := 13) (v := ?v1_14) rfl (by kernel_rfl) (by kernel_rfl) (by kernel_rfl) (fun _ _ _ h => h) (Or.inl ⟨by rfl, ?y1_14⟩) (by assumption) ?r1_14
      case y1_14 => (intro w hSw; (try dsimp only at hSw); go_simp; try with_reducible rfl)
      (try simp only [Act.put, List.getElem_toArray, List.getElem_cons_zero, List.getElem_cons_succ, List.setIfInBounds_toArray, List.set_cons_zero, List.set_cons_succ])
      refine wpAnyH_take (i := 14) (v := ?v1_15) rfl (by kernel_rfl) (by kernel_rfl) (by kernel_rfl) (fun _ _ _ h => h) (Or.inl ⟨by rfl, ?y1_15⟩) (by assumption) ?r1_15
      case y1_15 => (intro w hSw; (try dsimp only at hSw); go_simp; try with_reducible rfl)
      (try simp only [Act.put, List.getElem_toArray, List.getElem_cons_zero, List.getElem_cons_succ, List.setIfInBounds_toArray, List.set_cons_zero, List.set_cons_succ])
      refine wpAnyH_take (i := 15) (v := ?v1_16) rfl (by kernel_rfl) (by kernel_rfl) (by kernel_rfl) (fun _ _ _ h => h) (Or.inl ⟨by rfl, ?y1_16⟩) (by assumption) ?r1_16
      case y1_16 => (intro w hSw; (try dsimp only at hSw); go_simp; try with_reducible rfl)
      (try simp only [Act.put, List.getElem_toArray, List.getElem_cons_zero, List.getElem_cons_succ, List.setIfInBounds_toArray, List.set_cons_zero, List.set_cons_succ])
      refine wpAnyH_ready (rs := [16]) (by kernel_rfl) (by simp) ?_
      refine AllReadyH.cons rfl (fun K hK => ?_) AllReadyH.nil
      go_simp
      refine (hMr _).mono ?_
      rintro e w8 ⟨rfl, j8⟩
      replace kd := kd.trans j8
      go_wp2_with fail
      refine hK.out _ _ ?s1_17 (fun hHeld => ?_)
      case s1_17 => ((try dsimp only) <;> (first | exact ⟨kd.cell0 x0, kd.cell0 x1, kd.cell0 x2, kd.cell0 x3, kd.cell0 y0, kd.cell0 y1, kd.cell0 y2, kd.cell0 y3⟩))
      clear hK K
      (try simp only [Act.put, List.getElem_toArray, List.getElem_cons_zero, List.getElem_cons_succ, List.setIfInBounds_toArray, List.set_cons_zero, List.set_cons_succ])
      refine wpAnyH_take (i := 17) (v := ?v1_18) rfl (by kernel_rfl) (by kernel_rfl) (by kernel_rfl) (fun _ _ _ h => h) (Or.inl ⟨by rfl, ?y1_18⟩) (by assumption) ?r1_18
      case y1_18 => (intro w hSw; (try dsimp only at hSw); go_simp; try with_reducible rfl)
      (try simp only [Act.put, List.getElem_toArray, List.getElem_cons_zero, List.getElem_cons_succ, List.setIfInBounds_toArray, List.set_cons_zero, List.set_cons_succ])
      refine wpAnyH_take (i := 18) (v := ?v1_19) rfl (by kernel_rfl) (by kernel_rfl) (by kernel_rfl) (fun _ _ _ h => h) (Or.inl ⟨by rfl, ?y1_19⟩) (by assumption) ?r1_19
      case y1_19 => (intro w hSw; (try dsimp only at hSw); go_simp; try with_reducible rfl)
      (try simp only [Act.put, List.getElem_toArray, List.getElem_cons_zero, List.getElem_cons_succ, List.setIfInBounds_toArray, List.set_cons_zero, List.set_cons_succ])
      refine wpAnyH_take (i := 19) (v := ?v1_20) rfl (by kernel_rfl) (by kernel_rfl) (by kernel_rfl) (fun _ _ _ h => h) (Or.inl ⟨by rfl, ?y1_20⟩) (by assumption) ?r1_20
      case y1_20 => (intro w hSw; (try dsimp only at hSw); go_simp; try with_reducible rfl)
      (try simp only [Act.put, List.getElem_toArray, List.getElem_cons_zero, List.getElem_cons_succ, List.setIfInBounds_toArray, List.set_cons_zero, List.set_cons_succ])
      refine wpAnyH_take (i := 20) (v := ?v1_21) rfl (by kernel_rfl) (by kernel_rfl) (by kernel_rfl) (fun _ _ _ h => h) (Or.inl ⟨by rfl, ?y1_21⟩) (by assumption) ?r1_21
      case y1_21 => (intro w hSw; (try dsimp only at hSw); go_simp; try with_reducible rfl)
      (try simp only [Act.put, List.getElem_toArray, List.getElem_cons_zero, List.getElem_cons_succ, List.setIfInBounds_toArray, List.set_cons_zero, List.set_cons_succ])
      refine wpAnyH_take (i := 23) (v := ?v1_22) rfl (by kernel_rfl) (by kernel_rfl) (by kernel_rfl) (fun _ _ _ h => h) (Or.inl ⟨by rfl, ?y1_22⟩) (by assumption) ?r1_22
      case y1_22 => (intro w hSw; (try dsimp only at hSw); go_simp; try with_reducible rfl)
      (try simp only [Act.put, List.getElem_toArray, List.getElem_cons_zero, List.getElem_cons_succ, List.setIfInBounds_toArray, List.set_cons_zero, List.set_cons_succ])
      refine wpAnyH_take (i := 24) (v := ?v1_23) rfl (by kernel_rfl) (by kernel_rfl) (by kernel_rfl) (fun _ _ _ h => h) (Or.inl ⟨by rfl, ?y1_23⟩) (by assumption) ?r1_23
      case y1_23 => (intro w hSw; (try dsimp only at hSw); go_simp; try with_reducible rfl)
      (try simp only [Act.put, List.getElem_toArray, List.getElem_cons_zero, List.getElem_cons_succ, List.setIfInBounds_toArray, List.set_cons_zero, List.set_cons_succ])
      refine wpAnyH_take (i := 25) (v := ?v1_24) rfl (by kernel_rfl) (by kernel_rfl) (by kernel_rfl) (fun _ _ _ h => h) (Or.inl ⟨by rfl, ?y1_24⟩) (by assumption) ?r1_24
      case y1_24 => (intro w hSw; (try dsimp only at hSw); go_simp; try with_reducible rfl)
      (try simp only [Act.put, List.getElem_toArray, List.getElem_cons_zero, List.getElem_cons_succ, List.setIfInBounds_toArray, List.set_cons_zero, List.set_cons_succ])
      refine wpAnyH_take (i := 26) (v := ?v1_25) rfl (by kernel_rfl) (by kernel_rfl) (by kernel_rfl) (fun _ _ _ h => h) (Or.inl ⟨by rfl, ?y1_25⟩) (by assumption) ?r1_25
      case y1_25 => (intro w hSw; (try dsimp only at hSw); go_simp; try with_reducible rfl)
      (try simp only [Act.put, List.getElem_toArray, List.getElem_cons_zero, List.getElem_cons_succ, List.setIfInBounds_toArray, List.set_cons_zero, List.set_cons_succ])
      refine wpAnyH_take (i := 27) (v := ?v1_26) rfl (by kernel_rfl) (by kernel_rfl) (by kernel_rfl) (fun _ _ _ h => h) (Or.inl ⟨by rfl, ?y1_26⟩) (by assumption) ?r1_26
      case y1_26 => (intro w hSw; (try dsimp only at hSw); go_simp; try with_reducible rfl)
      (try simp only [Act.put, List.getElem_toArray, List.getElem_cons_zero, List.getElem_cons_succ, List.setIfInBounds_toArray, List.set_cons_zero, List.set_cons_succ])
      refine wpAnyH_ready (rs := [21]) (by kernel_rfl) (by simp) ?_
      refine AllReadyH.cons rfl (fun K hK => ?_) AllReadyH.nil
      go_simp
      refine (hRr _).mono ?_
      rintro e w9 ⟨vp, vg, rfl, _, _, hV, j9⟩
      replace kd := kd.trans j9
      go_wp2_with fail
      refine hK.out _ _ ?s1_27 (fun hHeld => ?_)
      case s1_27 => ((try dsimp only) <;> (first | exact ⟨kd.cell0 x0, kd.cell0 x1, kd.cell0 x2, kd.cell0 x3, kd.cell0 y0, kd.cell0 y1, kd.cell0 y2, kd.cell0 y3⟩))
      clear hK K
      (try simp only [Act.put, List.getElem_toArray, List.getElem_cons_zero, List.getElem_cons_succ, List.setIfInBounds_toArray, List.set_cons_zero, List.set_cons_succ])
      refine wpAnyH_ready (rs := [22]) (by kernel_rfl) (by simp) ?_
      refine AllReadyH.cons rfl (fun K hK => ?_) AllReadyH.nil
      go_simp
      refine (vlen_calls hV).mono ?_
      rintro e w' ⟨rfl, rfl⟩
      go_wp2_with fail
      refine hK.out _ _ ?s1_28 (fun hHeld => ?_)
      case s1_28 => ((try dsimp only) <;> (first | exact ⟨kd.cell0 x0, kd.cell0 x1, kd.cell0 x2, kd.cell0 x3, kd.cell0 y0, kd.cell0 y1, kd.cell0 y2, kd.cell0 y3⟩))
      clear hK K
      (try simp only [Act.put, List.getElem_toArray, List.getElem_cons_zero, List.getElem_cons_succ, List.setIfInBounds_toArray, List.set_cons_zero, List.set_cons_succ])
      refine wpAnyH_take (i := 28) (v := ?v1_29) rfl (by kernel_rfl) (by kernel_rfl) (by kernel_rfl) (fun _ _ _ h => h) (Or.inl ⟨by rfl, ?y1_29⟩) (by assumption) ?r1_29
      case y1_29 => (intro w hSw; (try dsimp only at hSw); go_simp; try with_reducible rfl)
      (try simp only [Act.put, List.getElem_toArray, List.getElem_cons_zero, List.getElem_cons_succ, List.setIfInBounds_toArray, List.set_cons_zero, List.set_cons_succ])
      refine wpAnyH_take (i := 29) (v := ?v1_30) rfl (by kernel_rfl) (by kernel_rfl) (by kernel_rfl) (fun _ _ _ h => h) (Or.inl ⟨by rfl, ?y1_30⟩) (by assumption) ?r1_30
      case y1_30 => (intro w hSw; (try dsimp only at hSw); go_simp; try with_reducible rfl)
      (try simp only [Act.put, List.getElem_toArray, List.getElem_cons_zero, List.getElem_cons_succ, List.setIfInBounds_toArray, List.set_cons_zero, List.set_cons_succ])
      refine wpAnyH_take (i := 30) (v := ?v1_31) rfl (by kernel_rfl) (by kernel_rfl) (by kernel_rfl) (fun _ _ _ h => h) (Or.inl ⟨by rfl, ?y1_31⟩) (by assumption) ?r1_31
      case y1_31 => (intro w hSw; (try dsimp only at hSw); go_simp; try with_reducible rfl)
      (try simp only [Act.put, List.getElem_toArray, List.getElem_cons_zero, List.getElem_cons_succ, List.setIfInBounds_toArray, List.set_cons_zero, List.set_cons_succ])
      refine wpAnyH_take (i := 31) (v := ?v1_32) rfl (by kernel_rfl) (by kernel_rfl) (by kernel_rfl) (fun _ _ _ h => h) (Or.inl ⟨by rfl, ?y1_32⟩) (by assumption) ?r1_32
      case y1_32 => (intro w hSw; (try dsimp only at hSw); go_simp; try with_reducible rfl)
      (try simp only [Act.put, List.getElem_toArray, List.getElem_cons_zero, List.getElem_cons_succ, List.setIfInBounds_toArray, List.set_cons_zero, List.set_cons_succ])
      refine wpAnyH_take (i := 32) (v := ?v1_33) rfl (by kernel_rfl) (by kernel_rfl) (by kernel_rfl) (fun _ _ _ h => h) (Or.inl ⟨by rfl, ?y1_33⟩) (by assumption) ?r1_33
      case y1_33 => (intro w hSw; (try dsimp only at hSw); go_simp; try with_reducible rfl)
      (try simp only [Act.put, List.getElem_toArray, List.getElem_cons_zero, List.getElem_cons_succ, List.setIfInBounds_toArray, List.set_cons_zero, List.set_cons_succ])
      refine wpAnyH_ready (rs := [33]) (by kernel_rfl) (by simp) ?_
      refine AllReadyH.cons rfl (fun K hK => ?_) AllReadyH.nil
      go_simp
      refine (hRq _).mono ?_
      rintro e w10 ⟨rfl, j10⟩
      replace kd := kd.trans j10
      go_wp2_with fail
      refine hK.out _ _ ?s1_34 (fun hHeld => ?_)
      case s1_34 => ((try dsimp only) <;> (first | exact ⟨kd.cell0 x0, kd.cell0 x1, kd.cell0 x2, kd.cell0 x3, kd.cell0 y0, kd.cell0 y1, kd.cell0 y2, kd.cell0 y3⟩))
      clear hK K
      (try simp only [Act.put, List.getElem_toArray, List.getElem_cons_zero, List.getElem_cons_succ, List.setIfInBounds_toArray, List.set_cons_zero, List.set_cons_succ])
      refine wpAnyH_ready (rs := [34]) (by kernel_rfl) (by simp) ?_
      refine AllReadyH.cons rfl (fun K hK => ?_) AllReadyH.nil
      go_simp
      refine (vsameNil_calls (w := w10)).mono ?_
      rintro e w' ⟨rfl, rfl⟩
      go_wp2_with fail
      refine hK.out _ _ ?s1_35 (fun hHeld => ?_)
      case s1_35 => ((try dsimp only) <;> (first | exact ⟨kd.cell0 x0, kd.cell0 x1, kd.cell0 x2, kd.cell0 x3, kd.cell0 y0, kd.cell0 y1, kd.cell0 y2, kd.cell0 y3⟩))
      clear hK K
      (try simp only [Act.put, List.getElem_toArray, List.getElem_cons_zero, List.getElem_cons_succ, List.setIfInBounds_toArray, List.set_cons_zero, List.set_cons_succ])
      refine wpAnyH_take (i := 35) (v := ?v1_36) rfl (by kernel_rfl) (by kernel_rfl) (by kernel_rfl) (fun _ _ _ h => h) (Or.inl ⟨by rfl, ?y1_36⟩) (by assumption) ?r1_36
      case y1_36 => (intro w hSw; (try dsimp only at hSw); go_simp; try with_reducible rfl)
      (try simp only [Act.put, List.getElem_toArray, List.getElem_cons_zero, List.getElem_cons_succ, List.setIfInBounds_toArray, List.set_cons_zero, List.set_cons_succ])
      refine wpAnyH_take (i := 36) (v := ?v1_37) rfl (by kernel_rfl) (by kernel_rfl) (by kernel_rfl) (fun _ _ _ h => h) (Or.inl ⟨by rfl, ?y1_37⟩) (by assumption) ?r1_37
      case y1_37 => (intro w hSw; (try dsimp only at hSw); go_simp; try with_reducible rfl)
      (try simp only [Act.put, List.getElem_toArray, List.getElem_cons_zero, List.getElem_cons_succ, List.setIfInBounds_toArray, List.set_cons_zero, List.set_cons_succ])
      refine wpAnyH_ready (rs := [37]) (by kernel_rfl) (by simp) ?_
      refine AllReadyH.cons rfl (fun K hK => ?_) AllReadyH.nil
      go_simp
      refine (awake8_calls (ht4.keeps kd (by simp))).mono ?_
      rintro e w11 ⟨rfl, j11⟩
      replace kd := kd.trans j11
      go_wp2_with fail
      refine hK.out _ _ ?s1_38 (fun hHeld => ?_)
      case s1_38 => ((try dsimp only) <;> (first | exact ⟨kd.cell0 x0, kd.cell0 x1, kd.cell0 x2, kd.cell0 x3, kd.cell0 y0, kd.cell0 y1, kd.cell0 y2, kd.cell0 y3⟩))
      clear hK K
      (try simp only [Act.put, List.getElem_toArray, List.getElem_cons_zero, List.getElem_cons_succ, List.setIfInBounds_toArray, List.set_cons_zero, List.set_cons_succ])
      refine wpAnyH_take (i := 38) (v := ?v1_39) rfl (by kernel_rfl) (by kernel_rfl) (by kernel_rfl) (fun _ _ _ h => h) (Or.inl ⟨by rfl, ?y1_39⟩) (by assumption) ?r1_39
      case y1_39 => (intro w hSw; (try dsimp only at hSw); go_simp; try with_reducible rfl)
      (try simp only [Act.put, List.getElem_toArray, List.getElem_cons_zero, List.getElem_cons_succ, List.setIfInBounds_toArray, List.set_cons_zero, List.set_cons_succ])
      refine wpAnyH_take (i := 39) (v := ?v1_40) rfl (by kernel_rfl) (by kernel_rfl) (by kernel_rfl) (fun _ _ _ h => h) (Or.inl ⟨by rfl, ?y1_40⟩) (by assumption) ?r1_40
      case y1_40 => (intro w hSw; (try dsimp only at hSw); go_simp; try with_reducible rfl)
      (try simp only [Act.put, List.getElem_toArray, List.getElem_cons_zero, List.getElem_cons_succ, List.setIfInBounds_toArray, List.set_cons_zero, List.set_cons_succ])
      refine wpAnyH_done (by kernel_rfl) ?_ _
      refine NoPanic.normal ?_
      go_wp2_with fail
      go_ret
      exact ⟨rfl, k4.trans kd⟩

end Go.Proofs.YtghgmchgbhdldaaDoor
