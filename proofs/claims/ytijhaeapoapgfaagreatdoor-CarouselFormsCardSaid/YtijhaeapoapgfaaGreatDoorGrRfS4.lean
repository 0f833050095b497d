/-
  GrRfS4: the texts RfS4, Pk1, Pk2, MfB, RfMp, one behind another.
-/
import Derived.Test.YtijhaeapoapgfaaGreatDoorGrApRow
import Derived.Test.YtijhaeapoapgfaaGreatDoorGrDeT
import Derived.Test.YtijhaeapoapgfaaGreatDoorGrElM
set_option linter.unusedVariables false
set_option linter.unusedSimpArgs false
namespace Go.Proofs.YtijhaeapoapgfaaGreatDoor
open Go.RowKit
attribute [local go_sem ↓] Go.wp_at_zero Go.wp_at_succ

theorem Fits.mfi {nK P z : Nat} {img : List UInt8} (h : Fits nK P z img) : MfOk img.length z P nK := by
  refine ⟨?_, h.l, h.k1, h.k2, h.p2, h.z1, h.z2, h.c⟩
  have h1 := h.c
  have h2 := h.k1
  rcases Nat.eq_zero_or_pos img.length with h0 | h0
  · rw [h0] at h1; simp [bcount] at h1; omega
  · exact h0
theorem Fits.mf0 {nK P z : Nat} {img : List UInt8} (h : Fits nK P z img) : MfOk img.length z 0 nK := ⟨h.mfi.n1, h.l, h.k1, h.k2, by omega, h.z1, h.z2, h.c⟩

set_option maxRecDepth 100000 in
set_option maxHeartbeats 3200000 in
theorem rsymbol_calls {w : World} (s : UInt32) {nK P z : Nat} {img : List UInt8} (hf : Fits nK P z img) {vi : Value} (hi : RdS0 w vi img) (id : UInt32) :
    Calls Tryz.prog 16 #[.agg #[B32 s, .int .i64 nK, .int .i64 P, .int .i64 z], vi, B32 id] w (BytesNew w z (symb s nK P z img id)) := by
  have hpm := hf.pm
  have h1 := hf.k1
  have h2 := hf.k2
  have h3 := hf.p2
  have h4 := hf.z1
  have h5 := hf.z2
  have hpl := pieces_len s nK P z img
  have hpe := pieces_each (s := s) (P := P) hf.f
  have hdot : symb s nK P z img id = psum (rowN s nK P id).testBit z (pieces s nK P z img) (pieces s nK P z img).length := symb_dot s h1 (by omega) id
  have hsl := bsplit_len img nK z nK
  have hse := bsplit_each (img := img) hf.f (Nat.le_refl nK)
  have hM : ∀ W, Calls Tryz.prog 47 #[.agg #[B32 s, .int .i64 nK, .int .i64 P, .int .i64 z]] W (fun e w' => e = .returned (.bool true) ∧ Keeps [] W w') := fun W => by
    have := rmayp_calls (w := W) s nK P z
    rwa [show PmOk (nK : Int) (P : Int) (z : Int) = true from by simp [PmOk]; omega] at this
  have hi' := hi
  obtain ⟨a, c, rfl, _⟩ := hi'
  obtain ⟨n, hn⟩ : ∃ n, n = img.length := ⟨_, rfl⟩
  have hmf := hf.mf0
  have hfit := hf.f
  have hSp : ∀ W, Keeps [] w W → Calls Tryz.prog 56 #[.slice a n c, .int .i64 z] W (PcsPost W (bsplit img nK z nK)) := fun W k => by
    have := rsplit_calls (hi.keepsNil k) nK z hmf hfit
    rwa [← hn] at this
  have hC : ∀ W, Calls Tryz.prog 46 #[.int .i64 n, .int .i64 z] W (fun e w' => e = .returned (.int .i64 nK) ∧ W = w') := fun W => by
    have := rcount_calls (w := W) hmf
    rwa [← hn] at this
  rw [← hn]
  have HM := Lib.hid hM
  have HSp := Lib.hid hSp
  have HC := Lib.hid hC
  have HRo := Lib.hid (fun W => rrow_calls (w := W) s hpm id)
  have HPc := Lib.hid (fun W (v : Value) (hv : RdL W v (bsplit img nK z nK)) => rpieces_calls s hpm hv hsl hse)
  have Hball := Lib.hid (show ball s z (bsplit img nK z nK) P = pieces s nK P z img from rfl)
  have Hdot := Lib.hid hdot
  have Hpl := Lib.hid hpl
  have Hpe := Lib.hid hpe
  have hB := Blk.newA w 38 #[B32 s, .int .i64 nK, .int .i64 P, .int .i64 z]
  have kA : Keeps [] w (w.alloc (.cells #[B32 s, .int .i64 nK, .int .i64 P, .int .i64 z] 38)) := (Keeps.refl [] w).alloc _
  have HkA := Lib.hid kA
  have c0 := hB.cell' (i := 0) rfl
  have c1 := hB.cell' (i := 1) rfl
  have c2 := hB.cell' (i := 2) rfl
  have c3 := hB.cell' (i := 3) rfl
  have hnn : ((nK : Int) != (nK : Int)) = false := by simp
  clear hM hSp hC hdot hpl hpe hmf hfit hi hf hsl hse kA hB hn hpm
  go_enter Tryz.func16, Tryz.ntmps16
  go_upto_region 1 with (fail)
  generalize w.alloc (.cells #[B32 s, .int .i64 nK, .int .i64 P, .int .i64 z] 38) = w0 at *
  have kd : Keeps [] w0 w0.drew := (Keeps.refl [] w0).drew
  refine wp_region_noPanic ?_
  refine wp_region_held_drew (S := (fun W => W.cell? ⟨w.heap.size, 0, none⟩ = some (B32 s) ∧ W.cell? ⟨w.heap.size, 1, none⟩ = some (.int .i64 nK) ∧ W.cell? ⟨w.heap.size, 2, none⟩ = some (.int .i64 P) ∧ W.cell? ⟨w.heap.size, 3, none⟩ = some (.int .i64 z))) (by kernel_rfl) ⟨c0, c1, c2, c3⟩ (fun hHeld => ?_)
  refine wpAnyH_take (i := 0) (v := ?v1_1) rfl (by kernel_rfl) (by kernel_rfl) (by kernel_rfl) (fun _ _ _ h => h) (Or.inl ⟨by rfl, ?y1_1⟩) (by assumption) ?r1_1
  case y1_1 => (intro w hSw; (try dsimp only at hSw); go_simp; try with_reducible rfl)
  (try simp only [Act.put, List.getElem_toArray, List.getElem_cons_zero, List.getElem_cons_succ, List.setIfInBounds_toArray, List.set_cons_zero, List.set_cons_succ])
  refine wpAnyH_ready (rs := [1]) (by kernel_rfl) (by simp) ?_
  refine AllReadyH.cons rfl (fun K hK => ?_) AllReadyH.nil
  go_simp
  refine (HM.out _).mono ?_
  rintro e w1 ⟨rfl, k1⟩
  replace kd := kd.trans k1
  go_wp2_with fail
  refine hK.out _ _ ?s1_2 (fun hHeld => ?_)
  case s1_2 => ((try dsimp only) <;> (first | exact ⟨kd.cell0 c0, kd.cell0 c1, kd.cell0 c2, kd.cell0 c3⟩))
  clear hK K
  (try simp only [Act.put, List.getElem_toArray, List.getElem_cons_zero, List.getElem_cons_succ, List.setIfInBounds_toArray, List.set_cons_zero, List.set_cons_succ])
  refine wpAnyH_take (i := 2) (v := ?v1_3) rfl (by kernel_rfl) (by kernel_rfl) (by kernel_rfl) (fun _ _ _ h => h) (Or.inl ⟨by rfl, ?y1_3⟩) (by assumption) ?r1_3
  case y1_3 => (intro w hSw; (try dsimp only at hSw); go_simp; try with_reducible rfl)
  (try simp only [Act.put, List.getElem_toArray, List.getElem_cons_zero, List.getElem_cons_succ, List.setIfInBounds_toArray, List.set_cons_zero, List.set_cons_succ])
  refine wpAnyH_take (i := 3) (v := ?v1_4) rfl (by kernel_rfl) (by kernel_rfl) (by kernel_rfl) (fun _ _ _ h => h) (Or.inl ⟨by rfl, ?y1_4⟩) (by assumption) ?r1_4
  case y1_4 => (intro w hSw; (try dsimp only at hSw); go_simp; try with_reducible rfl)
  (try simp only [Act.put, List.getElem_toArray, List.getElem_cons_zero, List.getElem_cons_succ, List.setIfInBounds_toArray, List.set_cons_zero, List.set_cons_succ])
  refine wpAnyH_take (i := 4) (v := ?v1_5) rfl (by kernel_rfl) (by kernel_rfl) (by kernel_rfl) (fun _ _ _ h => h) (Or.inl ⟨by rfl, ?y1_5⟩) (by assumption) ?r1_5
  case y1_5 => (intro w hSw; (try dsimp only at hSw); go_simp; try with_reducible rfl)
  (try simp only [Act.put, List.getElem_toArray, List.getElem_cons_zero, List.getElem_cons_succ, List.setIfInBounds_toArray, List.set_cons_zero, List.set_cons_succ])
  refine wpAnyH_take (i := 5) (v := ?v1_6) rfl (by kernel_rfl) (by kernel_rfl) (by kernel_rfl) (fun _ _ _ h => h) (Or.inl ⟨by rfl, ?y1_6⟩) (by assumption) ?r1_6
  case y1_6 => (intro w hSw; (try dsimp only at hSw); go_simp; try with_reducible rfl)
  (try simp only [Act.put, List.getElem_toArray, List.getElem_cons_zero, List.getElem_cons_succ, List.setIfInBounds_toArray, List.set_cons_zero, List.set_cons_succ])
  refine wpAnyH_take (i := 6) (v := ?v1_7) rfl (by kernel_rfl) (by kernel_rfl) (by kernel_rfl) (fun _ _ _ h => h) (Or.inl ⟨by rfl, ?y1_7⟩) (by assumption) ?r1_7
  case y1_7 => (intro w hSw; (try dsimp only at hSw); go_simp; try with_reducible rfl)
  (try simp only [Act.put, List.getElem_toArray, List.getElem_cons_zero, List.getElem_cons_succ, List.setIfInBounds_toArray, List.set_cons_zero, List.set_cons_succ])
  refine wpAnyH_take (i := 7) (v := ?v1_8) rfl (by kernel_rfl) (by kernel_rfl) (by kernel_rfl) (fun _ _ _ h => h) (Or.inl ⟨by rfl, ?y1_8⟩) (by assumption) ?r1_8
  case y1_8 => (intro w hSw; (try dsimp only at hSw); go_simp; try with_reducible rfl)
  (try simp only [Act.put, List.getElem_toArray, List.getElem_cons_zero, List.getElem_cons_succ, List.setIfInBounds_toArray, List.set_cons_zero, List.set_cons_succ])
  refine wpAnyH_take (i := 9) (v := ?v1_9) rfl (by kernel_rfl) (by kernel_rfl) (by kernel_rfl) (fun _ _ _ h => h) (Or.inl ⟨by rfl, ?y1_9⟩) (by assumption) ?r1_9
  case y1_9 => (intro w hSw; (try dsimp only at hSw); go_simp; try with_reducible rfl)
  (try simp only [Act.put, List.getElem_toArray, List.getElem_cons_zero, List.getElem_cons_succ, List.setIfInBounds_toArray, List.set_cons_zero, List.set_cons_succ])
  refine wpAnyH_take (i := 10) (v := ?v1_10) rfl (by kernel_rfl) (by kernel_rfl) (by kernel_rfl) (fun _ _ _ h => h) (Or.inl ⟨by rfl, ?y1_10⟩) (by assumption) ?r1_10
  case y1_10 => (intro w hSw; (try dsimp only at hSw); go_simp; try with_reducible rfl)
  (try simp only [Act.put, List.getElem_toArray, List.getElem_cons_zero, List.getElem_cons_succ, List.setIfInBounds_toArray, List.set_cons_zero, List.set_cons_succ])
  refine wpAnyH_ready (rs := [8]) (by kernel_rfl) (by simp) ?_
  refine AllReadyH.cons rfl (fun K hK => ?_) AllReadyH.nil
  go_simp
  refine (HC.out _).mono ?_
  rintro e w2 ⟨rfl, rfl⟩
  go_wp2_with fail
  refine hK.out _ _ ?s1_11 (fun hHeld => ?_)
  case s1_11 => ((try dsimp only) <;> (first | exact ⟨kd.cell0 c0, kd.cell0 c1, kd.cell0 c2, kd.cell0 c3⟩))
  clear hK K
  (try simp only [Act.put, List.getElem_toArray, List.getElem_cons_zero, List.getElem_cons_succ, List.setIfInBounds_toArray, List.set_cons_zero, List.set_cons_succ])
  refine wpAnyH_take (i := 11) (v := ?v1_12) rfl (by kernel_rfl) (by kernel_rfl) (by kernel_rfl) (fun _ _ _ h => h) (Or.inl ⟨by rfl, ?y1_12⟩) (by assumption) ?r1_12
  case y1_12 => (intro w hSw; (try dsimp only at hSw); go_simp; try with_reducible rfl)
  (try simp only [Act.put, List.getElem_toArray, List.getElem_cons_zero, List.getElem_cons_succ, List.setIfInBounds_toArray, List.set_cons_zero, List.set_cons_succ])
  refine wpAnyH_take (i := 12) (v := ?v1_13) rfl (by kernel_rfl) (by kernel_rfl) (by kernel_rfl) (fun _ _ _ h => h) (Or.inl ⟨by rfl, ?y1_13⟩) (by assumption) ?r1_13
  case y1_13 => (intro w hSw; (try dsimp only at hSw); go_simp; try with_reducible rfl)
  (try simp only [Act.put, List.getElem_toArray, List.getElem_cons_zero, List.getElem_cons_succ, List.setIfInBounds_toArray, List.set_cons_zero, List.set_cons_succ])
  refine wpAnyH_done (by kernel_rfl) ?_ _
  refine NoPanic.normal ?_
  have d0 := kd.cell0 c0
  have d1 := kd.cell0 c1
  have d2 := kd.cell0 c2
  have d3 := kd.cell0 c3
  have HK1 := Lib.hid (HkA.out.trans kd)
  clear c0 c1 c2 c3 hHeld kd k1 HkA HC HM
  go_upto_region 3 with (fail)
  have ke : Keeps [] w1 w1.drew := (Keeps.refl [] w1).drew
  refine wp_region_noPanic ?_
  refine wp_region_held_drew (S := (fun W => W.cell? ⟨w.heap.size, 0, none⟩ = some (B32 s) ∧ W.cell? ⟨w.heap.size, 1, none⟩ = some (.int .i64 nK) ∧ W.cell? ⟨w.heap.size, 2, none⟩ = some (.int .i64 P) ∧ W.cell? ⟨w.heap.size, 3, none⟩ = some (.int .i64 z))) (by kernel_rfl) ⟨d0, d1, d2, d3⟩ (fun hHeld => ?_)
  refine wpAnyH_take (i := 0) (v := ?v2_14) rfl (by kernel_rfl) (by kernel_rfl) (by kernel_rfl) (fun _ _ _ h => h) (Or.inl ⟨by rfl, ?y2_14⟩) (by assumption) ?r2_14
  case y2_14 => (intro w hSw; (try dsimp only at hSw); go_simp; try with_reducible rfl)
  (try simp only [Act.put, List.getElem_toArray, List.getElem_cons_zero, List.getElem_cons_succ, List.setIfInBounds_toArray, List.set_cons_zero, List.set_cons_succ])
  refine wpAnyH_take (i := 1) (v := ?v2_15) rfl (by kernel_rfl) (by kernel_rfl) (by kernel_rfl) (fun _ _ _ h => h) (Or.inl ⟨by rfl, ?y2_15⟩) (by assumption) ?r2_15
  case y2_15 => (intro w hSw; (try dsimp only at hSw); go_simp; try with_reducible rfl)
  (try simp only [Act.put, List.getElem_toArray, List.getElem_cons_zero, List.getElem_cons_succ, List.setIfInBounds_toArray, List.set_cons_zero, List.set_cons_succ])
  refine wpAnyH_take (i := 3) (v := ?v2_16) rfl (by kernel_rfl) (by kernel_rfl) (by kernel_rfl) (fun _ _ _ h => h) (Or.inl ⟨by rfl, ?y2_16⟩) (by assumption) ?r2_16
  case y2_16 => (intro w hSw; (try dsimp only at hSw); go_simp; try with_reducible rfl)
  (try simp only [Act.put, List.getElem_toArray, List.getElem_cons_zero, List.getElem_cons_succ, List.setIfInBounds_toArray, List.set_cons_zero, List.set_cons_succ])
  refine wpAnyH_take (i := 4) (v := ?v2_17) rfl (by kernel_rfl) (by kernel_rfl) (by kernel_rfl) (fun _ _ _ h => h) (Or.inl ⟨by rfl, ?y2_17⟩) (by assumption) ?r2_17
  case y2_17 => (intro w hSw; (try dsimp only at hSw); go_simp; try with_reducible rfl)
  (try simp only [Act.put, List.getElem_toArray, List.getElem_cons_zero, List.getElem_cons_succ, List.setIfInBounds_toArray, List.set_cons_zero, List.set_cons_succ])
  refine wpAnyH_take (i := 5) (v := ?v2_18) rfl (by kernel_rfl) (by kernel_rfl) (by kernel_rfl) (fun _ _ _ h => h) (Or.inl ⟨by rfl, ?y2_18⟩) (by assumption) ?r2_18
  case y2_18 => (intro w hSw; (try dsimp only at hSw); go_simp; try with_reducible rfl)
  (try simp only [Act.put, List.getElem_toArray, List.getElem_cons_zero, List.getElem_cons_succ, List.setIfInBounds_toArray, List.set_cons_zero, List.set_cons_succ])
  refine wpAnyH_take (i := 6) (v := ?v2_19) rfl (by kernel_rfl) (by kernel_rfl) (by kernel_rfl) (fun _ _ _ h => h) (Or.inl ⟨by rfl, ?y2_19⟩) (by assumption) ?r2_19
  case y2_19 => (intro w hSw; (try dsimp only at hSw); go_simp; try with_reducible rfl)
  (try simp only [Act.put, List.getElem_toArray, List.getElem_cons_zero, List.getElem_cons_succ, List.setIfInBounds_toArray, List.set_cons_zero, List.set_cons_succ])
  refine wpAnyH_take (i := 9) (v := ?v2_20) rfl (by kernel_rfl) (by kernel_rfl) (by kernel_rfl) (fun _ _ _ h => h) (Or.inl ⟨by rfl, ?y2_20⟩) (by assumption) ?r2_20
  case y2_20 => (intro w hSw; (try dsimp only at hSw); go_simp; try with_reducible rfl)
  (try simp only [Act.put, List.getElem_toArray, List.getElem_cons_zero, List.getElem_cons_succ, List.setIfInBounds_toArray, List.set_cons_zero, List.set_cons_succ])
  refine wpAnyH_take (i := 10) (v := ?v2_21) rfl (by kernel_rfl) (by kernel_rfl) (by kernel_rfl) (fun _ _ _ h => h) (Or.inl ⟨by rfl, ?y2_21⟩) (by assumption) ?r2_21
  case y2_21 => (intro w hSw; (try dsimp only at hSw); go_simp; try with_reducible rfl)
  (try simp only [Act.put, List.getElem_toArray, List.getElem_cons_zero, List.getElem_cons_succ, List.setIfInBounds_toArray, List.set_cons_zero, List.set_cons_succ])
  refine wpAnyH_ready (rs := [2]) (by kernel_rfl) (by simp) ?_
  refine AllReadyH.cons rfl (fun K hK => ?_) AllReadyH.nil
  go_simp
  refine (HRo.out _).mono ?_
  rintro e w2 ⟨gr, rfl, hgr, hb2, k2⟩
  replace ke := ke.trans k2
  have Hb2 := Lib.hid hb2
  clear hb2 k2
  go_wp2_with fail
  refine hK.out _ _ ?s2_22 (fun hHeld => ?_)
  case s2_22 => ((try dsimp only) <;> (first | exact ⟨ke.cell0 d0, ke.cell0 d1, ke.cell0 d2, ke.cell0 d3⟩))
  clear hK K
  (try simp only [Act.put, List.getElem_toArray, List.getElem_cons_zero, List.getElem_cons_succ, List.setIfInBounds_toArray, List.set_cons_zero, List.set_cons_succ])
  refine wpAnyH_ready (rs := [7]) (by kernel_rfl) (by simp) ?_
  refine AllReadyH.cons rfl (fun K hK => ?_) AllReadyH.nil
  go_simp
  refine (HSp.out _ (HK1.out.trans ke)).mono ?_
  rintro e w3 ⟨v3, rfl, hP3, k3⟩
  replace ke := ke.trans k3
  have Hb3 := Lib.hid (Hb2.out.keeps k3 (by simp))
  have HP3 := Lib.hid (HPc.out _ _ hP3.rdl)
  clear hP3 k3 Hb2
  go_wp2_with fail
  refine hK.out _ _ ?s2_23 (fun hHeld => ?_)
  case s2_23 => ((try dsimp only) <;> (first | exact ⟨ke.cell0 d0, ke.cell0 d1, ke.cell0 d2, ke.cell0 d3⟩))
  clear hK K
  (try simp only [Act.put, List.getElem_toArray, List.getElem_cons_zero, List.getElem_cons_succ, List.setIfInBounds_toArray, List.set_cons_zero, List.set_cons_succ])
  refine wpAnyH_ready (rs := [8]) (by kernel_rfl) (by simp) ?_
  refine AllReadyH.cons rfl (fun K hK => ?_) AllReadyH.nil
  go_simp
  refine HP3.out.mono ?_
  rintro e w4 ⟨v4, rfl, hP4, k4⟩
  rw [Hball.out] at hP4
  replace ke := ke.trans k4
  have HS := rsum_calls (Hb3.out.keeps k4 (by simp)) (nK + P) (Nat.le_refl _) (by omega) (by omega) hP4.rdl (by rw [Hpl.out]; exact Nat.le_refl _) h4 h5 Hpe.out
  rw [← Hdot.out] at HS
  have HS4 := Lib.hid HS
  clear hP4 k4 Hb3 HP3 HS
  go_wp2_with fail
  refine hK.out _ _ ?s2_24 (fun hHeld => ?_)
  case s2_24 => ((try dsimp only) <;> (first | exact ⟨ke.cell0 d0, ke.cell0 d1, ke.cell0 d2, ke.cell0 d3⟩))
  clear hK K
  (try simp only [Act.put, List.getElem_toArray, List.getElem_cons_zero, List.getElem_cons_succ, List.setIfInBounds_toArray, List.set_cons_zero, List.set_cons_succ])
  refine wpAnyH_ready (rs := [11]) (by kernel_rfl) (by simp) ?_
  refine AllReadyH.cons rfl (fun K hK => ?_) AllReadyH.nil
  go_simp
  refine HS4.out.mono ?_
  rintro e w5 ⟨g5, rfl, hg5, hb5, k5⟩
  have hs1 := HK1.out.size
  have hs2 := ke.size
  replace ke := ke.trans k5
  have Hb5 := Lib.hid hb5
  clear hb5 k5 HS4
  go_wp2_with fail
  refine hK.out _ _ ?s2_25 (fun hHeld => ?_)
  case s2_25 => ((try dsimp only) <;> (first | exact ⟨ke.cell0 d0, ke.cell0 d1, ke.cell0 d2, ke.cell0 d3⟩))
  clear hK K
  (try simp only [Act.put, List.getElem_toArray, List.getElem_cons_zero, List.getElem_cons_succ, List.setIfInBounds_toArray, List.set_cons_zero, List.set_cons_succ])
  refine wpAnyH_take (i := 12) (v := ?v2_26) rfl (by kernel_rfl) (by kernel_rfl) (by kernel_rfl) (fun _ _ _ h => h) (Or.inl ⟨by rfl, ?y2_26⟩) (by assumption) ?r2_26
  case y2_26 => (intro w hSw; (try dsimp only at hSw); go_simp; try with_reducible rfl)
  (try simp only [Act.put, List.getElem_toArray, List.getElem_cons_zero, List.getElem_cons_succ, List.setIfInBounds_toArray, List.set_cons_zero, List.set_cons_succ])
  refine wpAnyH_done (by kernel_rfl) ?_ _
  refine NoPanic.normal ?_
  go_wp2_with fail
  go_ret
  exact ⟨g5, rfl, by omega, Hb5.out, HK1.out.trans ke⟩

/-- A symbol's bytes. -/
def symM (s id : UInt32) (d : List UInt8) : List UInt8 := be4 s ++ (be4 id ++ d)
theorem symM_len (s id : UInt32) (d : List UInt8) : (symM s id d).length = d.length + 8 := by simp [symM, be4]

set_option maxRecDepth 100000 in
set_option maxHeartbeats 1600000 in
theorem rsymbytes_calls {w : World} (s id : UInt32) {a : Option Addr} {z c : Nat} {d : List UInt8} (hd : RdS w (.slice a z c) d) (hz : d.length = z) (h1 : 1 ≤ z) (h2 : z ≤ 16) :
    Calls Tryz.prog 15 #[.agg #[B32 s, B32 id, .slice a z c]] w (PlainPost w (symM s id d)) := by
  have hB := Blk.newA w 47 #[B32 s, B32 id, .slice a z c]
  have kA : Keeps [] w (w.alloc (.cells #[B32 s, B32 id, .slice a z c] 47)) := (Keeps.refl [] w).alloc _
  have HkA := Lib.hid kA
  have HD := Lib.hid (hd.keepsNil kA)
  have Hz := Lib.hid hz
  have t1 : ¬ ((z : Int) < 1) := by omega
  have t2 : ¬ ((16 : Int) < (z : Int)) := by omega
  have hsz : w.heap.size ≤ (w.alloc (.cells #[B32 s, B32 id, .slice a z c] 47)).heap.size := kA.size
  have c0 := hB.cell' (i := 0) rfl
  have c1 := hB.cell' (i := 1) rfl
  have c2 := hB.cell' (i := 2) rfl
  clear kA hd hz hB
  go_enter Tryz.func15, Tryz.ntmps15
  go_upto_region 3 with (fail)
  generalize w.alloc (.cells #[B32 s, B32 id, .slice a z c] 47) = w0 at *
  have kd : Keeps [] w0 w0.drew := (Keeps.refl [] w0).drew
  refine wp_region_noPanic ?_
  refine wp_region_held_drew (S := (fun W => W.cell? ⟨w.heap.size, 0, none⟩ = some (B32 s) ∧ W.cell? ⟨w.heap.size, 1, none⟩ = some (B32 id) ∧ W.cell? ⟨w.heap.size, 2, none⟩ = some (.slice a z c))) (by kernel_rfl) ⟨c0, c1, c2⟩ (fun hHeld => ?_)
  refine wpAnyH_take (i := 0) (v := ?v3_27) rfl (by kernel_rfl) (by kernel_rfl) (by kernel_rfl) (fun _ _ _ h => h) (Or.inl ⟨by rfl, ?y3_27⟩) (by assumption) ?r3_27
  case y3_27 => (intro w hSw; (try dsimp only at hSw); go_simp; try with_reducible rfl)
  (try simp only [Act.put, List.getElem_toArray, List.getElem_cons_zero, List.getElem_cons_succ, List.setIfInBounds_toArray, List.set_cons_zero, List.set_cons_succ])
  refine wpAnyH_take (i := 1) (v := ?v3_28) rfl (by kernel_rfl) (by kernel_rfl) (by kernel_rfl) (fun _ _ _ h => h) (Or.inl ⟨by rfl, ?y3_28⟩) (by assumption) ?r3_28
  case y3_28 => (intro w hSw; (try dsimp only at hSw); go_simp; try with_reducible rfl)
  (try simp only [Act.put, List.getElem_toArray, List.getElem_cons_zero, List.getElem_cons_succ, List.setIfInBounds_toArray, List.set_cons_zero, List.set_cons_succ])
  refine wpAnyH_take (i := 3) (v := ?v3_29) rfl (by kernel_rfl) (by kernel_rfl) (by kernel_rfl) (fun _ _ _ h => h) (Or.inl ⟨by rfl, ?y3_29⟩) (by assumption) ?r3_29
  case y3_29 => (intro w hSw; (try dsimp only at hSw); go_simp; try with_reducible rfl)
  (try simp only [Act.put, List.getElem_toArray, List.getElem_cons_zero, List.getElem_cons_succ, List.setIfInBounds_toArray, List.set_cons_zero, List.set_cons_succ])
  refine wpAnyH_take (i := 4) (v := ?v3_30) rfl (by kernel_rfl) (by kernel_rfl) (by kernel_rfl) (fun _ _ _ h => h) (Or.inl ⟨by rfl, ?y3_30⟩) (by assumption) ?r3_30
  case y3_30 => (intro w hSw; (try dsimp only at hSw); go_simp; try with_reducible rfl)
  (try simp only [Act.put, List.getElem_toArray, List.getElem_cons_zero, List.getElem_cons_succ, List.setIfInBounds_toArray, List.set_cons_zero, List.set_cons_succ])
  refine wpAnyH_take (i := 6) (v := ?v3_31) rfl (by kernel_rfl) (by kernel_rfl) (by kernel_rfl) (fun _ _ _ h => h) (Or.inl ⟨by rfl, ?y3_31⟩) (by assumption) ?r3_31
  case y3_31 => (intro w hSw; (try dsimp only at hSw); go_simp; try with_reducible rfl)
  (try simp only [Act.put, List.getElem_toArray, List.getElem_cons_zero, List.getElem_cons_succ, List.setIfInBounds_toArray, List.set_cons_zero, List.set_cons_succ])
  refine wpAnyH_take (i := 7) (v := ?v3_32) rfl (by kernel_rfl) (by kernel_rfl) (by kernel_rfl) (fun _ _ _ h => h) (Or.inl ⟨by rfl, ?y3_32⟩) (by assumption) ?r3_32
  case y3_32 => (intro w hSw; (try dsimp only at hSw); go_simp; try with_reducible rfl)
  (try simp only [Act.put, List.getElem_toArray, List.getElem_cons_zero, List.getElem_cons_succ, List.setIfInBounds_toArray, List.set_cons_zero, List.set_cons_succ])
  refine wpAnyH_ready (rs := [2]) (by kernel_rfl) (by simp) ?_
  refine AllReadyH.cons rfl (fun K hK => ?_) AllReadyH.nil
  go_simp
  refine (four2_calls s).mono ?_
  rintro e w1 ⟨a1, x1, rfl, hR1, k1⟩
  replace kd := kd.trans k1
  have HR1 := Lib.hid hR1
  clear hR1 k1
  go_wp2_with fail
  refine hK.out _ _ ?s3_33 (fun hHeld => ?_)
  case s3_33 => ((try dsimp only) <;> (first | exact ⟨kd.cell0 c0, kd.cell0 c1, kd.cell0 c2⟩))
  clear hK K
  (try simp only [Act.put, List.getElem_toArray, List.getElem_cons_zero, List.getElem_cons_succ, List.setIfInBounds_toArray, List.set_cons_zero, List.set_cons_succ])
  refine wpAnyH_ready (rs := [5]) (by kernel_rfl) (by simp) ?_
  refine AllReadyH.cons rfl (fun K hK => ?_) AllReadyH.nil
  go_simp
  refine (four2_calls id).mono ?_
  rintro e w2 ⟨a2, x2, rfl, hR2, k2⟩
  replace kd := kd.trans k2
  have HR2 := Lib.hid hR2
  have HR12 := Lib.hid (HR1.out.keepsNil k2)
  clear hR2 k2 HR1
  go_wp2_with fail
  refine hK.out _ _ ?s3_34 (fun hHeld => ?_)
  case s3_34 => ((try dsimp only) <;> (first | exact ⟨kd.cell0 c0, kd.cell0 c1, kd.cell0 c2⟩))
  clear hK K
  (try simp only [Act.put, List.getElem_toArray, List.getElem_cons_zero, List.getElem_cons_succ, List.setIfInBounds_toArray, List.set_cons_zero, List.set_cons_succ])
  refine wpAnyH_ready (rs := [8]) (by kernel_rfl) (by simp) ?_
  refine AllReadyH.cons rfl (fun K hK => ?_) AllReadyH.nil
  go_simp
  have kL : Keeps [] w2 (w2.alloc (.cells #[.slice a1 4 x1, .slice a2 4 x2, .slice a z c] 22)) := (Keeps.refl [] w2).alloc _
  have hRL := RdL.three (Blk.newA w2 22 #[.slice a1 4 x1, .slice a2 4 x2, .slice a z c]) (HR12.out.keepsNil kL) (HR2.out.keepsNil kL) ((HD.out.keepsNil kd).keepsNil kL)
  have HJ := Lib.hid (rjoin_calls hRL (by simp) (by simp [be4, Hz.out]; omega))
  have e1 : ([be4 s, be4 id, d] : List (List UInt8)).flatten = symM s id d := by simp [symM]
  rw [e1] at HJ
  replace kd := kd.trans kL
  clear hRL kL HR12 HR2
  refine hK.out _ _ ?s3_35 (fun hHeld => ?_)
  case s3_35 => ((try dsimp only) <;> (first | exact ⟨kd.cell0 c0, kd.cell0 c1, kd.cell0 c2⟩))
  clear hK K
  (try simp only [Act.put, List.getElem_toArray, List.getElem_cons_zero, List.getElem_cons_succ, List.setIfInBounds_toArray, List.set_cons_zero, List.set_cons_succ])
  refine wpAnyH_ready (rs := [9]) (by kernel_rfl) (by simp) ?_
  refine AllReadyH.cons rfl (fun K hK => ?_) AllReadyH.nil
  go_simp
  refine HJ.out.mono ?_
  rintro e w4 ⟨v4, rfl, hO4, k4⟩
  have hs4 := kd.size
  replace kd := kd.trans k4
  have HO4 := Lib.hid hO4
  clear hO4 k4 HJ
  go_wp2_with fail
  refine hK.out _ _ ?s3_36 (fun hHeld => ?_)
  case s3_36 => ((try dsimp only) <;> (first | exact ⟨kd.cell0 c0, kd.cell0 c1, kd.cell0 c2⟩))
  clear hK K
  (try simp only [Act.put, List.getElem_toArray, List.getElem_cons_zero, List.getElem_cons_succ, List.setIfInBounds_toArray, List.set_cons_zero, List.set_cons_succ])
  refine wpAnyH_take (i := 10) (v := ?v3_37) rfl (by kernel_rfl) (by kernel_rfl) (by kernel_rfl) (fun _ _ _ h => h) (Or.inl ⟨by rfl, ?y3_37⟩) (by assumption) ?r3_37
  case y3_37 => (intro w hSw; (try dsimp only at hSw); go_simp; try with_reducible rfl)
  (try simp only [Act.put, List.getElem_toArray, List.getElem_cons_zero, List.getElem_cons_succ, List.setIfInBounds_toArray, List.set_cons_zero, List.set_cons_succ])
  refine wpAnyH_take (i := 11) (v := ?v3_38) rfl (by kernel_rfl) (by kernel_rfl) (by kernel_rfl) (fun _ _ _ h => h) (Or.inl ⟨by rfl, ?y3_38⟩) (by assumption) ?r3_38
  case y3_38 => (intro w hSw; (try dsimp only at hSw); go_simp; try with_reducible rfl)
  (try simp only [Act.put, List.getElem_toArray, List.getElem_cons_zero, List.getElem_cons_succ, List.setIfInBounds_toArray, List.set_cons_zero, List.set_cons_succ])
  refine wpAnyH_done (by kernel_rfl) ?_ _
  refine NoPanic.normal ?_
  go_wp2_with fail
  go_ret2
  exact ⟨v4, rfl, HO4.out.mono (by omega), HkA.out.trans kd⟩

end Go.Proofs.YtijhaeapoapgfaaGreatDoor

set_option linter.unusedVariables false
set_option linter.unusedSimpArgs false
namespace Go.Proofs.YtijhaeapoapgfaaGreatDoor
open Go.RowKit
attribute [local go_sem ↓] Go.wp_at_zero Go.wp_at_succ

set_option maxRecDepth 100000 in
theorem index2_run (w : World) (cells : Array Value) (j : Nat) (hj : j < 2) (v : Value) (hv : cells[j]? = some v) :
    (Instr.index 168 (.agg cells) (.int .i64 (j : Int))).run Tryz.prog w = .ok v w := by
  have hu : (underlying 168).run Tryz.prog w = .ok (.array 2 30) w := run_underlying Tryz.underlying168 w
  have hs : (sizeOf 30).run Tryz.prog w = .ok 1 w := by
    have : (Tryz.prog.info? 30).map (·.size) = some 1 := by kernel_rfl
    cases hq : Tryz.prog.info? 30 with
    | none => simp [hq] at this
    | some i => simp [hq] at this; simp [sizeOf, typeInfo, hq, this]
  have h0 : (0 : Int) ≤ (j : Int) ∧ (j : Int) < 2 := by omega
  simp only [Instr.index, asIntOf, Sem.run_bind, Sem.run_pure, Result.andThen_ok, hu]
  simp [h0, hs, Sem.run_bind, part, hv]
theorem wpList_index2 {w : World} {ops : Array Oper} {rest : List Oper} {o : Oper} {act : Act} {Q : Exit → Act → World → Prop} (hgd : o.guard = none) (x y : Operand) (ho : o.op = .index 168 x y)
    (cells : Array Value) (hx : act.eval x = .agg cells) (j : Nat) (hj : j < 2) (hy : act.eval y = .int .i64 (j : Int)) (v : Value) (hv : cells[j]? = some v)
    (h : wpList Tryz.prog ops Q rest (act.put o.dst v) w) : wpList Tryz.prog ops Q (o :: rest) act w := by
  refine wpList_plain hgd fun K hK => ?_
  have hr := index2_run w cells j hj v hv
  unfold Oper.wp
  simp only [execOp, ho, hx, hy, hr, Sem.run_bind, Result.andThen_ok, Sem.run_pure, Oper.upon]
  exact hK _ _ h

theorem four_rd (w : World) (M : UInt32) : Rd (w.alloc (.cells #[.int .u8 ((M.toNat : Int) / 16777216 % 256), .int .u8 ((M.toNat : Int) / 65536 % 256), .int .u8 ((M.toNat : Int) / 256 % 256), .int .u8 ((M.toNat : Int) % 256)] 5)) (some ⟨w.heap.size, 0, none⟩) (be4 M) :=
  Rd.lit w _ _ (be4 M) (four_list M _ _ _ _ rfl rfl rfl rfl)

set_option maxRecDepth 100000 in
set_option maxHeartbeats 1600000 in
theorem pbytes_calls {w : World} (s id : UInt32) {a : Option Addr} {z c : Nat} {d : List UInt8} (hd : RdS w (.slice a z c) d) (hz : d.length = z) (h1 : 1 ≤ z) (h2 : z ≤ 16) :
    Calls Tryz.prog 62 #[.agg #[B32 s, B32 id, .slice a z c]] w (PlainPost w (symM s id d)) := by
  have hB := Blk.newA w 47 #[B32 s, B32 id, .slice a z c]
  have kA : Keeps [] w (w.alloc (.cells #[B32 s, B32 id, .slice a z c] 47)) := (Keeps.refl [] w).alloc _
  have hsz : w.heap.size ≤ (w.alloc (.cells #[B32 s, B32 id, .slice a z c] 47)).heap.size := kA.size
  have HkA := Lib.hid kA
  have HD := Lib.hid (hd.keepsNil kA)
  have Hz := Lib.hid hz
  have t1 : ¬ ((z : Int) < 1) := by omega
  have t2 : ¬ ((16 : Int) < (z : Int)) := by omega
  have c0 := hB.cell' (i := 0) rfl
  have c1 := hB.cell' (i := 1) rfl
  have HBk := Lib.hid hB
  clear kA hd hz hB
  go_enter Tryz.func62, Tryz.ntmps62
  have c2 := HBk.out.cell' (i := 2) rfl
  go_wp2_with fail
  generalize w.alloc (.cells #[B32 s, B32 id, .slice a z c] 47) = w0 at *
  clear c0 c1 c2
  go_loopw [4, 22] (fun v i wr => ∃ k : Nat, k ≤ 2 ∧ i = .int .i64 k ∧ Own wr w0.heap.size v ((be4 s ++ be4 id).take (4 * k)) ∧ Keeps [] w0 wr) (fun _ i _ => 2 - (intOf i).toNat)
  case atStart => exact ⟨0, by omega, rfl, Own.nil _ _, Keeps.refl _ _⟩
  case round =>
    obtain ⟨k, hk, rfl, hO, hK⟩ := hrel
    have hs := hK.size
    match k, hk with
    | 0, _ =>
      have HO := Lib.hid (hO.keeps ((Keeps.refl [] wr).alloc (.cells #[.int .u8 ((s.toNat : Int) / 16777216 % 256), .int .u8 ((s.toNat : Int) / 65536 % 256), .int .u8 ((s.toNat : Int) / 256 % 256), .int .u8 ((s.toNat : Int) % 256)] 5)) (by simp))
      have HR := Lib.hid (four_rd wr s)
      have HK := Lib.hid (hK.alloc (.cells #[.int .u8 ((s.toNat : Int) / 16777216 % 256), .int .u8 ((s.toNat : Int) / 65536 % 256), .int .u8 ((s.toNat : Int) / 256 % 256), .int .u8 ((s.toNat : Int) % 256)] 5))
      have HH := Lib.hid hO
      have hb : w0.heap.size ≤ (wr.alloc (.cells #[.int .u8 ((s.toNat : Int) / 16777216 % 256), .int .u8 ((s.toNat : Int) / 65536 % 256), .int .u8 ((s.toNat : Int) / 256 % 256), .int .u8 ((s.toNat : Int) % 256)] 5)).heap.size := by simp; omega
      clear hO hK
      go_wp2_with (first | (refine wpList_index2 rfl (.tmp 21) (.tmp 22) rfl #[B32 s, B32 id] rfl 0 (by omega) rfl (B32 s) rfl ?_) | (at_builtin; (refine wpList_append_bytes rfl (.tmp 25) (.tmp 37) rfl HO.out rfl _ 4 4 rfl HR.out rfl (by simp) (by simp) hb ?_); intro v2 w2 g1 g2 g3; have HO2 := Lib.hid g1; have HK2 := Lib.hid (HK.out.grown g2 (fun y hy => .inr (HH.out.ne_lt y hy))); clear g1 g2 g3))
      go_roundw
      case rel => exact ⟨1, by omega, rfl, by have := HO2.out; simpa [be4] using this, HK2.out⟩
      case measure => simp [intOf]
    | 1, _ =>
      have HO := Lib.hid (hO.keeps ((Keeps.refl [] wr).alloc (.cells #[.int .u8 ((id.toNat : Int) / 16777216 % 256), .int .u8 ((id.toNat : Int) / 65536 % 256), .int .u8 ((id.toNat : Int) / 256 % 256), .int .u8 ((id.toNat : Int) % 256)] 5)) (by simp))
      have HR := Lib.hid (four_rd wr id)
      have HK := Lib.hid (hK.alloc (.cells #[.int .u8 ((id.toNat : Int) / 16777216 % 256), .int .u8 ((id.toNat : Int) / 65536 % 256), .int .u8 ((id.toNat : Int) / 256 % 256), .int .u8 ((id.toNat : Int) % 256)] 5))
      have HH := Lib.hid hO
      have hb : w0.heap.size ≤ (wr.alloc (.cells #[.int .u8 ((id.toNat : Int) / 16777216 % 256), .int .u8 ((id.toNat : Int) / 65536 % 256), .int .u8 ((id.toNat : Int) / 256 % 256), .int .u8 ((id.toNat : Int) % 256)] 5)).heap.size := by simp; omega
      clear hO hK
      go_wp2_with (first | (refine wpList_index2 rfl (.tmp 21) (.tmp 22) rfl #[B32 s, B32 id] rfl 1 (by omega) rfl (B32 id) rfl ?_) | (at_builtin; (refine wpList_append_bytes rfl (.tmp 25) (.tmp 37) rfl HO.out rfl _ 4 4 rfl HR.out rfl (by simp) (by simp [be4]) hb ?_); intro v2 w2 g1 g2 g3; have HO2 := Lib.hid g1; have HK2 := Lib.hid (HK.out.grown g2 (fun y hy => .inr (HH.out.ne_lt y hy))); clear g1 g2 g3))
      go_roundw
      case rel => exact ⟨2, by omega, rfl, by have := HO2.out; simpa [be4] using this, HK2.out⟩
      case measure => simp [intOf]
    | 2, _ =>
      have c2 := (HBk.out.keeps hK (by simp)).cell' (i := 2) rfl
      obtain ⟨a', c', e, _, _, r3, r4, _⟩ := HD.out.keepsNil hK
      simp only [Value.slice.injEq] at e
      obtain ⟨rfl, hx0, rfl⟩ := e
      clear hx0
      have HR := Lib.hid r3
      have Hn0 := Lib.hid (show a = none → z = 0 ∧ c = 0 from fun h => ⟨by rw [← Hz.out, (r4 h).1]; rfl, (r4 h).2⟩)
      have HO := Lib.hid hO
      have HK := Lib.hid hK
      have hl : ((be4 s ++ be4 id).take (4 * 2)).length + z ≤ 140737488351232 := by simp [be4]; omega
      clear r3 r4 hO hK
      go_wp2_with (at_builtin; (refine wpList_append_bytes rfl (.tmp 40) (.tmp 42) rfl HO.out rfl a z c rfl HR.out Hz.out Hn0.out hl hs ?_); intro v2 w2 g1 g2 g3; have HO2 := Lib.hid g1; have HK2 := Lib.hid (HK.out.grown g2 (fun y hy => .inr (HO.out.ne_lt y hy))); clear g1 g2 g3)
      go_ret2
      exact ⟨_, rfl, by have h := HO2.out.mono hsz; have e : (be4 s ++ be4 id).take (4 * 2) ++ d = symM s id d := by simp [symM, be4]
                        rw [e] at h; exact h, HkA.out.trans HK2.out⟩

theorem id_rds {w : World} {v : Value} {l : List UInt8} (h : RdS w v l) : ∃ a c, v = .slice a l.length c ∧ RdS w v l := by
  obtain ⟨a, c, e, r⟩ := id h
  exact ⟨a, c, e, h⟩
/-- A symbol's frame. -/
def CaSym (w0 w : World) (pc ph : Nat) (vk vh : Value) (key : List UInt8) (s v : UInt32) (n nK P z : Nat) (img : List UInt8) (id : UInt32) (e : Ending) (w' : World) : Prop :=
  ∃ x Q', e = .returned x ∧ Own w' w.heap.size x (wrapM 2 (symM s id (symb s nK P z img id))) ∧ Car w0 w' pc ph vk vh key s v n nK P z img Q' ∧ Keeps [ph] w w'

set_option maxRecDepth 100000 in
set_option maxHeartbeats 1600000 in
theorem casymbol_calls {w0 w : World} {pc ph : Nat} {vk vh : Value} {key : List UInt8} {s v : UInt32} {n nK P z : Nat} {img : List UInt8} {Q : Nat → Prop} (h : Car w0 w pc ph vk vh key s v n nK P z img Q) (id : UInt32) :
    Calls Tryz.prog 22 #[P0 pc, B32 id] w (CaSym w0 w pc ph vk vh key s v n nK P z img id) := by
  have hf := h.h.fits
  have hz1 := hf.z1
  have hz2 := hf.z2
  have hsy := hf.sym_len s id
  have hpp : pc ∉ [ph] := fun e => h.p.2 (by simp only [List.mem_singleton] at e; exact e ▸ h.h.q)
  have c1 := h.b.cell' (i := 1) rfl
  have c11 := h.b.cell' (i := 11) rfl
  have HC := Lib.hid h
  have Hsy := Lib.hid hsy
  have Hpp := Lib.hid hpp
  clear h hsy hf hpp
  unfold CaSym
  generalize hY : symb s nK P z img id = Y at *
  have HY := Lib.hid hY
  clear hY
  go_enter Tryz.func22, Tryz.ntmps22
  go_upto_region 3 with (fail)
  have kd : Keeps [] w w.drew := (Keeps.refl [] w).drew
  refine wp_region_noPanic ?_
  refine wp_region_held_drew (S := (fun W => W.cell? ⟨pc, 1, none⟩ = some (B32 s) ∧ W.cell? ⟨pc, 11, none⟩ = some (P0 ph))) (by kernel_rfl) ⟨c1, c11⟩ (fun hHeld => ?_)
  refine wpAnyH_take (i := 0) (v := ?v4_39) rfl (by kernel_rfl) (by kernel_rfl) (by kernel_rfl) (fun _ _ _ h => h) (Or.inl ⟨by rfl, ?y4_39⟩) (by assumption) ?r4_39
  case y4_39 => (intro w hSw; (try dsimp only at hSw); go_simp; try with_reducible rfl)
  (try simp only [Act.put, List.getElem_toArray, List.getElem_cons_zero, List.getElem_cons_succ, List.setIfInBounds_toArray, List.set_cons_zero, List.set_cons_succ])
  refine wpAnyH_take (i := 1) (v := ?v4_40) rfl (by kernel_rfl) (by kernel_rfl) (by kernel_rfl) (fun _ _ _ h => h) (Or.inl ⟨by rfl, ?y4_40⟩) (by assumption) ?r4_40
  case y4_40 => (intro w hSw; (try dsimp only at hSw); go_simp; try with_reducible rfl)
  (try simp only [Act.put, List.getElem_toArray, List.getElem_cons_zero, List.getElem_cons_succ, List.setIfInBounds_toArray, List.set_cons_zero, List.set_cons_succ])
  refine wpAnyH_take (i := 2) (v := ?v4_41) rfl (by kernel_rfl) (by kernel_rfl) (by kernel_rfl) (fun _ _ _ h => h) (Or.inl ⟨by rfl, ?y4_41⟩) (by assumption) ?r4_41
  case y4_41 => (intro w hSw; (try dsimp only at hSw); go_simp; try with_reducible rfl)
  (try simp only [Act.put, List.getElem_toArray, List.getElem_cons_zero, List.getElem_cons_succ, List.setIfInBounds_toArray, List.set_cons_zero, List.set_cons_succ])
  refine wpAnyH_take (i := 3) (v := ?v4_42) rfl (by kernel_rfl) (by kernel_rfl) (by kernel_rfl) (fun _ _ _ h => h) (Or.inl ⟨by rfl, ?y4_42⟩) (by assumption) ?r4_42
  case y4_42 => (intro w hSw; (try dsimp only at hSw); go_simp; try with_reducible rfl)
  (try simp only [Act.put, List.getElem_toArray, List.getElem_cons_zero, List.getElem_cons_succ, List.setIfInBounds_toArray, List.set_cons_zero, List.set_cons_succ])
  refine wpAnyH_take (i := 4) (v := ?v4_43) rfl (by kernel_rfl) (by kernel_rfl) (by kernel_rfl) (fun _ _ _ h => h) (Or.inl ⟨by rfl, ?y4_43⟩) (by assumption) ?r4_43
  case y4_43 => (intro w hSw; (try dsimp only at hSw); go_simp; try with_reducible rfl)
  (try simp only [Act.put, List.getElem_toArray, List.getElem_cons_zero, List.getElem_cons_succ, List.setIfInBounds_toArray, List.set_cons_zero, List.set_cons_succ])
  refine wpAnyH_take (i := 5) (v := ?v4_44) rfl (by kernel_rfl) (by kernel_rfl) (by kernel_rfl) (fun _ _ _ h => h) (Or.inl ⟨by rfl, ?y4_44⟩) (by assumption) ?r4_44
  case y4_44 => (intro w hSw; (try dsimp only at hSw); go_simp; try with_reducible rfl)
  (try simp only [Act.put, List.getElem_toArray, List.getElem_cons_zero, List.getElem_cons_succ, List.setIfInBounds_toArray, List.set_cons_zero, List.set_cons_succ])
  refine wpAnyH_take (i := 6) (v := ?v4_45) rfl (by kernel_rfl) (by kernel_rfl) (by kernel_rfl) (fun _ _ _ h => h) (Or.inl ⟨by rfl, ?y4_45⟩) (by assumption) ?r4_45
  case y4_45 => (intro w hSw; (try dsimp only at hSw); go_simp; try with_reducible rfl)
  (try simp only [Act.put, List.getElem_toArray, List.getElem_cons_zero, List.getElem_cons_succ, List.setIfInBounds_toArray, List.set_cons_zero, List.set_cons_succ])
  refine wpAnyH_take (i := 7) (v := ?v4_46) rfl (by kernel_rfl) (by kernel_rfl) (by kernel_rfl) (fun _ _ _ h => h) (Or.inl ⟨by rfl, ?y4_46⟩) (by assumption) ?r4_46
  case y4_46 => (intro w hSw; (try dsimp only at hSw); go_simp; try with_reducible rfl)
  (try simp only [Act.put, List.getElem_toArray, List.getElem_cons_zero, List.getElem_cons_succ, List.setIfInBounds_toArray, List.set_cons_zero, List.set_cons_succ])
  refine wpAnyH_take (i := 8) (v := ?v4_47) rfl (by kernel_rfl) (by kernel_rfl) (by kernel_rfl) (fun _ _ _ h => h) (Or.inl ⟨by rfl, ?y4_47⟩) (by assumption) ?r4_47
  case y4_47 => (intro w hSw; (try dsimp only at hSw); go_simp; try with_reducible rfl)
  (try simp only [Act.put, List.getElem_toArray, List.getElem_cons_zero, List.getElem_cons_succ, List.setIfInBounds_toArray, List.set_cons_zero, List.set_cons_succ])
  refine wpAnyH_take (i := 9) (v := ?v4_48) rfl (by kernel_rfl) (by kernel_rfl) (by kernel_rfl) (fun _ _ _ h => h) (Or.inl ⟨by rfl, ?y4_48⟩) (by assumption) ?r4_48
  case y4_48 => (intro w hSw; (try dsimp only at hSw); go_simp; try with_reducible rfl)
  (try simp only [Act.put, List.getElem_toArray, List.getElem_cons_zero, List.getElem_cons_succ, List.setIfInBounds_toArray, List.set_cons_zero, List.set_cons_succ])
  refine wpAnyH_take (i := 10) (v := ?v4_49) rfl (by kernel_rfl) (by kernel_rfl) (by kernel_rfl) (fun _ _ _ h => h) (Or.inl ⟨by rfl, ?y4_49⟩) (by assumption) ?r4_49
  case y4_49 => (intro w hSw; (try dsimp only at hSw); go_simp; try with_reducible rfl)
  (try simp only [Act.put, List.getElem_toArray, List.getElem_cons_zero, List.getElem_cons_succ, List.setIfInBounds_toArray, List.set_cons_zero, List.set_cons_succ])
  refine wpAnyH_ready (rs := [11]) (by kernel_rfl) (by simp) ?_
  refine AllReadyH.cons rfl (fun K hK => ?_) AllReadyH.nil
  go_simp
  refine (hdsymbol_calls (HC.out.h.keepsNil kd) id).mono ?_
  rintro e w1 ⟨g, rfl, hg, hb1, hH1, k1⟩
  rw [HY.out] at hb1
  have hK1 : Keeps [ph] w w1 := kd.nil.trans k1
  have HC1 := Lib.hid (HC.out.asked hK1 hH1.bound (fun x hx => ⟨hx.1.imp (fun h => h) (fun h => by have : w.drew.heap.size = w.heap.size := rfl; omega), hx.2⟩))
  have HB := Lib.hid (pbytes_calls s id (RdS.blk hb1 Hsy.out (by omega)) Hsy.out hz1 hz2)
  have HK1 := Lib.hid hK1
  have hBc := HC.out.b.keeps hK1 Hpp.out
  have d1 := hBc.cell' (i := 1) rfl
  have d11 := hBc.cell' (i := 11) rfl
  clear hb1 hH1 k1 hK1 hBc hg
  go_wp2_with fail
  refine hK.out _ _ ?s4_50 (fun hHeld => ?_)
  case s4_50 => ((try dsimp only) <;> (first | exact ⟨d1, d11⟩))
  clear hK K
  (try simp only [Act.put, List.getElem_toArray, List.getElem_cons_zero, List.getElem_cons_succ, List.setIfInBounds_toArray, List.set_cons_zero, List.set_cons_succ])
  refine wpAnyH_take (i := 12) (v := ?v4_51) rfl (by kernel_rfl) (by kernel_rfl) (by kernel_rfl) (fun _ _ _ h => h) (Or.inl ⟨by rfl, ?y4_51⟩) (by assumption) ?r4_51
  case y4_51 => (intro w hSw; (try dsimp only at hSw); go_simp; try with_reducible rfl)
  (try simp only [Act.put, List.getElem_toArray, List.getElem_cons_zero, List.getElem_cons_succ, List.setIfInBounds_toArray, List.set_cons_zero, List.set_cons_succ])
  refine wpAnyH_ready (rs := [13]) (by kernel_rfl) (by simp) ?_
  refine AllReadyH.cons rfl (fun K hK => ?_) AllReadyH.nil
  go_simp
  refine HB.out.mono ?_
  rintro e w2 ⟨v2, rfl, hO2, k2⟩
  have HO2 := Lib.hid hO2
  have HC2 := Lib.hid (HC1.out.keepsNil k2)
  have HK2 := Lib.hid (HK1.out.trans k2.nil)
  clear hO2 HB
  go_wp2_with fail
  refine hK.out _ _ ?s4_52 (fun hHeld => ?_)
  case s4_52 => ((try dsimp only) <;> (first | exact ⟨k2.cell0 d1, k2.cell0 d11⟩))
  clear hK K
  (try simp only [Act.put, List.getElem_toArray, List.getElem_cons_zero, List.getElem_cons_succ, List.setIfInBounds_toArray, List.set_cons_zero, List.set_cons_succ])
  refine wpAnyH_take (i := 14) (v := ?v4_53) rfl (by kernel_rfl) (by kernel_rfl) (by kernel_rfl) (fun _ _ _ h => h) (Or.inl ⟨by rfl, ?y4_53⟩) (by assumption) ?r4_53
  case y4_53 => (intro w hSw; (try dsimp only at hSw); go_simp; try with_reducible rfl)
  (try simp only [Act.put, List.getElem_toArray, List.getElem_cons_zero, List.getElem_cons_succ, List.setIfInBounds_toArray, List.set_cons_zero, List.set_cons_succ])
  refine wpAnyH_take (i := 15) (v := ?v4_54) rfl (by kernel_rfl) (by kernel_rfl) (by kernel_rfl) (fun _ _ _ h => h) (Or.inl ⟨by rfl, ?y4_54⟩) (by assumption) ?r4_54
  case y4_54 => (intro w hSw; (try dsimp only at hSw); go_simp; try with_reducible rfl)
  (try simp only [Act.put, List.getElem_toArray, List.getElem_cons_zero, List.getElem_cons_succ, List.setIfInBounds_toArray, List.set_cons_zero, List.set_cons_succ])
  refine wpAnyH_take (i := 16) (v := ?v4_55) rfl (by kernel_rfl) (by kernel_rfl) (by kernel_rfl) (fun _ _ _ h => h) (Or.inl ⟨by rfl, ?y4_55⟩) (by assumption) ?r4_55
  case y4_55 => (intro w hSw; (try dsimp only at hSw); go_simp; try with_reducible rfl)
  (try simp only [Act.put, List.getElem_toArray, List.getElem_cons_zero, List.getElem_cons_succ, List.setIfInBounds_toArray, List.set_cons_zero, List.set_cons_succ])
  refine wpAnyH_take (i := 17) (v := ?v4_56) rfl (by kernel_rfl) (by kernel_rfl) (by kernel_rfl) (fun _ _ _ h => h) (Or.inl ⟨by rfl, ?y4_56⟩) (by assumption) ?r4_56
  case y4_56 => (intro w hSw; (try dsimp only at hSw); go_simp; try with_reducible rfl)
  (try simp only [Act.put, List.getElem_toArray, List.getElem_cons_zero, List.getElem_cons_succ, List.setIfInBounds_toArray, List.set_cons_zero, List.set_cons_succ])
  refine wpAnyH_take (i := 18) (v := ?v4_57) rfl (by kernel_rfl) (by kernel_rfl) (by kernel_rfl) (fun _ _ _ h => h) (Or.inl ⟨by rfl, ?y4_57⟩) (by assumption) ?r4_57
  case y4_57 => (intro w hSw; (try dsimp only at hSw); go_simp; try with_reducible rfl)
  (try simp only [Act.put, List.getElem_toArray, List.getElem_cons_zero, List.getElem_cons_succ, List.setIfInBounds_toArray, List.set_cons_zero, List.set_cons_succ])
  refine wpAnyH_done (by kernel_rfl) ?_ _
  refine NoPanic.normal ?_
  have hR2 := HO2.out.rds
  obtain ⟨a2, c2, rfl, _⟩ := id_rds hR2
  have hyl : (symM s id Y).length = z + 8 := by rw [symM_len, Hsy.out]
  rw [hyl] at hR2 ⊢
  have HW := Lib.hid (fwrap_calls 2 (by omega) hR2 hyl (by omega) : Calls Tryz.prog 61 #[.int .i64 2, .slice a2 (z + 8) c2] w2 (PlainPost w2 (wrapM 2 (symM s id Y))))
  have hs2 := HK2.out.size
  clear hR2 hyl k2 d1 d11 c1 c11 hHeld
  go_wp2_with fail
  refine HW.out.mono ?_
  rintro e w3 ⟨v3, rfl, hO3, k3⟩
  have HO3 := Lib.hid (hO3.mono hs2)
  have HC3 := Lib.hid (HC2.out.keepsNil k3)
  have HK3 := Lib.hid (HK2.out.trans k3.nil)
  clear hO3 k3 HW
  go_wp2_with fail
  go_ret
  exact ⟨_, _, rfl, HO3.out, HC3.out, HK3.out⟩

end Go.Proofs.YtijhaeapoapgfaaGreatDoor

set_option linter.unusedVariables false
set_option linter.unusedSimpArgs false
namespace Go.Proofs.YtijhaeapoapgfaaGreatDoor
open Go.RowKit
attribute [local go_sem ↓] Go.wp_at_zero Go.wp_at_succ

def CaMan (w : World) (s v : UInt32) (n z P : Nat) (h : List UInt8) (e : Ending) (w' : World) : Prop :=
  ∃ a c, e = .returned (MfV s v n z P (.slice a 32 c)) ∧ RdS w' (.slice a 32 c) h ∧ Keeps [] w w'
set_option maxRecDepth 100000 in
set_option maxHeartbeats 1600000 in
theorem camanifest_calls {w0 w : World} {pc ph : Nat} {vk vh : Value} {key : List UInt8} {s v : UInt32} {n nK P z : Nat} {img : List UInt8} {Q : Nat → Prop} (h : Car w0 w pc ph vk vh key s v n nK P z img Q) :
    Calls Tryz.prog 20 #[P0 pc] w (CaMan w s v n z P (sha img)) := by
  have hhh := h.hh
  have hsl := sha_len img
  obtain ⟨ah, ch, rfl, _⟩ := id hhh
  rw [hsl] at hhh
  have hb := h.b
  rw [hsl] at hb
  obtain ⟨a', c', e, _, _, r3, r4, _⟩ := id hhh
  simp only [Value.slice.injEq] at e
  obtain ⟨rfl, hx0, rfl⟩ := e
  clear hx0
  have kZ : Keeps [] w (w.alloc (.cells #[.int .u32 0, .int .u32 0, .int .i64 0, .int .i64 0, .int .i64 0, .slice none 0 0] 35)) := (Keeps.refl [] w).alloc _
  have hZ := Blk.newA w 35 #[.int .u32 0, .int .u32 0, .int .i64 0, .int .i64 0, .int .i64 0, .slice none 0 0]
  have hbz := hb.keeps kZ (by simp)
  have c1 := hbz.cell' (i := 1) rfl
  have c2 := hbz.cell' (i := 2) rfl
  have c3 := hbz.cell' (i := 3) rfl
  have c4 := hbz.cell' (i := 4) rfl
  have c5 := hbz.cell' (i := 5) rfl
  have c6 := hbz.cell' (i := 6) rfl
  have HkZ := Lib.hid kZ
  have HZ := Lib.hid hZ
  have HR := Lib.hid (r3.keepsNil kZ)
  have Hr4 := Lib.hid r4
  generalize sha img = Y at *
  have Hsl := Lib.hid hsl
  clear h hhh hb hbz kZ hZ r3 r4 hsl
  go_enter Tryz.func20, Tryz.ntmps20
  go_upto_region 3 with (fail)
  generalize w.alloc (.cells #[.int .u32 0, .int .u32 0, .int .i64 0, .int .i64 0, .int .i64 0, .slice none 0 0] 35) = wz at *
  have kA : Keeps [] wz (wz.alloc (.cells #[B32 s, B32 v, .int .i64 n, .int .i64 z, .int .i64 P, .slice ah 32 ch] 35)) := (Keeps.refl [] wz).alloc _
  have hB := Blk.newA wz 35 #[B32 s, B32 v, .int .i64 n, .int .i64 z, .int .i64 P, .slice ah 32 ch]
  have HZ1 := Lib.hid (HZ.out.keeps kA (by simp))
  have HK1 := Lib.hid (HkZ.out.trans kA)
  have HC := Lib.hid (clone_calls (w := wz.alloc (.cells #[B32 s, B32 v, .int .i64 n, .int .i64 z, .int .i64 P, .slice ah 32 ch] 35)) ah 32 ch Y (HR.out.keepsNil kA) Hsl.out (by rw [Hsl.out]; omega) (fun e => (Hr4.out e).1))
  unfold ClonePost at HC
  go_upto_region 4 with (fail)
  clear c1 c2 c3 c4 c5 c6
  have hsw : wz.heap.size < (wz.alloc (.cells #[B32 s, B32 v, .int .i64 n, .int .i64 z, .int .i64 P, .slice ah 32 ch] 35)).heap.size := by simp
  generalize wz.alloc (.cells #[B32 s, B32 v, .int .i64 n, .int .i64 z, .int .i64 P, .slice ah 32 ch] 35) = w1 at *
  have d5 := hB.cell' (i := 5) rfl
  clear kA HR Hr4
  go_wp2_with fail
  refine HC.out.mono ?_
  rintro e w2 ⟨v2, rfl, hO2, k2⟩
  have hr2 := hO2.rds
  obtain ⟨a2, c2', rfl, _⟩ := id hr2
  rw [Hsl.out] at hr2 ⊢
  have hB2 := hB.keeps k2 (by simp)
  have f5 := hB2.frozen 5
  have g5 := hB2.cell' (i := 5) rfl
  have hB3 := hB2.set 5 (.slice a2 32 c2')
  have kS : Keeps [wz.heap.size] w2 (w2.setCell ⟨wz.heap.size, 5, none⟩ (.slice a2 32 c2')) := (Keeps.refl [wz.heap.size] w2).setCell (by simp) _
  have hzl := HkZ.out.size
  have hwzl := HZ.out.lt
  have HZ2 := Lib.hid ((HZ1.out.keeps k2 (by simp)).keeps kS (by simp; omega))
  have HR2 := Lib.hid (hr2.keepsP kS (fun x hx => by simp only [List.mem_singleton] at hx; subst hx; exact ⟨_, _, hB2, by decide⟩))
  have HK2 := Lib.hid ((HK1.out.trans k2).trans' kS (T := []) (by simp) (fun x hx => by simp only [List.mem_singleton] at hx; subst hx; exact .inr hzl))
  clear hO2 hr2 k2 kS d5 hB hB2 HC HZ1 HK1
  go_upto_region 5 with (fail)
  clear f5 g5
  generalize w2.setCell ⟨wz.heap.size, 5, none⟩ (.slice a2 32 c2') = w3 at *
  have e0 := hB3.cell' (i := 0) rfl
  have e1 := hB3.cell' (i := 1) rfl
  have e2 := hB3.cell' (i := 2) rfl
  have e3 := hB3.cell' (i := 3) rfl
  have e4 := hB3.cell' (i := 4) rfl
  have e5 := hB3.cell' (i := 5) rfl
  have f0 := HZ2.out.frozen 0
  have f1 := HZ2.out.frozen 1
  have f2 := HZ2.out.frozen 2
  have f3 := HZ2.out.frozen 3
  have f4 := HZ2.out.frozen 4
  have f5 := HZ2.out.frozen 5
  have z0 := HZ2.out.cell' (i := 0) rfl
  have z1 := HZ2.out.cell' (i := 1) rfl
  have z2 := HZ2.out.cell' (i := 2) rfl
  have z3 := HZ2.out.cell' (i := 3) rfl
  have z4 := HZ2.out.cell' (i := 4) rfl
  have z5 := HZ2.out.cell' (i := 5) rfl
  have hZ6 := HZ2.out.put6 (B32 s) (B32 v) (.int .i64 n) (.int .i64 z) (.int .i64 P) (.slice a2 32 c2')
  have k6 := (Keeps.refl [w.heap.size] w3).put6 (p := w.heap.size) (.inl (by simp)) (B32 s) (B32 v) (.int .i64 n) (.int .i64 z) (.int .i64 P) (.slice a2 32 c2')
  have HK6 := Lib.hid (HK2.out.trans' k6 (T := []) (by simp) (fun x hx => by simp only [List.mem_singleton] at hx; subst hx; exact .inr (Nat.le_refl _)))
  have HR6 := Lib.hid (HR2.out.keepsP k6 (fun x hx => by simp only [List.mem_singleton] at hx; subst hx; exact ⟨_, _, HZ2.out, by decide⟩))
  have x0 := hZ6.cell' (i := 0) rfl
  have x1 := hZ6.cell' (i := 1) rfl
  have x2 := hZ6.cell' (i := 2) rfl
  have x3 := hZ6.cell' (i := 3) rfl
  have x4 := hZ6.cell' (i := 4) rfl
  have x5 := hZ6.cell' (i := 5) rfl
  clear hZ6 k6 hB3
  go_wp2_with fail
  refine bodyPost_ret (v := MfV s v n z P (.slice a2 32 c2')) (by simp [results, Tryz.results20, go_sem, x0, x1, x2, x3, x4, x5]) rfl ?_
  exact ⟨a2, c2', rfl, HR6.out, HK6.out⟩

set_option maxRecDepth 100000 in
set_option maxHeartbeats 1600000 in
theorem rsamemf_calls {w : World} (s v : UInt32) (n z P : Nat) {a b : Option Addr} {c d : Nat} {Y : List UInt8} (ha : RdS w (.slice a 32 c) Y) (hb : RdS w (.slice b 32 d) Y) :
    Calls Tryz.prog 19 #[MfV s v n z P (.slice a 32 c), MfV s v n z P (.slice b 32 d)] w fun e w' => e = .returned (.bool true) ∧ Keeps [] w w' := by
  have kA : Keeps [] w ((w.alloc (.cells (MfL s v n z P (.slice a 32 c)).toArray 35)).alloc (.cells (MfL s v n z P (.slice b 32 d)).toArray 35)) := ((Keeps.refl [] w).alloc _).alloc _
  have hA := ha.keepsNil kA
  have hB := hb.keepsNil kA
  have h1 := (Blk.newA w 35 (MfL s v n z P (.slice a 32 c)).toArray).alloc (.cells (MfL s v n z P (.slice b 32 d)).toArray 35)
  have h2 := Blk.newA (w.alloc (.cells (MfL s v n z P (.slice a 32 c)).toArray 35)) 35 (MfL s v n z P (.slice b 32 d)).toArray
  rw [World.size_alloc] at h2
  have HK := Lib.hid kA
  have HA := Lib.hid hA.str
  have HB := Lib.hid hB.str
  have H1 := Lib.hid h1
  have H2 := Lib.hid h2
  clear ha hb kA hA hB h1 h2
  go_enter Tryz.func19, Tryz.ntmps19
  go_upto_region 1 with (fail)
  generalize (w.alloc (.cells (MfL s v n z P (.slice a 32 c)).toArray 35)).alloc (.cells (MfL s v n z P (.slice b 32 d)).toArray 35) = w1 at *
  have a0 := H1.out.cell' (i := 0) rfl
  have a1 := H1.out.cell' (i := 1) rfl
  have a2 := H1.out.cell' (i := 2) rfl
  have a3 := H1.out.cell' (i := 3) rfl
  have a4 := H1.out.cell' (i := 4) rfl
  have a5 := H1.out.cell' (i := 5) rfl
  have b0 := H2.out.cell' (i := 0) rfl
  have b1 := H2.out.cell' (i := 1) rfl
  have b2 := H2.out.cell' (i := 2) rfl
  have b3 := H2.out.cell' (i := 3) rfl
  have b4 := H2.out.cell' (i := 4) rfl
  have b5 := H2.out.cell' (i := 5) rfl
  have cA := HA.out
  have cB := HB.out
  go_wp2_with fail
  go_ret
  exact ⟨rfl, HK.out⟩

end Go.Proofs.YtijhaeapoapgfaaGreatDoor

set_option linter.unusedVariables false
set_option linter.unusedSimpArgs false
namespace Go.Proofs.YtijhaeapoapgfaaGreatDoor
open Go.RowKit
attribute [local go_sem ↓] Go.wp_at_zero Go.wp_at_succ

abbrev MiL (s v : UInt32) (n : Nat) (z P : Int) (h : Value) : List Value := [B32 s, B32 v, .int .i64 n, .int .i64 z, .int .i64 P, h]
abbrev MiV (s v : UInt32) (n : Nat) (z P : Int) (h : Value) : Value := .agg #[B32 s, B32 v, .int .i64 n, .int .i64 z, .int .i64 P, h]

/-- How many pieces: whatever the numbers are. -/
def mcnt (n : Nat) (z : Int) : Nat := if n < 1 ∨ 512 < n ∨ z < 1 ∨ 16 < z then 0 else bcount n z.toNat
theorem mcnt_in {n z : Nat} (h1 : 1 ≤ n) (h2 : n ≤ 512) (h3 : 1 ≤ z) (h4 : z ≤ 16) : mcnt n z = bcount n z := by unfold mcnt; rw [if_neg (by omega), Int.toNat_natCast]
set_option maxRecDepth 100000 in
set_option maxHeartbeats 1600000 in
theorem bcnt_calls {w : World} (n : Nat) (z : Int) (hn : n ≤ 1000000) : Calls Tryz.prog 69 #[.int .i64 n, .int .i64 z] w fun e w' => e = .returned (.int .i64 (mcnt n z)) ∧ w = w' := by
  by_cases h1 : n < 1
  · have E := Lib.hid (show mcnt n z = 0 from by unfold mcnt; rw [if_pos (.inl h1)])
    have t1 : (n : Int) < 1 := by omega
    clear h1
    go_enter Tryz.func69, Tryz.ntmps69
    go_wp2_with fail
    go_ret
    exact ⟨by rw [E.out]; rfl, rfl⟩
  have t1 : ¬ (n : Int) < 1 := by omega
  by_cases h2 : 512 < n
  · have E := Lib.hid (show mcnt n z = 0 from by unfold mcnt; rw [if_pos (.inr (.inl h2))])
    have t2 : (512 : Int) < (n : Int) := by omega
    clear h1 h2
    go_enter Tryz.func69, Tryz.ntmps69
    go_wp2_with fail
    go_ret
    exact ⟨by rw [E.out]; rfl, rfl⟩
  have t2 : ¬ (512 : Int) < (n : Int) := by omega
  by_cases h3 : z < 1
  · have E := Lib.hid (show mcnt n z = 0 from by unfold mcnt; rw [if_pos (.inr (.inr (.inl h3)))])
    clear h1 h2
    go_enter Tryz.func69, Tryz.ntmps69
    go_wp2_with fail
    go_ret
    exact ⟨by rw [E.out]; rfl, rfl⟩
  by_cases h4 : 16 < z
  · have E := Lib.hid (show mcnt n z = 0 from by unfold mcnt; rw [if_pos (.inr (.inr (.inr h4)))])
    clear h1 h2
    go_enter Tryz.func69, Tryz.ntmps69
    go_wp2_with fail
    go_ret
    exact ⟨by rw [E.out]; rfl, rfl⟩
  obtain ⟨y, rfl⟩ : ∃ y : Nat, z = (y : Int) := ⟨z.toNat, by omega⟩
  rw [mcnt_in (by omega) (by omega) (by omega) (by omega)]
  exact bcount_calls n y (by omega) (by omega) (by omega)

set_option maxRecDepth 100000 in
set_option maxHeartbeats 1600000 in
theorem rcnt_calls {w : World} (n : Nat) (z : Int) (hn : n ≤ 1000000) : Calls Tryz.prog 46 #[.int .i64 n, .int .i64 z] w fun e w' => e = .returned (.int .i64 (mcnt n z)) ∧ w = w' := by
  by_cases h1 : n < 1
  · have E := Lib.hid (show mcnt n z = 0 from by unfold mcnt; rw [if_pos (.inl h1)])
    have t1 : (n : Int) < 1 := by omega
    clear h1
    go_enter Tryz.func46, Tryz.ntmps46
    go_wp2_with fail
    go_ret
    exact ⟨by rw [E.out]; rfl, rfl⟩
  have t1 : ¬ (n : Int) < 1 := by omega
  by_cases h2 : 512 < n
  · have E := Lib.hid (show mcnt n z = 0 from by unfold mcnt; rw [if_pos (.inr (.inl h2))])
    have t2 : (512 : Int) < (n : Int) := by omega
    clear h1 h2
    go_enter Tryz.func46, Tryz.ntmps46
    go_wp2_with fail
    go_ret
    exact ⟨by rw [E.out]; rfl, rfl⟩
  have t2 : ¬ (512 : Int) < (n : Int) := by omega
  by_cases h3 : z < 1
  · have E := Lib.hid (show mcnt n z = 0 from by unfold mcnt; rw [if_pos (.inr (.inr (.inl h3)))])
    clear h1 h2
    go_enter Tryz.func46, Tryz.ntmps46
    go_wp2_with fail
    go_ret
    exact ⟨by rw [E.out]; rfl, rfl⟩
  by_cases h4 : 16 < z
  · have E := Lib.hid (show mcnt n z = 0 from by unfold mcnt; rw [if_pos (.inr (.inr (.inr h4)))])
    clear h1 h2
    go_enter Tryz.func46, Tryz.ntmps46
    go_wp2_with fail
    go_ret
    exact ⟨by rw [E.out]; rfl, rfl⟩
  obtain ⟨y, rfl⟩ : ∃ y : Nat, z = (y : Int) := ⟨z.toNat, by omega⟩
  rw [mcnt_in (by omega) (by omega) (by omega) (by omega)]
  have h0 : ¬ n = 0 := by omega
  have hE : bcount n y = if (n + y - 1) / y ≤ 64 then (n + y - 1) / y else 0 := by unfold bcount; rw [if_neg h0]
  have hq : ((n : Int) + (y : Int) - 1) / (y : Int) = (((n + y - 1) / y : Nat) : Int) := by
    rw [show (n : Int) + (y : Int) - 1 = ((n + y - 1 : Nat) : Int) from by omega, Int.natCast_ediv]
  have hqb : (n + y - 1) / y ≤ n + y - 1 := Nat.div_le_self _ _
  have hy0 : (y : Int) ≠ 0 := by omega
  generalize (n + y - 1) / y = q at *
  by_cases h64 : q ≤ 64
  · rw [if_pos h64] at hE
    have HE := Lib.hid hE
    have t5 : ¬ (64 : Int) < (q : Int) := by omega
    clear hE h64
    go_enter Tryz.func46, Tryz.ntmps46
    go_wp2_with fail
    go_ret
    exact ⟨by rw [HE.out]; rfl, rfl⟩
  · rw [if_neg h64] at hE
    have HE := Lib.hid hE
    have t5 : (64 : Int) < (q : Int) := by omega
    clear hE h64
    go_enter Tryz.func46, Tryz.ntmps46
    go_wp2_with fail
    go_ret
    exact ⟨by rw [HE.out]; rfl, rfl⟩

set_option maxRecDepth 100000 in
set_option maxHeartbeats 1600000 in
theorem ofbad_calls {w : World} (s v : UInt32) (n : Nat) (z P : Int) (h : Value) (hn : n ≤ 1000000) (hbad : PmOk (mcnt n z : Nat) P z = false) :
    Calls Tryz.prog 31 #[MiV s v n z P h] w fun e w' => e = .returned (.tuple #[.agg #[.int .u32 0, .int .i64 0, .int .i64 0, .int .i64 0], .bool false]) ∧ Keeps [] w w' := by
  have hC := fun w => bcnt_calls (w := w) n z hn
  have hMy := fun w => may_calls (w := w) s (mcnt n z : Nat) P z
  simp only [hbad] at hMy
  have HC := Lib.hid hC
  have HMy := Lib.hid hMy
  clear hbad
  generalize mcnt n z = nK at *
  have hB0 := Blk.newA w 35 (MiL s v n z P h).toArray
  have hB := hB0.alloc (.cells #[.int .u32 0, .int .i64 0, .int .i64 0, .int .i64 0] 38)
  have hR := Blk.newA (w.alloc (.cells (MiL s v n z P h).toArray 35)) 38 #[.int .u32 0, .int .i64 0, .int .i64 0, .int .i64 0]
  rw [World.size_alloc] at hR
  have kA : Keeps [] w ((w.alloc (.cells (MiL s v n z P h).toArray 35)).alloc (.cells #[.int .u32 0, .int .i64 0, .int .i64 0, .int .i64 0] 38)) := ((Keeps.refl [] w).alloc _).alloc _
  have hsA : ((w.alloc (.cells (MiL s v n z P h).toArray 35)).alloc (.cells #[.int .u32 0, .int .i64 0, .int .i64 0, .int .i64 0] 38)).heap.size = w.heap.size + 1 + 1 := by simp
  clear hC hMy hB0
  go_enter Tryz.func31, Tryz.ntmps31
  go_upto_region 1 with (fail)
  generalize (w.alloc (.cells (MiL s v n z P h).toArray 35)).alloc (.cells #[.int .u32 0, .int .i64 0, .int .i64 0, .int .i64 0] 38) = w0 at *
  have c0 := hB.cell' (i := 0) rfl
  have c2 := hB.cell' (i := 2) rfl
  have c3 := hB.cell' (i := 3) rfl
  have c4 := hB.cell' (i := 4) rfl
  have HR := Lib.hid hR
  have HkA := Lib.hid kA
  clear hR hB kA
  go_cut [4] (fun s4 wx => ∃ q, s4 = .pointer (some ⟨q, 0, none⟩) ∧ w0.heap.size ≤ q ∧ Blk wx q 38 [B32 s, .int .i64 nK, .int .i64 P, .int .i64 z] ∧ Keeps [] w0 wx)
  case first =>
    have hal : Keeps [] w0 ((w0.alloc (.cells #[.int .u32 0, .int .i64 0, .int .i64 0, .int .i64 0] 38)).drew) := ((Keeps.refl [] w0).alloc _).drew
    have hW := (Blk.newA w0 38 #[B32 s, .int .i64 nK, .int .i64 P, .int .i64 z]).drew
    rw [hsA] at hW
    have kW : Keeps [] w0 ((w0.alloc (.cells #[B32 s, .int .i64 nK, .int .i64 P, .int .i64 z] 38)).drew) := ((Keeps.refl [] w0).alloc _).drew
    refine wp_region_noPanic ?_
    refine wp_region_held_drew (S := (fun w' => w'.cell? ⟨w.heap.size, 0, none⟩ = some (B32 s) ∧ w'.cell? ⟨w.heap.size, 2, none⟩ = some (.int .i64 n) ∧ w'.cell? ⟨w.heap.size, 3, none⟩ = some (.int .i64 z) ∧ w'.cell? ⟨w.heap.size, 4, none⟩ = some (.int .i64 P))) (by kernel_rfl) ⟨c0, c2, c3, c4⟩ (fun hHeld => ?_)
    refine wpAnyH_take (i := 0) (v := ?v5_58) rfl (by kernel_rfl) (by kernel_rfl) (by kernel_rfl) (fun _ _ _ h => h) (Or.inl ⟨by rfl, ?y5_58⟩) (by assumption) ?r5_58
    case y5_58 => (intro w hSw; (try dsimp only at hSw); go_simp; try with_reducible rfl)
    (try simp only [Act.put, List.getElem_toArray, List.getElem_cons_zero, List.getElem_cons_succ, List.setIfInBounds_toArray, List.set_cons_zero, List.set_cons_succ])
    refine wpAnyH_take (i := 1) (v := ?v5_59) rfl (by kernel_rfl) (by kernel_rfl) (by kernel_rfl) (fun _ _ _ h => h) (Or.inl ⟨by rfl, ?y5_59⟩) (by assumption) ?r5_59
    case y5_59 => (intro w hSw; (try dsimp only at hSw); go_simp; try with_reducible rfl)
    (try simp only [Act.put, List.getElem_toArray, List.getElem_cons_zero, List.getElem_cons_succ, List.setIfInBounds_toArray, List.set_cons_zero, List.set_cons_succ])
    refine wpAnyH_take (i := 2) (v := ?v5_60) rfl (by kernel_rfl) (by kernel_rfl) (by kernel_rfl) (fun _ _ _ h => h) (Or.inl ⟨by rfl, ?y5_60⟩) (by assumption) ?r5_60
    case y5_60 => (intro w hSw; (try dsimp only at hSw); go_simp; try with_reducible rfl)
    (try simp only [Act.put, List.getElem_toArray, List.getElem_cons_zero, List.getElem_cons_succ, List.setIfInBounds_toArray, List.set_cons_zero, List.set_cons_succ])
    refine wpAnyH_take (i := 3) (v := ?v5_61) rfl (by kernel_rfl) (by kernel_rfl) (by kernel_rfl) (fun _ _ _ h => h) (Or.inl ⟨by rfl, ?y5_61⟩) (by assumption) ?r5_61
    case y5_61 => (intro w hSw; (try dsimp only at hSw); go_simp; try with_reducible rfl)
    (try simp only [Act.put, List.getElem_toArray, List.getElem_cons_zero, List.getElem_cons_succ, List.setIfInBounds_toArray, List.set_cons_zero, List.set_cons_succ])
    refine wpAnyH_take (i := 4) (v := ?v5_62) rfl (by kernel_rfl) (by kernel_rfl) (by kernel_rfl) (fun _ _ _ h => h) (Or.inl ⟨by rfl, ?y5_62⟩) (by assumption) ?r5_62
    case y5_62 => (intro w hSw; (try dsimp only at hSw); go_simp; try with_reducible rfl)
    (try simp only [Act.put, List.getElem_toArray, List.getElem_cons_zero, List.getElem_cons_succ, List.setIfInBounds_toArray, List.set_cons_zero, List.set_cons_succ])
    refine wpAnyH_take (i := 5) (v := ?v5_63) rfl (by kernel_rfl) (by kernel_rfl) (by kernel_rfl) (fun _ _ _ h => h) (Or.inl ⟨by rfl, ?y5_63⟩) (by assumption) ?r5_63
    case y5_63 => (intro w hSw; (try dsimp only at hSw); go_simp; try with_reducible rfl)
    (try simp only [Act.put, List.getElem_toArray, List.getElem_cons_zero, List.getElem_cons_succ, List.setIfInBounds_toArray, List.set_cons_zero, List.set_cons_succ])
    refine wpAnyH_take (i := 7) (v := ?v5_64) rfl (by kernel_rfl) (by kernel_rfl) (by kernel_rfl) (fun _ _ _ h => h) (Or.inl ⟨by rfl, ?y5_64⟩) (by assumption) ?r5_64
    case y5_64 => (intro w hSw; (try dsimp only at hSw); go_simp; try with_reducible rfl)
    (try simp only [Act.put, List.getElem_toArray, List.getElem_cons_zero, List.getElem_cons_succ, List.setIfInBounds_toArray, List.set_cons_zero, List.set_cons_succ])
    refine wpAnyH_take (i := 8) (v := ?v5_65) rfl (by kernel_rfl) (by kernel_rfl) (by kernel_rfl) (fun _ _ _ h => h) (Or.inl ⟨by rfl, ?y5_65⟩) (by assumption) ?r5_65
    case y5_65 => (intro w hSw; (try dsimp only at hSw); go_simp; try with_reducible rfl)
    (try simp only [Act.put, List.getElem_toArray, List.getElem_cons_zero, List.getElem_cons_succ, List.setIfInBounds_toArray, List.set_cons_zero, List.set_cons_succ])
    refine wpAnyH_take (i := 9) (v := ?v5_66) rfl (by kernel_rfl) (by kernel_rfl) (by kernel_rfl) (fun _ _ _ h => h) (Or.inl ⟨by rfl, ?y5_66⟩) (by assumption) ?r5_66
    case y5_66 => (intro w hSw; (try dsimp only at hSw); go_simp; try with_reducible rfl)
    (try simp only [Act.put, List.getElem_toArray, List.getElem_cons_zero, List.getElem_cons_succ, List.setIfInBounds_toArray, List.set_cons_zero, List.set_cons_succ])
    refine wpAnyH_take (i := 10) (v := ?v5_67) rfl (by kernel_rfl) (by kernel_rfl) (by kernel_rfl) (fun _ _ _ h => h) (Or.inl ⟨by rfl, ?y5_67⟩) (by assumption) ?r5_67
    case y5_67 => (intro w hSw; (try dsimp only at hSw); go_simp; try with_reducible rfl)
    (try simp only [Act.put, List.getElem_toArray, List.getElem_cons_zero, List.getElem_cons_succ, List.setIfInBounds_toArray, List.set_cons_zero, List.set_cons_succ])
    refine wpAnyH_ready (rs := [6, 12]) (by kernel_rfl) (by simp) ?_
    refine AllReadyH.cons rfl (fun K hK => ?ba) (AllReadyH.cons rfl (fun K hK => ?bb) AllReadyH.nil)
    case ba =>
      go_simp
      refine (HC.out _).mono ?_
      rintro e w' ⟨rfl, rfl⟩
      go_wp2_with fail
      refine hK.out _ _ ?s5_68 (fun hHeld => ?_)
      case s5_68 => ((try dsimp only) <;> (first | exact ⟨c0, c2, c3, c4⟩))
      clear hK K
      (try simp only [Act.put, List.getElem_toArray, List.getElem_cons_zero, List.getElem_cons_succ, List.setIfInBounds_toArray, List.set_cons_zero, List.set_cons_succ])
      refine wpAnyH_take (i := 11) (v := ?v5_69) rfl (by kernel_rfl) (by kernel_rfl) (by kernel_rfl) (fun _ _ _ h => h) (Or.inl ⟨by rfl, ?y5_69⟩) (by assumption) ?r5_69
      case y5_69 => (intro w hSw; (try dsimp only at hSw); go_simp; try with_reducible rfl)
      (try simp only [Act.put, List.getElem_toArray, List.getElem_cons_zero, List.getElem_cons_succ, List.setIfInBounds_toArray, List.set_cons_zero, List.set_cons_succ])
      refine wpAnyH_ready (rs := [12]) (by kernel_rfl) (by simp) ?_
      refine AllReadyH.cons rfl (fun K hK => ?_) AllReadyH.nil
      go_simp
      refine hK.out _ _ ?s5_70 (fun hHeld => ?_)
      case s5_70 => ((try dsimp only) <;> (first | exact ⟨hal.cell0 c0, hal.cell0 c2, hal.cell0 c3, hal.cell0 c4⟩))
      clear hK K
      (try simp only [Act.put, List.getElem_toArray, List.getElem_cons_zero, List.getElem_cons_succ, List.setIfInBounds_toArray, List.set_cons_zero, List.set_cons_succ])
      refine wpAnyH_ready (rs := [13]) (by kernel_rfl) (by simp) ?_
      refine AllReadyH.cons rfl (fun K hK => ?_) AllReadyH.nil
      go_simp
      refine hK.out _ _ ?s5_71 (fun hHeld => ?_)
      case s5_71 => ((try dsimp only) <;> (first | exact ⟨kW.cell0 c0, kW.cell0 c2, kW.cell0 c3, kW.cell0 c4⟩))
      clear hK K
      (try simp only [Act.put, List.getElem_toArray, List.getElem_cons_zero, List.getElem_cons_succ, List.setIfInBounds_toArray, List.set_cons_zero, List.set_cons_succ])
      refine wpAnyH_done (by kernel_rfl) ?_ _
      refine NoPanic.normal ?_
      go_wp2_with fail
      go_meet
      exact ⟨_, rfl, by omega, hW, kW⟩
    case bb =>
      go_simp
      refine hK.out _ _ ?s5_72 (fun hHeld => ?_)
      case s5_72 => ((try dsimp only) <;> (first | exact ⟨hal.cell0 c0, hal.cell0 c2, hal.cell0 c3, hal.cell0 c4⟩))
      clear hK K
      (try simp only [Act.put, List.getElem_toArray, List.getElem_cons_zero, List.getElem_cons_succ, List.setIfInBounds_toArray, List.set_cons_zero, List.set_cons_succ])
      refine wpAnyH_ready (rs := [6]) (by kernel_rfl) (by simp) ?_
      refine AllReadyH.cons rfl (fun K hK => ?_) AllReadyH.nil
      go_simp
      refine (HC.out _).mono ?_
      rintro e w' ⟨rfl, rfl⟩
      go_wp2_with fail
      refine hK.out _ _ ?s5_73 (fun hHeld => ?_)
      case s5_73 => ((try dsimp only) <;> (first | exact ⟨hal.cell0 c0, hal.cell0 c2, hal.cell0 c3, hal.cell0 c4⟩))
      clear hK K
      (try simp only [Act.put, List.getElem_toArray, List.getElem_cons_zero, List.getElem_cons_succ, List.setIfInBounds_toArray, List.set_cons_zero, List.set_cons_succ])
      refine wpAnyH_take (i := 11) (v := ?v5_74) rfl (by kernel_rfl) (by kernel_rfl) (by kernel_rfl) (fun _ _ _ h => h) (Or.inl ⟨by rfl, ?y5_74⟩) (by assumption) ?r5_74
      case y5_74 => (intro w hSw; (try dsimp only at hSw); go_simp; try with_reducible rfl)
      (try simp only [Act.put, List.getElem_toArray, List.getElem_cons_zero, List.getElem_cons_succ, List.setIfInBounds_toArray, List.set_cons_zero, List.set_cons_succ])
      refine wpAnyH_ready (rs := [13]) (by kernel_rfl) (by simp) ?_
      refine AllReadyH.cons rfl (fun K hK => ?_) AllReadyH.nil
      go_simp
      refine hK.out _ _ ?s5_75 (fun hHeld => ?_)
      case s5_75 => ((try dsimp only) <;> (first | exact ⟨kW.cell0 c0, kW.cell0 c2, kW.cell0 c3, kW.cell0 c4⟩))
      clear hK K
      (try simp only [Act.put, List.getElem_toArray, List.getElem_cons_zero, List.getElem_cons_succ, List.setIfInBounds_toArray, List.set_cons_zero, List.set_cons_succ])
      refine wpAnyH_done (by kernel_rfl) ?_ _
      refine NoPanic.normal ?_
      go_wp2_with fail
      go_meet
      exact ⟨_, rfl, by omega, hW, kW⟩
  case rest =>
  obtain ⟨q, rfl, hq, hb, kc⟩ := hcut
  have q0 := hb.cell' (i := 0) rfl
  have q1 := hb.cell' (i := 1) rfl
  have q2 := hb.cell' (i := 2) rfl
  have q3 := hb.cell' (i := 3) rfl
  have HB := Lib.hid hb
  have HK := Lib.hid kc
  clear c0 c2 c3 c4 hb kc
  go_wp2_with fail
  refine (HMy.out _).mono ?_
  rintro e w2 ⟨rfl, k2⟩
  have hR2 := HR.out.keeps (HK.out.trans k2) (by simp)
  have hB2 := HB.out.keeps k2 (by simp)
  have HK2 := Lib.hid (HkA.out.trans (HK.out.trans k2))
  clear q0 q1 q2 q3 k2
  have q0 := hB2.cell' (i := 0) rfl
  have q1 := hB2.cell' (i := 1) rfl
  have q2 := hB2.cell' (i := 2) rfl
  have q3 := hB2.cell' (i := 3) rfl
  have r0 := hR2.cell' (i := 0) rfl
  have r1 := hR2.cell' (i := 1) rfl
  have r2 := hR2.cell' (i := 2) rfl
  have r3 := hR2.cell' (i := 3) rfl
  have f0 := hR2.frozen 0
  have f1 := hR2.frozen 1
  have f2 := hR2.frozen 2
  have f3 := hR2.frozen 3
  have hR3 := hR2.put4 (.int .u32 0) (.int .i64 0) (.int .i64 0) (.int .i64 0)
  have K3 := Lib.hid (HK2.out.put4 (p := w.heap.size + 1) (.inr (by omega)) (.int .u32 0) (.int .i64 0) (.int .i64 0) (.int .i64 0))
  have e0 := hR3.cell' (i := 0) rfl
  have e1 := hR3.cell' (i := 1) rfl
  have e2 := hR3.cell' (i := 2) rfl
  have e3 := hR3.cell' (i := 3) rfl
  clear hR2 hB2 hR3
  go_wp2_with fail
  refine bodyPost_ret (v := .tuple #[.agg #[.int .u32 0, .int .i64 0, .int .i64 0, .int .i64 0], .bool false]) (by simp [results, Tryz.results31, go_sem, e0, e1, e2, e3]) rfl ?_
  exact ⟨rfl, K3.out⟩

set_option maxRecDepth 100000 in
set_option maxHeartbeats 1600000 in
theorem rparamsbad_calls {w : World} (s v : UInt32) (n : Nat) (z P : Int) (h : Value) (hn : n ≤ 1000000) (hbad : PmOk (mcnt n z : Nat) P z = false) :
    Calls Tryz.prog 12 #[MiV s v n z P h] w fun e w' => e = .returned (.tuple #[.agg #[.int .u32 0, .int .i64 0, .int .i64 0, .int .i64 0], .bool false]) ∧ Keeps [] w w' := by
  have hC := fun w => rcnt_calls (w := w) n z hn
  have hMy := fun w => rmayp_calls (w := w) s (mcnt n z : Nat) P z
  simp only [hbad] at hMy
  have HC := Lib.hid hC
  have HMy := Lib.hid hMy
  clear hbad
  generalize mcnt n z = nK at *
  have hB0 := Blk.newA w 35 (MiL s v n z P h).toArray
  have hB := hB0.alloc (.cells #[.int .u32 0, .int .i64 0, .int .i64 0, .int .i64 0] 38)
  have hR := Blk.newA (w.alloc (.cells (MiL s v n z P h).toArray 35)) 38 #[.int .u32 0, .int .i64 0, .int .i64 0, .int .i64 0]
  rw [World.size_alloc] at hR
  have kA : Keeps [] w ((w.alloc (.cells (MiL s v n z P h).toArray 35)).alloc (.cells #[.int .u32 0, .int .i64 0, .int .i64 0, .int .i64 0] 38)) := ((Keeps.refl [] w).alloc _).alloc _
  have hsA : ((w.alloc (.cells (MiL s v n z P h).toArray 35)).alloc (.cells #[.int .u32 0, .int .i64 0, .int .i64 0, .int .i64 0] 38)).heap.size = w.heap.size + 1 + 1 := by simp
  clear hC hMy hB0
  go_enter Tryz.func12, Tryz.ntmps12
  go_upto_region 1 with (fail)
  generalize (w.alloc (.cells (MiL s v n z P h).toArray 35)).alloc (.cells #[.int .u32 0, .int .i64 0, .int .i64 0, .int .i64 0] 38) = w0 at *
  have c0 := hB.cell' (i := 0) rfl
  have c2 := hB.cell' (i := 2) rfl
  have c3 := hB.cell' (i := 3) rfl
  have c4 := hB.cell' (i := 4) rfl
  have HR := Lib.hid hR
  have HkA := Lib.hid kA
  clear hR hB kA
  go_cut [4] (fun s4 wx => ∃ q, s4 = .pointer (some ⟨q, 0, none⟩) ∧ w0.heap.size ≤ q ∧ Blk wx q 38 [B32 s, .int .i64 nK, .int .i64 P, .int .i64 z] ∧ Keeps [] w0 wx)
  case first =>
    have hal : Keeps [] w0 ((w0.alloc (.cells #[.int .u32 0, .int .i64 0, .int .i64 0, .int .i64 0] 38)).drew) := ((Keeps.refl [] w0).alloc _).drew
    have hW := (Blk.newA w0 38 #[B32 s, .int .i64 nK, .int .i64 P, .int .i64 z]).drew
    rw [hsA] at hW
    have kW : Keeps [] w0 ((w0.alloc (.cells #[B32 s, .int .i64 nK, .int .i64 P, .int .i64 z] 38)).drew) := ((Keeps.refl [] w0).alloc _).drew
    refine wp_region_noPanic ?_
    refine wp_region_held_drew (S := (fun w' => w'.cell? ⟨w.heap.size, 0, none⟩ = some (B32 s) ∧ w'.cell? ⟨w.heap.size, 2, none⟩ = some (.int .i64 n) ∧ w'.cell? ⟨w.heap.size, 3, none⟩ = some (.int .i64 z) ∧ w'.cell? ⟨w.heap.size, 4, none⟩ = some (.int .i64 P))) (by kernel_rfl) ⟨c0, c2, c3, c4⟩ (fun hHeld => ?_)
    refine wpAnyH_take (i := 0) (v := ?v6_76) rfl (by kernel_rfl) (by kernel_rfl) (by kernel_rfl) (fun _ _ _ h => h) (Or.inl ⟨by rfl, ?y6_76⟩) (by assumption) ?r6_76
    case y6_76 => (intro w hSw; (try dsimp only at hSw); go_simp; try with_reducible rfl)
    (try simp only [Act.put, List.getElem_toArray, List.getElem_cons_zero, List.getElem_cons_succ, List.setIfInBounds_toArray, List.set_cons_zero, List.set_cons_succ])
    refine wpAnyH_take (i := 1) (v := ?v6_77) rfl (by kernel_rfl) (by kernel_rfl) (by kernel_rfl) (fun _ _ _ h => h) (Or.inl ⟨by rfl, ?y6_77⟩) (by assumption) ?r6_77
    case y6_77 => (intro w hSw; (try dsimp only at hSw); go_simp; try with_reducible rfl)
    (try simp only [Act.put, List.getElem_toArray, List.getElem_cons_zero, List.getElem_cons_succ, List.setIfInBounds_toArray, List.set_cons_zero, List.set_cons_succ])
    refine wpAnyH_take (i := 2) (v := ?v6_78) rfl (by kernel_rfl) (by kernel_rfl) (by kernel_rfl) (fun _ _ _ h => h) (Or.inl ⟨by rfl, ?y6_78⟩) (by assumption) ?r6_78
    case y6_78 => (intro w hSw; (try dsimp only at hSw); go_simp; try with_reducible rfl)
    (try simp only [Act.put, List.getElem_toArray, List.getElem_cons_zero, List.getElem_cons_succ, List.setIfInBounds_toArray, List.set_cons_zero, List.set_cons_succ])
    refine wpAnyH_take (i := 3) (v := ?v6_79) rfl (by kernel_rfl) (by kernel_rfl) (by kernel_rfl) (fun _ _ _ h => h) (Or.inl ⟨by rfl, ?y6_79⟩) (by assumption) ?r6_79
    case y6_79 => (intro w hSw; (try dsimp only at hSw); go_simp; try with_reducible rfl)
    (try simp only [Act.put, List.getElem_toArray, List.getElem_cons_zero, List.getElem_cons_succ, List.setIfInBounds_toArray, List.set_cons_zero, List.set_cons_succ])
    refine wpAnyH_take (i := 4) (v := ?v6_80) rfl (by kernel_rfl) (by kernel_rfl) (by kernel_rfl) (fun _ _ _ h => h) (Or.inl ⟨by rfl, ?y6_80⟩) (by assumption) ?r6_80
    case y6_80 => (intro w hSw; (try dsimp only at hSw); go_simp; try with_reducible rfl)
    (try simp only [Act.put, List.getElem_toArray, List.getElem_cons_zero, List.getElem_cons_succ, List.setIfInBounds_toArray, List.set_cons_zero, List.set_cons_succ])
    refine wpAnyH_take (i := 5) (v := ?v6_81) rfl (by kernel_rfl) (by kernel_rfl) (by kernel_rfl) (fun _ _ _ h => h) (Or.inl ⟨by rfl, ?y6_81⟩) (by assumption) ?r6_81
    case y6_81 => (intro w hSw; (try dsimp only at hSw); go_simp; try with_reducible rfl)
    (try simp only [Act.put, List.getElem_toArray, List.getElem_cons_zero, List.getElem_cons_succ, List.setIfInBounds_toArray, List.set_cons_zero, List.set_cons_succ])
    refine wpAnyH_take (i := 7) (v := ?v6_82) rfl (by kernel_rfl) (by kernel_rfl) (by kernel_rfl) (fun _ _ _ h => h) (Or.inl ⟨by rfl, ?y6_82⟩) (by assumption) ?r6_82
    case y6_82 => (intro w hSw; (try dsimp only at hSw); go_simp; try with_reducible rfl)
    (try simp only [Act.put, List.getElem_toArray, List.getElem_cons_zero, List.getElem_cons_succ, List.setIfInBounds_toArray, List.set_cons_zero, List.set_cons_succ])
    refine wpAnyH_take (i := 8) (v := ?v6_83) rfl (by kernel_rfl) (by kernel_rfl) (by kernel_rfl) (fun _ _ _ h => h) (Or.inl ⟨by rfl, ?y6_83⟩) (by assumption) ?r6_83
    case y6_83 => (intro w hSw; (try dsimp only at hSw); go_simp; try with_reducible rfl)
    (try simp only [Act.put, List.getElem_toArray, List.getElem_cons_zero, List.getElem_cons_succ, List.setIfInBounds_toArray, List.set_cons_zero, List.set_cons_succ])
    refine wpAnyH_take (i := 9) (v := ?v6_84) rfl (by kernel_rfl) (by kernel_rfl) (by kernel_rfl) (fun _ _ _ h => h) (Or.inl ⟨by rfl, ?y6_84⟩) (by assumption) ?r6_84
    case y6_84 => (intro w hSw; (try dsimp only at hSw); go_simp; try with_reducible rfl)
    (try simp only [Act.put, List.getElem_toArray, List.getElem_cons_zero, List.getElem_cons_succ, List.setIfInBounds_toArray, List.set_cons_zero, List.set_cons_succ])
    refine wpAnyH_take (i := 10) (v := ?v6_85) rfl (by kernel_rfl) (by kernel_rfl) (by kernel_rfl) (fun _ _ _ h => h) (Or.inl ⟨by rfl, ?y6_85⟩) (by assumption) ?r6_85
    case y6_85 => (intro w hSw; (try dsimp only at hSw); go_simp; try with_reducible rfl)
    (try simp only [Act.put, List.getElem_toArray, List.getElem_cons_zero, List.getElem_cons_succ, List.setIfInBounds_toArray, List.set_cons_zero, List.set_cons_succ])
    refine wpAnyH_ready (rs := [6, 12]) (by kernel_rfl) (by simp) ?_
    refine AllReadyH.cons rfl (fun K hK => ?ba) (AllReadyH.cons rfl (fun K hK => ?bb) AllReadyH.nil)
    case ba =>
      go_simp
      refine (HC.out _).mono ?_
      rintro e w' ⟨rfl, rfl⟩
      go_wp2_with fail
      refine hK.out _ _ ?s6_86 (fun hHeld => ?_)
      case s6_86 => ((try dsimp only) <;> (first | exact ⟨c0, c2, c3, c4⟩))
      clear hK K
      (try simp only [Act.put, List.getElem_toArray, List.getElem_cons_zero, List.getElem_cons_succ, List.setIfInBounds_toArray, List.set_cons_zero, List.set_cons_succ])
      refine wpAnyH_take (i := 11) (v := ?v6_87) rfl (by kernel_rfl) (by kernel_rfl) (by kernel_rfl) (fun _ _ _ h => h) (Or.inl ⟨by rfl, ?y6_87⟩) (by assumption) ?r6_87
      case y6_87 => (intro w hSw; (try dsimp only at hSw); go_simp; try with_reducible rfl)
      (try simp only [Act.put, List.getElem_toArray, List.getElem_cons_zero, List.getElem_cons_succ, List.setIfInBounds_toArray, List.set_cons_zero, List.set_cons_succ])
      refine wpAnyH_ready (rs := [12]) (by kernel_rfl) (by simp) ?_
      refine AllReadyH.cons rfl (fun K hK => ?_) AllReadyH.nil
      go_simp
      refine hK.out _ _ ?s6_88 (fun hHeld => ?_)
      case s6_88 => ((try dsimp only) <;> (first | exact ⟨hal.cell0 c0, hal.cell0 c2, hal.cell0 c3, hal.cell0 c4⟩))
      clear hK K
      (try simp only [Act.put, List.getElem_toArray, List.getElem_cons_zero, List.getElem_cons_succ, List.setIfInBounds_toArray, List.set_cons_zero, List.set_cons_succ])
      refine wpAnyH_ready (rs := [13]) (by kernel_rfl) (by simp) ?_
      refine AllReadyH.cons rfl (fun K hK => ?_) AllReadyH.nil
      go_simp
      refine hK.out _ _ ?s6_89 (fun hHeld => ?_)
      case s6_89 => ((try dsimp only) <;> (first | exact ⟨kW.cell0 c0, kW.cell0 c2, kW.cell0 c3, kW.cell0 c4⟩))
      clear hK K
      (try simp only [Act.put, List.getElem_toArray, List.getElem_cons_zero, List.getElem_cons_succ, List.setIfInBounds_toArray, List.set_cons_zero, List.set_cons_succ])
      refine wpAnyH_done (by kernel_rfl) ?_ _
      refine NoPanic.normal ?_
      go_wp2_with fail
      go_meet
      exact ⟨_, rfl, by omega, hW, kW⟩
    case bb =>
      go_simp
      refine hK.out _ _ ?s6_90 (fun hHeld => ?_)
      case s6_90 => ((try dsimp only) <;> (first | exact ⟨hal.cell0 c0, hal.cell0 c2, hal.cell0 c3, hal.cell0 c4⟩))
      clear hK K
      (try simp only [Act.put, List.getElem_toArray, List.getElem_cons_zero, List.getElem_cons_succ, List.setIfInBounds_toArray, List.set_cons_zero, List.set_cons_succ])
      refine wpAnyH_ready (rs := [6]) (by kernel_rfl) (by simp) ?_
      refine AllReadyH.cons rfl (fun K hK => ?_) AllReadyH.nil
      go_simp
      refine (HC.out _).mono ?_
      rintro e w' ⟨rfl, rfl⟩
      go_wp2_with fail
      refine hK.out _ _ ?s6_91 (fun hHeld => ?_)
      case s6_91 => ((try dsimp only) <;> (first | exact ⟨hal.cell0 c0, hal.cell0 c2, hal.cell0 c3, hal.cell0 c4⟩))
      clear hK K
      (try simp only [Act.put, List.getElem_toArray, List.getElem_cons_zero, List.getElem_cons_succ, List.setIfInBounds_toArray, List.set_cons_zero, List.set_cons_succ])
      refine wpAnyH_take (i := 11) (v := ?v6_92) rfl (by kernel_rfl) (by kernel_rfl) (by kernel_rfl) (fun _ _ _ h => h) (Or.inl ⟨by rfl, ?y6_92⟩) (by assumption) ?r6_92
      case y6_92 => (intro w hSw; (try dsimp only at hSw); go_simp; try with_reducible rfl)
      (try simp only [Act.put, List.getElem_toArray, List.getElem_cons_zero, List.getElem_cons_succ, List.setIfInBounds_toArray, List.set_cons_zero, List.set_cons_succ])
      refine wpAnyH_ready (rs := [13]) (by kernel_rfl) (by simp) ?_
      refine AllReadyH.cons rfl (fun K hK => ?_) AllReadyH.nil
      go_simp
      refine hK.out _ _ ?s6_93 (fun hHeld => ?_)
      case s6_93 => ((try dsimp only) <;> (first | exact ⟨kW.cell0 c0, kW.cell0 c2, kW.cell0 c3, kW.cell0 c4⟩))
      clear hK K
      (try simp only [Act.put, List.getElem_toArray, List.getElem_cons_zero, List.getElem_cons_succ, List.setIfInBounds_toArray, List.set_cons_zero, List.set_cons_succ])
      refine wpAnyH_done (by kernel_rfl) ?_ _
      refine NoPanic.normal ?_
      go_wp2_with fail
      go_meet
      exact ⟨_, rfl, by omega, hW, kW⟩
  case rest =>
  obtain ⟨q, rfl, hq, hb, kc⟩ := hcut
  have q0 := hb.cell' (i := 0) rfl
  have q1 := hb.cell' (i := 1) rfl
  have q2 := hb.cell' (i := 2) rfl
  have q3 := hb.cell' (i := 3) rfl
  have HB := Lib.hid hb
  have HK := Lib.hid kc
  clear c0 c2 c3 c4 hb kc
  go_wp2_with fail
  refine (HMy.out _).mono ?_
  rintro e w2 ⟨rfl, k2⟩
  have hR2 := HR.out.keeps (HK.out.trans k2) (by simp)
  have hB2 := HB.out.keeps k2 (by simp)
  have HK2 := Lib.hid (HkA.out.trans (HK.out.trans k2))
  clear q0 q1 q2 q3 k2
  have q0 := hB2.cell' (i := 0) rfl
  have q1 := hB2.cell' (i := 1) rfl
  have q2 := hB2.cell' (i := 2) rfl
  have q3 := hB2.cell' (i := 3) rfl
  have r0 := hR2.cell' (i := 0) rfl
  have r1 := hR2.cell' (i := 1) rfl
  have r2 := hR2.cell' (i := 2) rfl
  have r3 := hR2.cell' (i := 3) rfl
  have f0 := hR2.frozen 0
  have f1 := hR2.frozen 1
  have f2 := hR2.frozen 2
  have f3 := hR2.frozen 3
  have hR3 := hR2.put4 (.int .u32 0) (.int .i64 0) (.int .i64 0) (.int .i64 0)
  have K3 := Lib.hid (HK2.out.put4 (p := w.heap.size + 1) (.inr (by omega)) (.int .u32 0) (.int .i64 0) (.int .i64 0) (.int .i64 0))
  have e0 := hR3.cell' (i := 0) rfl
  have e1 := hR3.cell' (i := 1) rfl
  have e2 := hR3.cell' (i := 2) rfl
  have e3 := hR3.cell' (i := 3) rfl
  clear hR2 hB2 hR3
  go_wp2_with fail
  refine bodyPost_ret (v := .tuple #[.agg #[.int .u32 0, .int .i64 0, .int .i64 0, .int .i64 0], .bool false]) (by simp [results, Tryz.results12, go_sem, e0, e1, e2, e3]) rfl ?_
  exact ⟨rfl, K3.out⟩

set_option maxRecDepth 100000 in
set_option maxHeartbeats 1600000 in
theorem mfmaybad_calls {w : World} (s v : UInt32) (n : Nat) (z P : Int) (h : Value) (hn : n ≤ 1000000) (hbad : PmOk (mcnt n z : Nat) P z = false) :
    Calls Tryz.prog 37 #[MiV s v n z P h] w fun e w' => e = .returned (.bool false) ∧ Keeps [] w w' := by
  have HO := Lib.hid (fun w => ofbad_calls (w := w) s v n z P h hn hbad)
  have hB0 := Blk.newA w 35 (MiL s v n z P h).toArray
  have kA : Keeps [] w (w.alloc (.cells (MiL s v n z P h).toArray 35)) := (Keeps.refl [] w).alloc _
  clear hbad
  go_enter Tryz.func37, Tryz.ntmps37
  go_wp2_with fail
  generalize w.alloc (.cells (MiL s v n z P h).toArray 35) = w0 at *
  refine (HO.out _).mono ?_
  rintro e w1 ⟨rfl, k1⟩
  have k2 : Keeps [] w1 (w1.alloc (.cells #[.int .u32 0, .int .i64 0, .int .i64 0, .int .i64 0] 38)) := (Keeps.refl [] w1).alloc _
  have HK := Lib.hid ((kA.trans k1).trans k2)
  clear hB0 kA k1 k2
  go_wp2_with fail
  go_ret
  exact ⟨rfl, HK.out⟩

set_option maxRecDepth 100000 in
set_option maxHeartbeats 1600000 in
theorem rmfmaybad_calls {w : World} (s v : UInt32) (n : Nat) (z P : Int) (h : Value) (hn : n ≤ 1000000) (hbad : PmOk (mcnt n z : Nat) P z = false) :
    Calls Tryz.prog 11 #[MiV s v n z P h] w fun e w' => e = .returned (.bool false) ∧ Keeps [] w w' := by
  have HO := Lib.hid (fun w => rparamsbad_calls (w := w) s v n z P h hn hbad)
  have hB0 := Blk.newA w 35 (MiL s v n z P h).toArray
  have kA : Keeps [] w (w.alloc (.cells (MiL s v n z P h).toArray 35)) := (Keeps.refl [] w).alloc _
  clear hbad
  go_enter Tryz.func11, Tryz.ntmps11
  go_wp2_with fail
  generalize w.alloc (.cells (MiL s v n z P h).toArray 35) = w0 at *
  refine (HO.out _).mono ?_
  rintro e w1 ⟨rfl, k1⟩
  have k2 : Keeps [] w1 (w1.alloc (.cells #[.int .u32 0, .int .i64 0, .int .i64 0, .int .i64 0] 38)) := (Keeps.refl [] w1).alloc _
  have HK := Lib.hid ((kA.trans k1).trans k2)
  clear hB0 kA k1 k2
  go_wp2_with fail
  go_ret
  exact ⟨rfl, HK.out⟩

set_option maxRecDepth 100000 in
set_option maxHeartbeats 1600000 in
theorem carnewbad_calls {w : World} {ak : Option Addr} {nk ck : Nat} (s v : UInt32) {ai : Option Addr} {n ci : Nat} {img : List UInt8} (hi : RdS0 w (.slice ai n ci) img) (hn : img.length = n) (hn2 : n ≤ 1000000) (z P : Int) (hbad : 64 < nk ∨ PmOk (mcnt n z : Nat) P z = false) :
    Calls Tryz.prog 8 #[.slice ak nk ck, B32 s, B32 v, .slice ai n ci, .int .i64 z, .int .i64 P] w fun e w' => e = .returned (.tuple #[.pointer none, .int .i64 1]) ∧ Keeps [] w w' := by
  obtain ⟨a', c', ea, _, _, r3, r4⟩ := id hi
  simp only [Value.slice.injEq] at ea
  obtain ⟨rfl, hx0, rfl⟩ := ea
  clear hx0
  have HS := Lib.hid (shasum_calls ai n ci img r3 hn (by omega) (fun h => ⟨by rw [← hn, (r4 h).1]; rfl, (r4 h).2⟩))
  have Hbad := Lib.hid hbad
  clear hi r3 r4 hn hbad
  go_enter Tryz.func8, Tryz.ntmps8
  go_wp2_with fail
  refine HS.out.mono ?_
  rintro e w1 ⟨vh, rfl, hO1, k1⟩
  have hR1 := hO1.rds
  obtain ⟨ah, ch, rfl, _⟩ := id hR1
  have hB1 := Blk.newA w1 35 (MiL s v n z P (.slice ah (sha img).length ch)).toArray
  have kA : Keeps [] w1 (w1.alloc (.cells (MiL s v n z P (.slice ah (sha img).length ch)).toArray 35)) := (Keeps.refl [] w1).alloc _
  have HK1 := Lib.hid (k1.trans kA)
  clear hO1 hR1 k1 kA HS
  go_upto_region 2 with (fail)
  generalize w1.alloc (.cells (MiL s v n z P (.slice ah (sha img).length ch)).toArray 35) = w2 at *
  by_cases h64 : 64 < nk
  · have t1 : (64 : Int) < (nk : Int) := by omega
    clear h64 hB1
    go_wp2_with fail
    go_ret2
    exact ⟨rfl, HK1.out⟩
  · have t1 : ¬ (64 : Int) < (nk : Int) := by omega
    have hb := Hbad.out.resolve_left h64
    have HM := Lib.hid (fun W => mfmaybad_calls (w := W) s v n z P (.slice ah (sha img).length ch) hn2 hb)
    have d0 := hB1.cell' (i := 0) rfl
    have d1 := hB1.cell' (i := 1) rfl
    have d2 := hB1.cell' (i := 2) rfl
    have d3 := hB1.cell' (i := 3) rfl
    have d4 := hB1.cell' (i := 4) rfl
    have d5 := hB1.cell' (i := 5) rfl
    clear h64 hB1 hb
    go_wp2_with fail
    refine (HM.out _).mono ?_
    rintro e w3 ⟨rfl, k3⟩
    go_wp2_with fail
    go_ret2
    exact ⟨rfl, HK1.out.trans k3⟩

/-- Good numbers are those of a manifest that may be. -/
theorem pm_good {n : Nat} {z P : Int} (h : PmOk (mcnt n z : Nat) P z = true) : ∃ y p : Nat, z = (y : Int) ∧ P = (p : Int) ∧ MfOk n y p (bcount n y) := by
  have h0 : (1 : Int) ≤ (mcnt n z : Nat) ∧ ((mcnt n z : Nat) : Int) ≤ 64 ∧ 0 ≤ P ∧ P ≤ 16 ∧ 1 ≤ z ∧ z ≤ 16 := by simp [PmOk] at h; omega
  obtain ⟨y, rfl⟩ : ∃ y : Nat, z = (y : Int) := ⟨z.toNat, by omega⟩
  obtain ⟨p, rfl⟩ : ∃ p : Nat, P = (p : Int) := ⟨P.toNat, by omega⟩
  have hn : ¬ (n < 1 ∨ 512 < n ∨ (y : Int) < 1 ∨ 16 < (y : Int)) := fun hx => by
    have : mcnt n y = 0 := by unfold mcnt; rw [if_pos hx]
    omega
  have hc := mcnt_in (n := n) (z := y) (by omega) (by omega) (by omega) (by omega)
  exact ⟨y, p, rfl, rfl, ⟨by omega, by omega, by omega, by omega, by omega, by omega, by omega, rfl⟩⟩

end Go.Proofs.YtijhaeapoapgfaaGreatDoor

set_option linter.unusedVariables false
set_option linter.unusedSimpArgs false
namespace Go.Proofs.YtijhaeapoapgfaaGreatDoor
open Go.RowKit

/-- The rows of the first k places, each with its place. -/
def lnP (M : Mtx) (k : Nat) : List (Nat × Rw) := (List.range k).filterMap (fun i => (M.at i).map (fun q => (i, q)))
theorem lnP_succ (M : Mtx) (k : Nat) : lnP M (k + 1) = lnP M k ++ ((M.at k).map (fun q => (k, q))).toList := by
  unfold lnP
  rw [List.range_succ, List.filterMap_append]
  cases h : M.at k <;> simp [h]
theorem lnP_mem {M : Mtx} {k : Nat} {p : Nat × Rw} (h : p ∈ lnP M k) : p.1 < k ∧ M.at p.1 = some p.2 := by
  unfold lnP at h
  obtain ⟨i, hi, he⟩ := List.mem_filterMap.1 h
  have hik := List.mem_range.1 hi
  cases hq : M.at i with
  | none => rw [hq] at he; cases he
  | some q =>
    rw [hq] at he
    simp only [Option.map_some, Option.some.injEq] at he
    subst he
    exact ⟨hik, hq⟩
def stR (r : Rw) (p : Nat × Rw) : Rw := if r.x.testBit p.1 then rxor r p.2 else r
theorem redK_lnP (M : Mtx) (r : Rw) : ∀ k, redK M r k = (lnP M k).foldl stR r
  | 0 => rfl
  | k + 1 => by
    rw [lnP_succ, List.foldl_append, ← redK_lnP M r k]
    show (match M.at k with | some q => if (redK M r k).x.testBit k then rxor (redK M r k) q else redK M r k | none => redK M r k) = _
    cases h : M.at k <;> rfl
theorem red_lnP {n z : Nat} {M : Mtx} (h : Ech n z M) (r : Rw) : red M r = (lnP M n).foldl stR r := by unfold red; rw [h.l]; exact redK_lnP M r n

def upA (a : Nat) (r q : Rw) : Rw := if q.x.testBit a then rxor q r else q
def stA (a : Nat) (r : Rw) (st : List Rw × Bool) (p : Nat × Rw) : List Rw × Bool :=
  (if !st.2 && decide (a < p.1) then (st.1 ++ [r] ++ [upA a r p.2], true) else (st.1 ++ [upA a r p.2], st.2))
theorem stA_len (a : Nat) (r : Rw) : ∀ (l : List (Nat × Rw)) (s : List Rw) (b : Bool), (l.foldl (stA a r) (s, b)).1.length ≤ s.length + l.length + (cond b 0 1)
  | [], s, b => by simp
  | p :: l, s, b => by
    rw [List.foldl_cons]
    by_cases h : (!b && decide (a < p.1)) = true
    · have e : stA a r (s, b) p = (s ++ [r] ++ [upA a r p.2], true) := by unfold stA; rw [if_pos h]
      rw [e]
      have := stA_len a r l (s ++ [r] ++ [upA a r p.2]) true
      have hb : b = false := by cases b <;> simp at h ⊢
      subst hb
      simp at this ⊢
      omega
    · have e : stA a r (s, b) p = (s ++ [upA a r p.2], b) := by unfold stA; rw [if_neg h]
      rw [e]
      have := stA_len a r l (s ++ [upA a r p.2]) b
      simp at this ⊢
      omega
def enA (r : Rw) (st : List Rw × Bool) : List Rw := if st.2 then st.1 else st.1 ++ [r]

def lns (M : Mtx) (k : Nat) : List Rw := (lnP M k).map Prod.snd
theorem lns_succ (M : Mtx) (k : Nat) : lns M (k + 1) = lns M k ++ (M.at k).toList := by
  unfold lns
  rw [lnP_succ, List.map_append]
  cases h : M.at k <;> rfl
theorem lns_len (M : Mtx) (k : Nat) : (lns M k).length = (lnP M k).length := List.length_map _
theorem lnP_len (M : Mtx) : ∀ k, (lnP M k).length ≤ k
  | 0 => Nat.le_refl _
  | k + 1 => by
    rw [lnP_succ, List.length_append]
    have := lnP_len M k
    cases h : M.at k <;> simp <;> omega

theorem madd_lns {n z : Nat} {M : Mtx} (h : Ech n z M) {a : Nat} {r : Rw} (ha : a < n) (hn : M.at a = none) : ∀ k, k ≤ n →
    (k ≤ a → ((lnP M k).foldl (stA a r) ([], false)) = (lns (madd M a r) k, false)) ∧ (a < k → enA r ((lnP M k).foldl (stA a r) ([], false)) = lns (madd M a r) k)
  | 0, _ => ⟨fun _ => rfl, fun hh => by omega⟩
  | k + 1, hk => by
    obtain ⟨i1, i2⟩ := madd_lns h ha hn k (by omega)
    have hat := madd_at M a r (i := k) (by rw [h.l]; omega) (by rw [h.l]; omega)
    rw [lnP_succ, List.foldl_append, lns_succ]
    refine ⟨fun hka => ?_, fun hka => ?_⟩
    · rw [i1 (by omega), hat, if_neg (by omega)]
      cases hq : M.at k with
      | none => simp [hq]
      | some q =>
        simp only [hq, Option.map_some, Option.toList_some, List.foldl_cons, List.foldl_nil]
        unfold stA upA
        rw [if_neg (by simp; omega)]
        by_cases hb : q.x.testBit a = true <;> simp [hb]
    · by_cases hke : k = a
      · subst hke
        rw [i1 (Nat.le_refl _), hat, if_pos rfl, hn]
        rfl
      · have ih := i2 (by omega)
        rw [hat, if_neg hke]
        generalize (lnP M k).foldl (stA a r) ([], false) = st at *
        obtain ⟨l, put⟩ := st
        cases hq : M.at k with
        | none =>
          simp only [Option.map_none, Option.toList_none, List.foldl_nil, List.append_nil]
          exact ih
        | some q =>
          simp only [Option.map_some, Option.toList_some, List.foldl_cons, List.foldl_nil]
          have hu : (if q.x.testBit a = true then some (rxor q r) else some q) = some (upA a r q) := by unfold upA; split <;> rfl
          rw [← ih]
          have hak : a < k := by omega
          unfold stA enA
          cases put <;> by_cases hb : q.x.testBit a = true <;> simp [hb, hak, upA]
theorem madd_all {n z : Nat} {M : Mtx} (h : Ech n z M) {a : Nat} {r : Rw} (ha : a < n) (hn : M.at a = none) : enA r ((lnP M n).foldl (stA a r) ([], false)) = lns (madd M a r) n := (madd_lns h ha hn n (Nat.le_refl _)).2 ha

theorem first_lnP {n z : Nat} {M : Mtx} (h : Ech n z M) {k : Nat} {p : Nat × Rw} (hp : p ∈ lnP M k) : firstB n p.2.x = (p.1 : Int) ∧ p.1 < n := by
  obtain ⟨h1, h2⟩ := lnP_mem hp
  have hl := Mtx.at_lt h2
  rw [h.l] at hl
  exact ⟨firstB_at hl (h.piv _ _ h2) (h.low _ _ h2), hl⟩
theorem lns_rank {n z : Nat} {M : Mtx} (h : Ech n z M) : (lns M n).length = rank M := by
  have key : ∀ k, k ≤ M.length → (lnP M k).length = ((M.take k).filter Option.isSome).length := by
    intro k
    induction k with
    | zero => intro _; rfl
    | succ k ih =>
      intro hk
      rw [lnP_succ, List.length_append, ih (by omega), List.take_add_one, List.filter_append, List.length_append]
      unfold Mtx.at
      rw [List.getElem?_eq_getElem (by omega), List.getD_eq_getElem?_getD, List.getElem?_eq_getElem (by omega)]
      cases M[k] <;> simp
  rw [lns_len, key n (by rw [h.l]; exact Nat.le_refl _), List.take_of_length_le (by rw [h.l]; exact Nat.le_refl _)]
  unfold rank
  first | rfl | (rw [List.countP_eq_length_filter])

end Go.Proofs.YtijhaeapoapgfaaGreatDoor
