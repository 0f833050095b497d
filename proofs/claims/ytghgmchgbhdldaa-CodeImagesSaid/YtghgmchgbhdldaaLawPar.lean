/-
  LawPar: downpourlaw11.CodeParity, walked (printed by lawpar.py).
-/
import Derived.Test.YtghgmchgbhdldaaLaw11a
import Derived.RegionTactic
set_option linter.unusedVariables false
set_option linter.unusedSimpArgs false
namespace Go.Proofs.Ytghgmchgbhdldaa
open Go.RowKit
attribute [local go_sem ↓] Go.wp_at_zero Go.wp_at_succ

theorem RdS.str {w : World} {v : Value} {x : List UInt8} (h : RdS w v x) : (convert 23 9 v).run Try.prog w = .ok (.string ⟨x.toArray⟩) w := by
  obtain ⟨a, c, rfl, _, _, r3, r4, _⟩ := h
  exact str_run x.length c r3 rfl (fun h => (r4 h).1)
theorem pieces_prefix (s : UInt32) (nK P Q z : Nat) (img : List UInt8) {i : Nat} (hi : i < nK + Q) (hQ : Q ≤ P) : (pieces s nK P z img)[i]? = (pieces s nK Q z img)[i]? := by
  unfold pieces ball
  by_cases h : i < nK
  · rw [List.getElem?_append_left (by rw [bsplit_len]; exact h), List.getElem?_append_left (by rw [bsplit_len]; exact h)]
  · rw [List.getElem?_append_right (by rw [bsplit_len]; omega), List.getElem?_append_right (by rw [bsplit_len]; omega), bsplit_len]
    unfold bpars
    rw [List.getElem?_map, List.getElem?_map, List.getElem?_range (by omega), List.getElem?_range (by omega)]
theorem Fits.less {nK P Q z : Nat} {img : List UInt8} (h : Fits nK P z img) (hQ : Q ≤ P) : Fits nK Q z img := ⟨h.k1, h.k2, Nat.le_trans hQ h.p2, h.z1, h.z2, h.l, h.c, h.f⟩

set_option maxRecDepth 100000 in
set_option maxHeartbeats 4000000 in
theorem codeParity_walk {w : World} (s : UInt32) (k p z0 : Int) (a : Option Addr) (n c : Nat) (l : List UInt8) (hl : Rd w a l) (hn : l.length = n) (hnc : n ≤ c) (hc : c ≤ maxLen) (h0 : a = none → l = [] ∧ c = 0) (less : Int) :
    Calls Try.prog 15 #[.agg #[B32 s, .int .i64 k, .int .i64 p, .int .i64 z0], .slice a n c, .int .i64 less] w fun e w' => e = .returned (.bool true) ∧ Keeps [] w w' := by
  have kA : Keeps [] w (w.alloc (.cells #[B32 s, .int .i64 k, .int .i64 p, .int .i64 z0] 73)) := (Keeps.refl [] w).alloc _
  have hB0 := Blk.newA w 73 #[B32 s, .int .i64 k, .int .i64 p, .int .i64 z0]
  have HS := Lib.hid (sound11_calls s k p z0 a n c l (hl.keepsNil kA) hn hnc hc h0)
  clear hl h0 hn
  go_enter Try.func15, Try.ntmps15
  go_wp2_with fail
  generalize w.alloc (.cells #[B32 s, .int .i64 k, .int .i64 p, .int .i64 z0] 73) = w0 at *
  refine HS.out.mono ?_
  rintro e w1 ⟨nK, P, z, img, vi, rfl, hF, hi1, hi2, hI, k1⟩
  have hB1 := hB0.keeps k1 (by simp)
  have c0 := hB1.cell' (i := 0) rfl
  have c1 := hB1.cell' (i := 1) rfl
  have c2 := hB1.cell' (i := 2) rfl
  have c3 := hB1.cell' (i := 3) rfl
  have f0 := hB1.frozen 0
  have f1 := hB1.frozen 1
  have f2 := hB1.frozen 2
  have f3 := hB1.frozen 3
  go_upto_region 2 with (fail)
  have hB2 := hB1.put4 (B32 s) (.int .i64 nK) (.int .i64 P) (.int .i64 z)
  have K2 := Lib.hid ((kA.trans k1).put4 (.inr (Nat.le_refl _)) (B32 s) (.int .i64 nK) (.int .i64 P) (.int .i64 z))
  have hk12 := (Keeps.refl [w.heap.size] w1).put4 (p := w.heap.size) (.inl (by simp)) (B32 s) (.int .i64 nK) (.int .i64 P) (.int .i64 z)
  have HI := Lib.hid (hI.keepsP hk12 (fun x hx => by simp only [List.mem_singleton] at hx; subst hx; exact ⟨_, _, hB1, by decide⟩))
  clear c0 c1 c2 c3 f0 f1 f2 f3 hB1 hB0 kA k1 hk12
  generalize ((((w1.setCell ⟨w.heap.size, 0, none⟩ (B32 s)).setCell ⟨w.heap.size, 1, none⟩ (.int .i64 nK)).setCell ⟨w.heap.size, 2, none⟩ (.int .i64 P)).setCell ⟨w.heap.size, 3, none⟩ (.int .i64 z)) = w2 at *
  obtain ⟨ai, ci, rfl, _⟩ := hI
  have HF := Lib.hid hF
  have hk1 := hF.k1
  have hk2 := hF.k2
  have hp2 := hF.p2
  have hz1 := hF.z1
  have hz2 := hF.z2
  clear hF
  have hpb := hB2.lt
  have c0 := hB2.cell' (i := 0) rfl
  have c1 := hB2.cell' (i := 1) rfl
  have c2 := hB2.cell' (i := 2) rfl
  have c3 := hB2.cell' (i := 3) rfl
  obtain ⟨Q, hQ, eQ1, eQ2⟩ := umod less ((P : Int) + 1) (by omega) (by omega)
  have hP0 : ¬ ((P : Int) + 1 = 0) := by omega
  go_upto_region 4 with (fail)
  have kQ : Keeps [] w2 (w2.alloc (.cells #[B32 s, .int .i64 nK, .int .i64 Q, .int .i64 z] 73)) := (Keeps.refl [] w2).alloc _
  have hQB := Blk.newA w2 73 #[B32 s, .int .i64 nK, .int .i64 Q, .int .i64 z]
  have K3 := Lib.hid (K2.out.trans kQ)
  have HI3 := Lib.hid (HI.out.keepsNil kQ)
  have b0 := kQ.cell0 c0
  have b1 := kQ.cell0 c1
  have b2 := kQ.cell0 c2
  have b3 := kQ.cell0 c3
  have d0 := hQB.cell' (i := 0) rfl
  have d1 := hQB.cell' (i := 1) rfl
  have d2 := hQB.cell' (i := 2) rfl
  have d3 := hQB.cell' (i := 3) rfl
  clear c0 c1 c2 c3 hQB kQ eQ1 eQ2 hP0 HI
  have hQP : Q ≤ P := by omega
  have HFQ := Lib.hid (HF.out.less hQP)
  generalize w2.alloc (.cells #[B32 s, .int .i64 nK, .int .i64 Q, .int .i64 z] 73) = w3 at *
  refine wp_region_noPanic ?_
  refine wp_region_held_drew (S := (fun w' => w'.cell? ⟨w.heap.size, 0, none⟩ = some (B32 s) ∧ w'.cell? ⟨w.heap.size, 1, none⟩ = some (.int .i64 nK) ∧ w'.cell? ⟨w.heap.size, 2, none⟩ = some (.int .i64 P) ∧ w'.cell? ⟨w.heap.size, 3, none⟩ = some (.int .i64 z) ∧ w'.cell? ⟨w2.heap.size, 0, none⟩ = some (B32 s) ∧ w'.cell? ⟨w2.heap.size, 1, none⟩ = some (.int .i64 nK) ∧ w'.cell? ⟨w2.heap.size, 2, none⟩ = some (.int .i64 Q) ∧ w'.cell? ⟨w2.heap.size, 3, none⟩ = some (.int .i64 z))) (by kernel_rfl) ⟨b0, b1, b2, b3, d0, d1, d2, d3⟩ (fun hHeld => ?_)
  have kd : Keeps [] w3 w3.drew := (Keeps.refl [] w3).drew
  refine wpAnyH_take (i := 0) (v := ?v1_1) rfl (by kernel_rfl) (by kernel_rfl) (by kernel_rfl) (fun _ _ _ h => h) (Or.inl ⟨by rfl, ?y1_1⟩) (by assumption) ?r1_1
  case y1_1 => (intro w hSw; (try dsimp only at hSw); go_simp; try with_reducible rfl)
  (try simp only [Act.put, List.getElem_toArray, List.getElem_cons_zero, List.getElem_cons_succ, List.setIfInBounds_toArray, List.set_cons_zero, List.set_cons_succ])
  refine wpAnyH_take (i := 1) (v := ?v1_2) rfl (by kernel_rfl) (by kernel_rfl) (by kernel_rfl) (fun _ _ _ h => h) (Or.inl ⟨by rfl, ?y1_2⟩) (by assumption) ?r1_2
  case y1_2 => (intro w hSw; (try dsimp only at hSw); go_simp; try with_reducible rfl)
  (try simp only [Act.put, List.getElem_toArray, List.getElem_cons_zero, List.getElem_cons_succ, List.setIfInBounds_toArray, List.set_cons_zero, List.set_cons_succ])
  refine wpAnyH_take (i := 4) (v := ?v1_3) rfl (by kernel_rfl) (by kernel_rfl) (by kernel_rfl) (fun _ _ _ h => h) (Or.inl ⟨by rfl, ?y1_3⟩) (by assumption) ?r1_3
  case y1_3 => (intro w hSw; (try dsimp only at hSw); go_simp; try with_reducible rfl)
  (try simp only [Act.put, List.getElem_toArray, List.getElem_cons_zero, List.getElem_cons_succ, List.setIfInBounds_toArray, List.set_cons_zero, List.set_cons_succ])
  refine wpAnyH_take (i := 5) (v := ?v1_4) rfl (by kernel_rfl) (by kernel_rfl) (by kernel_rfl) (fun _ _ _ h => h) (Or.inl ⟨by rfl, ?y1_4⟩) (by assumption) ?r1_4
  case y1_4 => (intro w hSw; (try dsimp only at hSw); go_simp; try with_reducible rfl)
  (try simp only [Act.put, List.getElem_toArray, List.getElem_cons_zero, List.getElem_cons_succ, List.setIfInBounds_toArray, List.set_cons_zero, List.set_cons_succ])
  refine wpAnyH_ready (rs := [2]) (by kernel_rfl) (by simp) ?_
  refine AllReadyH.cons rfl (fun K hK => ?_) AllReadyH.nil
  go_simp
  refine (cnew_calls (HI3.out.keepsNil kd) s HF.out).mono ?_
  rintro e w4 ⟨p1, rfl, hp1, hH1, j4⟩
  have hs4 := kd.size
  replace kd := kd.trans j4
  go_wp2_with fail
  refine hK.out _ _ ?s1_5 (fun hHeld => ?_)
  case s1_5 => ((try dsimp only) <;> (first | exact ⟨kd.cell0 b0, kd.cell0 b1, kd.cell0 b2, kd.cell0 b3, kd.cell0 d0, kd.cell0 d1, kd.cell0 d2, kd.cell0 d3⟩))
  clear hK K
  (try simp only [Act.put, List.getElem_toArray, List.getElem_cons_zero, List.getElem_cons_succ, List.setIfInBounds_toArray, List.set_cons_zero, List.set_cons_succ])
  refine wpAnyH_ready (rs := [3]) (by kernel_rfl) (by simp) ?_
  refine AllReadyH.cons rfl (fun K hK => ?_) AllReadyH.nil
  go_simp
  refine (hdall_calls hH1).mono ?_
  rintro e w5 ⟨va, rfl, hPa, _, j5⟩
  replace kd := kd.trans' j5 (fun _ h => .inl h) (fun x hx => .inr (by simp at hx; omega))
  have HRa := Lib.hid hPa.rdl
  obtain ⟨aa, ca, rfl, _⟩ := hPa.rdl
  have hs5 := kd.size
  clear hPa hH1 j5
  go_wp2_with fail
  refine hK.out _ _ ?s1_6 (fun hHeld => ?_)
  case s1_6 => ((try dsimp only) <;> (first | exact ⟨kd.cell0 b0, kd.cell0 b1, kd.cell0 b2, kd.cell0 b3, kd.cell0 d0, kd.cell0 d1, kd.cell0 d2, kd.cell0 d3⟩))
  clear hK K
  (try simp only [Act.put, List.getElem_toArray, List.getElem_cons_zero, List.getElem_cons_succ, List.setIfInBounds_toArray, List.set_cons_zero, List.set_cons_succ])
  refine wpAnyH_ready (rs := [6]) (by kernel_rfl) (by simp) ?_
  refine AllReadyH.cons rfl (fun K hK => ?_) AllReadyH.nil
  go_simp
  refine (cnew_calls (HI3.out.keepsNil kd) s HFQ.out).mono ?_
  rintro e w6 ⟨p2, rfl, hp2', hH2, j6⟩
  replace kd := kd.trans j6
  go_wp2_with fail
  refine hK.out _ _ ?s1_7 (fun hHeld => ?_)
  case s1_7 => ((try dsimp only) <;> (first | exact ⟨kd.cell0 b0, kd.cell0 b1, kd.cell0 b2, kd.cell0 b3, kd.cell0 d0, kd.cell0 d1, kd.cell0 d2, kd.cell0 d3⟩))
  clear hK K
  (try simp only [Act.put, List.getElem_toArray, List.getElem_cons_zero, List.getElem_cons_succ, List.setIfInBounds_toArray, List.set_cons_zero, List.set_cons_succ])
  refine wpAnyH_ready (rs := [7]) (by kernel_rfl) (by simp) ?_
  refine AllReadyH.cons rfl (fun K hK => ?_) AllReadyH.nil
  go_simp
  refine (hdall_calls hH2).mono ?_
  rintro e w7 ⟨vb, rfl, hPb, _, j7⟩
  have j57 : Keeps [] w5 w7 := j6.trans' j7 (fun _ h => .inl h) (fun x hx => .inr (by simp at hx; omega))
  replace kd := kd.trans' j7 (fun _ h => .inl h) (fun x hx => .inr (by simp at hx; omega))
  have HRa7 := Lib.hid (HRa.out.keepsNil j57)
  have HRb := Lib.hid hPb.rdl
  obtain ⟨ab, cb, rfl, _⟩ := hPb.rdl
  clear hPb hH2 j7 j57 HRa
  go_wp2_with fail
  refine hK.out _ _ ?s1_8 (fun hHeld => ?_)
  case s1_8 => ((try dsimp only) <;> (first | exact ⟨kd.cell0 b0, kd.cell0 b1, kd.cell0 b2, kd.cell0 b3, kd.cell0 d0, kd.cell0 d1, kd.cell0 d2, kd.cell0 d3⟩))
  clear hK K
  (try simp only [Act.put, List.getElem_toArray, List.getElem_cons_zero, List.getElem_cons_succ, List.setIfInBounds_toArray, List.set_cons_zero, List.set_cons_succ])
  refine wpAnyH_take (i := 8) (v := ?v1_9) rfl (by kernel_rfl) (by kernel_rfl) (by kernel_rfl) (fun _ _ _ h => h) (Or.inl ⟨by rfl, ?y1_9⟩) (by assumption) ?r1_9
  case y1_9 => (intro w hSw; (try dsimp only at hSw); go_simp; try with_reducible rfl)
  (try simp only [Act.put, List.getElem_toArray, List.getElem_cons_zero, List.getElem_cons_succ, List.setIfInBounds_toArray, List.set_cons_zero, List.set_cons_succ])
  refine wpAnyH_take (i := 9) (v := ?v1_10) rfl (by kernel_rfl) (by kernel_rfl) (by kernel_rfl) (fun _ _ _ h => h) (Or.inl ⟨by rfl, ?y1_10⟩) (by assumption) ?r1_10
  case y1_10 => (intro w hSw; (try dsimp only at hSw); go_simp; try with_reducible rfl)
  (try simp only [Act.put, List.getElem_toArray, List.getElem_cons_zero, List.getElem_cons_succ, List.setIfInBounds_toArray, List.set_cons_zero, List.set_cons_succ])
  refine wpAnyH_done (by kernel_rfl) ?_ _
  refine NoPanic.normal ?_
  have hla := pieces_len s nK P z img
  have hlb := pieces_len s nK Q z img
  have hpre := fun i (hi : i < nK + Q) => pieces_prefix s nK P Q z img hi hQP
  have heach := pieces_each (s := s) (P := Q) HF.out.f
  generalize pieces s nK P z img = A at *
  generalize pieces s nK Q z img = B at *
  have g0 := kd.cell0 b0
  have g1 := kd.cell0 b1
  have g2 := kd.cell0 b2
  have g3 := kd.cell0 b3
  have q2 := kd.cell0 d2
  have K7 := Lib.hid (K3.out.trans kd)
  have Hpre := Lib.hid hpre
  have Heach := Lib.hid heach
  have Hla := Lib.hid hla
  have Hlb := Lib.hid hlb
  have hA : (nK : Int) + (P : Int) = (A.length : Int) := by omega
  have hB : (nK : Int) + (Q : Int) = (B.length : Int) := by omega
  have hB80 : B.length ≤ 80 := by omega
  have hA80 : A.length ≤ 80 := by omega
  have hBA : B.length ≤ A.length := by omega
  clear hla hlb hpre heach b0 b1 b2 b3 d0 d1 d2 d3 hHeld kd j4 j6 hQ hQP
  go_wp2_with fail
  go_loopw [55] (fun i wr => ∃ k : Nat, k ≤ B.length ∧ i = .int .i64 k ∧ Keeps [] w7 wr) (fun i _ => B.length - (intOf i).toNat)
  case atStart => exact ⟨0, Nat.zero_le _, rfl, Keeps.refl _ _⟩
  case round =>
    obtain ⟨k, hk, rfl, hK⟩ := hrel
    by_cases hlt : k < B.length
    · obtain ⟨a', c', ea, _, _, hra, _⟩ := HRa7.out.keepsNil hK
      simp only [Value.slice.injEq] at ea
      obtain ⟨rfl, _, rfl⟩ := ea
      obtain ⟨a', c', ea, _, _, hrb, _⟩ := HRb.out.keepsNil hK
      simp only [Value.slice.injEq] at ea
      obtain ⟨rfl, _, rfl⟩ := ea
      have hAk : A[k]? = some B[k] := by rw [Hpre.out k (by have := Hlb.out; omega), List.getElem?_eq_getElem hlt]
      obtain ⟨ga, ua, rfl, ha0, hrua⟩ := hra k B[k] hAk
      obtain ⟨gb, ub, rfl, hb0, hrub⟩ := hrb k B[k] (List.getElem?_eq_getElem hlt)
      have hbz := Heach.out B[k] (List.getElem_mem hlt)
      generalize B[k] = x at *
      have sa' := (hrua.keepsNil ((Keeps.refl [] wr).drew)).str
      have sb' := (hrub.keepsNil ((Keeps.refl [] wr).drew)).str
      obtain ⟨av, cv, rfl, _⟩ := hrua
      obtain ⟨bv, dv, rfl, _⟩ := hrub
      rw [hbz] at ha0 hb0 sa' sb'
      have hz3 := hK.cell0 g3
      have hki : (k : Int) < (B.length : Int) := by omega
      have hki2 : (k : Int) < (A.length : Int) := by omega
      have HK := Lib.hid hK
      clear hra hrb hAk hK hbz
      go_wp2_with fail
      refine wp_region_noPanic ?_
      refine wp_region_held_drew (S := (fun w' => w'.cell? ⟨ga, k, none⟩ = some (.slice av z cv) ∧ w'.cell? ⟨gb, k, none⟩ = some (.slice bv z dv) ∧ (convert 23 9 (.slice av z cv)).run Try.prog w' = .ok (.string ⟨x.toArray⟩) w' ∧ (convert 23 9 (.slice bv z dv)).run Try.prog w' = .ok (.string ⟨x.toArray⟩) w' ∧ w'.cell? ⟨w.heap.size, 3, none⟩ = some (.int .i64 z))) (by kernel_rfl) ⟨ha0, hb0, sa', sb', hz3⟩ (fun hHeld => ?_)
      refine wpAnyH_take (i := 0) (v := ?v2_11) rfl (by kernel_rfl) (by kernel_rfl) (by kernel_rfl) (fun _ _ _ h => h) (Or.inl ⟨by rfl, ?y2_11⟩) (by assumption) ?r2_11
      case y2_11 => (intro w hSw; (try dsimp only at hSw); go_simp; try with_reducible rfl)
      (try simp only [Act.put, List.getElem_toArray, List.getElem_cons_zero, List.getElem_cons_succ, List.setIfInBounds_toArray, List.set_cons_zero, List.set_cons_succ])
      refine wpAnyH_take (i := 1) (v := ?v2_12) rfl (by kernel_rfl) (by kernel_rfl) (by kernel_rfl) (fun _ _ _ h => h) (Or.inl ⟨by rfl, ?y2_12⟩) (by assumption) ?r2_12
      case y2_12 => (intro w hSw; (try dsimp only at hSw); go_simp; try with_reducible rfl)
      (try simp only [Act.put, List.getElem_toArray, List.getElem_cons_zero, List.getElem_cons_succ, List.setIfInBounds_toArray, List.set_cons_zero, List.set_cons_succ])
      refine wpAnyH_take (i := 2) (v := ?v2_13) rfl (by kernel_rfl) (by kernel_rfl) (by kernel_rfl) (fun _ _ _ h => h) (Or.inl ⟨by rfl, ?y2_13⟩) (by assumption) ?r2_13
      case y2_13 => (intro w hSw; (try dsimp only at hSw); go_simp; try with_reducible rfl)
      (try simp only [Act.put, List.getElem_toArray, List.getElem_cons_zero, List.getElem_cons_succ, List.setIfInBounds_toArray, List.set_cons_zero, List.set_cons_succ])
      refine wpAnyH_take (i := 3) (v := ?v2_14) rfl (by kernel_rfl) (by kernel_rfl) (by kernel_rfl) (fun _ _ _ h => h) (Or.inl ⟨by rfl, ?y2_14⟩) (by assumption) ?r2_14
      case y2_14 => (intro w hSw; (try dsimp only at hSw); go_simp; try with_reducible rfl)
      (try simp only [Act.put, List.getElem_toArray, List.getElem_cons_zero, List.getElem_cons_succ, List.setIfInBounds_toArray, List.set_cons_zero, List.set_cons_succ])
      refine wpAnyH_take (i := 4) (v := ?v2_15) rfl (by kernel_rfl) (by kernel_rfl) (by kernel_rfl) (fun _ _ _ h => h) (Or.inl ⟨by rfl, ?y2_15⟩) (by assumption) ?r2_15
      case y2_15 => (intro w hSw; (try dsimp only at hSw); go_simp; try with_reducible rfl)
      (try simp only [Act.put, List.getElem_toArray, List.getElem_cons_zero, List.getElem_cons_succ, List.setIfInBounds_toArray, List.set_cons_zero, List.set_cons_succ])
      refine wpAnyH_take (i := 5) (v := ?v2_16) rfl (by kernel_rfl) (by kernel_rfl) (by kernel_rfl) (fun _ _ _ h => h) (Or.inl ⟨by rfl, ?y2_16⟩) (by assumption) ?r2_16
      case y2_16 => (intro w hSw; (try dsimp only at hSw); go_simp; try with_reducible rfl)
      (try simp only [Act.put, List.getElem_toArray, List.getElem_cons_zero, List.getElem_cons_succ, List.setIfInBounds_toArray, List.set_cons_zero, List.set_cons_succ])
      refine wpAnyH_take (i := 6) (v := ?v2_17) rfl (by kernel_rfl) (by kernel_rfl) (by kernel_rfl) (fun _ _ _ h => h) (Or.inl ⟨by rfl, ?y2_17⟩) (by assumption) ?r2_17
      case y2_17 => (intro w hSw; (try dsimp only at hSw); go_simp; try with_reducible rfl)
      (try simp only [Act.put, List.getElem_toArray, List.getElem_cons_zero, List.getElem_cons_succ, List.setIfInBounds_toArray, List.set_cons_zero, List.set_cons_succ])
      refine wpAnyH_take (i := 7) (v := ?v2_18) rfl (by kernel_rfl) (by kernel_rfl) (by kernel_rfl) (fun _ _ _ h => h) (Or.inl ⟨by rfl, ?y2_18⟩) (by assumption) ?r2_18
      case y2_18 => (intro w hSw; (try dsimp only at hSw); go_simp; try with_reducible rfl)
      (try simp only [Act.put, List.getElem_toArray, List.getElem_cons_zero, List.getElem_cons_succ, List.setIfInBounds_toArray, List.set_cons_zero, List.set_cons_succ])
      refine wpAnyH_take (i := 8) (v := ?v2_19) rfl (by kernel_rfl) (by kernel_rfl) (by kernel_rfl) (fun _ _ _ h => h) (Or.inl ⟨by rfl, ?y2_19⟩) (by assumption) ?r2_19
      case y2_19 => (intro w hSw; (try dsimp only at hSw); go_simp; try with_reducible rfl)
      (try simp only [Act.put, List.getElem_toArray, List.getElem_cons_zero, List.getElem_cons_succ, List.setIfInBounds_toArray, List.set_cons_zero, List.set_cons_succ])
      refine wpAnyH_take (i := 9) (v := ?v2_20) rfl (by kernel_rfl) (by kernel_rfl) (by kernel_rfl) (fun _ _ _ h => h) (Or.inl ⟨by rfl, ?y2_20⟩) (by assumption) ?r2_20
      case y2_20 => (intro w hSw; (try dsimp only at hSw); go_simp; try with_reducible rfl)
      (try simp only [Act.put, List.getElem_toArray, List.getElem_cons_zero, List.getElem_cons_succ, List.setIfInBounds_toArray, List.set_cons_zero, List.set_cons_succ])
      refine wpAnyH_take (i := 10) (v := ?v2_21) rfl (by kernel_rfl) (by kernel_rfl) (by kernel_rfl) (fun _ _ _ h => h) (Or.inl ⟨by rfl, ?y2_21⟩) (by assumption) ?r2_21
      case y2_21 => (intro w hSw; (try dsimp only at hSw); go_simp; try with_reducible rfl)
      (try simp only [Act.put, List.getElem_toArray, List.getElem_cons_zero, List.getElem_cons_succ, List.setIfInBounds_toArray, List.set_cons_zero, List.set_cons_succ])
      refine wpAnyH_take (i := 11) (v := ?v2_22) rfl (by kernel_rfl) (by kernel_rfl) (by kernel_rfl) (fun _ _ _ h => h) (Or.inl ⟨by rfl, ?y2_22⟩) (by assumption) ?r2_22
      case y2_22 => (intro w hSw; (try dsimp only at hSw); go_simp; try with_reducible rfl)
      (try simp only [Act.put, List.getElem_toArray, List.getElem_cons_zero, List.getElem_cons_succ, List.setIfInBounds_toArray, List.set_cons_zero, List.set_cons_succ])
      refine wpAnyH_take (i := 12) (v := ?v2_23) rfl (by kernel_rfl) (by kernel_rfl) (by kernel_rfl) (fun _ _ _ h => h) (Or.inl ⟨by rfl, ?y2_23⟩) (by assumption) ?r2_23
      case y2_23 => (intro w hSw; (try dsimp only at hSw); go_simp; try with_reducible rfl)
      (try simp only [Act.put, List.getElem_toArray, List.getElem_cons_zero, List.getElem_cons_succ, List.setIfInBounds_toArray, List.set_cons_zero, List.set_cons_succ])
      refine wpAnyH_take (i := 13) (v := ?v2_24) rfl (by kernel_rfl) (by kernel_rfl) (by kernel_rfl) (fun _ _ _ h => h) (Or.inl ⟨by rfl, ?y2_24⟩) (by assumption) ?r2_24
      case y2_24 => (intro w hSw; (try dsimp only at hSw); go_simp; try with_reducible rfl)
      (try simp only [Act.put, List.getElem_toArray, List.getElem_cons_zero, List.getElem_cons_succ, List.setIfInBounds_toArray, List.set_cons_zero, List.set_cons_succ])
      refine wpAnyH_take (i := 14) (v := ?v2_25) rfl (by kernel_rfl) (by kernel_rfl) (by kernel_rfl) (fun _ _ _ h => h) (Or.inl ⟨by rfl, ?y2_25⟩) (by assumption) ?r2_25
      case y2_25 => (intro w hSw; (try dsimp only at hSw); go_simp; try with_reducible rfl)
      (try simp only [Act.put, List.getElem_toArray, List.getElem_cons_zero, List.getElem_cons_succ, List.setIfInBounds_toArray, List.set_cons_zero, List.set_cons_succ])
      refine wpAnyH_take (i := 15) (v := ?v2_26) rfl (by kernel_rfl) (by kernel_rfl) (by kernel_rfl) (fun _ _ _ h => h) (Or.inl ⟨by rfl, ?y2_26⟩) (by assumption) ?r2_26
      case y2_26 => (intro w hSw; (try dsimp only at hSw); go_simp; try with_reducible rfl)
      (try simp only [Act.put, List.getElem_toArray, List.getElem_cons_zero, List.getElem_cons_succ, List.setIfInBounds_toArray, List.set_cons_zero, List.set_cons_succ])
      refine wpAnyH_take (i := 16) (v := ?v2_27) rfl (by kernel_rfl) (by kernel_rfl) (by kernel_rfl) (fun _ _ _ h => h) (Or.inl ⟨by rfl, ?y2_27⟩) (by assumption) ?r2_27
      case y2_27 => (intro w hSw; (try dsimp only at hSw); go_simp; try with_reducible rfl)
      (try simp only [Act.put, List.getElem_toArray, List.getElem_cons_zero, List.getElem_cons_succ, List.setIfInBounds_toArray, List.set_cons_zero, List.set_cons_succ])
      refine wpAnyH_take (i := 17) (v := ?v2_28) rfl (by kernel_rfl) (by kernel_rfl) (by kernel_rfl) (fun _ _ _ h => h) (Or.inl ⟨by rfl, ?y2_28⟩) (by assumption) ?r2_28
      case y2_28 => (intro w hSw; (try dsimp only at hSw); go_simp; try with_reducible rfl)
      (try simp only [Act.put, List.getElem_toArray, List.getElem_cons_zero, List.getElem_cons_succ, List.setIfInBounds_toArray, List.set_cons_zero, List.set_cons_succ])
      refine wpAnyH_take (i := 18) (v := ?v2_29) rfl (by kernel_rfl) (by kernel_rfl) (by kernel_rfl) (fun _ _ _ h => h) (Or.inl ⟨by rfl, ?y2_29⟩) (by assumption) ?r2_29
      case y2_29 => (intro w hSw; (try dsimp only at hSw); go_simp; try with_reducible rfl)
      (try simp only [Act.put, List.getElem_toArray, List.getElem_cons_zero, List.getElem_cons_succ, List.setIfInBounds_toArray, List.set_cons_zero, List.set_cons_succ])
      refine wpAnyH_take (i := 19) (v := ?v2_30) rfl (by kernel_rfl) (by kernel_rfl) (by kernel_rfl) (fun _ _ _ h => h) (Or.inl ⟨by rfl, ?y2_30⟩) (by assumption) ?r2_30
      case y2_30 => (intro w hSw; (try dsimp only at hSw); go_simp; try with_reducible rfl)
      (try simp only [Act.put, List.getElem_toArray, List.getElem_cons_zero, List.getElem_cons_succ, List.setIfInBounds_toArray, List.set_cons_zero, List.set_cons_succ])
      refine wpAnyH_take (i := 20) (v := ?v2_31) rfl (by kernel_rfl) (by kernel_rfl) (by kernel_rfl) (fun _ _ _ h => h) (Or.inl ⟨by rfl, ?y2_31⟩) (by assumption) ?r2_31
      case y2_31 => (intro w hSw; (try dsimp only at hSw); go_simp; try with_reducible rfl)
      (try simp only [Act.put, List.getElem_toArray, List.getElem_cons_zero, List.getElem_cons_succ, List.setIfInBounds_toArray, List.set_cons_zero, List.set_cons_succ])
      refine wpAnyH_done (by kernel_rfl) ?_ _
      refine NoPanic.normal ?_
      go_wp2_with fail
      go_roundw
      case rel => exact ⟨k + 1, by omega, by go_num, HK.out.drew⟩
      case measure => simp [intOf]; omega
    · obtain rfl : k = B.length := by omega
      have HK := Lib.hid hK
      clear hK
      go_wp2_with fail
      refine (awake11_calls (w := wr)).mono ?_
      rintro e w9 ⟨rfl, k9⟩
      go_wp2_with fail
      go_ret
      exact ⟨rfl, (K7.out.trans HK.out).trans k9⟩

end Go.Proofs.Ytghgmchgbhdldaa
