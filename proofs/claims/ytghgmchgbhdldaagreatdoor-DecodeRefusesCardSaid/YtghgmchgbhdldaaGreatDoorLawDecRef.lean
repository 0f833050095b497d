/-
  LawDecRef: DecodeRefuses, walked.
-/
import Derived.Test.YtghgmchgbhdldaaGreatDoorDeV
set_option linter.unusedVariables false
set_option linter.unusedSimpArgs false
namespace Go.Proofs.YtghgmchgbhdldaaGreatDoor
open Go.RowKit
attribute [local go_sem ↓] Go.wp_at_zero Go.wp_at_succ

set_option maxRecDepth 100000 in
set_option maxHeartbeats 1600000 in
theorem decodeRefuses_walk {w : World} (ht : TzAt w) (s : UInt32) (k p z0 : Int) (a : Option Addr) (n c : Nat) (l : List UInt8) (hl : Rd w a l) (hn : l.length = n) (hnc : n ≤ c) (hc : c ≤ maxLen) (h0 : a = none → l = [] ∧ c = 0) (id : UInt32) (more : Int) :
    Calls Tryz.prog 7 #[.agg #[B32 s, .int .i64 k, .int .i64 p, .int .i64 z0], .slice a n c, B32 id, .int .i64 more] w fun e w' => e = .returned (.bool true) ∧ Keeps [] w w' := by
  have kA : Keeps [] w (w.alloc (.cells #[B32 s, .int .i64 k, .int .i64 p, .int .i64 z0] 24)) := (Keeps.refl [] w).alloc _
  have hB0 := Blk.newA w 24 #[B32 s, .int .i64 k, .int .i64 p, .int .i64 z0]
  have HS := Lib.hid (sound12_calls s k p z0 a n c l (hl.keepsNil kA) hn hnc hc h0)
  clear hl h0 hn
  go_enter Tryz.func7, Tryz.ntmps7
  go_wp2_with fail
  generalize w.alloc (.cells #[B32 s, .int .i64 k, .int .i64 p, .int .i64 z0] 24) = w0 at *
  refine HS.out.mono ?_
  rintro e w1 ⟨nK, P, z, img, vi, rfl, hF, hi1, hi2, hI, k1⟩
  have hB1 := hB0.keeps k1 (by simp)
  have c0 := hB1.cell' (i := 0) rfl
  have c1 := hB1.cell' (i := 1) rfl
  have c2 := hB1.cell' (i := 2) rfl
  have c3 := hB1.cell' (i := 3) rfl
  have f0 := hB1.frozen 0
  have f1 := hB1.frozen 1
  have f2 := hB1.frozen 2
  have f3 := hB1.frozen 3
  go_upto_region 2 with (fail)
  have hB2 := hB1.put4 (B32 s) (.int .i64 nK) (.int .i64 P) (.int .i64 z)
  have K2 := Lib.hid ((kA.trans k1).put4 (.inr (Nat.le_refl _)) (B32 s) (.int .i64 nK) (.int .i64 P) (.int .i64 z))
  have hk12 := (Keeps.refl [w.heap.size] w1).put4 (p := w.heap.size) (.inl (by simp)) (B32 s) (.int .i64 nK) (.int .i64 P) (.int .i64 z)
  have HI := Lib.hid (hI.keepsP hk12 (fun x hx => by simp only [List.mem_singleton] at hx; subst hx; exact ⟨_, _, hB1, by decide⟩))
  clear c0 c1 c2 c3 f0 f1 f2 f3 hB1 hB0 kA k1 hk12
  generalize ((((w1.setCell ⟨w.heap.size, 0, none⟩ (B32 s)).setCell ⟨w.heap.size, 1, none⟩ (.int .i64 nK)).setCell ⟨w.heap.size, 2, none⟩ (.int .i64 P)).setCell ⟨w.heap.size, 3, none⟩ (.int .i64 z)) = w2 at *
  obtain ⟨ai, ci, rfl, _⟩ := hI
  have HF := Lib.hid hF
  have hk1 := hF.k1
  have hk2 := hF.k2
  have hp2 := hF.p2
  have hz1 := hF.z1
  have hz2 := hF.z2
  clear hF
  have c0 := hB2.cell' (i := 0) rfl
  have c1 := hB2.cell' (i := 1) rfl
  have c2 := hB2.cell' (i := 2) rfl
  have c3 := hB2.cell' (i := 3) rfl
  have Ht2 := Lib.hid (ht.keeps K2.out (by simp))
  have HN := Lib.hid (fun (w : World) (k : Keeps [] w2 w) => cnew_calls (HI.out.keepsNil k) s HF.out)
  have HD := Lib.hid (fun (w : World) (k : Keeps [] w2 w) => dnew_calls s nK P z HF.out.pm (Ht2.out.keeps k (by simp)))
  refine wp_region_noPanic ?_
  refine wp_region_held_drew (S := (fun w' => w'.cell? ⟨w.heap.size, 0, none⟩ = some (B32 s) ∧ w'.cell? ⟨w.heap.size, 1, none⟩ = some (.int .i64 nK) ∧ w'.cell? ⟨w.heap.size, 2, none⟩ = some (.int .i64 P) ∧ w'.cell? ⟨w.heap.size, 3, none⟩ = some (.int .i64 z))) (by kernel_rfl) ⟨c0, c1, c2, c3⟩ (fun hHeld => ?_)
  have kd : Keeps [] w2 w2.drew := (Keeps.refl [] w2).drew
  refine wpAnyH_take (i := 0) (v := ?v1_1) rfl (by kernel_rfl) (by kernel_rfl) (by kernel_rfl) (fun _ _ _ h => h) (Or.inl ⟨by rfl, ?y1_1⟩) (by assumption) ?r1_1
  case y1_1 => (intro w hSw; (try dsimp only at hSw); go_simp; try with_reducible rfl)
  (try simp only [Act.put, List.getElem_toArray, List.getElem_cons_zero, List.getElem_cons_succ, List.setIfInBounds_toArray, List.set_cons_zero, List.set_cons_succ])
  refine wpAnyH_take (i := 1) (v := ?v1_2) rfl (by kernel_rfl) (by kernel_rfl) (by kernel_rfl) (fun _ _ _ h => h) (Or.inl ⟨by rfl, ?y1_2⟩) (by assumption) ?r1_2
  case y1_2 => (intro w hSw; (try dsimp only at hSw); go_simp; try with_reducible rfl)
  (try simp only [Act.put, List.getElem_toArray, List.getElem_cons_zero, List.getElem_cons_succ, List.setIfInBounds_toArray, List.set_cons_zero, List.set_cons_succ])
  refine wpAnyH_take (i := 3) (v := ?v1_3) rfl (by kernel_rfl) (by kernel_rfl) (by kernel_rfl) (fun _ _ _ h => h) (Or.inl ⟨by rfl, ?y1_3⟩) (by assumption) ?r1_3
  case y1_3 => (intro w hSw; (try dsimp only at hSw); go_simp; try with_reducible rfl)
  (try simp only [Act.put, List.getElem_toArray, List.getElem_cons_zero, List.getElem_cons_succ, List.setIfInBounds_toArray, List.set_cons_zero, List.set_cons_succ])
  refine wpAnyH_ready (rs := [2]) (by kernel_rfl) (by simp) ?_
  refine AllReadyH.cons rfl (fun K hK => ?_) AllReadyH.nil
  go_simp
  refine (HN.out _ kd).mono ?_
  rintro e w3 ⟨ph, rfl, hph, hH3, k3⟩
  have HH3 := Lib.hid hH3
  have HK3 := Lib.hid k3
  replace kd := kd.trans k3
  clear hH3 k3
  go_wp2_with fail
  refine hK.out _ _ ?s1_4 (fun hHeld => ?_)
  case s1_4 => ((try dsimp only) <;> (first | exact ⟨kd.cell0 c0, kd.cell0 c1, kd.cell0 c2, kd.cell0 c3⟩))
  clear hK K
  (try simp only [Act.put, List.getElem_toArray, List.getElem_cons_zero, List.getElem_cons_succ, List.setIfInBounds_toArray, List.set_cons_zero, List.set_cons_succ])
  refine wpAnyH_ready (rs := [4]) (by kernel_rfl) (by simp) ?_
  refine AllReadyH.cons rfl (fun K hK => ?_) AllReadyH.nil
  go_simp
  refine (HD.out _ kd).mono ?_
  rintro e w4 ⟨pd, Fl0, rfl, hD4, hF4, k4⟩
  have hDuo := Duo.start HH3.out HK3.out (Keeps.refl [] w3) hD4 hF4 k4 (Ht2.out.keeps (Keeps.refl [] w2).drew (by simp))
  have HDuo := Lib.hid hDuo
  replace kd := kd.trans k4
  clear hD4 hF4 k4 hDuo
  go_wp2_with fail
  refine hK.out _ _ ?s1_5 (fun hHeld => ?_)
  case s1_5 => ((try dsimp only) <;> (first | exact ⟨kd.cell0 c0, kd.cell0 c1, kd.cell0 c2, kd.cell0 c3⟩))
  clear hK K
  (try simp only [Act.put, List.getElem_toArray, List.getElem_cons_zero, List.getElem_cons_succ, List.setIfInBounds_toArray, List.set_cons_zero, List.set_cons_succ])
  refine wpAnyH_take (i := 5) (v := ?v1_6) rfl (by kernel_rfl) (by kernel_rfl) (by kernel_rfl) (fun _ _ _ h => h) (Or.inl ⟨by rfl, ?y1_6⟩) (by assumption) ?r1_6
  case y1_6 => (intro w hSw; (try dsimp only at hSw); go_simp; try with_reducible rfl)
  (try simp only [Act.put, List.getElem_toArray, List.getElem_cons_zero, List.getElem_cons_succ, List.setIfInBounds_toArray, List.set_cons_zero, List.set_cons_succ])
  refine wpAnyH_take (i := 6) (v := ?v1_7) rfl (by kernel_rfl) (by kernel_rfl) (by kernel_rfl) (fun _ _ _ h => h) (Or.inl ⟨by rfl, ?y1_7⟩) (by assumption) ?r1_7
  case y1_7 => (intro w hSw; (try dsimp only at hSw); go_simp; try with_reducible rfl)
  (try simp only [Act.put, List.getElem_toArray, List.getElem_cons_zero, List.getElem_cons_succ, List.setIfInBounds_toArray, List.set_cons_zero, List.set_cons_succ])
  refine wpAnyH_done (by kernel_rfl) ?_ _
  refine NoPanic.normal ?_
  have Kb := Lib.hid (K2.out.trans (Keeps.refl [] w2).drew)
  have d1 := (Keeps.refl [] w2).drew.cell0 c1
  have d3 := (Keeps.refl [] w2).drew.cell0 c3
  have HId := Lib.hid (HI.out.keepsNil (Keeps.refl [] w2).drew)
  clear c0 c1 c2 c3 hHeld kd HK3 HH3 HN HD HI K2 hB2
  generalize w2.drew = wd at *
  have H1 := Own.lit8 w4 #[] [] 0 rfl rfl (by omega)
  have kB : Keeps [] w4 (w4.alloc (.cells #[] 5)) := (Keeps.refl [] w4).alloc _
  have hsA : (w4.alloc (.cells #[] 5)).heap.size = w4.heap.size + 1 := by simp
  have HSy := Lib.hid ((HDuo.out.keepsNil kB).sym_calls id)
  have hrk : rank (pmx s nK P z P) = P := pmx_rank s nK P z P (Nat.le_refl _)
  have HO1 := Lib.hid H1
  have hsl := HF.out.sym_len s id
  have hsb : wd.heap.size ≤ w4.heap.size := HDuo.out.k.size
  have hphl : ph < w4.heap.size := (HDuo.out.q ph HDuo.out.h.q).2
  have hdl := HDuo.out.d.lt
  have Hdl := Lib.hid hdl
  have Hq0 := Lib.hid (fun x hx => (HDuo.out.q x hx).2)
  have Hrk := Lib.hid hrk
  obtain ⟨M0, hM0⟩ : ∃ M0, M0 = pmx s nK P z P := ⟨_, rfl⟩
  have HM := Lib.hid hM0
  rw [← hM0] at HSy Hrk
  clear hM0
  unfold DuoSym at HSy
  generalize symb s nK P z img id = Y at *
  clear H1 kB hdl hrk HDuo
  go_wp2_with fail
  generalize w4.alloc (.cells #[] 5) = w5 at *
  refine HSy.out.mono ?_
  rintro e w6 ⟨g, Q', rfl, hR, _, hg, hD6, hQ, k6⟩
  have hs6 := k6.size
  have HO2 := Lib.hid (HO1.out.keeps k6 (fun x hx => by have := HO1.out.ge8 x hx; simp only [List.mem_singleton]; omega))
  have HR6 := Lib.hid hR
  have Hsl := Lib.hid hsl
  have HD6 := Lib.hid hD6
  have HQ := Lib.hid hQ
  have hb1 : w4.heap.size ≤ w6.heap.size := by omega
  have hlen1 : ([] : List UInt8).length + z ≤ 140737488351232 := by simp; omega
  clear hR hD6 hQ HSy HO1 hsl
  have hlen2 : ([] ++ Y).length + 1 ≤ 140737488351232 := by rw [List.nil_append, Hsl.out]; omega
  go_wp2_with (first
    | (at_builtin; refine wpList_append_bytes rfl (.tmp 32) (.tmp 35) rfl HO2.out rfl (some ⟨g, 0, none⟩) z z rfl HR6.out Hsl.out (by simp) hlen1 hb1 ?_; intro v7 w7 g1 g2 g3; have k7 : Keeps (Option.toList (Value.ownBlock (.slice (some ⟨w4.heap.size, 0, none⟩) 0 0))) w6 w7 := (Keeps.refl _ w6).grown g2 (fun x hx => .inl (by rw [hx]; simp)); have hs7 := k7.size; have HO7 := Lib.hid (g1.keeps ((Keeps.refl [] w7).alloc (.cells #[.int .u8 1] 5)) (by simp)); have HR7 := Lib.hid (Rd.lit w7 5 #[.int .u8 1] [1] rfl); have hb2 : w4.heap.size ≤ (w7.alloc (.cells #[.int .u8 1] 5)).heap.size := (by simp; omega); have Hk7 := Lib.hid k7; have Hg3 := Lib.hid g3; clear g1 g2 g3 k7)
    | (at_builtin; (refine wpList_append_bytes rfl (.tmp 36) (.tmp 37) rfl HO7.out rfl (some ⟨w7.heap.size, 0, none⟩) 1 1 rfl HR7.out rfl (by simp) hlen2 hb2 ?_); intro v8 w8 g4 g5 g6))
  have hnf : ∀ {T : Prop}, rank M0 = nK + P → T := fun h => by have := Hrk.out; exact absurd h (by omega)
  have hown : ∀ x, x = w4.heap.size ∨ w6.heap.size ≤ x → wd.heap.size ≤ x ∧ ¬ Q' x ∧ x ∉ Fl0 := fun x hx => by
    refine ⟨by omega, fun hq => ?_, fun hf => ?_⟩
    · have h1 := (HD6.out.q x hq).2
      rcases HQ.out x hq with h2 | h2
      · have := Hq0.out x h2; omega
      · omega
    · have := Hdl.out x hf; omega
  have D7 := HD6.out.keeps Hk7.out (fun x hx => hown x (.inl (by simpa [Value.ownBlock] using hx))) hnf
  have k8 : Keeps (Option.toList v7.ownBlock) (w7.alloc (.cells #[.int .u8 1] 5)) w8 := (Keeps.refl _ _).grown g5 (fun x hx => .inl (by rw [hx]; simp))
  have D8 := (D7.keepsNil ((Keeps.refl [] w7).alloc (.cells #[.int .u8 1] 5))).keeps k8 (fun x hx => hown x (by
    rcases Hg3.out x (by simpa using hx) with h | h
    · exact .inl (by simpa [Value.ownBlock] using h.symm)
    · exact .inr h)) hnf
  obtain ⟨a8, c8, rfl, _⟩ := g4.rds
  have hlz : (([] ++ Y) ++ [(1 : UInt8)]).length = z + 1 := by rw [List.nil_append, List.length_append, Hsl.out]; rfl
  rw [hlz]
  have HT1 := Lib.hid (fun (W : World) (k : Keeps [] w8 W) => dtakebad_calls (D8.d.keepsNil k) HF.out.pm id a8 (z + 1) c8 (by omega))
  have HT2 := Lib.hid (fun (W : World) (k : Keeps [] w8 W) => dtakebad_calls (D8.d.keepsNil k) HF.out.pm id none 0 0 (by omega))
  have HTk := Lib.hid (fun (W : World) (k : Keeps [] w8 W) => dtaken_calls (D8.d.keepsNil k))
  have hNd := fun (W : World) (k : Keeps [] w8 W) => dneeds_calls (D8.d.keepsNil k) HF.out.pm
  rw [Hrk.out, show nK + P - P = nK from by omega] at hNd
  have HNd := Lib.hid hNd
  have HIf := Lib.hid (fun (W : World) (k : Keeps [] w8 W) => dimagefew_calls (D8.d.keepsNil k) HF.out.pm (by have := Hrk.out; omega))
  have HD8 := Lib.hid D8
  have e1 := D8.k.cell0 d1
  have hne : ((nK : Int) != (nK : Int)) = false := by simp
  clear D7 D8 k8 g4 g5 g6 hNd HD6 Hk7 Hg3 HO2 HO7 HR6 HR7 hlz
  refine wp_region_noPanic ?_
  refine wp_region_held_drew (S := (fun w' => w'.cell? ⟨w.heap.size, 1, none⟩ = some (.int .i64 nK))) (by kernel_rfl) e1 (fun hHeld => ?_)
  have kd : Keeps [] w8 w8.drew := (Keeps.refl [] w8).drew
  refine wpAnyH_take (i := 0) (v := ?v2_8) rfl (by kernel_rfl) (by kernel_rfl) (by kernel_rfl) (fun _ _ _ h => h) (Or.inl ⟨by rfl, ?y2_8⟩) (by assumption) ?r2_8
  case y2_8 => (intro w hSw; (try dsimp only at hSw); go_simp; try with_reducible rfl)
  (try simp only [Act.put, List.getElem_toArray, List.getElem_cons_zero, List.getElem_cons_succ, List.setIfInBounds_toArray, List.set_cons_zero, List.set_cons_succ])
  refine wpAnyH_take (i := 1) (v := ?v2_9) rfl (by kernel_rfl) (by kernel_rfl) (by kernel_rfl) (fun _ _ _ h => h) (Or.inl ⟨by rfl, ?y2_9⟩) (by assumption) ?r2_9
  case y2_9 => (intro w hSw; (try dsimp only at hSw); go_simp; try with_reducible rfl)
  (try simp only [Act.put, List.getElem_toArray, List.getElem_cons_zero, List.getElem_cons_succ, List.setIfInBounds_toArray, List.set_cons_zero, List.set_cons_succ])
  refine wpAnyH_take (i := 2) (v := ?v2_10) rfl (by kernel_rfl) (by kernel_rfl) (by kernel_rfl) (fun _ _ _ h => h) (Or.inl ⟨by rfl, ?y2_10⟩) (by assumption) ?r2_10
  case y2_10 => (intro w hSw; (try dsimp only at hSw); go_simp; try with_reducible rfl)
  (try simp only [Act.put, List.getElem_toArray, List.getElem_cons_zero, List.getElem_cons_succ, List.setIfInBounds_toArray, List.set_cons_zero, List.set_cons_succ])
  refine wpAnyH_ready (rs := [3]) (by kernel_rfl) (by simp) ?_
  refine AllReadyH.cons rfl (fun K hK => ?_) AllReadyH.nil
  go_simp
  refine (HT1.out _ kd).mono ?_
  rintro e w9 ⟨rfl, k9⟩
  replace kd := kd.trans k9
  go_wp2_with fail
  refine hK.out _ _ ?s2_11 (fun hHeld => ?_)
  case s2_11 => ((try dsimp only) <;> (first | exact kd.cell0 e1))
  clear hK K
  (try simp only [Act.put, List.getElem_toArray, List.getElem_cons_zero, List.getElem_cons_succ, List.setIfInBounds_toArray, List.set_cons_zero, List.set_cons_succ])
  refine wpAnyH_take (i := 4) (v := ?v2_12) rfl (by kernel_rfl) (by kernel_rfl) (by kernel_rfl) (fun _ _ _ h => h) (Or.inl ⟨by rfl, ?y2_12⟩) (by assumption) ?r2_12
  case y2_12 => (intro w hSw; (try dsimp only at hSw); go_simp; try with_reducible rfl)
  (try simp only [Act.put, List.getElem_toArray, List.getElem_cons_zero, List.getElem_cons_succ, List.setIfInBounds_toArray, List.set_cons_zero, List.set_cons_succ])
  refine wpAnyH_take (i := 5) (v := ?v2_13) rfl (by kernel_rfl) (by kernel_rfl) (by kernel_rfl) (fun _ _ _ h => h) (Or.inl ⟨by rfl, ?y2_13⟩) (by assumption) ?r2_13
  case y2_13 => (intro w hSw; (try dsimp only at hSw); go_simp; try with_reducible rfl)
  (try simp only [Act.put, List.getElem_toArray, List.getElem_cons_zero, List.getElem_cons_succ, List.setIfInBounds_toArray, List.set_cons_zero, List.set_cons_succ])
  refine wpAnyH_take (i := 6) (v := ?v2_14) rfl (by kernel_rfl) (by kernel_rfl) (by kernel_rfl) (fun _ _ _ h => h) (Or.inl ⟨by rfl, ?y2_14⟩) (by assumption) ?r2_14
  case y2_14 => (intro w hSw; (try dsimp only at hSw); go_simp; try with_reducible rfl)
  (try simp only [Act.put, List.getElem_toArray, List.getElem_cons_zero, List.getElem_cons_succ, List.setIfInBounds_toArray, List.set_cons_zero, List.set_cons_succ])
  refine wpAnyH_ready (rs := [7]) (by kernel_rfl) (by simp) ?_
  refine AllReadyH.cons rfl (fun K hK => ?_) AllReadyH.nil
  go_simp
  refine (HT2.out _ kd).mono ?_
  rintro e wa ⟨rfl, ka⟩
  replace kd := kd.trans ka
  go_wp2_with fail
  refine hK.out _ _ ?s2_15 (fun hHeld => ?_)
  case s2_15 => ((try dsimp only) <;> (first | exact kd.cell0 e1))
  clear hK K
  (try simp only [Act.put, List.getElem_toArray, List.getElem_cons_zero, List.getElem_cons_succ, List.setIfInBounds_toArray, List.set_cons_zero, List.set_cons_succ])
  refine wpAnyH_take (i := 8) (v := ?v2_16) rfl (by kernel_rfl) (by kernel_rfl) (by kernel_rfl) (fun _ _ _ h => h) (Or.inl ⟨by rfl, ?y2_16⟩) (by assumption) ?r2_16
  case y2_16 => (intro w hSw; (try dsimp only at hSw); go_simp; try with_reducible rfl)
  (try simp only [Act.put, List.getElem_toArray, List.getElem_cons_zero, List.getElem_cons_succ, List.setIfInBounds_toArray, List.set_cons_zero, List.set_cons_succ])
  refine wpAnyH_take (i := 9) (v := ?v2_17) rfl (by kernel_rfl) (by kernel_rfl) (by kernel_rfl) (fun _ _ _ h => h) (Or.inl ⟨by rfl, ?y2_17⟩) (by assumption) ?r2_17
  case y2_17 => (intro w hSw; (try dsimp only at hSw); go_simp; try with_reducible rfl)
  (try simp only [Act.put, List.getElem_toArray, List.getElem_cons_zero, List.getElem_cons_succ, List.setIfInBounds_toArray, List.set_cons_zero, List.set_cons_succ])
  refine wpAnyH_take (i := 10) (v := ?v2_18) rfl (by kernel_rfl) (by kernel_rfl) (by kernel_rfl) (fun _ _ _ h => h) (Or.inl ⟨by rfl, ?y2_18⟩) (by assumption) ?r2_18
  case y2_18 => (intro w hSw; (try dsimp only at hSw); go_simp; try with_reducible rfl)
  (try simp only [Act.put, List.getElem_toArray, List.getElem_cons_zero, List.getElem_cons_succ, List.setIfInBounds_toArray, List.set_cons_zero, List.set_cons_succ])
  refine wpAnyH_ready (rs := [11]) (by kernel_rfl) (by simp) ?_
  refine AllReadyH.cons rfl (fun K hK => ?_) AllReadyH.nil
  go_simp
  refine (HTk.out _ kd).mono ?_
  rintro e w' ⟨rfl, rfl⟩
  go_wp2_with fail
  refine hK.out _ _ ?s2_19 (fun hHeld => ?_)
  case s2_19 => ((try dsimp only) <;> (first | exact kd.cell0 e1))
  clear hK K
  (try simp only [Act.put, List.getElem_toArray, List.getElem_cons_zero, List.getElem_cons_succ, List.setIfInBounds_toArray, List.set_cons_zero, List.set_cons_succ])
  refine wpAnyH_take (i := 12) (v := ?v2_20) rfl (by kernel_rfl) (by kernel_rfl) (by kernel_rfl) (fun _ _ _ h => h) (Or.inl ⟨by rfl, ?y2_20⟩) (by assumption) ?r2_20
  case y2_20 => (intro w hSw; (try dsimp only at hSw); go_simp; try with_reducible rfl)
  (try simp only [Act.put, List.getElem_toArray, List.getElem_cons_zero, List.getElem_cons_succ, List.setIfInBounds_toArray, List.set_cons_zero, List.set_cons_succ])
  refine wpAnyH_take (i := 13) (v := ?v2_21) rfl (by kernel_rfl) (by kernel_rfl) (by kernel_rfl) (fun _ _ _ h => h) (Or.inl ⟨by rfl, ?y2_21⟩) (by assumption) ?r2_21
  case y2_21 => (intro w hSw; (try dsimp only at hSw); go_simp; try with_reducible rfl)
  (try simp only [Act.put, List.getElem_toArray, List.getElem_cons_zero, List.getElem_cons_succ, List.setIfInBounds_toArray, List.set_cons_zero, List.set_cons_succ])
  refine wpAnyH_take (i := 14) (v := ?v2_22) rfl (by kernel_rfl) (by kernel_rfl) (by kernel_rfl) (fun _ _ _ h => h) (Or.inl ⟨by rfl, ?y2_22⟩) (by assumption) ?r2_22
  case y2_22 => (intro w hSw; (try dsimp only at hSw); go_simp; try with_reducible rfl)
  (try simp only [Act.put, List.getElem_toArray, List.getElem_cons_zero, List.getElem_cons_succ, List.setIfInBounds_toArray, List.set_cons_zero, List.set_cons_succ])
  refine wpAnyH_take (i := 15) (v := ?v2_23) rfl (by kernel_rfl) (by kernel_rfl) (by kernel_rfl) (fun _ _ _ h => h) (Or.inl ⟨by rfl, ?y2_23⟩) (by assumption) ?r2_23
  case y2_23 => (intro w hSw; (try dsimp only at hSw); go_simp; try with_reducible rfl)
  (try simp only [Act.put, List.getElem_toArray, List.getElem_cons_zero, List.getElem_cons_succ, List.setIfInBounds_toArray, List.set_cons_zero, List.set_cons_succ])
  refine wpAnyH_take (i := 17) (v := ?v2_24) rfl (by kernel_rfl) (by kernel_rfl) (by kernel_rfl) (fun _ _ _ h => h) (Or.inl ⟨by rfl, ?y2_24⟩) (by assumption) ?r2_24
  case y2_24 => (intro w hSw; (try dsimp only at hSw); go_simp; try with_reducible rfl)
  (try simp only [Act.put, List.getElem_toArray, List.getElem_cons_zero, List.getElem_cons_succ, List.setIfInBounds_toArray, List.set_cons_zero, List.set_cons_succ])
  refine wpAnyH_take (i := 18) (v := ?v2_25) rfl (by kernel_rfl) (by kernel_rfl) (by kernel_rfl) (fun _ _ _ h => h) (Or.inl ⟨by rfl, ?y2_25⟩) (by assumption) ?r2_25
  case y2_25 => (intro w hSw; (try dsimp only at hSw); go_simp; try with_reducible rfl)
  (try simp only [Act.put, List.getElem_toArray, List.getElem_cons_zero, List.getElem_cons_succ, List.setIfInBounds_toArray, List.set_cons_zero, List.set_cons_succ])
  refine wpAnyH_ready (rs := [16]) (by kernel_rfl) (by simp) ?_
  refine AllReadyH.cons rfl (fun K hK => ?_) AllReadyH.nil
  go_simp
  refine (HNd.out _ kd).mono ?_
  rintro e wb ⟨rfl, kb⟩
  replace kd := kd.trans kb
  go_wp2_with fail
  refine hK.out _ _ ?s2_26 (fun hHeld => ?_)
  case s2_26 => ((try dsimp only) <;> (first | exact kd.cell0 e1))
  clear hK K
  (try simp only [Act.put, List.getElem_toArray, List.getElem_cons_zero, List.getElem_cons_succ, List.setIfInBounds_toArray, List.set_cons_zero, List.set_cons_succ])
  refine wpAnyH_take (i := 19) (v := ?v2_27) rfl (by kernel_rfl) (by kernel_rfl) (by kernel_rfl) (fun _ _ _ h => h) (Or.inl ⟨by rfl, ?y2_27⟩) (by assumption) ?r2_27
  case y2_27 => (intro w hSw; (try dsimp only at hSw); go_simp; try with_reducible rfl)
  (try simp only [Act.put, List.getElem_toArray, List.getElem_cons_zero, List.getElem_cons_succ, List.setIfInBounds_toArray, List.set_cons_zero, List.set_cons_succ])
  refine wpAnyH_take (i := 20) (v := ?v2_28) rfl (by kernel_rfl) (by kernel_rfl) (by kernel_rfl) (fun _ _ _ h => h) (Or.inl ⟨by rfl, ?y2_28⟩) (by assumption) ?r2_28
  case y2_28 => (intro w hSw; (try dsimp only at hSw); go_simp; try with_reducible rfl)
  (try simp only [Act.put, List.getElem_toArray, List.getElem_cons_zero, List.getElem_cons_succ, List.setIfInBounds_toArray, List.set_cons_zero, List.set_cons_succ])
  refine wpAnyH_done (by kernel_rfl) ?_ _
  refine NoPanic.normal ?_
  have HIf2 := Lib.hid (HIf.out _ kd (img.length : Int))
  have HDb := Lib.hid (HD8.out.keepsNil kd)
  have e1b := kd.cell0 e1
  clear e1 hHeld kd HT1 HT2 HTk HNd HIf HD8 hne
  go_wp2_with fail
  refine HIf2.out.mono ?_
  rintro e wc ⟨rfl, kc⟩
  have HDc := Lib.hid (HDb.out.keepsNil kc)
  have e1c := kc.cell0 e1b
  clear e1b HIf2 HDb kc
  go_wp2_with fail
  have HM0 := Lib.hid (HDc.out.sd)
  go_loopw [70] (fun i wr => ∃ (kk tk : Nat) (Q : Nat → Prop) (Fl : List Nat), kk ≤ nK ∧ i = .int .i64 kk ∧ Duo wd wr ph pd s nK P z img (hears s nK P z img M0 (idsTo kk)) tk Q Fl) (fun i _ => nK - (intOf i).toNat)
  case atStart => exact ⟨0, 0, Q', Fl0, Nat.zero_le _, rfl, HDc.out⟩
  case round =>
    clear HDc e1c
    obtain ⟨kk, tk, Q, Fl, hk, rfl, hDu⟩ := hrel
    by_cases hlt : kk < nK
    · have hwk : IntKind.u32.wrap (kk : Int) = (kk : Int) := by rw [IntKind.wrap_u32]; omega
      have hB : B32 (UInt32.ofNat kk) = .int .u32 (kk : Int) := by show Value.int .u32 _ = _; rw [u32_small (by omega)]
      have hS := hDu.sym_calls (UInt32.ofNat kk)
      rw [hB] at hS
      unfold DuoSym at hS
      have hnew : (red (hears s nK P z img M0 (idsTo kk)) (symR s nK P z img (UInt32.ofNat kk))).x ≠ 0 := by rw [HM.out]; exact first_new HF.out s hlt
      have hnx : hears s nK P z img M0 (idsTo (kk + 1)) = mAdd (nK + P) (hears s nK P z img M0 (idsTo kk)) (symR s nK P z img (UInt32.ofNat kk)) := by rw [idsTo_succ, hears_snoc]
      have hT := fun (W : World) (Q : Nat → Prop) (g : Nat) (h : Duo wd W ph pd s nK P z img (hears s nK P z img M0 (idsTo kk)) tk Q Fl) (hr : Rd W (some ⟨g, 0, none⟩) (symb s nK P z img (UInt32.ofNat kk))) => h.take_calls (c := z) (UInt32.ofNat kk) hr
      rw [hB] at hT
      unfold DuoTake at hT
      rw [decide_eq_true hnew, ← hnx] at hT
      generalize hMn : hears s nK P z img M0 (idsTo (kk + 1)) = Mn at *
      have HMn := Lib.hid hMn
      clear hMn
      generalize hears s nK P z img M0 (idsTo kk) = Mk at *
      generalize symb s nK P z img (UInt32.ofNat kk) = Y at *
      have HSy := Lib.hid hS
      have HT := Lib.hid hT
      have hkn : (kk : Int) < (nK : Int) := by omega
      clear hS hT hnew hnx hDu hB
      go_wp2_with fail
      refine HSy.out.mono ?_
      rintro e wx ⟨g, Qx, rfl, hR, _, _, hDx, _, kx⟩
      have HT2 := Lib.hid (HT.out wx Qx g hDx hR)
      clear hR hDx kx HSy HT
      go_wp2_with fail
      refine HT2.out.mono ?_
      rintro e wy ⟨tk', Fl', rfl, hDy, _, _, _⟩
      have HDy := Lib.hid hDy
      clear hDy HT2
      go_wp2_with fail
      go_roundw
      case rel => exact ⟨kk + 1, tk', Qx, Fl', by omega, by go_num, by rw [HMn.out]; exact HDy.out⟩
      case measure => simp [intOf]; omega
    · obtain rfl : kk = nK := by omega
      have hfull : rank (hears s kk P z img M0 (idsTo kk)) = kk + P := by rw [HM.out]; exact first_full HF.out s
      have hJ := hDu.sd.image HF.out hfull
      have hd16 := hDu.sd.dats16 HF.out hfull
      have hin := full_in hDu.sd.e hfull (rowN_lt s kk P id)
      have hL1 := fun (W : World) (k : Keeps [] wr W) => dimagelen_calls (hDu.d.keepsNil k) HF.out.pm hfull (img.length + z) (by omega) (bcount_more hi2 hz1 hk1 HF.out.c)
      rw [Int.natCast_add] at hL1
      have hL2 := fun (W : World) (k : Keeps [] wr W) => dimagelen_calls (hDu.d.keepsNil k) HF.out.pm hfull 0 (by omega) (by show (0 : Nat) ≠ kk; omega)
      have hIm := fun (W : World) (k : Keeps [] wr W) => dimage_calls (hDu.d.keepsNil k) HF.out.pm hfull img.length hi2 (by omega) HF.out.c hd16 (by rw [hJ])
      rw [hJ] at hIm
      have hSa := fun (W : World) (Fl : List Nat) (h : De W pd s kk P z (hears s kk P z img M0 (idsTo kk)) tk Fl) (t : TzAt W) => dsays_calls h HF.out.pm t id
      rw [decide_eq_false (by intro h; exact h (red_in.2 hin))] at hSa
      have hpd : wd.heap.size ≤ pd := (hDu.f pd hDu.d.blk.1).1
      have e3 := hDu.k.cell0 d3
      have HL1 := Lib.hid hL1
      have HL2 := Lib.hid hL2
      have HIm := Lib.hid hIm
      have HSa := Lib.hid hSa
      have HDu := Lib.hid hDu
      clear hfull hJ hd16 hin hL1 hL2 hIm hSa hDu
      unfold DImg at HIm
      generalize hears s kk P z img M0 (idsTo kk) = Mk at *
      go_wp2_with fail
      refine (HL1.out _ (Keeps.refl _ _)).mono ?_
      rintro e wx ⟨rfl, kx⟩
      go_wp2_with fail
      refine (HL2.out _ kx).mono ?_
      rintro e wy ⟨rfl, ky⟩
      go_wp2_with fail
      refine (HIm.out _ (kx.trans ky)).mono ?_
      rintro e wz ⟨vz, rfl, hO, hDz, kz⟩
      have K4 := Lib.hid ((HDu.out.k.trans (kx.trans ky)).trans' kz (T := []) (by simp) (fun x hx => by simp only [List.mem_singleton] at hx; subst hx; exact .inr hpd))
      obtain ⟨az, cz, rfl, _, rz, _, _, nz⟩ := hO.rd
      have st1 := str_run (w := wz) img.length cz rz rfl nz
      have st2 := RdS.str (HId.out.keepsNil K4.out)
      have HSz := Lib.hid (HSa.out _ _ hDz (HDu.out.tz.keeps K4.out (by simp)))
      have Htz := Lib.hid HDu.out.tz
      have Hkw := Lib.hid Kb.out
      clear hO hDz kz kx ky rz nz HL1 HL2 HIm HSa HDu e3
      go_wp2_with fail
      refine HSz.out.mono ?_
      rintro e wv ⟨rfl, kv⟩
      go_wp2_with fail
      refine (awake12_calls (Htz.out.keeps (K4.out.trans kv) (by simp))).mono ?_
      rintro e wu ⟨rfl, ku⟩
      go_wp2_with fail
      go_ret
      exact ⟨rfl, (Hkw.out.trans (K4.out.trans kv)).trans ku⟩
end Go.Proofs.YtghgmchgbhdldaaGreatDoor
