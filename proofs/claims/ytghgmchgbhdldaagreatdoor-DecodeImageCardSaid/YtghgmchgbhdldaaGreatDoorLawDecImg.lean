/-
  LawDecImg: DecodeImage, walked.
-/
import Derived.Test.YtghgmchgbhdldaaGreatDoorDeI
set_option linter.unusedVariables false
set_option linter.unusedSimpArgs false
namespace Go.Proofs.YtghgmchgbhdldaaGreatDoor
open Go.RowKit
attribute [local go_sem ↓] Go.wp_at_zero Go.wp_at_succ

set_option maxRecDepth 100000 in
set_option maxHeartbeats 1600000 in
theorem decodeImage_walk {w : World} (ht : TzAt w) (s : UInt32) (k p z0 : Int) (a : Option Addr) (n c : Nat) (l : List UInt8) (hl : Rd w a l) (hn : l.length = n) (hnc : n ≤ c) (hc : c ≤ maxLen) (h0 : a = none → l = [] ∧ c = 0) (A : Option Addr) (cI : Nat) (ids : List UInt32) (hIc : ids.length ≤ cI) (hIm : cI ≤ maxLen) (hI : IdsAt w A ids) (hI0 : A = none → ids = [] ∧ cI = 0) (rest : Bool) :
    Calls Tryz.prog 6 #[.agg #[B32 s, .int .i64 k, .int .i64 p, .int .i64 z0], .slice a n c, .slice A ids.length cI, .bool rest] w fun e w' => e = .returned (.bool true) ∧ Keeps [] w w' := by
  have kA : Keeps [] w (w.alloc (.cells #[B32 s, .int .i64 k, .int .i64 p, .int .i64 z0] 24)) := (Keeps.refl [] w).alloc _
  have hB0 := Blk.newA w 24 #[B32 s, .int .i64 k, .int .i64 p, .int .i64 z0]
  have HS := Lib.hid (sound12_calls s k p z0 a n c l (hl.keepsNil kA) hn hnc hc h0)
  have HId := Lib.hid hI
  have HI0 := Lib.hid hI0
  clear hl h0 hn hI hI0
  go_enter Tryz.func6, Tryz.ntmps6
  go_wp2_with fail
  generalize w.alloc (.cells #[B32 s, .int .i64 k, .int .i64 p, .int .i64 z0] 24) = w0 at *
  refine HS.out.mono ?_
  rintro e w1 ⟨nK, P, z, img, vi, rfl, hF, hi1, hi2, hI, k1⟩
  have hB1 := hB0.keeps k1 (by simp)
  have c0 := hB1.cell' (i := 0) rfl
  have c1 := hB1.cell' (i := 1) rfl
  have c2 := hB1.cell' (i := 2) rfl
  have c3 := hB1.cell' (i := 3) rfl
  have f0 := hB1.frozen 0
  have f1 := hB1.frozen 1
  have f2 := hB1.frozen 2
  have f3 := hB1.frozen 3
  go_upto_region 2 with (fail)
  have hB2 := hB1.put4 (B32 s) (.int .i64 nK) (.int .i64 P) (.int .i64 z)
  have K2 := Lib.hid ((kA.trans k1).put4 (.inr (Nat.le_refl _)) (B32 s) (.int .i64 nK) (.int .i64 P) (.int .i64 z))
  have hk12 := (Keeps.refl [w.heap.size] w1).put4 (p := w.heap.size) (.inl (by simp)) (B32 s) (.int .i64 nK) (.int .i64 P) (.int .i64 z)
  have HI := Lib.hid (hI.keepsP hk12 (fun x hx => by simp only [List.mem_singleton] at hx; subst hx; exact ⟨_, _, hB1, by decide⟩))
  clear c0 c1 c2 c3 f0 f1 f2 f3 hB1 hB0 kA k1 hk12
  generalize ((((w1.setCell ⟨w.heap.size, 0, none⟩ (B32 s)).setCell ⟨w.heap.size, 1, none⟩ (.int .i64 nK)).setCell ⟨w.heap.size, 2, none⟩ (.int .i64 P)).setCell ⟨w.heap.size, 3, none⟩ (.int .i64 z)) = w2 at *
  obtain ⟨ai, ci, rfl, _⟩ := hI
  have HF := Lib.hid hF
  have hk1 := hF.k1
  have hk2 := hF.k2
  have hp2 := hF.p2
  have hz1 := hF.z1
  have hz2 := hF.z2
  clear hF
  have Ht2 := Lib.hid (ht.keeps K2.out (by simp))
  by_cases h100 : 100 < ids.length
  · have h100i : (100 : Int) < (ids.length : Int) := by omega
    clear h100
    go_wp2_with fail
    refine (awake12_calls Ht2.out).mono ?_
    rintro e w3 ⟨rfl, k3⟩
    go_wp2_with fail
    go_ret
    exact ⟨rfl, K2.out.trans k3⟩
  have h100i : ¬ (100 : Int) < (ids.length : Int) := by omega
  clear h100
  go_upto_region 4 with (fail)
  have c0 := hB2.cell' (i := 0) rfl
  have c1 := hB2.cell' (i := 1) rfl
  have c2 := hB2.cell' (i := 2) rfl
  have c3 := hB2.cell' (i := 3) rfl
  have HN := Lib.hid (fun (w : World) (k : Keeps [] w2 w) => cnew_calls (HI.out.keepsNil k) s HF.out)
  have HD := Lib.hid (fun (w : World) (k : Keeps [] w2 w) => dnew_calls s nK P z HF.out.pm (Ht2.out.keeps k (by simp)))
  have HRw := Lib.hid (fun (w : World) => prows_calls (w := w) s nK P z hk1 hk2 hp2 hz1 hz2)
  refine wp_region_noPanic ?_
  refine wp_region_held_drew (S := (fun w' => w'.cell? ⟨w.heap.size, 0, none⟩ = some (B32 s) ∧ w'.cell? ⟨w.heap.size, 1, none⟩ = some (.int .i64 nK) ∧ w'.cell? ⟨w.heap.size, 2, none⟩ = some (.int .i64 P) ∧ w'.cell? ⟨w.heap.size, 3, none⟩ = some (.int .i64 z))) (by kernel_rfl) ⟨c0, c1, c2, c3⟩ (fun hHeld => ?_)
  have kd : Keeps [] w2 w2.drew := (Keeps.refl [] w2).drew
  refine wpAnyH_take (i := 0) (v := ?v1_1) rfl (by kernel_rfl) (by kernel_rfl) (by kernel_rfl) (fun _ _ _ h => h) (Or.inl ⟨by rfl, ?y1_1⟩) (by assumption) ?r1_1
  case y1_1 => (intro w hSw; (try dsimp only at hSw); go_simp; try with_reducible rfl)
  (try simp only [Act.put, List.getElem_toArray, List.getElem_cons_zero, List.getElem_cons_succ, List.setIfInBounds_toArray, List.set_cons_zero, List.set_cons_succ])
  refine wpAnyH_take (i := 1) (v := ?v1_2) rfl (by kernel_rfl) (by kernel_rfl) (by kernel_rfl) (fun _ _ _ h => h) (Or.inl ⟨by rfl, ?y1_2⟩) (by assumption) ?r1_2
  case y1_2 => (intro w hSw; (try dsimp only at hSw); go_simp; try with_reducible rfl)
  (try simp only [Act.put, List.getElem_toArray, List.getElem_cons_zero, List.getElem_cons_succ, List.setIfInBounds_toArray, List.set_cons_zero, List.set_cons_succ])
  refine wpAnyH_take (i := 3) (v := ?v1_3) rfl (by kernel_rfl) (by kernel_rfl) (by kernel_rfl) (fun _ _ _ h => h) (Or.inl ⟨by rfl, ?y1_3⟩) (by assumption) ?r1_3
  case y1_3 => (intro w hSw; (try dsimp only at hSw); go_simp; try with_reducible rfl)
  (try simp only [Act.put, List.getElem_toArray, List.getElem_cons_zero, List.getElem_cons_succ, List.setIfInBounds_toArray, List.set_cons_zero, List.set_cons_succ])
  refine wpAnyH_ready (rs := [2]) (by kernel_rfl) (by simp) ?_
  refine AllReadyH.cons rfl (fun K hK => ?_) AllReadyH.nil
  go_simp
  refine (HN.out _ kd).mono ?_
  rintro e w3 ⟨ph, rfl, hph, hH3, k3⟩
  have HH3 := Lib.hid hH3
  have HK3 := Lib.hid k3
  replace kd := kd.trans k3
  clear hH3 k3
  go_wp2_with fail
  refine hK.out _ _ ?s1_4 (fun hHeld => ?_)
  case s1_4 => ((try dsimp only) <;> (first | exact ⟨kd.cell0 c0, kd.cell0 c1, kd.cell0 c2, kd.cell0 c3⟩))
  clear hK K
  (try simp only [Act.put, List.getElem_toArray, List.getElem_cons_zero, List.getElem_cons_succ, List.setIfInBounds_toArray, List.set_cons_zero, List.set_cons_succ])
  refine wpAnyH_ready (rs := [4]) (by kernel_rfl) (by simp) ?_
  refine AllReadyH.cons rfl (fun K hK => ?_) AllReadyH.nil
  go_simp
  refine (HD.out _ kd).mono ?_
  rintro e w4 ⟨pd, Fl0, rfl, hD4, hF4, k4⟩
  have HDuo := Lib.hid (Duo.start HH3.out HK3.out (Keeps.refl [] w3) hD4 hF4 k4 (Ht2.out.keeps (Keeps.refl [] w2).drew (by simp)))
  replace kd := kd.trans k4
  clear hD4 hF4 k4
  go_wp2_with fail
  refine hK.out _ _ ?s1_5 (fun hHeld => ?_)
  case s1_5 => ((try dsimp only) <;> (first | exact ⟨kd.cell0 c0, kd.cell0 c1, kd.cell0 c2, kd.cell0 c3⟩))
  clear hK K
  (try simp only [Act.put, List.getElem_toArray, List.getElem_cons_zero, List.getElem_cons_succ, List.setIfInBounds_toArray, List.set_cons_zero, List.set_cons_succ])
  refine wpAnyH_take (i := 5) (v := ?v1_6) rfl (by kernel_rfl) (by kernel_rfl) (by kernel_rfl) (fun _ _ _ h => h) (Or.inl ⟨by rfl, ?y1_6⟩) (by assumption) ?r1_6
  case y1_6 => (intro w hSw; (try dsimp only at hSw); go_simp; try with_reducible rfl)
  (try simp only [Act.put, List.getElem_toArray, List.getElem_cons_zero, List.getElem_cons_succ, List.setIfInBounds_toArray, List.set_cons_zero, List.set_cons_succ])
  refine wpAnyH_take (i := 6) (v := ?v1_7) rfl (by kernel_rfl) (by kernel_rfl) (by kernel_rfl) (fun _ _ _ h => h) (Or.inl ⟨by rfl, ?y1_7⟩) (by assumption) ?r1_7
  case y1_7 => (intro w hSw; (try dsimp only at hSw); go_simp; try with_reducible rfl)
  (try simp only [Act.put, List.getElem_toArray, List.getElem_cons_zero, List.getElem_cons_succ, List.setIfInBounds_toArray, List.set_cons_zero, List.set_cons_succ])
  refine wpAnyH_done (by kernel_rfl) ?_ _
  refine NoPanic.normal ?_
  have Kb := Lib.hid (K2.out.trans (Keeps.refl [] w2).drew)
  have b0 := (Keeps.refl [] w2).drew.cell0 c0
  have b1 := (Keeps.refl [] w2).drew.cell0 c1
  have b2 := (Keeps.refl [] w2).drew.cell0 c2
  have b3 := (Keeps.refl [] w2).drew.cell0 c3
  have HIb := Lib.hid (HI.out.keepsNil (Keeps.refl [] w2).drew)
  clear c0 c1 c2 c3 hHeld kd HK3 HH3 HN HD HI K2 hB2 Ht2
  generalize w2.drew = wd at *
  obtain ⟨M0, hM0⟩ : ∃ M0, M0 = pmx s nK P z P := ⟨_, rfl⟩
  rw [← hM0] at HDuo
  have HM0 := Lib.hid hM0
  have Hrk := Lib.hid (show rank M0 = P by rw [hM0]; exact pmx_rank s nK P z P (Nat.le_refl _))
  have e1 := HDuo.out.k.cell0 b1
  have e2 := HDuo.out.k.cell0 b2
  have HEN : Hid (Calls Tryz.prog 19 #[.int .i64 ((nK : Int) + (P : Int)), .int .i64 1] w4 (MxNew w4 (nK + P) 1)) := Lib.hid (by have := enew_calls (w := w4) (nK + P) 1 (by omega) (by omega) (by omega) (by omega); rw [Int.natCast_add] at this; exact this)
  clear hM0
  go_wp2_with fail
  refine HEN.out.mono ?_
  rintro e w5 ⟨pm, Fm0, rfl, hM5, hF5, k5⟩
  have HQ5 := Lib.hid (Quad.start HDuo.out hM5 hF5 k5)
  have d0 := HQ5.out.d.k.cell0 b0
  have d1 := HQ5.out.d.k.cell0 b1
  have d2 := HQ5.out.d.k.cell0 b2
  have d3 := HQ5.out.d.k.cell0 b3
  clear hM5 hF5 k5 HEN HDuo e1 e2
  go_wp2_with fail
  refine (HRw.out _).mono ?_
  rintro e w6 ⟨v6, rfl, hR6, k6⟩
  have HR6 := Lib.hid hR6.rb
  obtain ⟨a6, c6, rfl⟩ := hR6.rb.len
  rw [parXs_len]
  have HQ6 := Lib.hid (HQ5.out.keepsNil k6)
  have HQl := Lib.hid (show ∀ x ∈ Fm0, x < w5.heap.size from HQ5.out.m.lt)
  have hs56 := k6.size
  clear hR6 k6 HQ5 d0 d1 d2 d3 HRw
  go_wp2_with fail
  have hpx0 : pmx s nK P 1 0 = mnew (nK + P) := rfl
  have hpxs : ∀ k, pmx s nK P 1 (k + 1) = mAdd (nK + P) (pmx s nK P 1 k) ⟨parX s nK (nK + P) k nK, [0]⟩ := fun k => rfl
  have Hpxs := Lib.hid hpxs
  rw [← hpx0] at HQ6
  clear hpx0 hpxs
  obtain ⟨Q0, hQ0⟩ : ∃ Q0 : Nat → Prop, Q0 = fun x => wd.heap.size ≤ x ∧ x < w3.heap.size := ⟨_, rfl⟩
  rw [← hQ0] at HQ6
  clear hQ0
  go_loopw [45] (fun i wr => ∃ (kk : Nat) (Fm : List Nat), kk ≤ P ∧ i = .int .i64 kk ∧ Quad wd wd wr [] ph pd pm s nK P z img M0 (pmx s nK P 1 kk) 0 Q0 Fl0 Fm ∧ (∀ x ∈ Fm, x < w5.heap.size ∨ w6.heap.size ≤ x) ∧ VRb wr w5.heap.size w6.heap.size (.slice a6 (parXs s nK (nK + P) P).length c6) (nK + P) (parXs s nK (nK + P) P) ∧ w6.heap.size ≤ wr.heap.size) (fun i _ => P - (intOf i).toNat)
  case atStart => exact ⟨0, Fm0, Nat.zero_le _, rfl, HQ6.out, fun x hx => .inl (HQl.out x hx), HR6.out, Nat.le_refl _⟩
  case round =>
    clear HQ6 HQl HR6
    obtain ⟨kk, Fm, hk, rfl, hQ, hFm, hV, hsz⟩ := hrel
    by_cases hlt : kk < P
    · obtain ⟨a', c', ea, hve⟩ := id hV
      simp only [Value.slice.injEq] at ea
      obtain ⟨rfl, _, rfl⟩ := ea
      obtain ⟨g0, pv, gv, rfl, b0', b1', b2', hcv, hVv⟩ := hve kk _ (parXs_at s nK (nK + P) P hlt)
      have hki : (kk : Int) < (P : Int) := by omega
      have kB : Keeps [] wr (wr.alloc (.cells #[.int .u8 0] 5)) := (Keeps.refl [] wr).alloc _
      have hA := (hQ.keepsNil kB).add_calls (c := 1) (hVv.vc.keeps kB (by simp) (by simp)) (Rd.lit wr 5 #[.int .u8 0] [0] rfl) (fun h => absurd h (by have := Hrk.out; omega))
      unfold QuadAdd at hA
      rw [← Hpxs.out kk] at hA
      have HA := Lib.hid hA
      have HV := Lib.hid (hV.keeps kB (by simp))
      have Hk := Lib.hid kB
      have HFm := Lib.hid hFm
      clear hA hV hVv hve hQ hFm kB
      go_wp2_with fail
      refine HA.out.mono ?_
      rintro e w7 ⟨Fm', rfl, hQ7, hF7, k7⟩
      have HQ7 := Lib.hid hQ7
      have hs7 : w6.heap.size ≤ w7.heap.size := by have := Hk.out.size; have := k7.size; omega
      have HV7 := Lib.hid (HV.out.keeps k7 (fun x hx => HFm.out x hx))
      have HF7 := Lib.hid (show ∀ x ∈ Fm', x < w5.heap.size ∨ w6.heap.size ≤ x from fun x hx => by
        rcases hF7 x hx with h | h
        · exact HFm.out x h
        · have := Hk.out.size; omega)
      clear hQ7 hF7 k7 HA HV Hk HFm
      go_wp2_with fail
      go_roundw
      case rel => exact ⟨kk + 1, Fm', by omega, by go_num, HQ7.out, HF7.out, HV7.out, hs7⟩
      case measure => simp [intOf]; omega
    · obtain rfl : P = kk := by omega
      obtain ⟨wq, hwq⟩ : ∃ wq, wq = wr := ⟨_, rfl⟩
      subst hwq
      have HQ := Lib.hid hQ
      have dq1 := hQ.d.k.cell0 b1
      have hwd : wd.heap.size ≤ wq.heap.size := hQ.d.k.size
      have HSm := Lib.hid (show Same M0 (pmx s nK P 1 P) by rw [HM0.out]; exact pmx_same s nK P z 1 P)
      obtain ⟨N0, hN0⟩ : ∃ N0, N0 = pmx s nK P 1 P := ⟨_, rfl⟩
      rw [← hN0] at HQ HSm
      have hO1 := OwnW.lit0 wq
      have kO : Keeps [] wq (wq.alloc (.cells #[] 22)) := (Keeps.refl [] wq).alloc _
      have hIa := HId.out.keepsNil ((Kb.out.trans hQ.d.k).trans kO)
      have HIa := Lib.hid hIa
      have HO1 := Lib.hid hO1
      have HkO := Lib.hid kO
      have hlen1 : ([] : List Nat).length + ids.length ≤ 1000000 := by simp; omega
      have hb1 : wq.heap.size ≤ (wq.alloc (.cells #[] 22)).heap.size := by simp
      clear hN0 hQ hFm hV hO1 kO hIa Hpxs
      go_wp2_with (at_builtin; (refine wpList_append_ids rfl (.tmp 54) (.tmp 55) rfl HO1.out rfl A cI ids rfl HIa.out HI0.out hlen1 hb1 ?_); intro v8 w8 g1 g2 g3; have k8 : Keeps [] wq w8 := HkO.out.grown g2 (fun y hy => .inr (HO1.out.block hy).1); rw [List.nil_append] at g1; have HO8 := Lib.hid g1; have HK8 := Lib.hid k8; have dq1' := k8.cell0 dq1; clear dq1 g1 g2 g3 k8)

      have hsq8 := HK8.out.size
      go_wp2_with fail
      go_loopw [14, 59] (fun v i wr => ∃ kk : Nat, kk ≤ nK ∧ i = .int .i64 kk ∧ OwnW wr wq.heap.size v ((ids ++ (if rest then restU nK kk else [])).map UInt32.toNat) ∧ Keeps [] wq wr) (fun _ i _ => nK - (intOf i).toNat)
      case atStart => exact ⟨0, Nat.zero_le _, rfl, by have := HO8.out; cases rest <;> simpa [restU] using this, HK8.out⟩
      case round =>
        clear HO8 HK8
        obtain ⟨kk, hk, rfl, hO, hK⟩ := hrel
        by_cases hlt : kk < nK
        · have hki : (kk : Int) < (nK : Int) := by omega
          cases rest with
          | false =>
            have HO := Lib.hid hO
            have HK := Lib.hid hK
            clear hO hK
            go_wp2_with fail
            go_roundw
            case rel => exact ⟨kk + 1, by omega, by go_num, HO.out, HK.out⟩
            case measure => simp [intOf]; omega
          | true =>
            obtain ⟨y, hy⟩ : ∃ y : Nat, y = nK - 1 - kk := ⟨_, rfl⟩
            have hyi : (nK : Int) - 1 - (kk : Int) = (y : Int) := by omega
            have hyw : IntKind.u32.wrap (y : Int) = (y : Int) := by rw [IntKind.wrap_u32]; omega
            have hsn : (ids ++ restU nK (kk + 1)).map UInt32.toNat = (ids ++ (if true = true then restU nK kk else [])).map UInt32.toNat ++ [y] := by
              simp only [if_pos]
              rw [restU_succ, ← hy, ← List.append_assoc, List.map_append (l₂ := [UInt32.ofNat y])]
              simp [u32_small (show y ≤ 64 by omega)]
            have hll : ((ids ++ (if true = true then restU nK kk else [])).map UInt32.toNat).length ≤ 1000000 := by simp [restU_len]; omega
            generalize (ids ++ (if true = true then restU nK kk else [])).map UInt32.toNat = Lk at *
            have Hsn := Lib.hid hsn
            have e1 := (HQ.out.d.k.trans hK).cell0 b1
            have kC : Keeps [] wr (wr.alloc (.cells #[.int .u32 y] 22)) := (Keeps.refl [] wr).alloc _
            have HOc := Lib.hid (hO.keeps kC (by simp))
            have HKc := Lib.hid (hK.trans kC)
            have HX := Lib.hid (show (wr.alloc (.cells #[.int .u32 y] 22)).cell? ⟨wr.heap.size, 0, none⟩ = some (V32 y) from (Blk.newA wr 22 #[.int .u32 y]).cell' rfl)
            have hB2 : wq.heap.size ≤ (wr.alloc (.cells #[.int .u32 y] 22)).heap.size := by have := hK.size; simp; omega
            clear hO hK kC hy hsn
            go_wp2_with (at_builtin; (refine wpList_append_u32 rfl (.tmp 63) (.tmp 70) rfl HOc.out rfl y _ 0 1 rfl HX.out hll hB2 ?_); intro v9 w9 g1 g2 g3; have HO9 := Lib.hid g1; have HK9 := Lib.hid (HKc.out.grown g2 (fun z hz => .inr (HOc.out.block hz).1)); clear g1 g2 g3)
            clear e1 hyi hyw
            go_roundw
            case rel => exact ⟨kk + 1, by omega, by go_num, by rw [Hsn.out]; exact HO9.out, HK9.out⟩
            case measure => simp [intOf]; omega
        · obtain rfl : nK = kk := by omega
          obtain ⟨wt, hwt⟩ : ∃ wt, wt = wr := ⟨_, rfl⟩
          subst hwt
          have hQt := HQ.out.rebase wt hK
          obtain ⟨Lall, hLa⟩ : ∃ Lall : List UInt32, Lall = ids ++ (if rest then restU nK nK else []) := ⟨_, rfl⟩
          have HRest := Lib.hid (show rest = true → ∀ i, i < nK → ∃ id ∈ Lall, id.toNat = i from fun h i hi => by
            obtain ⟨id, h1, h2⟩ := restU_all hk2 i hi
            exact ⟨id, by rw [hLa, h]; simp [h1], h2⟩)
          have hLl : Lall.length ≤ 164 := by rw [hLa]; cases rest <;> simp [restU_len] <;> omega
          rw [← hLa] at hO
          obtain ⟨av, cv, rfl, _, _, hcells⟩ := hO.ints
          rw [List.length_map] at hcells ⊢
          have HAll := Lib.hid (show ∀ i (hi : i < Lall.length), ∃ g, av = some ⟨g, 0, none⟩ ∧ g ∉ ph :: (Fl0 ++ Fm) ∧ wt.cell? ⟨g, i, none⟩ = some (B32 Lall[i]) from fun i hi => by
            obtain ⟨g, h1, h2, h3⟩ := hcells i hi
            refine ⟨g, h1, fun hm => ?_, ?_⟩
            · simp only [List.mem_cons, List.mem_append] at hm
              rcases hm with rfl | hm | hm
              · have := (HQ.out.d.q g HQ.out.d.h.q).2; omega
              · have := HQ.out.d.d.lt g hm; omega
              · have := HQ.out.m.lt g hm; omega
            · rw [h3, List.getD_eq_getElem?_getD, List.getElem?_map, List.getElem?_eq_getElem hi]; rfl)
          have HQt := Lib.hid hQt
          have HS0 := Lib.hid (And.intro hQt.d.sd hQt.e)
          generalize ph :: (Fl0 ++ Fm) = X at *
          clear hQt hLa hcells hO hK HQ
          go_wp2_with fail
          go_loopw [75] (fun i wr => ∃ (kk tk : Nat) (Q : Nat → Prop) (Fl Fm : List Nat), kk ≤ Lall.length ∧ i = .int .i64 kk ∧ Quad wd wt wr X ph pd pm s nK P z img (hears s nK P z img M0 (Lall.take kk)) (nears s nK P N0 (Lall.take kk)) tk Q Fl Fm) (fun i _ => Lall.length - (intOf i).toNat)
          case atStart => exact ⟨0, 0, Q0, Fl0, Fm, Nat.zero_le _, rfl, HQt.out⟩
          case round =>
            clear HQt
            obtain ⟨kk, tk, Q, Fl, Fm, hk, rfl, hQ⟩ := hrel
            by_cases hlt : kk < Lall.length
            · obtain ⟨g, rfl, hgX, cg⟩ := HAll.out kk hlt
              have hsm := nears_same HF.out (Lall.take kk) HS0.out.1 HS0.out.2 HSm.out
              have hna : hears s nK P z img M0 (Lall.take (kk + 1)) = mAdd (nK + P) (hears s nK P z img M0 (Lall.take kk)) (symR s nK P z img Lall[kk]) := by rw [List.take_add_one, List.getElem?_eq_getElem hlt]; exact hears_snoc _ _ _ _ _ _ _ _
              have hnb : nears s nK P N0 (Lall.take (kk + 1)) = mAdd (nK + P) (nears s nK P N0 (Lall.take kk)) ⟨rowN s nK P Lall[kk], [0]⟩ := by rw [List.take_add_one, List.getElem?_eq_getElem hlt]; exact nears_snoc _ _ _ _ _ _
              generalize hears s nK P z img M0 (Lall.take kk) = M at *
              generalize nears s nK P N0 (Lall.take kk) = N at *
              generalize Lall[kk] = x at *
              have cgr : wr.cell? ⟨g, kk, none⟩ = some (B32 x) := (World.cell?_of_block (a := ⟨g, kk, none⟩) (hQ.x.block g (World.block_lt_of_cell? wt _ cg) hgX)).trans cg
              have p0 := hQ.d.k.cell0 b0
              have p1 := hQ.d.k.cell0 b1
              have p2 := hQ.d.k.cell0 b2
              have p3 := hQ.d.k.cell0 b3
              have hki : (kk : Int) < (Lall.length : Int) := by omega
              have HRo := Lib.hid (row_calls (w := wr) s nK P z hk1 hk2 hp2 hz1 hz2 x)
              have HQ := Lib.hid hQ
              have Hna := Lib.hid hna
              have Hnb := Lib.hid hnb
              have Hsm := Lib.hid hsm
              have hrx := rowN_lt s nK P x
              have Hb1 := Lib.hid (hsm.says (r := ⟨rowN s nK P x, zer z⟩) (r' := ⟨rowN s nK P x, [0]⟩) rfl)
              have Hb2 := Lib.hid (hsm.says (r := symR s nK P z img x) (r' := ⟨rowN s nK P x, [0]⟩) rfl)
              have Hfl := Lib.hid (show rank M = nK + P → (red N ⟨rowN s nK P x, [0]⟩).x = 0 from fun h => red_in.2 ((hsm _).1 (full_in hQ.d.sd.e h hrx)))
              have Hag := Lib.hid (hQ.d.sd.again HF.out x ⟨rowN s nK P x, zer z⟩ rfl)
              have hrk := (hsm.mAdd hQ.d.sd.e hQ.e (r := symR s nK P z img x) (r' := ⟨rowN s nK P x, [0]⟩) rfl (symR_lt s nK P z img x) (HF.out.sym_len s x) rfl).rank (hQ.d.sd.hear HF.out x).e (mAdd_ech hQ.e hrx rfl)
              have hrle := (hQ.d.sd.hear HF.out x).rank_le
              have Hrk := Lib.hid hrk
              have Hrle := Lib.hid hrle
              clear hQ hna hnb hsm hrk hrle cg hrx
              go_wp2_with fail
              refine HRo.out.mono ?_
              rintro e w6 ⟨pv, gv, rfl, _, _, hV, k6⟩
              have kB : Keeps [] w6 (w6.alloc (.cells #[.int .u8 0] 5)) := (Keeps.refl [] w6).alloc _
              have hA := (HQ.out.keepsNil (k6.trans kB)).add_calls (c := 1) (hV.vc.keeps kB (by simp) (by simp)) (Rd.lit w6 5 #[.int .u8 0] [0] rfl) Hfl.out
              unfold QuadAdd at hA
              generalize decide ((red N ⟨rowN s nK P x, [0]⟩).x ≠ 0) = bb at *
              have HA := Lib.hid hA
              clear hA hV k6 kB p0 p1 p2 p3 HRo HQ Hfl
              go_wp2_with fail
              refine HA.out.mono ?_
              rintro e w7 ⟨Fm7, rfl, hQ7, _, _⟩
              have HQ7 := Lib.hid hQ7
              clear hQ7 HA cgr
              have hSa1 := fun (W : World) (k : Keeps [] w7 W) => dsays_calls (HQ7.out.d.d.keepsNil k) HF.out.pm (HQ7.out.d.tzw.keeps k (by simp)) x
              rw [Hb1.out] at hSa1
              have hTk := fun (W : World) (Q : Nat → Prop) (g : Nat) (h : Quad wd wt W X ph pd pm s nK P z img M (mAdd (nK + P) N ⟨rowN s nK P x, [0]⟩) tk Q Fl Fm7) (hr : Rd W (some ⟨g, 0, none⟩) (symb s nK P z img x)) => h.take_calls (c := z) x hr
              unfold QuadTake at hTk
              rw [Hb2.out] at hTk
              have hSa2 := fun (W : World) (tk : Nat) (Fl : List Nat) (h : De W pd s nK P z (mAdd (nK + P) M (symR s nK P z img x)) tk Fl) (t : TzAt W) => dsays_calls h HF.out.pm t x
              rw [decide_eq_false (by intro h; exact h Hag.out)] at hSa2
              rw [← Hna.out] at hTk hSa2 Hrk Hrle
              rw [← Hnb.out] at hTk Hrk HQ7
              have HSa1 := Lib.hid hSa1
              have HTk := Lib.hid hTk
              have HSa2 := Lib.hid hSa2
              generalize hM' : hears s nK P z img M0 (Lall.take (kk + 1)) = M' at *
              generalize hN' : nears s nK P N0 (Lall.take (kk + 1)) = N' at *
              have HM' := Lib.hid hM'
              have HN' := Lib.hid hN'
              have p1 := HQ7.out.d.k.cell0 b1
              have p2 := HQ7.out.d.k.cell0 b2
              obtain ⟨nd, hnd⟩ : ∃ nd : Nat, nd = nK + P - rank M' := ⟨_, rfl⟩
              obtain ⟨rk, hrkd⟩ : ∃ rk : Nat, rk = rank N' := ⟨_, rfl⟩
              have hrr := Hrk.out
              have hrl := Hrle.out
              have hsb : (nK : Int) + (P : Int) - (rk : Int) = (nd : Int) := by omega
              have hndw : IntKind.i64.wrap (nd : Int) = (nd : Int) := by rw [IntKind.wrap_i64]; omega
              have hw1 : IntKind.i64.wrap ((nK : Int) + (P : Int)) = (nK : Int) + (P : Int) := by rw [IntKind.wrap_i64]; omega
              have hnn : ((nd : Int) != (nd : Int)) = false := by simp
              have hbbn : (bb != bb) = false := by simp
              have Hnd := Lib.hid hnd
              have Hrkd := Lib.hid hrkd
              clear hSa1 hTk hSa2 Hb1 Hb2 Hag Hna Hnb hM' hN' hnd hrkd hrr hrl
              go_upto_region 22 with (fail)
              refine wp_region_noPanic ?_
              refine wp_region_held_drew (S := (fun w' => w'.cell? ⟨w.heap.size, 1, none⟩ = some (.int .i64 nK) ∧ w'.cell? ⟨w.heap.size, 2, none⟩ = some (.int .i64 P))) (by kernel_rfl) ⟨p1, p2⟩ (fun hHeld => ?_)
              have kd : Keeps [] w7 w7.drew := (Keeps.refl [] w7).drew
              refine wpAnyH_take (i := 0) (v := ?v2_8) rfl (by kernel_rfl) (by kernel_rfl) (by kernel_rfl) (fun _ _ _ h => h) (Or.inl ⟨by rfl, ?y2_8⟩) (by assumption) ?r2_8
              case y2_8 => (intro w hSw; (try dsimp only at hSw); go_simp; try with_reducible rfl)
              (try simp only [Act.put, List.getElem_toArray, List.getElem_cons_zero, List.getElem_cons_succ, List.setIfInBounds_toArray, List.set_cons_zero, List.set_cons_succ])
              refine wpAnyH_take (i := 1) (v := ?v2_9) rfl (by kernel_rfl) (by kernel_rfl) (by kernel_rfl) (fun _ _ _ h => h) (Or.inl ⟨by rfl, ?y2_9⟩) (by assumption) ?r2_9
              case y2_9 => (intro w hSw; (try dsimp only at hSw); go_simp; try with_reducible rfl)
              (try simp only [Act.put, List.getElem_toArray, List.getElem_cons_zero, List.getElem_cons_succ, List.setIfInBounds_toArray, List.set_cons_zero, List.set_cons_succ])
              refine wpAnyH_take (i := 3) (v := ?v2_10) rfl (by kernel_rfl) (by kernel_rfl) (by kernel_rfl) (fun _ _ _ h => h) (Or.inl ⟨by rfl, ?y2_10⟩) (by assumption) ?r2_10
              case y2_10 => (intro w hSw; (try dsimp only at hSw); go_simp; try with_reducible rfl)
              (try simp only [Act.put, List.getElem_toArray, List.getElem_cons_zero, List.getElem_cons_succ, List.setIfInBounds_toArray, List.set_cons_zero, List.set_cons_succ])
              refine wpAnyH_ready (rs := [2]) (by kernel_rfl) (by simp) ?_
              refine AllReadyH.cons rfl (fun K hK => ?_) AllReadyH.nil
              go_simp
              refine (HSa1.out _ kd).mono ?_
              rintro e w8 ⟨rfl, k8⟩
              replace kd := kd.trans k8
              have HQ8 := Lib.hid ((HQ7.out.keepsNil kd).sym_calls x)
              have q1 := kd.cell0 p1
              have q2 := kd.cell0 p2
              clear k8 kd p1 p2
              unfold QuadSym at HQ8
              go_wp2_with fail
              refine hK.out _ _ ?s2_11 (fun hHeld => ?_)
              case s2_11 => ((try dsimp only) <;> (first | exact ⟨q1, q2⟩))
              clear hK K
              (try simp only [Act.put, List.getElem_toArray, List.getElem_cons_zero, List.getElem_cons_succ, List.setIfInBounds_toArray, List.set_cons_zero, List.set_cons_succ])
              refine wpAnyH_take (i := 4) (v := ?v2_12) rfl (by kernel_rfl) (by kernel_rfl) (by kernel_rfl) (fun _ _ _ h => h) (Or.inl ⟨by rfl, ?y2_12⟩) (by assumption) ?r2_12
              case y2_12 => (intro w hSw; (try dsimp only at hSw); go_simp; try with_reducible rfl)
              (try simp only [Act.put, List.getElem_toArray, List.getElem_cons_zero, List.getElem_cons_succ, List.setIfInBounds_toArray, List.set_cons_zero, List.set_cons_succ])
              refine wpAnyH_take (i := 5) (v := ?v2_13) rfl (by kernel_rfl) (by kernel_rfl) (by kernel_rfl) (fun _ _ _ h => h) (Or.inl ⟨by rfl, ?y2_13⟩) (by assumption) ?r2_13
              case y2_13 => (intro w hSw; (try dsimp only at hSw); go_simp; try with_reducible rfl)
              (try simp only [Act.put, List.getElem_toArray, List.getElem_cons_zero, List.getElem_cons_succ, List.setIfInBounds_toArray, List.set_cons_zero, List.set_cons_succ])
              refine wpAnyH_take (i := 6) (v := ?v2_14) rfl (by kernel_rfl) (by kernel_rfl) (by kernel_rfl) (fun _ _ _ h => h) (Or.inl ⟨by rfl, ?y2_14⟩) (by assumption) ?r2_14
              case y2_14 => (intro w hSw; (try dsimp only at hSw); go_simp; try with_reducible rfl)
              (try simp only [Act.put, List.getElem_toArray, List.getElem_cons_zero, List.getElem_cons_succ, List.setIfInBounds_toArray, List.set_cons_zero, List.set_cons_succ])
              refine wpAnyH_take (i := 7) (v := ?v2_15) rfl (by kernel_rfl) (by kernel_rfl) (by kernel_rfl) (fun _ _ _ h => h) (Or.inl ⟨by rfl, ?y2_15⟩) (by assumption) ?r2_15
              case y2_15 => (intro w hSw; (try dsimp only at hSw); go_simp; try with_reducible rfl)
              (try simp only [Act.put, List.getElem_toArray, List.getElem_cons_zero, List.getElem_cons_succ, List.setIfInBounds_toArray, List.set_cons_zero, List.set_cons_succ])
              refine wpAnyH_take (i := 8) (v := ?v2_16) rfl (by kernel_rfl) (by kernel_rfl) (by kernel_rfl) (fun _ _ _ h => h) (Or.inl ⟨by rfl, ?y2_16⟩) (by assumption) ?r2_16
              case y2_16 => (intro w hSw; (try dsimp only at hSw); go_simp; try with_reducible rfl)
              (try simp only [Act.put, List.getElem_toArray, List.getElem_cons_zero, List.getElem_cons_succ, List.setIfInBounds_toArray, List.set_cons_zero, List.set_cons_succ])
              refine wpAnyH_take (i := 9) (v := ?v2_17) rfl (by kernel_rfl) (by kernel_rfl) (by kernel_rfl) (fun _ _ _ h => h) (Or.inl ⟨by rfl, ?y2_17⟩) (by assumption) ?r2_17
              case y2_17 => (intro w hSw; (try dsimp only at hSw); go_simp; try with_reducible rfl)
              (try simp only [Act.put, List.getElem_toArray, List.getElem_cons_zero, List.getElem_cons_succ, List.setIfInBounds_toArray, List.set_cons_zero, List.set_cons_succ])
              refine wpAnyH_take (i := 12) (v := ?v2_18) rfl (by kernel_rfl) (by kernel_rfl) (by kernel_rfl) (fun _ _ _ h => h) (Or.inl ⟨by rfl, ?y2_18⟩) (by assumption) ?r2_18
              case y2_18 => (intro w hSw; (try dsimp only at hSw); go_simp; try with_reducible rfl)
              (try simp only [Act.put, List.getElem_toArray, List.getElem_cons_zero, List.getElem_cons_succ, List.setIfInBounds_toArray, List.set_cons_zero, List.set_cons_succ])
              refine wpAnyH_ready (rs := [10]) (by kernel_rfl) (by simp) ?_
              refine AllReadyH.cons rfl (fun K hK => ?_) AllReadyH.nil
              go_simp
              refine HQ8.out.mono ?_
              rintro e w9 ⟨g9, Q9, rfl, hR9, hQ9⟩
              have HT9 := Lib.hid (HTk.out w9 Q9 g9 hQ9 hR9)
              have r1 := hQ9.d.k.cell0 b1
              have r2 := hQ9.d.k.cell0 b2
              clear hR9 hQ9 HQ8 HTk
              go_wp2_with fail
              refine hK.out _ _ ?s2_19 (fun hHeld => ?_)
              case s2_19 => ((try dsimp only) <;> (first | exact ⟨r1, r2⟩))
              clear hK K
              (try simp only [Act.put, List.getElem_toArray, List.getElem_cons_zero, List.getElem_cons_succ, List.setIfInBounds_toArray, List.set_cons_zero, List.set_cons_succ])
              refine wpAnyH_ready (rs := [11]) (by kernel_rfl) (by simp) ?_
              refine AllReadyH.cons rfl (fun K hK => ?_) AllReadyH.nil
              go_simp
              refine HT9.out.mono ?_
              rintro e w10 ⟨tk10, Fl10, rfl, hQ10⟩
              have HQ10 := Lib.hid hQ10
              have s1 := hQ10.d.k.cell0 b1
              have s2 := hQ10.d.k.cell0 b2
              clear hQ10 HT9
              go_wp2_with fail
              refine hK.out _ _ ?s2_20 (fun hHeld => ?_)
              case s2_20 => ((try dsimp only) <;> (first | exact ⟨s1, s2⟩))
              clear hK K
              (try simp only [Act.put, List.getElem_toArray, List.getElem_cons_zero, List.getElem_cons_succ, List.setIfInBounds_toArray, List.set_cons_zero, List.set_cons_succ])
              refine wpAnyH_take (i := 13) (v := ?v2_21) rfl (by kernel_rfl) (by kernel_rfl) (by kernel_rfl) (fun _ _ _ h => h) (Or.inl ⟨by rfl, ?y2_21⟩) (by assumption) ?r2_21
              case y2_21 => (intro w hSw; (try dsimp only at hSw); go_simp; try with_reducible rfl)
              (try simp only [Act.put, List.getElem_toArray, List.getElem_cons_zero, List.getElem_cons_succ, List.setIfInBounds_toArray, List.set_cons_zero, List.set_cons_succ])
              refine wpAnyH_take (i := 14) (v := ?v2_22) rfl (by kernel_rfl) (by kernel_rfl) (by kernel_rfl) (fun _ _ _ h => h) (Or.inl ⟨by rfl, ?y2_22⟩) (by assumption) ?r2_22
              case y2_22 => (intro w hSw; (try dsimp only at hSw); go_simp; try with_reducible rfl)
              (try simp only [Act.put, List.getElem_toArray, List.getElem_cons_zero, List.getElem_cons_succ, List.setIfInBounds_toArray, List.set_cons_zero, List.set_cons_succ])
              refine wpAnyH_take (i := 15) (v := ?v2_23) rfl (by kernel_rfl) (by kernel_rfl) (by kernel_rfl) (fun _ _ _ h => h) (Or.inl ⟨by rfl, ?y2_23⟩) (by assumption) ?r2_23
              case y2_23 => (intro w hSw; (try dsimp only at hSw); go_simp; try with_reducible rfl)
              (try simp only [Act.put, List.getElem_toArray, List.getElem_cons_zero, List.getElem_cons_succ, List.setIfInBounds_toArray, List.set_cons_zero, List.set_cons_succ])
              refine wpAnyH_take (i := 16) (v := ?v2_24) rfl (by kernel_rfl) (by kernel_rfl) (by kernel_rfl) (fun _ _ _ h => h) (Or.inl ⟨by rfl, ?y2_24⟩) (by assumption) ?r2_24
              case y2_24 => (intro w hSw; (try dsimp only at hSw); go_simp; try with_reducible rfl)
              (try simp only [Act.put, List.getElem_toArray, List.getElem_cons_zero, List.getElem_cons_succ, List.setIfInBounds_toArray, List.set_cons_zero, List.set_cons_succ])
              refine wpAnyH_take (i := 17) (v := ?v2_25) rfl (by kernel_rfl) (by kernel_rfl) (by kernel_rfl) (fun _ _ _ h => h) (Or.inl ⟨by rfl, ?y2_25⟩) (by assumption) ?r2_25
              case y2_25 => (intro w hSw; (try dsimp only at hSw); go_simp; try with_reducible rfl)
              (try simp only [Act.put, List.getElem_toArray, List.getElem_cons_zero, List.getElem_cons_succ, List.setIfInBounds_toArray, List.set_cons_zero, List.set_cons_succ])
              refine wpAnyH_ready (rs := [18]) (by kernel_rfl) (by simp) ?_
              refine AllReadyH.cons rfl (fun K hK => ?_) AllReadyH.nil
              go_simp
              refine (HSa2.out w10 tk10 Fl10 HQ10.out.d.d HQ10.out.d.tzw).mono ?_
              rintro e w11 ⟨rfl, k11⟩
              have t1 := k11.cell0 s1
              have t2 := k11.cell0 s2
              go_wp2_with fail
              refine hK.out _ _ ?s2_26 (fun hHeld => ?_)
              case s2_26 => ((try dsimp only) <;> (first | exact ⟨t1, t2⟩))
              clear hK K
              (try simp only [Act.put, List.getElem_toArray, List.getElem_cons_zero, List.getElem_cons_succ, List.setIfInBounds_toArray, List.set_cons_zero, List.set_cons_succ])
              refine wpAnyH_take (i := 19) (v := ?v2_27) rfl (by kernel_rfl) (by kernel_rfl) (by kernel_rfl) (fun _ _ _ h => h) (Or.inl ⟨by rfl, ?y2_27⟩) (by assumption) ?r2_27
              case y2_27 => (intro w hSw; (try dsimp only at hSw); go_simp; try with_reducible rfl)
              (try simp only [Act.put, List.getElem_toArray, List.getElem_cons_zero, List.getElem_cons_succ, List.setIfInBounds_toArray, List.set_cons_zero, List.set_cons_succ])
              refine wpAnyH_take (i := 20) (v := ?v2_28) rfl (by kernel_rfl) (by kernel_rfl) (by kernel_rfl) (fun _ _ _ h => h) (Or.inl ⟨by rfl, ?y2_28⟩) (by assumption) ?r2_28
              case y2_28 => (intro w hSw; (try dsimp only at hSw); go_simp; try with_reducible rfl)
              (try simp only [Act.put, List.getElem_toArray, List.getElem_cons_zero, List.getElem_cons_succ, List.setIfInBounds_toArray, List.set_cons_zero, List.set_cons_succ])
              refine wpAnyH_take (i := 21) (v := ?v2_29) rfl (by kernel_rfl) (by kernel_rfl) (by kernel_rfl) (fun _ _ _ h => h) (Or.inl ⟨by rfl, ?y2_29⟩) (by assumption) ?r2_29
              case y2_29 => (intro w hSw; (try dsimp only at hSw); go_simp; try with_reducible rfl)
              (try simp only [Act.put, List.getElem_toArray, List.getElem_cons_zero, List.getElem_cons_succ, List.setIfInBounds_toArray, List.set_cons_zero, List.set_cons_succ])
              refine wpAnyH_take (i := 23) (v := ?v2_30) rfl (by kernel_rfl) (by kernel_rfl) (by kernel_rfl) (fun _ _ _ h => h) (Or.inl ⟨by rfl, ?y2_30⟩) (by assumption) ?r2_30
              case y2_30 => (intro w hSw; (try dsimp only at hSw); go_simp; try with_reducible rfl)
              (try simp only [Act.put, List.getElem_toArray, List.getElem_cons_zero, List.getElem_cons_succ, List.setIfInBounds_toArray, List.set_cons_zero, List.set_cons_succ])
              refine wpAnyH_take (i := 24) (v := ?v2_31) rfl (by kernel_rfl) (by kernel_rfl) (by kernel_rfl) (fun _ _ _ h => h) (Or.inl ⟨by rfl, ?y2_31⟩) (by assumption) ?r2_31
              case y2_31 => (intro w hSw; (try dsimp only at hSw); go_simp; try with_reducible rfl)
              (try simp only [Act.put, List.getElem_toArray, List.getElem_cons_zero, List.getElem_cons_succ, List.setIfInBounds_toArray, List.set_cons_zero, List.set_cons_succ])
              refine wpAnyH_take (i := 25) (v := ?v2_32) rfl (by kernel_rfl) (by kernel_rfl) (by kernel_rfl) (fun _ _ _ h => h) (Or.inl ⟨by rfl, ?y2_32⟩) (by assumption) ?r2_32
              case y2_32 => (intro w hSw; (try dsimp only at hSw); go_simp; try with_reducible rfl)
              (try simp only [Act.put, List.getElem_toArray, List.getElem_cons_zero, List.getElem_cons_succ, List.setIfInBounds_toArray, List.set_cons_zero, List.set_cons_succ])
              refine wpAnyH_take (i := 26) (v := ?v2_33) rfl (by kernel_rfl) (by kernel_rfl) (by kernel_rfl) (fun _ _ _ h => h) (Or.inl ⟨by rfl, ?y2_33⟩) (by assumption) ?r2_33
              case y2_33 => (intro w hSw; (try dsimp only at hSw); go_simp; try with_reducible rfl)
              (try simp only [Act.put, List.getElem_toArray, List.getElem_cons_zero, List.getElem_cons_succ, List.setIfInBounds_toArray, List.set_cons_zero, List.set_cons_succ])
              refine wpAnyH_take (i := 27) (v := ?v2_34) rfl (by kernel_rfl) (by kernel_rfl) (by kernel_rfl) (fun _ _ _ h => h) (Or.inl ⟨by rfl, ?y2_34⟩) (by assumption) ?r2_34
              case y2_34 => (intro w hSw; (try dsimp only at hSw); go_simp; try with_reducible rfl)
              (try simp only [Act.put, List.getElem_toArray, List.getElem_cons_zero, List.getElem_cons_succ, List.setIfInBounds_toArray, List.set_cons_zero, List.set_cons_succ])
              refine wpAnyH_take (i := 28) (v := ?v2_35) rfl (by kernel_rfl) (by kernel_rfl) (by kernel_rfl) (fun _ _ _ h => h) (Or.inl ⟨by rfl, ?y2_35⟩) (by assumption) ?r2_35
              case y2_35 => (intro w hSw; (try dsimp only at hSw); go_simp; try with_reducible rfl)
              (try simp only [Act.put, List.getElem_toArray, List.getElem_cons_zero, List.getElem_cons_succ, List.setIfInBounds_toArray, List.set_cons_zero, List.set_cons_succ])
              refine wpAnyH_ready (rs := [22]) (by kernel_rfl) (by simp) ?_
              refine AllReadyH.cons rfl (fun K hK => ?_) AllReadyH.nil
              go_simp
              refine (dneeds_calls (HQ10.out.d.d.keepsNil k11) HF.out.pm).mono ?_
              rintro e w12 ⟨rfl, k12⟩
              rw [← Hnd.out]
              have k12' := k11.trans k12
              have v1 := k12.cell0 t1
              have v2 := k12.cell0 t2
              go_wp2_with fail
              refine hK.out _ _ ?s2_36 (fun hHeld => ?_)
              case s2_36 => ((try dsimp only) <;> (first | exact ⟨v1, v2⟩))
              clear hK K
              (try simp only [Act.put, List.getElem_toArray, List.getElem_cons_zero, List.getElem_cons_succ, List.setIfInBounds_toArray, List.set_cons_zero, List.set_cons_succ])
              refine wpAnyH_ready (rs := [29]) (by kernel_rfl) (by simp) ?_
              refine AllReadyH.cons rfl (fun K hK => ?_) AllReadyH.nil
              go_simp
              refine ((HQ10.out.m.keepsNil k12').rank_calls).mono ?_
              rintro e w' ⟨rfl, rfl⟩
              rw [← Hrkd.out]
              go_wp2_with fail
              refine hK.out _ _ ?s2_37 (fun hHeld => ?_)
              case s2_37 => ((try dsimp only) <;> (first | exact ⟨v1, v2⟩))
              clear hK K
              (try simp only [Act.put, List.getElem_toArray, List.getElem_cons_zero, List.getElem_cons_succ, List.setIfInBounds_toArray, List.set_cons_zero, List.set_cons_succ])
              refine wpAnyH_take (i := 30) (v := ?v2_38) rfl (by kernel_rfl) (by kernel_rfl) (by kernel_rfl) (fun _ _ _ h => h) (Or.inl ⟨by rfl, ?y2_38⟩) (by assumption) ?r2_38
              case y2_38 => (intro w hSw; (try dsimp only at hSw); go_simp; try with_reducible rfl)
              (try simp only [Act.put, List.getElem_toArray, List.getElem_cons_zero, List.getElem_cons_succ, List.setIfInBounds_toArray, List.set_cons_zero, List.set_cons_succ])
              refine wpAnyH_take (i := 31) (v := ?v2_39) rfl (by kernel_rfl) (by kernel_rfl) (by kernel_rfl) (fun _ _ _ h => h) (Or.inl ⟨by rfl, ?y2_39⟩) (by assumption) ?r2_39
              case y2_39 => (intro w hSw; (try dsimp only at hSw); go_simp; try with_reducible rfl)
              (try simp only [Act.put, List.getElem_toArray, List.getElem_cons_zero, List.getElem_cons_succ, List.setIfInBounds_toArray, List.set_cons_zero, List.set_cons_succ])
              refine wpAnyH_take (i := 32) (v := ?v2_40) rfl (by kernel_rfl) (by kernel_rfl) (by kernel_rfl) (fun _ _ _ h => h) (Or.inl ⟨by rfl, ?y2_40⟩) (by assumption) ?r2_40
              case y2_40 => (intro w hSw; (try dsimp only at hSw); go_simp; try with_reducible rfl)
              (try simp only [Act.put, List.getElem_toArray, List.getElem_cons_zero, List.getElem_cons_succ, List.setIfInBounds_toArray, List.set_cons_zero, List.set_cons_succ])
              refine wpAnyH_done (by kernel_rfl) ?_ _
              refine NoPanic.normal ?_
              have HQ12 := Lib.hid (HQ10.out.keepsNil k12')
              clear r1 r2 s1 s2 t1 t2 v1 v2 q1 q2 k11 k12 k12' hHeld hsb hndw hw1 hnn hbbn HSa1 HSa2 HQ10 Hrle Hnd Hrkd
              by_cases hfull : rank M' = nK + P
              · have hfN : rank N' = nK + P := by have := Hrk.out; omega
                have hI := HQ12.out.image_calls hfull hi2 (by omega)
                unfold QuadImg at hI
                have HIm := Lib.hid hI
                have hFu := fun (W : World) (h : MxF W pm (nK + P) 1 N' Fm7) => mfull_calls h
                rw [decide_eq_true hfN] at hFu
                have HFu := Lib.hid hFu
                clear hI hFu hfull hfN HQ12
                go_wp2_with fail
                refine HIm.out.mono ?_
                rintro e w13 ⟨v13, rfl, hO13, hQ13⟩
                have HQ13 := Lib.hid hQ13
                have HR13 := Lib.hid hO13.rds
                obtain ⟨a13, c13, rfl, _⟩ := hO13.rds
                clear hO13 hQ13 HIm
                go_wp2_with fail
                refine (HFu.out _ HQ13.out.m).mono ?_
                rintro e w14 ⟨rfl, k14⟩
                have st1 := RdS.str (HR13.out.keepsNil k14)
                have HQ14 := Lib.hid (HQ13.out.keepsNil k14)
                have st2 := RdS.str (HIb.out.keepsNil HQ14.out.d.k)
                clear k14 HQ13 HFu HR13
                go_wp2_with fail
                go_roundw
                case rel => exact ⟨kk + 1, tk10, Q9, Fl10, Fm7, by omega, by go_num, by rw [HM'.out, HN'.out]; exact HQ14.out⟩
                case measure => simp [intOf]; omega
              · have hfN : ¬ rank N' = nK + P := by have := Hrk.out; omega
                have HIm := Lib.hid (dimagefew_calls HQ12.out.d.d HF.out.pm hfull (img.length : Int))
                have hFu := fun (W : World) (h : MxF W pm (nK + P) 1 N' Fm7) => mfull_calls h
                rw [decide_eq_false hfN] at hFu
                have HFu := Lib.hid hFu
                clear hFu hfull hfN
                go_wp2_with fail
                refine HIm.out.mono ?_
                rintro e w13 ⟨rfl, k13⟩
                have HQ13 := Lib.hid (HQ12.out.keepsNil k13)
                clear k13 HQ12 HIm
                go_wp2_with fail
                refine (HFu.out _ HQ13.out.m).mono ?_
                rintro e w14 ⟨rfl, k14⟩
                have HQ14 := Lib.hid (HQ13.out.keepsNil k14)
                clear k14 HQ13 HFu
                go_wp2_with fail
                go_roundw
                case rel => exact ⟨kk + 1, tk10, Q9, Fl10, Fm7, by omega, by go_num, by rw [HM'.out, HN'.out]; exact HQ14.out⟩
                case measure => simp [intOf]; omega
            · obtain rfl : Lall.length = kk := by omega
              rw [List.take_length] at hQ
              have hsm := nears_same HF.out Lall HS0.out.1 HS0.out.2 HSm.out
              have p1 := hQ.d.k.cell0 b1
              have HKq := Lib.hid hQ.d.k
              have Htz := Lib.hid hQ.d.tz
              cases rest with
              | false =>
                clear hQ hsm HAll HRest HS0 HSm
                go_upto_region 28 with (fail)
                refine wp_region_noPanic ?_
                refine wp_region_held_drew (S := (fun w' => w'.cell? ⟨w.heap.size, 1, none⟩ = some (.int .i64 nK))) (by kernel_rfl) p1 (fun hHeld => ?_)
                have kd : Keeps [] wr wr.drew := (Keeps.refl [] wr).drew
                refine wpAnyH_take (i := 0) (v := ?v3_41) rfl (by kernel_rfl) (by kernel_rfl) (by kernel_rfl) (fun _ _ _ h => h) (Or.inl ⟨by rfl, ?y3_41⟩) (by assumption) ?r3_41
                case y3_41 => (intro w hSw; (try dsimp only at hSw); go_simp; try with_reducible rfl)
                (try simp only [Act.put, List.getElem_toArray, List.getElem_cons_zero, List.getElem_cons_succ, List.setIfInBounds_toArray, List.set_cons_zero, List.set_cons_succ])
                refine wpAnyH_take (i := 1) (v := ?v3_42) rfl (by kernel_rfl) (by kernel_rfl) (by kernel_rfl) (fun _ _ _ h => h) (Or.inl ⟨by rfl, ?y3_42⟩) (by assumption) ?r3_42
                case y3_42 => (intro w hSw; (try dsimp only at hSw); go_simp; try with_reducible rfl)
                (try simp only [Act.put, List.getElem_toArray, List.getElem_cons_zero, List.getElem_cons_succ, List.setIfInBounds_toArray, List.set_cons_zero, List.set_cons_succ])
                refine wpAnyH_take (i := 2) (v := ?v3_43) rfl (by kernel_rfl) (by kernel_rfl) (by kernel_rfl) (fun _ _ _ h => h) (Or.inl ⟨by rfl, ?y3_43⟩) (by assumption) ?r3_43
                case y3_43 => (intro w hSw; (try dsimp only at hSw); go_simp; try with_reducible rfl)
                (try simp only [Act.put, List.getElem_toArray, List.getElem_cons_zero, List.getElem_cons_succ, List.setIfInBounds_toArray, List.set_cons_zero, List.set_cons_succ])
                refine wpAnyH_take (i := 3) (v := undef) rfl (by kernel_rfl) (by kernel_rfl) (by kernel_rfl) (fun _ _ _ h => h) (Or.inr ⟨by rfl, rfl⟩) (by assumption) ?_
                (try simp only [Act.put, List.getElem_toArray, List.getElem_cons_zero, List.getElem_cons_succ, List.setIfInBounds_toArray, List.set_cons_zero, List.set_cons_succ])
                refine wpAnyH_take (i := 4) (v := undef) rfl (by kernel_rfl) (by kernel_rfl) (by kernel_rfl) (fun _ _ _ h => h) (Or.inr ⟨by rfl, rfl⟩) (by assumption) ?_
                (try simp only [Act.put, List.getElem_toArray, List.getElem_cons_zero, List.getElem_cons_succ, List.setIfInBounds_toArray, List.set_cons_zero, List.set_cons_succ])
                refine wpAnyH_take (i := 5) (v := undef) rfl (by kernel_rfl) (by kernel_rfl) (by kernel_rfl) (fun _ _ _ h => h) (Or.inr ⟨by rfl, rfl⟩) (by assumption) ?_
                (try simp only [Act.put, List.getElem_toArray, List.getElem_cons_zero, List.getElem_cons_succ, List.setIfInBounds_toArray, List.set_cons_zero, List.set_cons_succ])
                refine wpAnyH_take (i := 6) (v := undef) rfl (by kernel_rfl) (by kernel_rfl) (by kernel_rfl) (fun _ _ _ h => h) (Or.inr ⟨by rfl, rfl⟩) (by assumption) ?_
                (try simp only [Act.put, List.getElem_toArray, List.getElem_cons_zero, List.getElem_cons_succ, List.setIfInBounds_toArray, List.set_cons_zero, List.set_cons_succ])
                refine wpAnyH_take (i := 7) (v := undef) rfl (by kernel_rfl) (by kernel_rfl) (by kernel_rfl) (fun _ _ _ h => h) (Or.inr ⟨by rfl, rfl⟩) (by assumption) ?_
                (try simp only [Act.put, List.getElem_toArray, List.getElem_cons_zero, List.getElem_cons_succ, List.setIfInBounds_toArray, List.set_cons_zero, List.set_cons_succ])
                refine wpAnyH_take (i := 8) (v := undef) rfl (by kernel_rfl) (by kernel_rfl) (by kernel_rfl) (fun _ _ _ h => h) (Or.inr ⟨by rfl, rfl⟩) (by assumption) ?_
                (try simp only [Act.put, List.getElem_toArray, List.getElem_cons_zero, List.getElem_cons_succ, List.setIfInBounds_toArray, List.set_cons_zero, List.set_cons_succ])
                refine wpAnyH_take (i := 9) (v := undef) rfl (by kernel_rfl) (by kernel_rfl) (by kernel_rfl) (fun _ _ _ h => h) (Or.inr ⟨by rfl, rfl⟩) (by assumption) ?_
                (try simp only [Act.put, List.getElem_toArray, List.getElem_cons_zero, List.getElem_cons_succ, List.setIfInBounds_toArray, List.set_cons_zero, List.set_cons_succ])
                refine wpAnyH_take (i := 10) (v := undef) rfl (by kernel_rfl) (by kernel_rfl) (by kernel_rfl) (fun _ _ _ h => h) (Or.inr ⟨by rfl, rfl⟩) (by assumption) ?_
                (try simp only [Act.put, List.getElem_toArray, List.getElem_cons_zero, List.getElem_cons_succ, List.setIfInBounds_toArray, List.set_cons_zero, List.set_cons_succ])
                refine wpAnyH_take (i := 11) (v := undef) rfl (by kernel_rfl) (by kernel_rfl) (by kernel_rfl) (fun _ _ _ h => h) (Or.inr ⟨by rfl, rfl⟩) (by assumption) ?_
                (try simp only [Act.put, List.getElem_toArray, List.getElem_cons_zero, List.getElem_cons_succ, List.setIfInBounds_toArray, List.set_cons_zero, List.set_cons_succ])
                refine wpAnyH_take (i := 12) (v := ?v3_44) rfl (by kernel_rfl) (by kernel_rfl) (by kernel_rfl) (fun _ _ _ h => h) (Or.inl ⟨by rfl, ?y3_44⟩) (by assumption) ?r3_44
                case y3_44 => (intro w hSw; (try dsimp only at hSw); go_simp; try with_reducible rfl)
                (try simp only [Act.put, List.getElem_toArray, List.getElem_cons_zero, List.getElem_cons_succ, List.setIfInBounds_toArray, List.set_cons_zero, List.set_cons_succ])
                refine wpAnyH_take (i := 13) (v := ?v3_45) rfl (by kernel_rfl) (by kernel_rfl) (by kernel_rfl) (fun _ _ _ h => h) (Or.inl ⟨by rfl, ?y3_45⟩) (by assumption) ?r3_45
                case y3_45 => (intro w hSw; (try dsimp only at hSw); go_simp; try with_reducible rfl)
                (try simp only [Act.put, List.getElem_toArray, List.getElem_cons_zero, List.getElem_cons_succ, List.setIfInBounds_toArray, List.set_cons_zero, List.set_cons_succ])
                refine wpAnyH_ready (rs := [14]) (by kernel_rfl) (by simp) ?_
                refine AllReadyH.cons rfl (fun K hK => ?_) AllReadyH.nil
                go_simp
                refine (awake12_calls (Htz.out.keeps (HKq.out.trans kd) (by simp))).mono ?_
                rintro e wv ⟨rfl, kv⟩
                replace kd := kd.trans kv
                go_wp2_with fail
                refine hK.out _ _ ?s3_46 (fun hHeld => ?_)
                case s3_46 => ((try dsimp only) <;> (first | exact kd.cell0 p1))
                clear hK K
                (try simp only [Act.put, List.getElem_toArray, List.getElem_cons_zero, List.getElem_cons_succ, List.setIfInBounds_toArray, List.set_cons_zero, List.set_cons_succ])
                refine wpAnyH_take (i := 15) (v := ?v3_47) rfl (by kernel_rfl) (by kernel_rfl) (by kernel_rfl) (fun _ _ _ h => h) (Or.inl ⟨by rfl, ?y3_47⟩) (by assumption) ?r3_47
                case y3_47 => (intro w hSw; (try dsimp only at hSw); go_simp; try with_reducible rfl)
                (try simp only [Act.put, List.getElem_toArray, List.getElem_cons_zero, List.getElem_cons_succ, List.setIfInBounds_toArray, List.set_cons_zero, List.set_cons_succ])
                refine wpAnyH_take (i := 16) (v := ?v3_48) rfl (by kernel_rfl) (by kernel_rfl) (by kernel_rfl) (fun _ _ _ h => h) (Or.inl ⟨by rfl, ?y3_48⟩) (by assumption) ?r3_48
                case y3_48 => (intro w hSw; (try dsimp only at hSw); go_simp; try with_reducible rfl)
                (try simp only [Act.put, List.getElem_toArray, List.getElem_cons_zero, List.getElem_cons_succ, List.setIfInBounds_toArray, List.set_cons_zero, List.set_cons_succ])
                refine wpAnyH_done (by kernel_rfl) ?_ _
                refine NoPanic.normal ?_
                go_wp2_with fail
                go_ret
                exact ⟨rfl, (Kb.out.trans HKq.out).trans kd⟩
              | true =>
                have hfull : rank (hears s nK P z img M0 Lall) = nK + P := hears_full HF.out HS0.out.1 (HRest.out rfl)
                have hfN : rank (nears s nK P N0 Lall) = nK + P := by rw [← hsm.rank hQ.d.sd.e hQ.e]; exact hfull
                have htk : tk = nK := by have := hQ.d.t; omega
                subst htk
                have hFu := fun (W : World) (k : Keeps [] wr W) => mfull_calls (hQ.m.keepsNil k)
                rw [decide_eq_true hfN] at hFu
                have HFu := Lib.hid hFu
                have HTn := Lib.hid (fun (W : World) (k : Keeps [] wr W) => dtaken_calls (hQ.d.d.keepsNil k))
                clear hQ hsm HAll HRest HS0 HSm hfull hfN hFu
                go_upto_region 28 with (fail)
                refine wp_region_noPanic ?_
                refine wp_region_held_drew (S := (fun w' => w'.cell? ⟨w.heap.size, 1, none⟩ = some (.int .i64 tk))) (by kernel_rfl) p1 (fun hHeld => ?_)
                have kd : Keeps [] wr wr.drew := (Keeps.refl [] wr).drew
                refine wpAnyH_take (i := 0) (v := ?v4_49) rfl (by kernel_rfl) (by kernel_rfl) (by kernel_rfl) (fun _ _ _ h => h) (Or.inl ⟨by rfl, ?y4_49⟩) (by assumption) ?r4_49
                case y4_49 => (intro w hSw; (try dsimp only at hSw); go_simp; try with_reducible rfl)
                (try simp only [Act.put, List.getElem_toArray, List.getElem_cons_zero, List.getElem_cons_succ, List.setIfInBounds_toArray, List.set_cons_zero, List.set_cons_succ])
                refine wpAnyH_take (i := 1) (v := ?v4_50) rfl (by kernel_rfl) (by kernel_rfl) (by kernel_rfl) (fun _ _ _ h => h) (Or.inl ⟨by rfl, ?y4_50⟩) (by assumption) ?r4_50
                case y4_50 => (intro w hSw; (try dsimp only at hSw); go_simp; try with_reducible rfl)
                (try simp only [Act.put, List.getElem_toArray, List.getElem_cons_zero, List.getElem_cons_succ, List.setIfInBounds_toArray, List.set_cons_zero, List.set_cons_succ])
                refine wpAnyH_take (i := 2) (v := ?v4_51) rfl (by kernel_rfl) (by kernel_rfl) (by kernel_rfl) (fun _ _ _ h => h) (Or.inl ⟨by rfl, ?y4_51⟩) (by assumption) ?r4_51
                case y4_51 => (intro w hSw; (try dsimp only at hSw); go_simp; try with_reducible rfl)
                (try simp only [Act.put, List.getElem_toArray, List.getElem_cons_zero, List.getElem_cons_succ, List.setIfInBounds_toArray, List.set_cons_zero, List.set_cons_succ])
                refine wpAnyH_take (i := 3) (v := ?v4_52) rfl (by kernel_rfl) (by kernel_rfl) (by kernel_rfl) (fun _ _ _ h => h) (Or.inl ⟨by rfl, ?y4_52⟩) (by assumption) ?r4_52
                case y4_52 => (intro w hSw; (try dsimp only at hSw); go_simp; try with_reducible rfl)
                (try simp only [Act.put, List.getElem_toArray, List.getElem_cons_zero, List.getElem_cons_succ, List.setIfInBounds_toArray, List.set_cons_zero, List.set_cons_succ])
                refine wpAnyH_ready (rs := [4]) (by kernel_rfl) (by simp) ?_
                refine AllReadyH.cons rfl (fun K hK => ?_) AllReadyH.nil
                go_simp
                refine (HFu.out _ kd).mono ?_
                rintro e wu ⟨rfl, ku⟩
                replace kd := kd.trans ku
                go_wp2_with fail
                refine hK.out _ _ ?s4_53 (fun hHeld => ?_)
                case s4_53 => ((try dsimp only) <;> (first | exact kd.cell0 p1))
                clear hK K
                (try simp only [Act.put, List.getElem_toArray, List.getElem_cons_zero, List.getElem_cons_succ, List.setIfInBounds_toArray, List.set_cons_zero, List.set_cons_succ])
                refine wpAnyH_take (i := 5) (v := ?v4_54) rfl (by kernel_rfl) (by kernel_rfl) (by kernel_rfl) (fun _ _ _ h => h) (Or.inl ⟨by rfl, ?y4_54⟩) (by assumption) ?r4_54
                case y4_54 => (intro w hSw; (try dsimp only at hSw); go_simp; try with_reducible rfl)
                (try simp only [Act.put, List.getElem_toArray, List.getElem_cons_zero, List.getElem_cons_succ, List.setIfInBounds_toArray, List.set_cons_zero, List.set_cons_succ])
                refine wpAnyH_take (i := 6) (v := ?v4_55) rfl (by kernel_rfl) (by kernel_rfl) (by kernel_rfl) (fun _ _ _ h => h) (Or.inl ⟨by rfl, ?y4_55⟩) (by assumption) ?r4_55
                case y4_55 => (intro w hSw; (try dsimp only at hSw); go_simp; try with_reducible rfl)
                (try simp only [Act.put, List.getElem_toArray, List.getElem_cons_zero, List.getElem_cons_succ, List.setIfInBounds_toArray, List.set_cons_zero, List.set_cons_succ])
                refine wpAnyH_take (i := 8) (v := ?v4_56) rfl (by kernel_rfl) (by kernel_rfl) (by kernel_rfl) (fun _ _ _ h => h) (Or.inl ⟨by rfl, ?y4_56⟩) (by assumption) ?r4_56
                case y4_56 => (intro w hSw; (try dsimp only at hSw); go_simp; try with_reducible rfl)
                (try simp only [Act.put, List.getElem_toArray, List.getElem_cons_zero, List.getElem_cons_succ, List.setIfInBounds_toArray, List.set_cons_zero, List.set_cons_succ])
                refine wpAnyH_take (i := 9) (v := ?v4_57) rfl (by kernel_rfl) (by kernel_rfl) (by kernel_rfl) (fun _ _ _ h => h) (Or.inl ⟨by rfl, ?y4_57⟩) (by assumption) ?r4_57
                case y4_57 => (intro w hSw; (try dsimp only at hSw); go_simp; try with_reducible rfl)
                (try simp only [Act.put, List.getElem_toArray, List.getElem_cons_zero, List.getElem_cons_succ, List.setIfInBounds_toArray, List.set_cons_zero, List.set_cons_succ])
                refine wpAnyH_ready (rs := [7]) (by kernel_rfl) (by simp) ?_
                refine AllReadyH.cons rfl (fun K hK => ?_) AllReadyH.nil
                go_simp
                refine (HTn.out _ kd).mono ?_
                rintro e w' ⟨rfl, rfl⟩
                go_wp2_with fail
                refine hK.out _ _ ?s4_58 (fun hHeld => ?_)
                case s4_58 => ((try dsimp only) <;> (first | exact kd.cell0 p1))
                clear hK K
                (try simp only [Act.put, List.getElem_toArray, List.getElem_cons_zero, List.getElem_cons_succ, List.setIfInBounds_toArray, List.set_cons_zero, List.set_cons_succ])
                refine wpAnyH_take (i := 10) (v := ?v4_59) rfl (by kernel_rfl) (by kernel_rfl) (by kernel_rfl) (fun _ _ _ h => h) (Or.inl ⟨by rfl, ?y4_59⟩) (by assumption) ?r4_59
                case y4_59 => (intro w hSw; (try dsimp only at hSw); go_simp; try with_reducible rfl)
                (try simp only [Act.put, List.getElem_toArray, List.getElem_cons_zero, List.getElem_cons_succ, List.setIfInBounds_toArray, List.set_cons_zero, List.set_cons_succ])
                refine wpAnyH_take (i := 11) (v := ?v4_60) rfl (by kernel_rfl) (by kernel_rfl) (by kernel_rfl) (fun _ _ _ h => h) (Or.inl ⟨by rfl, ?y4_60⟩) (by assumption) ?r4_60
                case y4_60 => (intro w hSw; (try dsimp only at hSw); go_simp; try with_reducible rfl)
                (try simp only [Act.put, List.getElem_toArray, List.getElem_cons_zero, List.getElem_cons_succ, List.setIfInBounds_toArray, List.set_cons_zero, List.set_cons_succ])
                refine wpAnyH_take (i := 12) (v := ?v4_61) rfl (by kernel_rfl) (by kernel_rfl) (by kernel_rfl) (fun _ _ _ h => h) (Or.inl ⟨by rfl, ?y4_61⟩) (by assumption) ?r4_61
                case y4_61 => (intro w hSw; (try dsimp only at hSw); go_simp; try with_reducible rfl)
                (try simp only [Act.put, List.getElem_toArray, List.getElem_cons_zero, List.getElem_cons_succ, List.setIfInBounds_toArray, List.set_cons_zero, List.set_cons_succ])
                refine wpAnyH_take (i := 13) (v := ?v4_62) rfl (by kernel_rfl) (by kernel_rfl) (by kernel_rfl) (fun _ _ _ h => h) (Or.inl ⟨by rfl, ?y4_62⟩) (by assumption) ?r4_62
                case y4_62 => (intro w hSw; (try dsimp only at hSw); go_simp; try with_reducible rfl)
                (try simp only [Act.put, List.getElem_toArray, List.getElem_cons_zero, List.getElem_cons_succ, List.setIfInBounds_toArray, List.set_cons_zero, List.set_cons_succ])
                refine wpAnyH_ready (rs := [14]) (by kernel_rfl) (by simp) ?_
                refine AllReadyH.cons rfl (fun K hK => ?_) AllReadyH.nil
                go_simp
                refine (awake12_calls (Htz.out.keeps (HKq.out.trans kd) (by simp))).mono ?_
                rintro e wv ⟨rfl, kv⟩
                replace kd := kd.trans kv
                go_wp2_with fail
                refine hK.out _ _ ?s4_63 (fun hHeld => ?_)
                case s4_63 => ((try dsimp only) <;> (first | exact kd.cell0 p1))
                clear hK K
                (try simp only [Act.put, List.getElem_toArray, List.getElem_cons_zero, List.getElem_cons_succ, List.setIfInBounds_toArray, List.set_cons_zero, List.set_cons_succ])
                refine wpAnyH_take (i := 15) (v := ?v4_64) rfl (by kernel_rfl) (by kernel_rfl) (by kernel_rfl) (fun _ _ _ h => h) (Or.inl ⟨by rfl, ?y4_64⟩) (by assumption) ?r4_64
                case y4_64 => (intro w hSw; (try dsimp only at hSw); go_simp; try with_reducible rfl)
                (try simp only [Act.put, List.getElem_toArray, List.getElem_cons_zero, List.getElem_cons_succ, List.setIfInBounds_toArray, List.set_cons_zero, List.set_cons_succ])
                refine wpAnyH_take (i := 16) (v := ?v4_65) rfl (by kernel_rfl) (by kernel_rfl) (by kernel_rfl) (fun _ _ _ h => h) (Or.inl ⟨by rfl, ?y4_65⟩) (by assumption) ?r4_65
                case y4_65 => (intro w hSw; (try dsimp only at hSw); go_simp; try with_reducible rfl)
                (try simp only [Act.put, List.getElem_toArray, List.getElem_cons_zero, List.getElem_cons_succ, List.setIfInBounds_toArray, List.set_cons_zero, List.set_cons_succ])
                refine wpAnyH_done (by kernel_rfl) ?_ _
                refine NoPanic.normal ?_
                go_wp2_with fail
                go_ret
                exact ⟨rfl, (Kb.out.trans HKq.out).trans kd⟩

end Go.Proofs.YtghgmchgbhdldaaGreatDoor
