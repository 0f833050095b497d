/-
  El5: package elim: Rank, Full, Says, Solve, walked.
-/
import Derived.Test.YtghgmchgbhdldaaGreatDoorEl4
set_option linter.unusedVariables false
set_option linter.unusedSimpArgs false
namespace Go.Proofs.YtghgmchgbhdldaaGreatDoor
open Go.RowKit
attribute [local go_sem ↓] Go.wp_at_zero Go.wp_at_succ

set_option maxRecDepth 100000 in
theorem mrank_calls {w : World} {pm pb n z : Nat} {M : Mtx} {L : Nat → Loc} (h : Mx w pm pb n z M L) :
    Calls Tryz.prog 23 #[P0 pm] w fun e w' => e = .returned (.int .i64 (rank M)) ∧ w = w' := by
  have hL := iload_calls _ (h.b.cell' (i := 3) rfl)
  have HL := Lib.hid hL
  clear hL
  go_enter Tryz.func23, Tryz.ntmps23
  go_wp2_with fail
  refine HL.out.mono ?_
  rintro e w' ⟨rfl, rfl⟩
  go_wp2_with fail
  go_ret
  exact ⟨rfl, rfl⟩
theorem MxF.rank_calls {w : World} {pm n z : Nat} {M : Mtx} {Fl : List Nat} (h : MxF w pm n z M Fl) :
    Calls Tryz.prog 23 #[P0 pm] w fun e w' => e = .returned (.int .i64 (rank M)) ∧ w = w' := by
  obtain ⟨pb, L, hM, _⟩ := h
  exact mrank_calls hM

set_option maxRecDepth 100000 in
set_option maxHeartbeats 1600000 in
theorem mfull_calls {w : World} {pm n z : Nat} {M : Mtx} {Fl : List Nat} (h : MxF w pm n z M Fl) :
    Calls Tryz.prog 24 #[P0 pm] w fun e w' => e = .returned (.bool (decide (rank M = n))) ∧ Keeps [] w w' := by
  obtain ⟨pb, L, hM, _⟩ := h
  have c0 := hM.b.cell' (i := 0) rfl
  have HR := Lib.hid (mrank_calls (hM.keepsNil (Keeps.refl [] w).drew))
  have hd : ((rank M : Int) == (n : Int)) = decide (rank M = n) := by
    by_cases e : rank M = n
    · rw [e]; simp
    · have : decide (rank M = n) = false := by simp [e]
      rw [this]; simp; omega
  generalize rank M = rk at *
  have Hd := Lib.hid hd
  clear hM hd
  go_enter Tryz.func24, Tryz.ntmps24
  go_wp2_with fail
  refine wp_region_noPanic ?_
  refine wp_region_held_drew (S := (fun w' => w'.cell? ⟨pm, 0, none⟩ = some (.int .i64 n))) (by kernel_rfl) c0 (fun hHeld => ?_)
  refine wpAnyH_take (i := 0) (v := ?v1_1) rfl (by kernel_rfl) (by kernel_rfl) (by kernel_rfl) (fun _ _ _ h => h) (Or.inl ⟨by rfl, ?y1_1⟩) (by assumption) ?r1_1
  case y1_1 => (intro w hSw; (try dsimp only at hSw); go_simp; try with_reducible rfl)
  (try simp only [Act.put, List.getElem_toArray, List.getElem_cons_zero, List.getElem_cons_succ, List.setIfInBounds_toArray, List.set_cons_zero, List.set_cons_succ])
  refine wpAnyH_take (i := 1) (v := ?v1_2) rfl (by kernel_rfl) (by kernel_rfl) (by kernel_rfl) (fun _ _ _ h => h) (Or.inl ⟨by rfl, ?y1_2⟩) (by assumption) ?r1_2
  case y1_2 => (intro w hSw; (try dsimp only at hSw); go_simp; try with_reducible rfl)
  (try simp only [Act.put, List.getElem_toArray, List.getElem_cons_zero, List.getElem_cons_succ, List.setIfInBounds_toArray, List.set_cons_zero, List.set_cons_succ])
  refine wpAnyH_take (i := 2) (v := ?v1_3) rfl (by kernel_rfl) (by kernel_rfl) (by kernel_rfl) (fun _ _ _ h => h) (Or.inl ⟨by rfl, ?y1_3⟩) (by assumption) ?r1_3
  case y1_3 => (intro w hSw; (try dsimp only at hSw); go_simp; try with_reducible rfl)
  (try simp only [Act.put, List.getElem_toArray, List.getElem_cons_zero, List.getElem_cons_succ, List.setIfInBounds_toArray, List.set_cons_zero, List.set_cons_succ])
  refine wpAnyH_take (i := 3) (v := ?v1_4) rfl (by kernel_rfl) (by kernel_rfl) (by kernel_rfl) (fun _ _ _ h => h) (Or.inl ⟨by rfl, ?y1_4⟩) (by assumption) ?r1_4
  case y1_4 => (intro w hSw; (try dsimp only at hSw); go_simp; try with_reducible rfl)
  (try simp only [Act.put, List.getElem_toArray, List.getElem_cons_zero, List.getElem_cons_succ, List.setIfInBounds_toArray, List.set_cons_zero, List.set_cons_succ])
  refine wpAnyH_take (i := 5) (v := ?v1_5) rfl (by kernel_rfl) (by kernel_rfl) (by kernel_rfl) (fun _ _ _ h => h) (Or.inl ⟨by rfl, ?y1_5⟩) (by assumption) ?r1_5
  case y1_5 => (intro w hSw; (try dsimp only at hSw); go_simp; try with_reducible rfl)
  (try simp only [Act.put, List.getElem_toArray, List.getElem_cons_zero, List.getElem_cons_succ, List.setIfInBounds_toArray, List.set_cons_zero, List.set_cons_succ])
  refine wpAnyH_take (i := 6) (v := ?v1_6) rfl (by kernel_rfl) (by kernel_rfl) (by kernel_rfl) (fun _ _ _ h => h) (Or.inl ⟨by rfl, ?y1_6⟩) (by assumption) ?r1_6
  case y1_6 => (intro w hSw; (try dsimp only at hSw); go_simp; try with_reducible rfl)
  (try simp only [Act.put, List.getElem_toArray, List.getElem_cons_zero, List.getElem_cons_succ, List.setIfInBounds_toArray, List.set_cons_zero, List.set_cons_succ])
  refine wpAnyH_take (i := 7) (v := ?v1_7) rfl (by kernel_rfl) (by kernel_rfl) (by kernel_rfl) (fun _ _ _ h => h) (Or.inl ⟨by rfl, ?y1_7⟩) (by assumption) ?r1_7
  case y1_7 => (intro w hSw; (try dsimp only at hSw); go_simp; try with_reducible rfl)
  (try simp only [Act.put, List.getElem_toArray, List.getElem_cons_zero, List.getElem_cons_succ, List.setIfInBounds_toArray, List.set_cons_zero, List.set_cons_succ])
  refine wpAnyH_take (i := 8) (v := ?v1_8) rfl (by kernel_rfl) (by kernel_rfl) (by kernel_rfl) (fun _ _ _ h => h) (Or.inl ⟨by rfl, ?y1_8⟩) (by assumption) ?r1_8
  case y1_8 => (intro w hSw; (try dsimp only at hSw); go_simp; try with_reducible rfl)
  (try simp only [Act.put, List.getElem_toArray, List.getElem_cons_zero, List.getElem_cons_succ, List.setIfInBounds_toArray, List.set_cons_zero, List.set_cons_succ])
  refine wpAnyH_ready (rs := [4]) (by kernel_rfl) (by simp) ?_
  refine AllReadyH.cons rfl (fun K hK => ?_) AllReadyH.nil
  go_simp
  refine HR.out.mono ?_
  rintro e w' ⟨rfl, rfl⟩
  go_wp2_with fail
  refine hK.out _ _ ?s1_9 (fun hHeld => ?_)
  case s1_9 => ((try dsimp only) <;> (first | exact c0))
  clear hK K
  (try simp only [Act.put, List.getElem_toArray, List.getElem_cons_zero, List.getElem_cons_succ, List.setIfInBounds_toArray, List.set_cons_zero, List.set_cons_succ])
  refine wpAnyH_take (i := 9) (v := ?v1_10) rfl (by kernel_rfl) (by kernel_rfl) (by kernel_rfl) (fun _ _ _ h => h) (Or.inl ⟨by rfl, ?y1_10⟩) (by assumption) ?r1_10
  case y1_10 => (intro w hSw; (try dsimp only at hSw); go_simp; try with_reducible rfl)
  (try simp only [Act.put, List.getElem_toArray, List.getElem_cons_zero, List.getElem_cons_succ, List.setIfInBounds_toArray, List.set_cons_zero, List.set_cons_succ])
  refine wpAnyH_take (i := 10) (v := ?v1_11) rfl (by kernel_rfl) (by kernel_rfl) (by kernel_rfl) (fun _ _ _ h => h) (Or.inl ⟨by rfl, ?y1_11⟩) (by assumption) ?r1_11
  case y1_11 => (intro w hSw; (try dsimp only at hSw); go_simp; try with_reducible rfl)
  (try simp only [Act.put, List.getElem_toArray, List.getElem_cons_zero, List.getElem_cons_succ, List.setIfInBounds_toArray, List.set_cons_zero, List.set_cons_succ])
  refine wpAnyH_take (i := 11) (v := ?v1_12) rfl (by kernel_rfl) (by kernel_rfl) (by kernel_rfl) (fun _ _ _ h => h) (Or.inl ⟨by rfl, ?y1_12⟩) (by assumption) ?r1_12
  case y1_12 => (intro w hSw; (try dsimp only at hSw); go_simp; try with_reducible rfl)
  (try simp only [Act.put, List.getElem_toArray, List.getElem_cons_zero, List.getElem_cons_succ, List.setIfInBounds_toArray, List.set_cons_zero, List.set_cons_succ])
  refine wpAnyH_done (by kernel_rfl) ?_ _
  refine NoPanic.normal ?_
  go_wp2_with fail
  go_ret
  exact ⟨by rw [← Hd.out]; rfl, (Keeps.refl [] w).drew⟩

set_option maxRecDepth 100000 in
set_option maxHeartbeats 1600000 in
theorem msays_calls {w : World} {pm n z : Nat} {M : Mtx} {Fl : List Nat} (h : MxF w pm n z M Fl) (he : Ech n z M) (ht : TzAt w) {pv gv X cv : Nat} {tv : List Value} (hv : VcAt w pv gv n X cv tv) :
    Calls Tryz.prog 34 #[P0 pm, P0 pv] w fun e w' => e = .returned (.bool (decide ((red M ⟨X, zer z⟩).x ≠ 0))) ∧ Keeps [] w w' := by
  obtain ⟨pb, L, hM, _⟩ := h
  have HR := Lib.hid (mred_calls hM hv (Rd.nil w none) (.inr ⟨rfl, rfl, rfl, rfl⟩))
  obtain ⟨hqx, _⟩ := red_len he (r := ⟨X, zer z⟩) hv.lt (zer_len z)
  generalize red M ⟨X, zer z⟩ = q at *
  clear hM hv he
  by_cases hq0 : q.x = 0
  · have hf := firstB_zero n
    rw [← hq0] at hf
    have hdec : decide (q.x ≠ 0) = false := by simp [hq0]
    rw [hdec]
    clear hdec hq0
    go_enter Tryz.func34, Tryz.ntmps34
    go_wp2_with fail
    refine HR.out.mono ?_
    rintro e w1 ⟨Lf, rfl, g1, g2, g3, g4, hRw, k1⟩
    obtain ⟨cx, tx, hb, hvx, hdx, hlx⟩ := id hRw
    have r0 := hb.cell' (i := 0) rfl
    have hFi := vcfirst_calls hvx (ht.keeps k1 (by simp))
    rw [hf] at hFi
    have HFi := Lib.hid hFi
    have HK1 := Lib.hid k1
    clear hFi hb hvx hdx hRw k1
    go_wp2_with fail
    refine HFi.out.mono ?_
    rintro e w' ⟨rfl, rfl⟩
    go_wp2_with fail
    go_ret
    exact ⟨rfl, HK1.out⟩
  · obtain ⟨ab, hab, hf, hb1, hb2⟩ := firstB_some hqx hq0
    have hdec : decide (q.x ≠ 0) = true := by simp [hq0]
    rw [hdec]
    clear hdec hq0 hb1 hb2
    go_enter Tryz.func34, Tryz.ntmps34
    go_wp2_with fail
    refine HR.out.mono ?_
    rintro e w1 ⟨Lf, rfl, g1, g2, g3, g4, hRw, k1⟩
    obtain ⟨cx, tx, hb, hvx, hdx, hlx⟩ := id hRw
    have r0 := hb.cell' (i := 0) rfl
    have hFi := vcfirst_calls hvx (ht.keeps k1 (by simp))
    rw [hf] at hFi
    have HFi := Lib.hid hFi
    have HK1 := Lib.hid k1
    have hab' : (0 : Int) ≤ (ab : Int) := by omega
    clear hFi hb hvx hdx hRw k1 hf
    go_wp2_with fail
    refine HFi.out.mono ?_
    rintro e w' ⟨rfl, rfl⟩
    go_wp2_with fail
    go_ret
    exact ⟨rfl, HK1.out⟩

/-- The data of all rows. -/
def datOf (M : Mtx) (i : Nat) : List UInt8 := match M.at i with | some q => q.d | none => []
def dats (M : Mtx) (k : Nat) : List (List UInt8) := (List.range k).map (datOf M)
theorem dats_succ (M : Mtx) (k : Nat) : dats M (k + 1) = dats M k ++ [datOf M k] := by simp [dats, List.range_succ]
theorem dats_len (M : Mtx) (k : Nat) : (dats M k).length = k := by simp [dats]

set_option maxRecDepth 100000 in
set_option maxHeartbeats 1600000 in
theorem msolve_calls {w : World} {pm n z : Nat} {M : Mtx} {Fl : List Nat} (h : MxF w pm n z M Fl) (hf : rank M = n) :
    Calls Tryz.prog 32 #[P0 pm] w (PcsPost w (dats M n)) := by
  have HFu := Lib.hid (mfull_calls h)
  obtain ⟨pb, L, hM, _⟩ := h
  have hml := hM.l
  have hn2 := hM.n2
  have hz2 := hM.z2
  have hall : ∀ i, i < n → ∃ q, M.at i = some q := fun i hi => full_at (by rw [hf, hml]) (by omega)
  have hdec : decide (rank M = n) = true := by simp [hf]
  rw [hdec] at HFu
  have HM := Lib.hid hM
  have Hall := Lib.hid hall
  clear hM hall hf hdec
  go_enter Tryz.func32, Tryz.ntmps32
  go_wp2_with fail
  refine HFu.out.mono ?_
  rintro e w1 ⟨rfl, k1⟩
  have HM1 := Lib.hid (HM.out.keepsNil k1)
  have c2 := HM1.out.b.cell' (i := 2) rfl
  have HK1 := Lib.hid k1
  clear k1 HM HFu
  go_wp2_with fail
  clear c2
  go_loopw [3, 14] (fun o i wr => ∃ k : Nat, k ≤ n ∧ i = .int .i64 k ∧ Pcs wr w1.heap.size o (dats M k) ∧ Keeps [] w1 wr) (fun _ i _ => n - (intOf i).toNat)
  case atStart => exact ⟨0, Nat.zero_le _, rfl, Pcs.nil _ _, Keeps.refl _ _⟩
  case round =>
    obtain ⟨k, hk, rfl, hP, hK⟩ := hrel
    by_cases hlt : k < n
    · have hMr := HM1.out.keepsNil hK
      have hpk := hMr.ptr hlt
      obtain ⟨q, hq⟩ := Hall.out k hlt
      rw [hq] at hpk
      simp only [ptrOf] at hpk
      obtain ⟨cx, tx, hb, hvx, hdx, hlx⟩ := hMr.row k q hq
      have r1 := hb.cell' (i := 1) rfl
      have hrd : Rd wr (some ⟨(L k).d, 0, none⟩) q.d := Rd.blk hdx 0 q.d (fun i u hu => by rw [Nat.zero_add, List.getElem?_map, hu]; rfl)
      have hsn : dats M (k + 1) = dats M k ++ [q.d] := by rw [dats_succ]; unfold datOf; rw [hq]
      have htl := dats_len M k
      have hC := clone_calls (w := wr) (some ⟨(L k).d, 0, none⟩) q.d.length z q.d hrd rfl (by omega) (by simp)
      rw [hlx] at hC
      generalize q.d = b at *
      generalize dats M k = Lk at *
      have HP := Lib.hid hP
      have HK := Lib.hid hK
      have Hsn := Lib.hid hsn
      have HC := Lib.hid hC
      have hkn : (k : Int) < (n : Int) := by omega
      clear hrd hP hK hsn hC hMr hq hb hvx hdx
      go_wp2_with fail
      refine HC.out.mono ?_
      rintro e w2 ⟨v2, rfl, hO2, k2⟩
      obtain ⟨a2, c2, rfl, r1', r2, r3, r4, r5⟩ := hO2.rds
      have HU := Lib.hid (show RdS w2 (.slice a2 b.length c2) b from ⟨a2, c2, rfl, r1', r2, r3, r4, r5⟩)
      rw [hlx] at HU ⊢
      have HKW := Lib.hid k2
      clear r3 r4 r5 hO2 k2
      obtain ⟨vs, hO, hvl, hve⟩ := HP.out
      have kB : Keeps [] w2 (w2.alloc (.cells #[.slice a2 z c2] 28)) := (Keeps.refl [] w2).alloc _
      have HUB := Lib.hid ((show RdS w2 (.slice a2 z c2) (b) from HU.out).keepsNil kB)
      have HOw := Lib.hid (hO.keeps (HKW.out.trans kB) (by simp))
      have Hve2 := Lib.hid (fun (i : Nat) (x : List UInt8) (hx : (Lk)[i]? = some x) => by obtain ⟨u, hu, hr⟩ := hve i x hx; exact (⟨u, hu, hr.keepsNil (HKW.out.trans kB)⟩ : ∃ u, vs[i]? = some u ∧ RdS (w2.alloc (.cells #[.slice a2 z c2] 28)) u x))
      have HX := Lib.hid (show (w2.alloc (.cells #[.slice a2 z c2] 28)).cell? ⟨w2.heap.size, 0, none⟩ = some (.slice a2 z c2) from (Blk.newA w2 28 #[.slice a2 z c2]).cell' rfl)
      have hB : w1.heap.size ≤ (w2.alloc (.cells #[.slice a2 z c2] 28)).heap.size := by have := HK.out.size; have := HKW.out.size; simp; omega
      have hvl6 : vs.length ≤ 1000000 := by omega
      have HK2 := Lib.hid ((HK.out.trans HKW.out).trans kB)
      have Hvl := Lib.hid hvl
      clear hO hve kB hvl
      go_wp2_with (at_builtin; (refine wpList_append_bs rfl (.tmp 18) (.tmp 24) rfl HOw.out rfl (.slice a2 z c2) rfl _ 0 1 rfl HX.out hvl6 hB ?_); intro v3 w3 g1 g2 g3)
      go_roundw
      case rel =>
        refine ⟨k + 1, by omega, by go_num, ?_, HK2.out.grown g2 (fun x hx => .inr (HOw.out.block hx).1)⟩
        rw [Hsn.out]
        exact Pcs.snoc HOw.out Hvl.out Hve2.out HUB.out g1 g2
      case measure => simp [intOf]; omega
    · obtain rfl : k = n := by omega
      have HP := Lib.hid hP
      have HKr := Lib.hid hK
      have hsw := HK1.out.size
      clear hP hK
      go_wp2_with fail
      go_ret
      exact ⟨_, rfl, HP.out.mono hsw, HK1.out.trans HKr.out⟩

end Go.Proofs.YtghgmchgbhdldaaGreatDoor
