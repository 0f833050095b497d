/-
  RefR: the reference's Right, walked.
-/
import Derived.Test.YtghgmchgbhdldaaRefC
import Derived.Deep.RegionHeld3
import Derived.Deep.DeepMust
import Derived.Deep.RegionLaw
set_option linter.unusedVariables false
set_option linter.unusedSimpArgs false
namespace Go.Proofs.Ytghgmchgbhdldaa
open Go.RowKit
attribute [local go_sem ↓] Go.wp_at_zero Go.wp_at_succ

set_option maxRecDepth 100000 in
set_option maxHeartbeats 4000000 in
theorem rright_calls {w : World} (a : Option Addr) (n c : Nat) (l : List UInt8) (hl : Rd w a l) (hn : l.length = n) (hnc : n ≤ c) (hm : n ≤ 70368744177664) (hcm : c ≤ 9223372036854775807) (h0 : a = none → n = 0 ∧ c = 0) :
    Calls Try.prog 70 #[.slice a n c] w (RightPost w l) := by
  by_cases h4 : n < 4
  · have e : crcRight l = none := by unfold crcRight; rw [if_pos (by omega)]
    unfold RightPost
    rw [e]
    clear hl h0
    go_enter Try.func70, Try.ntmps70
    go_wp2_with fail
    have hd : decide ((n : Int) - 4 < 0) = true := by simp; omega
    go_quiet (fail)
    go_wp2_with fail
    go_ret2
    exact ⟨_, rfl, Own.nil _ _, (Keeps.refl _ _).drewN _⟩
  obtain ⟨x, rfl⟩ : ∃ x, a = some x := by
    cases a with
    | none => have := h0 rfl; omega
    | some x => exact ⟨x, rfl⟩
  obtain ⟨k, m, rfl, hm4⟩ : ∃ k m, n = k + m ∧ m = 4 := ⟨n - 4, 4, by omega, rfl⟩
  have hlt : (l.take k).length = k := by rw [List.length_take]; omega
  have hdl : (l.drop k).length = m := by rw [List.length_drop]; omega
  obtain ⟨xb, xo, rfl⟩ : ∃ b o, x = ⟨b, o, none⟩ := by
    obtain ⟨b, o, h, _⟩ := hl 0 l[0] (by rw [List.getElem?_eq_getElem (by omega)])
    simp only [Option.some.injEq] at h
    exact ⟨b, o, h⟩
  have hC := rcrc_calls (w := w.drew) (some ⟨xb, xo, none⟩) k c (l.take k) (hl.take k) hlt (by omega)
  have hF := four_calls (w := w.drew) (crcSum (l.take k))
  have hR := crcRight_iff l k (by omega)
  have hB4 : (be4 (crcSum (l.take k))).length = 4 := rfl
  have hrdd := hl.drop k
  have hsub : (k : Int) + (m : Int) - 4 = (k : Int) := by omega
  have hsub2 : ((k + m : Nat) : Int) - 4 = (k : Int) := by omega
  have hkm : k + m - k = m := by omega
  have hk0 : ¬ (k : Int) < 0 := by omega
  have i1 : (0 : Int) ≤ (k : Int) := by omega
  have i2 : (k : Int) ≤ (k : Int) + (m : Int) := by omega
  have i3 : (k : Int) + (m : Int) ≤ (c : Int) := by omega
  have i4 : ¬ c = k := by omega
  have i5 : (k : Int) ≤ (c : Int) := by omega
  have hst2 := str_run (w := w.drew) (a := some ⟨xb, xo + k, none⟩) m (c - k) (l := l.drop k) hrdd hdl (by simp)
  have hst3 := fun (w1 : World) (hk : Keeps [] w.drew w1) => str_run (w := w1) (a := some ⟨xb, xo + k, none⟩) m (c - k) (l := l.drop k) (hrdd.keepsNil ((Keeps.refl [] w).drew.trans hk)) hdl (by simp)
  have Hst3 := Lib.hid hst3
  have Hm4 := Lib.hid hm4
  generalize hB : be4 (crcSum (l.take k)) = B4 at *
  have HC := Lib.hid hC
  have HF := Lib.hid hF
  have HL := Lib.hid hl
  have HB4 := Lib.hid hB4
  clear hC hF hrdd hl hst3 hm4 hB4 hB hn h4 h0
  by_cases heq : B4 = l.drop k
  · have hb : (B4 == l.drop k) = true := by simpa using heq
    have hb2 : (!B4 == l.drop k) = false := by rw [hb]; rfl
    rw [if_pos heq] at hR
    have E := Lib.hid hR
    clear hR heq
    go_enter Try.func70, Try.ntmps70
    go_wp2_with fail
    refine wp_region_noPanic ?_
    refine wp_region_held_drew (S := fun w' => (convert 23 9 (.slice (some ⟨xb, xo + k, none⟩) m (c - k))).run Try.prog w' = .ok (.string ⟨(l.drop k).toArray⟩) w') (by kernel_rfl) (hst2) (fun hHeld => ?_)
    refine wpAnyH_take (i := 0) (v := ?vr0) rfl (by kernel_rfl) (by kernel_rfl) (by kernel_rfl) (fun _ _ _ h => h) (Or.inl ⟨by rfl, ?hyr0⟩) (by assumption) ?rsr0
    case hyr0 => (intro w hSw; (try dsimp only at hSw); go_simp; try with_reducible rfl)
    (try simp only [Act.put, List.getElem_toArray, List.getElem_cons_zero, List.getElem_cons_succ, List.setIfInBounds_toArray, List.set_cons_zero, List.set_cons_succ])
    refine wpAnyH_take (i := 1) (v := ?vr1) rfl (by kernel_rfl) (by kernel_rfl) (by kernel_rfl) (fun _ _ _ h => h) (Or.inl ⟨by rfl, ?hyr1⟩) (by assumption) ?rsr1
    case hyr1 => (intro w hSw; (try dsimp only at hSw); go_simp; try with_reducible rfl)
    (try simp only [Act.put, List.getElem_toArray, List.getElem_cons_zero, List.getElem_cons_succ, List.setIfInBounds_toArray, List.set_cons_zero, List.set_cons_succ])
    refine wpAnyH_take (i := 2) (v := ?vr2) rfl (by kernel_rfl) (by kernel_rfl) (by kernel_rfl) (fun _ _ _ h => h) (Or.inl ⟨by rfl, ?hyr2⟩) (by assumption) ?rsr2
    case hyr2 => (intro w hSw; (try dsimp only at hSw); go_simp; try with_reducible rfl)
    (try simp only [Act.put, List.getElem_toArray, List.getElem_cons_zero, List.getElem_cons_succ, List.setIfInBounds_toArray, List.set_cons_zero, List.set_cons_succ])
    refine wpAnyH_take (i := 3) (v := ?vr3) rfl (by kernel_rfl) (by kernel_rfl) (by kernel_rfl) (fun _ _ _ h => h) (Or.inl ⟨by rfl, ?hyr3⟩) (by assumption) ?rsr3
    case hyr3 => (intro w hSw; (try dsimp only at hSw); go_simp; try with_reducible rfl)
    (try simp only [Act.put, List.getElem_toArray, List.getElem_cons_zero, List.getElem_cons_succ, List.setIfInBounds_toArray, List.set_cons_zero, List.set_cons_succ])
    refine wpAnyH_take (i := 4) (v := ?vr4) rfl (by kernel_rfl) (by kernel_rfl) (by kernel_rfl) (fun _ _ _ h => h) (Or.inl ⟨by rfl, ?hyr4⟩) (by assumption) ?rsr4
    case hyr4 => (intro w hSw; (try dsimp only at hSw); go_simp; try with_reducible rfl)
    (try simp only [Act.put, List.getElem_toArray, List.getElem_cons_zero, List.getElem_cons_succ, List.setIfInBounds_toArray, List.set_cons_zero, List.set_cons_succ])
    refine wpAnyH_take (i := 9) (v := ?vr9) rfl (by kernel_rfl) (by kernel_rfl) (by kernel_rfl) (fun _ _ _ h => h) (Or.inl ⟨by rfl, ?hyr9⟩) (by assumption) ?rsr9
    case hyr9 => (intro w hSw; (try dsimp only at hSw); go_simp; try with_reducible rfl)
    (try simp only [Act.put, List.getElem_toArray, List.getElem_cons_zero, List.getElem_cons_succ, List.setIfInBounds_toArray, List.set_cons_zero, List.set_cons_succ])
    refine wpAnyH_take (i := 10) (v := ?vr10) rfl (by kernel_rfl) (by kernel_rfl) (by kernel_rfl) (fun _ _ _ h => h) (Or.inl ⟨by rfl, ?hyr10⟩) (by assumption) ?rsr10
    case hyr10 => (intro w hSw; (try dsimp only at hSw); go_simp; try with_reducible rfl)
    (try simp only [Act.put, List.getElem_toArray, List.getElem_cons_zero, List.getElem_cons_succ, List.setIfInBounds_toArray, List.set_cons_zero, List.set_cons_succ])
    refine wpAnyH_take (i := 11) (v := ?vr11) rfl (by kernel_rfl) (by kernel_rfl) (by kernel_rfl) (fun _ _ _ h => h) (Or.inl ⟨by rfl, ?hyr11⟩) (by assumption) ?rsr11
    case hyr11 => (intro w hSw; (try dsimp only at hSw); go_simp; try with_reducible rfl)
    (try simp only [Act.put, List.getElem_toArray, List.getElem_cons_zero, List.getElem_cons_succ, List.setIfInBounds_toArray, List.set_cons_zero, List.set_cons_succ])
    refine wpAnyH_take (i := 12) (v := ?vr12) rfl (by kernel_rfl) (by kernel_rfl) (by kernel_rfl) (fun _ _ _ h => h) (Or.inl ⟨by rfl, ?hyr12⟩) (by assumption) ?rsr12
    case hyr12 => (intro w hSw; (try dsimp only at hSw); go_simp; try with_reducible rfl)
    (try simp only [Act.put, List.getElem_toArray, List.getElem_cons_zero, List.getElem_cons_succ, List.setIfInBounds_toArray, List.set_cons_zero, List.set_cons_succ])
    refine wpAnyH_take (i := 5) (v := ?vr5) rfl (by kernel_rfl) (by kernel_rfl) (by kernel_rfl) (fun _ _ _ h => h) (Or.inl ⟨by rfl, ?hyr5⟩) (by assumption) ?rsr5
    case hyr5 => (intro w hSw; (try dsimp only at hSw); go_simp; try with_reducible rfl)
    (try simp only [Act.put, List.getElem_toArray, List.getElem_cons_zero, List.getElem_cons_succ, List.setIfInBounds_toArray, List.set_cons_zero, List.set_cons_succ])
    refine wpAnyH_ready (rs := [6]) (by kernel_rfl) (by simp) ?_
    refine AllReadyH.cons rfl (fun K hK => ?_) AllReadyH.nil
    go_simp
    refine HC.out.mono ?_
    rintro e w' ⟨rfl, rfl⟩
    go_wp2_with fail
    refine hK.out _ _ ?hsr6 (fun hHeld => ?_)
    case hsr6 => ((try dsimp only); first | exact hst2 | exact hst3)
    clear hK K
    (try simp only [Act.put, List.getElem_toArray, List.getElem_cons_zero, List.getElem_cons_succ, List.setIfInBounds_toArray, List.set_cons_zero, List.set_cons_succ])
    refine wpAnyH_ready (rs := [7]) (by kernel_rfl) (by simp) ?_
    refine AllReadyH.cons rfl (fun K hK => ?_) AllReadyH.nil
    go_simp
    refine HF.out.mono ?_
    rintro e w1 ⟨v, rfl, hv, hk⟩
    obtain ⟨a5, c5, rfl, hv5⟩ := hv.sl
    have hst1 := Sl.str ⟨a5, c5, rfl, hv5⟩
    have hst3 := Hst3.out w1 hk
    go_wp2_with fail
    refine hK.out _ _ ?hsr7 (fun hHeld => ?_)
    case hsr7 => ((try dsimp only); first | exact hst2 | exact hst3)
    clear hK K
    (try simp only [Act.put, List.getElem_toArray, List.getElem_cons_zero, List.getElem_cons_succ, List.setIfInBounds_toArray, List.set_cons_zero, List.set_cons_succ])
    refine wpAnyH_ready (rs := [8]) (by kernel_rfl) (by simp) ?_
    refine AllReadyH.cons rfl (fun K hK => ?_) AllReadyH.nil
    go_simp
    refine hK.out _ _ ?hsr8 (fun hHeld => ?_)
    case hsr8 => ((try dsimp only); first | exact hst2 | exact hst3)
    clear hK K
    (try simp only [Act.put, List.getElem_toArray, List.getElem_cons_zero, List.getElem_cons_succ, List.setIfInBounds_toArray, List.set_cons_zero, List.set_cons_succ])
    refine wpAnyH_take (i := 13) (v := ?vr13) rfl (by kernel_rfl) (by kernel_rfl) (by kernel_rfl) (fun _ _ _ h => h) (Or.inl ⟨by rfl, ?hyr13⟩) (by assumption) ?rsr13
    case hyr13 => (intro w hSw; (try dsimp only at hSw); go_simp; try with_reducible rfl)
    (try simp only [Act.put, List.getElem_toArray, List.getElem_cons_zero, List.getElem_cons_succ, List.setIfInBounds_toArray, List.set_cons_zero, List.set_cons_succ])
    refine wpAnyH_take (i := 14) (v := ?vr14) rfl (by kernel_rfl) (by kernel_rfl) (by kernel_rfl) (fun _ _ _ h => h) (Or.inl ⟨by rfl, ?hyr14⟩) (by assumption) ?rsr14
    case hyr14 => (intro w hSw; (try dsimp only at hSw); go_simp; try with_reducible rfl)
    (try simp only [Act.put, List.getElem_toArray, List.getElem_cons_zero, List.getElem_cons_succ, List.setIfInBounds_toArray, List.set_cons_zero, List.set_cons_succ])
    refine wpAnyH_done (by kernel_rfl) ?_ _
    refine NoPanic.normal ?_
    · have hrd := (HL.out.take k).keepsNil ((Keeps.refl [] w).drew.trans hk)
      clear hst1 hst3
      go_wp2_with (at_builtin; (refine wpList_append_bytes rfl _ _ rfl (Own.nil w1 w1.heap.size) rfl (some ⟨xb, xo, none⟩) k c rfl hrd hlt (by simp) (by simp; omega) (Nat.le_refl _) ?_); intro v2 w2 hO2 hG2 hB2)
      go_ret2
      have hs1 := hk.size
      simp only [World.size_drew] at hs1
      exact ⟨v2, by rw [E.out]; rfl, by rw [E.out]; exact hO2.mono hs1, ((Keeps.refl [] w).drew.trans hk).grown hG2 (by simp [Value.ownBlock])⟩
  · have hb : (B4 == l.drop k) = false := by simpa using heq
    have hb2 : (!B4 == l.drop k) = true := by rw [hb]; rfl
    rw [if_neg heq] at hR
    have E := Lib.hid hR
    clear hR heq
    go_enter Try.func70, Try.ntmps70
    go_wp2_with fail
    refine wp_region_noPanic ?_
    refine wp_region_held_drew (S := fun w' => (convert 23 9 (.slice (some ⟨xb, xo + k, none⟩) m (c - k))).run Try.prog w' = .ok (.string ⟨(l.drop k).toArray⟩) w') (by kernel_rfl) (hst2) (fun hHeld => ?_)
    refine wpAnyH_take (i := 0) (v := ?vz0) rfl (by kernel_rfl) (by kernel_rfl) (by kernel_rfl) (fun _ _ _ h => h) (Or.inl ⟨by rfl, ?hyz0⟩) (by assumption) ?rsz0
    case hyz0 => (intro w hSw; (try dsimp only at hSw); go_simp; try with_reducible rfl)
    (try simp only [Act.put, List.getElem_toArray, List.getElem_cons_zero, List.getElem_cons_succ, List.setIfInBounds_toArray, List.set_cons_zero, List.set_cons_succ])
    refine wpAnyH_take (i := 1) (v := ?vz1) rfl (by kernel_rfl) (by kernel_rfl) (by kernel_rfl) (fun _ _ _ h => h) (Or.inl ⟨by rfl, ?hyz1⟩) (by assumption) ?rsz1
    case hyz1 => (intro w hSw; (try dsimp only at hSw); go_simp; try with_reducible rfl)
    (try simp only [Act.put, List.getElem_toArray, List.getElem_cons_zero, List.getElem_cons_succ, List.setIfInBounds_toArray, List.set_cons_zero, List.set_cons_succ])
    refine wpAnyH_take (i := 2) (v := ?vz2) rfl (by kernel_rfl) (by kernel_rfl) (by kernel_rfl) (fun _ _ _ h => h) (Or.inl ⟨by rfl, ?hyz2⟩) (by assumption) ?rsz2
    case hyz2 => (intro w hSw; (try dsimp only at hSw); go_simp; try with_reducible rfl)
    (try simp only [Act.put, List.getElem_toArray, List.getElem_cons_zero, List.getElem_cons_succ, List.setIfInBounds_toArray, List.set_cons_zero, List.set_cons_succ])
    refine wpAnyH_take (i := 3) (v := ?vz3) rfl (by kernel_rfl) (by kernel_rfl) (by kernel_rfl) (fun _ _ _ h => h) (Or.inl ⟨by rfl, ?hyz3⟩) (by assumption) ?rsz3
    case hyz3 => (intro w hSw; (try dsimp only at hSw); go_simp; try with_reducible rfl)
    (try simp only [Act.put, List.getElem_toArray, List.getElem_cons_zero, List.getElem_cons_succ, List.setIfInBounds_toArray, List.set_cons_zero, List.set_cons_succ])
    refine wpAnyH_take (i := 4) (v := ?vz4) rfl (by kernel_rfl) (by kernel_rfl) (by kernel_rfl) (fun _ _ _ h => h) (Or.inl ⟨by rfl, ?hyz4⟩) (by assumption) ?rsz4
    case hyz4 => (intro w hSw; (try dsimp only at hSw); go_simp; try with_reducible rfl)
    (try simp only [Act.put, List.getElem_toArray, List.getElem_cons_zero, List.getElem_cons_succ, List.setIfInBounds_toArray, List.set_cons_zero, List.set_cons_succ])
    refine wpAnyH_take (i := 9) (v := ?vz9) rfl (by kernel_rfl) (by kernel_rfl) (by kernel_rfl) (fun _ _ _ h => h) (Or.inl ⟨by rfl, ?hyz9⟩) (by assumption) ?rsz9
    case hyz9 => (intro w hSw; (try dsimp only at hSw); go_simp; try with_reducible rfl)
    (try simp only [Act.put, List.getElem_toArray, List.getElem_cons_zero, List.getElem_cons_succ, List.setIfInBounds_toArray, List.set_cons_zero, List.set_cons_succ])
    refine wpAnyH_take (i := 10) (v := ?vz10) rfl (by kernel_rfl) (by kernel_rfl) (by kernel_rfl) (fun _ _ _ h => h) (Or.inl ⟨by rfl, ?hyz10⟩) (by assumption) ?rsz10
    case hyz10 => (intro w hSw; (try dsimp only at hSw); go_simp; try with_reducible rfl)
    (try simp only [Act.put, List.getElem_toArray, List.getElem_cons_zero, List.getElem_cons_succ, List.setIfInBounds_toArray, List.set_cons_zero, List.set_cons_succ])
    refine wpAnyH_take (i := 11) (v := ?vz11) rfl (by kernel_rfl) (by kernel_rfl) (by kernel_rfl) (fun _ _ _ h => h) (Or.inl ⟨by rfl, ?hyz11⟩) (by assumption) ?rsz11
    case hyz11 => (intro w hSw; (try dsimp only at hSw); go_simp; try with_reducible rfl)
    (try simp only [Act.put, List.getElem_toArray, List.getElem_cons_zero, List.getElem_cons_succ, List.setIfInBounds_toArray, List.set_cons_zero, List.set_cons_succ])
    refine wpAnyH_take (i := 12) (v := ?vz12) rfl (by kernel_rfl) (by kernel_rfl) (by kernel_rfl) (fun _ _ _ h => h) (Or.inl ⟨by rfl, ?hyz12⟩) (by assumption) ?rsz12
    case hyz12 => (intro w hSw; (try dsimp only at hSw); go_simp; try with_reducible rfl)
    (try simp only [Act.put, List.getElem_toArray, List.getElem_cons_zero, List.getElem_cons_succ, List.setIfInBounds_toArray, List.set_cons_zero, List.set_cons_succ])
    refine wpAnyH_take (i := 5) (v := ?vz5) rfl (by kernel_rfl) (by kernel_rfl) (by kernel_rfl) (fun _ _ _ h => h) (Or.inl ⟨by rfl, ?hyz5⟩) (by assumption) ?rsz5
    case hyz5 => (intro w hSw; (try dsimp only at hSw); go_simp; try with_reducible rfl)
    (try simp only [Act.put, List.getElem_toArray, List.getElem_cons_zero, List.getElem_cons_succ, List.setIfInBounds_toArray, List.set_cons_zero, List.set_cons_succ])
    refine wpAnyH_ready (rs := [6]) (by kernel_rfl) (by simp) ?_
    refine AllReadyH.cons rfl (fun K hK => ?_) AllReadyH.nil
    go_simp
    refine HC.out.mono ?_
    rintro e w' ⟨rfl, rfl⟩
    go_wp2_with fail
    refine hK.out _ _ ?hsz6 (fun hHeld => ?_)
    case hsz6 => ((try dsimp only); first | exact hst2 | exact hst3)
    clear hK K
    (try simp only [Act.put, List.getElem_toArray, List.getElem_cons_zero, List.getElem_cons_succ, List.setIfInBounds_toArray, List.set_cons_zero, List.set_cons_succ])
    refine wpAnyH_ready (rs := [7]) (by kernel_rfl) (by simp) ?_
    refine AllReadyH.cons rfl (fun K hK => ?_) AllReadyH.nil
    go_simp
    refine HF.out.mono ?_
    rintro e w1 ⟨v, rfl, hv, hk⟩
    obtain ⟨a5, c5, rfl, hv5⟩ := hv.sl
    have hst1 := Sl.str ⟨a5, c5, rfl, hv5⟩
    have hst3 := Hst3.out w1 hk
    go_wp2_with fail
    refine hK.out _ _ ?hsz7 (fun hHeld => ?_)
    case hsz7 => ((try dsimp only); first | exact hst2 | exact hst3)
    clear hK K
    (try simp only [Act.put, List.getElem_toArray, List.getElem_cons_zero, List.getElem_cons_succ, List.setIfInBounds_toArray, List.set_cons_zero, List.set_cons_succ])
    refine wpAnyH_ready (rs := [8]) (by kernel_rfl) (by simp) ?_
    refine AllReadyH.cons rfl (fun K hK => ?_) AllReadyH.nil
    go_simp
    refine hK.out _ _ ?hsz8 (fun hHeld => ?_)
    case hsz8 => ((try dsimp only); first | exact hst2 | exact hst3)
    clear hK K
    (try simp only [Act.put, List.getElem_toArray, List.getElem_cons_zero, List.getElem_cons_succ, List.setIfInBounds_toArray, List.set_cons_zero, List.set_cons_succ])
    refine wpAnyH_take (i := 13) (v := ?vz13) rfl (by kernel_rfl) (by kernel_rfl) (by kernel_rfl) (fun _ _ _ h => h) (Or.inl ⟨by rfl, ?hyz13⟩) (by assumption) ?rsz13
    case hyz13 => (intro w hSw; (try dsimp only at hSw); go_simp; try with_reducible rfl)
    (try simp only [Act.put, List.getElem_toArray, List.getElem_cons_zero, List.getElem_cons_succ, List.setIfInBounds_toArray, List.set_cons_zero, List.set_cons_succ])
    refine wpAnyH_take (i := 14) (v := ?vz14) rfl (by kernel_rfl) (by kernel_rfl) (by kernel_rfl) (fun _ _ _ h => h) (Or.inl ⟨by rfl, ?hyz14⟩) (by assumption) ?rsz14
    case hyz14 => (intro w hSw; (try dsimp only at hSw); go_simp; try with_reducible rfl)
    (try simp only [Act.put, List.getElem_toArray, List.getElem_cons_zero, List.getElem_cons_succ, List.setIfInBounds_toArray, List.set_cons_zero, List.set_cons_succ])
    refine wpAnyH_done (by kernel_rfl) ?_ _
    refine NoPanic.normal ?_
    clear hst1 hst3
    go_wp2_with fail
    go_ret2
    exact ⟨_, by rw [E.out]; rfl, by rw [E.out]; exact Own.nil _ _, (Keeps.refl [] w).drew.trans hk⟩

end Go.Proofs.Ytghgmchgbhdldaa
