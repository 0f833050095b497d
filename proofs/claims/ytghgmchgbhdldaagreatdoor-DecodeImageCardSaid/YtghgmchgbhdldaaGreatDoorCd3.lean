/-
  Cd3: code.New, Pieces, Symbol, walked (printed by cd3.py).
-/
import Derived.Test.YtghgmchgbhdldaaGreatDoorCd2
set_option linter.unusedVariables false
set_option linter.unusedSimpArgs false
namespace Go.Proofs.YtghgmchgbhdldaaGreatDoor
open Go.RowKit
attribute [local go_sem ↓] Go.wp_at_zero Go.wp_at_succ

def HdNew (w : World) (s : UInt32) (nK P z : Nat) (img : List UInt8) (e : Ending) (w' : World) : Prop :=
  ∃ p, e = .returned (.pointer (some ⟨p, 0, none⟩)) ∧ w.heap.size ≤ p ∧ Hd w' (w.heap.size ≤ ·) p s nK P z img ∧ Keeps [] w w'

theorem Fits.ok {nK P z : Nat} {img : List UInt8} (h : Fits nK P z img) : PmOk (nK : Int) (P : Int) (z : Int) = true := by
  obtain ⟨h1, h2, h3, h4, h5, _⟩ := h
  simp [PmOk]; omega

set_option maxRecDepth 100000 in
set_option maxHeartbeats 1600000 in
theorem cnew_calls {w : World} {vi : Value} {img : List UInt8} (hi : RdS w vi img) (s : UInt32) {nK P z : Nat} (hf : Fits nK P z img) :
    Calls Tryz.prog 17 #[.agg #[B32 s, .int .i64 nK, .int .i64 P, .int .i64 z], vi] w (HdNew w s nK P z img) := by
  have hM := fun w => may_calls (w := w) s nK P z
  simp only [hf.ok] at hM
  have hC := fun w => bcount_calls (w := w) img.length z hf.l hf.z1 hf.z2
  simp only [hf.c] at hC
  have kA : Keeps [] w (w.alloc (.cells #[B32 s, .int .i64 nK, .int .i64 P, .int .i64 z] 24)) := (Keeps.refl [] w).alloc _
  have hB := Blk.newA w 24 #[B32 s, .int .i64 nK, .int .i64 P, .int .i64 z]
  have c0 := hB.cell' (i := 0) rfl
  have c1 := hB.cell' (i := 1) rfl
  have c2 := hB.cell' (i := 2) rfl
  have c3 := hB.cell' (i := 3) rfl
  obtain ⟨a, c, rfl, r1, r2, r3, r4, _⟩ := id hi
  have HI := Lib.hid hi
  have HM := Lib.hid hM
  have HC := Lib.hid hC
  have hil := hf.l
  clear hi hM hC hB
  go_enter Tryz.func17, Tryz.ntmps17
  go_wp2_with fail
  generalize w.alloc (.cells #[B32 s, .int .i64 nK, .int .i64 P, .int .i64 z] 24) = w0 at *
  refine wp_region_noPanic ?_
  refine wp_region_held_drew (S := (fun w' => w'.cell? ⟨w.heap.size, 0, none⟩ = some (B32 s) ∧ w'.cell? ⟨w.heap.size, 1, none⟩ = some (.int .i64 nK) ∧ w'.cell? ⟨w.heap.size, 2, none⟩ = some (.int .i64 P) ∧ w'.cell? ⟨w.heap.size, 3, none⟩ = some (.int .i64 z))) (by kernel_rfl) ⟨c0, c1, c2, c3⟩ (fun hHeld => ?_)
  have kd : Keeps [] w0 w0.drew := (Keeps.refl [] w0).drew
  refine wpAnyH_take (i := 0) (v := ?v1_1) rfl (by kernel_rfl) (by kernel_rfl) (by kernel_rfl) (fun _ _ _ h => h) (Or.inl ⟨by rfl, ?y1_1⟩) (by assumption) ?r1_1
  case y1_1 => (intro w hSw; (try dsimp only at hSw); go_simp; try with_reducible rfl)
  (try simp only [Act.put, List.getElem_toArray, List.getElem_cons_zero, List.getElem_cons_succ, List.setIfInBounds_toArray, List.set_cons_zero, List.set_cons_succ])
  refine wpAnyH_ready (rs := [1]) (by kernel_rfl) (by simp) ?_
  refine AllReadyH.cons rfl (fun K hK => ?_) AllReadyH.nil
  go_simp
  refine (HM.out _).mono ?_
  rintro e w1 ⟨rfl, k1⟩
  replace kd := kd.trans k1
  go_wp2_with fail
  refine hK.out _ _ ?s1_2 (fun hHeld => ?_)
  case s1_2 => ((try dsimp only) <;> (first | exact ⟨kd.cell0 c0, kd.cell0 c1, kd.cell0 c2, kd.cell0 c3⟩))
  clear hK K
  (try simp only [Act.put, List.getElem_toArray, List.getElem_cons_zero, List.getElem_cons_succ, List.setIfInBounds_toArray, List.set_cons_zero, List.set_cons_succ])
  refine wpAnyH_take (i := 2) (v := ?v1_3) rfl (by kernel_rfl) (by kernel_rfl) (by kernel_rfl) (fun _ _ _ h => h) (Or.inl ⟨by rfl, ?y1_3⟩) (by assumption) ?r1_3
  case y1_3 => (intro w hSw; (try dsimp only at hSw); go_simp; try with_reducible rfl)
  (try simp only [Act.put, List.getElem_toArray, List.getElem_cons_zero, List.getElem_cons_succ, List.setIfInBounds_toArray, List.set_cons_zero, List.set_cons_succ])
  refine wpAnyH_take (i := 3) (v := ?v1_4) rfl (by kernel_rfl) (by kernel_rfl) (by kernel_rfl) (fun _ _ _ h => h) (Or.inl ⟨by rfl, ?y1_4⟩) (by assumption) ?r1_4
  case y1_4 => (intro w hSw; (try dsimp only at hSw); go_simp; try with_reducible rfl)
  (try simp only [Act.put, List.getElem_toArray, List.getElem_cons_zero, List.getElem_cons_succ, List.setIfInBounds_toArray, List.set_cons_zero, List.set_cons_succ])
  refine wpAnyH_take (i := 4) (v := ?v1_5) rfl (by kernel_rfl) (by kernel_rfl) (by kernel_rfl) (fun _ _ _ h => h) (Or.inl ⟨by rfl, ?y1_5⟩) (by assumption) ?r1_5
  case y1_5 => (intro w hSw; (try dsimp only at hSw); go_simp; try with_reducible rfl)
  (try simp only [Act.put, List.getElem_toArray, List.getElem_cons_zero, List.getElem_cons_succ, List.setIfInBounds_toArray, List.set_cons_zero, List.set_cons_succ])
  refine wpAnyH_take (i := 5) (v := ?v1_6) rfl (by kernel_rfl) (by kernel_rfl) (by kernel_rfl) (fun _ _ _ h => h) (Or.inl ⟨by rfl, ?y1_6⟩) (by assumption) ?r1_6
  case y1_6 => (intro w hSw; (try dsimp only at hSw); go_simp; try with_reducible rfl)
  (try simp only [Act.put, List.getElem_toArray, List.getElem_cons_zero, List.getElem_cons_succ, List.setIfInBounds_toArray, List.set_cons_zero, List.set_cons_succ])
  refine wpAnyH_take (i := 6) (v := ?v1_7) rfl (by kernel_rfl) (by kernel_rfl) (by kernel_rfl) (fun _ _ _ h => h) (Or.inl ⟨by rfl, ?y1_7⟩) (by assumption) ?r1_7
  case y1_7 => (intro w hSw; (try dsimp only at hSw); go_simp; try with_reducible rfl)
  (try simp only [Act.put, List.getElem_toArray, List.getElem_cons_zero, List.getElem_cons_succ, List.setIfInBounds_toArray, List.set_cons_zero, List.set_cons_succ])
  refine wpAnyH_take (i := 7) (v := ?v1_8) rfl (by kernel_rfl) (by kernel_rfl) (by kernel_rfl) (fun _ _ _ h => h) (Or.inl ⟨by rfl, ?y1_8⟩) (by assumption) ?r1_8
  case y1_8 => (intro w hSw; (try dsimp only at hSw); go_simp; try with_reducible rfl)
  (try simp only [Act.put, List.getElem_toArray, List.getElem_cons_zero, List.getElem_cons_succ, List.setIfInBounds_toArray, List.set_cons_zero, List.set_cons_succ])
  refine wpAnyH_take (i := 9) (v := ?v1_9) rfl (by kernel_rfl) (by kernel_rfl) (by kernel_rfl) (fun _ _ _ h => h) (Or.inl ⟨by rfl, ?y1_9⟩) (by assumption) ?r1_9
  case y1_9 => (intro w hSw; (try dsimp only at hSw); go_simp; try with_reducible rfl)
  (try simp only [Act.put, List.getElem_toArray, List.getElem_cons_zero, List.getElem_cons_succ, List.setIfInBounds_toArray, List.set_cons_zero, List.set_cons_succ])
  refine wpAnyH_take (i := 10) (v := ?v1_10) rfl (by kernel_rfl) (by kernel_rfl) (by kernel_rfl) (fun _ _ _ h => h) (Or.inl ⟨by rfl, ?y1_10⟩) (by assumption) ?r1_10
  case y1_10 => (intro w hSw; (try dsimp only at hSw); go_simp; try with_reducible rfl)
  (try simp only [Act.put, List.getElem_toArray, List.getElem_cons_zero, List.getElem_cons_succ, List.setIfInBounds_toArray, List.set_cons_zero, List.set_cons_succ])
  refine wpAnyH_ready (rs := [8]) (by kernel_rfl) (by simp) ?_
  refine AllReadyH.cons rfl (fun K hK => ?_) AllReadyH.nil
  go_simp
  refine (HC.out _).mono ?_
  rintro e w' ⟨rfl, rfl⟩
  go_wp2_with fail
  refine hK.out _ _ ?s1_11 (fun hHeld => ?_)
  case s1_11 => ((try dsimp only) <;> (first | exact ⟨kd.cell0 c0, kd.cell0 c1, kd.cell0 c2, kd.cell0 c3⟩))
  clear hK K
  (try simp only [Act.put, List.getElem_toArray, List.getElem_cons_zero, List.getElem_cons_succ, List.setIfInBounds_toArray, List.set_cons_zero, List.set_cons_succ])
  refine wpAnyH_take (i := 11) (v := ?v1_12) rfl (by kernel_rfl) (by kernel_rfl) (by kernel_rfl) (fun _ _ _ h => h) (Or.inl ⟨by rfl, ?y1_12⟩) (by assumption) ?r1_12
  case y1_12 => (intro w hSw; (try dsimp only at hSw); go_simp; try with_reducible rfl)
  (try simp only [Act.put, List.getElem_toArray, List.getElem_cons_zero, List.getElem_cons_succ, List.setIfInBounds_toArray, List.set_cons_zero, List.set_cons_succ])
  refine wpAnyH_take (i := 12) (v := ?v1_13) rfl (by kernel_rfl) (by kernel_rfl) (by kernel_rfl) (fun _ _ _ h => h) (Or.inl ⟨by rfl, ?y1_13⟩) (by assumption) ?r1_13
  case y1_13 => (intro w hSw; (try dsimp only at hSw); go_simp; try with_reducible rfl)
  (try simp only [Act.put, List.getElem_toArray, List.getElem_cons_zero, List.getElem_cons_succ, List.setIfInBounds_toArray, List.set_cons_zero, List.set_cons_succ])
  refine wpAnyH_done (by kernel_rfl) ?_ _
  refine NoPanic.normal ?_
  have d0 := kd.cell0 c0
  have d1 := kd.cell0 c1
  have d2 := kd.cell0 c2
  have d3 := kd.cell0 c3
  have HK1 := Lib.hid (kA.trans kd)
  clear c0 c1 c2 c3 hHeld kd kA k1
  go_wp2_with fail
  refine wp_region_noPanic ?_
  refine wp_region_held_drew (S := (fun w' => w'.cell? ⟨w.heap.size, 0, none⟩ = some (B32 s) ∧ w'.cell? ⟨w.heap.size, 1, none⟩ = some (.int .i64 nK) ∧ w'.cell? ⟨w.heap.size, 2, none⟩ = some (.int .i64 P) ∧ w'.cell? ⟨w.heap.size, 3, none⟩ = some (.int .i64 z))) (by kernel_rfl) ⟨d0, d1, d2, d3⟩ (fun hHeld => ?_)
  have HI1 := Lib.hid (HI.out.keepsNil (HK1.out.drew))
  have kd : Keeps [] w1 w1.drew := (Keeps.refl [] w1).drew
  refine wpAnyH_take (i := 0) (v := ?v2_14) rfl (by kernel_rfl) (by kernel_rfl) (by kernel_rfl) (fun _ _ _ h => h) (Or.inl ⟨by rfl, ?y2_14⟩) (by assumption) ?r2_14
  case y2_14 => (intro w hSw; (try dsimp only at hSw); go_simp; try with_reducible rfl)
  (try simp only [Act.put, List.getElem_toArray, List.getElem_cons_zero, List.getElem_cons_succ, List.setIfInBounds_toArray, List.set_cons_zero, List.set_cons_succ])
  refine wpAnyH_take (i := 1) (v := ?v2_15) rfl (by kernel_rfl) (by kernel_rfl) (by kernel_rfl) (fun _ _ _ h => h) (Or.inl ⟨by rfl, ?y2_15⟩) (by assumption) ?r2_15
  case y2_15 => (intro w hSw; (try dsimp only at hSw); go_simp; try with_reducible rfl)
  (try simp only [Act.put, List.getElem_toArray, List.getElem_cons_zero, List.getElem_cons_succ, List.setIfInBounds_toArray, List.set_cons_zero, List.set_cons_succ])
  refine wpAnyH_ready (rs := [2]) (by kernel_rfl) (by simp) ?_
  refine AllReadyH.cons rfl (fun K hK => ?_) AllReadyH.nil
  go_simp
  have hcl : Calls Tryz.prog 35 #[.slice a img.length c] w1.drew (ClonePost w1.drew img) := by
    obtain ⟨a', c', e1, _, _, r3, r4, _⟩ := HI1.out
    simp only [Value.slice.injEq] at e1
    obtain ⟨rfl, _, rfl⟩ := e1
    exact clone_calls a img.length c img r3 rfl (by omega) (fun h => (r4 h).1)
  refine hcl.mono ?_
  rintro e w2 ⟨v2, rfl, hO2, k2⟩
  replace kd := kd.trans k2
  have hwk : w.heap.size ≤ w1.drew.heap.size := HK1.out.size
  have HR2 := Lib.hid (hO2.rda hwk)
  obtain ⟨a2, b2, rfl, _⟩ := hO2.rds
  clear hO2
  go_wp2_with fail
  refine hK.out _ _ ?s2_16 (fun hHeld => ?_)
  case s2_16 => ((try dsimp only) <;> (first | exact ⟨kd.cell0 d0, kd.cell0 d1, kd.cell0 d2, kd.cell0 d3⟩))
  clear hK K
  (try simp only [Act.put, List.getElem_toArray, List.getElem_cons_zero, List.getElem_cons_succ, List.setIfInBounds_toArray, List.set_cons_zero, List.set_cons_succ])
  refine wpAnyH_take (i := 3) (v := ?v2_17) rfl (by kernel_rfl) (by kernel_rfl) (by kernel_rfl) (fun _ _ _ h => h) (Or.inl ⟨by rfl, ?y2_17⟩) (by assumption) ?r2_17
  case y2_17 => (intro w hSw; (try dsimp only at hSw); go_simp; try with_reducible rfl)
  (try simp only [Act.put, List.getElem_toArray, List.getElem_cons_zero, List.getElem_cons_succ, List.setIfInBounds_toArray, List.set_cons_zero, List.set_cons_succ])
  refine wpAnyH_ready (rs := [4]) (by kernel_rfl) (by simp) ?_
  refine AllReadyH.cons rfl (fun K hK => ?_) AllReadyH.nil
  go_simp
  have kN : Keeps [] w2 (w2.alloc (.cells #[B32 s, .int .i64 nK, .int .i64 P, .int .i64 z, .slice a2 img.length b2, .int .u32 0, .int .i32 0, .int .u32 0, .slice none 0 0] 85)) := (Keeps.refl [] w2).alloc _
  have kd2 := kd.trans kN
  refine hK.out _ _ ?s2_18 (fun hHeld => ?_)
  case s2_18 => ((try dsimp only) <;> (first | exact ⟨kd2.cell0 d0, kd2.cell0 d1, kd2.cell0 d2, kd2.cell0 d3⟩))
  clear hK K
  (try simp only [Act.put, List.getElem_toArray, List.getElem_cons_zero, List.getElem_cons_succ, List.setIfInBounds_toArray, List.set_cons_zero, List.set_cons_succ])
  refine wpAnyH_take (i := 5) (v := ?v2_19) rfl (by kernel_rfl) (by kernel_rfl) (by kernel_rfl) (fun _ _ _ h => h) (Or.inl ⟨by rfl, ?y2_19⟩) (by assumption) ?r2_19
  case y2_19 => (intro w hSw; (try dsimp only at hSw); go_simp; try with_reducible rfl)
  (try simp only [Act.put, List.getElem_toArray, List.getElem_cons_zero, List.getElem_cons_succ, List.setIfInBounds_toArray, List.set_cons_zero, List.set_cons_succ])
  refine wpAnyH_done (by kernel_rfl) ?_ _
  refine NoPanic.normal ?_
  go_wp2_with fail
  go_ret
  have hs2 := (HK1.out.trans kd).size
  exact ⟨w2.heap.size, rfl, hs2, ⟨hf, hs2, _, 0, _, Blk.newA w2 85 #[B32 s, .int .i64 nK, .int .i64 P, .int .i64 z, .slice a2 img.length b2, .int .u32 0, .int .i32 0, .int .u32 0, .slice none 0 0], HR2.out.keepsNil kN, .inl ⟨rfl, rfl⟩⟩, (HK1.out.trans kd).trans kN⟩

end Go.Proofs.YtghgmchgbhdldaaGreatDoor
