/-
  Cd4: code.New that refuses; Head.Pieces, Head.Symbol; walked (printed by cd4.py).
-/
import Derived.Test.YtghgmchgbhdldaaGreatDoorCd3
set_option linter.unusedVariables false
set_option linter.unusedSimpArgs false
namespace Go.Proofs.YtghgmchgbhdldaaGreatDoor
open Go.RowKit
attribute [local go_sem ↓] Go.wp_at_zero Go.wp_at_succ

set_option maxRecDepth 100000 in
set_option maxHeartbeats 1600000 in
theorem cnewbad_calls {w : World} (a : Option Addr) (n c : Nat) (s : UInt32) (k p z : Int) (h : PmOk k p z = false) :
    Calls Tryz.prog 17 #[.agg #[B32 s, .int .i64 k, .int .i64 p, .int .i64 z], .slice a n c] w fun e w' => e = .returned (.pointer none) ∧ Keeps [] w w' := by
  have hM := fun w => may_calls (w := w) s k p z
  simp only [h] at hM
  have HM := Lib.hid hM
  clear hM
  have kA : Keeps [] w (w.alloc (.cells #[B32 s, .int .i64 k, .int .i64 p, .int .i64 z] 24)) := (Keeps.refl [] w).alloc _
  have hB := Blk.newA w 24 #[B32 s, .int .i64 k, .int .i64 p, .int .i64 z]
  have c0 := hB.cell' (i := 0) rfl
  have c1 := hB.cell' (i := 1) rfl
  have c2 := hB.cell' (i := 2) rfl
  have c3 := hB.cell' (i := 3) rfl
  clear hB
  go_enter Tryz.func17, Tryz.ntmps17
  go_wp2_with fail
  generalize w.alloc (.cells #[B32 s, .int .i64 k, .int .i64 p, .int .i64 z] 24) = w0 at *
  refine wp_region_noPanic ?_
  refine wp_region_held_drew (S := (fun w' => w'.cell? ⟨w.heap.size, 0, none⟩ = some (B32 s) ∧ w'.cell? ⟨w.heap.size, 1, none⟩ = some (.int .i64 k) ∧ w'.cell? ⟨w.heap.size, 2, none⟩ = some (.int .i64 p) ∧ w'.cell? ⟨w.heap.size, 3, none⟩ = some (.int .i64 z))) (by kernel_rfl) ⟨c0, c1, c2, c3⟩ (fun hHeld => ?_)
  have kd : Keeps [] w0 w0.drew := (Keeps.refl [] w0).drew
  refine wpAnyH_take (i := 0) (v := ?v1_1) rfl (by kernel_rfl) (by kernel_rfl) (by kernel_rfl) (fun _ _ _ h => h) (Or.inl ⟨by rfl, ?y1_1⟩) (by assumption) ?r1_1
  case y1_1 => (intro w hSw; (try dsimp only at hSw); go_simp; try with_reducible rfl)
  (try simp only [Act.put, List.getElem_toArray, List.getElem_cons_zero, List.getElem_cons_succ, List.setIfInBounds_toArray, List.set_cons_zero, List.set_cons_succ])
  refine wpAnyH_ready (rs := [1]) (by kernel_rfl) (by simp) ?_
  refine AllReadyH.cons rfl (fun K hK => ?_) AllReadyH.nil
  go_simp
  refine (HM.out _).mono ?_
  rintro e w1 ⟨rfl, k1⟩
  replace kd := kd.trans k1
  go_wp2_with fail
  refine hK.out _ _ ?s1_2 (fun hHeld => ?_)
  case s1_2 => ((try dsimp only) <;> (first | exact ⟨kd.cell0 c0, kd.cell0 c1, kd.cell0 c2, kd.cell0 c3⟩))
  clear hK K
  (try simp only [Act.put, List.getElem_toArray, List.getElem_cons_zero, List.getElem_cons_succ, List.setIfInBounds_toArray, List.set_cons_zero, List.set_cons_succ])
  refine wpAnyH_take (i := 2) (v := ?v1_3) rfl (by kernel_rfl) (by kernel_rfl) (by kernel_rfl) (fun _ _ _ h => h) (Or.inl ⟨by rfl, ?y1_3⟩) (by assumption) ?r1_3
  case y1_3 => (intro w hSw; (try dsimp only at hSw); go_simp; try with_reducible rfl)
  (try simp only [Act.put, List.getElem_toArray, List.getElem_cons_zero, List.getElem_cons_succ, List.setIfInBounds_toArray, List.set_cons_zero, List.set_cons_succ])
  refine wpAnyH_take (i := 3) (v := ?v1_4) rfl (by kernel_rfl) (by kernel_rfl) (by kernel_rfl) (fun _ _ _ h => h) (Or.inl ⟨by rfl, ?y1_4⟩) (by assumption) ?r1_4
  case y1_4 => (intro w hSw; (try dsimp only at hSw); go_simp; try with_reducible rfl)
  (try simp only [Act.put, List.getElem_toArray, List.getElem_cons_zero, List.getElem_cons_succ, List.setIfInBounds_toArray, List.set_cons_zero, List.set_cons_succ])
  refine wpAnyH_take (i := 4) (v := undef) rfl (by kernel_rfl) (by kernel_rfl) (by kernel_rfl) (fun _ _ _ h => h) (Or.inr ⟨by rfl, rfl⟩) (by assumption) ?_
  (try simp only [Act.put, List.getElem_toArray, List.getElem_cons_zero, List.getElem_cons_succ, List.setIfInBounds_toArray, List.set_cons_zero, List.set_cons_succ])
  refine wpAnyH_take (i := 5) (v := undef) rfl (by kernel_rfl) (by kernel_rfl) (by kernel_rfl) (fun _ _ _ h => h) (Or.inr ⟨by rfl, rfl⟩) (by assumption) ?_
  (try simp only [Act.put, List.getElem_toArray, List.getElem_cons_zero, List.getElem_cons_succ, List.setIfInBounds_toArray, List.set_cons_zero, List.set_cons_succ])
  refine wpAnyH_take (i := 6) (v := undef) rfl (by kernel_rfl) (by kernel_rfl) (by kernel_rfl) (fun _ _ _ h => h) (Or.inr ⟨by rfl, rfl⟩) (by assumption) ?_
  (try simp only [Act.put, List.getElem_toArray, List.getElem_cons_zero, List.getElem_cons_succ, List.setIfInBounds_toArray, List.set_cons_zero, List.set_cons_succ])
  refine wpAnyH_take (i := 7) (v := undef) rfl (by kernel_rfl) (by kernel_rfl) (by kernel_rfl) (fun _ _ _ h => h) (Or.inr ⟨by rfl, rfl⟩) (by assumption) ?_
  (try simp only [Act.put, List.getElem_toArray, List.getElem_cons_zero, List.getElem_cons_succ, List.setIfInBounds_toArray, List.set_cons_zero, List.set_cons_succ])
  refine wpAnyH_take (i := 8) (v := undef) rfl (by kernel_rfl) (by kernel_rfl) (by kernel_rfl) (fun _ _ _ h => h) (Or.inr ⟨by rfl, rfl⟩) (by assumption) ?_
  (try simp only [Act.put, List.getElem_toArray, List.getElem_cons_zero, List.getElem_cons_succ, List.setIfInBounds_toArray, List.set_cons_zero, List.set_cons_succ])
  refine wpAnyH_take (i := 9) (v := undef) rfl (by kernel_rfl) (by kernel_rfl) (by kernel_rfl) (fun _ _ _ h => h) (Or.inr ⟨by rfl, rfl⟩) (by assumption) ?_
  (try simp only [Act.put, List.getElem_toArray, List.getElem_cons_zero, List.getElem_cons_succ, List.setIfInBounds_toArray, List.set_cons_zero, List.set_cons_succ])
  refine wpAnyH_take (i := 10) (v := undef) rfl (by kernel_rfl) (by kernel_rfl) (by kernel_rfl) (fun _ _ _ h => h) (Or.inr ⟨by rfl, rfl⟩) (by assumption) ?_
  (try simp only [Act.put, List.getElem_toArray, List.getElem_cons_zero, List.getElem_cons_succ, List.setIfInBounds_toArray, List.set_cons_zero, List.set_cons_succ])
  refine wpAnyH_take (i := 11) (v := undef) rfl (by kernel_rfl) (by kernel_rfl) (by kernel_rfl) (fun _ _ _ h => h) (Or.inr ⟨by rfl, rfl⟩) (by assumption) ?_
  (try simp only [Act.put, List.getElem_toArray, List.getElem_cons_zero, List.getElem_cons_succ, List.setIfInBounds_toArray, List.set_cons_zero, List.set_cons_succ])
  refine wpAnyH_take (i := 12) (v := ?v1_5) rfl (by kernel_rfl) (by kernel_rfl) (by kernel_rfl) (fun _ _ _ h => h) (Or.inl ⟨by rfl, ?y1_5⟩) (by assumption) ?r1_5
  case y1_5 => (intro w hSw; (try dsimp only at hSw); go_simp; try with_reducible rfl)
  (try simp only [Act.put, List.getElem_toArray, List.getElem_cons_zero, List.getElem_cons_succ, List.setIfInBounds_toArray, List.set_cons_zero, List.set_cons_succ])
  refine wpAnyH_done (by kernel_rfl) ?_ _
  refine NoPanic.normal ?_
  have HK1 := Lib.hid (kA.trans kd)
  clear c0 c1 c2 c3 hHeld kd kA k1
  go_wp2_with fail
  go_ret
  exact ⟨rfl, HK1.out⟩

set_option maxRecDepth 100000 in
set_option maxHeartbeats 1600000 in
theorem cnewno_calls {w : World} (a : Option Addr) (n c : Nat) (s : UInt32) (k : Int) (p : Int) (z : Nat) (h : PmOk k p z = true) (hn : n ≤ 512) (hz1 : 1 ≤ z) (hz2 : z ≤ 16) (hne : ((bcount n z : Nat) : Int) ≠ k) :
    Calls Tryz.prog 17 #[.agg #[B32 s, .int .i64 k, .int .i64 p, .int .i64 z], .slice a n c] w fun e w' => e = .returned (.pointer none) ∧ Keeps [] w w' := by
  have hM := fun w => may_calls (w := w) s k p z
  simp only [h] at hM
  have HM := Lib.hid hM
  have hC := fun w => bcount_calls (w := w) n z hn hz1 hz2
  generalize bcount n z = q at *
  have HC := Lib.hid hC
  have hqk : ((q : Int) != k) = true := by simpa using hne
  clear hM hC hne
  have kA : Keeps [] w (w.alloc (.cells #[B32 s, .int .i64 k, .int .i64 p, .int .i64 z] 24)) := (Keeps.refl [] w).alloc _
  have hB := Blk.newA w 24 #[B32 s, .int .i64 k, .int .i64 p, .int .i64 z]
  have c0 := hB.cell' (i := 0) rfl
  have c1 := hB.cell' (i := 1) rfl
  have c2 := hB.cell' (i := 2) rfl
  have c3 := hB.cell' (i := 3) rfl
  clear hB
  go_enter Tryz.func17, Tryz.ntmps17
  go_wp2_with fail
  generalize w.alloc (.cells #[B32 s, .int .i64 k, .int .i64 p, .int .i64 z] 24) = w0 at *
  refine wp_region_noPanic ?_
  refine wp_region_held_drew (S := (fun w' => w'.cell? ⟨w.heap.size, 0, none⟩ = some (B32 s) ∧ w'.cell? ⟨w.heap.size, 1, none⟩ = some (.int .i64 k) ∧ w'.cell? ⟨w.heap.size, 2, none⟩ = some (.int .i64 p) ∧ w'.cell? ⟨w.heap.size, 3, none⟩ = some (.int .i64 z))) (by kernel_rfl) ⟨c0, c1, c2, c3⟩ (fun hHeld => ?_)
  have kd : Keeps [] w0 w0.drew := (Keeps.refl [] w0).drew
  refine wpAnyH_take (i := 0) (v := ?v2_6) rfl (by kernel_rfl) (by kernel_rfl) (by kernel_rfl) (fun _ _ _ h => h) (Or.inl ⟨by rfl, ?y2_6⟩) (by assumption) ?r2_6
  case y2_6 => (intro w hSw; (try dsimp only at hSw); go_simp; try with_reducible rfl)
  (try simp only [Act.put, List.getElem_toArray, List.getElem_cons_zero, List.getElem_cons_succ, List.setIfInBounds_toArray, List.set_cons_zero, List.set_cons_succ])
  refine wpAnyH_ready (rs := [1]) (by kernel_rfl) (by simp) ?_
  refine AllReadyH.cons rfl (fun K hK => ?_) AllReadyH.nil
  go_simp
  refine (HM.out _).mono ?_
  rintro e w1 ⟨rfl, k1⟩
  replace kd := kd.trans k1
  go_wp2_with fail
  refine hK.out _ _ ?s2_7 (fun hHeld => ?_)
  case s2_7 => ((try dsimp only) <;> (first | exact ⟨kd.cell0 c0, kd.cell0 c1, kd.cell0 c2, kd.cell0 c3⟩))
  clear hK K
  (try simp only [Act.put, List.getElem_toArray, List.getElem_cons_zero, List.getElem_cons_succ, List.setIfInBounds_toArray, List.set_cons_zero, List.set_cons_succ])
  refine wpAnyH_take (i := 2) (v := ?v2_8) rfl (by kernel_rfl) (by kernel_rfl) (by kernel_rfl) (fun _ _ _ h => h) (Or.inl ⟨by rfl, ?y2_8⟩) (by assumption) ?r2_8
  case y2_8 => (intro w hSw; (try dsimp only at hSw); go_simp; try with_reducible rfl)
  (try simp only [Act.put, List.getElem_toArray, List.getElem_cons_zero, List.getElem_cons_succ, List.setIfInBounds_toArray, List.set_cons_zero, List.set_cons_succ])
  refine wpAnyH_take (i := 3) (v := ?v2_9) rfl (by kernel_rfl) (by kernel_rfl) (by kernel_rfl) (fun _ _ _ h => h) (Or.inl ⟨by rfl, ?y2_9⟩) (by assumption) ?r2_9
  case y2_9 => (intro w hSw; (try dsimp only at hSw); go_simp; try with_reducible rfl)
  (try simp only [Act.put, List.getElem_toArray, List.getElem_cons_zero, List.getElem_cons_succ, List.setIfInBounds_toArray, List.set_cons_zero, List.set_cons_succ])
  refine wpAnyH_take (i := 4) (v := ?v2_10) rfl (by kernel_rfl) (by kernel_rfl) (by kernel_rfl) (fun _ _ _ h => h) (Or.inl ⟨by rfl, ?y2_10⟩) (by assumption) ?r2_10
  case y2_10 => (intro w hSw; (try dsimp only at hSw); go_simp; try with_reducible rfl)
  (try simp only [Act.put, List.getElem_toArray, List.getElem_cons_zero, List.getElem_cons_succ, List.setIfInBounds_toArray, List.set_cons_zero, List.set_cons_succ])
  refine wpAnyH_take (i := 5) (v := ?v2_11) rfl (by kernel_rfl) (by kernel_rfl) (by kernel_rfl) (fun _ _ _ h => h) (Or.inl ⟨by rfl, ?y2_11⟩) (by assumption) ?r2_11
  case y2_11 => (intro w hSw; (try dsimp only at hSw); go_simp; try with_reducible rfl)
  (try simp only [Act.put, List.getElem_toArray, List.getElem_cons_zero, List.getElem_cons_succ, List.setIfInBounds_toArray, List.set_cons_zero, List.set_cons_succ])
  refine wpAnyH_take (i := 6) (v := ?v2_12) rfl (by kernel_rfl) (by kernel_rfl) (by kernel_rfl) (fun _ _ _ h => h) (Or.inl ⟨by rfl, ?y2_12⟩) (by assumption) ?r2_12
  case y2_12 => (intro w hSw; (try dsimp only at hSw); go_simp; try with_reducible rfl)
  (try simp only [Act.put, List.getElem_toArray, List.getElem_cons_zero, List.getElem_cons_succ, List.setIfInBounds_toArray, List.set_cons_zero, List.set_cons_succ])
  refine wpAnyH_take (i := 7) (v := ?v2_13) rfl (by kernel_rfl) (by kernel_rfl) (by kernel_rfl) (fun _ _ _ h => h) (Or.inl ⟨by rfl, ?y2_13⟩) (by assumption) ?r2_13
  case y2_13 => (intro w hSw; (try dsimp only at hSw); go_simp; try with_reducible rfl)
  (try simp only [Act.put, List.getElem_toArray, List.getElem_cons_zero, List.getElem_cons_succ, List.setIfInBounds_toArray, List.set_cons_zero, List.set_cons_succ])
  refine wpAnyH_take (i := 9) (v := ?v2_14) rfl (by kernel_rfl) (by kernel_rfl) (by kernel_rfl) (fun _ _ _ h => h) (Or.inl ⟨by rfl, ?y2_14⟩) (by assumption) ?r2_14
  case y2_14 => (intro w hSw; (try dsimp only at hSw); go_simp; try with_reducible rfl)
  (try simp only [Act.put, List.getElem_toArray, List.getElem_cons_zero, List.getElem_cons_succ, List.setIfInBounds_toArray, List.set_cons_zero, List.set_cons_succ])
  refine wpAnyH_take (i := 10) (v := ?v2_15) rfl (by kernel_rfl) (by kernel_rfl) (by kernel_rfl) (fun _ _ _ h => h) (Or.inl ⟨by rfl, ?y2_15⟩) (by assumption) ?r2_15
  case y2_15 => (intro w hSw; (try dsimp only at hSw); go_simp; try with_reducible rfl)
  (try simp only [Act.put, List.getElem_toArray, List.getElem_cons_zero, List.getElem_cons_succ, List.setIfInBounds_toArray, List.set_cons_zero, List.set_cons_succ])
  refine wpAnyH_ready (rs := [8]) (by kernel_rfl) (by simp) ?_
  refine AllReadyH.cons rfl (fun K hK => ?_) AllReadyH.nil
  go_simp
  refine (HC.out _).mono ?_
  rintro e w' ⟨rfl, rfl⟩
  go_wp2_with fail
  refine hK.out _ _ ?s2_16 (fun hHeld => ?_)
  case s2_16 => ((try dsimp only) <;> (first | exact ⟨kd.cell0 c0, kd.cell0 c1, kd.cell0 c2, kd.cell0 c3⟩))
  clear hK K
  (try simp only [Act.put, List.getElem_toArray, List.getElem_cons_zero, List.getElem_cons_succ, List.setIfInBounds_toArray, List.set_cons_zero, List.set_cons_succ])
  refine wpAnyH_take (i := 11) (v := ?v2_17) rfl (by kernel_rfl) (by kernel_rfl) (by kernel_rfl) (fun _ _ _ h => h) (Or.inl ⟨by rfl, ?y2_17⟩) (by assumption) ?r2_17
  case y2_17 => (intro w hSw; (try dsimp only at hSw); go_simp; try with_reducible rfl)
  (try simp only [Act.put, List.getElem_toArray, List.getElem_cons_zero, List.getElem_cons_succ, List.setIfInBounds_toArray, List.set_cons_zero, List.set_cons_succ])
  refine wpAnyH_take (i := 12) (v := ?v2_18) rfl (by kernel_rfl) (by kernel_rfl) (by kernel_rfl) (fun _ _ _ h => h) (Or.inl ⟨by rfl, ?y2_18⟩) (by assumption) ?r2_18
  case y2_18 => (intro w hSw; (try dsimp only at hSw); go_simp; try with_reducible rfl)
  (try simp only [Act.put, List.getElem_toArray, List.getElem_cons_zero, List.getElem_cons_succ, List.setIfInBounds_toArray, List.set_cons_zero, List.set_cons_succ])
  refine wpAnyH_done (by kernel_rfl) ?_ _
  refine NoPanic.normal ?_
  have HK1 := Lib.hid (kA.trans kd)
  clear c0 c1 c2 c3 hHeld kd kA k1
  go_wp2_with fail
  go_ret
  exact ⟨rfl, HK1.out⟩

theorem hdsymbolNil_calls {w : World} (id : UInt32) : Calls Tryz.prog 18 #[.pointer none, B32 id] w fun e w' => e = .returned (.slice none 0 0) ∧ w = w' := by
  go_enter Tryz.func18, Tryz.ntmps18
  go_wp2_with fail
  go_ret
  exact ⟨rfl, rfl⟩

theorem pieces_len (s : UInt32) (nK P z : Nat) (img : List UInt8) : (pieces s nK P z img).length = nK + P := by unfold pieces; rw [ball_len, bsplit_len]
theorem pieces_each {s : UInt32} {nK P z : Nat} {img : List UInt8} (h : img.length ≤ nK * z) : ∀ x ∈ pieces s nK P z img, x.length = z := ball_each (bsplit_each h (Nat.le_refl _))

def SymPost (w : World) (Q : Nat → Prop) (p : Nat) (s : UInt32) (nK P z : Nat) (img : List UInt8) (id : UInt32) (e : Ending) (w' : World) : Prop :=
  ∃ g, e = .returned (.slice (some ⟨g, 0, none⟩) z z) ∧ w.heap.size ≤ g ∧ Blk w' g 5 ((symb s nK P z img id).map B8) ∧ Hd w' (fun x => Q x ∨ w.heap.size ≤ x) p s nK P z img ∧ Keeps [p] w w'

theorem symb_each {s : UInt32} {nK P z : Nat} {img : List UInt8} {id : UInt32} (h1 : 1 ≤ nK) (h2 : nK + P ≤ 256) (h : img.length ≤ nK * z) : ∀ x ∈ (rowL s nK P id).map (fun i => (pieces s nK P z img).getD i []), x.length = z := by
  intro x hx
  obtain ⟨i, hi, rfl⟩ := List.mem_map.1 hx
  have hb := (rowL_rising s nK P id h1 h2).2.1 i hi
  rw [List.getD_eq_getElem?_getD, List.getElem?_eq_getElem (by rw [pieces_len]; exact hb)]
  exact pieces_each h _ (List.getElem_mem _)
theorem symb_len {s : UInt32} {nK P z : Nat} {img : List UInt8} {id : UInt32} (h1 : 1 ≤ nK) (h2 : nK + P ≤ 256) (h : img.length ≤ nK * z) : (symb s nK P z img id).length = z := bsum_len (zer_len _) (symb_each h1 h2 h)

set_option maxRecDepth 100000 in
set_option maxHeartbeats 1600000 in
theorem hdsymbol_calls {w : World} {p : Nat} {s : UInt32} {nK P z : Nat} {img : List UInt8} {Q : Nat → Prop} (h : Hd w Q p s nK P z img) (id : UInt32) :
    Calls Tryz.prog 18 #[.pointer (some ⟨p, 0, none⟩), B32 id] w (SymPost w Q p s nK P z img id) := by
  have hG := hdpieces_calls h
  have hAl := pieces_len s nK P z img
  obtain ⟨f1, f2, f3, f4, f5, f6, f7, f8⟩ := h.fits
  have hk80 : nK + P ≤ 80 := by omega
  have hse := symb_each (s := s) (P := P) (img := img) (z := z) (id := id) f1 (by omega) f8
  have hsl := symb_len (s := s) (P := P) (img := img) (z := z) (id := id) f1 (by omega) f8
  have hsd : symb s nK P z img id = bsum z ((rowL s nK P id).map fun i => (pieces s nK P z img).getD i []) := rfl
  obtain ⟨hr1, hr2, hr3, hr4⟩ := rowL_rising s nK P id f1 (by omega)
  have hR := fun w => row_calls (w := w) s nK P z f1 f2 f3 f4 f5 id
  have hbits := rowN_bits s nK P id f1 (by omega)
  go_enter Tryz.func18, Tryz.ntmps18
  go_wp2_with fail
  refine hG.mono ?_
  rintro e w1 ⟨v, rfl, hRd, hH, hK1, _⟩
  clear hG h
  have HR := Lib.hid hRd
  have HH := Lib.hid hH
  have HK1 := Lib.hid hK1
  obtain ⟨a, c, rfl, _⟩ := hRd
  obtain ⟨_, _, vi, d, vl, hb, _⟩ := hH
  have c0 := hb.cell' (i := 0) rfl
  have c1 := hb.cell' (i := 1) rfl
  have c2 := hb.cell' (i := 2) rfl
  have c3 := hb.cell' (i := 3) rfl
  generalize hYq : symb s nK P z img id = Y at *
  have HYq := Lib.hid hYq
  clear hYq
  generalize pieces s nK P z img = A at *
  generalize rowN s nK P id = X at *
  generalize rowL s nK P id = R at *
  have Hse := Lib.hid hse
  have Hsl := Lib.hid hsl
  have Hsd := Lib.hid hsd
  have Hr2 := Lib.hid hr2
  have HRow := Lib.hid hR
  have Hbits := Lib.hid hbits
  have HAl := Lib.hid hAl
  clear hse hsl hsd hr1 hr2 hR hbits hAl f7 f8 hK1 hb
  go_wp2_with fail
  refine (HRow.out _).mono ?_
  rintro e w2 ⟨vp, vg, rfl, _, _, hV, k2⟩
  clear c0 c1 c2 c3
  go_wp2_with fail
  refine (vlist_calls hV).mono ?_
  rintro e w3 ⟨v3, rfl, hO3, k3⟩
  rw [Hbits.out] at hO3
  obtain ⟨ar, cr, rfl, i1, i2, i3⟩ := hO3.ints
  have Hrow := Lib.hid i3
  have HK3 := Lib.hid (k2.trans k3)
  clear hO3 i3 hV k2 k3
  go_wp2_with fail
  go_loopw [6, 21] (fun o i wr => ∃ k : Nat, k ≤ R.length ∧ i = .int .i64 k ∧ Pcs wr w3.heap.size o ((R.take k).map fun i => A.getD i []) ∧ Keeps [] w3 wr) (fun _ i _ => R.length - (intOf i).toNat)
  case atStart => exact ⟨0, Nat.zero_le _, rfl, Pcs.nil _ _, Keeps.refl _ _⟩
  case round =>
    obtain ⟨k, hk, rfl, hP, hK⟩ := hrel
    by_cases hlt : k < R.length
    · obtain ⟨g1, rfl, _, hcr⟩ := Hrow.out k hlt
      have hcr' := hK.cell0 hcr
      have hxm : R.getD k 0 ∈ R := by rw [List.getD_eq_getElem?_getD, List.getElem?_eq_getElem hlt]; exact List.getElem_mem hlt
      have hxb := Hr2.out _ hxm
      have hsn : (R.take (k + 1)).map (fun i => A.getD i []) = (R.take k).map (fun i => A.getD i []) ++ [A.getD (R.getD k 0) []] := by
        rw [List.take_add_one, List.getElem?_eq_getElem hlt, List.map_append, List.getD_eq_getElem?_getD (l := R), List.getElem?_eq_getElem hlt]; rfl
      have htl : ((R.take k).map fun i => A.getD i []).length = k := by rw [List.length_map, List.length_take]; omega
      generalize R.getD k 0 = x at *
      have hxA : x < A.length := by have := HAl.out; omega
      obtain ⟨a', c', ea, _, _, hrd, _⟩ := (HR.out.keepsNil HK3.out).keepsNil hK
      simp only [Value.slice.injEq] at ea
      obtain ⟨rfl, _, rfl⟩ := ea
      obtain ⟨g0, u, rfl, hc0, hru⟩ := hrd x (A.getD x []) (by rw [List.getD_eq_getElem?_getD, List.getElem?_eq_getElem hxA]; rfl)
      generalize A.getD x [] = b at *
      generalize (R.take k).map (fun i => A.getD i []) = Lk at *
      obtain ⟨ab, cb, rfl, b1, b2, b3, b4, b5⟩ := hru
      have HU := Lib.hid (show RdS wr (.slice ab b.length cb) b from ⟨ab, cb, rfl, b1, b2, b3, b4, b5⟩)
      have HP := Lib.hid hP
      have HK := Lib.hid hK
      have Hsn := Lib.hid hsn
      have HKW := Lib.hid (Keeps.refl [] wr)
      have hkn : (k : Int) < (R.length : Int) := by omega
      have hxi : (x : Int) < (A.length : Int) := by omega
      clear hrd b3 b4 b5 hP hK hsn hcr
      obtain ⟨vs, hO, hvl, hve⟩ := HP.out
      have kB : Keeps [] wr (wr.alloc (.cells #[.slice ab b.length cb] 28)) := (Keeps.refl [] wr).alloc _
      have HUB := Lib.hid ((show RdS wr (.slice ab b.length cb) (b) from HU.out).keepsNil kB)
      have HOw := Lib.hid (hO.keeps (HKW.out.trans kB) (by simp))
      have Hve2 := Lib.hid (fun (i : Nat) (x : List UInt8) (hx : (Lk)[i]? = some x) => by obtain ⟨u, hu, hr⟩ := hve i x hx; exact (⟨u, hu, hr.keepsNil (HKW.out.trans kB)⟩ : ∃ u, vs[i]? = some u ∧ RdS (wr.alloc (.cells #[.slice ab b.length cb] 28)) u x))
      have HX := Lib.hid (show (wr.alloc (.cells #[.slice ab b.length cb] 28)).cell? ⟨wr.heap.size, 0, none⟩ = some (.slice ab b.length cb) from (Blk.newA wr 28 #[.slice ab b.length cb]).cell' rfl)
      have hB : w3.heap.size ≤ (wr.alloc (.cells #[.slice ab b.length cb] 28)).heap.size := by have := HK.out.size; have := HKW.out.size; simp; omega
      have hvl6 : vs.length ≤ 1000000 := by omega
      have HK2 := Lib.hid ((HK.out.trans HKW.out).trans kB)
      have Hvl := Lib.hid hvl
      clear hO hve kB hvl
      go_wp2_with (at_builtin; (refine wpList_append_bs rfl (.tmp 25) (.tmp 30) rfl HOw.out rfl (.slice ab b.length cb) rfl _ 0 1 rfl HX.out hvl6 hB ?_); intro v3 w3 g1 g2 g3)
      go_roundw
      case rel =>
        refine ⟨k + 1, by omega, by go_num, ?_, HK2.out.grown g2 (fun x hx => .inr (HOw.out.block hx).1)⟩
        rw [Hsn.out]
        exact Pcs.snoc HOw.out Hvl.out Hve2.out HUB.out g1 g2
      case measure => simp [intOf]; omega
    · obtain rfl : k = R.length := by omega
      rw [List.take_length] at hP
      have HRL := Lib.hid hP.rdl
      obtain ⟨asl, csl, rfl, _⟩ := hP.rdl
      have HKr := Lib.hid hK
      have hs1 := HK1.out.size
      have hs3 := (HK3.out.trans hK).size
      have HS := Lib.hid (bsum_calls HRL.out z f5 f4 Hse.out (by rw [List.length_map]; omega) (by rw [List.length_map]; omega))
      have HE := Lib.hid (show (R.map fun i => A.getD i []).length = (R.map fun i => A.getD i []).length from rfl)
      clear hP hK
      generalize (R.map fun i => A.getD i []) = Q at *
      go_wp2_with fail
      refine HS.out.mono ?_
      rintro e w5 ⟨g, rfl, hg, hG, k5⟩
      rw [← Hsd.out] at hG ⊢
      have HG := Lib.hid hG
      clear hG
      go_wp2_with fail
      go_ret
      exact ⟨g, by rw [Hsl.out]; rfl, by omega, by rw [HYq.out]; exact HG.out, ((HH.out.keepsNil HK3.out).keepsNil HKr.out).keepsNil k5, HK1.out.trans' ((HK3.out.trans HKr.out).trans k5) (fun _ h => .inl h) (by simp)⟩

end Go.Proofs.YtghgmchgbhdldaaGreatDoor
