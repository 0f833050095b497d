/-
  Law24k: downpourlaw24.key, Wrapped, walked.
-/
import Derived.Test.YtijhaeapoapgfaaGreatDoorMf3
import Derived.Deep.RegionHeld3
import Derived.Deep.DrawnRows
set_option linter.unusedVariables false
set_option linter.unusedSimpArgs false
namespace Go.Proofs.YtijhaeapoapgfaaGreatDoor
open Go.RowKit
attribute [local go_sem ↓] Go.wp_at_zero Go.wp_at_succ

def keyM : List UInt8 := [107, 101, 121]
def KeyPost (w : World) (e : Ending) (w' : World) : Prop := ∃ g, e = .returned (.slice (some ⟨g, 0, none⟩) 3 3) ∧ Rd w' (some ⟨g, 0, none⟩) keyM ∧ Keeps [] w w'
set_option maxRecDepth 100000 in
set_option maxHeartbeats 1600000 in
theorem key24_calls {w : World} : Calls Tryz.prog 76 #[] w (KeyPost w) := by
  have hcv := lit_conv w #[.int .u8 107, .int .u8 101, .int .u8 121] 3 3
  have HR := Lib.hid (lit_rd w #[.int .u8 107, .int .u8 101, .int .u8 121] (3, 4) keyM rfl)
  have HK : Hid (Keeps [] w (w.alloc (.cells #[.int .u8 107, .int .u8 101, .int .u8 121] 5 (3, 4)))) := Lib.hid ((Keeps.refl [] w).alloc _)
  go_enter Tryz.func76, Tryz.ntmps76
  go_wp2_with fail
  go_ret
  exact ⟨_, rfl, HR.out, HK.out⟩

theorem Blk.put6 {w : World} {p : Nat} {t : TypeId} {a0 b0 c0 d0 e0 f0 : Value} (h : Blk w p t [a0, b0, c0, d0, e0, f0]) (a b c d e f : Value) :
    Blk ((((((w.setCell ⟨p, 0, none⟩ a).setCell ⟨p, 1, none⟩ b).setCell ⟨p, 2, none⟩ c).setCell ⟨p, 3, none⟩ d).setCell ⟨p, 4, none⟩ e).setCell ⟨p, 5, none⟩ f) p t [a, b, c, d, e, f] := (((((h.set 0 a).set 1 b).set 2 c).set 3 d).set 4 e).set 5 f
theorem Keeps.put6 {S : List Nat} {w' w : World} {p : Nat} (k : Keeps S w' w) (hp : p ∈ S ∨ w'.heap.size ≤ p) (a b c d e f : Value) :
    Keeps S w' ((((((w.setCell ⟨p, 0, none⟩ a).setCell ⟨p, 1, none⟩ b).setCell ⟨p, 2, none⟩ c).setCell ⟨p, 3, none⟩ d).setCell ⟨p, 4, none⟩ e).setCell ⟨p, 5, none⟩ f) := (((((k.setCell hp _).setCell hp _).setCell hp _).setCell hp _).setCell hp _).setCell hp _

/-- A manifest's frame, and the manifest. -/
def WrpPost (w : World) (s v : UInt32) (n z P : Nat) (img : List UInt8) (e : Ending) (w' : World) : Prop :=
  ∃ x a c, e = .returned (.tuple #[x, MfV s v n z P (.slice a 32 c)]) ∧ Own w' w.heap.size x (wrapM 1 (manM keyM s v n z P (sha img))) ∧ RdS w' (.slice a 32 c) (sha img) ∧ Keeps [] w w'

set_option maxRecDepth 100000 in
set_option maxHeartbeats 1600000 in
theorem wrapped_calls {w : World} (s v : UInt32) {ai : Option Addr} {n ci : Nat} {img : List UInt8} (hi : RdS0 w (.slice ai n ci) img) (hn : img.length = n) {nK P z : Nat} (hm : MfOk n z P nK) :
    Calls Tryz.prog 35 #[B32 s, B32 v, .slice ai n ci, .int .i64 z, .int .i64 P] w (WrpPost w s v n z P img) := by
  obtain ⟨a', c', ea, _, _, r3, r4⟩ := id hi
  simp only [Value.slice.injEq] at ea
  obtain ⟨rfl, hx0, rfl⟩ := ea
  clear hx0
  have hn2 := hm.n2
  have kZ : Keeps [] w (w.alloc (.cells #[.int .u32 0, .int .u32 0, .int .i64 0, .int .i64 0, .int .i64 0, .slice none 0 0] 35)) := (Keeps.refl [] w).alloc _
  have hZ := Blk.newA w 35 #[.int .u32 0, .int .u32 0, .int .i64 0, .int .i64 0, .int .i64 0, .slice none 0 0]
  have HS := Lib.hid (rdigest_calls ai n ci img (r3.keepsNil kZ) hn (by omega) (fun h => ⟨by rw [← hn, (r4 h).1]; rfl, (r4 h).2⟩))
  have hsl := sha_len img
  unfold WrpPost
  obtain ⟨Y, hY⟩ : ∃ Y, Y = sha img := ⟨_, rfl⟩
  rw [← hY] at HS hsl ⊢
  have hml := manM_len (key := keyM) (s := s) (v := v) (n := n) (z := z) (P := P) hsl
  have hMB := fun W (g : Nat) (a : Option Addr) (c : Nat) (h1 : Rd W (some ⟨g, 0, none⟩) keyM) (h2 : RdS W (.slice a 32 c) Y) => (rmbytes_calls (ck := 3) h1 rfl (by decide) s v hm h2 hsl : Calls Tryz.prog 13 #[.slice (some ⟨g, 0, none⟩) 3 3, MfV s v n z P (.slice a 32 c)] W (PlainPost W (manM keyM s v n z P Y)))
  generalize manM keyM s v n z P Y = X at *
  have HMB := Lib.hid hMB
  have Hsl := Lib.hid hsl
  have Hml := Lib.hid hml
  have HkZ := Lib.hid kZ
  have HZ := Lib.hid hZ
  clear hi r3 r4 hsl hY hm hMB hml kZ hZ hn
  go_enter Tryz.func35, Tryz.ntmps35
  go_upto_region 1 with (fail)
  generalize w.alloc (.cells #[.int .u32 0, .int .u32 0, .int .i64 0, .int .i64 0, .int .i64 0, .slice none 0 0] 35) = wz at *
  go_wp2_with fail
  refine HS.out.mono ?_
  rintro e w1 ⟨vh, rfl, hO1, k1⟩
  have hR1 := hO1.rds
  obtain ⟨ah, ch, rfl, _⟩ := id hR1
  rw [Hsl.out] at hR1 ⊢
  have hB1 := Blk.newA w1 35 (MfL s v n z P (.slice ah 32 ch)).toArray
  have kA : Keeps [] w1 (w1.alloc (.cells (MfL s v n z P (.slice ah 32 ch)).toArray 35)) := (Keeps.refl [] w1).alloc _
  have HR1 := Lib.hid (hR1.keepsNil kA)
  have HZ1 := Lib.hid (HZ.out.keeps (k1.trans kA) (by simp))
  have HK1 := Lib.hid ((HkZ.out.trans k1).trans kA)
  clear hO1 hR1 k1 kA HS HZ HkZ
  go_upto_region 2 with (fail)
  generalize w1.alloc (.cells (MfL s v n z P (.slice ah 32 ch)).toArray 35) = w2 at *
  have d0 := hB1.cell' (i := 0) rfl
  have d1 := hB1.cell' (i := 1) rfl
  have d2 := hB1.cell' (i := 2) rfl
  have d3 := hB1.cell' (i := 3) rfl
  have d4 := hB1.cell' (i := 4) rfl
  have d5 := hB1.cell' (i := 5) rfl
  have hS : ∀ W, Keeps [] w2 W → (W.cell? ⟨w1.heap.size, 0, none⟩ = some (B32 s) ∧ W.cell? ⟨w1.heap.size, 1, none⟩ = some (B32 v) ∧ W.cell? ⟨w1.heap.size, 2, none⟩ = some (.int .i64 n) ∧ W.cell? ⟨w1.heap.size, 3, none⟩ = some (.int .i64 z) ∧ W.cell? ⟨w1.heap.size, 4, none⟩ = some (.int .i64 P) ∧ W.cell? ⟨w1.heap.size, 5, none⟩ = some (.slice ah 32 ch)) := fun W k => ⟨k.cell0 d0, k.cell0 d1, k.cell0 d2, k.cell0 d3, k.cell0 d4, k.cell0 d5⟩
  have HhS := Lib.hid hS
  have HB1 := Lib.hid hB1
  clear hS hB1
  have kd : Keeps [] w2 w2.drew := (Keeps.refl [] w2).drew
  refine wp_region_noPanic ?_
  refine wp_region_held_drew (S := (fun W => W.cell? ⟨w1.heap.size, 0, none⟩ = some (B32 s) ∧ W.cell? ⟨w1.heap.size, 1, none⟩ = some (B32 v) ∧ W.cell? ⟨w1.heap.size, 2, none⟩ = some (.int .i64 n) ∧ W.cell? ⟨w1.heap.size, 3, none⟩ = some (.int .i64 z) ∧ W.cell? ⟨w1.heap.size, 4, none⟩ = some (.int .i64 P) ∧ W.cell? ⟨w1.heap.size, 5, none⟩ = some (.slice ah 32 ch))) (by kernel_rfl) (HhS.out _ kd) (fun hHeld => ?_)
  refine wpAnyH_take (i := 1) (v := ?v1_1) rfl (by kernel_rfl) (by kernel_rfl) (by kernel_rfl) (fun _ _ _ h => h) (Or.inl ⟨by rfl, ?y1_1⟩) (by assumption) ?r1_1
  case y1_1 => (intro w hSw; (try dsimp only at hSw); go_simp; try with_reducible rfl)
  (try simp only [Act.put, List.getElem_toArray, List.getElem_cons_zero, List.getElem_cons_succ, List.setIfInBounds_toArray, List.set_cons_zero, List.set_cons_succ])
  refine wpAnyH_ready (rs := [0]) (by kernel_rfl) (by simp) ?_
  refine AllReadyH.cons rfl (fun K hK => ?_) AllReadyH.nil
  go_simp
  refine key24_calls.mono ?_
  rintro e w3 ⟨g, rfl, hg, k3⟩
  replace kd := kd.trans k3
  have HMc := Lib.hid (HMB.out w3 g ah ch hg (HR1.out.keepsNil kd))
  clear hg
  go_wp2_with fail
  refine hK.out _ _ ?s1_2 (fun hHeld => ?_)
  case s1_2 => ((try dsimp only) <;> (first | exact HhS.out _ kd))
  clear hK K
  (try simp only [Act.put, List.getElem_toArray, List.getElem_cons_zero, List.getElem_cons_succ, List.setIfInBounds_toArray, List.set_cons_zero, List.set_cons_succ])
  refine wpAnyH_ready (rs := [2]) (by kernel_rfl) (by simp) ?_
  refine AllReadyH.cons rfl (fun K hK => ?_) AllReadyH.nil
  go_simp
  refine HMc.out.mono ?_
  rintro e w4 ⟨v4, rfl, hO4, k4⟩
  replace kd := kd.trans k4
  have HO4 := Lib.hid hO4
  clear hO4
  go_wp2_with fail
  refine hK.out _ _ ?s1_3 (fun hHeld => ?_)
  case s1_3 => ((try dsimp only) <;> (first | exact HhS.out _ kd))
  clear hK K
  (try simp only [Act.put, List.getElem_toArray, List.getElem_cons_zero, List.getElem_cons_succ, List.setIfInBounds_toArray, List.set_cons_zero, List.set_cons_succ])
  refine wpAnyH_take (i := 3) (v := ?v1_4) rfl (by kernel_rfl) (by kernel_rfl) (by kernel_rfl) (fun _ _ _ h => h) (Or.inl ⟨by rfl, ?y1_4⟩) (by assumption) ?r1_4
  case y1_4 => (intro w hSw; (try dsimp only at hSw); go_simp; try with_reducible rfl)
  (try simp only [Act.put, List.getElem_toArray, List.getElem_cons_zero, List.getElem_cons_succ, List.setIfInBounds_toArray, List.set_cons_zero, List.set_cons_succ])
  refine wpAnyH_take (i := 4) (v := ?v1_5) rfl (by kernel_rfl) (by kernel_rfl) (by kernel_rfl) (fun _ _ _ h => h) (Or.inl ⟨by rfl, ?y1_5⟩) (by assumption) ?r1_5
  case y1_5 => (intro w hSw; (try dsimp only at hSw); go_simp; try with_reducible rfl)
  (try simp only [Act.put, List.getElem_toArray, List.getElem_cons_zero, List.getElem_cons_succ, List.setIfInBounds_toArray, List.set_cons_zero, List.set_cons_succ])
  refine wpAnyH_take (i := 5) (v := ?v1_6) rfl (by kernel_rfl) (by kernel_rfl) (by kernel_rfl) (fun _ _ _ h => h) (Or.inl ⟨by rfl, ?y1_6⟩) (by assumption) ?r1_6
  case y1_6 => (intro w hSw; (try dsimp only at hSw); go_simp; try with_reducible rfl)
  (try simp only [Act.put, List.getElem_toArray, List.getElem_cons_zero, List.getElem_cons_succ, List.setIfInBounds_toArray, List.set_cons_zero, List.set_cons_succ])
  refine wpAnyH_take (i := 6) (v := ?v1_7) rfl (by kernel_rfl) (by kernel_rfl) (by kernel_rfl) (fun _ _ _ h => h) (Or.inl ⟨by rfl, ?y1_7⟩) (by assumption) ?r1_7
  case y1_7 => (intro w hSw; (try dsimp only at hSw); go_simp; try with_reducible rfl)
  (try simp only [Act.put, List.getElem_toArray, List.getElem_cons_zero, List.getElem_cons_succ, List.setIfInBounds_toArray, List.set_cons_zero, List.set_cons_succ])
  refine wpAnyH_take (i := 7) (v := ?v1_8) rfl (by kernel_rfl) (by kernel_rfl) (by kernel_rfl) (fun _ _ _ h => h) (Or.inl ⟨by rfl, ?y1_8⟩) (by assumption) ?r1_8
  case y1_8 => (intro w hSw; (try dsimp only at hSw); go_simp; try with_reducible rfl)
  (try simp only [Act.put, List.getElem_toArray, List.getElem_cons_zero, List.getElem_cons_succ, List.setIfInBounds_toArray, List.set_cons_zero, List.set_cons_succ])
  refine wpAnyH_done (by kernel_rfl) ?_ _
  refine NoPanic.normal ?_
  have hR4 := HO4.out.rds
  obtain ⟨a4, c4, rfl, _⟩ := id hR4
  rw [Hml.out] at hR4 ⊢
  have HW := Lib.hid (rwrap_calls 1 (by omega) hR4 Hml.out (by omega) : Calls Tryz.prog 14 #[.int .i64 1, .slice a4 76 c4] w4 (PlainPost w4 (wrapM 1 X)))
  have HK4 := Lib.hid (HK1.out.trans kd)
  have HR4 := Lib.hid (HR1.out.keepsNil kd)
  have HZ4 := Lib.hid (HZ1.out.keeps kd (by simp))
  have HB4 := Lib.hid (HB1.out.keeps kd (by simp))
  clear hR4 kd k4 k3 HMc HMB HO4 HB1 HZ1 HR1 HK1 d0 d1 d2 d3 d4 d5 hHeld HhS
  go_wp2_with fail
  refine HW.out.mono ?_
  rintro e w5 ⟨v5, rfl, hO5, k5⟩
  have HK5 := Lib.hid (HK4.out.trans k5)
  have HO5 := Lib.hid (hO5.mono (show w.heap.size + 1 ≤ w4.heap.size from HZ4.out.lt))
  have HR5 := Lib.hid (HR4.out.keepsNil k5)
  have hZ5 := HZ4.out.keeps k5 (by simp)
  have hB5 := HB4.out.keeps k5 (by simp)
  clear hO5 k5 HW HZ4 HB4 HR4
  go_upto_region 4 with (fail)
  have d0 := hB5.cell' (i := 0) rfl
  have d1 := hB5.cell' (i := 1) rfl
  have d2 := hB5.cell' (i := 2) rfl
  have d3 := hB5.cell' (i := 3) rfl
  have d4 := hB5.cell' (i := 4) rfl
  have d5 := hB5.cell' (i := 5) rfl
  have f0 := hZ5.frozen 0
  have f1 := hZ5.frozen 1
  have f2 := hZ5.frozen 2
  have f3 := hZ5.frozen 3
  have f4 := hZ5.frozen 4
  have f5 := hZ5.frozen 5
  have z0 := hZ5.cell' (i := 0) rfl
  have z1 := hZ5.cell' (i := 1) rfl
  have z2 := hZ5.cell' (i := 2) rfl
  have z3 := hZ5.cell' (i := 3) rfl
  have z4 := hZ5.cell' (i := 4) rfl
  have z5 := hZ5.cell' (i := 5) rfl
  go_region
  have hZ6 := (hZ5.put6 (B32 s) (B32 v) (.int .i64 n) (.int .i64 z) (.int .i64 P) (.slice ah 32 ch)).drew
  have k6 := ((Keeps.refl [w.heap.size] w5).put6 (p := w.heap.size) (.inl (by simp)) (B32 s) (B32 v) (.int .i64 n) (.int .i64 z) (.int .i64 P) (.slice ah 32 ch)).drew
  have HK6 := Lib.hid (HK5.out.trans' k6 (T := []) (by simp) (fun x hx => by simp only [List.mem_singleton] at hx; subst hx; exact .inr (Nat.le_refl _)))
  have HR6 := Lib.hid (HR5.out.keepsP k6 (fun x hx => by simp only [List.mem_singleton] at hx; subst hx; exact ⟨_, _, hZ5, by decide⟩))
  have HO6 := Lib.hid ((HO5.out.keeps k6 (fun x hx hm => by simp only [List.mem_singleton] at hm; have := HO5.out.ge8 x hx; omega)).mono (show w.heap.size ≤ w.heap.size + 1 by omega))
  clear d0 d1 d2 d3 d4 d5 f0 f1 f2 f3 f4 f5 z0 z1 z2 z3 z4 z5 k6 hZ5 hB5
  have e0 := hZ6.cell' (i := 0) rfl
  have e1 := hZ6.cell' (i := 1) rfl
  have e2 := hZ6.cell' (i := 2) rfl
  have e3 := hZ6.cell' (i := 3) rfl
  have e4 := hZ6.cell' (i := 4) rfl
  have e5 := hZ6.cell' (i := 5) rfl
  generalize ((((((w5.setCell ⟨w.heap.size, 0, none⟩ (B32 s)).setCell ⟨w.heap.size, 1, none⟩ (B32 v)).setCell ⟨w.heap.size, 2, none⟩ (.int .i64 n)).setCell ⟨w.heap.size, 3, none⟩ (.int .i64 z)).setCell ⟨w.heap.size, 4, none⟩ (.int .i64 P)).setCell ⟨w.heap.size, 5, none⟩ (.slice ah 32 ch)).drew = w6 at *
  go_wp2_with fail
  refine bodyPost_ret (v := .tuple #[v5, MfV s v n z P (.slice ah 32 ch)]) (by simp [results, Tryz.results35, go_sem, e0, e1, e2, e3, e4, e5]) rfl ?_
  exact ⟨v5, ah, ch, rfl, HO6.out, HR6.out, HK6.out⟩

end Go.Proofs.YtijhaeapoapgfaaGreatDoor
