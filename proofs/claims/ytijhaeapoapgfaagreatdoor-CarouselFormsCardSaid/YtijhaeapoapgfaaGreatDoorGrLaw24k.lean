/-
  GrLaw24k: the texts Law24k, Law26a, one behind another.
-/
import Derived.Test.YtijhaeapoapgfaaGreatDoorGrMf2
import Derived.Test.YtijhaeapoapgfaaGreatDoorGrElM
import Derived.Deep.RegionHeld3
import Derived.Deep.DrawnRows
import Derived.Test.YtijhaeapoapgfaaGreatDoorGrDeT
import Derived.Test.YtijhaeapoapgfaaGreatDoorGrFrameV
set_option linter.unusedVariables false
set_option linter.unusedSimpArgs false
namespace Go.Proofs.YtijhaeapoapgfaaGreatDoor
open Go.RowKit
attribute [local go_sem ↓] Go.wp_at_zero Go.wp_at_succ

def keyM : List UInt8 := [107, 101, 121]
def KeyPost (w : World) (e : Ending) (w' : World) : Prop := ∃ g, e = .returned (.slice (some ⟨g, 0, none⟩) 3 3) ∧ Rd w' (some ⟨g, 0, none⟩) keyM ∧ Keeps [] w w'
set_option maxRecDepth 100000 in
set_option maxHeartbeats 1600000 in
theorem key24_calls {w : World} : Calls Tryz.prog 76 #[] w (KeyPost w) := by
  have hcv := lit_conv w #[.int .u8 107, .int .u8 101, .int .u8 121] 3 3
  have HR := Lib.hid (lit_rd w #[.int .u8 107, .int .u8 101, .int .u8 121] (3, 4) keyM rfl)
  have HK : Hid (Keeps [] w (w.alloc (.cells #[.int .u8 107, .int .u8 101, .int .u8 121] 5 (3, 4)))) := Lib.hid ((Keeps.refl [] w).alloc _)
  go_enter Tryz.func76, Tryz.ntmps76
  go_wp2_with fail
  go_ret
  exact ⟨_, rfl, HR.out, HK.out⟩

/-- A manifest's frame, and the manifest. -/
def WrpPost (w : World) (s v : UInt32) (n z P : Nat) (img : List UInt8) (e : Ending) (w' : World) : Prop :=
  ∃ x a c, e = .returned (.tuple #[x, MfV s v n z P (.slice a 32 c)]) ∧ Own w' w.heap.size x (wrapM 1 (manM keyM s v n z P (sha img))) ∧ RdS w' (.slice a 32 c) (sha img) ∧ Keeps [] w w'

set_option maxRecDepth 100000 in
set_option maxHeartbeats 1600000 in
theorem wrapped_calls {w : World} (s v : UInt32) {ai : Option Addr} {n ci : Nat} {img : List UInt8} (hi : RdS0 w (.slice ai n ci) img) (hn : img.length = n) {nK P z : Nat} (hm : MfOk n z P nK) :
    Calls Tryz.prog 35 #[B32 s, B32 v, .slice ai n ci, .int .i64 z, .int .i64 P] w (WrpPost w s v n z P img) := by
  obtain ⟨a', c', ea, _, _, r3, r4⟩ := id hi
  simp only [Value.slice.injEq] at ea
  obtain ⟨rfl, hx0, rfl⟩ := ea
  clear hx0
  have hn2 := hm.n2
  have kZ : Keeps [] w (w.alloc (.cells #[.int .u32 0, .int .u32 0, .int .i64 0, .int .i64 0, .int .i64 0, .slice none 0 0] 35)) := (Keeps.refl [] w).alloc _
  have hZ := Blk.newA w 35 #[.int .u32 0, .int .u32 0, .int .i64 0, .int .i64 0, .int .i64 0, .slice none 0 0]
  have HS := Lib.hid (rdigest_calls ai n ci img (r3.keepsNil kZ) hn (by omega) (fun h => ⟨by rw [← hn, (r4 h).1]; rfl, (r4 h).2⟩))
  have hsl := sha_len img
  unfold WrpPost
  obtain ⟨Y, hY⟩ : ∃ Y, Y = sha img := ⟨_, rfl⟩
  rw [← hY] at HS hsl ⊢
  have hml := manM_len (key := keyM) (s := s) (v := v) (n := n) (z := z) (P := P) hsl
  have hMB := fun W (g : Nat) (a : Option Addr) (c : Nat) (h1 : Rd W (some ⟨g, 0, none⟩) keyM) (h2 : RdS W (.slice a 32 c) Y) => (rmbytes_calls (ck := 3) h1 rfl (by decide) s v hm h2 hsl : Calls Tryz.prog 13 #[.slice (some ⟨g, 0, none⟩) 3 3, MfV s v n z P (.slice a 32 c)] W (PlainPost W (manM keyM s v n z P Y)))
  generalize manM keyM s v n z P Y = X at *
  have HMB := Lib.hid hMB
  have Hsl := Lib.hid hsl
  have Hml := Lib.hid hml
  have HkZ := Lib.hid kZ
  have HZ := Lib.hid hZ
  clear hi r3 r4 hsl hY hm hMB hml kZ hZ hn
  go_enter Tryz.func35, Tryz.ntmps35
  go_upto_region 1 with (fail)
  generalize w.alloc (.cells #[.int .u32 0, .int .u32 0, .int .i64 0, .int .i64 0, .int .i64 0, .slice none 0 0] 35) = wz at *
  go_wp2_with fail
  refine HS.out.mono ?_
  rintro e w1 ⟨vh, rfl, hO1, k1⟩
  have hR1 := hO1.rds
  obtain ⟨ah, ch, rfl, _⟩ := id hR1
  rw [Hsl.out] at hR1 ⊢
  have hB1 := Blk.newA w1 35 (MfL s v n z P (.slice ah 32 ch)).toArray
  have kA : Keeps [] w1 (w1.alloc (.cells (MfL s v n z P (.slice ah 32 ch)).toArray 35)) := (Keeps.refl [] w1).alloc _
  have HR1 := Lib.hid (hR1.keepsNil kA)
  have HZ1 := Lib.hid (HZ.out.keeps (k1.trans kA) (by simp))
  have HK1 := Lib.hid ((HkZ.out.trans k1).trans kA)
  clear hO1 hR1 k1 kA HS HZ HkZ
  go_upto_region 2 with (fail)
  generalize w1.alloc (.cells (MfL s v n z P (.slice ah 32 ch)).toArray 35) = w2 at *
  have d0 := hB1.cell' (i := 0) rfl
  have d1 := hB1.cell' (i := 1) rfl
  have d2 := hB1.cell' (i := 2) rfl
  have d3 := hB1.cell' (i := 3) rfl
  have d4 := hB1.cell' (i := 4) rfl
  have d5 := hB1.cell' (i := 5) rfl
  have hS : ∀ W, Keeps [] w2 W → (W.cell? ⟨w1.heap.size, 0, none⟩ = some (B32 s) ∧ W.cell? ⟨w1.heap.size, 1, none⟩ = some (B32 v) ∧ W.cell? ⟨w1.heap.size, 2, none⟩ = some (.int .i64 n) ∧ W.cell? ⟨w1.heap.size, 3, none⟩ = some (.int .i64 z) ∧ W.cell? ⟨w1.heap.size, 4, none⟩ = some (.int .i64 P) ∧ W.cell? ⟨w1.heap.size, 5, none⟩ = some (.slice ah 32 ch)) := fun W k => ⟨k.cell0 d0, k.cell0 d1, k.cell0 d2, k.cell0 d3, k.cell0 d4, k.cell0 d5⟩
  have HhS := Lib.hid hS
  have HB1 := Lib.hid hB1
  clear hS hB1
  have kd : Keeps [] w2 w2.drew := (Keeps.refl [] w2).drew
  refine wp_region_noPanic ?_
  refine wp_region_held_drew (S := (fun W => W.cell? ⟨w1.heap.size, 0, none⟩ = some (B32 s) ∧ W.cell? ⟨w1.heap.size, 1, none⟩ = some (B32 v) ∧ W.cell? ⟨w1.heap.size, 2, none⟩ = some (.int .i64 n) ∧ W.cell? ⟨w1.heap.size, 3, none⟩ = some (.int .i64 z) ∧ W.cell? ⟨w1.heap.size, 4, none⟩ = some (.int .i64 P) ∧ W.cell? ⟨w1.heap.size, 5, none⟩ = some (.slice ah 32 ch))) (by kernel_rfl) (HhS.out _ kd) (fun hHeld => ?_)
  refine wpAnyH_take (i := 1) (v := ?v1_1) rfl (by kernel_rfl) (by kernel_rfl) (by kernel_rfl) (fun _ _ _ h => h) (Or.inl ⟨by rfl, ?y1_1⟩) (by assumption) ?r1_1
  case y1_1 => (intro w hSw; (try dsimp only at hSw); go_simp; try with_reducible rfl)
  (try simp only [Act.put, List.getElem_toArray, List.getElem_cons_zero, List.getElem_cons_succ, List.setIfInBounds_toArray, List.set_cons_zero, List.set_cons_succ])
  refine wpAnyH_ready (rs := [0]) (by kernel_rfl) (by simp) ?_
  refine AllReadyH.cons rfl (fun K hK => ?_) AllReadyH.nil
  go_simp
  refine key24_calls.mono ?_
  rintro e w3 ⟨g, rfl, hg, k3⟩
  replace kd := kd.trans k3
  have HMc := Lib.hid (HMB.out w3 g ah ch hg (HR1.out.keepsNil kd))
  clear hg
  go_wp2_with fail
  refine hK.out _ _ ?s1_2 (fun hHeld => ?_)
  case s1_2 => ((try dsimp only) <;> (first | exact HhS.out _ kd))
  clear hK K
  (try simp only [Act.put, List.getElem_toArray, List.getElem_cons_zero, List.getElem_cons_succ, List.setIfInBounds_toArray, List.set_cons_zero, List.set_cons_succ])
  refine wpAnyH_ready (rs := [2]) (by kernel_rfl) (by simp) ?_
  refine AllReadyH.cons rfl (fun K hK => ?_) AllReadyH.nil
  go_simp
  refine HMc.out.mono ?_
  rintro e w4 ⟨v4, rfl, hO4, k4⟩
  replace kd := kd.trans k4
  have HO4 := Lib.hid hO4
  clear hO4
  go_wp2_with fail
  refine hK.out _ _ ?s1_3 (fun hHeld => ?_)
  case s1_3 => ((try dsimp only) <;> (first | exact HhS.out _ kd))
  clear hK K
  (try simp only [Act.put, List.getElem_toArray, List.getElem_cons_zero, List.getElem_cons_succ, List.setIfInBounds_toArray, List.set_cons_zero, List.set_cons_succ])
  refine wpAnyH_take (i := 3) (v := ?v1_4) rfl (by kernel_rfl) (by kernel_rfl) (by kernel_rfl) (fun _ _ _ h => h) (Or.inl ⟨by rfl, ?y1_4⟩) (by assumption) ?r1_4
  case y1_4 => (intro w hSw; (try dsimp only at hSw); go_simp; try with_reducible rfl)
  (try simp only [Act.put, List.getElem_toArray, List.getElem_cons_zero, List.getElem_cons_succ, List.setIfInBounds_toArray, List.set_cons_zero, List.set_cons_succ])
  refine wpAnyH_take (i := 4) (v := ?v1_5) rfl (by kernel_rfl) (by kernel_rfl) (by kernel_rfl) (fun _ _ _ h => h) (Or.inl ⟨by rfl, ?y1_5⟩) (by assumption) ?r1_5
  case y1_5 => (intro w hSw; (try dsimp only at hSw); go_simp; try with_reducible rfl)
  (try simp only [Act.put, List.getElem_toArray, List.getElem_cons_zero, List.getElem_cons_succ, List.setIfInBounds_toArray, List.set_cons_zero, List.set_cons_succ])
  refine wpAnyH_take (i := 5) (v := ?v1_6) rfl (by kernel_rfl) (by kernel_rfl) (by kernel_rfl) (fun _ _ _ h => h) (Or.inl ⟨by rfl, ?y1_6⟩) (by assumption) ?r1_6
  case y1_6 => (intro w hSw; (try dsimp only at hSw); go_simp; try with_reducible rfl)
  (try simp only [Act.put, List.getElem_toArray, List.getElem_cons_zero, List.getElem_cons_succ, List.setIfInBounds_toArray, List.set_cons_zero, List.set_cons_succ])
  refine wpAnyH_take (i := 6) (v := ?v1_7) rfl (by kernel_rfl) (by kernel_rfl) (by kernel_rfl) (fun _ _ _ h => h) (Or.inl ⟨by rfl, ?y1_7⟩) (by assumption) ?r1_7
  case y1_7 => (intro w hSw; (try dsimp only at hSw); go_simp; try with_reducible rfl)
  (try simp only [Act.put, List.getElem_toArray, List.getElem_cons_zero, List.getElem_cons_succ, List.setIfInBounds_toArray, List.set_cons_zero, List.set_cons_succ])
  refine wpAnyH_take (i := 7) (v := ?v1_8) rfl (by kernel_rfl) (by kernel_rfl) (by kernel_rfl) (fun _ _ _ h => h) (Or.inl ⟨by rfl, ?y1_8⟩) (by assumption) ?r1_8
  case y1_8 => (intro w hSw; (try dsimp only at hSw); go_simp; try with_reducible rfl)
  (try simp only [Act.put, List.getElem_toArray, List.getElem_cons_zero, List.getElem_cons_succ, List.setIfInBounds_toArray, List.set_cons_zero, List.set_cons_succ])
  refine wpAnyH_done (by kernel_rfl) ?_ _
  refine NoPanic.normal ?_
  have hR4 := HO4.out.rds
  obtain ⟨a4, c4, rfl, _⟩ := id hR4
  rw [Hml.out] at hR4 ⊢
  have HW := Lib.hid (rwrap_calls 1 (by omega) hR4 Hml.out (by omega) : Calls Tryz.prog 14 #[.int .i64 1, .slice a4 76 c4] w4 (PlainPost w4 (wrapM 1 X)))
  have HK4 := Lib.hid (HK1.out.trans kd)
  have HR4 := Lib.hid (HR1.out.keepsNil kd)
  have HZ4 := Lib.hid (HZ1.out.keeps kd (by simp))
  have HB4 := Lib.hid (HB1.out.keeps kd (by simp))
  clear hR4 kd k4 k3 HMc HMB HO4 HB1 HZ1 HR1 HK1 d0 d1 d2 d3 d4 d5 hHeld HhS
  go_wp2_with fail
  refine HW.out.mono ?_
  rintro e w5 ⟨v5, rfl, hO5, k5⟩
  have HK5 := Lib.hid (HK4.out.trans k5)
  have HO5 := Lib.hid (hO5.mono (show w.heap.size + 1 ≤ w4.heap.size from HZ4.out.lt))
  have HR5 := Lib.hid (HR4.out.keepsNil k5)
  have hZ5 := HZ4.out.keeps k5 (by simp)
  have hB5 := HB4.out.keeps k5 (by simp)
  clear hO5 k5 HW HZ4 HB4 HR4
  go_upto_region 4 with (fail)
  have d0 := hB5.cell' (i := 0) rfl
  have d1 := hB5.cell' (i := 1) rfl
  have d2 := hB5.cell' (i := 2) rfl
  have d3 := hB5.cell' (i := 3) rfl
  have d4 := hB5.cell' (i := 4) rfl
  have d5 := hB5.cell' (i := 5) rfl
  have f0 := hZ5.frozen 0
  have f1 := hZ5.frozen 1
  have f2 := hZ5.frozen 2
  have f3 := hZ5.frozen 3
  have f4 := hZ5.frozen 4
  have f5 := hZ5.frozen 5
  have z0 := hZ5.cell' (i := 0) rfl
  have z1 := hZ5.cell' (i := 1) rfl
  have z2 := hZ5.cell' (i := 2) rfl
  have z3 := hZ5.cell' (i := 3) rfl
  have z4 := hZ5.cell' (i := 4) rfl
  have z5 := hZ5.cell' (i := 5) rfl
  go_region
  have hZ6 := (hZ5.put6 (B32 s) (B32 v) (.int .i64 n) (.int .i64 z) (.int .i64 P) (.slice ah 32 ch)).drew
  have k6 := ((Keeps.refl [w.heap.size] w5).put6 (p := w.heap.size) (.inl (by simp)) (B32 s) (B32 v) (.int .i64 n) (.int .i64 z) (.int .i64 P) (.slice ah 32 ch)).drew
  have HK6 := Lib.hid (HK5.out.trans' k6 (T := []) (by simp) (fun x hx => by simp only [List.mem_singleton] at hx; subst hx; exact .inr (Nat.le_refl _)))
  have HR6 := Lib.hid (HR5.out.keepsP k6 (fun x hx => by simp only [List.mem_singleton] at hx; subst hx; exact ⟨_, _, hZ5, by decide⟩))
  have HO6 := Lib.hid ((HO5.out.keeps k6 (fun x hx hm => by simp only [List.mem_singleton] at hm; have := HO5.out.ge8 x hx; omega)).mono (show w.heap.size ≤ w.heap.size + 1 by omega))
  clear d0 d1 d2 d3 d4 d5 f0 f1 f2 f3 f4 f5 z0 z1 z2 z3 z4 z5 k6 hZ5 hB5
  have e0 := hZ6.cell' (i := 0) rfl
  have e1 := hZ6.cell' (i := 1) rfl
  have e2 := hZ6.cell' (i := 2) rfl
  have e3 := hZ6.cell' (i := 3) rfl
  have e4 := hZ6.cell' (i := 4) rfl
  have e5 := hZ6.cell' (i := 5) rfl
  generalize ((((((w5.setCell ⟨w.heap.size, 0, none⟩ (B32 s)).setCell ⟨w.heap.size, 1, none⟩ (B32 v)).setCell ⟨w.heap.size, 2, none⟩ (.int .i64 n)).setCell ⟨w.heap.size, 3, none⟩ (.int .i64 z)).setCell ⟨w.heap.size, 4, none⟩ (.int .i64 P)).setCell ⟨w.heap.size, 5, none⟩ (.slice ah 32 ch)).drew = w6 at *
  go_wp2_with fail
  refine bodyPost_ret (v := .tuple #[v5, MfV s v n z P (.slice ah 32 ch)]) (by simp [results, Tryz.results35, go_sem, e0, e1, e2, e3, e4, e5]) rfl ?_
  exact ⟨v5, ah, ch, rfl, HO6.out, HR6.out, HK6.out⟩

end Go.Proofs.YtijhaeapoapgfaaGreatDoor

set_option linter.unusedVariables false
set_option linter.unusedSimpArgs false
namespace Go.Proofs.YtijhaeapoapgfaaGreatDoor
open Go.RowKit
attribute [local go_sem ↓] Go.wp_at_zero Go.wp_at_succ

/-- The head was made within a later world. -/
theorem Car.base {u w0 w : World} {pc ph : Nat} {vk vh : Value} {key : List UInt8} {s v : UInt32} {n nK P z : Nat} {img : List UInt8} {Q : Nat → Prop} (h : Car w0 w pc ph vk vh key s v n nK P z img Q) (k : Keeps [] u w0) : Car u w pc ph vk vh key s v n nK P z img Q :=
  ⟨k.trans h.k, h.b, h.kk, h.hh, h.h, fun x hx => ⟨Nat.le_trans k.size (h.q x hx).1, (h.q x hx).2⟩, ⟨Nat.le_trans k.size h.p.1, h.p.2⟩, h.n⟩
theorem Car.ph_lt {u w : World} {pc ph : Nat} {vk vh : Value} {key : List UInt8} {s v : UInt32} {n nK P z : Nat} {img : List UInt8} {Q : Nat → Prop} (h : Car u w pc ph vk vh key s v n nK P z img Q) : ph < w.heap.size := (h.q _ h.h.q).2
theorem Car.str {u w w' : World} {pc ph : Nat} {vk vh : Value} {key : List UInt8} {s v : UInt32} {n nK P z : Nat} {img : List UInt8} {Q : Nat → Prop} (h : Car u w pc ph vk vh key s v n nK P z img Q) (k : Keeps [ph] w w') {x : Value} {l : List UInt8} (hx : RdS w x l) : RdS w' x l :=
  hx.keepsP k (fun y hy => by simp only [List.mem_singleton] at hy; subst hy; obtain ⟨cs, hb⟩ := h.h.blk; exact ⟨_, cs, hb, by decide⟩)
theorem IdsN.lit2 (w : World) {ph : Nat} (hp : ph < w.heap.size) (a b : UInt32) : IdsN (w.alloc (.cells #[B32 a, B32 b] 30)) ph (some ⟨w.heap.size, 0, none⟩) [a, b] := fun i x hx => by
  refine ⟨_, _, rfl, by omega, ?_⟩
  have hB := Blk.newA w 30 #[B32 a, B32 b]
  rw [Nat.zero_add]
  match i, hx with
  | 0, hx => obtain rfl := Option.some.inj hx; exact hB.cell' rfl
  | 1, hx => obtain rfl := Option.some.inj hx; exact hB.cell' rfl

def img4 : List UInt8 := [110, 101, 119, 33]
theorem fits4 : Fits 2 1 2 img4 := ⟨by omega, by omega, by omega, by omega, by omega, by decide, by decide, by decide⟩
theorem enuf10 : enuf 5 2 1 2 img4 [1, 0] = true := by
  refine decide_eq_true (hears_full fits4 (Sd.start fits4 5) (fun i hi => ?_))
  rcases (show i = 0 ∨ i = 1 from by omega) with rfl | rfl
  · exact ⟨0, by simp, rfl⟩
  · exact ⟨1, by simp, rfl⟩
theorem enuf00 : enuf 5 2 1 2 img4 [0, 0] = false := by
  refine decide_eq_false (fun e => ?_)
  have hS := Sd.start fits4 5
  have h1 := hears_rank_le fits4 [0] hS
  rw [pmx_rank 5 2 1 2 1 (Nat.le_refl _)] at h1
  have h2 : hears 5 2 1 2 img4 (pmx 5 2 1 2 1) [0, 0] = hears 5 2 1 2 img4 (pmx 5 2 1 2 1) [0] := by
    show mAdd (2 + 1) (mAdd (2 + 1) (pmx 5 2 1 2 1) (symR 5 2 1 2 img4 0)) (symR 5 2 1 2 img4 0) = mAdd (2 + 1) (pmx 5 2 1 2 1) (symR 5 2 1 2 img4 0)
    exact mAdd_same (hS.again fits4 0 (symR 5 2 1 2 img4 0) rfl)
  rw [h2] at e
  simp only [List.length_cons, List.length_nil] at h1
  omega

set_option maxRecDepth 100000 in
set_option maxHeartbeats 1600000 in
theorem awake26_calls {w : World} (ht : TzAt w) : Calls Tryz.prog 7 #[] w fun e w' => e = .returned (.bool true) ∧ Keeps [] w w' := by
  have hcv1 := lit_conv w #[.int .u8 107, .int .u8 101, .int .u8 121] 3 3
  have kA : Keeps [] w (w.alloc (.cells #[.int .u8 107, .int .u8 101, .int .u8 121] 5 (3, 4))) := (Keeps.refl [] w).alloc _
  have kB : Keeps [] (w.alloc (.cells #[.int .u8 107, .int .u8 101, .int .u8 121] 5 (3, 4))) ((w.alloc (.cells #[.int .u8 107, .int .u8 101, .int .u8 121] 5 (3, 4))).alloc (.cells #[.int .u8 110, .int .u8 101, .int .u8 119, .int .u8 33] 5 (4, 5))) := (Keeps.refl [] _).alloc _
  have hk := (lit_rd w #[.int .u8 107, .int .u8 101, .int .u8 121] (3, 4) keyM rfl).keepsNil kB
  have hcv2 := lit_conv (w.alloc (.cells #[.int .u8 107, .int .u8 101, .int .u8 121] 5 (3, 4))) #[.int .u8 110, .int .u8 101, .int .u8 119, .int .u8 33] 4 4
  have hi := lit_rds (w.alloc (.cells #[.int .u8 107, .int .u8 101, .int .u8 121] 5 (3, 4))) #[.int .u8 110, .int .u8 101, .int .u8 119, .int .u8 33] (4, 5) img4 4 rfl rfl (by omega)
  rw [World.size_alloc] at hcv2 hi
  have hN : Calls Tryz.prog 8 #[.slice (some ⟨w.heap.size, 0, none⟩) 3 3, .int .u32 5, .int .u32 2, .slice (some ⟨w.heap.size + 1, 0, none⟩) 4 4, .int .i64 2, .int .i64 1] ((w.alloc (.cells #[.int .u8 107, .int .u8 101, .int .u8 121] 5 (3, 4))).alloc (.cells #[.int .u8 110, .int .u8 101, .int .u8 119, .int .u8 33] 5 (4, 5))) (CarNew ((w.alloc (.cells #[.int .u8 107, .int .u8 101, .int .u8 121] 5 (3, 4))).alloc (.cells #[.int .u8 110, .int .u8 101, .int .u8 119, .int .u8 33] 5 (4, 5))) keyM 5 2 4 2 1 2 img4) :=
    carnew_calls (nk := 3) hk rfl (by omega) (by simp) 5 2 hi rfl fits4
  have hW : ∀ (W : World), Calls Tryz.prog 35 #[.int .u32 5, .int .u32 2, .slice (some ⟨W.heap.size, 0, none⟩) 4 4, .int .i64 2, .int .i64 1] (W.alloc (.cells #[.int .u8 110, .int .u8 101, .int .u8 119, .int .u8 33] 5 (4, 5))) (WrpPost (W.alloc (.cells #[.int .u8 110, .int .u8 101, .int .u8 119, .int .u8 33] 5 (4, 5))) 5 2 4 2 1 img4) := fun W =>
    wrapped_calls 5 2 (lit_rds W #[.int .u8 110, .int .u8 101, .int .u8 119, .int .u8 33] (4, 5) img4 4 rfl rfl (by omega)) rfl (fits4.mf rfl)
  unfold WrpPost at hW
  have hF : ∀ (W : World) (pc ph : Nat) (vk vh : Value) (Q : Nat → Prop), Car w W pc ph vk vh keyM 5 2 4 2 1 2 img4 Q → Calls Tryz.prog 21 #[P0 pc] W (ClonePost W (wrapM 1 (manM keyM 5 2 4 2 1 (sha img4)))) := fun W pc ph vk vh Q h => cafirst_calls h (by decide)
  have hE1 : ∀ (W : World) (pc ph : Nat) (vk vh : Value) (Q : Nat → Prop) (A : Option Addr), Car w W pc ph vk vh keyM 5 2 4 2 1 2 img4 Q → IdsN W ph A [1, 0] → Calls Tryz.prog 9 #[P0 pc, .slice A 2 2] W (EnPost w W pc ph vk vh keyM 5 2 4 2 1 2 img4 [1, 0]) := fun W pc ph vk vh Q A h hi => caenough_calls h ht hi rfl (Nat.le_refl _) (by omega)
  have hE0 : ∀ (W : World) (pc ph : Nat) (vk vh : Value) (Q : Nat → Prop) (A : Option Addr), Car w W pc ph vk vh keyM 5 2 4 2 1 2 img4 Q → IdsN W ph A [0, 0] → Calls Tryz.prog 9 #[P0 pc, .slice A 2 2] W (EnPost w W pc ph vk vh keyM 5 2 4 2 1 2 img4 [0, 0]) := fun W pc ph vk vh Q A h hi => caenough_calls h ht hi rfl (Nat.le_refl _) (by omega)
  unfold EnPost at hE1 hE0
  rw [enuf10] at hE1
  rw [enuf00] at hE0
  generalize wrapM 1 (manM keyM 5 2 4 2 1 (sha img4)) = T at *
  have HN := Lib.hid hN
  have HW := Lib.hid hW
  have HF := Lib.hid hF
  have HE1 := Lib.hid hE1
  have HE0 := Lib.hid hE0
  have HkA := Lib.hid (kA.trans kB)
  clear hk hi hN hW hF hE1 hE0 kA kB
  go_enter Tryz.func7, Tryz.ntmps7
  go_wp2_with fail
  generalize (w.alloc (.cells #[.int .u8 107, .int .u8 101, .int .u8 121] 5 (3, 4))).alloc (.cells #[.int .u8 110, .int .u8 101, .int .u8 119, .int .u8 33] 5 (4, 5)) = wb at *
  refine HN.out.mono ?_
  rintro e w1 ⟨pc, ph, vk, vh, Q, rfl, hC⟩
  have HC1 := Lib.hid (hC.base HkA.out)
  have hcv3 := lit_conv w1 #[.int .u8 110, .int .u8 101, .int .u8 119, .int .u8 33] 4 4
  have HW1 := Lib.hid (HW.out w1)
  have k2 : Keeps [] w1 (w1.alloc (.cells #[.int .u8 110, .int .u8 101, .int .u8 119, .int .u8 33] 5 (4, 5))) := (Keeps.refl [] w1).alloc _
  have HC2 := Lib.hid (HC1.out.keepsNil k2)
  clear hC HN HkA HW k2 hcv1 hcv2 HC1
  go_wp2_with fail
  generalize w1.alloc (.cells #[.int .u8 110, .int .u8 101, .int .u8 119, .int .u8 33] 5 (4, 5)) = w2 at *
  refine HW1.out.mono ?_
  rintro e w3 ⟨x, ah, ch, rfl, hO3, hR3, k3⟩
  have k4 : Keeps [] w3 (w3.alloc (.cells #[.int .u32 5, .int .u32 2, .int .i64 4, .int .i64 2, .int .i64 1, .slice ah 32 ch] 35)) := (Keeps.refl [] w3).alloc _
  have HC4 := Lib.hid ((HC2.out.keepsNil k3).keepsNil k4)
  have hX := hO3.rds
  obtain ⟨ax, cx, rfl, _⟩ := id hX
  have HX := Lib.hid (hX.keepsNil k4)
  clear hO3 hR3 k3 k4 hX HW1 HC2 hcv3
  go_upto_region 5 with (fail)
  generalize w3.alloc (.cells #[.int .u32 5, .int .u32 2, .int .i64 4, .int .i64 2, .int .i64 1, .slice ah 32 ch] 35) = w4 at *
  have kd : Keeps [] w4 w4.drew := (Keeps.refl [] w4).drew
  have HX5 := Lib.hid (HX.out.keepsNil kd)
  have HC5 := Lib.hid (HC4.out.keepsNil kd)
  clear HX HC4 kd
  refine wp_region_noPanic ?_
  refine wp_region_held_drew (S := (fun W => (convert 22 9 (.slice ax T.length cx)).run Tryz.prog W = .ok (.string ⟨T.toArray⟩) W)) (by kernel_rfl) (HX5.out.str) (fun hHeld => ?_)
  refine wpAnyH_take (i := 0) (v := ?v2_9) rfl (by kernel_rfl) (by kernel_rfl) (by kernel_rfl) (fun _ _ _ h => h) (Or.inl ⟨by rfl, ?y2_9⟩) (by assumption) ?r2_9
  case y2_9 => (intro w hSw; (try dsimp only at hSw); go_simp; try with_reducible rfl)
  (try simp only [Act.put, List.getElem_toArray, List.getElem_cons_zero, List.getElem_cons_succ, List.setIfInBounds_toArray, List.set_cons_zero, List.set_cons_succ])
  refine wpAnyH_take (i := 3) (v := ?v2_10) rfl (by kernel_rfl) (by kernel_rfl) (by kernel_rfl) (fun _ _ _ h => h) (Or.inl ⟨by rfl, ?y2_10⟩) (by assumption) ?r2_10
  case y2_10 => (intro w hSw; (try dsimp only at hSw); go_simp; try with_reducible rfl)
  (try simp only [Act.put, List.getElem_toArray, List.getElem_cons_zero, List.getElem_cons_succ, List.setIfInBounds_toArray, List.set_cons_zero, List.set_cons_succ])
  refine wpAnyH_take (i := 4) (v := ?v2_11) rfl (by kernel_rfl) (by kernel_rfl) (by kernel_rfl) (fun _ _ _ h => h) (Or.inl ⟨by rfl, ?y2_11⟩) (by assumption) ?r2_11
  case y2_11 => (intro w hSw; (try dsimp only at hSw); go_simp; try with_reducible rfl)
  (try simp only [Act.put, List.getElem_toArray, List.getElem_cons_zero, List.getElem_cons_succ, List.setIfInBounds_toArray, List.set_cons_zero, List.set_cons_succ])
  refine wpAnyH_ready (rs := [1]) (by kernel_rfl) (by simp) ?_
  refine AllReadyH.cons rfl (fun K hK => ?_) AllReadyH.nil
  go_simp
  refine (HF.out _ pc ph vk vh Q HC5.out).mono ?_
  rintro e w6 ⟨y, rfl, hO6, k6⟩
  have hY := hO6.rds
  obtain ⟨ay, cy, rfl, _⟩ := id hY
  have HY6 := Lib.hid hY
  have HX6 := Lib.hid (HX5.out.keepsNil k6)
  have HC6 := Lib.hid (HC5.out.keepsNil k6)
  clear hO6 hY k6 HC5 HX5
  go_wp2_with fail
  refine hK.out _ _ ?s2_12 (fun hHeld => ?_)
  case s2_12 => ((try dsimp only) <;> (first | exact HX6.out.str))
  clear hK K
  (try simp only [Act.put, List.getElem_toArray, List.getElem_cons_zero, List.getElem_cons_succ, List.setIfInBounds_toArray, List.set_cons_zero, List.set_cons_succ])
  refine wpAnyH_more (S' := (fun W => (convert 22 9 (.slice ax T.length cx)).run Tryz.prog W = .ok (.string ⟨T.toArray⟩) W ∧ (convert 22 9 (.slice ay T.length cy)).run Tryz.prog W = .ok (.string ⟨T.toArray⟩) W)) (fun _ h => h.1) (⟨HX6.out.str, HY6.out.str⟩) (fun hHeld => ?_)
  refine wpAnyH_take (i := 2) (v := ?v2_13) rfl (by kernel_rfl) (by kernel_rfl) (by kernel_rfl) (fun _ _ _ h => h) (Or.inl ⟨by rfl, ?y2_13⟩) (by assumption) ?r2_13
  case y2_13 => (intro w hSw; (try dsimp only at hSw); go_simp; try with_reducible rfl)
  (try simp only [Act.put, List.getElem_toArray, List.getElem_cons_zero, List.getElem_cons_succ, List.setIfInBounds_toArray, List.set_cons_zero, List.set_cons_succ])
  refine wpAnyH_take (i := 5) (v := ?v2_14) rfl (by kernel_rfl) (by kernel_rfl) (by kernel_rfl) (fun _ _ _ h => h) (Or.inl ⟨by rfl, ?y2_14⟩) (by assumption) ?r2_14
  case y2_14 => (intro w hSw; (try dsimp only at hSw); go_simp; try with_reducible rfl)
  (try simp only [Act.put, List.getElem_toArray, List.getElem_cons_zero, List.getElem_cons_succ, List.setIfInBounds_toArray, List.set_cons_zero, List.set_cons_succ])
  refine wpAnyH_take (i := 6) (v := ?v2_15) rfl (by kernel_rfl) (by kernel_rfl) (by kernel_rfl) (fun _ _ _ h => h) (Or.inl ⟨by rfl, ?y2_15⟩) (by assumption) ?r2_15
  case y2_15 => (intro w hSw; (try dsimp only at hSw); go_simp; try with_reducible rfl)
  (try simp only [Act.put, List.getElem_toArray, List.getElem_cons_zero, List.getElem_cons_succ, List.setIfInBounds_toArray, List.set_cons_zero, List.set_cons_succ])
  refine wpAnyH_take (i := 7) (v := ?v2_16) rfl (by kernel_rfl) (by kernel_rfl) (by kernel_rfl) (fun _ _ _ h => h) (Or.inl ⟨by rfl, ?y2_16⟩) (by assumption) ?r2_16
  case y2_16 => (intro w hSw; (try dsimp only at hSw); go_simp; try with_reducible rfl)
  (try simp only [Act.put, List.getElem_toArray, List.getElem_cons_zero, List.getElem_cons_succ, List.setIfInBounds_toArray, List.set_cons_zero, List.set_cons_succ])
  refine wpAnyH_ready (rs := [8]) (by kernel_rfl) (by simp) ?_
  refine AllReadyH.cons rfl (fun K hK => ?_) AllReadyH.nil
  go_simp
  have k7 : Keeps [] w6 (w6.alloc (.cells #[.int .u32 1, .int .u32 0] 30)) := (Keeps.refl [] w6).alloc _
  have HI7 : Hid (IdsN (w6.alloc (.cells #[.int .u32 1, .int .u32 0] 30)) ph (some ⟨w6.heap.size, 0, none⟩) [1, 0]) := Lib.hid (IdsN.lit2 w6 HC6.out.ph_lt 1 0)
  have HX7 := Lib.hid (HX6.out.keepsNil k7)
  have HY7 := Lib.hid (HY6.out.keepsNil k7)
  have HC7 := Lib.hid (HC6.out.keepsNil k7)
  clear k7 HX6 HY6 HC6
  refine hK.out _ _ ?s2_17 (fun hHeld => ?_)
  case s2_17 => ((try dsimp only) <;> (first | exact ⟨HX7.out.str, HY7.out.str⟩))
  clear hK K
  (try simp only [Act.put, List.getElem_toArray, List.getElem_cons_zero, List.getElem_cons_succ, List.setIfInBounds_toArray, List.set_cons_zero, List.set_cons_succ])
  refine wpAnyH_ready (rs := [9]) (by kernel_rfl) (by simp) ?_
  refine AllReadyH.cons rfl (fun K hK => ?_) AllReadyH.nil
  go_simp
  refine (HE1.out _ pc ph vk vh Q _ HC7.out HI7.out).mono ?_
  rintro e w8 ⟨rfl, k8, Q8, hC8⟩
  have HX8 := Lib.hid (HC7.out.str k8 HX7.out)
  have HY8 := Lib.hid (HC7.out.str k8 HY7.out)
  have HC8 := Lib.hid hC8
  clear hC8 k8 HX7 HY7 HC7 HI7
  go_wp2_with fail
  refine hK.out _ _ ?s2_18 (fun hHeld => ?_)
  case s2_18 => ((try dsimp only) <;> (first | exact ⟨HX8.out.str, HY8.out.str⟩))
  clear hK K
  (try simp only [Act.put, List.getElem_toArray, List.getElem_cons_zero, List.getElem_cons_succ, List.setIfInBounds_toArray, List.set_cons_zero, List.set_cons_succ])
  refine wpAnyH_take (i := 10) (v := ?v2_19) rfl (by kernel_rfl) (by kernel_rfl) (by kernel_rfl) (fun _ _ _ h => h) (Or.inl ⟨by rfl, ?y2_19⟩) (by assumption) ?r2_19
  case y2_19 => (intro w hSw; (try dsimp only at hSw); go_simp; try with_reducible rfl)
  (try simp only [Act.put, List.getElem_toArray, List.getElem_cons_zero, List.getElem_cons_succ, List.setIfInBounds_toArray, List.set_cons_zero, List.set_cons_succ])
  refine wpAnyH_take (i := 11) (v := ?v2_20) rfl (by kernel_rfl) (by kernel_rfl) (by kernel_rfl) (fun _ _ _ h => h) (Or.inl ⟨by rfl, ?y2_20⟩) (by assumption) ?r2_20
  case y2_20 => (intro w hSw; (try dsimp only at hSw); go_simp; try with_reducible rfl)
  (try simp only [Act.put, List.getElem_toArray, List.getElem_cons_zero, List.getElem_cons_succ, List.setIfInBounds_toArray, List.set_cons_zero, List.set_cons_succ])
  refine wpAnyH_take (i := 12) (v := ?v2_21) rfl (by kernel_rfl) (by kernel_rfl) (by kernel_rfl) (fun _ _ _ h => h) (Or.inl ⟨by rfl, ?y2_21⟩) (by assumption) ?r2_21
  case y2_21 => (intro w hSw; (try dsimp only at hSw); go_simp; try with_reducible rfl)
  (try simp only [Act.put, List.getElem_toArray, List.getElem_cons_zero, List.getElem_cons_succ, List.setIfInBounds_toArray, List.set_cons_zero, List.set_cons_succ])
  refine wpAnyH_ready (rs := [13]) (by kernel_rfl) (by simp) ?_
  refine AllReadyH.cons rfl (fun K hK => ?_) AllReadyH.nil
  go_simp
  have k9 : Keeps [] w8 (w8.alloc (.cells #[.int .u32 0, .int .u32 0] 30)) := (Keeps.refl [] w8).alloc _
  have HI9 : Hid (IdsN (w8.alloc (.cells #[.int .u32 0, .int .u32 0] 30)) ph (some ⟨w8.heap.size, 0, none⟩) [0, 0]) := Lib.hid (IdsN.lit2 w8 HC8.out.ph_lt 0 0)
  have HX9 := Lib.hid (HX8.out.keepsNil k9)
  have HY9 := Lib.hid (HY8.out.keepsNil k9)
  have HC9 := Lib.hid (HC8.out.keepsNil k9)
  clear k9 HX8 HY8 HC8
  refine hK.out _ _ ?s2_22 (fun hHeld => ?_)
  case s2_22 => ((try dsimp only) <;> (first | exact ⟨HX9.out.str, HY9.out.str⟩))
  clear hK K
  (try simp only [Act.put, List.getElem_toArray, List.getElem_cons_zero, List.getElem_cons_succ, List.setIfInBounds_toArray, List.set_cons_zero, List.set_cons_succ])
  refine wpAnyH_ready (rs := [14]) (by kernel_rfl) (by simp) ?_
  refine AllReadyH.cons rfl (fun K hK => ?_) AllReadyH.nil
  go_simp
  refine (HE0.out _ pc ph vk vh Q8 _ HC9.out HI9.out).mono ?_
  rintro e w10 ⟨rfl, k10, Q10, hC10⟩
  have HX10 := Lib.hid (HC9.out.str k10 HX9.out)
  have HY10 := Lib.hid (HC9.out.str k10 HY9.out)
  have HK10 := Lib.hid hC10.k
  clear hC10 k10 HX9 HY9 HC9 HI9
  go_wp2_with fail
  refine hK.out _ _ ?s2_23 (fun hHeld => ?_)
  case s2_23 => ((try dsimp only) <;> (first | exact ⟨HX10.out.str, HY10.out.str⟩))
  clear hK K
  (try simp only [Act.put, List.getElem_toArray, List.getElem_cons_zero, List.getElem_cons_succ, List.setIfInBounds_toArray, List.set_cons_zero, List.set_cons_succ])
  refine wpAnyH_take (i := 15) (v := ?v2_24) rfl (by kernel_rfl) (by kernel_rfl) (by kernel_rfl) (fun _ _ _ h => h) (Or.inl ⟨by rfl, ?y2_24⟩) (by assumption) ?r2_24
  case y2_24 => (intro w hSw; (try dsimp only at hSw); go_simp; try with_reducible rfl)
  (try simp only [Act.put, List.getElem_toArray, List.getElem_cons_zero, List.getElem_cons_succ, List.setIfInBounds_toArray, List.set_cons_zero, List.set_cons_succ])
  refine wpAnyH_take (i := 16) (v := ?v2_25) rfl (by kernel_rfl) (by kernel_rfl) (by kernel_rfl) (fun _ _ _ h => h) (Or.inl ⟨by rfl, ?y2_25⟩) (by assumption) ?r2_25
  case y2_25 => (intro w hSw; (try dsimp only at hSw); go_simp; try with_reducible rfl)
  (try simp only [Act.put, List.getElem_toArray, List.getElem_cons_zero, List.getElem_cons_succ, List.setIfInBounds_toArray, List.set_cons_zero, List.set_cons_succ])
  refine wpAnyH_take (i := 17) (v := ?v2_26) rfl (by kernel_rfl) (by kernel_rfl) (by kernel_rfl) (fun _ _ _ h => h) (Or.inl ⟨by rfl, ?y2_26⟩) (by assumption) ?r2_26
  case y2_26 => (intro w hSw; (try dsimp only at hSw); go_simp; try with_reducible rfl)
  (try simp only [Act.put, List.getElem_toArray, List.getElem_cons_zero, List.getElem_cons_succ, List.setIfInBounds_toArray, List.set_cons_zero, List.set_cons_succ])
  refine wpAnyH_done (by kernel_rfl) ?_ _
  refine NoPanic.normal ?_
  go_wp2_with fail
  go_ret
  exact ⟨rfl, HK10.out⟩

end Go.Proofs.YtijhaeapoapgfaaGreatDoor
