/-
  Law26a: downpourlaw26.awake, walked.
-/
import Derived.Test.YtijhaeapoapgfaaGreatDoorLaw24k
import Derived.Test.YtijhaeapoapgfaaGreatDoorGrCa
import Derived.Test.YtijhaeapoapgfaaGreatDoorPlain
set_option linter.unusedVariables false
set_option linter.unusedSimpArgs false
namespace Go.Proofs.YtijhaeapoapgfaaGreatDoor
open Go.RowKit
attribute [local go_sem ↓] Go.wp_at_zero Go.wp_at_succ

/-- The head was made within a later world. -/
theorem Car.base {u w0 w : World} {pc ph : Nat} {vk vh : Value} {key : List UInt8} {s v : UInt32} {n nK P z : Nat} {img : List UInt8} {Q : Nat → Prop} (h : Car w0 w pc ph vk vh key s v n nK P z img Q) (k : Keeps [] u w0) : Car u w pc ph vk vh key s v n nK P z img Q :=
  ⟨k.trans h.k, h.b, h.kk, h.hh, h.h, fun x hx => ⟨Nat.le_trans k.size (h.q x hx).1, (h.q x hx).2⟩, ⟨Nat.le_trans k.size h.p.1, h.p.2⟩, h.n⟩
theorem Car.ph_lt {u w : World} {pc ph : Nat} {vk vh : Value} {key : List UInt8} {s v : UInt32} {n nK P z : Nat} {img : List UInt8} {Q : Nat → Prop} (h : Car u w pc ph vk vh key s v n nK P z img Q) : ph < w.heap.size := (h.q _ h.h.q).2
theorem Car.str {u w w' : World} {pc ph : Nat} {vk vh : Value} {key : List UInt8} {s v : UInt32} {n nK P z : Nat} {img : List UInt8} {Q : Nat → Prop} (h : Car u w pc ph vk vh key s v n nK P z img Q) (k : Keeps [ph] w w') {x : Value} {l : List UInt8} (hx : RdS w x l) : RdS w' x l :=
  hx.keepsP k (fun y hy => by simp only [List.mem_singleton] at hy; subst hy; obtain ⟨cs, hb⟩ := h.h.blk; exact ⟨_, cs, hb, by decide⟩)
theorem IdsN.lit2 (w : World) {ph : Nat} (hp : ph < w.heap.size) (a b : UInt32) : IdsN (w.alloc (.cells #[B32 a, B32 b] 30)) ph (some ⟨w.heap.size, 0, none⟩) [a, b] := fun i x hx => by
  refine ⟨_, _, rfl, by omega, ?_⟩
  have hB := Blk.newA w 30 #[B32 a, B32 b]
  rw [Nat.zero_add]
  match i, hx with
  | 0, hx => obtain rfl := Option.some.inj hx; exact hB.cell' rfl
  | 1, hx => obtain rfl := Option.some.inj hx; exact hB.cell' rfl

def img4 : List UInt8 := [110, 101, 119, 33]
theorem fits4 : Fits 2 1 2 img4 := ⟨by omega, by omega, by omega, by omega, by omega, by decide, by decide, by decide⟩
theorem enuf10 : enuf 5 2 1 2 img4 [1, 0] = true := by
  refine decide_eq_true (hears_full fits4 (Sd.start fits4 5) (fun i hi => ?_))
  rcases (show i = 0 ∨ i = 1 from by omega) with rfl | rfl
  · exact ⟨0, by simp, rfl⟩
  · exact ⟨1, by simp, rfl⟩
theorem enuf00 : enuf 5 2 1 2 img4 [0, 0] = false := by
  refine decide_eq_false (fun e => ?_)
  have hS := Sd.start fits4 5
  have h1 := hears_rank_le fits4 [0] hS
  rw [pmx_rank 5 2 1 2 1 (Nat.le_refl _)] at h1
  have h2 : hears 5 2 1 2 img4 (pmx 5 2 1 2 1) [0, 0] = hears 5 2 1 2 img4 (pmx 5 2 1 2 1) [0] := by
    show mAdd (2 + 1) (mAdd (2 + 1) (pmx 5 2 1 2 1) (symR 5 2 1 2 img4 0)) (symR 5 2 1 2 img4 0) = mAdd (2 + 1) (pmx 5 2 1 2 1) (symR 5 2 1 2 img4 0)
    exact mAdd_same (hS.again fits4 0 (symR 5 2 1 2 img4 0) rfl)
  rw [h2] at e
  simp only [List.length_cons, List.length_nil] at h1
  omega

set_option maxRecDepth 100000 in
set_option maxHeartbeats 1600000 in
theorem awake26_calls {w : World} (ht : TzAt w) : Calls Tryz.prog 7 #[] w fun e w' => e = .returned (.bool true) ∧ Keeps [] w w' := by
  have hcv1 := lit_conv w #[.int .u8 107, .int .u8 101, .int .u8 121] 3 3
  have kA : Keeps [] w (w.alloc (.cells #[.int .u8 107, .int .u8 101, .int .u8 121] 5 (3, 4))) := (Keeps.refl [] w).alloc _
  have kB : Keeps [] (w.alloc (.cells #[.int .u8 107, .int .u8 101, .int .u8 121] 5 (3, 4))) ((w.alloc (.cells #[.int .u8 107, .int .u8 101, .int .u8 121] 5 (3, 4))).alloc (.cells #[.int .u8 110, .int .u8 101, .int .u8 119, .int .u8 33] 5 (4, 5))) := (Keeps.refl [] _).alloc _
  have hk := (lit_rd w #[.int .u8 107, .int .u8 101, .int .u8 121] (3, 4) keyM rfl).keepsNil kB
  have hcv2 := lit_conv (w.alloc (.cells #[.int .u8 107, .int .u8 101, .int .u8 121] 5 (3, 4))) #[.int .u8 110, .int .u8 101, .int .u8 119, .int .u8 33] 4 4
  have hi := lit_rds (w.alloc (.cells #[.int .u8 107, .int .u8 101, .int .u8 121] 5 (3, 4))) #[.int .u8 110, .int .u8 101, .int .u8 119, .int .u8 33] (4, 5) img4 4 rfl rfl (by omega)
  rw [World.size_alloc] at hcv2 hi
  have hN : Calls Tryz.prog 8 #[.slice (some ⟨w.heap.size, 0, none⟩) 3 3, .int .u32 5, .int .u32 2, .slice (some ⟨w.heap.size + 1, 0, none⟩) 4 4, .int .i64 2, .int .i64 1] ((w.alloc (.cells #[.int .u8 107, .int .u8 101, .int .u8 121] 5 (3, 4))).alloc (.cells #[.int .u8 110, .int .u8 101, .int .u8 119, .int .u8 33] 5 (4, 5))) (CarNew ((w.alloc (.cells #[.int .u8 107, .int .u8 101, .int .u8 121] 5 (3, 4))).alloc (.cells #[.int .u8 110, .int .u8 101, .int .u8 119, .int .u8 33] 5 (4, 5))) keyM 5 2 4 2 1 2 img4) :=
    carnew_calls (nk := 3) hk rfl (by omega) (by simp) 5 2 hi rfl fits4
  have hW : ∀ (W : World), Calls Tryz.prog 35 #[.int .u32 5, .int .u32 2, .slice (some ⟨W.heap.size, 0, none⟩) 4 4, .int .i64 2, .int .i64 1] (W.alloc (.cells #[.int .u8 110, .int .u8 101, .int .u8 119, .int .u8 33] 5 (4, 5))) (WrpPost (W.alloc (.cells #[.int .u8 110, .int .u8 101, .int .u8 119, .int .u8 33] 5 (4, 5))) 5 2 4 2 1 img4) := fun W =>
    wrapped_calls 5 2 (lit_rds W #[.int .u8 110, .int .u8 101, .int .u8 119, .int .u8 33] (4, 5) img4 4 rfl rfl (by omega)) rfl (fits4.mf rfl)
  unfold WrpPost at hW
  have hF : ∀ (W : World) (pc ph : Nat) (vk vh : Value) (Q : Nat → Prop), Car w W pc ph vk vh keyM 5 2 4 2 1 2 img4 Q → Calls Tryz.prog 21 #[P0 pc] W (ClonePost W (wrapM 1 (manM keyM 5 2 4 2 1 (sha img4)))) := fun W pc ph vk vh Q h => cafirst_calls h (by decide)
  have hE1 : ∀ (W : World) (pc ph : Nat) (vk vh : Value) (Q : Nat → Prop) (A : Option Addr), Car w W pc ph vk vh keyM 5 2 4 2 1 2 img4 Q → IdsN W ph A [1, 0] → Calls Tryz.prog 9 #[P0 pc, .slice A 2 2] W (EnPost w W pc ph vk vh keyM 5 2 4 2 1 2 img4 [1, 0]) := fun W pc ph vk vh Q A h hi => caenough_calls h ht hi rfl (Nat.le_refl _) (by omega)
  have hE0 : ∀ (W : World) (pc ph : Nat) (vk vh : Value) (Q : Nat → Prop) (A : Option Addr), Car w W pc ph vk vh keyM 5 2 4 2 1 2 img4 Q → IdsN W ph A [0, 0] → Calls Tryz.prog 9 #[P0 pc, .slice A 2 2] W (EnPost w W pc ph vk vh keyM 5 2 4 2 1 2 img4 [0, 0]) := fun W pc ph vk vh Q A h hi => caenough_calls h ht hi rfl (Nat.le_refl _) (by omega)
  unfold EnPost at hE1 hE0
  rw [enuf10] at hE1
  rw [enuf00] at hE0
  generalize wrapM 1 (manM keyM 5 2 4 2 1 (sha img4)) = T at *
  have HN := Lib.hid hN
  have HW := Lib.hid hW
  have HF := Lib.hid hF
  have HE1 := Lib.hid hE1
  have HE0 := Lib.hid hE0
  have HkA := Lib.hid (kA.trans kB)
  clear hk hi hN hW hF hE1 hE0 kA kB
  go_enter Tryz.func7, Tryz.ntmps7
  go_wp2_with fail
  generalize (w.alloc (.cells #[.int .u8 107, .int .u8 101, .int .u8 121] 5 (3, 4))).alloc (.cells #[.int .u8 110, .int .u8 101, .int .u8 119, .int .u8 33] 5 (4, 5)) = wb at *
  refine HN.out.mono ?_
  rintro e w1 ⟨pc, ph, vk, vh, Q, rfl, hC⟩
  have HC1 := Lib.hid (hC.base HkA.out)
  have hcv3 := lit_conv w1 #[.int .u8 110, .int .u8 101, .int .u8 119, .int .u8 33] 4 4
  have HW1 := Lib.hid (HW.out w1)
  have k2 : Keeps [] w1 (w1.alloc (.cells #[.int .u8 110, .int .u8 101, .int .u8 119, .int .u8 33] 5 (4, 5))) := (Keeps.refl [] w1).alloc _
  have HC2 := Lib.hid (HC1.out.keepsNil k2)
  clear hC HN HkA HW k2 hcv1 hcv2 HC1
  go_wp2_with fail
  generalize w1.alloc (.cells #[.int .u8 110, .int .u8 101, .int .u8 119, .int .u8 33] 5 (4, 5)) = w2 at *
  refine HW1.out.mono ?_
  rintro e w3 ⟨x, ah, ch, rfl, hO3, hR3, k3⟩
  have k4 : Keeps [] w3 (w3.alloc (.cells #[.int .u32 5, .int .u32 2, .int .i64 4, .int .i64 2, .int .i64 1, .slice ah 32 ch] 35)) := (Keeps.refl [] w3).alloc _
  have HC4 := Lib.hid ((HC2.out.keepsNil k3).keepsNil k4)
  have hX := hO3.rds
  obtain ⟨ax, cx, rfl, _⟩ := id hX
  have HX := Lib.hid (hX.keepsNil k4)
  clear hO3 hR3 k3 k4 hX HW1 HC2 hcv3
  go_upto_region 5 with (fail)
  generalize w3.alloc (.cells #[.int .u32 5, .int .u32 2, .int .i64 4, .int .i64 2, .int .i64 1, .slice ah 32 ch] 35) = w4 at *
  have kd : Keeps [] w4 w4.drew := (Keeps.refl [] w4).drew
  have HX5 := Lib.hid (HX.out.keepsNil kd)
  have HC5 := Lib.hid (HC4.out.keepsNil kd)
  clear HX HC4 kd
  refine wp_region_noPanic ?_
  refine wp_region_held_drew (S := (fun W => (convert 22 9 (.slice ax T.length cx)).run Tryz.prog W = .ok (.string ⟨T.toArray⟩) W)) (by kernel_rfl) (HX5.out.str) (fun hHeld => ?_)
  refine wpAnyH_take (i := 0) (v := ?v1_1) rfl (by kernel_rfl) (by kernel_rfl) (by kernel_rfl) (fun _ _ _ h => h) (Or.inl ⟨by rfl, ?y1_1⟩) (by assumption) ?r1_1
  case y1_1 => (intro w hSw; (try dsimp only at hSw); go_simp; try with_reducible rfl)
  (try simp only [Act.put, List.getElem_toArray, List.getElem_cons_zero, List.getElem_cons_succ, List.setIfInBounds_toArray, List.set_cons_zero, List.set_cons_succ])
  refine wpAnyH_take (i := 3) (v := ?v1_2) rfl (by kernel_rfl) (by kernel_rfl) (by kernel_rfl) (fun _ _ _ h => h) (Or.inl ⟨by rfl, ?y1_2⟩) (by assumption) ?r1_2
  case y1_2 => (intro w hSw; (try dsimp only at hSw); go_simp; try with_reducible rfl)
  (try simp only [Act.put, List.getElem_toArray, List.getElem_cons_zero, List.getElem_cons_succ, List.setIfInBounds_toArray, List.set_cons_zero, List.set_cons_succ])
  refine wpAnyH_take (i := 4) (v := ?v1_3) rfl (by kernel_rfl) (by kernel_rfl) (by kernel_rfl) (fun _ _ _ h => h) (Or.inl ⟨by rfl, ?y1_3⟩) (by assumption) ?r1_3
  case y1_3 => (intro w hSw; (try dsimp only at hSw); go_simp; try with_reducible rfl)
  (try simp only [Act.put, List.getElem_toArray, List.getElem_cons_zero, List.getElem_cons_succ, List.setIfInBounds_toArray, List.set_cons_zero, List.set_cons_succ])
  refine wpAnyH_ready (rs := [1]) (by kernel_rfl) (by simp) ?_
  refine AllReadyH.cons rfl (fun K hK => ?_) AllReadyH.nil
  go_simp
  refine (HF.out _ pc ph vk vh Q HC5.out).mono ?_
  rintro e w6 ⟨y, rfl, hO6, k6⟩
  have hY := hO6.rds
  obtain ⟨ay, cy, rfl, _⟩ := id hY
  have HY6 := Lib.hid hY
  have HX6 := Lib.hid (HX5.out.keepsNil k6)
  have HC6 := Lib.hid (HC5.out.keepsNil k6)
  clear hO6 hY k6 HC5 HX5
  go_wp2_with fail
  refine hK.out _ _ ?s1_4 (fun hHeld => ?_)
  case s1_4 => ((try dsimp only) <;> (first | exact HX6.out.str))
  clear hK K
  (try simp only [Act.put, List.getElem_toArray, List.getElem_cons_zero, List.getElem_cons_succ, List.setIfInBounds_toArray, List.set_cons_zero, List.set_cons_succ])
  refine wpAnyH_more (S' := (fun W => (convert 22 9 (.slice ax T.length cx)).run Tryz.prog W = .ok (.string ⟨T.toArray⟩) W ∧ (convert 22 9 (.slice ay T.length cy)).run Tryz.prog W = .ok (.string ⟨T.toArray⟩) W)) (fun _ h => h.1) (⟨HX6.out.str, HY6.out.str⟩) (fun hHeld => ?_)
  refine wpAnyH_take (i := 2) (v := ?v1_5) rfl (by kernel_rfl) (by kernel_rfl) (by kernel_rfl) (fun _ _ _ h => h) (Or.inl ⟨by rfl, ?y1_5⟩) (by assumption) ?r1_5
  case y1_5 => (intro w hSw; (try dsimp only at hSw); go_simp; try with_reducible rfl)
  (try simp only [Act.put, List.getElem_toArray, List.getElem_cons_zero, List.getElem_cons_succ, List.setIfInBounds_toArray, List.set_cons_zero, List.set_cons_succ])
  refine wpAnyH_take (i := 5) (v := ?v1_6) rfl (by kernel_rfl) (by kernel_rfl) (by kernel_rfl) (fun _ _ _ h => h) (Or.inl ⟨by rfl, ?y1_6⟩) (by assumption) ?r1_6
  case y1_6 => (intro w hSw; (try dsimp only at hSw); go_simp; try with_reducible rfl)
  (try simp only [Act.put, List.getElem_toArray, List.getElem_cons_zero, List.getElem_cons_succ, List.setIfInBounds_toArray, List.set_cons_zero, List.set_cons_succ])
  refine wpAnyH_take (i := 6) (v := ?v1_7) rfl (by kernel_rfl) (by kernel_rfl) (by kernel_rfl) (fun _ _ _ h => h) (Or.inl ⟨by rfl, ?y1_7⟩) (by assumption) ?r1_7
  case y1_7 => (intro w hSw; (try dsimp only at hSw); go_simp; try with_reducible rfl)
  (try simp only [Act.put, List.getElem_toArray, List.getElem_cons_zero, List.getElem_cons_succ, List.setIfInBounds_toArray, List.set_cons_zero, List.set_cons_succ])
  refine wpAnyH_take (i := 7) (v := ?v1_8) rfl (by kernel_rfl) (by kernel_rfl) (by kernel_rfl) (fun _ _ _ h => h) (Or.inl ⟨by rfl, ?y1_8⟩) (by assumption) ?r1_8
  case y1_8 => (intro w hSw; (try dsimp only at hSw); go_simp; try with_reducible rfl)
  (try simp only [Act.put, List.getElem_toArray, List.getElem_cons_zero, List.getElem_cons_succ, List.setIfInBounds_toArray, List.set_cons_zero, List.set_cons_succ])
  refine wpAnyH_ready (rs := [8]) (by kernel_rfl) (by simp) ?_
  refine AllReadyH.cons rfl (fun K hK => ?_) AllReadyH.nil
  go_simp
  have k7 : Keeps [] w6 (w6.alloc (.cells #[.int .u32 1, .int .u32 0] 30)) := (Keeps.refl [] w6).alloc _
  have HI7 : Hid (IdsN (w6.alloc (.cells #[.int .u32 1, .int .u32 0] 30)) ph (some ⟨w6.heap.size, 0, none⟩) [1, 0]) := Lib.hid (IdsN.lit2 w6 HC6.out.ph_lt 1 0)
  have HX7 := Lib.hid (HX6.out.keepsNil k7)
  have HY7 := Lib.hid (HY6.out.keepsNil k7)
  have HC7 := Lib.hid (HC6.out.keepsNil k7)
  clear k7 HX6 HY6 HC6
  refine hK.out _ _ ?s1_9 (fun hHeld => ?_)
  case s1_9 => ((try dsimp only) <;> (first | exact ⟨HX7.out.str, HY7.out.str⟩))
  clear hK K
  (try simp only [Act.put, List.getElem_toArray, List.getElem_cons_zero, List.getElem_cons_succ, List.setIfInBounds_toArray, List.set_cons_zero, List.set_cons_succ])
  refine wpAnyH_ready (rs := [9]) (by kernel_rfl) (by simp) ?_
  refine AllReadyH.cons rfl (fun K hK => ?_) AllReadyH.nil
  go_simp
  refine (HE1.out _ pc ph vk vh Q _ HC7.out HI7.out).mono ?_
  rintro e w8 ⟨rfl, k8, Q8, hC8⟩
  have HX8 := Lib.hid (HC7.out.str k8 HX7.out)
  have HY8 := Lib.hid (HC7.out.str k8 HY7.out)
  have HC8 := Lib.hid hC8
  clear hC8 k8 HX7 HY7 HC7 HI7
  go_wp2_with fail
  refine hK.out _ _ ?s1_10 (fun hHeld => ?_)
  case s1_10 => ((try dsimp only) <;> (first | exact ⟨HX8.out.str, HY8.out.str⟩))
  clear hK K
  (try simp only [Act.put, List.getElem_toArray, List.getElem_cons_zero, List.getElem_cons_succ, List.setIfInBounds_toArray, List.set_cons_zero, List.set_cons_succ])
  refine wpAnyH_take (i := 10) (v := ?v1_11) rfl (by kernel_rfl) (by kernel_rfl) (by kernel_rfl) (fun _ _ _ h => h) (Or.inl ⟨by rfl, ?y1_11⟩) (by assumption) ?r1_11
  case y1_11 => (intro w hSw; (try dsimp only at hSw); go_simp; try with_reducible rfl)
  (try simp only [Act.put, List.getElem_toArray, List.getElem_cons_zero, List.getElem_cons_succ, List.setIfInBounds_toArray, List.set_cons_zero, List.set_cons_succ])
  refine wpAnyH_take (i := 11) (v := ?v1_12) rfl (by kernel_rfl) (by kernel_rfl) (by kernel_rfl) (fun _ _ _ h => h) (Or.inl ⟨by rfl, ?y1_12⟩) (by assumption) ?r1_12
  case y1_12 => (intro w hSw; (try dsimp only at hSw); go_simp; try with_reducible rfl)
  (try simp only [Act.put, List.getElem_toArray, List.getElem_cons_zero, List.getElem_cons_succ, List.setIfInBounds_toArray, List.set_cons_zero, List.set_cons_succ])
  refine wpAnyH_take (i := 12) (v := ?v1_13) rfl (by kernel_rfl) (by kernel_rfl) (by kernel_rfl) (fun _ _ _ h => h) (Or.inl ⟨by rfl, ?y1_13⟩) (by assumption) ?r1_13
  case y1_13 => (intro w hSw; (try dsimp only at hSw); go_simp; try with_reducible rfl)
  (try simp only [Act.put, List.getElem_toArray, List.getElem_cons_zero, List.getElem_cons_succ, List.setIfInBounds_toArray, List.set_cons_zero, List.set_cons_succ])
  refine wpAnyH_ready (rs := [13]) (by kernel_rfl) (by simp) ?_
  refine AllReadyH.cons rfl (fun K hK => ?_) AllReadyH.nil
  go_simp
  have k9 : Keeps [] w8 (w8.alloc (.cells #[.int .u32 0, .int .u32 0] 30)) := (Keeps.refl [] w8).alloc _
  have HI9 : Hid (IdsN (w8.alloc (.cells #[.int .u32 0, .int .u32 0] 30)) ph (some ⟨w8.heap.size, 0, none⟩) [0, 0]) := Lib.hid (IdsN.lit2 w8 HC8.out.ph_lt 0 0)
  have HX9 := Lib.hid (HX8.out.keepsNil k9)
  have HY9 := Lib.hid (HY8.out.keepsNil k9)
  have HC9 := Lib.hid (HC8.out.keepsNil k9)
  clear k9 HX8 HY8 HC8
  refine hK.out _ _ ?s1_14 (fun hHeld => ?_)
  case s1_14 => ((try dsimp only) <;> (first | exact ⟨HX9.out.str, HY9.out.str⟩))
  clear hK K
  (try simp only [Act.put, List.getElem_toArray, List.getElem_cons_zero, List.getElem_cons_succ, List.setIfInBounds_toArray, List.set_cons_zero, List.set_cons_succ])
  refine wpAnyH_ready (rs := [14]) (by kernel_rfl) (by simp) ?_
  refine AllReadyH.cons rfl (fun K hK => ?_) AllReadyH.nil
  go_simp
  refine (HE0.out _ pc ph vk vh Q8 _ HC9.out HI9.out).mono ?_
  rintro e w10 ⟨rfl, k10, Q10, hC10⟩
  have HX10 := Lib.hid (HC9.out.str k10 HX9.out)
  have HY10 := Lib.hid (HC9.out.str k10 HY9.out)
  have HK10 := Lib.hid hC10.k
  clear hC10 k10 HX9 HY9 HC9 HI9
  go_wp2_with fail
  refine hK.out _ _ ?s1_15 (fun hHeld => ?_)
  case s1_15 => ((try dsimp only) <;> (first | exact ⟨HX10.out.str, HY10.out.str⟩))
  clear hK K
  (try simp only [Act.put, List.getElem_toArray, List.getElem_cons_zero, List.getElem_cons_succ, List.setIfInBounds_toArray, List.set_cons_zero, List.set_cons_succ])
  refine wpAnyH_take (i := 15) (v := ?v1_16) rfl (by kernel_rfl) (by kernel_rfl) (by kernel_rfl) (fun _ _ _ h => h) (Or.inl ⟨by rfl, ?y1_16⟩) (by assumption) ?r1_16
  case y1_16 => (intro w hSw; (try dsimp only at hSw); go_simp; try with_reducible rfl)
  (try simp only [Act.put, List.getElem_toArray, List.getElem_cons_zero, List.getElem_cons_succ, List.setIfInBounds_toArray, List.set_cons_zero, List.set_cons_succ])
  refine wpAnyH_take (i := 16) (v := ?v1_17) rfl (by kernel_rfl) (by kernel_rfl) (by kernel_rfl) (fun _ _ _ h => h) (Or.inl ⟨by rfl, ?y1_17⟩) (by assumption) ?r1_17
  case y1_17 => (intro w hSw; (try dsimp only at hSw); go_simp; try with_reducible rfl)
  (try simp only [Act.put, List.getElem_toArray, List.getElem_cons_zero, List.getElem_cons_succ, List.setIfInBounds_toArray, List.set_cons_zero, List.set_cons_succ])
  refine wpAnyH_take (i := 17) (v := ?v1_18) rfl (by kernel_rfl) (by kernel_rfl) (by kernel_rfl) (fun _ _ _ h => h) (Or.inl ⟨by rfl, ?y1_18⟩) (by assumption) ?r1_18
  case y1_18 => (intro w hSw; (try dsimp only at hSw); go_simp; try with_reducible rfl)
  (try simp only [Act.put, List.getElem_toArray, List.getElem_cons_zero, List.getElem_cons_succ, List.setIfInBounds_toArray, List.set_cons_zero, List.set_cons_succ])
  refine wpAnyH_done (by kernel_rfl) ?_ _
  refine NoPanic.normal ?_
  go_wp2_with fail
  go_ret
  exact ⟨rfl, HK10.out⟩

end Go.Proofs.YtijhaeapoapgfaaGreatDoor
