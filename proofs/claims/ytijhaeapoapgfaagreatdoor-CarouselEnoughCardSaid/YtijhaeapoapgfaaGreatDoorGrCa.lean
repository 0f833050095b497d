/-
  GrCa: the texts Ca1, Ca2, one behind another.
-/
import Derived.Test.YtijhaeapoapgfaaGreatDoorMf3
import Derived.Test.YtijhaeapoapgfaaGreatDoorGrDt
import Derived.Deep.RegionHeld3
import Derived.Deep.DrawnRows
import Derived.Test.YtijhaeapoapgfaaGreatDoorGrRow
set_option linter.unusedVariables false
set_option linter.unusedSimpArgs false
namespace Go.Proofs.YtijhaeapoapgfaaGreatDoor
open Go.RowKit
attribute [local go_sem ↓] Go.wp_at_zero Go.wp_at_succ

theorem Fits.mf {nK P z n : Nat} {img : List UInt8} (h : Fits nK P z img) (hn : img.length = n) : MfOk n z P nK :=
  ⟨by have := List.length_pos_iff.2 h.ne; omega, by have := h.l; omega, h.k1, h.k2, h.p2, h.z1, h.z2, by rw [← hn]; exact h.c⟩

/-- A head end; all its head's blocks meet Q. -/
structure Car (w0 w : World) (pc ph : Nat) (vk vh : Value) (key : List UInt8) (s v : UInt32) (n nK P z : Nat) (img : List UInt8) (Q : Nat → Prop) : Prop where
  k : Keeps [] w0 w
  b : Blk w pc 75 [vk, B32 s, B32 v, .int .i64 n, .int .i64 z, .int .i64 P, vh, B32 s, .int .i64 nK, .int .i64 P, .int .i64 z, P0 ph]
  kk : RdS w vk key
  hh : RdS w vh (sha img)
  h : Hd w Q ph s nK P z img
  q : ∀ x, Q x → w0.heap.size ≤ x ∧ x < w.heap.size
  p : w0.heap.size ≤ pc ∧ ¬ Q pc
  n : img.length = n

theorem Car.keepsNil {w0 w w' : World} {pc ph : Nat} {vk vh : Value} {key : List UInt8} {s v : UInt32} {n nK P z : Nat} {img : List UInt8} {Q : Nat → Prop} (h : Car w0 w pc ph vk vh key s v n nK P z img Q) (k : Keeps [] w w') : Car w0 w' pc ph vk vh key s v n nK P z img Q :=
  ⟨h.k.trans k, h.b.keeps k (by simp), h.kk.keepsNil k, h.hh.keepsNil k, h.h.keepsNil k, fun x hx => ⟨(h.q x hx).1, Nat.lt_of_lt_of_le (h.q x hx).2 k.size⟩, h.p, h.n⟩
/-- The head has been asked. -/
theorem Car.asked {w0 w w' : World} {pc ph : Nat} {vk vh : Value} {key : List UInt8} {s v : UInt32} {n nK P z : Nat} {img : List UInt8} {Q Q' : Nat → Prop} (h : Car w0 w pc ph vk vh key s v n nK P z img Q) (k : Keeps [ph] w w') (hH : Hd w' Q' ph s nK P z img) (hq : ∀ x, Q' x → (Q x ∨ w.heap.size ≤ x) ∧ x < w'.heap.size) : Car w0 w' pc ph vk vh key s v n nK P z img Q' := by
  have hph := h.h.q
  have hlt := h.b.lt
  have h0 := h.k.size
  have hb : ∀ x, x ∈ [ph] → ∃ t cs, Blk w x t cs ∧ 5 ≠ t := fun x hx => by
    simp only [List.mem_singleton] at hx; subst hx
    obtain ⟨cs, hb⟩ := h.h.blk
    exact ⟨_, cs, hb, by decide⟩
  refine ⟨h.k.trans' k (fun _ h => .inl h) (fun x hx => by simp only [List.mem_singleton] at hx; subst hx; exact .inr (h.q _ hph).1), h.b.keeps k (by simp only [List.mem_singleton]; rintro rfl; exact h.p.2 hph), h.kk.keepsP k hb, h.hh.keepsP k hb, hH, fun x hx => ⟨?_, (hq x hx).2⟩, ⟨h.p.1, fun hp => ?_⟩, h.n⟩
  · rcases (hq x hx).1 with h1 | h1
    · exact (h.q x h1).1
    · omega
  · rcases (hq _ hp).1 with h1 | h1
    · exact h.p.2 h1
    · omega

def CarNew (w : World) (key : List UInt8) (s v : UInt32) (n nK P z : Nat) (img : List UInt8) (e : Ending) (w' : World) : Prop :=
  ∃ pc ph vk vh Q, e = .returned (.tuple #[P0 pc, .int .i64 0]) ∧ Car w w' pc ph vk vh key s v n nK P z img Q

set_option maxRecDepth 100000 in
set_option maxHeartbeats 1600000 in
theorem carnew_calls {w : World} {ak : Option Addr} {nk ck : Nat} {key : List UInt8} (hk : Rd w ak key) (hkn : key.length = nk) (h64 : nk ≤ 64) (hk0 : ak = none → key = []) (s v : UInt32) {ai : Option Addr} {n ci : Nat} {img : List UInt8} (hi : RdS0 w (.slice ai n ci) img) (hn : img.length = n) {nK P z : Nat} (hf : Fits nK P z img) :
    Calls Tryz.prog 8 #[.slice ak nk ck, B32 s, B32 v, .slice ai n ci, .int .i64 z, .int .i64 P] w (CarNew w key s v n nK P z img) := by
  have hm := hf.mf hn
  have hl := hf.l
  obtain ⟨a', c', ea, _, _, r3, r4⟩ := id hi
  simp only [Value.slice.injEq] at ea
  obtain ⟨rfl, hx0, rfl⟩ := ea
  clear hx0
  have HS := Lib.hid (shasum_calls ai n ci img r3 hn (by omega) (fun h => ⟨by rw [← hn, (r4 h).1]; rfl, (r4 h).2⟩))
  have hsl := sha_len img
  obtain ⟨Y, hY⟩ : ∃ Y, Y = sha img := ⟨_, rfl⟩
  rw [← hY] at HS hsl
  have HI := Lib.hid hi
  have HF := Lib.hid hf
  have HM := Lib.hid hm
  have HKy := Lib.hid hk
  have Hsl := Lib.hid hsl
  have HYd := Lib.hid hY
  have HN := Lib.hid hn
  have h64' : (nk : Int) ≤ 64 := by omega
  clear hm hi r3 r4 hf hk hsl hY hl hn
  go_enter Tryz.func8, Tryz.ntmps8
  go_wp2_with fail
  refine HS.out.mono ?_
  rintro e w1 ⟨vh, rfl, hO1, k1⟩
  have hR1 := hO1.rds
  obtain ⟨ah, ch, rfl, _⟩ := id hR1
  rw [Hsl.out] at hR1 ⊢
  have HR1 := Lib.hid hR1
  have hB1 := Blk.newA w1 35 (MfL s v n z P (.slice ah 32 ch)).toArray
  have kA : Keeps [] w1 (w1.alloc (.cells (MfL s v n z P (.slice ah 32 ch)).toArray 35)) := (Keeps.refl [] w1).alloc _
  have HK1 := Lib.hid (k1.trans kA)
  have HKA := Lib.hid kA
  clear hO1 hR1 k1 kA HS
  go_upto_region 2 with (fail)
  generalize w1.alloc (.cells (MfL s v n z P (.slice ah 32 ch)).toArray 35) = w2 at *
  have d0 := hB1.cell' (i := 0) rfl
  have d1 := hB1.cell' (i := 1) rfl
  have d2 := hB1.cell' (i := 2) rfl
  have d3 := hB1.cell' (i := 3) rfl
  have d4 := hB1.cell' (i := 4) rfl
  have d5 := hB1.cell' (i := 5) rfl
  go_wp2_with fail
  refine (mfmay_calls s v ah ch HM.out).mono ?_
  rintro e w3 ⟨rfl, k3⟩
  have hB3 := hB1.keeps k3 (by simp)
  clear d0 d1 d2 d3 d4 d5 hB1
  have d0 := hB3.cell' (i := 0) rfl
  have d1 := hB3.cell' (i := 1) rfl
  have d2 := hB3.cell' (i := 2) rfl
  have d3 := hB3.cell' (i := 3) rfl
  have d4 := hB3.cell' (i := 4) rfl
  have d5 := hB3.cell' (i := 5) rfl
  have HK3 := Lib.hid (HK1.out.trans k3)
  have HKA3 := Lib.hid (HKA.out.trans k3)
  clear k3
  go_wp2_with fail
  refine (of_calls s v (.slice ah 32 ch) HM.out).mono ?_
  rintro e w4 ⟨rfl, k4⟩
  have kB : Keeps [] w4 (w4.alloc (.cells #[B32 s, .int .i64 nK, .int .i64 P, .int .i64 z] 38)) := (Keeps.refl [] w4).alloc _
  have hP := Blk.newA w4 38 #[B32 s, .int .i64 nK, .int .i64 P, .int .i64 z]
  have hB4 := (hB3.keeps k4 (by simp)).keeps kB (by simp)
  have HK4 := Lib.hid ((HK3.out.trans k4).trans kB)
  have HKA4 := Lib.hid ((HKA3.out.trans k4).trans kB)
  clear d0 d1 d2 d3 d4 d5 hB3 k4 kB
  go_upto_region 5 with (fail)
  generalize w4.alloc (.cells #[B32 s, .int .i64 nK, .int .i64 P, .int .i64 z] 38) = w5 at *
  have d0 := hB4.cell' (i := 0) rfl
  have d1 := hB4.cell' (i := 1) rfl
  have d2 := hB4.cell' (i := 2) rfl
  have d3 := hB4.cell' (i := 3) rfl
  have d4 := hB4.cell' (i := 4) rfl
  have d5 := hB4.cell' (i := 5) rfl
  have e0 := hP.cell' (i := 0) rfl
  have e1 := hP.cell' (i := 1) rfl
  have e2 := hP.cell' (i := 2) rfl
  have e3 := hP.cell' (i := 3) rfl
  have hS : ∀ W, Keeps [] w5 W → (W.cell? ⟨w1.heap.size, 0, none⟩ = some (B32 s) ∧ W.cell? ⟨w1.heap.size, 1, none⟩ = some (B32 v) ∧ W.cell? ⟨w1.heap.size, 2, none⟩ = some (.int .i64 n) ∧ W.cell? ⟨w1.heap.size, 3, none⟩ = some (.int .i64 z) ∧ W.cell? ⟨w1.heap.size, 4, none⟩ = some (.int .i64 P) ∧ W.cell? ⟨w1.heap.size, 5, none⟩ = some (.slice ah 32 ch) ∧ W.cell? ⟨w4.heap.size, 0, none⟩ = some (B32 s) ∧ W.cell? ⟨w4.heap.size, 1, none⟩ = some (.int .i64 nK) ∧ W.cell? ⟨w4.heap.size, 2, none⟩ = some (.int .i64 P) ∧ W.cell? ⟨w4.heap.size, 3, none⟩ = some (.int .i64 z)) := fun W k => ⟨k.cell0 d0, k.cell0 d1, k.cell0 d2, k.cell0 d3, k.cell0 d4, k.cell0 d5, k.cell0 e0, k.cell0 e1, k.cell0 e2, k.cell0 e3⟩
  have kd : Keeps [] w5 w5.drew := (Keeps.refl [] w5).drew
  have hCl : ∀ W, Keeps [] w5 W → Calls Tryz.prog 38 #[.slice ak nk ck] W (ClonePost W key) := fun W k => clone_calls ak nk ck key (HKy.out.keepsNil (HK4.out.trans k)) hkn (by omega) hk0
  have hNw : ∀ W, Keeps [] w5 W → Calls Tryz.prog 32 #[.agg #[B32 s, .int .i64 nK, .int .i64 P, .int .i64 z], .slice ai n ci] W (HdNew W s nK P z img) := fun W k => cnew0_calls (HI.out.keepsNil (HK4.out.trans k)) s HF.out
  have HhS := Lib.hid hS
  have HCl := Lib.hid hCl
  have HNw := Lib.hid hNw
  have HR5 := Lib.hid (HR1.out.keepsNil HKA4.out)
  clear hS hCl hNw hB4 hP
  refine wp_region_noPanic ?_
  refine wp_region_held_drew (S := (fun W => W.cell? ⟨w1.heap.size, 0, none⟩ = some (B32 s) ∧ W.cell? ⟨w1.heap.size, 1, none⟩ = some (B32 v) ∧ W.cell? ⟨w1.heap.size, 2, none⟩ = some (.int .i64 n) ∧ W.cell? ⟨w1.heap.size, 3, none⟩ = some (.int .i64 z) ∧ W.cell? ⟨w1.heap.size, 4, none⟩ = some (.int .i64 P) ∧ W.cell? ⟨w1.heap.size, 5, none⟩ = some (.slice ah 32 ch) ∧ W.cell? ⟨w4.heap.size, 0, none⟩ = some (B32 s) ∧ W.cell? ⟨w4.heap.size, 1, none⟩ = some (.int .i64 nK) ∧ W.cell? ⟨w4.heap.size, 2, none⟩ = some (.int .i64 P) ∧ W.cell? ⟨w4.heap.size, 3, none⟩ = some (.int .i64 z))) (by kernel_rfl) (HhS.out _ kd) (fun hHeld => ?_)
  refine wpAnyH_take (i := 0) (v := ?v1_1) rfl (by kernel_rfl) (by kernel_rfl) (by kernel_rfl) (fun _ _ _ h => h) (Or.inl ⟨by rfl, ?y1_1⟩) (by assumption) ?r1_1
  case y1_1 => (intro w hSw; (try dsimp only at hSw); go_simp; try with_reducible rfl)
  (try simp only [Act.put, List.getElem_toArray, List.getElem_cons_zero, List.getElem_cons_succ, List.setIfInBounds_toArray, List.set_cons_zero, List.set_cons_succ])
  refine wpAnyH_take (i := 2) (v := ?v1_2) rfl (by kernel_rfl) (by kernel_rfl) (by kernel_rfl) (fun _ _ _ h => h) (Or.inl ⟨by rfl, ?y1_2⟩) (by assumption) ?r1_2
  case y1_2 => (intro w hSw; (try dsimp only at hSw); go_simp; try with_reducible rfl)
  (try simp only [Act.put, List.getElem_toArray, List.getElem_cons_zero, List.getElem_cons_succ, List.setIfInBounds_toArray, List.set_cons_zero, List.set_cons_succ])
  refine wpAnyH_take (i := 3) (v := ?v1_3) rfl (by kernel_rfl) (by kernel_rfl) (by kernel_rfl) (fun _ _ _ h => h) (Or.inl ⟨by rfl, ?y1_3⟩) (by assumption) ?r1_3
  case y1_3 => (intro w hSw; (try dsimp only at hSw); go_simp; try with_reducible rfl)
  (try simp only [Act.put, List.getElem_toArray, List.getElem_cons_zero, List.getElem_cons_succ, List.setIfInBounds_toArray, List.set_cons_zero, List.set_cons_succ])
  refine wpAnyH_take (i := 4) (v := ?v1_4) rfl (by kernel_rfl) (by kernel_rfl) (by kernel_rfl) (fun _ _ _ h => h) (Or.inl ⟨by rfl, ?y1_4⟩) (by assumption) ?r1_4
  case y1_4 => (intro w hSw; (try dsimp only at hSw); go_simp; try with_reducible rfl)
  (try simp only [Act.put, List.getElem_toArray, List.getElem_cons_zero, List.getElem_cons_succ, List.setIfInBounds_toArray, List.set_cons_zero, List.set_cons_succ])
  refine wpAnyH_take (i := 5) (v := ?v1_5) rfl (by kernel_rfl) (by kernel_rfl) (by kernel_rfl) (fun _ _ _ h => h) (Or.inl ⟨by rfl, ?y1_5⟩) (by assumption) ?r1_5
  case y1_5 => (intro w hSw; (try dsimp only at hSw); go_simp; try with_reducible rfl)
  (try simp only [Act.put, List.getElem_toArray, List.getElem_cons_zero, List.getElem_cons_succ, List.setIfInBounds_toArray, List.set_cons_zero, List.set_cons_succ])
  refine wpAnyH_ready (rs := [1]) (by kernel_rfl) (by simp) ?_
  refine AllReadyH.cons rfl (fun K hK => ?_) AllReadyH.nil
  go_simp
  refine (HCl.out _ kd).mono ?_
  rintro e w6 ⟨v6, rfl, hO6, k6⟩
  replace kd := kd.trans k6
  have hR6 := hO6.rds
  obtain ⟨a6, c6, rfl, _⟩ := id hR6
  rw [hkn] at hR6
  have HR6 := Lib.hid hR6
  clear hR6
  clear hO6
  go_wp2_with fail
  refine hK.out _ _ ?s1_6 (fun hHeld => ?_)
  case s1_6 => ((try dsimp only) <;> (first | exact HhS.out _ kd))
  clear hK K
  (try simp only [Act.put, List.getElem_toArray, List.getElem_cons_zero, List.getElem_cons_succ, List.setIfInBounds_toArray, List.set_cons_zero, List.set_cons_succ])
  refine wpAnyH_ready (rs := [6]) (by kernel_rfl) (by simp) ?_
  refine AllReadyH.cons rfl (fun K hK => ?_) AllReadyH.nil
  go_simp
  refine (HNw.out _ kd).mono ?_
  rintro e w7 ⟨ph, rfl, hph, hH, k7⟩
  replace kd := kd.trans k7
  go_wp2_with fail
  refine hK.out _ _ ?s1_7 (fun hHeld => ?_)
  case s1_7 => ((try dsimp only) <;> (first | exact HhS.out _ kd))
  clear hK K
  (try simp only [Act.put, List.getElem_toArray, List.getElem_cons_zero, List.getElem_cons_succ, List.setIfInBounds_toArray, List.set_cons_zero, List.set_cons_succ])
  refine wpAnyH_take (i := 7) (v := ?v1_8) rfl (by kernel_rfl) (by kernel_rfl) (by kernel_rfl) (fun _ _ _ h => h) (Or.inl ⟨by rfl, ?y1_8⟩) (by assumption) ?r1_8
  case y1_8 => (intro w hSw; (try dsimp only at hSw); go_simp; try with_reducible rfl)
  (try simp only [Act.put, List.getElem_toArray, List.getElem_cons_zero, List.getElem_cons_succ, List.setIfInBounds_toArray, List.set_cons_zero, List.set_cons_succ])
  refine wpAnyH_ready (rs := [8]) (by kernel_rfl) (by simp) ?_
  refine AllReadyH.cons rfl (fun K hK => ?_) AllReadyH.nil
  go_simp
  have kN : Keeps [] w7 (w7.alloc (.cells #[.slice a6 nk c6, B32 s, B32 v, .int .i64 n, .int .i64 z, .int .i64 P, .slice ah 32 ch, B32 s, .int .i64 nK, .int .i64 P, .int .i64 z, P0 ph] 75)) := (Keeps.refl [] w7).alloc _
  refine hK.out _ _ ?s1_9 (fun hHeld => ?_)
  case s1_9 => ((try dsimp only) <;> (first | exact HhS.out _ (kd.trans kN)))
  clear hK K
  (try simp only [Act.put, List.getElem_toArray, List.getElem_cons_zero, List.getElem_cons_succ, List.setIfInBounds_toArray, List.set_cons_zero, List.set_cons_succ])
  refine wpAnyH_take (i := 9) (v := ?v1_10) rfl (by kernel_rfl) (by kernel_rfl) (by kernel_rfl) (fun _ _ _ h => h) (Or.inl ⟨by rfl, ?y1_10⟩) (by assumption) ?r1_10
  case y1_10 => (intro w hSw; (try dsimp only at hSw); go_simp; try with_reducible rfl)
  (try simp only [Act.put, List.getElem_toArray, List.getElem_cons_zero, List.getElem_cons_succ, List.setIfInBounds_toArray, List.set_cons_zero, List.set_cons_succ])
  refine wpAnyH_take (i := 10) (v := ?v1_11) rfl (by kernel_rfl) (by kernel_rfl) (by kernel_rfl) (fun _ _ _ h => h) (Or.inl ⟨by rfl, ?y1_11⟩) (by assumption) ?r1_11
  case y1_11 => (intro w hSw; (try dsimp only at hSw); go_simp; try with_reducible rfl)
  (try simp only [Act.put, List.getElem_toArray, List.getElem_cons_zero, List.getElem_cons_succ, List.setIfInBounds_toArray, List.set_cons_zero, List.set_cons_succ])
  refine wpAnyH_done (by kernel_rfl) ?_ _
  refine NoPanic.normal ?_
  go_wp2_with fail
  go_ret2
  have hs := (HK4.out.trans kd).size
  have hb := Blk.newA w7 75 #[.slice a6 nk c6, B32 s, B32 v, .int .i64 n, .int .i64 z, .int .i64 P, .slice ah 32 ch, B32 s, .int .i64 nK, .int .i64 P, .int .i64 z, P0 ph]
  refine ⟨w7.heap.size, ph, _, _, _, rfl, (HK4.out.trans kd).trans kN, hb, (HR6.out.keepsNil k7).keepsNil kN, ?_, hH.bound.keepsNil kN, fun x hx => ⟨?_, ?_⟩, ⟨hs, fun hx => ?_⟩, HN.out⟩
  · rw [← HYd.out]; exact HR5.out.keepsNil (kd.trans kN)
  · have := hx.1; have h6 := (HK4.out.trans ((Keeps.refl [] w5).drew.trans k6)).size; omega
  · exact Nat.lt_of_lt_of_le hx.2 kN.size
  · have := hx.2; omega

end Go.Proofs.YtijhaeapoapgfaaGreatDoor

set_option linter.unusedVariables false
set_option linter.unusedSimpArgs false
namespace Go.Proofs.YtijhaeapoapgfaaGreatDoor
open Go.RowKit
attribute [local go_sem ↓] Go.wp_at_zero Go.wp_at_succ

set_option maxRecDepth 100000 in
set_option maxHeartbeats 1600000 in
theorem cafirst_calls {w0 w : World} {pc ph : Nat} {vk vh : Value} {key : List UInt8} {s v : UInt32} {n nK P z : Nat} {img : List UInt8} {Q : Nat → Prop} (h : Car w0 w pc ph vk vh key s v n nK P z img Q) (h64 : key.length ≤ 64) :
    Calls Tryz.prog 21 #[P0 pc] w (ClonePost w (wrapM 1 (manM key s v n z P (sha img)))) := by
  have hm := h.h.fits.mf h.n
  have hkk := h.kk
  have hhh := h.hh
  have hsl := sha_len img
  obtain ⟨ah, ch, rfl, _⟩ := id hhh
  rw [hsl] at hhh
  obtain ⟨ak, ck, rfl, _, _, r3, r4, _⟩ := id hkk
  have hb := h.b
  rw [hsl] at hb
  have hB := fun W (k : Keeps [] w W) => (mbytes_calls (r3.keepsNil k) rfl h64 (fun e => r4 e) s v hm (hhh.keepsNil k) hsl : Calls Tryz.prog 60 #[.slice ak key.length ck, MfV s v n z P (.slice ah 32 ch)] W (PlainPost W (manM key s v n z P (sha img))))
  have hml := manM_len (key := key) (s := s) (v := v) (n := n) (z := z) (P := P) hsl
  generalize manM key s v n z P (sha img) = Y at *
  have HB := Lib.hid hB
  have Hml := Lib.hid hml
  have c0 := hb.cell' (i := 0) rfl
  have c1 := hb.cell' (i := 1) rfl
  have c2 := hb.cell' (i := 2) rfl
  have c3 := hb.cell' (i := 3) rfl
  have c4 := hb.cell' (i := 4) rfl
  have c5 := hb.cell' (i := 5) rfl
  have c6 := hb.cell' (i := 6) rfl
  have hS : ∀ W, Keeps [] w W → (W.cell? ⟨pc, 0, none⟩ = some (.slice ak key.length ck) ∧ W.cell? ⟨pc, 1, none⟩ = some (B32 s) ∧ W.cell? ⟨pc, 2, none⟩ = some (B32 v) ∧ W.cell? ⟨pc, 3, none⟩ = some (.int .i64 n) ∧ W.cell? ⟨pc, 4, none⟩ = some (.int .i64 z) ∧ W.cell? ⟨pc, 5, none⟩ = some (.int .i64 P) ∧ W.cell? ⟨pc, 6, none⟩ = some (.slice ah 32 ch)) := fun W k => ⟨k.cell0 c0, k.cell0 c1, k.cell0 c2, k.cell0 c3, k.cell0 c4, k.cell0 c5, k.cell0 c6⟩
  have HhS := Lib.hid hS
  clear hS hB hml hb r3 r4 hkk hhh hm h hsl
  go_enter Tryz.func21, Tryz.ntmps21
  go_upto_region 3 with (fail)
  have kd : Keeps [] w w.drew := (Keeps.refl [] w).drew
  refine wp_region_noPanic ?_
  refine wp_region_held_drew (S := (fun W => W.cell? ⟨pc, 0, none⟩ = some (.slice ak key.length ck) ∧ W.cell? ⟨pc, 1, none⟩ = some (B32 s) ∧ W.cell? ⟨pc, 2, none⟩ = some (B32 v) ∧ W.cell? ⟨pc, 3, none⟩ = some (.int .i64 n) ∧ W.cell? ⟨pc, 4, none⟩ = some (.int .i64 z) ∧ W.cell? ⟨pc, 5, none⟩ = some (.int .i64 P) ∧ W.cell? ⟨pc, 6, none⟩ = some (.slice ah 32 ch))) (by kernel_rfl) (HhS.out _ kd) (fun hHeld => ?_)
  refine wpAnyH_take (i := 0) (v := ?v2_12) rfl (by kernel_rfl) (by kernel_rfl) (by kernel_rfl) (fun _ _ _ h => h) (Or.inl ⟨by rfl, ?y2_12⟩) (by assumption) ?r2_12
  case y2_12 => (intro w hSw; (try dsimp only at hSw); go_simp; try with_reducible rfl)
  (try simp only [Act.put, List.getElem_toArray, List.getElem_cons_zero, List.getElem_cons_succ, List.setIfInBounds_toArray, List.set_cons_zero, List.set_cons_succ])
  refine wpAnyH_take (i := 1) (v := ?v2_13) rfl (by kernel_rfl) (by kernel_rfl) (by kernel_rfl) (fun _ _ _ h => h) (Or.inl ⟨by rfl, ?y2_13⟩) (by assumption) ?r2_13
  case y2_13 => (intro w hSw; (try dsimp only at hSw); go_simp; try with_reducible rfl)
  (try simp only [Act.put, List.getElem_toArray, List.getElem_cons_zero, List.getElem_cons_succ, List.setIfInBounds_toArray, List.set_cons_zero, List.set_cons_succ])
  refine wpAnyH_take (i := 2) (v := ?v2_14) rfl (by kernel_rfl) (by kernel_rfl) (by kernel_rfl) (fun _ _ _ h => h) (Or.inl ⟨by rfl, ?y2_14⟩) (by assumption) ?r2_14
  case y2_14 => (intro w hSw; (try dsimp only at hSw); go_simp; try with_reducible rfl)
  (try simp only [Act.put, List.getElem_toArray, List.getElem_cons_zero, List.getElem_cons_succ, List.setIfInBounds_toArray, List.set_cons_zero, List.set_cons_succ])
  refine wpAnyH_take (i := 3) (v := ?v2_15) rfl (by kernel_rfl) (by kernel_rfl) (by kernel_rfl) (fun _ _ _ h => h) (Or.inl ⟨by rfl, ?y2_15⟩) (by assumption) ?r2_15
  case y2_15 => (intro w hSw; (try dsimp only at hSw); go_simp; try with_reducible rfl)
  (try simp only [Act.put, List.getElem_toArray, List.getElem_cons_zero, List.getElem_cons_succ, List.setIfInBounds_toArray, List.set_cons_zero, List.set_cons_succ])
  refine wpAnyH_take (i := 4) (v := ?v2_16) rfl (by kernel_rfl) (by kernel_rfl) (by kernel_rfl) (fun _ _ _ h => h) (Or.inl ⟨by rfl, ?y2_16⟩) (by assumption) ?r2_16
  case y2_16 => (intro w hSw; (try dsimp only at hSw); go_simp; try with_reducible rfl)
  (try simp only [Act.put, List.getElem_toArray, List.getElem_cons_zero, List.getElem_cons_succ, List.setIfInBounds_toArray, List.set_cons_zero, List.set_cons_succ])
  refine wpAnyH_take (i := 5) (v := ?v2_17) rfl (by kernel_rfl) (by kernel_rfl) (by kernel_rfl) (fun _ _ _ h => h) (Or.inl ⟨by rfl, ?y2_17⟩) (by assumption) ?r2_17
  case y2_17 => (intro w hSw; (try dsimp only at hSw); go_simp; try with_reducible rfl)
  (try simp only [Act.put, List.getElem_toArray, List.getElem_cons_zero, List.getElem_cons_succ, List.setIfInBounds_toArray, List.set_cons_zero, List.set_cons_succ])
  refine wpAnyH_take (i := 6) (v := ?v2_18) rfl (by kernel_rfl) (by kernel_rfl) (by kernel_rfl) (fun _ _ _ h => h) (Or.inl ⟨by rfl, ?y2_18⟩) (by assumption) ?r2_18
  case y2_18 => (intro w hSw; (try dsimp only at hSw); go_simp; try with_reducible rfl)
  (try simp only [Act.put, List.getElem_toArray, List.getElem_cons_zero, List.getElem_cons_succ, List.setIfInBounds_toArray, List.set_cons_zero, List.set_cons_succ])
  refine wpAnyH_take (i := 7) (v := ?v2_19) rfl (by kernel_rfl) (by kernel_rfl) (by kernel_rfl) (fun _ _ _ h => h) (Or.inl ⟨by rfl, ?y2_19⟩) (by assumption) ?r2_19
  case y2_19 => (intro w hSw; (try dsimp only at hSw); go_simp; try with_reducible rfl)
  (try simp only [Act.put, List.getElem_toArray, List.getElem_cons_zero, List.getElem_cons_succ, List.setIfInBounds_toArray, List.set_cons_zero, List.set_cons_succ])
  refine wpAnyH_ready (rs := [8]) (by kernel_rfl) (by simp) ?_
  refine AllReadyH.cons rfl (fun K hK => ?_) AllReadyH.nil
  go_simp
  refine (HB.out _ kd).mono ?_
  rintro e w1 ⟨v1, rfl, hO1, k1⟩
  replace kd := kd.trans k1
  have HO1 := Lib.hid hO1
  clear hO1
  go_wp2_with fail
  refine hK.out _ _ ?s2_20 (fun hHeld => ?_)
  case s2_20 => ((try dsimp only) <;> (first | exact HhS.out _ kd))
  clear hK K
  (try simp only [Act.put, List.getElem_toArray, List.getElem_cons_zero, List.getElem_cons_succ, List.setIfInBounds_toArray, List.set_cons_zero, List.set_cons_succ])
  refine wpAnyH_take (i := 9) (v := ?v2_21) rfl (by kernel_rfl) (by kernel_rfl) (by kernel_rfl) (fun _ _ _ h => h) (Or.inl ⟨by rfl, ?y2_21⟩) (by assumption) ?r2_21
  case y2_21 => (intro w hSw; (try dsimp only at hSw); go_simp; try with_reducible rfl)
  (try simp only [Act.put, List.getElem_toArray, List.getElem_cons_zero, List.getElem_cons_succ, List.setIfInBounds_toArray, List.set_cons_zero, List.set_cons_succ])
  refine wpAnyH_take (i := 10) (v := ?v2_22) rfl (by kernel_rfl) (by kernel_rfl) (by kernel_rfl) (fun _ _ _ h => h) (Or.inl ⟨by rfl, ?y2_22⟩) (by assumption) ?r2_22
  case y2_22 => (intro w hSw; (try dsimp only at hSw); go_simp; try with_reducible rfl)
  (try simp only [Act.put, List.getElem_toArray, List.getElem_cons_zero, List.getElem_cons_succ, List.setIfInBounds_toArray, List.set_cons_zero, List.set_cons_succ])
  refine wpAnyH_take (i := 11) (v := ?v2_23) rfl (by kernel_rfl) (by kernel_rfl) (by kernel_rfl) (fun _ _ _ h => h) (Or.inl ⟨by rfl, ?y2_23⟩) (by assumption) ?r2_23
  case y2_23 => (intro w hSw; (try dsimp only at hSw); go_simp; try with_reducible rfl)
  (try simp only [Act.put, List.getElem_toArray, List.getElem_cons_zero, List.getElem_cons_succ, List.setIfInBounds_toArray, List.set_cons_zero, List.set_cons_succ])
  refine wpAnyH_take (i := 12) (v := ?v2_24) rfl (by kernel_rfl) (by kernel_rfl) (by kernel_rfl) (fun _ _ _ h => h) (Or.inl ⟨by rfl, ?y2_24⟩) (by assumption) ?r2_24
  case y2_24 => (intro w hSw; (try dsimp only at hSw); go_simp; try with_reducible rfl)
  (try simp only [Act.put, List.getElem_toArray, List.getElem_cons_zero, List.getElem_cons_succ, List.setIfInBounds_toArray, List.set_cons_zero, List.set_cons_succ])
  refine wpAnyH_take (i := 13) (v := ?v2_25) rfl (by kernel_rfl) (by kernel_rfl) (by kernel_rfl) (fun _ _ _ h => h) (Or.inl ⟨by rfl, ?y2_25⟩) (by assumption) ?r2_25
  case y2_25 => (intro w hSw; (try dsimp only at hSw); go_simp; try with_reducible rfl)
  (try simp only [Act.put, List.getElem_toArray, List.getElem_cons_zero, List.getElem_cons_succ, List.setIfInBounds_toArray, List.set_cons_zero, List.set_cons_succ])
  refine wpAnyH_done (by kernel_rfl) ?_ _
  refine NoPanic.normal ?_
  clear c0 c1 c2 c3 c4 c5 c6 hHeld HhS
  have hR1 := HO1.out.rds
  obtain ⟨a1, c1, rfl, _⟩ := id hR1
  have hs := kd.size
  rw [Hml.out] at hR1 ⊢
  have HW := Lib.hid (fwrap_calls 1 (by omega) hR1 Hml.out (by omega) : Calls Tryz.prog 61 #[.int .i64 1, .slice a1 76 c1] w1 (PlainPost w1 (wrapM 1 Y)))
  have HK1 := Lib.hid kd
  clear hR1 kd k1
  go_wp2_with fail
  refine HW.out.mono ?_
  rintro e w2 ⟨v2, rfl, hO2, k2⟩
  have HO2 := Lib.hid (hO2.mono hs)
  have HK2 := Lib.hid (HK1.out.trans k2)
  clear hO2 k2 HW
  go_wp2_with fail
  go_ret
  exact ⟨_, rfl, HO2.out, HK2.out⟩

theorem Keeps.cellA {S : List Nat} {w w' : World} {a : Addr} {v : Value} (k : Keeps S w w') (h : w.cell? a = some v) (ha : a.block ∉ S) : w'.cell? a = some v :=
  (World.cell?_of_block (k.block a.block (World.block_lt_of_cell? w _ h) ha)).trans h
/-- Numbers to be read, in another block than p. -/
def IdsN (w : World) (p : Nat) (A : Option Addr) (l : List UInt32) : Prop := ∀ i x, l[i]? = some x → ∃ b o, A = some ⟨b, o, none⟩ ∧ b ≠ p ∧ w.cell? ⟨b, o + i, none⟩ = some (B32 x)
theorem IdsN.keeps {w w' : World} {p : Nat} {A : Option Addr} {l : List UInt32} (h : IdsN w p A l) (k : Keeps [p] w w') : IdsN w' p A l := fun i x hx => by
  obtain ⟨b, o, e, hb, hc⟩ := h i x hx
  exact ⟨b, o, e, hb, k.cellA hc (by simpa using hb)⟩
theorem IdsN.take {w : World} {p : Nat} {A : Option Addr} {l : List UInt32} (h : IdsN w p A l) (k : Nat) : IdsN w p A (l.take k) := fun i x hx => h i x (by
  rw [List.getElem?_take] at hx
  split at hx
  · exact hx
  · cases hx)
theorem IdsN.nil (w : World) (p : Nat) (A : Option Addr) : IdsN w p A [] := fun i x hx => by simp at hx

def enuf (s : UInt32) (nK P z : Nat) (img : List UInt8) (l : List UInt32) : Bool := decide (rank (hears s nK P z img (pmx s nK P z P) l) = nK + P)
def EnPost (w0 w : World) (pc ph : Nat) (vk vh : Value) (key : List UInt8) (s v : UInt32) (n nK P z : Nat) (img : List UInt8) (l : List UInt32) (e : Ending) (w' : World) : Prop :=
  e = .returned (.bool (enuf s nK P z img l)) ∧ Keeps [ph] w w' ∧ ∃ Q, Car w0 w' pc ph vk vh key s v n nK P z img Q

set_option maxRecDepth 100000 in
set_option maxHeartbeats 1600000 in
theorem caenough_calls {w0 w : World} {pc ph : Nat} {vk vh : Value} {key : List UInt8} {s v : UInt32} {n nK P z : Nat} {img : List UInt8} {Q : Nat → Prop} (h : Car w0 w pc ph vk vh key s v n nK P z img Q) (ht : TzAt w0) {A : Option Addr} {m c : Nat} {l : List UInt32} (hl : IdsN w ph A l) (hlm : l.length = m) (hmc : m ≤ c) (hm : m ≤ 1000) :
    Calls Tryz.prog 9 #[P0 pc, .slice A m c] w (EnPost w0 w pc ph vk vh key s v n nK P z img l) := by
  have hf := h.h.fits
  have hN := dnew_calls s nK P z hf.pm (ht.keeps h.k (by simp))
  have c7 := h.b.cell' (i := 7) rfl
  have c8 := h.b.cell' (i := 8) rfl
  have c9 := h.b.cell' (i := 9) rfl
  have c10 := h.b.cell' (i := 10) rfl
  have hmin : min (m : Int) 1000 = (m : Int) := by omega
  have hmi : (m : Int) ≤ (c : Int) := by omega
  have hpp : pc ≠ ph := fun e => h.p.2 (e ▸ h.h.q)
  obtain ⟨M0, hM0⟩ : ∃ M0, M0 = pmx s nK P z P := ⟨_, rfl⟩
  have hSt : Sd s nK P z img M0 := hM0 ▸ Sd.start hf s
  have hrk : rank M0 = P := by rw [hM0]; exact pmx_rank s nK P z P (Nat.le_refl _)
  have hen : ∀ l, enuf s nK P z img l = decide (rank (hears s nK P z img M0 l) = nK + P) := fun l => by rw [hM0]; rfl
  unfold DeNew at hN
  rw [← hM0] at hN
  unfold EnPost
  rw [hen l]
  have HN := Lib.hid hN
  have HC := Lib.hid h
  have HL := Lib.hid hl
  have HF := Lib.hid hf
  have HSt := Lib.hid hSt
  have Hrk := Lib.hid hrk
  have Htz := Lib.hid ht
  clear hN h hl hf hSt hM0 hrk ht hen
  go_enter Tryz.func9, Tryz.ntmps9
  go_wp2_with fail
  refine HN.out.mono ?_
  rintro e w1 ⟨pd, Fl0, rfl, hD, hFl, k1⟩
  have HD0 : Hid (Duo w0 w1 ph pd s nK P z img M0 0 Q Fl0) := Lib.hid ⟨HC.out.k.trans k1, HC.out.h.keepsNil k1, hD, fun x hx => ⟨(HC.out.q x hx).1, Nat.lt_of_lt_of_le (HC.out.q x hx).2 k1.size⟩, fun x hx => ⟨Nat.le_trans HC.out.k.size (hFl x hx), fun hq => by have := (HC.out.q x hq).2; have := hFl x hx; omega⟩, HSt.out, by rw [Hrk.out]; omega, Htz.out⟩
  have HFl := Lib.hid hFl
  have HK1 : Hid (Keeps [ph] w w1) := Lib.hid k1.nil
  clear hD hFl k1 HN c7 c8 c9 c10
  go_wp2_with fail
  go_loopw [21] (fun i wr => ∃ (k tk : Nat) (Q' : Nat → Prop) (Fl : List Nat), k ≤ m ∧ i = .int .i64 k ∧ Duo w0 wr ph pd s nK P z img (hears s nK P z img M0 (l.take k)) tk Q' Fl ∧ (∀ x ∈ Fl, w.heap.size ≤ x) ∧ (∀ x, Q' x → Q x ∨ w.heap.size ≤ x) ∧ Keeps [ph] w wr) (fun i _ => m - (intOf i).toNat)
  case atStart => exact ⟨0, 0, Q, Fl0, Nat.zero_le _, rfl, HD0.out, HFl.out, fun x hx => .inl hx, HK1.out⟩
  case round =>
    clear HD0 HFl HK1
    obtain ⟨k, tk, Q', Fl, hk, rfl, hD, hFl, hQ, hK⟩ := hrel
    by_cases hlt : k < m
    · have hki : (k : Int) < (m : Int) := by omega
      have hkl : k < l.length := by omega
      obtain ⟨b, o, rfl, hb, hc⟩ := (HL.out.keeps hK) k l[k] (List.getElem?_eq_getElem hkl)
      have hsn : hears s nK P z img M0 (l.take (k + 1)) = mAdd (nK + P) (hears s nK P z img M0 (l.take k)) (symR s nK P z img l[k]) := by
        rw [List.take_add_one, List.getElem?_eq_getElem hkl, Option.toList_some, hears_snoc]
      generalize l[k] = id at *
      generalize hears s nK P z img M0 (l.take k) = M at *
      have Hsn := Lib.hid hsn
      have c11 := (HC.out.b.keeps hK (by simpa using hpp)).cell' (i := 11) rfl
      have HS := Lib.hid (hD.sym_calls id)
      have HFl := Lib.hid hFl
      have HQ := Lib.hid hQ
      have HK := Lib.hid hK
      have hwr := hK.size
      clear hsn hD hFl hQ hK
      go_wp2_with fail
      refine HS.out.mono ?_
      rintro e w2 ⟨g, Q2, rfl, hR2, _, _, hD2, hQ2, k2⟩
      have HT := Lib.hid (hD2.take_calls (c := z) id hR2)
      have HQ2 := Lib.hid (show ∀ x, Q2 x → Q x ∨ w.heap.size ≤ x from fun x hx => by
        rcases hQ2 x hx with h1 | h1
        · exact HQ.out x h1
        · exact .inr (Nat.le_trans hwr h1))
      have HK2 := Lib.hid (HK.out.trans' k2 (T := [ph]) (fun _ h => .inl h) (fun x hx => .inl hx))
      clear hR2 hD2 hQ2 k2 HS c11 hc
      go_wp2_with fail
      refine HT.out.mono ?_
      rintro e w3 ⟨tk', Fl', rfl, hD3, hF3, k3, _⟩
      have hw2 := HK2.out.size
      have HF3 := Lib.hid (show ∀ x ∈ Fl', w.heap.size ≤ x from fun x hx => by
        rcases hF3 x hx with h1 | h1
        · exact HFl.out x h1
        · omega)
      have HK3 := Lib.hid (HK2.out.trans' k3 (T := [ph]) (fun _ h => .inl h) (fun x hx => .inr (HFl.out x hx)))
      have HD3 := Lib.hid hD3
      clear hF3 k3 hD3 HT
      go_wp2_with fail
      go_roundw
      case rel => exact ⟨k + 1, tk', Q2, Fl', by omega, by go_num, by rw [Hsn.out]; exact HD3.out, HF3.out, HQ2.out, HK3.out⟩
      case measure => simp [intOf]; omega
    · obtain rfl : k = m := by omega
      have hlt' : l.take k = l := by rw [← hlm]; exact List.take_length
      rw [hlt'] at hD
      have hNd := dneeds_calls hD.d HF.out.pm
      have hle := hD.sd.rank_le
      obtain ⟨M, hMd⟩ : ∃ M, M = hears s nK P z img M0 l := ⟨_, rfl⟩
      rw [← hMd] at hD hNd hle
      have HMd := Lib.hid hMd
      clear hMd
      have HD := Lib.hid hD
      have HQ := Lib.hid hQ
      have HK := Lib.hid hK
      obtain ⟨nd, hnd⟩ : ∃ nd, nd = nK + P - rank M := ⟨_, rfl⟩
      rw [← hnd] at hNd
      have HNd := Lib.hid hNd
      have hpost : ∀ W, Keeps [] wr W → Keeps [ph] w W ∧ ∃ Q, Car w0 W pc ph vk vh key s v n nK P z img Q := fun W k => by
        have k' := HK.out.trans' k (T := [ph]) (fun _ h => .inl h) (by simp)
        have hd := HD.out.keepsNil k
        exact ⟨k', _, HC.out.asked k' hd.h (fun x hx => ⟨HQ.out x hx, (hd.q x hx).2⟩)⟩
      have HP := Lib.hid hpost
      have Hnd := Lib.hid (show (nd = 0) ↔ rank M = nK + P from by omega)
      clear hD hFl hQ hK hNd hpost hlt hlt' hle hnd
      by_cases h0 : nd = 0
      · subst h0
        have Hd := Lib.hid (show decide (rank M = nK + P) = true from decide_eq_true (Hnd.out.1 rfl))
        go_wp2_with fail
        refine HNd.out.mono ?_
        rintro e w2 ⟨rfl, k2⟩
        go_wp2_with fail
        go_ret
        exact ⟨by rw [← HMd.out, Hd.out]; rfl, HP.out _ k2⟩
      · have Hd := Lib.hid (show decide (rank M = nK + P) = false from decide_eq_false (fun e => h0 (Hnd.out.2 e)))
        have h1 : ¬ ((nd : Int) = 0) := by omega
        have h2 : ((nd : Int) == 0) = false := by simp; omega
        go_wp2_with fail
        refine HNd.out.mono ?_
        rintro e w2 ⟨rfl, k2⟩
        go_wp2_with fail
        go_ret
        exact ⟨by rw [← HMd.out, Hd.out]; rfl, HP.out _ k2⟩

end Go.Proofs.YtijhaeapoapgfaaGreatDoor
