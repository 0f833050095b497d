/-
  De2: decode.New, walked; rows of parity in blocks of their own.
-/
import Derived.Test.YtghgmchgbhdldaaGreatDoorDe1
set_option linter.unusedVariables false
set_option linter.unusedSimpArgs false
namespace Go.Proofs.YtghgmchgbhdldaaGreatDoor
open Go.RowKit
attribute [local go_sem ↓] Go.wp_at_zero Go.wp_at_succ

/-- A slice of rows, all its blocks from B on and below T. -/
def VRb (w : World) (B T : Nat) (v : Value) (n : Nat) (Xs : List Nat) : Prop :=
  ∃ a c, v = .slice a Xs.length c ∧ ∀ (j X : Nat), Xs[j]? = some X → ∃ g0 p g, a = some ⟨g0, 0, none⟩ ∧ (B ≤ g0 ∧ g0 < T) ∧ (B ≤ p ∧ p < T) ∧ (B ≤ g ∧ g < T) ∧ w.cell? ⟨g0, j, none⟩ = some (.pointer (some ⟨p, 0, none⟩)) ∧ VecAt w p g n X
theorem VRows.rb {w : World} {B n : Nat} {v : Value} {Xs : List Nat} (h : VRows w B v n Xs) : VRb w B w.heap.size v n Xs := by
  obtain ⟨vs, hO, hl, he⟩ := h
  obtain ⟨a, c, rfl, _, _, h3, _⟩ := hO.read
  rw [hl]
  refine ⟨a, c, rfl, fun j X hX => ?_⟩
  obtain ⟨p, g, hp, b1, b2, hV⟩ := he j X hX
  obtain ⟨g0, ha, hb, hc⟩ := h3 j _ hp
  exact ⟨g0, p, g, ha, ⟨hb, World.block_lt_of_cell? w _ hc⟩, ⟨b1, hV.b.lt⟩, ⟨b2, hV.r.lt⟩, hc, hV⟩
theorem VRb.keeps {S : List Nat} {w w' : World} {B T n : Nat} {v : Value} {Xs : List Nat} (h : VRb w B T v n Xs) (k : Keeps S w w') (hS : ∀ x ∈ S, x < B ∨ T ≤ x) : VRb w' B T v n Xs := by
  obtain ⟨a, c, rfl, he⟩ := h
  refine ⟨a, c, rfl, fun j X hX => ?_⟩
  obtain ⟨g0, p, g, ha, b0, b1, b2, hc, hV⟩ := he j X hX
  have hn : ∀ x, B ≤ x ∧ x < T → x ∉ S := fun x hx hm => by have := hS x hm; omega
  exact ⟨g0, p, g, ha, b0, b1, b2, (World.cell?_of_block (a := ⟨g0, j, none⟩) (k.block g0 (World.block_lt_of_cell? w _ hc) (hn _ b0))).trans hc, hV.keeps k (hn _ b1) (hn _ b2)⟩
theorem VRb.len {w : World} {B T n : Nat} {v : Value} {Xs : List Nat} (h : VRb w B T v n Xs) : ∃ a c, v = .slice a Xs.length c := by
  obtain ⟨a, c, rfl, _⟩ := h; exact ⟨a, c, rfl⟩

/-- The matrix behind the first k rows of parity, each with d zeros. -/
def pmx (s : UInt32) (nK P d : Nat) : Nat → Mtx
  | 0 => mnew (nK + P)
  | k + 1 => mAdd (nK + P) (pmx s nK P d k) ⟨parX s nK (nK + P) k nK, zer d⟩
theorem pmx_ech (s : UInt32) (nK P d : Nat) : ∀ k, Ech (nK + P) d (pmx s nK P d k)
  | 0 => mnew_ech _ _
  | k + 1 => mAdd_ech (pmx_ech s nK P d k) (parX_lt s (by omega) nK (Nat.le_refl _)) (zer_len d)

/-- What Add leaves, whether it says something new or not. -/
def AddAny (w : World) (pm n z : Nat) (M : Mtx) (q : Rw) (Fl : List Nat) (e : Ending) (w' : World) : Prop :=
  ∃ Fl', e = .returned (.bool (decide ((red M q).x ≠ 0))) ∧ MxF w' pm n z (mAdd n M q) Fl' ∧ (∀ x ∈ Fl', x ∈ Fl ∨ w.heap.size ≤ x) ∧ Keeps Fl w w' ∧ ((red M q).x = 0 → Keeps [] w w')
theorem mAdd_same {n : Nat} {M : Mtx} {r : Rw} (h : (red M r).x = 0) : mAdd n M r = M := by unfold mAdd; rw [if_pos h]
theorem AddPost.any {w w' : World} {pm n z : Nat} {M : Mtx} {q : Rw} {Fl : List Nat} {e : Ending} (hM : MxF w pm n z M Fl) (h : AddPost w pm n z M q Fl e w') : AddAny w pm n z M q Fl e w' := by
  rcases h with ⟨h1, rfl, k⟩ | ⟨h1, rfl, F', h2, h3, k⟩
  · exact ⟨Fl, by rw [decide_eq_false (by simp [h1])], by rw [mAdd_same h1]; exact hM.keepsNil k, fun x hx => .inl hx, k.nil, fun _ => k⟩
  · exact ⟨F', by rw [decide_eq_true h1], h2, h3, k, fun h => absurd h h1⟩

def DeNew (w : World) (s : UInt32) (nK P z : Nat) (e : Ending) (w' : World) : Prop :=
  ∃ p Fl, e = .returned (P0 p) ∧ De w' p s nK P z (pmx s nK P z P) 0 Fl ∧ (∀ x ∈ Fl, w.heap.size ≤ x) ∧ Keeps [] w w'

set_option maxRecDepth 100000 in
set_option maxHeartbeats 2000000 in
theorem dnew_calls {w : World} (s : UInt32) (nK P z : Nat) (hp : PmI nK P z) (ht : TzAt w) :
    Calls Tryz.prog 11 #[.agg #[B32 s, .int .i64 nK, .int .i64 P, .int .i64 z]] w (DeNew w s nK P z) := by
  unfold DeNew
  have h1 := hp.k1
  have h2 := hp.k2
  have h3 := hp.p2
  have h4 := hp.z1
  have h5 := hp.z2
  have hok : PmOk (nK : Int) (P : Int) (z : Int) = true := by simp [PmOk]; omega
  have hMy := fun w => may_calls (w := w) s nK P z
  simp only [hok] at hMy
  have hPc := fun w => pcs_sum (w := w) s hp
  have hEN := fun w => enew_calls (w := w) (nK + P) z (by omega) (by omega) h4 h5
  have hPR := fun w => prows_calls (w := w) s nK P z h1 h2 h3 h4 h5
  have hmk := fun w => make_u8 z z (Nat.le_refl _) (by omega) w
  have hech := pmx_ech s nK P z
  have hpx0 : pmx s nK P z 0 = mnew (nK + P) := rfl
  have hpxs : ∀ k, pmx s nK P z (k + 1) = mAdd (nK + P) (pmx s nK P z k) ⟨parX s nK (nK + P) k nK, zer z⟩ := fun k => rfl
  have hxl := parXs_len s nK (nK + P) P
  have hxa : ∀ k, k < P → (parXs s nK (nK + P) P)[k]? = some (parX s nK (nK + P) k nK) := fun k hk => by simp [parXs, hk]
  generalize pmx s nK P z = px at *
  generalize parXs s nK (nK + P) P = Xs at *
  have HMy := Lib.hid hMy
  have HPc := Lib.hid hPc
  have HEN := Lib.hid hEN
  have HPR := Lib.hid hPR
  have Hech := Lib.hid hech
  have Hpx0 := Lib.hid hpx0
  have Hpxs := Lib.hid hpxs
  have Hxl := Lib.hid hxl
  have Hxa := Lib.hid hxa
  clear hMy hPc hEN hPR hech hpx0 hpxs hxl hxa hok
  have kA : Keeps [] w (w.alloc (.cells #[B32 s, .int .i64 nK, .int .i64 P, .int .i64 z] 24)) := (Keeps.refl [] w).alloc _
  have hB0 := Blk.newA w 24 #[B32 s, .int .i64 nK, .int .i64 P, .int .i64 z]
  go_enter Tryz.func11, Tryz.ntmps11
  go_upto_region 1 with (fail)
  generalize w.alloc (.cells #[B32 s, .int .i64 nK, .int .i64 P, .int .i64 z] 24) = w0 at *
  have c0 := hB0.cell' (i := 0) rfl
  have c1 := hB0.cell' (i := 1) rfl
  have c2 := hB0.cell' (i := 2) rfl
  have c3 := hB0.cell' (i := 3) rfl
  go_wp2_with fail
  refine (HMy.out _).mono ?_
  rintro e w1 ⟨rfl, k1⟩
  have hB1 := hB0.keeps k1 (by simp)
  clear c0 c1 c2 c3
  have c0 := hB1.cell' (i := 0) rfl
  have c1 := hB1.cell' (i := 1) rfl
  have c2 := hB1.cell' (i := 2) rfl
  have c3 := hB1.cell' (i := 3) rfl
  have HB1 := Lib.hid hB1
  have hk1 := kA.trans k1
  have Hk1 := Lib.hid hk1
  clear hB0 hB1 kA k1 hk1
  go_wp2_with fail
  refine wp_region_noPanic ?_
  refine wp_region_held_drew (S := (fun w' => w'.cell? ⟨w.heap.size, 0, none⟩ = some (B32 s) ∧ w'.cell? ⟨w.heap.size, 1, none⟩ = some (.int .i64 nK) ∧ w'.cell? ⟨w.heap.size, 2, none⟩ = some (.int .i64 P) ∧ w'.cell? ⟨w.heap.size, 3, none⟩ = some (.int .i64 z))) (by kernel_rfl) ⟨c0, c1, c2, c3⟩ (fun hHeld => ?_)
  have kd : Keeps [] w1 w1.drew := (Keeps.refl [] w1).drew
  refine wpAnyH_take (i := 0) (v := ?v1_1) rfl (by kernel_rfl) (by kernel_rfl) (by kernel_rfl) (fun _ _ _ h => h) (Or.inl ⟨by rfl, ?y1_1⟩) (by assumption) ?r1_1
  case y1_1 => (intro w hSw; (try dsimp only at hSw); go_simp; try with_reducible rfl)
  (try simp only [Act.put, List.getElem_toArray, List.getElem_cons_zero, List.getElem_cons_succ, List.setIfInBounds_toArray, List.set_cons_zero, List.set_cons_succ])
  refine wpAnyH_take (i := 1) (v := ?v1_2) rfl (by kernel_rfl) (by kernel_rfl) (by kernel_rfl) (fun _ _ _ h => h) (Or.inl ⟨by rfl, ?y1_2⟩) (by assumption) ?r1_2
  case y1_2 => (intro w hSw; (try dsimp only at hSw); go_simp; try with_reducible rfl)
  (try simp only [Act.put, List.getElem_toArray, List.getElem_cons_zero, List.getElem_cons_succ, List.setIfInBounds_toArray, List.set_cons_zero, List.set_cons_succ])
  refine wpAnyH_take (i := 3) (v := ?v1_3) rfl (by kernel_rfl) (by kernel_rfl) (by kernel_rfl) (fun _ _ _ h => h) (Or.inl ⟨by rfl, ?y1_3⟩) (by assumption) ?r1_3
  case y1_3 => (intro w hSw; (try dsimp only at hSw); go_simp; try with_reducible rfl)
  (try simp only [Act.put, List.getElem_toArray, List.getElem_cons_zero, List.getElem_cons_succ, List.setIfInBounds_toArray, List.set_cons_zero, List.set_cons_succ])
  refine wpAnyH_take (i := 4) (v := ?v1_4) rfl (by kernel_rfl) (by kernel_rfl) (by kernel_rfl) (fun _ _ _ h => h) (Or.inl ⟨by rfl, ?y1_4⟩) (by assumption) ?r1_4
  case y1_4 => (intro w hSw; (try dsimp only at hSw); go_simp; try with_reducible rfl)
  (try simp only [Act.put, List.getElem_toArray, List.getElem_cons_zero, List.getElem_cons_succ, List.setIfInBounds_toArray, List.set_cons_zero, List.set_cons_succ])
  refine wpAnyH_ready (rs := [2]) (by kernel_rfl) (by simp) ?_
  refine AllReadyH.cons rfl (fun K hK => ?_) AllReadyH.nil
  go_simp
  refine (HPc.out _).mono ?_
  rintro e w2 ⟨rfl, k2⟩
  replace kd := kd.trans k2
  clear k2
  go_wp2_with fail
  refine hK.out _ _ ?s1_5 (fun hHeld => ?_)
  case s1_5 => ((try dsimp only) <;> (first | exact ⟨kd.cell0 c0, kd.cell0 c1, kd.cell0 c2, kd.cell0 c3⟩))
  clear hK K
  (try simp only [Act.put, List.getElem_toArray, List.getElem_cons_zero, List.getElem_cons_succ, List.setIfInBounds_toArray, List.set_cons_zero, List.set_cons_succ])
  refine wpAnyH_ready (rs := [5]) (by kernel_rfl) (by simp) ?_
  refine AllReadyH.cons rfl (fun K hK => ?_) AllReadyH.nil
  go_simp
  refine (HEN.out _).mono ?_
  rintro e w3 ⟨pm, F0, rfl, hM3, hF3, k3⟩
  have HF3 := Lib.hid (show ∀ x ∈ F0, w1.heap.size ≤ x from fun x hx => Nat.le_trans kd.size (hF3 x hx))
  have HM3 := Lib.hid hM3
  replace kd := kd.trans k3
  clear k3 hM3 hF3
  go_wp2_with fail
  refine hK.out _ _ ?s1_6 (fun hHeld => ?_)
  case s1_6 => ((try dsimp only) <;> (first | exact ⟨kd.cell0 c0, kd.cell0 c1, kd.cell0 c2, kd.cell0 c3⟩))
  clear hK K
  (try simp only [Act.put, List.getElem_toArray, List.getElem_cons_zero, List.getElem_cons_succ, List.setIfInBounds_toArray, List.set_cons_zero, List.set_cons_succ])
  refine wpAnyH_take (i := 6) (v := ?v1_7) rfl (by kernel_rfl) (by kernel_rfl) (by kernel_rfl) (fun _ _ _ h => h) (Or.inl ⟨by rfl, ?y1_7⟩) (by assumption) ?r1_7
  case y1_7 => (intro w hSw; (try dsimp only at hSw); go_simp; try with_reducible rfl)
  (try simp only [Act.put, List.getElem_toArray, List.getElem_cons_zero, List.getElem_cons_succ, List.setIfInBounds_toArray, List.set_cons_zero, List.set_cons_succ])
  refine wpAnyH_ready (rs := [7]) (by kernel_rfl) (by simp) ?_
  refine AllReadyH.cons rfl (fun K hK => ?_) AllReadyH.nil
  go_simp
  refine hK.out _ _ ?s1_8 (fun hHeld => ?_)
  case s1_8 => ((try dsimp only) <;> (first | exact ⟨(kd.alloc _).cell0 c0, (kd.alloc _).cell0 c1, (kd.alloc _).cell0 c2, (kd.alloc _).cell0 c3⟩))
  clear hK K
  (try simp only [Act.put, List.getElem_toArray, List.getElem_cons_zero, List.getElem_cons_succ, List.setIfInBounds_toArray, List.set_cons_zero, List.set_cons_succ])
  refine wpAnyH_take (i := 8) (v := ?v1_9) rfl (by kernel_rfl) (by kernel_rfl) (by kernel_rfl) (fun _ _ _ h => h) (Or.inl ⟨by rfl, ?y1_9⟩) (by assumption) ?r1_9
  case y1_9 => (intro w hSw; (try dsimp only at hSw); go_simp; try with_reducible rfl)
  (try simp only [Act.put, List.getElem_toArray, List.getElem_cons_zero, List.getElem_cons_succ, List.setIfInBounds_toArray, List.set_cons_zero, List.set_cons_succ])
  refine wpAnyH_done (by kernel_rfl) ?_ _
  refine NoPanic.normal ?_
  have hD4 := Blk.newA w3 75 #[B32 s, .int .i64 nK, .int .i64 P, .int .i64 z, P0 pm, .int .i64 0, .int .u32 0, .int .i32 0, .int .u32 0, .slice none 0 0]
  have k4 : Keeps [] w3 (w3.alloc (.cells #[B32 s, .int .i64 nK, .int .i64 P, .int .i64 z, P0 pm, .int .i64 0, .int .u32 0, .int .i32 0, .int .u32 0, .slice none 0 0] 75)) := (Keeps.refl [] w3).alloc _
  have HM4 := Lib.hid (HM3.out.keepsNil k4)
  have hF4 := HM3.out
  obtain ⟨pb0, L0, _, _, _, _, hFl⟩ := hF4
  have Hpn := Lib.hid (show ∀ x ∈ F0, x < w3.heap.size from hFl)
  have kd4 := kd.trans k4
  have hB4 := HB1.out.keeps kd4 (by simp)
  have hw13 := kd.size
  have hw34 := k4.size
  have hbw := HB1.out.lt
  have hpl := hD4.lt
  clear c0 c1 c2 c3
  have c0 := hB4.cell' (i := 0) rfl
  have c1 := hB4.cell' (i := 1) rfl
  have c2 := hB4.cell' (i := 2) rfl
  have c3 := hB4.cell' (i := 3) rfl
  have HD4 := Lib.hid hD4
  have HB4 := Lib.hid hB4
  have hk4 := Hk1.out.trans kd4
  have Hk4 := Lib.hid hk4
  clear hD4 hB4 k4 kd kd4 hk4 hFl HB1 HM3 Hk1 HEN HMy HPc
  generalize w3.alloc (.cells #[B32 s, .int .i64 nK, .int .i64 P, .int .i64 z, P0 pm, .int .i64 0, .int .u32 0, .int .i32 0, .int .u32 0, .slice none 0 0] 75) = w4 at *
  generalize hdp : w3.heap.size = dp at *
  go_wp2_with fail
  refine (HPR.out _).mono ?_
  rintro e w5 ⟨v5, rfl, hR5, k5⟩
  have HR5 := Lib.hid hR5.rb
  obtain ⟨a5, c5, rfl⟩ := hR5.rb.len
  rw [Hxl.out]
  have HM5 := Lib.hid (show MxF w5 pm (nK + P) z (px 0) F0 from by rw [Hpx0.out]; exact HM4.out.keepsNil k5)
  have HD5 := Lib.hid (HD4.out.keeps k5 (by simp))
  have HB5 := Lib.hid (HB4.out.keeps k5 (by simp))
  have HK5 := Lib.hid (Hk4.out.trans k5)
  have hw45 := k5.size
  clear hR5 k5 c0 c1 c2 c3 HM4 HD4 HB4 Hk4 HPR
  go_wp2_with fail
  have HF5 := Lib.hid (show ∀ x ∈ F0, w1.heap.size ≤ x ∧ x ≠ dp ∧ (x < w4.heap.size ∨ w5.heap.size ≤ x) from fun x hx => by have := HF3.out x hx; have := Hpn.out x hx; omega)
  have HbG := Lib.hid (show w.heap.size < w1.heap.size ∧ w1.heap.size ≤ dp ∧ dp < w4.heap.size ∧ w4.heap.size ≤ w5.heap.size from ⟨hbw, hw13, hpl, hw45⟩)
  have HV5 := Lib.hid HR5.out
  clear HF3 Hpn hdp hw13 hw34 hw45 hbw hpl HR5
  go_loopw [20] (fun i wr => ∃ (k : Nat) (Fm : List Nat), k ≤ P ∧ i = .int .i64 k ∧ MxF wr pm (nK + P) z (px k) Fm ∧ (∀ x ∈ Fm, w1.heap.size ≤ x ∧ x ≠ dp ∧ (x < w4.heap.size ∨ w5.heap.size ≤ x)) ∧ VRb wr w4.heap.size w5.heap.size (.slice a5 Xs.length c5) (nK + P) Xs ∧ Blk wr dp 75 [B32 s, .int .i64 nK, .int .i64 P, .int .i64 z, P0 pm, .int .i64 0, .int .u32 0, .int .i32 0, .int .u32 0, .slice none 0 0] ∧ Blk wr w.heap.size 24 [B32 s, .int .i64 nK, .int .i64 P, .int .i64 z] ∧ Keeps [] w wr ∧ w5.heap.size ≤ wr.heap.size) (fun i _ => P - (intOf i).toNat)
  case atStart => exact ⟨0, F0, Nat.zero_le _, rfl, HM5.out, HF5.out, HV5.out, HD5.out, HB5.out, HK5.out, Nat.le_refl _⟩
  case round =>
    clear HM5 HF5 HV5 HD5 HB5 HK5
    obtain ⟨k, Fm, hk, rfl, hM, hF, hV, hD, hB, hK, hsz⟩ := hrel
    by_cases hlt : k < P
    · obtain ⟨a', c', ea, hve⟩ := id hV
      simp only [Value.slice.injEq] at ea
      obtain ⟨rfl, _, rfl⟩ := ea
      obtain ⟨g0, pv, gv, rfl, b0, b1, b2, hcv, hVv⟩ := hve k _ (Hxa.out k hlt)
      have d4 := hD.cell' (i := 4) rfl
      have e3 := hB.cell' (i := 3) rfl
      have hkn : (k : Int) < (P : Int) := by omega
      have hkm : Keeps [] wr (wr.drew.alloc (.cells (zeros z) 5)) := (Keeps.refl [] wr).drew.alloc _
      have hMW := hM.keepsNil hkm
      have hA := (madd_calls (c := z) hMW (Hech.out k) ((ht.keeps hK (by simp)).keeps hkm (by simp)) (hVv.vc.keeps hkm (by simp) (by simp)) (zeros_rd wr.drew z) (by simp)).mono (fun e w' h => h.any hMW)
      unfold AddAny at hA
      rw [show (List.replicate z (0 : UInt8)) = zer z from rfl, ← Hpxs.out k] at hA
      have hWs : (wr.drew.alloc (.cells (zeros z) 5)).heap.size = wr.heap.size + 1 := by simp
      rw [hWs] at hA
      have HA := Lib.hid hA
      have HM := Lib.hid hM
      have HF := Lib.hid hF
      have HV := Lib.hid hV
      have HD := Lib.hid hD
      have HB := Lib.hid hB
      have HK := Lib.hid hK
      have Hkm := Lib.hid hkm
      clear hA hM hF hV hD hB hK hkm hve hVv hMW hWs
      go_wp2_with fail
      refine wp_region_noPanic ?_
      refine wp_region_held_drew (S := (fun w' => w'.cell? ⟨dp, 4, none⟩ = some (P0 pm) ∧ w'.cell? ⟨w.heap.size, 3, none⟩ = some (.int .i64 z))) (by kernel_rfl) ⟨d4, e3⟩ (fun hHeld => ?_)
      refine wpAnyH_take (i := 0) (v := ?v2_10) rfl (by kernel_rfl) (by kernel_rfl) (by kernel_rfl) (fun _ _ _ h => h) (Or.inl ⟨by rfl, ?y2_10⟩) (by assumption) ?r2_10
      case y2_10 => (intro w hSw; (try dsimp only at hSw); go_simp; try with_reducible rfl)
      (try simp only [Act.put, List.getElem_toArray, List.getElem_cons_zero, List.getElem_cons_succ, List.setIfInBounds_toArray, List.set_cons_zero, List.set_cons_succ])
      refine wpAnyH_take (i := 1) (v := ?v2_11) rfl (by kernel_rfl) (by kernel_rfl) (by kernel_rfl) (fun _ _ _ h => h) (Or.inl ⟨by rfl, ?y2_11⟩) (by assumption) ?r2_11
      case y2_11 => (intro w hSw; (try dsimp only at hSw); go_simp; try with_reducible rfl)
      (try simp only [Act.put, List.getElem_toArray, List.getElem_cons_zero, List.getElem_cons_succ, List.setIfInBounds_toArray, List.set_cons_zero, List.set_cons_succ])
      refine wpAnyH_take (i := 2) (v := ?v2_12) rfl (by kernel_rfl) (by kernel_rfl) (by kernel_rfl) (fun _ _ _ h => h) (Or.inl ⟨by rfl, ?y2_12⟩) (by assumption) ?r2_12
      case y2_12 => (intro w hSw; (try dsimp only at hSw); go_simp; try with_reducible rfl)
      (try simp only [Act.put, List.getElem_toArray, List.getElem_cons_zero, List.getElem_cons_succ, List.setIfInBounds_toArray, List.set_cons_zero, List.set_cons_succ])
      refine wpAnyH_take (i := 3) (v := ?v2_13) rfl (by kernel_rfl) (by kernel_rfl) (by kernel_rfl) (fun _ _ _ h => h) (Or.inl ⟨by rfl, ?y2_13⟩) (by assumption) ?r2_13
      case y2_13 => (intro w hSw; (try dsimp only at hSw); go_simp; try with_reducible rfl)
      (try simp only [Act.put, List.getElem_toArray, List.getElem_cons_zero, List.getElem_cons_succ, List.setIfInBounds_toArray, List.set_cons_zero, List.set_cons_succ])
      refine wpAnyH_take (i := 4) (v := ?v2_14) rfl (by kernel_rfl) (by kernel_rfl) (by kernel_rfl) (fun _ _ _ h => h) (Or.inl ⟨by rfl, ?y2_14⟩) (by assumption) ?r2_14
      case y2_14 => (intro w hSw; (try dsimp only at hSw); go_simp; try with_reducible rfl)
      (try simp only [Act.put, List.getElem_toArray, List.getElem_cons_zero, List.getElem_cons_succ, List.setIfInBounds_toArray, List.set_cons_zero, List.set_cons_succ])
      refine wpAnyH_take (i := 5) (v := ?v2_15) rfl (by kernel_rfl) (by kernel_rfl) (by kernel_rfl) (fun _ _ _ h => h) (Or.inl ⟨by rfl, ?y2_15⟩) (by assumption) ?r2_15
      case y2_15 => (intro w hSw; (try dsimp only at hSw); go_simp; try with_reducible rfl)
      (try simp only [Act.put, List.getElem_toArray, List.getElem_cons_zero, List.getElem_cons_succ, List.setIfInBounds_toArray, List.set_cons_zero, List.set_cons_succ])
      refine wpAnyH_take (i := 6) (v := ?v2_16) rfl (by kernel_rfl) (by kernel_rfl) (by kernel_rfl) (fun _ _ _ h => h) (Or.inl ⟨by rfl, ?y2_16⟩) (by assumption) ?r2_16
      case y2_16 => (intro w hSw; (try dsimp only at hSw); go_simp; try with_reducible rfl)
      (try simp only [Act.put, List.getElem_toArray, List.getElem_cons_zero, List.getElem_cons_succ, List.setIfInBounds_toArray, List.set_cons_zero, List.set_cons_succ])
      refine wpAnyH_ready (rs := [7]) (by kernel_rfl) (by simp) ?_
      refine AllReadyH.cons rfl (fun K hK => ?_) AllReadyH.nil
      go_simp
      refine hK.out _ _ ?s2_17 (fun hHeld => ?_)
      case s2_17 => ((try dsimp only) <;> (first | exact ⟨Hkm.out.cell0 d4, Hkm.out.cell0 e3⟩))
      clear hK K
      (try simp only [Act.put, List.getElem_toArray, List.getElem_cons_zero, List.getElem_cons_succ, List.setIfInBounds_toArray, List.set_cons_zero, List.set_cons_succ])
      refine wpAnyH_ready (rs := [8]) (by kernel_rfl) (by simp) ?_
      refine AllReadyH.cons rfl (fun K hK => ?_) AllReadyH.nil
      go_simp
      refine HA.out.mono ?_
      rintro e w6 ⟨Fm', rfl, hM6, hF6, k6, _⟩
      generalize decide ((red (px k) ⟨parX s nK (nK + P) k nK, zer z⟩).x ≠ 0) = bb at *
      have hF := HF.out
      have hG := HbG.out
      have hn1 : dp ∉ Fm := fun h => (hF dp h).2.1 rfl
      have hn2 : w.heap.size ∉ Fm := fun h => by have := (hF _ h).1; omega
      have hD6 := (HD.out.keeps Hkm.out (by simp)).keeps k6 hn1
      have hB6 := (HB.out.keeps Hkm.out (by simp)).keeps k6 hn2
      have g4 := hD6.cell' (i := 4) rfl
      have g3 := hB6.cell' (i := 3) rfl
      have HM6 := Lib.hid hM6
      have HD6 := Lib.hid hD6
      have HB6 := Lib.hid hB6
      have HV6 := Lib.hid ((HV.out.keeps Hkm.out (by simp)).keeps k6 (fun x hx => (hF x hx).2.2))
      have HK6 := Lib.hid ((HK.out.trans Hkm.out).trans' k6 (T := []) (by simp) (fun x hx => .inr (by have := (hF x hx).1; omega)))
      have HF6 := Lib.hid (show ∀ x ∈ Fm', w1.heap.size ≤ x ∧ x ≠ dp ∧ (x < w4.heap.size ∨ w5.heap.size ≤ x) from fun x hx => by
        rcases hF6 x hx with h | h
        · exact hF x h
        · omega)
      have hs6 := k6.size
      have hs6' : w5.heap.size ≤ w6.heap.size := by have := Hkm.out.size; omega
      clear hM6 hF6 k6 hF hG hn1 hn2 hD6 hB6 hs6
      go_wp2_with fail
      refine hK.out _ _ ?s2_18 (fun hHeld => ?_)
      case s2_18 => ((try dsimp only) <;> (first | exact ⟨g4, g3⟩))
      clear hK K
      (try simp only [Act.put, List.getElem_toArray, List.getElem_cons_zero, List.getElem_cons_succ, List.setIfInBounds_toArray, List.set_cons_zero, List.set_cons_succ])
      refine wpAnyH_done (by kernel_rfl) ?_ _
      refine NoPanic.normal ?_
      go_wp2_with fail
      go_roundw
      case rel => exact ⟨k + 1, Fm', by omega, by go_num, HM6.out, HF6.out, HV6.out, HD6.out, HB6.out, HK6.out, hs6'⟩
      case measure => simp [intOf]; omega
    · obtain rfl : k = P := by omega
      have HM := Lib.hid hM
      have HF := Lib.hid hF
      have HD := Lib.hid hD
      have HK := Lib.hid hK
      clear hM hF hV hD hB hK
      go_wp2_with fail
      go_ret
      have hG := HbG.out
      refine ⟨dp, dp :: Fm, rfl, ⟨pm, Fm, 0, _, HD.out, HM.out, Hech.out k, rfl, fun h => (HF.out dp h).2.1 rfl, .inl ⟨rfl, rfl⟩⟩, fun x hx => ?_, HK.out⟩
      simp only [List.mem_cons] at hx
      rcases hx with rfl | hx
      · omega
      · have := (HF.out x hx).1; omega

end Go.Proofs.YtghgmchgbhdldaaGreatDoor
