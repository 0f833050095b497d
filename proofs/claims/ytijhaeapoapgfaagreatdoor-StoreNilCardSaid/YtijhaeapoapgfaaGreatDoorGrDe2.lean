/-
  GrDe2: the texts De2, De3, De4, DeT, DeU, one behind another.
-/
import Derived.Test.YtijhaeapoapgfaaGreatDoorGrMac
import Derived.Test.YtijhaeapoapgfaaGreatDoorGrCd2
set_option linter.unusedVariables false
set_option linter.unusedSimpArgs false
namespace Go.Proofs.YtijhaeapoapgfaaGreatDoor
open Go.RowKit
attribute [local go_sem ↓] Go.wp_at_zero Go.wp_at_succ

/-- A slice of rows, all its blocks from B on and below T. -/
def VRb (w : World) (B T : Nat) (v : Value) (n : Nat) (Xs : List Nat) : Prop :=
  ∃ a c, v = .slice a Xs.length c ∧ ∀ (j X : Nat), Xs[j]? = some X → ∃ g0 p g, a = some ⟨g0, 0, none⟩ ∧ (B ≤ g0 ∧ g0 < T) ∧ (B ≤ p ∧ p < T) ∧ (B ≤ g ∧ g < T) ∧ w.cell? ⟨g0, j, none⟩ = some (.pointer (some ⟨p, 0, none⟩)) ∧ VecAt w p g n X
theorem VRows.rb {w : World} {B n : Nat} {v : Value} {Xs : List Nat} (h : VRows w B v n Xs) : VRb w B w.heap.size v n Xs := by
  obtain ⟨vs, hO, hl, he⟩ := h
  obtain ⟨a, c, rfl, _, _, h3, _⟩ := hO.read
  rw [hl]
  refine ⟨a, c, rfl, fun j X hX => ?_⟩
  obtain ⟨p, g, hp, b1, b2, hV⟩ := he j X hX
  obtain ⟨g0, ha, hb, hc⟩ := h3 j _ hp
  exact ⟨g0, p, g, ha, ⟨hb, World.block_lt_of_cell? w _ hc⟩, ⟨b1, hV.b.lt⟩, ⟨b2, hV.r.lt⟩, hc, hV⟩
theorem VRb.keeps {S : List Nat} {w w' : World} {B T n : Nat} {v : Value} {Xs : List Nat} (h : VRb w B T v n Xs) (k : Keeps S w w') (hS : ∀ x ∈ S, x < B ∨ T ≤ x) : VRb w' B T v n Xs := by
  obtain ⟨a, c, rfl, he⟩ := h
  refine ⟨a, c, rfl, fun j X hX => ?_⟩
  obtain ⟨g0, p, g, ha, b0, b1, b2, hc, hV⟩ := he j X hX
  have hn : ∀ x, B ≤ x ∧ x < T → x ∉ S := fun x hx hm => by have := hS x hm; omega
  exact ⟨g0, p, g, ha, b0, b1, b2, (World.cell?_of_block (a := ⟨g0, j, none⟩) (k.block g0 (World.block_lt_of_cell? w _ hc) (hn _ b0))).trans hc, hV.keeps k (hn _ b1) (hn _ b2)⟩
theorem VRb.len {w : World} {B T n : Nat} {v : Value} {Xs : List Nat} (h : VRb w B T v n Xs) : ∃ a c, v = .slice a Xs.length c := by
  obtain ⟨a, c, rfl, _⟩ := h; exact ⟨a, c, rfl⟩

/-- The matrix behind the first k rows of parity, each with d zeros. -/
def pmx (s : UInt32) (nK P d : Nat) : Nat → Mtx
  | 0 => mnew (nK + P)
  | k + 1 => mAdd (nK + P) (pmx s nK P d k) ⟨parX s nK (nK + P) k nK, zer d⟩
theorem pmx_ech (s : UInt32) (nK P d : Nat) : ∀ k, Ech (nK + P) d (pmx s nK P d k)
  | 0 => mnew_ech _ _
  | k + 1 => mAdd_ech (pmx_ech s nK P d k) (parX_lt s (by omega) nK (Nat.le_refl _)) (zer_len d)

/-- What Add leaves, whether it says something new or not. -/
def AddAny (w : World) (pm n z : Nat) (M : Mtx) (q : Rw) (Fl : List Nat) (e : Ending) (w' : World) : Prop :=
  ∃ Fl', e = .returned (.bool (decide ((red M q).x ≠ 0))) ∧ MxF w' pm n z (mAdd n M q) Fl' ∧ (∀ x ∈ Fl', x ∈ Fl ∨ w.heap.size ≤ x) ∧ Keeps Fl w w' ∧ ((red M q).x = 0 → Keeps [] w w')
theorem mAdd_same {n : Nat} {M : Mtx} {r : Rw} (h : (red M r).x = 0) : mAdd n M r = M := by unfold mAdd; rw [if_pos h]
theorem AddPost.any {w w' : World} {pm n z : Nat} {M : Mtx} {q : Rw} {Fl : List Nat} {e : Ending} (hM : MxF w pm n z M Fl) (h : AddPost w pm n z M q Fl e w') : AddAny w pm n z M q Fl e w' := by
  rcases h with ⟨h1, rfl, k⟩ | ⟨h1, rfl, F', h2, h3, k⟩
  · exact ⟨Fl, by rw [decide_eq_false (by simp [h1])], by rw [mAdd_same h1]; exact hM.keepsNil k, fun x hx => .inl hx, k.nil, fun _ => k⟩
  · exact ⟨F', by rw [decide_eq_true h1], h2, h3, k, fun h => absurd h h1⟩

def DeNew (w : World) (s : UInt32) (nK P z : Nat) (e : Ending) (w' : World) : Prop :=
  ∃ p Fl, e = .returned (P0 p) ∧ De w' p s nK P z (pmx s nK P z P) 0 Fl ∧ (∀ x ∈ Fl, w.heap.size ≤ x) ∧ Keeps [] w w'

set_option maxRecDepth 100000 in
set_option maxHeartbeats 2000000 in
theorem dnew_calls {w : World} (s : UInt32) (nK P z : Nat) (hp : PmI nK P z) (ht : TzAt w) :
    Calls Tryz.prog 39 #[.agg #[B32 s, .int .i64 nK, .int .i64 P, .int .i64 z]] w (DeNew w s nK P z) := by
  unfold DeNew
  have h1 := hp.k1
  have h2 := hp.k2
  have h3 := hp.p2
  have h4 := hp.z1
  have h5 := hp.z2
  have hok : PmOk (nK : Int) (P : Int) (z : Int) = true := by simp [PmOk]; omega
  have hMy := fun w => may_calls (w := w) s nK P z
  simp only [hok] at hMy
  have hPc := fun w => pcs_sum (w := w) s hp
  have hEN := fun w => enew_calls (w := w) (nK + P) z (by omega) (by omega) h4 h5
  have hPR := fun w => prows_calls (w := w) s nK P z h1 h2 h3 h4 h5
  have hmk := fun w => make_u8 z z (Nat.le_refl _) (by omega) w
  have hech := pmx_ech s nK P z
  have hpx0 : pmx s nK P z 0 = mnew (nK + P) := rfl
  have hpxs : ∀ k, pmx s nK P z (k + 1) = mAdd (nK + P) (pmx s nK P z k) ⟨parX s nK (nK + P) k nK, zer z⟩ := fun k => rfl
  have hxl := parXs_len s nK (nK + P) P
  have hxa : ∀ k, k < P → (parXs s nK (nK + P) P)[k]? = some (parX s nK (nK + P) k nK) := fun k hk => by simp [parXs, hk]
  generalize pmx s nK P z = px at *
  generalize parXs s nK (nK + P) P = Xs at *
  have HMy := Lib.hid hMy
  have HPc := Lib.hid hPc
  have HEN := Lib.hid hEN
  have HPR := Lib.hid hPR
  have Hech := Lib.hid hech
  have Hpx0 := Lib.hid hpx0
  have Hpxs := Lib.hid hpxs
  have Hxl := Lib.hid hxl
  have Hxa := Lib.hid hxa
  clear hMy hPc hEN hPR hech hpx0 hpxs hxl hxa hok
  have kA : Keeps [] w (w.alloc (.cells #[B32 s, .int .i64 nK, .int .i64 P, .int .i64 z] 38)) := (Keeps.refl [] w).alloc _
  have hB0 := Blk.newA w 38 #[B32 s, .int .i64 nK, .int .i64 P, .int .i64 z]
  go_enter Tryz.func39, Tryz.ntmps39
  go_upto_region 1 with (fail)
  generalize w.alloc (.cells #[B32 s, .int .i64 nK, .int .i64 P, .int .i64 z] 38) = w0 at *
  have c0 := hB0.cell' (i := 0) rfl
  have c1 := hB0.cell' (i := 1) rfl
  have c2 := hB0.cell' (i := 2) rfl
  have c3 := hB0.cell' (i := 3) rfl
  go_wp2_with fail
  refine (HMy.out _).mono ?_
  rintro e w1 ⟨rfl, k1⟩
  have hB1 := hB0.keeps k1 (by simp)
  clear c0 c1 c2 c3
  have c0 := hB1.cell' (i := 0) rfl
  have c1 := hB1.cell' (i := 1) rfl
  have c2 := hB1.cell' (i := 2) rfl
  have c3 := hB1.cell' (i := 3) rfl
  have HB1 := Lib.hid hB1
  have hk1 := kA.trans k1
  have Hk1 := Lib.hid hk1
  clear hB0 hB1 kA k1 hk1
  go_wp2_with fail
  refine wp_region_noPanic ?_
  refine wp_region_held_drew (S := (fun w' => w'.cell? ⟨w.heap.size, 0, none⟩ = some (B32 s) ∧ w'.cell? ⟨w.heap.size, 1, none⟩ = some (.int .i64 nK) ∧ w'.cell? ⟨w.heap.size, 2, none⟩ = some (.int .i64 P) ∧ w'.cell? ⟨w.heap.size, 3, none⟩ = some (.int .i64 z))) (by kernel_rfl) ⟨c0, c1, c2, c3⟩ (fun hHeld => ?_)
  have kd : Keeps [] w1 w1.drew := (Keeps.refl [] w1).drew
  refine wpAnyH_take (i := 0) (v := ?v1_1) rfl (by kernel_rfl) (by kernel_rfl) (by kernel_rfl) (fun _ _ _ h => h) (Or.inl ⟨by rfl, ?y1_1⟩) (by assumption) ?r1_1
  case y1_1 => (intro w hSw; (try dsimp only at hSw); go_simp; try with_reducible rfl)
  (try simp only [Act.put, List.getElem_toArray, List.getElem_cons_zero, List.getElem_cons_succ, List.setIfInBounds_toArray, List.set_cons_zero, List.set_cons_succ])
  refine wpAnyH_take (i := 1) (v := ?v1_2) rfl (by kernel_rfl) (by kernel_rfl) (by kernel_rfl) (fun _ _ _ h => h) (Or.inl ⟨by rfl, ?y1_2⟩) (by assumption) ?r1_2
  case y1_2 => (intro w hSw; (try dsimp only at hSw); go_simp; try with_reducible rfl)
  (try simp only [Act.put, List.getElem_toArray, List.getElem_cons_zero, List.getElem_cons_succ, List.setIfInBounds_toArray, List.set_cons_zero, List.set_cons_succ])
  refine wpAnyH_take (i := 3) (v := ?v1_3) rfl (by kernel_rfl) (by kernel_rfl) (by kernel_rfl) (fun _ _ _ h => h) (Or.inl ⟨by rfl, ?y1_3⟩) (by assumption) ?r1_3
  case y1_3 => (intro w hSw; (try dsimp only at hSw); go_simp; try with_reducible rfl)
  (try simp only [Act.put, List.getElem_toArray, List.getElem_cons_zero, List.getElem_cons_succ, List.setIfInBounds_toArray, List.set_cons_zero, List.set_cons_succ])
  refine wpAnyH_take (i := 4) (v := ?v1_4) rfl (by kernel_rfl) (by kernel_rfl) (by kernel_rfl) (fun _ _ _ h => h) (Or.inl ⟨by rfl, ?y1_4⟩) (by assumption) ?r1_4
  case y1_4 => (intro w hSw; (try dsimp only at hSw); go_simp; try with_reducible rfl)
  (try simp only [Act.put, List.getElem_toArray, List.getElem_cons_zero, List.getElem_cons_succ, List.setIfInBounds_toArray, List.set_cons_zero, List.set_cons_succ])
  refine wpAnyH_ready (rs := [2]) (by kernel_rfl) (by simp) ?_
  refine AllReadyH.cons rfl (fun K hK => ?_) AllReadyH.nil
  go_simp
  refine (HPc.out _).mono ?_
  rintro e w2 ⟨rfl, k2⟩
  replace kd := kd.trans k2
  clear k2
  go_wp2_with fail
  refine hK.out _ _ ?s1_5 (fun hHeld => ?_)
  case s1_5 => ((try dsimp only) <;> (first | exact ⟨kd.cell0 c0, kd.cell0 c1, kd.cell0 c2, kd.cell0 c3⟩))
  clear hK K
  (try simp only [Act.put, List.getElem_toArray, List.getElem_cons_zero, List.getElem_cons_succ, List.setIfInBounds_toArray, List.set_cons_zero, List.set_cons_succ])
  refine wpAnyH_ready (rs := [5]) (by kernel_rfl) (by simp) ?_
  refine AllReadyH.cons rfl (fun K hK => ?_) AllReadyH.nil
  go_simp
  refine (HEN.out _).mono ?_
  rintro e w3 ⟨pm, F0, rfl, hM3, hF3, k3⟩
  have HF3 := Lib.hid (show ∀ x ∈ F0, w1.heap.size ≤ x from fun x hx => Nat.le_trans kd.size (hF3 x hx))
  have HM3 := Lib.hid hM3
  replace kd := kd.trans k3
  clear k3 hM3 hF3
  go_wp2_with fail
  refine hK.out _ _ ?s1_6 (fun hHeld => ?_)
  case s1_6 => ((try dsimp only) <;> (first | exact ⟨kd.cell0 c0, kd.cell0 c1, kd.cell0 c2, kd.cell0 c3⟩))
  clear hK K
  (try simp only [Act.put, List.getElem_toArray, List.getElem_cons_zero, List.getElem_cons_succ, List.setIfInBounds_toArray, List.set_cons_zero, List.set_cons_succ])
  refine wpAnyH_take (i := 6) (v := ?v1_7) rfl (by kernel_rfl) (by kernel_rfl) (by kernel_rfl) (fun _ _ _ h => h) (Or.inl ⟨by rfl, ?y1_7⟩) (by assumption) ?r1_7
  case y1_7 => (intro w hSw; (try dsimp only at hSw); go_simp; try with_reducible rfl)
  (try simp only [Act.put, List.getElem_toArray, List.getElem_cons_zero, List.getElem_cons_succ, List.setIfInBounds_toArray, List.set_cons_zero, List.set_cons_succ])
  refine wpAnyH_ready (rs := [7]) (by kernel_rfl) (by simp) ?_
  refine AllReadyH.cons rfl (fun K hK => ?_) AllReadyH.nil
  go_simp
  refine hK.out _ _ ?s1_8 (fun hHeld => ?_)
  case s1_8 => ((try dsimp only) <;> (first | exact ⟨(kd.alloc _).cell0 c0, (kd.alloc _).cell0 c1, (kd.alloc _).cell0 c2, (kd.alloc _).cell0 c3⟩))
  clear hK K
  (try simp only [Act.put, List.getElem_toArray, List.getElem_cons_zero, List.getElem_cons_succ, List.setIfInBounds_toArray, List.set_cons_zero, List.set_cons_succ])
  refine wpAnyH_take (i := 8) (v := ?v1_9) rfl (by kernel_rfl) (by kernel_rfl) (by kernel_rfl) (fun _ _ _ h => h) (Or.inl ⟨by rfl, ?y1_9⟩) (by assumption) ?r1_9
  case y1_9 => (intro w hSw; (try dsimp only at hSw); go_simp; try with_reducible rfl)
  (try simp only [Act.put, List.getElem_toArray, List.getElem_cons_zero, List.getElem_cons_succ, List.setIfInBounds_toArray, List.set_cons_zero, List.set_cons_succ])
  refine wpAnyH_done (by kernel_rfl) ?_ _
  refine NoPanic.normal ?_
  have hD4 := Blk.newA w3 150 #[B32 s, .int .i64 nK, .int .i64 P, .int .i64 z, P0 pm, .int .i64 0, .int .u32 0, .int .i32 0, .int .u32 0, .slice none 0 0]
  have k4 : Keeps [] w3 (w3.alloc (.cells #[B32 s, .int .i64 nK, .int .i64 P, .int .i64 z, P0 pm, .int .i64 0, .int .u32 0, .int .i32 0, .int .u32 0, .slice none 0 0] 150)) := (Keeps.refl [] w3).alloc _
  have HM4 := Lib.hid (HM3.out.keepsNil k4)
  have hF4 := HM3.out
  obtain ⟨pb0, L0, _, _, _, _, hFl⟩ := hF4
  have Hpn := Lib.hid (show ∀ x ∈ F0, x < w3.heap.size from hFl)
  have kd4 := kd.trans k4
  have hB4 := HB1.out.keeps kd4 (by simp)
  have hw13 := kd.size
  have hw34 := k4.size
  have hbw := HB1.out.lt
  have hpl := hD4.lt
  clear c0 c1 c2 c3
  have c0 := hB4.cell' (i := 0) rfl
  have c1 := hB4.cell' (i := 1) rfl
  have c2 := hB4.cell' (i := 2) rfl
  have c3 := hB4.cell' (i := 3) rfl
  have HD4 := Lib.hid hD4
  have HB4 := Lib.hid hB4
  have hk4 := Hk1.out.trans kd4
  have Hk4 := Lib.hid hk4
  clear hD4 hB4 k4 kd kd4 hk4 hFl HB1 HM3 Hk1 HEN HMy HPc
  generalize w3.alloc (.cells #[B32 s, .int .i64 nK, .int .i64 P, .int .i64 z, P0 pm, .int .i64 0, .int .u32 0, .int .i32 0, .int .u32 0, .slice none 0 0] 150) = w4 at *
  generalize hdp : w3.heap.size = dp at *
  go_wp2_with fail
  refine (HPR.out _).mono ?_
  rintro e w5 ⟨v5, rfl, hR5, k5⟩
  have HR5 := Lib.hid hR5.rb
  obtain ⟨a5, c5, rfl⟩ := hR5.rb.len
  rw [Hxl.out]
  have HM5 := Lib.hid (show MxF w5 pm (nK + P) z (px 0) F0 from by rw [Hpx0.out]; exact HM4.out.keepsNil k5)
  have HD5 := Lib.hid (HD4.out.keeps k5 (by simp))
  have HB5 := Lib.hid (HB4.out.keeps k5 (by simp))
  have HK5 := Lib.hid (Hk4.out.trans k5)
  have hw45 := k5.size
  clear hR5 k5 c0 c1 c2 c3 HM4 HD4 HB4 Hk4 HPR
  go_wp2_with fail
  have HF5 := Lib.hid (show ∀ x ∈ F0, w1.heap.size ≤ x ∧ x ≠ dp ∧ (x < w4.heap.size ∨ w5.heap.size ≤ x) from fun x hx => by have := HF3.out x hx; have := Hpn.out x hx; omega)
  have HbG := Lib.hid (show w.heap.size < w1.heap.size ∧ w1.heap.size ≤ dp ∧ dp < w4.heap.size ∧ w4.heap.size ≤ w5.heap.size from ⟨hbw, hw13, hpl, hw45⟩)
  have HV5 := Lib.hid HR5.out
  clear HF3 Hpn hdp hw13 hw34 hw45 hbw hpl HR5
  go_loopw [20] (fun i wr => ∃ (k : Nat) (Fm : List Nat), k ≤ P ∧ i = .int .i64 k ∧ MxF wr pm (nK + P) z (px k) Fm ∧ (∀ x ∈ Fm, w1.heap.size ≤ x ∧ x ≠ dp ∧ (x < w4.heap.size ∨ w5.heap.size ≤ x)) ∧ VRb wr w4.heap.size w5.heap.size (.slice a5 Xs.length c5) (nK + P) Xs ∧ Blk wr dp 150 [B32 s, .int .i64 nK, .int .i64 P, .int .i64 z, P0 pm, .int .i64 0, .int .u32 0, .int .i32 0, .int .u32 0, .slice none 0 0] ∧ Blk wr w.heap.size 38 [B32 s, .int .i64 nK, .int .i64 P, .int .i64 z] ∧ Keeps [] w wr ∧ w5.heap.size ≤ wr.heap.size) (fun i _ => P - (intOf i).toNat)
  case atStart => exact ⟨0, F0, Nat.zero_le _, rfl, HM5.out, HF5.out, HV5.out, HD5.out, HB5.out, HK5.out, Nat.le_refl _⟩
  case round =>
    clear HM5 HF5 HV5 HD5 HB5 HK5
    obtain ⟨k, Fm, hk, rfl, hM, hF, hV, hD, hB, hK, hsz⟩ := hrel
    by_cases hlt : k < P
    · obtain ⟨a', c', ea, hve⟩ := id hV
      simp only [Value.slice.injEq] at ea
      obtain ⟨rfl, _, rfl⟩ := ea
      obtain ⟨g0, pv, gv, rfl, b0, b1, b2, hcv, hVv⟩ := hve k _ (Hxa.out k hlt)
      have d4 := hD.cell' (i := 4) rfl
      have e3 := hB.cell' (i := 3) rfl
      have hkn : (k : Int) < (P : Int) := by omega
      have hkm : Keeps [] wr (wr.drew.alloc (.cells (zeros z) 5)) := (Keeps.refl [] wr).drew.alloc _
      have hMW := hM.keepsNil hkm
      have hA := (madd_calls (c := z) hMW (Hech.out k) ((ht.keeps hK (by simp)).keeps hkm (by simp)) (hVv.vc.keeps hkm (by simp) (by simp)) (zeros_rd wr.drew z) (by simp)).mono (fun e w' h => h.any hMW)
      unfold AddAny at hA
      rw [show (List.replicate z (0 : UInt8)) = zer z from rfl, ← Hpxs.out k] at hA
      have hWs : (wr.drew.alloc (.cells (zeros z) 5)).heap.size = wr.heap.size + 1 := by simp
      rw [hWs] at hA
      have HA := Lib.hid hA
      have HM := Lib.hid hM
      have HF := Lib.hid hF
      have HV := Lib.hid hV
      have HD := Lib.hid hD
      have HB := Lib.hid hB
      have HK := Lib.hid hK
      have Hkm := Lib.hid hkm
      clear hA hM hF hV hD hB hK hkm hve hVv hMW hWs
      go_wp2_with fail
      refine wp_region_noPanic ?_
      refine wp_region_held_drew (S := (fun w' => w'.cell? ⟨dp, 4, none⟩ = some (P0 pm) ∧ w'.cell? ⟨w.heap.size, 3, none⟩ = some (.int .i64 z))) (by kernel_rfl) ⟨d4, e3⟩ (fun hHeld => ?_)
      refine wpAnyH_take (i := 0) (v := ?v2_10) rfl (by kernel_rfl) (by kernel_rfl) (by kernel_rfl) (fun _ _ _ h => h) (Or.inl ⟨by rfl, ?y2_10⟩) (by assumption) ?r2_10
      case y2_10 => (intro w hSw; (try dsimp only at hSw); go_simp; try with_reducible rfl)
      (try simp only [Act.put, List.getElem_toArray, List.getElem_cons_zero, List.getElem_cons_succ, List.setIfInBounds_toArray, List.set_cons_zero, List.set_cons_succ])
      refine wpAnyH_take (i := 1) (v := ?v2_11) rfl (by kernel_rfl) (by kernel_rfl) (by kernel_rfl) (fun _ _ _ h => h) (Or.inl ⟨by rfl, ?y2_11⟩) (by assumption) ?r2_11
      case y2_11 => (intro w hSw; (try dsimp only at hSw); go_simp; try with_reducible rfl)
      (try simp only [Act.put, List.getElem_toArray, List.getElem_cons_zero, List.getElem_cons_succ, List.setIfInBounds_toArray, List.set_cons_zero, List.set_cons_succ])
      refine wpAnyH_take (i := 2) (v := ?v2_12) rfl (by kernel_rfl) (by kernel_rfl) (by kernel_rfl) (fun _ _ _ h => h) (Or.inl ⟨by rfl, ?y2_12⟩) (by assumption) ?r2_12
      case y2_12 => (intro w hSw; (try dsimp only at hSw); go_simp; try with_reducible rfl)
      (try simp only [Act.put, List.getElem_toArray, List.getElem_cons_zero, List.getElem_cons_succ, List.setIfInBounds_toArray, List.set_cons_zero, List.set_cons_succ])
      refine wpAnyH_take (i := 3) (v := ?v2_13) rfl (by kernel_rfl) (by kernel_rfl) (by kernel_rfl) (fun _ _ _ h => h) (Or.inl ⟨by rfl, ?y2_13⟩) (by assumption) ?r2_13
      case y2_13 => (intro w hSw; (try dsimp only at hSw); go_simp; try with_reducible rfl)
      (try simp only [Act.put, List.getElem_toArray, List.getElem_cons_zero, List.getElem_cons_succ, List.setIfInBounds_toArray, List.set_cons_zero, List.set_cons_succ])
      refine wpAnyH_take (i := 4) (v := ?v2_14) rfl (by kernel_rfl) (by kernel_rfl) (by kernel_rfl) (fun _ _ _ h => h) (Or.inl ⟨by rfl, ?y2_14⟩) (by assumption) ?r2_14
      case y2_14 => (intro w hSw; (try dsimp only at hSw); go_simp; try with_reducible rfl)
      (try simp only [Act.put, List.getElem_toArray, List.getElem_cons_zero, List.getElem_cons_succ, List.setIfInBounds_toArray, List.set_cons_zero, List.set_cons_succ])
      refine wpAnyH_take (i := 5) (v := ?v2_15) rfl (by kernel_rfl) (by kernel_rfl) (by kernel_rfl) (fun _ _ _ h => h) (Or.inl ⟨by rfl, ?y2_15⟩) (by assumption) ?r2_15
      case y2_15 => (intro w hSw; (try dsimp only at hSw); go_simp; try with_reducible rfl)
      (try simp only [Act.put, List.getElem_toArray, List.getElem_cons_zero, List.getElem_cons_succ, List.setIfInBounds_toArray, List.set_cons_zero, List.set_cons_succ])
      refine wpAnyH_take (i := 6) (v := ?v2_16) rfl (by kernel_rfl) (by kernel_rfl) (by kernel_rfl) (fun _ _ _ h => h) (Or.inl ⟨by rfl, ?y2_16⟩) (by assumption) ?r2_16
      case y2_16 => (intro w hSw; (try dsimp only at hSw); go_simp; try with_reducible rfl)
      (try simp only [Act.put, List.getElem_toArray, List.getElem_cons_zero, List.getElem_cons_succ, List.setIfInBounds_toArray, List.set_cons_zero, List.set_cons_succ])
      refine wpAnyH_ready (rs := [7]) (by kernel_rfl) (by simp) ?_
      refine AllReadyH.cons rfl (fun K hK => ?_) AllReadyH.nil
      go_simp
      refine hK.out _ _ ?s2_17 (fun hHeld => ?_)
      case s2_17 => ((try dsimp only) <;> (first | exact ⟨Hkm.out.cell0 d4, Hkm.out.cell0 e3⟩))
      clear hK K
      (try simp only [Act.put, List.getElem_toArray, List.getElem_cons_zero, List.getElem_cons_succ, List.setIfInBounds_toArray, List.set_cons_zero, List.set_cons_succ])
      refine wpAnyH_ready (rs := [8]) (by kernel_rfl) (by simp) ?_
      refine AllReadyH.cons rfl (fun K hK => ?_) AllReadyH.nil
      go_simp
      refine HA.out.mono ?_
      rintro e w6 ⟨Fm', rfl, hM6, hF6, k6, _⟩
      generalize decide ((red (px k) ⟨parX s nK (nK + P) k nK, zer z⟩).x ≠ 0) = bb at *
      have hF := HF.out
      have hG := HbG.out
      have hn1 : dp ∉ Fm := fun h => (hF dp h).2.1 rfl
      have hn2 : w.heap.size ∉ Fm := fun h => by have := (hF _ h).1; omega
      have hD6 := (HD.out.keeps Hkm.out (by simp)).keeps k6 hn1
      have hB6 := (HB.out.keeps Hkm.out (by simp)).keeps k6 hn2
      have g4 := hD6.cell' (i := 4) rfl
      have g3 := hB6.cell' (i := 3) rfl
      have HM6 := Lib.hid hM6
      have HD6 := Lib.hid hD6
      have HB6 := Lib.hid hB6
      have HV6 := Lib.hid ((HV.out.keeps Hkm.out (by simp)).keeps k6 (fun x hx => (hF x hx).2.2))
      have HK6 := Lib.hid ((HK.out.trans Hkm.out).trans' k6 (T := []) (by simp) (fun x hx => .inr (by have := (hF x hx).1; omega)))
      have HF6 := Lib.hid (show ∀ x ∈ Fm', w1.heap.size ≤ x ∧ x ≠ dp ∧ (x < w4.heap.size ∨ w5.heap.size ≤ x) from fun x hx => by
        rcases hF6 x hx with h | h
        · exact hF x h
        · omega)
      have hs6 := k6.size
      have hs6' : w5.heap.size ≤ w6.heap.size := by have := Hkm.out.size; omega
      clear hM6 hF6 k6 hF hG hn1 hn2 hD6 hB6 hs6
      go_wp2_with fail
      refine hK.out _ _ ?s2_18 (fun hHeld => ?_)
      case s2_18 => ((try dsimp only) <;> (first | exact ⟨g4, g3⟩))
      clear hK K
      (try simp only [Act.put, List.getElem_toArray, List.getElem_cons_zero, List.getElem_cons_succ, List.setIfInBounds_toArray, List.set_cons_zero, List.set_cons_succ])
      refine wpAnyH_done (by kernel_rfl) ?_ _
      refine NoPanic.normal ?_
      go_wp2_with fail
      go_roundw
      case rel => exact ⟨k + 1, Fm', by omega, by go_num, HM6.out, HF6.out, HV6.out, HD6.out, HB6.out, HK6.out, hs6'⟩
      case measure => simp [intOf]; omega
    · obtain rfl : k = P := by omega
      have HM := Lib.hid hM
      have HF := Lib.hid hF
      have HD := Lib.hid hD
      have HK := Lib.hid hK
      clear hM hF hV hD hB hK
      go_wp2_with fail
      go_ret
      have hG := HbG.out
      refine ⟨dp, dp :: Fm, rfl, ⟨pm, Fm, 0, _, HD.out, HM.out, Hech.out k, rfl, fun h => (HF.out dp h).2.1 rfl, .inl ⟨rfl, rfl⟩⟩, fun x hx => ?_, HK.out⟩
      simp only [List.mem_cons] at hx
      rcases hx with rfl | hx
      · omega
      · have := (HF.out x hx).1; omega

end Go.Proofs.YtijhaeapoapgfaaGreatDoor

set_option linter.unusedVariables false
set_option linter.unusedSimpArgs false
namespace Go.Proofs.YtijhaeapoapgfaaGreatDoor
open Go.RowKit
attribute [local go_sem ↓] Go.wp_at_zero Go.wp_at_succ

def DSolved (w : World) (p : Nat) (s : UInt32) (nK P z pm tk : Nat) (M : Mtx) (x1 x2 x3 : Value) (e : Ending) (w' : World) : Prop :=
  ∃ v, e = .returned (.tuple #[]) ∧ Blk w' p 150 [B32 s, .int .i64 nK, .int .i64 P, .int .i64 z, P0 pm, .int .i64 tk, x1, x2, x3, v] ∧ Pcs w' 0 v (dats M (nK + P)) ∧ Keeps [p] w w'

/-- What is done to a block of another kind makes no difference to pieces. -/
theorem Pcs.past {w w' : World} {p B : Nat} {t : TypeId} {cs : List Value} {v : Value} {L : List (List UInt8)} (h : Pcs w B v L) (k : Keeps [p] w w') (hb : Blk w p t cs) (h1 : 5 ≠ t) (h2 : 22 ≠ t) : Pcs w' B v L :=
  h.keepsP k (fun x hx => by simp only [List.mem_singleton] at hx; subst hx; exact ⟨t, cs, hb, h1, h2⟩)

set_option maxRecDepth 100000 in
set_option maxHeartbeats 1600000 in
theorem dimg1_calls {w : World} {p bx pm tk : Nat} {s : UInt32} {nK P z : Nat} {M : Mtx} {Fm : List Nat} {x1 x2 x3 : Value} (hb : Blk w p 150 [B32 s, .int .i64 nK, .int .i64 P, .int .i64 z, P0 pm, .int .i64 tk, x1, x2, x3, .slice none 0 0]) (hM : MxF w pm (nK + P) z M Fm) (hf : rank M = nK + P)
    (hbx : w.cell? ⟨bx, 0, none⟩ = some (.pointer (some ⟨p, 0, none⟩))) (hne : bx ≠ p) :
    Calls Tryz.prog 101 (#[] ++ #[.pointer (some ⟨bx, 0, none⟩)]) w (DSolved w p s nK P z pm tk M x1 x2 x3) := by
  have c4 := hb.cell' (i := 4) rfl
  have hpl := hb.lt
  have HS := Lib.hid (msolve_calls (hM.keepsNil (Keeps.refl [] w).drew) hf)
  have HB := Lib.hid hb
  clear hb hM hf
  go_enter Tryz.func101, Tryz.ntmps101
  go_wp2_with fail
  refine wp_region_noPanic ?_
  refine wp_region_held_drew (S := (fun w' => w'.cell? ⟨bx, 0, none⟩ = some (.pointer (some ⟨p, 0, none⟩)) ∧ w'.cell? ⟨p, 4, none⟩ = some (P0 pm))) (by kernel_rfl) ⟨hbx, c4⟩ (fun hHeld => ?_)
  have kd : Keeps [] w w.drew := (Keeps.refl [] w).drew
  refine wpAnyH_take (i := 0) (v := ?v3_19) rfl (by kernel_rfl) (by kernel_rfl) (by kernel_rfl) (fun _ _ _ h => h) (Or.inl ⟨by rfl, ?y3_19⟩) (by assumption) ?r3_19
  case y3_19 => (intro w hSw; (try dsimp only at hSw); go_simp; try with_reducible rfl)
  (try simp only [Act.put, List.getElem_toArray, List.getElem_cons_zero, List.getElem_cons_succ, List.setIfInBounds_toArray, List.set_cons_zero, List.set_cons_succ])
  refine wpAnyH_take (i := 1) (v := ?v3_20) rfl (by kernel_rfl) (by kernel_rfl) (by kernel_rfl) (fun _ _ _ h => h) (Or.inl ⟨by rfl, ?y3_20⟩) (by assumption) ?r3_20
  case y3_20 => (intro w hSw; (try dsimp only at hSw); go_simp; try with_reducible rfl)
  (try simp only [Act.put, List.getElem_toArray, List.getElem_cons_zero, List.getElem_cons_succ, List.setIfInBounds_toArray, List.set_cons_zero, List.set_cons_succ])
  refine wpAnyH_take (i := 2) (v := ?v3_21) rfl (by kernel_rfl) (by kernel_rfl) (by kernel_rfl) (fun _ _ _ h => h) (Or.inl ⟨by rfl, ?y3_21⟩) (by assumption) ?r3_21
  case y3_21 => (intro w hSw; (try dsimp only at hSw); go_simp; try with_reducible rfl)
  (try simp only [Act.put, List.getElem_toArray, List.getElem_cons_zero, List.getElem_cons_succ, List.setIfInBounds_toArray, List.set_cons_zero, List.set_cons_succ])
  refine wpAnyH_take (i := 3) (v := ?v3_22) rfl (by kernel_rfl) (by kernel_rfl) (by kernel_rfl) (fun _ _ _ h => h) (Or.inl ⟨by rfl, ?y3_22⟩) (by assumption) ?r3_22
  case y3_22 => (intro w hSw; (try dsimp only at hSw); go_simp; try with_reducible rfl)
  (try simp only [Act.put, List.getElem_toArray, List.getElem_cons_zero, List.getElem_cons_succ, List.setIfInBounds_toArray, List.set_cons_zero, List.set_cons_succ])
  refine wpAnyH_take (i := 4) (v := ?v3_23) rfl (by kernel_rfl) (by kernel_rfl) (by kernel_rfl) (fun _ _ _ h => h) (Or.inl ⟨by rfl, ?y3_23⟩) (by assumption) ?r3_23
  case y3_23 => (intro w hSw; (try dsimp only at hSw); go_simp; try with_reducible rfl)
  (try simp only [Act.put, List.getElem_toArray, List.getElem_cons_zero, List.getElem_cons_succ, List.setIfInBounds_toArray, List.set_cons_zero, List.set_cons_succ])
  refine wpAnyH_ready (rs := [5]) (by kernel_rfl) (by simp) ?_
  refine AllReadyH.cons rfl (fun K hK => ?_) AllReadyH.nil
  go_simp
  refine HS.out.mono ?_
  rintro e w1 ⟨v1, rfl, hP1, k1⟩
  replace kd := kd.trans k1
  have HP1 := Lib.hid hP1
  obtain ⟨a1, b1, rfl, _⟩ := hP1.rdl
  have hb1 := HB.out.keeps kd (by simp)
  have HB1 := Lib.hid hb1
  have f9 := hb1.frozen 9
  have c9 := hb1.cell' (i := 9) rfl
  have hb3 := hb1.set 9 (.slice a1 (dats M (nK + P)).length b1)
  have k3 : Keeps [p] w1 (w1.setCell ⟨p, 9, none⟩ (.slice a1 (dats M (nK + P)).length b1)) := (Keeps.refl [p] w1).setCell (by simp) _
  have hp2 : ¬ p = bx := fun h => hne h.symm
  clear hP1 k1 hb1
  go_wp2_with fail
  refine hK.out _ _ ?s3_24 (fun hHeld => ?_)
  case s3_24 => ((try dsimp only) <;> (first | exact ⟨kd.cell0 hbx, kd.cell0 c4⟩))
  clear hK K
  (try simp only [Act.put, List.getElem_toArray, List.getElem_cons_zero, List.getElem_cons_succ, List.setIfInBounds_toArray, List.set_cons_zero, List.set_cons_succ])
  refine wpAnyH_take (i := 6) (v := ?v3_25) rfl (by kernel_rfl) (by kernel_rfl) (by kernel_rfl) (fun _ _ _ h => h) (Or.inl ⟨by rfl, ?y3_25⟩) (by assumption) ?r3_25
  case y3_25 => (intro w hSw; (try dsimp only at hSw); go_simp; try with_reducible rfl)
  (try simp only [Act.put, List.getElem_toArray, List.getElem_cons_zero, List.getElem_cons_succ, List.setIfInBounds_toArray, List.set_cons_zero, List.set_cons_succ])
  refine wpAnyH_take (i := 7) (v := ?v3_26) rfl (by kernel_rfl) (by kernel_rfl) (by kernel_rfl) (fun _ _ _ h => h) (Or.inl ⟨by rfl, ?y3_26⟩) (by assumption) ?r3_26
  case y3_26 => (intro w hSw; (try dsimp only at hSw); go_simp; try with_reducible rfl)
  (try simp only [Act.put, List.getElem_toArray, List.getElem_cons_zero, List.getElem_cons_succ, List.setIfInBounds_toArray, List.set_cons_zero, List.set_cons_succ])
  refine wpAnyH_ready (rs := [8]) (by kernel_rfl) (by simp) ?_
  refine AllReadyH.cons rfl (fun K hK => ?_) AllReadyH.nil
  go_simp
  have q1 := World.cell?_setCell_other w1 ⟨p, 9, none⟩ ⟨bx, 0, none⟩ (.slice a1 (dats M (nK + P)).length b1) (fun h => hp2 (congrArg Addr.block h))
  refine hK.out _ _ ?s3_27 (fun hHeld => ?_)
  case s3_27 => ((try dsimp only) <;> (first | exact ⟨q1.trans (kd.cell0 hbx), hb3.cell' (i := 4) rfl⟩))
  clear hK K
  (try simp only [Act.put, List.getElem_toArray, List.getElem_cons_zero, List.getElem_cons_succ, List.setIfInBounds_toArray, List.set_cons_zero, List.set_cons_succ])
  refine wpAnyH_done (by kernel_rfl) ?_ _
  refine NoPanic.normal ?_
  go_wp2_with fail
  go_end0
  exact ⟨_, rfl, hb3, ((HP1.out.mono (Nat.zero_le _)).past k3 HB1.out (by decide) (by decide)), kd.nil.trans k3⟩

set_option maxRecDepth 100000 in
set_option maxHeartbeats 1600000 in
theorem dslow_calls {w : World} {p bx pm tk : Nat} {s : UInt32} {nK P z : Nat} {M : Mtx} {Fm : List Nat} (hb : Blk w p 150 [B32 s, .int .i64 nK, .int .i64 P, .int .i64 z, P0 pm, .int .i64 tk, .int .u32 0, .int .i32 0, .int .u32 0, .slice none 0 0]) (hM : MxF w pm (nK + P) z M Fm) (hn : p ∉ Fm) (hf : rank M = nK + P)
    (hbx : w.cell? ⟨bx, 0, none⟩ = some (.pointer (some ⟨p, 0, none⟩))) (hne : bx ≠ p) :
    Calls Tryz.prog 147 #[.pointer (some ⟨p, 6, none⟩), .func (.func 101) #[] #[.pointer (some ⟨bx, 0, none⟩)]] w (DSolved w p s nK P z pm tk M (.int .u32 1) (.int .i32 0) (.int .u32 0)) := by
  have hb1 := hb.set 7 (.int .i32 1)
  have kp : Keeps [p] w (w.setCell ⟨p, 7, none⟩ (.int .i32 1)) := (Keeps.refl [p] w).setCell (by simp) _
  have hbx1 := World.cell?_setCell_other w ⟨p, 7, none⟩ ⟨bx, 0, none⟩ (.int .i32 1) (fun h => hne (congrArg Addr.block h).symm)
  have hF := dimg1_calls hb1 (hM.keeps kp (fun x hx => by simp only [List.mem_singleton] at hx; subst hx; exact hn)) hf (hbx1.trans hbx) hne
  have hsz : (w.setCell ⟨p, 7, none⟩ (.int .i32 1)).heap.size = w.heap.size := by simp [World.setCell]
  have hpl := hb.lt
  have hl := run_call_load (P := Tryz.prog) Tryz.func179 (by kernel_rfl) (by kernel_rfl) (by kernel_rfl) .u32 (by kernel_rfl) (w := w.setCell ⟨p, 7, none⟩ (.int .i32 1)) (a := ⟨p, 6, none⟩) (x := 0) (hb1.cell' (i := 6) rfl)
  have hnot : ∀ (x : Bool) (w : World), (Op.unary .not (.bool x)).run Tryz.prog w = .ok (.bool (!x)) w := fun _ _ => rfl
  have c2 := hb.cell' (i := 7) rfl
  have f2 := hb.frozen 7
  clear hbx hbx1 hM
  go_enter_defers Tryz.func147, Tryz.ntmps147
  go_wp2_with (first | (go_at_call 180; refine (lock_free ⟨p, 7, none⟩ _ c2 f2).mono ?_; rintro e w' ⟨rfl, rfl⟩) | (go_at_call 146; go_in) | (go_at_call 101; refine hF.mono ?_; rintro e w2 ⟨v, rfl, hb2, hO, hK⟩))
  have b3 := hb2.drew.set 6 (.int .u32 1)
  have b4 := b3.set 7 (.int .i32 0)
  have k3 : Keeps [p] w2 (w2.drew.setCell ⟨p, 6, none⟩ (.int .u32 1)) := ((Keeps.refl [p] w2).drew).setCell (by simp) _
  have k4 : Keeps [p] w2 ((w2.drew.setCell ⟨p, 6, none⟩ (.int .u32 1)).setCell ⟨p, 7, none⟩ (.int .i32 0)) := k3.setCell (by simp) _
  have o4 := hO.past k4 hb2 (by decide) (by decide)
  go_wp2
  refine leaves_cons (f := 182) (args := #[.pointer (some ⟨p, 6, none⟩), .bool true]) (by simp) (by simp [go_sem]) ?_
  refine (store_deferred ⟨p, 6, none⟩ (.int .u32 0) .returning _ (hb2.cell' (i := 6) rfl) (hb2.frozen 6)).mono ?_
  rintro e u' w'' ⟨rfl, rfl, rfl⟩
  refine leaves_cons (f := 181) (args := #[.pointer (some ⟨p, 7, none⟩)]) (by simp [settle]) (by simp [go_sem]) ?_
  refine (unlock_deferred ⟨p, 7, none⟩ _ _ (b3.cell' (i := 7) rfl) (b3.frozen 7)).mono ?_
  rintro e u' w'' ⟨rfl, rfl, rfl⟩
  simp [Leaves, settle, results, Tryz.results147]
  exact ⟨v, rfl, b4, o4, (kp.trans hK).trans k4⟩

set_option maxRecDepth 100000 in
set_option maxHeartbeats 1600000 in
theorem donce_calls {w : World} {p bx pm tk : Nat} {d : Int} {s : UInt32} {nK P z : Nat} {M : Mtx} {Fm : List Nat} {v : Value} (hb : Blk w p 150 [B32 s, .int .i64 nK, .int .i64 P, .int .i64 z, P0 pm, .int .i64 tk, .int .u32 d, .int .i32 0, .int .u32 0, v]) (hM : MxF w pm (nK + P) z M Fm) (hn : p ∉ Fm) (hf : rank M = nK + P)
    (ho : (d = 0 ∧ v = .slice none 0 0) ∨ (d = 1 ∧ rank M = nK + P ∧ Pcs w 0 v (dats M (nK + P))))
    (hbx : w.cell? ⟨bx, 0, none⟩ = some (.pointer (some ⟨p, 0, none⟩))) (hne : bx ≠ p) :
    Calls Tryz.prog 100 #[.pointer (some ⟨p, 6, none⟩), .func (.func 101) #[] #[.pointer (some ⟨bx, 0, none⟩)]] w (DSolved w p s nK P z pm tk M (.int .u32 1) (.int .i32 0) (.int .u32 0)) := by
  rcases ho with ⟨rfl, rfl⟩ | ⟨rfl, _, hP⟩
  · have hS := dslow_calls hb hM hn hf hbx hne
    have c1 := hb.cell' (i := 6) rfl
    have hl := run_call_load (P := Tryz.prog) Tryz.func179 (by kernel_rfl) (by kernel_rfl) (by kernel_rfl) .u32 (by kernel_rfl) c1
    have hnot : ∀ (x : Bool) (w : World), (Op.unary .not (.bool x)).run Tryz.prog w = .ok (.bool (!x)) w := fun _ _ => rfl
    clear hM hbx
    go_enter Tryz.func100, Tryz.ntmps100
    go_wp2_with (first | (go_at_call 147; refine hS.mono ?_; rintro e w2 ⟨v, rfl, hb2, hO, hK⟩) | (go_at_call 146; go_in))
    go_end0
    exact ⟨v, rfl, hb2, hO, hK⟩
  · refine (oncedone_calls ⟨p, 6, none⟩ _ w (hb.cell' (i := 6) rfl)).mono ?_
    rintro e w' ⟨rfl, rfl⟩
    exact ⟨v, rfl, hb, hP, Keeps.refl _ _⟩

end Go.Proofs.YtijhaeapoapgfaaGreatDoor

set_option linter.unusedVariables false
set_option linter.unusedSimpArgs false
namespace Go.Proofs.YtijhaeapoapgfaaGreatDoor
open Go.RowKit
attribute [local go_sem ↓] Go.wp_at_zero Go.wp_at_succ

theorem RdL.take {w : World} {a : Option Addr} {n c : Nat} {L : List (List UInt8)} (h : RdL w (.slice a n c) L) (k : Nat) (hk : k ≤ L.length) : RdL w (.slice a k c) (L.take k) := by
  obtain ⟨a', c', e, h1, h2, h3, h4⟩ := h
  simp only [Value.slice.injEq] at e
  obtain ⟨rfl, _, rfl⟩ := e
  refine ⟨a, c, by rw [List.length_take, Nat.min_eq_left hk], by rw [List.length_take]; omega, h2, fun i x hx => ?_, fun ha => ⟨by rw [(h4 ha).1]; simp, (h4 ha).2⟩⟩
  rw [List.getElem?_take] at hx
  split at hx
  · exact h3 i x hx
  · cases hx

theorem dimageNil_calls {w : World} (len : Int) : Calls Tryz.prog 63 #[.pointer none, .int .i64 len] w fun e w' => e = .returned (.tuple #[.slice none 0 0, .bool false]) ∧ Keeps [] w w' := by
  have kA : Keeps [] w (w.alloc (.cells #[.pointer none] 76)) := (Keeps.refl [] w).alloc _
  have t0 : (w.alloc (.cells #[.pointer none] 76)).cell? ⟨w.heap.size, 0, none⟩ = some (.pointer none) := (Blk.newA w _ _).cell' rfl
  go_enter Tryz.func63, Tryz.ntmps63
  go_wp2_with fail
  generalize w.alloc (.cells #[.pointer none] 76) = w0 at *
  go_quiet (fail)
  go_wp2_with fail
  go_ret2
  exact ⟨rfl, kA.drewN _⟩

set_option maxRecDepth 100000 in
set_option maxHeartbeats 1600000 in
/-- There is not enough. -/
theorem dimagefew_calls {w : World} {p : Nat} {s : UInt32} {nK P z : Nat} {M : Mtx} {tk : Nat} {Fl : List Nat} (h : De w p s nK P z M tk Fl) (hp : PmI nK P z) (hf : rank M ≠ nK + P) (len : Int) :
    Calls Tryz.prog 63 #[P0 p, .int .i64 len] w fun e w' => e = .returned (.tuple #[.slice none 0 0, .bool false]) ∧ Keeps [] w w' := by
  have hrk : rank M ≤ nK + P := by have := rank_le M; rw [h.ech.l] at this; exact this
  have kA : Keeps [] w (w.alloc (.cells #[P0 p] 76)) := (Keeps.refl [] w).alloc _
  have t0 : (w.alloc (.cells #[P0 p] 76)).cell? ⟨w.heap.size, 0, none⟩ = some (P0 p) := (Blk.newA w _ _).cell' rfl
  have HN := Lib.hid (dneeds_calls (h.keepsNil kA.drew) hp)
  have hgt : decide (0 < nK + P - rank M) = true := by simp; omega
  have hgt2 : (0 : Int) < ((nK + P - rank M : Nat) : Int) := by omega
  generalize nK + P - rank M = nd at *
  clear h hf hrk
  go_enter Tryz.func63, Tryz.ntmps63
  go_wp2_with fail
  generalize w.alloc (.cells #[P0 p] 76) = w0 at *
  refine wp_region_noPanic ?_
  refine wp_region_held_drew (S := (fun w' => w'.cell? ⟨w.heap.size, 0, none⟩ = some (P0 p))) (by kernel_rfl) t0 (fun hHeld => ?_)
  have kd : Keeps [] w0 w0.drew := (Keeps.refl [] w0).drew
  refine wpAnyH_take (i := 0) (v := ?v4_28) rfl (by kernel_rfl) (by kernel_rfl) (by kernel_rfl) (fun _ _ _ h => h) (Or.inl ⟨by rfl, ?y4_28⟩) (by assumption) ?r4_28
  case y4_28 => (intro w hSw; (try dsimp only at hSw); go_simp; try with_reducible rfl)
  (try simp only [Act.put, List.getElem_toArray, List.getElem_cons_zero, List.getElem_cons_succ, List.setIfInBounds_toArray, List.set_cons_zero, List.set_cons_succ])
  refine wpAnyH_take (i := 1) (v := ?v4_29) rfl (by kernel_rfl) (by kernel_rfl) (by kernel_rfl) (fun _ _ _ h => h) (Or.inl ⟨by rfl, ?y4_29⟩) (by assumption) ?r4_29
  case y4_29 => (intro w hSw; (try dsimp only at hSw); go_simp; try with_reducible rfl)
  (try simp only [Act.put, List.getElem_toArray, List.getElem_cons_zero, List.getElem_cons_succ, List.setIfInBounds_toArray, List.set_cons_zero, List.set_cons_succ])
  refine wpAnyH_take (i := 2) (v := ?v4_30) rfl (by kernel_rfl) (by kernel_rfl) (by kernel_rfl) (fun _ _ _ h => h) (Or.inl ⟨by rfl, ?y4_30⟩) (by assumption) ?r4_30
  case y4_30 => (intro w hSw; (try dsimp only at hSw); go_simp; try with_reducible rfl)
  (try simp only [Act.put, List.getElem_toArray, List.getElem_cons_zero, List.getElem_cons_succ, List.setIfInBounds_toArray, List.set_cons_zero, List.set_cons_succ])
  refine wpAnyH_take (i := 3) (v := ?v4_31) rfl (by kernel_rfl) (by kernel_rfl) (by kernel_rfl) (fun _ _ _ h => h) (Or.inl ⟨by rfl, ?y4_31⟩) (by assumption) ?r4_31
  case y4_31 => (intro w hSw; (try dsimp only at hSw); go_simp; try with_reducible rfl)
  (try simp only [Act.put, List.getElem_toArray, List.getElem_cons_zero, List.getElem_cons_succ, List.setIfInBounds_toArray, List.set_cons_zero, List.set_cons_succ])
  refine wpAnyH_ready (rs := [4]) (by kernel_rfl) (by simp) ?_
  refine AllReadyH.cons rfl (fun K hK => ?_) AllReadyH.nil
  go_simp
  refine HN.out.mono ?_
  rintro e w1 ⟨rfl, k1⟩
  replace kd := kd.trans k1
  go_wp2_with fail
  refine hK.out _ _ ?s4_32 (fun hHeld => ?_)
  case s4_32 => ((try dsimp only) <;> (first | exact kd.cell0 t0))
  clear hK K
  (try simp only [Act.put, List.getElem_toArray, List.getElem_cons_zero, List.getElem_cons_succ, List.setIfInBounds_toArray, List.set_cons_zero, List.set_cons_succ])
  refine wpAnyH_take (i := 5) (v := ?v4_33) rfl (by kernel_rfl) (by kernel_rfl) (by kernel_rfl) (fun _ _ _ h => h) (Or.inl ⟨by rfl, ?y4_33⟩) (by assumption) ?r4_33
  case y4_33 => (intro w hSw; (try dsimp only at hSw); go_simp; try with_reducible rfl)
  (try simp only [Act.put, List.getElem_toArray, List.getElem_cons_zero, List.getElem_cons_succ, List.setIfInBounds_toArray, List.set_cons_zero, List.set_cons_succ])
  refine wpAnyH_take (i := 6) (v := ?v4_34) rfl (by kernel_rfl) (by kernel_rfl) (by kernel_rfl) (fun _ _ _ h => h) (Or.inl ⟨by rfl, ?y4_34⟩) (by assumption) ?r4_34
  case y4_34 => (intro w hSw; (try dsimp only at hSw); go_simp; try with_reducible rfl)
  (try simp only [Act.put, List.getElem_toArray, List.getElem_cons_zero, List.getElem_cons_succ, List.setIfInBounds_toArray, List.set_cons_zero, List.set_cons_succ])
  refine wpAnyH_take (i := 7) (v := ?v4_35) rfl (by kernel_rfl) (by kernel_rfl) (by kernel_rfl) (fun _ _ _ h => h) (Or.inl ⟨by rfl, ?y4_35⟩) (by assumption) ?r4_35
  case y4_35 => (intro w hSw; (try dsimp only at hSw); go_simp; try with_reducible rfl)
  (try simp only [Act.put, List.getElem_toArray, List.getElem_cons_zero, List.getElem_cons_succ, List.setIfInBounds_toArray, List.set_cons_zero, List.set_cons_succ])
  refine wpAnyH_take (i := 8) (v := undef) rfl (by kernel_rfl) (by kernel_rfl) (by kernel_rfl) (fun _ _ _ h => h) (Or.inr ⟨by rfl, rfl⟩) (by assumption) ?_
  (try simp only [Act.put, List.getElem_toArray, List.getElem_cons_zero, List.getElem_cons_succ, List.setIfInBounds_toArray, List.set_cons_zero, List.set_cons_succ])
  refine wpAnyH_take (i := 9) (v := undef) rfl (by kernel_rfl) (by kernel_rfl) (by kernel_rfl) (fun _ _ _ h => h) (Or.inr ⟨by rfl, rfl⟩) (by assumption) ?_
  (try simp only [Act.put, List.getElem_toArray, List.getElem_cons_zero, List.getElem_cons_succ, List.setIfInBounds_toArray, List.set_cons_zero, List.set_cons_succ])
  refine wpAnyH_take (i := 10) (v := undef) rfl (by kernel_rfl) (by kernel_rfl) (by kernel_rfl) (fun _ _ _ h => h) (Or.inr ⟨by rfl, rfl⟩) (by assumption) ?_
  (try simp only [Act.put, List.getElem_toArray, List.getElem_cons_zero, List.getElem_cons_succ, List.setIfInBounds_toArray, List.set_cons_zero, List.set_cons_succ])
  refine wpAnyH_take (i := 11) (v := undef) rfl (by kernel_rfl) (by kernel_rfl) (by kernel_rfl) (fun _ _ _ h => h) (Or.inr ⟨by rfl, rfl⟩) (by assumption) ?_
  (try simp only [Act.put, List.getElem_toArray, List.getElem_cons_zero, List.getElem_cons_succ, List.setIfInBounds_toArray, List.set_cons_zero, List.set_cons_succ])
  refine wpAnyH_take (i := 12) (v := undef) rfl (by kernel_rfl) (by kernel_rfl) (by kernel_rfl) (fun _ _ _ h => h) (Or.inr ⟨by rfl, rfl⟩) (by assumption) ?_
  (try simp only [Act.put, List.getElem_toArray, List.getElem_cons_zero, List.getElem_cons_succ, List.setIfInBounds_toArray, List.set_cons_zero, List.set_cons_succ])
  refine wpAnyH_take (i := 13) (v := undef) rfl (by kernel_rfl) (by kernel_rfl) (by kernel_rfl) (fun _ _ _ h => h) (Or.inr ⟨by rfl, rfl⟩) (by assumption) ?_
  (try simp only [Act.put, List.getElem_toArray, List.getElem_cons_zero, List.getElem_cons_succ, List.setIfInBounds_toArray, List.set_cons_zero, List.set_cons_succ])
  refine wpAnyH_take (i := 14) (v := undef) rfl (by kernel_rfl) (by kernel_rfl) (by kernel_rfl) (fun _ _ _ h => h) (Or.inr ⟨by rfl, rfl⟩) (by assumption) ?_
  (try simp only [Act.put, List.getElem_toArray, List.getElem_cons_zero, List.getElem_cons_succ, List.setIfInBounds_toArray, List.set_cons_zero, List.set_cons_succ])
  refine wpAnyH_take (i := 15) (v := undef) rfl (by kernel_rfl) (by kernel_rfl) (by kernel_rfl) (fun _ _ _ h => h) (Or.inr ⟨by rfl, rfl⟩) (by assumption) ?_
  (try simp only [Act.put, List.getElem_toArray, List.getElem_cons_zero, List.getElem_cons_succ, List.setIfInBounds_toArray, List.set_cons_zero, List.set_cons_succ])
  refine wpAnyH_take (i := 16) (v := undef) rfl (by kernel_rfl) (by kernel_rfl) (by kernel_rfl) (fun _ _ _ h => h) (Or.inr ⟨by rfl, rfl⟩) (by assumption) ?_
  (try simp only [Act.put, List.getElem_toArray, List.getElem_cons_zero, List.getElem_cons_succ, List.setIfInBounds_toArray, List.set_cons_zero, List.set_cons_succ])
  refine wpAnyH_take (i := 17) (v := undef) rfl (by kernel_rfl) (by kernel_rfl) (by kernel_rfl) (fun _ _ _ h => h) (Or.inr ⟨by rfl, rfl⟩) (by assumption) ?_
  (try simp only [Act.put, List.getElem_toArray, List.getElem_cons_zero, List.getElem_cons_succ, List.setIfInBounds_toArray, List.set_cons_zero, List.set_cons_succ])
  refine wpAnyH_take (i := 18) (v := undef) rfl (by kernel_rfl) (by kernel_rfl) (by kernel_rfl) (fun _ _ _ h => h) (Or.inr ⟨by rfl, rfl⟩) (by assumption) ?_
  (try simp only [Act.put, List.getElem_toArray, List.getElem_cons_zero, List.getElem_cons_succ, List.setIfInBounds_toArray, List.set_cons_zero, List.set_cons_succ])
  refine wpAnyH_take (i := 19) (v := undef) rfl (by kernel_rfl) (by kernel_rfl) (by kernel_rfl) (fun _ _ _ h => h) (Or.inr ⟨by rfl, rfl⟩) (by assumption) ?_
  (try simp only [Act.put, List.getElem_toArray, List.getElem_cons_zero, List.getElem_cons_succ, List.setIfInBounds_toArray, List.set_cons_zero, List.set_cons_succ])
  refine wpAnyH_take (i := 20) (v := undef) rfl (by kernel_rfl) (by kernel_rfl) (by kernel_rfl) (fun _ _ _ h => h) (Or.inr ⟨by rfl, rfl⟩) (by assumption) ?_
  (try simp only [Act.put, List.getElem_toArray, List.getElem_cons_zero, List.getElem_cons_succ, List.setIfInBounds_toArray, List.set_cons_zero, List.set_cons_succ])
  refine wpAnyH_take (i := 21) (v := ?v4_36) rfl (by kernel_rfl) (by kernel_rfl) (by kernel_rfl) (fun _ _ _ h => h) (Or.inl ⟨by rfl, ?y4_36⟩) (by assumption) ?r4_36
  case y4_36 => (intro w hSw; (try dsimp only at hSw); go_simp; try with_reducible rfl)
  (try simp only [Act.put, List.getElem_toArray, List.getElem_cons_zero, List.getElem_cons_succ, List.setIfInBounds_toArray, List.set_cons_zero, List.set_cons_succ])
  refine wpAnyH_done (by kernel_rfl) ?_ _
  refine NoPanic.normal ?_
  go_wp2_with fail
  go_ret2
  exact ⟨rfl, kA.trans kd⟩

set_option maxRecDepth 100000 in
set_option maxHeartbeats 1600000 in
/-- There is enough, but the length is another. -/
theorem dimagelen_calls {w : World} {p : Nat} {s : UInt32} {nK P z : Nat} {M : Mtx} {tk : Nat} {Fl : List Nat} (h : De w p s nK P z M tk Fl) (hp : PmI nK P z) (hf : rank M = nK + P) (len : Nat) (hl : len ≤ 512) (hc : bcount len z ≠ nK) :
    Calls Tryz.prog 63 #[P0 p, .int .i64 len] w fun e w' => e = .returned (.tuple #[.slice none 0 0, .bool false]) ∧ Keeps [] w w' := by
  have kA : Keeps [] w (w.alloc (.cells #[P0 p] 76)) := (Keeps.refl [] w).alloc _
  have t0 : (w.alloc (.cells #[P0 p] 76)).cell? ⟨w.heap.size, 0, none⟩ = some (P0 p) := (Blk.newA w _ _).cell' rfl
  have hN := dneeds_calls (h.keepsNil kA.drew) hp
  rw [hf, Nat.sub_self] at hN
  have HN := Lib.hid hN
  have HC := Lib.hid (fun w => bcount_calls (w := w) len z hl hp.z1 hp.z2)
  obtain ⟨pm, Fm, d, v, hb, _⟩ := h
  have hb0 := hb.keeps kA (by simp)
  have hcn : ((bcount len z : Int) != (nK : Int)) = true := by simp; omega
  generalize bcount len z = bc at *
  clear hb hN hc hf hp
  go_enter Tryz.func63, Tryz.ntmps63
  go_wp2_with fail
  generalize w.alloc (.cells #[P0 p] 76) = w0 at *
  have c1 := hb0.cell' (i := 1) rfl
  have c3 := hb0.cell' (i := 3) rfl
  refine wp_region_noPanic ?_
  refine wp_region_held_drew (S := (fun w' => w'.cell? ⟨w.heap.size, 0, none⟩ = some (P0 p) ∧ w'.cell? ⟨p, 1, none⟩ = some (.int .i64 nK) ∧ w'.cell? ⟨p, 3, none⟩ = some (.int .i64 z))) (by kernel_rfl) ⟨t0, c1, c3⟩ (fun hHeld => ?_)
  have kd : Keeps [] w0 w0.drew := (Keeps.refl [] w0).drew
  refine wpAnyH_take (i := 0) (v := ?v5_37) rfl (by kernel_rfl) (by kernel_rfl) (by kernel_rfl) (fun _ _ _ h => h) (Or.inl ⟨by rfl, ?y5_37⟩) (by assumption) ?r5_37
  case y5_37 => (intro w hSw; (try dsimp only at hSw); go_simp; try with_reducible rfl)
  (try simp only [Act.put, List.getElem_toArray, List.getElem_cons_zero, List.getElem_cons_succ, List.setIfInBounds_toArray, List.set_cons_zero, List.set_cons_succ])
  refine wpAnyH_take (i := 1) (v := ?v5_38) rfl (by kernel_rfl) (by kernel_rfl) (by kernel_rfl) (fun _ _ _ h => h) (Or.inl ⟨by rfl, ?y5_38⟩) (by assumption) ?r5_38
  case y5_38 => (intro w hSw; (try dsimp only at hSw); go_simp; try with_reducible rfl)
  (try simp only [Act.put, List.getElem_toArray, List.getElem_cons_zero, List.getElem_cons_succ, List.setIfInBounds_toArray, List.set_cons_zero, List.set_cons_succ])
  refine wpAnyH_take (i := 2) (v := ?v5_39) rfl (by kernel_rfl) (by kernel_rfl) (by kernel_rfl) (fun _ _ _ h => h) (Or.inl ⟨by rfl, ?y5_39⟩) (by assumption) ?r5_39
  case y5_39 => (intro w hSw; (try dsimp only at hSw); go_simp; try with_reducible rfl)
  (try simp only [Act.put, List.getElem_toArray, List.getElem_cons_zero, List.getElem_cons_succ, List.setIfInBounds_toArray, List.set_cons_zero, List.set_cons_succ])
  refine wpAnyH_take (i := 3) (v := ?v5_40) rfl (by kernel_rfl) (by kernel_rfl) (by kernel_rfl) (fun _ _ _ h => h) (Or.inl ⟨by rfl, ?y5_40⟩) (by assumption) ?r5_40
  case y5_40 => (intro w hSw; (try dsimp only at hSw); go_simp; try with_reducible rfl)
  (try simp only [Act.put, List.getElem_toArray, List.getElem_cons_zero, List.getElem_cons_succ, List.setIfInBounds_toArray, List.set_cons_zero, List.set_cons_succ])
  refine wpAnyH_ready (rs := [4]) (by kernel_rfl) (by simp) ?_
  refine AllReadyH.cons rfl (fun K hK => ?_) AllReadyH.nil
  go_simp
  refine HN.out.mono ?_
  rintro e w1 ⟨rfl, k1⟩
  replace kd := kd.trans k1
  go_wp2_with fail
  refine hK.out _ _ ?s5_41 (fun hHeld => ?_)
  case s5_41 => ((try dsimp only) <;> (first | exact ⟨kd.cell0 t0, kd.cell0 c1, kd.cell0 c3⟩))
  clear hK K
  (try simp only [Act.put, List.getElem_toArray, List.getElem_cons_zero, List.getElem_cons_succ, List.setIfInBounds_toArray, List.set_cons_zero, List.set_cons_succ])
  refine wpAnyH_take (i := 5) (v := ?v5_42) rfl (by kernel_rfl) (by kernel_rfl) (by kernel_rfl) (fun _ _ _ h => h) (Or.inl ⟨by rfl, ?y5_42⟩) (by assumption) ?r5_42
  case y5_42 => (intro w hSw; (try dsimp only at hSw); go_simp; try with_reducible rfl)
  (try simp only [Act.put, List.getElem_toArray, List.getElem_cons_zero, List.getElem_cons_succ, List.setIfInBounds_toArray, List.set_cons_zero, List.set_cons_succ])
  refine wpAnyH_take (i := 6) (v := ?v5_43) rfl (by kernel_rfl) (by kernel_rfl) (by kernel_rfl) (fun _ _ _ h => h) (Or.inl ⟨by rfl, ?y5_43⟩) (by assumption) ?r5_43
  case y5_43 => (intro w hSw; (try dsimp only at hSw); go_simp; try with_reducible rfl)
  (try simp only [Act.put, List.getElem_toArray, List.getElem_cons_zero, List.getElem_cons_succ, List.setIfInBounds_toArray, List.set_cons_zero, List.set_cons_succ])
  refine wpAnyH_take (i := 7) (v := ?v5_44) rfl (by kernel_rfl) (by kernel_rfl) (by kernel_rfl) (fun _ _ _ h => h) (Or.inl ⟨by rfl, ?y5_44⟩) (by assumption) ?r5_44
  case y5_44 => (intro w hSw; (try dsimp only at hSw); go_simp; try with_reducible rfl)
  (try simp only [Act.put, List.getElem_toArray, List.getElem_cons_zero, List.getElem_cons_succ, List.setIfInBounds_toArray, List.set_cons_zero, List.set_cons_succ])
  refine wpAnyH_take (i := 8) (v := ?v5_45) rfl (by kernel_rfl) (by kernel_rfl) (by kernel_rfl) (fun _ _ _ h => h) (Or.inl ⟨by rfl, ?y5_45⟩) (by assumption) ?r5_45
  case y5_45 => (intro w hSw; (try dsimp only at hSw); go_simp; try with_reducible rfl)
  (try simp only [Act.put, List.getElem_toArray, List.getElem_cons_zero, List.getElem_cons_succ, List.setIfInBounds_toArray, List.set_cons_zero, List.set_cons_succ])
  refine wpAnyH_take (i := 9) (v := ?v5_46) rfl (by kernel_rfl) (by kernel_rfl) (by kernel_rfl) (fun _ _ _ h => h) (Or.inl ⟨by rfl, ?y5_46⟩) (by assumption) ?r5_46
  case y5_46 => (intro w hSw; (try dsimp only at hSw); go_simp; try with_reducible rfl)
  (try simp only [Act.put, List.getElem_toArray, List.getElem_cons_zero, List.getElem_cons_succ, List.setIfInBounds_toArray, List.set_cons_zero, List.set_cons_succ])
  refine wpAnyH_take (i := 10) (v := ?v5_47) rfl (by kernel_rfl) (by kernel_rfl) (by kernel_rfl) (fun _ _ _ h => h) (Or.inl ⟨by rfl, ?y5_47⟩) (by assumption) ?r5_47
  case y5_47 => (intro w hSw; (try dsimp only at hSw); go_simp; try with_reducible rfl)
  (try simp only [Act.put, List.getElem_toArray, List.getElem_cons_zero, List.getElem_cons_succ, List.setIfInBounds_toArray, List.set_cons_zero, List.set_cons_succ])
  refine wpAnyH_take (i := 11) (v := ?v5_48) rfl (by kernel_rfl) (by kernel_rfl) (by kernel_rfl) (fun _ _ _ h => h) (Or.inl ⟨by rfl, ?y5_48⟩) (by assumption) ?r5_48
  case y5_48 => (intro w hSw; (try dsimp only at hSw); go_simp; try with_reducible rfl)
  (try simp only [Act.put, List.getElem_toArray, List.getElem_cons_zero, List.getElem_cons_succ, List.setIfInBounds_toArray, List.set_cons_zero, List.set_cons_succ])
  refine wpAnyH_take (i := 12) (v := ?v5_49) rfl (by kernel_rfl) (by kernel_rfl) (by kernel_rfl) (fun _ _ _ h => h) (Or.inl ⟨by rfl, ?y5_49⟩) (by assumption) ?r5_49
  case y5_49 => (intro w hSw; (try dsimp only at hSw); go_simp; try with_reducible rfl)
  (try simp only [Act.put, List.getElem_toArray, List.getElem_cons_zero, List.getElem_cons_succ, List.setIfInBounds_toArray, List.set_cons_zero, List.set_cons_succ])
  refine wpAnyH_take (i := 13) (v := ?v5_50) rfl (by kernel_rfl) (by kernel_rfl) (by kernel_rfl) (fun _ _ _ h => h) (Or.inl ⟨by rfl, ?y5_50⟩) (by assumption) ?r5_50
  case y5_50 => (intro w hSw; (try dsimp only at hSw); go_simp; try with_reducible rfl)
  (try simp only [Act.put, List.getElem_toArray, List.getElem_cons_zero, List.getElem_cons_succ, List.setIfInBounds_toArray, List.set_cons_zero, List.set_cons_succ])
  refine wpAnyH_take (i := 15) (v := ?v5_51) rfl (by kernel_rfl) (by kernel_rfl) (by kernel_rfl) (fun _ _ _ h => h) (Or.inl ⟨by rfl, ?y5_51⟩) (by assumption) ?r5_51
  case y5_51 => (intro w hSw; (try dsimp only at hSw); go_simp; try with_reducible rfl)
  (try simp only [Act.put, List.getElem_toArray, List.getElem_cons_zero, List.getElem_cons_succ, List.setIfInBounds_toArray, List.set_cons_zero, List.set_cons_succ])
  refine wpAnyH_take (i := 16) (v := ?v5_52) rfl (by kernel_rfl) (by kernel_rfl) (by kernel_rfl) (fun _ _ _ h => h) (Or.inl ⟨by rfl, ?y5_52⟩) (by assumption) ?r5_52
  case y5_52 => (intro w hSw; (try dsimp only at hSw); go_simp; try with_reducible rfl)
  (try simp only [Act.put, List.getElem_toArray, List.getElem_cons_zero, List.getElem_cons_succ, List.setIfInBounds_toArray, List.set_cons_zero, List.set_cons_succ])
  refine wpAnyH_take (i := 17) (v := ?v5_53) rfl (by kernel_rfl) (by kernel_rfl) (by kernel_rfl) (fun _ _ _ h => h) (Or.inl ⟨by rfl, ?y5_53⟩) (by assumption) ?r5_53
  case y5_53 => (intro w hSw; (try dsimp only at hSw); go_simp; try with_reducible rfl)
  (try simp only [Act.put, List.getElem_toArray, List.getElem_cons_zero, List.getElem_cons_succ, List.setIfInBounds_toArray, List.set_cons_zero, List.set_cons_succ])
  refine wpAnyH_take (i := 18) (v := ?v5_54) rfl (by kernel_rfl) (by kernel_rfl) (by kernel_rfl) (fun _ _ _ h => h) (Or.inl ⟨by rfl, ?y5_54⟩) (by assumption) ?r5_54
  case y5_54 => (intro w hSw; (try dsimp only at hSw); go_simp; try with_reducible rfl)
  (try simp only [Act.put, List.getElem_toArray, List.getElem_cons_zero, List.getElem_cons_succ, List.setIfInBounds_toArray, List.set_cons_zero, List.set_cons_succ])
  refine wpAnyH_take (i := 19) (v := ?v5_55) rfl (by kernel_rfl) (by kernel_rfl) (by kernel_rfl) (fun _ _ _ h => h) (Or.inl ⟨by rfl, ?y5_55⟩) (by assumption) ?r5_55
  case y5_55 => (intro w hSw; (try dsimp only at hSw); go_simp; try with_reducible rfl)
  (try simp only [Act.put, List.getElem_toArray, List.getElem_cons_zero, List.getElem_cons_succ, List.setIfInBounds_toArray, List.set_cons_zero, List.set_cons_succ])
  refine wpAnyH_ready (rs := [14]) (by kernel_rfl) (by simp) ?_
  refine AllReadyH.cons rfl (fun K hK => ?_) AllReadyH.nil
  go_simp
  refine (HC.out _).mono ?_
  rintro e w' ⟨rfl, rfl⟩
  go_wp2_with fail
  refine hK.out _ _ ?s5_56 (fun hHeld => ?_)
  case s5_56 => ((try dsimp only) <;> (first | exact ⟨kd.cell0 t0, kd.cell0 c1, kd.cell0 c3⟩))
  clear hK K
  (try simp only [Act.put, List.getElem_toArray, List.getElem_cons_zero, List.getElem_cons_succ, List.setIfInBounds_toArray, List.set_cons_zero, List.set_cons_succ])
  refine wpAnyH_take (i := 20) (v := ?v5_57) rfl (by kernel_rfl) (by kernel_rfl) (by kernel_rfl) (fun _ _ _ h => h) (Or.inl ⟨by rfl, ?y5_57⟩) (by assumption) ?r5_57
  case y5_57 => (intro w hSw; (try dsimp only at hSw); go_simp; try with_reducible rfl)
  (try simp only [Act.put, List.getElem_toArray, List.getElem_cons_zero, List.getElem_cons_succ, List.setIfInBounds_toArray, List.set_cons_zero, List.set_cons_succ])
  refine wpAnyH_take (i := 21) (v := ?v5_58) rfl (by kernel_rfl) (by kernel_rfl) (by kernel_rfl) (fun _ _ _ h => h) (Or.inl ⟨by rfl, ?y5_58⟩) (by assumption) ?r5_58
  case y5_58 => (intro w hSw; (try dsimp only at hSw); go_simp; try with_reducible rfl)
  (try simp only [Act.put, List.getElem_toArray, List.getElem_cons_zero, List.getElem_cons_succ, List.setIfInBounds_toArray, List.set_cons_zero, List.set_cons_succ])
  refine wpAnyH_done (by kernel_rfl) ?_ _
  refine NoPanic.normal ?_
  go_wp2_with fail
  go_ret2
  exact ⟨rfl, kA.trans kd⟩

/-- The image. -/
def DImg (w : World) (p : Nat) (s : UInt32) (nK P z : Nat) (M : Mtx) (tk : Nat) (Fl : List Nat) (J : List UInt8) (e : Ending) (w' : World) : Prop :=
  ∃ v, e = .returned (.tuple #[v, .bool true]) ∧ Own w' w.heap.size v J ∧ De w' p s nK P z M tk Fl ∧ Keeps [p] w w'

set_option maxRecDepth 100000 in
set_option maxHeartbeats 1600000 in
theorem dimage_calls {w : World} {p : Nat} {s : UInt32} {nK P z : Nat} {M : Mtx} {tk : Nat} {Fl : List Nat} (h : De w p s nK P z M tk Fl) (hp : PmI nK P z) (hf : rank M = nK + P) (len : Nat) (hl1 : 1 ≤ len) (hl : len ≤ 512) (hc : bcount len z = nK)
    (hd : ∀ x ∈ dats M (nK + P), x.length ≤ 16) (hj : (joinF len ((dats M (nK + P)).take nK)).length = len) :
    Calls Tryz.prog 63 #[P0 p, .int .i64 len] w (DImg w p s nK P z M tk Fl (joinF len ((dats M (nK + P)).take nK))) := by
  have hmf : ∀ (fn : Fn) (first cap : Array Value) (w : World), (Instr.makeFunc fn first cap).run Tryz.prog w = .ok (.func fn first cap) w := fun _ _ _ _ => rfl
  have kA : Keeps [] w (w.alloc (.cells #[P0 p] 76)) := (Keeps.refl [] w).alloc _
  have t0 : (w.alloc (.cells #[P0 p] 76)).cell? ⟨w.heap.size, 0, none⟩ = some (P0 p) := (Blk.newA w _ _).cell' rfl
  have hN := dneeds_calls (h.keepsNil kA.drew) hp
  rw [hf, Nat.sub_self] at hN
  have HN := Lib.hid hN
  have hC := fun w => bcount_calls (w := w) len z hl hp.z1 hp.z2
  rw [hc] at hC
  have HC := Lib.hid hC
  have hA := h.keepsNil kA
  obtain ⟨pm, Fm, d, v, hb, hM, he, hfl, hn, ho⟩ := hA
  have hpl0 : p < w.heap.size := h.lt p (by rw [hfl]; simp)
  have hne : w.heap.size ≠ p := by omega
  have hn80 : nK + P ≤ 80 := by have := hp.k2; have := hp.p2; omega
  have hdl := dats_len M (nK + P)
  have HB := Lib.hid hb
  have HM := Lib.hid hM
  have He := Lib.hid he
  have Ho := Lib.hid ho
  have Hn := Lib.hid hn
  have Hd := Lib.hid hd
  have Hj := Lib.hid hj
  have Hf := Lib.hid hf
  have Hfl := Lib.hid hfl
  have hkn : (nK : Int) ≤ ((nK + P : Nat) : Int) := by omega
  have hsA : (w.alloc (.cells #[P0 p] 76)).heap.size = w.heap.size + 1 := by simp
  have HsA := Lib.hid hsA
  clear hN hC hc hp h hM he ho hn hd hj hf hfl hsA
  go_enter Tryz.func63, Tryz.ntmps63
  go_wp2_with fail
  generalize w.alloc (.cells #[P0 p] 76) = w0 at *
  have c1 := hb.cell' (i := 1) rfl
  have c3 := hb.cell' (i := 3) rfl
  clear hb
  refine wp_region_noPanic ?_
  refine wp_region_held_drew (S := (fun w' => w'.cell? ⟨w.heap.size, 0, none⟩ = some (P0 p) ∧ w'.cell? ⟨p, 1, none⟩ = some (.int .i64 nK) ∧ w'.cell? ⟨p, 3, none⟩ = some (.int .i64 z))) (by kernel_rfl) ⟨t0, c1, c3⟩ (fun hHeld => ?_)
  have kd : Keeps [] w0 w0.drew := (Keeps.refl [] w0).drew
  refine wpAnyH_take (i := 0) (v := ?v6_59) rfl (by kernel_rfl) (by kernel_rfl) (by kernel_rfl) (fun _ _ _ h => h) (Or.inl ⟨by rfl, ?y6_59⟩) (by assumption) ?r6_59
  case y6_59 => (intro w hSw; (try dsimp only at hSw); go_simp; try with_reducible rfl)
  (try simp only [Act.put, List.getElem_toArray, List.getElem_cons_zero, List.getElem_cons_succ, List.setIfInBounds_toArray, List.set_cons_zero, List.set_cons_succ])
  refine wpAnyH_take (i := 1) (v := ?v6_60) rfl (by kernel_rfl) (by kernel_rfl) (by kernel_rfl) (fun _ _ _ h => h) (Or.inl ⟨by rfl, ?y6_60⟩) (by assumption) ?r6_60
  case y6_60 => (intro w hSw; (try dsimp only at hSw); go_simp; try with_reducible rfl)
  (try simp only [Act.put, List.getElem_toArray, List.getElem_cons_zero, List.getElem_cons_succ, List.setIfInBounds_toArray, List.set_cons_zero, List.set_cons_succ])
  refine wpAnyH_take (i := 2) (v := ?v6_61) rfl (by kernel_rfl) (by kernel_rfl) (by kernel_rfl) (fun _ _ _ h => h) (Or.inl ⟨by rfl, ?y6_61⟩) (by assumption) ?r6_61
  case y6_61 => (intro w hSw; (try dsimp only at hSw); go_simp; try with_reducible rfl)
  (try simp only [Act.put, List.getElem_toArray, List.getElem_cons_zero, List.getElem_cons_succ, List.setIfInBounds_toArray, List.set_cons_zero, List.set_cons_succ])
  refine wpAnyH_take (i := 3) (v := ?v6_62) rfl (by kernel_rfl) (by kernel_rfl) (by kernel_rfl) (fun _ _ _ h => h) (Or.inl ⟨by rfl, ?y6_62⟩) (by assumption) ?r6_62
  case y6_62 => (intro w hSw; (try dsimp only at hSw); go_simp; try with_reducible rfl)
  (try simp only [Act.put, List.getElem_toArray, List.getElem_cons_zero, List.getElem_cons_succ, List.setIfInBounds_toArray, List.set_cons_zero, List.set_cons_succ])
  refine wpAnyH_ready (rs := [4]) (by kernel_rfl) (by simp) ?_
  refine AllReadyH.cons rfl (fun K hK => ?_) AllReadyH.nil
  go_simp
  refine HN.out.mono ?_
  rintro e w1 ⟨rfl, k1⟩
  replace kd := kd.trans k1
  clear k1
  go_wp2_with fail
  refine hK.out _ _ ?s6_63 (fun hHeld => ?_)
  case s6_63 => ((try dsimp only) <;> (first | exact ⟨kd.cell0 t0, kd.cell0 c1, kd.cell0 c3⟩))
  clear hK K
  (try simp only [Act.put, List.getElem_toArray, List.getElem_cons_zero, List.getElem_cons_succ, List.setIfInBounds_toArray, List.set_cons_zero, List.set_cons_succ])
  refine wpAnyH_take (i := 5) (v := ?v6_64) rfl (by kernel_rfl) (by kernel_rfl) (by kernel_rfl) (fun _ _ _ h => h) (Or.inl ⟨by rfl, ?y6_64⟩) (by assumption) ?r6_64
  case y6_64 => (intro w hSw; (try dsimp only at hSw); go_simp; try with_reducible rfl)
  (try simp only [Act.put, List.getElem_toArray, List.getElem_cons_zero, List.getElem_cons_succ, List.setIfInBounds_toArray, List.set_cons_zero, List.set_cons_succ])
  refine wpAnyH_take (i := 6) (v := ?v6_65) rfl (by kernel_rfl) (by kernel_rfl) (by kernel_rfl) (fun _ _ _ h => h) (Or.inl ⟨by rfl, ?y6_65⟩) (by assumption) ?r6_65
  case y6_65 => (intro w hSw; (try dsimp only at hSw); go_simp; try with_reducible rfl)
  (try simp only [Act.put, List.getElem_toArray, List.getElem_cons_zero, List.getElem_cons_succ, List.setIfInBounds_toArray, List.set_cons_zero, List.set_cons_succ])
  refine wpAnyH_take (i := 7) (v := ?v6_66) rfl (by kernel_rfl) (by kernel_rfl) (by kernel_rfl) (fun _ _ _ h => h) (Or.inl ⟨by rfl, ?y6_66⟩) (by assumption) ?r6_66
  case y6_66 => (intro w hSw; (try dsimp only at hSw); go_simp; try with_reducible rfl)
  (try simp only [Act.put, List.getElem_toArray, List.getElem_cons_zero, List.getElem_cons_succ, List.setIfInBounds_toArray, List.set_cons_zero, List.set_cons_succ])
  refine wpAnyH_take (i := 8) (v := ?v6_67) rfl (by kernel_rfl) (by kernel_rfl) (by kernel_rfl) (fun _ _ _ h => h) (Or.inl ⟨by rfl, ?y6_67⟩) (by assumption) ?r6_67
  case y6_67 => (intro w hSw; (try dsimp only at hSw); go_simp; try with_reducible rfl)
  (try simp only [Act.put, List.getElem_toArray, List.getElem_cons_zero, List.getElem_cons_succ, List.setIfInBounds_toArray, List.set_cons_zero, List.set_cons_succ])
  refine wpAnyH_take (i := 9) (v := ?v6_68) rfl (by kernel_rfl) (by kernel_rfl) (by kernel_rfl) (fun _ _ _ h => h) (Or.inl ⟨by rfl, ?y6_68⟩) (by assumption) ?r6_68
  case y6_68 => (intro w hSw; (try dsimp only at hSw); go_simp; try with_reducible rfl)
  (try simp only [Act.put, List.getElem_toArray, List.getElem_cons_zero, List.getElem_cons_succ, List.setIfInBounds_toArray, List.set_cons_zero, List.set_cons_succ])
  refine wpAnyH_take (i := 10) (v := ?v6_69) rfl (by kernel_rfl) (by kernel_rfl) (by kernel_rfl) (fun _ _ _ h => h) (Or.inl ⟨by rfl, ?y6_69⟩) (by assumption) ?r6_69
  case y6_69 => (intro w hSw; (try dsimp only at hSw); go_simp; try with_reducible rfl)
  (try simp only [Act.put, List.getElem_toArray, List.getElem_cons_zero, List.getElem_cons_succ, List.setIfInBounds_toArray, List.set_cons_zero, List.set_cons_succ])
  refine wpAnyH_take (i := 11) (v := ?v6_70) rfl (by kernel_rfl) (by kernel_rfl) (by kernel_rfl) (fun _ _ _ h => h) (Or.inl ⟨by rfl, ?y6_70⟩) (by assumption) ?r6_70
  case y6_70 => (intro w hSw; (try dsimp only at hSw); go_simp; try with_reducible rfl)
  (try simp only [Act.put, List.getElem_toArray, List.getElem_cons_zero, List.getElem_cons_succ, List.setIfInBounds_toArray, List.set_cons_zero, List.set_cons_succ])
  refine wpAnyH_take (i := 12) (v := ?v6_71) rfl (by kernel_rfl) (by kernel_rfl) (by kernel_rfl) (fun _ _ _ h => h) (Or.inl ⟨by rfl, ?y6_71⟩) (by assumption) ?r6_71
  case y6_71 => (intro w hSw; (try dsimp only at hSw); go_simp; try with_reducible rfl)
  (try simp only [Act.put, List.getElem_toArray, List.getElem_cons_zero, List.getElem_cons_succ, List.setIfInBounds_toArray, List.set_cons_zero, List.set_cons_succ])
  refine wpAnyH_take (i := 13) (v := ?v6_72) rfl (by kernel_rfl) (by kernel_rfl) (by kernel_rfl) (fun _ _ _ h => h) (Or.inl ⟨by rfl, ?y6_72⟩) (by assumption) ?r6_72
  case y6_72 => (intro w hSw; (try dsimp only at hSw); go_simp; try with_reducible rfl)
  (try simp only [Act.put, List.getElem_toArray, List.getElem_cons_zero, List.getElem_cons_succ, List.setIfInBounds_toArray, List.set_cons_zero, List.set_cons_succ])
  refine wpAnyH_take (i := 15) (v := ?v6_73) rfl (by kernel_rfl) (by kernel_rfl) (by kernel_rfl) (fun _ _ _ h => h) (Or.inl ⟨by rfl, ?y6_73⟩) (by assumption) ?r6_73
  case y6_73 => (intro w hSw; (try dsimp only at hSw); go_simp; try with_reducible rfl)
  (try simp only [Act.put, List.getElem_toArray, List.getElem_cons_zero, List.getElem_cons_succ, List.setIfInBounds_toArray, List.set_cons_zero, List.set_cons_succ])
  refine wpAnyH_take (i := 16) (v := ?v6_74) rfl (by kernel_rfl) (by kernel_rfl) (by kernel_rfl) (fun _ _ _ h => h) (Or.inl ⟨by rfl, ?y6_74⟩) (by assumption) ?r6_74
  case y6_74 => (intro w hSw; (try dsimp only at hSw); go_simp; try with_reducible rfl)
  (try simp only [Act.put, List.getElem_toArray, List.getElem_cons_zero, List.getElem_cons_succ, List.setIfInBounds_toArray, List.set_cons_zero, List.set_cons_succ])
  refine wpAnyH_take (i := 17) (v := ?v6_75) rfl (by kernel_rfl) (by kernel_rfl) (by kernel_rfl) (fun _ _ _ h => h) (Or.inl ⟨by rfl, ?y6_75⟩) (by assumption) ?r6_75
  case y6_75 => (intro w hSw; (try dsimp only at hSw); go_simp; try with_reducible rfl)
  (try simp only [Act.put, List.getElem_toArray, List.getElem_cons_zero, List.getElem_cons_succ, List.setIfInBounds_toArray, List.set_cons_zero, List.set_cons_succ])
  refine wpAnyH_take (i := 18) (v := ?v6_76) rfl (by kernel_rfl) (by kernel_rfl) (by kernel_rfl) (fun _ _ _ h => h) (Or.inl ⟨by rfl, ?y6_76⟩) (by assumption) ?r6_76
  case y6_76 => (intro w hSw; (try dsimp only at hSw); go_simp; try with_reducible rfl)
  (try simp only [Act.put, List.getElem_toArray, List.getElem_cons_zero, List.getElem_cons_succ, List.setIfInBounds_toArray, List.set_cons_zero, List.set_cons_succ])
  refine wpAnyH_take (i := 19) (v := ?v6_77) rfl (by kernel_rfl) (by kernel_rfl) (by kernel_rfl) (fun _ _ _ h => h) (Or.inl ⟨by rfl, ?y6_77⟩) (by assumption) ?r6_77
  case y6_77 => (intro w hSw; (try dsimp only at hSw); go_simp; try with_reducible rfl)
  (try simp only [Act.put, List.getElem_toArray, List.getElem_cons_zero, List.getElem_cons_succ, List.setIfInBounds_toArray, List.set_cons_zero, List.set_cons_succ])
  refine wpAnyH_ready (rs := [14]) (by kernel_rfl) (by simp) ?_
  refine AllReadyH.cons rfl (fun K hK => ?_) AllReadyH.nil
  go_simp
  refine (HC.out _).mono ?_
  rintro e w' ⟨rfl, rfl⟩
  go_wp2_with fail
  refine hK.out _ _ ?s6_78 (fun hHeld => ?_)
  case s6_78 => ((try dsimp only) <;> (first | exact ⟨kd.cell0 t0, kd.cell0 c1, kd.cell0 c3⟩))
  clear hK K
  (try simp only [Act.put, List.getElem_toArray, List.getElem_cons_zero, List.getElem_cons_succ, List.setIfInBounds_toArray, List.set_cons_zero, List.set_cons_succ])
  refine wpAnyH_take (i := 20) (v := ?v6_79) rfl (by kernel_rfl) (by kernel_rfl) (by kernel_rfl) (fun _ _ _ h => h) (Or.inl ⟨by rfl, ?y6_79⟩) (by assumption) ?r6_79
  case y6_79 => (intro w hSw; (try dsimp only at hSw); go_simp; try with_reducible rfl)
  (try simp only [Act.put, List.getElem_toArray, List.getElem_cons_zero, List.getElem_cons_succ, List.setIfInBounds_toArray, List.set_cons_zero, List.set_cons_succ])
  refine wpAnyH_take (i := 21) (v := ?v6_80) rfl (by kernel_rfl) (by kernel_rfl) (by kernel_rfl) (fun _ _ _ h => h) (Or.inl ⟨by rfl, ?y6_80⟩) (by assumption) ?r6_80
  case y6_80 => (intro w hSw; (try dsimp only at hSw); go_simp; try with_reducible rfl)
  (try simp only [Act.put, List.getElem_toArray, List.getElem_cons_zero, List.getElem_cons_succ, List.setIfInBounds_toArray, List.set_cons_zero, List.set_cons_succ])
  refine wpAnyH_done (by kernel_rfl) ?_ _
  refine NoPanic.normal ?_
  have t1 := kd.cell0 t0
  have hO := donce_calls (d := d) (v := v) (HB.out.keeps kd (by simp)) (HM.out.keepsNil kd) Hn.out Hf.out (by
    rcases Ho.out with h | ⟨h1, h2, h3⟩
    · exact .inl h
    · exact .inr ⟨h1, h2, h3.keepsNil kd⟩) t1 hne
  have HO := Lib.hid hO
  have Hkd := Lib.hid kd
  clear t0 c1 c3 hO kd
  go_wp2_with fail
  refine HO.out.mono ?_
  rintro e w2 ⟨v2, rfl, hb2, hP2, k2⟩
  have hpw1 : p < w1.heap.size := by have := Hkd.out.size; have := HsA.out; omega
  have t2 : w2.cell? ⟨w.heap.size, 0, none⟩ = some (P0 p) := (World.cell?_of_block (a := ⟨w.heap.size, 0, none⟩) (k2.block w.heap.size (by have := Hkd.out.size; have := HsA.out; omega) (by simpa using hne))).trans t1
  have c1 := hb2.cell' (i := 1) rfl
  have c9 := hb2.cell' (i := 9) rfl
  have HR2 := Lib.hid hP2.rdl
  have HP2 := Lib.hid hP2
  obtain ⟨av, bv, rfl, _⟩ := hP2.rdl
  rw [hdl] at HR2 HP2 c9 hb2
  have HB2 := Lib.hid hb2
  have hbv : (nK : Int) ≤ (bv : Int) := by
    obtain ⟨_, _, e, h1, _⟩ := HR2.out
    simp only [Value.slice.injEq] at e
    have := e.2.2
    omega
  have hJ := fun (w' : World) (k : Keeps [] w2 w') => bjoin_calls ((HR2.out.keepsNil k).take nK (by rw [hdl]; omega)) len hl1 hl (fun x hx => Hd.out x (List.mem_of_mem_take hx)) Hj.out (by rw [List.length_take]; omega)
  have HJ := Lib.hid hJ
  have HK2 := Lib.hid k2
  clear t1 hP2 hb2 hJ k2
  generalize hLj : joinF len ((dats M (nK + P)).take nK) = J at *
  go_wp2_with fail
  refine wp_region_noPanic ?_
  refine wp_region_held_drew (S := (fun w' => w'.cell? ⟨w.heap.size, 0, none⟩ = some (P0 p) ∧ w'.cell? ⟨p, 1, none⟩ = some (.int .i64 nK) ∧ w'.cell? ⟨p, 9, none⟩ = some (.slice av (nK + P) bv))) (by kernel_rfl) ⟨t2, c1, c9⟩ (fun hHeld => ?_)
  have kd : Keeps [] w2 w2.drew := (Keeps.refl [] w2).drew
  have HJ2 := Lib.hid (HJ.out _ kd)
  refine wpAnyH_take (i := 0) (v := ?v7_81) rfl (by kernel_rfl) (by kernel_rfl) (by kernel_rfl) (fun _ _ _ h => h) (Or.inl ⟨by rfl, ?y7_81⟩) (by assumption) ?r7_81
  case y7_81 => (intro w hSw; (try dsimp only at hSw); go_simp; try with_reducible rfl)
  (try simp only [Act.put, List.getElem_toArray, List.getElem_cons_zero, List.getElem_cons_succ, List.setIfInBounds_toArray, List.set_cons_zero, List.set_cons_succ])
  refine wpAnyH_take (i := 1) (v := ?v7_82) rfl (by kernel_rfl) (by kernel_rfl) (by kernel_rfl) (fun _ _ _ h => h) (Or.inl ⟨by rfl, ?y7_82⟩) (by assumption) ?r7_82
  case y7_82 => (intro w hSw; (try dsimp only at hSw); go_simp; try with_reducible rfl)
  (try simp only [Act.put, List.getElem_toArray, List.getElem_cons_zero, List.getElem_cons_succ, List.setIfInBounds_toArray, List.set_cons_zero, List.set_cons_succ])
  refine wpAnyH_take (i := 2) (v := ?v7_83) rfl (by kernel_rfl) (by kernel_rfl) (by kernel_rfl) (fun _ _ _ h => h) (Or.inl ⟨by rfl, ?y7_83⟩) (by assumption) ?r7_83
  case y7_83 => (intro w hSw; (try dsimp only at hSw); go_simp; try with_reducible rfl)
  (try simp only [Act.put, List.getElem_toArray, List.getElem_cons_zero, List.getElem_cons_succ, List.setIfInBounds_toArray, List.set_cons_zero, List.set_cons_succ])
  refine wpAnyH_take (i := 3) (v := ?v7_84) rfl (by kernel_rfl) (by kernel_rfl) (by kernel_rfl) (fun _ _ _ h => h) (Or.inl ⟨by rfl, ?y7_84⟩) (by assumption) ?r7_84
  case y7_84 => (intro w hSw; (try dsimp only at hSw); go_simp; try with_reducible rfl)
  (try simp only [Act.put, List.getElem_toArray, List.getElem_cons_zero, List.getElem_cons_succ, List.setIfInBounds_toArray, List.set_cons_zero, List.set_cons_succ])
  refine wpAnyH_take (i := 4) (v := ?v7_85) rfl (by kernel_rfl) (by kernel_rfl) (by kernel_rfl) (fun _ _ _ h => h) (Or.inl ⟨by rfl, ?y7_85⟩) (by assumption) ?r7_85
  case y7_85 => (intro w hSw; (try dsimp only at hSw); go_simp; try with_reducible rfl)
  (try simp only [Act.put, List.getElem_toArray, List.getElem_cons_zero, List.getElem_cons_succ, List.setIfInBounds_toArray, List.set_cons_zero, List.set_cons_succ])
  refine wpAnyH_take (i := 5) (v := ?v7_86) rfl (by kernel_rfl) (by kernel_rfl) (by kernel_rfl) (fun _ _ _ h => h) (Or.inl ⟨by rfl, ?y7_86⟩) (by assumption) ?r7_86
  case y7_86 => (intro w hSw; (try dsimp only at hSw); go_simp; try with_reducible rfl)
  (try simp only [Act.put, List.getElem_toArray, List.getElem_cons_zero, List.getElem_cons_succ, List.setIfInBounds_toArray, List.set_cons_zero, List.set_cons_succ])
  refine wpAnyH_take (i := 6) (v := ?v7_87) rfl (by kernel_rfl) (by kernel_rfl) (by kernel_rfl) (fun _ _ _ h => h) (Or.inl ⟨by rfl, ?y7_87⟩) (by assumption) ?r7_87
  case y7_87 => (intro w hSw; (try dsimp only at hSw); go_simp; try with_reducible rfl)
  (try simp only [Act.put, List.getElem_toArray, List.getElem_cons_zero, List.getElem_cons_succ, List.setIfInBounds_toArray, List.set_cons_zero, List.set_cons_succ])
  refine wpAnyH_take (i := 7) (v := ?v7_88) rfl (by kernel_rfl) (by kernel_rfl) (by kernel_rfl) (fun _ _ _ h => h) (Or.inl ⟨by rfl, ?y7_88⟩) (by assumption) ?r7_88
  case y7_88 => (intro w hSw; (try dsimp only at hSw); go_simp; try with_reducible rfl)
  (try simp only [Act.put, List.getElem_toArray, List.getElem_cons_zero, List.getElem_cons_succ, List.setIfInBounds_toArray, List.set_cons_zero, List.set_cons_succ])
  refine wpAnyH_take (i := 8) (v := ?v7_89) rfl (by kernel_rfl) (by kernel_rfl) (by kernel_rfl) (fun _ _ _ h => h) (Or.inl ⟨by rfl, ?y7_89⟩) (by assumption) ?r7_89
  case y7_89 => (intro w hSw; (try dsimp only at hSw); go_simp; try with_reducible rfl)
  (try simp only [Act.put, List.getElem_toArray, List.getElem_cons_zero, List.getElem_cons_succ, List.setIfInBounds_toArray, List.set_cons_zero, List.set_cons_succ])
  refine wpAnyH_take (i := 9) (v := ?v7_90) rfl (by kernel_rfl) (by kernel_rfl) (by kernel_rfl) (fun _ _ _ h => h) (Or.inl ⟨by rfl, ?y7_90⟩) (by assumption) ?r7_90
  case y7_90 => (intro w hSw; (try dsimp only at hSw); go_simp; try with_reducible rfl)
  (try simp only [Act.put, List.getElem_toArray, List.getElem_cons_zero, List.getElem_cons_succ, List.setIfInBounds_toArray, List.set_cons_zero, List.set_cons_succ])
  refine wpAnyH_take (i := 10) (v := ?v7_91) rfl (by kernel_rfl) (by kernel_rfl) (by kernel_rfl) (fun _ _ _ h => h) (Or.inl ⟨by rfl, ?y7_91⟩) (by assumption) ?r7_91
  case y7_91 => (intro w hSw; (try dsimp only at hSw); go_simp; try with_reducible rfl)
  (try simp only [Act.put, List.getElem_toArray, List.getElem_cons_zero, List.getElem_cons_succ, List.setIfInBounds_toArray, List.set_cons_zero, List.set_cons_succ])
  refine wpAnyH_ready (rs := [11]) (by kernel_rfl) (by simp) ?_
  refine AllReadyH.cons rfl (fun K hK => ?_) AllReadyH.nil
  go_simp
  refine HJ2.out.mono ?_
  rintro e w3 ⟨v3, rfl, hO3, k3⟩
  replace kd := kd.trans k3
  have HO3 := Lib.hid hO3
  have Hkd2 := Lib.hid kd
  obtain ⟨a3, b3, rfl, _⟩ := hO3.rds
  clear hO3 k3
  go_wp2_with fail
  refine hK.out _ _ ?s7_92 (fun hHeld => ?_)
  case s7_92 => ((try dsimp only) <;> (first | exact ⟨kd.cell0 t2, kd.cell0 c1, kd.cell0 c9⟩))
  clear hK K
  (try simp only [Act.put, List.getElem_toArray, List.getElem_cons_zero, List.getElem_cons_succ, List.setIfInBounds_toArray, List.set_cons_zero, List.set_cons_succ])
  refine wpAnyH_take (i := 12) (v := ?v7_93) rfl (by kernel_rfl) (by kernel_rfl) (by kernel_rfl) (fun _ _ _ h => h) (Or.inl ⟨by rfl, ?y7_93⟩) (by assumption) ?r7_93
  case y7_93 => (intro w hSw; (try dsimp only at hSw); go_simp; try with_reducible rfl)
  (try simp only [Act.put, List.getElem_toArray, List.getElem_cons_zero, List.getElem_cons_succ, List.setIfInBounds_toArray, List.set_cons_zero, List.set_cons_succ])
  refine wpAnyH_take (i := 13) (v := ?v7_94) rfl (by kernel_rfl) (by kernel_rfl) (by kernel_rfl) (fun _ _ _ h => h) (Or.inl ⟨by rfl, ?y7_94⟩) (by assumption) ?r7_94
  case y7_94 => (intro w hSw; (try dsimp only at hSw); go_simp; try with_reducible rfl)
  (try simp only [Act.put, List.getElem_toArray, List.getElem_cons_zero, List.getElem_cons_succ, List.setIfInBounds_toArray, List.set_cons_zero, List.set_cons_succ])
  refine wpAnyH_done (by kernel_rfl) ?_ _
  refine NoPanic.normal ?_
  clear t2 c1 c9 kd
  go_wp2_with fail
  go_ret2
  have hs1 : w.heap.size ≤ w2.heap.size := by have := Hkd.out.size; have := HK2.out.size; have := HsA.out; omega
  have kT : Keeps [p] w w3 := ((kA.trans Hkd.out).trans' HK2.out (T := [p]) (by simp) (fun x hx => .inl hx)).trans' Hkd2.out (fun x hx => .inl hx) (by simp)
  have hM3 := ((HM.out.keepsNil Hkd.out).keeps HK2.out (fun x hx => by simp only [List.mem_singleton] at hx; subst hx; exact Hn.out)).keepsNil Hkd2.out
  refine ⟨_, rfl, Own.mono HO3.out hs1, ⟨pm, Fm, 1, _, HB2.out.keeps Hkd2.out (by simp), hM3, He.out, Hfl.out, Hn.out, .inr ⟨rfl, Hf.out, HP2.out.keepsNil Hkd2.out⟩⟩, kT⟩

end Go.Proofs.YtijhaeapoapgfaaGreatDoor

set_option linter.unusedVariables false
set_option linter.unusedSimpArgs false
namespace Go.Proofs.YtijhaeapoapgfaaGreatDoor
open Go.RowKit

theorem mAdd_cases {n z : Nat} {M : Mtx} (h : Ech n z M) {r : Rw} (hr : r.x < 2 ^ n) (hd : r.d.length = z) :
    ((red M r).x = 0 ∧ mAdd n M r = M) ∨ ((red M r).x ≠ 0 ∧ ∃ a, a < n ∧ M.at a = none ∧ mAdd n M r = madd M a (red M r)) := by
  by_cases e : (red M r).x = 0
  · exact .inl ⟨e, mAdd_same e⟩
  · obtain ⟨h1, h2⟩ := red_len h hr hd
    obtain ⟨a, ha, hf, hb1, hb2⟩ := firstB_some h1 e
    refine .inr ⟨e, a, ha, ?_, ?_⟩
    · cases hq : M.at a with
      | none => rfl
      | some p => rw [red_clear h r hq] at hb1; cases hb1
    · unfold mAdd; rw [if_neg e, hf, Int.toNat_natCast]
theorem mAdd_rank0 {n : Nat} {M : Mtx} {r : Rw} (e : (red M r).x = 0) : rank (mAdd n M r) = rank M := by rw [mAdd_same e]
theorem mAdd_rank1 {n z : Nat} {M : Mtx} (h : Ech n z M) {r : Rw} (hr : r.x < 2 ^ n) (hd : r.d.length = z) (e : (red M r).x ≠ 0) : rank (mAdd n M r) = rank M + 1 := by
  rcases mAdd_cases h hr hd with ⟨h0, _⟩ | ⟨_, a, ha, hn, he⟩
  · exact absurd h0 e
  · rw [he]; exact madd_rank (by rw [h.l]; exact ha) hn
theorem red_in {M : Mtx} {r : Rw} : (red M r).x = 0 ↔ inS M r.x := by rw [red_x]; exact Iff.rfl

/-- All that was said is said, and the row. -/
theorem mAdd_in {n z : Nat} {M : Mtx} (h : Ech n z M) {r : Rw} (hr : r.x < 2 ^ n) (hd : r.d.length = z) : (∀ x, inS M x → inS (mAdd n M r) x) ∧ inS (mAdd n M r) r.x := by
  have hE := mAdd_ech h hr hd
  rcases mAdd_cases h hr hd with ⟨h0, e⟩ | ⟨h0, a, ha, hn, e⟩
  · rw [e]; exact ⟨fun _ hx => hx, red_in.1 h0⟩
  · rw [e] at hE ⊢
    obtain ⟨h1, h2⟩ := madd_in h hE ha hn
    refine ⟨h2, ?_⟩
    have h3 := rdx_off (M := M) (T := inS (madd M a (red M r))) (inS_zero _) (fun _ _ => inS_xor) (fun i q hq => h2 _ (row_in h hq)) r.x M.length
    rw [← red_x] at h3
    have h4 := inS_xor h3 h1
    rwa [Nat.xor_assoc, Nat.xor_self, Nat.xor_zero] at h4
/-- Nothing more is said. -/
theorem mAdd_sub {n z : Nat} {M : Mtx} (h : Ech n z M) {r : Rw} (hr : r.x < 2 ^ n) (hd : r.d.length = z) {T : Nat → Prop} (h0 : T 0) (hx : ∀ a b, T a → T b → T (a ^^^ b)) (hM : ∀ x, inS M x → T x) (hT : T r.x) : ∀ x, inS (mAdd n M r) x → T x := by
  rcases mAdd_cases h hr hd with ⟨_, e⟩ | ⟨_, a, ha, hn, e⟩
  · rw [e]; exact hM
  · rw [e]
    intro x hs
    have hl := h.l
    have hrow : ∀ i q, M.at i = some q → T q.x := fun i q hq => hM _ (row_in h hq)
    have hq : T (red M r).x := by
      have h3 := rdx_off (M := M) (T := T) h0 hx hrow r.x M.length
      rw [← red_x] at h3
      have h4 := hx _ _ h3 hT
      rwa [Nat.xor_comm r.x, Nat.xor_assoc, Nat.xor_self, Nat.xor_zero] at h4
    refine inS_sub h0 hx (fun i q he => ?_) hs
    have hi := Mtx.at_lt he
    rw [madd_len] at hi
    rw [madd_at M a _ hi (by omega)] at he
    by_cases ei : i = a
    · rw [if_pos ei] at he
      obtain rfl := Option.some.inj he
      exact hq
    · rw [if_neg ei] at he
      cases e2 : M.at i with
      | none => rw [e2] at he; cases he
      | some p =>
        rw [e2] at he
        simp only at he
        split at he
        · obtain rfl := Option.some.inj he
          exact hx _ _ (hrow i p e2) hq
        · obtain rfl := Option.some.inj he
          exact hrow i p e2
theorem mAdd_snd {n z : Nat} {A : List (List UInt8)} {M : Mtx} (hA : ∀ x ∈ A, x.length = z) (h : Ech n z M) (hs : Snd12 z A M) {r : Rw} (hr : r.x < 2 ^ n) (hd : r.d = dotP z A r.x) : Snd12 z A (mAdd n M r) := by
  rcases mAdd_cases h hr (by rw [hd]; exact dotP_len hA _) with ⟨_, e⟩ | ⟨_, a, ha, hn, e⟩
  · rw [e]; exact hs
  · rw [e]
    refine madd_snd hA hs ?_ (by rw [h.l]; exact ha)
    exact redK_snd hA hs hd _

/-- The same is said. -/
def Same (M M' : Mtx) : Prop := ∀ x, inS M x ↔ inS M' x
theorem Same.refl (M : Mtx) : Same M M := fun _ => Iff.rfl
theorem Same.symm {M M' : Mtx} (h : Same M M') : Same M' M := fun x => (h x).symm
theorem Same.rank {n z z' : Nat} {M M' : Mtx} (hs : Same M M') (h : Ech n z M) (h' : Ech n z' M') : rank M = rank M' := by
  refine rank_congr (by rw [h.l, h'.l]) (fun i => ?_)
  cases e : M.at i with
  | some q =>
    obtain ⟨q', hq'⟩ := pivots_same h h' (fun x hx => (hs x).1 hx) e
    rw [hq']; rfl
  | none =>
    cases e' : M'.at i with
    | none => rfl
    | some q' =>
      obtain ⟨q, hq⟩ := pivots_same h' h (fun x hx => (hs x).2 hx) e'
      rw [hq] at e; cases e
theorem Same.says {M M' : Mtx} (hs : Same M M') {r r' : Rw} (e : r.x = r'.x) : decide ((red M r).x ≠ 0) = decide ((red M' r').x ≠ 0) := by
  have : (red M r).x = 0 ↔ (red M' r').x = 0 := by rw [red_in, red_in, e]; exact hs _
  by_cases h : (red M r).x = 0
  · have h' := this.1 h; simp [h, h']
  · have h' : ¬ (red M' r').x = 0 := fun h2 => h (this.2 h2)
    simp [h, h']
theorem Same.mAdd {n z z' : Nat} {M M' : Mtx} (hs : Same M M') (h : Ech n z M) (h' : Ech n z' M') {r r' : Rw} (e : r.x = r'.x) (hr : r.x < 2 ^ n) (hd : r.d.length = z) (hd' : r'.d.length = z') : Same (mAdd n M r) (mAdd n M' r') := by
  obtain ⟨a1, a2⟩ := mAdd_in h hr hd
  have hr' : r'.x < 2 ^ n := by rw [← e]; exact hr
  obtain ⟨b1, b2⟩ := mAdd_in h' hr' hd'
  exact fun x => ⟨mAdd_sub h hr hd (T := inS (_root_.Go.Proofs.YtijhaeapoapgfaaGreatDoor.mAdd n M' r')) (inS_zero _) (fun _ _ => inS_xor) (fun y hy => b1 y ((hs y).1 hy)) (by rw [e]; exact b2) x,
    mAdd_sub h' hr' hd' (T := inS (_root_.Go.Proofs.YtijhaeapoapgfaaGreatDoor.mAdd n M r)) (inS_zero _) (fun _ _ => inS_xor) (fun y hy => a1 y ((hs y).2 hy)) (by rw [← e]; exact a2) x⟩
theorem Same.mnew (n : Nat) : Same (mnew n) (mnew n) := Same.refl _

/-- The row of parity, bit by bit. -/
theorem putL_one {n a i : Nat} (ha : a < n) : (putL n 0 [a]).testBit i = decide (i = a) := by
  rw [testBit_putL, Nat.zero_testBit, Bool.false_or]
  by_cases e : i = a
  · subst e; simp [ha]
  · simp [e]
theorem parX_high (s : UInt32) {K n j : Nat} (hj : K + j < n) : ∀ k i, k ≤ i → k ≤ K → (parX s K n j k).testBit i = decide (i = K + j)
  | 0, i, _, _ => putL_one hj
  | k + 1, i, h, hk => by
    show (putB (parX s K n j k) k (parB s j k)).testBit i = _
    rw [testBit_put, if_neg (by omega)]
    exact parX_high s hj k i (by omega) (by omega)
theorem parX_bits (s : UInt32) {K n j : Nat} (hj : K + j < n) (i : Nat) : (parX s K n j K).testBit i = if i < K then parB s j i else decide (i = K + j) := by
  by_cases h : i < K
  · rw [if_pos h]; exact parX_bit s K n j K i h (Nat.le_refl _)
  · rw [if_neg h]; exact parX_high s hj K i (by omega) (Nat.le_refl _)

/-- No bit from m on. -/
def Low (m : Nat) (x : Nat) : Prop := ∀ i, m ≤ i → x.testBit i = false
theorem Low.zero (m : Nat) : Low m 0 := fun i _ => Nat.zero_testBit i
theorem Low.xor {m a b : Nat} (ha : Low m a) (hb : Low m b) : Low m (a ^^^ b) := fun i hi => by rw [Nat.testBit_xor, ha i hi, hb i hi]; rfl
theorem mnew_in {n x : Nat} (h : inS (mnew n) x) : x = 0 := by
  have : ∀ k, rdx (mnew n) x k = x := by
    intro k
    induction k with
    | zero => rfl
    | succ k ih => unfold rdx; rw [mnew_at]; exact ih
  unfold inS at h
  rw [this] at h; exact h
theorem pmx_low (s : UInt32) (K P d : Nat) : ∀ k, k ≤ P → ∀ x, inS (pmx s K P d k) x → Low (K + k) x
  | 0, _, x, hx => by rw [mnew_in hx]; exact Low.zero _
  | k + 1, hk, x, hx => by
    refine mAdd_sub (pmx_ech s K P d k) (r := ⟨parX s K (K + P) k K, zer d⟩) (parX_lt s (by omega) K (Nat.le_refl _)) (zer_len d) (T := Low (K + (k + 1))) (Low.zero _) (fun _ _ => Low.xor) (fun y hy i hi => pmx_low s K P d k (by omega) y hy i (by omega)) (fun i hi => ?_) x hx
    show (parX s K (K + P) k K).testBit i = false
    rw [parX_bits s (by omega), if_neg (by omega)]
    simp; omega
theorem pmx_new (s : UInt32) (K P d : Nat) {k : Nat} (hk : k < P) : (red (pmx s K P d k) ⟨parX s K (K + P) k K, zer d⟩).x ≠ 0 := fun h => by
  have h1 := pmx_low s K P d k (by omega) _ (red_in.1 h) (K + k) (Nat.le_refl _)
  simp only at h1
  rw [parX_bits s (by omega), if_neg (by omega)] at h1
  simp at h1
theorem pmx_rank (s : UInt32) (K P d : Nat) : ∀ k, k ≤ P → rank (pmx s K P d k) = k
  | 0, _ => mnew_rank _
  | k + 1, hk => by
    show rank (mAdd (K + P) (pmx s K P d k) ⟨parX s K (K + P) k K, zer d⟩) = k + 1
    rw [mAdd_rank1 (pmx_ech s K P d k) (parX_lt s (by omega) K (Nat.le_refl _)) (zer_len d) (pmx_new s K P d (by omega)), pmx_rank s K P d k (by omega)]
theorem pmx_same (s : UInt32) (K P d d' : Nat) : ∀ k, Same (pmx s K P d k) (pmx s K P d' k)
  | 0 => Same.refl _
  | k + 1 => (pmx_same s K P d d' k).mAdd (pmx_ech s K P d k) (pmx_ech s K P d' k) rfl (parX_lt s (by omega) K (Nat.le_refl _)) (zer_len d) (zer_len d')
theorem pmx_in (s : UInt32) (K P d : Nat) : ∀ k j, j < k → inS (pmx s K P d k) (parX s K (K + P) j K)
  | 0, _, h => by omega
  | k + 1, j, h => by
    obtain ⟨a1, a2⟩ := mAdd_in (pmx_ech s K P d k) (r := ⟨parX s K (K + P) k K, zer d⟩) (parX_lt s (by omega) K (Nat.le_refl _)) (zer_len d)
    by_cases e : j = k
    · subst e; exact a2
    · exact a1 _ (pmx_in s K P d k j (by omega))

/-- A row of parity sums to nothing. -/
theorem psum_app {f : Nat → Bool} {z : Nat} {L B : List (List UInt8)} : ∀ k, k ≤ L.length → psum f z (L ++ B) k = psum f z L k
  | 0, _ => rfl
  | k + 1, hk => by
    unfold psum
    rw [psum_app k (by omega), getD_append_left' (by omega)]
theorem xorL_self {a : List UInt8} {z : Nat} (h : a.length = z) : xorL a a = zer z := by
  apply List.ext_getElem
  · simp [xorL, zer, h]
  · intro i h1 h2; simp [xorL, zer]
theorem psum_skip {f : Nat → Bool} {z : Nat} {A : List (List UInt8)} (a : Nat) : ∀ d, (∀ i, a ≤ i → i < a + d → f i = false) → psum f z A (a + d) = psum f z A a
  | 0, _ => rfl
  | d + 1, h => by
    show (if f (a + d) then _ else _) = _
    rw [h (a + d) (by omega) (by omega)]
    simp only [Bool.false_eq_true, if_false]
    exact psum_skip a d (fun i h1 h2 => h i h1 (by omega))
theorem dotP_par (s : UInt32) {z P j : Nat} {L : List (List UInt8)} (hL : ∀ x ∈ L, x.length = z) (hj : j < P) : dotP z (ball s z L P) (parX s L.length (L.length + P) j L.length) = zer z := by
  have hb := parX_bits s (K := L.length) (n := L.length + P) (j := j) (by omega)
  unfold dotP
  rw [ball_len]
  have hlen : L.length + P = (L.length + j + 1) + (P - j - 1) := by omega
  rw [show psum (parX s L.length (L.length + P) j L.length).testBit z (ball s z L P) (L.length + P) = psum (parX s L.length (L.length + P) j L.length).testBit z (ball s z L P) ((L.length + j + 1) + (P - j - 1)) from by rw [← hlen]]
  rw [psum_skip _ _ (fun i h1 h2 => by rw [hb, if_neg (by omega)]; simp; omega)]
  show (if (parX s L.length (L.length + P) j L.length).testBit (L.length + j) then xorL (psum _ z (ball s z L P) (L.length + j)) ((ball s z L P).getD (L.length + j) []) else _) = _
  have hbj : (parX s L.length (L.length + P) j L.length).testBit (L.length + j) = true := by rw [hb, if_neg (by omega)]; simp
  rw [hbj, if_pos rfl]
  rw [psum_skip _ _ (fun i h1 h2 => by rw [hb, if_neg (by omega)]; simp; omega)]
  have h1 : psum (parX s L.length (L.length + P) j L.length).testBit z (ball s z L P) L.length = psum (parB s j) z L L.length := by
    unfold ball
    rw [psum_app _ (Nat.le_refl _)]
    exact psum_congr _ (fun i hi => by rw [hb, if_pos hi])
  have h2 : (ball s z L P).getD (L.length + j) [] = psum (parB s j) z L L.length := by
    unfold ball
    rw [getD_append_right' (by omega), show L.length + j - L.length = j from by omega]
    simp [bpars, List.getD, hj]
  rw [h1, h2]
  exact xorL_self (psum_len hL _ (Nat.le_refl _))
theorem pmx_snd (s : UInt32) {z P : Nat} {L : List (List UInt8)} (hL : ∀ x ∈ L, x.length = z) : ∀ k, k ≤ P → Snd12 z (ball s z L P) (pmx s L.length P z k)
  | 0, _ => fun i q hq => by rw [show (pmx s L.length P z 0) = mnew (L.length + P) from rfl, mnew_at] at hq; cases hq
  | k + 1, hk => mAdd_snd (ball_each hL) (pmx_ech s L.length P z k) (pmx_snd s hL k (by omega)) (r := ⟨parX s L.length (L.length + P) k L.length, zer z⟩) (parX_lt s (by omega) _ (Nat.le_refl _)) (dotP_par s hL (by omega)).symm

/-- A symbol's data is the sum of its row's pieces. -/
theorem psum_fold (f : Nat → Bool) (z : Nat) (A : List (List UInt8)) : ∀ k, psum f z A k = (((List.range k).filter f).map fun i => A.getD i []).foldl xorL (zer z)
  | 0 => rfl
  | k + 1 => by
    rw [List.range_succ, List.filter_append, List.map_append, List.foldl_append, ← psum_fold f z A k]
    show (if f k then xorL (psum f z A k) (A.getD k []) else psum f z A k) = _
    generalize psum f z A k = u
    cases hf : f k <;> simp [hf]
theorem symb_dot (s : UInt32) {K P z : Nat} {img : List UInt8} (h1 : 1 ≤ K) (h2 : K + P ≤ 256) (id : UInt32) : symb s K P z img id = dotP z (pieces s K P z img) (rowN s K P id) := by
  unfold dotP symb bsum
  rw [psum_fold]
  have hl : (pieces s K P z img).length = K + P := by unfold pieces; rw [ball_len, bsplit_len]
  rw [hl]
  have := rowN_bits s K P id h1 h2
  unfold bitsOf at this
  rw [this]

/-- All units of the first K, and the rows of parity: all is said. -/
theorem low_in {n z : Nat} {M : Mtx} (h : Ech n z M) {K : Nat} (hu : ∀ i, i < K → inS M (2 ^ i)) : ∀ k, k ≤ K → ∀ y, y < 2 ^ k → inS M y
  | 0, _, y, hy => by obtain rfl : y = 0 := by simpa using hy
                      exact inS_zero M
  | k + 1, hk, y, hy => by
    by_cases hb : y.testBit k = true
    · have h1 : y ^^^ 2 ^ k < 2 ^ k := by
        apply lt_of_bits
        intro j hj
        rw [Nat.testBit_xor, Nat.testBit_two_pow]
        by_cases e : k = j
        · subst e; rw [hb]; simp
        · rw [bit_ge hy (by omega)]; simp [e]
      have h2 := inS_xor (low_in h hu k (by omega) _ h1) (hu k (by omega))
      rwa [Nat.xor_assoc, Nat.xor_self, Nat.xor_zero] at h2
    · have h1 : y < 2 ^ k := by
        apply lt_of_bits
        intro j hj
        by_cases e : j = k
        · subst e; simpa using hb
        · exact bit_ge hy (by omega)
      exact low_in h hu k (by omega) y h1
theorem enough (s : UInt32) {K P z : Nat} {M : Mtx} (h : Ech (K + P) z M) (hp : ∀ j, j < P → inS M (parX s K (K + P) j K)) (hu : ∀ i, i < K → inS M (2 ^ i)) : rank M = K + P := by
  refine full_of_units h (fun i hi => ?_)
  by_cases h1 : i < K
  · exact hu i h1
  · have hj := hp (i - K) (by omega)
    have h2 : parX s K (K + P) (i - K) K ^^^ 2 ^ i < 2 ^ K := by
      apply lt_of_bits
      intro j hj
      rw [Nat.testBit_xor, Nat.testBit_two_pow, parX_bits s (by omega), if_neg (by omega)]
      by_cases e : i = j
      · subst e; simp; omega
      · simp [e]; omega
    have h3 := inS_xor (low_in h hu K (Nat.le_refl _) _ h2) hj
    rwa [Nat.xor_comm (parX s K (K + P) (i - K) K), Nat.xor_assoc, Nat.xor_self, Nat.xor_zero] at h3
theorem rowN_unit (s : UInt32) {K P : Nat} {id : UInt32} (h : id.toNat < K) : rowN s K P id = 2 ^ id.toNat := by
  unfold rowN
  rw [rowL_first s K P id h]
  apply Nat.eq_of_testBit_eq
  intro i
  rw [putL_one (by omega), Nat.testBit_two_pow]
  by_cases e : i = id.toNat
  · simp [e]
  · have : ¬ id.toNat = i := fun h => e h.symm
    simp [e, this]

/-- Full: nothing says anything new. -/
theorem full_in {n z : Nat} {M : Mtx} (h : Ech n z M) (hf : rank M = n) {x : Nat} (hx : x < 2 ^ n) : inS M x := by
  have h1 := (red_len h (r := ⟨x, zer z⟩) hx (zer_len z)).1
  refine red_in (r := ⟨x, zer z⟩).1 ?_
  apply Nat.eq_of_testBit_eq
  intro i
  rw [Nat.zero_testBit]
  by_cases hi : i < n
  · obtain ⟨q, hq⟩ := full_at (by rw [hf, h.l]) (i := i) (by rw [h.l]; exact hi)
    exact red_clear h _ hq
  · exact bit_ge h1 (by omega)
/-- .. and what is told is the image. -/
theorem full_dats (s : UInt32) {K P z : Nat} {img : List UInt8} (hf : img.length ≤ K * z) {M : Mtx} (h : Ech (K + P) z M) (hs : Snd12 z (pieces s K P z img) M) (hr : rank M = K + P) : dats M (K + P) = pieces s K P z img := by
  have hA : ∀ x ∈ pieces s K P z img, x.length = z := ball_each (bsplit_each hf (Nat.le_refl _))
  have hl : (pieces s K P z img).length = K + P := by unfold pieces; rw [ball_len, bsplit_len]
  apply List.ext_getElem
  · rw [dats_len, hl]
  · intro i h1 h2
    rw [dats_len] at h1
    obtain ⟨q, hq⟩ := full_at (by rw [hr, h.l]) (i := i) (by rw [h.l]; exact h1)
    have h3 := full_tells hA hl h hs hr hq
    simp only [dats, List.getElem_map, List.getElem_range]
    unfold datOf
    rw [hq]
    simp only
    rw [h3, List.getD_eq_getElem?_getD, List.getElem?_eq_getElem h2, Option.getD_some]
theorem full_image (s : UInt32) {K P z : Nat} {img : List UInt8} (hf : img.length ≤ K * z) {M : Mtx} (h : Ech (K + P) z M) (hs : Snd12 z (pieces s K P z img) M) (hr : rank M = K + P) : joinF img.length ((dats M (K + P)).take K) = img := by
  rw [full_dats s hf h hs hr]
  have : (pieces s K P z img).take K = bsplit img K z K := by
    unfold pieces ball
    rw [List.take_append_of_le_length (by rw [bsplit_len]; exact Nat.le_refl _), List.take_of_length_le (by rw [bsplit_len]; exact Nat.le_refl _)]
  rw [this]
  exact join_all hf

end Go.Proofs.YtijhaeapoapgfaaGreatDoor

set_option linter.unusedVariables false
set_option linter.unusedSimpArgs false
namespace Go.Proofs.YtijhaeapoapgfaaGreatDoor
open Go.RowKit

/-- A symbol as a row. -/
def symR (s : UInt32) (nK P z : Nat) (img : List UInt8) (id : UInt32) : Rw := ⟨rowN s nK P id, symb s nK P z img id⟩

/-- A decoder's matrix that has heard symbols of an image. -/
structure Sd (s : UInt32) (nK P z : Nat) (img : List UInt8) (M : Mtx) : Prop where
  e : Ech (nK + P) z M
  d : Snd12 z (pieces s nK P z img) M
  p : ∀ j, j < P → inS M (parX s nK (nK + P) j nK)

theorem symR_lt (s : UInt32) (nK P z : Nat) (img : List UInt8) (id : UInt32) : (symR s nK P z img id).x < 2 ^ (nK + P) := rowN_lt s nK P id
theorem Fits.sym_len {nK P z : Nat} {img : List UInt8} (hF : Fits nK P z img) (s : UInt32) (id : UInt32) : (symb s nK P z img id).length = z := symb_len hF.k1 (by have := hF.k2; have := hF.p2; omega) hF.f
theorem Sd.start {nK P z : Nat} {img : List UInt8} (hF : Fits nK P z img) (s : UInt32) : Sd s nK P z img (pmx s nK P z P) := by
  refine ⟨pmx_ech s nK P z P, ?_, fun j hj => pmx_in s nK P z P j hj⟩
  have h := pmx_snd s (z := z) (P := P) (L := bsplit img nK z nK) (bsplit_each hF.f (Nat.le_refl _)) P (Nat.le_refl _)
  rw [bsplit_len] at h
  exact h
theorem Sd.hear {s : UInt32} {nK P z : Nat} {img : List UInt8} {M : Mtx} (hF : Fits nK P z img) (h : Sd s nK P z img M) (id : UInt32) : Sd s nK P z img (mAdd (nK + P) M (symR s nK P z img id)) := by
  have hA : ∀ x ∈ pieces s nK P z img, x.length = z := ball_each (bsplit_each hF.f (Nat.le_refl _))
  have hlt := symR_lt s nK P z img id
  have hl : (symR s nK P z img id).d.length = z := hF.sym_len s id
  have hd : (symR s nK P z img id).d = dotP z (pieces s nK P z img) (symR s nK P z img id).x := symb_dot s hF.k1 (by have := hF.k2; have := hF.p2; omega) id
  obtain ⟨a1, _⟩ := mAdd_in h.e hlt hl
  exact ⟨mAdd_ech h.e hlt hl, mAdd_snd hA h.e h.d hlt hd, fun j hj => a1 _ (h.p j hj)⟩
theorem Sd.image {s : UInt32} {nK P z : Nat} {img : List UInt8} {M : Mtx} (hF : Fits nK P z img) (h : Sd s nK P z img M) (hr : rank M = nK + P) : joinF img.length ((dats M (nK + P)).take nK) = img :=
  full_image s hF.f h.e h.d hr
theorem Sd.dats16 {s : UInt32} {nK P z : Nat} {img : List UInt8} {M : Mtx} (hF : Fits nK P z img) (h : Sd s nK P z img M) (hr : rank M = nK + P) : ∀ x ∈ dats M (nK + P), x.length ≤ 16 := by
  rw [full_dats s hF.f h.e h.d hr]
  intro x hx
  have := ball_each (bsplit_each hF.f (Nat.le_refl nK)) (s := s) (P := P) x hx
  have := hF.z2
  omega
theorem Sd.rank_le {s : UInt32} {nK P z : Nat} {img : List UInt8} {M : Mtx} (h : Sd s nK P z img M) : rank M ≤ nK + P := by
  have := _root_.Go.Proofs.YtijhaeapoapgfaaGreatDoor.rank_le M
  rw [h.e.l] at this
  exact this
theorem Sd.again {s : UInt32} {nK P z : Nat} {img : List UInt8} {M : Mtx} (hF : Fits nK P z img) (h : Sd s nK P z img M) (id : UInt32) (r : Rw) (hr : r.x = rowN s nK P id) : (red (mAdd (nK + P) M (symR s nK P z img id)) r).x = 0 := by
  rw [red_in, hr]
  exact (mAdd_in h.e (symR_lt s nK P z img id) (hF.sym_len s id)).2

/-- What is heard, one symbol behind another. -/
def hears (s : UInt32) (nK P z : Nat) (img : List UInt8) (M : Mtx) (l : List UInt32) : Mtx := l.foldl (fun M id => mAdd (nK + P) M (symR s nK P z img id)) M
theorem hears_snoc (s : UInt32) (nK P z : Nat) (img : List UInt8) (M : Mtx) (l : List UInt32) (id : UInt32) : hears s nK P z img M (l ++ [id]) = mAdd (nK + P) (hears s nK P z img M l) (symR s nK P z img id) := by unfold hears; rw [List.foldl_append]; rfl
theorem hears_app (s : UInt32) (nK P z : Nat) (img : List UInt8) (M : Mtx) (l l' : List UInt32) : hears s nK P z img M (l ++ l') = hears s nK P z img (hears s nK P z img M l) l' := by unfold hears; rw [List.foldl_append]
theorem Sd.hears {s : UInt32} {nK P z : Nat} {img : List UInt8} (hF : Fits nK P z img) : ∀ (l : List UInt32) {M : Mtx}, Sd s nK P z img M → Sd s nK P z img (hears s nK P z img M l)
  | [], _, h => h
  | id :: l, _, h => Sd.hears hF l (h.hear hF id)
theorem hears_in {s : UInt32} {nK P z : Nat} {img : List UInt8} (hF : Fits nK P z img) : ∀ (l : List UInt32) {M : Mtx}, Sd s nK P z img M → (∀ x, inS M x → inS (hears s nK P z img M l) x) ∧ ∀ id ∈ l, inS (hears s nK P z img M l) (rowN s nK P id)
  | [], _, h => ⟨fun _ hx => hx, fun id hi => by cases hi⟩
  | id :: l, M, h => by
    obtain ⟨b1, b2⟩ := hears_in hF l (h.hear hF id)
    obtain ⟨a1, a2⟩ := mAdd_in h.e (symR_lt s nK P z img id) (hF.sym_len s id)
    refine ⟨fun x hx => b1 x (a1 x hx), fun id' hi => ?_⟩
    rcases List.mem_cons.1 hi with rfl | hi
    · exact b1 _ a2
    · exact b2 id' hi
theorem hears_sub {s : UInt32} {nK P z : Nat} {img : List UInt8} (hF : Fits nK P z img) {T : Nat → Prop} (h0 : T 0) (hx : ∀ a b, T a → T b → T (a ^^^ b)) : ∀ (l : List UInt32) {M : Mtx}, Sd s nK P z img M → (∀ x, inS M x → T x) → (∀ id ∈ l, T (rowN s nK P id)) → ∀ x, inS (hears s nK P z img M l) x → T x
  | [], _, h, hM, _ => hM
  | id :: l, M, h, hM, hl => hears_sub hF h0 hx l (h.hear hF id) (mAdd_sub h.e (symR_lt s nK P z img id) (hF.sym_len s id) h0 hx hM (hl id (by simp))) (fun i hi => hl i (by simp [hi]))
theorem hears_same {s : UInt32} {nK P z : Nat} {img : List UInt8} (hF : Fits nK P z img) {M : Mtx} (h : Sd s nK P z img M) {l l' : List UInt32} (hm : ∀ id, id ∈ l ↔ id ∈ l') : Same (hears s nK P z img M l) (hears s nK P z img M l') := by
  obtain ⟨a1, a2⟩ := hears_in hF l h
  obtain ⟨b1, b2⟩ := hears_in hF l' h
  exact fun x => ⟨hears_sub hF (inS_zero _) (fun _ _ => inS_xor) l h b1 (fun id hi => b2 id ((hm id).1 hi)) x, hears_sub hF (inS_zero _) (fun _ _ => inS_xor) l' h a1 (fun id hi => a2 id ((hm id).2 hi)) x⟩
theorem hears_rank_le {s : UInt32} {nK P z : Nat} {img : List UInt8} (hF : Fits nK P z img) : ∀ (l : List UInt32) {M : Mtx}, Sd s nK P z img M → rank (hears s nK P z img M l) ≤ rank M + l.length
  | [], _, _ => Nat.le_refl _
  | id :: l, M, h => by
    have h1 := hears_rank_le hF l (h.hear hF id)
    have h2 : rank (mAdd (nK + P) M (symR s nK P z img id)) ≤ rank M + 1 := by
      by_cases e : (red M (symR s nK P z img id)).x = 0
      · rw [mAdd_rank0 e]; omega
      · rw [mAdd_rank1 h.e (symR_lt s nK P z img id) (hF.sym_len s id) e]; exact Nat.le_refl _
    show rank (hears s nK P z img (mAdd (nK + P) M (symR s nK P z img id)) l) ≤ rank M + (l.length + 1)
    omega
/-- If each symbol counts, each is new. -/
theorem hears_new {s : UInt32} {nK P z : Nat} {img : List UInt8} (hF : Fits nK P z img) {M : Mtx} (h : Sd s nK P z img M) (l : List UInt32) (id : UInt32) (l' : List UInt32) (hr : rank (hears s nK P z img M (l ++ id :: l')) = rank M + (l ++ id :: l').length) : (red (hears s nK P z img M l) (symR s nK P z img id)).x ≠ 0 ∧ rank (hears s nK P z img M l) = rank M + l.length := by
  have h1 := Sd.hears hF l h
  have h2 := hears_rank_le hF l h
  rw [hears_app] at hr
  have h3 := hears_rank_le hF l' (h1.hear hF id)
  have e : hears s nK P z img (hears s nK P z img M l) (id :: l') = hears s nK P z img (mAdd (nK + P) (hears s nK P z img M l) (symR s nK P z img id)) l' := rfl
  rw [e, List.length_append, List.length_cons] at hr
  refine ⟨fun h0 => ?_, ?_⟩
  · rw [mAdd_rank0 h0] at h3; omega
  · by_cases h0 : (red (hears s nK P z img M l) (symR s nK P z img id)).x = 0
    · rw [mAdd_rank0 h0] at h3; omega
    · rw [mAdd_rank1 h1.e (symR_lt s nK P z img id) (hF.sym_len s id) h0] at h3; omega
/-- The first K tell all. -/
theorem hears_full {s : UInt32} {nK P z : Nat} {img : List UInt8} (hF : Fits nK P z img) {M : Mtx} (h : Sd s nK P z img M) {l : List UInt32} (hl : ∀ i, i < nK → ∃ id ∈ l, id.toNat = i) : rank (hears s nK P z img M l) = nK + P := by
  obtain ⟨a1, a2⟩ := hears_in hF l h
  refine enough s (Sd.hears hF l h).e (fun j hj => a1 _ (h.p j hj)) (fun i hi => ?_)
  obtain ⟨id, hm, rfl⟩ := hl i hi
  have := a2 id hm
  rwa [rowN_unit s hi] at this

end Go.Proofs.YtijhaeapoapgfaaGreatDoor
