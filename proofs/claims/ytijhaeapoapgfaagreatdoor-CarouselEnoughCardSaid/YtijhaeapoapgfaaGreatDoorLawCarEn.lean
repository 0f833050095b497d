/-
  LawCarEn: CarouselEnough, walked.
-/
import Derived.Test.YtijhaeapoapgfaaGreatDoorLaw26a
import Derived.Test.YtijhaeapoapgfaaGreatDoorDeI
set_option linter.unusedVariables false
set_option linter.unusedSimpArgs false
namespace Go.Proofs.YtijhaeapoapgfaaGreatDoor
open Go.RowKit
attribute [local go_sem ↓] Go.wp_at_zero Go.wp_at_succ

theorem hears_stay {s : UInt32} {nK P z : Nat} {img : List UInt8} (hF : Fits nK P z img) : ∀ (l : List UInt32) {M : Mtx}, Sd s nK P z img M → rank M = nK + P → hears s nK P z img M l = M
  | [], _, _, _ => rfl
  | id :: l, M, h, hr => by
    have e : mAdd (nK + P) M (symR s nK P z img id) = M := mAdd_same (red_in.2 (full_in h.e hr (symR_lt s nK P z img id)))
    show hears s nK P z img (mAdd (nK + P) M (symR s nK P z img id)) l = M
    rw [e]
    exact hears_stay hF l h hr
theorem enuf_mono {s : UInt32} {nK P z : Nat} {img : List UInt8} (hF : Fits nK P z img) {l : List UInt32} (l' : List UInt32) (h : enuf s nK P z img l = true) : enuf s nK P z img (l ++ l') = true := by
  have h1 := of_decide_eq_true h
  have h2 := Sd.hears hF l (Sd.start hF s)
  unfold enuf
  rw [hears_app, hears_stay hF l' h2 h1]
  exact decide_eq_true h1
theorem enuf_few {s : UInt32} {nK P z : Nat} {img : List UInt8} (hF : Fits nK P z img) {l : List UInt32} (h : l.length < nK) : enuf s nK P z img l = false := by
  refine decide_eq_false (fun e => ?_)
  have h1 := hears_rank_le hF l (Sd.start hF s)
  rw [pmx_rank s nK P z P (Nat.le_refl _)] at h1
  omega
theorem enuf_all {s : UInt32} {nK P z : Nat} {img : List UInt8} (hF : Fits nK P z img) (l : List UInt32) : enuf s nK P z img (l ++ idsTo nK) = true := by
  refine decide_eq_true (hears_full hF (Sd.start hF s) (fun i hi => ⟨UInt32.ofNat i, ?_, u32_small (by have := hF.k2; omega)⟩))
  rw [List.mem_append]
  exact .inr (List.mem_map.2 ⟨i, List.mem_range.2 hi, rfl⟩)
theorem Car.ids {w W : World} {pc ph : Nat} {vk vh : Value} {key : List UInt8} {s v : UInt32} {n nK P z : Nat} {img : List UInt8} {Q : Nat → Prop} (h : Car w W pc ph vk vh key s v n nK P z img Q) {A : Option Addr} {l : List UInt32} (hI : IdsAt w A l) : IdsN W ph A l := fun i x hx => by
  obtain ⟨b, o, e, hc⟩ := hI i x hx
  have h1 := World.block_lt_of_cell? w _ hc
  have h2 := (h.q ph h.h.q).1
  exact ⟨b, o, e, fun hb => by subst hb; simp only at h1; omega, h.k.cell0 hc⟩
theorem idsTo_len (k : Nat) : (idsTo k).length = k := by simp [idsTo]

theorem fits_of5 {img : List UInt8} {P z : Nat} (h1 : 1 ≤ img.length) (h2 : img.length ≤ 512) (hz1 : (img.length + 63) / 64 ≤ z) (hz0 : 1 ≤ z) (hz2 : z ≤ 16) (hP : P ≤ 16) : Fits ((img.length + z - 1) / z) P z img := by
  have hz : 0 < z := by omega
  have hle : (img.length + z - 1) / z ≤ 64 := by
    rw [Nat.div_le_iff_le_mul hz]
    have : img.length ≤ 64 * z := by omega
    omega
  have hge : 1 ≤ (img.length + z - 1) / z := by rw [Nat.le_div_iff_mul_le hz]; omega
  have hfit : img.length ≤ (img.length + z - 1) / z * z := by
    have := Nat.div_add_mod (img.length + z - 1) z
    have hm := Nat.mod_lt (img.length + z - 1) hz
    rw [Nat.mul_comm] at this
    omega
  refine ⟨hge, hle, hP, hz0, hz2, by omega, ?_, hfit⟩
  unfold bcount
  rw [if_neg (by omega), if_pos hle]

set_option maxRecDepth 100000 in
set_option maxHeartbeats 3200000 in
theorem carouselEnough_walk {w : World} (ht : TzAt w) (a : Option Addr) (n c : Nat) (img : List UInt8) (hR : Rd w a img) (hn : img.length = n) (hnc : n ≤ c) (hcm : c ≤ maxLen) (h0 : a = none → img = [] ∧ c = 0) (size p : Int) (A : Option Addr) (cI : Nat) (ids : List UInt32) (hmc : ids.length ≤ cI) (hcI : cI ≤ maxLen) (hId : IdsAt w A ids) (hI0 : A = none → ids = [] ∧ cI = 0) :
    Calls Tryz.prog 3 #[.slice a n c, .int .i64 size, .int .i64 p, .slice A ids.length cI] w fun e w' => e = .returned (.bool true) ∧ Keeps [] w w' := by
  by_cases hb : n < 1 ∨ 300 < n ∨ 60 < ids.length
  · have HA := Lib.hid (awake26_calls ht)
    clear hR h0 hId hI0 ht
    rcases hb with hb | hb
    · have h1 : (n : Int) < 1 := by omega
      clear hb
      go_enter Tryz.func3, Tryz.ntmps3
      go_wp2_with fail
      refine HA.out.mono ?_
      rintro e w1 ⟨rfl, k1⟩
      go_wp2_with fail
      go_ret
      exact ⟨rfl, k1⟩
    · by_cases h1' : n < 1
      · have h1 : (n : Int) < 1 := by omega
        clear hb
        go_enter Tryz.func3, Tryz.ntmps3
        go_wp2_with fail
        refine HA.out.mono ?_
        rintro e w1 ⟨rfl, k1⟩
        go_wp2_with fail
        go_ret
        exact ⟨rfl, k1⟩
      · have h1 : (1 : Int) ≤ (n : Int) := by omega
        by_cases h2' : 300 < n
        · have h2 : (300 : Int) < (n : Int) := by omega
          clear hb h1' h2'
          go_enter Tryz.func3, Tryz.ntmps3
          go_wp2_with fail
          refine HA.out.mono ?_
          rintro e w1 ⟨rfl, k1⟩
          go_wp2_with fail
          go_ret
          exact ⟨rfl, k1⟩
        · have h2 : (n : Int) ≤ 300 := by omega
          have h3 : (60 : Int) < (ids.length : Int) := by omega
          clear hb h1' h2'
          go_enter Tryz.func3, Tryz.ntmps3
          go_wp2_with fail
          refine HA.out.mono ?_
          rintro e w1 ⟨rfl, k1⟩
          go_wp2_with fail
          go_ret
          exact ⟨rfl, k1⟩
  · have hn1 : 1 ≤ n := by omega
    have hn2 : n ≤ 300 := by omega
    have hm60 : ids.length ≤ 60 := by omega
    clear hb
    have t1 : (1 : Int) ≤ (n : Int) := by omega
    have t2 : (n : Int) ≤ 300 := by omega
    have t3 : (ids.length : Int) ≤ 60 := by omega
    obtain ⟨q, hq, eq1, eq2⟩ := umod size 16 (by omega) (by omega)
    obtain ⟨P, hP, eP1, eP2⟩ := umod p 17 (by omega) (by omega)
    obtain ⟨z, hz, hz1, hz2, hz3⟩ : ∃ z : Nat, max (1 + (q : Int)) (((n : Int) + 64 - 1) / 64) = (z : Int) ∧ 1 ≤ z ∧ z ≤ 16 ∧ (n + 63) / 64 ≤ z := ⟨max (1 + q) ((n + 63) / 64), by omega, by omega, by omega, by omega⟩
    have hF0 := fits_of5 (img := img) (P := P) (z := z) (by omega) (by omega) (by rw [hn]; exact hz3) hz1 hz2 (by omega)
    obtain ⟨nK, hnK, hKb⟩ : ∃ nK : Nat, nK = (img.length + z - 1) / z ∧ ((n : Int) + (z : Int) - 1) / (z : Int) = (nK : Int) := ⟨_, rfl, by rw [hn, show (n : Int) + (z : Int) - 1 = ((n + z - 1 : Nat) : Int) from by omega, Int.natCast_ediv]⟩
    rw [← hnK] at hF0
    have HF := Lib.hid hF0
    have kA : Keeps [] w (w.alloc (.cells #[.int .u8 107, .int .u8 101, .int .u8 121] 5 (3, 4))) := (Keeps.refl [] w).alloc _
    have hcv := lit_conv w #[.int .u8 107, .int .u8 101, .int .u8 121] 3 3
    have hk := lit_rd w #[.int .u8 107, .int .u8 101, .int .u8 121] (3, 4) keyM rfl
    have hi : RdS0 (w.alloc (.cells #[.int .u8 107, .int .u8 101, .int .u8 121] 5 (3, 4))) (.slice a n c) img := RdS0.keepsNil ⟨a, c, by rw [hn], by omega, by unfold maxLen at hcm; omega, hR, h0⟩ kA
    have hN : Calls Tryz.prog 8 #[.slice (some ⟨w.heap.size, 0, none⟩) 3 3, .int .u32 9, .int .u32 4, .slice a n c, .int .i64 z, .int .i64 P] (w.alloc (.cells #[.int .u8 107, .int .u8 101, .int .u8 121] 5 (3, 4))) (CarNew (w.alloc (.cells #[.int .u8 107, .int .u8 101, .int .u8 121] 5 (3, 4))) keyM 9 4 n nK P z img) :=
      carnew_calls (nk := 3) hk rfl (by omega) (by simp) 9 4 hi hn hF0
    have hEn : ∀ (W : World) (pc ph : Nat) (vk vh : Value) (Q : Nat → Prop) (A : Option Addr) (m c : Nat) (l : List UInt32), Car w W pc ph vk vh keyM 9 4 n nK P z img Q → IdsN W ph A l → l.length = m → m ≤ c → m ≤ 1000 → Calls Tryz.prog 9 #[P0 pc, .slice A m c] W (EnPost w W pc ph vk vh keyM 9 4 n nK P z img l) := fun W pc ph vk vh Q A m c l h hi h1 h2 h3 => caenough_calls h ht hi h1 h2 h3
    unfold EnPost at hEn
    have hAw : ∀ W, Keeps [] w W → Calls Tryz.prog 7 #[] W (fun e w' => e = .returned (.bool true) ∧ Keeps [] W w') := fun W k => awake26_calls (ht.keeps k (by simp))
    have HN := Lib.hid hN
    have HEn := Lib.hid hEn
    have HAw := Lib.hid hAw
    have HId := Lib.hid hId
    have HI0 := Lib.hid hI0
    have HkA := Lib.hid kA
    clear hN hEn hAw hId hI0 kA hk hi hR h0 ht hF0 hnK hn hz3 hnc hcm hcI
    go_enter Tryz.func3, Tryz.ntmps3
    go_wp2_with fail
    generalize w.alloc (.cells #[.int .u8 107, .int .u8 101, .int .u8 121] 5 (3, 4)) = w1 at *
    refine HN.out.mono ?_
    rintro e w2 ⟨pc, ph, vk, vh, Q, rfl, hC⟩
    have HC2 := Lib.hid (hC.base HkA.out)
    have HO := Lib.hid (OwnW.lit0 w2)
    have kO : Keeps [] w2 (w2.alloc (.cells #[] 30)) := (Keeps.refl [] w2).alloc _
    have HkO := Lib.hid kO
    have HIa := Lib.hid (HId.out.keepsNil (HC2.out.k.trans kO))
    have hlen1 : ([] : List Nat).length + ids.length ≤ 1000000 := by simp; omega
    have hb1 : w2.heap.size ≤ (w2.alloc (.cells #[] 30)).heap.size := by simp
    clear hC kO HN HkA hcv
    go_wp2_with (at_builtin; (refine wpList_append_ids rfl (.tmp 61) (.tmp 62) rfl HO.out rfl A cI ids rfl HIa.out HI0.out hlen1 hb1 ?_); intro v3 w3 g1 g2 g3; have k3 : Keeps [] w2 w3 := HkO.out.grown g2 (fun y hy => .inr (HO.out.block hy).1); rw [List.nil_append] at g1; have HO3 := Lib.hid g1; have HK3 := Lib.hid k3; clear g1 g2 g3 k3)
    have hzk := HF.out.k2
    have hsq3 := HK3.out.size
    go_loopw [12, 65] (fun v i wr => ∃ kk : Nat, kk ≤ nK ∧ i = .int .i64 kk ∧ OwnW wr w2.heap.size v ((ids ++ idsTo kk).map UInt32.toNat) ∧ Keeps [] w2 wr) (fun _ i _ => nK - (intOf i).toNat)
    case atStart => exact ⟨0, Nat.zero_le _, rfl, by have := HO3.out; simpa [idsTo] using this, HK3.out⟩
    case round =>
      clear HO3 HK3
      obtain ⟨kk, hk, rfl, hO, hK⟩ := hrel
      by_cases hlt : kk < nK
      · have hki : (kk : Int) < (nK : Int) := by omega
        have hyw : IntKind.u32.wrap (kk : Int) = (kk : Int) := by rw [IntKind.wrap_u32]; omega
        have hsn : (ids ++ idsTo (kk + 1)).map UInt32.toNat = (ids ++ idsTo kk).map UInt32.toNat ++ [kk] := by
          rw [idsTo_succ, ← List.append_assoc, List.map_append (l₂ := [UInt32.ofNat kk])]
          simp [u32_small (show kk ≤ 64 by omega)]
        have hll : ((ids ++ idsTo kk).map UInt32.toNat).length ≤ 1000000 := by simp [idsTo_len]; omega
        generalize (ids ++ idsTo kk).map UInt32.toNat = Lk at *
        have Hsn := Lib.hid hsn
        have kC : Keeps [] wr (wr.alloc (.cells #[.int .u32 kk] 30)) := (Keeps.refl [] wr).alloc _
        have HOc := Lib.hid (hO.keeps kC (by simp))
        have HKc := Lib.hid (hK.trans kC)
        have HX := Lib.hid (show (wr.alloc (.cells #[.int .u32 kk] 30)).cell? ⟨wr.heap.size, 0, none⟩ = some (V32 kk) from (Blk.newA wr 30 #[.int .u32 kk]).cell' rfl)
        have hB2 : w2.heap.size ≤ (wr.alloc (.cells #[.int .u32 kk] 30)).heap.size := by have := hK.size; simp; omega
        clear hO hK kC hsn
        go_wp2_with (at_builtin; (refine wpList_append_u32 rfl (.tmp 68) (.tmp 71) rfl HOc.out rfl kk _ 0 1 rfl HX.out hll hB2 ?_); intro v9 w9 g1 g2 g3; have HO9 := Lib.hid g1; have HK9 := Lib.hid (HKc.out.grown g2 (fun z hz => .inr (HOc.out.block hz).1)); clear g1 g2 g3)
        clear hyw
        go_roundw
        case rel => exact ⟨kk + 1, by omega, by go_num, by rw [Hsn.out]; exact HO9.out, HK9.out⟩
        case measure => simp [intOf]; omega
      · obtain rfl : nK = kk := by omega
        obtain ⟨wt, hwt⟩ : ∃ wt, wt = wr := ⟨_, rfl⟩
        subst hwt
        have HCt := Lib.hid (HC2.out.keepsNil hK)
        obtain ⟨La, hLa⟩ : ∃ La : List UInt32, La = ids ++ idsTo nK := ⟨_, rfl⟩
        have hLl : La.length = ids.length + nK := by rw [hLa, List.length_append, idsTo_len]
        have HEa := Lib.hid (show enuf 9 nK P z img La = true by rw [hLa]; exact enuf_all HF.out ids)
        have HEn0 := Lib.hid (show enuf 9 nK P z img [] = false from enuf_few HF.out (by have := HF.out.k1; simp; omega))
        rw [← hLa] at hO
        obtain ⟨av, cv, rfl, hcv1, _, hcells⟩ := hO.ints
        rw [List.length_map] at hcells hcv1 ⊢
        have HAl := Lib.hid (show IdsN wt ph av La from fun i x hx => by
          obtain ⟨hi, rfl⟩ := List.getElem?_eq_some_iff.1 hx
          obtain ⟨g, h1, h2, h3⟩ := hcells i hi
          have h4 := HC2.out.ph_lt
          refine ⟨g, 0, h1, by omega, ?_⟩
          rw [Nat.zero_add, h3, List.getD_eq_getElem?_getD, List.getElem?_map, List.getElem?_eq_getElem hi]; rfl)
        rw [hLl] at hcv1 ⊢
        have HL := Lib.hid hLl
        obtain ⟨m, hm⟩ : ∃ m, ids.length = m := ⟨_, rfl⟩
        have Hm := Lib.hid hm
        rw [hm] at hLl t3 hm60 hmc hcv1 HL ⊢
        have Hcv := Lib.hid hcv1
        have hk1 := HF.out.k1
        have k1i : (1 : Int) ≤ (nK : Int) := by omega
        clear hO hK hcells hLa hLl hcv1 hm hk HC2 HO HkO HIa hlen1 hb1 hsq3 hlt
        rcases Nat.eq_zero_or_pos m with hm0 | hm0
        · have e0 : ¬ ((0 : Int) < (m : Int)) := by omega
          have e1 : ¬ ((nK : Int) ≤ (m : Int)) := by omega
          have hfe : enuf 9 nK P z img ids = false := enuf_few HF.out (by rw [Hm.out]; omega)
          have Hfe := Lib.hid hfe
          clear hfe hm0
          have hE := HEn.out wt pc ph vk vh _ av (m + nK) cv La HCt.out HAl.out HL.out Hcv.out (by omega)
          rw [HEa.out] at hE
          have HE := Lib.hid hE
          clear hE
          go_wp2_with fail
          refine HE.out.mono ?_
          rintro e wxa ⟨rfl, kxa, Qxa, hCxa⟩
          have HKxa := Lib.hid kxa
          have HCxa := Lib.hid hCxa
          clear kxa hCxa HE
          have hE := HEn.out wxa pc ph vk vh _ none (0) 0 [] HCxa.out (IdsN.nil _ _ _) rfl (Nat.le_refl _) (by omega)
          rw [HEn0.out] at hE
          have HE := Lib.hid hE
          clear hE
          go_wp2_with fail
          refine HE.out.mono ?_
          rintro e wxb ⟨rfl, kxb, Qxb, hCxb⟩
          have HKxb := Lib.hid kxb
          have HCxb := Lib.hid hCxb
          clear kxb hCxb HE
          have hE := HEn.out wxb pc ph vk vh _ A (m) cI ids HCxb.out (HCxb.out.ids HId.out) Hm.out hmc (by omega)
          rw [Hfe.out] at hE
          have HE := Lib.hid hE
          clear hE
          go_wp2_with fail
          refine HE.out.mono ?_
          rintro e wxc ⟨rfl, kxc, Qxc, hCxc⟩
          have HKxc := Lib.hid kxc
          have HCxc := Lib.hid hCxc
          clear kxc hCxc HE
          have HA := Lib.hid (HAw.out wxc HCxc.out.k)
          go_wp2_with fail
          refine HA.out.mono ?_
          rintro e wz ⟨rfl, kz⟩
          go_wp2_with fail
          go_ret
          exact ⟨rfl, HCxc.out.k.trans kz⟩
        · obtain ⟨k, hk⟩ : ∃ k, m = k + 1 := ⟨m - 1, by omega⟩
          have e0 : (0 : Int) < (m : Int) := by omega
          have ek : (m : Int) - 1 = (k : Int) := by omega
          have ek1 : (k : Int) ≤ (cI : Int) := by omega
          have Htl := Lib.hid (show (ids.take k).length = k by rw [List.length_take, Hm.out]; omega)
          obtain ⟨few, hfew⟩ : ∃ few, enuf 9 nK P z img (ids.take k) = few := ⟨_, rfl⟩
          have Hfew := Lib.hid hfew
          have Hkm := Lib.hid hk
          clear hfew hk
          have hE := HEn.out wt pc ph vk vh _ A (k) cI (ids.take k) HCt.out ((HCt.out.ids HId.out).take k) Htl.out (by have := Hkm.out; omega) (by have := Hkm.out; omega)
          rw [Hfew.out] at hE
          have HE := Lib.hid hE
          clear hE
          cases few with
          | true =>
            have hfe : enuf 9 nK P z img ids = true := by
              have h := enuf_mono HF.out (ids.drop k) Hfew.out
              rwa [List.take_append_drop] at h
            have Hfe := Lib.hid hfe
            have e1 : (nK : Int) ≤ (m : Int) := by
              by_cases h : k < nK
              · have h2 := enuf_few (s := 9) HF.out (show (ids.take k).length < nK by rw [Htl.out]; exact h)
                rw [Hfew.out] at h2
                cases h2
              · have := Hkm.out; omega
            clear hfe
            go_wp2_with fail
            refine HE.out.mono ?_
            rintro e wya ⟨rfl, kya, Qya, hCya⟩
            have HKya := Lib.hid kya
            have HCya := Lib.hid hCya
            clear kya hCya HE
            have HAl2 := Lib.hid (HAl.out.keeps HKya.out)
            have hE := HEn.out wya pc ph vk vh _ av (m + nK) cv La HCya.out HAl2.out HL.out Hcv.out (by omega)
            rw [HEa.out] at hE
            have HE := Lib.hid hE
            clear hE
            go_wp2_with fail
            refine HE.out.mono ?_
            rintro e wy2a ⟨rfl, ky2a, Qy2a, hCy2a⟩
            have HKy2a := Lib.hid ky2a
            have HCy2a := Lib.hid hCy2a
            clear ky2a hCy2a HE
            have hE := HEn.out wy2a pc ph vk vh _ none (0) 0 [] HCy2a.out (IdsN.nil _ _ _) rfl (Nat.le_refl _) (by omega)
            rw [HEn0.out] at hE
            have HE := Lib.hid hE
            clear hE
            go_wp2_with fail
            refine HE.out.mono ?_
            rintro e wy2b ⟨rfl, ky2b, Qy2b, hCy2b⟩
            have HKy2b := Lib.hid ky2b
            have HCy2b := Lib.hid hCy2b
            clear ky2b hCy2b HE
            have hE := HEn.out wy2b pc ph vk vh _ A (m) cI ids HCy2b.out (HCy2b.out.ids HId.out) Hm.out hmc (by omega)
            rw [Hfe.out] at hE
            have HE := Lib.hid hE
            clear hE
            go_wp2_with fail
            refine HE.out.mono ?_
            rintro e wyc ⟨rfl, kyc, Qyc, hCyc⟩
            have HKyc := Lib.hid kyc
            have HCyc := Lib.hid hCyc
            clear kyc hCyc HE
            have HA := Lib.hid (HAw.out wyc HCyc.out.k)
            go_wp2_with fail
            refine HA.out.mono ?_
            rintro e wz ⟨rfl, kz⟩
            go_wp2_with fail
            go_ret
            exact ⟨rfl, HCyc.out.k.trans kz⟩
          | false =>
            by_cases hge : nK ≤ m
            · have e1 : (nK : Int) ≤ (m : Int) := by omega
              go_wp2_with fail
              refine HE.out.mono ?_
              rintro e wya ⟨rfl, kya, Qya, hCya⟩
              have HKya := Lib.hid kya
              have HCya := Lib.hid hCya
              clear kya hCya HE
              have HAl2 := Lib.hid (HAl.out.keeps HKya.out)
              have hE := HEn.out wya pc ph vk vh _ av (m + nK) cv La HCya.out HAl2.out HL.out Hcv.out (by omega)
              rw [HEa.out] at hE
              have HE := Lib.hid hE
              clear hE
              go_wp2_with fail
              refine HE.out.mono ?_
              rintro e wy2a ⟨rfl, ky2a, Qy2a, hCy2a⟩
              have HKy2a := Lib.hid ky2a
              have HCy2a := Lib.hid hCy2a
              clear ky2a hCy2a HE
              have hE := HEn.out wy2a pc ph vk vh _ none (0) 0 [] HCy2a.out (IdsN.nil _ _ _) rfl (Nat.le_refl _) (by omega)
              rw [HEn0.out] at hE
              have HE := Lib.hid hE
              clear hE
              go_wp2_with fail
              refine HE.out.mono ?_
              rintro e wy2b ⟨rfl, ky2b, Qy2b, hCy2b⟩
              have HKy2b := Lib.hid ky2b
              have HCy2b := Lib.hid hCy2b
              clear ky2b hCy2b HE
              have HA := Lib.hid (HAw.out wy2b HCy2b.out.k)
              go_wp2_with fail
              refine HA.out.mono ?_
              rintro e wz ⟨rfl, kz⟩
              go_wp2_with fail
              go_ret
              exact ⟨rfl, HCy2b.out.k.trans kz⟩
            · have e1 : ¬ ((nK : Int) ≤ (m : Int)) := by omega
              have hfe : enuf 9 nK P z img ids = false := enuf_few HF.out (by rw [Hm.out]; omega)
              have Hfe := Lib.hid hfe
              clear hfe
              go_wp2_with fail
              refine HE.out.mono ?_
              rintro e wya ⟨rfl, kya, Qya, hCya⟩
              have HKya := Lib.hid kya
              have HCya := Lib.hid hCya
              clear kya hCya HE
              have HAl2 := Lib.hid (HAl.out.keeps HKya.out)
              have hE := HEn.out wya pc ph vk vh _ av (m + nK) cv La HCya.out HAl2.out HL.out Hcv.out (by omega)
              rw [HEa.out] at hE
              have HE := Lib.hid hE
              clear hE
              go_wp2_with fail
              refine HE.out.mono ?_
              rintro e wy2a ⟨rfl, ky2a, Qy2a, hCy2a⟩
              have HKy2a := Lib.hid ky2a
              have HCy2a := Lib.hid hCy2a
              clear ky2a hCy2a HE
              have hE := HEn.out wy2a pc ph vk vh _ none (0) 0 [] HCy2a.out (IdsN.nil _ _ _) rfl (Nat.le_refl _) (by omega)
              rw [HEn0.out] at hE
              have HE := Lib.hid hE
              clear hE
              go_wp2_with fail
              refine HE.out.mono ?_
              rintro e wy2b ⟨rfl, ky2b, Qy2b, hCy2b⟩
              have HKy2b := Lib.hid ky2b
              have HCy2b := Lib.hid hCy2b
              clear ky2b hCy2b HE
              have hE := HEn.out wy2b pc ph vk vh _ A (m) cI ids HCy2b.out (HCy2b.out.ids HId.out) Hm.out hmc (by omega)
              rw [Hfe.out] at hE
              have HE := Lib.hid hE
              clear hE
              go_wp2_with fail
              refine HE.out.mono ?_
              rintro e wyc ⟨rfl, kyc, Qyc, hCyc⟩
              have HKyc := Lib.hid kyc
              have HCyc := Lib.hid hCyc
              clear kyc hCyc HE
              have HA := Lib.hid (HAw.out wyc HCyc.out.k)
              go_wp2_with fail
              refine HA.out.mono ?_
              rintro e wz ⟨rfl, kz⟩
              go_wp2_with fail
              go_ret
              exact ⟨rfl, HCyc.out.k.trans kz⟩

end Go.Proofs.YtijhaeapoapgfaaGreatDoor
