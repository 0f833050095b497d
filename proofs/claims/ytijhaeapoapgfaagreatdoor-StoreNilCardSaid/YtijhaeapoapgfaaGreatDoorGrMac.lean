/-
  GrMac: the texts Mac, Mac2, Mf, De1, one behind another.
-/
import Derived.Test.YtijhaeapoapgfaaGreatDoorGrHm
import Derived.Test.YtijhaeapoapgfaaGreatDoorGrPopT
import Derived.Deep.DeepCutAuto
import Derived.Deep.CutBlock
import Derived.Test.YtijhaeapoapgfaaGreatDoorGrRdZ
import Derived.Test.YtijhaeapoapgfaaGreatDoorGrCd2
import Derived.Deep.RegionHeld3
import Derived.Deep.DrawnRows
import Derived.Test.YtijhaeapoapgfaaGreatDoorGrEl2
set_option linter.unusedVariables false
set_option linter.unusedSimpArgs false
namespace Go.Proofs.YtijhaeapoapgfaaGreatDoor
open Go.RowKit
attribute [local go_sem ↓] Go.wp_at_zero Go.wp_at_succ

/-- A key's block. -/
def padK (key : List UInt8) : List UInt8 := key ++ zer (64 - key.length)
def maskB (key : List UInt8) (b : UInt8) : List UInt8 := (padK key).map (· ^^^ b)
def tagM (key b : List UInt8) : List UInt8 := sha (maskB key 92 ++ sha (maskB key 54 ++ b))
theorem padK_len {key : List UInt8} (h : key.length ≤ 64) : (padK key).length = 64 := by simp [padK, zer]; omega
theorem maskB_len {key : List UInt8} (h : key.length ≤ 64) (b : UInt8) : (maskB key b).length = 64 := by unfold maskB; rw [List.length_map, padK_len h]
theorem tagM_len (key b : List UInt8) : (tagM key b).length = 32 := sha_len _

/-- The first k bytes changed. -/
def mkTo (D : List UInt8) (b : UInt8) (k : Nat) : List UInt8 := (D.take k).map (· ^^^ b) ++ D.drop k
theorem mkTo_zero (D : List UInt8) (b : UInt8) : mkTo D b 0 = D := by simp [mkTo]
theorem mkTo_all (D : List UInt8) (b : UInt8) : mkTo D b D.length = D.map (· ^^^ b) := by simp [mkTo]
theorem mkTo_len (D : List UInt8) (b : UInt8) (k : Nat) : (mkTo D b k).length = D.length := by simp [mkTo]; omega
theorem mkTo_at {D : List UInt8} {b : UInt8} {k : Nat} (hk : k < D.length) : (mkTo D b k)[k]? = some D[k] := by
  unfold mkTo
  rw [List.getElem?_append_right (by simp; omega)]
  simp [hk, Nat.min_eq_left (Nat.le_of_lt hk)]
theorem mkTo_set {D : List UInt8} {b : UInt8} {k : Nat} (hk : k < D.length) : (mkTo D b k).set k (D[k] ^^^ b) = mkTo D b (k + 1) := by
  unfold mkTo
  have hl : ((D.take k).map (· ^^^ b)).length = k := by simp; omega
  rw [List.drop_eq_getElem_cons hk, List.set_append_right _ _ (by rw [hl]; exact Nat.le_refl _), hl, Nat.sub_self, List.set_cons_zero, List.take_add_one, List.getElem?_eq_getElem hk, Option.toList_some, List.map_append, List.append_assoc]
  rfl

theorem zeros_drop (N k : Nat) : (zeros N).toList.drop k = List.replicate (N - k) (B8 0) := by simp [zeros, B8]
theorem zer_map (m : Nat) : (zer m).map B8 = List.replicate m (B8 0) := by simp [zer]
def MaskPost (w : World) (key : List UInt8) (b : UInt8) (e : Ending) (w' : World) : Prop :=
  ∃ g, e = .returned (.slice (some ⟨g, 0, none⟩) 64 64) ∧ w.heap.size ≤ g ∧ Blk w' g 5 ((maskB key b).map B8) ∧ Keeps [] w w'

set_option maxRecDepth 100000 in
set_option maxHeartbeats 1600000 in
theorem masked_calls {w : World} {a : Option Addr} {n c : Nat} {key : List UInt8} (hk : Rd w a key) (hn : key.length = n) (h64 : n ≤ 64) (h0 : a = none → key = [] ∧ c = 0) (b : UInt8) :
    Calls Tryz.prog 144 #[.slice a n c, B8 b] w (MaskPost w key b) := by
  have hmk : ∀ w : World, (Instr.makeSlice 22 (.int .i64 64) (.int .i64 64)).run Tryz.prog w = .ok (.slice (some ⟨w.heap.size, 0, none⟩) 64 64) (w.alloc (.cells (zeros 64) 5)) := fun w => make_u8 64 64 (Nat.le_refl _) (by omega) w
  have hg := Blk.newA w 5 (zeros 64)
  have kA : Keeps [] w (w.alloc (.cells (zeros 64) 5)) := (Keeps.refl [] w).alloc _
  obtain ⟨W1, hcp, hb1, k1⟩ : ∃ W', (Builtin.copy_ #[22, 22] 3 #[.slice (some ⟨w.heap.size, 0, none⟩) 64 64, .slice a n c]).run Tryz.prog (w.alloc (.cells (zeros 64) 5)) = .ok (.int .i64 n) W' ∧ Blk W' w.heap.size 5 ((padK key).map B8) ∧ Keeps [w.heap.size] (w.alloc (.cells (zeros 64) 5)) W' := by
    cases a with
    | none =>
      obtain ⟨rfl, rfl⟩ := h0 rfl
      simp only [List.length_nil] at hn
      subst hn
      refine ⟨_, run_copy_nil (P := Tryz.prog) _ 22 22 3 5 _ 64 64 Tryz.underlying22 (by rw [Tryz.size_u8]; rfl), ?_, Keeps.refl _ _⟩
      have he : (padK []).map B8 = (zeros 64).toList := rfl
      rw [he]
      exact hg
    | some x =>
      obtain ⟨W', e1, e2, e3⟩ := copy_run (w := w.alloc (.cells (zeros 64) 5)) (g := w.heap.size) (o := 0) (dLen := 64) (dCap := 64) (x := x) (sLen := n) (sCap := c) hg key (by show key.length = min n 64; omega) ((hk.keepsNil kA).news) (by simp [zeros]; omega)
      refine ⟨W', by rw [e1, hn], ?_, e3⟩
      have he : (padK key).map B8 = (zeros 64).toList.take 0 ++ key.map B8 ++ (zeros 64).toList.drop (0 + key.length) := by
        unfold padK
        rw [List.map_append, List.take_zero, List.nil_append, Nat.zero_add]
        rw [zeros_drop, zer_map]
      rw [he]
      exact e2
  have hD := padK_len (key := key) (by omega)
  have hM : maskB key b = mkTo (padK key) b 64 := by rw [← hD, mkTo_all]; rfl
  have hkW : Keeps [] w W1 := kA.trans' k1 (by simp) (fun x hx => .inr (by simp only [List.mem_singleton] at hx; omega))
  have hni : (n : Int) ≤ 64 := by omega
  have HB := Lib.hid hb1
  have HD := Lib.hid hD
  have HM := Lib.hid hM
  have HK := Lib.hid hkW
  clear hk h0 hg kA hb1 k1 hkW hM hD
  unfold MaskPost
  generalize padK key = D at *
  obtain ⟨g, hgd⟩ : ∃ g, g = w.heap.size := ⟨_, rfl⟩
  go_enter Tryz.func144, Tryz.ntmps144
  go_wp2_with fail
  rw [← hgd] at HB ⊢
  have Hg := Lib.hid hgd
  clear hgd hcp
  go_loopw [18] (fun i wr => ∃ k : Nat, k ≤ 64 ∧ i = .int .i64 k ∧ Blk wr g 5 ((mkTo D b k).map B8) ∧ Keeps [] w wr) (fun i _ => 64 - (intOf i).toNat)
  case atStart => exact ⟨0, Nat.zero_le _, rfl, by rw [mkTo_zero]; exact HB.out, HK.out⟩
  case round =>
    clear HB HK
    obtain ⟨k, hk, rfl, hG, hK⟩ := hrel
    by_cases hlt : k < 64
    · have hkD : k < D.length := by rw [HD.out]; exact hlt
      have cg : wr.cell? ⟨g, k, none⟩ = some (B8 D[k]) := hG.cell' (by rw [List.getElem?_map, mkTo_at hkD]; rfl)
      have fr := hG.frozen k
      have hS := hG.set k (B8 (D[k] ^^^ b))
      rw [map_set8, mkTo_set hkD] at hS
      have hx8 := xor_byte D[k] b
      have HS := Lib.hid hS
      have HK2 := Lib.hid (hK.setCell (p := ⟨g, k, none⟩) (.inr (by rw [Hg.out]; exact Nat.le_refl _)) (B8 (D[k] ^^^ b)))
      have hki : (k : Int) < 64 := by omega
      clear hG hS hK
      generalize D[k] = x at *
      go_wp2_with fail
      go_roundw
      case rel => exact ⟨k + 1, by omega, by go_num, HS.out, HK2.out⟩
      case measure => simp [intOf]; omega
    · obtain rfl : k = 64 := by omega
      have HG := Lib.hid hG
      have HK := Lib.hid hK
      clear hG hK
      go_wp2_with fail
      go_ret
      exact ⟨g, rfl, by rw [Hg.out]; exact Nat.le_refl _, by rw [HM.out]; exact HG.out, HK.out⟩

set_option maxRecDepth 100000 in
set_option maxHeartbeats 1600000 in
theorem tag_calls {w : World} {a : Option Addr} {n c : Nat} {key : List UInt8} (hk : Rd w a key) (hn : key.length = n) (h64 : n ≤ 64) (h0 : a = none → key = [] ∧ c = 0) {v : Value} {b : List UInt8} (hb : RdS w v b) (hbl : b.length ≤ 1000) :
    Calls Tryz.prog 98 #[.slice a n c, v] w (ClonePost w (tagM key b)) := by
  have HM1 : Hid (Calls Tryz.prog 144 #[.slice a n c, .int .u8 92] w (MaskPost w key 92)) := Lib.hid (masked_calls hk hn h64 h0 92)
  have HM2 := fun (W : World) (k : Keeps [] w W) => (masked_calls (hk.keepsNil k) hn h64 h0 54 : Calls Tryz.prog 144 #[.slice a n c, .int .u8 54] W (MaskPost W key 54))
  have l1 := maskB_len (key := key) (by omega) 92
  have l2 := maskB_len (key := key) (by omega) 54
  have HM2' := Lib.hid HM2
  have HB := Lib.hid hb
  have htd : tagM key b = sha (maskB key 92 ++ sha (maskB key 54 ++ b)) := rfl
  unfold MaskPost at HM1 HM2'
  generalize tagM key b = T at *
  generalize maskB key 92 = K1 at *
  generalize maskB key 54 = K2 at *
  have L1 := Lib.hid l1
  have L2 := Lib.hid l2
  have HT := Lib.hid htd
  obtain ⟨ab, cb, rfl, _⟩ := id hb
  clear hk h0 HM2 hb l1 l2 htd
  go_enter Tryz.func98, Tryz.ntmps98
  go_wp2_with fail
  refine HM1.out.mono ?_
  rintro e w1 ⟨g1, rfl, hg1, hb1, k1⟩
  have HB1 := Lib.hid hb1
  have HK1 := Lib.hid k1
  clear hb1 k1 HM1
  go_wp2_with fail
  refine (HM2'.out _ HK1.out).mono ?_
  rintro e w2 ⟨g2, rfl, hg2, hb2, k2⟩
  have kB : Keeps [] w2 (w2.alloc (.cells #[.slice (some ⟨g2, 0, none⟩) 64 64, .slice ab b.length cb] 22)) := (Keeps.refl [] w2).alloc _
  have hR := drows_calls (RdL.two (Blk.newA w2 22 #[.slice (some ⟨g2, 0, none⟩) 64 64, .slice ab b.length cb]) (RdS.blk (hb2.keeps kB (by simp)) L2.out (by omega)) ((HB.out.keepsNil (HK1.out.trans k2)).keepsNil kB)) (by simp) (by simp [L2.out]; omega)
  have HR := Lib.hid hR
  have HB12 := Lib.hid ((HB1.out.keeps k2 (by simp)).keeps kB (by simp))
  have HK2 := Lib.hid ((HK1.out.trans k2).trans kB)
  clear hb2 k2 kB hR HM2' HB1
  go_wp2_with fail
  generalize w2.alloc (.cells #[.slice (some ⟨g2, 0, none⟩) 64 64, .slice ab b.length cb] 22) = wb at *
  refine HR.out.mono ?_
  rintro e w3 ⟨v3, rfl, hO3, k3⟩
  have hS3 := hO3.rds
  obtain ⟨a3, c3, rfl, _⟩ := id hS3
  have hl3 : (sha [K2, b].flatten).length = 32 := sha_len _
  rw [hl3]
  have kC : Keeps [] w3 (w3.alloc (.cells #[.slice (some ⟨g1, 0, none⟩) 64 64, .slice a3 32 c3] 22)) := (Keeps.refl [] w3).alloc _
  have hS3' := hS3.keepsNil kC
  rw [hl3] at hS3'
  have hR2 := drows_calls (RdL.two (Blk.newA w3 22 #[.slice (some ⟨g1, 0, none⟩) 64 64, .slice a3 32 c3]) (RdS.blk ((HB12.out.keeps k3 (by simp)).keeps kC (by simp)) L1.out (by omega)) hS3') (by simp) (by simp [L1.out, sha_len])
  have HR2 := Lib.hid hR2
  have HK3 := Lib.hid ((HK2.out.trans k3).trans kC)
  clear hO3 k3 hS3 hS3' kC hR2 HR hl3
  go_wp2_with fail
  generalize w3.alloc (.cells #[.slice (some ⟨g1, 0, none⟩) 64 64, .slice a3 32 c3] 22) = wc at *
  refine HR2.out.mono ?_
  rintro e w4 ⟨v4, rfl, hO4, k4⟩
  have hs := HK3.out.size
  have HO4 := Lib.hid hO4
  have HK4 := Lib.hid k4
  clear hO4 k4 HR2
  go_wp2_with fail
  go_ret
  have hO := HO4.out
  simp only [List.flatten_cons, List.flatten_nil, List.append_nil] at hO
  exact ⟨_, rfl, by rw [HT.out]; exact hO.mono hs, HK3.out.trans HK4.out⟩

end Go.Proofs.YtijhaeapoapgfaaGreatDoor

set_option linter.unusedVariables false
set_option linter.unusedSimpArgs false
namespace Go.Proofs.YtijhaeapoapgfaaGreatDoor
open Go.RowKit
attribute [local go_sem ↓] Go.wp_at_zero Go.wp_at_succ

theorem zeros_eq (N : Nat) : (zeros N).toList = (zer N).map B8 := by simp [zeros, zer, B8]
theorem padK_at (key : List UInt8) (k : Nat) : (padK key).getD k 0 = if k < key.length then key.getD k 0 else 0 := by
  unfold padK
  rw [List.getD_eq_getElem?_getD]
  by_cases h1 : k < key.length
  · rw [if_pos h1, List.getElem?_append_left h1, List.getD_eq_getElem?_getD]
  · rw [if_neg h1, List.getElem?_append_right (by omega)]
    unfold zer
    rw [List.getElem?_replicate]
    split <;> rfl
theorem maskB_at {key : List UInt8} {b : UInt8} {k : Nat} (h : key.length ≤ 64) (hk : k < 64) : (maskB key b).getD k 0 = (if k < key.length then key.getD k 0 else 0) ^^^ b := by
  have hl : k < (padK key).length := by rw [padK_len h]; exact hk
  rw [← padK_at]
  unfold maskB
  rw [List.getD_eq_getElem?_getD, List.getElem?_map, List.getD_eq_getElem?_getD, List.getElem?_eq_getElem hl]
  rfl

set_option maxRecDepth 100000 in
set_option maxHeartbeats 1600000 in
theorem rtag_calls {w : World} {a : Option Addr} {n c : Nat} {key : List UInt8} (hk : Rd w a key) (hn : key.length = n) (h64 : n ≤ 64) {v : Value} {b : List UInt8} (hb : RdS w v b) (hbl : b.length ≤ 1000) :
    Calls Tryz.prog 50 #[.slice a n c, v] w (ClonePost w (tagM key b)) := by
  have hmk : ∀ w : World, (Instr.makeSlice 22 (.int .i64 64) (.int .i64 64)).run Tryz.prog w = .ok (.slice (some ⟨w.heap.size, 0, none⟩) 64 64) (w.alloc (.cells (zeros 64) 5)) := fun w => make_u8 64 64 (Nat.le_refl _) (by omega) w
  have l1 := maskB_len (key := key) (by omega) 92
  have l2 := maskB_len (key := key) (by omega) 54
  have m1 : ∀ k, k < 64 → (maskB key 92).getD k 0 = (if k < n then key.getD k 0 else 0) ^^^ 92 := fun k hk => by rw [← hn]; exact maskB_at (by omega) hk
  have m2 : ∀ k, k < 64 → (maskB key 54).getD k 0 = (if k < n then key.getD k 0 else 0) ^^^ 54 := fun k hk => by rw [← hn]; exact maskB_at (by omega) hk
  have htd : tagM key b = sha (maskB key 92 ++ sha (maskB key 54 ++ b)) := rfl
  generalize tagM key b = T at *
  generalize maskB key 92 = K1 at *
  generalize maskB key 54 = K2 at *
  have L1 := Lib.hid l1
  have L2 := Lib.hid l2
  have M1 := Lib.hid m1
  have M2 := Lib.hid m2
  have HT := Lib.hid htd
  have HB := Lib.hid hb
  have HKy := Lib.hid hk
  have Hn := Lib.hid hn
  have hni : (n : Int) ≤ 64 := by omega
  obtain ⟨ab, cb, rfl, _⟩ := id hb
  clear hk hb l1 l2 htd m1 m2
  go_enter Tryz.func50, Tryz.ntmps50
  go_upto_region 3 with (fail)
  go_cut [5, 6] (fun s5 s6 wx => ∃ g h, s5 = .slice (some ⟨g, 0, none⟩) 64 64 ∧ s6 = .slice (some ⟨h, 0, none⟩) 64 64 ∧ g ≠ h ∧ w.heap.size ≤ g ∧ w.heap.size ≤ h ∧ Blk wx g 5 (zeros 64).toList ∧ Blk wx h 5 (zeros 64).toList ∧ Keeps [] w wx)
  case first =>
    go_region
    all_goals go_wp2_with fail
    all_goals go_meet
    all_goals
      have hz0 := Blk.newA w 5 (zeros 64)
      have hz1 := Blk.newA (w.alloc (.cells (zeros 64) 5)) 5 (zeros 64)
      have hs1 : (w.alloc (.cells (zeros 64) 5)).heap.size = w.heap.size + 1 := by simp
      rw [hs1] at hz1
      have hz0' := hz0.alloc (.cells (zeros 64) 5)
      have kk : Keeps [] w ((w.alloc (.cells (zeros 64) 5)).alloc (.cells (zeros 64) 5)) := ((Keeps.refl [] w).alloc _).alloc _
    · first
        | exact ⟨_, _, rfl, rfl, by omega, by omega, by omega, hz0', hz1, kk⟩
        | exact ⟨_, _, rfl, rfl, by omega, by omega, by omega, hz0'.drew, hz1.drew, kk.drew⟩
    · first
        | exact ⟨_, _, rfl, rfl, by omega, by omega, by omega, hz1, hz0', kk⟩
        | exact ⟨_, _, rfl, rfl, by omega, by omega, by omega, hz1.drew, hz0'.drew, kk.drew⟩
  case rest =>
  obtain ⟨g, h, rfl, rfl, hgh, hgw, hhw, hbg, hbh, kc⟩ := hcut
  rw [zeros_eq] at hbg hbh
  have hz1 : half K2 0 = zer 64 := by rw [half_zero, L2.out]
  have hz2 : half K1 0 = zer 64 := by rw [half_zero, L1.out]
  rw [← hz1] at hbg
  rw [← hz2] at hbh
  have HG := Lib.hid hbg
  have HH := Lib.hid hbh
  have HK := Lib.hid kc
  clear hz1 hz2 hbg hbh kc hmk
  go_wp2_with fail
  go_loopw [16] (fun i wr => ∃ k : Nat, k ≤ 64 ∧ i = .int .i64 k ∧ Blk wr g 5 ((half K2 k).map B8) ∧ Blk wr h 5 ((half K1 k).map B8) ∧ Keeps [] w wr) (fun i _ => 64 - (intOf i).toNat)
  case atStart => exact ⟨0, Nat.zero_le _, rfl, HG.out, HH.out, HK.out⟩
  case round =>
    clear HG HH HK
    obtain ⟨k, hk, rfl, hG, hH, hK⟩ := hrel
    by_cases hlt : k < 64
    · have e2 := M2.out k hlt
      have e1 := M1.out k hlt
      have s2 := half_set K2 (k := k) (by rw [L2.out]; exact hlt)
      have s1 := half_set K1 (k := k) (by rw [L1.out]; exact hlt)
      have fr2 := hG.frozen k
      have fr1 := hH.frozen k
      have hki : (k : Int) < 64 := by omega
      have cG : ∃ y, wr.cell? ⟨g, k, none⟩ = some y := ⟨_, hG.cell' (List.getElem?_eq_getElem (by rw [List.length_map, half_len _ (by rw [L2.out]; omega), L2.out]; exact hlt))⟩
      have cH : ∃ y, wr.cell? ⟨h, k, none⟩ = some y := ⟨_, hH.cell' (List.getElem?_eq_getElem (by rw [List.length_map, half_len _ (by rw [L1.out]; omega), L1.out]; exact hlt))⟩
      obtain ⟨yG, cG⟩ := cG
      obtain ⟨yH, cH⟩ := cH
      obtain ⟨x, hx⟩ : ∃ x : UInt8, x = if k < n then key.getD k 0 else 0 := ⟨_, rfl⟩
      rw [← hx] at e1 e2
      rw [e2] at s2
      rw [e1] at s1
      have hA := hG.set k (B8 (x ^^^ 54))
      rw [map_set8, s2] at hA
      have kA := (Keeps.refl [g] wr).setCell (p := ⟨g, k, none⟩) (.inl (by simp)) (B8 (x ^^^ 54))
      have hH' := hH.keeps kA (by simpa using fun e => hgh e.symm)
      have fr1' := hH'.frozen k
      have hBk := hH'.set k (B8 (x ^^^ 92))
      rw [map_set8, s1] at hBk
      have kB := (Keeps.refl [h] (wr.setCell ⟨g, k, none⟩ (B8 (x ^^^ 54)))).setCell (p := ⟨h, k, none⟩) (.inl (by simp)) (B8 (x ^^^ 92))
      have hA' := hA.keeps kB (by simpa using hgh)
      have hK2 := (hK.setCell (p := ⟨g, k, none⟩) (.inr hgw) (B8 (x ^^^ 54))).setCell (p := ⟨h, k, none⟩) (.inr hhw) (B8 (x ^^^ 92))
      have hx1 : bits .xor .u8 (x.toNat : Int) 54 = ((x ^^^ 54).toNat : Int) := xor_byte x 54
      have hx2 : bits .xor .u8 (x.toNat : Int) 92 = ((x ^^^ 92).toNat : Int) := xor_byte x 92
      have HA := Lib.hid hA'
      have HBk := Lib.hid hBk
      have HK2 := Lib.hid hK2
      by_cases hkn : k < n
      · rw [if_pos hkn] at hx
        obtain ⟨b0, o0, rfl, ck⟩ := (HKy.out.keepsNil hK) k (key[k]'(by rw [Hn.out]; exact hkn)) (List.getElem?_eq_getElem _)
        have hx' : key[k]'(by rw [Hn.out]; exact hkn) = x := by rw [hx, List.getD_eq_getElem?_getD, List.getElem?_eq_getElem (by rw [Hn.out]; exact hkn)]; rfl
        rw [hx'] at ck
        have hkni : (k : Int) < (n : Int) := by omega
        clear hG hH hK e1 e2 s1 s2 hA kA hH' hBk kB hA' hK2 hx hx'
        go_wp2_with fail
        go_roundw
        case rel => exact ⟨k + 1, by omega, by go_num, HA.out, HBk.out, HK2.out⟩
        case measure => simp [intOf]; omega
      · rw [if_neg hkn] at hx
        subst hx
        have hkni : ¬ (k : Int) < (n : Int) := by omega
        clear hG hH hK e1 e2 s1 s2 hA kA hH' hBk kB hA' hK2
        go_wp2_with fail
        go_roundw
        case rel => exact ⟨k + 1, by omega, by go_num, HA.out, HBk.out, HK2.out⟩
        case measure => simp [intOf]; omega
    · obtain rfl : k = 64 := by omega
      have hf2 : half K2 64 = K2 := by rw [← L2.out, half_all]
      have hf1 : half K1 64 = K1 := by rw [← L1.out, half_all]
      rw [hf2] at hG
      rw [hf1] at hH
      have kB : Keeps [] wr (wr.alloc (.cells #[.slice (some ⟨g, 0, none⟩) 64 64, .slice ab b.length cb] 22)) := (Keeps.refl [] wr).alloc _
      have HJ := Lib.hid (rjoin_calls (RdL.two (Blk.newA wr 22 #[.slice (some ⟨g, 0, none⟩) 64 64, .slice ab b.length cb]) (RdS.blk (hG.keeps kB (by simp)) L2.out (by omega)) ((HB.out.keepsNil hK).keepsNil kB)) (by simp) (by simp [L2.out]; omega))
      have HH := Lib.hid (hH.keeps kB (by simp))
      have HKb := Lib.hid (hK.trans kB)
      clear hG hH hK kB hf1 hf2
      go_wp2_with fail
      generalize wr.alloc (.cells #[.slice (some ⟨g, 0, none⟩) 64 64, .slice ab b.length cb] 22) = wb at *
      refine HJ.out.mono ?_
      rintro e w3 ⟨v3, rfl, hO3, k3⟩
      have hfl : [K2, b].flatten = K2 ++ b := by simp
      rw [hfl] at hO3
      have hl3 : (K2 ++ b).length = 64 + b.length := by rw [List.length_append, L2.out]
      obtain ⟨a3, c3, rfl, _, _, r3, r4, _⟩ := hO3.rds
      have HD := Lib.hid (rdigest_calls a3 (K2 ++ b).length c3 (K2 ++ b) r3 rfl (by omega) (fun h => ⟨by rw [(r4 h).1]; rfl, (r4 h).2⟩))
      have HH3 := Lib.hid (HH.out.keeps k3 (by simp))
      have HK3 := Lib.hid (HKb.out.trans k3)
      clear hO3 r3 r4 k3 HJ HH HKb hfl hl3
      generalize K2 ++ b = C at *
      go_wp2_with fail
      refine HD.out.mono ?_
      rintro e w4 ⟨v4, rfl, hO4, k4⟩
      have hS4 := hO4.rds
      obtain ⟨a4, c4, rfl, _⟩ := id hS4
      have hl4 : (sha C).length = 32 := sha_len _
      rw [hl4]
      have kC : Keeps [] w4 (w4.alloc (.cells #[.slice (some ⟨h, 0, none⟩) 64 64, .slice a4 32 c4] 22)) := (Keeps.refl [] w4).alloc _
      have hS4' := hS4.keepsNil kC
      rw [hl4] at hS4'
      have HJ2 := Lib.hid (rjoin_calls (RdL.two (Blk.newA w4 22 #[.slice (some ⟨h, 0, none⟩) 64 64, .slice a4 32 c4]) (RdS.blk ((HH3.out.keeps k4 (by simp)).keeps kC (by simp)) L1.out (by omega)) hS4') (by simp) (by simp [L1.out, sha_len]))
      have HK4 := Lib.hid ((HK3.out.trans k4).trans kC)
      clear hO4 hS4 hS4' k4 kC HH3 HK3 HD hl4
      go_wp2_with fail
      generalize w4.alloc (.cells #[.slice (some ⟨h, 0, none⟩) 64 64, .slice a4 32 c4] 22) = wc at *
      refine HJ2.out.mono ?_
      rintro e w5 ⟨v5, rfl, hO5, k5⟩
      have hfl : [K1, sha C].flatten = K1 ++ sha C := by simp
      rw [hfl] at hO5
      have hl5 : (K1 ++ sha C).length = 96 := by rw [List.length_append, L1.out, sha_len]
      obtain ⟨a5, c5, rfl, _, _, r5, r6, _⟩ := hO5.rds
      have HD2 := Lib.hid (rdigest_calls a5 (K1 ++ sha C).length c5 (K1 ++ sha C) r5 rfl (by omega) (fun h => ⟨by rw [(r6 h).1]; rfl, (r6 h).2⟩))
      have HK5 := Lib.hid (HK4.out.trans k5)
      clear hO5 r5 r6 k5 HJ2 HK4 hfl hl5
      generalize K1 ++ sha C = E at *
      go_wp2_with fail
      refine HD2.out.mono ?_
      rintro e w6 ⟨v6, rfl, hO6, k6⟩
      have HO6 := Lib.hid hO6
      have HK6 := Lib.hid k6
      clear hO6 k6 HD2
      go_wp2_with fail
      go_ret
      exact ⟨_, rfl, by rw [HT.out]; exact HO6.out.mono HK5.out.size, HK5.out.trans HK6.out⟩

end Go.Proofs.YtijhaeapoapgfaaGreatDoor

set_option linter.unusedVariables false
set_option linter.unusedSimpArgs false
namespace Go.Proofs.YtijhaeapoapgfaaGreatDoor
open Go.RowKit
attribute [local go_sem ↓] Go.wp_at_zero Go.wp_at_succ

/-- A manifest. -/
abbrev MfL (s v : UInt32) (n z P : Nat) (h : Value) : List Value := [B32 s, B32 v, .int .i64 n, .int .i64 z, .int .i64 P, h]
abbrev MfV (s v : UInt32) (n z P : Nat) (h : Value) : Value := .agg #[B32 s, B32 v, .int .i64 n, .int .i64 z, .int .i64 P, h]
/-- Numbers that may be. -/
structure MfOk (n z P nK : Nat) : Prop where
  n1 : 1 ≤ n
  n2 : n ≤ 512
  k1 : 1 ≤ nK
  k2 : nK ≤ 64
  p2 : P ≤ 16
  z1 : 1 ≤ z
  z2 : z ≤ 16
  c : bcount n z = nK
def OfPost (w : World) (s : UInt32) (nK P z : Nat) (e : Ending) (w' : World) : Prop := e = .returned (.tuple #[.agg #[B32 s, .int .i64 nK, .int .i64 P, .int .i64 z], .bool true]) ∧ Keeps [] w w'

set_option maxRecDepth 100000 in
set_option maxHeartbeats 1600000 in
theorem of_calls {w : World} (s v : UInt32) {n z P nK : Nat} (h : Value) (hm : MfOk n z P nK) :
    Calls Tryz.prog 31 #[MfV s v n z P h] w (OfPost w s nK P z) := by
  have hC := fun w => bcount_calls (w := w) n z hm.n2 hm.z1 hm.z2
  have hok : PmOk (nK : Int) (P : Int) (z : Int) = true := by have := hm.k1; have := hm.k2; have := hm.p2; have := hm.z1; have := hm.z2; simp [PmOk]; omega
  have hMy := fun w => may_calls (w := w) s nK P z
  simp only [hok] at hMy
  simp only [hm.c] at hC
  have HC := Lib.hid hC
  have HMy := Lib.hid hMy
  have hB0 := Blk.newA w 35 (MfL s v n z P h).toArray
  have hB := hB0.alloc (.cells #[.int .u32 0, .int .i64 0, .int .i64 0, .int .i64 0] 38)
  have hR := Blk.newA (w.alloc (.cells (MfL s v n z P h).toArray 35)) 38 #[.int .u32 0, .int .i64 0, .int .i64 0, .int .i64 0]
  rw [World.size_alloc] at hR
  have kA : Keeps [] w ((w.alloc (.cells (MfL s v n z P h).toArray 35)).alloc (.cells #[.int .u32 0, .int .i64 0, .int .i64 0, .int .i64 0] 38)) := ((Keeps.refl [] w).alloc _).alloc _
  have hsA : ((w.alloc (.cells (MfL s v n z P h).toArray 35)).alloc (.cells #[.int .u32 0, .int .i64 0, .int .i64 0, .int .i64 0] 38)).heap.size = w.heap.size + 1 + 1 := by simp
  clear hC hMy hok hm hB0
  go_enter Tryz.func31, Tryz.ntmps31
  go_upto_region 1 with (fail)
  generalize (w.alloc (.cells (MfL s v n z P h).toArray 35)).alloc (.cells #[.int .u32 0, .int .i64 0, .int .i64 0, .int .i64 0] 38) = w0 at *
  have c0 := hB.cell' (i := 0) rfl
  have c2 := hB.cell' (i := 2) rfl
  have c3 := hB.cell' (i := 3) rfl
  have c4 := hB.cell' (i := 4) rfl
  have HR := Lib.hid hR
  have HkA := Lib.hid kA
  clear hR hB kA
  go_cut [4] (fun s4 wx => ∃ q, s4 = .pointer (some ⟨q, 0, none⟩) ∧ w0.heap.size ≤ q ∧ Blk wx q 38 [B32 s, .int .i64 nK, .int .i64 P, .int .i64 z] ∧ Keeps [] w0 wx)
  case first =>
    have hal : Keeps [] w0 ((w0.alloc (.cells #[.int .u32 0, .int .i64 0, .int .i64 0, .int .i64 0] 38)).drew) := ((Keeps.refl [] w0).alloc _).drew
    have hW := (Blk.newA w0 38 #[B32 s, .int .i64 nK, .int .i64 P, .int .i64 z]).drew
    rw [hsA] at hW
    have kW : Keeps [] w0 ((w0.alloc (.cells #[B32 s, .int .i64 nK, .int .i64 P, .int .i64 z] 38)).drew) := ((Keeps.refl [] w0).alloc _).drew
    refine wp_region_noPanic ?_
    refine wp_region_held_drew (S := (fun w' => w'.cell? ⟨w.heap.size, 0, none⟩ = some (B32 s) ∧ w'.cell? ⟨w.heap.size, 2, none⟩ = some (.int .i64 n) ∧ w'.cell? ⟨w.heap.size, 3, none⟩ = some (.int .i64 z) ∧ w'.cell? ⟨w.heap.size, 4, none⟩ = some (.int .i64 P))) (by kernel_rfl) ⟨c0, c2, c3, c4⟩ (fun hHeld => ?_)
    refine wpAnyH_take (i := 0) (v := ?v1_1) rfl (by kernel_rfl) (by kernel_rfl) (by kernel_rfl) (fun _ _ _ h => h) (Or.inl ⟨by rfl, ?y1_1⟩) (by assumption) ?r1_1
    case y1_1 => (intro w hSw; (try dsimp only at hSw); go_simp; try with_reducible rfl)
    (try simp only [Act.put, List.getElem_toArray, List.getElem_cons_zero, List.getElem_cons_succ, List.setIfInBounds_toArray, List.set_cons_zero, List.set_cons_succ])
    refine wpAnyH_take (i := 1) (v := ?v1_2) rfl (by kernel_rfl) (by kernel_rfl) (by kernel_rfl) (fun _ _ _ h => h) (Or.inl ⟨by rfl, ?y1_2⟩) (by assumption) ?r1_2
    case y1_2 => (intro w hSw; (try dsimp only at hSw); go_simp; try with_reducible rfl)
    (try simp only [Act.put, List.getElem_toArray, List.getElem_cons_zero, List.getElem_cons_succ, List.setIfInBounds_toArray, List.set_cons_zero, List.set_cons_succ])
    refine wpAnyH_take (i := 2) (v := ?v1_3) rfl (by kernel_rfl) (by kernel_rfl) (by kernel_rfl) (fun _ _ _ h => h) (Or.inl ⟨by rfl, ?y1_3⟩) (by assumption) ?r1_3
    case y1_3 => (intro w hSw; (try dsimp only at hSw); go_simp; try with_reducible rfl)
    (try simp only [Act.put, List.getElem_toArray, List.getElem_cons_zero, List.getElem_cons_succ, List.setIfInBounds_toArray, List.set_cons_zero, List.set_cons_succ])
    refine wpAnyH_take (i := 3) (v := ?v1_4) rfl (by kernel_rfl) (by kernel_rfl) (by kernel_rfl) (fun _ _ _ h => h) (Or.inl ⟨by rfl, ?y1_4⟩) (by assumption) ?r1_4
    case y1_4 => (intro w hSw; (try dsimp only at hSw); go_simp; try with_reducible rfl)
    (try simp only [Act.put, List.getElem_toArray, List.getElem_cons_zero, List.getElem_cons_succ, List.setIfInBounds_toArray, List.set_cons_zero, List.set_cons_succ])
    refine wpAnyH_take (i := 4) (v := ?v1_5) rfl (by kernel_rfl) (by kernel_rfl) (by kernel_rfl) (fun _ _ _ h => h) (Or.inl ⟨by rfl, ?y1_5⟩) (by assumption) ?r1_5
    case y1_5 => (intro w hSw; (try dsimp only at hSw); go_simp; try with_reducible rfl)
    (try simp only [Act.put, List.getElem_toArray, List.getElem_cons_zero, List.getElem_cons_succ, List.setIfInBounds_toArray, List.set_cons_zero, List.set_cons_succ])
    refine wpAnyH_take (i := 5) (v := ?v1_6) rfl (by kernel_rfl) (by kernel_rfl) (by kernel_rfl) (fun _ _ _ h => h) (Or.inl ⟨by rfl, ?y1_6⟩) (by assumption) ?r1_6
    case y1_6 => (intro w hSw; (try dsimp only at hSw); go_simp; try with_reducible rfl)
    (try simp only [Act.put, List.getElem_toArray, List.getElem_cons_zero, List.getElem_cons_succ, List.setIfInBounds_toArray, List.set_cons_zero, List.set_cons_succ])
    refine wpAnyH_take (i := 7) (v := ?v1_7) rfl (by kernel_rfl) (by kernel_rfl) (by kernel_rfl) (fun _ _ _ h => h) (Or.inl ⟨by rfl, ?y1_7⟩) (by assumption) ?r1_7
    case y1_7 => (intro w hSw; (try dsimp only at hSw); go_simp; try with_reducible rfl)
    (try simp only [Act.put, List.getElem_toArray, List.getElem_cons_zero, List.getElem_cons_succ, List.setIfInBounds_toArray, List.set_cons_zero, List.set_cons_succ])
    refine wpAnyH_take (i := 8) (v := ?v1_8) rfl (by kernel_rfl) (by kernel_rfl) (by kernel_rfl) (fun _ _ _ h => h) (Or.inl ⟨by rfl, ?y1_8⟩) (by assumption) ?r1_8
    case y1_8 => (intro w hSw; (try dsimp only at hSw); go_simp; try with_reducible rfl)
    (try simp only [Act.put, List.getElem_toArray, List.getElem_cons_zero, List.getElem_cons_succ, List.setIfInBounds_toArray, List.set_cons_zero, List.set_cons_succ])
    refine wpAnyH_take (i := 9) (v := ?v1_9) rfl (by kernel_rfl) (by kernel_rfl) (by kernel_rfl) (fun _ _ _ h => h) (Or.inl ⟨by rfl, ?y1_9⟩) (by assumption) ?r1_9
    case y1_9 => (intro w hSw; (try dsimp only at hSw); go_simp; try with_reducible rfl)
    (try simp only [Act.put, List.getElem_toArray, List.getElem_cons_zero, List.getElem_cons_succ, List.setIfInBounds_toArray, List.set_cons_zero, List.set_cons_succ])
    refine wpAnyH_take (i := 10) (v := ?v1_10) rfl (by kernel_rfl) (by kernel_rfl) (by kernel_rfl) (fun _ _ _ h => h) (Or.inl ⟨by rfl, ?y1_10⟩) (by assumption) ?r1_10
    case y1_10 => (intro w hSw; (try dsimp only at hSw); go_simp; try with_reducible rfl)
    (try simp only [Act.put, List.getElem_toArray, List.getElem_cons_zero, List.getElem_cons_succ, List.setIfInBounds_toArray, List.set_cons_zero, List.set_cons_succ])
    refine wpAnyH_ready (rs := [6, 12]) (by kernel_rfl) (by simp) ?_
    refine AllReadyH.cons rfl (fun K hK => ?ba) (AllReadyH.cons rfl (fun K hK => ?bb) AllReadyH.nil)
    case ba =>
      go_simp
      refine (HC.out _).mono ?_
      rintro e w' ⟨rfl, rfl⟩
      go_wp2_with fail
      refine hK.out _ _ ?s1_11 (fun hHeld => ?_)
      case s1_11 => ((try dsimp only) <;> (first | exact ⟨c0, c2, c3, c4⟩))
      clear hK K
      (try simp only [Act.put, List.getElem_toArray, List.getElem_cons_zero, List.getElem_cons_succ, List.setIfInBounds_toArray, List.set_cons_zero, List.set_cons_succ])
      refine wpAnyH_take (i := 11) (v := ?v1_12) rfl (by kernel_rfl) (by kernel_rfl) (by kernel_rfl) (fun _ _ _ h => h) (Or.inl ⟨by rfl, ?y1_12⟩) (by assumption) ?r1_12
      case y1_12 => (intro w hSw; (try dsimp only at hSw); go_simp; try with_reducible rfl)
      (try simp only [Act.put, List.getElem_toArray, List.getElem_cons_zero, List.getElem_cons_succ, List.setIfInBounds_toArray, List.set_cons_zero, List.set_cons_succ])
      refine wpAnyH_ready (rs := [12]) (by kernel_rfl) (by simp) ?_
      refine AllReadyH.cons rfl (fun K hK => ?_) AllReadyH.nil
      go_simp
      refine hK.out _ _ ?s1_13 (fun hHeld => ?_)
      case s1_13 => ((try dsimp only) <;> (first | exact ⟨hal.cell0 c0, hal.cell0 c2, hal.cell0 c3, hal.cell0 c4⟩))
      clear hK K
      (try simp only [Act.put, List.getElem_toArray, List.getElem_cons_zero, List.getElem_cons_succ, List.setIfInBounds_toArray, List.set_cons_zero, List.set_cons_succ])
      refine wpAnyH_ready (rs := [13]) (by kernel_rfl) (by simp) ?_
      refine AllReadyH.cons rfl (fun K hK => ?_) AllReadyH.nil
      go_simp
      refine hK.out _ _ ?s1_14 (fun hHeld => ?_)
      case s1_14 => ((try dsimp only) <;> (first | exact ⟨kW.cell0 c0, kW.cell0 c2, kW.cell0 c3, kW.cell0 c4⟩))
      clear hK K
      (try simp only [Act.put, List.getElem_toArray, List.getElem_cons_zero, List.getElem_cons_succ, List.setIfInBounds_toArray, List.set_cons_zero, List.set_cons_succ])
      refine wpAnyH_done (by kernel_rfl) ?_ _
      refine NoPanic.normal ?_
      go_wp2_with fail
      go_meet
      exact ⟨_, rfl, by omega, hW, kW⟩
    case bb =>
      go_simp
      refine hK.out _ _ ?s1_15 (fun hHeld => ?_)
      case s1_15 => ((try dsimp only) <;> (first | exact ⟨hal.cell0 c0, hal.cell0 c2, hal.cell0 c3, hal.cell0 c4⟩))
      clear hK K
      (try simp only [Act.put, List.getElem_toArray, List.getElem_cons_zero, List.getElem_cons_succ, List.setIfInBounds_toArray, List.set_cons_zero, List.set_cons_succ])
      refine wpAnyH_ready (rs := [6]) (by kernel_rfl) (by simp) ?_
      refine AllReadyH.cons rfl (fun K hK => ?_) AllReadyH.nil
      go_simp
      refine (HC.out _).mono ?_
      rintro e w' ⟨rfl, rfl⟩
      go_wp2_with fail
      refine hK.out _ _ ?s1_16 (fun hHeld => ?_)
      case s1_16 => ((try dsimp only) <;> (first | exact ⟨hal.cell0 c0, hal.cell0 c2, hal.cell0 c3, hal.cell0 c4⟩))
      clear hK K
      (try simp only [Act.put, List.getElem_toArray, List.getElem_cons_zero, List.getElem_cons_succ, List.setIfInBounds_toArray, List.set_cons_zero, List.set_cons_succ])
      refine wpAnyH_take (i := 11) (v := ?v1_17) rfl (by kernel_rfl) (by kernel_rfl) (by kernel_rfl) (fun _ _ _ h => h) (Or.inl ⟨by rfl, ?y1_17⟩) (by assumption) ?r1_17
      case y1_17 => (intro w hSw; (try dsimp only at hSw); go_simp; try with_reducible rfl)
      (try simp only [Act.put, List.getElem_toArray, List.getElem_cons_zero, List.getElem_cons_succ, List.setIfInBounds_toArray, List.set_cons_zero, List.set_cons_succ])
      refine wpAnyH_ready (rs := [13]) (by kernel_rfl) (by simp) ?_
      refine AllReadyH.cons rfl (fun K hK => ?_) AllReadyH.nil
      go_simp
      refine hK.out _ _ ?s1_18 (fun hHeld => ?_)
      case s1_18 => ((try dsimp only) <;> (first | exact ⟨kW.cell0 c0, kW.cell0 c2, kW.cell0 c3, kW.cell0 c4⟩))
      clear hK K
      (try simp only [Act.put, List.getElem_toArray, List.getElem_cons_zero, List.getElem_cons_succ, List.setIfInBounds_toArray, List.set_cons_zero, List.set_cons_succ])
      refine wpAnyH_done (by kernel_rfl) ?_ _
      refine NoPanic.normal ?_
      go_wp2_with fail
      go_meet
      exact ⟨_, rfl, by omega, hW, kW⟩
  case rest =>
  obtain ⟨q, rfl, hq, hb, kc⟩ := hcut
  have q0 := hb.cell' (i := 0) rfl
  have q1 := hb.cell' (i := 1) rfl
  have q2 := hb.cell' (i := 2) rfl
  have q3 := hb.cell' (i := 3) rfl
  have HB := Lib.hid hb
  have HK := Lib.hid kc
  clear c0 c2 c3 c4 hb kc
  go_wp2_with fail
  refine (HMy.out _).mono ?_
  rintro e w2 ⟨rfl, k2⟩
  have hR2 := HR.out.keeps (HK.out.trans k2) (by simp)
  have hB2 := HB.out.keeps k2 (by simp)
  have HK2 := Lib.hid (HkA.out.trans (HK.out.trans k2))
  clear q0 q1 q2 q3 k2
  have q0 := hB2.cell' (i := 0) rfl
  have q1 := hB2.cell' (i := 1) rfl
  have q2 := hB2.cell' (i := 2) rfl
  have q3 := hB2.cell' (i := 3) rfl
  have r0 := hR2.cell' (i := 0) rfl
  have r1 := hR2.cell' (i := 1) rfl
  have r2 := hR2.cell' (i := 2) rfl
  have r3 := hR2.cell' (i := 3) rfl
  have f0 := hR2.frozen 0
  have f1 := hR2.frozen 1
  have f2 := hR2.frozen 2
  have f3 := hR2.frozen 3
  have hR3 := hR2.put4 (B32 s) (.int .i64 nK) (.int .i64 P) (.int .i64 z)
  have K3 := Lib.hid (HK2.out.put4 (p := w.heap.size + 1) (.inr (by omega)) (B32 s) (.int .i64 nK) (.int .i64 P) (.int .i64 z))
  have e0 := hR3.cell' (i := 0) rfl
  have e1 := hR3.cell' (i := 1) rfl
  have e2 := hR3.cell' (i := 2) rfl
  have e3 := hR3.cell' (i := 3) rfl
  clear hR2 hB2 hR3
  go_wp2_with fail
  refine bodyPost_ret (v := .tuple #[.agg #[B32 s, .int .i64 nK, .int .i64 P, .int .i64 z], .bool true]) (by simp [results, Tryz.results31, go_sem, e0, e1, e2, e3]) rfl ?_
  exact ⟨rfl, K3.out⟩

theorem MfOk.q {n z P nK : Nat} (h : MfOk n z P nK) : ((n : Int) + (z : Int) - 1) / (z : Int) = (nK : Int) := by
  have hc := h.c
  have h1 := h.n1
  have h2 := h.k1
  unfold bcount at hc
  rw [if_neg (by omega)] at hc
  split at hc
  · rw [show (n : Int) + (z : Int) - 1 = ((n + z - 1 : Nat) : Int) from by omega, ← Int.natCast_ediv, hc]
  · omega

set_option maxRecDepth 100000 in
set_option maxHeartbeats 1600000 in
theorem rcount_calls {w : World} {n z P nK : Nat} (hm : MfOk n z P nK) :
    Calls Tryz.prog 46 #[.int .i64 n, .int .i64 z] w fun e w' => e = .returned (.int .i64 nK) ∧ w = w' := by
  have hq := hm.q
  have h1 : ¬ ((n : Int) < 1) := by have := hm.n1; omega
  have h2 : ¬ ((512 : Int) < (n : Int)) := by have := hm.n2; omega
  have h3 : ¬ ((z : Int) < 1) := by have := hm.z1; omega
  have h4 : ¬ ((16 : Int) < (z : Int)) := by have := hm.z2; omega
  have h5 : ¬ ((64 : Int) < (nK : Int)) := by have := hm.k2; omega
  have hz0 : (z : Int) ≠ 0 := by omega
  clear hm
  go_enter Tryz.func46, Tryz.ntmps46
  go_wp2_with fail
  go_ret
  exact ⟨rfl, rfl⟩

set_option maxRecDepth 100000 in
set_option maxHeartbeats 1600000 in
theorem rmay_calls {w : World} (s : UInt32) {n z P nK : Nat} (hm : MfOk n z P nK) :
    Calls Tryz.prog 47 #[.agg #[B32 s, .int .i64 nK, .int .i64 P, .int .i64 z]] w fun e w' => e = .returned (.bool true) ∧ Keeps [] w w' := by
  have h1 : (1 : Int) ≤ (nK : Int) := by have := hm.k1; omega
  have h2 : (nK : Int) ≤ 64 := by have := hm.k2; omega
  have h3 : (P : Int) ≤ 16 := by have := hm.p2; omega
  have h4 : (1 : Int) ≤ (z : Int) := by have := hm.z1; omega
  have h5 : (z : Int) ≤ 16 := by have := hm.z2; omega
  have h6 : (0 : Int) ≤ (P : Int) := by omega
  have hB := Blk.newA w 38 #[B32 s, .int .i64 nK, .int .i64 P, .int .i64 z]
  have kA : Keeps [] w (w.alloc (.cells #[B32 s, .int .i64 nK, .int .i64 P, .int .i64 z] 38)) := (Keeps.refl [] w).alloc _
  clear hm
  go_enter Tryz.func47, Tryz.ntmps47
  go_wp2_with fail
  go_ret
  exact ⟨rfl, kA⟩

set_option maxRecDepth 100000 in
set_option maxHeartbeats 1600000 in
theorem rparams_calls {w : World} (s v : UInt32) {n z P nK : Nat} (h : Value) (hm : MfOk n z P nK) :
    Calls Tryz.prog 12 #[MfV s v n z P h] w (OfPost w s nK P z) := by
  have hC := fun w => rcount_calls (w := w) hm
  have hMy := fun w => rmay_calls (w := w) s hm
  have HC := Lib.hid hC
  have HMy := Lib.hid hMy
  have hB0 := Blk.newA w 35 (MfL s v n z P h).toArray
  have hB := hB0.alloc (.cells #[.int .u32 0, .int .i64 0, .int .i64 0, .int .i64 0] 38)
  have hR := Blk.newA (w.alloc (.cells (MfL s v n z P h).toArray 35)) 38 #[.int .u32 0, .int .i64 0, .int .i64 0, .int .i64 0]
  rw [World.size_alloc] at hR
  have kA : Keeps [] w ((w.alloc (.cells (MfL s v n z P h).toArray 35)).alloc (.cells #[.int .u32 0, .int .i64 0, .int .i64 0, .int .i64 0] 38)) := ((Keeps.refl [] w).alloc _).alloc _
  have hsA : ((w.alloc (.cells (MfL s v n z P h).toArray 35)).alloc (.cells #[.int .u32 0, .int .i64 0, .int .i64 0, .int .i64 0] 38)).heap.size = w.heap.size + 1 + 1 := by simp
  clear hC hMy hm hB0
  go_enter Tryz.func12, Tryz.ntmps12
  go_upto_region 1 with (fail)
  generalize (w.alloc (.cells (MfL s v n z P h).toArray 35)).alloc (.cells #[.int .u32 0, .int .i64 0, .int .i64 0, .int .i64 0] 38) = w0 at *
  have c0 := hB.cell' (i := 0) rfl
  have c2 := hB.cell' (i := 2) rfl
  have c3 := hB.cell' (i := 3) rfl
  have c4 := hB.cell' (i := 4) rfl
  have HR := Lib.hid hR
  have HkA := Lib.hid kA
  clear hR hB kA
  go_cut [4] (fun s4 wx => ∃ q, s4 = .pointer (some ⟨q, 0, none⟩) ∧ w0.heap.size ≤ q ∧ Blk wx q 38 [B32 s, .int .i64 nK, .int .i64 P, .int .i64 z] ∧ Keeps [] w0 wx)
  case first =>
    have hal : Keeps [] w0 ((w0.alloc (.cells #[.int .u32 0, .int .i64 0, .int .i64 0, .int .i64 0] 38)).drew) := ((Keeps.refl [] w0).alloc _).drew
    have hW := (Blk.newA w0 38 #[B32 s, .int .i64 nK, .int .i64 P, .int .i64 z]).drew
    rw [hsA] at hW
    have kW : Keeps [] w0 ((w0.alloc (.cells #[B32 s, .int .i64 nK, .int .i64 P, .int .i64 z] 38)).drew) := ((Keeps.refl [] w0).alloc _).drew
    refine wp_region_noPanic ?_
    refine wp_region_held_drew (S := (fun w' => w'.cell? ⟨w.heap.size, 0, none⟩ = some (B32 s) ∧ w'.cell? ⟨w.heap.size, 2, none⟩ = some (.int .i64 n) ∧ w'.cell? ⟨w.heap.size, 3, none⟩ = some (.int .i64 z) ∧ w'.cell? ⟨w.heap.size, 4, none⟩ = some (.int .i64 P))) (by kernel_rfl) ⟨c0, c2, c3, c4⟩ (fun hHeld => ?_)
    refine wpAnyH_take (i := 0) (v := ?v2_19) rfl (by kernel_rfl) (by kernel_rfl) (by kernel_rfl) (fun _ _ _ h => h) (Or.inl ⟨by rfl, ?y2_19⟩) (by assumption) ?r2_19
    case y2_19 => (intro w hSw; (try dsimp only at hSw); go_simp; try with_reducible rfl)
    (try simp only [Act.put, List.getElem_toArray, List.getElem_cons_zero, List.getElem_cons_succ, List.setIfInBounds_toArray, List.set_cons_zero, List.set_cons_succ])
    refine wpAnyH_take (i := 1) (v := ?v2_20) rfl (by kernel_rfl) (by kernel_rfl) (by kernel_rfl) (fun _ _ _ h => h) (Or.inl ⟨by rfl, ?y2_20⟩) (by assumption) ?r2_20
    case y2_20 => (intro w hSw; (try dsimp only at hSw); go_simp; try with_reducible rfl)
    (try simp only [Act.put, List.getElem_toArray, List.getElem_cons_zero, List.getElem_cons_succ, List.setIfInBounds_toArray, List.set_cons_zero, List.set_cons_succ])
    refine wpAnyH_take (i := 2) (v := ?v2_21) rfl (by kernel_rfl) (by kernel_rfl) (by kernel_rfl) (fun _ _ _ h => h) (Or.inl ⟨by rfl, ?y2_21⟩) (by assumption) ?r2_21
    case y2_21 => (intro w hSw; (try dsimp only at hSw); go_simp; try with_reducible rfl)
    (try simp only [Act.put, List.getElem_toArray, List.getElem_cons_zero, List.getElem_cons_succ, List.setIfInBounds_toArray, List.set_cons_zero, List.set_cons_succ])
    refine wpAnyH_take (i := 3) (v := ?v2_22) rfl (by kernel_rfl) (by kernel_rfl) (by kernel_rfl) (fun _ _ _ h => h) (Or.inl ⟨by rfl, ?y2_22⟩) (by assumption) ?r2_22
    case y2_22 => (intro w hSw; (try dsimp only at hSw); go_simp; try with_reducible rfl)
    (try simp only [Act.put, List.getElem_toArray, List.getElem_cons_zero, List.getElem_cons_succ, List.setIfInBounds_toArray, List.set_cons_zero, List.set_cons_succ])
    refine wpAnyH_take (i := 4) (v := ?v2_23) rfl (by kernel_rfl) (by kernel_rfl) (by kernel_rfl) (fun _ _ _ h => h) (Or.inl ⟨by rfl, ?y2_23⟩) (by assumption) ?r2_23
    case y2_23 => (intro w hSw; (try dsimp only at hSw); go_simp; try with_reducible rfl)
    (try simp only [Act.put, List.getElem_toArray, List.getElem_cons_zero, List.getElem_cons_succ, List.setIfInBounds_toArray, List.set_cons_zero, List.set_cons_succ])
    refine wpAnyH_take (i := 5) (v := ?v2_24) rfl (by kernel_rfl) (by kernel_rfl) (by kernel_rfl) (fun _ _ _ h => h) (Or.inl ⟨by rfl, ?y2_24⟩) (by assumption) ?r2_24
    case y2_24 => (intro w hSw; (try dsimp only at hSw); go_simp; try with_reducible rfl)
    (try simp only [Act.put, List.getElem_toArray, List.getElem_cons_zero, List.getElem_cons_succ, List.setIfInBounds_toArray, List.set_cons_zero, List.set_cons_succ])
    refine wpAnyH_take (i := 7) (v := ?v2_25) rfl (by kernel_rfl) (by kernel_rfl) (by kernel_rfl) (fun _ _ _ h => h) (Or.inl ⟨by rfl, ?y2_25⟩) (by assumption) ?r2_25
    case y2_25 => (intro w hSw; (try dsimp only at hSw); go_simp; try with_reducible rfl)
    (try simp only [Act.put, List.getElem_toArray, List.getElem_cons_zero, List.getElem_cons_succ, List.setIfInBounds_toArray, List.set_cons_zero, List.set_cons_succ])
    refine wpAnyH_take (i := 8) (v := ?v2_26) rfl (by kernel_rfl) (by kernel_rfl) (by kernel_rfl) (fun _ _ _ h => h) (Or.inl ⟨by rfl, ?y2_26⟩) (by assumption) ?r2_26
    case y2_26 => (intro w hSw; (try dsimp only at hSw); go_simp; try with_reducible rfl)
    (try simp only [Act.put, List.getElem_toArray, List.getElem_cons_zero, List.getElem_cons_succ, List.setIfInBounds_toArray, List.set_cons_zero, List.set_cons_succ])
    refine wpAnyH_take (i := 9) (v := ?v2_27) rfl (by kernel_rfl) (by kernel_rfl) (by kernel_rfl) (fun _ _ _ h => h) (Or.inl ⟨by rfl, ?y2_27⟩) (by assumption) ?r2_27
    case y2_27 => (intro w hSw; (try dsimp only at hSw); go_simp; try with_reducible rfl)
    (try simp only [Act.put, List.getElem_toArray, List.getElem_cons_zero, List.getElem_cons_succ, List.setIfInBounds_toArray, List.set_cons_zero, List.set_cons_succ])
    refine wpAnyH_take (i := 10) (v := ?v2_28) rfl (by kernel_rfl) (by kernel_rfl) (by kernel_rfl) (fun _ _ _ h => h) (Or.inl ⟨by rfl, ?y2_28⟩) (by assumption) ?r2_28
    case y2_28 => (intro w hSw; (try dsimp only at hSw); go_simp; try with_reducible rfl)
    (try simp only [Act.put, List.getElem_toArray, List.getElem_cons_zero, List.getElem_cons_succ, List.setIfInBounds_toArray, List.set_cons_zero, List.set_cons_succ])
    refine wpAnyH_ready (rs := [6, 12]) (by kernel_rfl) (by simp) ?_
    refine AllReadyH.cons rfl (fun K hK => ?ba) (AllReadyH.cons rfl (fun K hK => ?bb) AllReadyH.nil)
    case ba =>
      go_simp
      refine (HC.out _).mono ?_
      rintro e w' ⟨rfl, rfl⟩
      go_wp2_with fail
      refine hK.out _ _ ?s2_29 (fun hHeld => ?_)
      case s2_29 => ((try dsimp only) <;> (first | exact ⟨c0, c2, c3, c4⟩))
      clear hK K
      (try simp only [Act.put, List.getElem_toArray, List.getElem_cons_zero, List.getElem_cons_succ, List.setIfInBounds_toArray, List.set_cons_zero, List.set_cons_succ])
      refine wpAnyH_take (i := 11) (v := ?v2_30) rfl (by kernel_rfl) (by kernel_rfl) (by kernel_rfl) (fun _ _ _ h => h) (Or.inl ⟨by rfl, ?y2_30⟩) (by assumption) ?r2_30
      case y2_30 => (intro w hSw; (try dsimp only at hSw); go_simp; try with_reducible rfl)
      (try simp only [Act.put, List.getElem_toArray, List.getElem_cons_zero, List.getElem_cons_succ, List.setIfInBounds_toArray, List.set_cons_zero, List.set_cons_succ])
      refine wpAnyH_ready (rs := [12]) (by kernel_rfl) (by simp) ?_
      refine AllReadyH.cons rfl (fun K hK => ?_) AllReadyH.nil
      go_simp
      refine hK.out _ _ ?s2_31 (fun hHeld => ?_)
      case s2_31 => ((try dsimp only) <;> (first | exact ⟨hal.cell0 c0, hal.cell0 c2, hal.cell0 c3, hal.cell0 c4⟩))
      clear hK K
      (try simp only [Act.put, List.getElem_toArray, List.getElem_cons_zero, List.getElem_cons_succ, List.setIfInBounds_toArray, List.set_cons_zero, List.set_cons_succ])
      refine wpAnyH_ready (rs := [13]) (by kernel_rfl) (by simp) ?_
      refine AllReadyH.cons rfl (fun K hK => ?_) AllReadyH.nil
      go_simp
      refine hK.out _ _ ?s2_32 (fun hHeld => ?_)
      case s2_32 => ((try dsimp only) <;> (first | exact ⟨kW.cell0 c0, kW.cell0 c2, kW.cell0 c3, kW.cell0 c4⟩))
      clear hK K
      (try simp only [Act.put, List.getElem_toArray, List.getElem_cons_zero, List.getElem_cons_succ, List.setIfInBounds_toArray, List.set_cons_zero, List.set_cons_succ])
      refine wpAnyH_done (by kernel_rfl) ?_ _
      refine NoPanic.normal ?_
      go_wp2_with fail
      go_meet
      exact ⟨_, rfl, by omega, hW, kW⟩
    case bb =>
      go_simp
      refine hK.out _ _ ?s2_33 (fun hHeld => ?_)
      case s2_33 => ((try dsimp only) <;> (first | exact ⟨hal.cell0 c0, hal.cell0 c2, hal.cell0 c3, hal.cell0 c4⟩))
      clear hK K
      (try simp only [Act.put, List.getElem_toArray, List.getElem_cons_zero, List.getElem_cons_succ, List.setIfInBounds_toArray, List.set_cons_zero, List.set_cons_succ])
      refine wpAnyH_ready (rs := [6]) (by kernel_rfl) (by simp) ?_
      refine AllReadyH.cons rfl (fun K hK => ?_) AllReadyH.nil
      go_simp
      refine (HC.out _).mono ?_
      rintro e w' ⟨rfl, rfl⟩
      go_wp2_with fail
      refine hK.out _ _ ?s2_34 (fun hHeld => ?_)
      case s2_34 => ((try dsimp only) <;> (first | exact ⟨hal.cell0 c0, hal.cell0 c2, hal.cell0 c3, hal.cell0 c4⟩))
      clear hK K
      (try simp only [Act.put, List.getElem_toArray, List.getElem_cons_zero, List.getElem_cons_succ, List.setIfInBounds_toArray, List.set_cons_zero, List.set_cons_succ])
      refine wpAnyH_take (i := 11) (v := ?v2_35) rfl (by kernel_rfl) (by kernel_rfl) (by kernel_rfl) (fun _ _ _ h => h) (Or.inl ⟨by rfl, ?y2_35⟩) (by assumption) ?r2_35
      case y2_35 => (intro w hSw; (try dsimp only at hSw); go_simp; try with_reducible rfl)
      (try simp only [Act.put, List.getElem_toArray, List.getElem_cons_zero, List.getElem_cons_succ, List.setIfInBounds_toArray, List.set_cons_zero, List.set_cons_succ])
      refine wpAnyH_ready (rs := [13]) (by kernel_rfl) (by simp) ?_
      refine AllReadyH.cons rfl (fun K hK => ?_) AllReadyH.nil
      go_simp
      refine hK.out _ _ ?s2_36 (fun hHeld => ?_)
      case s2_36 => ((try dsimp only) <;> (first | exact ⟨kW.cell0 c0, kW.cell0 c2, kW.cell0 c3, kW.cell0 c4⟩))
      clear hK K
      (try simp only [Act.put, List.getElem_toArray, List.getElem_cons_zero, List.getElem_cons_succ, List.setIfInBounds_toArray, List.set_cons_zero, List.set_cons_succ])
      refine wpAnyH_done (by kernel_rfl) ?_ _
      refine NoPanic.normal ?_
      go_wp2_with fail
      go_meet
      exact ⟨_, rfl, by omega, hW, kW⟩
  case rest =>
  obtain ⟨q, rfl, hq, hb, kc⟩ := hcut
  have q0 := hb.cell' (i := 0) rfl
  have q1 := hb.cell' (i := 1) rfl
  have q2 := hb.cell' (i := 2) rfl
  have q3 := hb.cell' (i := 3) rfl
  have HB := Lib.hid hb
  have HK := Lib.hid kc
  clear c0 c2 c3 c4 hb kc
  go_wp2_with fail
  refine (HMy.out _).mono ?_
  rintro e w2 ⟨rfl, k2⟩
  have hR2 := HR.out.keeps (HK.out.trans k2) (by simp)
  have hB2 := HB.out.keeps k2 (by simp)
  have HK2 := Lib.hid (HkA.out.trans (HK.out.trans k2))
  clear q0 q1 q2 q3 k2
  have q0 := hB2.cell' (i := 0) rfl
  have q1 := hB2.cell' (i := 1) rfl
  have q2 := hB2.cell' (i := 2) rfl
  have q3 := hB2.cell' (i := 3) rfl
  have r0 := hR2.cell' (i := 0) rfl
  have r1 := hR2.cell' (i := 1) rfl
  have r2 := hR2.cell' (i := 2) rfl
  have r3 := hR2.cell' (i := 3) rfl
  have f0 := hR2.frozen 0
  have f1 := hR2.frozen 1
  have f2 := hR2.frozen 2
  have f3 := hR2.frozen 3
  have hR3 := hR2.put4 (B32 s) (.int .i64 nK) (.int .i64 P) (.int .i64 z)
  have K3 := Lib.hid (HK2.out.put4 (p := w.heap.size + 1) (.inr (by omega)) (B32 s) (.int .i64 nK) (.int .i64 P) (.int .i64 z))
  have e0 := hR3.cell' (i := 0) rfl
  have e1 := hR3.cell' (i := 1) rfl
  have e2 := hR3.cell' (i := 2) rfl
  have e3 := hR3.cell' (i := 3) rfl
  clear hR2 hB2 hR3
  go_wp2_with fail
  refine bodyPost_ret (v := .tuple #[.agg #[B32 s, .int .i64 nK, .int .i64 P, .int .i64 z], .bool true]) (by simp [results, Tryz.results12, go_sem, e0, e1, e2, e3]) rfl ?_
  exact ⟨rfl, K3.out⟩

set_option maxRecDepth 100000 in
set_option maxHeartbeats 1600000 in
theorem mfmay_calls {w : World} (s v : UInt32) {n z P nK : Nat} (a : Option Addr) (c : Nat) (hm : MfOk n z P nK) :
    Calls Tryz.prog 37 #[MfV s v n z P (.slice a 32 c)] w fun e w' => e = .returned (.bool true) ∧ Keeps [] w w' := by
  have HO := Lib.hid (fun w => of_calls (w := w) s v (.slice a 32 c) hm)
  have hB0 := Blk.newA w 35 (MfL s v n z P (.slice a 32 c)).toArray
  have kA : Keeps [] w (w.alloc (.cells (MfL s v n z P (.slice a 32 c)).toArray 35)) := (Keeps.refl [] w).alloc _
  go_enter Tryz.func37, Tryz.ntmps37
  go_wp2_with fail
  generalize w.alloc (.cells (MfL s v n z P (.slice a 32 c)).toArray 35) = w0 at *
  refine (HO.out _).mono ?_
  rintro e w1 ⟨rfl, k1⟩
  have hB1 := (hB0.keeps k1 (by simp)).alloc (.cells #[B32 s, .int .i64 nK, .int .i64 P, .int .i64 z] 38)
  have c5 := hB1.cell' (i := 5) rfl
  have k2 : Keeps [] w1 (w1.alloc (.cells #[B32 s, .int .i64 nK, .int .i64 P, .int .i64 z] 38)) := (Keeps.refl [] w1).alloc _
  have HK := Lib.hid ((kA.trans k1).trans k2)
  clear hB0 hB1 kA k1 k2
  go_wp2_with fail
  go_ret
  exact ⟨rfl, HK.out⟩

set_option maxRecDepth 100000 in
set_option maxHeartbeats 1600000 in
theorem rmfmay_calls {w : World} (s v : UInt32) {n z P nK : Nat} (a : Option Addr) (c : Nat) (hm : MfOk n z P nK) :
    Calls Tryz.prog 11 #[MfV s v n z P (.slice a 32 c)] w fun e w' => e = .returned (.bool true) ∧ Keeps [] w w' := by
  have HO := Lib.hid (fun w => rparams_calls (w := w) s v (.slice a 32 c) hm)
  have hB0 := Blk.newA w 35 (MfL s v n z P (.slice a 32 c)).toArray
  have kA : Keeps [] w (w.alloc (.cells (MfL s v n z P (.slice a 32 c)).toArray 35)) := (Keeps.refl [] w).alloc _
  go_enter Tryz.func11, Tryz.ntmps11
  go_wp2_with fail
  generalize w.alloc (.cells (MfL s v n z P (.slice a 32 c)).toArray 35) = w0 at *
  refine (HO.out _).mono ?_
  rintro e w1 ⟨rfl, k1⟩
  have hB1 := (hB0.keeps k1 (by simp)).alloc (.cells #[B32 s, .int .i64 nK, .int .i64 P, .int .i64 z] 38)
  have c5 := hB1.cell' (i := 5) rfl
  have k2 : Keeps [] w1 (w1.alloc (.cells #[B32 s, .int .i64 nK, .int .i64 P, .int .i64 z] 38)) := (Keeps.refl [] w1).alloc _
  have HK := Lib.hid ((kA.trans k1).trans k2)
  clear hB0 hB1 kA k1 k2
  go_wp2_with fail
  go_ret
  exact ⟨rfl, HK.out⟩

end Go.Proofs.YtijhaeapoapgfaaGreatDoor

set_option linter.unusedVariables false
set_option linter.unusedSimpArgs false
namespace Go.Proofs.YtijhaeapoapgfaaGreatDoor
open Go.RowKit
attribute [local go_sem ↓] Go.wp_at_zero Go.wp_at_succ

/-- Parameters that may be. -/
structure PmI (nK P z : Nat) : Prop where
  k1 : 1 ≤ nK
  k2 : nK ≤ 64
  p2 : P ≤ 16
  z1 : 1 ≤ z
  z2 : z ≤ 16
theorem Fits.pm {K P z : Nat} {img : List UInt8} (h : Fits K P z img) : PmI K P z := ⟨h.k1, h.k2, h.p2, h.z1, h.z2⟩

/-- A decoder: its matrix; once all is there, what was worked out. -/
def De (w : World) (p : Nat) (s : UInt32) (nK P z : Nat) (M : Mtx) (tk : Nat) (Fl : List Nat) : Prop :=
  ∃ pm Fm d v, Blk w p 150 [B32 s, .int .i64 nK, .int .i64 P, .int .i64 z, P0 pm, .int .i64 tk, .int .u32 d, .int .i32 0, .int .u32 0, v] ∧ MxF w pm (nK + P) z M Fm ∧ Ech (nK + P) z M ∧ Fl = p :: Fm ∧ p ∉ Fm ∧
    ((d = 0 ∧ v = .slice none 0 0) ∨ (d = 1 ∧ rank M = nK + P ∧ Pcs w 0 v (dats M (nK + P))))

theorem De.keeps {S : List Nat} {w w' : World} {p : Nat} {s : UInt32} {nK P z : Nat} {M : Mtx} {tk : Nat} {Fl : List Nat} (h : De w p s nK P z M tk Fl) (k : Keeps S w w') (hS : ∀ x ∈ S, x ∉ Fl) (hf : rank M = nK + P → Keeps [] w w') : De w' p s nK P z M tk Fl := by
  obtain ⟨pm, Fm, d, v, hb, hm, he, hfl, hn, ho⟩ := h
  subst hfl
  refine ⟨pm, Fm, d, v, hb.keeps k (fun hp => hS p hp (by simp)), hm.keeps k (fun x hx hm => hS x hx (by simp [hm])), he, rfl, hn, ?_⟩
  rcases ho with ho | ⟨h1, h2, h3⟩
  · exact .inl ho
  · exact .inr ⟨h1, h2, h3.keepsNil (hf h2)⟩
theorem De.keepsNil {w w' : World} {p : Nat} {s : UInt32} {nK P z : Nat} {M : Mtx} {tk : Nat} {Fl : List Nat} (h : De w p s nK P z M tk Fl) (k : Keeps [] w w') : De w' p s nK P z M tk Fl := h.keeps k (by simp) (fun _ => k)
theorem De.lt {w : World} {p : Nat} {s : UInt32} {nK P z : Nat} {M : Mtx} {tk : Nat} {Fl : List Nat} (h : De w p s nK P z M tk Fl) : ∀ x ∈ Fl, x < w.heap.size := by
  obtain ⟨pm, Fm, d, v, hb, ⟨pb, L, _, _, _, _, h4⟩, he, hfl, hn, ho⟩ := h
  subst hfl
  intro x hx
  simp only [List.mem_cons] at hx
  rcases hx with rfl | hx
  · exact hb.lt
  · exact h4 x hx
theorem De.ech {w : World} {p : Nat} {s : UInt32} {nK P z : Nat} {M : Mtx} {tk : Nat} {Fl : List Nat} (h : De w p s nK P z M tk Fl) : Ech (nK + P) z M := by
  obtain ⟨_, _, _, _, _, _, he, _⟩ := h; exact he

/-- What is not full is not worked out. -/
theorem De.unsolved {w : World} {p : Nat} {s : UInt32} {nK P z : Nat} {M : Mtx} {tk : Nat} {Fl : List Nat} (h : De w p s nK P z M tk Fl) (hf : rank M ≠ nK + P) : w.cell? ⟨p, 6, none⟩ = some (.int .u32 0) := by
  obtain ⟨pm, Fm, d, v, hb, _, _, _, _, ho⟩ := h
  rcases ho with ⟨rfl, _⟩ | ⟨_, h2, _⟩
  · exact hb.cell' (i := 6) rfl
  · exact absurd h2 hf
/-- What is not worked out stays as it is, whatever is done to other blocks. -/
theorem De.keepsU {S : List Nat} {w w' : World} {p : Nat} {s : UInt32} {nK P z : Nat} {M : Mtx} {tk : Nat} {Fl : List Nat} (h : De w p s nK P z M tk Fl) (k : Keeps S w w') (hS : ∀ x ∈ S, x ∉ Fl) (hu : w.cell? ⟨p, 6, none⟩ = some (.int .u32 0)) : De w' p s nK P z M tk Fl ∧ w'.cell? ⟨p, 6, none⟩ = some (.int .u32 0) := by
  obtain ⟨pm, Fm, d, v, hb, hm, he, hfl, hn, ho⟩ := h
  subst hfl
  have h6 := hb.cell' (i := 6) rfl
  rw [hu] at h6
  have hd : d = 0 := by simpa using h6.symm
  subst hd
  have hb' := hb.keeps k (fun hp => hS p hp (by simp))
  rcases ho with ⟨_, hv⟩ | ⟨h1, _⟩
  · exact ⟨⟨pm, Fm, 0, v, hb', hm.keeps k (fun x hx hm => hS x hx (by simp [hm])), he, rfl, hn, .inl ⟨rfl, hv⟩⟩, hb'.cell' (i := 6) rfl⟩
  · cases h1

set_option maxRecDepth 100000 in
theorem dtaken_calls {w : World} {p : Nat} {s : UInt32} {nK P z : Nat} {M : Mtx} {tk : Nat} {Fl : List Nat} (h : De w p s nK P z M tk Fl) :
    Calls Tryz.prog 68 #[P0 p] w fun e w' => e = .returned (.int .i64 tk) ∧ w = w' := by
  obtain ⟨pm, Fm, d, v, hb, _⟩ := h
  have HL := Lib.hid (iload_calls _ (hb.cell' (i := 5) rfl))
  clear hb
  go_enter Tryz.func68, Tryz.ntmps68
  go_wp2_with fail
  refine HL.out.mono ?_
  rintro e w' ⟨rfl, rfl⟩
  go_wp2_with fail
  go_ret
  exact ⟨rfl, rfl⟩

set_option maxRecDepth 100000 in
theorem dtakenNil_calls {w : World} : Calls Tryz.prog 68 #[.pointer none] w fun e w' => e = .returned (.int .i64 0) ∧ w = w' := by
  go_enter Tryz.func68, Tryz.ntmps68
  go_wp2_with fail
  go_ret
  exact ⟨rfl, rfl⟩
theorem dneedsNil_calls {w : World} : Calls Tryz.prog 41 #[.pointer none] w fun e w' => e = .returned (.int .i64 0) ∧ w = w' := by
  go_enter Tryz.func41, Tryz.ntmps41
  go_wp2_with fail
  go_ret
  exact ⟨rfl, rfl⟩

theorem pcs_sum {w : World} (s : UInt32) {nK P z : Nat} (h : PmI nK P z) : Calls Tryz.prog 81 #[.agg #[B32 s, .int .i64 nK, .int .i64 P, .int .i64 z]] w fun e w' => e = .returned (.int .i64 (nK + P : Nat)) ∧ Keeps [] w w' := by
  have hP := pieces_calls (w := w) s nK P z
  obtain ⟨h1, h2, h3, h4, h5⟩ := h
  have hok : PmOk (nK : Int) (P : Int) (z : Int) = true := by simp [PmOk]; omega
  rw [hok, if_pos rfl, show (nK : Int) + (P : Int) = ((nK + P : Nat) : Int) from by omega] at hP
  exact hP

set_option maxRecDepth 100000 in
set_option maxHeartbeats 1600000 in
theorem dneeds_calls {w : World} {p : Nat} {s : UInt32} {nK P z : Nat} {M : Mtx} {tk : Nat} {Fl : List Nat} (h : De w p s nK P z M tk Fl) (hp : PmI nK P z) :
    Calls Tryz.prog 41 #[P0 p] w fun e w' => e = .returned (.int .i64 (nK + P - rank M : Nat)) ∧ Keeps [] w w' := by
  obtain ⟨pm, Fm, d, v, hb, hm, he, _⟩ := h
  have hrk : rank M ≤ nK + P := by have := rank_le M; rw [he.l] at this; exact this
  have hn := he.l
  have c0 := hb.cell' (i := 0) rfl
  have c1 := hb.cell' (i := 1) rfl
  have c2 := hb.cell' (i := 2) rfl
  have c3 := hb.cell' (i := 3) rfl
  have c4 := hb.cell' (i := 4) rfl
  have HP := Lib.hid (fun w => pcs_sum (w := w) s hp)
  have HR := Lib.hid (fun (w' : World) (k : Keeps [] w w') => (hm.keepsNil k).rank_calls)
  have hb80 : nK + P ≤ 80 := by have := hp.k2; have := hp.p2; omega
  generalize rank M = rk at *
  clear hb hm he hp hn
  go_enter Tryz.func41, Tryz.ntmps41
  go_wp2_with fail
  go_region_held3 (fun w' => w'.cell? ⟨p, 0, none⟩ = some (B32 s) ∧ w'.cell? ⟨p, 1, none⟩ = some (.int .i64 nK) ∧ w'.cell? ⟨p, 2, none⟩ = some (.int .i64 P) ∧ w'.cell? ⟨p, 3, none⟩ = some (.int .i64 z) ∧ w'.cell? ⟨p, 4, none⟩ = some (P0 pm) ∧ Keeps [] w w')
    (first | exact ⟨c0, c1, c2, c3, c4, (Keeps.refl [] w).drew⟩ | exact ⟨c0, c1, c2, c3, c4, Keeps.refl [] w⟩ | exact ⟨nk.cell0 c0, nk.cell0 c1, nk.cell0 c2, nk.cell0 c3, nk.cell0 c4, nk⟩ | assumption)
    (first
      | (go_at_call 81; obtain ⟨_, _, _, _, _, sk⟩ : _ ∧ _ ∧ _ ∧ _ ∧ _ ∧ Keeps [] w _ := (by assumption); refine (HP.out _).mono ?_; rintro e w2 ⟨rfl, k2⟩; have nk := sk.trans k2)
      | (go_at_call 85; obtain ⟨_, _, _, _, _, nk⟩ : _ ∧ _ ∧ _ ∧ _ ∧ _ ∧ Keeps [] w _ := (by assumption); refine (HR.out _ nk).mono ?_; rintro e w' ⟨rfl, rfl⟩))
  all_goals go_wp2_with fail
  all_goals go_ret
  all_goals exact ⟨by simp [IntKind.wrap_i64]; omega, nk⟩

set_option maxRecDepth 100000 in
theorem dsaysNil_calls {w : World} (id : UInt32) : Calls Tryz.prog 66 #[.pointer none, B32 id] w fun e w' => e = .returned (.bool false) ∧ Keeps [] w w' := by
  go_enter Tryz.func66, Tryz.ntmps66
  go_wp2_with fail
  go_quiet (fail)
  go_wp2_with fail
  go_ret
  exact ⟨rfl, (Keeps.refl [] w).drewN _⟩
theorem dtakeNil_calls {w : World} (id : UInt32) (v : Value) : Calls Tryz.prog 40 #[.pointer none, B32 id, v] w fun e w' => e = .returned (.bool false) ∧ Keeps [] w w' := by
  go_enter Tryz.func40, Tryz.ntmps40
  go_wp2_with fail
  go_quiet (fail)
  go_wp2_with fail
  go_ret
  exact ⟨rfl, (Keeps.refl [] w).drewN _⟩

set_option maxRecDepth 100000 in
set_option maxHeartbeats 1600000 in
theorem dsays_calls {w : World} {p : Nat} {s : UInt32} {nK P z : Nat} {M : Mtx} {tk : Nat} {Fl : List Nat} (h : De w p s nK P z M tk Fl) (hp : PmI nK P z) (ht : TzAt w) (id : UInt32) :
    Calls Tryz.prog 66 #[P0 p, B32 id] w fun e w' => e = .returned (.bool (decide ((red M ⟨rowN s nK P id, zer z⟩).x ≠ 0))) ∧ Keeps [] w w' := by
  obtain ⟨pm, Fm, d, v, hb, hm, he, _⟩ := h
  have c0 := hb.cell' (i := 0) rfl
  have c1 := hb.cell' (i := 1) rfl
  have c2 := hb.cell' (i := 2) rfl
  have c3 := hb.cell' (i := 3) rfl
  have c4 := hb.cell' (i := 4) rfl
  have HRow := Lib.hid (fun w => row_calls (w := w) s nK P z hp.k1 hp.k2 hp.p2 hp.z1 hp.z2 id)
  have HS := Lib.hid (fun (w' : World) (k : Keeps [] w w') (pv gv : Nat) (hv : VecAt w' pv gv (nK + P) (rowN s nK P id)) => msays_calls (hm.keepsNil k) he (ht.keeps k (by simp)) hv.vc)
  generalize decide ((red M ⟨rowN s nK P id, zer z⟩).x ≠ 0) = bb at *
  generalize rowN s nK P id = X at *
  clear hb hm he hp
  go_enter Tryz.func66, Tryz.ntmps66
  go_wp2_with fail
  refine wp_region_noPanic ?_
  refine wp_region_held_drew (S := (fun w' => w'.cell? ⟨p, 0, none⟩ = some (B32 s) ∧ w'.cell? ⟨p, 1, none⟩ = some (.int .i64 nK) ∧ w'.cell? ⟨p, 2, none⟩ = some (.int .i64 P) ∧ w'.cell? ⟨p, 3, none⟩ = some (.int .i64 z) ∧ w'.cell? ⟨p, 4, none⟩ = some (P0 pm))) (by kernel_rfl) ⟨c0, c1, c2, c3, c4⟩ (fun hHeld => ?_)
  have kd : Keeps [] w w.drew := (Keeps.refl [] w).drew
  refine wpAnyH_take (i := 0) (v := ?v3_37) rfl (by kernel_rfl) (by kernel_rfl) (by kernel_rfl) (fun _ _ _ h => h) (Or.inl ⟨by rfl, ?y3_37⟩) (by assumption) ?r3_37
  case y3_37 => (intro w hSw; (try dsimp only at hSw); go_simp; try with_reducible rfl)
  (try simp only [Act.put, List.getElem_toArray, List.getElem_cons_zero, List.getElem_cons_succ, List.setIfInBounds_toArray, List.set_cons_zero, List.set_cons_succ])
  refine wpAnyH_take (i := 1) (v := ?v3_38) rfl (by kernel_rfl) (by kernel_rfl) (by kernel_rfl) (fun _ _ _ h => h) (Or.inl ⟨by rfl, ?y3_38⟩) (by assumption) ?r3_38
  case y3_38 => (intro w hSw; (try dsimp only at hSw); go_simp; try with_reducible rfl)
  (try simp only [Act.put, List.getElem_toArray, List.getElem_cons_zero, List.getElem_cons_succ, List.setIfInBounds_toArray, List.set_cons_zero, List.set_cons_succ])
  refine wpAnyH_take (i := 2) (v := ?v3_39) rfl (by kernel_rfl) (by kernel_rfl) (by kernel_rfl) (fun _ _ _ h => h) (Or.inl ⟨by rfl, ?y3_39⟩) (by assumption) ?r3_39
  case y3_39 => (intro w hSw; (try dsimp only at hSw); go_simp; try with_reducible rfl)
  (try simp only [Act.put, List.getElem_toArray, List.getElem_cons_zero, List.getElem_cons_succ, List.setIfInBounds_toArray, List.set_cons_zero, List.set_cons_succ])
  refine wpAnyH_take (i := 3) (v := ?v3_40) rfl (by kernel_rfl) (by kernel_rfl) (by kernel_rfl) (fun _ _ _ h => h) (Or.inl ⟨by rfl, ?y3_40⟩) (by assumption) ?r3_40
  case y3_40 => (intro w hSw; (try dsimp only at hSw); go_simp; try with_reducible rfl)
  (try simp only [Act.put, List.getElem_toArray, List.getElem_cons_zero, List.getElem_cons_succ, List.setIfInBounds_toArray, List.set_cons_zero, List.set_cons_succ])
  refine wpAnyH_take (i := 4) (v := ?v3_41) rfl (by kernel_rfl) (by kernel_rfl) (by kernel_rfl) (fun _ _ _ h => h) (Or.inl ⟨by rfl, ?y3_41⟩) (by assumption) ?r3_41
  case y3_41 => (intro w hSw; (try dsimp only at hSw); go_simp; try with_reducible rfl)
  (try simp only [Act.put, List.getElem_toArray, List.getElem_cons_zero, List.getElem_cons_succ, List.setIfInBounds_toArray, List.set_cons_zero, List.set_cons_succ])
  refine wpAnyH_take (i := 5) (v := ?v3_42) rfl (by kernel_rfl) (by kernel_rfl) (by kernel_rfl) (fun _ _ _ h => h) (Or.inl ⟨by rfl, ?y3_42⟩) (by assumption) ?r3_42
  case y3_42 => (intro w hSw; (try dsimp only at hSw); go_simp; try with_reducible rfl)
  (try simp only [Act.put, List.getElem_toArray, List.getElem_cons_zero, List.getElem_cons_succ, List.setIfInBounds_toArray, List.set_cons_zero, List.set_cons_succ])
  refine wpAnyH_take (i := 6) (v := ?v3_43) rfl (by kernel_rfl) (by kernel_rfl) (by kernel_rfl) (fun _ _ _ h => h) (Or.inl ⟨by rfl, ?y3_43⟩) (by assumption) ?r3_43
  case y3_43 => (intro w hSw; (try dsimp only at hSw); go_simp; try with_reducible rfl)
  (try simp only [Act.put, List.getElem_toArray, List.getElem_cons_zero, List.getElem_cons_succ, List.setIfInBounds_toArray, List.set_cons_zero, List.set_cons_succ])
  refine wpAnyH_take (i := 7) (v := ?v3_44) rfl (by kernel_rfl) (by kernel_rfl) (by kernel_rfl) (fun _ _ _ h => h) (Or.inl ⟨by rfl, ?y3_44⟩) (by assumption) ?r3_44
  case y3_44 => (intro w hSw; (try dsimp only at hSw); go_simp; try with_reducible rfl)
  (try simp only [Act.put, List.getElem_toArray, List.getElem_cons_zero, List.getElem_cons_succ, List.setIfInBounds_toArray, List.set_cons_zero, List.set_cons_succ])
  refine wpAnyH_take (i := 8) (v := ?v3_45) rfl (by kernel_rfl) (by kernel_rfl) (by kernel_rfl) (fun _ _ _ h => h) (Or.inl ⟨by rfl, ?y3_45⟩) (by assumption) ?r3_45
  case y3_45 => (intro w hSw; (try dsimp only at hSw); go_simp; try with_reducible rfl)
  (try simp only [Act.put, List.getElem_toArray, List.getElem_cons_zero, List.getElem_cons_succ, List.setIfInBounds_toArray, List.set_cons_zero, List.set_cons_succ])
  refine wpAnyH_take (i := 9) (v := ?v3_46) rfl (by kernel_rfl) (by kernel_rfl) (by kernel_rfl) (fun _ _ _ h => h) (Or.inl ⟨by rfl, ?y3_46⟩) (by assumption) ?r3_46
  case y3_46 => (intro w hSw; (try dsimp only at hSw); go_simp; try with_reducible rfl)
  (try simp only [Act.put, List.getElem_toArray, List.getElem_cons_zero, List.getElem_cons_succ, List.setIfInBounds_toArray, List.set_cons_zero, List.set_cons_succ])
  refine wpAnyH_take (i := 10) (v := ?v3_47) rfl (by kernel_rfl) (by kernel_rfl) (by kernel_rfl) (fun _ _ _ h => h) (Or.inl ⟨by rfl, ?y3_47⟩) (by assumption) ?r3_47
  case y3_47 => (intro w hSw; (try dsimp only at hSw); go_simp; try with_reducible rfl)
  (try simp only [Act.put, List.getElem_toArray, List.getElem_cons_zero, List.getElem_cons_succ, List.setIfInBounds_toArray, List.set_cons_zero, List.set_cons_succ])
  refine wpAnyH_take (i := 11) (v := ?v3_48) rfl (by kernel_rfl) (by kernel_rfl) (by kernel_rfl) (fun _ _ _ h => h) (Or.inl ⟨by rfl, ?y3_48⟩) (by assumption) ?r3_48
  case y3_48 => (intro w hSw; (try dsimp only at hSw); go_simp; try with_reducible rfl)
  (try simp only [Act.put, List.getElem_toArray, List.getElem_cons_zero, List.getElem_cons_succ, List.setIfInBounds_toArray, List.set_cons_zero, List.set_cons_succ])
  refine wpAnyH_ready (rs := [12]) (by kernel_rfl) (by simp) ?_
  refine AllReadyH.cons rfl (fun K hK => ?_) AllReadyH.nil
  go_simp
  refine (HRow.out _).mono ?_
  rintro e w2 ⟨pv, gv, rfl, _, _, hV, k2⟩
  replace kd := kd.trans k2
  have HS2 := Lib.hid (HS.out _ kd pv gv hV)
  clear hV k2
  go_wp2_with fail
  refine hK.out _ _ ?s3_49 (fun hHeld => ?_)
  case s3_49 => ((try dsimp only) <;> (first | exact ⟨kd.cell0 c0, kd.cell0 c1, kd.cell0 c2, kd.cell0 c3, kd.cell0 c4⟩))
  clear hK K
  (try simp only [Act.put, List.getElem_toArray, List.getElem_cons_zero, List.getElem_cons_succ, List.setIfInBounds_toArray, List.set_cons_zero, List.set_cons_succ])
  refine wpAnyH_ready (rs := [13]) (by kernel_rfl) (by simp) ?_
  refine AllReadyH.cons rfl (fun K hK => ?_) AllReadyH.nil
  go_simp
  refine HS2.out.mono ?_
  rintro e w3 ⟨rfl, k3⟩
  replace kd := kd.trans k3
  go_wp2_with fail
  refine hK.out _ _ ?s3_50 (fun hHeld => ?_)
  case s3_50 => ((try dsimp only) <;> (first | exact ⟨kd.cell0 c0, kd.cell0 c1, kd.cell0 c2, kd.cell0 c3, kd.cell0 c4⟩))
  clear hK K
  (try simp only [Act.put, List.getElem_toArray, List.getElem_cons_zero, List.getElem_cons_succ, List.setIfInBounds_toArray, List.set_cons_zero, List.set_cons_succ])
  refine wpAnyH_take (i := 14) (v := ?v3_51) rfl (by kernel_rfl) (by kernel_rfl) (by kernel_rfl) (fun _ _ _ h => h) (Or.inl ⟨by rfl, ?y3_51⟩) (by assumption) ?r3_51
  case y3_51 => (intro w hSw; (try dsimp only at hSw); go_simp; try with_reducible rfl)
  (try simp only [Act.put, List.getElem_toArray, List.getElem_cons_zero, List.getElem_cons_succ, List.setIfInBounds_toArray, List.set_cons_zero, List.set_cons_succ])
  refine wpAnyH_take (i := 15) (v := ?v3_52) rfl (by kernel_rfl) (by kernel_rfl) (by kernel_rfl) (fun _ _ _ h => h) (Or.inl ⟨by rfl, ?y3_52⟩) (by assumption) ?r3_52
  case y3_52 => (intro w hSw; (try dsimp only at hSw); go_simp; try with_reducible rfl)
  (try simp only [Act.put, List.getElem_toArray, List.getElem_cons_zero, List.getElem_cons_succ, List.setIfInBounds_toArray, List.set_cons_zero, List.set_cons_succ])
  refine wpAnyH_done (by kernel_rfl) ?_ _
  refine NoPanic.normal ?_
  go_wp2_with fail
  go_ret
  exact ⟨rfl, kd⟩

def TakePost (w : World) (p : Nat) (s : UInt32) (nK P z : Nat) (M : Mtx) (tk : Nat) (Fl : List Nat) (q : Rw) (e : Ending) (w' : World) : Prop :=
  ((red M q).x = 0 ∧ e = .returned (.bool false) ∧ Keeps [] w w') ∨
  ((red M q).x ≠ 0 ∧ e = .returned (.bool true) ∧ ∃ Fl', De w' p s nK P z (mAdd (nK + P) M q) (tk + 1) Fl' ∧ (∀ x ∈ Fl', x ∈ Fl ∨ w.heap.size ≤ x) ∧ Keeps Fl w w' ∧ w'.cell? ⟨p, 6, none⟩ = some (.int .u32 0))

theorem mAdd_ech {n z : Nat} {M : Mtx} (h : Ech n z M) {r : Rw} (hr : r.x < 2 ^ n) (hd : r.d.length = z) : Ech n z (mAdd n M r) := by
  unfold mAdd
  by_cases e : (red M r).x = 0
  · rw [if_pos e]; exact h
  · rw [if_neg e]
    obtain ⟨h1, h2⟩ := red_len h hr hd
    obtain ⟨a, ha, hf, hb1, hb2⟩ := firstB_some h1 e
    rw [hf, Int.toNat_natCast]
    exact madd_ech h h1 h2 ha hb1 hb2 (fun i p hp => red_clear h r hp)

set_option maxRecDepth 100000 in
set_option maxHeartbeats 1600000 in
theorem dtakebad_calls {w : World} {p : Nat} {s : UInt32} {nK P z : Nat} {M : Mtx} {tk : Nat} {Fl : List Nat} (h : De w p s nK P z M tk Fl) (hp : PmI nK P z) (id : UInt32) (a : Option Addr) (m c : Nat) (hm : m ≠ z) :
    Calls Tryz.prog 40 #[P0 p, B32 id, .slice a m c] w fun e w' => e = .returned (.bool false) ∧ Keeps [] w w' := by
  obtain ⟨pm, Fm, d, v, hb, hM, he, _⟩ := h
  have c0 := hb.cell' (i := 0) rfl
  have c1 := hb.cell' (i := 1) rfl
  have c2 := hb.cell' (i := 2) rfl
  have c3 := hb.cell' (i := 3) rfl
  have c4 := hb.cell' (i := 4) rfl
  have HRow := Lib.hid (fun w => row_calls (w := w) s nK P z hp.k1 hp.k2 hp.p2 hp.z1 hp.z2 id)
  have HS := Lib.hid (fun (w' : World) (k : Keeps [] w w') (pv : Nat) => maddbad_calls (hM.keepsNil k) (P0 pv) a m c hm)
  generalize rowN s nK P id = X at *
  clear hb hM he hp hm
  go_enter Tryz.func40, Tryz.ntmps40
  go_wp2_with fail
  refine wp_region_noPanic ?_
  refine wp_region_held_drew (S := (fun w' => w'.cell? ⟨p, 0, none⟩ = some (B32 s) ∧ w'.cell? ⟨p, 1, none⟩ = some (.int .i64 nK) ∧ w'.cell? ⟨p, 2, none⟩ = some (.int .i64 P) ∧ w'.cell? ⟨p, 3, none⟩ = some (.int .i64 z) ∧ w'.cell? ⟨p, 4, none⟩ = some (P0 pm))) (by kernel_rfl) ⟨c0, c1, c2, c3, c4⟩ (fun hHeld => ?_)
  have kd : Keeps [] w w.drew := (Keeps.refl [] w).drew
  refine wpAnyH_take (i := 0) (v := ?v4_53) rfl (by kernel_rfl) (by kernel_rfl) (by kernel_rfl) (fun _ _ _ h => h) (Or.inl ⟨by rfl, ?y4_53⟩) (by assumption) ?r4_53
  case y4_53 => (intro w hSw; (try dsimp only at hSw); go_simp; try with_reducible rfl)
  (try simp only [Act.put, List.getElem_toArray, List.getElem_cons_zero, List.getElem_cons_succ, List.setIfInBounds_toArray, List.set_cons_zero, List.set_cons_succ])
  refine wpAnyH_take (i := 1) (v := ?v4_54) rfl (by kernel_rfl) (by kernel_rfl) (by kernel_rfl) (fun _ _ _ h => h) (Or.inl ⟨by rfl, ?y4_54⟩) (by assumption) ?r4_54
  case y4_54 => (intro w hSw; (try dsimp only at hSw); go_simp; try with_reducible rfl)
  (try simp only [Act.put, List.getElem_toArray, List.getElem_cons_zero, List.getElem_cons_succ, List.setIfInBounds_toArray, List.set_cons_zero, List.set_cons_succ])
  refine wpAnyH_take (i := 2) (v := ?v4_55) rfl (by kernel_rfl) (by kernel_rfl) (by kernel_rfl) (fun _ _ _ h => h) (Or.inl ⟨by rfl, ?y4_55⟩) (by assumption) ?r4_55
  case y4_55 => (intro w hSw; (try dsimp only at hSw); go_simp; try with_reducible rfl)
  (try simp only [Act.put, List.getElem_toArray, List.getElem_cons_zero, List.getElem_cons_succ, List.setIfInBounds_toArray, List.set_cons_zero, List.set_cons_succ])
  refine wpAnyH_take (i := 3) (v := ?v4_56) rfl (by kernel_rfl) (by kernel_rfl) (by kernel_rfl) (fun _ _ _ h => h) (Or.inl ⟨by rfl, ?y4_56⟩) (by assumption) ?r4_56
  case y4_56 => (intro w hSw; (try dsimp only at hSw); go_simp; try with_reducible rfl)
  (try simp only [Act.put, List.getElem_toArray, List.getElem_cons_zero, List.getElem_cons_succ, List.setIfInBounds_toArray, List.set_cons_zero, List.set_cons_succ])
  refine wpAnyH_take (i := 4) (v := ?v4_57) rfl (by kernel_rfl) (by kernel_rfl) (by kernel_rfl) (fun _ _ _ h => h) (Or.inl ⟨by rfl, ?y4_57⟩) (by assumption) ?r4_57
  case y4_57 => (intro w hSw; (try dsimp only at hSw); go_simp; try with_reducible rfl)
  (try simp only [Act.put, List.getElem_toArray, List.getElem_cons_zero, List.getElem_cons_succ, List.setIfInBounds_toArray, List.set_cons_zero, List.set_cons_succ])
  refine wpAnyH_take (i := 5) (v := ?v4_58) rfl (by kernel_rfl) (by kernel_rfl) (by kernel_rfl) (fun _ _ _ h => h) (Or.inl ⟨by rfl, ?y4_58⟩) (by assumption) ?r4_58
  case y4_58 => (intro w hSw; (try dsimp only at hSw); go_simp; try with_reducible rfl)
  (try simp only [Act.put, List.getElem_toArray, List.getElem_cons_zero, List.getElem_cons_succ, List.setIfInBounds_toArray, List.set_cons_zero, List.set_cons_succ])
  refine wpAnyH_take (i := 6) (v := ?v4_59) rfl (by kernel_rfl) (by kernel_rfl) (by kernel_rfl) (fun _ _ _ h => h) (Or.inl ⟨by rfl, ?y4_59⟩) (by assumption) ?r4_59
  case y4_59 => (intro w hSw; (try dsimp only at hSw); go_simp; try with_reducible rfl)
  (try simp only [Act.put, List.getElem_toArray, List.getElem_cons_zero, List.getElem_cons_succ, List.setIfInBounds_toArray, List.set_cons_zero, List.set_cons_succ])
  refine wpAnyH_take (i := 7) (v := ?v4_60) rfl (by kernel_rfl) (by kernel_rfl) (by kernel_rfl) (fun _ _ _ h => h) (Or.inl ⟨by rfl, ?y4_60⟩) (by assumption) ?r4_60
  case y4_60 => (intro w hSw; (try dsimp only at hSw); go_simp; try with_reducible rfl)
  (try simp only [Act.put, List.getElem_toArray, List.getElem_cons_zero, List.getElem_cons_succ, List.setIfInBounds_toArray, List.set_cons_zero, List.set_cons_succ])
  refine wpAnyH_take (i := 8) (v := ?v4_61) rfl (by kernel_rfl) (by kernel_rfl) (by kernel_rfl) (fun _ _ _ h => h) (Or.inl ⟨by rfl, ?y4_61⟩) (by assumption) ?r4_61
  case y4_61 => (intro w hSw; (try dsimp only at hSw); go_simp; try with_reducible rfl)
  (try simp only [Act.put, List.getElem_toArray, List.getElem_cons_zero, List.getElem_cons_succ, List.setIfInBounds_toArray, List.set_cons_zero, List.set_cons_succ])
  refine wpAnyH_take (i := 9) (v := ?v4_62) rfl (by kernel_rfl) (by kernel_rfl) (by kernel_rfl) (fun _ _ _ h => h) (Or.inl ⟨by rfl, ?y4_62⟩) (by assumption) ?r4_62
  case y4_62 => (intro w hSw; (try dsimp only at hSw); go_simp; try with_reducible rfl)
  (try simp only [Act.put, List.getElem_toArray, List.getElem_cons_zero, List.getElem_cons_succ, List.setIfInBounds_toArray, List.set_cons_zero, List.set_cons_succ])
  refine wpAnyH_take (i := 10) (v := ?v4_63) rfl (by kernel_rfl) (by kernel_rfl) (by kernel_rfl) (fun _ _ _ h => h) (Or.inl ⟨by rfl, ?y4_63⟩) (by assumption) ?r4_63
  case y4_63 => (intro w hSw; (try dsimp only at hSw); go_simp; try with_reducible rfl)
  (try simp only [Act.put, List.getElem_toArray, List.getElem_cons_zero, List.getElem_cons_succ, List.setIfInBounds_toArray, List.set_cons_zero, List.set_cons_succ])
  refine wpAnyH_take (i := 11) (v := ?v4_64) rfl (by kernel_rfl) (by kernel_rfl) (by kernel_rfl) (fun _ _ _ h => h) (Or.inl ⟨by rfl, ?y4_64⟩) (by assumption) ?r4_64
  case y4_64 => (intro w hSw; (try dsimp only at hSw); go_simp; try with_reducible rfl)
  (try simp only [Act.put, List.getElem_toArray, List.getElem_cons_zero, List.getElem_cons_succ, List.setIfInBounds_toArray, List.set_cons_zero, List.set_cons_succ])
  refine wpAnyH_take (i := 13) (v := ?v4_65) rfl (by kernel_rfl) (by kernel_rfl) (by kernel_rfl) (fun _ _ _ h => h) (Or.inl ⟨by rfl, ?y4_65⟩) (by assumption) ?r4_65
  case y4_65 => (intro w hSw; (try dsimp only at hSw); go_simp; try with_reducible rfl)
  (try simp only [Act.put, List.getElem_toArray, List.getElem_cons_zero, List.getElem_cons_succ, List.setIfInBounds_toArray, List.set_cons_zero, List.set_cons_succ])
  refine wpAnyH_ready (rs := [12]) (by kernel_rfl) (by simp) ?_
  refine AllReadyH.cons rfl (fun K hK => ?_) AllReadyH.nil
  go_simp
  refine (HRow.out _).mono ?_
  rintro e w2 ⟨pv, gv, rfl, _, _, hV, k2⟩
  replace kd := kd.trans k2
  have HS2 := Lib.hid (HS.out _ kd pv)
  clear hV k2
  go_wp2_with fail
  refine hK.out _ _ ?s4_66 (fun hHeld => ?_)
  case s4_66 => ((try dsimp only) <;> (first | exact ⟨kd.cell0 c0, kd.cell0 c1, kd.cell0 c2, kd.cell0 c3, kd.cell0 c4⟩))
  clear hK K
  (try simp only [Act.put, List.getElem_toArray, List.getElem_cons_zero, List.getElem_cons_succ, List.setIfInBounds_toArray, List.set_cons_zero, List.set_cons_succ])
  refine wpAnyH_ready (rs := [14]) (by kernel_rfl) (by simp) ?_
  refine AllReadyH.cons rfl (fun K hK => ?_) AllReadyH.nil
  go_simp
  refine HS2.out.mono ?_
  rintro e w' ⟨rfl, rfl⟩
  go_wp2_with fail
  refine hK.out _ _ ?s4_67 (fun hHeld => ?_)
  case s4_67 => ((try dsimp only) <;> (first | exact ⟨kd.cell0 c0, kd.cell0 c1, kd.cell0 c2, kd.cell0 c3, kd.cell0 c4⟩))
  clear hK K
  (try simp only [Act.put, List.getElem_toArray, List.getElem_cons_zero, List.getElem_cons_succ, List.setIfInBounds_toArray, List.set_cons_zero, List.set_cons_succ])
  refine wpAnyH_take (i := 15) (v := ?v4_68) rfl (by kernel_rfl) (by kernel_rfl) (by kernel_rfl) (fun _ _ _ h => h) (Or.inl ⟨by rfl, ?y4_68⟩) (by assumption) ?r4_68
  case y4_68 => (intro w hSw; (try dsimp only at hSw); go_simp; try with_reducible rfl)
  (try simp only [Act.put, List.getElem_toArray, List.getElem_cons_zero, List.getElem_cons_succ, List.setIfInBounds_toArray, List.set_cons_zero, List.set_cons_succ])
  refine wpAnyH_take (i := 16) (v := ?v4_69) rfl (by kernel_rfl) (by kernel_rfl) (by kernel_rfl) (fun _ _ _ h => h) (Or.inl ⟨by rfl, ?y4_69⟩) (by assumption) ?r4_69
  case y4_69 => (intro w hSw; (try dsimp only at hSw); go_simp; try with_reducible rfl)
  (try simp only [Act.put, List.getElem_toArray, List.getElem_cons_zero, List.getElem_cons_succ, List.setIfInBounds_toArray, List.set_cons_zero, List.set_cons_succ])
  refine wpAnyH_done (by kernel_rfl) ?_ _
  refine NoPanic.normal ?_
  go_wp2_with fail
  go_ret
  exact ⟨rfl, kd⟩

set_option maxRecDepth 100000 in
set_option maxHeartbeats 1600000 in
theorem dtake_calls {w : World} {p : Nat} {s : UInt32} {nK P z : Nat} {M : Mtx} {tk : Nat} {Fl : List Nat} (h : De w p s nK P z M tk Fl) (hp : PmI nK P z) (ht : TzAt w) (htk : tk ≤ 1000000) (id : UInt32) {a : Option Addr} {c : Nat} {l : List UInt8} (hl : Rd w a l) (hlz : l.length = z) :
    Calls Tryz.prog 40 #[P0 p, B32 id, .slice a z c] w (TakePost w p s nK P z M tk Fl ⟨rowN s nK P id, l⟩) := by
  unfold TakePost
  obtain ⟨pm, Fm, d, v, hb, hM, he, hfl, hnp, ho⟩ := h
  have c0 := hb.cell' (i := 0) rfl
  have c1 := hb.cell' (i := 1) rfl
  have c2 := hb.cell' (i := 2) rfl
  have c3 := hb.cell' (i := 3) rfl
  have c4 := hb.cell' (i := 4) rfl
  have HRow := Lib.hid (fun w => row_calls (w := w) s nK P z hp.k1 hp.k2 hp.p2 hp.z1 hp.z2 id)
  have HS := Lib.hid (fun (w' : World) (k : Keeps [] w w') (pv gv : Nat) (hv : VecAt w' pv gv (nK + P) (rowN s nK P id)) => madd_calls (c := c) (hM.keepsNil k) he (ht.keeps k (by simp)) hv.vc (hl.keepsNil k) hlz)
  have hech := mAdd_ech he (r := ⟨rowN s nK P id, l⟩) (rowN_lt s nK P id) hlz
  have hfull : rank M = nK + P → (red M ⟨rowN s nK P id, l⟩).x = 0 := fun hr => by
    have h1 := (red_len he (r := ⟨rowN s nK P id, l⟩) (rowN_lt s nK P id) hlz).1
    apply Nat.eq_of_testBit_eq
    intro i
    rw [Nat.zero_testBit]
    by_cases hi : i < nK + P
    · obtain ⟨q, hq⟩ := full_at (by rw [hr, he.l]) (i := i) (by rw [he.l]; exact hi)
      exact red_clear he _ hq
    · exact bit_ge h1 (by omega)
  unfold AddPost at HS
  generalize (⟨rowN s nK P id, l⟩ : Rw) = q at *
  generalize rowN s nK P id = X at *
  have HB := Lib.hid hb
  have HM := Lib.hid hM
  have Hech := Lib.hid hech
  have Hfull := Lib.hid hfull
  have Hfl := Lib.hid hfl
  have Hnp := Lib.hid hnp
  have Ho := Lib.hid ho
  have hpl := hb.lt
  clear hb hM he hp hl hlz hech hfull hfl hnp ho ht
  go_enter Tryz.func40, Tryz.ntmps40
  go_wp2_with fail
  refine wp_region_noPanic ?_
  refine wp_region_held_drew (S := (fun w' => w'.cell? ⟨p, 0, none⟩ = some (B32 s) ∧ w'.cell? ⟨p, 1, none⟩ = some (.int .i64 nK) ∧ w'.cell? ⟨p, 2, none⟩ = some (.int .i64 P) ∧ w'.cell? ⟨p, 3, none⟩ = some (.int .i64 z) ∧ w'.cell? ⟨p, 4, none⟩ = some (P0 pm))) (by kernel_rfl) ⟨c0, c1, c2, c3, c4⟩ (fun hHeld => ?_)
  have kd : Keeps [] w w.drew := (Keeps.refl [] w).drew
  refine wpAnyH_take (i := 0) (v := ?v5_70) rfl (by kernel_rfl) (by kernel_rfl) (by kernel_rfl) (fun _ _ _ h => h) (Or.inl ⟨by rfl, ?y5_70⟩) (by assumption) ?r5_70
  case y5_70 => (intro w hSw; (try dsimp only at hSw); go_simp; try with_reducible rfl)
  (try simp only [Act.put, List.getElem_toArray, List.getElem_cons_zero, List.getElem_cons_succ, List.setIfInBounds_toArray, List.set_cons_zero, List.set_cons_succ])
  refine wpAnyH_take (i := 1) (v := ?v5_71) rfl (by kernel_rfl) (by kernel_rfl) (by kernel_rfl) (fun _ _ _ h => h) (Or.inl ⟨by rfl, ?y5_71⟩) (by assumption) ?r5_71
  case y5_71 => (intro w hSw; (try dsimp only at hSw); go_simp; try with_reducible rfl)
  (try simp only [Act.put, List.getElem_toArray, List.getElem_cons_zero, List.getElem_cons_succ, List.setIfInBounds_toArray, List.set_cons_zero, List.set_cons_succ])
  refine wpAnyH_take (i := 2) (v := ?v5_72) rfl (by kernel_rfl) (by kernel_rfl) (by kernel_rfl) (fun _ _ _ h => h) (Or.inl ⟨by rfl, ?y5_72⟩) (by assumption) ?r5_72
  case y5_72 => (intro w hSw; (try dsimp only at hSw); go_simp; try with_reducible rfl)
  (try simp only [Act.put, List.getElem_toArray, List.getElem_cons_zero, List.getElem_cons_succ, List.setIfInBounds_toArray, List.set_cons_zero, List.set_cons_succ])
  refine wpAnyH_take (i := 3) (v := ?v5_73) rfl (by kernel_rfl) (by kernel_rfl) (by kernel_rfl) (fun _ _ _ h => h) (Or.inl ⟨by rfl, ?y5_73⟩) (by assumption) ?r5_73
  case y5_73 => (intro w hSw; (try dsimp only at hSw); go_simp; try with_reducible rfl)
  (try simp only [Act.put, List.getElem_toArray, List.getElem_cons_zero, List.getElem_cons_succ, List.setIfInBounds_toArray, List.set_cons_zero, List.set_cons_succ])
  refine wpAnyH_take (i := 4) (v := ?v5_74) rfl (by kernel_rfl) (by kernel_rfl) (by kernel_rfl) (fun _ _ _ h => h) (Or.inl ⟨by rfl, ?y5_74⟩) (by assumption) ?r5_74
  case y5_74 => (intro w hSw; (try dsimp only at hSw); go_simp; try with_reducible rfl)
  (try simp only [Act.put, List.getElem_toArray, List.getElem_cons_zero, List.getElem_cons_succ, List.setIfInBounds_toArray, List.set_cons_zero, List.set_cons_succ])
  refine wpAnyH_take (i := 5) (v := ?v5_75) rfl (by kernel_rfl) (by kernel_rfl) (by kernel_rfl) (fun _ _ _ h => h) (Or.inl ⟨by rfl, ?y5_75⟩) (by assumption) ?r5_75
  case y5_75 => (intro w hSw; (try dsimp only at hSw); go_simp; try with_reducible rfl)
  (try simp only [Act.put, List.getElem_toArray, List.getElem_cons_zero, List.getElem_cons_succ, List.setIfInBounds_toArray, List.set_cons_zero, List.set_cons_succ])
  refine wpAnyH_take (i := 6) (v := ?v5_76) rfl (by kernel_rfl) (by kernel_rfl) (by kernel_rfl) (fun _ _ _ h => h) (Or.inl ⟨by rfl, ?y5_76⟩) (by assumption) ?r5_76
  case y5_76 => (intro w hSw; (try dsimp only at hSw); go_simp; try with_reducible rfl)
  (try simp only [Act.put, List.getElem_toArray, List.getElem_cons_zero, List.getElem_cons_succ, List.setIfInBounds_toArray, List.set_cons_zero, List.set_cons_succ])
  refine wpAnyH_take (i := 7) (v := ?v5_77) rfl (by kernel_rfl) (by kernel_rfl) (by kernel_rfl) (fun _ _ _ h => h) (Or.inl ⟨by rfl, ?y5_77⟩) (by assumption) ?r5_77
  case y5_77 => (intro w hSw; (try dsimp only at hSw); go_simp; try with_reducible rfl)
  (try simp only [Act.put, List.getElem_toArray, List.getElem_cons_zero, List.getElem_cons_succ, List.setIfInBounds_toArray, List.set_cons_zero, List.set_cons_succ])
  refine wpAnyH_take (i := 8) (v := ?v5_78) rfl (by kernel_rfl) (by kernel_rfl) (by kernel_rfl) (fun _ _ _ h => h) (Or.inl ⟨by rfl, ?y5_78⟩) (by assumption) ?r5_78
  case y5_78 => (intro w hSw; (try dsimp only at hSw); go_simp; try with_reducible rfl)
  (try simp only [Act.put, List.getElem_toArray, List.getElem_cons_zero, List.getElem_cons_succ, List.setIfInBounds_toArray, List.set_cons_zero, List.set_cons_succ])
  refine wpAnyH_take (i := 9) (v := ?v5_79) rfl (by kernel_rfl) (by kernel_rfl) (by kernel_rfl) (fun _ _ _ h => h) (Or.inl ⟨by rfl, ?y5_79⟩) (by assumption) ?r5_79
  case y5_79 => (intro w hSw; (try dsimp only at hSw); go_simp; try with_reducible rfl)
  (try simp only [Act.put, List.getElem_toArray, List.getElem_cons_zero, List.getElem_cons_succ, List.setIfInBounds_toArray, List.set_cons_zero, List.set_cons_succ])
  refine wpAnyH_take (i := 10) (v := ?v5_80) rfl (by kernel_rfl) (by kernel_rfl) (by kernel_rfl) (fun _ _ _ h => h) (Or.inl ⟨by rfl, ?y5_80⟩) (by assumption) ?r5_80
  case y5_80 => (intro w hSw; (try dsimp only at hSw); go_simp; try with_reducible rfl)
  (try simp only [Act.put, List.getElem_toArray, List.getElem_cons_zero, List.getElem_cons_succ, List.setIfInBounds_toArray, List.set_cons_zero, List.set_cons_succ])
  refine wpAnyH_take (i := 11) (v := ?v5_81) rfl (by kernel_rfl) (by kernel_rfl) (by kernel_rfl) (fun _ _ _ h => h) (Or.inl ⟨by rfl, ?y5_81⟩) (by assumption) ?r5_81
  case y5_81 => (intro w hSw; (try dsimp only at hSw); go_simp; try with_reducible rfl)
  (try simp only [Act.put, List.getElem_toArray, List.getElem_cons_zero, List.getElem_cons_succ, List.setIfInBounds_toArray, List.set_cons_zero, List.set_cons_succ])
  refine wpAnyH_take (i := 13) (v := ?v5_82) rfl (by kernel_rfl) (by kernel_rfl) (by kernel_rfl) (fun _ _ _ h => h) (Or.inl ⟨by rfl, ?y5_82⟩) (by assumption) ?r5_82
  case y5_82 => (intro w hSw; (try dsimp only at hSw); go_simp; try with_reducible rfl)
  (try simp only [Act.put, List.getElem_toArray, List.getElem_cons_zero, List.getElem_cons_succ, List.setIfInBounds_toArray, List.set_cons_zero, List.set_cons_succ])
  refine wpAnyH_ready (rs := [12]) (by kernel_rfl) (by simp) ?_
  refine AllReadyH.cons rfl (fun K hK => ?_) AllReadyH.nil
  go_simp
  refine (HRow.out _).mono ?_
  rintro e w2 ⟨pv, gv, rfl, _, _, hV, k2⟩
  replace kd := kd.trans k2
  have HS2 := Lib.hid (HS.out _ kd pv gv hV)
  clear hV k2
  go_wp2_with fail
  refine hK.out _ _ ?s5_83 (fun hHeld => ?_)
  case s5_83 => ((try dsimp only) <;> (first | exact ⟨kd.cell0 c0, kd.cell0 c1, kd.cell0 c2, kd.cell0 c3, kd.cell0 c4⟩))
  clear hK K
  (try simp only [Act.put, List.getElem_toArray, List.getElem_cons_zero, List.getElem_cons_succ, List.setIfInBounds_toArray, List.set_cons_zero, List.set_cons_succ])
  refine wpAnyH_ready (rs := [14]) (by kernel_rfl) (by simp) ?_
  refine AllReadyH.cons rfl (fun K hK => ?_) AllReadyH.nil
  go_simp
  refine HS2.out.mono ?_
  intro e w3 hpost
  have hk3 : Keeps Fm w2 w3 := by
    rcases hpost with ⟨_, _, k⟩ | ⟨_, _, _, _, _, k⟩
    · exact k.nil
    · exact k
  obtain ⟨bb, rfl, hbb⟩ : ∃ bb : Bool, e = .returned (.bool bb) ∧ ((bb = false ∧ (red M q).x = 0 ∧ Keeps [] w2 w3) ∨ (bb = true ∧ (red M q).x ≠ 0 ∧ ∃ Fl', MxF w3 pm (nK + P) z (mAdd (nK + P) M q) Fl' ∧ ∀ x ∈ Fl', x ∈ Fm ∨ w2.heap.size ≤ x)) := by
    rcases hpost with ⟨h1, h2, k⟩ | ⟨h1, h2, F', h3, h4, k⟩
    · exact ⟨false, h2, .inl ⟨rfl, h1, k⟩⟩
    · exact ⟨true, h2, .inr ⟨rfl, h1, F', h3, h4⟩⟩
  have Hbb := Lib.hid hbb
  have hb3 := (HB.out.keeps kd (by simp)).keeps hk3 Hnp.out
  have e0 := hb3.cell' (i := 0) rfl
  have e1 := hb3.cell' (i := 1) rfl
  have e2 := hb3.cell' (i := 2) rfl
  have e3 := hb3.cell' (i := 3) rfl
  have e4 := hb3.cell' (i := 4) rfl
  have HB3 := Lib.hid hb3
  have Hkd := Lib.hid kd
  have Hk3 := Lib.hid hk3
  clear hpost hbb hb3 kd hk3 HS2 HS
  go_wp2_with fail
  refine hK.out _ _ ?s5_84 (fun hHeld => ?_)
  case s5_84 => ((try dsimp only) <;> (first | exact ⟨e0, e1, e2, e3, e4⟩))
  clear hK K
  (try simp only [Act.put, List.getElem_toArray, List.getElem_cons_zero, List.getElem_cons_succ, List.setIfInBounds_toArray, List.set_cons_zero, List.set_cons_succ])
  refine wpAnyH_take (i := 15) (v := ?v5_85) rfl (by kernel_rfl) (by kernel_rfl) (by kernel_rfl) (fun _ _ _ h => h) (Or.inl ⟨by rfl, ?y5_85⟩) (by assumption) ?r5_85
  case y5_85 => (intro w hSw; (try dsimp only at hSw); go_simp; try with_reducible rfl)
  (try simp only [Act.put, List.getElem_toArray, List.getElem_cons_zero, List.getElem_cons_succ, List.setIfInBounds_toArray, List.set_cons_zero, List.set_cons_succ])
  refine wpAnyH_take (i := 16) (v := ?v5_86) rfl (by kernel_rfl) (by kernel_rfl) (by kernel_rfl) (fun _ _ _ h => h) (Or.inl ⟨by rfl, ?y5_86⟩) (by assumption) ?r5_86
  case y5_86 => (intro w hSw; (try dsimp only at hSw); go_simp; try with_reducible rfl)
  (try simp only [Act.put, List.getElem_toArray, List.getElem_cons_zero, List.getElem_cons_succ, List.setIfInBounds_toArray, List.set_cons_zero, List.set_cons_succ])
  refine wpAnyH_done (by kernel_rfl) ?_ _
  refine NoPanic.normal ?_
  clear c0 c1 c2 c3 c4 e0 e1 e2 e3 e4
  have hs2 := Hkd.out.size
  rcases Hbb.out with ⟨rfl, hx, k3⟩ | ⟨rfl, hx, F', hM', hF'⟩
  · have HX := Lib.hid hx
    have HK3 := Lib.hid k3
    clear hx k3 Hbb
    go_wp2_with fail
    go_ret
    exact .inl ⟨HX.out, rfl, Hkd.out.trans HK3.out⟩
  · have HX := Lib.hid hx
    have HM3 := Lib.hid hM'
    have HF' := Lib.hid hF'
    have HA := Lib.hid (iadd_calls (i := 5) _ _ HB3.out tk rfl (by omega))
    clear hx hM' hF' Hbb
    go_wp2_with fail
    refine HA.out.mono ?_
    rintro e w6 ⟨rfl, hw6⟩
    have Hw6 := Lib.hid hw6
    clear hw6
    go_wp2_with fail
    go_ret
    have hw6 := Hw6.out
    have hpF : p ∉ F' := fun hp' => by
      rcases HF'.out p hp' with h | h
      · exact Hnp.out h
      · omega
    have k6 : Keeps [p] w3 w6 := by rw [hw6]; exact (Keeps.refl [p] w3).setCell (by simp) _
    have hfl := Hfl.out
    have hnf : ¬ rank M = nK + P := fun h => HX.out (Hfull.out h)
    refine .inr ⟨HX.out, rfl, p :: F', ⟨pm, F', d, v, ?_, HM3.out.keeps k6 (fun x hx => by simp only [List.mem_singleton] at hx; subst hx; exact hpF), Hech.out, rfl, hpF, ?_⟩, fun x hx => ?_, ?_, ?_⟩
    · rw [hw6]
      exact HB3.out.set 5 _
    · rcases Ho.out with ho | ⟨_, h2, _⟩
      · exact .inl ho
      · exact absurd h2 hnf
    · simp only [List.mem_cons] at hx
      rw [hfl]
      rcases hx with rfl | hx
      · exact .inl (by simp)
      · rcases HF'.out x hx with h | h
        · exact .inl (by simp [h])
        · exact .inr (by omega)
    · rw [hfl]
      refine (Hkd.out.trans' Hk3.out (T := p :: Fm) (by simp) (fun x hx => .inl (by simp [hx]))).trans' k6 (fun _ h => .inl h) (fun x hx => .inl ?_)
      simp only [List.mem_singleton] at hx
      simp [hx]
    · have hd0 : d = 0 := by
        rcases Ho.out with ⟨ho, _⟩ | ⟨_, h2, _⟩
        · exact ho
        · exact absurd h2 hnf
      subst hd0
      rw [hw6]
      exact (HB3.out.set 5 _).cell' (i := 6) rfl

end Go.Proofs.YtijhaeapoapgfaaGreatDoor
