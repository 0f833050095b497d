/-
  GrMac: the texts Mac, Mac2, Mf, one behind another.
-/
import Derived.Test.YtijhaeapoapgfaaGreatDoorGrHm
import Derived.Test.YtijhaeapoapgfaaGreatDoorGrPopT
import Derived.Deep.DeepCutAuto
import Derived.Deep.CutBlock
import Derived.Test.YtijhaeapoapgfaaGreatDoorGrRdZ
import Derived.Test.YtijhaeapoapgfaaGreatDoorGrCd2
import Derived.Deep.RegionHeld3
import Derived.Deep.DrawnRows
set_option linter.unusedVariables false
set_option linter.unusedSimpArgs false
namespace Go.Proofs.YtijhaeapoapgfaaGreatDoor
open Go.RowKit
attribute [local go_sem ↓] Go.wp_at_zero Go.wp_at_succ

/-- A key's block. -/
def padK (key : List UInt8) : List UInt8 := key ++ zer (64 - key.length)
def maskB (key : List UInt8) (b : UInt8) : List UInt8 := (padK key).map (· ^^^ b)
def tagM (key b : List UInt8) : List UInt8 := sha (maskB key 92 ++ sha (maskB key 54 ++ b))
theorem padK_len {key : List UInt8} (h : key.length ≤ 64) : (padK key).length = 64 := by simp [padK, zer]; omega
theorem maskB_len {key : List UInt8} (h : key.length ≤ 64) (b : UInt8) : (maskB key b).length = 64 := by unfold maskB; rw [List.length_map, padK_len h]
theorem tagM_len (key b : List UInt8) : (tagM key b).length = 32 := sha_len _

/-- The first k bytes changed. -/
def mkTo (D : List UInt8) (b : UInt8) (k : Nat) : List UInt8 := (D.take k).map (· ^^^ b) ++ D.drop k
theorem mkTo_zero (D : List UInt8) (b : UInt8) : mkTo D b 0 = D := by simp [mkTo]
theorem mkTo_all (D : List UInt8) (b : UInt8) : mkTo D b D.length = D.map (· ^^^ b) := by simp [mkTo]
theorem mkTo_at {D : List UInt8} {b : UInt8} {k : Nat} (hk : k < D.length) : (mkTo D b k)[k]? = some D[k] := by
  unfold mkTo
  rw [List.getElem?_append_right (by simp; omega)]
  simp [hk, Nat.min_eq_left (Nat.le_of_lt hk)]
theorem mkTo_set {D : List UInt8} {b : UInt8} {k : Nat} (hk : k < D.length) : (mkTo D b k).set k (D[k] ^^^ b) = mkTo D b (k + 1) := by
  unfold mkTo
  have hl : ((D.take k).map (· ^^^ b)).length = k := by simp; omega
  rw [List.drop_eq_getElem_cons hk, List.set_append_right _ _ (by rw [hl]; exact Nat.le_refl _), hl, Nat.sub_self, List.set_cons_zero, List.take_add_one, List.getElem?_eq_getElem hk, Option.toList_some, List.map_append, List.append_assoc]
  rfl

theorem zeros_drop (N k : Nat) : (zeros N).toList.drop k = List.replicate (N - k) (B8 0) := by simp [zeros, B8]
theorem zer_map (m : Nat) : (zer m).map B8 = List.replicate m (B8 0) := by simp [zer]
def MaskPost (w : World) (key : List UInt8) (b : UInt8) (e : Ending) (w' : World) : Prop :=
  ∃ g, e = .returned (.slice (some ⟨g, 0, none⟩) 64 64) ∧ w.heap.size ≤ g ∧ Blk w' g 5 ((maskB key b).map B8) ∧ Keeps [] w w'

set_option maxRecDepth 100000 in
set_option maxHeartbeats 1600000 in
theorem masked_calls {w : World} {a : Option Addr} {n c : Nat} {key : List UInt8} (hk : Rd w a key) (hn : key.length = n) (h64 : n ≤ 64) (h0 : a = none → key = [] ∧ c = 0) (b : UInt8) :
    Calls Tryz.prog 144 #[.slice a n c, B8 b] w (MaskPost w key b) := by
  have hmk : ∀ w : World, (Instr.makeSlice 22 (.int .i64 64) (.int .i64 64)).run Tryz.prog w = .ok (.slice (some ⟨w.heap.size, 0, none⟩) 64 64) (w.alloc (.cells (zeros 64) 5)) := fun w => make_u8 64 64 (Nat.le_refl _) (by omega) w
  have hg := Blk.newA w 5 (zeros 64)
  have kA : Keeps [] w (w.alloc (.cells (zeros 64) 5)) := (Keeps.refl [] w).alloc _
  obtain ⟨W1, hcp, hb1, k1⟩ : ∃ W', (Builtin.copy_ #[22, 22] 3 #[.slice (some ⟨w.heap.size, 0, none⟩) 64 64, .slice a n c]).run Tryz.prog (w.alloc (.cells (zeros 64) 5)) = .ok (.int .i64 n) W' ∧ Blk W' w.heap.size 5 ((padK key).map B8) ∧ Keeps [w.heap.size] (w.alloc (.cells (zeros 64) 5)) W' := by
    cases a with
    | none =>
      obtain ⟨rfl, rfl⟩ := h0 rfl
      simp only [List.length_nil] at hn
      subst hn
      refine ⟨_, run_copy_nil (P := Tryz.prog) _ 22 22 3 5 _ 64 64 Tryz.underlying22 (by rw [Tryz.size_u8]; rfl), ?_, Keeps.refl _ _⟩
      have he : (padK []).map B8 = (zeros 64).toList := rfl
      rw [he]
      exact hg
    | some x =>
      obtain ⟨W', e1, e2, e3⟩ := copy_run (w := w.alloc (.cells (zeros 64) 5)) (g := w.heap.size) (o := 0) (dLen := 64) (dCap := 64) (x := x) (sLen := n) (sCap := c) hg key (by show key.length = min n 64; omega) ((hk.keepsNil kA).news) (by simp [zeros]; omega)
      refine ⟨W', by rw [e1, hn], ?_, e3⟩
      have he : (padK key).map B8 = (zeros 64).toList.take 0 ++ key.map B8 ++ (zeros 64).toList.drop (0 + key.length) := by
        unfold padK
        rw [List.map_append, List.take_zero, List.nil_append, Nat.zero_add]
        rw [zeros_drop, zer_map]
      rw [he]
      exact e2
  have hD := padK_len (key := key) (by omega)
  have hM : maskB key b = mkTo (padK key) b 64 := by rw [← hD, mkTo_all]; rfl
  have hkW : Keeps [] w W1 := kA.trans' k1 (by simp) (fun x hx => .inr (by simp only [List.mem_singleton] at hx; omega))
  have hni : (n : Int) ≤ 64 := by omega
  have HB := Lib.hid hb1
  have HD := Lib.hid hD
  have HM := Lib.hid hM
  have HK := Lib.hid hkW
  clear hk h0 hg kA hb1 k1 hkW hM hD
  unfold MaskPost
  generalize padK key = D at *
  obtain ⟨g, hgd⟩ : ∃ g, g = w.heap.size := ⟨_, rfl⟩
  go_enter Tryz.func144, Tryz.ntmps144
  go_wp2_with fail
  rw [← hgd] at HB ⊢
  have Hg := Lib.hid hgd
  clear hgd hcp
  go_loopw [18] (fun i wr => ∃ k : Nat, k ≤ 64 ∧ i = .int .i64 k ∧ Blk wr g 5 ((mkTo D b k).map B8) ∧ Keeps [] w wr) (fun i _ => 64 - (intOf i).toNat)
  case atStart => exact ⟨0, Nat.zero_le _, rfl, by rw [mkTo_zero]; exact HB.out, HK.out⟩
  case round =>
    clear HB HK
    obtain ⟨k, hk, rfl, hG, hK⟩ := hrel
    by_cases hlt : k < 64
    · have hkD : k < D.length := by rw [HD.out]; exact hlt
      have cg : wr.cell? ⟨g, k, none⟩ = some (B8 D[k]) := hG.cell' (by rw [List.getElem?_map, mkTo_at hkD]; rfl)
      have fr := hG.frozen k
      have hS := hG.set k (B8 (D[k] ^^^ b))
      rw [map_set8, mkTo_set hkD] at hS
      have hx8 := xor_byte D[k] b
      have HS := Lib.hid hS
      have HK2 := Lib.hid (hK.setCell (p := ⟨g, k, none⟩) (.inr (by rw [Hg.out]; exact Nat.le_refl _)) (B8 (D[k] ^^^ b)))
      have hki : (k : Int) < 64 := by omega
      clear hG hS hK
      generalize D[k] = x at *
      go_wp2_with fail
      go_roundw
      case rel => exact ⟨k + 1, by omega, by go_num, HS.out, HK2.out⟩
      case measure => simp [intOf]; omega
    · obtain rfl : k = 64 := by omega
      have HG := Lib.hid hG
      have HK := Lib.hid hK
      clear hG hK
      go_wp2_with fail
      go_ret
      exact ⟨g, rfl, by rw [Hg.out]; exact Nat.le_refl _, by rw [HM.out]; exact HG.out, HK.out⟩

set_option maxRecDepth 100000 in
set_option maxHeartbeats 1600000 in
theorem tag_calls {w : World} {a : Option Addr} {n c : Nat} {key : List UInt8} (hk : Rd w a key) (hn : key.length = n) (h64 : n ≤ 64) (h0 : a = none → key = [] ∧ c = 0) {v : Value} {b : List UInt8} (hb : RdS w v b) (hbl : b.length ≤ 1000) :
    Calls Tryz.prog 98 #[.slice a n c, v] w (ClonePost w (tagM key b)) := by
  have HM1 : Hid (Calls Tryz.prog 144 #[.slice a n c, .int .u8 92] w (MaskPost w key 92)) := Lib.hid (masked_calls hk hn h64 h0 92)
  have HM2 := fun (W : World) (k : Keeps [] w W) => (masked_calls (hk.keepsNil k) hn h64 h0 54 : Calls Tryz.prog 144 #[.slice a n c, .int .u8 54] W (MaskPost W key 54))
  have l1 := maskB_len (key := key) (by omega) 92
  have l2 := maskB_len (key := key) (by omega) 54
  have HM2' := Lib.hid HM2
  have HB := Lib.hid hb
  have htd : tagM key b = sha (maskB key 92 ++ sha (maskB key 54 ++ b)) := rfl
  unfold MaskPost at HM1 HM2'
  generalize tagM key b = T at *
  generalize maskB key 92 = K1 at *
  generalize maskB key 54 = K2 at *
  have L1 := Lib.hid l1
  have L2 := Lib.hid l2
  have HT := Lib.hid htd
  obtain ⟨ab, cb, rfl, _⟩ := id hb
  clear hk h0 HM2 hb l1 l2 htd
  go_enter Tryz.func98, Tryz.ntmps98
  go_wp2_with fail
  refine HM1.out.mono ?_
  rintro e w1 ⟨g1, rfl, hg1, hb1, k1⟩
  have HB1 := Lib.hid hb1
  have HK1 := Lib.hid k1
  clear hb1 k1 HM1
  go_wp2_with fail
  refine (HM2'.out _ HK1.out).mono ?_
  rintro e w2 ⟨g2, rfl, hg2, hb2, k2⟩
  have kB : Keeps [] w2 (w2.alloc (.cells #[.slice (some ⟨g2, 0, none⟩) 64 64, .slice ab b.length cb] 22)) := (Keeps.refl [] w2).alloc _
  have hR := drows_calls (RdL.two (Blk.newA w2 22 #[.slice (some ⟨g2, 0, none⟩) 64 64, .slice ab b.length cb]) (RdS.blk (hb2.keeps kB (by simp)) L2.out (by omega)) ((HB.out.keepsNil (HK1.out.trans k2)).keepsNil kB)) (by simp) (by simp [L2.out]; omega)
  have HR := Lib.hid hR
  have HB12 := Lib.hid ((HB1.out.keeps k2 (by simp)).keeps kB (by simp))
  have HK2 := Lib.hid ((HK1.out.trans k2).trans kB)
  clear hb2 k2 kB hR HM2' HB1
  go_wp2_with fail
  generalize w2.alloc (.cells #[.slice (some ⟨g2, 0, none⟩) 64 64, .slice ab b.length cb] 22) = wb at *
  refine HR.out.mono ?_
  rintro e w3 ⟨v3, rfl, hO3, k3⟩
  have hS3 := hO3.rds
  obtain ⟨a3, c3, rfl, _⟩ := id hS3
  have hl3 : (sha [K2, b].flatten).length = 32 := sha_len _
  rw [hl3]
  have kC : Keeps [] w3 (w3.alloc (.cells #[.slice (some ⟨g1, 0, none⟩) 64 64, .slice a3 32 c3] 22)) := (Keeps.refl [] w3).alloc _
  have hS3' := hS3.keepsNil kC
  rw [hl3] at hS3'
  have hR2 := drows_calls (RdL.two (Blk.newA w3 22 #[.slice (some ⟨g1, 0, none⟩) 64 64, .slice a3 32 c3]) (RdS.blk ((HB12.out.keeps k3 (by simp)).keeps kC (by simp)) L1.out (by omega)) hS3') (by simp) (by simp [L1.out, sha_len])
  have HR2 := Lib.hid hR2
  have HK3 := Lib.hid ((HK2.out.trans k3).trans kC)
  clear hO3 k3 hS3 hS3' kC hR2 HR hl3
  go_wp2_with fail
  generalize w3.alloc (.cells #[.slice (some ⟨g1, 0, none⟩) 64 64, .slice a3 32 c3] 22) = wc at *
  refine HR2.out.mono ?_
  rintro e w4 ⟨v4, rfl, hO4, k4⟩
  have hs := HK3.out.size
  have HO4 := Lib.hid hO4
  have HK4 := Lib.hid k4
  clear hO4 k4 HR2
  go_wp2_with fail
  go_ret
  have hO := HO4.out
  simp only [List.flatten_cons, List.flatten_nil, List.append_nil] at hO
  exact ⟨_, rfl, by rw [HT.out]; exact hO.mono hs, HK3.out.trans HK4.out⟩

end Go.Proofs.YtijhaeapoapgfaaGreatDoor

set_option linter.unusedVariables false
set_option linter.unusedSimpArgs false
namespace Go.Proofs.YtijhaeapoapgfaaGreatDoor
open Go.RowKit
attribute [local go_sem ↓] Go.wp_at_zero Go.wp_at_succ

theorem zeros_eq (N : Nat) : (zeros N).toList = (zer N).map B8 := by simp [zeros, zer, B8]
theorem padK_at (key : List UInt8) (k : Nat) : (padK key).getD k 0 = if k < key.length then key.getD k 0 else 0 := by
  unfold padK
  rw [List.getD_eq_getElem?_getD]
  by_cases h1 : k < key.length
  · rw [if_pos h1, List.getElem?_append_left h1, List.getD_eq_getElem?_getD]
  · rw [if_neg h1, List.getElem?_append_right (by omega)]
    unfold zer
    rw [List.getElem?_replicate]
    split <;> rfl
theorem maskB_at {key : List UInt8} {b : UInt8} {k : Nat} (h : key.length ≤ 64) (hk : k < 64) : (maskB key b).getD k 0 = (if k < key.length then key.getD k 0 else 0) ^^^ b := by
  have hl : k < (padK key).length := by rw [padK_len h]; exact hk
  rw [← padK_at]
  unfold maskB
  rw [List.getD_eq_getElem?_getD, List.getElem?_map, List.getD_eq_getElem?_getD, List.getElem?_eq_getElem hl]
  rfl

set_option maxRecDepth 100000 in
set_option maxHeartbeats 1600000 in
theorem rtag_calls {w : World} {a : Option Addr} {n c : Nat} {key : List UInt8} (hk : Rd w a key) (hn : key.length = n) (h64 : n ≤ 64) {v : Value} {b : List UInt8} (hb : RdS w v b) (hbl : b.length ≤ 1000) :
    Calls Tryz.prog 50 #[.slice a n c, v] w (ClonePost w (tagM key b)) := by
  have hmk : ∀ w : World, (Instr.makeSlice 22 (.int .i64 64) (.int .i64 64)).run Tryz.prog w = .ok (.slice (some ⟨w.heap.size, 0, none⟩) 64 64) (w.alloc (.cells (zeros 64) 5)) := fun w => make_u8 64 64 (Nat.le_refl _) (by omega) w
  have l1 := maskB_len (key := key) (by omega) 92
  have l2 := maskB_len (key := key) (by omega) 54
  have m1 : ∀ k, k < 64 → (maskB key 92).getD k 0 = (if k < n then key.getD k 0 else 0) ^^^ 92 := fun k hk => by rw [← hn]; exact maskB_at (by omega) hk
  have m2 : ∀ k, k < 64 → (maskB key 54).getD k 0 = (if k < n then key.getD k 0 else 0) ^^^ 54 := fun k hk => by rw [← hn]; exact maskB_at (by omega) hk
  have htd : tagM key b = sha (maskB key 92 ++ sha (maskB key 54 ++ b)) := rfl
  generalize tagM key b = T at *
  generalize maskB key 92 = K1 at *
  generalize maskB key 54 = K2 at *
  have L1 := Lib.hid l1
  have L2 := Lib.hid l2
  have M1 := Lib.hid m1
  have M2 := Lib.hid m2
  have HT := Lib.hid htd
  have HB := Lib.hid hb
  have HKy := Lib.hid hk
  have Hn := Lib.hid hn
  have hni : (n : Int) ≤ 64 := by omega
  obtain ⟨ab, cb, rfl, _⟩ := id hb
  clear hk hb l1 l2 htd m1 m2
  go_enter Tryz.func50, Tryz.ntmps50
  go_upto_region 3 with (fail)
  go_cut [5, 6] (fun s5 s6 wx => ∃ g h, s5 = .slice (some ⟨g, 0, none⟩) 64 64 ∧ s6 = .slice (some ⟨h, 0, none⟩) 64 64 ∧ g ≠ h ∧ w.heap.size ≤ g ∧ w.heap.size ≤ h ∧ Blk wx g 5 (zeros 64).toList ∧ Blk wx h 5 (zeros 64).toList ∧ Keeps [] w wx)
  case first =>
    go_region
    all_goals go_wp2_with fail
    all_goals go_meet
    all_goals
      have hz0 := Blk.newA w 5 (zeros 64)
      have hz1 := Blk.newA (w.alloc (.cells (zeros 64) 5)) 5 (zeros 64)
      have hs1 : (w.alloc (.cells (zeros 64) 5)).heap.size = w.heap.size + 1 := by simp
      rw [hs1] at hz1
      have hz0' := hz0.alloc (.cells (zeros 64) 5)
      have kk : Keeps [] w ((w.alloc (.cells (zeros 64) 5)).alloc (.cells (zeros 64) 5)) := ((Keeps.refl [] w).alloc _).alloc _
    · first
        | exact ⟨_, _, rfl, rfl, by omega, by omega, by omega, hz0', hz1, kk⟩
        | exact ⟨_, _, rfl, rfl, by omega, by omega, by omega, hz0'.drew, hz1.drew, kk.drew⟩
    · first
        | exact ⟨_, _, rfl, rfl, by omega, by omega, by omega, hz1, hz0', kk⟩
        | exact ⟨_, _, rfl, rfl, by omega, by omega, by omega, hz1.drew, hz0'.drew, kk.drew⟩
  case rest =>
  obtain ⟨g, h, rfl, rfl, hgh, hgw, hhw, hbg, hbh, kc⟩ := hcut
  rw [zeros_eq] at hbg hbh
  have hz1 : half K2 0 = zer 64 := by rw [half_zero, L2.out]
  have hz2 : half K1 0 = zer 64 := by rw [half_zero, L1.out]
  rw [← hz1] at hbg
  rw [← hz2] at hbh
  have HG := Lib.hid hbg
  have HH := Lib.hid hbh
  have HK := Lib.hid kc
  clear hz1 hz2 hbg hbh kc hmk
  go_wp2_with fail
  go_loopw [16] (fun i wr => ∃ k : Nat, k ≤ 64 ∧ i = .int .i64 k ∧ Blk wr g 5 ((half K2 k).map B8) ∧ Blk wr h 5 ((half K1 k).map B8) ∧ Keeps [] w wr) (fun i _ => 64 - (intOf i).toNat)
  case atStart => exact ⟨0, Nat.zero_le _, rfl, HG.out, HH.out, HK.out⟩
  case round =>
    clear HG HH HK
    obtain ⟨k, hk, rfl, hG, hH, hK⟩ := hrel
    by_cases hlt : k < 64
    · have e2 := M2.out k hlt
      have e1 := M1.out k hlt
      have s2 := half_set K2 (k := k) (by rw [L2.out]; exact hlt)
      have s1 := half_set K1 (k := k) (by rw [L1.out]; exact hlt)
      have fr2 := hG.frozen k
      have fr1 := hH.frozen k
      have hki : (k : Int) < 64 := by omega
      have cG : ∃ y, wr.cell? ⟨g, k, none⟩ = some y := ⟨_, hG.cell' (List.getElem?_eq_getElem (by rw [List.length_map, half_len _ (by rw [L2.out]; omega), L2.out]; exact hlt))⟩
      have cH : ∃ y, wr.cell? ⟨h, k, none⟩ = some y := ⟨_, hH.cell' (List.getElem?_eq_getElem (by rw [List.length_map, half_len _ (by rw [L1.out]; omega), L1.out]; exact hlt))⟩
      obtain ⟨yG, cG⟩ := cG
      obtain ⟨yH, cH⟩ := cH
      obtain ⟨x, hx⟩ : ∃ x : UInt8, x = if k < n then key.getD k 0 else 0 := ⟨_, rfl⟩
      rw [← hx] at e1 e2
      rw [e2] at s2
      rw [e1] at s1
      have hA := hG.set k (B8 (x ^^^ 54))
      rw [map_set8, s2] at hA
      have kA := (Keeps.refl [g] wr).setCell (p := ⟨g, k, none⟩) (.inl (by simp)) (B8 (x ^^^ 54))
      have hH' := hH.keeps kA (by simpa using fun e => hgh e.symm)
      have fr1' := hH'.frozen k
      have hBk := hH'.set k (B8 (x ^^^ 92))
      rw [map_set8, s1] at hBk
      have kB := (Keeps.refl [h] (wr.setCell ⟨g, k, none⟩ (B8 (x ^^^ 54)))).setCell (p := ⟨h, k, none⟩) (.inl (by simp)) (B8 (x ^^^ 92))
      have hA' := hA.keeps kB (by simpa using hgh)
      have hK2 := (hK.setCell (p := ⟨g, k, none⟩) (.inr hgw) (B8 (x ^^^ 54))).setCell (p := ⟨h, k, none⟩) (.inr hhw) (B8 (x ^^^ 92))
      have hx1 : bits .xor .u8 (x.toNat : Int) 54 = ((x ^^^ 54).toNat : Int) := xor_byte x 54
      have hx2 : bits .xor .u8 (x.toNat : Int) 92 = ((x ^^^ 92).toNat : Int) := xor_byte x 92
      have HA := Lib.hid hA'
      have HBk := Lib.hid hBk
      have HK2 := Lib.hid hK2
      by_cases hkn : k < n
      · rw [if_pos hkn] at hx
        obtain ⟨b0, o0, rfl, ck⟩ := (HKy.out.keepsNil hK) k (key[k]'(by rw [Hn.out]; exact hkn)) (List.getElem?_eq_getElem _)
        have hx' : key[k]'(by rw [Hn.out]; exact hkn) = x := by rw [hx, List.getD_eq_getElem?_getD, List.getElem?_eq_getElem (by rw [Hn.out]; exact hkn)]; rfl
        rw [hx'] at ck
        have hkni : (k : Int) < (n : Int) := by omega
        clear hG hH hK e1 e2 s1 s2 hA kA hH' hBk kB hA' hK2 hx hx'
        go_wp2_with fail
        go_roundw
        case rel => exact ⟨k + 1, by omega, by go_num, HA.out, HBk.out, HK2.out⟩
        case measure => simp [intOf]; omega
      · rw [if_neg hkn] at hx
        subst hx
        have hkni : ¬ (k : Int) < (n : Int) := by omega
        clear hG hH hK e1 e2 s1 s2 hA kA hH' hBk kB hA' hK2
        go_wp2_with fail
        go_roundw
        case rel => exact ⟨k + 1, by omega, by go_num, HA.out, HBk.out, HK2.out⟩
        case measure => simp [intOf]; omega
    · obtain rfl : k = 64 := by omega
      have hf2 : half K2 64 = K2 := by rw [← L2.out, half_all]
      have hf1 : half K1 64 = K1 := by rw [← L1.out, half_all]
      rw [hf2] at hG
      rw [hf1] at hH
      have kB : Keeps [] wr (wr.alloc (.cells #[.slice (some ⟨g, 0, none⟩) 64 64, .slice ab b.length cb] 22)) := (Keeps.refl [] wr).alloc _
      have HJ := Lib.hid (rjoin_calls (RdL.two (Blk.newA wr 22 #[.slice (some ⟨g, 0, none⟩) 64 64, .slice ab b.length cb]) (RdS.blk (hG.keeps kB (by simp)) L2.out (by omega)) ((HB.out.keepsNil hK).keepsNil kB)) (by simp) (by simp [L2.out]; omega))
      have HH := Lib.hid (hH.keeps kB (by simp))
      have HKb := Lib.hid (hK.trans kB)
      clear hG hH hK kB hf1 hf2
      go_wp2_with fail
      generalize wr.alloc (.cells #[.slice (some ⟨g, 0, none⟩) 64 64, .slice ab b.length cb] 22) = wb at *
      refine HJ.out.mono ?_
      rintro e w3 ⟨v3, rfl, hO3, k3⟩
      have hfl : [K2, b].flatten = K2 ++ b := by simp
      rw [hfl] at hO3
      have hl3 : (K2 ++ b).length = 64 + b.length := by rw [List.length_append, L2.out]
      obtain ⟨a3, c3, rfl, _, _, r3, r4, _⟩ := hO3.rds
      have HD := Lib.hid (rdigest_calls a3 (K2 ++ b).length c3 (K2 ++ b) r3 rfl (by omega) (fun h => ⟨by rw [(r4 h).1]; rfl, (r4 h).2⟩))
      have HH3 := Lib.hid (HH.out.keeps k3 (by simp))
      have HK3 := Lib.hid (HKb.out.trans k3)
      clear hO3 r3 r4 k3 HJ HH HKb hfl hl3
      generalize K2 ++ b = C at *
      go_wp2_with fail
      refine HD.out.mono ?_
      rintro e w4 ⟨v4, rfl, hO4, k4⟩
      have hS4 := hO4.rds
      obtain ⟨a4, c4, rfl, _⟩ := id hS4
      have hl4 : (sha C).length = 32 := sha_len _
      rw [hl4]
      have kC : Keeps [] w4 (w4.alloc (.cells #[.slice (some ⟨h, 0, none⟩) 64 64, .slice a4 32 c4] 22)) := (Keeps.refl [] w4).alloc _
      have hS4' := hS4.keepsNil kC
      rw [hl4] at hS4'
      have HJ2 := Lib.hid (rjoin_calls (RdL.two (Blk.newA w4 22 #[.slice (some ⟨h, 0, none⟩) 64 64, .slice a4 32 c4]) (RdS.blk ((HH3.out.keeps k4 (by simp)).keeps kC (by simp)) L1.out (by omega)) hS4') (by simp) (by simp [L1.out, sha_len]))
      have HK4 := Lib.hid ((HK3.out.trans k4).trans kC)
      clear hO4 hS4 hS4' k4 kC HH3 HK3 HD hl4
      go_wp2_with fail
      generalize w4.alloc (.cells #[.slice (some ⟨h, 0, none⟩) 64 64, .slice a4 32 c4] 22) = wc at *
      refine HJ2.out.mono ?_
      rintro e w5 ⟨v5, rfl, hO5, k5⟩
      have hfl : [K1, sha C].flatten = K1 ++ sha C := by simp
      rw [hfl] at hO5
      have hl5 : (K1 ++ sha C).length = 96 := by rw [List.length_append, L1.out, sha_len]
      obtain ⟨a5, c5, rfl, _, _, r5, r6, _⟩ := hO5.rds
      have HD2 := Lib.hid (rdigest_calls a5 (K1 ++ sha C).length c5 (K1 ++ sha C) r5 rfl (by omega) (fun h => ⟨by rw [(r6 h).1]; rfl, (r6 h).2⟩))
      have HK5 := Lib.hid (HK4.out.trans k5)
      clear hO5 r5 r6 k5 HJ2 HK4 hfl hl5
      generalize K1 ++ sha C = E at *
      go_wp2_with fail
      refine HD2.out.mono ?_
      rintro e w6 ⟨v6, rfl, hO6, k6⟩
      have HO6 := Lib.hid hO6
      have HK6 := Lib.hid k6
      clear hO6 k6 HD2
      go_wp2_with fail
      go_ret
      exact ⟨_, rfl, by rw [HT.out]; exact HO6.out.mono HK5.out.size, HK5.out.trans HK6.out⟩

end Go.Proofs.YtijhaeapoapgfaaGreatDoor

set_option linter.unusedVariables false
set_option linter.unusedSimpArgs false
namespace Go.Proofs.YtijhaeapoapgfaaGreatDoor
open Go.RowKit
attribute [local go_sem ↓] Go.wp_at_zero Go.wp_at_succ

/-- A manifest. -/
abbrev MfL (s v : UInt32) (n z P : Nat) (h : Value) : List Value := [B32 s, B32 v, .int .i64 n, .int .i64 z, .int .i64 P, h]
abbrev MfV (s v : UInt32) (n z P : Nat) (h : Value) : Value := .agg #[B32 s, B32 v, .int .i64 n, .int .i64 z, .int .i64 P, h]
/-- Numbers that may be. -/
structure MfOk (n z P nK : Nat) : Prop where
  n1 : 1 ≤ n
  n2 : n ≤ 512
  k1 : 1 ≤ nK
  k2 : nK ≤ 64
  p2 : P ≤ 16
  z1 : 1 ≤ z
  z2 : z ≤ 16
  c : bcount n z = nK
def OfPost (w : World) (s : UInt32) (nK P z : Nat) (e : Ending) (w' : World) : Prop := e = .returned (.tuple #[.agg #[B32 s, .int .i64 nK, .int .i64 P, .int .i64 z], .bool true]) ∧ Keeps [] w w'

set_option maxRecDepth 100000 in
set_option maxHeartbeats 1600000 in
theorem of_calls {w : World} (s v : UInt32) {n z P nK : Nat} (h : Value) (hm : MfOk n z P nK) :
    Calls Tryz.prog 31 #[MfV s v n z P h] w (OfPost w s nK P z) := by
  have hC := fun w => bcount_calls (w := w) n z hm.n2 hm.z1 hm.z2
  have hok : PmOk (nK : Int) (P : Int) (z : Int) = true := by have := hm.k1; have := hm.k2; have := hm.p2; have := hm.z1; have := hm.z2; simp [PmOk]; omega
  have hMy := fun w => may_calls (w := w) s nK P z
  simp only [hok] at hMy
  simp only [hm.c] at hC
  have HC := Lib.hid hC
  have HMy := Lib.hid hMy
  have hB0 := Blk.newA w 35 (MfL s v n z P h).toArray
  have hB := hB0.alloc (.cells #[.int .u32 0, .int .i64 0, .int .i64 0, .int .i64 0] 38)
  have hR := Blk.newA (w.alloc (.cells (MfL s v n z P h).toArray 35)) 38 #[.int .u32 0, .int .i64 0, .int .i64 0, .int .i64 0]
  rw [World.size_alloc] at hR
  have kA : Keeps [] w ((w.alloc (.cells (MfL s v n z P h).toArray 35)).alloc (.cells #[.int .u32 0, .int .i64 0, .int .i64 0, .int .i64 0] 38)) := ((Keeps.refl [] w).alloc _).alloc _
  have hsA : ((w.alloc (.cells (MfL s v n z P h).toArray 35)).alloc (.cells #[.int .u32 0, .int .i64 0, .int .i64 0, .int .i64 0] 38)).heap.size = w.heap.size + 1 + 1 := by simp
  clear hC hMy hok hm hB0
  go_enter Tryz.func31, Tryz.ntmps31
  go_upto_region 1 with (fail)
  generalize (w.alloc (.cells (MfL s v n z P h).toArray 35)).alloc (.cells #[.int .u32 0, .int .i64 0, .int .i64 0, .int .i64 0] 38) = w0 at *
  have c0 := hB.cell' (i := 0) rfl
  have c2 := hB.cell' (i := 2) rfl
  have c3 := hB.cell' (i := 3) rfl
  have c4 := hB.cell' (i := 4) rfl
  have HR := Lib.hid hR
  have HkA := Lib.hid kA
  clear hR hB kA
  go_cut [4] (fun s4 wx => ∃ q, s4 = .pointer (some ⟨q, 0, none⟩) ∧ w0.heap.size ≤ q ∧ Blk wx q 38 [B32 s, .int .i64 nK, .int .i64 P, .int .i64 z] ∧ Keeps [] w0 wx)
  case first =>
    have hal : Keeps [] w0 ((w0.alloc (.cells #[.int .u32 0, .int .i64 0, .int .i64 0, .int .i64 0] 38)).drew) := ((Keeps.refl [] w0).alloc _).drew
    have hW := (Blk.newA w0 38 #[B32 s, .int .i64 nK, .int .i64 P, .int .i64 z]).drew
    rw [hsA] at hW
    have kW : Keeps [] w0 ((w0.alloc (.cells #[B32 s, .int .i64 nK, .int .i64 P, .int .i64 z] 38)).drew) := ((Keeps.refl [] w0).alloc _).drew
    refine wp_region_noPanic ?_
    refine wp_region_held_drew (S := (fun w' => w'.cell? ⟨w.heap.size, 0, none⟩ = some (B32 s) ∧ w'.cell? ⟨w.heap.size, 2, none⟩ = some (.int .i64 n) ∧ w'.cell? ⟨w.heap.size, 3, none⟩ = some (.int .i64 z) ∧ w'.cell? ⟨w.heap.size, 4, none⟩ = some (.int .i64 P))) (by kernel_rfl) ⟨c0, c2, c3, c4⟩ (fun hHeld => ?_)
    refine wpAnyH_take (i := 0) (v := ?v1_1) rfl (by kernel_rfl) (by kernel_rfl) (by kernel_rfl) (fun _ _ _ h => h) (Or.inl ⟨by rfl, ?y1_1⟩) (by assumption) ?r1_1
    case y1_1 => (intro w hSw; (try dsimp only at hSw); go_simp; try with_reducible rfl)
    (try simp only [Act.put, List.getElem_toArray, List.getElem_cons_zero, List.getElem_cons_succ, List.setIfInBounds_toArray, List.set_cons_zero, List.set_cons_succ])
    refine wpAnyH_take (i := 1) (v := ?v1_2) rfl (by kernel_rfl) (by kernel_rfl) (by kernel_rfl) (fun _ _ _ h => h) (Or.inl ⟨by rfl, ?y1_2⟩) (by assumption) ?r1_2
    case y1_2 => (intro w hSw; (try dsimp only at hSw); go_simp; try with_reducible rfl)
    (try simp only [Act.put, List.getElem_toArray, List.getElem_cons_zero, List.getElem_cons_succ, List.setIfInBounds_toArray, List.set_cons_zero, List.set_cons_succ])
    refine wpAnyH_take (i := 2) (v := ?v1_3) rfl (by kernel_rfl) (by kernel_rfl) (by kernel_rfl) (fun _ _ _ h => h) (Or.inl ⟨by rfl, ?y1_3⟩) (by assumption) ?r1_3
    case y1_3 => (intro w hSw; (try dsimp only at hSw); go_simp; try with_reducible rfl)
    (try simp only [Act.put, List.getElem_toArray, List.getElem_cons_zero, List.getElem_cons_succ, List.setIfInBounds_toArray, List.set_cons_zero, List.set_cons_succ])
    refine wpAnyH_take (i := 3) (v := ?v1_4) rfl (by kernel_rfl) (by kernel_rfl) (by kernel_rfl) (fun _ _ _ h => h) (Or.inl ⟨by rfl, ?y1_4⟩) (by assumption) ?r1_4
    case y1_4 => (intro w hSw; (try dsimp only at hSw); go_simp; try with_reducible rfl)
    (try simp only [Act.put, List.getElem_toArray, List.getElem_cons_zero, List.getElem_cons_succ, List.setIfInBounds_toArray, List.set_cons_zero, List.set_cons_succ])
    refine wpAnyH_take (i := 4) (v := ?v1_5) rfl (by kernel_rfl) (by kernel_rfl) (by kernel_rfl) (fun _ _ _ h => h) (Or.inl ⟨by rfl, ?y1_5⟩) (by assumption) ?r1_5
    case y1_5 => (intro w hSw; (try dsimp only at hSw); go_simp; try with_reducible rfl)
    (try simp only [Act.put, List.getElem_toArray, List.getElem_cons_zero, List.getElem_cons_succ, List.setIfInBounds_toArray, List.set_cons_zero, List.set_cons_succ])
    refine wpAnyH_take (i := 5) (v := ?v1_6) rfl (by kernel_rfl) (by kernel_rfl) (by kernel_rfl) (fun _ _ _ h => h) (Or.inl ⟨by rfl, ?y1_6⟩) (by assumption) ?r1_6
    case y1_6 => (intro w hSw; (try dsimp only at hSw); go_simp; try with_reducible rfl)
    (try simp only [Act.put, List.getElem_toArray, List.getElem_cons_zero, List.getElem_cons_succ, List.setIfInBounds_toArray, List.set_cons_zero, List.set_cons_succ])
    refine wpAnyH_take (i := 7) (v := ?v1_7) rfl (by kernel_rfl) (by kernel_rfl) (by kernel_rfl) (fun _ _ _ h => h) (Or.inl ⟨by rfl, ?y1_7⟩) (by assumption) ?r1_7
    case y1_7 => (intro w hSw; (try dsimp only at hSw); go_simp; try with_reducible rfl)
    (try simp only [Act.put, List.getElem_toArray, List.getElem_cons_zero, List.getElem_cons_succ, List.setIfInBounds_toArray, List.set_cons_zero, List.set_cons_succ])
    refine wpAnyH_take (i := 8) (v := ?v1_8) rfl (by kernel_rfl) (by kernel_rfl) (by kernel_rfl) (fun _ _ _ h => h) (Or.inl ⟨by rfl, ?y1_8⟩) (by assumption) ?r1_8
    case y1_8 => (intro w hSw; (try dsimp only at hSw); go_simp; try with_reducible rfl)
    (try simp only [Act.put, List.getElem_toArray, List.getElem_cons_zero, List.getElem_cons_succ, List.setIfInBounds_toArray, List.set_cons_zero, List.set_cons_succ])
    refine wpAnyH_take (i := 9) (v := ?v1_9) rfl (by kernel_rfl) (by kernel_rfl) (by kernel_rfl) (fun _ _ _ h => h) (Or.inl ⟨by rfl, ?y1_9⟩) (by assumption) ?r1_9
    case y1_9 => (intro w hSw; (try dsimp only at hSw); go_simp; try with_reducible rfl)
    (try simp only [Act.put, List.getElem_toArray, List.getElem_cons_zero, List.getElem_cons_succ, List.setIfInBounds_toArray, List.set_cons_zero, List.set_cons_succ])
    refine wpAnyH_take (i := 10) (v := ?v1_10) rfl (by kernel_rfl) (by kernel_rfl) (by kernel_rfl) (fun _ _ _ h => h) (Or.inl ⟨by rfl, ?y1_10⟩) (by assumption) ?r1_10
    case y1_10 => (intro w hSw; (try dsimp only at hSw); go_simp; try with_reducible rfl)
    (try simp only [Act.put, List.getElem_toArray, List.getElem_cons_zero, List.getElem_cons_succ, List.setIfInBounds_toArray, List.set_cons_zero, List.set_cons_succ])
    refine wpAnyH_ready (rs := [6, 12]) (by kernel_rfl) (by simp) ?_
    refine AllReadyH.cons rfl (fun K hK => ?ba) (AllReadyH.cons rfl (fun K hK => ?bb) AllReadyH.nil)
    case ba =>
      go_simp
      refine (HC.out _).mono ?_
      rintro e w' ⟨rfl, rfl⟩
      go_wp2_with fail
      refine hK.out _ _ ?s1_11 (fun hHeld => ?_)
      case s1_11 => ((try dsimp only) <;> (first | exact ⟨c0, c2, c3, c4⟩))
      clear hK K
      (try simp only [Act.put, List.getElem_toArray, List.getElem_cons_zero, List.getElem_cons_succ, List.setIfInBounds_toArray, List.set_cons_zero, List.set_cons_succ])
      refine wpAnyH_take (i := 11) (v := ?v1_12) rfl (by kernel_rfl) (by kernel_rfl) (by kernel_rfl) (fun _ _ _ h => h) (Or.inl ⟨by rfl, ?y1_12⟩) (by assumption) ?r1_12
      case y1_12 => (intro w hSw; (try dsimp only at hSw); go_simp; try with_reducible rfl)
      (try simp only [Act.put, List.getElem_toArray, List.getElem_cons_zero, List.getElem_cons_succ, List.setIfInBounds_toArray, List.set_cons_zero, List.set_cons_succ])
      refine wpAnyH_ready (rs := [12]) (by kernel_rfl) (by simp) ?_
      refine AllReadyH.cons rfl (fun K hK => ?_) AllReadyH.nil
      go_simp
      refine hK.out _ _ ?s1_13 (fun hHeld => ?_)
      case s1_13 => ((try dsimp only) <;> (first | exact ⟨hal.cell0 c0, hal.cell0 c2, hal.cell0 c3, hal.cell0 c4⟩))
      clear hK K
      (try simp only [Act.put, List.getElem_toArray, List.getElem_cons_zero, List.getElem_cons_succ, List.setIfInBounds_toArray, List.set_cons_zero, List.set_cons_succ])
      refine wpAnyH_ready (rs := [13]) (by kernel_rfl) (by simp) ?_
      refine AllReadyH.cons rfl (fun K hK => ?_) AllReadyH.nil
      go_simp
      refine hK.out _ _ ?s1_14 (fun hHeld => ?_)
      case s1_14 => ((try dsimp only) <;> (first | exact ⟨kW.cell0 c0, kW.cell0 c2, kW.cell0 c3, kW.cell0 c4⟩))
      clear hK K
      (try simp only [Act.put, List.getElem_toArray, List.getElem_cons_zero, List.getElem_cons_succ, List.setIfInBounds_toArray, List.set_cons_zero, List.set_cons_succ])
      refine wpAnyH_done (by kernel_rfl) ?_ _
      refine NoPanic.normal ?_
      go_wp2_with fail
      go_meet
      exact ⟨_, rfl, by omega, hW, kW⟩
    case bb =>
      go_simp
      refine hK.out _ _ ?s1_15 (fun hHeld => ?_)
      case s1_15 => ((try dsimp only) <;> (first | exact ⟨hal.cell0 c0, hal.cell0 c2, hal.cell0 c3, hal.cell0 c4⟩))
      clear hK K
      (try simp only [Act.put, List.getElem_toArray, List.getElem_cons_zero, List.getElem_cons_succ, List.setIfInBounds_toArray, List.set_cons_zero, List.set_cons_succ])
      refine wpAnyH_ready (rs := [6]) (by kernel_rfl) (by simp) ?_
      refine AllReadyH.cons rfl (fun K hK => ?_) AllReadyH.nil
      go_simp
      refine (HC.out _).mono ?_
      rintro e w' ⟨rfl, rfl⟩
      go_wp2_with fail
      refine hK.out _ _ ?s1_16 (fun hHeld => ?_)
      case s1_16 => ((try dsimp only) <;> (first | exact ⟨hal.cell0 c0, hal.cell0 c2, hal.cell0 c3, hal.cell0 c4⟩))
      clear hK K
      (try simp only [Act.put, List.getElem_toArray, List.getElem_cons_zero, List.getElem_cons_succ, List.setIfInBounds_toArray, List.set_cons_zero, List.set_cons_succ])
      refine wpAnyH_take (i := 11) (v := ?v1_17) rfl (by kernel_rfl) (by kernel_rfl) (by kernel_rfl) (fun _ _ _ h => h) (Or.inl ⟨by rfl, ?y1_17⟩) (by assumption) ?r1_17
      case y1_17 => (intro w hSw; (try dsimp only at hSw); go_simp; try with_reducible rfl)
      (try simp only [Act.put, List.getElem_toArray, List.getElem_cons_zero, List.getElem_cons_succ, List.setIfInBounds_toArray, List.set_cons_zero, List.set_cons_succ])
      refine wpAnyH_ready (rs := [13]) (by kernel_rfl) (by simp) ?_
      refine AllReadyH.cons rfl (fun K hK => ?_) AllReadyH.nil
      go_simp
      refine hK.out _ _ ?s1_18 (fun hHeld => ?_)
      case s1_18 => ((try dsimp only) <;> (first | exact ⟨kW.cell0 c0, kW.cell0 c2, kW.cell0 c3, kW.cell0 c4⟩))
      clear hK K
      (try simp only [Act.put, List.getElem_toArray, List.getElem_cons_zero, List.getElem_cons_succ, List.setIfInBounds_toArray, List.set_cons_zero, List.set_cons_succ])
      refine wpAnyH_done (by kernel_rfl) ?_ _
      refine NoPanic.normal ?_
      go_wp2_with fail
      go_meet
      exact ⟨_, rfl, by omega, hW, kW⟩
  case rest =>
  obtain ⟨q, rfl, hq, hb, kc⟩ := hcut
  have q0 := hb.cell' (i := 0) rfl
  have q1 := hb.cell' (i := 1) rfl
  have q2 := hb.cell' (i := 2) rfl
  have q3 := hb.cell' (i := 3) rfl
  have HB := Lib.hid hb
  have HK := Lib.hid kc
  clear c0 c2 c3 c4 hb kc
  go_wp2_with fail
  refine (HMy.out _).mono ?_
  rintro e w2 ⟨rfl, k2⟩
  have hR2 := HR.out.keeps (HK.out.trans k2) (by simp)
  have hB2 := HB.out.keeps k2 (by simp)
  have HK2 := Lib.hid (HkA.out.trans (HK.out.trans k2))
  clear q0 q1 q2 q3 k2
  have q0 := hB2.cell' (i := 0) rfl
  have q1 := hB2.cell' (i := 1) rfl
  have q2 := hB2.cell' (i := 2) rfl
  have q3 := hB2.cell' (i := 3) rfl
  have r0 := hR2.cell' (i := 0) rfl
  have r1 := hR2.cell' (i := 1) rfl
  have r2 := hR2.cell' (i := 2) rfl
  have r3 := hR2.cell' (i := 3) rfl
  have f0 := hR2.frozen 0
  have f1 := hR2.frozen 1
  have f2 := hR2.frozen 2
  have f3 := hR2.frozen 3
  have hR3 := hR2.put4 (B32 s) (.int .i64 nK) (.int .i64 P) (.int .i64 z)
  have K3 := Lib.hid (HK2.out.put4 (p := w.heap.size + 1) (.inr (by omega)) (B32 s) (.int .i64 nK) (.int .i64 P) (.int .i64 z))
  have e0 := hR3.cell' (i := 0) rfl
  have e1 := hR3.cell' (i := 1) rfl
  have e2 := hR3.cell' (i := 2) rfl
  have e3 := hR3.cell' (i := 3) rfl
  clear hR2 hB2 hR3
  go_wp2_with fail
  refine bodyPost_ret (v := .tuple #[.agg #[B32 s, .int .i64 nK, .int .i64 P, .int .i64 z], .bool true]) (by simp [results, Tryz.results31, go_sem, e0, e1, e2, e3]) rfl ?_
  exact ⟨rfl, K3.out⟩

theorem MfOk.q {n z P nK : Nat} (h : MfOk n z P nK) : ((n : Int) + (z : Int) - 1) / (z : Int) = (nK : Int) := by
  have hc := h.c
  have h1 := h.n1
  have h2 := h.k1
  unfold bcount at hc
  rw [if_neg (by omega)] at hc
  split at hc
  · rw [show (n : Int) + (z : Int) - 1 = ((n + z - 1 : Nat) : Int) from by omega, ← Int.natCast_ediv, hc]
  · omega

set_option maxRecDepth 100000 in
set_option maxHeartbeats 1600000 in
theorem rcount_calls {w : World} {n z P nK : Nat} (hm : MfOk n z P nK) :
    Calls Tryz.prog 46 #[.int .i64 n, .int .i64 z] w fun e w' => e = .returned (.int .i64 nK) ∧ w = w' := by
  have hq := hm.q
  have h1 : ¬ ((n : Int) < 1) := by have := hm.n1; omega
  have h2 : ¬ ((512 : Int) < (n : Int)) := by have := hm.n2; omega
  have h3 : ¬ ((z : Int) < 1) := by have := hm.z1; omega
  have h4 : ¬ ((16 : Int) < (z : Int)) := by have := hm.z2; omega
  have h5 : ¬ ((64 : Int) < (nK : Int)) := by have := hm.k2; omega
  have hz0 : (z : Int) ≠ 0 := by omega
  clear hm
  go_enter Tryz.func46, Tryz.ntmps46
  go_wp2_with fail
  go_ret
  exact ⟨rfl, rfl⟩

set_option maxRecDepth 100000 in
set_option maxHeartbeats 1600000 in
theorem rmay_calls {w : World} (s : UInt32) {n z P nK : Nat} (hm : MfOk n z P nK) :
    Calls Tryz.prog 47 #[.agg #[B32 s, .int .i64 nK, .int .i64 P, .int .i64 z]] w fun e w' => e = .returned (.bool true) ∧ Keeps [] w w' := by
  have h1 : (1 : Int) ≤ (nK : Int) := by have := hm.k1; omega
  have h2 : (nK : Int) ≤ 64 := by have := hm.k2; omega
  have h3 : (P : Int) ≤ 16 := by have := hm.p2; omega
  have h4 : (1 : Int) ≤ (z : Int) := by have := hm.z1; omega
  have h5 : (z : Int) ≤ 16 := by have := hm.z2; omega
  have h6 : (0 : Int) ≤ (P : Int) := by omega
  have hB := Blk.newA w 38 #[B32 s, .int .i64 nK, .int .i64 P, .int .i64 z]
  have kA : Keeps [] w (w.alloc (.cells #[B32 s, .int .i64 nK, .int .i64 P, .int .i64 z] 38)) := (Keeps.refl [] w).alloc _
  clear hm
  go_enter Tryz.func47, Tryz.ntmps47
  go_wp2_with fail
  go_ret
  exact ⟨rfl, kA⟩

set_option maxRecDepth 100000 in
set_option maxHeartbeats 1600000 in
theorem rparams_calls {w : World} (s v : UInt32) {n z P nK : Nat} (h : Value) (hm : MfOk n z P nK) :
    Calls Tryz.prog 12 #[MfV s v n z P h] w (OfPost w s nK P z) := by
  have hC := fun w => rcount_calls (w := w) hm
  have hMy := fun w => rmay_calls (w := w) s hm
  have HC := Lib.hid hC
  have HMy := Lib.hid hMy
  have hB0 := Blk.newA w 35 (MfL s v n z P h).toArray
  have hB := hB0.alloc (.cells #[.int .u32 0, .int .i64 0, .int .i64 0, .int .i64 0] 38)
  have hR := Blk.newA (w.alloc (.cells (MfL s v n z P h).toArray 35)) 38 #[.int .u32 0, .int .i64 0, .int .i64 0, .int .i64 0]
  rw [World.size_alloc] at hR
  have kA : Keeps [] w ((w.alloc (.cells (MfL s v n z P h).toArray 35)).alloc (.cells #[.int .u32 0, .int .i64 0, .int .i64 0, .int .i64 0] 38)) := ((Keeps.refl [] w).alloc _).alloc _
  have hsA : ((w.alloc (.cells (MfL s v n z P h).toArray 35)).alloc (.cells #[.int .u32 0, .int .i64 0, .int .i64 0, .int .i64 0] 38)).heap.size = w.heap.size + 1 + 1 := by simp
  clear hC hMy hm hB0
  go_enter Tryz.func12, Tryz.ntmps12
  go_upto_region 1 with (fail)
  generalize (w.alloc (.cells (MfL s v n z P h).toArray 35)).alloc (.cells #[.int .u32 0, .int .i64 0, .int .i64 0, .int .i64 0] 38) = w0 at *
  have c0 := hB.cell' (i := 0) rfl
  have c2 := hB.cell' (i := 2) rfl
  have c3 := hB.cell' (i := 3) rfl
  have c4 := hB.cell' (i := 4) rfl
  have HR := Lib.hid hR
  have HkA := Lib.hid kA
  clear hR hB kA
  go_cut [4] (fun s4 wx => ∃ q, s4 = .pointer (some ⟨q, 0, none⟩) ∧ w0.heap.size ≤ q ∧ Blk wx q 38 [B32 s, .int .i64 nK, .int .i64 P, .int .i64 z] ∧ Keeps [] w0 wx)
  case first =>
    have hal : Keeps [] w0 ((w0.alloc (.cells #[.int .u32 0, .int .i64 0, .int .i64 0, .int .i64 0] 38)).drew) := ((Keeps.refl [] w0).alloc _).drew
    have hW := (Blk.newA w0 38 #[B32 s, .int .i64 nK, .int .i64 P, .int .i64 z]).drew
    rw [hsA] at hW
    have kW : Keeps [] w0 ((w0.alloc (.cells #[B32 s, .int .i64 nK, .int .i64 P, .int .i64 z] 38)).drew) := ((Keeps.refl [] w0).alloc _).drew
    refine wp_region_noPanic ?_
    refine wp_region_held_drew (S := (fun w' => w'.cell? ⟨w.heap.size, 0, none⟩ = some (B32 s) ∧ w'.cell? ⟨w.heap.size, 2, none⟩ = some (.int .i64 n) ∧ w'.cell? ⟨w.heap.size, 3, none⟩ = some (.int .i64 z) ∧ w'.cell? ⟨w.heap.size, 4, none⟩ = some (.int .i64 P))) (by kernel_rfl) ⟨c0, c2, c3, c4⟩ (fun hHeld => ?_)
    refine wpAnyH_take (i := 0) (v := ?v2_19) rfl (by kernel_rfl) (by kernel_rfl) (by kernel_rfl) (fun _ _ _ h => h) (Or.inl ⟨by rfl, ?y2_19⟩) (by assumption) ?r2_19
    case y2_19 => (intro w hSw; (try dsimp only at hSw); go_simp; try with_reducible rfl)
    (try simp only [Act.put, List.getElem_toArray, List.getElem_cons_zero, List.getElem_cons_succ, List.setIfInBounds_toArray, List.set_cons_zero, List.set_cons_succ])
    refine wpAnyH_take (i := 1) (v := ?v2_20) rfl (by kernel_rfl) (by kernel_rfl) (by kernel_rfl) (fun _ _ _ h => h) (Or.inl ⟨by rfl, ?y2_20⟩) (by assumption) ?r2_20
    case y2_20 => (intro w hSw; (try dsimp only at hSw); go_simp; try with_reducible rfl)
    (try simp only [Act.put, List.getElem_toArray, List.getElem_cons_zero, List.getElem_cons_succ, List.setIfInBounds_toArray, List.set_cons_zero, List.set_cons_succ])
    refine wpAnyH_take (i := 2) (v := ?v2_21) rfl (by kernel_rfl) (by kernel_rfl) (by kernel_rfl) (fun _ _ _ h => h) (Or.inl ⟨by rfl, ?y2_21⟩) (by assumption) ?r2_21
    case y2_21 => (intro w hSw; (try dsimp only at hSw); go_simp; try with_reducible rfl)
    (try simp only [Act.put, List.getElem_toArray, List.getElem_cons_zero, List.getElem_cons_succ, List.setIfInBounds_toArray, List.set_cons_zero, List.set_cons_succ])
    refine wpAnyH_take (i := 3) (v := ?v2_22) rfl (by kernel_rfl) (by kernel_rfl) (by kernel_rfl) (fun _ _ _ h => h) (Or.inl ⟨by rfl, ?y2_22⟩) (by assumption) ?r2_22
    case y2_22 => (intro w hSw; (try dsimp only at hSw); go_simp; try with_reducible rfl)
    (try simp only [Act.put, List.getElem_toArray, List.getElem_cons_zero, List.getElem_cons_succ, List.setIfInBounds_toArray, List.set_cons_zero, List.set_cons_succ])
    refine wpAnyH_take (i := 4) (v := ?v2_23) rfl (by kernel_rfl) (by kernel_rfl) (by kernel_rfl) (fun _ _ _ h => h) (Or.inl ⟨by rfl, ?y2_23⟩) (by assumption) ?r2_23
    case y2_23 => (intro w hSw; (try dsimp only at hSw); go_simp; try with_reducible rfl)
    (try simp only [Act.put, List.getElem_toArray, List.getElem_cons_zero, List.getElem_cons_succ, List.setIfInBounds_toArray, List.set_cons_zero, List.set_cons_succ])
    refine wpAnyH_take (i := 5) (v := ?v2_24) rfl (by kernel_rfl) (by kernel_rfl) (by kernel_rfl) (fun _ _ _ h => h) (Or.inl ⟨by rfl, ?y2_24⟩) (by assumption) ?r2_24
    case y2_24 => (intro w hSw; (try dsimp only at hSw); go_simp; try with_reducible rfl)
    (try simp only [Act.put, List.getElem_toArray, List.getElem_cons_zero, List.getElem_cons_succ, List.setIfInBounds_toArray, List.set_cons_zero, List.set_cons_succ])
    refine wpAnyH_take (i := 7) (v := ?v2_25) rfl (by kernel_rfl) (by kernel_rfl) (by kernel_rfl) (fun _ _ _ h => h) (Or.inl ⟨by rfl, ?y2_25⟩) (by assumption) ?r2_25
    case y2_25 => (intro w hSw; (try dsimp only at hSw); go_simp; try with_reducible rfl)
    (try simp only [Act.put, List.getElem_toArray, List.getElem_cons_zero, List.getElem_cons_succ, List.setIfInBounds_toArray, List.set_cons_zero, List.set_cons_succ])
    refine wpAnyH_take (i := 8) (v := ?v2_26) rfl (by kernel_rfl) (by kernel_rfl) (by kernel_rfl) (fun _ _ _ h => h) (Or.inl ⟨by rfl, ?y2_26⟩) (by assumption) ?r2_26
    case y2_26 => (intro w hSw; (try dsimp only at hSw); go_simp; try with_reducible rfl)
    (try simp only [Act.put, List.getElem_toArray, List.getElem_cons_zero, List.getElem_cons_succ, List.setIfInBounds_toArray, List.set_cons_zero, List.set_cons_succ])
    refine wpAnyH_take (i := 9) (v := ?v2_27) rfl (by kernel_rfl) (by kernel_rfl) (by kernel_rfl) (fun _ _ _ h => h) (Or.inl ⟨by rfl, ?y2_27⟩) (by assumption) ?r2_27
    case y2_27 => (intro w hSw; (try dsimp only at hSw); go_simp; try with_reducible rfl)
    (try simp only [Act.put, List.getElem_toArray, List.getElem_cons_zero, List.getElem_cons_succ, List.setIfInBounds_toArray, List.set_cons_zero, List.set_cons_succ])
    refine wpAnyH_take (i := 10) (v := ?v2_28) rfl (by kernel_rfl) (by kernel_rfl) (by kernel_rfl) (fun _ _ _ h => h) (Or.inl ⟨by rfl, ?y2_28⟩) (by assumption) ?r2_28
    case y2_28 => (intro w hSw; (try dsimp only at hSw); go_simp; try with_reducible rfl)
    (try simp only [Act.put, List.getElem_toArray, List.getElem_cons_zero, List.getElem_cons_succ, List.setIfInBounds_toArray, List.set_cons_zero, List.set_cons_succ])
    refine wpAnyH_ready (rs := [6, 12]) (by kernel_rfl) (by simp) ?_
    refine AllReadyH.cons rfl (fun K hK => ?ba) (AllReadyH.cons rfl (fun K hK => ?bb) AllReadyH.nil)
    case ba =>
      go_simp
      refine (HC.out _).mono ?_
      rintro e w' ⟨rfl, rfl⟩
      go_wp2_with fail
      refine hK.out _ _ ?s2_29 (fun hHeld => ?_)
      case s2_29 => ((try dsimp only) <;> (first | exact ⟨c0, c2, c3, c4⟩))
      clear hK K
      (try simp only [Act.put, List.getElem_toArray, List.getElem_cons_zero, List.getElem_cons_succ, List.setIfInBounds_toArray, List.set_cons_zero, List.set_cons_succ])
      refine wpAnyH_take (i := 11) (v := ?v2_30) rfl (by kernel_rfl) (by kernel_rfl) (by kernel_rfl) (fun _ _ _ h => h) (Or.inl ⟨by rfl, ?y2_30⟩) (by assumption) ?r2_30
      case y2_30 => (intro w hSw; (try dsimp only at hSw); go_simp; try with_reducible rfl)
      (try simp only [Act.put, List.getElem_toArray, List.getElem_cons_zero, List.getElem_cons_succ, List.setIfInBounds_toArray, List.set_cons_zero, List.set_cons_succ])
      refine wpAnyH_ready (rs := [12]) (by kernel_rfl) (by simp) ?_
      refine AllReadyH.cons rfl (fun K hK => ?_) AllReadyH.nil
      go_simp
      refine hK.out _ _ ?s2_31 (fun hHeld => ?_)
      case s2_31 => ((try dsimp only) <;> (first | exact ⟨hal.cell0 c0, hal.cell0 c2, hal.cell0 c3, hal.cell0 c4⟩))
      clear hK K
      (try simp only [Act.put, List.getElem_toArray, List.getElem_cons_zero, List.getElem_cons_succ, List.setIfInBounds_toArray, List.set_cons_zero, List.set_cons_succ])
      refine wpAnyH_ready (rs := [13]) (by kernel_rfl) (by simp) ?_
      refine AllReadyH.cons rfl (fun K hK => ?_) AllReadyH.nil
      go_simp
      refine hK.out _ _ ?s2_32 (fun hHeld => ?_)
      case s2_32 => ((try dsimp only) <;> (first | exact ⟨kW.cell0 c0, kW.cell0 c2, kW.cell0 c3, kW.cell0 c4⟩))
      clear hK K
      (try simp only [Act.put, List.getElem_toArray, List.getElem_cons_zero, List.getElem_cons_succ, List.setIfInBounds_toArray, List.set_cons_zero, List.set_cons_succ])
      refine wpAnyH_done (by kernel_rfl) ?_ _
      refine NoPanic.normal ?_
      go_wp2_with fail
      go_meet
      exact ⟨_, rfl, by omega, hW, kW⟩
    case bb =>
      go_simp
      refine hK.out _ _ ?s2_33 (fun hHeld => ?_)
      case s2_33 => ((try dsimp only) <;> (first | exact ⟨hal.cell0 c0, hal.cell0 c2, hal.cell0 c3, hal.cell0 c4⟩))
      clear hK K
      (try simp only [Act.put, List.getElem_toArray, List.getElem_cons_zero, List.getElem_cons_succ, List.setIfInBounds_toArray, List.set_cons_zero, List.set_cons_succ])
      refine wpAnyH_ready (rs := [6]) (by kernel_rfl) (by simp) ?_
      refine AllReadyH.cons rfl (fun K hK => ?_) AllReadyH.nil
      go_simp
      refine (HC.out _).mono ?_
      rintro e w' ⟨rfl, rfl⟩
      go_wp2_with fail
      refine hK.out _ _ ?s2_34 (fun hHeld => ?_)
      case s2_34 => ((try dsimp only) <;> (first | exact ⟨hal.cell0 c0, hal.cell0 c2, hal.cell0 c3, hal.cell0 c4⟩))
      clear hK K
      (try simp only [Act.put, List.getElem_toArray, List.getElem_cons_zero, List.getElem_cons_succ, List.setIfInBounds_toArray, List.set_cons_zero, List.set_cons_succ])
      refine wpAnyH_take (i := 11) (v := ?v2_35) rfl (by kernel_rfl) (by kernel_rfl) (by kernel_rfl) (fun _ _ _ h => h) (Or.inl ⟨by rfl, ?y2_35⟩) (by assumption) ?r2_35
      case y2_35 => (intro w hSw; (try dsimp only at hSw); go_simp; try with_reducible rfl)
      (try simp only [Act.put, List.getElem_toArray, List.getElem_cons_zero, List.getElem_cons_succ, List.setIfInBounds_toArray, List.set_cons_zero, List.set_cons_succ])
      refine wpAnyH_ready (rs := [13]) (by kernel_rfl) (by simp) ?_
      refine AllReadyH.cons rfl (fun K hK => ?_) AllReadyH.nil
      go_simp
      refine hK.out _ _ ?s2_36 (fun hHeld => ?_)
      case s2_36 => ((try dsimp only) <;> (first | exact ⟨kW.cell0 c0, kW.cell0 c2, kW.cell0 c3, kW.cell0 c4⟩))
      clear hK K
      (try simp only [Act.put, List.getElem_toArray, List.getElem_cons_zero, List.getElem_cons_succ, List.setIfInBounds_toArray, List.set_cons_zero, List.set_cons_succ])
      refine wpAnyH_done (by kernel_rfl) ?_ _
      refine NoPanic.normal ?_
      go_wp2_with fail
      go_meet
      exact ⟨_, rfl, by omega, hW, kW⟩
  case rest =>
  obtain ⟨q, rfl, hq, hb, kc⟩ := hcut
  have q0 := hb.cell' (i := 0) rfl
  have q1 := hb.cell' (i := 1) rfl
  have q2 := hb.cell' (i := 2) rfl
  have q3 := hb.cell' (i := 3) rfl
  have HB := Lib.hid hb
  have HK := Lib.hid kc
  clear c0 c2 c3 c4 hb kc
  go_wp2_with fail
  refine (HMy.out _).mono ?_
  rintro e w2 ⟨rfl, k2⟩
  have hR2 := HR.out.keeps (HK.out.trans k2) (by simp)
  have hB2 := HB.out.keeps k2 (by simp)
  have HK2 := Lib.hid (HkA.out.trans (HK.out.trans k2))
  clear q0 q1 q2 q3 k2
  have q0 := hB2.cell' (i := 0) rfl
  have q1 := hB2.cell' (i := 1) rfl
  have q2 := hB2.cell' (i := 2) rfl
  have q3 := hB2.cell' (i := 3) rfl
  have r0 := hR2.cell' (i := 0) rfl
  have r1 := hR2.cell' (i := 1) rfl
  have r2 := hR2.cell' (i := 2) rfl
  have r3 := hR2.cell' (i := 3) rfl
  have f0 := hR2.frozen 0
  have f1 := hR2.frozen 1
  have f2 := hR2.frozen 2
  have f3 := hR2.frozen 3
  have hR3 := hR2.put4 (B32 s) (.int .i64 nK) (.int .i64 P) (.int .i64 z)
  have K3 := Lib.hid (HK2.out.put4 (p := w.heap.size + 1) (.inr (by omega)) (B32 s) (.int .i64 nK) (.int .i64 P) (.int .i64 z))
  have e0 := hR3.cell' (i := 0) rfl
  have e1 := hR3.cell' (i := 1) rfl
  have e2 := hR3.cell' (i := 2) rfl
  have e3 := hR3.cell' (i := 3) rfl
  clear hR2 hB2 hR3
  go_wp2_with fail
  refine bodyPost_ret (v := .tuple #[.agg #[B32 s, .int .i64 nK, .int .i64 P, .int .i64 z], .bool true]) (by simp [results, Tryz.results12, go_sem, e0, e1, e2, e3]) rfl ?_
  exact ⟨rfl, K3.out⟩

set_option maxRecDepth 100000 in
set_option maxHeartbeats 1600000 in
theorem mfmay_calls {w : World} (s v : UInt32) {n z P nK : Nat} (a : Option Addr) (c : Nat) (hm : MfOk n z P nK) :
    Calls Tryz.prog 37 #[MfV s v n z P (.slice a 32 c)] w fun e w' => e = .returned (.bool true) ∧ Keeps [] w w' := by
  have HO := Lib.hid (fun w => of_calls (w := w) s v (.slice a 32 c) hm)
  have hB0 := Blk.newA w 35 (MfL s v n z P (.slice a 32 c)).toArray
  have kA : Keeps [] w (w.alloc (.cells (MfL s v n z P (.slice a 32 c)).toArray 35)) := (Keeps.refl [] w).alloc _
  go_enter Tryz.func37, Tryz.ntmps37
  go_wp2_with fail
  generalize w.alloc (.cells (MfL s v n z P (.slice a 32 c)).toArray 35) = w0 at *
  refine (HO.out _).mono ?_
  rintro e w1 ⟨rfl, k1⟩
  have hB1 := (hB0.keeps k1 (by simp)).alloc (.cells #[B32 s, .int .i64 nK, .int .i64 P, .int .i64 z] 38)
  have c5 := hB1.cell' (i := 5) rfl
  have k2 : Keeps [] w1 (w1.alloc (.cells #[B32 s, .int .i64 nK, .int .i64 P, .int .i64 z] 38)) := (Keeps.refl [] w1).alloc _
  have HK := Lib.hid ((kA.trans k1).trans k2)
  clear hB0 hB1 kA k1 k2
  go_wp2_with fail
  go_ret
  exact ⟨rfl, HK.out⟩

set_option maxRecDepth 100000 in
set_option maxHeartbeats 1600000 in
theorem rmfmay_calls {w : World} (s v : UInt32) {n z P nK : Nat} (a : Option Addr) (c : Nat) (hm : MfOk n z P nK) :
    Calls Tryz.prog 11 #[MfV s v n z P (.slice a 32 c)] w fun e w' => e = .returned (.bool true) ∧ Keeps [] w w' := by
  have HO := Lib.hid (fun w => rparams_calls (w := w) s v (.slice a 32 c) hm)
  have hB0 := Blk.newA w 35 (MfL s v n z P (.slice a 32 c)).toArray
  have kA : Keeps [] w (w.alloc (.cells (MfL s v n z P (.slice a 32 c)).toArray 35)) := (Keeps.refl [] w).alloc _
  go_enter Tryz.func11, Tryz.ntmps11
  go_wp2_with fail
  generalize w.alloc (.cells (MfL s v n z P (.slice a 32 c)).toArray 35) = w0 at *
  refine (HO.out _).mono ?_
  rintro e w1 ⟨rfl, k1⟩
  have hB1 := (hB0.keeps k1 (by simp)).alloc (.cells #[B32 s, .int .i64 nK, .int .i64 P, .int .i64 z] 38)
  have c5 := hB1.cell' (i := 5) rfl
  have k2 : Keeps [] w1 (w1.alloc (.cells #[B32 s, .int .i64 nK, .int .i64 P, .int .i64 z] 38)) := (Keeps.refl [] w1).alloc _
  have HK := Lib.hid ((kA.trans k1).trans k2)
  clear hB0 hB1 kA k1 k2
  go_wp2_with fail
  go_ret
  exact ⟨rfl, HK.out⟩

end Go.Proofs.YtijhaeapoapgfaaGreatDoor
