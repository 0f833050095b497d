/-
  Mf3: manifests' bytes with their tags; frames; walked.
-/
import Derived.Test.YtijhaeapoapgfaaGreatDoorMf2
set_option linter.unusedVariables false
set_option linter.unusedSimpArgs false
namespace Go.Proofs.YtijhaeapoapgfaaGreatDoor
open Go.RowKit
attribute [local go_sem ↓] Go.wp_at_zero Go.wp_at_succ

theorem plainM_len {s v : UInt32} {n z P : Nat} {h : List UInt8} (hl : h.length = 32) : (plainM s v n z P h).length = 44 := by simp [plainM, be4, be2, hl]
/-- A manifest's bytes, and their tag. -/
def manM (key : List UInt8) (s v : UInt32) (n z P : Nat) (h : List UInt8) : List UInt8 := plainM s v n z P h ++ tagM key (plainM s v n z P h)
theorem manM_len {key : List UInt8} {s v : UInt32} {n z P : Nat} {h : List UInt8} (hl : h.length = 32) : (manM key s v n z P h).length = 76 := by unfold manM; rw [List.length_append, plainM_len hl, tagM_len]

set_option maxRecDepth 100000 in
set_option maxHeartbeats 1600000 in
theorem mbytes_calls {w : World} {ak : Option Addr} {nk ck : Nat} {key : List UInt8} (hk : Rd w ak key) (hkn : key.length = nk) (h64 : nk ≤ 64) (hk0 : ak = none → key = [] ∧ ck = 0) (s v : UInt32) {n z P nK : Nat} (hm : MfOk n z P nK) {a : Option Addr} {c : Nat} {h : List UInt8} (hh : RdS w (.slice a 32 c) h) (hl : h.length = 32) :
    Calls Tryz.prog 60 #[.slice ak nk ck, MfV s v n z P (.slice a 32 c)] w (PlainPost w (manM key s v n z P h)) := by
  have kA : Keeps [] w (w.alloc (.cells (MfL s v n z P (.slice a 32 c)).toArray 35)) := (Keeps.refl [] w).alloc _
  have hB0 := Blk.newA w 35 (MfL s v n z P (.slice a 32 c)).toArray
  have hP := plain_calls s v hm (hh.keepsNil kA) hl
  have hpl := plainM_len (s := s) (v := v) (n := n) (z := z) (P := P) hl
  have hmd : manM key s v n z P h = plainM s v n z P h ++ tagM key (plainM s v n z P h) := rfl
  unfold PlainPost at hP ⊢
  generalize manM key s v n z P h = T at *
  generalize plainM s v n z P h = Y at *
  have HP := Lib.hid hP
  have HT := Lib.hid hmd
  have Hl := Lib.hid hpl
  have HKy := Lib.hid hk
  clear hP hm hh hl hmd hpl hk
  go_enter Tryz.func60, Tryz.ntmps60
  have d0 := hB0.cell' (i := 0) rfl
  have d1 := hB0.cell' (i := 1) rfl
  have d2 := hB0.cell' (i := 2) rfl
  have d3 := hB0.cell' (i := 3) rfl
  have d4 := hB0.cell' (i := 4) rfl
  have d5 := hB0.cell' (i := 5) rfl
  go_wp2_with fail
  generalize w.alloc (.cells (MfL s v n z P (.slice a 32 c)).toArray 35) = w0 at *
  refine HP.out.mono ?_
  rintro e w1 ⟨v1, rfl, hO1, k1⟩
  have hR1 := hO1.rds
  obtain ⟨a1, c1, rfl, _⟩ := id hR1
  have k01 := kA.trans k1
  have hsz := kA.size
  have HO1 := Lib.hid (hO1.mono hsz)
  have HG := Lib.hid (tag_calls (HKy.out.keepsNil k01) hkn h64 hk0 hR1 (by rw [Hl.out]; omega))
  have HK1 := Lib.hid k01
  clear hO1 hR1 k1 k01 hk0 d0 d1 d2 d3 d4 d5 hB0 HP
  rw [Hl.out] at HG ⊢
  go_wp2_with fail
  refine HG.out.mono ?_
  rintro e w2 ⟨v2, rfl, hO2, k2⟩
  have hR2 := hO2.rds
  have hl2 := tagM_len key Y
  obtain ⟨a2, c2, rfl, _, _, r3, r4, _⟩ := hR2
  rw [hl2]
  have HO1' := Lib.hid (HO1.out.keeps k2 (by simp))
  rw [Hl.out] at HO1'
  have HR2 := Lib.hid r3
  have H2 := Lib.hid (show a2 = none → 32 = 0 ∧ c2 = 0 from fun h => by have := (r4 h).1; rw [this] at hl2; simp at hl2)
  have hB2 : w.heap.size ≤ w2.heap.size := (HK1.out.trans k2).size
  have HK2 := Lib.hid (HK1.out.trans k2)
  have hl1 : Y.length + 32 ≤ 140737488351232 := by rw [Hl.out]; omega
  have Hl2 := Lib.hid hl2
  clear hO2 r3 r4 k2 HG hl2
  go_wp2_with (at_builtin; (refine wpList_append_bytes rfl (.tmp 16) (.tmp 19) rfl HO1'.out rfl a2 32 c2 rfl HR2.out Hl2.out H2.out hl1 hB2 ?_); intro v3 w3 g1 g2 g3)
  go_ret2
  exact ⟨_, rfl, by rw [HT.out]; exact g1, HK2.out.grown g2 (fun y hy => .inr (HO1'.out.ge8 y hy))⟩

set_option maxRecDepth 100000 in
set_option maxHeartbeats 1600000 in
theorem rmbytes_calls {w : World} {ak : Option Addr} {nk ck : Nat} {key : List UInt8} (hk : Rd w ak key) (hkn : key.length = nk) (h64 : nk ≤ 64) (s v : UInt32) {n z P nK : Nat} (hm : MfOk n z P nK) {a : Option Addr} {c : Nat} {h : List UInt8} (hh : RdS w (.slice a 32 c) h) (hl : h.length = 32) :
    Calls Tryz.prog 13 #[.slice ak nk ck, MfV s v n z P (.slice a 32 c)] w (PlainPost w (manM key s v n z P h)) := by
  have kA : Keeps [] w (w.alloc (.cells (MfL s v n z P (.slice a 32 c)).toArray 35)) := (Keeps.refl [] w).alloc _
  have hB0 := Blk.newA w 35 (MfL s v n z P (.slice a 32 c)).toArray
  have hP := rplain_calls s v hm (hh.keepsNil kA) hl
  have hpl := plainM_len (s := s) (v := v) (n := n) (z := z) (P := P) hl
  have hmd : manM key s v n z P h = plainM s v n z P h ++ tagM key (plainM s v n z P h) := rfl
  unfold PlainPost at hP ⊢
  generalize manM key s v n z P h = T at *
  generalize plainM s v n z P h = Y at *
  have HP := Lib.hid hP
  have HT := Lib.hid hmd
  have Hl := Lib.hid hpl
  have HKy := Lib.hid hk
  clear hP hm hh hl hmd hpl hk
  go_enter Tryz.func13, Tryz.ntmps13
  have d0 := hB0.cell' (i := 0) rfl
  have d1 := hB0.cell' (i := 1) rfl
  have d2 := hB0.cell' (i := 2) rfl
  have d3 := hB0.cell' (i := 3) rfl
  have d4 := hB0.cell' (i := 4) rfl
  have d5 := hB0.cell' (i := 5) rfl
  go_wp2_with fail
  generalize w.alloc (.cells (MfL s v n z P (.slice a 32 c)).toArray 35) = w0 at *
  refine HP.out.mono ?_
  rintro e w1 ⟨v1, rfl, hO1, k1⟩
  have hR1 := hO1.rds
  obtain ⟨a1, c1, rfl, _⟩ := id hR1
  have k01 := kA.trans k1
  have HR1 := Lib.hid hR1
  have HG := Lib.hid (rtag_calls (c := ck) (HKy.out.keepsNil k01) hkn h64 hR1 (by rw [Hl.out]; omega))
  have HK1 := Lib.hid k01
  clear hO1 hR1 k1 k01 d0 d1 d2 d3 d4 d5 hB0 HP
  rw [Hl.out] at HG HR1 ⊢
  go_wp2_with fail
  refine HG.out.mono ?_
  rintro e w2 ⟨v2, rfl, hO2, k2⟩
  have hR2 := hO2.rds
  have hl2 := tagM_len key Y
  obtain ⟨a2, c2, rfl, _⟩ := id hR2
  rw [hl2] at hR2 ⊢
  have kB : Keeps [] w2 (w2.alloc (.cells #[.slice a1 44 c1, .slice a2 32 c2] 22)) := (Keeps.refl [] w2).alloc _
  have hJ := rjoin_calls (RdL.two (Blk.newA w2 22 #[.slice a1 44 c1, .slice a2 32 c2]) ((HR1.out.keepsNil k2).keepsNil kB) (hR2.keepsNil kB)) (by simp) (by simp [Hl.out, hl2])
  have hfl : [Y, tagM key Y].flatten = T := by rw [HT.out]; simp
  rw [hfl] at hJ
  have HJ := Lib.hid hJ
  have HK2 := Lib.hid ((HK1.out.trans k2).trans kB)
  clear hO2 hR2 k2 kB hJ HG HR1 hl2 hfl
  go_wp2_with fail
  generalize w2.alloc (.cells #[.slice a1 44 c1, .slice a2 32 c2] 22) = wb at *
  refine HJ.out.mono ?_
  rintro e w3 ⟨v3, rfl, hO3, k3⟩
  have HO3 := Lib.hid (hO3.mono HK2.out.size)
  have HK3 := Lib.hid (HK2.out.trans k3)
  clear hO3 k3 HJ
  go_wp2_with fail
  go_ret2
  exact ⟨_, rfl, HO3.out, HK3.out⟩

/-- A frame. -/
def bodyM (k : Nat) (b : List UInt8) : List UInt8 := [UInt8.ofNat k, UInt8.ofNat (b.length / 256), UInt8.ofNat b.length] ++ b
def wrapM (k : Nat) (b : List UInt8) : List UInt8 := [68, 80] ++ crcPut (bodyM k b)

theorem bodyM_len (k : Nat) (b : List UInt8) : (bodyM k b).length = b.length + 3 := by simp [bodyM]
theorem bodyM_eq (k : Nat) (b : List UInt8) : bodyM k b = [UInt8.ofNat k, UInt8.ofNat (b.length / 256), UInt8.ofNat b.length] ++ b := rfl
set_option maxRecDepth 100000 in
set_option maxHeartbeats 1600000 in
theorem fwrap_calls {w : World} (k : Nat) (hk : k ≤ 255) {a : Option Addr} {n c : Nat} {b : List UInt8} (hb : RdS w (.slice a n c) b) (hn : b.length = n) (hm : n ≤ 291) :
    Calls Tryz.prog 61 #[.int .i64 k, .slice a n c] w (PlainPost w (wrapM k b)) := by
  unfold PlainPost
  obtain ⟨a', c', ea, _, _, r3, r4, _⟩ := id hb
  simp only [Value.slice.injEq] at ea
  obtain ⟨rfl, hx0, rfl⟩ := ea
  clear hx0
  have h0 : ¬ ((k : Int) < 0) := by omega
  have h1 : ¬ ((255 : Int) < (k : Int)) := by omega
  have h2 : ¬ ((291 : Int) < (n : Int)) := by omega
  have hki : (k : Int) ≤ 255 := by omega
  have hwd : wrapM k b = [68, 80] ++ crcPut (bodyM k b) := rfl
  have hbl := bodyM_len k b
  have hcl := crcPut_len (bodyM k b)
  have hbe : bodyM k b = [UInt8.ofNat k, UInt8.ofNat (n / 256), UInt8.ofNat n] ++ b := by rw [bodyM_eq, hn]
  generalize wrapM k b = T at *
  generalize bodyM k b = Y at *
  have HR := Lib.hid r3
  have Hn0 := Lib.hid (show a = none → n = 0 ∧ c = 0 from fun h => ⟨by rw [← hn, (r4 h).1]; rfl, (r4 h).2⟩)
  have HT := Lib.hid hwd
  have HY := Lib.hid hbe
  have Hbl := Lib.hid hbl
  have Hcl := Lib.hid hcl
  have Hn := Lib.hid hn
  clear hb r3 r4 hwd hbe hbl hcl hn
  go_enter Tryz.func61, Tryz.ntmps61
  have e1 : Value.int .u8 (k : Int) = B8 (UInt8.ofNat k) := by show Value.int .u8 _ = .int .u8 _; rw [UInt8.toNat_ofNat']; congr 1; omega
  have e2 : Value.int .u8 ((n : Int) / 256) = B8 (UInt8.ofNat (n / 256)) := by show Value.int .u8 _ = .int .u8 _; rw [UInt8.toNat_ofNat']; congr 1; omega
  have e3 : Value.int .u8 ((n : Int) % 256) = B8 (UInt8.ofNat n) := by show Value.int .u8 _ = .int .u8 _; rw [UInt8.toNat_ofNat']; congr 1
  have HL := Lib.hid (Own.lit8 w #[.int .u8 (k : Int), .int .u8 ((n : Int) / 256), .int .u8 ((n : Int) % 256)] [UInt8.ofNat k, UInt8.ofNat (n / 256), UInt8.ofNat n] 3 (by rw [e1, e2, e3]; rfl) rfl (by omega))
  have kL : Keeps [] w (w.alloc (.cells #[.int .u8 (k : Int), .int .u8 ((n : Int) / 256), .int .u8 ((n : Int) % 256)] 5)) := (Keeps.refl [] w).alloc _
  have HRL := Lib.hid (HR.out.keepsNil kL)
  have HkL := Lib.hid kL
  have hl1 : ([UInt8.ofNat k, UInt8.ofNat (n / 256), UInt8.ofNat n] : List UInt8).length + n ≤ 140737488351232 := by simp; omega
  have hb1 : w.heap.size ≤ (w.alloc (.cells #[.int .u8 (k : Int), .int .u8 ((n : Int) / 256), .int .u8 ((n : Int) % 256)] 5)).heap.size := by simp
  clear e1 e2 e3 kL
  go_upto_region 4 with (first | (at_builtin; (refine wpList_append_bytes rfl (.tmp 27) (.tmp 28) rfl HL.out rfl a n c rfl HRL.out Hn.out Hn0.out hl1 hb1 ?_); intro v2 w2 g1 g2 g3; have HO2 := Lib.hid g1; have HK2 := Lib.hid (HkL.out.grown g2 (fun y hy => .inr (HL.out.ge8 y hy))); clear g1 g2 g3))
  have hO2 := HO2.out
  rw [← HY.out] at hO2
  obtain ⟨a2, c2, rfl, _, _, r5, r6, _⟩ := hO2.rds
  have kC : Keeps [] w2 (w2.alloc (.cells #[.int .u8 68, .int .u8 80] 5 (2, 3))) := (Keeps.refl [] w2).alloc _
  have hcv := lit_conv w2 #[.int .u8 68, .int .u8 80] 2 2
  have HRc := Lib.hid (lit_rd w2 #[.int .u8 68, .int .u8 80] (2, 3) [68, 80] rfl)
  have HPut := Lib.hid (crcput_calls a2 Y.length c2 Y (r5.keepsNil kC) rfl (by rw [Hbl.out, Hn.out]; omega) (fun h => ⟨by rw [(r6 h).1]; rfl, (r6 h).2⟩))
  have HKc := Lib.hid (HK2.out.trans kC)
  have hs2 := HK2.out.size
  clear hO2 r5 r6 kC HL HRL hl1 hb1
  go_wp2_with fail
  generalize w2.alloc (.cells #[.int .u8 68, .int .u8 80] 5 (2, 3)) = wc at *
  refine HPut.out.mono ?_
  rintro e w3 ⟨v3, rfl, hO3, k3⟩
  have HRc3 := Lib.hid (HRc.out.keepsNil k3)
  have HZ0 := Lib.hid (show 0 < (crcPut Y).length by rw [Hcl.out]; omega)
  obtain ⟨a3, c3, rfl, _, _, r7, r8, _⟩ := hO3.rds
  cases a3 with
  | none => exact absurd (by rw [(r8 rfl).1]; rfl) (Nat.ne_of_gt HZ0.out)
  | some a3 => ?_
  have HR3 := Lib.hid r7
  have hg3 : 2 < 2 + (crcPut Y).length := by have := HZ0.out; omega
  have hl3 : 2 + (crcPut Y).length ≤ 100000 := by rw [Hcl.out, Hbl.out, Hn.out]; omega
  have HK3 := Lib.hid (HKc.out.trans k3)
  have hs3 := HK3.out.size
  clear hO3 r7 r8 k3 HPut
  generalize crcPut Y = Z at *
  go_wp2_with (at_builtin; (refine wpList_append_full rfl (.tmp 31) (.tmp 33) rfl HRc3.out rfl rfl (by simp) HR3.out rfl rfl hg3 hl3 ?_); intro v4 w4 g1 g2)
  go_ret2
  exact ⟨_, rfl, by rw [HT.out]; exact g1.mono hs3, HK3.out.grown g2 (fun y hy => by simp at hy)⟩

set_option maxRecDepth 100000 in
set_option maxHeartbeats 1600000 in
theorem rwrap_calls {w : World} (k : Nat) (hk : k ≤ 255) {a : Option Addr} {n c : Nat} {b : List UInt8} (hb : RdS w (.slice a n c) b) (hn : b.length = n) (hm : n ≤ 291) :
    Calls Tryz.prog 14 #[.int .i64 k, .slice a n c] w (PlainPost w (wrapM k b)) := by
  unfold PlainPost
  have h0 : ¬ ((k : Int) < 0) := by omega
  have h1 : ¬ ((255 : Int) < (k : Int)) := by omega
  have h2 : ¬ ((291 : Int) < (n : Int)) := by omega
  have hki : (k : Int) ≤ 255 := by omega
  have hwd : wrapM k b = [68, 80] ++ crcPut (bodyM k b) := rfl
  have hbl := bodyM_len k b
  have hcl := crcPut_len (bodyM k b)
  have hbe : [[UInt8.ofNat k], be2 n, b].flatten = bodyM k b := by rw [bodyM_eq, hn]; simp [be2]
  generalize wrapM k b = T at *
  generalize bodyM k b = Y at *
  have HB := Lib.hid hb
  have HT := Lib.hid hwd
  have HY := Lib.hid hbe
  have Hbl := Lib.hid hbl
  have Hcl := Lib.hid hcl
  have Hn := Lib.hid hn
  clear hb hwd hbe hbl hcl hn
  go_enter Tryz.func14, Tryz.ntmps14
  go_upto_region 3 with (fail)
  have e1 : Value.int .u8 (k : Int) = B8 (UInt8.ofNat k) := by show Value.int .u8 _ = .int .u8 _; rw [UInt8.toNat_ofNat']; congr 1; omega
  have kL : Keeps [] w (w.alloc (.cells #[.int .u8 (k : Int)] 5)) := (Keeps.refl [] w).alloc _
  have HL := Lib.hid ((Own.lit8 w #[.int .u8 (k : Int)] [UInt8.ofNat k] 1 (by rw [e1]; rfl) rfl (by omega)).rds)
  have H2 := Lib.hid (two_calls (w := w.alloc (.cells #[.int .u8 (k : Int)] 5)) n (by omega))
  have HkL := Lib.hid kL
  clear e1 kL
  go_wp2_with fail
  generalize w.alloc (.cells #[.int .u8 (k : Int)] 5) = wa at *
  refine H2.out.mono ?_
  rintro e w2 ⟨a2, c2, rfl, hR2, k2⟩
  have kM : Keeps [] w2 (w2.alloc (.cells #[.slice (some ⟨w.heap.size, 0, none⟩) 1 1, .slice a2 2 c2, .slice a n c] 22)) := (Keeps.refl [] w2).alloc _
  have hJ := rjoin_calls (RdL.three (Blk.newA w2 22 #[.slice (some ⟨w.heap.size, 0, none⟩) 1 1, .slice a2 2 c2, .slice a n c]) ((HL.out.keepsNil k2).keepsNil kM) (hR2.keepsNil kM) ((HB.out.keepsNil (HkL.out.trans k2)).keepsNil kM)) (by simp) (by rw [HY.out, Hbl.out, Hn.out]; omega)
  rw [HY.out] at hJ
  have HJ := Lib.hid hJ
  have HK2 := Lib.hid ((HkL.out.trans k2).trans kM)
  clear hR2 k2 kM hJ H2 HL
  go_wp2_with fail
  generalize w2.alloc (.cells #[.slice (some ⟨w.heap.size, 0, none⟩) 1 1, .slice a2 2 c2, .slice a n c] 22) = wb at *
  refine HJ.out.mono ?_
  rintro e w3 ⟨v3, rfl, hO3, k3⟩
  obtain ⟨a3, c3, rfl, _, _, r5, r6, _⟩ := hO3.rds
  have kC : Keeps [] w3 (w3.alloc (.cells #[.int .u8 68, .int .u8 80] 5 (2, 3))) := (Keeps.refl [] w3).alloc _
  have hcv := lit_conv w3 #[.int .u8 68, .int .u8 80] 2 2
  have HLc := Lib.hid (lit_rds w3 #[.int .u8 68, .int .u8 80] (2, 3) [68, 80] 2 rfl rfl (by omega))
  have HPut := Lib.hid (rput_calls a3 Y.length c3 Y (r5.keepsNil kC) rfl (by rw [Hbl.out, Hn.out]; omega) (fun h => ⟨by rw [(r6 h).1]; rfl, (r6 h).2⟩))
  have HK3 := Lib.hid ((HK2.out.trans k3).trans kC)
  clear hO3 r5 r6 k3 kC HJ
  go_wp2_with fail
  generalize w3.alloc (.cells #[.int .u8 68, .int .u8 80] 5 (2, 3)) = wc at *
  refine HPut.out.mono ?_
  rintro e w4 ⟨v4, rfl, hO4, k4⟩
  have hR4 := hO4.rds
  obtain ⟨a4, c4, rfl, _⟩ := id hR4
  have kD : Keeps [] w4 (w4.alloc (.cells #[.slice (some ⟨w3.heap.size, 0, none⟩) 2 2, .slice a4 (crcPut Y).length c4] 22)) := (Keeps.refl [] w4).alloc _
  have hJ := rjoin0_calls (RdL0.two (Blk.newA w4 22 #[.slice (some ⟨w3.heap.size, 0, none⟩) 2 2, .slice a4 (crcPut Y).length c4]) ((HLc.out.keepsNil k4).keepsNil kD) (hR4.keepsNil kD).z) (by simp) (by simp only [List.flatten_cons, List.flatten_nil, List.length_append, List.append_nil]; rw [Hcl.out, Hbl.out, Hn.out]; simp; omega)
  have hfl : [[68, 80], crcPut Y].flatten = T := by rw [HT.out]; simp
  rw [hfl] at hJ
  have HJ2 := Lib.hid hJ
  have HK4 := Lib.hid ((HK3.out.trans k4).trans kD)
  clear hO4 hR4 k4 kD hJ hfl HPut HLc
  generalize crcPut Y = Z at *
  go_wp2_with fail
  generalize w4.alloc (.cells #[.slice (some ⟨w3.heap.size, 0, none⟩) 2 2, .slice a4 Z.length c4] 22) = wd at *
  refine HJ2.out.mono ?_
  rintro e w5 ⟨v5, rfl, hO5, k5⟩
  have HO5 := Lib.hid (hO5.mono HK4.out.size)
  have HK5 := Lib.hid (HK4.out.trans k5)
  clear hO5 k5 HJ2
  go_wp2_with fail
  go_ret2
  exact ⟨_, rfl, HO5.out, HK5.out⟩

end Go.Proofs.YtijhaeapoapgfaaGreatDoor
