/-
  LawImg: downpourlaw11.CodeImages, walked (printed by lawimg.py).
-/
import Derived.Test.YtghgmchgbhdldaaLawPar
import Derived.Test.YtghgmchgbhdldaaBkL
import Derived.Deep.DeepCutAuto
import Derived.Deep.CutBlock
set_option linter.unusedVariables false
set_option linter.unusedSimpArgs false
namespace Go.Proofs.Ytghgmchgbhdldaa
open Go.RowKit
attribute [local go_sem ↓] Go.wp_at_zero Go.wp_at_succ

theorem Fits.same {nK P z : Nat} {a b : List UInt8} (h : Fits nK P z a) (hl : b.length = a.length) : Fits nK P z b := ⟨h.k1, h.k2, h.p2, h.z1, h.z2, by rw [hl]; exact h.l, by rw [hl]; exact h.c, by rw [hl]; exact h.f⟩
theorem rds_blk {w : World} {g : Nat} {l : List UInt8} (n : Nat) (h : Blk w g 5 (l.map B8)) (hn : l.length = n) (hm : n ≤ 1000000) : RdS w (.slice (some ⟨g, 0, none⟩) n n) l :=
  ⟨some ⟨g, 0, none⟩, n, by rw [hn], by omega, by omega, Rd.blk h 0 l (fun j u hu => by rw [Nat.zero_add, List.getElem?_map, hu]; rfl), by simp, fun x hx _ => by simp only [Option.some.injEq] at hx; subst hx; exact ⟨_, h⟩⟩
theorem by_val (y : UInt8) (k : Nat) : ((y.toNat : Int) + ((k : Int) * 5) % 256) % 256 = ((y + UInt8.ofNat (k * 5)).toNat : Int) := by
  rw [UInt8.toNat_add, UInt8.toNat_ofNat']
  omega
theorem byteAt {w : World} {g : Nat} {l : List UInt8} (h : Blk w g 5 (l.map B8)) {i : Nat} (hi : i < l.length) : w.cell? ⟨g, i, none⟩ = some (B8 (l.getD i 0)) := h.cell' (by
  rw [List.getElem?_map, List.getElem?_eq_getElem hi, List.getD_eq_getElem?_getD, List.getElem?_eq_getElem hi]; rfl)

set_option maxRecDepth 100000 in
set_option maxHeartbeats 4000000 in
theorem codeImages_walk {w : World} (s : UInt32) (k p z0 : Int) (a : Option Addr) (n c : Nat) (l : List UInt8) (hl : Rd w a l) (hn : l.length = n) (hnc : n ≤ c) (hc : c ≤ maxLen) (h0 : a = none → l = [] ∧ c = 0) (y : UInt8) (id : UInt32) :
    Calls Try.prog 16 #[.agg #[B32 s, .int .i64 k, .int .i64 p, .int .i64 z0], .slice a n c, B8 y, B32 id] w fun e w' => e = .returned (.bool true) ∧ Keeps [] w w' := by
  have kA : Keeps [] w (w.alloc (.cells #[B32 s, .int .i64 k, .int .i64 p, .int .i64 z0] 73)) := (Keeps.refl [] w).alloc _
  have hB0 := Blk.newA w 73 #[B32 s, .int .i64 k, .int .i64 p, .int .i64 z0]
  have HS := Lib.hid (sound11_calls s k p z0 a n c l (hl.keepsNil kA) hn hnc hc h0)
  clear hl h0 hn
  go_enter Try.func16, Try.ntmps16
  go_wp2_with fail
  generalize w.alloc (.cells #[B32 s, .int .i64 k, .int .i64 p, .int .i64 z0] 73) = w0 at *
  refine HS.out.mono ?_
  rintro e w1 ⟨nK, P, z, img, vi, rfl, hF, hi1, hi2, hI, k1⟩
  have hB1 := hB0.keeps k1 (by simp)
  have c0 := hB1.cell' (i := 0) rfl
  have c1 := hB1.cell' (i := 1) rfl
  have c2 := hB1.cell' (i := 2) rfl
  have c3 := hB1.cell' (i := 3) rfl
  have f0 := hB1.frozen 0
  have f1 := hB1.frozen 1
  have f2 := hB1.frozen 2
  have f3 := hB1.frozen 3
  go_upto_region 2 with (fail)
  have hB2 := hB1.put4 (B32 s) (.int .i64 nK) (.int .i64 P) (.int .i64 z)
  have K2 := Lib.hid ((kA.trans k1).put4 (.inr (Nat.le_refl _)) (B32 s) (.int .i64 nK) (.int .i64 P) (.int .i64 z))
  have hk12 := (Keeps.refl [w.heap.size] w1).put4 (p := w.heap.size) (.inl (by simp)) (B32 s) (.int .i64 nK) (.int .i64 P) (.int .i64 z)
  have HI := Lib.hid (hI.keepsP hk12 (fun x hx => by simp only [List.mem_singleton] at hx; subst hx; exact ⟨_, _, hB1, by decide⟩))
  clear c0 c1 c2 c3 f0 f1 f2 f3 hB1 hB0 kA k1 hk12
  generalize ((((w1.setCell ⟨w.heap.size, 0, none⟩ (B32 s)).setCell ⟨w.heap.size, 1, none⟩ (.int .i64 nK)).setCell ⟨w.heap.size, 2, none⟩ (.int .i64 P)).setCell ⟨w.heap.size, 3, none⟩ (.int .i64 z)) = w2 at *
  obtain ⟨ai, ci, rfl, _⟩ := hI
  have HF := Lib.hid hF
  have hk1 := hF.k1
  have hk2 := hF.k2
  have hp2 := hF.p2
  have hz1 := hF.z1
  have hz2 := hF.z2
  clear hF
  have hpb := hB2.lt
  have c0 := hB2.cell' (i := 0) rfl
  have c1 := hB2.cell' (i := 1) rfl
  have c2 := hB2.cell' (i := 2) rfl
  have c3 := hB2.cell' (i := 3) rfl
  have hmk := fun w => make_u8 img.length img.length (Nat.le_refl _) (by omega) w
  have HC := Lib.hid (And.intro c0 (And.intro c1 (And.intro c2 c3)))
  clear c0 c1 c2 c3
  go_cut [9, 10] (fun s9 s10 wx => ∃ x9 x10, s9 = .slice (some ⟨x9, 0, none⟩) img.length img.length ∧ s10 = .slice (some ⟨x10, 0, none⟩) img.length img.length ∧ x9 ≠ x10 ∧ w2.heap.size ≤ x9 ∧ w2.heap.size ≤ x10 ∧ Blk wx x9 5 ((zer img.length).map B8) ∧ Blk wx x10 5 ((zer img.length).map B8) ∧ Keeps [] w2 wx)
  case first =>
    have m1 : ∀ v : Array Value, Keeps [] w2 (w2.alloc (.cells v 5)) := fun v => (Keeps.refl [] w2).alloc _
    have m2 : ∀ v u : Array Value, Keeps [] w2 ((w2.alloc (.cells v 5)).alloc (.cells u 5)) := fun v u => (m1 v).alloc _
    have hz8 : (zeros img.length).toList = (zer img.length).map B8 := by simp [zeros, zer]
    have B1 := (Blk.newA w2 5 (zeros img.length)).alloc (.cells (zeros img.length) 5)
    have B2 := Blk.newA (w2.alloc (.cells (zeros img.length) 5)) 5 (zeros img.length)
    rw [World.size_alloc] at B2
    rw [hz8] at B1 B2
    have HB1 := Lib.hid B1.drew
    have HB2 := Lib.hid B2.drew
    clear B1 B2 hz8
    go_region
    all_goals go_wp2_with fail
    all_goals go_meet
    all_goals first
      | exact ⟨w2.heap.size, w2.heap.size + 1, rfl, rfl, by omega, Nat.le_refl _, by omega, HB1.out, HB2.out, (m2 _ _).drew⟩
      | exact ⟨w2.heap.size + 1, w2.heap.size, rfl, rfl, by omega, by omega, Nat.le_refl _, HB2.out, HB1.out, (m2 _ _).drew⟩
  case rest =>
    obtain ⟨x9, x10, rfl, rfl, hxx, hx9, hx10, hX9, hX10, k3⟩ := hcut
    obtain ⟨w3, hw3⟩ : ∃ w3, w3 = wc := ⟨_, rfl⟩
    subst hw3
    have hol := oth_len y img.length
    have hoa : ∀ i, i < img.length → (oth y img.length).getD i 0 = y + UInt8.ofNat (i * 5) := fun i hi => by simp [oth, List.getD, hi]
    generalize oth y img.length = O at *
    have hbl : (xorL img O).length = img.length := xorL_len rfl hol
    have hba : ∀ i, i < img.length → (xorL img O).getD i 0 = img.getD i 0 ^^^ O.getD i 0 := fun i hi => by
      rw [List.getD_eq_getElem?_getD, xorL_at hi (by omega), List.getD_eq_getElem?_getD, List.getElem?_eq_getElem hi, List.getD_eq_getElem?_getD, List.getElem?_eq_getElem (by omega)]
      rfl
    have hSy := symb_lin (s := s) (K := nK) (P := P) (z := z) (a := img) (b := O) (id := id) hk1 (by omega) hol.symm HF.out.f
    have HFo := Lib.hid (HF.out.same hol)
    have HFb := Lib.hid (HF.out.same hbl)
    generalize xorL img O = Bo at *
    have h90 : half O 0 = zer img.length := by rw [half_zero, hol]
    have h100 : half Bo 0 = zer img.length := by rw [half_zero, hbl]
    rw [← h90] at hX9
    rw [← h100] at hX10
    have Hoa := Lib.hid hoa
    have Hol := Lib.hid hol
    have Hbl := Lib.hid hbl
    have Hba := Lib.hid hba
    have HSl := Lib.hid hSy
    have hil : img.length ≤ 301 := hi1
    clear hol hoa hbl hba hSy h90 h100
    go_wp2_with fail
    go_loopw [30] (fun i wr => ∃ k : Nat, k ≤ img.length ∧ i = .int .i64 k ∧ Blk wr x9 5 ((half O k).map B8) ∧ Blk wr x10 5 ((half Bo k).map B8) ∧ Keeps [] w2 wr) (fun i _ => img.length - (intOf i).toNat)
    case atStart => exact ⟨0, Nat.zero_le _, rfl, hX9, hX10, k3⟩
    case round =>
      clear hX9 hX10 k3
      obtain ⟨k, hk, rfl, h9, h10, hK⟩ := hrel
      by_cases hlt : k < img.length
      · have a9 := half_len O (k := k) (by have := Hol.out; omega)
        have a10 := half_len Bo (k := k) (by have := Hbl.out; omega)
        have s9 := half_set O (k := k) (by have := Hol.out; omega)
        have s10 := half_set Bo (k := k) (by have := Hbl.out; omega)
        rw [Hoa.out k hlt] at s9
        rw [Hba.out k hlt, Hoa.out k hlt] at s10
        have c9 := byteAt h9 (i := k) (by rw [a9, Hol.out]; exact hlt)
        have c10 := byteAt h10 (i := k) (by rw [a10, Hbl.out]; exact hlt)
        have f9 := h9.frozen k
        have f10 := h10.frozen k
        obtain ⟨a', c', ea, _, _, hrd, _, _⟩ := HI.out
        simp only [Value.slice.injEq] at ea
        obtain ⟨rfl, _, rfl⟩ := ea
        obtain ⟨bi, oi, rfl, ci0⟩ := hrd k (img.getD k 0) (by rw [List.getD_eq_getElem?_getD, List.getElem?_eq_getElem hlt]; rfl)
        have hbi := World.block_lt_of_cell? w2 _ ci0
        have ci1 := hK.cell0 ci0
        simp only at hbi
        have hbv := by_val y k
        obtain ⟨q5, hq5, hq5b⟩ : ∃ q5 : Nat, (k : Int) * 5 = (q5 : Int) ∧ q5 ≤ 2000 := ⟨k * 5, by omega, by omega⟩
        rw [hq5] at hbv
        generalize y + UInt8.ofNat (k * 5) = v9 at *
        generalize img.getD k 0 = vi at *
        have hn9 : bi ≠ x9 := by omega
        have hn10 : bi ≠ x10 := by omega
        have hkl : (k : Int) < (img.length : Int) := by omega
        have H9 := Lib.hid (h9.set k (B8 v9))
        have H10 := Lib.hid (h10.setOther (a := ⟨x9, k, none⟩) (B8 v9) hxx.symm)
        have KK := Lib.hid (hK.setCell (p := ⟨x9, k, none⟩) (.inr hx9) (B8 v9))
        have S9 := Lib.hid s9
        have S10 := Lib.hid s10
        have hx8 := xor_byte vi v9
        have ci2 := (World.cell?_setCell_other wr ⟨x9, k, none⟩ ⟨bi, oi + k, none⟩ (B8 v9) (fun h => hn9 (congrArg Addr.block h).symm)).trans ci1
        have c92 := World.cell?_setCell_same wr ⟨x9, k, none⟩ (B8 v9) c9
        have c102 := (World.cell?_setCell_other wr ⟨x9, k, none⟩ ⟨x10, k, none⟩ (B8 v9) (fun h => hxx (congrArg Addr.block h))).trans c10
        have f102 := H10.out.frozen k
        clear h9 h10 hK s9 s10 hrd ci0 a9 a10
        go_upto_region 7 with (fail)
        generalize wr.setCell ⟨x9, k, none⟩ (B8 v9) = wm at *
        clear c9 c10 f9 f10 ci1
        go_region
        have H10b := Lib.hid ((H10.out.set k (B8 (vi ^^^ v9))).drew)
        have H9b := Lib.hid ((H9.out.setOther (a := ⟨x10, k, none⟩) (B8 (vi ^^^ v9)) hxx).drew)
        have KKb := Lib.hid ((KK.out.setCell (p := ⟨x10, k, none⟩) (.inr hx10) (B8 (vi ^^^ v9))).drew)
        rw [map_set8, S10.out] at H10b
        rw [map_set8, S9.out] at H9b
        go_wp2_with fail
        go_roundw
        case rel => exact ⟨k + 1, by omega, by go_num, H9b.out, H10b.out, KKb.out⟩
        case measure => simp [intOf]; omega
      · obtain rfl : k = img.length := by omega
        have e9 := half_all O
        have e10 := half_all Bo
        rw [Hol.out] at e9
        rw [Hbl.out] at e10
        rw [e9] at h9
        rw [e10] at h10
        have HIo := Lib.hid (fun (w' : World) (kk : Keeps [] wr w') => rds_blk img.length (h9.keeps kk (by simp)) Hol.out (by omega))
        have HIb := Lib.hid (fun (w' : World) (kk : Keeps [] wr w') => rds_blk img.length (h10.keeps kk (by simp)) Hbl.out (by omega))
        have HIi := Lib.hid (fun (w' : World) (kk : Keeps [] wr w') => HI.out.keepsNil (hK.trans kk))
        have HKr := Lib.hid hK
        have b0 := hK.cell0 HC.out.1
        have b1 := hK.cell0 HC.out.2.1
        have b2 := hK.cell0 HC.out.2.2.1
        have b3 := hK.cell0 HC.out.2.2.2
        have hsa := symb_len (s := s) (P := P) (img := img) (z := z) (id := id) hk1 (by omega) HF.out.f
        have hsb := symb_len (s := s) (P := P) (img := O) (z := z) (id := id) hk1 (by omega) HFo.out.f
        have hsc := symb_len (s := s) (P := P) (img := Bo) (z := z) (id := id) hk1 (by omega) HFb.out.f
        have HSa := Lib.hid (fun (w : World) (p : Nat) (h : Hd w p s nK P z img) => hdsymbol_calls h id)
        have HSb := Lib.hid (fun (w : World) (p : Nat) (h : Hd w p s nK P z O) => hdsymbol_calls h id)
        have HSc := Lib.hid (fun (w : World) (p : Nat) (h : Hd w p s nK P z Bo) => hdsymbol_calls h id)
        unfold SymPost at HSa HSb HSc
        generalize symb s nK P z img id = Ya at *
        generalize symb s nK P z O id = Yb at *
        generalize symb s nK P z Bo id = Yc at *
        have Hsa := Lib.hid hsa
        have Hsb := Lib.hid hsb
        have Hsc := Lib.hid hsc
        clear h9 h10 hK e9 e10 hsa hsb hsc
        go_wp2_with fail
        refine wp_region_noPanic ?_
        refine wp_region_held_drew (S := (fun w' => w'.cell? ⟨w.heap.size, 0, none⟩ = some (B32 s) ∧ w'.cell? ⟨w.heap.size, 1, none⟩ = some (.int .i64 nK) ∧ w'.cell? ⟨w.heap.size, 2, none⟩ = some (.int .i64 P) ∧ w'.cell? ⟨w.heap.size, 3, none⟩ = some (.int .i64 z))) (by kernel_rfl) ⟨b0, b1, b2, b3⟩ (fun hHeld => ?_)
        have kd : Keeps [] wr wr.drew := (Keeps.refl [] wr).drew
        refine wpAnyH_take (i := 0) (v := ?v1_1) rfl (by kernel_rfl) (by kernel_rfl) (by kernel_rfl) (fun _ _ _ h => h) (Or.inl ⟨by rfl, ?y1_1⟩) (by assumption) ?r1_1
        case y1_1 => (intro w hSw; (try dsimp only at hSw); go_simp; try with_reducible rfl)
        (try simp only [Act.put, List.getElem_toArray, List.getElem_cons_zero, List.getElem_cons_succ, List.setIfInBounds_toArray, List.set_cons_zero, List.set_cons_succ])
        refine wpAnyH_take (i := 1) (v := ?v1_2) rfl (by kernel_rfl) (by kernel_rfl) (by kernel_rfl) (fun _ _ _ h => h) (Or.inl ⟨by rfl, ?y1_2⟩) (by assumption) ?r1_2
        case y1_2 => (intro w hSw; (try dsimp only at hSw); go_simp; try with_reducible rfl)
        (try simp only [Act.put, List.getElem_toArray, List.getElem_cons_zero, List.getElem_cons_succ, List.setIfInBounds_toArray, List.set_cons_zero, List.set_cons_succ])
        refine wpAnyH_take (i := 3) (v := ?v1_3) rfl (by kernel_rfl) (by kernel_rfl) (by kernel_rfl) (fun _ _ _ h => h) (Or.inl ⟨by rfl, ?y1_3⟩) (by assumption) ?r1_3
        case y1_3 => (intro w hSw; (try dsimp only at hSw); go_simp; try with_reducible rfl)
        (try simp only [Act.put, List.getElem_toArray, List.getElem_cons_zero, List.getElem_cons_succ, List.setIfInBounds_toArray, List.set_cons_zero, List.set_cons_succ])
        refine wpAnyH_take (i := 5) (v := ?v1_4) rfl (by kernel_rfl) (by kernel_rfl) (by kernel_rfl) (fun _ _ _ h => h) (Or.inl ⟨by rfl, ?y1_4⟩) (by assumption) ?r1_4
        case y1_4 => (intro w hSw; (try dsimp only at hSw); go_simp; try with_reducible rfl)
        (try simp only [Act.put, List.getElem_toArray, List.getElem_cons_zero, List.getElem_cons_succ, List.setIfInBounds_toArray, List.set_cons_zero, List.set_cons_succ])
        refine wpAnyH_take (i := 6) (v := ?v1_5) rfl (by kernel_rfl) (by kernel_rfl) (by kernel_rfl) (fun _ _ _ h => h) (Or.inl ⟨by rfl, ?y1_5⟩) (by assumption) ?r1_5
        case y1_5 => (intro w hSw; (try dsimp only at hSw); go_simp; try with_reducible rfl)
        (try simp only [Act.put, List.getElem_toArray, List.getElem_cons_zero, List.getElem_cons_succ, List.setIfInBounds_toArray, List.set_cons_zero, List.set_cons_succ])
        refine wpAnyH_take (i := 8) (v := ?v1_6) rfl (by kernel_rfl) (by kernel_rfl) (by kernel_rfl) (fun _ _ _ h => h) (Or.inl ⟨by rfl, ?y1_6⟩) (by assumption) ?r1_6
        case y1_6 => (intro w hSw; (try dsimp only at hSw); go_simp; try with_reducible rfl)
        (try simp only [Act.put, List.getElem_toArray, List.getElem_cons_zero, List.getElem_cons_succ, List.setIfInBounds_toArray, List.set_cons_zero, List.set_cons_succ])
        refine wpAnyH_take (i := 10) (v := ?v1_7) rfl (by kernel_rfl) (by kernel_rfl) (by kernel_rfl) (fun _ _ _ h => h) (Or.inl ⟨by rfl, ?y1_7⟩) (by assumption) ?r1_7
        case y1_7 => (intro w hSw; (try dsimp only at hSw); go_simp; try with_reducible rfl)
        (try simp only [Act.put, List.getElem_toArray, List.getElem_cons_zero, List.getElem_cons_succ, List.setIfInBounds_toArray, List.set_cons_zero, List.set_cons_succ])
        refine wpAnyH_take (i := 11) (v := ?v1_8) rfl (by kernel_rfl) (by kernel_rfl) (by kernel_rfl) (fun _ _ _ h => h) (Or.inl ⟨by rfl, ?y1_8⟩) (by assumption) ?r1_8
        case y1_8 => (intro w hSw; (try dsimp only at hSw); go_simp; try with_reducible rfl)
        (try simp only [Act.put, List.getElem_toArray, List.getElem_cons_zero, List.getElem_cons_succ, List.setIfInBounds_toArray, List.set_cons_zero, List.set_cons_succ])
        refine wpAnyH_take (i := 13) (v := ?v1_9) rfl (by kernel_rfl) (by kernel_rfl) (by kernel_rfl) (fun _ _ _ h => h) (Or.inl ⟨by rfl, ?y1_9⟩) (by assumption) ?r1_9
        case y1_9 => (intro w hSw; (try dsimp only at hSw); go_simp; try with_reducible rfl)
        (try simp only [Act.put, List.getElem_toArray, List.getElem_cons_zero, List.getElem_cons_succ, List.setIfInBounds_toArray, List.set_cons_zero, List.set_cons_succ])
        refine wpAnyH_ready (rs := [2]) (by kernel_rfl) (by simp) ?_
        refine AllReadyH.cons rfl (fun K hK => ?_) AllReadyH.nil
        go_simp
        refine (cnew_calls (HIi.out _ kd) s HF.out).mono ?_
        rintro e w4 ⟨p1, rfl, hp1, hH1, j4⟩
        have hs4 := kd.size
        replace kd := kd.trans j4
        go_wp2_with fail
        refine hK.out _ _ ?s1_10 (fun hHeld => ?_)
        case s1_10 => ((try dsimp only) <;> (first | exact ⟨kd.cell0 b0, kd.cell0 b1, kd.cell0 b2, kd.cell0 b3⟩))
        clear hK K
        (try simp only [Act.put, List.getElem_toArray, List.getElem_cons_zero, List.getElem_cons_succ, List.setIfInBounds_toArray, List.set_cons_zero, List.set_cons_succ])
        refine wpAnyH_ready (rs := [4]) (by kernel_rfl) (by simp) ?_
        refine AllReadyH.cons rfl (fun K hK => ?_) AllReadyH.nil
        go_simp
        refine (HSa.out _ _ hH1).mono ?_
        rintro e w5 ⟨g5, rfl, hg5, hb5, hH5, j5⟩
        replace kd := kd.trans' j5 (fun _ h => .inl h) (fun x hx => .inr (by simp at hx; omega))
        have HA5 := Lib.hid hb5
        clear hb5 hH5 hH1 j5 j4
        go_wp2_with fail
        refine hK.out _ _ ?s1_11 (fun hHeld => ?_)
        case s1_11 => ((try dsimp only) <;> (first | exact ⟨kd.cell0 b0, kd.cell0 b1, kd.cell0 b2, kd.cell0 b3⟩))
        clear hK K
        (try simp only [Act.put, List.getElem_toArray, List.getElem_cons_zero, List.getElem_cons_succ, List.setIfInBounds_toArray, List.set_cons_zero, List.set_cons_succ])
        refine wpAnyH_ready (rs := [7]) (by kernel_rfl) (by simp) ?_
        refine AllReadyH.cons rfl (fun K hK => ?_) AllReadyH.nil
        go_simp
        refine (cnew_calls (HIo.out _ kd) s HFo.out).mono ?_
        rintro e w6 ⟨p2, rfl, hp2n, hH2, j6⟩
        have kf := j6
        have hs6 := kd.size
        replace kd := kd.trans j6
        go_wp2_with fail
        refine hK.out _ _ ?s1_12 (fun hHeld => ?_)
        case s1_12 => ((try dsimp only) <;> (first | exact ⟨kd.cell0 b0, kd.cell0 b1, kd.cell0 b2, kd.cell0 b3⟩))
        clear hK K
        (try simp only [Act.put, List.getElem_toArray, List.getElem_cons_zero, List.getElem_cons_succ, List.setIfInBounds_toArray, List.set_cons_zero, List.set_cons_succ])
        refine wpAnyH_ready (rs := [9]) (by kernel_rfl) (by simp) ?_
        refine AllReadyH.cons rfl (fun K hK => ?_) AllReadyH.nil
        go_simp
        refine (HSb.out _ _ hH2).mono ?_
        rintro e w7 ⟨g7, rfl, hg7, hb7, hH7, j7⟩
        replace kf := kf.trans' j7 (fun _ h => .inl h) (fun x hx => .inr (by simp at hx; omega))
        replace kd := kd.trans' j7 (fun _ h => .inl h) (fun x hx => .inr (by simp at hx; omega))
        have HA7 := Lib.hid (HA5.out.keeps kf (by simp))
        have HB7 := Lib.hid hb7
        clear hb7 hH7 hH2 j7 j6 kf
        go_wp2_with fail
        refine hK.out _ _ ?s1_13 (fun hHeld => ?_)
        case s1_13 => ((try dsimp only) <;> (first | exact ⟨kd.cell0 b0, kd.cell0 b1, kd.cell0 b2, kd.cell0 b3⟩))
        clear hK K
        (try simp only [Act.put, List.getElem_toArray, List.getElem_cons_zero, List.getElem_cons_succ, List.setIfInBounds_toArray, List.set_cons_zero, List.set_cons_succ])
        refine wpAnyH_ready (rs := [12]) (by kernel_rfl) (by simp) ?_
        refine AllReadyH.cons rfl (fun K hK => ?_) AllReadyH.nil
        go_simp
        refine (cnew_calls (HIb.out _ kd) s HFb.out).mono ?_
        rintro e w8 ⟨p3, rfl, hp3, hH3, j8⟩
        have kf := j8
        have hs8 := kd.size
        replace kd := kd.trans j8
        go_wp2_with fail
        refine hK.out _ _ ?s1_14 (fun hHeld => ?_)
        case s1_14 => ((try dsimp only) <;> (first | exact ⟨kd.cell0 b0, kd.cell0 b1, kd.cell0 b2, kd.cell0 b3⟩))
        clear hK K
        (try simp only [Act.put, List.getElem_toArray, List.getElem_cons_zero, List.getElem_cons_succ, List.setIfInBounds_toArray, List.set_cons_zero, List.set_cons_succ])
        refine wpAnyH_ready (rs := [14]) (by kernel_rfl) (by simp) ?_
        refine AllReadyH.cons rfl (fun K hK => ?_) AllReadyH.nil
        go_simp
        refine (HSc.out _ _ hH3).mono ?_
        rintro e w9 ⟨g9, rfl, hg9, hb9, hH9, j9⟩
        replace kf := kf.trans' j9 (fun _ h => .inl h) (fun x hx => .inr (by simp at hx; omega))
        replace kd := kd.trans' j9 (fun _ h => .inl h) (fun x hx => .inr (by simp at hx; omega))
        have HA9 := Lib.hid (HA7.out.keeps kf (by simp))
        have HB9 := Lib.hid (HB7.out.keeps kf (by simp))
        have HC9 := Lib.hid hb9
        clear hb9 hH9 hH3 j9 j8 kf
        go_wp2_with fail
        refine hK.out _ _ ?s1_15 (fun hHeld => ?_)
        case s1_15 => ((try dsimp only) <;> (first | exact ⟨kd.cell0 b0, kd.cell0 b1, kd.cell0 b2, kd.cell0 b3⟩))
        clear hK K
        (try simp only [Act.put, List.getElem_toArray, List.getElem_cons_zero, List.getElem_cons_succ, List.setIfInBounds_toArray, List.set_cons_zero, List.set_cons_succ])
        refine wpAnyH_take (i := 15) (v := ?v1_16) rfl (by kernel_rfl) (by kernel_rfl) (by kernel_rfl) (fun _ _ _ h => h) (Or.inl ⟨by rfl, ?y1_16⟩) (by assumption) ?r1_16
        case y1_16 => (intro w hSw; (try dsimp only at hSw); go_simp; try with_reducible rfl)
        (try simp only [Act.put, List.getElem_toArray, List.getElem_cons_zero, List.getElem_cons_succ, List.setIfInBounds_toArray, List.set_cons_zero, List.set_cons_succ])
        refine wpAnyH_take (i := 16) (v := ?v1_17) rfl (by kernel_rfl) (by kernel_rfl) (by kernel_rfl) (fun _ _ _ h => h) (Or.inl ⟨by rfl, ?y1_17⟩) (by assumption) ?r1_17
        case y1_17 => (intro w hSw; (try dsimp only at hSw); go_simp; try with_reducible rfl)
        (try simp only [Act.put, List.getElem_toArray, List.getElem_cons_zero, List.getElem_cons_succ, List.setIfInBounds_toArray, List.set_cons_zero, List.set_cons_succ])
        refine wpAnyH_take (i := 17) (v := ?v1_18) rfl (by kernel_rfl) (by kernel_rfl) (by kernel_rfl) (fun _ _ _ h => h) (Or.inl ⟨by rfl, ?y1_18⟩) (by assumption) ?r1_18
        case y1_18 => (intro w hSw; (try dsimp only at hSw); go_simp; try with_reducible rfl)
        (try simp only [Act.put, List.getElem_toArray, List.getElem_cons_zero, List.getElem_cons_succ, List.setIfInBounds_toArray, List.set_cons_zero, List.set_cons_succ])
        refine wpAnyH_done (by kernel_rfl) ?_ _
        refine NoPanic.normal ?_
        have d3 := kd.cell0 b3
        have K9 := Lib.hid ((K2.out.trans HKr.out).trans kd)
        clear b0 b1 b2 b3 hHeld kd
        go_wp2_with fail
        go_loopw [90] (fun i wr => ∃ q : Nat, q ≤ z ∧ i = .int .i64 q ∧ Keeps [] w9 wr) (fun i _ => z - (intOf i).toNat)
        case atStart => exact ⟨0, Nat.zero_le _, rfl, Keeps.refl _ _⟩
        case round =>
          obtain ⟨q, hq, rfl, hKq⟩ := hrel
          by_cases hql : q < z
          · have ca := byteAt (HA9.out.keeps hKq (by simp)) (i := q) (by rw [Hsa.out]; exact hql)
            have cb := byteAt (HB9.out.keeps hKq (by simp)) (i := q) (by rw [Hsb.out]; exact hql)
            have cc := byteAt (HC9.out.keeps hKq (by simp)) (i := q) (by rw [Hsc.out]; exact hql)
            have hyc : Yc.getD q 0 = Ya.getD q 0 ^^^ Yb.getD q 0 := by
              rw [HSl.out, List.getD_eq_getElem?_getD, xorL_at (by rw [Hsa.out]; exact hql) (by rw [Hsb.out]; exact hql), List.getD_eq_getElem?_getD, List.getElem?_eq_getElem (by rw [Hsa.out]; exact hql), List.getD_eq_getElem?_getD, List.getElem?_eq_getElem (by rw [Hsb.out]; exact hql)]
              rfl
            rw [hyc] at cc
            generalize Ya.getD q 0 = xa at *
            generalize Yb.getD q 0 = xb at *
            have hx8 := xor_byte xa xb
            have hqi : (q : Int) < (z : Int) := by omega
            have HKq := Lib.hid hKq
            clear hyc hKq
            go_wp2_with fail
            refine wp_region_noPanic ?_
            refine wp_region_held_drew (S := (fun w' => w'.cell? ⟨g5, q, none⟩ = some (B8 xa) ∧ w'.cell? ⟨g7, q, none⟩ = some (B8 xb) ∧ w'.cell? ⟨g9, q, none⟩ = some (B8 (xa ^^^ xb)))) (by kernel_rfl) ⟨ca, cb, cc⟩ (fun hHeld => ?_)
            refine wpAnyH_take (i := 0) (v := ?v2_19) rfl (by kernel_rfl) (by kernel_rfl) (by kernel_rfl) (fun _ _ _ h => h) (Or.inl ⟨by rfl, ?y2_19⟩) (by assumption) ?r2_19
            case y2_19 => (intro w hSw; (try dsimp only at hSw); go_simp; try with_reducible rfl)
            (try simp only [Act.put, List.getElem_toArray, List.getElem_cons_zero, List.getElem_cons_succ, List.setIfInBounds_toArray, List.set_cons_zero, List.set_cons_succ])
            refine wpAnyH_take (i := 1) (v := ?v2_20) rfl (by kernel_rfl) (by kernel_rfl) (by kernel_rfl) (fun _ _ _ h => h) (Or.inl ⟨by rfl, ?y2_20⟩) (by assumption) ?r2_20
            case y2_20 => (intro w hSw; (try dsimp only at hSw); go_simp; try with_reducible rfl)
            (try simp only [Act.put, List.getElem_toArray, List.getElem_cons_zero, List.getElem_cons_succ, List.setIfInBounds_toArray, List.set_cons_zero, List.set_cons_succ])
            refine wpAnyH_take (i := 2) (v := ?v2_21) rfl (by kernel_rfl) (by kernel_rfl) (by kernel_rfl) (fun _ _ _ h => h) (Or.inl ⟨by rfl, ?y2_21⟩) (by assumption) ?r2_21
            case y2_21 => (intro w hSw; (try dsimp only at hSw); go_simp; try with_reducible rfl)
            (try simp only [Act.put, List.getElem_toArray, List.getElem_cons_zero, List.getElem_cons_succ, List.setIfInBounds_toArray, List.set_cons_zero, List.set_cons_succ])
            refine wpAnyH_take (i := 3) (v := ?v2_22) rfl (by kernel_rfl) (by kernel_rfl) (by kernel_rfl) (fun _ _ _ h => h) (Or.inl ⟨by rfl, ?y2_22⟩) (by assumption) ?r2_22
            case y2_22 => (intro w hSw; (try dsimp only at hSw); go_simp; try with_reducible rfl)
            (try simp only [Act.put, List.getElem_toArray, List.getElem_cons_zero, List.getElem_cons_succ, List.setIfInBounds_toArray, List.set_cons_zero, List.set_cons_succ])
            refine wpAnyH_take (i := 4) (v := ?v2_23) rfl (by kernel_rfl) (by kernel_rfl) (by kernel_rfl) (fun _ _ _ h => h) (Or.inl ⟨by rfl, ?y2_23⟩) (by assumption) ?r2_23
            case y2_23 => (intro w hSw; (try dsimp only at hSw); go_simp; try with_reducible rfl)
            (try simp only [Act.put, List.getElem_toArray, List.getElem_cons_zero, List.getElem_cons_succ, List.setIfInBounds_toArray, List.set_cons_zero, List.set_cons_succ])
            refine wpAnyH_take (i := 5) (v := ?v2_24) rfl (by kernel_rfl) (by kernel_rfl) (by kernel_rfl) (fun _ _ _ h => h) (Or.inl ⟨by rfl, ?y2_24⟩) (by assumption) ?r2_24
            case y2_24 => (intro w hSw; (try dsimp only at hSw); go_simp; try with_reducible rfl)
            (try simp only [Act.put, List.getElem_toArray, List.getElem_cons_zero, List.getElem_cons_succ, List.setIfInBounds_toArray, List.set_cons_zero, List.set_cons_succ])
            refine wpAnyH_take (i := 6) (v := ?v2_25) rfl (by kernel_rfl) (by kernel_rfl) (by kernel_rfl) (fun _ _ _ h => h) (Or.inl ⟨by rfl, ?y2_25⟩) (by assumption) ?r2_25
            case y2_25 => (intro w hSw; (try dsimp only at hSw); go_simp; try with_reducible rfl)
            (try simp only [Act.put, List.getElem_toArray, List.getElem_cons_zero, List.getElem_cons_succ, List.setIfInBounds_toArray, List.set_cons_zero, List.set_cons_succ])
            refine wpAnyH_take (i := 7) (v := ?v2_26) rfl (by kernel_rfl) (by kernel_rfl) (by kernel_rfl) (fun _ _ _ h => h) (Or.inl ⟨by rfl, ?y2_26⟩) (by assumption) ?r2_26
            case y2_26 => (intro w hSw; (try dsimp only at hSw); go_simp; try with_reducible rfl)
            (try simp only [Act.put, List.getElem_toArray, List.getElem_cons_zero, List.getElem_cons_succ, List.setIfInBounds_toArray, List.set_cons_zero, List.set_cons_succ])
            refine wpAnyH_take (i := 8) (v := ?v2_27) rfl (by kernel_rfl) (by kernel_rfl) (by kernel_rfl) (fun _ _ _ h => h) (Or.inl ⟨by rfl, ?y2_27⟩) (by assumption) ?r2_27
            case y2_27 => (intro w hSw; (try dsimp only at hSw); go_simp; try with_reducible rfl)
            (try simp only [Act.put, List.getElem_toArray, List.getElem_cons_zero, List.getElem_cons_succ, List.setIfInBounds_toArray, List.set_cons_zero, List.set_cons_succ])
            refine wpAnyH_take (i := 9) (v := ?v2_28) rfl (by kernel_rfl) (by kernel_rfl) (by kernel_rfl) (fun _ _ _ h => h) (Or.inl ⟨by rfl, ?y2_28⟩) (by assumption) ?r2_28
            case y2_28 => (intro w hSw; (try dsimp only at hSw); go_simp; try with_reducible rfl)
            (try simp only [Act.put, List.getElem_toArray, List.getElem_cons_zero, List.getElem_cons_succ, List.setIfInBounds_toArray, List.set_cons_zero, List.set_cons_succ])
            refine wpAnyH_take (i := 10) (v := ?v2_29) rfl (by kernel_rfl) (by kernel_rfl) (by kernel_rfl) (fun _ _ _ h => h) (Or.inl ⟨by rfl, ?y2_29⟩) (by assumption) ?r2_29
            case y2_29 => (intro w hSw; (try dsimp only at hSw); go_simp; try with_reducible rfl)
            (try simp only [Act.put, List.getElem_toArray, List.getElem_cons_zero, List.getElem_cons_succ, List.setIfInBounds_toArray, List.set_cons_zero, List.set_cons_succ])
            refine wpAnyH_take (i := 11) (v := ?v2_30) rfl (by kernel_rfl) (by kernel_rfl) (by kernel_rfl) (fun _ _ _ h => h) (Or.inl ⟨by rfl, ?y2_30⟩) (by assumption) ?r2_30
            case y2_30 => (intro w hSw; (try dsimp only at hSw); go_simp; try with_reducible rfl)
            (try simp only [Act.put, List.getElem_toArray, List.getElem_cons_zero, List.getElem_cons_succ, List.setIfInBounds_toArray, List.set_cons_zero, List.set_cons_succ])
            refine wpAnyH_take (i := 12) (v := ?v2_31) rfl (by kernel_rfl) (by kernel_rfl) (by kernel_rfl) (fun _ _ _ h => h) (Or.inl ⟨by rfl, ?y2_31⟩) (by assumption) ?r2_31
            case y2_31 => (intro w hSw; (try dsimp only at hSw); go_simp; try with_reducible rfl)
            (try simp only [Act.put, List.getElem_toArray, List.getElem_cons_zero, List.getElem_cons_succ, List.setIfInBounds_toArray, List.set_cons_zero, List.set_cons_succ])
            refine wpAnyH_take (i := 13) (v := ?v2_32) rfl (by kernel_rfl) (by kernel_rfl) (by kernel_rfl) (fun _ _ _ h => h) (Or.inl ⟨by rfl, ?y2_32⟩) (by assumption) ?r2_32
            case y2_32 => (intro w hSw; (try dsimp only at hSw); go_simp; try with_reducible rfl)
            (try simp only [Act.put, List.getElem_toArray, List.getElem_cons_zero, List.getElem_cons_succ, List.setIfInBounds_toArray, List.set_cons_zero, List.set_cons_succ])
            refine wpAnyH_done (by kernel_rfl) ?_ _
            refine NoPanic.normal ?_
            go_wp2_with fail
            go_roundw
            case rel => exact ⟨q + 1, by omega, by go_num, HKq.out.drew⟩
            case measure => simp [intOf]; omega
          · obtain rfl : q = z := by omega
            have HKq := Lib.hid hKq
            clear hKq
            go_wp2_with fail
            refine (awake11_calls (w := wr)).mono ?_
            rintro e w10 ⟨rfl, k10⟩
            go_wp2_with fail
            go_ret
            exact ⟨rfl, (K9.out.trans HKq.out).trans k10⟩

end Go.Proofs.Ytghgmchgbhdldaa
