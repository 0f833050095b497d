/-
  RefCellW: Peek, ReadCell, WriteCell of the reference, walked.
-/
import Derived.Test.YthjojkkjdaoocaaRefCell
import Derived.Test.YthjojkkjdaoocaaCellW
set_option linter.unusedVariables false
set_option linter.unusedSimpArgs false
namespace Go.Proofs.Ythjojkkjdaoocaa
open Go.RowKit
attribute [local go_sem ↓] Go.wp_at_zero Go.wp_at_succ

theorem cellCopy_len {S : List UInt8} {n : UInt32} {b : List UInt8} (hS : S.length = 256) (h : cellCopy S = some (n, b)) : b.length ≤ 256 := by
  unfold cellCopy at h
  split at h
  · cases h
  split at h
  · cases h
  cases hc : crcRight (S.take (10 + cpLen S)) with
  | none => rw [hc] at h; cases h
  | some m =>
    rw [hc] at h
    have h1 := congrArg List.length (crcRight_some hc).1
    rw [crcPut_len, List.length_take] at h1
    simp only [Option.map_some, Option.some.injEq, Prod.mk.injEq] at h
    rw [← h.2, List.length_drop]
    omega

theorem newestOf_len {b : List UInt8} (hb : b.length = 3584) : (Fla.stB (newestOf b)).length ≤ 256 := by
  unfold newestOf
  have h0 : (secOf b 0).length = 256 := secOf_len hb (by omega)
  have h1 : (secOf b 1).length = 256 := secOf_len hb (by omega)
  cases c0 : cellCopy (secOf b 0) with
  | none =>
    cases c1 : cellCopy (secOf b 1) with
    | none => simp [Fla.stepF, Fla.stB]
    | some x1 => obtain ⟨n1, b1⟩ := x1; exact cellCopy_len h1 c1
  | some x0 =>
    cases c1 : cellCopy (secOf b 1) with
    | none => obtain ⟨n0, b0⟩ := x0; exact cellCopy_len h0 c0
    | some x1 =>
      obtain ⟨n0, b0⟩ := x0
      obtain ⟨n1, b1⟩ := x1
      simp only [Fla.stepF]
      split
      · exact cellCopy_len h1 c1
      · exact cellCopy_len h0 c0

set_option maxRecDepth 100000 in
set_option maxHeartbeats 1000000 in
theorem peek_calls {w : World} {p q : Nat} {F : Fla} (h : RfAt w p q F) (hd : F.down = false) :
    Calls Try.prog 72 #[.pointer (some ⟨p, 0, none⟩)] w (SlPost w F.cellRead) := by
  obtain ⟨z, hz, h⟩ := h
  clear hz
  have c0 := h.c0
  obtain ⟨r, hb⟩ := h.bytes
  have hN := newest_calls q r F.b hb h.len
  have hl := newestOf_len h.len
  rw [newestOf_found hd] at hN hl
  have hR : F.cellRead = if Fla.stAt F.found < 0 then ([], 14) else (Fla.stB F.found, 0) := by unfold Fla.cellRead; rw [if_neg (by simp [hd])]
  generalize F.found = st at *
  have HN := Lib.hid hN
  clear hN hb h hd
  by_cases hs : Fla.stAt st < 0
  · rw [if_pos hs] at hR
    rw [hR]
    clear hR hl
    go_enter Try.func72, Try.ntmps72
    go_wp2_with fail
    refine HN.out.mono ?_
    rintro e w1 ⟨v, rfl, hv, hk⟩
    obtain ⟨a, c, rfl, _⟩ := hv
    go_wp2_with fail
    go_ret2
    exact ⟨_, rfl, Sl.nil _ _, hk⟩
  · rw [if_neg hs] at hR
    rw [hR]
    clear hR
    go_enter Try.func72, Try.ntmps72
    go_wp2_with fail
    refine HN.out.mono ?_
    rintro e w1 ⟨v, rfl, hv, hk⟩
    obtain ⟨a, c, rfl, h1, h2, h3, h4, h5⟩ := hv
    have hJ := join_calls (some ⟨w1.heap.size, 0, none⟩) 1 1 [Fla.stB st] (RdS.one 22 (n := (Fla.stB st).length) (c := c) h3 rfl (fun h => (h4 h).2)) rfl (by simp) (by simp; omega)
    rw [show [Fla.stB st].flatten = Fla.stB st from by simp] at hJ
    have HJ := Lib.hid hJ
    clear hJ h1 h2 h3 h4 h5
    generalize Fla.stB st = B at *
    go_wp2_with fail
    refine HJ.out.mono ?_
    rintro e w2 ⟨v2, rfl, hv2, hk2⟩
    go_wp2_with fail
    go_ret2
    have hs1 := hk.size
    exact ⟨v2, rfl, hv2.sl.mono (by simp; omega), (hk.alloc _).trans hk2⟩

set_option maxRecDepth 100000 in
set_option maxHeartbeats 1000000 in
theorem rcellread_calls {w : World} {p q : Nat} {F : Fla} (h : RfAt w p q F) :
    Calls Try.prog 45 #[.pointer (some ⟨p, 0, none⟩)] w (SlPost w F.cellRead) := by
  have c16 : w.cell? ⟨p, 16, none⟩ = some (.bool F.down) := by obtain ⟨z, _, h⟩ := h; exact h.down
  cases hd : F.down
  · rw [hd] at c16
    have HP := Lib.hid (peek_calls h hd)
    clear h hd
    generalize F.cellRead = R at *
    go_enter Try.func45, Try.ntmps45
    go_wp2_with fail
    refine HP.out.mono ?_
    rintro e w1 ⟨v, rfl, hv, hk⟩
    go_wp2_with fail
    go_ret2
    exact ⟨v, rfl, hv, hk⟩
  · rw [hd] at c16
    have e : F.cellRead = ([], 11) := by unfold Fla.cellRead; rw [if_pos hd]
    rw [e]
    clear h hd e
    go_enter Try.func45, Try.ntmps45
    go_wp2_with fail
    go_ret2
    exact ⟨_, rfl, Sl.nil _ _, Keeps.refl _ _⟩

theorem RdS.three {w : World} (t : TypeId) {x y z : Option Addr} {lx ly lz : List UInt8} {nx ny nz cx cy cz : Nat} (hx : Rd w x lx) (hy : Rd w y ly) (hz : Rd w z lz) (ex : lx.length = nx) (ey : ly.length = ny) (ez : lz.length = nz)
    (x0 : x = none → cx = 0) (y0 : y = none → cy = 0) (z0 : z = none → cz = 0) : RdS (w.alloc (.cells #[.slice x nx cx, .slice y ny cy, .slice z nz cz] t)) (some ⟨w.heap.size, 0, none⟩) [lx, ly, lz] := by
  subst ex ey ez
  have hB := Blk.newA w t #[.slice x lx.length cx, .slice y ly.length cy, .slice z lz.length cz]
  have hK := (Keeps.refl [] w).alloc (.cells #[.slice x lx.length cx, .slice y ly.length cy, .slice z lz.length cz] t)
  intro i m hm
  match i, hm with
  | 0, hm =>
    simp at hm
    subst hm
    exact ⟨w.heap.size, 0, x, cx, rfl, hB.cell' rfl, hx.keepsNil hK, x0⟩
  | 1, hm =>
    simp at hm
    subst hm
    exact ⟨w.heap.size, 0, y, cy, rfl, hB.cell' rfl, hy.keepsNil hK, y0⟩
  | 2, hm =>
    simp at hm
    subst hm
    exact ⟨w.heap.size, 0, z, cz, rfl, hB.cell' rfl, hz.keepsNil hK, z0⟩

theorem two_bytes (n : Nat) (hn : n ≤ 245) (x4 x5 : Int) (h4 : x4 = (n : Int) / 256) (h5 : x5 = n) :
    [Value.int .u8 x4, .int .u8 x5] = List.map B8 [UInt8.ofNat (n / 256), UInt8.ofNat n] := by
  have e4 : x4 = ((UInt8.ofNat (n / 256)).toNat : Int) := by rw [UInt8.toNat_ofNat']; omega
  have e5 : x5 = ((UInt8.ofNat n).toNat : Int) := by rw [UInt8.toNat_ofNat']; omega
  rw [e4, e5]
  rfl

theorem out_eq3 (M : UInt32) (b : List UInt8) : crcPut [be4 M, [UInt8.ofNat (b.length / 256), UInt8.ofNat b.length], b].flatten = Fla.cellOut M b := by
  rw [← out_eq]
  congr 1
  simp [be4]

theorem stNum_max {st : Option (UInt32 × List UInt8 × Nat)} (h : Fla.stNum st = 4294967295) : 0 ≤ Fla.stAt st := by
  cases st with
  | none => exact absurd h (by decide)
  | some x => show (0 : Int) ≤ (x.2.2 : Int); omega

set_option maxRecDepth 100000 in
set_option maxHeartbeats 4000000 in
theorem rcellwrite_calls {w : World} {p q : Nat} {F : Fla} (h : RfAt w p q F) (A : Option Addr) (c : Nat) (b : List UInt8) (hb : Rd w A b) (hbn : b.length ≤ 140737488351232) (hc : b.length ≤ c) (h0 : A = none → b = [] ∧ c = 0) (ha : ∀ x, A = some x → b ≠ [] → x.block ∉ [p, q]) :
    Calls Try.prog 46 #[.pointer (some ⟨p, 0, none⟩), .slice A b.length c] w (RPost w p q (F.cellWrite b).1 (.int .i64 (F.cellWrite b).2)) := by
  have c16 : w.cell? ⟨p, 16, none⟩ = some (.bool F.down) := by obtain ⟨z, _, h⟩ := h; exact h.down
  have c00 : w.cell? ⟨p, 0, none⟩ = some (.slice (some ⟨q, 0, none⟩) 3584 3584) := by obtain ⟨z, _, h⟩ := h; exact h.c0
  by_cases hl : 245 < b.length
  · have e : F.cellWrite b = (F, 1) := by unfold Fla.cellWrite; rw [if_pos hl]
    rw [e]
    have H := Lib.hid h
    clear e hb ha h0 h
    go_enter Try.func46, Try.ntmps46
    go_wp2_with fail
    go_ret
    exact ⟨rfl, H.out, Keeps.refl _ _⟩
  by_cases hd : F.down = true
  · have e : F.cellWrite b = (F, 11) := by unfold Fla.cellWrite; rw [if_neg hl, if_pos hd]
    rw [e]
    rw [hd] at c16
    have H := Lib.hid h
    clear e hb ha h0 hd h
    go_enter Try.func46, Try.ntmps46
    go_wp2_with fail
    go_ret
    exact ⟨rfl, H.out, Keeps.refl _ _⟩
  have hdf : F.down = false := by simpa using hd
  rw [hdf] at c16
  have hf : Calls Try.prog 73 #[.slice (some ⟨q, 0, none⟩) 3584 3584] w (NewestPost w F.found) := by
    rw [← newestOf_found hdf]
    obtain ⟨z, _, h⟩ := h
    obtain ⟨r, hb⟩ := h.bytes
    exact newest_calls q r F.b hb h.len
  have hW : F.cellWrite b = if Fla.stNum F.found = 4294967295 then (F, 9)
      else if Fla.stAt F.found = 0 then F.cellPut 1 256 (Fla.cellOut (Fla.stNum F.found + 1) b)
      else F.cellPut 0 0 (Fla.cellOut (Fla.stNum F.found + 1) b) := by unfold Fla.cellWrite; rw [if_neg hl, if_neg hd]
  clear hd hdf
  have hE1 := fun (w1 : World) (h1 : RfAt w1 p q F) => rerase_calls h1 1
  have hE0 := fun (w1 : World) (h1 : RfAt w1 p q F) => rerase_calls h1 0
  unfold NewestPost at hf
  generalize F.found = st at *
  by_cases hmax : Fla.stNum st = 4294967295
  · have hst := stNum_max hmax
    rw [if_pos hmax] at hW
    rw [hmax] at hf
    have HW := Lib.hid hW
    have Hf := Lib.hid hf
    have H := Lib.hid h
    clear hW hE1 hE0 hb h0 ha hmax hf h
    go_enter Try.func46, Try.ntmps46
    go_wp2_with fail
    refine Hf.out.mono ?_
    rintro e w2 ⟨v, rfl, hv, hk2⟩
    obtain ⟨a, c2, rfl, hv'⟩ := hv
    clear hv'
    go_wp2_with fail
    go_ret
    rw [HW.out]
    exact ⟨rfl, H.out.keeps hk2 (by simp) (by simp), hk2.nil⟩
  rw [if_neg hmax] at hW
  have hmax1 : (((Fla.stNum st).toNat : Int) == 4294967295) = false := by
    rw [beq_eq_false_iff_ne]; intro h'; exact hmax (UInt32.toNat_inj.1 (by show _ = 4294967295; omega))
  have hmax2 : ((Fla.stNum st).toNat == 4294967295) = false := by
    rw [beq_eq_false_iff_ne]; intro h'; exact hmax (UInt32.toNat_inj.1 (by show _ = 4294967295; omega))
  have hnx : ((Fla.stNum st).toNat : Int) + 1 = ((Fla.stNum st + 1).toNat : Int) := by
    have := (Fla.stNum st).toNat_lt
    have h2 : (Fla.stNum st).toNat ≠ 4294967295 := fun h' => hmax (UInt32.toNat_inj.1 (by show _ = 4294967295; exact h'))
    rw [UInt32.toNat_add]
    show _ = ((((Fla.stNum st).toNat + 1) % 4294967296 : Nat) : Int)
    omega
  have hlt : (Fla.stNum st).toNat < 4294967295 := by
    have := (Fla.stNum st).toNat_lt
    have h2 : (Fla.stNum st).toNat ≠ 4294967295 := fun h' => hmax (UInt32.toNat_inj.1 (by show _ = 4294967295; exact h'))
    omega
  clear hmax
  generalize Fla.stNum st = N at *
  generalize N + 1 = M at *
  have Hh0 := Lib.hid h0
  clear h0
  by_cases ht : Fla.stAt st = 0
  · rw [if_pos ht] at hW
    rw [ht] at hf
    clear ht
    have hP : F.cellPut 1 256 (Fla.cellOut M b) = if (F.erase 1).2 ≠ 0 then F.erase 1
      else if ((F.erase 1).1.program 256 (Fla.cellOut M b)).2 ≠ 0 then (F.erase 1).1.program 256 (Fla.cellOut M b)
      else ((F.erase 1).1.program 256 (Fla.cellOut M b)).1.program (256 + (Fla.cellOut M b).length) [0] := rfl
    rw [← hW] at hP
    clear hW hE0
    generalize F.erase 1 = r at *
    obtain ⟨G, z⟩ := r
    dsimp only at hP hE1
    have Hf := Lib.hid hf
    have HE := Lib.hid hE1
    clear hf hE1
    by_cases hz : z = 0
    · subst hz
      rw [if_neg (by simp)] at hP
      have HP := Lib.hid hP
      clear hP
      have H := Lib.hid h
      clear h
      go_enter Try.func46, Try.ntmps46
      go_wp2_with fail
      refine Hf.out.mono ?_
      rintro e w2 ⟨v, rfl, hv, hk2⟩
      obtain ⟨a, c2, rfl, hv'⟩ := hv
      clear hv'
      have h2 := H.out.keeps hk2 (by simp) (by simp)
      go_wp2_with fail
      refine (HE.out _ h2).mono ?_
      rintro e w3 ⟨rfl, hF3, hk3⟩
      have hb3 : Rd w3 A b := (hb.keepsNil hk2).keeps hk3 ha
      have Hb3 := Lib.hid hb3
      have Hk3 := Lib.hid hk3
      have HF3 := Lib.hid hF3
      clear hb3 hk3 hF3 h2
      go_wp2_with fail
      refine (four_calls M).mono ?_
      rintro e w4 ⟨v4, rfl, hO4, hk4⟩
      obtain ⟨a4, c4, rfl, h41, h42, hrd4, hn4, _⟩ := hO4.sl
      have hlb4 : (be4 M).length = 4 := rfl
      have hrd4' : Rd w4 a4 (be4 M) := hrd4
      have hJ := fun (t : Int) (ht : t = (b.length : Int) / 256) (s : Int) (hs : s = b.length) => join_calls (w := (w4.alloc (.cells #[.int .u8 t, .int .u8 s] 5)).alloc (.cells #[.slice a4 4 c4, .slice (some ⟨w4.heap.size, 0, none⟩) 2 2, .slice A b.length c] 22)) (some ⟨w4.heap.size + 1, 0, none⟩) 3 3 [be4 M, [UInt8.ofNat (b.length / 256), UInt8.ofNat b.length], b] (by
        have := RdS.three (w := w4.alloc (.cells #[.int .u8 t, .int .u8 s] 5)) 22 (x := a4) (y := some ⟨w4.heap.size, 0, none⟩) (z := A) (nx := 4) (ny := 2) (nz := b.length) (cx := c4) (cy := 2) (cz := c) (hrd4'.keepsNil ((Keeps.refl [] w4).alloc _)) (Rd.lit w4 _ _ _ (two_bytes b.length (by omega) t s ht hs)) ((Hb3.out.keepsNil hk4).keepsNil ((Keeps.refl [] w4).alloc _)) rfl rfl rfl (fun h => (hn4 h).2) (by simp) (fun h => (Hh0.out h).2)
        rwa [World.size_alloc] at this) rfl (by simp) (by simp [be4]; omega)
      have hLc : crcPut [be4 M, [UInt8.ofNat (b.length / 256), UInt8.ofNat b.length], b].flatten = Fla.cellOut M b := out_eq3 M b
      have hLl : [be4 M, [UInt8.ofNat (b.length / 256), UInt8.ofNat b.length], b].flatten.length ≤ 300 := by simp [be4]; omega
      generalize [be4 M, [UInt8.ofNat (b.length / 256), UInt8.ofNat b.length], b].flatten = L at *
      have HJ := Lib.hid hJ
      have Hn4 := Lib.hid hn4
      clear hO4 hrd4 hrd4' hJ hn4
      rw [hlb4]
      go_wp2_with fail
      refine (HJ.out _ rfl _ rfl).mono ?_
      rintro e w5 ⟨v5, rfl, hO5, hk5⟩
      have hk45 : Keeps [] w4 w5 := (((Keeps.refl [] w4).alloc _).alloc _).trans hk5
      obtain ⟨a5, c5, rfl, _, _, hrd5, hn5, _⟩ := hO5.sl
      have HU := Lib.hid (rput_calls (w := w5) a5 L.length c5 L hrd5 rfl (by omega) (fun hA => ⟨by rw [(hn5 hA).1]; rfl, (hn5 hA).2⟩))
      rw [hLc] at HU
      clear hLc hO5 hrd5 hn5 HJ Hn4
      go_wp2_with fail
      refine HU.out.mono ?_
      rintro e w6 ⟨v6, rfl, hO6, hk6⟩
      have hk36 : Keeps [] w3 w6 := (hk4.trans hk45).trans hk6
      have hF6 := HF3.out.keeps hk36 (by simp) (by simp)
      have hpl : p < w3.heap.size ∧ q < w3.heap.size := by obtain ⟨z, _, h⟩ := HF3.out; exact ⟨h.ltp, h.ltq⟩
      obtain ⟨a6, c6, rfl, _, hcm6, hrd6, hn6, hb6⟩ := hO6.sl
      have hkw : Keeps [p, q] w w6 := (hk2.nil.trans Hk3.out).trans hk36.nil
      have hsz36 := (hk4.trans hk45).size
      have hout : (Fla.cellOut M b).length ≤ 300 := by unfold Fla.cellOut; rw [crcPut_len]; simp [be4]; omega
      generalize Fla.cellOut M b = out at *
      have hP1 := rprogram_calls hF6 256 a6 c6 out hrd6 (fun x hx hne => by have := (hb6 x hx hne).1; simp; omega)
      generalize hpr : G.program 256 out = r2 at *
      obtain ⟨G2, z2⟩ := r2
      dsimp only at HP hP1
      have HP1 := Lib.hid hP1
      clear hpr hP1 hO6 hF6 hb6 HU hk5 hk6 hk45 hk4 hpl hk36 hrd6
      go_wp2_with fail
      refine HP1.out.mono ?_
      rintro e w7 ⟨rfl, hF7, hk7⟩
      have hp7 : p < w7.heap.size ∧ q < w7.heap.size := by obtain ⟨z, _, h⟩ := hF7; exact ⟨h.ltp, h.ltq⟩
      have HF7 := Lib.hid hF7
      clear hF7
      by_cases hz2 : z2 = 0
      · subst hz2
        have HP2 := Lib.hid HP.out
        rw [if_neg (by simp)] at HP2
        clear HP HP1
        generalize hpr : G2.program (256 + (out.length : Int)) [0] = r3 at *
        obtain ⟨G3, z3⟩ := r3
        have hPn := rprogram_calls (HF7.out.keeps ((Keeps.refl [] w7).alloc (.cells #[.int .u8 0] 5)) (by simp) (by simp)) (256 + (out.length : Int)) (some ⟨w7.heap.size, 0, none⟩) 1 [0] (Rd.lit w7 _ _ [0] rfl) (by intro x hx _; simp only [Option.some.injEq] at hx; subst hx; simp; omega)
        rw [hpr] at hPn
        have HPn := Lib.hid hPn
        clear hpr hPn
        go_wp2_with fail
        refine HPn.out.mono ?_
        rintro e w8 ⟨rfl, hF8, hk8⟩
        go_wp2_with fail
        go_ret
        rw [HP2.out]
        exact ⟨rfl, hF8, ((hkw.trans hk7).alloc _).trans hk8⟩
      · have hzb : (z2 == 0) = false := by simpa using hz2
        have HP2 := Lib.hid HP.out
        rw [if_pos hz2] at HP2
        clear HP HP1
        go_wp2_with fail
        go_ret
        rw [HP2.out]
        exact ⟨rfl, HF7.out, hkw.trans hk7⟩
    · rw [if_pos hz] at hP
      have hzb : (z == 0) = false := by simpa using hz
      have HP := Lib.hid hP
      have H := Lib.hid h
      clear hP hz hnx h
      go_enter Try.func46, Try.ntmps46
      go_wp2_with fail
      refine Hf.out.mono ?_
      rintro e w2 ⟨v, rfl, hv, hk2⟩
      obtain ⟨a, c2, rfl, hv'⟩ := hv
      clear hv'
      have h2 := H.out.keeps hk2 (by simp) (by simp)
      go_wp2_with fail
      refine (HE.out _ h2).mono ?_
      rintro e w3 ⟨rfl, hF3, hk3⟩
      have HF3 := Lib.hid hF3
      clear hF3
      go_wp2_with fail
      go_ret
      rw [HP.out]
      exact ⟨rfl, HF3.out, hk2.nil.trans hk3⟩
  rw [if_neg ht] at hW
  have htb : (Fla.stAt st == 0) = false := by simpa using ht
  by_cases hge : 0 ≤ Fla.stAt st
  · clear ht
    have hP : F.cellPut 0 0 (Fla.cellOut M b) = if (F.erase 0).2 ≠ 0 then F.erase 0
      else if ((F.erase 0).1.program 0 (Fla.cellOut M b)).2 ≠ 0 then (F.erase 0).1.program 0 (Fla.cellOut M b)
      else ((F.erase 0).1.program 0 (Fla.cellOut M b)).1.program (0 + (Fla.cellOut M b).length) [0] := rfl
    rw [← hW] at hP
    clear hW hE1
    generalize F.erase 0 = r at *
    obtain ⟨G, z⟩ := r
    dsimp only at hP hE0
    have Hf := Lib.hid hf
    have HE := Lib.hid hE0
    clear hf hE0
    by_cases hz : z = 0
    · subst hz
      rw [if_neg (by simp)] at hP
      have HP := Lib.hid hP
      clear hP
      have H := Lib.hid h
      clear h
      go_enter Try.func46, Try.ntmps46
      go_wp2_with fail
      refine Hf.out.mono ?_
      rintro e w2 ⟨v, rfl, hv, hk2⟩
      obtain ⟨a, c2, rfl, hv'⟩ := hv
      clear hv'
      have h2 := H.out.keeps hk2 (by simp) (by simp)
      go_wp2_with fail
      refine (HE.out _ h2).mono ?_
      rintro e w3 ⟨rfl, hF3, hk3⟩
      have hb3 : Rd w3 A b := (hb.keepsNil hk2).keeps hk3 ha
      have Hb3 := Lib.hid hb3
      have Hk3 := Lib.hid hk3
      have HF3 := Lib.hid hF3
      clear hb3 hk3 hF3 h2
      go_wp2_with fail
      refine (four_calls M).mono ?_
      rintro e w4 ⟨v4, rfl, hO4, hk4⟩
      obtain ⟨a4, c4, rfl, h41, h42, hrd4, hn4, _⟩ := hO4.sl
      have hlb4 : (be4 M).length = 4 := rfl
      have hrd4' : Rd w4 a4 (be4 M) := hrd4
      have hJ := fun (t : Int) (ht : t = (b.length : Int) / 256) (s : Int) (hs : s = b.length) => join_calls (w := (w4.alloc (.cells #[.int .u8 t, .int .u8 s] 5)).alloc (.cells #[.slice a4 4 c4, .slice (some ⟨w4.heap.size, 0, none⟩) 2 2, .slice A b.length c] 22)) (some ⟨w4.heap.size + 1, 0, none⟩) 3 3 [be4 M, [UInt8.ofNat (b.length / 256), UInt8.ofNat b.length], b] (by
        have := RdS.three (w := w4.alloc (.cells #[.int .u8 t, .int .u8 s] 5)) 22 (x := a4) (y := some ⟨w4.heap.size, 0, none⟩) (z := A) (nx := 4) (ny := 2) (nz := b.length) (cx := c4) (cy := 2) (cz := c) (hrd4'.keepsNil ((Keeps.refl [] w4).alloc _)) (Rd.lit w4 _ _ _ (two_bytes b.length (by omega) t s ht hs)) ((Hb3.out.keepsNil hk4).keepsNil ((Keeps.refl [] w4).alloc _)) rfl rfl rfl (fun h => (hn4 h).2) (by simp) (fun h => (Hh0.out h).2)
        rwa [World.size_alloc] at this) rfl (by simp) (by simp [be4]; omega)
      have hLc : crcPut [be4 M, [UInt8.ofNat (b.length / 256), UInt8.ofNat b.length], b].flatten = Fla.cellOut M b := out_eq3 M b
      have hLl : [be4 M, [UInt8.ofNat (b.length / 256), UInt8.ofNat b.length], b].flatten.length ≤ 300 := by simp [be4]; omega
      generalize [be4 M, [UInt8.ofNat (b.length / 256), UInt8.ofNat b.length], b].flatten = L at *
      have HJ := Lib.hid hJ
      have Hn4 := Lib.hid hn4
      clear hO4 hrd4 hrd4' hJ hn4
      rw [hlb4]
      go_wp2_with fail
      refine (HJ.out _ rfl _ rfl).mono ?_
      rintro e w5 ⟨v5, rfl, hO5, hk5⟩
      have hk45 : Keeps [] w4 w5 := (((Keeps.refl [] w4).alloc _).alloc _).trans hk5
      obtain ⟨a5, c5, rfl, _, _, hrd5, hn5, _⟩ := hO5.sl
      have HU := Lib.hid (rput_calls (w := w5) a5 L.length c5 L hrd5 rfl (by omega) (fun hA => ⟨by rw [(hn5 hA).1]; rfl, (hn5 hA).2⟩))
      rw [hLc] at HU
      clear hLc hO5 hrd5 hn5 HJ Hn4
      go_wp2_with fail
      refine HU.out.mono ?_
      rintro e w6 ⟨v6, rfl, hO6, hk6⟩
      have hk36 : Keeps [] w3 w6 := (hk4.trans hk45).trans hk6
      have hF6 := HF3.out.keeps hk36 (by simp) (by simp)
      have hpl : p < w3.heap.size ∧ q < w3.heap.size := by obtain ⟨z, _, h⟩ := HF3.out; exact ⟨h.ltp, h.ltq⟩
      obtain ⟨a6, c6, rfl, _, hcm6, hrd6, hn6, hb6⟩ := hO6.sl
      have hkw : Keeps [p, q] w w6 := (hk2.nil.trans Hk3.out).trans hk36.nil
      have hsz36 := (hk4.trans hk45).size
      have hout : (Fla.cellOut M b).length ≤ 300 := by unfold Fla.cellOut; rw [crcPut_len]; simp [be4]; omega
      generalize Fla.cellOut M b = out at *
      have hP1 := rprogram_calls hF6 0 a6 c6 out hrd6 (fun x hx hne => by have := (hb6 x hx hne).1; simp; omega)
      generalize hpr : G.program 0 out = r2 at *
      obtain ⟨G2, z2⟩ := r2
      dsimp only at HP hP1
      have HP1 := Lib.hid hP1
      clear hpr hP1 hO6 hF6 hb6 HU hk5 hk6 hk45 hk4 hpl hk36 hrd6
      go_wp2_with fail
      refine HP1.out.mono ?_
      rintro e w7 ⟨rfl, hF7, hk7⟩
      have hp7 : p < w7.heap.size ∧ q < w7.heap.size := by obtain ⟨z, _, h⟩ := hF7; exact ⟨h.ltp, h.ltq⟩
      have HF7 := Lib.hid hF7
      clear hF7
      by_cases hz2 : z2 = 0
      · subst hz2
        have HP2 := Lib.hid HP.out
        rw [if_neg (by simp)] at HP2
        clear HP HP1
        generalize hpr : G2.program (0 + (out.length : Int)) [0] = r3 at *
        obtain ⟨G3, z3⟩ := r3
        have hPn := rprogram_calls (HF7.out.keeps ((Keeps.refl [] w7).alloc (.cells #[.int .u8 0] 5)) (by simp) (by simp)) (0 + (out.length : Int)) (some ⟨w7.heap.size, 0, none⟩) 1 [0] (Rd.lit w7 _ _ [0] rfl) (by intro x hx _; simp only [Option.some.injEq] at hx; subst hx; simp; omega)
        rw [hpr] at hPn
        rw [Int.zero_add] at hPn
        have HPn := Lib.hid hPn
        clear hpr hPn
        go_wp2_with fail
        refine HPn.out.mono ?_
        rintro e w8 ⟨rfl, hF8, hk8⟩
        go_wp2_with fail
        go_ret
        rw [HP2.out]
        exact ⟨rfl, hF8, ((hkw.trans hk7).alloc _).trans hk8⟩
      · have hzb : (z2 == 0) = false := by simpa using hz2
        have HP2 := Lib.hid HP.out
        rw [if_pos hz2] at HP2
        clear HP HP1
        go_wp2_with fail
        go_ret
        rw [HP2.out]
        exact ⟨rfl, HF7.out, hkw.trans hk7⟩
    · rw [if_pos hz] at hP
      have hzb : (z == 0) = false := by simpa using hz
      have HP := Lib.hid hP
      have H := Lib.hid h
      clear hP hz hnx h
      go_enter Try.func46, Try.ntmps46
      go_wp2_with fail
      refine Hf.out.mono ?_
      rintro e w2 ⟨v, rfl, hv, hk2⟩
      obtain ⟨a, c2, rfl, hv'⟩ := hv
      clear hv'
      have h2 := H.out.keeps hk2 (by simp) (by simp)
      go_wp2_with fail
      refine (HE.out _ h2).mono ?_
      rintro e w3 ⟨rfl, hF3, hk3⟩
      have HF3 := Lib.hid hF3
      clear hF3
      go_wp2_with fail
      go_ret
      rw [HP.out]
      exact ⟨rfl, HF3.out, hk2.nil.trans hk3⟩
  · clear ht
    have hP : F.cellPut 0 0 (Fla.cellOut M b) = if (F.erase 0).2 ≠ 0 then F.erase 0
      else if ((F.erase 0).1.program 0 (Fla.cellOut M b)).2 ≠ 0 then (F.erase 0).1.program 0 (Fla.cellOut M b)
      else ((F.erase 0).1.program 0 (Fla.cellOut M b)).1.program (0 + (Fla.cellOut M b).length) [0] := rfl
    rw [← hW] at hP
    clear hW hE1
    generalize F.erase 0 = r at *
    obtain ⟨G, z⟩ := r
    dsimp only at hP hE0
    have Hf := Lib.hid hf
    have HE := Lib.hid hE0
    clear hf hE0
    by_cases hz : z = 0
    · subst hz
      rw [if_neg (by simp)] at hP
      have HP := Lib.hid hP
      clear hP
      have H := Lib.hid h
      clear h
      go_enter Try.func46, Try.ntmps46
      go_wp2_with fail
      refine Hf.out.mono ?_
      rintro e w2 ⟨v, rfl, hv, hk2⟩
      obtain ⟨a, c2, rfl, hv'⟩ := hv
      clear hv'
      have h2 := H.out.keeps hk2 (by simp) (by simp)
      go_wp2_with fail
      refine (HE.out _ h2).mono ?_
      rintro e w3 ⟨rfl, hF3, hk3⟩
      have hb3 : Rd w3 A b := (hb.keepsNil hk2).keeps hk3 ha
      have Hb3 := Lib.hid hb3
      have Hk3 := Lib.hid hk3
      have HF3 := Lib.hid hF3
      clear hb3 hk3 hF3 h2
      go_wp2_with fail
      refine (four_calls M).mono ?_
      rintro e w4 ⟨v4, rfl, hO4, hk4⟩
      obtain ⟨a4, c4, rfl, h41, h42, hrd4, hn4, _⟩ := hO4.sl
      have hlb4 : (be4 M).length = 4 := rfl
      have hrd4' : Rd w4 a4 (be4 M) := hrd4
      have hJ := fun (t : Int) (ht : t = (b.length : Int) / 256) (s : Int) (hs : s = b.length) => join_calls (w := (w4.alloc (.cells #[.int .u8 t, .int .u8 s] 5)).alloc (.cells #[.slice a4 4 c4, .slice (some ⟨w4.heap.size, 0, none⟩) 2 2, .slice A b.length c] 22)) (some ⟨w4.heap.size + 1, 0, none⟩) 3 3 [be4 M, [UInt8.ofNat (b.length / 256), UInt8.ofNat b.length], b] (by
        have := RdS.three (w := w4.alloc (.cells #[.int .u8 t, .int .u8 s] 5)) 22 (x := a4) (y := some ⟨w4.heap.size, 0, none⟩) (z := A) (nx := 4) (ny := 2) (nz := b.length) (cx := c4) (cy := 2) (cz := c) (hrd4'.keepsNil ((Keeps.refl [] w4).alloc _)) (Rd.lit w4 _ _ _ (two_bytes b.length (by omega) t s ht hs)) ((Hb3.out.keepsNil hk4).keepsNil ((Keeps.refl [] w4).alloc _)) rfl rfl rfl (fun h => (hn4 h).2) (by simp) (fun h => (Hh0.out h).2)
        rwa [World.size_alloc] at this) rfl (by simp) (by simp [be4]; omega)
      have hLc : crcPut [be4 M, [UInt8.ofNat (b.length / 256), UInt8.ofNat b.length], b].flatten = Fla.cellOut M b := out_eq3 M b
      have hLl : [be4 M, [UInt8.ofNat (b.length / 256), UInt8.ofNat b.length], b].flatten.length ≤ 300 := by simp [be4]; omega
      generalize [be4 M, [UInt8.ofNat (b.length / 256), UInt8.ofNat b.length], b].flatten = L at *
      have HJ := Lib.hid hJ
      have Hn4 := Lib.hid hn4
      clear hO4 hrd4 hrd4' hJ hn4
      rw [hlb4]
      go_wp2_with fail
      refine (HJ.out _ rfl _ rfl).mono ?_
      rintro e w5 ⟨v5, rfl, hO5, hk5⟩
      have hk45 : Keeps [] w4 w5 := (((Keeps.refl [] w4).alloc _).alloc _).trans hk5
      obtain ⟨a5, c5, rfl, _, _, hrd5, hn5, _⟩ := hO5.sl
      have HU := Lib.hid (rput_calls (w := w5) a5 L.length c5 L hrd5 rfl (by omega) (fun hA => ⟨by rw [(hn5 hA).1]; rfl, (hn5 hA).2⟩))
      rw [hLc] at HU
      clear hLc hO5 hrd5 hn5 HJ Hn4
      go_wp2_with fail
      refine HU.out.mono ?_
      rintro e w6 ⟨v6, rfl, hO6, hk6⟩
      have hk36 : Keeps [] w3 w6 := (hk4.trans hk45).trans hk6
      have hF6 := HF3.out.keeps hk36 (by simp) (by simp)
      have hpl : p < w3.heap.size ∧ q < w3.heap.size := by obtain ⟨z, _, h⟩ := HF3.out; exact ⟨h.ltp, h.ltq⟩
      obtain ⟨a6, c6, rfl, _, hcm6, hrd6, hn6, hb6⟩ := hO6.sl
      have hkw : Keeps [p, q] w w6 := (hk2.nil.trans Hk3.out).trans hk36.nil
      have hsz36 := (hk4.trans hk45).size
      have hout : (Fla.cellOut M b).length ≤ 300 := by unfold Fla.cellOut; rw [crcPut_len]; simp [be4]; omega
      generalize Fla.cellOut M b = out at *
      have hP1 := rprogram_calls hF6 0 a6 c6 out hrd6 (fun x hx hne => by have := (hb6 x hx hne).1; simp; omega)
      generalize hpr : G.program 0 out = r2 at *
      obtain ⟨G2, z2⟩ := r2
      dsimp only at HP hP1
      have HP1 := Lib.hid hP1
      clear hpr hP1 hO6 hF6 hb6 HU hk5 hk6 hk45 hk4 hpl hk36 hrd6
      go_wp2_with fail
      refine HP1.out.mono ?_
      rintro e w7 ⟨rfl, hF7, hk7⟩
      have hp7 : p < w7.heap.size ∧ q < w7.heap.size := by obtain ⟨z, _, h⟩ := hF7; exact ⟨h.ltp, h.ltq⟩
      have HF7 := Lib.hid hF7
      clear hF7
      by_cases hz2 : z2 = 0
      · subst hz2
        have HP2 := Lib.hid HP.out
        rw [if_neg (by simp)] at HP2
        clear HP HP1
        generalize hpr : G2.program (0 + (out.length : Int)) [0] = r3 at *
        obtain ⟨G3, z3⟩ := r3
        have hPn := rprogram_calls (HF7.out.keeps ((Keeps.refl [] w7).alloc (.cells #[.int .u8 0] 5)) (by simp) (by simp)) (0 + (out.length : Int)) (some ⟨w7.heap.size, 0, none⟩) 1 [0] (Rd.lit w7 _ _ [0] rfl) (by intro x hx _; simp only [Option.some.injEq] at hx; subst hx; simp; omega)
        rw [hpr] at hPn
        rw [Int.zero_add] at hPn
        have HPn := Lib.hid hPn
        clear hpr hPn
        go_wp2_with fail
        refine HPn.out.mono ?_
        rintro e w8 ⟨rfl, hF8, hk8⟩
        go_wp2_with fail
        go_ret
        rw [HP2.out]
        exact ⟨rfl, hF8, ((hkw.trans hk7).alloc _).trans hk8⟩
      · have hzb : (z2 == 0) = false := by simpa using hz2
        have HP2 := Lib.hid HP.out
        rw [if_pos hz2] at HP2
        clear HP HP1
        go_wp2_with fail
        go_ret
        rw [HP2.out]
        exact ⟨rfl, HF7.out, hkw.trans hk7⟩
    · rw [if_pos hz] at hP
      have hzb : (z == 0) = false := by simpa using hz
      have HP := Lib.hid hP
      have H := Lib.hid h
      clear hP hz hnx h
      go_enter Try.func46, Try.ntmps46
      go_wp2_with fail
      refine Hf.out.mono ?_
      rintro e w2 ⟨v, rfl, hv, hk2⟩
      obtain ⟨a, c2, rfl, hv'⟩ := hv
      clear hv'
      have h2 := H.out.keeps hk2 (by simp) (by simp)
      go_wp2_with fail
      refine (HE.out _ h2).mono ?_
      rintro e w3 ⟨rfl, hF3, hk3⟩
      have HF3 := Lib.hid hF3
      clear hF3
      go_wp2_with fail
      go_ret
      rw [HP.out]
      exact ⟨rfl, HF3.out, hk2.nil.trans hk3⟩

end Go.Proofs.Ythjojkkjdaoocaa
