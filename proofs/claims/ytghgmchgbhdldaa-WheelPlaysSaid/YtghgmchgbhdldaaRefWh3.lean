/-
  RefWh3: the reference's wheel, walked: Add.
-/
import Derived.Test.YtghgmchgbhdldaaRefWhP
import Derived.Test.YtghgmchgbhdldaaWhAd2
import Derived.Deep.RegionLaw
import Derived.Deep.DeepCutAuto
import Derived.Deep.CutBlock
set_option linter.unusedVariables false
set_option linter.unusedSimpArgs false
namespace Go.Proofs.Ytghgmchgbhdldaa
open Go.RowKit
attribute [local go_sem ↓] Go.wp_at_zero Go.wp_at_succ

theorem RdS.three {w : World} (t : TypeId) {x y z : Option Addr} {lx ly lz : List UInt8} {nx ny nz cx cy cz : Nat} (hx : Rd w x lx) (hy : Rd w y ly) (hz : Rd w z lz) (ex : lx.length = nx) (ey : ly.length = ny) (ez : lz.length = nz)
    (x0 : x = none → cx = 0) (y0 : y = none → cy = 0) (z0 : z = none → cz = 0) : RdS (w.alloc (.cells #[.slice x nx cx, .slice y ny cy, .slice z nz cz] t)) (some ⟨w.heap.size, 0, none⟩) [lx, ly, lz] := by
  subst ex ey ez
  have hB := Blk.newA w t #[.slice x lx.length cx, .slice y ly.length cy, .slice z lz.length cz]
  have hK := (Keeps.refl [] w).alloc (.cells #[.slice x lx.length cx, .slice y ly.length cy, .slice z lz.length cz] t)
  intro i m hm
  match i, hm with
  | 0, hm =>
    simp at hm
    subst hm
    exact ⟨w.heap.size, 0, x, cx, rfl, hB.cell' rfl, hx.keepsNil hK, x0⟩
  | 1, hm =>
    simp at hm
    subst hm
    exact ⟨w.heap.size, 0, y, cy, rfl, hB.cell' rfl, hy.keepsNil hK, y0⟩
  | 2, hm =>
    simp at hm
    subst hm
    exact ⟨w.heap.size, 0, z, cz, rfl, hB.cell' rfl, hz.keepsNil hK, z0⟩

theorem two_bytes (n : Nat) (hn : n ≤ 245) (x4 x5 : Int) (h4 : x4 = (n : Int) / 256) (h5 : x5 = n) :
    [Value.int .u8 x4, .int .u8 x5] = List.map B8 [UInt8.ofNat (n / 256), UInt8.ofNat n] := by
  have e4 : x4 = ((UInt8.ofNat (n / 256)).toNat : Int) := by rw [UInt8.toNat_ofNat']; omega
  have e5 : x5 = ((UInt8.ofNat n).toNat : Int) := by rw [UInt8.toNat_ofNat']; omega
  rw [e4, e5]
  rfl

def RAddPost (w : World) (p q u : Nat) (g : Option Nat) (r : Fla × Whl × Int) (e : Ending) (w' : World) : Prop :=
  e = .returned (.int .i64 r.2.2) ∧ RfAt w' p q r.1 ∧ (r.2.2 ≠ 11 → ∃ g', RWhAt w' p q u g' r.1 r.2.1 ∧ (g' = g ∨ ∃ y, g' = some y ∧ w.heap.size ≤ y)) ∧ Keeps (p :: q :: u :: g.toList) w w'

theorem RWhAt.ltu {w : World} {p q u : Nat} {g : Option Nat} {F : Fla} {V : Whl} (h : RWhAt w p q u g F V) : u < w.heap.size := by
  obtain ⟨v, _, hW, _⟩ := h.own
  exact Blk.lt hW

set_option maxRecDepth 100000 in
set_option maxHeartbeats 1000000 in
theorem radd_none {w : World} {p q u : Nat} {g : Option Nat} {F : Fla} {V : Whl} (h : RWhAt w p q u g F V) (id : UInt32) (A : Option Addr) (c : Nat) (d : List UInt8) (hn : d.length ≠ V.size ∨ V.room = 0 ∨ F.down = true) :
    Calls Try.prog 34 #[.pointer (some ⟨u, 0, none⟩), B32 id, .slice A d.length c] w (RAddPost w p q u g (V.add F id d)) := by
  obtain ⟨v, hv, hW, hR⟩ := h.own
  have c2 := hW.cell' (i := 2) rfl
  have c0 := hW.cell' (i := 0) rfl
  have c16 : w.cell? ⟨p, 16, none⟩ = some (.bool F.down) := by obtain ⟨z, _, hZ⟩ := h.fla; exact hZ.down
  have H := Lib.hid h
  by_cases h1 : d.length = V.size
  · have hRm := rroom_calls hW h.s1 h.s2 h.next
    have hroom : V.room = 8 * (places V.size : Int) - V.next := rfl
    rw [← hroom] at hRm
    have hi : ((d.length : Int) != (V.size : Int)) = false := by rw [h1]; simp
    by_cases h2 : V.room = 0
    · have e : V.add F id d = (F, V, 9) := by unfold Whl.add; rw [if_neg (by simp [h1]), if_pos h2]
      rw [e]
      rw [h2] at hRm
      clear h hW hR hn e hroom h2
      go_enter Try.func34, Try.ntmps34
      go_wp2_with fail
      refine hRm.mono ?_
      rintro e w1 ⟨rfl, n, rfl⟩
      go_wp2_with fail
      go_ret
      have k := (Keeps.refl [] w).drewN n
      exact ⟨rfl, H.out.fla.keeps k (by simp) (by simp), fun _ => ⟨g, H.out.keepsM k (by simp), .inl rfl⟩, k.mono (by simp)⟩
    · have h3 : F.down = true := by rcases hn with h | h | h; exact absurd h1 h; exact absurd h h2; exact h
      have e : V.add F id d = (F, V, 11) := by unfold Whl.add; rw [if_neg (by simp [h1]), if_neg h2, if_pos h3]
      rw [e]
      have hrb : (V.room == 0) = false := by simpa using h2
      rw [h3] at c16
      clear h hW hR hn e hroom h2
      generalize V.room = room at *
      go_enter Try.func34, Try.ntmps34
      go_wp2_with fail
      refine hRm.mono ?_
      rintro e w1 ⟨rfl, n, rfl⟩
      go_wp2_with fail
      go_ret
      have k := (Keeps.refl [] w).drewN n
      exact ⟨rfl, H.out.fla.keeps k (by simp) (by simp), fun h => absurd rfl h, k.mono (by simp)⟩
  · have e : V.add F id d = (F, V, 1) := by unfold Whl.add; rw [if_pos h1]
    rw [e]
    have hi : ((d.length : Int) != (V.size : Int)) = true := by rw [bne_iff_ne]; omega
    clear h hW hR hn e
    go_enter Try.func34, Try.ntmps34
    go_wp2_with fail
    go_ret
    have k := Keeps.refl [] w
    exact ⟨rfl, H.out.fla, fun _ => ⟨g, H.out, .inl rfl⟩, k.mono (by simp)⟩

theorem rprogram_calls_n {w : World} {p q : Nat} {F : Fla} (h : RfAt w p q F) (at_ : Int) (a : Option Addr) (n c : Nat) (l : List UInt8) (hl : Rd w a l) (hn : l.length = n) (ha : ∀ x, a = some x → l ≠ [] → x.block ∉ [p, q]) :
    Calls Try.prog 77 #[.pointer (some ⟨p, 0, none⟩), .int .i64 at_, .slice a n c] w (RPost w p q (F.program at_ l).1 (.int .i64 (F.program at_ l).2)) := by
  subst hn; exact rprogram_calls h at_ a c l hl ha

theorem RfAt.alloc' {w : World} {p q : Nat} {F : Fla} (h : RfAt w p q F) (o : Obj) : RfAt (w.alloc o) p q F := h.keeps ((Keeps.refl [] w).alloc o) (by simp) (by simp)

set_option maxRecDepth 100000 in
set_option maxHeartbeats 8000000 in
theorem radd_some {w : World} {p q u : Nat} {g : Option Nat} {F : Fla} {V : Whl} (h : RWhAt w p q u g F V) (id : UInt32) (A : Option Addr) (c : Nat) (d : List UInt8) (hA : Rd w A d) (hA0 : A = none → d = [] ∧ c = 0) (hc : d.length ≤ c) (hcm : c ≤ 9223372036854775807)
    (hAp : ∀ x, A = some x → d ≠ [] → x.block ≠ p ∧ x.block ≠ q ∧ x.block ≠ u ∧ g ≠ some x.block) (hl : d.length = V.size) (hr : V.room ≠ 0) (hd : F.down = false) :
    Calls Try.prog 34 #[.pointer (some ⟨u, 0, none⟩), B32 id, .slice A d.length c] w (RAddPost w p q u g (V.add F id d)) := by
  obtain ⟨v, hv, hW, hR⟩ := h.own
  have hp := places_bounds h.s1 h.s2
  have hs16 := h.s2
  have hs1 := h.s1
  have hpu := h.pu
  have hqu := h.qu
  have hnx : V.next < 8 * places V.size := by have := h.next; have : V.room = 8 * (places V.size : Int) - V.next := rfl; omega
  have hsec : V.sector < 8 := (Nat.div_lt_iff_lt_mul (by omega)).2 hnx
  have hlens := h.lens
  have hRm := rroom_calls hW h.s1 h.s2 h.next
  have hroom : V.room = 8 * (places V.size : Int) - V.next := rfl
  rw [← hroom] at hRm
  have c16 : w.cell? ⟨p, 16, none⟩ = some (.bool F.down) := by obtain ⟨z, _, hZ⟩ := h.fla; exact hZ.down
  rw [hd] at c16
  have hAt := fun (w : World) (h : w.cell? ⟨u, 2, none⟩ = some (.int .i64 V.size)) => rat_calls h hs1 hs16 V.next (by omega)
  have hsecE : 6 + V.next / places V.size = 6 + V.sector := rfl
  rw [hsecE] at hAt
  have hadd : V.add F id d = if (F.enters V.ready V.sector).2 ≠ 0 then ((F.enters V.ready V.sector).1, V, (F.enters V.ready V.sector).2)
    else
      let r := (F.enters V.ready V.sector).1.whPut (whAt V.size V.next) (Fla.whOut V.gen id d)
      if r.2 ≠ 0 then (r.1, V, r.2) else (r.1, V.added id d, 0) := by
    unfold Whl.add; rw [if_neg (by simp [hl]), if_neg hr, if_neg (by simp [hd])]
  obtain ⟨AR, hAR⟩ : ∃ AR, V.add F id d = AR := ⟨_, rfl⟩
  rw [hAR] at hadd ⊢
  clear hAR
  have hEc := enters_clear F V.ready V.sector
  obtain ⟨SC, hSC⟩ : ∃ SC, 6 + V.sector = SC := ⟨_, rfl⟩
  rw [hSC] at hAt hEc
  have HSC := Lib.hid hSC
  clear hSC
  have hrb : (V.room == 0) = false := by simpa using hr
  have hi : ((d.length : Int) != (V.size : Int)) = false := by rw [hl]; simp
  have H := Lib.hid h
  have HR := Lib.hid hR
  have HA := Lib.hid hA
  have HAp := Lib.hid hAp
  have Hl := Lib.hid hl
  have c0 := hW.cell' (i := 0) rfl
  have c2 := hW.cell' (i := 2) rfl
  have c4 := hW.cell' (i := 4) rfl
  have c5 := hW.cell' (i := 5) rfl
  have hul := hW.lt
  have HW := Lib.hid hW
  have HaddO := Lib.hid hadd
  have HEcO := Lib.hid hEc
  clear h hR hA hAp hr hd hroom hsecE hW hadd hEc
  generalize V.room = room at *
  rw [hl]
  rw [hl] at hi
  clear hl
  go_enter Try.func34, Try.ntmps34
  go_wp2_with fail
  refine hRm.mono ?_
  rintro e w1 ⟨rfl, n1, hw1⟩
  have hk1 : Keeps [] w w1 := hw1 ▸ (Keeps.refl [] w).drewN n1
  have d0 := hk1.cell c0
  have d2 := hk1.cell c2
  have d5 := hk1.cell c5
  have d16 := hk1.cell c16
  clear hw1 c0 c2 c5 c16 hRm
  go_wp2_with fail
  refine (hAt _ d2).mono ?_
  rintro e w2 ⟨rfl, n2, hw2⟩
  have hk2 : Keeps [] w w2 := hk1.trans (hw2 ▸ (Keeps.refl [] w1).drewN n2)
  have hW2 := HW.out.keeps hk2 (by simp)
  have hF2 := H.out.fla.keeps hk2 (by simp) (by simp)
  have HR2 := Lib.hid (HR.out.keeps hk2 (by simp))
  have HA2 := Lib.hid (HA.out.keepsNil hk2)
  have e0 := hW2.cell' (i := 0) rfl
  have e4 := hW2.cell' (i := 4) rfl
  clear hw2 d0 d2 d5 d16 c4 hAt hk1 HR HA
  have hadd := HaddO.out
  have hEc := HEcO.out
  clear HaddO HEcO
  by_cases hrdy : (V.sector : Int) = V.ready
  · have hne : ((SC : Int) != rReady V.ready) = false := by
      have := HSC.out; rw [bne_eq_false_iff_eq]; unfold rReady; rw [if_neg (by omega)]; omega
    have hrr : rReady V.ready = (SC : Int) := (show (SC : Int) = rReady V.ready from by simpa using hne).symm
    rw [if_pos hrdy] at hEc
    rw [hEc] at hadd
    dsimp only at hadd
    rw [if_neg (by simp)] at hadd
    have Hadd := Lib.hid hadd
    have hF3 := hF2
    have hW3 := hW2
    rw [hrr] at hW3
    have HR3 := HR2
    have HA3 := HA2
    have HK3 : Hid (Keeps [p, q, u] w w2) := Lib.hid (hk2.mono (by simp))
    clear hadd hEc hrdy hF2 hW2 hk2
    obtain ⟨w3, hw3⟩ : ∃ w3, w3 = w2 := ⟨_, rfl⟩
    subst hw3
    obtain ⟨F1, hF1⟩ : ∃ F1, F1 = F := ⟨_, rfl⟩
    subst hF1
    have c1' := hW3.cell' (i := 1) rfl
    go_wp2_with fail
    refine (four_calls V.gen).mono ?_
    rintro e w4 ⟨v4, rfl, hO4, hk4⟩
    go_wp2_with fail
    refine (four_calls id).mono ?_
    rintro e w5 ⟨v5, rfl, hO5, hk5⟩
    obtain ⟨a4, k4, rfl, _, _, hrd4, hn4, _⟩ := hO4.sl
    obtain ⟨a5, k5, rfl, _, _, hrd5, hn5, _⟩ := hO5.sl
    have hk35 := hk4.trans hk5
    have hJ := join_calls (w := w5.alloc (.cells #[.slice a4 4 k4, .slice a5 4 k5, .slice A V.size c] 23)) (some ⟨w5.heap.size, 0, none⟩) 3 3 [be4 V.gen, be4 id, d] (RdS.three (w := w5) 23 (x := a4) (y := a5) (z := A) (nx := 4) (ny := 4) (nz := V.size) (cx := k4) (cy := k5) (cz := c) (hrd4.keepsNil hk5) hrd5 (HA3.out.keepsNil hk35) rfl rfl Hl.out (fun h => (hn4 h).2) (fun h => (hn5 h).2) (fun h => (hA0 h).2)) rfl (by simp) (by have := Hl.out; simp [be4]; omega)
    have hLc : crcPut [be4 V.gen, be4 id, d].flatten = Fla.whOut V.gen id d := by unfold Fla.whOut; simp
    have hLl : [be4 V.gen, be4 id, d].flatten.length ≤ 300 := by have := Hl.out; simp [be4]; omega
    have HNl := Lib.hid (whOut_len V.gen id d)
    generalize [be4 V.gen, be4 id, d].flatten = L at *
    have HJ := Lib.hid hJ
    have hb4 : (be4 V.gen).length = 4 := rfl
    have hb5 : (be4 id).length = 4 := rfl
    rw [hb4, hb5]
    clear hO4 hO5 hrd4 hrd5 hJ hn4 hn5 hk4 hk5 hb4 hb5
    go_wp2_with fail
    refine HJ.out.mono ?_
    rintro e w6 ⟨v6, rfl, hO6, hk6⟩
    have hk36 : Keeps [] w3 w6 := (hk35.alloc _).trans hk6
    obtain ⟨a6, c6, rfl, _, _, hrd6, hn6, _⟩ := hO6.sl
    have hU := rput_calls (w := w6) a6 L.length c6 L hrd6 rfl (by omega) (fun hA => ⟨by rw [(hn6 hA).1]; rfl, (hn6 hA).2⟩)
    rw [hLc] at hU
    have HU := Lib.hid hU
    clear hLc hO6 hrd6 hn6 HJ hU hk6 hk35
    go_wp2_with fail
    refine HU.out.mono ?_
    rintro e w7 ⟨v7, rfl, hO7, hk7⟩
    have hsz36 := hk36.size
    have hk37 : Keeps [] w3 w7 := hk36.trans hk7
    obtain ⟨a7, c7, rfl, _, hcm7, hrd7, hn7, hb7⟩ := hO7.sl
    have hpl : p < w3.heap.size ∧ q < w3.heap.size := by obtain ⟨z, _, h⟩ := hF3; exact ⟨h.ltp, h.ltq⟩
    have hF7 := hF3.keeps hk37 (by simp) (by simp)
    have hW7 := hW3.keeps hk37 (by simp)
    have m0 := hW7.cell' (i := 0) rfl
    have hNl := HNl.out
    have htop := whAt_top hs1 hs16 (k := V.next) hnx
    have hwd : wide V.size = V.size + 13 := rfl
    have hwp : F1.whPut (whAt V.size V.next) (Fla.whOut V.gen id d) = if (F1.program (whAt V.size V.next : Nat) (Fla.whOut V.gen id d)).2 ≠ 0 then F1.program (whAt V.size V.next : Nat) (Fla.whOut V.gen id d) else (F1.program (whAt V.size V.next : Nat) (Fla.whOut V.gen id d)).1.program ((whAt V.size V.next + (Fla.whOut V.gen id d).length : Nat) : Int) [0] := rfl
    have hcode := program_code (F := F1) (a := whAt V.size V.next) (l := Fla.whOut V.gen id d) (by have := Hl.out; omega)
    have hcode2 := fun F2 : Fla => program_code (F := F2) (a := whAt V.size V.next + (Fla.whOut V.gen id d).length) (l := [0]) (by have := Hl.out; simp; omega)
    generalize Fla.whOut V.gen id d = out at *
    generalize hT : whAt V.size V.next = T at *
    have hPr := rprogram_calls hF7 (T : Int) a7 c7 out hrd7 (fun x hx hne => by have := (hb7 x hx hne).1; simp; omega)
    generalize F1.program (T : Nat) out = E2 at *
    obtain ⟨F2, z2⟩ := E2
    dsimp only at hwp hPr hcode
    have HPr := Lib.hid hPr
    have Hwp := Lib.hid hwp
    have HW7 := Lib.hid hW7
    have HR7 := Lib.hid (HR3.out.keeps hk37 (by simp))
    have HA7 := Lib.hid (HA3.out.keepsNil hk37)
    have Hk7 := Lib.hid (show Keeps [p, q, u] w w7 from HK3.out.trans hk37.nil)
    have hsz7 := hk37.size
    clear hO7 hk7 hk37 hk36 HU hwp hPr hrd7 hF7 hW7 hT hb7 hn7 hwd
    have hN7 : out.length ≤ 100 := by have := Hl.out; omega
    have hT4 : T ≤ 3584 := by omega
    clear hNl
    generalize hNN : out.length = N7 at *
    go_wp2_with fail
    refine HPr.out.mono ?_
    rintro e w8 ⟨rfl, hF8, hk8⟩
    have hW8 := HW7.out.keeps hk8 (by simp; omega)
    have o0 := hW8.cell' (i := 0) rfl
    have HF8 := Lib.hid hF8
    have HW8 := Lib.hid hW8
    have hpl8 : p < w8.heap.size ∧ q < w8.heap.size := by have := hk8.size; omega
    have HR8 := Lib.hid (HR7.out.keeps hk8 (by simp; omega))
    have HA8 := Lib.hid (HA7.out.keeps hk8 (fun x hx hne => by have := HAp.out x hx hne; simp [this.1, this.2.1]))
    have Hk8 := Lib.hid (show Keeps [p, q, u] w w8 from Hk7.out.trans (hk8.mono (by simp)))
    clear hF8 hW8 hk8 m0 HPr HW7 HR7 HA7
    rcases hcode with rfl | rfl
    · have hPr2 := rprogram_calls_n (HF8.out.alloc' (.cells #[.int .u8 0] 5)) ((T : Int) + (N7 : Int)) (some ⟨w8.heap.size, 0, none⟩) 1 1 [0] (Rd.lit w8 _ _ [0] rfl) rfl (by intro x hx _; simp only [Option.some.injEq] at hx; subst hx; simp; omega)
      have hc2 := hcode2 F2
      rw [Int.natCast_add] at hc2
      have hE3 : F1.whPut T out = F2.program ((T : Int) + (N7 : Int)) [0] := by rw [Hwp.out, if_neg (by simp), Int.natCast_add]
      generalize F2.program ((T : Int) + (N7 : Int)) [0] = E3 at *
      obtain ⟨F3, z3⟩ := E3
      dsimp only at hPr2 hc2
      have hadd3 : AR = if z3 ≠ 0 then (F3, V, z3) else (F3, V.added id d, 0) := by rw [Hadd.out, hE3]
      have Hadd3 := Lib.hid hadd3
      have HPr2 := Lib.hid hPr2
      have ka := Keeps.alloc (Keeps.refl [] w8) (.cells #[.int .u8 0] 5)
      have Hka := Lib.hid ka
      clear hPr2 hE3 hadd3 Hadd Hwp hcode2 ka
      go_wp2_with fail
      refine HPr2.out.mono ?_
      rintro e w9 ⟨rfl, hF9, hk9⟩
      have hW9 := (HW8.out.keeps Hka.out (by simp)).keeps hk9 (by simp; omega)
      have HF9 := Lib.hid hF9
      have HR9 := Lib.hid ((HR8.out.keeps Hka.out (by simp)).keeps hk9 (by simp; omega))
      have HA9 := Lib.hid ((HA8.out.keepsNil Hka.out).keeps hk9 (fun x hx hne => by have := HAp.out x hx hne; simp [this.1, this.2.1]))
      have Hk9 := Lib.hid (show Keeps [p, q, u] w w9 from (Hk8.out.trans Hka.out.nil).trans (hk9.mono (by simp)))
      clear hF9 hk9 Hka HPr2 HW8 HR8 HA8 o0
      rcases hc2 with rfl | rfl
      · have Hadd4 := Lib.hid (show AR = (F3, V.added id d, 0) by rw [Hadd3.out]; exact if_neg (by simp))
        clear Hadd3
        have hR9 := HR9.out
        obtain ⟨av, cv, rfl, hvl, hvm, hv0, hvo⟩ := hR9.form
        have c3 := hW9.cell' (i := 3) rfl
        have f3 := hW9.frozen 3
        have c5' := hW9.cell' (i := 5) rfl
        have f5 := hW9.frozen 5
        have hu9 := hW9.lt
        have HW9 := Lib.hid hW9
        have Hkd := Lib.hid ((Keeps.refl [] w9).drew.alloc (.cells #[.slice A V.size c] 23))
        have hC := join_calls (w := w9.drew.alloc (.cells #[.slice A V.size c] 23)) (some ⟨w9.heap.size, 0, none⟩) 1 1 [d] (RdS.one (w := w9.drew) 23 (n := V.size) (c := c) (HA9.out.keepsNil (Keeps.refl [] w9).drew) Hl.out (fun h => (hA0 h).2)) rfl (by simp) (by have := Hl.out; simp; omega)
        rw [show [d].flatten = d from by simp] at hC
        have HC := Lib.hid hC
        have Hh9 := Lib.hid (show ∀ y, (w9.drew.alloc (.cells #[.slice A V.size c] 23)).heap.size ≤ y → w9.heap.size ≤ y from fun y hy => Nat.le_trans Hkd.out.size hy)
        clear hC
        have Hlk := Lib.hid (show V.l.length ≤ 100000 by omega)
        have Hvo := Lib.hid hvo
        clear hvo hv0 hR9 hW9
        go_wp2_with fail
        go_region_law (first
          | (go_simp; go_at_call 75; refine HC.out.mono ?_; rintro e w13 ⟨v13, rfl, hO13, hk13'⟩; have hk13 := Hkd.out.trans hk13'; obtain ⟨a13, c13, rfl, hrest⟩ := hO13.sl; have n3 := hk13.cell c3; have k14 := Keeps.alloc (Keeps.refl [] w13) (.cells #[.int .u32 id.toNat, .slice a13 d.length c13] 43); have nn3 := k14.cell n3; have hs13 := hk13.size; have HR14 := Lib.hid ((HR9.out.keeps hk13 (by simp)).keeps k14 (by simp)); have HB14 := Lib.hid (Blk.newA w13 43 #[.int .u32 id.toNat, .slice a13 d.length c13]); have HX14 := Lib.hid ((hO13.slb.slx (N := fun z => u + 1 ≤ z ∧ Value.ownBlock (.slice av V.l.length cv) ≠ some z) (fun y h1 h2 => ⟨(by have := Hh9.out y h1; omega), fun hc => (by have := Hvo.out y hc; have := Hh9.out y h1; omega)⟩)).keeps k14 (by simp) (fun _ h _ => h)); have HW14 := Lib.hid ((HW9.out.keeps hk13 (by simp)).keeps k14 (by simp)); have Hk14 := Lib.hid (hk13.trans k14); have HBs := Lib.hid (show u + 1 ≤ (w13.alloc (.cells #[.int .u32 id.toNat, .slice a13 d.length c13] 43)).heap.size from Nat.le_trans hu9 Hk14.out.size))
          | (refine step_append_rec rfl (.tmp 99) (.tmp 105) rfl HR14.out rfl _ 1 rfl id _ d HB14.out HX14.out Hlk.out HBs.out ?_; intro g6 cap6 w15 hR15 hG15 hg15 hl15; have hk15 := (Keeps.refl _ _).grown (S := Option.toList (Value.ownBlock (.slice av V.l.length cv))) hG15 (fun z hz => Or.inl (by rw [hz]; exact List.mem_singleton.2 rfl)); have hW15 := HW14.out.keeps hk15 (fun hm => (by have := Hvo.out _ (Option.mem_toList.1 hm); omega)); have c15 := hW15.cell' (i := 3) rfl; have f15 := hW15.frozen 3; have hW16 := RWhB.setL hW15 (.slice (some ⟨g6, 0, none⟩) (V.l.length + 1) cap6); have c16' := hW16.cell' (i := 5) rfl; have f16' := hW16.frozen 5; have hu15 := hW15.lt))
        all_goals
          have HW17 := Lib.hid (hW16.setN ((V.next : Int) + 1))
          have HKs := Lib.hid (show Keeps [u] w15 ((w15.setCell ⟨u, 3, none⟩ (.slice (some ⟨g6, 0, none⟩) (V.l.length + 1) cap6)).setCell ⟨u, 5, none⟩ (.int .i64 ((V.next : Int) + 1))) from ((Keeps.refl [u] w15).setCell (by simp) _).setCell (by simp) _)
          have hFe := ((HF9.out.keeps Hk14.out (by simp) (by simp)).keeps hk15 (fun hm => by have := Hvo.out _ (Option.mem_toList.1 hm); omega) (fun hm => by have := Hvo.out _ (Option.mem_toList.1 hm); omega)).keeps HKs.out (by simp; omega) (by simp; omega)
          have K2 := ((Hk9.out.trans Hk14.out.nil).mono (T := p :: q :: u :: (Value.ownBlock (.slice av V.l.length cv)).toList) (fun x hx => .inl (by simp at hx ⊢; omega))).trans' (T := p :: q :: u :: (Value.ownBlock (.slice av V.l.length cv)).toList) hk15 (fun _ h => .inl h) (fun x hx => .inl (List.mem_cons_of_mem _ (List.mem_cons_of_mem _ (List.mem_cons_of_mem _ hx))))
          have K3 := K2.trans' (T := p :: q :: u :: (Value.ownBlock (.slice av V.l.length cv)).toList) HKs.out (fun _ h => .inl h) (fun x hx => .inl (by simp at hx ⊢; omega))
          have hsz15 : w.heap.size ≤ (w13.alloc (.cells #[.int .u32 id.toNat, .slice a13 d.length c13] 43)).heap.size := Nat.le_trans Hk9.out.size Hk14.out.size
          have hR17 := hR15.keeps HKs.out (by simp)
          clear hW15 hW16
          go_wp2_with fail
          go_ret
          rw [Hadd4.out]
          refine ⟨rfl, hFe, fun _ => ⟨some g6, ⟨hFe, hs1, hs16, hpu, hqu, ?_, ?_, ?_, (.slice (some ⟨g6, 0, none⟩) (V.l.length + 1) cap6), rfl, ?_, ?_⟩, ?_⟩, ?_⟩
          · show V.next + 1 ≤ 8 * places V.size
            exact hnx
          · show (V.l ++ [(id, d)]).length ≤ 144 + (V.next + 1)
            simp; omega
          · intro e he
            rcases List.mem_append.1 he with he | he
            · exact H.out.dat e he
            · simp at he; subst he; exact Hl.out
          · show RWhB _ p u V.gen V.size (.slice (some ⟨g6, 0, none⟩) (V.l.length + 1) cap6) (rReady ((V.sector : Nat) : Int)) ((V.next + 1 : Nat) : Int)
            rw [show rReady ((V.sector : Nat) : Int) = (SC : Int) from by have := HSC.out; unfold rReady; rw [if_neg (by omega)]; omega]
            exact HW17.out
          · exact hR17
          · rcases hg15 with hh | hh
            · exact .inl (by rw [← hv]; exact hh.symm)
            · exact .inr ⟨g6, rfl, by rw [hh]; exact hsz15⟩
          · rw [← hv]; exact K3
      · have Hadd4 := Lib.hid (show AR = (F3, V, 11) by rw [Hadd3.out]; rfl)
        clear Hadd3
        go_wp2_with fail
        go_ret
        rw [Hadd4.out]
        exact ⟨rfl, HF9.out, fun h => absurd rfl h, Hk9.out.mono (fun x hx => .inl (by simp at hx ⊢; omega))⟩
    · have Hadd4 := Lib.hid (show AR = (F2, V, 11) by rw [Hadd.out, Hwp.out]; rfl)
      go_wp2_with fail
      go_ret
      rw [Hadd4.out]
      exact ⟨rfl, HF8.out, fun h => absurd rfl h, Hk8.out.mono (fun x hx => .inl (by simp at hx ⊢; omega))⟩
  · have hne : ((SC : Int) != rReady V.ready) = true := by
      have := HSC.out; rw [bne_iff_ne]; unfold rReady; split <;> omega
    rw [if_neg hrdy] at hEc
    have hCl := rclear18_calls hF2 (SC : Int) (by have := HSC.out; omega)
    generalize F.clear1 (SC : Int) = E1 at *
    obtain ⟨F1, z1⟩ := E1
    rw [hEc] at hadd
    dsimp only at hadd hCl
    have HCl := Lib.hid hCl
    have Hadd0 := Lib.hid hadd
    have HW2 := Lib.hid hW2
    have Hk2 := Lib.hid hk2
    clear hadd hEc hrdy hF2 hW2 hk2 hCl
    go_wp2_with fail
    refine HCl.out.mono ?_
    rintro e w2b ⟨rfl, hF2b, hk2b⟩
    have hW2b := HW2.out.keeps hk2b (by simp; omega)
    have HK2b : Hid (Keeps [p, q, u] w w2b) := Lib.hid ((Hk2.out.mono (by simp)).trans (hk2b.mono (by simp)))
    have HR2b := Lib.hid (HR2.out.keeps hk2b (by simp; omega))
    have HA2b := Lib.hid (HA2.out.keeps hk2b (fun x hx hne => by have := HAp.out x hx hne; simp [this.1, this.2.1]))
    by_cases hz1 : z1 = 0
    · subst hz1
      have Hadd := Lib.hid (show AR = _ from by rw [Hadd0.out, if_neg (by simp)])
      have f4 := hW2b.frozen 4
      have q4 := hW2b.cell' (i := 4) rfl
      have hul2 := hW2b.lt
      have hks : Keeps [u] w2b (w2b.setCell ⟨u, 4, none⟩ (.int .i64 (SC : Int))) := (Keeps.refl [u] w2b).setCell (by simp) _
      have hW3 := hW2b.setR (SC : Int)
      have hF3 := hF2b.keeps hks (by simp; omega) (by simp; omega)
      have HR3 := Lib.hid (HR2b.out.keeps hks (by simp))
      have HA3 := Lib.hid (HA2b.out.keeps hks (fun x hx hne => by have := HAp.out x hx hne; simp [this.2.2.1]))
      have HK3 : Hid (Keeps [p, q, u] w (w2b.setCell ⟨u, 4, none⟩ (.int .i64 (SC : Int)))) := Lib.hid (HK2b.out.setCell (by simp) _)
      clear Hadd0 HW2 Hk2 HCl hk2b hF2b hW2b HR2b HA2b HK2b HR2 HA2 hks
      go_upto_region 13 with (fail)
      generalize w2b.setCell ⟨u, 4, none⟩ (.int .i64 (SC : Int)) = w3 at *
      have c1' := hW3.cell' (i := 1) rfl
      go_wp2_with fail
      refine (four_calls V.gen).mono ?_
      rintro e w4 ⟨v4, rfl, hO4, hk4⟩
      go_wp2_with fail
      refine (four_calls id).mono ?_
      rintro e w5 ⟨v5, rfl, hO5, hk5⟩
      obtain ⟨a4, k4, rfl, _, _, hrd4, hn4, _⟩ := hO4.sl
      obtain ⟨a5, k5, rfl, _, _, hrd5, hn5, _⟩ := hO5.sl
      have hk35 := hk4.trans hk5
      have hJ := join_calls (w := w5.alloc (.cells #[.slice a4 4 k4, .slice a5 4 k5, .slice A V.size c] 23)) (some ⟨w5.heap.size, 0, none⟩) 3 3 [be4 V.gen, be4 id, d] (RdS.three (w := w5) 23 (x := a4) (y := a5) (z := A) (nx := 4) (ny := 4) (nz := V.size) (cx := k4) (cy := k5) (cz := c) (hrd4.keepsNil hk5) hrd5 (HA3.out.keepsNil hk35) rfl rfl Hl.out (fun h => (hn4 h).2) (fun h => (hn5 h).2) (fun h => (hA0 h).2)) rfl (by simp) (by have := Hl.out; simp [be4]; omega)
      have hLc : crcPut [be4 V.gen, be4 id, d].flatten = Fla.whOut V.gen id d := by unfold Fla.whOut; simp
      have hLl : [be4 V.gen, be4 id, d].flatten.length ≤ 300 := by have := Hl.out; simp [be4]; omega
      have HNl := Lib.hid (whOut_len V.gen id d)
      generalize [be4 V.gen, be4 id, d].flatten = L at *
      have HJ := Lib.hid hJ
      have hb4 : (be4 V.gen).length = 4 := rfl
      have hb5 : (be4 id).length = 4 := rfl
      rw [hb4, hb5]
      clear hO4 hO5 hrd4 hrd5 hJ hn4 hn5 hk4 hk5 hb4 hb5
      go_wp2_with fail
      refine HJ.out.mono ?_
      rintro e w6 ⟨v6, rfl, hO6, hk6⟩
      have hk36 : Keeps [] w3 w6 := (hk35.alloc _).trans hk6
      obtain ⟨a6, c6, rfl, _, _, hrd6, hn6, _⟩ := hO6.sl
      have hU := rput_calls (w := w6) a6 L.length c6 L hrd6 rfl (by omega) (fun hA => ⟨by rw [(hn6 hA).1]; rfl, (hn6 hA).2⟩)
      rw [hLc] at hU
      have HU := Lib.hid hU
      clear hLc hO6 hrd6 hn6 HJ hU hk6 hk35
      go_wp2_with fail
      refine HU.out.mono ?_
      rintro e w7 ⟨v7, rfl, hO7, hk7⟩
      have hsz36 := hk36.size
      have hk37 : Keeps [] w3 w7 := hk36.trans hk7
      obtain ⟨a7, c7, rfl, _, hcm7, hrd7, hn7, hb7⟩ := hO7.sl
      have hpl : p < w3.heap.size ∧ q < w3.heap.size := by obtain ⟨z, _, h⟩ := hF3; exact ⟨h.ltp, h.ltq⟩
      have hF7 := hF3.keeps hk37 (by simp) (by simp)
      have hW7 := hW3.keeps hk37 (by simp)
      have m0 := hW7.cell' (i := 0) rfl
      have hNl := HNl.out
      have htop := whAt_top hs1 hs16 (k := V.next) hnx
      have hwd : wide V.size = V.size + 13 := rfl
      have hwp : F1.whPut (whAt V.size V.next) (Fla.whOut V.gen id d) = if (F1.program (whAt V.size V.next : Nat) (Fla.whOut V.gen id d)).2 ≠ 0 then F1.program (whAt V.size V.next : Nat) (Fla.whOut V.gen id d) else (F1.program (whAt V.size V.next : Nat) (Fla.whOut V.gen id d)).1.program ((whAt V.size V.next + (Fla.whOut V.gen id d).length : Nat) : Int) [0] := rfl
      have hcode := program_code (F := F1) (a := whAt V.size V.next) (l := Fla.whOut V.gen id d) (by have := Hl.out; omega)
      have hcode2 := fun F2 : Fla => program_code (F := F2) (a := whAt V.size V.next + (Fla.whOut V.gen id d).length) (l := [0]) (by have := Hl.out; simp; omega)
      generalize Fla.whOut V.gen id d = out at *
      generalize hT : whAt V.size V.next = T at *
      have hPr := rprogram_calls hF7 (T : Int) a7 c7 out hrd7 (fun x hx hne => by have := (hb7 x hx hne).1; simp; omega)
      generalize F1.program (T : Nat) out = E2 at *
      obtain ⟨F2, z2⟩ := E2
      dsimp only at hwp hPr hcode
      have HPr := Lib.hid hPr
      have Hwp := Lib.hid hwp
      have HW7 := Lib.hid hW7
      have HR7 := Lib.hid (HR3.out.keeps hk37 (by simp))
      have HA7 := Lib.hid (HA3.out.keepsNil hk37)
      have Hk7 := Lib.hid (show Keeps [p, q, u] w w7 from HK3.out.trans hk37.nil)
      have hsz7 := hk37.size
      clear hO7 hk7 hk37 hk36 HU hwp hPr hrd7 hF7 hW7 hT hb7 hn7 hwd
      have hN7 : out.length ≤ 100 := by have := Hl.out; omega
      have hT4 : T ≤ 3584 := by omega
      clear hNl
      generalize hNN : out.length = N7 at *
      go_wp2_with fail
      refine HPr.out.mono ?_
      rintro e w8 ⟨rfl, hF8, hk8⟩
      have hW8 := HW7.out.keeps hk8 (by simp; omega)
      have o0 := hW8.cell' (i := 0) rfl
      have HF8 := Lib.hid hF8
      have HW8 := Lib.hid hW8
      have hpl8 : p < w8.heap.size ∧ q < w8.heap.size := by have := hk8.size; omega
      have HR8 := Lib.hid (HR7.out.keeps hk8 (by simp; omega))
      have HA8 := Lib.hid (HA7.out.keeps hk8 (fun x hx hne => by have := HAp.out x hx hne; simp [this.1, this.2.1]))
      have Hk8 := Lib.hid (show Keeps [p, q, u] w w8 from Hk7.out.trans (hk8.mono (by simp)))
      clear hF8 hW8 hk8 m0 HPr HW7 HR7 HA7
      rcases hcode with rfl | rfl
      · have hPr2 := rprogram_calls_n (HF8.out.alloc' (.cells #[.int .u8 0] 5)) ((T : Int) + (N7 : Int)) (some ⟨w8.heap.size, 0, none⟩) 1 1 [0] (Rd.lit w8 _ _ [0] rfl) rfl (by intro x hx _; simp only [Option.some.injEq] at hx; subst hx; simp; omega)
        have hc2 := hcode2 F2
        rw [Int.natCast_add] at hc2
        have hE3 : F1.whPut T out = F2.program ((T : Int) + (N7 : Int)) [0] := by rw [Hwp.out, if_neg (by simp), Int.natCast_add]
        generalize F2.program ((T : Int) + (N7 : Int)) [0] = E3 at *
        obtain ⟨F3, z3⟩ := E3
        dsimp only at hPr2 hc2
        have hadd3 : AR = if z3 ≠ 0 then (F3, V, z3) else (F3, V.added id d, 0) := by rw [Hadd.out, hE3]
        have Hadd3 := Lib.hid hadd3
        have HPr2 := Lib.hid hPr2
        have ka := Keeps.alloc (Keeps.refl [] w8) (.cells #[.int .u8 0] 5)
        have Hka := Lib.hid ka
        clear hPr2 hE3 hadd3 Hadd Hwp hcode2 ka
        go_wp2_with fail
        refine HPr2.out.mono ?_
        rintro e w9 ⟨rfl, hF9, hk9⟩
        have hW9 := (HW8.out.keeps Hka.out (by simp)).keeps hk9 (by simp; omega)
        have HF9 := Lib.hid hF9
        have HR9 := Lib.hid ((HR8.out.keeps Hka.out (by simp)).keeps hk9 (by simp; omega))
        have HA9 := Lib.hid ((HA8.out.keepsNil Hka.out).keeps hk9 (fun x hx hne => by have := HAp.out x hx hne; simp [this.1, this.2.1]))
        have Hk9 := Lib.hid (show Keeps [p, q, u] w w9 from (Hk8.out.trans Hka.out.nil).trans (hk9.mono (by simp)))
        clear hF9 hk9 Hka HPr2 HW8 HR8 HA8 o0
        rcases hc2 with rfl | rfl
        · have Hadd4 := Lib.hid (show AR = (F3, V.added id d, 0) by rw [Hadd3.out]; exact if_neg (by simp))
          clear Hadd3
          have hR9 := HR9.out
          obtain ⟨av, cv, rfl, hvl, hvm, hv0, hvo⟩ := hR9.form
          have c3 := hW9.cell' (i := 3) rfl
          have f3 := hW9.frozen 3
          have c5' := hW9.cell' (i := 5) rfl
          have f5 := hW9.frozen 5
          have hu9 := hW9.lt
          have HW9 := Lib.hid hW9
          have Hkd := Lib.hid ((Keeps.refl [] w9).drew.alloc (.cells #[.slice A V.size c] 23))
          have hC := join_calls (w := w9.drew.alloc (.cells #[.slice A V.size c] 23)) (some ⟨w9.heap.size, 0, none⟩) 1 1 [d] (RdS.one (w := w9.drew) 23 (n := V.size) (c := c) (HA9.out.keepsNil (Keeps.refl [] w9).drew) Hl.out (fun h => (hA0 h).2)) rfl (by simp) (by have := Hl.out; simp; omega)
          rw [show [d].flatten = d from by simp] at hC
          have HC := Lib.hid hC
          have Hh9 := Lib.hid (show ∀ y, (w9.drew.alloc (.cells #[.slice A V.size c] 23)).heap.size ≤ y → w9.heap.size ≤ y from fun y hy => Nat.le_trans Hkd.out.size hy)
          clear hC
          have Hlk := Lib.hid (show V.l.length ≤ 100000 by omega)
          have Hvo := Lib.hid hvo
          clear hvo hv0 hR9 hW9
          go_wp2_with fail
          go_region_law (first
            | (go_simp; go_at_call 75; refine HC.out.mono ?_; rintro e w13 ⟨v13, rfl, hO13, hk13'⟩; have hk13 := Hkd.out.trans hk13'; obtain ⟨a13, c13, rfl, hrest⟩ := hO13.sl; have n3 := hk13.cell c3; have k14 := Keeps.alloc (Keeps.refl [] w13) (.cells #[.int .u32 id.toNat, .slice a13 d.length c13] 43); have nn3 := k14.cell n3; have hs13 := hk13.size; have HR14 := Lib.hid ((HR9.out.keeps hk13 (by simp)).keeps k14 (by simp)); have HB14 := Lib.hid (Blk.newA w13 43 #[.int .u32 id.toNat, .slice a13 d.length c13]); have HX14 := Lib.hid ((hO13.slb.slx (N := fun z => u + 1 ≤ z ∧ Value.ownBlock (.slice av V.l.length cv) ≠ some z) (fun y h1 h2 => ⟨(by have := Hh9.out y h1; omega), fun hc => (by have := Hvo.out y hc; have := Hh9.out y h1; omega)⟩)).keeps k14 (by simp) (fun _ h _ => h)); have HW14 := Lib.hid ((HW9.out.keeps hk13 (by simp)).keeps k14 (by simp)); have Hk14 := Lib.hid (hk13.trans k14); have HBs := Lib.hid (show u + 1 ≤ (w13.alloc (.cells #[.int .u32 id.toNat, .slice a13 d.length c13] 43)).heap.size from Nat.le_trans hu9 Hk14.out.size))
            | (refine step_append_rec rfl (.tmp 99) (.tmp 105) rfl HR14.out rfl _ 1 rfl id _ d HB14.out HX14.out Hlk.out HBs.out ?_; intro g6 cap6 w15 hR15 hG15 hg15 hl15; have hk15 := (Keeps.refl _ _).grown (S := Option.toList (Value.ownBlock (.slice av V.l.length cv))) hG15 (fun z hz => Or.inl (by rw [hz]; exact List.mem_singleton.2 rfl)); have hW15 := HW14.out.keeps hk15 (fun hm => (by have := Hvo.out _ (Option.mem_toList.1 hm); omega)); have c15 := hW15.cell' (i := 3) rfl; have f15 := hW15.frozen 3; have hW16 := RWhB.setL hW15 (.slice (some ⟨g6, 0, none⟩) (V.l.length + 1) cap6); have c16' := hW16.cell' (i := 5) rfl; have f16' := hW16.frozen 5; have hu15 := hW15.lt))
          all_goals
            have HW17 := Lib.hid (hW16.setN ((V.next : Int) + 1))
            have HKs := Lib.hid (show Keeps [u] w15 ((w15.setCell ⟨u, 3, none⟩ (.slice (some ⟨g6, 0, none⟩) (V.l.length + 1) cap6)).setCell ⟨u, 5, none⟩ (.int .i64 ((V.next : Int) + 1))) from ((Keeps.refl [u] w15).setCell (by simp) _).setCell (by simp) _)
            have hFe := ((HF9.out.keeps Hk14.out (by simp) (by simp)).keeps hk15 (fun hm => by have := Hvo.out _ (Option.mem_toList.1 hm); omega) (fun hm => by have := Hvo.out _ (Option.mem_toList.1 hm); omega)).keeps HKs.out (by simp; omega) (by simp; omega)
            have K2 := ((Hk9.out.trans Hk14.out.nil).mono (T := p :: q :: u :: (Value.ownBlock (.slice av V.l.length cv)).toList) (fun x hx => .inl (by simp at hx ⊢; omega))).trans' (T := p :: q :: u :: (Value.ownBlock (.slice av V.l.length cv)).toList) hk15 (fun _ h => .inl h) (fun x hx => .inl (List.mem_cons_of_mem _ (List.mem_cons_of_mem _ (List.mem_cons_of_mem _ hx))))
            have K3 := K2.trans' (T := p :: q :: u :: (Value.ownBlock (.slice av V.l.length cv)).toList) HKs.out (fun _ h => .inl h) (fun x hx => .inl (by simp at hx ⊢; omega))
            have hsz15 : w.heap.size ≤ (w13.alloc (.cells #[.int .u32 id.toNat, .slice a13 d.length c13] 43)).heap.size := Nat.le_trans Hk9.out.size Hk14.out.size
            have hR17 := hR15.keeps HKs.out (by simp)
            clear hW15 hW16
            go_wp2_with fail
            go_ret
            rw [Hadd4.out]
            refine ⟨rfl, hFe, fun _ => ⟨some g6, ⟨hFe, hs1, hs16, hpu, hqu, ?_, ?_, ?_, (.slice (some ⟨g6, 0, none⟩) (V.l.length + 1) cap6), rfl, ?_, ?_⟩, ?_⟩, ?_⟩
            · show V.next + 1 ≤ 8 * places V.size
              exact hnx
            · show (V.l ++ [(id, d)]).length ≤ 144 + (V.next + 1)
              simp; omega
            · intro e he
              rcases List.mem_append.1 he with he | he
              · exact H.out.dat e he
              · simp at he; subst he; exact Hl.out
            · show RWhB _ p u V.gen V.size (.slice (some ⟨g6, 0, none⟩) (V.l.length + 1) cap6) (rReady ((V.sector : Nat) : Int)) ((V.next + 1 : Nat) : Int)
              rw [show rReady ((V.sector : Nat) : Int) = (SC : Int) from by have := HSC.out; unfold rReady; rw [if_neg (by omega)]; omega]
              exact HW17.out
            · exact hR17
            · rcases hg15 with hh | hh
              · exact .inl (by rw [← hv]; exact hh.symm)
              · exact .inr ⟨g6, rfl, by rw [hh]; exact hsz15⟩
            · rw [← hv]; exact K3
        · have Hadd4 := Lib.hid (show AR = (F3, V, 11) by rw [Hadd3.out]; rfl)
          clear Hadd3
          go_wp2_with fail
          go_ret
          rw [Hadd4.out]
          exact ⟨rfl, HF9.out, fun h => absurd rfl h, Hk9.out.mono (fun x hx => .inl (by simp at hx ⊢; omega))⟩
      · have Hadd4 := Lib.hid (show AR = (F2, V, 11) by rw [Hadd.out, Hwp.out]; rfl)
        go_wp2_with fail
        go_ret
        rw [Hadd4.out]
        exact ⟨rfl, HF8.out, fun h => absurd rfl h, Hk8.out.mono (fun x hx => .inl (by simp at hx ⊢; omega))⟩
    · have hzb : (z1 == 0) = false := by simpa using hz1
      have Hadd2 := Lib.hid (show AR = (F1, V, z1) by rw [Hadd0.out]; exact if_pos hz1)
      clear Hadd0
      go_wp2_with fail
      go_ret
      rw [Hadd2.out]
      refine ⟨rfl, hF2b, fun _ => ⟨g, ⟨hF2b, hs1, hs16, hpu, hqu, H.out.next, H.out.lens, H.out.dat, v, hv, hW2b, HR2b.out⟩, .inl rfl⟩, HK2b.out.mono (fun x hx => .inl (by simp at hx ⊢; omega))⟩

/-- Add, whatever it is asked. -/
theorem radd_calls {w : World} {p q u : Nat} {g : Option Nat} {F : Fla} {V : Whl} (h : RWhAt w p q u g F V) (id : UInt32) (A : Option Addr) (c : Nat) (d : List UInt8) (hA : Rd w A d) (hA0 : A = none → d = [] ∧ c = 0) (hc : d.length ≤ c) (hcm : c ≤ 9223372036854775807)
    (hAp : ∀ x, A = some x → d ≠ [] → x.block ≠ p ∧ x.block ≠ q ∧ x.block ≠ u ∧ g ≠ some x.block) :
    Calls Try.prog 34 #[.pointer (some ⟨u, 0, none⟩), B32 id, .slice A d.length c] w (RAddPost w p q u g (V.add F id d)) := by
  by_cases hn : d.length ≠ V.size ∨ V.room = 0 ∨ F.down = true
  · exact radd_none h id A c d hn
  · simp only [not_or, Bool.not_eq_true, ne_eq, Decidable.not_not] at hn
    exact radd_some h id A c d hA hA0 hc hcm hAp hn.1 hn.2.1 hn.2.2

end Go.Proofs.Ytghgmchgbhdldaa
