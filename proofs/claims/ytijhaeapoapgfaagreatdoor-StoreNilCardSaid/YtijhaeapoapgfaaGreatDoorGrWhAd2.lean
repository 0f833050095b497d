/-
  GrWhAd2: the texts WhAd2, WhAn, WhAdN, one behind another.
-/
import Derived.Test.YtijhaeapoapgfaaGreatDoorGrWhO
import Derived.Test.YtijhaeapoapgfaaGreatDoorGrWhR
set_option linter.unusedVariables false
namespace Go.Proofs.YtijhaeapoapgfaaGreatDoor
open Go.RowKit
attribute [local go_sem ↓] Go.wp_at_zero Go.wp_at_succ

theorem whOut_len (gen id : UInt32) (d : List UInt8) : (Fla.whOut gen id d).length = d.length + 12 := by
  unfold Fla.whOut; rw [crcPut_len]; simp [be4]

set_option maxRecDepth 100000 in
set_option maxHeartbeats 4000000 in
theorem add_some {w : World} {p q u : Nat} {g : Option Nat} {F : Fla} {V : Whl} (h : WhAt w p q u g F V) (id : UInt32) (A : Option Addr) (c : Nat) (d : List UInt8) (hA : Rd w A d) (hA0 : A = none → d = [] ∧ c = 0) (hc : d.length ≤ c) (hcm : c ≤ 9223372036854775807)
    (hAp : ∀ x, A = some x → d ≠ [] → x.block ≠ p ∧ x.block ≠ q ∧ x.block ≠ u ∧ g ≠ some x.block) (hl : d.length = V.size) (hr : V.room ≠ 0) (hd : F.down = false) :
    Calls Tryz.prog 67 #[.pointer (some ⟨u, 0, none⟩), B32 id, .slice A d.length c] w (WadPost w p q u g (V.add F id d)) := by
  obtain ⟨v, hv, hW, hR⟩ := h.own
  have hp := places_bounds h.s1 h.s2
  have hs16 := h.s2
  have hs1 := h.s1
  have hpu := h.pu
  have hqu := h.qu
  have hnx : V.next < 8 * places V.size := by have := h.next; have : V.room = 8 * (places V.size : Int) - V.next := rfl; omega
  have hsec : V.sector < 8 := (Nat.div_lt_iff_lt_mul (by omega)).2 hnx
  have hlens := h.lens
  have hRm := room_calls h
  have hDn := fun (w : World) (h : FlaAt w p q F) => down_calls h
  rw [hd] at hDn
  have hEn := fun (w : World) (h : FlaAt w p q F) (hW : WhB w p u V.gen V.size v V.ready V.next) => enters_calls h hW (by simp; omega) V.sector hsec
  have hAt := fun (w : World) (h : w.cell? ⟨u, 2, none⟩ = some (.int .i64 V.size)) => whAtK_calls h hs1 hs16 V.next (by omega)
  have hPq := fun (w : World) (h : w.cell? ⟨u, 2, none⟩ = some (.int .i64 V.size)) => places_calls h hs16
  have hsecI : (V.next : Int) / (places V.size : Int) = (V.sector : Int) := by rw [← Int.natCast_ediv]; rfl
  have hadd : V.add F id d = if (F.enters V.ready V.sector).2 ≠ 0 then ((F.enters V.ready V.sector).1, V, (F.enters V.ready V.sector).2)
    else
      let r := (F.enters V.ready V.sector).1.whPut (whAt V.size V.next) (Fla.whOut V.gen id d)
      if r.2 ≠ 0 then (r.1, V, r.2) else (r.1, V.added id d, 0) := by
    unfold Whl.add; rw [if_neg (by simp [hl]), if_neg hr, if_neg (by simp [hd])]
  have hrb : (V.room == 0) = false := by simpa using hr
  have H := Lib.hid h
  have HW := Lib.hid hW
  have HR := Lib.hid hR
  have HA := Lib.hid hA
  have HAp := Lib.hid hAp
  have Hadd := Lib.hid hadd
  have Hl := Lib.hid hl
  have c2 := hW.cell' (i := 2) rfl
  have c0 := hW.cell' (i := 0) rfl
  have c5 := hW.cell' (i := 5) rfl
  have c1 := hW.cell' (i := 1) rfl
  have hul := hW.lt
  clear h hW hR hA hAp hadd hr hd
  generalize hE : F.enters V.ready V.sector = E1 at *
  obtain ⟨F1, z1⟩ := E1
  dsimp only at hEn
  generalize V.room = room at *
  generalize hP : places V.size = P at *
  have HAt := Lib.hid hAt
  have hPP := Lib.hid hP
  have htop := whAt_top hs1 hs16 (k := V.next) (by rw [hP]; exact hnx)
  clear hAt
  have Hsec := Lib.hid hsec
  rw [hl]
  clear hl
  go_enter Tryz.func67, Tryz.ntmps67
  go_wp2_with fail
  refine hRm.mono ?_
  rintro e w1 ⟨rfl, n, hw1⟩
  have hk1 : Keeps [] w w1 := hw1 ▸ (Keeps.refl [] w).drewN n
  have d0 := hk1.cell c0
  have d2 := hk1.cell c2
  have d5 := hk1.cell c5
  clear hw1
  go_wp2_with fail
  refine (hDn _ (H.out.fla.keeps hk1 (by simp) (by simp))).mono ?_
  rintro e w2 ⟨rfl, rfl⟩
  have hPn := fun n => (hPq (w1.drewN n) d2).mono (fun _ _ h => (⟨h.1, h.2.symm⟩ : _ ∧ _ = w1.drewN n))
  go_wp2_with fail
  go_quiet (first | (go_at_call 106; exact Calls.quiet_of_same (hPn _)))
  have hk2 := hk1.drewN nq
  generalize w1.drewN nq = w2 at *
  clear hPn d0 d2 d5 hk1 hsecI hRm hDn hPq
  have hF2 := H.out.fla.keeps hk2 (by simp) (by simp)
  have hW2 := HW.out.keeps hk2 (by simp)
  go_wp2_with fail
  refine (hEn _ hF2 hW2).mono ?_
  rintro e w3 ⟨rfl, hF3, hk3⟩
  have hkw3 := (hk2.nil (S := [p, q])).trans hk3
  have hW3 := HW.out.keeps hkw3 (by simp; omega)
  have HR3 := Lib.hid (HR.out.keeps hkw3 (by simp; omega))
  have HA3 := Lib.hid (HA.out.keeps hkw3 (fun x hx hd => by have := HAp.out x hx hd; simp [this.1, this.2.1]))
  clear hEn hF2 hW2 hk2 hk3
  by_cases hz1 : z1 = 0
  · subst hz1
    have c1' := hW3.cell' (i := 1) rfl
    have Hw1 := fun (w : World) => word_calls (w := w) V.gen
    have Hw2 := fun (w : World) => word_calls (w := w) id
    have hm4 : ∀ n, (be4 n).length = 4 := fun _ => rfl
    go_wp2_with fail
    refine (Hw1 _).mono ?_
    rintro e w4 ⟨rfl, hO4, hk4, hs4⟩
    go_wp2_with fail
    refine (Hw2 _).mono ?_
    rintro e w5 ⟨rfl, hO5, hk5, hs5⟩
    obtain ⟨x4, y4, e4, _, _, hrd4, _, _⟩ := hO4.sl
    obtain ⟨x5, y5, e5, _, _, hrd5, _, _⟩ := hO5.sl
    simp only [Value.slice.injEq] at e4 e5
    obtain ⟨rfl, -, rfl⟩ := e4
    obtain ⟨rfl, -, rfl⟩ := e5
    have hk35 := hk4.trans hk5
    have hrdA := HA3.out.keepsNil hk35
    have hrd4' := hrd4.keepsNil hk5
    have hTri : Tri (w5.alloc (.cells #[.slice (some ⟨w3.heap.size, 0, none⟩) 4 4, .slice (some ⟨w4.heap.size, 0, none⟩) 4 4, .slice A V.size c] 22)) w5.heap.size (.slice (some ⟨w3.heap.size, 0, none⟩) (be4 V.gen).length 4) (.slice (some ⟨w4.heap.size, 0, none⟩) (be4 id).length 4) (.slice A d.length c) := by
      rw [Hl.out]; exact Blk.newA w5 22 _
    have ha5 := Keeps.alloc (Keeps.refl [] w5) (.cells #[.slice (some ⟨w3.heap.size, 0, none⟩) 4 4, .slice (some ⟨w4.heap.size, 0, none⟩) 4 4, .slice A V.size c] 22)
    have hC := concat3_calls hTri (hrd4'.keepsNil ha5) (hrd5.keepsNil ha5) (hrdA.keepsNil ha5) (by simp) (by simp) hA0 (by rw [hm4]; omega) (by rw [hm4]; omega) (by have := Hl.out; omega) (by rw [hm4]; omega)
    rw [hs5, hs4] at hC
    have hk3 := hk35.trans ha5
    rw [hs4] at hk3
    clear hO4 hO5 hrd4 hrd5 hrd4' hrdA hTri Hw1 Hw2 hm4 hk4 hk5 hk35 ha5
    have Hlen := Lib.hid (show (be4 V.gen ++ be4 id ++ d).length = d.length + 8 by simp [be4])
    have Hlen2 := Lib.hid (whOut_len V.gen id d)
    generalize hL : be4 V.gen ++ be4 id ++ d = L at *
    have hput : Fla.whOut V.gen id d = crcPut L := by rw [← hL]; rfl
    have HPut := Lib.hid hput
    clear hL hput
    go_wp2_with fail
    refine hC.mono ?_
    rintro e w6 ⟨v6, rfl, hO6, hk6⟩
    obtain ⟨a6, c6, rfl, hl6, hc6, hrd6, hn6, hb6⟩ := hO6.sl
    have hP := crcput_calls a6 L.length c6 L hrd6 rfl (by have := Hlen.out; have := Hl.out; omega) (fun h => ⟨by rw [(hn6 h).1]; rfl, (hn6 h).2⟩)
    clear hC hO6 hl6 hc6 hrd6 hn6 hb6
    go_wp2_with fail
    refine hP.mono ?_
    rintro e w7 ⟨v7, rfl, hO7, hk7⟩
    obtain ⟨a7, c7, rfl, hl7, hc7, hrd7, hn7, hb7⟩ := hO7.sl
    have hk37 := hk3.trans (hk6.trans hk7)
    have hsz67 := (hk3.trans hk6).size
    have hF7 := hF3.keeps hk37 (by simp) (by simp)
    have hW7 := hW3.keeps hk37 (by simp)
    have m0 := hW7.cell' (i := 0) rfl
    have m2 := hW7.cell' (i := 2) rfl
    have m5 := hW7.cell' (i := 5) rfl
    have hbw : ∀ x, a7 = some x → crcPut L ≠ [] → x.block ∉ [p, q] := fun x hx hne => by
      have h1 := (hb7 x hx hne).1
      have h2 := hF3.ltp
      have h3 := hF3.ltq
      simp
      omega
    have hwp : F1.whPut (whAt V.size V.next) (Fla.whOut V.gen id d) = if (F1.program (whAt V.size V.next : Nat) (crcPut L)).2 ≠ 0 then F1.program (whAt V.size V.next : Nat) (crcPut L) else (F1.program (whAt V.size V.next : Nat) (crcPut L)).1.program ((whAt V.size V.next + (crcPut L).length : Nat) : Int) [0] := by
      unfold Fla.whPut; rw [HPut.out]
    have hPr := fun (w : World) (h : FlaAt w p q F1) (hr : Rd w a7 (crcPut L)) => program_calls_n h (whAt V.size V.next : Nat) a7 (crcPut L).length c7 (crcPut L) hr rfl hbw
    have hAtN := HAt.out
    have hNl := Hlen2.out
    rw [HPut.out] at hNl
    generalize hT : whAt V.size V.next = T at *
    generalize hE2 : F1.program (T : Nat) (crcPut L) = E2 at *
    obtain ⟨F2, z2⟩ := E2
    dsimp only at hwp hPr
    have HPr := Lib.hid hPr
    have Hwp := Lib.hid hwp
    have Hrd7 := Lib.hid hrd7
    have HF7 := Lib.hid hF7
    have Hk37 := Lib.hid hk37
    clear hP hO7 hk6 hk7 hk3 hl7 hn7 hb7 hwp hPr hbw hrd7 hF7 hk37 hE2
    generalize (crcPut L).length = N7 at *
    have HNl := Lib.hid hNl
    clear hNl hs4 hs5 hc7
    go_wp2_with fail
    go_region_held3 (fun w' => w'.cell? ⟨u, 0, none⟩ = some (.pointer (some ⟨p, 0, none⟩)) ∧ w'.cell? ⟨u, 2, none⟩ = some (.int .i64 V.size) ∧ w'.cell? ⟨u, 5, none⟩ = some (.int .i64 V.next))
      (first | exact ⟨m0, m2, m5⟩ | exact ⟨n0, n2, n5⟩ | exact ⟨o0, o2, o5⟩)
      (first
        | (go_at_call 108; refine (hAtN w7.drew m2).mono ?_; rintro e w8 ⟨rfl, hk8⟩; have n0 := hk8.cell m0; have n2 := hk8.cell m2; have n5 := hk8.cell m5; have HF8 := Lib.hid ((HF7.out.drew).keeps hk8 (by simp) (by simp)); have Hk8 := Lib.hid (Hk37.out.drew.trans hk8); have Hr8 := Lib.hid (Rd.keepsNil (w := w7.drew) Hrd7.out hk8))
        | (go_at_call 116; refine (HPr.out _ HF8.out Hr8.out).mono ?_; rintro e w9 ⟨rfl, hF9, hk9⟩; have hk39 := (Hk8.out.nil (S := [p, q])).trans hk9; have hW9 := hW3.keeps hk39 (by simp; omega); have o0 := hW9.cell' (i := 0) rfl; have o2 := hW9.cell' (i := 2) rfl; have o5 := hW9.cell' (i := 5) rfl))
    have Ho := Lib.hid hk39
    have hsz9 := hk39.size
    have HF9 := Lib.hid hF9
    have HW9 := Lib.hid hW9
    clear n0 n2 n5 HF8 Hk8 Hr8 hk8 hk9 hF9 hk39 m0 m2 m5 HPr Hrd7 HF7 Hk37 hW7 hW9
    by_cases hz2 : z2 = 0
    · subst hz2
      have hE3 : F1.whPut T (Fla.whOut V.gen id d) = F2.program ((T : Int) + (N7 : Int)) [0] := by rw [Hwp.out, if_neg (by simp), Int.natCast_add]
      have hPr2 := fun (w' : World) (b : Nat) (h : FlaAt w' p q F2) (hb : Blk w' b 5 [.int .u8 0]) (hbp : w3.heap.size ≤ b) => program_calls_n h ((T : Int) + (N7 : Int)) (some ⟨b, 0, none⟩) 1 1 [0] (Rd.blk hb 0 [0] (by intro i u hu; cases i with
        | zero => simp at hu; subst hu; rfl
        | succ i => simp at hu)) rfl (by
          intro x hx _
          simp only [Option.some.injEq] at hx
          subst hx
          have h2 := hF3.ltp
          have h3 := hF3.ltq
          simp
          omega)
      generalize F2.program ((T : Int) + (N7 : Int)) [0] = E3 at *
      obtain ⟨F3, z3⟩ := E3
      dsimp only at hPr2
      have hwr : IntKind.i64.wrap ((T : Int) + (N7 : Int)) = (T : Int) + (N7 : Int) := IntWalk.i64_in _ (by have := HNl.out; have := Hl.out; omega)
      have hPr3 : ∀ (w' : World) (b : Nat), FlaAt w' p q F2 → Blk w' b 5 [.int .u8 0] → w3.heap.size ≤ b → Calls Tryz.prog 116 #[.pointer (some ⟨p, 0, none⟩), .int .i64 (IntKind.i64.wrap ((T : Int) + (N7 : Int))), .slice (some ⟨b, 0, none⟩) 1 1] w' (FPost w' p q F3 (.int .i64 z3)) := by
        intro w' b h hb hbp
        rw [hwr]
        exact hPr2 w' b h hb hbp
      have hadd3 : V.add F id d = if z3 ≠ 0 then (F3, V, z3) else (F3, V.added id d, 0) := by rw [Hadd.out, if_neg (by simp), hE3]
      have Hadd3 := Lib.hid hadd3
      have HPr2 := Lib.hid hPr3
      have ka := Keeps.alloc (Keeps.refl [] w9) (.cells #[.int .u8 0] 5)
      have oo0 := ka.cell o0
      have oo2 := ka.cell o2
      have oo5 := ka.cell o5
      have Hka := Lib.hid ka
      have hT4 : T ≤ 3584 := by omega
      have hN4 : N7 ≤ 100 := by have := HNl.out; have := Hl.out; omega
      clear hE3 hadd3 Hadd Hwp hPr2 hPr3 hwr ka
      go_wp2_with fail
      go_region_held3 (fun w' => w'.cell? ⟨u, 0, none⟩ = some (.pointer (some ⟨p, 0, none⟩)) ∧ w'.cell? ⟨u, 2, none⟩ = some (.int .i64 V.size) ∧ w'.cell? ⟨u, 5, none⟩ = some (.int .i64 V.next))
        (first | exact ⟨o0, o2, o5⟩ | exact ⟨oo0, oo2, oo5⟩ | exact ⟨n0, n2, n5⟩ | exact ⟨nn0, nn2, nn5⟩ | exact ⟨q0, q2, q5⟩)
        (first
          | (go_at_call 108; refine (hAtN w9.drew o2).mono ?_; rintro e w10 ⟨rfl, hk10⟩; have n0 := hk10.cell o0; have n2 := hk10.cell o2; have n5 := hk10.cell o5; have k11 := Keeps.alloc (Keeps.refl [] w10) (.cells #[.int .u8 0] 5); have nn0 := k11.cell n0; have nn2 := k11.cell n2; have nn5 := k11.cell n5; have HF10 := Lib.hid (((HF9.out.drew).keeps hk10 (by simp) (by simp)).alloc (.cells #[.int .u8 0] 5)); have Hb10 := Lib.hid (Blk.newA w10 5 #[.int .u8 0]); have Hs10 := Lib.hid (Nat.le_trans hsz9 hk10.size); have Hk10 := Lib.hid ((Keeps.refl [] w9).drew.trans (hk10.trans k11)))
          | (go_at_call 108; refine (hAtN (w9.alloc (.cells #[.int .u8 0] 5)).drew oo2).mono ?_; rintro e w10 ⟨rfl, hk10⟩; have n0 := hk10.cell oo0; have n2 := hk10.cell oo2; have n5 := hk10.cell oo5; have HF10 := Lib.hid ((HF9.out.keeps Hka.out (by simp) (by simp)).drew.keeps hk10 (by simp) (by simp)); have Hb10 := Lib.hid ((Blk.newA w9 5 #[.int .u8 0]).drew.keeps hk10 (by simp)); have Hs10 := Lib.hid hsz9; have Hk10 := Lib.hid (Hka.out.drew.trans hk10))
          | (go_at_call 116; refine (HPr2.out _ _ HF10.out Hb10.out Hs10.out).mono ?_; rintro e w11 ⟨rfl, hF11, hk11⟩; have hk91 := (Hk10.out.nil (S := [p, q])).trans hk11; have hW11 := HW9.out.keeps hk91 (by simp; omega); have q0 := hW11.cell' (i := 0) rfl; have q2 := hW11.cell' (i := 2) rfl; have q5 := hW11.cell' (i := 5) rfl))
      all_goals
        have Hk3 := Lib.hid (Ho.out.trans hk91)
        have HF11 := Lib.hid hF11
        have HW11 := Lib.hid hW11
        have hs11 := hk91.size
        clear hF11 hk91 hk11 hk10 HF10 Hb10 Hs10 Hk10 hAtN HAt
        by_cases hz3 : z3 = 0
        · subst hz3
          have Hadd4 := Lib.hid (show V.add F id d = (F3, V.added id d, 0) by rw [Hadd3.out]; exact if_neg (by simp))
          clear Hadd3
          have q4 := hW11.cell' (i := 4) rfl
          have f4 := hW11.frozen 4
          have f5 := hW11.frozen 5
          have hul9 := hW11.lt
          clear hW11
          go_wp2_with fail
          have HW12 := Lib.hid ((HW11.out.setR V.sector).setN ((V.next : Int) + 1))
          have Hk12 := Lib.hid (show Keeps [u] w11 ((w11.setCell ⟨u, 4, none⟩ (.int .i64 V.sector)).setCell ⟨u, 5, none⟩ (.int .i64 ((V.next : Int) + 1))) from ((Keeps.refl [u] w11).setCell (by simp) _).setCell (by simp) _)
          generalize (w11.setCell ⟨u, 4, none⟩ (.int .i64 V.sector)).setCell ⟨u, 5, none⟩ (.int .i64 ((V.next : Int) + 1)) = w12 at *
          have hR12 := (HR3.out.keeps Hk3.out (by simp; omega)).keeps Hk12.out (by simp)
          obtain ⟨av, cv, rfl, hvl, hvm, hv0, hvo⟩ := hR12.form
          have hs12 := Hk12.out.size
          have c3 := HW12.out.cell' (i := 3) rfl
          have f3 := HW12.out.frozen 3
          have hA12' : Rd w12 A d := (HA3.out.keeps Hk3.out (fun x hx hd => by have := HAp.out x hx hd; simp [this.1, this.2.1])).keeps Hk12.out (fun x hx hd => by have := HAp.out x hx hd; simp [this.2.2.1])
          have hA12 : Rd w12.drew A d := hA12'
          have HC := Lib.hid (clone_calls A V.size c d hA12 Hl.out (by have := Hl.out; omega) (fun h => (hA0 h).1))
          have HR12 := Lib.hid hR12
          have hu12 : u < w12.heap.size := by omega
          have Hlk := Lib.hid (show V.l.length ≤ 100000 by omega)
          have Hvo := Lib.hid hvo
          have Hkd := Lib.hid (Keeps.refl [] w12).drew
          clear hR12 hA12 hA12' hvo hv0 q4 f4 f5 q0 q2 q5 HPr2 oo0 oo2 oo5 o0 o2 o5
          go_wp2_with fail
          go_region_law (first
            | (go_simp; go_at_call 38; refine HC.out.mono ?_; rintro e w13 ⟨v13, rfl, hO13, hk13'⟩; have hk13 := Hkd.out.trans hk13'; obtain ⟨a13, c13, rfl, hrest⟩ := hO13.sl; have n3 := hk13.cell c3; have k14 := Keeps.alloc (Keeps.refl [] w13) (.cells #[.int .u32 id.toNat, .slice a13 d.length c13] 115); have nn3 := k14.cell n3; have hs13 := hk13.size; have HR14 := Lib.hid ((HR12.out.keeps hk13 (by simp)).keeps k14 (by simp)); have HB14 := Lib.hid (Blk.newA w13 115 #[.int .u32 id.toNat, .slice a13 d.length c13]); have HX14 := Lib.hid ((hO13.slb.slx (N := fun z => u + 1 ≤ z ∧ Value.ownBlock (.slice av V.l.length cv) ≠ some z) (fun y h1 h2 => ⟨(by have : w12.heap.size ≤ y := h1; omega), fun hc => (by have := Hvo.out y hc; have : w12.heap.size ≤ y := h1; omega)⟩)).keeps k14 (by simp) (fun _ h _ => h)); have HW14 := Lib.hid ((HW12.out.keeps hk13 (by simp)).keeps k14 (by simp)); have Hk14 := Lib.hid (hk13.trans k14); have HBs := Lib.hid (show u + 1 ≤ (w13.alloc (.cells #[.int .u32 id.toNat, .slice a13 d.length c13] 115)).heap.size from Nat.le_trans hu12 Hk14.out.size))
            | (refine step_append_rec rfl (.tmp 106) (.tmp 111) rfl HR14.out rfl _ 1 rfl id _ d HB14.out HX14.out Hlk.out HBs.out ?_; intro g6 cap6 w15 hR15 hG15 hg15 hl15; have hk15 := (Keeps.refl _ _).grown (S := Option.toList (Value.ownBlock (.slice av V.l.length cv))) hG15 (fun z hz => Or.inl (by rw [hz]; exact List.mem_singleton.2 rfl)); have hW15 := HW14.out.keeps hk15 (fun hm => (by have := Hvo.out _ (Option.mem_toList.1 hm); omega)); have c15 := hW15.cell' (i := 3) rfl; have f15 := hW15.frozen 3))
          all_goals
            subst hv
            have K1 : Keeps (p :: q :: u :: (Value.ownBlock (.slice av V.l.length cv)).toList) w w12 := (hkw3.trans Hk3.out).trans' Hk12.out (fun x hx => .inl (by simp at hx ⊢; omega)) (fun x hx => .inl (by simp at hx ⊢; omega))
            have K2 := (K1.trans' (T := p :: q :: u :: (Value.ownBlock (.slice av V.l.length cv)).toList) Hk14.out (fun _ h => .inl h) (by simp)).trans' (T := p :: q :: u :: (Value.ownBlock (.slice av V.l.length cv)).toList) hk15 (fun _ h => .inl h) (fun x hx => .inl (List.mem_cons_of_mem _ (List.mem_cons_of_mem _ (List.mem_cons_of_mem _ hx))))
            have ks := fun x => (show Keeps [u] w15 (w15.setCell ⟨u, 3, none⟩ x) from (Keeps.refl [u] w15).setCell (by simp) x)
            have hFe := ((HF11.out.keeps Hk12.out (by simp; omega) (by simp; omega)).keeps Hk14.out (by simp) (by simp)).keeps hk15 (fun hm => by have := Hvo.out _ (Option.mem_toList.1 hm); omega) (fun hm => by have := Hvo.out _ (Option.mem_toList.1 hm); omega)
            have hsz15 := Nat.le_trans K1.size Hk14.out.size
            go_wp2_with fail
            go_ret
            rw [Hadd4.out]
            refine ⟨rfl, some g6, ⟨hFe.keeps (ks _) (by simp; omega) (by simp; omega), hs1, hs16, hpu, hqu, ?_, ?_, ?_, _, rfl, WhB.setL hW15 _, ?_⟩, hg15.elim (fun h => .inl h.symm) (fun h => .inr ⟨g6, rfl, h ▸ hsz15⟩), K2.setCell (by simp) _⟩
            · show V.next + 1 ≤ 8 * places V.size
              rw [hPP.out]; exact hnx
            · show (V.l ++ [(id, d)]).length ≤ 144 + (V.next + 1)
              simp; omega
            · intro e he
              rcases List.mem_append.1 he with he | he
              · exact H.out.dat e he
              · simp at he; subst he; exact Hl.out
            · have := hR15.keeps (ks (.slice (some ⟨g6, 0, none⟩) (V.l.length + 1) cap6)) (by simp)
              have e : (V.added id d).l = V.l ++ [(id, d)] := rfl
              rw [e]
              exact this
        · have hzb3 : (z3 == 0) = false := by simpa using hz3
          have Hadd4 := Lib.hid (show V.add F id d = (F3, V, z3) by rw [Hadd3.out]; exact if_pos hz3)
          clear Hadd3 hz3 hW11
          go_wp2_with fail
          go_ret
          rw [Hadd4.out]
          have hkw := hkw3.trans Hk3.out
          exact ⟨rfl, g, ⟨HF11.out, hs1, hs16, hpu, hqu, H.out.next, H.out.lens, H.out.dat, v, hv, HW11.out, HR3.out.keeps Hk3.out (by simp; omega)⟩, .inl rfl, hkw.mono (fun x hx => .inl (by simp at hx ⊢; omega))⟩
    · have hzb2 : (z2 == 0) = false := by simpa using hz2
      have Hadd2 := Lib.hid (show V.add F id d = (F2, V, z2) by rw [Hadd.out, if_neg (by simp), Hwp.out, if_pos hz2]; exact if_pos hz2)
      clear hz2 hE Hadd
      go_wp2_with fail
      go_ret
      rw [Hadd2.out]
      have hkw9 := hkw3.trans Ho.out
      exact ⟨rfl, g, ⟨HF9.out, hs1, hs16, hpu, hqu, H.out.next, H.out.lens, H.out.dat, v, hv, HW9.out, HR3.out.keeps Ho.out (by simp; omega)⟩, .inl rfl, hkw9.mono (fun x hx => .inl (by simp at hx ⊢; omega))⟩
  · have hzb : (z1 == 0) = false := by simpa using hz1
    have Hadd2 := Lib.hid (show V.add F id d = (F1, V, z1) by rw [Hadd.out]; exact if_pos hz1)
    clear hz1 hE Hadd
    go_wp2_with fail
    go_ret
    rw [Hadd2.out]
    exact ⟨rfl, g, ⟨hF3, hs1, hs16, hpu, hqu, H.out.next, H.out.lens, H.out.dat, v, hv, hW3, HR3.out⟩, .inl rfl, hkw3.mono (fun x hx => .inl (by simp at hx ⊢; omega))⟩

/-- Add, whatever it is asked. -/
theorem add_calls {w : World} {p q u : Nat} {g : Option Nat} {F : Fla} {V : Whl} (h : WhAt w p q u g F V) (id : UInt32) (A : Option Addr) (c : Nat) (d : List UInt8) (hA : Rd w A d) (hA0 : A = none → d = [] ∧ c = 0) (hc : d.length ≤ c) (hcm : c ≤ 9223372036854775807)
    (hAp : ∀ x, A = some x → d ≠ [] → x.block ≠ p ∧ x.block ≠ q ∧ x.block ≠ u ∧ g ≠ some x.block) :
    Calls Tryz.prog 67 #[.pointer (some ⟨u, 0, none⟩), B32 id, .slice A d.length c] w (WadPost w p q u g (V.add F id d)) := by
  by_cases hn : d.length ≠ V.size ∨ V.room = 0 ∨ F.down = true
  · exact add_none h id A c d hn
  · simp only [not_or, Bool.not_eq_true, ne_eq, Decidable.not_not] at hn
    exact add_some h id A c d hA hA0 hc hcm hAp hn.1 hn.2.1 hn.2.2

end Go.Proofs.YtijhaeapoapgfaaGreatDoor

set_option linter.unusedVariables false
namespace Go.Proofs.YtijhaeapoapgfaaGreatDoor
open Go.RowKit

structure WhAn (w : World) (p q u : Nat) (g : Option Nat) (N : Nat → Prop) (F : Fla) (V : Whl) : Prop where
  fla : FlaAt w p q F
  s1 : 1 ≤ V.size
  s2 : V.size ≤ 16
  pu : p < u
  qu : q < u
  next : V.next ≤ 8 * places V.size
  lens : V.l.length ≤ 144 + V.next
  dat : ∀ d, d ∈ V.l → d.2.length = V.size
  nu : ∀ k, N k → u < k
  own : ∃ v, v.ownBlock = g ∧ WhB w p u V.gen V.size v V.ready V.next ∧ RecsN w N v V.l

theorem RecsN.recsB {w : World} {N : Nat → Prop} {B : Nat} {v : Value} {l : List Rec} (h : RecsN w N v l) (hB : ∀ k, N k → B ≤ k) : Recs w B v l := by
  obtain ⟨vs, h1, h2, h4, h3⟩ := h
  refine ⟨vs, h1, ⟨h2.1, ?_⟩, fun i d x hd hx => (h3 i d x hd hx).keeps (Keeps.refl [] w) (by simp) (fun k hk _ => ⟨hB k hk.1, hk.2⟩)⟩
  rcases h2.2 with hn | ⟨g, cap, cur, rfl, hb, rest⟩
  · exact .inl hn
  · exact .inr ⟨g, cap, cur, rfl, hB g (h4 g rfl), rest⟩
theorem Recs.recsN {w : World} {N : Nat → Prop} {B : Nat} {v : Value} {l : List Rec} (h : Recs w B v l) (hN : ∀ k, B ≤ k → k < w.heap.size → N k) : RecsN w N v l := by
  obtain ⟨vs, h1, h2, h3⟩ := h
  refine ⟨vs, h1, ⟨h2.1, ?_⟩, fun g hg => ?_, fun i d x hd hx => (h3 i d x hd hx).keeps (Keeps.refl [] w) (by simp) (fun k hk hlt => ⟨hN k hk.1 hlt, hk.2⟩)⟩
  · rcases h2.2 with hn | ⟨g, cap, cur, rfl, hb, rest⟩
    · exact .inl hn
    · exact .inr ⟨g, cap, cur, rfl, Nat.zero_le _, rest⟩
  · rcases h2.2 with ⟨rfl, _⟩ | ⟨g', cap, cur, rfl, hb, hg', rest⟩
    · simp [Value.ownBlock] at hg
    · simp [Value.ownBlock] at hg
      subst hg
      exact hN _ hb (Array.getElem?_eq_some_iff.1 hg').1
theorem RecsN.formB {w : World} {N : Nat → Prop} {B : Nat} {v : Value} {l : List Rec} (h : RecsN w N v l) (hB : ∀ k, N k → B ≤ k) :
    ∃ a c, v = .slice a l.length c ∧ l.length ≤ c ∧ c ≤ 9223372036854775807 ∧ (a = none → l = [] ∧ c = 0) ∧ (∀ y, v.ownBlock = some y → B ≤ y ∧ y < w.heap.size) := (h.recsB hB).form

theorem WhAn.at {w : World} {p q u : Nat} {g : Option Nat} {N : Nat → Prop} {F : Fla} {V : Whl} (h : WhAn w p q u g N F V) : WhAt w p q u g F V := by
  obtain ⟨v, hv, hW, hR⟩ := h.own
  exact ⟨h.fla, h.s1, h.s2, h.pu, h.qu, h.next, h.lens, h.dat, v, hv, hW, hR.recsB (fun k hk => h.nu k hk)⟩
theorem WhAt.an {w : World} {p q u : Nat} {g : Option Nat} {F : Fla} {V : Whl} (h : WhAt w p q u g F V) : WhAn w p q u g (fun k => u < k ∧ k < w.heap.size) F V := by
  obtain ⟨v, hv, hW, hR⟩ := h.own
  exact ⟨h.fla, h.s1, h.s2, h.pu, h.qu, h.next, h.lens, h.dat, fun k hk => hk.1, v, hv, hW, hR.recsN (fun k h1 h2 => ⟨h1, h2⟩)⟩
theorem WhAn.keeps {S : List Nat} {w w' : World} {p q u : Nat} {g : Option Nat} {N : Nat → Prop} {F : Fla} {V : Whl} (h : WhAn w p q u g N F V) (k : Keeps S w w') (hS : ∀ x, x ∈ S → x ≠ p ∧ x ≠ q ∧ x ≠ u ∧ ¬ N x) : WhAn w' p q u g N F V := by
  obtain ⟨v, hv, hW, hR⟩ := h.own
  exact ⟨h.fla.keeps k (fun hm => (hS _ hm).1 rfl) (fun hm => (hS _ hm).2.1 rfl), h.s1, h.s2, h.pu, h.qu, h.next, h.lens, h.dat, h.nu, v, hv, hW.keeps k (fun hm => (hS _ hm).2.2.1 rfl), hR.keeps k (fun x hx => (hS x hx).2.2.2) (fun _ h _ => h)⟩
theorem WhAn.keepsNil {w w' : World} {p q u : Nat} {g : Option Nat} {N : Nat → Prop} {F : Fla} {V : Whl} (h : WhAn w p q u g N F V) (k : Keeps [] w w') : WhAn w' p q u g N F V := h.keeps k (by simp)
theorem WhAn.mono {w : World} {p q u : Nat} {g : Option Nat} {N N' : Nat → Prop} {F : Fla} {V : Whl} (h : WhAn w p q u g N F V) (hN : ∀ k, N k → k < w.heap.size → N' k) (hu : ∀ k, N' k → u < k) : WhAn w p q u g N' F V := by
  obtain ⟨v, hv, hW, hR⟩ := h.own
  exact ⟨h.fla, h.s1, h.s2, h.pu, h.qu, h.next, h.lens, h.dat, hu, v, hv, hW, hR.mono hN⟩
theorem WhAn.bound {w : World} {p q u : Nat} {g : Option Nat} {N : Nat → Prop} {F : Fla} {V : Whl} (h : WhAn w p q u g N F V) : WhAn w p q u g (fun k => N k ∧ k < w.heap.size) F V := h.mono (fun k h1 h2 => ⟨h1, h2⟩) (fun k hk => h.nu k hk.1)
theorem WhAn.ltu {w : World} {p q u : Nat} {g : Option Nat} {N : Nat → Prop} {F : Fla} {V : Whl} (h : WhAn w p q u g N F V) : u < w.heap.size := by
  obtain ⟨v, hv, hB, hR⟩ := h.own
  exact hB.lt
theorem WhAn.gn {w : World} {p q u : Nat} {g : Option Nat} {N : Nat → Prop} {F : Fla} {V : Whl} (h : WhAn w p q u g N F V) : ∀ y, g = some y → N y := by
  obtain ⟨v, hv, hB, vs, h1, h2, h4, h3⟩ := h.own
  exact fun y hy => h4 y (by rw [hv, hy])
/-- Its flash is another one's too. -/
theorem WhAn.flash {w w' : World} {p q u : Nat} {g : Option Nat} {N : Nat → Prop} {F F' : Fla} {V : Whl} (h : WhAn w p q u g N F V) (k : Keeps [p, q] w w') (hF : FlaAt w' p q F') : WhAn w' p q u g N F' V := by
  obtain ⟨v, hv, hW, hR⟩ := h.own
  have h1 := h.pu
  have h2 := h.qu
  exact ⟨hF, h.s1, h.s2, h.pu, h.qu, h.next, h.lens, h.dat, h.nu, v, hv, hW.keeps k (by simp; omega), hR.keeps k (fun x hx hn => by have := h.nu x hn; simp at hx; omega) (fun _ h _ => h)⟩

def AddPostN (w : World) (p q u : Nat) (g : Option Nat) (N : Nat → Prop) (r : Fla × Whl × Int) (e : Ending) (w' : World) : Prop :=
  e = .returned (.int .i64 r.2.2) ∧ ∃ g', WhAn w' p q u g' N r.1 r.2.1 ∧ (g' = g ∨ ∃ y, g' = some y ∧ w.heap.size ≤ y) ∧ Keeps (p :: q :: u :: g.toList) w w'

end Go.Proofs.YtijhaeapoapgfaaGreatDoor

set_option linter.unusedVariables false
namespace Go.Proofs.YtijhaeapoapgfaaGreatDoor
open Go.RowKit
attribute [local go_sem ↓] Go.wp_at_zero Go.wp_at_succ

set_option maxRecDepth 100000 in
set_option maxHeartbeats 1000000 in
theorem add_noneN {w : World} {p q u : Nat} {g : Option Nat} {N : Nat → Prop} {F : Fla} {V : Whl} (h : WhAn w p q u g N F V) (id : UInt32) (A : Option Addr) (c : Nat) (d : List UInt8) (hn : d.length ≠ V.size ∨ V.room = 0 ∨ F.down = true) :
    Calls Tryz.prog 67 #[.pointer (some ⟨u, 0, none⟩), B32 id, .slice A d.length c] w (AddPostN w p q u g N (V.add F id d)) := by
  obtain ⟨v, hv, hW, hR⟩ := h.own
  have c2 := hW.cell' (i := 2) rfl
  have c0 := hW.cell' (i := 0) rfl
  by_cases hl : d.length = V.size
  · have hRm := room_calls h.at
    by_cases hr : V.room = 0
    · have e : V.add F id d = (F, V, 9) := by unfold Whl.add; rw [if_neg (by simp [hl]), if_pos hr]
      rw [e]
      rw [hr] at hRm
      have H := Lib.hid h
      have hb : ((d.length : Int) == (V.size : Int)) = true := by rw [hl]; simp
      rw [hl]
      clear e hr hn hR hW h hl hb
      generalize V.size = s at *
      go_enter Tryz.func67, Tryz.ntmps67
      go_wp2_with fail
      refine hRm.mono ?_
      rintro e w1 ⟨rfl, n, rfl⟩
      go_wp2_with fail
      go_ret
      exact ⟨rfl, g, H.out.keeps ((Keeps.refl [] w).drewN n) (by simp), .inl rfl, (Keeps.refl _ w).drewN n⟩
    · have hd : F.down = true := by simpa [hl, hr] using hn
      have e : V.add F id d = (F, V, 11) := by unfold Whl.add; rw [if_neg (by simp [hl]), if_neg hr, if_pos hd]
      rw [e]
      have hDn := fun (w : World) (h : FlaAt w p q F) => down_calls h
      rw [hd] at hDn
      have H := Lib.hid h
      have hrb : (V.room == 0) = false := by simpa using hr
      rw [hl]
      clear e hr hn hR hW h hl hd
      generalize V.room = z at *
      generalize V.size = s at *
      go_enter Tryz.func67, Tryz.ntmps67
      go_wp2_with fail
      refine hRm.mono ?_
      rintro e w1 ⟨rfl, n, hw1⟩
      have hk1 : Keeps [] w w1 := hw1 ▸ (Keeps.refl [] w).drewN n
      have c0' := hk1.cell c0
      clear hw1
      go_wp2_with fail
      refine (hDn _ (H.out.fla.keeps hk1 (by simp) (by simp))).mono ?_
      rintro e w2 ⟨rfl, rfl⟩
      go_wp2_with fail
      go_ret
      exact ⟨rfl, g, H.out.keeps hk1 (by simp), .inl rfl, hk1.nil⟩
  · have e : V.add F id d = (F, V, 1) := by unfold Whl.add; rw [if_pos hl]
    rw [e]
    have hb : ((d.length : Int) == (V.size : Int)) = false := by rw [beq_eq_false_iff_ne]; intro h; exact hl (by omega)
    have hb2 : ((d.length : Int) != (V.size : Int)) = true := by rw [bne, hb]; rfl
    have H := Lib.hid h
    clear e hn hR hW h hl hb
    generalize d.length = m at *
    generalize V.size = s at *
    go_enter Tryz.func67, Tryz.ntmps67
    go_wp2_with fail
    go_ret
    exact ⟨rfl, g, H.out, .inl rfl, Keeps.refl _ w⟩

set_option maxRecDepth 100000 in
set_option maxHeartbeats 4000000 in
theorem add_someN {w : World} {p q u : Nat} {g : Option Nat} {N : Nat → Prop} {F : Fla} {V : Whl} (h : WhAn w p q u g N F V) (hNw : ∀ k, w.heap.size ≤ k → N k) (id : UInt32) (A : Option Addr) (c : Nat) (d : List UInt8) (hA : Rd w A d) (hA0 : A = none → d = [] ∧ c = 0) (hc : d.length ≤ c) (hcm : c ≤ 9223372036854775807)
    (hAp : ∀ x, A = some x → d ≠ [] → x.block ≠ p ∧ x.block ≠ q ∧ x.block ≠ u ∧ g ≠ some x.block) (hl : d.length = V.size) (hr : V.room ≠ 0) (hd : F.down = false) :
    Calls Tryz.prog 67 #[.pointer (some ⟨u, 0, none⟩), B32 id, .slice A d.length c] w (AddPostN w p q u g N (V.add F id d)) := by
  obtain ⟨v, hv, hW, hR⟩ := h.own
  have hp := places_bounds h.s1 h.s2
  have hs16 := h.s2
  have hs1 := h.s1
  have hpu := h.pu
  have hqu := h.qu
  have hnx : V.next < 8 * places V.size := by have := h.next; have : V.room = 8 * (places V.size : Int) - V.next := rfl; omega
  have hsec : V.sector < 8 := (Nat.div_lt_iff_lt_mul (by omega)).2 hnx
  have hlens := h.lens
  have hRm := room_calls h.at
  have hDn := fun (w : World) (h : FlaAt w p q F) => down_calls h
  rw [hd] at hDn
  have hEn := fun (w : World) (h : FlaAt w p q F) (hW : WhB w p u V.gen V.size v V.ready V.next) => enters_calls h hW (by simp; omega) V.sector hsec
  have hAt := fun (w : World) (h : w.cell? ⟨u, 2, none⟩ = some (.int .i64 V.size)) => whAtK_calls h hs1 hs16 V.next (by omega)
  have hPq := fun (w : World) (h : w.cell? ⟨u, 2, none⟩ = some (.int .i64 V.size)) => places_calls h hs16
  have hsecI : (V.next : Int) / (places V.size : Int) = (V.sector : Int) := by rw [← Int.natCast_ediv]; rfl
  have hadd : V.add F id d = if (F.enters V.ready V.sector).2 ≠ 0 then ((F.enters V.ready V.sector).1, V, (F.enters V.ready V.sector).2)
    else
      let r := (F.enters V.ready V.sector).1.whPut (whAt V.size V.next) (Fla.whOut V.gen id d)
      if r.2 ≠ 0 then (r.1, V, r.2) else (r.1, V.added id d, 0) := by
    unfold Whl.add; rw [if_neg (by simp [hl]), if_neg hr, if_neg (by simp [hd])]
  have hrb : (V.room == 0) = false := by simpa using hr
  have HNo := Lib.hid (show ∀ x, x ≤ u → ¬ N x from fun x hx hn => by have := h.nu x hn; omega)
  have HNu := Lib.hid h.nu
  have HNw := Lib.hid hNw
  have H := Lib.hid h
  have HW := Lib.hid hW
  have HR := Lib.hid hR
  have HA := Lib.hid hA
  have HAp := Lib.hid hAp
  have Hadd := Lib.hid hadd
  have Hl := Lib.hid hl
  have c2 := hW.cell' (i := 2) rfl
  have c0 := hW.cell' (i := 0) rfl
  have c5 := hW.cell' (i := 5) rfl
  have c1 := hW.cell' (i := 1) rfl
  have hul := hW.lt
  clear h hW hR hA hAp hadd hr hd hNw
  generalize hE : F.enters V.ready V.sector = E1 at *
  obtain ⟨F1, z1⟩ := E1
  dsimp only at hEn
  generalize V.room = room at *
  generalize hP : places V.size = P at *
  have HAt := Lib.hid hAt
  have hPP := Lib.hid hP
  have htop := whAt_top hs1 hs16 (k := V.next) (by rw [hP]; exact hnx)
  clear hAt
  have Hsec := Lib.hid hsec
  rw [hl]
  clear hl
  go_enter Tryz.func67, Tryz.ntmps67
  go_wp2_with fail
  refine hRm.mono ?_
  rintro e w1 ⟨rfl, n, hw1⟩
  have hk1 : Keeps [] w w1 := hw1 ▸ (Keeps.refl [] w).drewN n
  have d0 := hk1.cell c0
  have d2 := hk1.cell c2
  have d5 := hk1.cell c5
  clear hw1
  go_wp2_with fail
  refine (hDn _ (H.out.fla.keeps hk1 (by simp) (by simp))).mono ?_
  rintro e w2 ⟨rfl, rfl⟩
  have hPn := fun n => (hPq (w1.drewN n) d2).mono (fun _ _ h => (⟨h.1, h.2.symm⟩ : _ ∧ _ = w1.drewN n))
  go_wp2_with fail
  go_quiet (first | (go_at_call 106; exact Calls.quiet_of_same (hPn _)))
  have hk2 := hk1.drewN nq
  generalize w1.drewN nq = w2 at *
  clear hPn d0 d2 d5 hk1 hsecI hRm hDn hPq
  have hF2 := H.out.fla.keeps hk2 (by simp) (by simp)
  have hW2 := HW.out.keeps hk2 (by simp)
  go_wp2_with fail
  refine (hEn _ hF2 hW2).mono ?_
  rintro e w3 ⟨rfl, hF3, hk3⟩
  have hkw3 := (hk2.nil (S := [p, q])).trans hk3
  have hW3 := HW.out.keeps hkw3 (by simp; omega)
  have HR3 := Lib.hid (HR.out.keeps hkw3 (fun x hx => HNo.out x (by simp at hx; omega)) (fun _ h _ => h))
  have HA3 := Lib.hid (HA.out.keeps hkw3 (fun x hx hd => by have := HAp.out x hx hd; simp [this.1, this.2.1]))
  clear hEn hF2 hW2 hk2 hk3
  by_cases hz1 : z1 = 0
  · subst hz1
    have c1' := hW3.cell' (i := 1) rfl
    have Hw1 := fun (w : World) => word_calls (w := w) V.gen
    have Hw2 := fun (w : World) => word_calls (w := w) id
    have hm4 : ∀ n, (be4 n).length = 4 := fun _ => rfl
    go_wp2_with fail
    refine (Hw1 _).mono ?_
    rintro e w4 ⟨rfl, hO4, hk4, hs4⟩
    go_wp2_with fail
    refine (Hw2 _).mono ?_
    rintro e w5 ⟨rfl, hO5, hk5, hs5⟩
    obtain ⟨x4, y4, e4, _, _, hrd4, _, _⟩ := hO4.sl
    obtain ⟨x5, y5, e5, _, _, hrd5, _, _⟩ := hO5.sl
    simp only [Value.slice.injEq] at e4 e5
    obtain ⟨rfl, -, rfl⟩ := e4
    obtain ⟨rfl, -, rfl⟩ := e5
    have hk35 := hk4.trans hk5
    have hrdA := HA3.out.keepsNil hk35
    have hrd4' := hrd4.keepsNil hk5
    have hTri : Tri (w5.alloc (.cells #[.slice (some ⟨w3.heap.size, 0, none⟩) 4 4, .slice (some ⟨w4.heap.size, 0, none⟩) 4 4, .slice A V.size c] 22)) w5.heap.size (.slice (some ⟨w3.heap.size, 0, none⟩) (be4 V.gen).length 4) (.slice (some ⟨w4.heap.size, 0, none⟩) (be4 id).length 4) (.slice A d.length c) := by
      rw [Hl.out]; exact Blk.newA w5 22 _
    have ha5 := Keeps.alloc (Keeps.refl [] w5) (.cells #[.slice (some ⟨w3.heap.size, 0, none⟩) 4 4, .slice (some ⟨w4.heap.size, 0, none⟩) 4 4, .slice A V.size c] 22)
    have hC := concat3_calls hTri (hrd4'.keepsNil ha5) (hrd5.keepsNil ha5) (hrdA.keepsNil ha5) (by simp) (by simp) hA0 (by rw [hm4]; omega) (by rw [hm4]; omega) (by have := Hl.out; omega) (by rw [hm4]; omega)
    rw [hs5, hs4] at hC
    have hk3 := hk35.trans ha5
    rw [hs4] at hk3
    clear hO4 hO5 hrd4 hrd5 hrd4' hrdA hTri Hw1 Hw2 hm4 hk4 hk5 hk35 ha5
    have Hlen := Lib.hid (show (be4 V.gen ++ be4 id ++ d).length = d.length + 8 by simp [be4])
    have Hlen2 := Lib.hid (whOut_len V.gen id d)
    generalize hL : be4 V.gen ++ be4 id ++ d = L at *
    have hput : Fla.whOut V.gen id d = crcPut L := by rw [← hL]; rfl
    have HPut := Lib.hid hput
    clear hL hput
    go_wp2_with fail
    refine hC.mono ?_
    rintro e w6 ⟨v6, rfl, hO6, hk6⟩
    obtain ⟨a6, c6, rfl, hl6, hc6, hrd6, hn6, hb6⟩ := hO6.sl
    have hP := crcput_calls a6 L.length c6 L hrd6 rfl (by have := Hlen.out; have := Hl.out; omega) (fun h => ⟨by rw [(hn6 h).1]; rfl, (hn6 h).2⟩)
    clear hC hO6 hl6 hc6 hrd6 hn6 hb6
    go_wp2_with fail
    refine hP.mono ?_
    rintro e w7 ⟨v7, rfl, hO7, hk7⟩
    obtain ⟨a7, c7, rfl, hl7, hc7, hrd7, hn7, hb7⟩ := hO7.sl
    have hk37 := hk3.trans (hk6.trans hk7)
    have hsz67 := (hk3.trans hk6).size
    have hF7 := hF3.keeps hk37 (by simp) (by simp)
    have hW7 := hW3.keeps hk37 (by simp)
    have m0 := hW7.cell' (i := 0) rfl
    have m2 := hW7.cell' (i := 2) rfl
    have m5 := hW7.cell' (i := 5) rfl
    have hbw : ∀ x, a7 = some x → crcPut L ≠ [] → x.block ∉ [p, q] := fun x hx hne => by
      have h1 := (hb7 x hx hne).1
      have h2 := hF3.ltp
      have h3 := hF3.ltq
      simp
      omega
    have hwp : F1.whPut (whAt V.size V.next) (Fla.whOut V.gen id d) = if (F1.program (whAt V.size V.next : Nat) (crcPut L)).2 ≠ 0 then F1.program (whAt V.size V.next : Nat) (crcPut L) else (F1.program (whAt V.size V.next : Nat) (crcPut L)).1.program ((whAt V.size V.next + (crcPut L).length : Nat) : Int) [0] := by
      unfold Fla.whPut; rw [HPut.out]
    have hPr := fun (w : World) (h : FlaAt w p q F1) (hr : Rd w a7 (crcPut L)) => program_calls_n h (whAt V.size V.next : Nat) a7 (crcPut L).length c7 (crcPut L) hr rfl hbw
    have hAtN := HAt.out
    have hNl := Hlen2.out
    rw [HPut.out] at hNl
    generalize hT : whAt V.size V.next = T at *
    generalize hE2 : F1.program (T : Nat) (crcPut L) = E2 at *
    obtain ⟨F2, z2⟩ := E2
    dsimp only at hwp hPr
    have HPr := Lib.hid hPr
    have Hwp := Lib.hid hwp
    have Hrd7 := Lib.hid hrd7
    have HF7 := Lib.hid hF7
    have Hk37 := Lib.hid hk37
    clear hP hO7 hk6 hk7 hk3 hl7 hn7 hb7 hwp hPr hbw hrd7 hF7 hk37 hE2
    generalize (crcPut L).length = N7 at *
    have HNl := Lib.hid hNl
    clear hNl hs4 hs5 hc7
    go_wp2_with fail
    go_region_held3 (fun w' => w'.cell? ⟨u, 0, none⟩ = some (.pointer (some ⟨p, 0, none⟩)) ∧ w'.cell? ⟨u, 2, none⟩ = some (.int .i64 V.size) ∧ w'.cell? ⟨u, 5, none⟩ = some (.int .i64 V.next))
      (first | exact ⟨m0, m2, m5⟩ | exact ⟨n0, n2, n5⟩ | exact ⟨o0, o2, o5⟩)
      (first
        | (go_at_call 108; refine (hAtN w7.drew m2).mono ?_; rintro e w8 ⟨rfl, hk8⟩; have n0 := hk8.cell m0; have n2 := hk8.cell m2; have n5 := hk8.cell m5; have HF8 := Lib.hid ((HF7.out.drew).keeps hk8 (by simp) (by simp)); have Hk8 := Lib.hid (Hk37.out.drew.trans hk8); have Hr8 := Lib.hid (Rd.keepsNil (w := w7.drew) Hrd7.out hk8))
        | (go_at_call 116; refine (HPr.out _ HF8.out Hr8.out).mono ?_; rintro e w9 ⟨rfl, hF9, hk9⟩; have hk39 := (Hk8.out.nil (S := [p, q])).trans hk9; have hW9 := hW3.keeps hk39 (by simp; omega); have o0 := hW9.cell' (i := 0) rfl; have o2 := hW9.cell' (i := 2) rfl; have o5 := hW9.cell' (i := 5) rfl))
    have Ho := Lib.hid hk39
    have hsz9 := hk39.size
    have HF9 := Lib.hid hF9
    have HW9 := Lib.hid hW9
    clear n0 n2 n5 HF8 Hk8 Hr8 hk8 hk9 hF9 hk39 m0 m2 m5 HPr Hrd7 HF7 Hk37 hW7 hW9
    by_cases hz2 : z2 = 0
    · subst hz2
      have hE3 : F1.whPut T (Fla.whOut V.gen id d) = F2.program ((T : Int) + (N7 : Int)) [0] := by rw [Hwp.out, if_neg (by simp), Int.natCast_add]
      have hPr2 := fun (w' : World) (b : Nat) (h : FlaAt w' p q F2) (hb : Blk w' b 5 [.int .u8 0]) (hbp : w3.heap.size ≤ b) => program_calls_n h ((T : Int) + (N7 : Int)) (some ⟨b, 0, none⟩) 1 1 [0] (Rd.blk hb 0 [0] (by intro i u hu; cases i with
        | zero => simp at hu; subst hu; rfl
        | succ i => simp at hu)) rfl (by
          intro x hx _
          simp only [Option.some.injEq] at hx
          subst hx
          have h2 := hF3.ltp
          have h3 := hF3.ltq
          simp
          omega)
      generalize F2.program ((T : Int) + (N7 : Int)) [0] = E3 at *
      obtain ⟨F3, z3⟩ := E3
      dsimp only at hPr2
      have hwr : IntKind.i64.wrap ((T : Int) + (N7 : Int)) = (T : Int) + (N7 : Int) := IntWalk.i64_in _ (by have := HNl.out; have := Hl.out; omega)
      have hPr3 : ∀ (w' : World) (b : Nat), FlaAt w' p q F2 → Blk w' b 5 [.int .u8 0] → w3.heap.size ≤ b → Calls Tryz.prog 116 #[.pointer (some ⟨p, 0, none⟩), .int .i64 (IntKind.i64.wrap ((T : Int) + (N7 : Int))), .slice (some ⟨b, 0, none⟩) 1 1] w' (FPost w' p q F3 (.int .i64 z3)) := by
        intro w' b h hb hbp
        rw [hwr]
        exact hPr2 w' b h hb hbp
      have hadd3 : V.add F id d = if z3 ≠ 0 then (F3, V, z3) else (F3, V.added id d, 0) := by rw [Hadd.out, if_neg (by simp), hE3]
      have Hadd3 := Lib.hid hadd3
      have HPr2 := Lib.hid hPr3
      have ka := Keeps.alloc (Keeps.refl [] w9) (.cells #[.int .u8 0] 5)
      have oo0 := ka.cell o0
      have oo2 := ka.cell o2
      have oo5 := ka.cell o5
      have Hka := Lib.hid ka
      have hT4 : T ≤ 3584 := by omega
      have hN4 : N7 ≤ 100 := by have := HNl.out; have := Hl.out; omega
      clear hE3 hadd3 Hadd Hwp hPr2 hPr3 hwr ka
      go_wp2_with fail
      go_region_held3 (fun w' => w'.cell? ⟨u, 0, none⟩ = some (.pointer (some ⟨p, 0, none⟩)) ∧ w'.cell? ⟨u, 2, none⟩ = some (.int .i64 V.size) ∧ w'.cell? ⟨u, 5, none⟩ = some (.int .i64 V.next))
        (first | exact ⟨o0, o2, o5⟩ | exact ⟨oo0, oo2, oo5⟩ | exact ⟨n0, n2, n5⟩ | exact ⟨nn0, nn2, nn5⟩ | exact ⟨q0, q2, q5⟩)
        (first
          | (go_at_call 108; refine (hAtN w9.drew o2).mono ?_; rintro e w10 ⟨rfl, hk10⟩; have n0 := hk10.cell o0; have n2 := hk10.cell o2; have n5 := hk10.cell o5; have k11 := Keeps.alloc (Keeps.refl [] w10) (.cells #[.int .u8 0] 5); have nn0 := k11.cell n0; have nn2 := k11.cell n2; have nn5 := k11.cell n5; have HF10 := Lib.hid (((HF9.out.drew).keeps hk10 (by simp) (by simp)).alloc (.cells #[.int .u8 0] 5)); have Hb10 := Lib.hid (Blk.newA w10 5 #[.int .u8 0]); have Hs10 := Lib.hid (Nat.le_trans hsz9 hk10.size); have Hk10 := Lib.hid ((Keeps.refl [] w9).drew.trans (hk10.trans k11)))
          | (go_at_call 108; refine (hAtN (w9.alloc (.cells #[.int .u8 0] 5)).drew oo2).mono ?_; rintro e w10 ⟨rfl, hk10⟩; have n0 := hk10.cell oo0; have n2 := hk10.cell oo2; have n5 := hk10.cell oo5; have HF10 := Lib.hid ((HF9.out.keeps Hka.out (by simp) (by simp)).drew.keeps hk10 (by simp) (by simp)); have Hb10 := Lib.hid ((Blk.newA w9 5 #[.int .u8 0]).drew.keeps hk10 (by simp)); have Hs10 := Lib.hid hsz9; have Hk10 := Lib.hid (Hka.out.drew.trans hk10))
          | (go_at_call 116; refine (HPr2.out _ _ HF10.out Hb10.out Hs10.out).mono ?_; rintro e w11 ⟨rfl, hF11, hk11⟩; have hk91 := (Hk10.out.nil (S := [p, q])).trans hk11; have hW11 := HW9.out.keeps hk91 (by simp; omega); have q0 := hW11.cell' (i := 0) rfl; have q2 := hW11.cell' (i := 2) rfl; have q5 := hW11.cell' (i := 5) rfl))
      all_goals
        have Hk3 := Lib.hid (Ho.out.trans hk91)
        have HF11 := Lib.hid hF11
        have HW11 := Lib.hid hW11
        have hs11 := hk91.size
        clear hF11 hk91 hk11 hk10 HF10 Hb10 Hs10 Hk10 hAtN HAt
        by_cases hz3 : z3 = 0
        · subst hz3
          have Hadd4 := Lib.hid (show V.add F id d = (F3, V.added id d, 0) by rw [Hadd3.out]; exact if_neg (by simp))
          clear Hadd3
          have q4 := hW11.cell' (i := 4) rfl
          have f4 := hW11.frozen 4
          have f5 := hW11.frozen 5
          have hul9 := hW11.lt
          clear hW11
          go_wp2_with fail
          have HW12 := Lib.hid ((HW11.out.setR V.sector).setN ((V.next : Int) + 1))
          have Hk12 := Lib.hid (show Keeps [u] w11 ((w11.setCell ⟨u, 4, none⟩ (.int .i64 V.sector)).setCell ⟨u, 5, none⟩ (.int .i64 ((V.next : Int) + 1))) from ((Keeps.refl [u] w11).setCell (by simp) _).setCell (by simp) _)
          generalize (w11.setCell ⟨u, 4, none⟩ (.int .i64 V.sector)).setCell ⟨u, 5, none⟩ (.int .i64 ((V.next : Int) + 1)) = w12 at *
          have hR12 := (HR3.out.keeps Hk3.out (fun x hx => HNo.out x (by simp at hx; omega)) (fun _ h _ => h)).keeps Hk12.out (fun x hx => HNo.out x (by simp at hx; omega)) (fun _ h _ => h)
          obtain ⟨av, cv, rfl, hvl, hvm, hv0, hvo⟩ := hR12.formB HNu.out
          have hs12 := Hk12.out.size
          have hsw12 : w.heap.size ≤ w12.heap.size := Nat.le_trans (hkw3.trans Hk3.out).size hs12
          have c3 := HW12.out.cell' (i := 3) rfl
          have f3 := HW12.out.frozen 3
          have hA12' : Rd w12 A d := (HA3.out.keeps Hk3.out (fun x hx hd => by have := HAp.out x hx hd; simp [this.1, this.2.1])).keeps Hk12.out (fun x hx hd => by have := HAp.out x hx hd; simp [this.2.2.1])
          have hA12 : Rd w12.drew A d := hA12'
          have HC := Lib.hid (clone_calls A V.size c d hA12 Hl.out (by have := Hl.out; omega) (fun h => (hA0 h).1))
          have HR12 := Lib.hid hR12
          have hu12 : u < w12.heap.size := by omega
          have Hlk := Lib.hid (show V.l.length ≤ 100000 by omega)
          have Hvo := Lib.hid hvo
          have Hkd := Lib.hid (Keeps.refl [] w12).drew
          clear hR12 hA12 hA12' hvo hv0 q4 f4 f5 q0 q2 q5 HPr2 oo0 oo2 oo5 o0 o2 o5
          go_wp2_with fail
          go_region_law (first
            | (go_simp; go_at_call 38; refine HC.out.mono ?_; rintro e w13 ⟨v13, rfl, hO13, hk13'⟩; have hk13 := Hkd.out.trans hk13'; obtain ⟨a13, c13, rfl, hrest⟩ := hO13.sl; have n3 := hk13.cell c3; have k14 := Keeps.alloc (Keeps.refl [] w13) (.cells #[.int .u32 id.toNat, .slice a13 d.length c13] 115); have nn3 := k14.cell n3; have hs13 := hk13.size; have HR14 := Lib.hid ((HR12.out.keeps hk13 (by simp) (fun _ h _ => h)).keeps k14 (by simp) (fun _ h _ => h)); have HB14 := Lib.hid (Blk.newA w13 115 #[.int .u32 id.toNat, .slice a13 d.length c13]); have HX14 := Lib.hid ((hO13.slb.slx (N := fun z => N z ∧ Value.ownBlock (.slice av V.l.length cv) ≠ some z) (fun y h1 h2 => ⟨HNw.out y (by have : w12.heap.size ≤ y := h1; omega), fun hc => (by have := Hvo.out y hc; have : w12.heap.size ≤ y := h1; omega)⟩)).keeps k14 (by simp) (fun _ h _ => h)); have HW14 := Lib.hid ((HW12.out.keeps hk13 (by simp)).keeps k14 (by simp)); have Hk14 := Lib.hid (hk13.trans k14); have HBs := Lib.hid (show w.heap.size ≤ (w13.alloc (.cells #[.int .u32 id.toNat, .slice a13 d.length c13] 115)).heap.size from Nat.le_trans hsw12 Hk14.out.size))
            | (refine step_append_recN rfl (.tmp 106) (.tmp 111) rfl (fun _ => N) HR14.out rfl _ 1 rfl id _ d HB14.out HX14.out Hlk.out (fun _ _ _ h _ _ => h) (fun _ g cur _ _ hc => hc.elim (fun h => h.2) (fun h => HNw.out _ (h ▸ HBs.out))) ?_; intro g6 cap6 w15 hR15 hG15 hg15 hl15; have hk15 := (Keeps.refl _ _).grown (S := Option.toList (Value.ownBlock (.slice av V.l.length cv))) hG15 (fun z hz => Or.inl (by rw [hz]; exact List.mem_singleton.2 rfl)); have hW15 := HW14.out.keeps hk15 (fun hm => (by have := Hvo.out _ (Option.mem_toList.1 hm); omega)); have c15 := hW15.cell' (i := 3) rfl; have f15 := hW15.frozen 3))
          all_goals
            subst hv
            have K1 : Keeps (p :: q :: u :: (Value.ownBlock (.slice av V.l.length cv)).toList) w w12 := (hkw3.trans Hk3.out).trans' Hk12.out (fun x hx => .inl (by simp at hx ⊢; omega)) (fun x hx => .inl (by simp at hx ⊢; omega))
            have K2 := (K1.trans' (T := p :: q :: u :: (Value.ownBlock (.slice av V.l.length cv)).toList) Hk14.out (fun _ h => .inl h) (by simp)).trans' (T := p :: q :: u :: (Value.ownBlock (.slice av V.l.length cv)).toList) hk15 (fun _ h => .inl h) (fun x hx => .inl (List.mem_cons_of_mem _ (List.mem_cons_of_mem _ (List.mem_cons_of_mem _ hx))))
            have ks := fun x => (show Keeps [u] w15 (w15.setCell ⟨u, 3, none⟩ x) from (Keeps.refl [u] w15).setCell (by simp) x)
            have hFe := ((HF11.out.keeps Hk12.out (by simp; omega) (by simp; omega)).keeps Hk14.out (by simp) (by simp)).keeps hk15 (fun hm => by have := Hvo.out _ (Option.mem_toList.1 hm); omega) (fun hm => by have := Hvo.out _ (Option.mem_toList.1 hm); omega)
            have hsz15 := Nat.le_trans K1.size Hk14.out.size
            go_wp2_with fail
            go_ret
            rw [Hadd4.out]
            refine ⟨rfl, some g6, ⟨hFe.keeps (ks _) (by simp; omega) (by simp; omega), hs1, hs16, hpu, hqu, ?_, ?_, ?_, HNu.out, _, rfl, WhB.setL hW15 _, ?_⟩, hg15.elim (fun h => .inl h.symm) (fun h => .inr ⟨g6, rfl, h ▸ hsz15⟩), K2.setCell (by simp) _⟩
            · show V.next + 1 ≤ 8 * places V.size
              rw [hPP.out]; exact hnx
            · show (V.l ++ [(id, d)]).length ≤ 144 + (V.next + 1)
              simp; omega
            · intro e he
              rcases List.mem_append.1 he with he | he
              · exact H.out.dat e he
              · simp at he; subst he; exact Hl.out
            · have := hR15.keeps (ks (.slice (some ⟨g6, 0, none⟩) (V.l.length + 1) cap6)) (fun x hx => HNo.out x (by simp at hx; omega)) (fun _ h _ => h)
              have e : (V.added id d).l = V.l ++ [(id, d)] := rfl
              rw [e]
              exact this
        · have hzb3 : (z3 == 0) = false := by simpa using hz3
          have Hadd4 := Lib.hid (show V.add F id d = (F3, V, z3) by rw [Hadd3.out]; exact if_pos hz3)
          clear Hadd3 hz3 hW11
          go_wp2_with fail
          go_ret
          rw [Hadd4.out]
          have hkw := hkw3.trans Hk3.out
          exact ⟨rfl, g, ⟨HF11.out, hs1, hs16, hpu, hqu, H.out.next, H.out.lens, H.out.dat, HNu.out, v, hv, HW11.out, HR3.out.keeps Hk3.out (fun x hx => HNo.out x (by simp at hx; omega)) (fun _ h _ => h)⟩, .inl rfl, hkw.mono (fun x hx => .inl (by simp at hx ⊢; omega))⟩
    · have hzb2 : (z2 == 0) = false := by simpa using hz2
      have Hadd2 := Lib.hid (show V.add F id d = (F2, V, z2) by rw [Hadd.out, if_neg (by simp), Hwp.out, if_pos hz2]; exact if_pos hz2)
      clear hz2 hE Hadd
      go_wp2_with fail
      go_ret
      rw [Hadd2.out]
      have hkw9 := hkw3.trans Ho.out
      exact ⟨rfl, g, ⟨HF9.out, hs1, hs16, hpu, hqu, H.out.next, H.out.lens, H.out.dat, HNu.out, v, hv, HW9.out, HR3.out.keeps Ho.out (fun x hx => HNo.out x (by simp at hx; omega)) (fun _ h _ => h)⟩, .inl rfl, hkw9.mono (fun x hx => .inl (by simp at hx ⊢; omega))⟩
  · have hzb : (z1 == 0) = false := by simpa using hz1
    have Hadd2 := Lib.hid (show V.add F id d = (F1, V, z1) by rw [Hadd.out]; exact if_pos hz1)
    clear hz1 hE Hadd
    go_wp2_with fail
    go_ret
    rw [Hadd2.out]
    exact ⟨rfl, g, ⟨hF3, hs1, hs16, hpu, hqu, H.out.next, H.out.lens, H.out.dat, HNu.out, v, hv, hW3, HR3.out⟩, .inl rfl, hkw3.mono (fun x hx => .inl (by simp at hx ⊢; omega))⟩

/-- Add, whatever it is asked. -/
theorem addN_calls {w : World} {p q u : Nat} {g : Option Nat} {N : Nat → Prop} {F : Fla} {V : Whl} (h : WhAn w p q u g N F V) (id : UInt32) (A : Option Addr) (c : Nat) (d : List UInt8) (hA : Rd w A d) (hA0 : A = none → d = [] ∧ c = 0) (hc : d.length ≤ c) (hcm : c ≤ 9223372036854775807)
    (hAp : ∀ x, A = some x → d ≠ [] → x.block ≠ p ∧ x.block ≠ q ∧ x.block ≠ u ∧ g ≠ some x.block) :
    Calls Tryz.prog 67 #[.pointer (some ⟨u, 0, none⟩), B32 id, .slice A d.length c] w (AddPostN w p q u g (fun k => N k ∨ w.heap.size ≤ k) (V.add F id d)) := by
  have hu := h.ltu
  have h' : WhAn w p q u g (fun k => N k ∨ w.heap.size ≤ k) F V := h.mono (fun k hk _ => .inl hk) (fun k hk => by
    rcases hk with hk | hk
    · exact h.nu k hk
    · omega)
  by_cases hn : d.length ≠ V.size ∨ V.room = 0 ∨ F.down = true
  · exact add_noneN h' id A c d hn
  · simp only [not_or, Bool.not_eq_true, ne_eq, Decidable.not_not] at hn
    exact add_someN h' (fun k hk => .inr hk) id A c d hA hA0 hc hcm hAp hn.1 hn.2.1 hn.2.2

end Go.Proofs.YtijhaeapoapgfaaGreatDoor
