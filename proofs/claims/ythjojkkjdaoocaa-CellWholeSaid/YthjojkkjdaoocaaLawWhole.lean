/-
  LawWhole: the walk of CellWhole.
-/
import Derived.Test.YthjojkkjdaoocaaLawSame
set_option linter.unusedVariables false
set_option linter.unusedSimpArgs false
namespace Go.Proofs.Ythjojkkjdaoocaa
open Go.RowKit

structure WholeSt (k : Nat) (F : Fla) (C : Nat) (cur : UInt32) (was : List UInt8) : Prop where
  good : Good F
  wear : F.wear = 100
  er0 : F.er.getD 0 0 ≤ k + 1 ∧ 0 ≤ F.er.getD 0 0
  er1 : F.er.getD 1 0 ≤ k + 1 ∧ 0 ≤ F.er.getD 1 0
  cell : CellIs F C cur was
  cur : cur.toNat ≤ k + 1

theorem WholeSt.fuse {k : Nat} {F : Fla} {C : Nat} {cur : UInt32} {was : List UInt8} (h : WholeSt k F C cur was) {n t : Int} (h0 : 0 ≤ n) (hn : n ≤ 9223372036854775807) : WholeSt k (F.fuse n t) C cur was :=
  ⟨fuse_good h.good h0 hn, h.wear, h.er0, h.er1, h.cell.fuse n t, h.cur⟩

theorem whole_step {k : Nat} {F : Fla} {C : Nat} {cur : UInt32} {was : List UInt8} (h : WholeSt k F C cur was) (hk : k < 60) {b : List UInt8} (hb : b.length ≤ 245) :
    ∃ G e, F.cellWrite b = (G, e) ∧ ∃ C' cur' was', WholeSt (k + 1) G.start C' cur' was' ∧ ((e = 0 ∧ was' = b) ∨ (e = 11 ∧ was' = b) ∨ (e = 11 ∧ was' = was)) := by
  have hC := h.cell.C2
  have hcur := h.cur
  have hw : F.er.getD (1 - C) 0 < F.wear := by
    rw [h.wear]
    have := h.er0
    have := h.er1
    have : 1 - C = 0 ∨ 1 - C = 1 := by omega
    rcases this with e | e <;> rw [e] <;> omega
  obtain ⟨G, e, k1, k2, k3⟩ := h.cell.write h.good hw b hb (by omega)
  have hg := start_good k2 h.good.er
  have hl := h.good.er
  have e0 := h.er0
  have e1 := h.er1
  have hs := succ_toNat (cur := cur) (by omega)
  have hT01 : 1 - C = 0 ∨ 1 - C = 1 := by omega
  have er0' : G.er.getD 0 0 ≤ (k + 1 : Nat) + 1 ∧ 0 ≤ G.er.getD 0 0 := by
    rw [k2.er, getD_setI _ _ _ _ (by omega)]
    rcases hT01 with e | e <;> rw [e]
    · rw [if_pos rfl, IntWalk.wrap64_in _ (by omega)]; omega
    · rw [if_neg (by omega)]; omega
  have er1' : G.er.getD 1 0 ≤ (k + 1 : Nat) + 1 ∧ 0 ≤ G.er.getD 1 0 := by
    rw [k2.er, getD_setI _ _ _ _ (by omega)]
    rcases hT01 with e | e <;> rw [e]
    · rw [if_neg (by omega)]; omega
    · rw [if_pos rfl, IntWalk.wrap64_in _ (by omega)]; omega
  have hwr : G.start.wear = 100 := k2.wear.trans h.wear
  refine ⟨G, e, k1, ?_⟩
  rcases k3 with ⟨rfl, _, hc, _⟩ | ⟨rfl, _, _, hc | hc⟩
  · exact ⟨_, _, b, ⟨hg, hwr, er0', er1', hc.start, by omega⟩, .inl ⟨rfl, rfl⟩⟩
  · exact ⟨_, _, was, ⟨hg, hwr, er0', er1', hc.start, by omega⟩, .inr (.inr ⟨rfl, rfl⟩)⟩
  · exact ⟨_, _, b, ⟨hg, hwr, er0', er1', hc.start, by omega⟩, .inr (.inl ⟨rfl, rfl⟩)⟩

theorem whole_first : ∃ G, (Fla.new 100).cellWrite [] = (G, 0) ∧ WholeSt 0 G 0 1 [] := by
  obtain ⟨G, h1, h2, h3, h4, _⟩ := first_write 100 [] (by simp)
  refine ⟨G, h1, h3, h2.wear.trans (by decide), ?_, ?_, h4, by decide⟩
  · rw [h2.er]; decide +kernel
  · rw [h2.er]; decide +kernel

set_option maxRecDepth 100000 in
set_option maxHeartbeats 4000000 in
theorem cellWhole_walk {w : World} (A : Option Addr) (c : Nat) (l : List C16) (hm : l.length ≤ maxLen) (hl : CallsC w A l) :
    Calls Try.prog 12 #[.slice A l.length c] w (TrueKeep w) := by
  unfold maxLen at hm
  obtain ⟨F0, hP0, hS0⟩ := whole_first
  have HP := Lib.hid hP0
  clear hP0
  go_enter Try.func12, Try.ntmps12
  go_wp2_with fail
  refine (new_calls 100).mono ?_
  rintro e w1 ⟨p, q, rfl, hp, hq, hF, hK⟩
  have hp1 := hF.ltp
  have hq1 := hF.ltq
  go_wp2_with fail
  refine (cellwrite_calls hF none 0 [] (Rd.nil _ _) (by simp) (by simp) (by omega) (by simp) (by simp)).mono ?_
  rw [HP.out]
  rintro e w2 ⟨rfl, hF2, hk2⟩
  have hK2 : Keeps [p, q] w w2 := hK.nil.trans hk2
  have hsl : Sl w2 (max p q + 1) (.slice none 0 0) [] := Sl.nil _ _
  clear hF hK hk2
  go_wp2_with fail
  go_loopw [4, 19] (fun v i wr => ∃ (k : Nat) (F : Fla) (C : Nat) (cur : UInt32) (was : List UInt8), k ≤ l.length ∧ k ≤ 40 ∧ i = .int .i64 k ∧ FlaAt wr p q F ∧ WholeSt k F C cur was ∧ Sl wr (max p q + 1) v was ∧ Keeps [p, q] w wr) (fun _ i _ => l.length - (intOf i).toNat)
  case atStart => exact ⟨0, F0, 0, 1, [], Nat.zero_le _, by omega, rfl, hF2, hS0, hsl, hK2⟩
  case round =>
    clear hF2 hS0 hsl hK2
    obtain ⟨k, F, C, cur, was, hk, hk40, rfl, hF, hT, hwas, hK⟩ := hrel
    obtain ⟨aw, cw, rfl, hwas'⟩ := hwas
    have HWas : Hid (Sl wr (max p q + 1) (.slice aw was.length cw) was) := Lib.hid ⟨aw, cw, rfl, hwas'⟩
    clear hwas'
    by_cases hlt : k < l.length
    · obtain ⟨hok0, b, o, rfl, hcc⟩ := hl k l[k] (by simp [hlt])
      have hok := hok0.s
      generalize l[k] = x at *
      have hok1 := hok.le
      have hok2 := hok.max
      have hok3 := hok.rd
      have hok4 : x.s.A = none → x.s.b = [] ∧ x.s.cap = 0 := fun h => ⟨hok.nil h, hok.nil0 h⟩
      have hpg : ∀ y : Addr, y.block < w.heap.size → y.block ∉ [p, q] := fun y hy => by simp; omega
      have hxa : ∀ y, x.s.A = some y → x.s.b ≠ [] → y.block ∉ [p, q] := fun y hy hne => hpg y (hok3.lt y hy hne)
      have hxr := hok3.keeps hK hxa
      obtain ⟨xd, xn, xt, ⟨xA, xc, xb⟩⟩ := x
      dsimp only at *
      have hwa := hok0.a
      have hwn := hok0.n
      dsimp only at hwa hwn
      have cc : ∀ j v, [Value.int .i64 xd, .int .i64 xn, .int .i64 xt, .slice xA xb.length xc][j]? = some v → wr.cell? ⟨b, o + k * 4 + j, none⟩ = some v := fun j v hv => by
        have h0 := hcc j v hv
        exact (World.cell?_of_block (a := ⟨b, o + k * 4 + j, none⟩) (hK.block b (World.block_lt_of_cell? w _ h0) (hpg ⟨b, o + k * 4 + j, none⟩ (World.block_lt_of_cell? w _ h0)))).trans h0
      have c0 : wr.cell? ⟨b, o + k * 4, none⟩ = some (.int .i64 xd) := cc 0 _ rfl
      have c1 := cc 1 _ rfl
      have c2 := cc 2 _ rfl
      have c3 := cc 3 _ rfl
      clear hcc cc hok hok0
      unfold maxLen at hok2
      have hpl := hF.ltp
      have hql := hF.ltq
      by_cases h40 : 40 ≤ k
      · have h40' : (40 : Int) ≤ (k : Int) := by omega
        clear hT hwa hwn
        go_wp2_with fail
        refine awake17.mono ?_
        rintro e w4 ⟨rfl, hk4⟩
        go_wp2_with fail
        go_ret
        exact ⟨rfl, ((hK.mono (by simp [hp, hq])).alloc _).trans hk4⟩
      have h40' : (k : Int) < 40 := by omega
      by_cases h245 : 245 < xb.length
      · clear hT hwa hwn
        go_wp2_with fail
        refine awake17.mono ?_
        rintro e w4 ⟨rfl, hk4⟩
        go_wp2_with fail
        go_ret
        exact ⟨rfl, ((hK.mono (by simp [hp, hq])).alloc _).trans hk4⟩
      have hT' := hT
      by_cases hn0 : 0 ≤ xn
      · replace hT := hT.fuse (n := xn % 300) (t := xt) (by omega) (by omega)
        obtain ⟨G, e, hW, C', cur', was', hT2, hcase⟩ := whole_step hT (by omega) (show xb.length ≤ 245 by omega)
        have HW := Lib.hid hW
        have HT := Lib.hid hT2
        have HR := Lib.hid (hT2.cell.read hT2.good.down)
        clear hW hT2 hT hT' hwa hwn h40
        go_wp2_with fail
        refine (fuse_calls (hF.alloc _) (xn % 300) xt).mono ?_
        rintro e1 w3 ⟨rfl, hF3, hk3⟩
        have hB0 := (Blk.newA wr 57 #[.int .i64 xd, .int .i64 xn, .int .i64 xt, .slice xA xb.length xc]).keeps hk3 (by simp; omega)
        have n3 := hB0.cell' (i := 3) rfl
        have hxr3 := (hxr.keepsNil ((Keeps.refl [] wr).alloc (.cells #[.int .i64 xd, .int .i64 xn, .int .i64 xt, .slice xA xb.length xc] 57))).keeps hk3 hxa
        have hW3 := (HWas.out.keeps ((Keeps.refl [] wr).alloc (.cells #[.int .i64 xd, .int .i64 xn, .int .i64 xt, .slice xA xb.length xc] 57)) (by simp)).keeps hk3 (by simp; omega)
        have hK3 := (hK.alloc (.cells #[.int .i64 xd, .int .i64 xn, .int .i64 xt, .slice xA xb.length xc] 57)).trans hk3
        clear hB0 hk3
        go_wp2_with fail
        refine (cellwrite_calls hF3 xA xc xb hxr3 (by omega) hok1 (by omega) hok4 hxa).mono ?_
        rw [HW.out]
        rintro e1 w4 ⟨rfl, hF4, hk4⟩
        have hxr4 := hxr3.keeps hk4 hxa
        have hW4 := hW3.keeps hk4 (by simp; omega)
        clear hF3 hxr3 hW3
        go_wp2_with fail
        refine (start_calls hF4).mono ?_
        rintro e1 w5 ⟨rfl, hF5, hk5⟩
        have hp5 := hF5.ltp
        have hq5 := hF5.ltq
        clear hF4
        go_wp2_with fail
        refine (cellread_calls hF5).mono ?_
        rw [HR.out]
        rintro e1 w6 ⟨v6, rfl, hv6, hk6⟩
        obtain ⟨a6, c6, rfl, hv6'⟩ := hv6
        have HV6 : Hid (Sl w6 w5.heap.size (.slice a6 was'.length c6) was') := Lib.hid ⟨a6, c6, rfl, hv6'⟩
        have hF6 := hF5.keeps hk6 (by simp) (by simp)
        clear hv6' hF5
        go_wp2_with fail
        refine (cellread_calls hF6).mono ?_
        rw [HR.out]
        rintro e1 w7 ⟨v7, rfl, hv7, hk7⟩
        have s2 := hv7.str
        obtain ⟨a7, c7, rfl, hv7'⟩ := hv7
        have hF7 := hF6.keeps hk7 (by simp) (by simp)
        have HV7 := HV6.out.keeps hk7 (by simp)
        have s1 := HV7.str
        have s3 := (((hW4.keeps hk5 (by simp; omega)).keeps hk6 (by simp)).keeps hk7 (by simp)).str
        have s4 := str_run (w := w7) (a := xA) xb.length xc (((hxr4.keeps hk5 hxa).keepsNil hk6).keepsNil hk7) rfl (fun h => (hok4 h).1)
        have hK7 := Lib.hid ((((hK3.trans hk4).trans hk5).trans hk6.nil).trans hk7.nil)
        have HS : Hid (Sl w7 (max p q + 1) (.slice a6 was'.length c6) was') := Lib.hid (HV7.mono (by
          have := hk5.size
          omega))
        have HF7 := Lib.hid hF7
        clear hv7' hF6 hF7 HV6 HV7 hW4 hxr4 hk4 hk5 hk6 hk7 hK hK3 hxr hF hl hok3 hxa hpg HW HR HWas c0 c1 c2 c3
        rcases hcase with ⟨rfl, hw⟩ | ⟨rfl, hw⟩ | ⟨rfl, hw⟩ <;> subst hw
        · by_cases hbw : was' = was
          · subst hbw
            go_wp2_with fail
            go_roundw
            case rel => exact ⟨k + 1, G.start, C', cur', _, by omega, by omega, by go_num, HF7.out, HT.out, HS.out, hK7.out⟩
            case measure => simp [intOf]; omega
          · have hbw' : (was' == was) = false := by simpa using hbw
            clear hbw
            go_wp2_with fail
            go_roundw
            case rel => exact ⟨k + 1, G.start, C', cur', _, by omega, by omega, by go_num, HF7.out, HT.out, HS.out, hK7.out⟩
            case measure => simp [intOf]; omega
        · by_cases hbw : was' = was
          · subst hbw
            go_wp2_with fail
            go_roundw
            case rel => exact ⟨k + 1, G.start, C', cur', _, by omega, by omega, by go_num, HF7.out, HT.out, HS.out, hK7.out⟩
            case measure => simp [intOf]; omega
          · have hbw' : (was' == was) = false := by simpa using hbw
            clear hbw
            go_wp2_with fail
            go_roundw
            case rel => exact ⟨k + 1, G.start, C', cur', _, by omega, by omega, by go_num, HF7.out, HT.out, HS.out, hK7.out⟩
            case measure => simp [intOf]; omega
        · go_wp2_with fail
          all_goals
            go_roundw
            case rel => exact ⟨k + 1, G.start, C', cur', _, by omega, by omega, by go_num, HF7.out, HT.out, HS.out, hK7.out⟩
            case measure => simp [intOf]; omega
      · have hn0' : xn < 0 := by omega
        obtain ⟨G, e, hW, C', cur', was', hT2, hcase⟩ := whole_step hT (by omega) (show xb.length ≤ 245 by omega)
        have HW := Lib.hid hW
        have HT := Lib.hid hT2
        have HR := Lib.hid (hT2.cell.read hT2.good.down)
        clear hW hT2 hT hT' hwa hwn h40
        go_wp2_with fail
        have hF3 := hF.alloc (.cells #[.int .i64 xd, .int .i64 xn, .int .i64 xt, .slice xA xb.length xc] 57)
        have hxr3 := hxr.keepsNil ((Keeps.refl [] wr).alloc (.cells #[.int .i64 xd, .int .i64 xn, .int .i64 xt, .slice xA xb.length xc] 57))
        have hW3 := HWas.out.keeps ((Keeps.refl [] wr).alloc (.cells #[.int .i64 xd, .int .i64 xn, .int .i64 xt, .slice xA xb.length xc] 57)) (by simp)
        have hK3 := hK.alloc (.cells #[.int .i64 xd, .int .i64 xn, .int .i64 xt, .slice xA xb.length xc] 57)
        refine (cellwrite_calls hF3 xA xc xb hxr3 (by omega) hok1 (by omega) hok4 hxa).mono ?_
        rw [HW.out]
        rintro e1 w4 ⟨rfl, hF4, hk4⟩
        have hxr4 := hxr3.keeps hk4 hxa
        have hW4 := hW3.keeps hk4 (by simp; omega)
        clear hF3 hxr3 hW3
        go_wp2_with fail
        refine (start_calls hF4).mono ?_
        rintro e1 w5 ⟨rfl, hF5, hk5⟩
        have hp5 := hF5.ltp
        have hq5 := hF5.ltq
        clear hF4
        go_wp2_with fail
        refine (cellread_calls hF5).mono ?_
        rw [HR.out]
        rintro e1 w6 ⟨v6, rfl, hv6, hk6⟩
        obtain ⟨a6, c6, rfl, hv6'⟩ := hv6
        have HV6 : Hid (Sl w6 w5.heap.size (.slice a6 was'.length c6) was') := Lib.hid ⟨a6, c6, rfl, hv6'⟩
        have hF6 := hF5.keeps hk6 (by simp) (by simp)
        clear hv6' hF5
        go_wp2_with fail
        refine (cellread_calls hF6).mono ?_
        rw [HR.out]
        rintro e1 w7 ⟨v7, rfl, hv7, hk7⟩
        have s2 := hv7.str
        obtain ⟨a7, c7, rfl, hv7'⟩ := hv7
        have hF7 := hF6.keeps hk7 (by simp) (by simp)
        have HV7 := HV6.out.keeps hk7 (by simp)
        have s1 := HV7.str
        have s3 := (((hW4.keeps hk5 (by simp; omega)).keeps hk6 (by simp)).keeps hk7 (by simp)).str
        have s4 := str_run (w := w7) (a := xA) xb.length xc (((hxr4.keeps hk5 hxa).keepsNil hk6).keepsNil hk7) rfl (fun h => (hok4 h).1)
        have hK7 := Lib.hid ((((hK3.trans hk4).trans hk5).trans hk6.nil).trans hk7.nil)
        have HS : Hid (Sl w7 (max p q + 1) (.slice a6 was'.length c6) was') := Lib.hid (HV7.mono (by
          have := hk5.size
          omega))
        have HF7 := Lib.hid hF7
        clear hv7' hF6 hF7 HV6 HV7 hW4 hxr4 hk4 hk5 hk6 hk7 hK hK3 hxr hF hl hok3 hxa hpg HW HR HWas c0 c1 c2 c3
        rcases hcase with ⟨rfl, hw⟩ | ⟨rfl, hw⟩ | ⟨rfl, hw⟩ <;> subst hw
        · by_cases hbw : was' = was
          · subst hbw
            go_wp2_with fail
            go_roundw
            case rel => exact ⟨k + 1, G.start, C', cur', _, by omega, by omega, by go_num, HF7.out, HT.out, HS.out, hK7.out⟩
            case measure => simp [intOf]; omega
          · have hbw' : (was' == was) = false := by simpa using hbw
            clear hbw
            go_wp2_with fail
            go_roundw
            case rel => exact ⟨k + 1, G.start, C', cur', _, by omega, by omega, by go_num, HF7.out, HT.out, HS.out, hK7.out⟩
            case measure => simp [intOf]; omega
        · by_cases hbw : was' = was
          · subst hbw
            go_wp2_with fail
            go_roundw
            case rel => exact ⟨k + 1, G.start, C', cur', _, by omega, by omega, by go_num, HF7.out, HT.out, HS.out, hK7.out⟩
            case measure => simp [intOf]; omega
          · have hbw' : (was' == was) = false := by simpa using hbw
            clear hbw
            go_wp2_with fail
            go_roundw
            case rel => exact ⟨k + 1, G.start, C', cur', _, by omega, by omega, by go_num, HF7.out, HT.out, HS.out, hK7.out⟩
            case measure => simp [intOf]; omega
        · go_wp2_with fail
          all_goals
            go_roundw
            case rel => exact ⟨k + 1, G.start, C', cur', _, by omega, by omega, by go_num, HF7.out, HT.out, HS.out, hK7.out⟩
            case measure => simp [intOf]; omega
    · have hkl : k = l.length := by omega
      subst hkl
      clear hT hF HWas
      go_wp2_with fail
      refine awake17.mono ?_
      rintro e w4 ⟨rfl, hk4⟩
      go_wp2_with fail
      go_ret
      exact ⟨rfl, (hK.mono (by simp [hp, hq])).trans hk4⟩

end Go.Proofs.Ythjojkkjdaoocaa
