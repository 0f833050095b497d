/-
  LawWheelTold: the walk of WheelTold.
-/
import Derived.Test.YtghgmchgbhdldaaWhX
import Derived.Test.YtghgmchgbhdldaaFreshT
import Derived.Test.YtghgmchgbhdldaaRows18
set_option linter.unusedVariables false
namespace Go.Proofs.Ytghgmchgbhdldaa
open Go.RowKit
attribute [local go_sem ↓] Go.wp_at_zero Go.wp_at_succ

/-- A row of records whose bytes may be written: n of them, in blocks from B on. -/
def RawR (w : World) (B : Nat) (a : Option Addr) (n : Nat) : Prop :=
  ∀ i, i < n → ∃ g id ax cx m, a = some ⟨g, 0, none⟩ ∧ w.cell? ⟨g, i * 2, none⟩ = some (B32 id) ∧ w.cell? ⟨g, i * 2 + 1, none⟩ = some (.slice ax m cx) ∧ m ≤ 1000 ∧ m ≤ cx ∧
    ∀ j, j < m → ∃ b o z, ax = some ⟨b, o, none⟩ ∧ B ≤ b ∧ b ≠ g ∧ w.cell? ⟨b, o + j, none⟩ = some (.int .u8 z) ∧ w.frozen? ⟨b, o + j, none⟩ = false

theorem RawR.keeps {w w' : World} {B n : Nat} {a : Option Addr} (h : RawR w B a n) (k : Keeps [] w w') : RawR w' B a n := by
  intro i hi
  obtain ⟨g, id, ax, cx, m, h1, h2, h3, h4, h5, h6⟩ := h i hi
  refine ⟨g, id, ax, cx, m, h1, k.cell h2, k.cell h3, h4, h5, fun j hj => ?_⟩
  obtain ⟨b, o, z, e1, e2, e3, e4, e5⟩ := h6 j hj
  exact ⟨b, o, z, e1, e2, e3, k.cell e4, (World.frozen?_of_block (k.block b (World.block_lt_of_cell? w _ e4) (by simp))).trans e5⟩

/-- One byte of them is written. -/
theorem RawR.put {w : World} {B n b o g0 : Nat} {a : Option Addr} (h : RawR w B a n) (ha : a = some ⟨g0, 0, none⟩) (hb : b ≠ g0) (z : Int) {u : Value} (hu : w.cell? ⟨b, o, none⟩ = some u) : RawR (w.setCell ⟨b, o, none⟩ (.int .u8 z)) B a n := by
  intro i hi
  obtain ⟨g, id, ax, cx, m, h1, h2, h3, h4, h5, h6⟩ := h i hi
  have hg : g = g0 := by rw [h1] at ha; simpa using ha
  have far : ∀ p, (⟨g, p, none⟩ : Addr) ≠ ⟨b, o, none⟩ := fun p e => hb (by simp only [Addr.mk.injEq] at e; rw [← e.1, hg])
  refine ⟨g, id, ax, cx, m, h1, (World.cell?_setCell_other w _ _ _ (fun e => far _ e.symm)).trans h2, (World.cell?_setCell_other w _ _ _ (fun e => far _ e.symm)).trans h3, h4, h5, fun j hj => ?_⟩
  obtain ⟨b', o', z', e1, e2, e3, e4, e5⟩ := h6 j hj
  by_cases hx : (⟨b', o' + j, none⟩ : Addr) = ⟨b, o, none⟩
  · refine ⟨b', o', z, e1, e2, e3, ?_, by rw [World.frozen?_setCell]; exact e5⟩
    rw [hx]
    exact World.cell?_setCell_same (h := hu) (w := w) (a := ⟨b, o, none⟩) (v := _)
  · exact ⟨b', o', z', e1, e2, e3, (World.cell?_setCell_other w _ _ _ (fun e => hx e.symm)).trans e4, by rw [World.frozen?_setCell]; exact e5⟩

theorem Recs.raw {w : World} {B n c : Nat} {a : Option Addr} {l : List Rec} (h : Recs w B (.slice a n c) l) (hl : ∀ d, d ∈ l → d.2.length ≤ 1000) : RawR w B a l.length := by
  intro i hi
  obtain ⟨d, hd⟩ : ∃ d, l[i]? = some d := ⟨l[i], by simp [hi]⟩
  obtain ⟨g, x, h1, h2, h3, h4⟩ := h.atb hd
  obtain ⟨ax, cx, rfl, hc, _, hrd, h0, hx⟩ := h4
  rw [Nat.mul_comm] at h2 h3
  refine ⟨g, d.1, ax, cx, d.2.length, h1, h2, h3, hl d (List.mem_of_getElem? hd), hc, fun j hj => ?_⟩
  obtain ⟨u, hu⟩ : ∃ u, d.2[j]? = some u := ⟨d.2[j], by simp [hj]⟩
  obtain ⟨b, o, rfl, hcell⟩ := hrd j u hu
  obtain ⟨⟨e1, e2⟩, e3, cs, e4⟩ := hx ⟨b, o, none⟩ rfl (by rintro e; rw [e] at hj; simp at hj)
  exact ⟨b, o, u.toNat, rfl, e1, e2, hcell, e4.frozen _⟩

set_option maxRecDepth 100000 in
set_option maxHeartbeats 4000000 in
theorem wheelTold_walk {w : World} (A : Option Addr) (c : Nat) (l : List C18) (hm : l.length ≤ maxLen) (hl : Calls18 w A l) :
    Calls Try.prog 6 #[.slice A l.length c] w (TrueKeep w) := by
  have hFew := few18_calls A c l hl hm
  cases hf : fewFrom18 0 l with
  | false =>
    rw [hf] at hFew
    clear hl hf
    go_enter Try.func6, Try.ntmps6
    go_wp2_with fail
    refine hFew.mono ?_
    rintro e w1 ⟨rfl, hk1⟩
    go_wp2_with fail
    refine (awake18).mono ?_
    rintro e w2 ⟨rfl, hk2⟩
    go_wp2_with fail
    go_ret
    exact ⟨rfl, hk1.trans hk2⟩
  | true =>
    obtain ⟨hlen, hall⟩ := fewFrom18_len l 0 hf (by omega)
    rw [hf] at hFew
    clear hf hm
    go_enter Try.func6, Try.ntmps6
    go_wp2_with fail
    refine hFew.mono ?_
    rintro e w1 ⟨rfl, hk1⟩
    clear hFew
    go_wp2_with fail
    refine (new_calls 9).mono ?_
    rintro e w2 ⟨p, q, rfl, hp, hq, hF, hK2⟩
    have hT := FreshIs.new (wlog_blank 1 (s := 4) (by omega) (by omega) False)
    have hop := open_log hF rfl hT.log
    have hK := hk1.trans hK2
    have hpp : w.heap.size ≤ p := Nat.le_trans hk1.size hp
    have hqq : w.heap.size ≤ q := Nat.le_trans hk1.size hq
    clear hk1 hK2 hp hq
    go_wp2_with fail
    refine hop.mono ?_
    rintro e w3 ⟨u, g, rfl, hu, hW, hk3⟩
    have hK3 := hK.trans hk3
    have huu : w.heap.size ≤ u := Nat.le_trans hK.size hu
    clear hop hF hK hk3 hu
    go_wp2_with fail
    go_loopw [6, 30] (fun o i wr => ∃ (k : Nat) (g : Option Nat) (F : Fla) (L : List Rec), o = .int .i64 L.length ∧ i = .int .i64 k ∧ k ≤ l.length ∧ L.length ≤ k ∧ WhAt wr p q u g F (logWh 1 4 (L.map some)) ∧ FreshIs F 1 4 L ∧ Keeps [] w wr) (fun _ i _ => l.length - (intOf i).toNat)
    case atStart => exact ⟨0, g, _, [], rfl, rfl, Nat.zero_le _, Nat.zero_le _, hW, hT, hK3⟩
    case round =>
      clear hW hT hK3
      obtain ⟨k, g, F, L, rfl, rfl, hk, hLk, hW, hT, hK⟩ := hrel
      by_cases hlt : k < l.length
      · obtain ⟨hok0, _⟩ := hl k l[k] (by simp [hlt])
        obtain ⟨hok, b, o, rfl, hc⟩ := (hl.below hK.belowAll (fun c h => h.below hK.belowAll)) k l[k] (by simp [hlt])
        have hdl := hall l[k] (List.getElem_mem _)
        generalize l[k] = y at *
        have c0 : wr.cell? ⟨b, o + k * 5, none⟩ = some (.int .i64 y.d) := hc 0 _ rfl
        have c1 := hc 1 _ rfl
        have c2 := hc 2 _ rfl
        have c3 := hc 3 _ rfl
        have c4 := hc 4 _ rfl
        unfold BS.val at c4
        have hki : (k : Int) < (l.length : Int) := by omega
        clear hc
        have hB := Blk.newA wr 25 #[.int .i64 y.d, .int .i64 y.n, .int .i64 y.t, B32 y.id, .slice y.s.A y.s.b.length y.s.cap]
        have hka : Keeps [] wr (wr.alloc (.cells #[.int .i64 y.d, .int .i64 y.n, .int .i64 y.t, B32 y.id, .slice y.s.A y.s.b.length y.s.cap] 25)) := (Keeps.refl [] wr).alloc _
        have hW4 := hW.keeps hka (by simp)
        have hSt := steps_calls hW4.fla
        have hcs := hK.size
        have hp1 := hW.fla.ltp
        have hq1 := hW.fla.ltq
        have hu1 := hW.ltu
        have hgap := hW.gap
        have hAd := add_calls hW4 y.id y.s.A y.s.cap y.s.b (hok.s.rd.keepsNil hka) (fun h => ⟨hok.s.nil h, hok.s.nil0 h⟩) hok.s.le (by have := hok.s.max; unfold maxLen at this; omega) (by
          intro x hx hne
          have hxl := hok0.s.rd.lt x hx hne
          refine ⟨by omega, by omega, by omega, fun hg => ?_⟩
          have := (hgap _ hg).1
          omega)
        have hK4 := hK.trans hka
        have b3 := hB.cell' (i := 3) rfl
        have b4 := hB.cell' (i := 4) rfl
        have h120 : (L.length : Int) < 120 := by omega
        have HB := Lib.hid hB
        have HK4 := Lib.hid hK4
        have HW4 := Lib.hid hW4
        have HT := Lib.hid hT
        have Hgap := Lib.hid hgap
        clear hok0 hok hka hW hgap hB hK hK4 hW4 hT
        obtain ⟨G, L5, z, ha, hz⟩ : ∃ G L5 z, (logWh 1 4 (L.map some)).add F y.id y.s.b = (G, logWh 1 4 (L5.map some), z) ∧ FreshIs G 1 4 L5 ∧ L5.length ≤ L.length + 1 ∧
            ((z = 0 ∧ y.s.b.length = 4 ∧ L5.length = L.length + 1) ∨ (z = 1 ∧ y.s.b.length ≠ 4 ∧ L5 = L ∧ G = F)) := by
          by_cases h4 : y.s.b.length = 4
          · obtain ⟨G, ha, hT5⟩ := HT.out.add (by have : places 4 = 15 := rfl; omega) y.id y.s.b h4
            exact ⟨G, _, 0, ha, hT5, by simp, .inl ⟨rfl, h4, by simp⟩⟩
          · exact ⟨F, L, 1, add_other y.id y.s.b h4, HT.out, by omega, .inr ⟨rfl, h4, rfl, rfl⟩⟩
        obtain ⟨hT5, hL5, hz⟩ := hz
        rw [ha] at hAd
        have HT5 := Lib.hid hT5
        have HL5 := Lib.hid hL5
        clear ha hT5 HT hL5
        rcases hz with ⟨rfl, h4, hn5⟩ | ⟨rfl, h4, hn5, hGF⟩
        all_goals
          have h4c : ((y.s.b.length : Int) == 4) = true ∨ ((y.s.b.length : Int) == 4) = false := by
            first
              | (right; rw [beq_eq_false_iff_ne]; omega)
              | (left; rw [h4]; rfl)
          first
            | (have h4b := h4c.resolve_left (by rw [beq_iff_eq]; omega))
            | (have h4b := h4c.resolve_right (by rw [h4]; decide))
          have Hn5 := Lib.hid hn5
          clear h4c h4 hn5
          go_wp2_with fail
          refine hSt.mono ?_
          rintro e w4 ⟨rfl, rfl⟩
          go_wp2_with fail
          refine hAd.mono ?_
          rintro e w5 ⟨rfl, g5, hW5, hg5, hk5⟩
          have hB5 := HB.out.keeps hk5 (by
            simp only [List.mem_cons, not_or]
            refine ⟨by omega, by omega, by omega, fun hm => ?_⟩
            have := (Hgap.out _ (by simpa using hm)).2
            omega)
          have b5 := hB5.cell' (i := 4) rfl
          have hK5 := HK4.out.addTo hk5 hpp hqq huu (fun y hy => (Hgap.out y hy).1)
          first
            | (have hSt5 : Calls Try.prog 28 #[.pointer (some ⟨p, 0, none⟩)] w5 (fun e w' => e = .returned (.int .i64 F.steps) ∧ w5 = w') := hGF ▸ steps_calls hW5.fla)
            | skip
          have hRc := records_calls hW5
          have hdat := hW5.dat
          dsimp only at hRc hdat hW5
          rw [logWh_some] at hRc hdat
          have HW5 := Lib.hid hW5
          have HK5 := Lib.hid hK5
          have Hdat := Lib.hid hdat
          clear hW5 hB5 hK5 hk5 hg5 hAd hSt b3 b4 hdat
          go_wp2_with fail
          first
            | (refine hSt5.mono ?_; rintro e w5' ⟨rfl, rfl⟩; go_wp2_with fail)
            | skip
          refine hRc.mono ?_
          rintro e w6 ⟨v6, rfl, hv6, hk6⟩
          obtain ⟨a6, c6, rfl, hlc6, _, _, hvo6⟩ := hv6.form
          have hraw := hv6.raw (fun d hd => by have := Hdat.out d hd; have : d.2.length = 4 := this; omega)
          have hsz6 := hk6.size
          clear hRc hv6 hvo6
          go_wp2_with fail
          go_loopw [70] (fun i wx => ∃ j : Nat, i = .int .i64 j ∧ j ≤ L5.length ∧ RawR wx w5.heap.size a6 L5.length ∧ Keeps [] w5 wx) (fun i _ => L5.length - (intOf i).toNat)
          case atStart => exact ⟨0, rfl, Nat.zero_le _, hraw, hk6⟩
          case round =>
            clear hraw
            obtain ⟨j, rfl, hj, hraw, hKx⟩ := hrel
            by_cases hjl : j < L5.length
            · obtain ⟨gr, id, ax, cx, m, rfl, r2, r3, hm1, hmc, hcell⟩ := hraw j hjl
              have hji : (j : Int) < (L5.length : Int) := by omega
              have hkr : Keeps [] wr (wr.alloc (.cells #[B32 id, .slice ax m cx] 43)) := (Keeps.refl [] wr).alloc _
              have hBr := Blk.newA wr 43 #[B32 id, .slice ax m cx]
              have hraw2 := hraw.keeps hkr
              have hK2 := hKx.trans hkr
              have hcell2 : ∀ t, t < m → ∃ b o z, ax = some ⟨b, o, none⟩ ∧ w5.heap.size ≤ b ∧ b ≠ gr ∧ b ≠ wr.heap.size ∧ (wr.alloc (.cells #[B32 id, .slice ax m cx] 43)).cell? ⟨b, o + t, none⟩ = some (.int .u8 z) ∧ (wr.alloc (.cells #[B32 id, .slice ax m cx] 43)).frozen? ⟨b, o + t, none⟩ = false := by
                intro t ht
                obtain ⟨b, o, z, e1, e2, e3, e4, e5⟩ := hcell t ht
                have hlt := World.block_lt_of_cell? wr _ e4
                exact ⟨b, o, z, e1, e2, e3, Nat.ne_of_lt hlt, hkr.cell e4, (World.frozen?_of_block (hkr.block b hlt (by simp))).trans e5⟩
              have hr50 : w5.heap.size ≤ wr.heap.size := hKx.size
              have q1 := hBr.cell' (i := 1) rfl
              clear hraw hKx hcell hkr
              go_wp2_with fail
              generalize wr.alloc (.cells #[B32 id, .slice ax m cx] 43) = wA at *
              generalize wr.heap.size = rb at *
              go_loopw [77] (fun i wz => ∃ t : Nat, i = .int .i64 t ∧ t ≤ m ∧ RawR wz w5.heap.size (some ⟨gr, 0, none⟩) L5.length ∧ Blk wz rb 43 [B32 id, .slice ax m cx] ∧ Keeps [] w5 wz ∧
                ∀ t, t < m → ∃ b o z, ax = some ⟨b, o, none⟩ ∧ w5.heap.size ≤ b ∧ b ≠ gr ∧ b ≠ rb ∧ wz.cell? ⟨b, o + t, none⟩ = some (.int .u8 z) ∧ wz.frozen? ⟨b, o + t, none⟩ = false) (fun i _ => m - (intOf i).toNat)
              case atStart => exact ⟨0, rfl, Nat.zero_le _, hraw2, hBr, hK2, hcell2⟩
              case round =>
                clear hraw2 hBr hK2 hcell2 q1
                obtain ⟨t, rfl, ht, hraw, hBr, hKz, hcell⟩ := hrel
                have q1 := hBr.cell' (i := 1) rfl
                by_cases htm : t < m
                · obtain ⟨b, o, z, rfl, e2, e3, e4, e5, e6⟩ := hcell t htm
                  have hti : (t : Int) < (m : Int) := by omega
                  go_wp2_with fail
                  refine ⟨⟨t + 1, by go_num, by omega, hraw.put rfl e3 _ e5, hBr.setOther _ e4.symm, hKz.setCell (.inr e2) _, fun t2 ht2 => ?_⟩, by simp [intOf]; omega⟩
                  obtain ⟨b', o', z', f1, f2, f3, f4, f5, f6⟩ := hcell t2 ht2
                  simp only [Option.some.injEq, Addr.mk.injEq] at f1
                  obtain ⟨rfl, rfl, _⟩ := f1
                  by_cases htt : t2 = t
                  · subst htt
                    exact ⟨b, o, _, rfl, f2, f3, f4, World.cell?_setCell_same (h := f5) (w := wr) (a := ⟨b, o + t2, none⟩) (v := _), by rw [World.frozen?_setCell]; exact f6⟩
                  · exact ⟨b, o, z', rfl, f2, f3, f4, (World.cell?_setCell_other wr _ _ _ (fun e => htt (by simp only [Addr.mk.injEq] at e; omega))).trans f5, by rw [World.frozen?_setCell]; exact f6⟩
                · obtain rfl : t = m := by omega
                  go_wp2_with fail
                  go_roundw
                  case rel => exact ⟨j + 1, by go_num, by omega, hraw, hKz⟩
                  case measure => simp [intOf]; omega
            · obtain rfl : j = L5.length := by omega
              clear hraw
              have hLL := HL5.out
              go_wp2_with fail
              go_roundw
              case rel => exact ⟨k + 1, g5, G, L5, by first | (rw [Hn5.out]; done) | (rw [Hn5.out]; go_num), by go_num, by omega, by omega, HW5.out.keeps hKx (by simp), HT5.out, HK5.out.trans hKx⟩
              case measure => simp [intOf]; omega
      · obtain rfl : k = l.length := by omega
        have hop := open_log hW.fla hT.good.down hT.log
        have hgd := hT.good.down
        have hLlen : L.length ≤ 1000000 := by omega
        clear hT hl hall
        go_wp2_with fail
        refine hop.mono ?_
        rintro e w4 ⟨u2, g2, rfl, hu2, hX, hk4⟩
        have hW4 := hW.keeps hk4 (by simp)
        have hRc := records_calls hW4
        rw [logWh_some] at hRc
        clear hop hW hu2
        go_wp2_with fail
        refine hRc.mono ?_
        rintro e w5 ⟨v5, rfl, hv5, hk5⟩
        have hX5 := hX.keeps hk5 (by simp)
        have hRc2 := records_calls hX5
        rw [logWh_some] at hRc2
        clear hRc hX hW4
        go_wp2_with fail
        refine hRc2.mono ?_
        rintro e w6 ⟨v6, rfl, hv6, hk6⟩
        have hSm := same_calls (hv5.r.keeps hk6) hv6.r hLlen
        rw [decide_eq_true rfl] at hSm
        have hX6 := hX5.keeps hk6 (by simp)
        clear hRc2 hv5 hv6 hX5
        go_wp2_with fail
        refine hSm.mono ?_
        rintro e w7 ⟨rfl, hk7⟩
        have hRc3 := records_calls (hX6.keeps hk7 (by simp))
        rw [logWh_some] at hRc3
        clear hSm hX6
        go_wp2_with fail
        refine hRc3.mono ?_
        rintro e w8 ⟨v8, rfl, hv8, hk8⟩
        obtain ⟨a8, c8, rfl, _⟩ := hv8.form
        clear hRc3 hv8
        go_wp2_with fail
        refine (awake18).mono ?_
        rintro e w9 ⟨rfl, hk9⟩
        go_wp2_with fail
        go_ret
        exact ⟨rfl, hK.trans (hk4.trans (hk5.trans (hk6.trans (hk7.trans (hk8.trans hk9)))))⟩

end Go.Proofs.Ytghgmchgbhdldaa
