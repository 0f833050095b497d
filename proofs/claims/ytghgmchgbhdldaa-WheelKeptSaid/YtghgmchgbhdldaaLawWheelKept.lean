/-
  LawWheelKept: the walk of WheelKept.
-/
import Derived.Test.YtghgmchgbhdldaaLaw18
import Derived.Test.YtghgmchgbhdldaaKeptT
import Derived.Test.YtghgmchgbhdldaaRows18
import Derived.Test.YtghgmchgbhdldaaWhX
import Derived.Deep.DeepCutAuto
import Derived.Deep.CutBlock
import Derived.Deep.RegionHeld3
set_option linter.unusedVariables false
namespace Go.Proofs.Ytghgmchgbhdldaa
open Go.RowKit
attribute [local go_sem ↓] Go.wp_at_zero Go.wp_at_succ

theorem KeptIs.len {F : Fla} {s : Nat} {L : List (Option Rec)} {k : Nat} (h : KeptIs F s L k) : (L.filterMap id).length ≤ 144 := by
  have h1 := h.log.le
  have h2 := (places_bounds h.log.s1 h.log.s16).2
  have h3 : (L.filterMap id).length ≤ L.length := List.length_filterMap_le _ _
  omega

set_option maxRecDepth 100000 in
set_option maxHeartbeats 4000000 in
theorem wheelKept_walk {w : World} (x : Int) (hx : (Lit.int .i64 x).wf = true) (A : Option Addr) (c : Nat) (l : List C18) (hm : l.length ≤ maxLen) (hl : Calls18 w A l) :
    Calls Try.prog 7 #[.int .i64 x, .slice A l.length c] w (TrueKeep w) := by
  clear hx
  obtain ⟨n, hn, hu1, hu2⟩ := umod x 16 (by omega) (by omega)
  have hFew := few18_calls A c l hl hm
  cases hf : fewFrom18 0 l with
  | false =>
    rw [hf] at hFew
    clear hl hf
    go_enter Try.func7, Try.ntmps7
    go_wp2_with fail
    refine hFew.mono ?_
    rintro e w1 ⟨rfl, hk1⟩
    go_wp2_with fail
    refine (awake18).mono ?_
    rintro e w2 ⟨rfl, hk2⟩
    go_wp2_with fail
    go_ret
    exact ⟨rfl, hk1.trans hk2⟩
  | true =>
    obtain ⟨hlen, hall⟩ := fewFrom18_len l 0 hf (by omega)
    rw [hf] at hFew
    clear hf hm
    go_enter Try.func7, Try.ntmps7
    go_wp2_with fail
    refine hFew.mono ?_
    rintro e w1 ⟨rfl, hk1⟩
    clear hFew
    have hs1 : 1 ≤ n + 1 := by omega
    have hs16 : n + 1 ≤ 16 := by omega
    go_wp2_with fail
    have e1 : (1 : Int) + (n : Int) = ((n + 1 : Nat) : Int) := by omega
    rw [e1]
    clear e1 hu1 hu2 hn
    generalize n + 1 = s at *
    refine (new_calls 100).mono ?_
    rintro e w2 ⟨p, q, rfl, hp, hq, hF, hK2⟩
    have hT := KeptIs.new (wlog_blank 5 hs1 hs16 True)
    have hop := open_log hF rfl hT.log
    have hK := hk1.trans hK2
    have hpp : w.heap.size ≤ p := Nat.le_trans hk1.size hp
    have hqq : w.heap.size ≤ q := Nat.le_trans hk1.size hq
    clear hk1 hK2 hp hq
    go_wp2_with fail
    refine hop.mono ?_
    rintro e w3 ⟨u, g, rfl, hu, hW, hk3⟩
    have hK3 := hK.trans hk3
    have huu : w.heap.size ≤ u := Nat.le_trans hK.size hu
    clear hop hF hK hk3 hu
    go_wp2_with fail
    go_loopw [8, 6, 36] (fun o wh i wr => ∃ (k u : Nat) (g : Option Nat) (F : Fla) (L : List (Option Rec)), i = .int .i64 k ∧ k ≤ l.length ∧ wh = .pointer (some ⟨u, 0, none⟩) ∧ WhAt wr p q u g F (logWh 5 s L) ∧ KeptIs F s L k ∧ RecsN wr (Beside w.heap.size p q u g) o (L.filterMap id) ∧ Keeps [] w wr ∧ w.heap.size ≤ u) (fun _ _ i _ => l.length - (intOf i).toNat)
    case atStart => exact ⟨0, u, g, _, [], rfl, Nat.zero_le _, rfl, hW, hT, RecsN.nil _ _, hK3, huu⟩
    case round =>
      clear hW hT hK3 huu
      obtain ⟨k, u, g, F, L, rfl, hk, rfl, hW, hT, hO, hK, huu⟩ := hrel
      by_cases hlt : k < l.length
      · obtain ⟨hok, b, o, rfl, hc⟩ := (hl.below hK.belowAll (fun c h => h.below hK.belowAll)) k l[k] (by simp [hlt])
        have hdl := hall l[k] (List.getElem_mem _)
        generalize l[k] = y at *
        have c0 : wr.cell? ⟨b, o + k * 5, none⟩ = some (.int .i64 y.d) := hc 0 _ rfl
        have c1 := hc 1 _ rfl
        have c2 := hc 2 _ rfl
        have c3 := hc 3 _ rfl
        have c4 := hc 4 _ rfl
        unfold BS.val at c4
        have hki : (k : Int) < (l.length : Int) := by omega
        clear hc
        have hB := Blk.newA wr 25 #[.int .i64 y.d, .int .i64 y.n, .int .i64 y.t, B32 y.id, .slice y.s.A y.s.b.length y.s.cap]
        have b3 := hB.drew.cell' (i := 3) rfl
        have b4 := hB.drew.cell' (i := 4) rfl
        have hcs := hK.size
        have hok' := hok.s
        have hrd : Rd (wr.alloc (.cells #[.int .i64 y.d, .int .i64 y.n, .int .i64 y.t, B32 y.id, .slice y.s.A y.s.b.length y.s.cap] 25)) y.s.A y.s.b := hok'.rd.keepsNil ((Keeps.refl [] wr).alloc _)
        go_upto_region 12 with (fail)
        go_cut [11] (fun s11 wx => ∃ rb, s11 = .pointer (some ⟨rb, 0, none⟩) ∧ RecVar wx wr.heap.size rb y.id ((y.s.b ++ List.replicate s 0).take s) ∧ Keeps [] (wr.alloc (.cells #[.int .i64 y.d, .int .i64 y.n, .int .i64 y.t, B32 y.id, .slice y.s.A y.s.b.length y.s.cap] 25)) wx)
        case first =>
          have hs4 := Lib.hid (show (wr.alloc (.cells #[.int .i64 y.d, .int .i64 y.n, .int .i64 y.t, B32 y.id, .slice y.s.A y.s.b.length y.s.cap] 25)).heap.size = wr.heap.size + 1 by simp)
          generalize wr.alloc (.cells #[.int .i64 y.d, .int .i64 y.n, .int .i64 y.t, B32 y.id, .slice y.s.A y.s.b.length y.s.cap] 25) = w4 at *
          have d3 : w4.cell? ⟨wr.heap.size, 3, none⟩ = some (B32 y.id) := b3
          have d4 : w4.cell? ⟨wr.heap.size, 4, none⟩ = some (.slice y.s.A y.s.b.length y.s.cap) := b4
          have K0 : Keeps [] w4 (w4.alloc (.cells #[.int .u32 0, .slice none 0 0] 43)).drew := ((Keeps.refl [] w4).alloc _).drew
          have K1 : Keeps [] w4 (w4.alloc (.cells #[] 5)).drew := ((Keeps.refl [] w4).alloc _).drew
          have K2 : Keeps [] w4 ((w4.alloc (.cells #[] 5)).alloc (.cells #[.int .u32 0, .slice none 0 0] 43)).drew := (((Keeps.refl [] w4).alloc _).alloc _).drew
          have K3 : Keeps [] w4 ((w4.alloc (.cells #[.int .u32 0, .slice none 0 0] 43)).alloc (.cells #[] 5)).drew := (((Keeps.refl [] w4).alloc _).alloc _).drew
          have O1 := Lib.hid ((Own.lit w4 #[] [] 0 rfl rfl (by omega)).keeps ((Keeps.refl [] _).drew) (by simp))
          have O2 := Lib.hid ((Own.lit w4 #[] [] 0 rfl rfl (by omega)).keeps (((Keeps.refl [] _).alloc (.cells #[.int .u32 0, .slice none 0 0] 43)).drew) (by simp))
          have O3' := ((Own.lit (w4.alloc (.cells #[.int .u32 0, .slice none 0 0] 43)) #[] [] 0 rfl rfl (by omega)).keeps ((Keeps.refl [] _).drew) (by simp)).weaken (B' := w4.heap.size) (by simp)
          rw [World.size_alloc] at O3'
          have O3 := Lib.hid O3'
          have RA2 : RAt ((w4.alloc (.cells #[] 5)).alloc (.cells #[.int .u32 0, .slice none 0 0] 43)).drew (.slice (some ⟨w4.heap.size, 0, none⟩) 0 0) w4.heap.size (w4.heap.size + 1) :=
            ⟨by have := Blk.newA (w4.alloc (.cells #[] 5)) 43 #[.int .u32 0, .slice none 0 0]; rw [World.size_alloc] at this; exact this, by intro x hx; simp [Value.ownBlock] at hx; omega, by omega⟩
          have RA3 : RAt ((w4.alloc (.cells #[.int .u32 0, .slice none 0 0] 43)).alloc (.cells #[] 5)).drew (.slice (some ⟨w4.heap.size + 1, 0, none⟩) 0 0) w4.heap.size w4.heap.size :=
            ⟨(Blk.newA w4 43 #[.int .u32 0, .slice none 0 0]).keeps (((Keeps.refl [] _).alloc _).drew) (by simp), by intro x hx; simp [Value.ownBlock] at hx; omega, by omega⟩
          have HRA2 := Lib.hid RA2
          have HRA3 := Lib.hid RA3
          have HK1 := Lib.hid K1
          have HK2 := Lib.hid K2
          have HK3 := Lib.hid K3
          have Hrd1 := Lib.hid (hrd.keepsNil K1)
          have Hrd2 := Lib.hid (hrd.keepsNil K2)
          have Hrd3 := Lib.hid (hrd.keepsNil K3)
          have Hn0 := Lib.hid (show y.s.A = none → y.s.b.length = 0 ∧ y.s.cap = 0 from fun h => ⟨by rw [hok'.nil h]; rfl, hok'.nil0 h⟩)
          have Hln := Lib.hid (show ([] : List UInt8).length + y.s.b.length ≤ 140737488351232 by simp; omega)
          have Hl2 := Lib.hid (show y.s.b.length + s ≤ 1000000 by omega)
          have Hr1 := Lib.hid (show ∀ k, Value.ownBlock (.slice (some ⟨w4.heap.size, 0, none⟩) 0 0) = some k → k ∈ ([] : List Nat) ∨ w4.heap.size ≤ k from fun k hk => by simp [Value.ownBlock] at hk; omega)
          have Hr3 := Lib.hid (show ∀ k, Value.ownBlock (.slice (some ⟨w4.heap.size + 1, 0, none⟩) 0 0) = some k → k ∈ ([] : List Nat) ∨ w4.heap.size ≤ k from fun k hk => by simp [Value.ownBlock] at hk; omega)
          have Hne := Lib.hid (show y.s.b ++ List.replicate s (0 : UInt8) ≠ [] from fun h => by have := congrArg List.length h; simp at this; omega)
          have Hlw := Lib.hid (show (y.s.b ++ List.replicate s (0 : UInt8)).length = y.s.b.length + s by simp)
          have Hs4 := Lib.hid (show wr.heap.size < w4.heap.size by have := hs4.out; omega)
          have z3 := K0.cell d3
          have z4 := K0.cell d4
          have e13 := K1.cell d3
          have e14 := K1.cell d4
          have e23 := K2.cell d3
          have e24 := K2.cell d4
          have e33 := K3.cell d3
          have e34 := K3.cell d4
          clear O3' RA2 RA3 K0 K1 K2 K3 hrd hO hT hW hok hok' hB
          generalize hYY : y.s.b ++ List.replicate s (0 : UInt8) = YY at *
          have HYY := Lib.hid hYY
          clear hYY
          go_region_held3 (fun w' => w'.cell? ⟨wr.heap.size, 3, none⟩ = some (B32 y.id) ∧ w'.cell? ⟨wr.heap.size, 4, none⟩ = some (.slice y.s.A y.s.b.length y.s.cap))
            (first | exact ⟨b3, b4⟩ | exact ⟨z3, z4⟩ | exact ⟨e13, e14⟩ | exact ⟨e23, e24⟩ | exact ⟨e33, e34⟩ | exact ⟨m3, m4⟩ | exact ⟨mm3, mm4⟩ | exact ⟨n3, n4⟩ | exact ⟨nn3 _, nn4 _⟩ | exact ⟨ns3 _ _, ns4 _ _⟩)
            (first
              | (refine step_append_bytes rfl (.tmp 42) (.tmp 44) rfl O1.out rfl y.s.A y.s.b.length y.s.cap rfl Hrd1.out rfl Hn0.out Hln.out HK1.out.size ?_; intro v5 w5 hO5 hG5 hB5; rw [List.nil_append] at hO5; have hk5 := HK1.out.grown hG5 Hr1.out; have m3 := hk5.cell d3; have m4 := hk5.cell d4; have mm3 := (Keeps.alloc (Keeps.refl [] w5) (.cells #[.int .u32 0, .slice none 0 0] 43)).cell m3; have mm4 := (Keeps.alloc (Keeps.refl [] w5) (.cells #[.int .u32 0, .slice none 0 0] 43)).cell m4; have hkk5 := Lib.hid (hk5.alloc (.cells #[.int .u32 0, .slice none 0 0] 43)); have hOO5 := Lib.hid (hO5.keeps (Keeps.alloc (Keeps.refl [] w5) (.cells #[.int .u32 0, .slice none 0 0] 43)) (by simp)); have hRR5 := Lib.hid (RAt.new (m := w4.heap.size) hO5 hk5.size))
              | (refine step_append_bytes rfl (.tmp 42) (.tmp 44) rfl O2.out rfl y.s.A y.s.b.length y.s.cap rfl Hrd2.out rfl Hn0.out Hln.out HK2.out.size ?_; intro v5 w5 hO5 hG5 hB5; rw [List.nil_append] at hO5; have hk5 := HK2.out.grown hG5 Hr1.out; have m3 := hk5.cell d3; have m4 := hk5.cell d4; have hR5 := HRA2.out.grow hG5 hB5)
              | (refine step_append_bytes rfl (.tmp 42) (.tmp 44) rfl O3.out rfl y.s.A y.s.b.length y.s.cap rfl Hrd3.out rfl Hn0.out Hln.out HK3.out.size ?_; intro v5 w5 hO5 hG5 hB5; rw [List.nil_append] at hO5; have hk5 := HK3.out.grown hG5 Hr3.out; have m3 := hk5.cell d3; have m4 := hk5.cell d4; have hR5 := HRA3.out.grow hG5 hB5)
              | (refine step_append_zeros rfl (.tmp 45) (.tmp 46) rfl hO5 rfl s rfl hs1 Hl2.out hk5.size ?_; intro v6 w6 hO6 hG6 hB6; have hR6 := hR5.grow hG6 hB6; rw [HYY.out] at hO6; have hk6 := hk5.grown hG6 (fun k hk => Or.inr (hO5.ge k hk)); obtain ⟨g6, c6, r6, rfl, hl6, hc6, hge6, hlt6, hb6⟩ := hO6.rowc Hne.out; have n3 := hk6.cell d3; have n4 := hk6.cell d4; have i1 : (s : Int) ≤ (c6 : Int) := (by have := Hlw.out; omega); have q0 := hR6.blk.cell' (i := 0) rfl; have q1 := hR6.blk.cell' (i := 1) rfl; have fq0 := hR6.blk.frozen 0; have fq1 := hR6.blk.frozen 1; have hltr := hR6.blk.lt; have ns3 := fun x y => hR6.two x y n3 Hs4.out; have ns4 := fun x y => hR6.two x y n4 Hs4.out)
              | (refine step_append_zeros rfl (.tmp 45) (.tmp 46) rfl hOO5.out rfl s rfl hs1 Hl2.out hkk5.out.size ?_; intro v6 w6 hO6 hG6 hB6; have hR6 := hRR5.out.grow hG6 hB6; rw [HYY.out] at hO6; have hk6 := hkk5.out.grown hG6 (fun k hk => Or.inr (hO5.ge k hk)); obtain ⟨g6, c6, r6, rfl, hl6, hc6, hge6, hlt6, hb6⟩ := hO6.rowc Hne.out; have n3 := hk6.cell d3; have n4 := hk6.cell d4; have i1 : (s : Int) ≤ (c6 : Int) := (by have := Hlw.out; omega); have q0 := hR6.blk.cell' (i := 0) rfl; have q1 := hR6.blk.cell' (i := 1) rfl; have fq0 := hR6.blk.frozen 0; have fq1 := hR6.blk.frozen 1; have hltr := hR6.blk.lt; have ns3 := fun x y => hR6.two x y n3 Hs4.out; have ns4 := fun x y => hR6.two x y n4 Hs4.out)
              | (refine step_append_zeros rfl (.tmp 45) (.tmp 46) rfl hO5 rfl s rfl hs1 Hl2.out hk5.size ?_; intro v6 w6 hO6 hG6 hB6; rw [HYY.out] at hO6; have hk6 := hk5.grown hG6 (fun k hk => Or.inr (hO5.ge k hk)); obtain ⟨g6, c6, r6, rfl, hl6, hc6, hge6, hlt6, hb6⟩ := hO6.rowc Hne.out; have n3 := hk6.cell d3; have n4 := hk6.cell d4; have i1 : (s : Int) ≤ (c6 : Int) := (by have := Hlw.out; omega); have nn3 := fun o => (Keeps.alloc (Keeps.refl [] w6) o).cell n3; have nn4 := fun o => (Keeps.alloc (Keeps.refl [] w6) o).cell n4))
          all_goals
            have hlY := Hlw.out
            have hs4' := hs4.out
            go_wp2_with fail
            go_meet
            first
              | exact ⟨_, rfl, hR6.var hb6 (by omega) hl6 hc6 hge6 (by omega) y.id, (hk6.setCell (.inr hR6.ge) _).setCell (.inr hR6.ge) _⟩
              | exact ⟨_, rfl, RecVar.new hb6 (by omega) hl6 hc6 (by omega) y.id, hk6.alloc _⟩
        case rest =>
          obtain ⟨rb, rfl, hV, hkc⟩ := hcut
          obtain ⟨dg, dc, hRb, hrdD, hdl, hdm, hrbge, hdgge, hdglt, hdb⟩ := hV
          have hDl : ((y.s.b ++ List.replicate s 0).take s).length = s := by rw [List.length_take]; simp
          generalize (y.s.b ++ List.replicate s (0 : UInt8)).take s = D at *
          have hkw : Keeps [] wr wc := ((Keeps.refl [] wr).alloc _).trans hkc
          have hBc := hB.keeps hkc (by simp)
          have c0 := hBc.cell' (i := 0) rfl
          have c1 := hBc.cell' (i := 1) rfl
          have c2 := hBc.cell' (i := 2) rfl
          have hp1 := hW.fla.ltp
          have hq1 := hW.fla.ltq
          have hu1 := hW.ltu
          have hgap1 := hW.gap
          have hWc := hW.keeps hkw (by simp)
          have hOf := hO.recs.form
          have hOc := hO.keeps (N' := Beside w.heap.size p q u g) hkw (by simp) (fun _ h _ => h)
          have hKc := hK.trans hkw
          have hdg : Beside w.heap.size p q u g dg := ⟨by omega, by omega, by omega, by omega, fun hg => by have := (hgap1 _ hg).2; omega⟩
          have hdo : u8.ownBlock ≠ some dg := fun hd => by
            obtain ⟨_, _, _, _, _, _, hb⟩ := hOf
            have := (hb _ hd).2
            omega
          obtain ⟨mN, hmN, hv1, hv2⟩ := umod y.n 60 (by omega) (by omega)
          clear hB hrd b3 b4 c3 c4 hO hW hK hok hcs hok' hkc hBc hOf
          go_upto_if 53 with (fail)
          go_cut [] (fun wx => ∃ F', WhAt wx p q u g F' (logWh 5 s L) ∧ KeptIs F' s L k ∧ Keeps [p, q] wc wx)
          case first =>
            by_cases hd0 : y.d = 0
            · have hC := fuse_calls hWc.fla mN y.t
              go_wp2_with fail
              refine hC.mono ?_
              rintro e w5 ⟨rfl, hF5, hk5⟩
              go_wp2_with fail
              go_meet
              exact ⟨_, hWc.flash hk5 hF5, hT.fuse (by omega) (by omega), hk5⟩
            · have hdb : (y.d == 0) = false := by simpa using hd0
              go_wp2_with fail
              go_meet
              exact ⟨F, hWc, hT, Keeps.refl _ _⟩
          case rest =>
            clear hT hWc
            obtain ⟨F', hW5, hT5, hk5⟩ := hcut
            have hrbB : Beside w.heap.size p q u g rb := ⟨by omega, by omega, by omega, by omega, fun hg => by have := (hgap1 _ hg).2; omega⟩
            have hpq5 : ∀ x, x ∈ [p, q] → ¬ Beside w.heap.size p q u g x := fun x hx => beside_not x (by simp at hx ⊢; omega)
            have hO5 := hOc.keeps (N' := Beside w.heap.size p q u g) hk5 hpq5 (fun _ h _ => h)
            have hRb5 := hRb.keeps hk5 (by simp; omega)
            have hrd5 := hrdD.keeps hk5 (fun x hx _ => by simp only [Option.some.injEq] at hx; subst hx; simp; omega)
            have hdb5 : ∃ cs, Blk wc dg 5 cs := by obtain ⟨cs, h⟩ := hdb; exact ⟨cs, h.keeps hk5 (by simp; omega)⟩
            have hK5 := hKc.trans' (T := []) hk5 (by simp) (fun x hx => .inr (by simp at hx; omega))
            have hdglt5 : dg < wc.heap.size := Nat.lt_of_lt_of_le hdglt hk5.size
            obtain ⟨G, V, ez, ha, hout⟩ := hT5.add (by omega) y.id D hDl
            have hAd := add_calls hW5 y.id (some ⟨dg, 0, none⟩) dc D hrd5 (by simp) hdl hdm (by
              intro x hx _
              simp only [Option.some.injEq] at hx
              subst hx
              exact ⟨hdg.2.1, hdg.2.2.1, hdg.2.2.2.1, hdg.2.2.2.2⟩)
            rw [ha] at hAd
            have hRl := hT5.len
            have HT5 := Lib.hid hT5.mono
            have r0 := hRb5.cell' (i := 0) rfl
            have r1 := hRb5.cell' (i := 1) rfl
            have Hgap := Lib.hid hW5.gap
            have HdgB := Lib.hid hdg
            have HrbB := Lib.hid hrbB
            have HO5 := Lib.hid hO5
            have Hrd5 := Lib.hid hrd5
            have HRb5 := Lib.hid hRb5
            have Hdb5 := Lib.hid hdb5
            have Hdo := Lib.hid hdo
            have HK5 := Lib.hid hK5
            have HW5 := Lib.hid hW5
            have HDl := Lib.hid hDl
            clear hDl hgap1 hdg hdo hrbB hdb5 hrd5 hRb5 hO5 hW5 hT5 hK5 hOc hKc hRb hrdD hdb hpq5 hk5 ha hkw hdglt c0 c1 c2
            rcases hout with ⟨rfl, rfl, hT6⟩ | ⟨rfl, hLl, rfl, rfl⟩ | ⟨rfl, L', hT6, hR6⟩
            · go_wp2_with fail
              refine hAd.mono ?_
              rintro e w6 ⟨rfl, g6, hW6, hg6, hk6⟩
              have hNN : ∀ x, Beside w.heap.size p q u g x → x < wc.heap.size → Beside w.heap.size p q u g6 x := fun x hk hlt => ⟨hk.1, hk.2.1, hk.2.2.1, hk.2.2.2.1, fun hg => by
                rcases hg6 with rfl | ⟨y', rfl, hy⟩
                · exact hk.2.2.2.2 hg
                · simp only [Option.some.injEq] at hg; omega⟩
              have hO6 := HO5.out.keeps (N' := Beside w.heap.size p q u g6) hk6 beside_not hNN
              have hRb6 := HRb5.out.keeps hk6 (fun hm => beside_not _ hm HrbB.out)
              have hrd6 := Hrd5.out.keeps hk6 (fun x hx _ hm => by simp only [Option.some.injEq] at hx; subst hx; exact beside_not _ hm HdgB.out)
              have hdb6 : ∃ cs, Blk w6 dg 5 cs := by obtain ⟨cs, h⟩ := Hdb5.out; exact ⟨cs, h.keeps hk6 (fun hm => beside_not _ hm HdgB.out)⟩
              have hK6 := HK5.out.addTo hk6 hpp hqq huu (fun y hy => (Hgap.out y hy).1)
              obtain ⟨N1, N2, N3, N4⟩ := want_next hO6 hW6 hK6.size y.id hrd6 hdl hdm (hNN _ HdgB.out hdglt5) Hdo.out (Nat.lt_of_lt_of_le hdglt5 hk6.size) hdb6
              have r60 := hRb6.cell' (i := 0) rfl
              have r61 := hRb6.cell' (i := 1) rfl
              have HN1 := Lib.hid N1
              have HN2 := Lib.hid N2
              have HN3 := Lib.hid N3
              have HN4 := Lib.hid N4
              have Hlen := Lib.hid (show (L.filterMap id).length ≤ 100000 by omega)
              have HW6 := Lib.hid hW6
              have HK6 := Lib.hid hK6
              have HT6 := Lib.hid hT6
              have Hg6s := Lib.hid (fun x => (show Beside w.heap.size p q u g6 x → w.heap.size ≤ x from fun h => h.1))
              clear N1 N2 N3 N4 hO6 hRb6 hrd6 hdb6 hK6 hW6 hg6 hk6 hAd hNN hT6
              go_wp2_with (at_builtin; (refine wpList_append_recN rfl _ _ rfl (fun _ => Beside w.heap.size p q u g6) HN1.out rfl _ 1 rfl y.id _ D HN2.out HN3.out Hlen.out (fun _ _ _ h _ _ => h) (fun _ g' _ _ _ h => HN4.out g' h) ?_); intro g7 cap7 w7 hR7 hG7 hg7 hl7)
              have hRR : (L ++ [some (y.id, D)]).filterMap id = L.filterMap id ++ [(y.id, D)] := by simp
              refine ⟨⟨k + 1, u, g6, G, L ++ [some (y.id, D)], by go_num, by omega, rfl, (HW6.out.keeps ((Keeps.refl [] w6).alloc _) (by simp)).row HN1.out hG7, HT6.out, by rw [hRR]; exact hR7, (HK6.out.alloc _).grown hG7 (fun x hx => .inr ?_), huu⟩, by simp [intOf]; omega⟩
              obtain ⟨_, _, _, h4, _⟩ := HN1.out
              exact (h4 x hx).1
            · have hroom : (logWh 5 s L).room = 0 := by rw [room_log, hLl]; omega
              go_wp2_with fail
              refine hAd.mono ?_
              rintro e w6 ⟨rfl, g6, hW6, hg6, hk6⟩
              have hNN : ∀ x, Beside w.heap.size p q u g x → x < wc.heap.size → Beside w.heap.size p q u g6 x := fun x hk hlt => ⟨hk.1, hk.2.1, hk.2.2.1, hk.2.2.2.1, fun hg => by
                rcases hg6 with rfl | ⟨y', rfl, hy⟩
                · exact hk.2.2.2.2 hg
                · simp only [Option.some.injEq] at hg; omega⟩
              have hO6 := HO5.out.keeps (N' := Beside w.heap.size p q u g6) hk6 beside_not hNN
              have hK6 := HK5.out.addTo hk6 hpp hqq huu (fun y hy => (Hgap.out y hy).1)
              have hRm := room_calls hW6
              dsimp only at hRm
              rw [hroom] at hRm
              have HO6 := Lib.hid hO6
              have HK6 := Lib.hid hK6
              have HW6 := Lib.hid hW6
              clear hO6 hK6 hW6 hNN hg6 hk6 hAd hroom
              go_wp2_with fail
              refine hRm.mono ?_
              rintro e w7 ⟨rfl, n7, hw7⟩
              have hk7 : Keeps [] w6 w7 := hw7 ▸ (Keeps.refl [] w6).drewN n7
              clear hw7 hRm
              go_wp2_with fail
              go_roundw
              case rel => exact ⟨k + 1, u, g6, _, L, by go_num, by omega, rfl, HW6.out.keeps hk7 (by simp), HT5.out, HO6.out.keeps hk7 (by simp) (fun _ h _ => h), HK6.out.trans hk7, huu⟩
              case measure => simp [intOf]; omega
            · go_wp2_with fail
              refine hAd.mono ?_
              rintro e w6 ⟨rfl, g6, hW6, hg6, hk6⟩
              have hNN : ∀ x, Beside w.heap.size p q u g x → x < wc.heap.size → Beside w.heap.size p q u g6 x := fun x hk hlt => ⟨hk.1, hk.2.1, hk.2.2.1, hk.2.2.2.1, fun hg => by
                rcases hg6 with rfl | ⟨y', rfl, hy⟩
                · exact hk.2.2.2.2 hg
                · simp only [Option.some.injEq] at hg; omega⟩
              have hO6 := HO5.out.keeps (N' := Beside w.heap.size p q u g6) hk6 beside_not hNN
              have hRb6 := HRb5.out.keeps hk6 (fun hm => beside_not _ hm HrbB.out)
              have hrd6 := Hrd5.out.keeps hk6 (fun x hx _ hm => by simp only [Option.some.injEq] at hx; subst hx; exact beside_not _ hm HdgB.out)
              have hdb6 : ∃ cs, Blk w6 dg 5 cs := by obtain ⟨cs, h⟩ := Hdb5.out; exact ⟨cs, h.keeps hk6 (fun hm => beside_not _ hm HdgB.out)⟩
              have hK6 := HK5.out.addTo hk6 hpp hqq huu (fun y hy => (Hgap.out y hy).1)
              have hdglt6 : dg < w6.heap.size := Nat.lt_of_lt_of_le hdglt5 hk6.size
              have hSt := start_calls hW6.fla
              dsimp only at hSt
              clear hg6 hk6 hAd hNN hW6
              go_wp2_with fail
              refine hSt.mono ?_
              rintro e w7 ⟨rfl, hF7, hk7⟩
              have hpq7 : ∀ x, x ∈ [p, q] → ¬ Beside w.heap.size p q u g6 x := fun x hx => beside_not x (by simp at hx ⊢; omega)
              have hO7 := hO6.keeps (N' := Beside w.heap.size p q u g6) hk7 hpq7 (fun _ h _ => h)
              have hb1 := HrbB.out
              have hb2 := HdgB.out
              have hRb7 := hRb6.keeps hk7 (by have := hb1.2.1; have := hb1.2.2.1; simp; omega)
              have hrd7 := hrd6.keeps hk7 (fun x hx _ => by simp only [Option.some.injEq] at hx; subst hx; have := hb2.2.1; have := hb2.2.2.1; simp; omega)
              have hdb7 : ∃ cs, Blk w7 dg 5 cs := by obtain ⟨cs, h⟩ := hdb6; exact ⟨cs, h.keeps hk7 (by have := hb2.2.1; have := hb2.2.2.1; simp; omega)⟩
              have hK7 := hK6.trans' (T := []) hk7 (by simp) (fun x hx => .inr (by simp at hx; omega))
              have hdglt7 : dg < w7.heap.size := Nat.lt_of_lt_of_le hdglt6 hk7.size
              have hop := open_log hF7 hT6.good.down hT6.log
              clear hO6 hRb6 hrd6 hdb6 hK6 hpq7 hSt hb1 hb2 hk7
              go_wp2_with fail
              refine hop.mono ?_
              rintro e w8 ⟨u1, g1, rfl, hu1, hW8, hk8⟩
              have hop2 := open_log hW8.fla hT6.good.down hT6.log
              clear hop hF7
              go_wp2_with fail
              refine hop2.mono ?_
              rintro e w9 ⟨u2, g2, rfl, hu2, hX9, hk9⟩
              have hk79 := hk8.trans hk9
              have hW9 := hW8.keeps hk9 (by simp)
              have hgap8 := hW8.gap
              have hNN : ∀ x, Beside w.heap.size p q u g6 x → x < w7.heap.size → Beside w.heap.size p q u1 g1 x := fun x hk hlt => ⟨hk.1, hk.2.1, hk.2.2.1, by omega, fun hg => by have := (hgap8 _ hg).1; omega⟩
              have hO9 := hO7.keeps (N' := Beside w.heap.size p q u1 g1) hk79 (by simp) hNN
              have hRb9 := hRb7.keeps hk79 (by simp)
              have hrd9 := hrd7.keepsNil hk79
              have hdb9 : ∃ cs, Blk w9 dg 5 cs := by obtain ⟨cs, h⟩ := hdb7; exact ⟨cs, h.keeps hk79 (by simp)⟩
              have hK9 := hK7.trans hk79
              have hdglt9 : dg < w9.heap.size := Nat.lt_of_lt_of_le hdglt7 hk79.size
              have huu1 : w.heap.size ≤ u1 := Nat.le_trans hK7.size hu1
              have hdgB1 := Lib.hid (show Beside w.heap.size p q u1 g1 dg from ⟨HdgB.out.1, HdgB.out.2.1, HdgB.out.2.2.1, by omega, fun hg => by have := (hgap8 _ hg).1; omega⟩)
              clear hO7 hRb7 hrd7 hdb7 hK7 hNN hop2 hk8 hk9 hk79 hW8 hgap8 hu1 hu2
              have hll : (logWh 5 s L').l = L'.filterMap id := rfl
              have hRl' := hT6.len
              have hRc := records_calls hW9
              rw [hll] at hRc
              go_wp2_with fail
              refine hRc.mono ?_
              rintro e w10 ⟨v10, rfl, hv10, hk10⟩
              have hRc2 := records_calls (hX9.keeps hk10 (by simp))
              rw [hll] at hRc2
              go_wp2_with fail
              refine hRc2.mono ?_
              rintro e w11 ⟨v11, rfl, hv11, hk11⟩
              have hSm := same_calls (hv10.r.keeps hk11) hv11.r (by omega)
              rw [decide_eq_true rfl] at hSm
              have hk911 := hk10.trans hk11
              have hW11 := hW9.keeps hk911 (by simp)
              have hX11 := hX9.keeps hk911 (by simp)
              clear hRc hRc2 hv10 hv11 hk10 hk11
              go_wp2_with fail
              refine hSm.mono ?_
              rintro e w12 ⟨rfl, hk12⟩
              have hW12 := hW11.keeps hk12 (by simp)
              have hRm1 := room_calls hW12
              have hX12 := hX11.keeps hk12 (by simp)
              have hRmF := fun (w : World) (u : Nat) (g : Option Nat) (h : WhAt w p q u g G.start (logWh 5 s L')) => room_calls h
              have hRcF := fun (w : World) (u : Nat) (g : Option Nat) (h : WhAt w p q u g G.start (logWh 5 s L')) => records_calls h
              rw [hll] at hRcF
              generalize (logWh 5 s L').room = RM at *
              clear hSm hW11 hX11
              go_wp2_with fail
              refine hRm1.mono ?_
              rintro e w13 ⟨rfl, n13, hw13⟩
              have hk13 : Keeps [] w12 w13 := hw13 ▸ (Keeps.refl [] w12).drewN n13
              have hRm2 := hRmF _ _ _ (hX12.keeps hk13 (by simp))
              have hW13 := hW12.keeps hk13 (by simp)
              clear hw13 hRm1 hX12 hW12 hX9 hW9
              go_wp2_with fail
              refine hRm2.mono ?_
              rintro e w14 ⟨rfl, n14, hw14⟩
              have hk14 : Keeps [] w13 w14 := hw14 ▸ (Keeps.refl [] w13).drewN n14
              have hW14 := hW13.keeps hk14 (by simp)
              have hRc3 := hRcF _ _ _ hW14
              clear hw14 hRm2 hRmF hW13
              go_wp2_with fail
              refine hRc3.mono ?_
              rintro e w15 ⟨v15, rfl, hv15, hk15⟩
              obtain ⟨a15, c15, rfl, _⟩ := hv15.form
              obtain ⟨ao, co, rfl, _, _, _, hob⟩ := hO9.recs.form
              have hk915 := hk911.trans (hk12.trans (hk13.trans (hk14.trans hk15)))
              have hW15 := hW14.keeps hk15 (by simp)
              have hO15 := hO9.keeps hk915 (by simp) (fun _ h _ => h)
              have hRb15 := hRb9.keeps hk915 (by simp)
              have hrd15 := hrd9.keepsNil hk915
              have hdb15 : ∃ cs, Blk w15 dg 5 cs := by obtain ⟨cs, h⟩ := hdb9; exact ⟨cs, h.keeps hk915 (by simp)⟩
              have hK15 := hK9.trans hk915
              have hdglt15 : dg < w15.heap.size := Nat.lt_of_lt_of_le hdglt9 hk915.size
              clear hRc3 hv15 hk12 hk13 hk14 hk15 hk911 hk915 hW14 hO9 hRb9 hrd9 hdb9 hK9 hdglt9
              rcases hR6 with hR6 | hR6
              · have hlb : (((L'.filterMap id).length : Int) == ((L.filterMap id).length : Int) + 1) = false := by
                  rw [hR6, beq_eq_false_iff_ne]; omega
                have hRc4 := hRcF _ _ _ hW15
                have HR6 := Lib.hid hR6
                have HW15 := Lib.hid hW15
                have HO15 := Lib.hid hO15
                have HK15 := Lib.hid hK15
                have HT6 := Lib.hid hT6
                clear hR6 hW15 hO15 hK15 hRb15 hrd15 hdb15 hRcF hT6 hll r0 r1
                go_wp2_with fail
                refine hRc4.mono ?_
                rintro e w16 ⟨v16, rfl, hv16, hk16⟩
                have hO16 := HO15.out.keeps hk16 (by simp) (fun _ h _ => h)
                have hSm2 := same_calls hv16.r hO16.recs.r (by omega)
                rw [decide_eq_true HR6.out] at hSm2
                have HO16 := Lib.hid hO16
                clear hRc4 hv16 hO16
                go_wp2_with fail
                refine hSm2.mono ?_
                rintro e w17 ⟨rfl, hk17⟩
                have hk1617 := hk16.trans hk17
                clear hSm2
                go_wp2_with fail
                go_roundw
                case rel => exact ⟨k + 1, u1, g1, _, L', by go_num, by omega, rfl, HW15.out.keeps hk1617 (by simp), HT6.out, by rw [HR6.out]; exact HO16.out.keeps hk17 (by simp) (fun _ h _ => h), HK15.out.trans hk1617, huu1⟩
                case measure => simp [intOf]; omega
              · have hlb : (((L'.filterMap id).length : Int) == ((L.filterMap id).length : Int) + 1) = true := by
                  rw [hR6, beq_iff_eq, List.length_append]; simp
                obtain ⟨N1, N2, N3, N4⟩ := want_next hO15 hW15 hK15.size y.id hrd15 hdl hdm hdgB1.out Hdo.out hdglt15 hdb15
                have r150 := hRb15.cell' (i := 0) rfl
                have r151 := hRb15.cell' (i := 1) rfl
                have HN1 := Lib.hid N1
                have HN2 := Lib.hid N2
                have HN3 := Lib.hid N3
                have HN4 := Lib.hid N4
                have Hlen := Lib.hid (show (L.filterMap id).length ≤ 100000 by omega)
                have HR6 := Lib.hid hR6
                have HW15 := Lib.hid hW15
                have HK15 := Lib.hid hK15
                have HT6 := Lib.hid hT6
                have HRcF := Lib.hid hRcF
                clear hR6 hW15 hO15 hK15 hRb15 hrd15 hdb15 hRcF hT6 hll N1 N2 N3 N4 r0 r1
                go_wp2_with (at_builtin; (refine wpList_append_recN rfl _ _ rfl (fun _ => Beside w.heap.size p q u1 g1) HN1.out rfl _ 1 rfl y.id _ D HN2.out HN3.out Hlen.out (fun _ _ _ h _ _ => h) (fun _ g' _ _ _ h => HN4.out g' h) ?_); intro g7 cap7 w17 hR7 hG7 hg7 hl7)
                have hW17 := (HW15.out.keeps ((Keeps.refl [] w15).alloc (.cells #[B32 y.id, .slice (some ⟨dg, 0, none⟩) D.length dc] 43)) (by simp)).row HN1.out hG7
                have hK17 := (HK15.out.alloc (.cells #[B32 y.id, .slice (some ⟨dg, 0, none⟩) D.length dc] 43)).grown hG7 (fun x hx => .inr (by obtain ⟨_, _, _, h4, _⟩ := HN1.out; exact (h4 x hx).1))
                refine (HRcF.out _ _ _ hW17).mono ?_
                rintro e w18 ⟨v18, rfl, hv18, hk18⟩
                rw [← HR6.out] at hR7
                have hO18 := hR7.keeps hk18 (by simp) (fun _ h _ => h)
                have hSm2 := same_calls hv18.r hO18.recs.r (by omega)
                rw [decide_eq_true rfl] at hSm2
                have HO18 := Lib.hid hO18
                have HW17 := Lib.hid hW17
                have HK17 := Lib.hid hK17
                clear hv18 hO18 hW17 hK17 hR7 hG7
                go_wp2_with fail
                refine hSm2.mono ?_
                rintro e w19 ⟨rfl, hk19⟩
                have hk1819 := hk18.trans hk19
                clear hSm2
                go_wp2_with fail
                go_roundw
                case rel => exact ⟨k + 1, u1, g1, _, L', by go_num, by omega, rfl, HW17.out.keeps hk1819 (by simp), HT6.out, HO18.out.keeps hk19 (by simp) (fun _ h _ => h), HK17.out.trans hk1819, huu1⟩
                case measure => simp [intOf]; omega
      · obtain rfl : k = l.length := by omega
        have hRl := hT.len
        have hRc := records_calls hW
        rw [show (logWh 5 s L).l = L.filterMap id from rfl] at hRc
        have HO := Lib.hid hO
        clear hW hT hO hl hall
        go_wp2_with fail
        refine hRc.mono ?_
        rintro e w4 ⟨v4, rfl, hv4, hk4⟩
        have hSm := same_calls hv4.r (HO.out.recs.r.keeps hk4) (by omega)
        rw [decide_eq_true rfl] at hSm
        clear hRc hv4
        go_wp2_with fail
        refine hSm.mono ?_
        rintro e w5 ⟨rfl, hk5⟩
        go_wp2_with fail
        refine (awake18).mono ?_
        rintro e w6 ⟨rfl, hk6⟩
        go_wp2_with fail
        go_ret
        exact ⟨rfl, hK.trans (hk4.trans (hk5.trans hk6))⟩

end Go.Proofs.Ytghgmchgbhdldaa
