/-
  LawWheelOther: the walk of WheelOther.
-/
import Derived.Test.YtghgmchgbhdldaaWhX
import Derived.Test.YtghgmchgbhdldaaOtherT
import Derived.Deep.RegionHeld3
import Derived.Deep.DeepCutAuto
import Derived.Deep.CutBlock
set_option linter.unusedVariables false
namespace Go.Proofs.Ytghgmchgbhdldaa
open Go.RowKit
attribute [local go_sem ↓] Go.wp_at_zero Go.wp_at_succ

theorem Blk.newA1 (w : World) (o : Obj) (t : TypeId) (c : Array Value) : Blk ((w.alloc o).alloc (.cells c t)) (w.heap.size + 1) t c.toList := by
  have := Blk.newA (w.alloc o) t c
  rwa [World.size_alloc] at this

/-- A row of one record, written down. -/
theorem one_r {w : World} {zb lb o : Nat} {Z : List UInt8} (hZ : Z.length = o) (hz : Rd w (some ⟨zb, 0, none⟩) Z) (hl : Blk w lb 43 [.int .u32 9, .slice (some ⟨zb, 0, none⟩) o o]) : RecsR w (.slice (some ⟨lb, 0, none⟩) 1 1) [(9, Z)] := by
  refine ⟨_, _, rfl, fun i d hd => ?_⟩
  cases i with
  | zero =>
    simp only [List.getElem?_cons_zero, Option.some.injEq] at hd
    subst hd
    refine ⟨lb, some ⟨zb, 0, none⟩, o, rfl, hl.cell' (i := 0) rfl, ?_, hz, by simp⟩
    rw [hZ]
    exact hl.cell' (i := 1) rfl
  | succ i => simp at hd

set_option maxRecDepth 100000 in
set_option maxHeartbeats 4000000 in
theorem wheelOther_walk {w : World} (x : Int) (hx : (Lit.int .i64 x).wf = true) (y : Int) (hy : (Lit.int .i64 y).wf = true) (z : Int) (hz : (Lit.int .i64 z).wf = true)
    (A : Option Addr) (c : Nat) (l : List UInt8) (hlc : l.length ≤ c) (hcm : c ≤ maxLen) (hrd : Rd w A l) (hA0 : A = none → l = [] ∧ c = 0) :
    Calls Try.prog 5 #[.int .i64 x, .int .i64 y, .int .i64 z, .slice A l.length c] w (TrueKeep w) := by
  clear hx hy hz
  obtain ⟨n, hn, hu1, hu2⟩ := umod x 16 (by omega) (by omega)
  obtain ⟨m, hm, hv1, hv2⟩ := umod y 16 (by omega) (by omega)
  obtain ⟨k, hk, hw1, hw2⟩ := umod z 12 (by omega) (by omega)
  unfold maxLen at hcm
  go_enter Try.func5, Try.ntmps5
  go_wp2_with fail
  refine (new_calls 9).mono ?_
  rintro e w1 ⟨p, q, rfl, hp, hq, hF, hK⟩
  clear hu1 hu2 hv1 hv2 hw1 hw2
  have e1 : (1 : Int) + (n : Int) = ((n + 1 : Nat) : Int) := by omega
  have e2 : (1 : Int) + (m : Int) = ((m + 1 : Nat) : Int) := by omega
  rw [e1, e2]
  have hs1 : 1 ≤ n + 1 := by omega
  have hs16 : n + 1 ≤ 16 := by omega
  have ho1 : 1 ≤ m + 1 := by omega
  have ho16 : m + 1 ≤ 16 := by omega
  clear e1 e2 hn hm
  generalize n + 1 = s at *
  generalize m + 1 = o at *
  have hT := FreshIs.new (wlog_blank 1 hs1 hs16 False)
  have hop := open_log hF rfl hT.log
  go_wp2_with fail
  refine hop.mono ?_
  rintro e w2 ⟨u, g, rfl, hu, hW, hk2⟩
  have hK2 := hK.trans hk2
  have huu : w.heap.size ≤ u := Nat.le_trans hK.size hu
  have hsz2 := hK2.size
  have hrd2 := hrd.keepsNil hK2
  have HW2 := Lib.hid hW
  have HT := Lib.hid hT
  have HK2 := Lib.hid hK2
  clear hop hF hK hk2 hrd hW hT hK2
  go_upto_region 6 with (fail)
  go_cut [12] (fun s12 wx => ∃ (D : List UInt8) (dg dc : Nat), s12 = .slice (some ⟨dg, 0, none⟩) s dc ∧ D.length = s ∧ Rd wx (some ⟨dg, 0, none⟩) D ∧ s ≤ dc ∧ dc ≤ 9223372036854775807 ∧ w2.heap.size ≤ dg ∧ dg < wx.heap.size ∧ Keeps [] w2 wx)
  case first =>
    obtain ⟨lT, nT, hlT, hnT, hrdT, h40⟩ : ∃ (lT : List UInt8) (nT : Nat), lT.length = nT ∧ nT ≤ 40 ∧ Rd w2 A lT ∧ ((nT = l.length ∧ l.length ≤ 40) ∨ (nT = 40 ∧ 40 < l.length)) := by
      by_cases h : l.length ≤ 40
      · exact ⟨l, l.length, rfl, h, hrd2, .inl ⟨rfl, h⟩⟩
      · exact ⟨l.take 40, 40, by rw [List.length_take]; omega, by omega, hrd2.take 40, .inr ⟨rfl, by omega⟩⟩
    have Hnil := Lib.hid (show A = none → nT = 0 ∧ c = 0 from fun h => by
      have h1 := (hA0 h).1
      have h2 := (hA0 h).2
      rw [h1] at h40
      simp at h40
      omega)
    have hrd3 := hrdT.keepsNil ((Keeps.refl [] w2).alloc (.cells #[] 5))
    have hO3 := Own.lit w2 #[] [] 0 rfl rfl (by omega)
    have HlT := Lib.hid hlT
    have HO3 := Lib.hid hO3
    have Hrd3 := Lib.hid hrd3
    have HnT := Lib.hid hnT
    have Hle := Lib.hid (show ([] : List UInt8).length + nT ≤ 140737488351232 by rw [List.length_nil]; omega)
    have Hbw := Lib.hid (show w2.heap.size ≤ (w2.alloc (.cells #[] 5)).heap.size by simp)
    have Hzl := Lib.hid (show ([] ++ lT : List UInt8).length + s ≤ 1000000 by rw [List.nil_append, hlT]; omega)
    have Hzn := Lib.hid (show ([] ++ lT) ++ List.replicate s (0 : UInt8) ≠ [] from fun h => by have := congrArg List.length h; simp at this; omega)
    have Hzz := Lib.hid (show s ≤ (([] ++ lT) ++ List.replicate s (0 : UInt8)).length by simp)
    clear hrd2 hrdT hA0 hO3 hrd3 hlT
    rcases h40 with ⟨hnn, h40⟩ | ⟨hnn, h40⟩
    all_goals
      subst hnn
      have i40 : (l.length : Int) ≤ 40 ∨ ¬ ((l.length : Int) ≤ 40) := by omega
      have ic : (l.length : Int) ≤ (c : Int) := by omega
      first
        | (have j40 : (l.length : Int) ≤ 40 := by omega)
        | (have j40 : ¬ ((l.length : Int) ≤ 40) := (by omega); have jc : (40 : Int) ≤ (c : Int) := (by omega))
      clear i40 h40
      go_wp2_with (first
        | (at_builtin; refine wpList_append_bytes rfl _ _ rfl HO3.out rfl A _ c rfl Hrd3.out HlT.out Hnil.out Hle.out Hbw.out ?_; intro v4 w4 hO4 hG4 hB4)
        | (at_builtin; refine wpList_append_zeros rfl _ _ rfl hO4 rfl s rfl hs1 Hzl.out (Nat.le_trans Hbw.out hG4.size) ?_; intro v5 w5 hO5 hG5 hB5; obtain ⟨g5, c5, r5, rfl, hl5, hc5, hge5, hlt5, hb5⟩ := hO5.rowc Hzn.out; have i1 : (s : Int) ≤ (c5 : Int) := Int.ofNat_le.2 (Nat.le_trans Hzz.out hl5)))
      go_meet
      have hrd5 := hb5.rdSub 0 s
      rw [List.drop_zero] at hrd5
      have hz5 := Hzz.out
      exact ⟨_, g5, c5, rfl, by rw [List.length_take]; omega, hrd5, by omega, hc5, hge5, hlt5, ((((Keeps.refl [] w2).alloc (.cells #[] 5)).grown hG4 (fun x hx => .inr (by simp [Value.ownBlock] at hx; omega))).grown hG5 (fun x hx => .inr (hO4.ge x hx)))⟩
  case rest =>
    clear hrd2 hA0 hlc hcm
    obtain ⟨D, dg, dc, rfl, hDl, hrdD, hdl, hdm, hdgge, hdglt, hk23⟩ := hcut
    have hgap := HW2.out.gap
    have hgd : g ≠ some dg := fun hg => by have := (hgap _ hg).2; omega
    have hp2 := HW2.out.fla.ltp
    have hq2 := HW2.out.fla.ltq
    have hu2 := HW2.out.ltu
    have hW3 := HW2.out.keeps hk23 (by simp)
    have hK3 := HK2.out.trans hk23
    clear hgap hk23 hu
    go_wp2_with fail
    go_loopw [55] (fun i wr => ∃ (L : List Rec) (gg : Option Nat) (F : Fla), i = .int .i64 L.length ∧ L.length ≤ k ∧ WhAt wr p q u gg F (logWh 1 s (L.map some)) ∧ FreshIs F 1 s L ∧ Rd wr (some ⟨dg, 0, none⟩) D ∧ gg ≠ some dg ∧ Keeps [] w wr ∧ dg < wr.heap.size) (fun i _ => k - (intOf i).toNat)
    case atStart => exact ⟨[], g, _, rfl, Nat.zero_le _, hW3, HT.out, hrdD, hgd, hK3, hdglt⟩
    case round =>
      clear hW3 HT hrdD hgd hK3 hdglt HW2 HK2
      obtain ⟨L, gg, F, rfl, hLk, hW, hT, hrd, hgd, hK, hdlt⟩ := hrel
      by_cases hlt : L.length < k
      · have hps := (places_bounds hs1 hs16).1
        obtain ⟨G, ha, hT'⟩ := hT.add (by omega) (UInt32.ofNat L.length) D hDl
        have hAd := add_calls hW (UInt32.ofNat L.length) (some ⟨dg, 0, none⟩) dc D hrd (by simp) (by omega) hdm (by
          intro x hx _
          simp only [Option.some.injEq] at hx
          subst hx
          exact ⟨by show dg ≠ p; omega, by show dg ≠ q; omega, by show dg ≠ u; omega, hgd⟩)
        rw [ha, B32_nat (by omega), hDl] at hAd
        have hli : (L.length : Int) < (k : Int) := by omega
        have hgap := hW.gap
        have HT' := Lib.hid hT'
        clear hT hT' ha hW
        go_wp2_with fail
        refine hAd.mono ?_
        rintro e w5 ⟨rfl, g5, hW5, hg5, hk5⟩
        have hK5 := hK.addTo hk5 hp hq huu (fun y hy => (hgap y hy).1)
        have hrd5 := hrd.keeps hk5 (by
          intro x hx _
          simp only [Option.some.injEq] at hx
          subst hx
          simp only [List.mem_cons, not_or]
          exact ⟨by show dg ≠ p; omega, by show dg ≠ q; omega, by show dg ≠ u; omega, fun hm => hgd (by simpa using hm)⟩)
        have hgd5 : g5 ≠ some dg := by
          rcases hg5 with rfl | ⟨y', rfl, hy⟩
          · exact hgd
          · intro h; simp only [Option.some.injEq] at h; omega
        have HW5 := Lib.hid hW5
        have hs5 := hk5.size
        clear hW5 hg5 hk5 hAd hrd hgd
        go_wp2_with fail
        go_roundw
        case rel => exact ⟨L ++ [(UInt32.ofNat L.length, D)], g5, G, by rw [List.length_append, List.length_singleton]; go_num, by rw [List.length_append, List.length_singleton]; omega, HW5.out, HT'.out, hrd5, hgd5, hK5, by omega⟩
        case measure => simp [intOf]; omega
      · have hLk' : L.length = k := by omega
        have hov := hT.over ho1 ho16 (List.replicate o 0) (by simp)
        obtain ⟨G, ha, hGd, hEr, hLen⟩ := hov
        have hop := open_log hW.fla hT.good.down (hT.other ho1 ho16)
        have hlog := hT.log
        have hgd' := hT.good.down
        have hli : ¬ ((L.length : Int) < (k : Int)) := by omega
        clear hT hrd hgd
        go_wp2_with fail
        refine hop.mono ?_
        rintro e w5 ⟨uv, gv, rfl, huv, hV5, hk5⟩
        have hop2 := open_log hV5.fla hgd' hlog
        clear hop hW
        go_wp2_with fail
        refine hop2.mono ?_
        rintro e w6 ⟨ux, gx, rfl, hux, hX6, hk6⟩
        have hV6 := hV5.keeps hk6 (by simp)
        have hRc := records_calls hV6
        rw [show (logWh 2 o []).l = [] from rfl] at hRc
        clear hop2 hV5
        go_wp2_with fail
        refine hRc.mono ?_
        rintro e w7 ⟨v7, rfl, hv7, hk7⟩
        obtain ⟨a7, c7, rfl, _⟩ := hv7.form
        have hRc2 := records_calls (hX6.keeps hk7 (by simp))
        rw [logWh_some] at hRc2
        have hV7 := hV6.keeps hk7 (by simp)
        clear hRc hv7 hX6 hV6
        go_wp2_with fail
        refine hRc2.mono ?_
        rintro e w8 ⟨v8, rfl, hv8, hk8⟩
        obtain ⟨a8, c8, rfl, _⟩ := hv8.form
        have hV8 := hV7.keeps hk8 (by simp)
        have hAd := add_made hV8 9 o (by omega)
        rw [ha] at hAd
        have hgap8 := hV8.gap
        have hK8 := (((hK.trans hk5).trans hk6).trans hk7).trans hk8
        have huvw : w.heap.size ≤ uv := Nat.le_trans hK.size huv
        have hmk := fun w => make_u8 o o (Nat.le_refl _) (by omega) w
        clear hRc2 hv8 hV7 ha hux huv
        rw [hLk']
        go_wp2_with fail
        refine hAd.mono ?_
        rintro e w9 ⟨rfl, g9, hV9, hg9, hk9⟩
        have hK9 := (hK8.alloc (.cells (zeros o) 5)).addTo hk9 hp hq huvw (fun y hy => (hgap8 y hy).1)
        dsimp only at hV9
        have hop3 := open_ok hV9.fla hGd 1 s hs1 hs16
        clear hAd hV8 hk9 hg9 hK8 hgap8 hk5 hk6 hk7 hk8 hK
        go_wp2_with fail
        refine hop3.mono ?_
        rintro e w10 ⟨uy, gy, rfl, huy, hY10, hk10⟩
        have hV10 := hV9.keeps hk10 (by simp)
        have hK10 := hK9.trans hk10
        clear hop3 hV9 hK9 hk10 huy
        have hll : (logWh 2 o [some (9, List.replicate o (0 : UInt8))]).l = [(9, List.replicate o 0)] := rfl
        have hRyF := fun (w' : World) (k' : Keeps [] w10 w') => records_calls (hY10.keeps k' (by simp))
        have hRvF : ∀ (w' : World), Keeps [] w10 w' → Calls Try.prog 22 #[.pointer (some ⟨uv, 0, none⟩)] w' (fun e w'' => ∃ v, e = .returned v ∧ Recs w'' w'.heap.size v (logWh 2 o [some (9, List.replicate o (0 : UInt8))]).l ∧ Keeps [] w' w'') := fun w' k' => records_calls (hV10.keeps k' (by simp))
        have hErF := fun (w' : World) (k' : Keeps [] w10 w') => erases_calls (hV10.fla.keeps k' (by simp) (by simp)) 6
        rw [hll] at hRvF
        have hSmF : ∀ (w' : World) (v v' : Value), RecsR w' v [(9, List.replicate o (0 : UInt8))] → RecsR w' v' [(9, List.replicate o (0 : UInt8))] → Calls Try.prog 26 #[v, v'] w' (fun e w'' => e = .returned (.bool true) ∧ Keeps [] w' w'') := fun w' v v' h1 h2 => by
          have := same_calls h1 h2 (by simp)
          rw [decide_eq_true rfl] at this
          exact this
        have hzr := fun w => zeros_rd w o
        have hZl : (List.replicate o (0 : UInt8)).length = o := by simp
        generalize (G.openWh 1 s).l = Ly at *
        generalize List.replicate o (0 : UInt8) = Z at *
        have hLyk : (Ly.length : Int) ≤ (k : Int) := by omega
        have k0 : Keeps [] w10 w10.drew := (Keeps.refl [] w10).drew
        have HRy := Lib.hid hRyF
        have HRv := Lib.hid hRvF
        have HEr := Lib.hid hErF
        have HSm := Lib.hid hSmF
        have Hzr := Lib.hid hzr
        have HZl := Lib.hid hZl
        have HK10 := Lib.hid hK10
        have hEr2 : L.length = 0 ∨ G.erases 6 = 1 := hEr
        clear hRyF hRvF hErF hSmF hzr hZl hK10 hY10 hV10 hll hEr hLen
        have HEr' : k = 0 ∨ Hid (∀ (w' : World), Keeps [] w10 w' → Calls Try.prog 25 #[.pointer (some ⟨p, 0, none⟩), .int .i64 6] w' (fun e w'' => e = .returned (.int .i64 1) ∧ w' = w'')) := by
          rcases hEr2 with h | h
          · exact .inl (by omega)
          · right
            have := HEr.out
            rw [h] at this
            exact Lib.hid this
        clear hEr2 HEr hli
        have Hfin := Lib.hid hLyk
        rcases Nat.eq_zero_or_pos k with hk0 | hk0
        · subst hk0
          obtain rfl : Ly = [] := List.length_eq_zero_iff.1 (by omega)
          clear HEr' hLyk Hfin
          go_wp2_with fail
          first
            | (go_region_with (first
                | (go_at_call_of 22 (Value.pointer (some ⟨uy, 0, none⟩)); refine (HRy.out w10.drew k0).mono ?_; rintro e wA ⟨vA, rfl, hvA, hkA⟩; obtain ⟨aA, cA, rfl, _⟩ := hvA.form; have nkA := k0.trans hkA)
                | (go_at_call_of 22 (Value.pointer (some ⟨uv, 0, none⟩)); (with_reducible refine (HRv.out _ nkA).mono ?_); rintro e wB ⟨vB, rfl, hvB, hkB⟩; obtain ⟨aB, cB, rfl, _⟩ := hvB.form; have hrB : RecsR wB (.slice aB 1 cB) [(9, Z)] := hvB.r; have nkB := nkA.trans hkB)
                | (go_at_call_of 22 (Value.pointer (some ⟨uv, 0, none⟩)); have nkA2 := nkA.alloc (.cells (zeros o) 5); (with_reducible refine (HRv.out _ nkA2).mono ?_); rintro e wB ⟨vB, rfl, hvB, hkB⟩; obtain ⟨aB, cB, rfl, _⟩ := hvB.form; have hrB : RecsR wB (.slice aB 1 cB) [(9, Z)] := hvB.r; have nkB := nkA2.trans hkB)
                | (go_at_call_of 22 (Value.pointer (some ⟨uv, 0, none⟩)); have nkA3 := (nkA.alloc (.cells (zeros o) 5)).alloc (.cells #[.int .u32 9, .slice (some ⟨wA.heap.size, 0, none⟩) o o] 43); (with_reducible refine (HRv.out _ nkA3).mono ?_); rintro e wB ⟨vB, rfl, hvB, hkB⟩; obtain ⟨aB, cB, rfl, _⟩ := hvB.form; have hrB : RecsR wB (.slice aB 1 cB) [(9, Z)] := hvB.r; have nkB := nkA3.trans hkB)
                | (go_at_call 26; have s1 : RecsR ((wB.alloc (.cells (zeros o) 5)).alloc (.cells #[.int .u32 9, .slice (some ⟨wB.heap.size, 0, none⟩) o o] 43)) (.slice aB 1 cB) [(9, Z)] := hrB.keeps (((Keeps.refl [] wB).alloc _).alloc _); have s2 : RecsR ((wB.alloc (.cells (zeros o) 5)).alloc (.cells #[.int .u32 9, .slice (some ⟨wB.heap.size, 0, none⟩) o o] 43)) (.slice (some ⟨wB.heap.size + 1, 0, none⟩) 1 1) [(9, Z)] := one_r HZl.out ((Hzr.out wB).keepsNil ((Keeps.refl [] _).alloc _)) (Blk.newA1 wB (.cells (zeros o) 5) 43 #[.int .u32 9, .slice (some ⟨wB.heap.size, 0, none⟩) o o]); (with_reducible refine (HSm.out _ _ _ s1 s2).mono ?_); rintro e wC ⟨rfl, hkC⟩; have nkC := ((nkB.alloc (.cells (zeros o) 5)).alloc (.cells #[.int .u32 9, .slice (some ⟨wB.heap.size, 0, none⟩) o o] 43)).trans hkC)
                | (go_at_call 26; have s1 : RecsR (wB.alloc (.cells #[.int .u32 9, .slice (some ⟨wA.heap.size, 0, none⟩) o o] 43)) (.slice aB 1 cB) [(9, Z)] := hrB.keeps ((Keeps.refl [] wB).alloc _); have s2 : RecsR (wB.alloc (.cells #[.int .u32 9, .slice (some ⟨wA.heap.size, 0, none⟩) o o] 43)) (.slice (some ⟨wB.heap.size, 0, none⟩) 1 1) [(9, Z)] := one_r HZl.out (((Hzr.out wA).keepsNil hkB).keepsNil ((Keeps.refl [] _).alloc _)) (Blk.newA wB 43 #[.int .u32 9, .slice (some ⟨wA.heap.size, 0, none⟩) o o]); (with_reducible refine (HSm.out _ _ _ s1 s2).mono ?_); rintro e wC ⟨rfl, hkC⟩; have nkC := (nkB.alloc (.cells #[.int .u32 9, .slice (some ⟨wA.heap.size, 0, none⟩) o o] 43)).trans hkC)
                | (go_at_call 26; have s2 : RecsR wB (.slice (some ⟨wA.heap.size + 1, 0, none⟩) 1 1) [(9, Z)] := one_r HZl.out (((Hzr.out wA).keepsNil ((Keeps.refl [] _).alloc _)).keepsNil hkB) ((Blk.newA1 wA (.cells (zeros o) 5) 43 #[.int .u32 9, .slice (some ⟨wA.heap.size, 0, none⟩) o o]).keeps hkB (by simp)); (with_reducible refine (HSm.out _ _ _ hrB s2).mono ?_); rintro e wC ⟨rfl, hkC⟩; have nkC := (nkB).trans hkC)
                | (go_at_call 24; refine (awake18).mono ?_; rintro e wE ⟨rfl, hkE⟩; have nkE := nkC.trans hkE)))
            | fail
          all_goals
            go_wp2_with fail
            go_ret
            exact ⟨rfl, HK10.out.trans nkE⟩
        · have HEr := HEr'.resolve_left (by omega)
          have hk1 : ¬ ((k : Int) = 0) := by omega
          have hk2 : ¬ (k = 0) := by omega
          have hk3 : ((k : Int) == 0) = false := by rw [beq_eq_false_iff_ne]; omega
          clear HEr' hk0
          go_wp2_with fail
          go_region_held3 (fun w' => Keeps [] w10 w')
            (first | exact k0 | exact nkA | exact nkB | exact nkC | exact nkE | exact Keeps.alloc (by assumption) _)
            (first
              | (go_at_call_of 22 (Value.pointer (some ⟨uy, 0, none⟩)); refine (HRy.out _ (by assumption)).mono ?_; rintro e wA ⟨vA, rfl, hvA, hkA⟩; obtain ⟨aA, cA, rfl, _⟩ := hvA.form; have nkA := Keeps.trans (by assumption) hkA)
              | (go_at_call_of 22 (Value.pointer (some ⟨uv, 0, none⟩)); refine (HRv.out _ (by assumption)).mono ?_; rintro e wB ⟨vB, rfl, hvB, hkB⟩; obtain ⟨aB, cB, rfl, _⟩ := hvB.form; have hrB : RecsR wB (.slice aB 1 cB) [(9, Z)] := hvB.r; have nkB := Keeps.trans (by assumption) hkB)
              | (go_at_call 26; have s1 : RecsR ((wB.alloc (.cells (zeros o) 5)).alloc (.cells #[.int .u32 9, .slice (some ⟨wB.heap.size, 0, none⟩) o o] 43)) (.slice aB 1 cB) [(9, Z)] := hrB.keeps (((Keeps.refl [] wB).alloc _).alloc _); have s2 : RecsR ((wB.alloc (.cells (zeros o) 5)).alloc (.cells #[.int .u32 9, .slice (some ⟨wB.heap.size, 0, none⟩) o o] 43)) (.slice (some ⟨wB.heap.size + 1, 0, none⟩) 1 1) [(9, Z)] := one_r HZl.out ((Hzr.out wB).keepsNil ((Keeps.refl [] _).alloc _)) (Blk.newA1 wB (.cells (zeros o) 5) 43 #[.int .u32 9, .slice (some ⟨wB.heap.size, 0, none⟩) o o]); (with_reducible refine (HSm.out _ _ _ s1 s2).mono ?_); rintro e wC ⟨rfl, hkC⟩; have nkC := Keeps.trans (by assumption) hkC)
              | (go_at_call 26; have s1 : RecsR (wB.alloc (.cells #[.int .u32 9, .slice (some ⟨wA.heap.size, 0, none⟩) o o] 43)) (.slice aB 1 cB) [(9, Z)] := hrB.keeps ((Keeps.refl [] wB).alloc _); have s2 : RecsR (wB.alloc (.cells #[.int .u32 9, .slice (some ⟨wA.heap.size, 0, none⟩) o o] 43)) (.slice (some ⟨wB.heap.size, 0, none⟩) 1 1) [(9, Z)] := one_r HZl.out (((Hzr.out wA).keepsNil hkB).keepsNil ((Keeps.refl [] _).alloc _)) (Blk.newA wB 43 #[.int .u32 9, .slice (some ⟨wA.heap.size, 0, none⟩) o o]); (with_reducible refine (HSm.out _ _ _ s1 s2).mono ?_); rintro e wC ⟨rfl, hkC⟩; have nkC := Keeps.trans (by assumption) hkC)
              | (go_at_call 26; have s2 : RecsR wB (.slice (some ⟨wA.heap.size + 1, 0, none⟩) 1 1) [(9, Z)] := one_r HZl.out (((Hzr.out wA).keepsNil ((Keeps.refl [] _).alloc _)).keepsNil hkB) ((Blk.newA1 wA (.cells (zeros o) 5) 43 #[.int .u32 9, .slice (some ⟨wA.heap.size, 0, none⟩) o o]).keeps hkB (by simp)); (with_reducible refine (HSm.out _ _ _ hrB s2).mono ?_); rintro e wC ⟨rfl, hkC⟩; have nkC := Keeps.trans (by assumption) hkC)
              | (go_at_call 25; refine (HEr.out _ (by assumption)).mono ?_; rintro e wD ⟨rfl, rfl⟩)
              | (go_at_call 24; refine (awake18).mono ?_; rintro e wE ⟨rfl, hkE⟩; have nkE := Keeps.trans (by assumption) hkE))
          all_goals
            go_wp2_with fail
            go_ret
            exact ⟨rfl, HK10.out.trans nkE⟩

end Go.Proofs.Ytghgmchgbhdldaa
