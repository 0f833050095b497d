/-
  LawDecCnt: light, DecodeCounts, walked.
-/
import Derived.Test.YtghgmchgbhdldaaGreatDoorDeV
import Derived.Test.YtghgmchgbhdldaaGreatDoorRows12
import Derived.Test.YtghgmchgbhdldaaGreatDoorAppZ
set_option linter.unusedVariables false
set_option linter.unusedSimpArgs false
namespace Go.Proofs.YtghgmchgbhdldaaGreatDoor
open Go.RowKit
attribute [local go_sem ↓] Go.wp_at_zero Go.wp_at_succ

/-- light, from a place on. -/
def lightFrom : Nat → List C12 → Bool
  | _, [] => true
  | k, c :: cs => if 100 ≤ k ∨ 40 < c.s.b.length then false else lightFrom (k + 1) cs
theorem lightFrom_len (l : List C12) : ∀ k, lightFrom k l = true → k ≤ 100 → k + l.length ≤ 100 ∧ ∀ c ∈ l, c.s.b.length ≤ 40 := by
  induction l with
  | nil => intro k _ hk; simp; omega
  | cons c cs ih =>
    intro k h hk
    unfold lightFrom at h
    split at h
    · cases h
    · obtain ⟨h1, h2⟩ := ih (k + 1) h (by omega)
      simp only [List.length_cons, List.mem_cons]
      refine ⟨by omega, ?_⟩
      rintro x (rfl | hx)
      · omega
      · exact h2 x hx

set_option maxRecDepth 100000 in
set_option maxHeartbeats 400000 in
theorem light_calls {w : World} (a : Option Addr) (c : Nat) (l : List C12) (hl : Calls12 w a l) (hm : l.length ≤ maxLen) :
    Calls Tryz.prog 8 #[.slice a l.length c] w fun e w' => e = .returned (.bool (lightFrom 0 l)) ∧ Keeps [] w w' := by
  unfold maxLen at hm
  go_enter Tryz.func8, Tryz.ntmps8
  go_wp2_with fail
  go_loopw [7] (fun i wr => ∃ k : Nat, k ≤ l.length ∧ i = .int .i64 k ∧ lightFrom k (l.drop k) = lightFrom 0 l ∧ Keeps [] w wr) (fun i _ => l.length - (intOf i).toNat)
  case atStart => exact ⟨0, Nat.zero_le _, rfl, by simp, Keeps.refl _ _⟩
  case round =>
    obtain ⟨k, hk, rfl, hf, hK⟩ := hrel
    by_cases hlt : k < l.length
    · obtain ⟨hok, b, o, rfl, hc⟩ := (hl.below hK.belowAll (fun c h => h.below hK.belowAll)) k l[k] (by simp [hlt])
      rw [List.drop_eq_getElem_cons hlt, lightFrom] at hf
      generalize l[k] = x at *
      have c0 : wr.cell? ⟨b, o + k * 2, none⟩ = some (B32 x.id) := hc 0 _ rfl
      have c1 := hc 1 _ rfl
      unfold BS.val at c1
      clear hc
      by_cases h80 : 100 ≤ k
      · rw [if_pos (.inl h80)] at hf
        have Hf := Lib.hid hf
        have h80' : (100 : Int) ≤ (k : Int) := by omega
        clear hf h80
        go_wp2_with fail
        go_ret
        exact ⟨by rw [← Hf.out]; rfl, hK.alloc _⟩
      · have h80' : (k : Int) < 100 := by omega
        by_cases h300 : 40 < x.s.b.length
        · rw [if_pos (.inr h300)] at hf
          have Hf := Lib.hid hf
          have h300' : (40 : Int) < (x.s.b.length : Int) := by omega
          clear hf h80 h300
          go_wp2_with fail
          go_ret
          exact ⟨by rw [← Hf.out]; rfl, hK.alloc _⟩
        · rw [if_neg (by omega)] at hf
          have Hf := Lib.hid hf
          have h300' : (x.s.b.length : Int) ≤ 40 := by omega
          clear hf h80 h300
          go_wp2_with fail
          go_roundw
          case rel => exact ⟨k + 1, by omega, by go_num, Hf.out, hK.alloc _⟩
          case measure => simp [intOf]; omega
    · have hkl : k = l.length := by omega
      subst hkl
      rw [List.drop_length, lightFrom] at hf
      have Hf := Lib.hid hf
      clear hf hl
      go_wp2_with fail
      go_ret
      exact ⟨by rw [← Hf.out]; rfl, hK⟩

/-- A symbol taken, whether it says something new or not. -/
def TkPost (w : World) (p : Nat) (s : UInt32) (nK P z : Nat) (tk nd : Nat) (Fl : List Nat) (e : Ending) (w' : World) : Prop :=
  ∃ (bb : Bool) (M' : Mtx) (tk' nd' : Nat) (Fl' : List Nat), e = .returned (.bool bb) ∧ De w' p s nK P z M' tk' Fl' ∧ tk' + P = rank M' ∧ nd' + rank M' = nK + P ∧ (bb = true → nd = nd' + 1) ∧ (bb = false → nd = nd') ∧ (∀ x ∈ Fl', x ∈ Fl ∨ w.heap.size ≤ x) ∧ Keeps Fl w w'
theorem dtk_calls {w : World} {p : Nat} {s : UInt32} {nK P z : Nat} {M : Mtx} {tk nd : Nat} {Fl : List Nat} (h : De w p s nK P z M tk Fl) (hp : PmI nK P z) (ht : TzAt w) (h1 : tk + P = rank M) (h2 : nd + rank M = nK + P) (id : UInt32) {a : Option Addr} {c : Nat} {l : List UInt8} (hl : Rd w a l) (hlz : l.length = z) :
    Calls Tryz.prog 13 #[P0 p, B32 id, .slice a z c] w (TkPost w p s nK P z tk nd Fl) := by
  have hk2 := hp.k2
  have hp2 := hp.p2
  refine (dtake_calls h hp ht (by omega) id hl hlz).mono ?_
  rintro e w' (⟨h0, rfl, k⟩ | ⟨h0, rfl, F', hD, hF, k⟩)
  · exact ⟨false, M, tk, nd, Fl, rfl, h.keepsNil k, h1, h2, by simp, fun _ => rfl, fun x hx => .inl hx, k.nil⟩
  · have hr := mAdd_rank1 h.ech (r := ⟨rowN s nK P id, l⟩) (rowN_lt s nK P id) hlz h0
    have hle := rank_le (mAdd (nK + P) M ⟨rowN s nK P id, l⟩)
    rw [(mAdd_ech h.ech (r := ⟨rowN s nK P id, l⟩) (rowN_lt s nK P id) hlz).l] at hle
    exact ⟨true, _, tk + 1, nd - 1, F', rfl, hD, by omega, by omega, fun _ => by omega, by simp, hF, k⟩

set_option maxRecDepth 100000 in
set_option maxHeartbeats 1600000 in
theorem decodeCounts_walk {w : World} (ht : TzAt w) (s : UInt32) (k p z0 : Int) (A : Option Addr) (c : Nat) (l : List C12) (hm : l.length ≤ maxLen) (hl : Calls12 w A l) :
    Calls Tryz.prog 3 #[.agg #[B32 s, .int .i64 k, .int .i64 p, .int .i64 z0], .slice A l.length c] w fun e w' => e = .returned (.bool true) ∧ Keeps [] w w' := by
  have kA : Keeps [] w (w.alloc (.cells #[B32 s, .int .i64 k, .int .i64 p, .int .i64 z0] 24)) := (Keeps.refl [] w).alloc _
  have hB0 := Blk.newA w 24 #[B32 s, .int .i64 k, .int .i64 p, .int .i64 z0]
  have hLi := light_calls A c l (hl.below kA.belowAll (fun c h => h.below kA.belowAll)) hm
  have Htz := Lib.hid ht
  have Hl := Lib.hid hl
  cases hlt : lightFrom 0 l with
  | false =>
    rw [hlt] at hLi
    have HLi := Lib.hid hLi
    clear hLi hlt ht hl
    go_enter Tryz.func3, Tryz.ntmps3
    go_wp2_with fail
    refine HLi.out.mono ?_
    rintro e w1 ⟨rfl, k1⟩
    go_wp2_with fail
    refine (awake12_calls (Htz.out.keeps (kA.trans k1) (by simp))).mono ?_
    rintro e w2 ⟨rfl, k2⟩
    go_wp2_with fail
    go_ret
    exact ⟨rfl, (kA.trans k1).trans k2⟩
  | true =>
    rw [hlt] at hLi
    obtain ⟨hl100, hl40⟩ := lightFrom_len l 0 hlt (by omega)
    have HLi := Lib.hid hLi
    have Hl40 := Lib.hid hl40
    clear hLi hlt ht hl hl40
    go_enter Tryz.func3, Tryz.ntmps3
    go_wp2_with fail
    generalize w.alloc (.cells #[B32 s, .int .i64 k, .int .i64 p, .int .i64 z0] 24) = w0 at *
    refine HLi.out.mono ?_
    rintro e w1 ⟨rfl, k1⟩
    have hB1 := hB0.keeps k1 (by simp)
    have c0 := hB1.cell' (i := 0) rfl
    have c1 := hB1.cell' (i := 1) rfl
    have c2 := hB1.cell' (i := 2) rfl
    have c3 := hB1.cell' (i := 3) rfl
    have HS := Lib.hid (sound12_calls (w := w1) s k p z0 none 0 0 [] (Rd.nil _ _) rfl (by omega) (by omega) (fun _ => ⟨rfl, rfl⟩))
    go_wp2_with fail
    refine HS.out.mono ?_
    rintro e w2 ⟨nK0, P, z, img, vi, rfl, hF, _, _, _, k2⟩
    have hB2 := hB1.keeps k2 (by simp)
    clear c0 c1 c2 c3
    have c0 := hB2.cell' (i := 0) rfl
    have c1 := hB2.cell' (i := 1) rfl
    have c2 := hB2.cell' (i := 2) rfl
    have c3 := hB2.cell' (i := 3) rfl
    have f0 := hB2.frozen 0
    have f1 := hB2.frozen 1
    have f2 := hB2.frozen 2
    have f3 := hB2.frozen 3
    go_upto_region 4 with (fail)
    have hB3 := hB2.put4 (B32 s) (.int .i64 nK0) (.int .i64 P) (.int .i64 z)
    have K3 := Lib.hid (((kA.trans k1).trans k2).put4 (.inr (Nat.le_refl _)) (B32 s) (.int .i64 nK0) (.int .i64 P) (.int .i64 z))
    clear c0 c1 c2 c3 f0 f1 f2 f3 hB2 hB1 hB0 kA k1 k2 HS HLi
    generalize ((((w2.setCell ⟨w.heap.size, 0, none⟩ (B32 s)).setCell ⟨w.heap.size, 1, none⟩ (.int .i64 nK0)).setCell ⟨w.heap.size, 2, none⟩ (.int .i64 P)).setCell ⟨w.heap.size, 3, none⟩ (.int .i64 z)) = w3 at *
    obtain ⟨nK, hnK⟩ : ∃ nK : Nat, nK = 1 + l.length % 64 := ⟨_, rfl⟩
    have hpm : PmI nK P z := ⟨by omega, by omega, hF.p2, hF.z1, hF.z2⟩
    have c1 := hB3.cell' (i := 1) rfl
    have f1 := hB3.frozen 1
    have hB4 := hB3.set 1 (.int .i64 (1 + (l.length : Int) % 64))
    have K4 := Lib.hid (K3.out.setCell (p := ⟨w.heap.size, 1, none⟩) (.inr (Nat.le_refl _)) (.int .i64 (1 + (l.length : Int) % 64)))
    have HnKi := Lib.hid (show 1 + (l.length : Int) % 64 = (nK : Int) from by omega)
    go_upto_region 5 with (fail)
    generalize w3.setCell ⟨w.heap.size, 1, none⟩ (.int .i64 (1 + (l.length : Int) % 64)) = w4 at *
    rw [HnKi.out] at hB4
    have hk1 := hpm.k1
    have hk2 := hpm.k2
    have hp2 := hpm.p2
    have hz1 := hpm.z1
    have hz2 := hpm.z2
    have Ht4 := Lib.hid (Htz.out.keeps K4.out (by simp))
    have HL4 := Lib.hid (Hl.out.below K4.out.belowAll (fun c h => h.below K4.out.belowAll))
    have HN := Lib.hid (dnew_calls s nK P z hpm Ht4.out)
    have hrk := pmx_rank s nK P z P (Nat.le_refl _)
    obtain ⟨M0, hM0⟩ : ∃ M0, M0 = pmx s nK P z P := ⟨_, rfl⟩
    unfold DeNew at HN
    rw [← hM0] at HN hrk
    have Hrk := Lib.hid hrk
    have Hpm := Lib.hid hpm
    clear c1 f1 K3 hB3 hF hM0 hrk hpm hnK HnKi Hl Htz
    have c0 := hB4.cell' (i := 0) rfl
    have c1 := hB4.cell' (i := 1) rfl
    have c2 := hB4.cell' (i := 2) rfl
    have c3 := hB4.cell' (i := 3) rfl
    go_wp2_with fail
    refine HN.out.mono ?_
    rintro e w5 ⟨pd, Fl0, rfl, hD5, hF5, k5⟩
    have hNd := dneeds_calls hD5 Hpm.out
    rw [Hrk.out, show nK + P - P = nK from by omega] at hNd
    have HNd := Lib.hid hNd
    have HD5 := Lib.hid hD5
    have HF5 := Lib.hid hF5
    have HK5 := Lib.hid k5
    clear hD5 hF5 k5 hNd HN c0 c1 c2 c3
    go_wp2_with fail
    refine HNd.out.mono ?_
    rintro e w6 ⟨rfl, k6⟩
    have HD6 := Lib.hid (HD5.out.keepsNil k6)
    have HK6 := Lib.hid (HK5.out.trans k6)
    have hB6 := hB4.keeps HK6.out (by simp)
    have c1 := hB6.cell' (i := 1) rfl
    have HB4 := Lib.hid hB4
    have hne : ((nK : Int) != (nK : Int)) = false := by simp
    clear hB4 hB6 k6 HNd HD5 HK5
    go_wp2_with fail
    clear c1 hne
    go_loopw [6, 37] (fun ndv i wr => ∃ (kk tk nd : Nat) (M : Mtx) (Fl : List Nat), kk ≤ l.length ∧ i = .int .i64 kk ∧ ndv = .int .i64 nd ∧ De wr pd s nK P z M tk Fl ∧ tk + P = rank M ∧ nd + rank M = nK + P ∧ (∀ x ∈ Fl, w4.heap.size ≤ x) ∧ Keeps [] w4 wr) (fun _ i _ => l.length - (intOf i).toNat)
    case atStart => exact ⟨0, 0, nK, M0, Fl0, Nat.zero_le _, rfl, rfl, HD6.out, by have := Hrk.out; omega, by have := Hrk.out; omega, HF5.out, HK6.out⟩
    case round =>
      clear HD6 HF5 HK6 Hrk
      obtain ⟨kk, tk, nd, M, Fl, hk, rfl, rfl, hD, ht1, ht2, hFl, hK⟩ := hrel
      by_cases hlt : kk < l.length
      · obtain ⟨hok, b, o, rfl, hc⟩ := (HL4.out.below hK.belowAll (fun c h => h.below hK.belowAll)) kk l[kk] (by simp [hlt])
        have h40 := Hl40.out l[kk] (List.getElem_mem hlt)
        generalize l[kk] = x at *
        have c0 : wr.cell? ⟨b, o + kk * 2, none⟩ = some (B32 x.id) := hc 0 _ rfl
        have c1 : wr.cell? ⟨b, o + kk * 2 + 1, none⟩ = some (.slice x.s.A x.s.b.length x.s.cap) := hc 1 _ rfl
        clear hc
        have hki : (kk : Int) < (l.length : Int) := by omega
        go_upto_region 12 with (fail)
        have kC : Keeps [] wr (wr.alloc (.cells #[B32 x.id, .slice x.s.A x.s.b.length x.s.cap] 36)) := (Keeps.refl [] wr).alloc _
        have hC := Blk.newA wr 36 #[B32 x.id, .slice x.s.A x.s.b.length x.s.cap]
        have hB7 := (HB4.out.keeps hK (by simp)).keeps kC (by simp)
        have HD7 := Lib.hid (hD.keepsNil kC)
        have HK7 := Lib.hid (hK.trans kC)
        have hok7 := hok.below kC.belowAll
        clear hD hK kC hok
        generalize wr.alloc (.cells #[B32 x.id, .slice x.s.A x.s.b.length x.s.cap] 36) = w7 at *
        have q0 := hC.cell' (i := 0) rfl
        have q1 := hC.cell' (i := 1) rfl
        have p1 := hB7.cell' (i := 1) rfl
        have p3 := hB7.cell' (i := 3) rfl
        clear hB7 hC
        have HH1 := Lib.hid ((Own.lit8 w7 #[] [] 0 rfl rfl (by omega)).keeps (Keeps.refl [] (w7.alloc (.cells #[] 5))).drew (by simp))
        have Hk8 := Lib.hid (((Keeps.refl [] w7).alloc (.cells #[] 5)).drew)
        have Hs8 := Lib.hid (show w7.heap.size ≤ ((w7.alloc (.cells #[] 5)).drew).heap.size by simp)
        have HR8 := Lib.hid (hok7.rd.keepsNil Hk8.out)
        have Hn0 := Lib.hid (show x.s.A = none → x.s.b.length = 0 ∧ x.s.cap = 0 from fun h => ⟨by rw [hok7.nil h]; rfl, hok7.nil0 h⟩)
        have Hl0 := Lib.hid (show ([] : List UInt8).length + x.s.b.length ≤ 140737488351232 by simp; omega)
        have Hlz1 := Lib.hid (show x.s.b.length + z ≤ 1000000 by omega)
        have Hlen := Lib.hid (show (x.s.b ++ List.replicate z (0 : UInt8)).length = x.s.b.length + z by simp)
        have Hlz := Lib.hid (show ((x.s.b ++ List.replicate z (0 : UInt8)).take z).length = z from by rw [List.length_take]; simp)
        have i2 : (0 : Int) ≤ (z : Int) := by omega
        clear hok7
        refine wp_region_noPanic ?_
        refine wp_region_held_drew (S := (fun w' => w'.cell? ⟨wr.heap.size, 1, none⟩ = some (.slice x.s.A x.s.b.length x.s.cap) ∧ w'.cell? ⟨w.heap.size, 3, none⟩ = some (.int .i64 z))) (by kernel_rfl) ⟨q1, p3⟩ (fun hHeld => ?_)
        refine wpAnyH_take (i := 1) (v := ?v1_1) rfl (by kernel_rfl) (by kernel_rfl) (by kernel_rfl) (fun _ _ _ h => h) (Or.inl ⟨by rfl, ?y1_1⟩) (by assumption) ?r1_1
        case y1_1 => (intro w hSw; (try dsimp only at hSw); go_simp; try with_reducible rfl)
        (try simp only [Act.put, List.getElem_toArray, List.getElem_cons_zero, List.getElem_cons_succ, List.setIfInBounds_toArray, List.set_cons_zero, List.set_cons_succ])
        refine wpAnyH_take (i := 2) (v := ?v1_2) rfl (by kernel_rfl) (by kernel_rfl) (by kernel_rfl) (fun _ _ _ h => h) (Or.inl ⟨by rfl, ?y1_2⟩) (by assumption) ?r1_2
        case y1_2 => (intro w hSw; (try dsimp only at hSw); go_simp; try with_reducible rfl)
        (try simp only [Act.put, List.getElem_toArray, List.getElem_cons_zero, List.getElem_cons_succ, List.setIfInBounds_toArray, List.set_cons_zero, List.set_cons_succ])
        refine wpAnyH_take (i := 4) (v := ?v1_3) rfl (by kernel_rfl) (by kernel_rfl) (by kernel_rfl) (fun _ _ _ h => h) (Or.inl ⟨by rfl, ?y1_3⟩) (by assumption) ?r1_3
        case y1_3 => (intro w hSw; (try dsimp only at hSw); go_simp; try with_reducible rfl)
        (try simp only [Act.put, List.getElem_toArray, List.getElem_cons_zero, List.getElem_cons_succ, List.setIfInBounds_toArray, List.set_cons_zero, List.set_cons_succ])
        refine wpAnyH_take (i := 5) (v := ?v1_4) rfl (by kernel_rfl) (by kernel_rfl) (by kernel_rfl) (fun _ _ _ h => h) (Or.inl ⟨by rfl, ?y1_4⟩) (by assumption) ?r1_4
        case y1_4 => (intro w hSw; (try dsimp only at hSw); go_simp; try with_reducible rfl)
        (try simp only [Act.put, List.getElem_toArray, List.getElem_cons_zero, List.getElem_cons_succ, List.setIfInBounds_toArray, List.set_cons_zero, List.set_cons_succ])
        refine wpAnyH_take (i := 7) (v := ?v1_5) rfl (by kernel_rfl) (by kernel_rfl) (by kernel_rfl) (fun _ _ _ h => h) (Or.inl ⟨by rfl, ?y1_5⟩) (by assumption) ?r1_5
        case y1_5 => (intro w hSw; (try dsimp only at hSw); go_simp; try with_reducible rfl)
        (try simp only [Act.put, List.getElem_toArray, List.getElem_cons_zero, List.getElem_cons_succ, List.setIfInBounds_toArray, List.set_cons_zero, List.set_cons_succ])
        refine wpAnyH_take (i := 8) (v := ?v1_6) rfl (by kernel_rfl) (by kernel_rfl) (by kernel_rfl) (fun _ _ _ h => h) (Or.inl ⟨by rfl, ?y1_6⟩) (by assumption) ?r1_6
        case y1_6 => (intro w hSw; (try dsimp only at hSw); go_simp; try with_reducible rfl)
        (try simp only [Act.put, List.getElem_toArray, List.getElem_cons_zero, List.getElem_cons_succ, List.setIfInBounds_toArray, List.set_cons_zero, List.set_cons_succ])
        refine wpAnyH_ready (rs := [0]) (by kernel_rfl) (by simp) ?_
        refine AllReadyH.cons rfl (fun K hK => ?_) AllReadyH.nil
        go_simp
        refine hK.out _ _ ?s1_7 (fun hHeld => ?_)
        case s1_7 => ((try dsimp only) <;> (first | exact ⟨Hk8.out.cell0 q1, Hk8.out.cell0 p3⟩))
        clear hK K
        (try simp only [Act.put, List.getElem_toArray, List.getElem_cons_zero, List.getElem_cons_succ, List.setIfInBounds_toArray, List.set_cons_zero, List.set_cons_succ])
        refine wpAnyH_ready (rs := [3]) (by kernel_rfl) (by simp) ?_
        refine AllReadyH.cons rfl (fun K hK => ?_) AllReadyH.nil
        refine step_append_bytes rfl (.tmp 41) (.tmp 43) rfl HH1.out rfl x.s.A x.s.b.length x.s.cap rfl HR8.out rfl Hn0.out Hl0.out Hs8.out ?_
        intro v9 w9 g1 g2 g3
        rw [List.nil_append] at g1
        have k9 := Hk8.out.grown g2 (fun y hy => .inr (HH1.out.ge8 y hy))
        have Hk9 := Lib.hid k9
        have Hg1 := Lib.hid g1
        clear g1 g2 g3 k9
        refine hK.out _ _ ?s1_8 (fun hHeld => ?_)
        case s1_8 => ((try dsimp only) <;> (first | exact ⟨Hk9.out.cell0 q1, Hk9.out.cell0 p3⟩))
        clear hK K
        (try simp only [Act.put, List.getElem_toArray, List.getElem_cons_zero, List.getElem_cons_succ, List.setIfInBounds_toArray, List.set_cons_zero, List.set_cons_succ])
        refine wpAnyH_ready (rs := [6]) (by kernel_rfl) (by simp) ?_
        refine AllReadyH.cons rfl (fun K hK => ?_) AllReadyH.nil
        refine step_append_zeros rfl (.tmp 44) (.tmp 46) rfl Hg1.out rfl z rfl hz1 Hlz1.out Hk9.out.size ?_
        intro v10 w10 g4 g5 g6
        have k10 := Hk9.out.grown g5 (fun y hy => .inr (Hg1.out.ge8 y hy))
        obtain ⟨a10, c10, rfl, i1, _, r10, _⟩ := g4.rds
        rw [Hlen.out] at i1 ⊢
        have i3 : (z : Int) ≤ (c10 : Int) := by omega
        have Hr10 := Lib.hid (r10.take z)
        have Hk10 := Lib.hid k10
        clear g4 g5 g6 k10 r10
        refine hK.out _ _ ?s1_9 (fun hHeld => ?_)
        case s1_9 => ((try dsimp only) <;> (first | exact ⟨Hk10.out.cell0 q1, Hk10.out.cell0 p3⟩))
        clear hK K
        (try simp only [Act.put, List.getElem_toArray, List.getElem_cons_zero, List.getElem_cons_succ, List.setIfInBounds_toArray, List.set_cons_zero, List.set_cons_succ])
        refine wpAnyH_take (i := 9) (v := ?v1_10) rfl (by kernel_rfl) (by kernel_rfl) (by kernel_rfl) (fun _ _ _ h => h) (Or.inl ⟨by rfl, ?y1_10⟩) (by assumption) ?r1_10
        case y1_10 => (intro w hSw; (try dsimp only at hSw); go_simp; try with_reducible rfl)
        (try simp only [Act.put, List.getElem_toArray, List.getElem_cons_zero, List.getElem_cons_succ, List.setIfInBounds_toArray, List.set_cons_zero, List.set_cons_succ])
        refine wpAnyH_take (i := 10) (v := ?v1_11) rfl (by kernel_rfl) (by kernel_rfl) (by kernel_rfl) (fun _ _ _ h => h) (Or.inl ⟨by rfl, ?y1_11⟩) (by assumption) ?r1_11
        case y1_11 => (intro w hSw; (try dsimp only at hSw); go_simp; try with_reducible rfl)
        (try simp only [Act.put, List.getElem_toArray, List.getElem_cons_zero, List.getElem_cons_succ, List.setIfInBounds_toArray, List.set_cons_zero, List.set_cons_succ])
        refine wpAnyH_done (by kernel_rfl) ?_ _
        refine NoPanic.normal ?_
        have HT := Lib.hid (dtk_calls (c := c10) (HD7.out.keepsNil Hk10.out) Hpm.out (Ht4.out.keeps (HK7.out.trans Hk10.out) (by simp)) ht1 ht2 x.id Hr10.out Hlz.out)
        have q10 := Hk10.out.cell0 q0
        have HK10 := Lib.hid (HK7.out.trans Hk10.out)
        have HFl := Lib.hid hFl
        clear q0 q1 p1 p3 hHeld HD7 Hr10 HH1 HR8 Hk8 Hk9 Hg1 hFl c0 c1
        unfold TkPost at HT
        go_wp2_with fail
        refine HT.out.mono ?_
        rintro e w11 ⟨bb, M', tk', nd', Fl', rfl, hD11, e1, e2, e3, e4, hF11, k11⟩
        have HK11 := Lib.hid (HK10.out.trans' k11 (T := []) (by simp) (fun x hx => .inr (HFl.out x hx)))
        have hB11 := HB4.out.keeps HK11.out (by simp)
        have p11 := hB11.cell' (i := 1) rfl
        have HD11 := Lib.hid hD11
        have HF11 := Lib.hid (show ∀ x ∈ Fl', w4.heap.size ≤ x from fun x hx => by
          rcases hF11 x hx with h | h
          · exact HFl.out x h
          · exact Nat.le_trans HK10.out.size h)
        clear hD11 hF11 k11 hB11 HT q10
        cases bb with
        | true =>
          have hnd1 : (nd : Int) - 1 = (nd' : Int) := by have := e3 rfl; omega
          have hndb0 : (nd : Int) ≤ 80 := by omega
          clear e3 e4
          go_wp2_with fail
          have hne1 : ((nd' : Int) != (nd' : Int)) = false := by simp
          have hne2 : ((tk' : Int) != (tk' : Int)) = false := by simp
          have hsb : (nK : Int) - (nd' : Int) = (tk' : Int) := by omega
          have hwt : IntKind.i64.wrap (tk' : Int) = (tk' : Int) := by rw [IntKind.wrap_i64]; omega
          have hlt0 : decide ((nd' : Int) < 0) = false := by simp
          have hndb : (nd' : Int) ≤ 80 := by omega
          have HN11 := Lib.hid (show nK + P - rank M' = nd' from by omega)
          refine wp_region_noPanic ?_
          refine wp_region_held_drew (S := (fun w' => w'.cell? ⟨w.heap.size, 1, none⟩ = some (.int .i64 nK))) (by kernel_rfl) p11 (fun hHeld => ?_)
          have kd : Keeps [] w11 w11.drew := (Keeps.refl [] w11).drew
          refine wpAnyH_take (i := 0) (v := ?v2_12) rfl (by kernel_rfl) (by kernel_rfl) (by kernel_rfl) (fun _ _ _ h => h) (Or.inl ⟨by rfl, ?y2_12⟩) (by assumption) ?r2_12
          case y2_12 => (intro w hSw; (try dsimp only at hSw); go_simp; try with_reducible rfl)
          (try simp only [Act.put, List.getElem_toArray, List.getElem_cons_zero, List.getElem_cons_succ, List.setIfInBounds_toArray, List.set_cons_zero, List.set_cons_succ])
          refine wpAnyH_take (i := 2) (v := ?v2_13) rfl (by kernel_rfl) (by kernel_rfl) (by kernel_rfl) (fun _ _ _ h => h) (Or.inl ⟨by rfl, ?y2_13⟩) (by assumption) ?r2_13
          case y2_13 => (intro w hSw; (try dsimp only at hSw); go_simp; try with_reducible rfl)
          (try simp only [Act.put, List.getElem_toArray, List.getElem_cons_zero, List.getElem_cons_succ, List.setIfInBounds_toArray, List.set_cons_zero, List.set_cons_succ])
          refine wpAnyH_ready (rs := [1]) (by kernel_rfl) (by simp) ?_
          refine AllReadyH.cons rfl (fun K hK => ?_) AllReadyH.nil
          go_simp
          refine (dneeds_calls (HD11.out.keepsNil kd) Hpm.out).mono ?_
          rintro e w12 ⟨rfl, k12⟩
          rw [HN11.out]
          replace kd := kd.trans k12
          go_wp2_with fail
          refine hK.out _ _ ?s2_14 (fun hHeld => ?_)
          case s2_14 => ((try dsimp only) <;> (first | exact kd.cell0 p11))
          clear hK K
          (try simp only [Act.put, List.getElem_toArray, List.getElem_cons_zero, List.getElem_cons_succ, List.setIfInBounds_toArray, List.set_cons_zero, List.set_cons_succ])
          refine wpAnyH_take (i := 3) (v := ?v2_15) rfl (by kernel_rfl) (by kernel_rfl) (by kernel_rfl) (fun _ _ _ h => h) (Or.inl ⟨by rfl, ?y2_15⟩) (by assumption) ?r2_15
          case y2_15 => (intro w hSw; (try dsimp only at hSw); go_simp; try with_reducible rfl)
          (try simp only [Act.put, List.getElem_toArray, List.getElem_cons_zero, List.getElem_cons_succ, List.setIfInBounds_toArray, List.set_cons_zero, List.set_cons_succ])
          refine wpAnyH_take (i := 4) (v := ?v2_16) rfl (by kernel_rfl) (by kernel_rfl) (by kernel_rfl) (fun _ _ _ h => h) (Or.inl ⟨by rfl, ?y2_16⟩) (by assumption) ?r2_16
          case y2_16 => (intro w hSw; (try dsimp only at hSw); go_simp; try with_reducible rfl)
          (try simp only [Act.put, List.getElem_toArray, List.getElem_cons_zero, List.getElem_cons_succ, List.setIfInBounds_toArray, List.set_cons_zero, List.set_cons_succ])
          refine wpAnyH_take (i := 5) (v := ?v2_17) rfl (by kernel_rfl) (by kernel_rfl) (by kernel_rfl) (fun _ _ _ h => h) (Or.inl ⟨by rfl, ?y2_17⟩) (by assumption) ?r2_17
          case y2_17 => (intro w hSw; (try dsimp only at hSw); go_simp; try with_reducible rfl)
          (try simp only [Act.put, List.getElem_toArray, List.getElem_cons_zero, List.getElem_cons_succ, List.setIfInBounds_toArray, List.set_cons_zero, List.set_cons_succ])
          refine wpAnyH_take (i := 7) (v := ?v2_18) rfl (by kernel_rfl) (by kernel_rfl) (by kernel_rfl) (fun _ _ _ h => h) (Or.inl ⟨by rfl, ?y2_18⟩) (by assumption) ?r2_18
          case y2_18 => (intro w hSw; (try dsimp only at hSw); go_simp; try with_reducible rfl)
          (try simp only [Act.put, List.getElem_toArray, List.getElem_cons_zero, List.getElem_cons_succ, List.setIfInBounds_toArray, List.set_cons_zero, List.set_cons_succ])
          refine wpAnyH_take (i := 8) (v := ?v2_19) rfl (by kernel_rfl) (by kernel_rfl) (by kernel_rfl) (fun _ _ _ h => h) (Or.inl ⟨by rfl, ?y2_19⟩) (by assumption) ?r2_19
          case y2_19 => (intro w hSw; (try dsimp only at hSw); go_simp; try with_reducible rfl)
          (try simp only [Act.put, List.getElem_toArray, List.getElem_cons_zero, List.getElem_cons_succ, List.setIfInBounds_toArray, List.set_cons_zero, List.set_cons_succ])
          refine wpAnyH_take (i := 9) (v := ?v2_20) rfl (by kernel_rfl) (by kernel_rfl) (by kernel_rfl) (fun _ _ _ h => h) (Or.inl ⟨by rfl, ?y2_20⟩) (by assumption) ?r2_20
          case y2_20 => (intro w hSw; (try dsimp only at hSw); go_simp; try with_reducible rfl)
          (try simp only [Act.put, List.getElem_toArray, List.getElem_cons_zero, List.getElem_cons_succ, List.setIfInBounds_toArray, List.set_cons_zero, List.set_cons_succ])
          refine wpAnyH_take (i := 10) (v := ?v2_21) rfl (by kernel_rfl) (by kernel_rfl) (by kernel_rfl) (fun _ _ _ h => h) (Or.inl ⟨by rfl, ?y2_21⟩) (by assumption) ?r2_21
          case y2_21 => (intro w hSw; (try dsimp only at hSw); go_simp; try with_reducible rfl)
          (try simp only [Act.put, List.getElem_toArray, List.getElem_cons_zero, List.getElem_cons_succ, List.setIfInBounds_toArray, List.set_cons_zero, List.set_cons_succ])
          refine wpAnyH_ready (rs := [6]) (by kernel_rfl) (by simp) ?_
          refine AllReadyH.cons rfl (fun K hK => ?_) AllReadyH.nil
          go_simp
          refine (dtaken_calls (HD11.out.keepsNil kd)).mono ?_
          rintro e w' ⟨rfl, rfl⟩
          go_wp2_with fail
          refine hK.out _ _ ?s2_22 (fun hHeld => ?_)
          case s2_22 => ((try dsimp only) <;> (first | exact kd.cell0 p11))
          clear hK K
          (try simp only [Act.put, List.getElem_toArray, List.getElem_cons_zero, List.getElem_cons_succ, List.setIfInBounds_toArray, List.set_cons_zero, List.set_cons_succ])
          refine wpAnyH_take (i := 11) (v := ?v2_23) rfl (by kernel_rfl) (by kernel_rfl) (by kernel_rfl) (fun _ _ _ h => h) (Or.inl ⟨by rfl, ?y2_23⟩) (by assumption) ?r2_23
          case y2_23 => (intro w hSw; (try dsimp only at hSw); go_simp; try with_reducible rfl)
          (try simp only [Act.put, List.getElem_toArray, List.getElem_cons_zero, List.getElem_cons_succ, List.setIfInBounds_toArray, List.set_cons_zero, List.set_cons_succ])
          refine wpAnyH_take (i := 12) (v := ?v2_24) rfl (by kernel_rfl) (by kernel_rfl) (by kernel_rfl) (fun _ _ _ h => h) (Or.inl ⟨by rfl, ?y2_24⟩) (by assumption) ?r2_24
          case y2_24 => (intro w hSw; (try dsimp only at hSw); go_simp; try with_reducible rfl)
          (try simp only [Act.put, List.getElem_toArray, List.getElem_cons_zero, List.getElem_cons_succ, List.setIfInBounds_toArray, List.set_cons_zero, List.set_cons_succ])
          refine wpAnyH_take (i := 13) (v := ?v2_25) rfl (by kernel_rfl) (by kernel_rfl) (by kernel_rfl) (fun _ _ _ h => h) (Or.inl ⟨by rfl, ?y2_25⟩) (by assumption) ?r2_25
          case y2_25 => (intro w hSw; (try dsimp only at hSw); go_simp; try with_reducible rfl)
          (try simp only [Act.put, List.getElem_toArray, List.getElem_cons_zero, List.getElem_cons_succ, List.setIfInBounds_toArray, List.set_cons_zero, List.set_cons_succ])
          refine wpAnyH_take (i := 14) (v := ?v2_26) rfl (by kernel_rfl) (by kernel_rfl) (by kernel_rfl) (fun _ _ _ h => h) (Or.inl ⟨by rfl, ?y2_26⟩) (by assumption) ?r2_26
          case y2_26 => (intro w hSw; (try dsimp only at hSw); go_simp; try with_reducible rfl)
          (try simp only [Act.put, List.getElem_toArray, List.getElem_cons_zero, List.getElem_cons_succ, List.setIfInBounds_toArray, List.set_cons_zero, List.set_cons_succ])
          refine wpAnyH_take (i := 15) (v := ?v2_27) rfl (by kernel_rfl) (by kernel_rfl) (by kernel_rfl) (fun _ _ _ h => h) (Or.inl ⟨by rfl, ?y2_27⟩) (by assumption) ?r2_27
          case y2_27 => (intro w hSw; (try dsimp only at hSw); go_simp; try with_reducible rfl)
          (try simp only [Act.put, List.getElem_toArray, List.getElem_cons_zero, List.getElem_cons_succ, List.setIfInBounds_toArray, List.set_cons_zero, List.set_cons_succ])
          refine wpAnyH_take (i := 16) (v := ?v2_28) rfl (by kernel_rfl) (by kernel_rfl) (by kernel_rfl) (fun _ _ _ h => h) (Or.inl ⟨by rfl, ?y2_28⟩) (by assumption) ?r2_28
          case y2_28 => (intro w hSw; (try dsimp only at hSw); go_simp; try with_reducible rfl)
          (try simp only [Act.put, List.getElem_toArray, List.getElem_cons_zero, List.getElem_cons_succ, List.setIfInBounds_toArray, List.set_cons_zero, List.set_cons_succ])
          refine wpAnyH_done (by kernel_rfl) ?_ _
          refine NoPanic.normal ?_
          have HD12 := Lib.hid (HD11.out.keepsNil kd)
          have HK12 := Lib.hid (HK11.out.trans kd)
          clear p11 kd hHeld hne1 hne2 hsb hlt0 hwt
          go_wp2_with fail
          go_roundw
          case rel => exact ⟨kk + 1, tk', nd', M', Fl', by omega, by go_num, rfl, HD12.out, e1, e2, HF11.out, HK12.out⟩
          case measure => simp [intOf]; omega
        | false =>
          obtain rfl : nd = nd' := e4 rfl
          clear e3 e4
          go_wp2_with fail
          have hne1 : ((nd : Int) != (nd : Int)) = false := by simp
          have hne2 : ((tk' : Int) != (tk' : Int)) = false := by simp
          have hsb : (nK : Int) - (nd : Int) = (tk' : Int) := by omega
          have hwt : IntKind.i64.wrap (tk' : Int) = (tk' : Int) := by rw [IntKind.wrap_i64]; omega
          have hlt0 : decide ((nd : Int) < 0) = false := by simp
          have hndb : (nd : Int) ≤ 80 := by omega
          have HN11 := Lib.hid (show nK + P - rank M' = nd from by omega)
          refine wp_region_noPanic ?_
          refine wp_region_held_drew (S := (fun w' => w'.cell? ⟨w.heap.size, 1, none⟩ = some (.int .i64 nK))) (by kernel_rfl) p11 (fun hHeld => ?_)
          have kd : Keeps [] w11 w11.drew := (Keeps.refl [] w11).drew
          refine wpAnyH_take (i := 0) (v := ?v3_29) rfl (by kernel_rfl) (by kernel_rfl) (by kernel_rfl) (fun _ _ _ h => h) (Or.inl ⟨by rfl, ?y3_29⟩) (by assumption) ?r3_29
          case y3_29 => (intro w hSw; (try dsimp only at hSw); go_simp; try with_reducible rfl)
          (try simp only [Act.put, List.getElem_toArray, List.getElem_cons_zero, List.getElem_cons_succ, List.setIfInBounds_toArray, List.set_cons_zero, List.set_cons_succ])
          refine wpAnyH_take (i := 2) (v := ?v3_30) rfl (by kernel_rfl) (by kernel_rfl) (by kernel_rfl) (fun _ _ _ h => h) (Or.inl ⟨by rfl, ?y3_30⟩) (by assumption) ?r3_30
          case y3_30 => (intro w hSw; (try dsimp only at hSw); go_simp; try with_reducible rfl)
          (try simp only [Act.put, List.getElem_toArray, List.getElem_cons_zero, List.getElem_cons_succ, List.setIfInBounds_toArray, List.set_cons_zero, List.set_cons_succ])
          refine wpAnyH_ready (rs := [1]) (by kernel_rfl) (by simp) ?_
          refine AllReadyH.cons rfl (fun K hK => ?_) AllReadyH.nil
          go_simp
          refine (dneeds_calls (HD11.out.keepsNil kd) Hpm.out).mono ?_
          rintro e w12 ⟨rfl, k12⟩
          rw [HN11.out]
          replace kd := kd.trans k12
          go_wp2_with fail
          refine hK.out _ _ ?s3_31 (fun hHeld => ?_)
          case s3_31 => ((try dsimp only) <;> (first | exact kd.cell0 p11))
          clear hK K
          (try simp only [Act.put, List.getElem_toArray, List.getElem_cons_zero, List.getElem_cons_succ, List.setIfInBounds_toArray, List.set_cons_zero, List.set_cons_succ])
          refine wpAnyH_take (i := 3) (v := ?v3_32) rfl (by kernel_rfl) (by kernel_rfl) (by kernel_rfl) (fun _ _ _ h => h) (Or.inl ⟨by rfl, ?y3_32⟩) (by assumption) ?r3_32
          case y3_32 => (intro w hSw; (try dsimp only at hSw); go_simp; try with_reducible rfl)
          (try simp only [Act.put, List.getElem_toArray, List.getElem_cons_zero, List.getElem_cons_succ, List.setIfInBounds_toArray, List.set_cons_zero, List.set_cons_succ])
          refine wpAnyH_take (i := 4) (v := ?v3_33) rfl (by kernel_rfl) (by kernel_rfl) (by kernel_rfl) (fun _ _ _ h => h) (Or.inl ⟨by rfl, ?y3_33⟩) (by assumption) ?r3_33
          case y3_33 => (intro w hSw; (try dsimp only at hSw); go_simp; try with_reducible rfl)
          (try simp only [Act.put, List.getElem_toArray, List.getElem_cons_zero, List.getElem_cons_succ, List.setIfInBounds_toArray, List.set_cons_zero, List.set_cons_succ])
          refine wpAnyH_take (i := 5) (v := ?v3_34) rfl (by kernel_rfl) (by kernel_rfl) (by kernel_rfl) (fun _ _ _ h => h) (Or.inl ⟨by rfl, ?y3_34⟩) (by assumption) ?r3_34
          case y3_34 => (intro w hSw; (try dsimp only at hSw); go_simp; try with_reducible rfl)
          (try simp only [Act.put, List.getElem_toArray, List.getElem_cons_zero, List.getElem_cons_succ, List.setIfInBounds_toArray, List.set_cons_zero, List.set_cons_succ])
          refine wpAnyH_take (i := 7) (v := ?v3_35) rfl (by kernel_rfl) (by kernel_rfl) (by kernel_rfl) (fun _ _ _ h => h) (Or.inl ⟨by rfl, ?y3_35⟩) (by assumption) ?r3_35
          case y3_35 => (intro w hSw; (try dsimp only at hSw); go_simp; try with_reducible rfl)
          (try simp only [Act.put, List.getElem_toArray, List.getElem_cons_zero, List.getElem_cons_succ, List.setIfInBounds_toArray, List.set_cons_zero, List.set_cons_succ])
          refine wpAnyH_take (i := 8) (v := ?v3_36) rfl (by kernel_rfl) (by kernel_rfl) (by kernel_rfl) (fun _ _ _ h => h) (Or.inl ⟨by rfl, ?y3_36⟩) (by assumption) ?r3_36
          case y3_36 => (intro w hSw; (try dsimp only at hSw); go_simp; try with_reducible rfl)
          (try simp only [Act.put, List.getElem_toArray, List.getElem_cons_zero, List.getElem_cons_succ, List.setIfInBounds_toArray, List.set_cons_zero, List.set_cons_succ])
          refine wpAnyH_take (i := 9) (v := ?v3_37) rfl (by kernel_rfl) (by kernel_rfl) (by kernel_rfl) (fun _ _ _ h => h) (Or.inl ⟨by rfl, ?y3_37⟩) (by assumption) ?r3_37
          case y3_37 => (intro w hSw; (try dsimp only at hSw); go_simp; try with_reducible rfl)
          (try simp only [Act.put, List.getElem_toArray, List.getElem_cons_zero, List.getElem_cons_succ, List.setIfInBounds_toArray, List.set_cons_zero, List.set_cons_succ])
          refine wpAnyH_take (i := 10) (v := ?v3_38) rfl (by kernel_rfl) (by kernel_rfl) (by kernel_rfl) (fun _ _ _ h => h) (Or.inl ⟨by rfl, ?y3_38⟩) (by assumption) ?r3_38
          case y3_38 => (intro w hSw; (try dsimp only at hSw); go_simp; try with_reducible rfl)
          (try simp only [Act.put, List.getElem_toArray, List.getElem_cons_zero, List.getElem_cons_succ, List.setIfInBounds_toArray, List.set_cons_zero, List.set_cons_succ])
          refine wpAnyH_ready (rs := [6]) (by kernel_rfl) (by simp) ?_
          refine AllReadyH.cons rfl (fun K hK => ?_) AllReadyH.nil
          go_simp
          refine (dtaken_calls (HD11.out.keepsNil kd)).mono ?_
          rintro e w' ⟨rfl, rfl⟩
          go_wp2_with fail
          refine hK.out _ _ ?s3_39 (fun hHeld => ?_)
          case s3_39 => ((try dsimp only) <;> (first | exact kd.cell0 p11))
          clear hK K
          (try simp only [Act.put, List.getElem_toArray, List.getElem_cons_zero, List.getElem_cons_succ, List.setIfInBounds_toArray, List.set_cons_zero, List.set_cons_succ])
          refine wpAnyH_take (i := 11) (v := ?v3_40) rfl (by kernel_rfl) (by kernel_rfl) (by kernel_rfl) (fun _ _ _ h => h) (Or.inl ⟨by rfl, ?y3_40⟩) (by assumption) ?r3_40
          case y3_40 => (intro w hSw; (try dsimp only at hSw); go_simp; try with_reducible rfl)
          (try simp only [Act.put, List.getElem_toArray, List.getElem_cons_zero, List.getElem_cons_succ, List.setIfInBounds_toArray, List.set_cons_zero, List.set_cons_succ])
          refine wpAnyH_take (i := 12) (v := ?v3_41) rfl (by kernel_rfl) (by kernel_rfl) (by kernel_rfl) (fun _ _ _ h => h) (Or.inl ⟨by rfl, ?y3_41⟩) (by assumption) ?r3_41
          case y3_41 => (intro w hSw; (try dsimp only at hSw); go_simp; try with_reducible rfl)
          (try simp only [Act.put, List.getElem_toArray, List.getElem_cons_zero, List.getElem_cons_succ, List.setIfInBounds_toArray, List.set_cons_zero, List.set_cons_succ])
          refine wpAnyH_take (i := 13) (v := ?v3_42) rfl (by kernel_rfl) (by kernel_rfl) (by kernel_rfl) (fun _ _ _ h => h) (Or.inl ⟨by rfl, ?y3_42⟩) (by assumption) ?r3_42
          case y3_42 => (intro w hSw; (try dsimp only at hSw); go_simp; try with_reducible rfl)
          (try simp only [Act.put, List.getElem_toArray, List.getElem_cons_zero, List.getElem_cons_succ, List.setIfInBounds_toArray, List.set_cons_zero, List.set_cons_succ])
          refine wpAnyH_take (i := 14) (v := ?v3_43) rfl (by kernel_rfl) (by kernel_rfl) (by kernel_rfl) (fun _ _ _ h => h) (Or.inl ⟨by rfl, ?y3_43⟩) (by assumption) ?r3_43
          case y3_43 => (intro w hSw; (try dsimp only at hSw); go_simp; try with_reducible rfl)
          (try simp only [Act.put, List.getElem_toArray, List.getElem_cons_zero, List.getElem_cons_succ, List.setIfInBounds_toArray, List.set_cons_zero, List.set_cons_succ])
          refine wpAnyH_take (i := 15) (v := ?v3_44) rfl (by kernel_rfl) (by kernel_rfl) (by kernel_rfl) (fun _ _ _ h => h) (Or.inl ⟨by rfl, ?y3_44⟩) (by assumption) ?r3_44
          case y3_44 => (intro w hSw; (try dsimp only at hSw); go_simp; try with_reducible rfl)
          (try simp only [Act.put, List.getElem_toArray, List.getElem_cons_zero, List.getElem_cons_succ, List.setIfInBounds_toArray, List.set_cons_zero, List.set_cons_succ])
          refine wpAnyH_take (i := 16) (v := ?v3_45) rfl (by kernel_rfl) (by kernel_rfl) (by kernel_rfl) (fun _ _ _ h => h) (Or.inl ⟨by rfl, ?y3_45⟩) (by assumption) ?r3_45
          case y3_45 => (intro w hSw; (try dsimp only at hSw); go_simp; try with_reducible rfl)
          (try simp only [Act.put, List.getElem_toArray, List.getElem_cons_zero, List.getElem_cons_succ, List.setIfInBounds_toArray, List.set_cons_zero, List.set_cons_succ])
          refine wpAnyH_done (by kernel_rfl) ?_ _
          refine NoPanic.normal ?_
          have HD12 := Lib.hid (HD11.out.keepsNil kd)
          have HK12 := Lib.hid (HK11.out.trans kd)
          clear p11 kd hHeld hne1 hne2 hsb hlt0 hwt
          go_wp2_with fail
          go_roundw
          case rel => exact ⟨kk + 1, tk', nd, M', Fl', by omega, by go_num, rfl, HD12.out, e1, e2, HF11.out, HK12.out⟩
          case measure => simp [intOf]; omega
      · obtain rfl : kk = l.length := by omega
        have HKr := Lib.hid hK
        clear hD hFl hK
        go_wp2_with fail
        refine (awake12_calls (Ht4.out.keeps HKr.out (by simp))).mono ?_
        rintro e wz ⟨rfl, kz⟩
        go_wp2_with fail
        go_ret
        exact ⟨rfl, (K4.out.trans HKr.out).trans kz⟩

end Go.Proofs.YtghgmchgbhdldaaGreatDoor
