/-
  RefCell: the reference's cell, walked: copyOf, newest, Peek, ReadCell, WriteCell.
-/
import Derived.Test.YthjojkkjdaoocaaRefC
import Derived.Test.YthjojkkjdaoocaaRefR
import Derived.Test.YthjojkkjdaoocaaNumB
import Derived.Test.YthjojkkjdaoocaaCellT3
import Derived.Test.YthjojkkjdaoocaaRefN
set_option linter.unusedVariables false
set_option linter.unusedSimpArgs false
namespace Go.Proofs.Ythjojkkjdaoocaa
open Go.RowKit
attribute [local go_sem ↓] Go.wp_at_zero Go.wp_at_succ

def R3Post (w : World) (r : Option (UInt32 × List UInt8)) (e : Ending) (w' : World) : Prop :=
  ∃ v, e = .returned (.tuple #[B32 ((r.map (·.1)).getD 0), v, .bool r.isSome]) ∧ Sl w' w.heap.size v ((r.map (·.2)).getD []) ∧ Keeps [] w w'

theorem num2 {S : List UInt8} (h : S.length = 256) : numFold ((S.drop 4).take 2) = UInt32.ofNat (cpLen S) ∧ cpLen S < 65536 := by
  have e : (S.drop 4).take 2 = [S.getD 4 0, S.getD 5 0] := by
    apply ext_getD
    · rw [List.length_take, List.length_drop, h]; rfl
    · intro i hi
      rw [List.length_take, List.length_drop, h] at hi
      have : i = 0 ∨ i = 1 := by omega
      rcases this with rfl | rfl <;> simp [List.getD, List.getElem?_take, List.getElem?_drop]
  have h4 := (S.getD 4 0).toNat_lt
  have h5 := (S.getD 5 0).toNat_lt
  unfold cpLen
  refine ⟨?_, by omega⟩
  rw [e]
  generalize S.getD 4 0 = x at *
  generalize S.getD 5 0 = y at *
  apply UInt32.toNat_inj.1
  have e2 : numFold [x, y] = (x.toUInt32 <<< 8) ||| y.toUInt32 := by unfold numFold; simp
  rw [e2, UInt32.toNat_or, UInt32.toNat_ofNat', UInt32.toNat_shiftLeft, UInt8.toNat_toUInt32, UInt8.toNat_toUInt32]
  show x.toNat <<< 8 % 4294967296 ||| y.toNat = (x.toNat * 256 + y.toNat) % 4294967296
  rw [Nat.mod_eq_of_lt (by rw [Nat.shiftLeft_eq]; omega), or_place _ _ 8 h5]
  omega

theorem num4_fold {S : List UInt8} (h : 4 ≤ S.length) : numFold (S.take 4) = num4 S := by
  match S, h with
  | a :: b :: c :: d :: r, _ =>
    unfold numFold num4 be32
    apply UInt32.toNat_inj.1
    have e := be32_toNat a b c d
    unfold be32 at e
    simp only [List.take_succ_cons, List.take_zero, List.foldl_cons, List.foldl_nil]
    show _ = (a.toUInt32 <<< 24 ||| b.toUInt32 <<< 16 ||| c.toUInt32 <<< 8 ||| d.toUInt32).toNat
    rw [e]
    have ha := a.toNat_lt
    have hb := b.toNat_lt
    have hc := c.toNat_lt
    have hd := d.toNat_lt
    have step (y : UInt32) (x : UInt8) (hy : y.toNat < 16777216) : ((y <<< 8) ||| x.toUInt32).toNat = y.toNat * 256 + x.toNat := by
      have hx := x.toNat_lt
      rw [UInt32.toNat_or, UInt32.toNat_shiftLeft, UInt8.toNat_toUInt32]
      show y.toNat <<< 8 % 4294967296 ||| x.toNat = _
      rw [Nat.mod_eq_of_lt (by rw [Nat.shiftLeft_eq]; omega), or_place _ _ 8 hx]
    have z0 : (0 : UInt32).toNat = 0 := rfl
    have s1 := step 0 a (by rw [z0]; omega)
    have s2 := step _ b (show ((0 : UInt32) <<< 8 ||| a.toUInt32).toNat < 16777216 by rw [s1, z0]; omega)
    have s3 := step _ c (show (((0 : UInt32) <<< 8 ||| a.toUInt32) <<< 8 ||| b.toUInt32).toNat < 16777216 by rw [s2, s1, z0]; omega)
    have s4 := step _ d (show ((((0 : UInt32) <<< 8 ||| a.toUInt32) <<< 8 ||| b.toUInt32) <<< 8 ||| c.toUInt32).toNat < 16777216 by rw [s3, s2, s1, z0]; omega)
    rw [s4, s3, s2, s1, z0]
    omega


theorem num4_of {L m : List UInt8} {j : Nat} (h : L.take j = crcPut m) (hm : 4 ≤ m.length) : num4 L = num4 m := by
  have e : ∀ i, i < 4 → L.getD i 0 = m.getD i 0 := by
    intro i hi
    have h1 : (L.take j).getD i 0 = m.getD i 0 := by rw [h]; unfold crcPut; exact getD_app_left (by omega)
    have h2 : i < (L.take j).length := by rw [h, crcPut_len]; omega
    rw [List.length_take] at h2
    rw [← h1, List.getD, List.getD, List.getElem?_take, if_pos (by omega)]
  unfold num4
  rw [e 0 (by omega), e 1 (by omega), e 2 (by omega), e 3 (by omega)]

set_option maxRecDepth 100000 in
set_option maxHeartbeats 4000000 in
theorem copyOf_calls0 {w : World} (q : Nat) (S : List UInt8) (rv : List Value) (b : List UInt8) (hb : Blk w q 5 (b.map B8 ++ rv)) (hbl : b.length = 3584) (hS : S = secOf b 0) :
    Calls Try.prog 95 #[.slice (some ⟨q, 0, none⟩) 3584 3584, .int .i64 0] w (R3Post w (cellCopy S)) := by
  have hlen : S.length = 256 := by rw [hS]; exact secOf_len hbl (by omega)
  have hby : ∀ i, i < 256 → w.cell? ⟨q, 0 + i, none⟩ = some (B8 (S.getD i 0)) := fun i hi => by
    have := hb.byteAt (i := 0 + i) (by omega)
    rw [hS, secOf_getD hi]
    exact this
  have hrd : Rd w (some ⟨q, 0, none⟩) S := by
    have := hb.rdSub 0 256
    rw [hS]; exact this
  have hn2 : numFold ((S.drop 4).take 2) = UInt32.ofNat (cpLen S) ∧ cpLen S < 65536 := num2 hlen
  have hrd4 : Rd w (some ⟨q, 0 + 4, none⟩) ((S.drop 4).take 2) := (hrd.drop 4).take 2
  have hN := number_calls (some ⟨q, 0 + 4, none⟩) 2 (3584 - 0 - 4) _ hrd4 (by rw [List.length_take, List.length_drop]; omega) (by omega)
  rw [hn2.1] at hN
  have hl2 := hn2.2
  have hcc : cellCopy S = if cpLen S > 245 then none else if S.getD (10 + cpLen S) 0 ≠ 0 then none else (crcRight (S.take (10 + cpLen S))).map fun x => (num4 S, x.drop 6) := rfl
  have hnn : (UInt32.ofNat (cpLen S)).toNat = cpLen S := by rw [UInt32.toNat_ofNat']; show cpLen S % 4294967296 = _; omega
  generalize UInt32.ofNat (cpLen S) = N at *
  generalize cpLen S = n at *
  have Hcc := Lib.hid hcc
  have HN := Lib.hid hN
  have Hnn := Lib.hid hnn
  clear hcc hN hnn hn2 hrd4 hb hbl hS
  by_cases hn : 245 < n
  · have E := Lib.hid (show cellCopy S = none from by rw [Hcc.out, if_pos hn])
    clear Hcc hby hrd hlen
    go_enter Try.func95, Try.ntmps95
    go_wp2_with fail
    refine HN.out.mono ?_
    rintro e w' ⟨rfl, rfl⟩
    unfold B32
    rw [Hnn.out]
    go_wp2_with fail
    go_ret3
    exact ⟨_, by rw [E.out]; rfl, by rw [E.out]; exact Sl.nil _ _, Keeps.refl _ _⟩
  have hlt : (S.take (10 + n)).length = 10 + n := by rw [List.length_take]; omega
  have hR := rright_calls (w := w) (some ⟨q, 0, none⟩) (10 + n) (3584 - 0) (S.take (10 + n)) (hrd.take _) hlt (by omega) (by omega) (by omega) (by simp)
  have hm := hby (10 + n) (by omega)
  (try rw [Nat.zero_add] at hm)
  unfold RightPost at hR
  cases hcr : crcRight (S.take (10 + n)) with
  | none =>
    have E := Lib.hid (show cellCopy S = none from by rw [Hcc.out, if_neg hn, hcr]; split <;> rfl)
    rw [hcr] at hR
    have HR := Lib.hid hR
    clear Hcc hby hrd hlen hR hm hlt hcr
    go_enter Try.func95, Try.ntmps95
    go_wp2_with fail
    refine HN.out.mono ?_
    rintro e w' ⟨rfl, rfl⟩
    unfold B32
    rw [Hnn.out]
    go_wp2_with fail
    refine HR.out.mono ?_
    rintro e w1 ⟨v1, rfl, hv1, hk1⟩
    obtain ⟨a1, c1, rfl, _⟩ := hv1.sl
    go_wp2_with fail
    go_ret3
    exact ⟨_, by rw [E.out]; rfl, by rw [E.out]; exact Sl.nil _ _, hk1⟩
  | some m =>
    rw [hcr] at hR
    have hpt := (crcRight_some hcr).1
    have hml : m.length = n + 6 := by
      have := congrArg List.length hpt
      rw [hlt, crcPut_len] at this
      omega
    have hnum := num4_of hpt (by omega)
    have hnf : numFold (m.take 4) = num4 S := by rw [hnum]; exact num4_fold (by omega)
    have HR := Lib.hid hR
    by_cases hz : S.getD (10 + n) 0 = 0
    · rw [hz] at hm
      have E := Lib.hid (show cellCopy S = some (num4 S, m.drop 6) from by rw [Hcc.out, if_neg hn, if_neg (by simpa using hz), hcr]; rfl)
      clear Hcc hby hrd hlen hR hlt hcr hpt hz hnum
      have Hnf := Lib.hid hnf
      clear hnf
      go_enter Try.func95, Try.ntmps95
      go_wp2_with fail
      refine HN.out.mono ?_
      rintro e w' ⟨rfl, rfl⟩
      unfold B32
      rw [Hnn.out]
      go_wp2_with fail
      refine HR.out.mono ?_
      rintro e w1 ⟨v1, rfl, hv1, hk1⟩
      dsimp only [Option.getD_some] at hv1
      have hm1 := hk1.cell hm
      obtain ⟨g3, c3, r3, rfl, hc3, hcm3, hg31, hg32, hB3⟩ := hv1.rowc (by rintro rfl; simp at hml)
      rw [hml] at hc3 ⊢
      go_wp2_with fail
      have hNm := number_calls (w := w1.drew) (some ⟨g3, 0, none⟩) 4 c3 (m.take 4) ((hB3.drew.rdSub 0 4)) (by rw [List.length_take]; omega) (by omega)
      rw [Hnf.out] at hNm
      have HNm := Lib.hid hNm
      have hS : ∀ w4 a, Keeps [] w1 w4 → (a = some ⟨g3, 6, none⟩ ∨ (a = some ⟨g3, 0, none⟩ ∧ c3 = 6)) → Sl w4 w.heap.size (.slice a n (c3 - 6)) (m.drop 6) := by
        intro w4 a hk4 ha
        have hdl : (m.drop 6).length = n := by rw [List.length_drop]; omega
        refine ⟨a, c3 - 6, by rw [hdl], by omega, by omega, ?_, by rintro rfl; simp at ha, ?_⟩
        · rcases ha with rfl | ⟨rfl, h6⟩
          · refine Rd.blk (hB3.keeps hk4 (by simp)) 6 _ ?_
            intro i u hu
            rw [List.getElem?_drop] at hu
            rw [List.getElem?_append_left (by rw [List.length_map]; exact (List.getElem?_eq_some_iff.1 hu).1), List.getElem?_map, hu]
            rfl
          · have : m.drop 6 = [] := List.length_eq_zero_iff.1 (by omega)
            rw [this]; exact Rd.nil _ _
        · intro x hx _
          rcases ha with rfl | ⟨rfl, h6⟩ <;> simp only [Option.some.injEq] at hx <;> subst hx <;> exact ⟨hg31, (hB3.keeps hk4 (by simp)).lt⟩
      have i6 : (6 : Int) ≤ (n : Int) + 6 := by omega
      have i4 : (4 : Int) ≤ (c3 : Int) := by omega
      have HS := Lib.hid hS
      clear hNm hS hB3 HR HN hm hm1
      by_cases h6 : c3 = 6
      · subst h6
        obtain rfl : n = 0 := by omega
        have i4' : (4 : Int) ≤ 6 := by omega
        refine wp_region_noPanic ?_
        refine wp_region_held_drew (S := (fun _ => True)) (by kernel_rfl) trivial (fun hHeld => ?_)
        refine wpAnyH_take (i := 0) (v := ?v1_1) rfl (by kernel_rfl) (by kernel_rfl) (by kernel_rfl) (fun _ _ _ h => h) (Or.inl ⟨by rfl, ?y1_1⟩) (by assumption) ?r1_1
        case y1_1 => (intro w hSw; (try dsimp only at hSw); go_simp; try with_reducible rfl)
        (try simp only [Act.put, List.getElem_toArray, List.getElem_cons_zero, List.getElem_cons_succ, List.setIfInBounds_toArray, List.set_cons_zero, List.set_cons_succ])
        refine wpAnyH_take (i := 1) (v := ?v1_2) rfl (by kernel_rfl) (by kernel_rfl) (by kernel_rfl) (fun _ _ _ h => h) (Or.inl ⟨by rfl, ?y1_2⟩) (by assumption) ?r1_2
        case y1_2 => (intro w hSw; (try dsimp only at hSw); go_simp; try with_reducible rfl)
        (try simp only [Act.put, List.getElem_toArray, List.getElem_cons_zero, List.getElem_cons_succ, List.setIfInBounds_toArray, List.set_cons_zero, List.set_cons_succ])
        refine wpAnyH_take (i := 3) (v := ?v1_3) rfl (by kernel_rfl) (by kernel_rfl) (by kernel_rfl) (fun _ _ _ h => h) (Or.inl ⟨by rfl, ?y1_3⟩) (by assumption) ?r1_3
        case y1_3 => (intro w hSw; (try dsimp only at hSw); go_simp; try with_reducible rfl)
        (try simp only [Act.put, List.getElem_toArray, List.getElem_cons_zero, List.getElem_cons_succ, List.setIfInBounds_toArray, List.set_cons_zero, List.set_cons_succ])
        refine wpAnyH_take (i := 4) (v := ?v1_4) rfl (by kernel_rfl) (by kernel_rfl) (by kernel_rfl) (fun _ _ _ h => h) (Or.inl ⟨by rfl, ?y1_4⟩) (by assumption) ?r1_4
        case y1_4 => (intro w hSw; (try dsimp only at hSw); go_simp; try with_reducible rfl)
        (try simp only [Act.put, List.getElem_toArray, List.getElem_cons_zero, List.getElem_cons_succ, List.setIfInBounds_toArray, List.set_cons_zero, List.set_cons_succ])
        refine wpAnyH_ready (rs := [2]) (by kernel_rfl) (by simp) ?_
        refine AllReadyH.cons rfl (fun K hK => ?_) AllReadyH.nil
        go_simp
        refine HNm.out.mono ?_
        rintro e w' ⟨rfl, rfl⟩
        go_wp2_with fail
        refine hK.out _ _ ?s1_5 (fun hHeld => ?_)
        case s1_5 => ((try dsimp only) <;> (first | exact trivial))
        clear hK K
        (try simp only [Act.put, List.getElem_toArray, List.getElem_cons_zero, List.getElem_cons_succ, List.setIfInBounds_toArray, List.set_cons_zero, List.set_cons_succ])
        refine wpAnyH_take (i := 5) (v := ?v1_6) rfl (by kernel_rfl) (by kernel_rfl) (by kernel_rfl) (fun _ _ _ h => h) (Or.inl ⟨by rfl, ?y1_6⟩) (by assumption) ?r1_6
        case y1_6 => (intro w hSw; (try dsimp only at hSw); go_simp; try with_reducible rfl)
        (try simp only [Act.put, List.getElem_toArray, List.getElem_cons_zero, List.getElem_cons_succ, List.setIfInBounds_toArray, List.set_cons_zero, List.set_cons_succ])
        refine wpAnyH_take (i := 6) (v := ?v1_7) rfl (by kernel_rfl) (by kernel_rfl) (by kernel_rfl) (fun _ _ _ h => h) (Or.inl ⟨by rfl, ?y1_7⟩) (by assumption) ?r1_7
        case y1_7 => (intro w hSw; (try dsimp only at hSw); go_simp; try with_reducible rfl)
        (try simp only [Act.put, List.getElem_toArray, List.getElem_cons_zero, List.getElem_cons_succ, List.setIfInBounds_toArray, List.set_cons_zero, List.set_cons_succ])
        refine wpAnyH_take (i := 7) (v := ?v1_8) rfl (by kernel_rfl) (by kernel_rfl) (by kernel_rfl) (fun _ _ _ h => h) (Or.inl ⟨by rfl, ?y1_8⟩) (by assumption) ?r1_8
        case y1_8 => (intro w hSw; (try dsimp only at hSw); go_simp; try with_reducible rfl)
        (try simp only [Act.put, List.getElem_toArray, List.getElem_cons_zero, List.getElem_cons_succ, List.setIfInBounds_toArray, List.set_cons_zero, List.set_cons_succ])
        refine wpAnyH_done (by kernel_rfl) ?_ _
        refine NoPanic.normal ?_
        go_wp2_with fail
        go_ret3
        refine ⟨_, by rw [E.out]; rfl, ?_, hk1.drew⟩
        rw [E.out]
        have := (HS.out _ (some ⟨g3, 0, none⟩) ((Keeps.refl [] w1).drew) (.inr (by simp)))
        dsimp only [Option.map_some, Option.getD_some]
        exact this
      · have h6' := h6
        clear h6'
        refine wp_region_noPanic ?_
        refine wp_region_held_drew (S := (fun _ => True)) (by kernel_rfl) trivial (fun hHeld => ?_)
        refine wpAnyH_take (i := 0) (v := ?v2_9) rfl (by kernel_rfl) (by kernel_rfl) (by kernel_rfl) (fun _ _ _ h => h) (Or.inl ⟨by rfl, ?y2_9⟩) (by assumption) ?r2_9
        case y2_9 => (intro w hSw; (try dsimp only at hSw); go_simp; try with_reducible rfl)
        (try simp only [Act.put, List.getElem_toArray, List.getElem_cons_zero, List.getElem_cons_succ, List.setIfInBounds_toArray, List.set_cons_zero, List.set_cons_succ])
        refine wpAnyH_take (i := 1) (v := ?v2_10) rfl (by kernel_rfl) (by kernel_rfl) (by kernel_rfl) (fun _ _ _ h => h) (Or.inl ⟨by rfl, ?y2_10⟩) (by assumption) ?r2_10
        case y2_10 => (intro w hSw; (try dsimp only at hSw); go_simp; try with_reducible rfl)
        (try simp only [Act.put, List.getElem_toArray, List.getElem_cons_zero, List.getElem_cons_succ, List.setIfInBounds_toArray, List.set_cons_zero, List.set_cons_succ])
        refine wpAnyH_take (i := 3) (v := ?v2_11) rfl (by kernel_rfl) (by kernel_rfl) (by kernel_rfl) (fun _ _ _ h => h) (Or.inl ⟨by rfl, ?y2_11⟩) (by assumption) ?r2_11
        case y2_11 => (intro w hSw; (try dsimp only at hSw); go_simp; try with_reducible rfl)
        (try simp only [Act.put, List.getElem_toArray, List.getElem_cons_zero, List.getElem_cons_succ, List.setIfInBounds_toArray, List.set_cons_zero, List.set_cons_succ])
        refine wpAnyH_take (i := 4) (v := ?v2_12) rfl (by kernel_rfl) (by kernel_rfl) (by kernel_rfl) (fun _ _ _ h => h) (Or.inl ⟨by rfl, ?y2_12⟩) (by assumption) ?r2_12
        case y2_12 => (intro w hSw; (try dsimp only at hSw); go_simp; try with_reducible rfl)
        (try simp only [Act.put, List.getElem_toArray, List.getElem_cons_zero, List.getElem_cons_succ, List.setIfInBounds_toArray, List.set_cons_zero, List.set_cons_succ])
        refine wpAnyH_ready (rs := [2]) (by kernel_rfl) (by simp) ?_
        refine AllReadyH.cons rfl (fun K hK => ?_) AllReadyH.nil
        go_simp
        refine HNm.out.mono ?_
        rintro e w' ⟨rfl, rfl⟩
        go_wp2_with fail
        refine hK.out _ _ ?s2_13 (fun hHeld => ?_)
        case s2_13 => ((try dsimp only) <;> (first | exact trivial))
        clear hK K
        (try simp only [Act.put, List.getElem_toArray, List.getElem_cons_zero, List.getElem_cons_succ, List.setIfInBounds_toArray, List.set_cons_zero, List.set_cons_succ])
        refine wpAnyH_take (i := 5) (v := ?v2_14) rfl (by kernel_rfl) (by kernel_rfl) (by kernel_rfl) (fun _ _ _ h => h) (Or.inl ⟨by rfl, ?y2_14⟩) (by assumption) ?r2_14
        case y2_14 => (intro w hSw; (try dsimp only at hSw); go_simp; try with_reducible rfl)
        (try simp only [Act.put, List.getElem_toArray, List.getElem_cons_zero, List.getElem_cons_succ, List.setIfInBounds_toArray, List.set_cons_zero, List.set_cons_succ])
        refine wpAnyH_take (i := 6) (v := ?v2_15) rfl (by kernel_rfl) (by kernel_rfl) (by kernel_rfl) (fun _ _ _ h => h) (Or.inl ⟨by rfl, ?y2_15⟩) (by assumption) ?r2_15
        case y2_15 => (intro w hSw; (try dsimp only at hSw); go_simp; try with_reducible rfl)
        (try simp only [Act.put, List.getElem_toArray, List.getElem_cons_zero, List.getElem_cons_succ, List.setIfInBounds_toArray, List.set_cons_zero, List.set_cons_succ])
        refine wpAnyH_take (i := 7) (v := ?v2_16) rfl (by kernel_rfl) (by kernel_rfl) (by kernel_rfl) (fun _ _ _ h => h) (Or.inl ⟨by rfl, ?y2_16⟩) (by assumption) ?r2_16
        case y2_16 => (intro w hSw; (try dsimp only at hSw); go_simp; try with_reducible rfl)
        (try simp only [Act.put, List.getElem_toArray, List.getElem_cons_zero, List.getElem_cons_succ, List.setIfInBounds_toArray, List.set_cons_zero, List.set_cons_succ])
        refine wpAnyH_done (by kernel_rfl) ?_ _
        refine NoPanic.normal ?_
        go_wp2_with fail
        go_ret3
        refine ⟨_, by rw [E.out]; rfl, ?_, hk1.drew⟩
        rw [E.out]
        have := (HS.out _ (some ⟨g3, 6, none⟩) ((Keeps.refl [] w1).drew) (.inl rfl))
        dsimp only [Option.map_some, Option.getD_some]
        exact this
    · have hm1 : (((S.getD (10 + n) 0).toNat : Int) == 0) = false := by
        rw [beq_eq_false_iff_ne]; intro h; exact hz (UInt8.toNat_inj.1 (by simpa using h))
      have hm' : (((S.getD (10 + n) 0).toNat : Int) != 0) = true := by rw [bne, hm1]; rfl
      have E := Lib.hid (show cellCopy S = none from by rw [Hcc.out, if_neg hn, if_pos hz])
      generalize S.getD (10 + n) 0 = mk at *
      clear Hcc hby hrd hlen hR hlt hcr hpt hnum hnf hm1 hz
      go_enter Try.func95, Try.ntmps95
      go_wp2_with fail
      refine HN.out.mono ?_
      rintro e w' ⟨rfl, rfl⟩
      unfold B32
      rw [Hnn.out]
      go_wp2_with fail
      refine HR.out.mono ?_
      rintro e w1 ⟨v1, rfl, hv1, hk1⟩
      have hm1 := hk1.cell hm
      obtain ⟨a1, c1, rfl, _⟩ := hv1.sl
      go_wp2_with fail
      go_ret3
      exact ⟨_, by rw [E.out]; rfl, by rw [E.out]; exact Sl.nil _ _, hk1⟩


set_option maxRecDepth 100000 in
set_option maxHeartbeats 4000000 in
theorem copyOf_calls1 {w : World} (q : Nat) (S : List UInt8) (rv : List Value) (b : List UInt8) (hb : Blk w q 5 (b.map B8 ++ rv)) (hbl : b.length = 3584) (hS : S = secOf b 1) :
    Calls Try.prog 95 #[.slice (some ⟨q, 0, none⟩) 3584 3584, .int .i64 1] w (R3Post w (cellCopy S)) := by
  have hlen : S.length = 256 := by rw [hS]; exact secOf_len hbl (by omega)
  have hby : ∀ i, i < 256 → w.cell? ⟨q, 256 + i, none⟩ = some (B8 (S.getD i 0)) := fun i hi => by
    have := hb.byteAt (i := 256 + i) (by omega)
    rw [hS, secOf_getD hi]
    exact this
  have hrd : Rd w (some ⟨q, 256, none⟩) S := by
    have := hb.rdSub 256 256
    rw [hS]; exact this
  have hn2 : numFold ((S.drop 4).take 2) = UInt32.ofNat (cpLen S) ∧ cpLen S < 65536 := num2 hlen
  have hrd4 : Rd w (some ⟨q, 256 + 4, none⟩) ((S.drop 4).take 2) := (hrd.drop 4).take 2
  have hN := number_calls (some ⟨q, 256 + 4, none⟩) 2 (3584 - 256 - 4) _ hrd4 (by rw [List.length_take, List.length_drop]; omega) (by omega)
  rw [hn2.1] at hN
  have hl2 := hn2.2
  have hcc : cellCopy S = if cpLen S > 245 then none else if S.getD (10 + cpLen S) 0 ≠ 0 then none else (crcRight (S.take (10 + cpLen S))).map fun x => (num4 S, x.drop 6) := rfl
  have hnn : (UInt32.ofNat (cpLen S)).toNat = cpLen S := by rw [UInt32.toNat_ofNat']; show cpLen S % 4294967296 = _; omega
  generalize UInt32.ofNat (cpLen S) = N at *
  generalize cpLen S = n at *
  have Hcc := Lib.hid hcc
  have HN := Lib.hid hN
  have Hnn := Lib.hid hnn
  clear hcc hN hnn hn2 hrd4 hb hbl hS
  by_cases hn : 245 < n
  · have E := Lib.hid (show cellCopy S = none from by rw [Hcc.out, if_pos hn])
    clear Hcc hby hrd hlen
    go_enter Try.func95, Try.ntmps95
    go_wp2_with fail
    refine HN.out.mono ?_
    rintro e w' ⟨rfl, rfl⟩
    unfold B32
    rw [Hnn.out]
    go_wp2_with fail
    go_ret3
    exact ⟨_, by rw [E.out]; rfl, by rw [E.out]; exact Sl.nil _ _, Keeps.refl _ _⟩
  have hlt : (S.take (10 + n)).length = 10 + n := by rw [List.length_take]; omega
  have hR := rright_calls (w := w) (some ⟨q, 256, none⟩) (10 + n) (3584 - 256) (S.take (10 + n)) (hrd.take _) hlt (by omega) (by omega) (by omega) (by simp)
  have hm := hby (10 + n) (by omega)
  (try rw [Nat.zero_add] at hm)
  unfold RightPost at hR
  cases hcr : crcRight (S.take (10 + n)) with
  | none =>
    have E := Lib.hid (show cellCopy S = none from by rw [Hcc.out, if_neg hn, hcr]; split <;> rfl)
    rw [hcr] at hR
    have HR := Lib.hid hR
    clear Hcc hby hrd hlen hR hm hlt hcr
    go_enter Try.func95, Try.ntmps95
    go_wp2_with fail
    refine HN.out.mono ?_
    rintro e w' ⟨rfl, rfl⟩
    unfold B32
    rw [Hnn.out]
    go_wp2_with fail
    refine HR.out.mono ?_
    rintro e w1 ⟨v1, rfl, hv1, hk1⟩
    obtain ⟨a1, c1, rfl, _⟩ := hv1.sl
    go_wp2_with fail
    go_ret3
    exact ⟨_, by rw [E.out]; rfl, by rw [E.out]; exact Sl.nil _ _, hk1⟩
  | some m =>
    rw [hcr] at hR
    have hpt := (crcRight_some hcr).1
    have hml : m.length = n + 6 := by
      have := congrArg List.length hpt
      rw [hlt, crcPut_len] at this
      omega
    have hnum := num4_of hpt (by omega)
    have hnf : numFold (m.take 4) = num4 S := by rw [hnum]; exact num4_fold (by omega)
    have HR := Lib.hid hR
    by_cases hz : S.getD (10 + n) 0 = 0
    · rw [hz] at hm
      have E := Lib.hid (show cellCopy S = some (num4 S, m.drop 6) from by rw [Hcc.out, if_neg hn, if_neg (by simpa using hz), hcr]; rfl)
      clear Hcc hby hrd hlen hR hlt hcr hpt hz hnum
      have Hnf := Lib.hid hnf
      clear hnf
      go_enter Try.func95, Try.ntmps95
      go_wp2_with fail
      refine HN.out.mono ?_
      rintro e w' ⟨rfl, rfl⟩
      unfold B32
      rw [Hnn.out]
      go_wp2_with fail
      refine HR.out.mono ?_
      rintro e w1 ⟨v1, rfl, hv1, hk1⟩
      dsimp only [Option.getD_some] at hv1
      have hm1 := hk1.cell hm
      obtain ⟨g3, c3, r3, rfl, hc3, hcm3, hg31, hg32, hB3⟩ := hv1.rowc (by rintro rfl; simp at hml)
      rw [hml] at hc3 ⊢
      go_wp2_with fail
      have hNm := number_calls (w := w1.drew) (some ⟨g3, 0, none⟩) 4 c3 (m.take 4) ((hB3.drew.rdSub 0 4)) (by rw [List.length_take]; omega) (by omega)
      rw [Hnf.out] at hNm
      have HNm := Lib.hid hNm
      have hS : ∀ w4 a, Keeps [] w1 w4 → (a = some ⟨g3, 6, none⟩ ∨ (a = some ⟨g3, 0, none⟩ ∧ c3 = 6)) → Sl w4 w.heap.size (.slice a n (c3 - 6)) (m.drop 6) := by
        intro w4 a hk4 ha
        have hdl : (m.drop 6).length = n := by rw [List.length_drop]; omega
        refine ⟨a, c3 - 6, by rw [hdl], by omega, by omega, ?_, by rintro rfl; simp at ha, ?_⟩
        · rcases ha with rfl | ⟨rfl, h6⟩
          · refine Rd.blk (hB3.keeps hk4 (by simp)) 6 _ ?_
            intro i u hu
            rw [List.getElem?_drop] at hu
            rw [List.getElem?_append_left (by rw [List.length_map]; exact (List.getElem?_eq_some_iff.1 hu).1), List.getElem?_map, hu]
            rfl
          · have : m.drop 6 = [] := List.length_eq_zero_iff.1 (by omega)
            rw [this]; exact Rd.nil _ _
        · intro x hx _
          rcases ha with rfl | ⟨rfl, h6⟩ <;> simp only [Option.some.injEq] at hx <;> subst hx <;> exact ⟨hg31, (hB3.keeps hk4 (by simp)).lt⟩
      have i6 : (6 : Int) ≤ (n : Int) + 6 := by omega
      have i4 : (4 : Int) ≤ (c3 : Int) := by omega
      have HS := Lib.hid hS
      clear hNm hS hB3 HR HN hm hm1
      by_cases h6 : c3 = 6
      · subst h6
        obtain rfl : n = 0 := by omega
        have i4' : (4 : Int) ≤ 6 := by omega
        refine wp_region_noPanic ?_
        refine wp_region_held_drew (S := (fun _ => True)) (by kernel_rfl) trivial (fun hHeld => ?_)
        refine wpAnyH_take (i := 0) (v := ?v3_17) rfl (by kernel_rfl) (by kernel_rfl) (by kernel_rfl) (fun _ _ _ h => h) (Or.inl ⟨by rfl, ?y3_17⟩) (by assumption) ?r3_17
        case y3_17 => (intro w hSw; (try dsimp only at hSw); go_simp; try with_reducible rfl)
        (try simp only [Act.put, List.getElem_toArray, List.getElem_cons_zero, List.getElem_cons_succ, List.setIfInBounds_toArray, List.set_cons_zero, List.set_cons_succ])
        refine wpAnyH_take (i := 1) (v := ?v3_18) rfl (by kernel_rfl) (by kernel_rfl) (by kernel_rfl) (fun _ _ _ h => h) (Or.inl ⟨by rfl, ?y3_18⟩) (by assumption) ?r3_18
        case y3_18 => (intro w hSw; (try dsimp only at hSw); go_simp; try with_reducible rfl)
        (try simp only [Act.put, List.getElem_toArray, List.getElem_cons_zero, List.getElem_cons_succ, List.setIfInBounds_toArray, List.set_cons_zero, List.set_cons_succ])
        refine wpAnyH_take (i := 3) (v := ?v3_19) rfl (by kernel_rfl) (by kernel_rfl) (by kernel_rfl) (fun _ _ _ h => h) (Or.inl ⟨by rfl, ?y3_19⟩) (by assumption) ?r3_19
        case y3_19 => (intro w hSw; (try dsimp only at hSw); go_simp; try with_reducible rfl)
        (try simp only [Act.put, List.getElem_toArray, List.getElem_cons_zero, List.getElem_cons_succ, List.setIfInBounds_toArray, List.set_cons_zero, List.set_cons_succ])
        refine wpAnyH_take (i := 4) (v := ?v3_20) rfl (by kernel_rfl) (by kernel_rfl) (by kernel_rfl) (fun _ _ _ h => h) (Or.inl ⟨by rfl, ?y3_20⟩) (by assumption) ?r3_20
        case y3_20 => (intro w hSw; (try dsimp only at hSw); go_simp; try with_reducible rfl)
        (try simp only [Act.put, List.getElem_toArray, List.getElem_cons_zero, List.getElem_cons_succ, List.setIfInBounds_toArray, List.set_cons_zero, List.set_cons_succ])
        refine wpAnyH_ready (rs := [2]) (by kernel_rfl) (by simp) ?_
        refine AllReadyH.cons rfl (fun K hK => ?_) AllReadyH.nil
        go_simp
        refine HNm.out.mono ?_
        rintro e w' ⟨rfl, rfl⟩
        go_wp2_with fail
        refine hK.out _ _ ?s3_21 (fun hHeld => ?_)
        case s3_21 => ((try dsimp only) <;> (first | exact trivial))
        clear hK K
        (try simp only [Act.put, List.getElem_toArray, List.getElem_cons_zero, List.getElem_cons_succ, List.setIfInBounds_toArray, List.set_cons_zero, List.set_cons_succ])
        refine wpAnyH_take (i := 5) (v := ?v3_22) rfl (by kernel_rfl) (by kernel_rfl) (by kernel_rfl) (fun _ _ _ h => h) (Or.inl ⟨by rfl, ?y3_22⟩) (by assumption) ?r3_22
        case y3_22 => (intro w hSw; (try dsimp only at hSw); go_simp; try with_reducible rfl)
        (try simp only [Act.put, List.getElem_toArray, List.getElem_cons_zero, List.getElem_cons_succ, List.setIfInBounds_toArray, List.set_cons_zero, List.set_cons_succ])
        refine wpAnyH_take (i := 6) (v := ?v3_23) rfl (by kernel_rfl) (by kernel_rfl) (by kernel_rfl) (fun _ _ _ h => h) (Or.inl ⟨by rfl, ?y3_23⟩) (by assumption) ?r3_23
        case y3_23 => (intro w hSw; (try dsimp only at hSw); go_simp; try with_reducible rfl)
        (try simp only [Act.put, List.getElem_toArray, List.getElem_cons_zero, List.getElem_cons_succ, List.setIfInBounds_toArray, List.set_cons_zero, List.set_cons_succ])
        refine wpAnyH_take (i := 7) (v := ?v3_24) rfl (by kernel_rfl) (by kernel_rfl) (by kernel_rfl) (fun _ _ _ h => h) (Or.inl ⟨by rfl, ?y3_24⟩) (by assumption) ?r3_24
        case y3_24 => (intro w hSw; (try dsimp only at hSw); go_simp; try with_reducible rfl)
        (try simp only [Act.put, List.getElem_toArray, List.getElem_cons_zero, List.getElem_cons_succ, List.setIfInBounds_toArray, List.set_cons_zero, List.set_cons_succ])
        refine wpAnyH_done (by kernel_rfl) ?_ _
        refine NoPanic.normal ?_
        go_wp2_with fail
        go_ret3
        refine ⟨_, by rw [E.out]; rfl, ?_, hk1.drew⟩
        rw [E.out]
        have := (HS.out _ (some ⟨g3, 0, none⟩) ((Keeps.refl [] w1).drew) (.inr (by simp)))
        dsimp only [Option.map_some, Option.getD_some]
        exact this
      · have h6' := h6
        clear h6'
        refine wp_region_noPanic ?_
        refine wp_region_held_drew (S := (fun _ => True)) (by kernel_rfl) trivial (fun hHeld => ?_)
        refine wpAnyH_take (i := 0) (v := ?v4_25) rfl (by kernel_rfl) (by kernel_rfl) (by kernel_rfl) (fun _ _ _ h => h) (Or.inl ⟨by rfl, ?y4_25⟩) (by assumption) ?r4_25
        case y4_25 => (intro w hSw; (try dsimp only at hSw); go_simp; try with_reducible rfl)
        (try simp only [Act.put, List.getElem_toArray, List.getElem_cons_zero, List.getElem_cons_succ, List.setIfInBounds_toArray, List.set_cons_zero, List.set_cons_succ])
        refine wpAnyH_take (i := 1) (v := ?v4_26) rfl (by kernel_rfl) (by kernel_rfl) (by kernel_rfl) (fun _ _ _ h => h) (Or.inl ⟨by rfl, ?y4_26⟩) (by assumption) ?r4_26
        case y4_26 => (intro w hSw; (try dsimp only at hSw); go_simp; try with_reducible rfl)
        (try simp only [Act.put, List.getElem_toArray, List.getElem_cons_zero, List.getElem_cons_succ, List.setIfInBounds_toArray, List.set_cons_zero, List.set_cons_succ])
        refine wpAnyH_take (i := 3) (v := ?v4_27) rfl (by kernel_rfl) (by kernel_rfl) (by kernel_rfl) (fun _ _ _ h => h) (Or.inl ⟨by rfl, ?y4_27⟩) (by assumption) ?r4_27
        case y4_27 => (intro w hSw; (try dsimp only at hSw); go_simp; try with_reducible rfl)
        (try simp only [Act.put, List.getElem_toArray, List.getElem_cons_zero, List.getElem_cons_succ, List.setIfInBounds_toArray, List.set_cons_zero, List.set_cons_succ])
        refine wpAnyH_take (i := 4) (v := ?v4_28) rfl (by kernel_rfl) (by kernel_rfl) (by kernel_rfl) (fun _ _ _ h => h) (Or.inl ⟨by rfl, ?y4_28⟩) (by assumption) ?r4_28
        case y4_28 => (intro w hSw; (try dsimp only at hSw); go_simp; try with_reducible rfl)
        (try simp only [Act.put, List.getElem_toArray, List.getElem_cons_zero, List.getElem_cons_succ, List.setIfInBounds_toArray, List.set_cons_zero, List.set_cons_succ])
        refine wpAnyH_ready (rs := [2]) (by kernel_rfl) (by simp) ?_
        refine AllReadyH.cons rfl (fun K hK => ?_) AllReadyH.nil
        go_simp
        refine HNm.out.mono ?_
        rintro e w' ⟨rfl, rfl⟩
        go_wp2_with fail
        refine hK.out _ _ ?s4_29 (fun hHeld => ?_)
        case s4_29 => ((try dsimp only) <;> (first | exact trivial))
        clear hK K
        (try simp only [Act.put, List.getElem_toArray, List.getElem_cons_zero, List.getElem_cons_succ, List.setIfInBounds_toArray, List.set_cons_zero, List.set_cons_succ])
        refine wpAnyH_take (i := 5) (v := ?v4_30) rfl (by kernel_rfl) (by kernel_rfl) (by kernel_rfl) (fun _ _ _ h => h) (Or.inl ⟨by rfl, ?y4_30⟩) (by assumption) ?r4_30
        case y4_30 => (intro w hSw; (try dsimp only at hSw); go_simp; try with_reducible rfl)
        (try simp only [Act.put, List.getElem_toArray, List.getElem_cons_zero, List.getElem_cons_succ, List.setIfInBounds_toArray, List.set_cons_zero, List.set_cons_succ])
        refine wpAnyH_take (i := 6) (v := ?v4_31) rfl (by kernel_rfl) (by kernel_rfl) (by kernel_rfl) (fun _ _ _ h => h) (Or.inl ⟨by rfl, ?y4_31⟩) (by assumption) ?r4_31
        case y4_31 => (intro w hSw; (try dsimp only at hSw); go_simp; try with_reducible rfl)
        (try simp only [Act.put, List.getElem_toArray, List.getElem_cons_zero, List.getElem_cons_succ, List.setIfInBounds_toArray, List.set_cons_zero, List.set_cons_succ])
        refine wpAnyH_take (i := 7) (v := ?v4_32) rfl (by kernel_rfl) (by kernel_rfl) (by kernel_rfl) (fun _ _ _ h => h) (Or.inl ⟨by rfl, ?y4_32⟩) (by assumption) ?r4_32
        case y4_32 => (intro w hSw; (try dsimp only at hSw); go_simp; try with_reducible rfl)
        (try simp only [Act.put, List.getElem_toArray, List.getElem_cons_zero, List.getElem_cons_succ, List.setIfInBounds_toArray, List.set_cons_zero, List.set_cons_succ])
        refine wpAnyH_done (by kernel_rfl) ?_ _
        refine NoPanic.normal ?_
        go_wp2_with fail
        go_ret3
        refine ⟨_, by rw [E.out]; rfl, ?_, hk1.drew⟩
        rw [E.out]
        have := (HS.out _ (some ⟨g3, 6, none⟩) ((Keeps.refl [] w1).drew) (.inl rfl))
        dsimp only [Option.map_some, Option.getD_some]
        exact this
    · have hm1 : (((S.getD (10 + n) 0).toNat : Int) == 0) = false := by
        rw [beq_eq_false_iff_ne]; intro h; exact hz (UInt8.toNat_inj.1 (by simpa using h))
      have hm' : (((S.getD (10 + n) 0).toNat : Int) != 0) = true := by rw [bne, hm1]; rfl
      have E := Lib.hid (show cellCopy S = none from by rw [Hcc.out, if_neg hn, if_pos hz])
      generalize S.getD (10 + n) 0 = mk at *
      clear Hcc hby hrd hlen hR hlt hcr hpt hnum hnf hm1 hz
      go_enter Try.func95, Try.ntmps95
      go_wp2_with fail
      refine HN.out.mono ?_
      rintro e w' ⟨rfl, rfl⟩
      unfold B32
      rw [Hnn.out]
      go_wp2_with fail
      refine HR.out.mono ?_
      rintro e w1 ⟨v1, rfl, hv1, hk1⟩
      have hm1 := hk1.cell hm
      obtain ⟨a1, c1, rfl, _⟩ := hv1.sl
      go_wp2_with fail
      go_ret3
      exact ⟨_, by rw [E.out]; rfl, by rw [E.out]; exact Sl.nil _ _, hk1⟩


/-- The copy that counts, of all bytes. -/
def newestOf (b : List UInt8) : Option (UInt32 × List UInt8 × Nat) := Fla.stepF (Fla.stepF none 0 (cellCopy (secOf b 0))) 1 (cellCopy (secOf b 1))

theorem newestOf_found {F : Fla} (hd : F.down = false) : newestOf F.b = F.found := by
  rw [found_eq, Fla.whole_eq hd, Fla.whole_eq hd]; rfl

def NewestPost (w : World) (st : Option (UInt32 × List UInt8 × Nat)) (e : Ending) (w' : World) : Prop :=
  ∃ v, e = .returned (.tuple #[.int .i64 (Fla.stAt st), B32 (Fla.stNum st), v]) ∧ Sl w' w.heap.size v (Fla.stB st) ∧ Keeps [] w w'

set_option maxRecDepth 100000 in
set_option maxHeartbeats 4000000 in
theorem newest_calls {w : World} (q : Nat) (rv : List Value) (b : List UInt8) (hb : Blk w q 5 (b.map B8 ++ rv)) (hbl : b.length = 3584) :
    Calls Try.prog 73 #[.slice (some ⟨q, 0, none⟩) 3584 3584] w (NewestPost w (newestOf b)) := by
  have h0 := copyOf_calls0 q (secOf b 0) rv b hb hbl rfl
  have h1 := fun w1 (k : Keeps [] w w1) => copyOf_calls1 q (secOf b 1) rv b (hb.keeps k (by simp)) hbl rfl
  have hN : newestOf b = Fla.stepF (Fla.stepF none 0 (cellCopy (secOf b 0))) 1 (cellCopy (secOf b 1)) := rfl
  generalize cellCopy (secOf b 0) = r0 at *
  generalize cellCopy (secOf b 1) = r1 at *
  generalize newestOf b = st at *
  have H0 := Lib.hid h0
  have H1 := Lib.hid h1
  clear h0 h1 hb hbl
  cases r0 with
  | none =>
    cases r1 with
    | none =>
      subst hN
      go_enter Try.func73, Try.ntmps73
      go_wp2_with fail
      refine H0.out.mono ?_
      rintro e w1 ⟨v1, rfl, hv1, hk1⟩
      dsimp only [Option.map_none, Option.getD_none, Option.isSome_none]
      go_wp2_with fail
      refine (H1.out _ hk1).mono ?_
      rintro e w2 ⟨v2, rfl, hv2, hk2⟩
      dsimp only [Option.map_none, Option.getD_none, Option.isSome_none]
      go_wp2_with fail
      go_ret3
      exact ⟨_, rfl, Sl.nil _ _, hk1.trans hk2⟩
    | some x1 =>
      obtain ⟨n1, b1⟩ := x1
      subst hN
      go_enter Try.func73, Try.ntmps73
      go_wp2_with fail
      refine H0.out.mono ?_
      rintro e w1 ⟨v1, rfl, hv1, hk1⟩
      dsimp only [Option.map_none, Option.getD_none, Option.isSome_none]
      go_wp2_with fail
      refine (H1.out _ hk1).mono ?_
      rintro e w2 ⟨v2, rfl, hv2, hk2⟩
      dsimp only [Option.map_some, Option.getD_some, Option.isSome_some] at hv2 ⊢
      go_wp2_with fail
      go_ret3
      exact ⟨v2, rfl, hv2.mono hk1.size, hk1.trans hk2⟩
  | some x0 =>
    obtain ⟨n0, b0⟩ := x0
    cases r1 with
    | none =>
      subst hN
      go_enter Try.func73, Try.ntmps73
      go_wp2_with fail
      refine H0.out.mono ?_
      rintro e w1 ⟨v1, rfl, hv1, hk1⟩
      dsimp only [Option.map_some, Option.getD_some, Option.isSome_some] at hv1 ⊢
      go_wp2_with fail
      refine (H1.out _ hk1).mono ?_
      rintro e w2 ⟨v2, rfl, hv2, hk2⟩
      dsimp only [Option.map_none, Option.getD_none, Option.isSome_none]
      go_wp2_with fail
      go_ret3
      exact ⟨v1, rfl, hv1.keeps hk2 (by simp), hk1.trans hk2⟩
    | some x1 =>
      obtain ⟨n1, b1⟩ := x1
      by_cases hg : n1 > n0
      · have hst : st = some (n1, b1, 1) := by rw [hN]; simp only [Fla.stepF, if_pos hg]
        have hlt : ¬ ((n1.toNat : Int) ≤ (n0.toNat : Int)) := by
          have := UInt32.lt_iff_toNat_lt.1 hg
          omega
        have hd : decide (n1.toNat ≤ n0.toNat) = false := by simp; omega
        clear hg hN hlt
        subst hst
        go_enter Try.func73, Try.ntmps73
        go_wp2_with fail
        refine H0.out.mono ?_
        rintro e w1 ⟨v1, rfl, hv1, hk1⟩
        dsimp only [Option.map_some, Option.getD_some, Option.isSome_some] at hv1 ⊢
        go_wp2_with fail
        refine (H1.out _ hk1).mono ?_
        rintro e w2 ⟨v2, rfl, hv2, hk2⟩
        dsimp only [Option.map_some, Option.getD_some, Option.isSome_some] at hv2 ⊢
        go_wp2_with fail
        go_ret3
        exact ⟨v2, rfl, hv2.mono hk1.size, hk1.trans hk2⟩
      · have hst : st = some (n0, b0, 0) := by rw [hN]; simp only [Fla.stepF, if_neg hg]
        have hle : n1.toNat ≤ n0.toNat := Nat.le_of_not_lt (fun h => hg (UInt32.lt_iff_toNat_lt.2 h))
        have hd : decide (n1.toNat ≤ n0.toNat) = true := by simp; omega
        clear hg hN hle
        subst hst
        go_enter Try.func73, Try.ntmps73
        go_wp2_with fail
        refine H0.out.mono ?_
        rintro e w1 ⟨v1, rfl, hv1, hk1⟩
        dsimp only [Option.map_some, Option.getD_some, Option.isSome_some] at hv1 ⊢
        go_wp2_with fail
        refine (H1.out _ hk1).mono ?_
        rintro e w2 ⟨v2, rfl, hv2, hk2⟩
        dsimp only [Option.map_some, Option.getD_some, Option.isSome_some] at hv2 ⊢
        go_wp2_with fail
        go_ret3
        exact ⟨v1, rfl, hv1.keeps hk2 (by simp), hk1.trans hk2⟩

end Go.Proofs.Ythjojkkjdaoocaa
