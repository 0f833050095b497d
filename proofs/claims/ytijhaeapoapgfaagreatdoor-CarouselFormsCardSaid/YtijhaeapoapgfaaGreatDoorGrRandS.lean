/-
  GrRandS: the texts RandS, Vec, one behind another.
-/
import Derived.Test.YtijhaeapoapgfaaGreatDoorGrRand
import Derived.Test.YtijhaeapoapgfaaGreatDoorGrShelfR
import Derived.Laws.MakeOwn
import Derived.RegionTactic
import Derived.Lib.RowBridge
import Derived.Test.YtijhaeapoapgfaaGreatDoorGrPopT
import Derived.Laws.BitsAll
import Derived.Laws.ShiftsVar
set_option linter.unusedVariables false
set_option linter.unusedSimpArgs false
namespace Go.Proofs.YtijhaeapoapgfaaGreatDoor
open Go.RowKit
attribute [local go_sem ↓] Go.wp_at_zero Go.wp_at_succ

abbrev I64 (x : Nat) : Value := .int .i64 x

theorem Tryz.info_int : (Tryz.prog.info? 3).map (fun i => (i.zero, i.size, i.bytes)) = some (some (.int .i64 0), 1, 8) := by kernel_rfl

theorem made_ints (n : Nat) : madeCells #[.int .i64 0] n = ((List.replicate n (0 : Nat)).map I64).toArray := by
  apply Array.ext
  · simp [madeCells]
  · intro i h1 h2
    simp [madeCells, Nat.mod_one]

theorem make_ints (n c : Nat) (hnc : n ≤ c) (hc : c ≤ 100000) (w : World) :
    (Instr.makeSlice 138 (.int .i64 (n : Int)) (.int .i64 (c : Int))).run Tryz.prog w = .ok (.slice (some ⟨w.heap.size, 0, none⟩) n c) (w.alloc (.cells ((List.replicate c (0 : Nat)).map I64).toArray 3)) := by
  obtain ⟨i0, hi, hz0, hz1, hz2⟩ := info_parts Tryz.info_int
  have hr := run_make (P := Tryz.prog) w 138 3 i0 _ Tryz.underlying138 hi hz0 .i64 .i64 n c (by omega) (by omega) (by rw [hz2]; omega) (by omega)
  rw [hz1] at hr
  simp only [Int.toNat_natCast, Nat.mul_one] at hr
  rw [hr, ← made_ints]
  rfl

theorem Blk.ints {w : World} {g : Nat} {L : List Nat} (h : Blk w g 3 (L.map I64)) {i : Nat} (hi : i < L.length) : w.cell? ⟨g, i, none⟩ = some (I64 (L.getD i 0)) := by
  refine h.cell' ?_
  rw [List.getElem?_map, List.getD, List.getElem?_eq_getElem hi]
  rfl

theorem map_set (L : List Nat) (i x : Nat) : (L.map I64).set i (I64 x) = (L.set i x).map I64 := by rw [List.map_set]

theorem wf_small {n : Int} (h0 : -1000000 ≤ n) (h1 : n ≤ 1000000) : (Lit.int .i64 n).wf = true := WalkArith.wf_i64 (by omega)

/-- A slice of numbers that reads as these; what it reads lies in a block from B on. -/
def IsInts (w : World) (B : Nat) (v : Value) (l : List Nat) : Prop :=
  ∃ a c, v = .slice a l.length c ∧ l.length ≤ c ∧ c ≤ 9223372036854775807 ∧ ∀ i, i < l.length → ∃ g, a = some ⟨g, 0, none⟩ ∧ B ≤ g ∧ w.cell? ⟨g, i, none⟩ = some (I64 (l.getD i 0))

def SomePost (w : World) (p : Nat) (l : List Nat) (s : UInt32) (e : Ending) (w' : World) : Prop :=
  ∃ v, e = .returned v ∧ IsInts w' w.heap.size v l ∧ SrcAt w' p s ∧ Keeps [p] w w'

open Go.Sort in
theorem sort_keeps (w : World) (g n : Nat) (d : Array Int) (os : Array Obj) : Keeps [g] w (grow (putRow (Value.int .i64) (Sort.ahead w n) g 0 d) os) := by
  refine ⟨rfl, rfl, rfl, by simp [grow], fun k hk hg => ?_⟩
  have hne : ¬ g = k := by simp at hg; omega
  have hk2 : k < (putRow (Value.int .i64) (Sort.ahead w n) g 0 d).heap.size := by rw [size_putRow]; exact hk
  show ((putRow (Value.int .i64) (Sort.ahead w n) g 0 d).heap ++ os)[k]? = _
  rw [Array.getElem?_append_left hk2]
  unfold putRow mapBlock
  show (w.heap.modify g _)[k]? = _
  rw [Array.getElem?_modify, if_neg hne]

theorem ints_sort (l : List Nat) : (l.map (fun x : Nat => (x : Int))).mergeSort (fun x y => decide (x ≤ y)) = (l.mergeSort).map (fun x : Nat => (x : Int)) := by
  symm
  apply List.map_mergeSort
  intro a _ b _
  simp

open Go.Sort in
/-- slices.Sort, of numbers that the call itself holds. -/
theorem sorted_calls {w : World} {B m : Nat} {v : Value} (l : List Nat) (hl : l.length = m) (hm : m ≤ 1000) (h : w.ownsRow B 3 1 v m ((l.map (fun x : Nat => (x : Int))).map (Value.int .i64))) (hv : v ≠ .slice none 0 0) :
    ∃ g, v.ownBlock = some g ∧ B ≤ g ∧ Calls Tryz.prog 166 #[v] w fun e w' => e = .returned (.tuple #[]) ∧ IsInts w' B v l.mergeSort ∧ Keeps [g] w w' := by
  rcases h.2 with ⟨rfl, _⟩ | ⟨g, cap, cur, rfl, hb, hg, hn, hc, hs, ht⟩
  · exact absurd rfl hv
  refine ⟨g, rfl, hb, ?_⟩
  have hlt : g < w.heap.size := (Array.getElem?_eq_some_iff.1 hg).1
  have hml : l.mergeSort.length = m := by rw [(List.mergeSort_perm l _).length_eq, hl]
  by_cases h0 : m = 0
  · subst h0
    have hnil : l = [] := List.length_eq_zero_iff.1 hl
    subst hnil
    refine (Tryz.slices_Sort_int_none (some ⟨g, 0, none⟩) cap w).mono ?_
    rintro e w' ⟨rfl, rfl⟩
    exact ⟨rfl, ⟨some ⟨g, 0, none⟩, cap, by rw [hml], by omega, hc, fun i hi => by rw [hml] at hi; omega⟩, Keeps.refl _ _⟩
  have hcell : ∀ i, i < m → w.cell? ⟨g, i, none⟩ = some (.int .i64 ((l.map (fun x : Nat => (x : Int))).getD i 0)) := by
    intro i hi
    have hb' : Blk w g 3 cur.toList := hg
    refine hb'.cell' ?_
    have h1 := congrArg (fun z => z[i]?) ht
    simp only [Nat.mul_one, List.getElem?_take, if_pos hi] at h1
    rw [h1, List.getElem?_map, List.getD, List.getElem?_eq_getElem (by rw [List.length_map]; omega)]
    rfl
  have hfr : ∀ i, i < m → w.frozen? ⟨g, 0 + i, none⟩ = false := fun i _ => (show Blk w g 3 cur.toList from hg).frozen (0 + i)
  have hH0 := Lib.holds_of_ints (w := w) (b := g) (off := 0) (n := m) (zs := l.map (fun x : Nat => (x : Int))) (by rw [List.length_map]; omega) (fun i hi => by rw [Nat.zero_add]; exact hcell i (by rw [List.length_map] at hi; omega)) hfr
  rw [List.take_of_length_le (by rw [List.length_map]; omega)] at hH0
  have hC := Tryz.slices_Sort_int g 0 cap (l.map (fun x : Nat => (x : Int))) w hH0 hlt (by rw [List.length_map]; omega)
  rw [List.length_map, hl, ints_sort] at hC
  refine hC.mono ?_
  rintro e w' ⟨rfl, n, os, rfl⟩
  refine ⟨rfl, ⟨some ⟨g, 0, none⟩, cap, by rw [hml], by omega, hc, fun i hi => ⟨g, rfl, hb, ?_⟩⟩, sort_keeps w g n _ os⟩
  have hH1 : Holds (Value.int .i64) (Sort.ahead w n) g 0 (l.map (fun x : Nat => (x : Int))).toArray := hH0
  have hsz : (l.mergeSort.map (fun x : Nat => (x : Int))).toArray.size = (l.map (fun x : Nat => (x : Int))).toArray.size := by simp [hml, hl]
  have hlt2 : g < (putRow (Value.int .i64) (Sort.ahead w n) g 0 (l.mergeSort.map (fun x : Nat => (x : Int))).toArray).heap.size := by rw [size_putRow]; exact hlt
  rw [cell?_grow _ _ _ hlt2]
  have := cell?_putRow (Value.int .i64) (Sort.ahead w n) g 0 _ (l.mergeSort.map (fun x : Nat => (x : Int))).toArray hH1 hsz i (by simpa using hi)
  rw [Nat.zero_add] at this
  rw [this]
  simp [List.getD, hi]
  rw [List.getElem?_eq_getElem hi]
  rfl

set_option maxRecDepth 100000 in
set_option maxHeartbeats 4000000 in
theorem some_calls {w : World} {p : Nat} {s : UInt32} (h : SrcAt w p s) (n : Nat) (k : Int) (h1 : 1 ≤ n) (h2 : n ≤ 256) (m : Nat) (hm : (m : Int) = max 0 (min k n)) :
    Calls Tryz.prog 125 #[.pointer (some ⟨p, 0, none⟩), .int .i64 n, .int .i64 k] w (SomePost w p (((someLoop n m 0 s (List.range n)).take m).mergeSort) (stepN m s)) := by
  have hmk := fun w => make_ints n n (Nat.le_refl _) (by omega) w
  have hp := h.ltp
  generalize hfin : someLoop n m 0 s (List.range n) = fin
  generalize hsfin : stepN m s = sfin
  have Hfin := Lib.hid hfin
  have Hsfin := Lib.hid hsfin
  clear hfin hsfin
  go_enter Tryz.func125, Tryz.ntmps125
  go_wp2_with fail
  go_loopw [25] (fun i wr => ∃ j : Nat, j ≤ n ∧ i = .int .i64 j ∧ Blk wr w.heap.size 3 ((List.range j ++ List.replicate (n - j) 0).map I64) ∧ Keeps [] w wr) (fun i _ => n - (intOf i).toNat)
  case atStart => exact ⟨0, Nat.zero_le _, rfl, by have := Blk.newA w 3 (Array.replicate n (I64 0)); simpa using this, (Keeps.refl [] w).alloc _⟩
  case round =>
    obtain ⟨j, hj, rfl, hB, hK⟩ := hrel
    by_cases hlt : j < n
    · have hc := hB.ints (i := j) (by simp; omega)
      have hf := hB.frozen j
      have hl := hB.lt
      go_wp2_with fail
      go_roundw
      case rel =>
        refine ⟨j + 1, by omega, by go_num, ?_, hK.setCell (by simp) _⟩
        have := hB.set j (I64 j)
        rw [map_set] at this
        have e : (List.range j ++ List.replicate (n - j) 0).set j j = List.range (j + 1) ++ List.replicate (n - (j + 1)) 0 := by
          rw [List.set_append_right _ _ (by simp), List.length_range, Nat.sub_self, show n - j = (n - (j + 1)) + 1 from by omega, List.replicate_succ, List.set_cons_zero, List.range_succ, List.append_assoc]
          rfl
        rw [e] at this
        exact this
      case measure => simp [intOf]; omega
    · obtain rfl : n = j := by omega
      rw [Nat.sub_self, List.replicate_zero, List.append_nil] at hB
      have hS := h.keeps hK (by simp)
      have hl := hB.lt
      have hmn : m ≤ n := by omega
      have Hm := Lib.hid hm
      clear hm
      go_wp2_with fail
      rw [← Hm.out]
      go_loopw [38] (fun i wx => ∃ (j : Nat) (L : List Nat) (t : UInt32), j ≤ m ∧ i = .int .i64 j ∧ L.length = n ∧ Blk wx w.heap.size 3 (L.map I64) ∧ SrcAt wx p t ∧ someLoop n (m - j) j t L = fin ∧ stepN (m - j) t = sfin ∧ Keeps [p] w wx) (fun i _ => m - (intOf i).toNat)
      case atStart => exact ⟨0, List.range n, s, Nat.zero_le _, rfl, List.length_range, hB, hS, Hfin.out, Hsfin.out, hK.nil⟩
      case round =>
        clear hB hS hK hl
        obtain ⟨j, L, t, hjm, rfl, hL, hB, hS, hf, hsf, hK⟩ := hrel
        by_cases hlt2 : j < m
        · have hlow := rlow_lt t (m := n - j) (by omega)
          have hbe : rbelow t ((n : Int) - (j : Int)) = (((rlow t (n - j) : Nat) : Int), rstep t) := by
            unfold rbelow
            rw [if_neg (by omega), show ((n : Int) - (j : Int)).toNat = n - j from by omega]
          have hC := below_calls hS ((n : Int) - (j : Int)) (wf_small (by omega) (by omega))
          rw [hbe] at hC
          rw [show m - j = (m - (j + 1)) + 1 from by omega, someLoop] at hf
          rw [show m - j = (m - (j + 1)) + 1 from by omega, stepN] at hsf
          have hlp := hS.ltp
          generalize rlow t (n - j) = r at *
          have Hf := Lib.hid hf
          have Hsf := Lib.hid hsf
          have HL := Lib.hid hL
          clear hf hsf hbe hS hL
          go_wp2_with fail
          refine hC.mono ?_
          rintro e w2 ⟨rfl, hS2, hk2⟩
          have hpw : w.heap.size ≠ p := by omega
          have hB2 := hB.keeps hk2 (by simp; omega)
          have hL := HL.out
          have cj := hB2.ints (i := j) (by omega)
          have cr := hB2.ints (i := j + r) (by omega)
          have fj := hB2.frozen j
          have fr := hB2.frozen (j + r)
          have hl2 := hB2.lt
          have i1 : (0 : Int) ≤ (j : Int) := by omega
          have i2 : (j : Int) < (n : Int) := by omega
          have i3 : (0 : Int) ≤ (j : Int) + (r : Int) := by omega
          have i4 : (j : Int) + (r : Int) < (n : Int) := by omega
          have i5 : ((j : Int) + (r : Int)).toNat = j + r := by omega
          clear hL
          generalize hx : L.getD j 0 = x at *
          generalize hy : L.getD (j + r) 0 = y at *
          have Hx := Lib.hid hx
          have Hy := Lib.hid hy
          clear hx hy
          go_wp2_with fail
          by_cases hr0 : r = 0
          · subst hr0
            have hxy : x = y := by rw [← Hx.out, ← Hy.out]; rfl
            subst hxy
            go_region
            go_wp2_with fail
            go_roundw
            case rel =>
              refine ⟨j + 1, swapAt L j (j + 0), rstep t, by omega, by go_num, by rw [swapAt_len]; exact HL.out, ?_, ?_, Hf.out, Hsf.out, ?_⟩
              · have := (hB2.set j (I64 x)).set (j + 0) (I64 x)
                rw [map_set, map_set] at this
                have e : swapAt L j (j + 0) = (L.set j x).set (j + 0) x := by unfold swapAt; rw [Hx.out, Hy.out]
                rw [e]
                exact this.drew
              · exact (hS2.keeps (S := [w.heap.size]) (((Keeps.refl _ w2).setCell (by simp) _).setCell (by simp) _) (by simp; omega)).keeps (S := []) (Keeps.refl _ _).drew (by simp)
              · exact (((hK.trans hk2).setCell (by simp) _).setCell (by simp) _).drew
            case measure => simp [intOf]; omega
          · have hne : ¬ j + r = j := by omega
            have hne' : ¬ j = j + r := by omega
            have hr1 : 1 ≤ r := by omega
            go_region
            go_wp2_with fail
            go_roundw
            case rel =>
              refine ⟨j + 1, swapAt L j (j + r), rstep t, by omega, by go_num, by rw [swapAt_len]; exact HL.out, ?_, ?_, Hf.out, Hsf.out, ?_⟩
              · have := (hB2.set j (I64 y)).set (j + r) (I64 x)
                rw [map_set, map_set] at this
                have e : swapAt L j (j + r) = (L.set j y).set (j + r) x := by unfold swapAt; rw [Hx.out, Hy.out]
                rw [e]
                exact this.drew
              · exact (hS2.keeps (S := [w.heap.size]) (((Keeps.refl _ w2).setCell (by simp) _).setCell (by simp) _) (by simp; omega)).keeps (S := []) (Keeps.refl _ _).drew (by simp)
              · exact (((hK.trans hk2).setCell (by simp) _).setCell (by simp) _).drew
            case measure => simp [intOf]; omega
        · obtain rfl : m = j := by omega
          rw [Nat.sub_self, someLoop] at hf
          rw [Nat.sub_self, stepN] at hsf
          subst hf hsf
          have hLl := hL
          have hHB := Lib.hid hB
          have hKK := Lib.hid hK
          have hSS := Lib.hid hS
          have HLl := Lib.hid hLl
          have hl3 := hB.lt
          have hcl := Tryz.slices_Clone_int w.heap.size 0 m n (L.map (fun x : Nat => (x : Int))) wr (by rw [List.length_map]; omega) (by omega) (by
            intro i hi
            rw [List.length_map] at hi
            rw [Nat.zero_add, hB.ints hi]
            rw [List.getD, List.getD, List.getElem?_map, List.getElem?_eq_getElem hi]
            rfl)
          clear hL hB hK hS hLl
          go_wp2_with fail
          refine hcl.mono ?_
          rintro e w3 ⟨v3, rfl, hO3, hv3, hbel⟩
          rw [← List.map_take] at hO3
          obtain ⟨g, hg1, hg2, hSort⟩ := sorted_calls (L.take m) (by rw [List.length_take, HLl.out]; omega) (by omega) hO3 hv3
          have hbel' : Keeps [] wr w3 := ⟨hbel.os, hbel.tape, hbel.output, hbel.size, fun k hk _ => hbel.block k hk⟩
          have hsz := hKK.out.size
          have hnp : p ∉ [g] := by simp; omega
          clear hcl hbel hO3
          go_wp2_with fail
          refine hSort.mono ?_
          rintro e w4 ⟨rfl, hI, hk4⟩
          go_wp2_with fail
          go_ret
          obtain ⟨a, c4, e4, h4⟩ := hI
          refine ⟨v3, rfl, ⟨a, c4, e4, h4.1, h4.2.1, fun i hi => ?_⟩, (hSS.out.keeps hbel' (by simp)).keeps hk4 hnp, ((hKK.out.trans hbel'.nil).trans' hk4 (fun _ h => .inl h) (by simp; omega))⟩
          obtain ⟨g', h5, h6, h7⟩ := h4.2.2 i hi
          exact ⟨g', h5, by omega, h7⟩

theorem IsInts.nil (w : World) (B : Nat) : IsInts w B (.slice none 0 0) [] := ⟨none, 0, rfl, by simp, by simp, by simp⟩

theorem IsInts.keeps {S : List Nat} {w w' : World} {B : Nat} {v : Value} {l : List Nat} (h : IsInts w B v l) (k : Keeps S w w') (hS : ∀ x, x ∈ S → x < B) : IsInts w' B v l := by
  obtain ⟨a, c, rfl, h1, h2, h3⟩ := h
  refine ⟨a, c, rfl, h1, h2, fun i hi => ?_⟩
  obtain ⟨g, rfl, hg, hc⟩ := h3 i hi
  exact ⟨g, rfl, hg, (World.cell?_of_block (a := ⟨g, i, none⟩) (k.block g (World.block_lt_of_cell? w _ hc) (fun hm => by have := hS g hm; omega))).trans hc⟩

theorem IsInts.mono {w : World} {B B' : Nat} {v : Value} {l : List Nat} (h : IsInts w B v l) (hB : B' ≤ B) : IsInts w B' v l := by
  obtain ⟨a, c, rfl, h1, h2, h3⟩ := h
  exact ⟨a, c, rfl, h1, h2, fun i hi => by obtain ⟨g, e, hg, hc⟩ := h3 i hi; exact ⟨g, e, by omega, hc⟩⟩

set_option maxRecDepth 100000 in
theorem some_any {w : World} {p : Nat} {s : UInt32} (h : SrcAt w p s) (n k : Int) :
    Calls Tryz.prog 125 #[.pointer (some ⟨p, 0, none⟩), .int .i64 n, .int .i64 k] w (SomePost w p (rsome s n k) (rsomeSt s n k)) := by
  by_cases h1 : n < 1
  · have e1 : rsome s n k = [] := by unfold rsome; rw [if_pos (.inl h1)]
    have e2 : rsomeSt s n k = s := by unfold rsomeSt; rw [if_pos (.inl h1)]
    rw [e1, e2]
    go_enter Tryz.func125, Tryz.ntmps125
    go_wp2_with fail
    go_ret
    exact ⟨_, rfl, IsInts.nil _ _, h, Keeps.refl _ _⟩
  by_cases h2 : 256 < n
  · have e1 : rsome s n k = [] := by unfold rsome; rw [if_pos (.inr h2)]
    have e2 : rsomeSt s n k = s := by unfold rsomeSt; rw [if_pos (.inr h2)]
    rw [e1, e2]
    go_enter Tryz.func125, Tryz.ntmps125
    go_wp2_with fail
    go_ret
    exact ⟨_, rfl, IsInts.nil _ _, h, Keeps.refl _ _⟩
  obtain ⟨m, rfl⟩ : ∃ m : Nat, n = m := ⟨n.toNat, by omega⟩
  have e1 : rsome s m k = ((someLoop m (clampK m k) 0 s (List.range m)).take (clampK m k)).mergeSort := by
    unfold rsome; rw [if_neg (by omega), show ((m : Int)).toNat = m from by omega]
  have e2 : rsomeSt s m k = stepN (clampK m k) s := by unfold rsomeSt; rw [if_neg (by omega)]
  rw [e1, e2]
  exact some_calls h m k (by omega) (by omega) (clampK m k) (by unfold clampK; omega)

end Go.Proofs.YtijhaeapoapgfaaGreatDoor

set_option linter.unusedVariables false
set_option linter.unusedSimpArgs false
namespace Go.Proofs.YtijhaeapoapgfaaGreatDoor
open Go.RowKit
attribute [local go_sem ↓] Go.wp_at_zero Go.wp_at_succ

abbrev U64 (x : Nat) : Value := .int .u64 x

theorem Tryz.info_uint64 : (Tryz.prog.info? 25).map (fun i => (i.zero, i.size, i.bytes)) = some (some (.int .u64 0), 1, 8) := by kernel_rfl

theorem made_u64s (n : Nat) : madeCells #[.int .u64 0] n = ((List.replicate n (0 : Nat)).map U64).toArray := by
  apply Array.ext
  · simp [madeCells]
  · intro i h1 h2
    simp [madeCells, Nat.mod_one]

theorem make_u64s (n : Nat) (hc : n ≤ 100000) (w : World) :
    (Instr.makeSlice 229 (.int .i64 (n : Int)) (.int .i64 (n : Int))).run Tryz.prog w = .ok (.slice (some ⟨w.heap.size, 0, none⟩) n n) (w.alloc (.cells ((List.replicate n (0 : Nat)).map U64).toArray 25)) := by
  obtain ⟨i0, hi, hz0, hz1, hz2⟩ := info_parts Tryz.info_uint64
  have hr := run_make (P := Tryz.prog) w 229 25 i0 _ Tryz.underlying229 hi hz0 .i64 .i64 n n (by omega) (by omega) (by rw [hz2]; omega) (by omega)
  rw [hz1] at hr
  simp only [Int.toNat_natCast, Nat.mul_one] at hr
  rw [hr, ← made_u64s]
  rfl

theorem Blk.u64s {w : World} {g : Nat} {L : List Nat} (h : Blk w g 25 (L.map U64)) {i : Nat} (hi : i < L.length) : w.cell? ⟨g, i, none⟩ = some (U64 (L.getD i 0)) := by
  refine h.cell' ?_
  rw [List.getElem?_map, List.getD, List.getElem?_eq_getElem hi]
  rfl
theorem map_setU (L : List Nat) (i x : Nat) : (L.map U64).set i (U64 x) = (L.set i x).map U64 := by rw [List.map_set]

/-- A row of n bits: its struct in block p, its words in block g. -/
structure VecAt (w : World) (p g n X : Nat) : Prop where
  b : Blk w p 235 [.int .i64 n, .slice (some ⟨g, 0, none⟩) (nw n) (nw n)]
  r : Blk w g 25 ((words n X).map U64)
  lt : X < 2 ^ n
  le : n ≤ 256

theorem VecAt.ne {w : World} {p g n X : Nat} (h : VecAt w p g n X) : p ≠ g := h.b.ne h.r (by decide)
theorem VecAt.keeps {S : List Nat} {w w' : World} {p g n X : Nat} (h : VecAt w p g n X) (k : Keeps S w w') (hp : p ∉ S) (hg : g ∉ S) : VecAt w' p g n X := ⟨h.b.keeps k hp, h.r.keeps k hg, h.lt, h.le⟩
theorem VecAt.wd {w : World} {p g n X k : Nat} (h : VecAt w p g n X) (hk : k < nw n) : w.cell? ⟨g, k, none⟩ = some (U64 (word X k)) := by
  rw [← words_at n X hk]
  exact h.r.u64s (by rw [words_len]; exact hk)

/-- A row, in new memory. -/
def VecNew (w : World) (n X : Nat) (e : Ending) (w' : World) : Prop :=
  ∃ p g, e = .returned (.pointer (some ⟨p, 0, none⟩)) ∧ w.heap.size ≤ p ∧ w.heap.size ≤ g ∧ VecAt w' p g n X ∧ Keeps [] w w'

set_option maxRecDepth 100000 in
theorem vnew_calls {w : World} (n : Nat) (hn : n ≤ 256) : Calls Tryz.prog 161 #[.int .i64 n] w (VecNew w n 0) := by
  have hmk := fun w => make_u64s (nw n) (by unfold nw; omega) w
  have hq : ((n : Int) + 64 - 1) / 64 = (nw n : Int) := by unfold nw; omega
  have hN : nw n ≤ 4 := by unfold nw; omega
  rw [← hq] at hmk
  have Hq := Lib.hid hq
  clear hq
  go_enter Tryz.func161, Tryz.ntmps161
  go_wp2_with fail
  go_ret
  refine ⟨_, _, rfl, Nat.le_succ _, Nat.le_refl _, ⟨?_, ?_, Nat.two_pow_pos n, hn⟩, ((Keeps.refl [] w).alloc _).alloc _⟩
  · have := Blk.newA (w.alloc (Obj.cells (Array.replicate (nw n) (U64 0)) 25)) 235 #[.int .i64 n, .slice (some ⟨w.heap.size, 0, none⟩) (nw n) (nw n)]
    simpa using this
  · refine Blk.alloc ?_ _
    have := Blk.newA w 25 (Array.replicate (nw n) (U64 0))
    rw [words_zero, List.map_replicate]
    simpa using this

set_option maxRecDepth 100000 in
theorem vwithin_calls {w : World} {p g n X : Nat} (h : VecAt w p g n X) (i : Int) :
    Calls Tryz.prog 172 #[.pointer (some ⟨p, 0, none⟩), .int .i64 i] w fun e w' => e = .returned (.bool (decide (0 ≤ i ∧ i < n))) ∧ w = w' := by
  have c0 := h.b.cell' (i := 0) rfl
  by_cases h0 : 0 ≤ i
  · by_cases h1 : i < n
    · go_enter Tryz.func172, Tryz.ntmps172
      go_wp2_with fail
      go_ret
      exact ⟨by simp [h0, h1], rfl⟩
    · go_enter Tryz.func172, Tryz.ntmps172
      go_wp2_with fail
      go_ret
      exact ⟨by simp [h0, h1], rfl⟩
  · go_enter Tryz.func172, Tryz.ntmps172
    go_wp2_with fail
    go_ret
    exact ⟨by simp; omega, rfl⟩

theorem vlen_calls {w : World} {p g n X : Nat} (h : VecAt w p g n X) :
    Calls Tryz.prog 129 #[.pointer (some ⟨p, 0, none⟩)] w fun e w' => e = .returned (.int .i64 n) ∧ w = w' := by
  have c0 := h.b.cell' (i := 0) rfl
  go_enter Tryz.func129, Tryz.ntmps129
  go_wp2_with fail
  go_ret
  exact ⟨rfl, rfl⟩
theorem has_val (X k : Nat) : (bits .and .u64 ((word X (k / 64) : Int) / 2 ^ (k % 64)) 1 == 1) = X.testBit k := by
  have h1 : (word X (k / 64) : Int) / 2 ^ (k % 64) = ((word X (k / 64) / 2 ^ (k % 64) : Nat) : Int) := by simp
  have h2 : word X (k / 64) / 2 ^ (k % 64) < 18446744073709551616 := Nat.lt_of_le_of_lt (Nat.div_le_self _ _) (word_lt _ _)
  have h3 := word_has X k
  rw [h1, show (1 : Int) = ((1 : Nat) : Int) from rfl, u64_and_nat _ _ h2 (by omega)]
  generalize word X (k / 64) / 2 ^ (k % 64) &&& 1 = v at *
  cases hb : X.testBit k
  · have : ¬ v = 1 := fun e => by rw [h3.1 e] at hb; cases hb
    simp; omega
  · have : v = 1 := h3.2 hb
    simp [this]

set_option maxRecDepth 100000 in
theorem vhas_calls {w : World} {p g n X : Nat} (h : VecAt w p g n X) (i : Int) :
    Calls Tryz.prog 130 #[.pointer (some ⟨p, 0, none⟩), .int .i64 i] w fun e w' => e = .returned (.bool (decide (0 ≤ i ∧ i < n) && X.testBit i.toNat)) ∧ w = w' := by
  have hw := vwithin_calls h i
  by_cases hi : 0 ≤ i ∧ i < n
  · have hd : decide (0 ≤ i ∧ i < n) = true := decide_eq_true hi
    rw [hd] at hw ⊢
    obtain ⟨k, rfl⟩ : ∃ k : Nat, i = k := ⟨i.toNat, by omega⟩
    have hN : nw n = (n + 63) / 64 := rfl
    have hk0 : k < 256 := by have := h.le; omega
    have c1 := h.b.cell' (i := 1) rfl
    have cw := h.wd (k := k / 64) (by unfold nw; omega)
    go_enter Tryz.func130, Tryz.ntmps130
    go_wp2_with fail
    refine hw.mono ?_
    rintro e w' ⟨rfl, rfl⟩
    go_wp2_with fail
    go_ret
    exact ⟨by rw [has_val]; rfl, rfl⟩
  · have hd : decide (0 ≤ i ∧ i < n) = false := decide_eq_false hi
    rw [hd] at hw ⊢
    go_enter Tryz.func130, Tryz.ntmps130
    go_wp2_with fail
    refine hw.mono ?_
    rintro e w' ⟨rfl, rfl⟩
    go_wp2_with fail
    go_ret
    exact ⟨rfl, rfl⟩

theorem VecAt.clr {w : World} {p g n X i : Nat} (h : VecAt w p g n X) (hi : i < n) : VecAt (w.setCell ⟨g, i / 64, none⟩ (U64 (word X (i / 64) &&& (18446744073709551615 - 2 ^ (i % 64))))) p g n (clrB X i) := by
  refine ⟨h.b.setOther _ h.ne, ?_, clr_lt h.lt, h.le⟩
  rw [← words_clr hi, ← map_setU]
  exact h.r.set _ _
theorem VecAt.orb {w : World} {p g n X i : Nat} (h : VecAt w p g n X) (hi : i < n) : VecAt (w.setCell ⟨g, i / 64, none⟩ (U64 (word X (i / 64) ||| 2 ^ (i % 64)))) p g n (orB X i) := by
  refine ⟨h.b.setOther _ h.ne, ?_, orB_lt h.lt hi, h.le⟩
  rw [← words_or hi, ← map_setU]
  exact h.r.set _ _

theorem bit_val (i : Nat) : IntKind.u64.wrap (2 ^ (i % 64)) = ((2 ^ (i % 64) : Nat) : Int) := by
  have h : 2 ^ (i % 64) < 2 ^ 64 := Nat.pow_lt_pow_right (by omega) (Nat.mod_lt _ (by omega))
  rw [two64] at h
  have e : (2 : Int) ^ (i % 64) = ((2 ^ (i % 64) : Nat) : Int) := by simp
  rw [e, IntKind.wrap_u64]
  generalize 2 ^ (i % 64) = v at *
  omega
theorem clr_val (X i : Nat) : bits .andNot .u64 (word X (i / 64) : Int) (IntKind.u64.wrap (2 ^ (i % 64))) = ((word X (i / 64) &&& (18446744073709551615 - 2 ^ (i % 64)) : Nat) : Int) := by
  have h : 2 ^ (i % 64) < 2 ^ 64 := Nat.pow_lt_pow_right (by omega) (Nat.mod_lt _ (by omega))
  rw [two64] at h
  rw [bit_val, u64_andNot_nat _ _ (word_lt _ _) h]
theorem or_val (X i : Nat) : bits .or .u64 (word X (i / 64) : Int) (IntKind.u64.wrap (2 ^ (i % 64))) = ((word X (i / 64) ||| 2 ^ (i % 64) : Nat) : Int) := by
  have h : 2 ^ (i % 64) < 2 ^ 64 := Nat.pow_lt_pow_right (by omega) (Nat.mod_lt _ (by omega))
  rw [two64] at h
  rw [bit_val, u64_or_nat _ _ (word_lt _ _) h]

/-- What a change of a row leaves. -/
def VecPost (w : World) (p g n X : Nat) (v : Value) (e : Ending) (w' : World) : Prop := e = .returned v ∧ VecAt w' p g n X ∧ Keeps [g] w w'

set_option maxRecDepth 100000 in
theorem vset_calls {w : World} {p g n X : Nat} (h : VecAt w p g n X) (i : Nat) (on : Bool) (hi : i < n) :
    Calls Tryz.prog 134 #[.pointer (some ⟨p, 0, none⟩), .int .i64 i, .bool on] w (VecPost w p g n (putB X i on) (.bool true)) := by
  have hw := vwithin_calls h i
  have hd : decide (0 ≤ (i : Int) ∧ (i : Int) < n) = true := decide_eq_true (by omega)
  rw [hd] at hw
  have hN : nw n = (n + 63) / 64 := rfl
  have hk0 : i < 256 := by have := h.le; omega
  have c1 := h.b.cell' (i := 1) rfl
  have cw := h.wd (k := i / 64) (by unfold nw; omega)
  have fr := h.r.frozen (i / 64)
  have hne := h.ne
  have h2 := h.clr hi
  have c12 := h2.b.cell' (i := 1) rfl
  have cw2 := h2.wd (k := i / 64) (by unfold nw; omega)
  have fr2 := h2.r.frozen (i / 64)
  go_enter Tryz.func134, Tryz.ntmps134
  go_wp2_with fail
  refine hw.mono ?_
  rintro e w' ⟨rfl, rfl⟩
  cases on
  · go_wp2_with fail
    go_ret
    rw [clr_val]
    exact ⟨rfl, h2, (Keeps.refl _ _).setCell (by simp) _⟩
  · go_wp2_with fail
    go_ret
    rw [← word_clr_same] at h2
    rw [clr_val, ← word_clr_same, or_val]
    exact ⟨rfl, h2.orb hi, ((Keeps.refl _ _).setCell (by simp) _).setCell (by simp) _⟩

set_option maxRecDepth 100000 in
theorem vsetout_calls {w : World} {p g n X : Nat} (h : VecAt w p g n X) (i : Int) (on : Bool) (hi : ¬ (0 ≤ i ∧ i < n)) :
    Calls Tryz.prog 134 #[.pointer (some ⟨p, 0, none⟩), .int .i64 i, .bool on] w fun e w' => e = .returned (.bool false) ∧ w = w' := by
  have hw := vwithin_calls h i
  rw [decide_eq_false hi] at hw
  go_enter Tryz.func134, Tryz.ntmps134
  go_wp2_with fail
  refine hw.mono ?_
  rintro e w' ⟨rfl, rfl⟩
  go_wp2_with fail
  go_ret
  exact ⟨rfl, rfl⟩

end Go.Proofs.YtijhaeapoapgfaaGreatDoor
