/-
  GrApBits: the texts ApBits, ApSome, one behind another.
-/
import Derived.Test.YtijhaeapoapgfaaGreatDoorGrVecL
import Derived.Test.YtijhaeapoapgfaaGreatDoorGrElM
import Derived.Test.YtijhaeapoapgfaaGreatDoorGrCd2
import Derived.Test.YtijhaeapoapgfaaGreatDoorGrRandS
import Derived.Test.YtijhaeapoapgfaaGreatDoorGrRandF
import Derived.RegionTactic
set_option linter.unusedVariables false
set_option linter.unusedSimpArgs false
namespace Go.Proofs.YtijhaeapoapgfaaGreatDoor
open Go.RowKit
attribute [local go_sem ↓] Go.wp_at_zero Go.wp_at_succ

theorem Tryz.info_bool : (Tryz.prog.info? 4).map (fun i => (i.zero, i.size, i.bytes)) = some (some (.bool false), 1, 1) := by kernel_rfl

theorem made_bools (n : Nat) : madeCells #[.bool false] n = ((List.replicate n false).map Value.bool).toArray := by
  apply Array.ext
  · simp [madeCells]
  · intro i h1 h2
    simp [madeCells, Nat.mod_one]

theorem make_bools (n : Nat) (hc : n ≤ 100000) (w : World) :
    (Instr.makeSlice 91 (.int .i64 (n : Int)) (.int .i64 (n : Int))).run Tryz.prog w = .ok (.slice (some ⟨w.heap.size, 0, none⟩) n n) (w.alloc (.cells ((List.replicate n false).map Value.bool).toArray 4)) := by
  obtain ⟨i0, hi, hz0, hz1, hz2⟩ := info_parts Tryz.info_bool
  have hr := run_make (P := Tryz.prog) w 91 4 i0 _ Tryz.underlying91 hi hz0 .i64 .i64 n n (by omega) (by omega) (by rw [hz2]; omega) (by omega)
  rw [hz1] at hr
  simp only [Int.toNat_natCast, Nat.mul_one] at hr
  rw [hr, ← made_bools]
  rfl

/-- A row of truths, known whole. -/
structure BlAt (w : World) (g : Nat) (l : List Bool) : Prop where
  b : Blk w g 4 (l.map Value.bool)
theorem BlAt.keeps {S : List Nat} {w w' : World} {g : Nat} {l : List Bool} (h : BlAt w g l) (k : Keeps S w w') (hg : g ∉ S) : BlAt w' g l := ⟨h.b.keeps k hg⟩
theorem BlAt.at {w : World} {g : Nat} {l : List Bool} (h : BlAt w g l) {i : Nat} (hi : i < l.length) : w.cell? ⟨g, i, none⟩ = some (.bool (l.getD i false)) := by
  refine h.b.cell' ?_
  rw [List.getElem?_map, List.getD_eq_getElem?_getD, List.getElem?_eq_getElem hi]
  rfl
theorem BlAt.bit {w : World} {g n X : Nat} (h : BlAt w g (bl n X)) {i : Nat} (hi : i < n) : w.cell? ⟨g, i, none⟩ = some (.bool (X.testBit i)) := by
  rw [← bl_at n X hi]; exact h.at (by rw [bl_len]; exact hi)
theorem BlAt.set {w : World} {g : Nat} {l : List Bool} (h : BlAt w g l) (i : Nat) (x : Bool) : BlAt (w.setCell ⟨g, i, none⟩ (.bool x)) g (l.set i x) := ⟨by rw [List.map_set]; exact h.b.set i _⟩

/-- A row of truths, in new memory. -/
def BlNew (w : World) (n : Nat) (l : List Bool) (e : Ending) (w' : World) : Prop :=
  ∃ g, e = .returned (.slice (some ⟨g, 0, none⟩) n n) ∧ w.heap.size ≤ g ∧ BlAt w' g l ∧ Keeps [] w w'

set_option maxRecDepth 100000 in
set_option maxHeartbeats 1000000 in
theorem rbits_calls {w : World} {B : Nat} {v : Value} {l : List Nat} (hl : IsInts w B v l) (n : Nat) (hn : n ≤ 256) (hlen : l.length ≤ 1000000) :
    Calls Tryz.prog 88 #[.int .i64 n, v] w (BlNew w n (bl n (putL n 0 l))) := by
  have hmk := fun w => make_bools n (by omega) w
  obtain ⟨a, c, rfl, hc1, hc2, hcell⟩ := hl
  have hcells : ∀ i, i < l.length → ∃ g0, a = some ⟨g0, 0, none⟩ ∧ w.cell? ⟨g0, i, none⟩ = some (I64 (l.getD i 0)) := fun i hi => by
    obtain ⟨g0, e, _, hc⟩ := hcell i hi
    exact ⟨g0, e, hc⟩
  have Hc := Lib.hid hcells
  have hV0 : BlAt (w.alloc (.cells (Array.replicate n (.bool false)) 4)) w.heap.size (bl n 0) := ⟨by have := Blk.newA w 4 (Array.replicate n (.bool false)); rw [bl_zero, List.map_replicate]; simpa using this⟩
  have hK0 := (Keeps.refl [] w).alloc (.cells (Array.replicate n (.bool false)) 4)
  clear hcell hcells
  go_enter Tryz.func88, Tryz.ntmps88
  go_wp2_with fail
  generalize w.alloc (.cells (Array.replicate n (.bool false)) 4) = w1 at *
  go_loopw [12] (fun i wr => ∃ k : Nat, k ≤ l.length ∧ i = .int .i64 k ∧ BlAt wr w.heap.size (bl n (putL n 0 (l.take k))) ∧ Keeps [] w wr) (fun i _ => l.length - (intOf i).toNat)
  case atStart => exact ⟨0, Nat.zero_le _, rfl, hV0, hK0⟩
  case round =>
    clear hV0 hK0 hmk
    obtain ⟨k, hk, rfl, hV, hK⟩ := hrel
    by_cases hlt : k < l.length
    · obtain ⟨g0, rfl, hc⟩ := Hc.out k hlt
      have hcr : wr.cell? ⟨g0, k, none⟩ = some (I64 (l.getD k 0)) := (World.cell?_of_block (a := ⟨g0, k, none⟩) (hK.block g0 (World.block_lt_of_cell? w _ hc) (by simp))).trans hc
      have hs : l.take (k + 1) = l.take k ++ [l.getD k 0] := by rw [List.take_add_one, List.getElem?_eq_getElem hlt, List.getD_eq_getElem?_getD, List.getElem?_eq_getElem hlt]; rfl
      have hp := putL_snoc n 0 (l.take k) (l.getD k 0)
      rw [← hs] at hp
      generalize l.getD k 0 = x at *
      have hkl : (k : Int) < (l.length : Int) := by omega
      by_cases hx : x < n
      · rw [if_pos hx] at hp
        have hS := hV.set x true
        rw [bl_set n _ hx] at hS
        have fr := hV.b.frozen x
        have cx := hV.bit hx
        have Hp := Lib.hid hp
        have HK := Lib.hid hK
        have HS := Lib.hid hS
        have hxn : (x : Int) < (n : Int) := by omega
        clear hs hp hK hV hc hS
        go_wp2_with fail
        go_roundw
        case rel => exact ⟨k + 1, by omega, by go_num, by rw [Hp.out]; exact HS.out, HK.out.setCell (.inr (Nat.le_refl _)) _⟩
        case measure => simp [intOf]; omega
      · rw [if_neg hx] at hp
        have Hp := Lib.hid hp
        have HK := Lib.hid hK
        have HV := Lib.hid hV
        have hxn : ¬ ((x : Int) < (n : Int)) := by omega
        clear hs hp hK hV hc
        go_wp2_with fail
        go_roundw
        case rel => exact ⟨k + 1, by omega, by go_num, by rw [Hp.out]; exact HV.out, HK.out⟩
        case measure => simp [intOf]; omega
    · obtain rfl : k = l.length := by omega
      rw [List.take_length] at hV
      have HV := Lib.hid hV
      have HK := Lib.hid hK
      clear hV hK
      go_wp2_with fail
      go_ret
      exact ⟨_, rfl, Nat.le_refl _, HV.out, HK.out⟩


set_option maxRecDepth 100000 in
set_option maxHeartbeats 1000000 in
theorem rfirst_calls {w : World} {g n X : Nat} (h : BlAt w g (bl n X)) (hn : n ≤ 256) (c : Nat) (hc : n ≤ c) (hc2 : c ≤ 1000000) :
    Calls Tryz.prog 95 #[.slice (some ⟨g, 0, none⟩) n c] w fun e w' => e = .returned (.int .i64 (firstB n X)) ∧ w = w' := by
  go_enter Tryz.func95, Tryz.ntmps95
  go_wp2_with fail
  go_loopw [7] (fun i wr => ∃ k : Nat, k ≤ n ∧ i = .int .i64 k ∧ Hid (∀ j, j < k → X.testBit j = false) ∧ wr = w) (fun i _ => n - (intOf i).toNat)
  case atStart => exact ⟨0, Nat.zero_le _, rfl, Lib.hid (fun j h => absurd h (Nat.not_lt_zero _)), rfl⟩
  case round =>
    obtain ⟨k, hk, rfl, hz, rfl⟩ := hrel
    by_cases hlt : k < n
    · have cb := h.bit hlt
      have hkn : (k : Int) < (n : Int) := by omega
      cases hb : X.testBit k
      · rw [hb] at cb
        have Hb := Lib.hid hb
        clear hb
        go_wp2_with fail
        go_roundw
        case rel => exact ⟨k + 1, by omega, by go_num, Lib.hid (fun j hj => by
          by_cases e : j = k
          · subst e; exact Hb.out
          · exact hz.out j (by omega)), trivial⟩
        case measure => simp [intOf]; omega
      · rw [hb] at cb
        have HF := Lib.hid (firstB_at hlt hb hz.out)
        clear hb
        go_wp2_with fail
        go_ret
        exact ⟨by rw [HF.out]; rfl, rfl⟩
    · obtain rfl : n = k := by omega
      have HF := Lib.hid (firstB_none hz.out)
      go_wp2_with fail
      go_ret
      exact ⟨by rw [HF.out]; rfl, rfl⟩

end Go.Proofs.YtijhaeapoapgfaaGreatDoor

set_option linter.unusedVariables false
set_option linter.unusedSimpArgs false
namespace Go.Proofs.YtijhaeapoapgfaaGreatDoor
open Go.RowKit
attribute [local go_sem ↓] Go.wp_at_zero Go.wp_at_succ

set_option maxRecDepth 100000 in
set_option maxHeartbeats 2000000 in
theorem rdegree_calls {w : World} (n : Nat) (h1 : 1 ≤ n) (h2 : n ≤ 80) (x : UInt32) :
    Calls Tryz.prog 90 #[.int .i64 n, B32 x] w fun e w' => e = .returned (.int .i64 (degree n x)) ∧ Keeps [] w w' := by
  have hA := aim_lt h1 h2 x
  have hD := fun i => degree_at (n := n) (i := i) (x := x)
  have hss := sumTo_le n n
  have hq := aim_val n x (sumTo n n) (by omega)
  have hy : ((x.toNat * sumTo n n : Nat) : Int) / 4294967296 = (aim n x : Int) := by unfold aim; simp
  have hwx : IntKind.u64.wrap (x.toNat : Int) = (x.toNat : Int) := wrap_u64_small (by have := x.toNat_lt; omega)
  have hab : aim n x ≤ 200000000 := by omega
  generalize aim n x = y at *
  generalize x.toNat * sumTo n n = q at *
  have HA := Lib.hid hA
  have HD := Lib.hid hD
  have Hq := Lib.hid hq
  clear hA hD hss hq
  go_enter Tryz.func90, Tryz.ntmps90
  go_wp2_with fail
  refine (rweights_calls n h1 h2).mono ?_
  rintro e w1 ⟨vw, rfl, hO, hK⟩
  have hI := hO.ints
  obtain ⟨a, c, rfl, hc1, hc2, hc3⟩ := hI
  have hl := wgts_len n n
  have hcell : ∀ k, k < n → ∃ g, a = some ⟨g, 0, none⟩ ∧ w1.cell? ⟨g, k, none⟩ = some (V32 (wgt n (k + 1))) := fun k hk => by
    obtain ⟨g, e, hg, hc⟩ := hc3 k (by omega)
    rw [wgts_at n hk] at hc
    exact ⟨g, e, hc⟩
  rw [hl]
  have Hc := Lib.hid hcell
  have HK := Lib.hid hK
  clear hc1 hc2 hc3 hcell hl hO hK
  go_wp2_with fail
  go_loopw [6, 17] (fun s i wr => ∃ k : Nat, k ≤ n ∧ i = .int .i64 k ∧ s = .int .u64 (sumTo n k : Nat) ∧ wr = w1) (fun _ i _ => n - (intOf i).toNat)
  case atStart => exact ⟨0, Nat.zero_le _, rfl, rfl, rfl⟩
  case round =>
    obtain ⟨k, hk, rfl, rfl, rfl⟩ := hrel
    by_cases hlt : k < n
    · obtain ⟨g, rfl, hc⟩ := Hc.out k hlt
      have hst : sumTo n (k + 1) = sumTo n k + wgt n (k + 1) := rfl
      have hb1 := sumTo_le n (k + 1)
      have hb2 := wgt_le (n := n) (d := k + 1) (by omega)
      generalize wgt n (k + 1) = z at *
      generalize sumTo n k = u at *
      have huz : (u : Int) + (z : Int) = ((sumTo n (k + 1) : Nat) : Int) := by rw [hst]; omega
      have hkn : (k : Int) < (n : Int) := by omega
      clear hst
      generalize hv : sumTo n (k + 1) = v at *
      have Hv := Lib.hid hv
      clear hv
      go_wp2_with fail
      go_roundw
      case rel => exact ⟨k + 1, by omega, by go_num, by rw [Hv.out], trivial⟩
      case measure => simp [intOf]; omega
    · obtain rfl : n = k := by omega
      have hq := Hq.out
      generalize hSn : sumTo n n = Sn at *
      have HSn := Lib.hid hSn
      clear hSn
      go_wp2_with fail
      go_loopw [10, 33] (fun s i wx => ∃ k : Nat, k ≤ n ∧ i = .int .i64 k ∧ s = .int .u64 (sumTo n k : Nat) ∧ Hid (∀ t, t < k → ¬ y < sumTo n (t + 1)) ∧ wx = wr) (fun _ i _ => n - (intOf i).toNat)
      case atStart => exact ⟨0, Nat.zero_le _, rfl, rfl, Lib.hid (fun t h => absurd h (Nat.not_lt_zero _)), rfl⟩
      case round =>
        obtain ⟨k, hk, rfl, rfl, hz, rfl⟩ := hrel
        by_cases hlt : k < n
        · obtain ⟨g, rfl, hc⟩ := Hc.out k hlt
          have hst : sumTo n (k + 1) = sumTo n k + wgt n (k + 1) := rfl
          have hb1 := sumTo_le n (k + 1)
          have hb2 := wgt_le (n := n) (d := k + 1) (by omega)
          generalize wgt n (k + 1) = z at *
          generalize sumTo n k = u at *
          have huz : (u : Int) + (z : Int) = ((sumTo n (k + 1) : Nat) : Int) := by rw [hst]; omega
          have hkn : (k : Int) < (n : Int) := by omega
          clear hst
          have hD2 := HD.out k hlt hz.out
          generalize hv : sumTo n (k + 1) = v at *
          have Hv := Lib.hid hv
          by_cases hyv : y < v
          · have hd := hD2 hyv
            have Hd := Lib.hid hd
            have hyi : (y : Int) < (v : Int) := by omega
            clear hv hd hD2
            go_wp2_with fail
            go_ret
            exact ⟨by rw [Hd.out, Int.natCast_add]; rfl, HK.out⟩
          · have hyi : ¬ ((y : Int) < (v : Int)) := by omega
            have Hyv := Lib.hid hyv
            clear hv hD2 hyv
            go_wp2_with fail
            go_roundw
            case rel => exact ⟨k + 1, by omega, by go_num, by rw [Hv.out], Lib.hid (fun t ht => by
              by_cases e : t = k
              · subst e; rw [Hv.out]; exact Hyv.out
              · exact hz.out t (by omega)), trivial⟩
            case measure => simp [intOf]; omega
        · exfalso
          have := hz.out (n - 1) (by omega)
          rw [show n - 1 + 1 = n from by omega] at this
          have h3 := HA.out
          have := HSn.out
          omega

set_option maxRecDepth 100000 in
theorem rbelow_calls {w : World} {p : Nat} {s : UInt32} (h : RSrcAt w p s) (m : Nat) (hm1 : 1 ≤ m) (hm2 : m ≤ 256) :
    Calls Tryz.prog 141 #[.pointer (some ⟨p, 0, none⟩), .int .i64 m] w (RSrcPost w p (rstep s) (.int .i64 ((rlow s m : Nat) : Int))) := by
  have hl : rlow s m = (rnext s).toNat * m / 4294967296 := rfl
  have hv := (rnext s).toNat_lt
  have hN := refnext_calls h
  rw [hl]
  clear hl h
  generalize rnext s = v at *
  have hb : v.toNat * m ≤ 4294967296 * 256 := Nat.mul_le_mul (by omega) hm2
  have hb1 := Int.ofNat_le.2 hb
  rw [Int.natCast_mul] at hb1
  have hb2 : (v.toNat : Int) * (m : Int) ≤ 9223372036854775808 := by omega
  have hb0 : (0 : Int) ≤ (v.toNat : Int) * (m : Int) := Int.mul_nonneg (by omega) (by omega)
  clear hb hb1
  go_enter Tryz.func141, Tryz.ntmps141
  go_wp2_with fail
  refine hN.mono ?_
  rintro e w1 ⟨rfl, h1', hk1⟩
  go_wp2_with fail
  go_ret
  refine ⟨?_, h1', hk1⟩
  show Ending.returned (.int .i64 ((v.toNat : Int) * (m : Int) / 4294967296)) = .returned (.int .i64 ((v.toNat * m / 4294967296 : Nat) : Int))
  rw [Int.natCast_ediv, Int.natCast_mul]
  rfl


theorem swap_here {l : List Nat} {i r : Nat} (hj : i + r < l.length) : (swapAt l i (i + r)).getD i 0 = l.getD (i + r) 0 := by
  unfold swapAt
  rw [getD_set _ _ _ _ (by rw [List.length_set]; exact hj), getD_set _ _ _ _ (by omega)]
  by_cases h : i = i + r
  · rw [if_pos h, ← h]
  · rw [if_neg h, if_pos rfl]
theorem OwnI.mono {w : World} {B B' : Nat} {v : Value} {l : List Nat} (h : OwnI w B v l) (hB : B' ≤ B) : OwnI w B' v l := by
  refine ⟨h.1, ?_⟩
  rcases h.2 with ⟨rfl, h0⟩ | ⟨g, cap, cur, rfl, hb, hg, hn, hm, hs, ht⟩
  · exact .inl ⟨rfl, h0⟩
  · exact .inr ⟨g, cap, cur, rfl, by omega, hg, hn, hm, hs, ht⟩

theorem RSrcAt.keeps {S : List Nat} {w w' : World} {p : Nat} {s : UInt32} (h : RSrcAt w p s) (k : Keeps S w w') (hp : p ∉ S) : RSrcAt w' p s := Blk.keeps h k hp
theorem RSrcAt.ltp {w : World} {p : Nat} {s : UInt32} (h : RSrcAt w p s) : p < w.heap.size := Blk.lt h

def RSomePost (w : World) (p : Nat) (l : List Nat) (e : Ending) (w' : World) : Prop :=
  ∃ v, e = .returned v ∧ OwnI w' w.heap.size v l ∧ Keeps [p] w w'

set_option maxRecDepth 100000 in
set_option maxHeartbeats 2000000 in
theorem rsome_calls {w : World} {p : Nat} {s : UInt32} (h : RSrcAt w p s) (n : Nat) (k : Int) (h1 : 1 ≤ n) (h2 : n ≤ 256) (m : Nat) (hm : (m : Int) = max 0 (min k n)) :
    Calls Tryz.prog 92 #[.pointer (some ⟨p, 0, none⟩), .int .i64 n, .int .i64 k] w (RSomePost w p (marked (someLoop n m 0 s (List.range n)) m n)) := by
  have hmk := fun w => make_ints n n (Nat.le_refl _) (by omega) w
  have hmb := fun w => make_bools n (by omega) w
  have hp := h.ltp
  have hmn : m ≤ n := by omega
  have hpm := someLoop_perm n m 0 s (List.range n) List.length_range (by omega)
  generalize hfin : someLoop n m 0 s (List.range n) = fin at *
  have Hfin := Lib.hid hfin
  have Hpm := Lib.hid hpm
  clear hfin hpm
  go_enter Tryz.func92, Tryz.ntmps92
  go_wp2_with fail
  rw [← hm]
  have Hm := Lib.hid hm
  clear hm
  go_loopw [29] (fun i wr => ∃ j : Nat, j ≤ n ∧ i = .int .i64 j ∧ Blk wr w.heap.size 3 ((List.range j ++ List.replicate (n - j) 0).map I64) ∧ Keeps [] w wr) (fun i _ => n - (intOf i).toNat)
  case atStart => exact ⟨0, Nat.zero_le _, rfl, by have := Blk.newA w 3 (Array.replicate n (I64 0)); simpa using this, (Keeps.refl [] w).alloc _⟩
  case round =>
    obtain ⟨j, hj, rfl, hB, hK⟩ := hrel
    by_cases hlt : j < n
    · have hc := hB.ints (i := j) (by simp; omega)
      have hf := hB.frozen j
      have hl := hB.lt
      go_wp2_with fail
      go_roundw
      case rel =>
        refine ⟨j + 1, by omega, by go_num, ?_, hK.setCell (by simp) _⟩
        have := hB.set j (I64 j)
        rw [map_set] at this
        have e : (List.range j ++ List.replicate (n - j) 0).set j j = List.range (j + 1) ++ List.replicate (n - (j + 1)) 0 := by
          rw [List.set_append_right _ _ (by simp), List.length_range, Nat.sub_self, show n - j = (n - (j + 1)) + 1 from by omega, List.replicate_succ, List.set_cons_zero, List.range_succ, List.append_assoc]
          rfl
        rw [e] at this
        exact this
      case measure => simp [intOf]; omega
    · obtain rfl : n = j := by omega
      rw [Nat.sub_self, List.replicate_zero, List.append_nil] at hB
      have hS := h.keeps hK (by simp)
      have hl := hB.lt
      have hV0 : BlAt (wr.alloc (.cells (Array.replicate n (.bool false)) 4)) wr.heap.size (marks n fin 0) := ⟨by have := Blk.newA wr 4 (Array.replicate n (.bool false)); rw [marks_zero, List.map_replicate]; simpa using this⟩
      have hK0 := (Keeps.refl [] wr).alloc (.cells (Array.replicate n (.bool false)) 4)
      have hS0 := hS.keeps hK0 (by simp)
      have hB0 := hB.keeps hK0 (by simp)
      have hK1 := hK.trans hK0
      have hgi := hK.size
      have hpi := hS.ltp
      clear hB hS hK hK0 hmk
      go_wp2_with fail
      generalize wr.alloc (.cells (Array.replicate n (.bool false)) 4) = w1 at *
      generalize wr.heap.size = gi at *
      go_loopw [40] (fun i wx => ∃ (j : Nat) (L : List Nat) (t : UInt32), j ≤ m ∧ i = .int .i64 j ∧ Hid (L.Perm (List.range n)) ∧ Blk wx w.heap.size 3 (L.map I64) ∧ BlAt wx gi (marks n fin j) ∧ RSrcAt wx p t ∧ someLoop n (m - j) j t L = fin ∧ Keeps [p] w wx) (fun i _ => m - (intOf i).toNat)
      case atStart => exact ⟨0, List.range n, s, Nat.zero_le _, rfl, Lib.hid (List.Perm.refl _), hB0, hV0, hS0, Hfin.out, hK1.nil⟩
      case round =>
        clear hB0 hS0 hK1 hV0
        obtain ⟨j, L, t, hjm, rfl, hPm, hB, hV, hS, hf, hK⟩ := hrel
        have hLn : L.length = n := by rw [hPm.out.length_eq, List.length_range]
        by_cases hlt2 : j < m
        · have hlow := rlow_lt t (m := n - j) (by omega)
          have hC := rbelow_calls hS (n - j) (by omega) (by omega)
          have hsub : ((n : Int) - (j : Int)) = ((n - j : Nat) : Int) := by omega
          rw [show m - j = (m - (j + 1)) + 1 from by omega] at hf
          have hhere := someLoop_here n (m - (j + 1)) j t L
          rw [hf, swap_here (by rw [hLn]; omega)] at hhere
          rw [someLoop] at hf
          have hlp := hS.ltp
          generalize rlow t (n - j) = r at *
          generalize hnj : n - j = nj at *
          have hms := marks_succ n fin (k := j) (by rw [Hpm.out.length_eq, List.length_range]; omega)
          rw [hhere] at hms
          have hyn : L.getD (j + r) 0 < n := by
            rw [List.getD_eq_getElem?_getD, List.getElem?_eq_getElem (by rw [hLn]; omega)]
            exact List.mem_range.1 (hPm.out.mem_iff.1 (List.getElem_mem _))
          have hswp := (swapAt_perm (l := L) (i := j) (j := j + r) (by omega) (by omega)).trans hPm.out
          have HP2 := Lib.hid hswp
          have Hf := Lib.hid hf
          have Hms := Lib.hid hms
          have HL := Lib.hid hLn
          clear hf hhere hms hS hLn hswp
          go_wp2_with fail
          refine hC.mono ?_
          rintro e w2 ⟨rfl, hS2, hk2⟩
          have hpw : w.heap.size ≠ p := by omega
          have hpg : gi ≠ p := by omega
          have hwg : w.heap.size ≠ gi := by omega
          have hB2 := hB.keeps hk2 (by simp; omega)
          have hV2 := hV.keeps hk2 (by simp; omega)
          have hL := HL.out
          have cj := hB2.ints (i := j) (by omega)
          have cr := hB2.ints (i := j + r) (by omega)
          have fj := hB2.frozen j
          have fr := hB2.frozen (j + r)
          have hl2 := hB2.lt
          have i1 : (0 : Int) ≤ (j : Int) := by omega
          have i2 : (j : Int) < (n : Int) := by omega
          have i3 : (0 : Int) ≤ (j : Int) + (r : Int) := by omega
          have i4 : (j : Int) + (r : Int) < (n : Int) := by omega
          have i5 : ((j : Int) + (r : Int)).toNat = j + r := by omega
          clear hL
          generalize hx : L.getD j 0 = x at *
          generalize hy : L.getD (j + r) 0 = y at *
          have Hx := Lib.hid hx
          have Hy := Lib.hid hy
          clear hx hy
          have hwg' : gi ≠ w.heap.size := by omega
          have cg := hV2.at (i := y) (by rw [marks_len]; exact hyn)
          have fg := hV2.b.frozen y
          have hyi : (y : Int) < (n : Int) := by omega
          generalize (marks n fin j).getD y false = ob at *
          go_wp2_with fail
          by_cases hr0 : r = 0
          · subst hr0
            have hxy : x = y := by rw [← Hx.out, ← Hy.out]; rfl
            subst hxy
            go_region
            go_wp2_with fail
            go_roundw
            case rel =>
              refine ⟨j + 1, swapAt L j (j + 0), rstep t, by omega, by go_num, HP2, ?_, ?_, ?_, Hf.out, ?_⟩
              · have := (hB2.set j (I64 x)).set (j + 0) (I64 x)
                rw [map_set, map_set] at this
                have e : swapAt L j (j + 0) = (L.set j x).set (j + 0) x := by unfold swapAt; rw [Hx.out, Hy.out]
                rw [e]
                exact this.drew.setOther _ (by simpa using hwg)
              · rw [← Hms.out]
                exact ((hV2.keeps (S := [w.heap.size]) (((Keeps.refl _ w2).setCell (by simp) (p := ⟨w.heap.size, j, none⟩) (I64 x)).setCell (by simp) (p := ⟨w.heap.size, j + 0, none⟩) (I64 x)) (by simp; omega)).keeps (S := []) (Keeps.refl _ _).drew (by simp)).set _ true
              · exact ((hS2.keeps (S := [w.heap.size]) (((Keeps.refl _ w2).setCell (by simp) _).setCell (by simp) _) (by simp; omega)).keeps (S := []) (Keeps.refl _ _).drew (by simp)).keeps (S := [gi]) ((Keeps.refl _ _).setCell (by simp) _) (by simp; omega)
              · exact ((((hK.trans hk2).setCell (by simp) _).setCell (by simp) _).drew).setCell (.inr (by show w.heap.size ≤ gi; omega)) _
            case measure => simp [intOf]; omega
          · have hne : ¬ j + r = j := by omega
            have hne' : ¬ j = j + r := by omega
            have hr1 : 1 ≤ r := by omega
            go_region
            go_wp2_with fail
            go_roundw
            case rel =>
              refine ⟨j + 1, swapAt L j (j + r), rstep t, by omega, by go_num, HP2, ?_, ?_, ?_, Hf.out, ?_⟩
              · have := (hB2.set j (I64 y)).set (j + r) (I64 x)
                rw [map_set, map_set] at this
                have e : swapAt L j (j + r) = (L.set j y).set (j + r) x := by unfold swapAt; rw [Hx.out, Hy.out]
                rw [e]
                exact this.drew.setOther _ (by simpa using hwg)
              · rw [← Hms.out]
                exact ((hV2.keeps (S := [w.heap.size]) (((Keeps.refl _ w2).setCell (by simp) (p := ⟨w.heap.size, j, none⟩) (I64 y)).setCell (by simp) (p := ⟨w.heap.size, j + r, none⟩) (I64 x)) (by simp; omega)).keeps (S := []) (Keeps.refl _ _).drew (by simp)).set _ true
              · exact ((hS2.keeps (S := [w.heap.size]) (((Keeps.refl _ w2).setCell (by simp) _).setCell (by simp) _) (by simp; omega)).keeps (S := []) (Keeps.refl _ _).drew (by simp)).keeps (S := [gi]) ((Keeps.refl _ _).setCell (by simp) _) (by simp; omega)
              · exact ((((hK.trans hk2).setCell (by simp) _).setCell (by simp) _).drew).setCell (.inr (by show w.heap.size ≤ gi; omega)) _
            case measure => simp [intOf]; omega
        · obtain rfl : m = j := by omega
          obtain ⟨wo, hwo⟩ : ∃ wo, wo = wr := ⟨_, rfl⟩
          subst hwo
          have hgl := hV.b.lt
          have hB0 := OwnI.nil wo wo.heap.size
          have HK := Lib.hid hK
          have hwl : w.heap.size ≤ wo.heap.size := hK.size
          clear hf hB hS hPm hLn hK
          go_wp2_with fail
          go_loopw [12, 73] (fun v i wx => ∃ k : Nat, k ≤ n ∧ i = .int .i64 k ∧ OwnI wx wo.heap.size v (marked fin m k) ∧ Keeps [] wo wx) (fun _ i _ => n - (intOf i).toNat)
          case atStart => exact ⟨0, Nat.zero_le _, rfl, hB0, Keeps.refl _ _⟩
          case round =>
            obtain ⟨k, hk, rfl, hO, hK⟩ := hrel
            by_cases hlt : k < n
            · have cb := (hV.keeps hK (by simp)).at (i := k) (by rw [marks_len]; exact hlt)
              rw [marks_at n fin m hlt] at cb
              have hlen : (marked fin m k).length ≤ k := by unfold marked; exact Nat.le_trans (List.length_filter_le _ _) (by simp)
              have hsz := hK.size
              have hs := marked_succ fin m k
              have hkn : (k : Int) < (n : Int) := by omega
              by_cases hb : k ∈ fin.take m
              · rw [decide_eq_true hb] at cb
                rw [if_pos hb] at hs
                have Hs := Lib.hid hs
                have HO := Lib.hid (hO.keeps ((Keeps.refl [] wr).alloc (.cells #[.int .i64 (k : Int)] 3)) (by simp))
                have HK := Lib.hid hK
                have hX : (wr.alloc (.cells #[.int .i64 (k : Int)] 3)).cell? ⟨wr.heap.size, 0, none⟩ = some (I64 k) := (Blk.newA wr 3 #[.int .i64 (k : Int)]).cell' rfl
                have hB : wo.heap.size ≤ (wr.alloc (.cells #[.int .i64 (k : Int)] 3)).heap.size := by simp; omega
                have HX := Lib.hid hX
                generalize marked fin m k = L at *
                clear hs hO hK hb hX
                go_wp2_with (at_builtin; (refine wpList_append_int rfl (.tmp 79) (.tmp 81) rfl HO.out rfl k _ 0 1 rfl HX.out (by omega) hB ?_); intro v2 w2 h1 h2 h3)
                go_roundw
                case rel =>
                  refine ⟨k + 1, by omega, by go_num, by rw [Hs.out]; exact h1, (HK.out.alloc _).grown h2 (fun x hx => .inr ?_)⟩
                  exact (HO.out.block hx).1
                case measure => simp [intOf]; omega
              · rw [decide_eq_false hb] at cb
                rw [if_neg hb, List.append_nil] at hs
                have Hs := Lib.hid hs
                have HO := Lib.hid hO
                have HK := Lib.hid hK
                clear hs hO hK hb
                go_wp2_with fail
                go_roundw
                case rel => exact ⟨k + 1, by omega, by go_num, by rw [Hs.out]; exact HO.out, HK.out⟩
                case measure => simp [intOf]; omega
            · obtain rfl : n = k := by omega
              have HO := Lib.hid hO
              have HK2 := Lib.hid hK
              clear hO hK
              go_wp2_with fail
              go_ret
              exact ⟨_, rfl, HO.out.mono hwl, HK.out.trans' HK2.out (fun _ h => .inl h) (by simp)⟩

end Go.Proofs.YtijhaeapoapgfaaGreatDoor
