/-
  ApBits: rows of truths in memory; the reference's Bits, List, First, walked.
-/
import Derived.Test.YtghgmchgbhdldaaDoorVec4
import Derived.Test.YtghgmchgbhdldaaDoorSpA
set_option linter.unusedVariables false
set_option linter.unusedSimpArgs false
namespace Go.Proofs.YtghgmchgbhdldaaDoor
open Go.RowKit
attribute [local go_sem ↓] Go.wp_at_zero Go.wp_at_succ

theorem Tryd.info_bool : (Tryd.prog.info? 4).map (fun i => (i.zero, i.size, i.bytes)) = some (some (.bool false), 1, 1) := by kernel_rfl

theorem made_bools (n : Nat) : madeCells #[.bool false] n = ((List.replicate n false).map Value.bool).toArray := by
  apply Array.ext
  · simp [madeCells]
  · intro i h1 h2
    simp [madeCells, Nat.mod_one]

theorem make_bools (n : Nat) (hc : n ≤ 100000) (w : World) :
    (Instr.makeSlice 44 (.int .i64 (n : Int)) (.int .i64 (n : Int))).run Tryd.prog w = .ok (.slice (some ⟨w.heap.size, 0, none⟩) n n) (w.alloc (.cells ((List.replicate n false).map Value.bool).toArray 4)) := by
  obtain ⟨i0, hi, hz0, hz1, hz2⟩ := info_parts Tryd.info_bool
  have hr := run_make (P := Tryd.prog) w 44 4 i0 _ Tryd.underlying44 hi hz0 .i64 .i64 n n (by omega) (by omega) (by rw [hz2]; omega) (by omega)
  rw [hz1] at hr
  simp only [Int.toNat_natCast, Nat.mul_one] at hr
  rw [hr, ← made_bools]
  rfl

/-- A row of truths, known whole. -/
structure BlAt (w : World) (g : Nat) (l : List Bool) : Prop where
  b : Blk w g 4 (l.map Value.bool)
theorem BlAt.keeps {S : List Nat} {w w' : World} {g : Nat} {l : List Bool} (h : BlAt w g l) (k : Keeps S w w') (hg : g ∉ S) : BlAt w' g l := ⟨h.b.keeps k hg⟩
theorem BlAt.at {w : World} {g : Nat} {l : List Bool} (h : BlAt w g l) {i : Nat} (hi : i < l.length) : w.cell? ⟨g, i, none⟩ = some (.bool (l.getD i false)) := by
  refine h.b.cell' ?_
  rw [List.getElem?_map, List.getD_eq_getElem?_getD, List.getElem?_eq_getElem hi]
  rfl
theorem BlAt.bit {w : World} {g n X : Nat} (h : BlAt w g (bl n X)) {i : Nat} (hi : i < n) : w.cell? ⟨g, i, none⟩ = some (.bool (X.testBit i)) := by
  rw [← bl_at n X hi]; exact h.at (by rw [bl_len]; exact hi)
theorem BlAt.set {w : World} {g : Nat} {l : List Bool} (h : BlAt w g l) (i : Nat) (x : Bool) : BlAt (w.setCell ⟨g, i, none⟩ (.bool x)) g (l.set i x) := ⟨by rw [List.map_set]; exact h.b.set i _⟩

/-- A row of truths, in new memory. -/
def BlNew (w : World) (n : Nat) (l : List Bool) (e : Ending) (w' : World) : Prop :=
  ∃ g, e = .returned (.slice (some ⟨g, 0, none⟩) n n) ∧ w.heap.size ≤ g ∧ BlAt w' g l ∧ Keeps [] w w'

set_option maxRecDepth 100000 in
set_option maxHeartbeats 1000000 in
theorem rbits_calls {w : World} {B : Nat} {v : Value} {l : List Nat} (hl : IsInts w B v l) (n : Nat) (hn : n ≤ 256) (hlen : l.length ≤ 1000000) :
    Calls Tryd.prog 39 #[.int .i64 n, v] w (BlNew w n (bl n (putL n 0 l))) := by
  have hmk := fun w => make_bools n (by omega) w
  obtain ⟨a, c, rfl, hc1, hc2, hcell⟩ := hl
  have hcells : ∀ i, i < l.length → ∃ g0, a = some ⟨g0, 0, none⟩ ∧ w.cell? ⟨g0, i, none⟩ = some (I64 (l.getD i 0)) := fun i hi => by
    obtain ⟨g0, e, _, hc⟩ := hcell i hi
    exact ⟨g0, e, hc⟩
  have Hc := Lib.hid hcells
  have hV0 : BlAt (w.alloc (.cells (Array.replicate n (.bool false)) 4)) w.heap.size (bl n 0) := ⟨by have := Blk.newA w 4 (Array.replicate n (.bool false)); rw [bl_zero, List.map_replicate]; simpa using this⟩
  have hK0 := (Keeps.refl [] w).alloc (.cells (Array.replicate n (.bool false)) 4)
  clear hcell hcells
  go_enter Tryd.func39, Tryd.ntmps39
  go_wp2_with fail
  generalize w.alloc (.cells (Array.replicate n (.bool false)) 4) = w1 at *
  go_loopw [12] (fun i wr => ∃ k : Nat, k ≤ l.length ∧ i = .int .i64 k ∧ BlAt wr w.heap.size (bl n (putL n 0 (l.take k))) ∧ Keeps [] w wr) (fun i _ => l.length - (intOf i).toNat)
  case atStart => exact ⟨0, Nat.zero_le _, rfl, hV0, hK0⟩
  case round =>
    clear hV0 hK0 hmk
    obtain ⟨k, hk, rfl, hV, hK⟩ := hrel
    by_cases hlt : k < l.length
    · obtain ⟨g0, rfl, hc⟩ := Hc.out k hlt
      have hcr : wr.cell? ⟨g0, k, none⟩ = some (I64 (l.getD k 0)) := (World.cell?_of_block (a := ⟨g0, k, none⟩) (hK.block g0 (World.block_lt_of_cell? w _ hc) (by simp))).trans hc
      have hs : l.take (k + 1) = l.take k ++ [l.getD k 0] := by rw [List.take_add_one, List.getElem?_eq_getElem hlt, List.getD_eq_getElem?_getD, List.getElem?_eq_getElem hlt]; rfl
      have hp := putL_snoc n 0 (l.take k) (l.getD k 0)
      rw [← hs] at hp
      generalize l.getD k 0 = x at *
      have hkl : (k : Int) < (l.length : Int) := by omega
      by_cases hx : x < n
      · rw [if_pos hx] at hp
        have hS := hV.set x true
        rw [bl_set n _ hx] at hS
        have fr := hV.b.frozen x
        have cx := hV.bit hx
        have Hp := Lib.hid hp
        have HK := Lib.hid hK
        have HS := Lib.hid hS
        have hxn : (x : Int) < (n : Int) := by omega
        clear hs hp hK hV hc hS
        go_wp2_with fail
        go_roundw
        case rel => exact ⟨k + 1, by omega, by go_num, by rw [Hp.out]; exact HS.out, HK.out.setCell (.inr (Nat.le_refl _)) _⟩
        case measure => simp [intOf]; omega
      · rw [if_neg hx] at hp
        have Hp := Lib.hid hp
        have HK := Lib.hid hK
        have HV := Lib.hid hV
        have hxn : ¬ ((x : Int) < (n : Int)) := by omega
        clear hs hp hK hV hc
        go_wp2_with fail
        go_roundw
        case rel => exact ⟨k + 1, by omega, by go_num, by rw [Hp.out]; exact HV.out, HK.out⟩
        case measure => simp [intOf]; omega
    · obtain rfl : k = l.length := by omega
      rw [List.take_length] at hV
      have HV := Lib.hid hV
      have HK := Lib.hid hK
      clear hV hK
      go_wp2_with fail
      go_ret
      exact ⟨_, rfl, Nat.le_refl _, HV.out, HK.out⟩

set_option maxRecDepth 100000 in
set_option maxHeartbeats 1000000 in
theorem rlist_calls {w : World} {g n X : Nat} (h : BlAt w g (bl n X)) (hn : n ≤ 256) (c : Nat) (hc : n ≤ c) (hc2 : c ≤ 1000000) :
    Calls Tryd.prog 23 #[.slice (some ⟨g, 0, none⟩) n c] w (ListPost w (bitsOf n X)) := by
  have hgl := h.b.lt
  have hB0 := OwnI.nil w w.heap.size
  go_enter Tryd.func23, Tryd.ntmps23
  go_wp2_with fail
  go_loopw [3, 8] (fun v i wr => ∃ k : Nat, k ≤ n ∧ i = .int .i64 k ∧ OwnI wr w.heap.size v (bitsOf k X) ∧ Keeps [] w wr) (fun _ i _ => n - (intOf i).toNat)
  case atStart => exact ⟨0, Nat.zero_le _, rfl, hB0, Keeps.refl _ _⟩
  case round =>
    obtain ⟨k, hk, rfl, hO, hK⟩ := hrel
    by_cases hlt : k < n
    · have cb := (h.keeps hK (by simp)).bit hlt
      have hlen : (bitsOf k X).length ≤ k := by unfold bitsOf; exact Nat.le_trans (List.length_filter_le _ _) (by simp)
      have hsz := hK.size
      have hs := bitsOf_succ k X
      have hkn : (k : Int) < (n : Int) := by omega
      cases hb : X.testBit k
      · rw [hb] at cb hs
        simp only [Bool.false_eq_true, if_false, List.append_nil] at hs
        have Hs := Lib.hid hs
        have HO := Lib.hid hO
        have HK := Lib.hid hK
        clear hs hO hK hb
        go_wp2_with fail
        go_roundw
        case rel => exact ⟨k + 1, by omega, by go_num, by rw [Hs.out]; exact HO.out, HK.out⟩
        case measure => simp [intOf]; omega
      · rw [hb] at cb hs
        simp only [if_true] at hs
        have Hs := Lib.hid hs
        have HO := Lib.hid (hO.keeps ((Keeps.refl [] wr).alloc (.cells #[.int .i64 (k : Int)] 3)) (by simp))
        have HK := Lib.hid hK
        have hX : (wr.alloc (.cells #[.int .i64 (k : Int)] 3)).cell? ⟨wr.heap.size, 0, none⟩ = some (I64 k) := (Blk.newA wr 3 #[.int .i64 (k : Int)]).cell' rfl
        have hB : w.heap.size ≤ (wr.alloc (.cells #[.int .i64 (k : Int)] 3)).heap.size := by simp; omega
        have HX := Lib.hid hX
        generalize bitsOf k X = L at *
        clear hs hO hK hb hX
        go_wp2_with (at_builtin; (refine wpList_append_int rfl (.tmp 14) (.tmp 16) rfl HO.out rfl k _ 0 1 rfl HX.out (by omega) hB ?_); intro v2 w2 h1 h2 h3)
        go_roundw
        case rel =>
          refine ⟨k + 1, by omega, by go_num, by rw [Hs.out]; exact h1, (HK.out.alloc _).grown h2 (fun x hx => .inr ?_)⟩
          exact (HO.out.block hx).1
        case measure => simp [intOf]; omega
    · obtain rfl : n = k := by omega
      go_wp2_with fail
      go_ret
      exact ⟨_, rfl, hO, hK⟩

set_option maxRecDepth 100000 in
set_option maxHeartbeats 1000000 in
theorem rfirst_calls {w : World} {g n X : Nat} (h : BlAt w g (bl n X)) (hn : n ≤ 256) (c : Nat) (hc : n ≤ c) (hc2 : c ≤ 1000000) :
    Calls Tryd.prog 34 #[.slice (some ⟨g, 0, none⟩) n c] w fun e w' => e = .returned (.int .i64 (firstB n X)) ∧ w = w' := by
  go_enter Tryd.func34, Tryd.ntmps34
  go_wp2_with fail
  go_loopw [7] (fun i wr => ∃ k : Nat, k ≤ n ∧ i = .int .i64 k ∧ Hid (∀ j, j < k → X.testBit j = false) ∧ wr = w) (fun i _ => n - (intOf i).toNat)
  case atStart => exact ⟨0, Nat.zero_le _, rfl, Lib.hid (fun j h => absurd h (Nat.not_lt_zero _)), rfl⟩
  case round =>
    obtain ⟨k, hk, rfl, hz, rfl⟩ := hrel
    by_cases hlt : k < n
    · have cb := h.bit hlt
      have hkn : (k : Int) < (n : Int) := by omega
      cases hb : X.testBit k
      · rw [hb] at cb
        have Hb := Lib.hid hb
        clear hb
        go_wp2_with fail
        go_roundw
        case rel => exact ⟨k + 1, by omega, by go_num, Lib.hid (fun j hj => by
          by_cases e : j = k
          · subst e; exact Hb.out
          · exact hz.out j (by omega)), trivial⟩
        case measure => simp [intOf]; omega
      · rw [hb] at cb
        have HF := Lib.hid (firstB_at hlt hb hz.out)
        clear hb
        go_wp2_with fail
        go_ret
        exact ⟨by rw [HF.out]; rfl, rfl⟩
    · obtain rfl : n = k := by omega
      have HF := Lib.hid (firstB_none hz.out)
      go_wp2_with fail
      go_ret
      exact ⟨by rw [HF.out]; rfl, rfl⟩

end Go.Proofs.YtghgmchgbhdldaaDoor
