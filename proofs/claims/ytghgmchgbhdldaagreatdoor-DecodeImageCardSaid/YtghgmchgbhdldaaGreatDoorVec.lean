/-
  Vec: package vec, walked: New, within, Len, Has, Set.
-/
import Derived.Test.YtghgmchgbhdldaaGreatDoorPlain
import Derived.Test.YtghgmchgbhdldaaGreatDoorRandS
import Derived.Laws.BitsAll
import Derived.Laws.ShiftsVar
set_option linter.unusedVariables false
set_option linter.unusedSimpArgs false
namespace Go.Proofs.YtghgmchgbhdldaaGreatDoor
open Go.RowKit
attribute [local go_sem ↓] Go.wp_at_zero Go.wp_at_succ

abbrev U64 (x : Nat) : Value := .int .u64 x

theorem Tryz.info_uint64 : (Tryz.prog.info? 31).map (fun i => (i.zero, i.size, i.bytes)) = some (some (.int .u64 0), 1, 8) := by kernel_rfl

theorem made_u64s (n : Nat) : madeCells #[.int .u64 0] n = ((List.replicate n (0 : Nat)).map U64).toArray := by
  apply Array.ext
  · simp [madeCells]
  · intro i h1 h2
    simp [madeCells, Nat.mod_one]

theorem make_u64s (n : Nat) (hc : n ≤ 100000) (w : World) :
    (Instr.makeSlice 120 (.int .i64 (n : Int)) (.int .i64 (n : Int))).run Tryz.prog w = .ok (.slice (some ⟨w.heap.size, 0, none⟩) n n) (w.alloc (.cells ((List.replicate n (0 : Nat)).map U64).toArray 31)) := by
  obtain ⟨i0, hi, hz0, hz1, hz2⟩ := info_parts Tryz.info_uint64
  have hr := run_make (P := Tryz.prog) w 120 31 i0 _ Tryz.underlying120 hi hz0 .i64 .i64 n n (by omega) (by omega) (by rw [hz2]; omega) (by omega)
  rw [hz1] at hr
  simp only [Int.toNat_natCast, Nat.mul_one] at hr
  rw [hr, ← made_u64s]
  rfl

theorem Blk.u64s {w : World} {g : Nat} {L : List Nat} (h : Blk w g 31 (L.map U64)) {i : Nat} (hi : i < L.length) : w.cell? ⟨g, i, none⟩ = some (U64 (L.getD i 0)) := by
  refine h.cell' ?_
  rw [List.getElem?_map, List.getD, List.getElem?_eq_getElem hi]
  rfl
theorem map_setU (L : List Nat) (i x : Nat) : (L.map U64).set i (U64 x) = (L.set i x).map U64 := by rw [List.map_set]

/-- A row of n bits: its struct in block p, its words in block g. -/
structure VecAt (w : World) (p g n X : Nat) : Prop where
  b : Blk w p 122 [.int .i64 n, .slice (some ⟨g, 0, none⟩) (nw n) (nw n)]
  r : Blk w g 31 ((words n X).map U64)
  lt : X < 2 ^ n
  le : n ≤ 256

theorem VecAt.ne {w : World} {p g n X : Nat} (h : VecAt w p g n X) : p ≠ g := h.b.ne h.r (by decide)
theorem VecAt.keeps {S : List Nat} {w w' : World} {p g n X : Nat} (h : VecAt w p g n X) (k : Keeps S w w') (hp : p ∉ S) (hg : g ∉ S) : VecAt w' p g n X := ⟨h.b.keeps k hp, h.r.keeps k hg, h.lt, h.le⟩
theorem VecAt.wd {w : World} {p g n X k : Nat} (h : VecAt w p g n X) (hk : k < nw n) : w.cell? ⟨g, k, none⟩ = some (U64 (word X k)) := by
  rw [← words_at n X hk]
  exact h.r.u64s (by rw [words_len]; exact hk)

/-- A row, in new memory. -/
def VecNew (w : World) (n X : Nat) (e : Ending) (w' : World) : Prop :=
  ∃ p g, e = .returned (.pointer (some ⟨p, 0, none⟩)) ∧ w.heap.size ≤ p ∧ w.heap.size ≤ g ∧ VecAt w' p g n X ∧ Keeps [] w w'

set_option maxRecDepth 100000 in
theorem vnew_calls {w : World} (n : Nat) (hn : n ≤ 256) : Calls Tryz.prog 58 #[.int .i64 n] w (VecNew w n 0) := by
  have hmk := fun w => make_u64s (nw n) (by unfold nw; omega) w
  have hq : ((n : Int) + 64 - 1) / 64 = (nw n : Int) := by unfold nw; omega
  have hN : nw n ≤ 4 := by unfold nw; omega
  rw [← hq] at hmk
  have Hq := Lib.hid hq
  clear hq
  go_enter Tryz.func58, Tryz.ntmps58
  go_wp2_with fail
  go_ret
  refine ⟨_, _, rfl, Nat.le_succ _, Nat.le_refl _, ⟨?_, ?_, Nat.two_pow_pos n, hn⟩, ((Keeps.refl [] w).alloc _).alloc _⟩
  · have := Blk.newA (w.alloc (Obj.cells (Array.replicate (nw n) (U64 0)) 31)) 122 #[.int .i64 n, .slice (some ⟨w.heap.size, 0, none⟩) (nw n) (nw n)]
    simpa using this
  · refine Blk.alloc ?_ _
    have := Blk.newA w 31 (Array.replicate (nw n) (U64 0))
    rw [words_zero, List.map_replicate]
    simpa using this

set_option maxRecDepth 100000 in
theorem vnewbad_calls {w : World} (n : Int) (hn : n < 0 ∨ 256 < n) : Calls Tryz.prog 58 #[.int .i64 n] w fun e w' => e = .returned (.pointer none) ∧ w = w' := by
  rcases hn with hn | hn
  · go_enter Tryz.func58, Tryz.ntmps58
    go_wp2_with fail
    go_ret
    exact ⟨rfl, rfl⟩
  · go_enter Tryz.func58, Tryz.ntmps58
    go_wp2_with fail
    go_ret
    exact ⟨rfl, rfl⟩

set_option maxRecDepth 100000 in
theorem vwithin_calls {w : World} {p g n X : Nat} (h : VecAt w p g n X) (i : Int) :
    Calls Tryz.prog 61 #[.pointer (some ⟨p, 0, none⟩), .int .i64 i] w fun e w' => e = .returned (.bool (decide (0 ≤ i ∧ i < n))) ∧ w = w' := by
  have c0 := h.b.cell' (i := 0) rfl
  by_cases h0 : 0 ≤ i
  · by_cases h1 : i < n
    · go_enter Tryz.func61, Tryz.ntmps61
      go_wp2_with fail
      go_ret
      exact ⟨by simp [h0, h1], rfl⟩
    · go_enter Tryz.func61, Tryz.ntmps61
      go_wp2_with fail
      go_ret
      exact ⟨by simp [h0, h1], rfl⟩
  · go_enter Tryz.func61, Tryz.ntmps61
    go_wp2_with fail
    go_ret
    exact ⟨by simp; omega, rfl⟩

theorem vwithinNil_calls {w : World} (i : Int) :
    Calls Tryz.prog 61 #[.pointer none, .int .i64 i] w fun e w' => e = .returned (.bool false) ∧ w = w' := by
  go_enter Tryz.func61, Tryz.ntmps61
  go_wp2_with fail
  go_ret
  exact ⟨rfl, rfl⟩

theorem vlen_calls {w : World} {p g n X : Nat} (h : VecAt w p g n X) :
    Calls Tryz.prog 57 #[.pointer (some ⟨p, 0, none⟩)] w fun e w' => e = .returned (.int .i64 n) ∧ w = w' := by
  have c0 := h.b.cell' (i := 0) rfl
  go_enter Tryz.func57, Tryz.ntmps57
  go_wp2_with fail
  go_ret
  exact ⟨rfl, rfl⟩
theorem vlenNil_calls {w : World} :
    Calls Tryz.prog 57 #[.pointer none] w fun e w' => e = .returned (.int .i64 0) ∧ w = w' := by
  go_enter Tryz.func57, Tryz.ntmps57
  go_wp2_with fail
  go_ret
  exact ⟨rfl, rfl⟩

theorem has_val (X k : Nat) : (bits .and .u64 ((word X (k / 64) : Int) / 2 ^ (k % 64)) 1 == 1) = X.testBit k := by
  have h1 : (word X (k / 64) : Int) / 2 ^ (k % 64) = ((word X (k / 64) / 2 ^ (k % 64) : Nat) : Int) := by simp
  have h2 : word X (k / 64) / 2 ^ (k % 64) < 18446744073709551616 := Nat.lt_of_le_of_lt (Nat.div_le_self _ _) (word_lt _ _)
  have h3 := word_has X k
  rw [h1, show (1 : Int) = ((1 : Nat) : Int) from rfl, u64_and_nat _ _ h2 (by omega)]
  generalize word X (k / 64) / 2 ^ (k % 64) &&& 1 = v at *
  cases hb : X.testBit k
  · have : ¬ v = 1 := fun e => by rw [h3.1 e] at hb; cases hb
    simp; omega
  · have : v = 1 := h3.2 hb
    simp [this]

set_option maxRecDepth 100000 in
theorem vhas_calls {w : World} {p g n X : Nat} (h : VecAt w p g n X) (i : Int) :
    Calls Tryz.prog 45 #[.pointer (some ⟨p, 0, none⟩), .int .i64 i] w fun e w' => e = .returned (.bool (decide (0 ≤ i ∧ i < n) && X.testBit i.toNat)) ∧ w = w' := by
  have hw := vwithin_calls h i
  by_cases hi : 0 ≤ i ∧ i < n
  · have hd : decide (0 ≤ i ∧ i < n) = true := decide_eq_true hi
    rw [hd] at hw ⊢
    obtain ⟨k, rfl⟩ : ∃ k : Nat, i = k := ⟨i.toNat, by omega⟩
    have hN : nw n = (n + 63) / 64 := rfl
    have hk0 : k < 256 := by have := h.le; omega
    have c1 := h.b.cell' (i := 1) rfl
    have cw := h.wd (k := k / 64) (by unfold nw; omega)
    go_enter Tryz.func45, Tryz.ntmps45
    go_wp2_with fail
    refine hw.mono ?_
    rintro e w' ⟨rfl, rfl⟩
    go_wp2_with fail
    go_ret
    exact ⟨by rw [has_val]; rfl, rfl⟩
  · have hd : decide (0 ≤ i ∧ i < n) = false := decide_eq_false hi
    rw [hd] at hw ⊢
    go_enter Tryz.func45, Tryz.ntmps45
    go_wp2_with fail
    refine hw.mono ?_
    rintro e w' ⟨rfl, rfl⟩
    go_wp2_with fail
    go_ret
    exact ⟨rfl, rfl⟩

theorem vhasNil_calls {w : World} (i : Int) : Calls Tryz.prog 45 #[.pointer none, .int .i64 i] w fun e w' => e = .returned (.bool false) ∧ w = w' := by
  go_enter Tryz.func45, Tryz.ntmps45
  go_wp2_with fail
  refine (vwithinNil_calls i).mono ?_
  rintro e w' ⟨rfl, rfl⟩
  go_wp2_with fail
  go_ret
  exact ⟨rfl, rfl⟩

theorem VecAt.clr {w : World} {p g n X i : Nat} (h : VecAt w p g n X) (hi : i < n) : VecAt (w.setCell ⟨g, i / 64, none⟩ (U64 (word X (i / 64) &&& (18446744073709551615 - 2 ^ (i % 64))))) p g n (clrB X i) := by
  refine ⟨h.b.setOther _ h.ne, ?_, clr_lt h.lt, h.le⟩
  rw [← words_clr hi, ← map_setU]
  exact h.r.set _ _
theorem VecAt.orb {w : World} {p g n X i : Nat} (h : VecAt w p g n X) (hi : i < n) : VecAt (w.setCell ⟨g, i / 64, none⟩ (U64 (word X (i / 64) ||| 2 ^ (i % 64)))) p g n (orB X i) := by
  refine ⟨h.b.setOther _ h.ne, ?_, orB_lt h.lt hi, h.le⟩
  rw [← words_or hi, ← map_setU]
  exact h.r.set _ _

theorem bit_val (i : Nat) : IntKind.u64.wrap (2 ^ (i % 64)) = ((2 ^ (i % 64) : Nat) : Int) := by
  have h : 2 ^ (i % 64) < 2 ^ 64 := Nat.pow_lt_pow_right (by omega) (Nat.mod_lt _ (by omega))
  rw [two64] at h
  have e : (2 : Int) ^ (i % 64) = ((2 ^ (i % 64) : Nat) : Int) := by simp
  rw [e, IntKind.wrap_u64]
  generalize 2 ^ (i % 64) = v at *
  omega
theorem clr_val (X i : Nat) : bits .andNot .u64 (word X (i / 64) : Int) (IntKind.u64.wrap (2 ^ (i % 64))) = ((word X (i / 64) &&& (18446744073709551615 - 2 ^ (i % 64)) : Nat) : Int) := by
  have h : 2 ^ (i % 64) < 2 ^ 64 := Nat.pow_lt_pow_right (by omega) (Nat.mod_lt _ (by omega))
  rw [two64] at h
  rw [bit_val, u64_andNot_nat _ _ (word_lt _ _) h]
theorem or_val (X i : Nat) : bits .or .u64 (word X (i / 64) : Int) (IntKind.u64.wrap (2 ^ (i % 64))) = ((word X (i / 64) ||| 2 ^ (i % 64) : Nat) : Int) := by
  have h : 2 ^ (i % 64) < 2 ^ 64 := Nat.pow_lt_pow_right (by omega) (Nat.mod_lt _ (by omega))
  rw [two64] at h
  rw [bit_val, u64_or_nat _ _ (word_lt _ _) h]

/-- What a change of a row leaves. -/
def VecPost (w : World) (p g n X : Nat) (v : Value) (e : Ending) (w' : World) : Prop := e = .returned v ∧ VecAt w' p g n X ∧ Keeps [g] w w'

set_option maxRecDepth 100000 in
theorem vset_calls {w : World} {p g n X : Nat} (h : VecAt w p g n X) (i : Nat) (on : Bool) (hi : i < n) :
    Calls Tryz.prog 41 #[.pointer (some ⟨p, 0, none⟩), .int .i64 i, .bool on] w (VecPost w p g n (putB X i on) (.bool true)) := by
  have hw := vwithin_calls h i
  have hd : decide (0 ≤ (i : Int) ∧ (i : Int) < n) = true := decide_eq_true (by omega)
  rw [hd] at hw
  have hN : nw n = (n + 63) / 64 := rfl
  have hk0 : i < 256 := by have := h.le; omega
  have c1 := h.b.cell' (i := 1) rfl
  have cw := h.wd (k := i / 64) (by unfold nw; omega)
  have fr := h.r.frozen (i / 64)
  have hne := h.ne
  have h2 := h.clr hi
  have c12 := h2.b.cell' (i := 1) rfl
  have cw2 := h2.wd (k := i / 64) (by unfold nw; omega)
  have fr2 := h2.r.frozen (i / 64)
  go_enter Tryz.func41, Tryz.ntmps41
  go_wp2_with fail
  refine hw.mono ?_
  rintro e w' ⟨rfl, rfl⟩
  cases on
  · go_wp2_with fail
    go_ret
    rw [clr_val]
    exact ⟨rfl, h2, (Keeps.refl _ _).setCell (by simp) _⟩
  · go_wp2_with fail
    go_ret
    rw [← word_clr_same] at h2
    rw [clr_val, ← word_clr_same, or_val]
    exact ⟨rfl, h2.orb hi, ((Keeps.refl _ _).setCell (by simp) _).setCell (by simp) _⟩

set_option maxRecDepth 100000 in
theorem vsetout_calls {w : World} {p g n X : Nat} (h : VecAt w p g n X) (i : Int) (on : Bool) (hi : ¬ (0 ≤ i ∧ i < n)) :
    Calls Tryz.prog 41 #[.pointer (some ⟨p, 0, none⟩), .int .i64 i, .bool on] w fun e w' => e = .returned (.bool false) ∧ w = w' := by
  have hw := vwithin_calls h i
  rw [decide_eq_false hi] at hw
  go_enter Tryz.func41, Tryz.ntmps41
  go_wp2_with fail
  refine hw.mono ?_
  rintro e w' ⟨rfl, rfl⟩
  go_wp2_with fail
  go_ret
  exact ⟨rfl, rfl⟩

end Go.Proofs.YtghgmchgbhdldaaGreatDoor
