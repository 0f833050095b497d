/-
  GrVec: the texts Vec, VecL, one behind another.
-/
import Derived.Test.YtijhaeapoapgfaaGreatDoorPlain
import Derived.Test.YtijhaeapoapgfaaGreatDoorRandS
import Derived.Laws.BitsAll
import Derived.Laws.ShiftsVar
import Derived.Maps.AppendAt
import Derived.Deep.RegionHeld3
import Derived.Deep.DrawnRows
import Derived.StillTailTactics
set_option linter.unusedVariables false
set_option linter.unusedSimpArgs false
namespace Go.Proofs.YtijhaeapoapgfaaGreatDoor
open Go.RowKit
attribute [local go_sem ↓] Go.wp_at_zero Go.wp_at_succ

abbrev U64 (x : Nat) : Value := .int .u64 x

theorem Tryz.info_uint64 : (Tryz.prog.info? 25).map (fun i => (i.zero, i.size, i.bytes)) = some (some (.int .u64 0), 1, 8) := by kernel_rfl

theorem made_u64s (n : Nat) : madeCells #[.int .u64 0] n = ((List.replicate n (0 : Nat)).map U64).toArray := by
  apply Array.ext
  · simp [madeCells]
  · intro i h1 h2
    simp [madeCells, Nat.mod_one]

theorem make_u64s (n : Nat) (hc : n ≤ 100000) (w : World) :
    (Instr.makeSlice 229 (.int .i64 (n : Int)) (.int .i64 (n : Int))).run Tryz.prog w = .ok (.slice (some ⟨w.heap.size, 0, none⟩) n n) (w.alloc (.cells ((List.replicate n (0 : Nat)).map U64).toArray 25)) := by
  obtain ⟨i0, hi, hz0, hz1, hz2⟩ := info_parts Tryz.info_uint64
  have hr := run_make (P := Tryz.prog) w 229 25 i0 _ Tryz.underlying229 hi hz0 .i64 .i64 n n (by omega) (by omega) (by rw [hz2]; omega) (by omega)
  rw [hz1] at hr
  simp only [Int.toNat_natCast, Nat.mul_one] at hr
  rw [hr, ← made_u64s]
  rfl

theorem Blk.u64s {w : World} {g : Nat} {L : List Nat} (h : Blk w g 25 (L.map U64)) {i : Nat} (hi : i < L.length) : w.cell? ⟨g, i, none⟩ = some (U64 (L.getD i 0)) := by
  refine h.cell' ?_
  rw [List.getElem?_map, List.getD, List.getElem?_eq_getElem hi]
  rfl
theorem map_setU (L : List Nat) (i x : Nat) : (L.map U64).set i (U64 x) = (L.set i x).map U64 := by rw [List.map_set]

/-- A row of n bits: its struct in block p, its words in block g. -/
structure VecAt (w : World) (p g n X : Nat) : Prop where
  b : Blk w p 235 [.int .i64 n, .slice (some ⟨g, 0, none⟩) (nw n) (nw n)]
  r : Blk w g 25 ((words n X).map U64)
  lt : X < 2 ^ n
  le : n ≤ 256

theorem VecAt.ne {w : World} {p g n X : Nat} (h : VecAt w p g n X) : p ≠ g := h.b.ne h.r (by decide)
theorem VecAt.keeps {S : List Nat} {w w' : World} {p g n X : Nat} (h : VecAt w p g n X) (k : Keeps S w w') (hp : p ∉ S) (hg : g ∉ S) : VecAt w' p g n X := ⟨h.b.keeps k hp, h.r.keeps k hg, h.lt, h.le⟩
theorem VecAt.wd {w : World} {p g n X k : Nat} (h : VecAt w p g n X) (hk : k < nw n) : w.cell? ⟨g, k, none⟩ = some (U64 (word X k)) := by
  rw [← words_at n X hk]
  exact h.r.u64s (by rw [words_len]; exact hk)

/-- A row, in new memory. -/
def VecNew (w : World) (n X : Nat) (e : Ending) (w' : World) : Prop :=
  ∃ p g, e = .returned (.pointer (some ⟨p, 0, none⟩)) ∧ w.heap.size ≤ p ∧ w.heap.size ≤ g ∧ VecAt w' p g n X ∧ Keeps [] w w'

set_option maxRecDepth 100000 in
theorem vnew_calls {w : World} (n : Nat) (hn : n ≤ 256) : Calls Tryz.prog 161 #[.int .i64 n] w (VecNew w n 0) := by
  have hmk := fun w => make_u64s (nw n) (by unfold nw; omega) w
  have hq : ((n : Int) + 64 - 1) / 64 = (nw n : Int) := by unfold nw; omega
  have hN : nw n ≤ 4 := by unfold nw; omega
  rw [← hq] at hmk
  have Hq := Lib.hid hq
  clear hq
  go_enter Tryz.func161, Tryz.ntmps161
  go_wp2_with fail
  go_ret
  refine ⟨_, _, rfl, Nat.le_succ _, Nat.le_refl _, ⟨?_, ?_, Nat.two_pow_pos n, hn⟩, ((Keeps.refl [] w).alloc _).alloc _⟩
  · have := Blk.newA (w.alloc (Obj.cells (Array.replicate (nw n) (U64 0)) 25)) 235 #[.int .i64 n, .slice (some ⟨w.heap.size, 0, none⟩) (nw n) (nw n)]
    simpa using this
  · refine Blk.alloc ?_ _
    have := Blk.newA w 25 (Array.replicate (nw n) (U64 0))
    rw [words_zero, List.map_replicate]
    simpa using this

set_option maxRecDepth 100000 in
theorem vnewbad_calls {w : World} (n : Int) (hn : n < 0 ∨ 256 < n) : Calls Tryz.prog 161 #[.int .i64 n] w fun e w' => e = .returned (.pointer none) ∧ w = w' := by
  rcases hn with hn | hn
  · go_enter Tryz.func161, Tryz.ntmps161
    go_wp2_with fail
    go_ret
    exact ⟨rfl, rfl⟩
  · go_enter Tryz.func161, Tryz.ntmps161
    go_wp2_with fail
    go_ret
    exact ⟨rfl, rfl⟩

set_option maxRecDepth 100000 in
theorem vwithin_calls {w : World} {p g n X : Nat} (h : VecAt w p g n X) (i : Int) :
    Calls Tryz.prog 172 #[.pointer (some ⟨p, 0, none⟩), .int .i64 i] w fun e w' => e = .returned (.bool (decide (0 ≤ i ∧ i < n))) ∧ w = w' := by
  have c0 := h.b.cell' (i := 0) rfl
  by_cases h0 : 0 ≤ i
  · by_cases h1 : i < n
    · go_enter Tryz.func172, Tryz.ntmps172
      go_wp2_with fail
      go_ret
      exact ⟨by simp [h0, h1], rfl⟩
    · go_enter Tryz.func172, Tryz.ntmps172
      go_wp2_with fail
      go_ret
      exact ⟨by simp [h0, h1], rfl⟩
  · go_enter Tryz.func172, Tryz.ntmps172
    go_wp2_with fail
    go_ret
    exact ⟨by simp; omega, rfl⟩

theorem vwithinNil_calls {w : World} (i : Int) :
    Calls Tryz.prog 172 #[.pointer none, .int .i64 i] w fun e w' => e = .returned (.bool false) ∧ w = w' := by
  go_enter Tryz.func172, Tryz.ntmps172
  go_wp2_with fail
  go_ret
  exact ⟨rfl, rfl⟩

theorem vlen_calls {w : World} {p g n X : Nat} (h : VecAt w p g n X) :
    Calls Tryz.prog 129 #[.pointer (some ⟨p, 0, none⟩)] w fun e w' => e = .returned (.int .i64 n) ∧ w = w' := by
  have c0 := h.b.cell' (i := 0) rfl
  go_enter Tryz.func129, Tryz.ntmps129
  go_wp2_with fail
  go_ret
  exact ⟨rfl, rfl⟩
theorem vlenNil_calls {w : World} :
    Calls Tryz.prog 129 #[.pointer none] w fun e w' => e = .returned (.int .i64 0) ∧ w = w' := by
  go_enter Tryz.func129, Tryz.ntmps129
  go_wp2_with fail
  go_ret
  exact ⟨rfl, rfl⟩

theorem has_val (X k : Nat) : (bits .and .u64 ((word X (k / 64) : Int) / 2 ^ (k % 64)) 1 == 1) = X.testBit k := by
  have h1 : (word X (k / 64) : Int) / 2 ^ (k % 64) = ((word X (k / 64) / 2 ^ (k % 64) : Nat) : Int) := by simp
  have h2 : word X (k / 64) / 2 ^ (k % 64) < 18446744073709551616 := Nat.lt_of_le_of_lt (Nat.div_le_self _ _) (word_lt _ _)
  have h3 := word_has X k
  rw [h1, show (1 : Int) = ((1 : Nat) : Int) from rfl, u64_and_nat _ _ h2 (by omega)]
  generalize word X (k / 64) / 2 ^ (k % 64) &&& 1 = v at *
  cases hb : X.testBit k
  · have : ¬ v = 1 := fun e => by rw [h3.1 e] at hb; cases hb
    simp; omega
  · have : v = 1 := h3.2 hb
    simp [this]

set_option maxRecDepth 100000 in
theorem vhas_calls {w : World} {p g n X : Nat} (h : VecAt w p g n X) (i : Int) :
    Calls Tryz.prog 130 #[.pointer (some ⟨p, 0, none⟩), .int .i64 i] w fun e w' => e = .returned (.bool (decide (0 ≤ i ∧ i < n) && X.testBit i.toNat)) ∧ w = w' := by
  have hw := vwithin_calls h i
  by_cases hi : 0 ≤ i ∧ i < n
  · have hd : decide (0 ≤ i ∧ i < n) = true := decide_eq_true hi
    rw [hd] at hw ⊢
    obtain ⟨k, rfl⟩ : ∃ k : Nat, i = k := ⟨i.toNat, by omega⟩
    have hN : nw n = (n + 63) / 64 := rfl
    have hk0 : k < 256 := by have := h.le; omega
    have c1 := h.b.cell' (i := 1) rfl
    have cw := h.wd (k := k / 64) (by unfold nw; omega)
    go_enter Tryz.func130, Tryz.ntmps130
    go_wp2_with fail
    refine hw.mono ?_
    rintro e w' ⟨rfl, rfl⟩
    go_wp2_with fail
    go_ret
    exact ⟨by rw [has_val]; rfl, rfl⟩
  · have hd : decide (0 ≤ i ∧ i < n) = false := decide_eq_false hi
    rw [hd] at hw ⊢
    go_enter Tryz.func130, Tryz.ntmps130
    go_wp2_with fail
    refine hw.mono ?_
    rintro e w' ⟨rfl, rfl⟩
    go_wp2_with fail
    go_ret
    exact ⟨rfl, rfl⟩

theorem vhasNil_calls {w : World} (i : Int) : Calls Tryz.prog 130 #[.pointer none, .int .i64 i] w fun e w' => e = .returned (.bool false) ∧ w = w' := by
  go_enter Tryz.func130, Tryz.ntmps130
  go_wp2_with fail
  refine (vwithinNil_calls i).mono ?_
  rintro e w' ⟨rfl, rfl⟩
  go_wp2_with fail
  go_ret
  exact ⟨rfl, rfl⟩

theorem VecAt.clr {w : World} {p g n X i : Nat} (h : VecAt w p g n X) (hi : i < n) : VecAt (w.setCell ⟨g, i / 64, none⟩ (U64 (word X (i / 64) &&& (18446744073709551615 - 2 ^ (i % 64))))) p g n (clrB X i) := by
  refine ⟨h.b.setOther _ h.ne, ?_, clr_lt h.lt, h.le⟩
  rw [← words_clr hi, ← map_setU]
  exact h.r.set _ _
theorem VecAt.orb {w : World} {p g n X i : Nat} (h : VecAt w p g n X) (hi : i < n) : VecAt (w.setCell ⟨g, i / 64, none⟩ (U64 (word X (i / 64) ||| 2 ^ (i % 64)))) p g n (orB X i) := by
  refine ⟨h.b.setOther _ h.ne, ?_, orB_lt h.lt hi, h.le⟩
  rw [← words_or hi, ← map_setU]
  exact h.r.set _ _

theorem bit_val (i : Nat) : IntKind.u64.wrap (2 ^ (i % 64)) = ((2 ^ (i % 64) : Nat) : Int) := by
  have h : 2 ^ (i % 64) < 2 ^ 64 := Nat.pow_lt_pow_right (by omega) (Nat.mod_lt _ (by omega))
  rw [two64] at h
  have e : (2 : Int) ^ (i % 64) = ((2 ^ (i % 64) : Nat) : Int) := by simp
  rw [e, IntKind.wrap_u64]
  generalize 2 ^ (i % 64) = v at *
  omega
theorem clr_val (X i : Nat) : bits .andNot .u64 (word X (i / 64) : Int) (IntKind.u64.wrap (2 ^ (i % 64))) = ((word X (i / 64) &&& (18446744073709551615 - 2 ^ (i % 64)) : Nat) : Int) := by
  have h : 2 ^ (i % 64) < 2 ^ 64 := Nat.pow_lt_pow_right (by omega) (Nat.mod_lt _ (by omega))
  rw [two64] at h
  rw [bit_val, u64_andNot_nat _ _ (word_lt _ _) h]
theorem or_val (X i : Nat) : bits .or .u64 (word X (i / 64) : Int) (IntKind.u64.wrap (2 ^ (i % 64))) = ((word X (i / 64) ||| 2 ^ (i % 64) : Nat) : Int) := by
  have h : 2 ^ (i % 64) < 2 ^ 64 := Nat.pow_lt_pow_right (by omega) (Nat.mod_lt _ (by omega))
  rw [two64] at h
  rw [bit_val, u64_or_nat _ _ (word_lt _ _) h]

/-- What a change of a row leaves. -/
def VecPost (w : World) (p g n X : Nat) (v : Value) (e : Ending) (w' : World) : Prop := e = .returned v ∧ VecAt w' p g n X ∧ Keeps [g] w w'

set_option maxRecDepth 100000 in
theorem vset_calls {w : World} {p g n X : Nat} (h : VecAt w p g n X) (i : Nat) (on : Bool) (hi : i < n) :
    Calls Tryz.prog 134 #[.pointer (some ⟨p, 0, none⟩), .int .i64 i, .bool on] w (VecPost w p g n (putB X i on) (.bool true)) := by
  have hw := vwithin_calls h i
  have hd : decide (0 ≤ (i : Int) ∧ (i : Int) < n) = true := decide_eq_true (by omega)
  rw [hd] at hw
  have hN : nw n = (n + 63) / 64 := rfl
  have hk0 : i < 256 := by have := h.le; omega
  have c1 := h.b.cell' (i := 1) rfl
  have cw := h.wd (k := i / 64) (by unfold nw; omega)
  have fr := h.r.frozen (i / 64)
  have hne := h.ne
  have h2 := h.clr hi
  have c12 := h2.b.cell' (i := 1) rfl
  have cw2 := h2.wd (k := i / 64) (by unfold nw; omega)
  have fr2 := h2.r.frozen (i / 64)
  go_enter Tryz.func134, Tryz.ntmps134
  go_wp2_with fail
  refine hw.mono ?_
  rintro e w' ⟨rfl, rfl⟩
  cases on
  · go_wp2_with fail
    go_ret
    rw [clr_val]
    exact ⟨rfl, h2, (Keeps.refl _ _).setCell (by simp) _⟩
  · go_wp2_with fail
    go_ret
    rw [← word_clr_same] at h2
    rw [clr_val, ← word_clr_same, or_val]
    exact ⟨rfl, h2.orb hi, ((Keeps.refl _ _).setCell (by simp) _).setCell (by simp) _⟩

set_option maxRecDepth 100000 in
theorem vsetout_calls {w : World} {p g n X : Nat} (h : VecAt w p g n X) (i : Int) (on : Bool) (hi : ¬ (0 ≤ i ∧ i < n)) :
    Calls Tryz.prog 134 #[.pointer (some ⟨p, 0, none⟩), .int .i64 i, .bool on] w fun e w' => e = .returned (.bool false) ∧ w = w' := by
  have hw := vwithin_calls h i
  rw [decide_eq_false hi] at hw
  go_enter Tryz.func134, Tryz.ntmps134
  go_wp2_with fail
  refine hw.mono ?_
  rintro e w' ⟨rfl, rfl⟩
  go_wp2_with fail
  go_ret
  exact ⟨rfl, rfl⟩

end Go.Proofs.YtijhaeapoapgfaaGreatDoor

set_option linter.unusedVariables false
set_option linter.unusedSimpArgs false
namespace Go.Proofs.YtijhaeapoapgfaaGreatDoor
open Go.RowKit
attribute [local go_sem ↓] Go.wp_at_zero Go.wp_at_succ

/-- A slice of numbers that the call has made, in a block from B on (or it is nil and there are none). -/
def OwnI (w : World) (B : Nat) (v : Value) (l : List Nat) : Prop := w.ownsRow B 3 1 v l.length (l.map I64)

theorem OwnI.nil (w : World) (B : Nat) : OwnI w B (.slice none 0 0) [] := ⟨rfl, .inl ⟨rfl, rfl⟩⟩

theorem OwnI.ints {w : World} {B : Nat} {v : Value} {l : List Nat} (h : OwnI w B v l) : IsInts w B v l := by
  rcases h.2 with ⟨rfl, h0⟩ | ⟨g, cap, cur, rfl, hb, hg, hn, hm, hs, ht⟩
  · have : l = [] := List.length_eq_zero_iff.1 h0
    subst this
    exact IsInts.nil _ _
  · have hbk : Blk w g 3 (l.map I64 ++ cur.toList.drop l.length) := by
      unfold Blk
      rw [hg, ← ht, Nat.mul_one, List.take_append_drop]
    refine ⟨some ⟨g, 0, none⟩, cap, rfl, hn, hm, fun i hi => ⟨g, rfl, hb, ?_⟩⟩
    refine hbk.cell' ?_
    rw [List.getElem?_append_left (by simpa using hi), List.getElem?_map, List.getD_eq_getElem?_getD, List.getElem?_eq_getElem hi]
    rfl

theorem append_runI {w : World} {B : Nat} {v : Value} {l : List Nat} (h : OwnI w B v l) (x b o c : Nat) (hx : w.cell? ⟨b, o, none⟩ = some (I64 x))
    (hlen : l.length ≤ 1000000) (hB : B ≤ w.heap.size) (t : TypeId) :
    ∃ v' w', (Builtin.append_ #[138, 138] t #[v, .slice (some ⟨b, o, none⟩) 1 c]).run Tryz.prog w = .ok v' w' ∧ OwnI w' B v' (l ++ [x]) ∧ w.grownBy w' v.ownBlock ∧ (∀ x, v'.ownBlock = some x → v.ownBlock = some x ∨ w.heap.size ≤ x) := by
  obtain ⟨i0, hi, hz0, hz1, hz2⟩ := info_parts Tryz.info_int
  obtain ⟨v', w', hr, h2, h3, h4, h5⟩ := run_append_own_at (P := Tryz.prog) w B 138 t 3 i0 (.int .i64 0) 1 8 Tryz.underlying138 hi hz0 hz1 hz2 rfl (by decide) v l.length (l.map I64) h ⟨b, o, none⟩ 1 c [I64 x]
    (by simp) (fun j u hu => by
      obtain rfl : j = 0 := by
        rcases j with _ | j
        · rfl
        · simp at hu
      simp only [List.getElem?_cons_zero, Option.some.injEq] at hu
      subst hu
      rw [Addr.add_lit]
      exact hx) (by intro u hu; simp only [List.mem_singleton] at hu; subst hu; rfl) (by unfold maxLen; omega) (by omega) hB
  refine ⟨v', w', hr, ?_, h3, fun y hy => ?_⟩
  · unfold OwnI
    rw [List.length_append, List.map_append]
    exact h2
  · rcases h5 with h5 | h5
    · exact .inl (h5 ▸ hy)
    · rw [h5] at hy; simp at hy; exact .inr (by omega)

theorem wpList_append_int {w : World} {ops : Array Oper} {rest : List Oper} {o : Oper} {act : Act} {Q : Exit → Act → World → Prop} (hgd : o.guard = none) (s x : Operand)
    (ho : o.op = .call { callee := .builtin .append, args := #[s, x], argTypes := #[138, 138] })
    {B : Nat} {v : Value} {l : List Nat} (h : OwnI w B v l) (hs : act.eval s = v) (y b k c : Nat) (hx : act.eval x = .slice (some ⟨b, k, none⟩) 1 c) (hm : w.cell? ⟨b, k, none⟩ = some (I64 y))
    (hlen : l.length ≤ 1000000) (hB : B ≤ w.heap.size)
    (hK : ∀ v' w', OwnI w' B v' (l ++ [y]) → w.grownBy w' v.ownBlock → (∀ x, v'.ownBlock = some x → v.ownBlock = some x ∨ w.heap.size ≤ x) → wpList Tryz.prog ops Q rest (act.put o.dst v') w') : wpList Tryz.prog ops Q (o :: rest) act w := by
  refine wpList_plain hgd fun K hK' => ?_
  obtain ⟨v', w', hrun, h1, h2, h3⟩ := append_runI h y b k c hm hlen hB o.type
  unfold Oper.wp
  simp [execOp, ho, resolve, invoke, builtin, hs, hx, hrun, Result.andThen]
  exact hK' _ _ (hK v' w' h1 h2 h3)

theorem OwnI.keeps {S : List Nat} {w w' : World} {B : Nat} {v : Value} {l : List Nat} (h : OwnI w B v l) (k : Keeps S w w') (hS : ∀ x, x ∈ S → x < B) : OwnI w' B v l := by
  refine ⟨h.1, ?_⟩
  rcases h.2 with ⟨rfl, h0⟩ | ⟨g, cap, cur, rfl, hb, hg, hn, hm, hs, ht⟩
  · exact .inl ⟨rfl, h0⟩
  · exact .inr ⟨g, cap, cur, rfl, hb, (k.block g (Array.getElem?_eq_some_iff.1 hg).1 (fun hm => by have := hS g hm; omega)).trans hg, hn, hm, hs, ht⟩
theorem OwnI.block {w : World} {B x : Nat} {v : Value} {l : List Nat} (h : OwnI w B v l) (hx : v.ownBlock = some x) : B ≤ x ∧ x < w.heap.size := by
  rcases h.2 with ⟨rfl, h0⟩ | ⟨g, cap, cur, rfl, hb, hg, hn, hm, hs, ht⟩
  · simp [Value.ownBlock] at hx
  · simp [Value.ownBlock] at hx
    subst hx
    exact ⟨hb, (Array.getElem?_eq_some_iff.1 hg).1⟩

/-- A list of numbers, in new memory. -/
def ListPost (w : World) (l : List Nat) (e : Ending) (w' : World) : Prop := ∃ v, e = .returned v ∧ OwnI w' w.heap.size v l ∧ Keeps [] w w'

set_option maxRecDepth 100000 in
set_option maxHeartbeats 1000000 in
theorem vlist_calls {w : World} {p g n X : Nat} (h : VecAt w p g n X) :
    Calls Tryz.prog 74 #[.pointer (some ⟨p, 0, none⟩)] w (ListPost w (bitsOf n X)) := by
  have hn := h.le
  have hpl := h.b.lt
  have hgl := h.r.lt
  have hB0 := OwnI.nil w w.heap.size
  go_enter Tryz.func74, Tryz.ntmps74
  go_wp2_with fail
  refine (vlen_calls h).mono ?_
  rintro e w' ⟨rfl, rfl⟩
  go_wp2_with fail
  go_loopw [3, 7] (fun v i wr => ∃ k : Nat, k ≤ n ∧ i = .int .i64 k ∧ OwnI wr w.heap.size v (bitsOf k X) ∧ Keeps [] w wr) (fun _ i _ => n - (intOf i).toNat)
  case atStart => exact ⟨0, Nat.zero_le _, rfl, hB0, Keeps.refl _ _⟩
  case round =>
    obtain ⟨k, hk, rfl, hO, hK⟩ := hrel
    by_cases hlt : k < n
    · have hV := h.keeps hK (by simp) (by simp)
      have hH := vhas_calls hV (k : Int)
      have hlen : (bitsOf k X).length ≤ k := by unfold bitsOf; exact Nat.le_trans (List.length_filter_le _ _) (by simp)
      have hsz := hK.size
      rw [decide_eq_true (show 0 ≤ (k : Int) ∧ (k : Int) < n by omega), Bool.true_and, Int.toNat_natCast] at hH
      have hs := bitsOf_succ k X
      have hd : decide (k < n) = true := decide_eq_true hlt
      cases hb : X.testBit k
      · rw [hb] at hH hs
        simp only [Bool.false_eq_true, if_false, List.append_nil] at hs
        have Hs := Lib.hid hs
        have HO := Lib.hid hO
        have HK := Lib.hid hK
        clear hs hO hK hb
        go_wp2_with fail
        refine hH.mono ?_
        rintro e w' ⟨rfl, rfl⟩
        go_wp2_with fail
        go_roundw
        case rel => exact ⟨k + 1, by omega, by go_num, by rw [Hs.out]; exact HO.out, HK.out⟩
        case measure => simp [intOf]; omega
      · rw [hb] at hH hs
        simp only [if_true] at hs
        have Hs := Lib.hid hs
        have HO := Lib.hid (hO.keeps ((Keeps.refl [] wr).alloc (.cells #[.int .i64 (k : Int)] 3)) (by simp))
        have HK := Lib.hid hK
        have hX : (wr.alloc (.cells #[.int .i64 (k : Int)] 3)).cell? ⟨wr.heap.size, 0, none⟩ = some (I64 k) := (Blk.newA wr 3 #[.int .i64 (k : Int)]).cell' rfl
        have hB : w.heap.size ≤ (wr.alloc (.cells #[.int .i64 (k : Int)] 3)).heap.size := by simp; omega
        have HX := Lib.hid hX
        generalize bitsOf k X = L at *
        clear hs hO hK hb hX
        go_wp2_with fail
        refine hH.mono ?_
        rintro e w' ⟨rfl, rfl⟩
        go_wp2_with (at_builtin; (refine wpList_append_int rfl (.tmp 13) (.tmp 15) rfl HO.out rfl k _ 0 1 rfl HX.out (by omega) hB ?_); intro v2 w2 h1 h2 h3)
        go_roundw
        case rel =>
          refine ⟨k + 1, by omega, by go_num, by rw [Hs.out]; exact h1, (HK.out.alloc _).grown h2 (fun x hx => .inr ?_)⟩
          exact (HO.out.block hx).1
        case measure => simp [intOf]; omega
    · obtain rfl : n = k := by omega
      go_wp2_with fail
      go_ret
      exact ⟨_, rfl, hO, hK⟩

theorem putL_snoc (n X : Nat) (l : List Nat) (i : Nat) : putL n X (l ++ [i]) = if i < n then putB (putL n X l) i true else putL n X l := by
  unfold putL
  rw [List.foldl_append]
  rfl

theorem IsInts.keepsNil {w w' : World} {B : Nat} {v : Value} {l : List Nat} (h : IsInts w B v l) (k : Keeps [] w w') : IsInts w' B v l := h.keeps k (by simp)

set_option maxRecDepth 100000 in
set_option maxHeartbeats 1000000 in
theorem vof_calls {w : World} {B : Nat} {v : Value} {l : List Nat} (hl : IsInts w B v l) (n : Nat) (hn : n ≤ 256) (hlen : l.length ≤ 1000000) :
    Calls Tryz.prog 123 #[.int .i64 n, v] w (VecNew w n (putL n 0 l)) := by
  obtain ⟨a, c, rfl, hc1, hc2, hcell⟩ := hl
  go_enter Tryz.func123, Tryz.ntmps123
  go_wp2_with fail
  refine (vnew_calls n hn).mono ?_
  rintro e w1 ⟨p, g, rfl, hp, hg, hV, hK1⟩
  have hpg := hV.ne
  have hcells : ∀ i, i < l.length → ∃ g0, a = some ⟨g0, 0, none⟩ ∧ w.cell? ⟨g0, i, none⟩ = some (I64 (l.getD i 0)) := fun i hi => by
    obtain ⟨g0, e, _, hc⟩ := hcell i hi
    exact ⟨g0, e, hc⟩
  have Hc := Lib.hid hcells
  clear hcell hcells
  go_wp2_with fail
  go_loopw [12] (fun i wr => ∃ k : Nat, k ≤ l.length ∧ i = .int .i64 k ∧ VecAt wr p g n (putL n 0 (l.take k)) ∧ Keeps [] w wr) (fun i _ => l.length - (intOf i).toNat)
  case atStart => exact ⟨0, Nat.zero_le _, rfl, hV, hK1⟩
  case round =>
    obtain ⟨k, hk, rfl, hV, hK⟩ := hrel
    by_cases hlt : k < l.length
    · obtain ⟨g0, rfl, hc⟩ := Hc.out k hlt
      have hcr : wr.cell? ⟨g0, k, none⟩ = some (I64 (l.getD k 0)) := (World.cell?_of_block (a := ⟨g0, k, none⟩) (hK.block g0 (World.block_lt_of_cell? w _ hc) (by simp))).trans hc
      have hs : l.take (k + 1) = l.take k ++ [l.getD k 0] := by rw [List.take_add_one, List.getElem?_eq_getElem hlt, List.getD_eq_getElem?_getD, List.getElem?_eq_getElem hlt]; rfl
      have hp := putL_snoc n 0 (l.take k) (l.getD k 0)
      rw [← hs] at hp
      generalize l.getD k 0 = x at *
      have hkl : (k : Int) < (l.length : Int) := by omega
      by_cases hx : x < n
      · rw [if_pos hx] at hp
        have hS := vset_calls hV x true hx
        have Hp := Lib.hid hp
        have HK := Lib.hid hK
        clear hs hp hK hV hc
        go_wp2_with fail
        refine hS.mono ?_
        rintro e w2 ⟨rfl, hV2, hK2⟩
        go_wp2_with fail
        go_roundw
        case rel => exact ⟨k + 1, by omega, by go_num, by rw [Hp.out]; exact hV2, HK.out.trans' hK2 (by simp) (by simp; omega)⟩
        case measure => simp [intOf]; omega
      · rw [if_neg hx] at hp
        have hS := vsetout_calls hV (x : Int) true (by omega)
        have Hp := Lib.hid hp
        have HK := Lib.hid hK
        have HV := Lib.hid hV
        clear hs hp hK hV hc
        go_wp2_with fail
        refine hS.mono ?_
        rintro e w2 ⟨rfl, rfl⟩
        go_wp2_with fail
        go_roundw
        case rel => exact ⟨k + 1, by omega, by go_num, by rw [Hp.out]; exact HV.out, HK.out⟩
        case measure => simp [intOf]; omega
    · obtain rfl : k = l.length := by omega
      rw [List.take_length] at hV
      have HV := Lib.hid hV
      have HK := Lib.hid hK
      clear hV hK
      go_wp2_with fail
      go_ret
      exact ⟨p, g, rfl, by omega, by omega, HV.out, HK.out⟩

theorem Keeps.cell0 {w w' : World} (k : Keeps [] w w') {a : Addr} {v : Value} (h : w.cell? a = some v) : w'.cell? a = some v := (World.cell?_of_block (k.block a.block (World.block_lt_of_cell? w _ h) (by simp))).trans h

end Go.Proofs.YtijhaeapoapgfaaGreatDoor
