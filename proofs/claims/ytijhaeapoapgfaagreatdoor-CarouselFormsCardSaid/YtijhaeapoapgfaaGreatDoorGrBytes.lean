/-
  GrBytes: the texts Bytes, AppB, Sl, MakeB, ConcatB, one behind another.
-/
import Derived.Test.YtijhaeapoapgfaaGreatDoorRows
import Derived.Test.YtijhaeapoapgfaaGreatDoorGrBase
import Derived.Laws.CopyRow
import Derived.Maps.AppendAt
import Derived.Laws.MakeOwn
import Derived.Deep.DeepMust
namespace Go.Proofs.YtijhaeapoapgfaaGreatDoor
open Go.RowKit

/-- A slice value that owns the bytes l, in a block from B on (or it is nil and l is empty). -/
def Own (w : World) (B : Nat) (v : Value) (l : List UInt8) : Prop := w.ownsRow B 5 1 v l.length (l.map B8)

theorem Own.rd {w : World} {B : Nat} {v : Value} {l : List UInt8} (h : Own w B v l) :
    ∃ a c, v = .slice a l.length c ∧ l.length ≤ c ∧ Rd w a l ∧ (∀ x, a = some x → B ≤ x.block ∧ x.block < w.heap.size ∧ x.off = 0 ∧ x.spot = none) ∧ (∀ x, a = some x → ∃ r, Blk w x.block 5 (l.map B8 ++ r)) ∧ (a = none → l = []) := by
  rcases h.2 with ⟨rfl, h0⟩ | ⟨g, cap, cur, rfl, hb, hg, hn, hm, hs, ht⟩
  · have : l = [] := List.length_eq_zero_iff.1 h0
    subst this
    exact ⟨none, 0, rfl, by simp, Rd.nil _ _, by simp, by simp, fun _ => rfl⟩
  · have hlt : g < w.heap.size := (Array.getElem?_eq_some_iff.1 hg).1
    have hbk : Blk w g 5 (l.map B8 ++ cur.toList.drop l.length) := by
      unfold Blk
      rw [hg, ← ht, Nat.mul_one, List.take_append_drop]
    refine ⟨some ⟨g, 0, none⟩, cap, rfl, hn, Rd.blk hbk 0 l ?_, ?_, ?_, by simp⟩
    · intro i u hu
      have hi : i < l.length := by
        rcases Nat.lt_or_ge i l.length with h' | h'
        · exact h'
        · rw [List.getElem?_eq_none h'] at hu; simp at hu
      rw [Nat.zero_add, List.getElem?_append_left (by simpa using hi), List.getElem?_map, hu]
      rfl
    · intro x hx
      simp only [Option.some.injEq] at hx
      subst hx
      exact ⟨hb, hlt, rfl, rfl⟩
    · intro x hx
      simp only [Option.some.injEq] at hx
      subst hx
      exact ⟨_, hbk⟩

theorem Own.row {w : World} {B : Nat} {v : Value} {l : List UInt8} (h : Own w B v l) (hne : l ≠ []) :
    ∃ g c r, v = .slice (some ⟨g, 0, none⟩) l.length c ∧ l.length ≤ c ∧ B ≤ g ∧ g < w.heap.size ∧ Blk w g 5 (l.map B8 ++ r) := by
  obtain ⟨a, c, rfl, hc, _, hab, hbl, hn⟩ := h.rd
  cases a with
  | none => exact absurd (hn rfl) hne
  | some x =>
    obtain ⟨h1, h2, h3, h4⟩ := hab x rfl
    obtain ⟨r, hr⟩ := hbl x rfl
    obtain ⟨g, o, sp⟩ := x
    dsimp only at h1 h2 h3 h4 hr
    subst h3 h4
    exact ⟨g, c, r, rfl, hc, h1, h2, hr⟩

theorem Blk.rdSub {w : World} {g : Nat} {l : List UInt8} {r : List Value} (h : Blk w g 5 (l.map B8 ++ r)) (o n : Nat) : Rd w (some ⟨g, o, none⟩) ((l.drop o).take n) := by
  refine Rd.blk h o _ ?_
  intro i u hu
  rw [List.getElem?_take] at hu
  split at hu
  · rw [List.getElem?_drop] at hu
    rw [List.getElem?_append_left (by rw [List.length_map]; exact (List.getElem?_eq_some_iff.1 hu).1), List.getElem?_map, hu]
    rfl
  · simp at hu

theorem Own.keeps {S : List Nat} {w w' : World} {B : Nat} {v : Value} {l : List UInt8} (h : Own w B v l) (k : Keeps S w w') (hS : ∀ x, v.ownBlock = some x → x ∉ S) : Own w' B v l := by
  refine ⟨h.1, ?_⟩
  rcases h.2 with hn | ⟨g, cap, cur, rfl, hb, hg, rest⟩
  · exact .inl hn
  · exact .inr ⟨g, cap, cur, rfl, hb, (k.block g (Array.getElem?_eq_some_iff.1 hg).1 (hS g rfl)).trans hg, rest⟩

theorem Own.mono {w : World} {B B' : Nat} {v : Value} {l : List UInt8} (h : Own w B v l) (hB : B' ≤ B) : Own w B' v l := by
  refine ⟨h.1, ?_⟩
  rcases h.2 with hn | ⟨g, cap, cur, rfl, hb, rest⟩
  · exact .inl hn
  · exact .inr ⟨g, cap, cur, rfl, by omega, rest⟩

theorem Own.nil (w : World) (B : Nat) : Own w B (.slice none 0 0) [] := World.ownsRow_nil _ _ _ _

theorem Tryz.info_u8 : (Tryz.prog.info? 5).map (fun i => (i.zero, i.size, i.bytes)) = some (some (.int .u8 0), 1, 1) := by kernel_rfl

theorem B8_one (l : List UInt8) : ∀ u ∈ l.map B8, u.oneCell' = true := by
  intro u hu
  simp only [List.mem_map] at hu
  obtain ⟨x, _, rfl⟩ := hu
  rfl

theorem Rd.news {w : World} {x : Addr} {l : List UInt8} (h : Rd w (some x) l) : ∀ j u, (l.map B8)[j]? = some u → w.cell? (x.add j) = some u := by
  intro j u hu
  rw [List.getElem?_map] at hu
  obtain ⟨y, hy, rfl⟩ := Option.map_eq_some_iff.1 hu
  obtain ⟨b, o, hx, hc⟩ := h j y hy
  simp only [Option.some.injEq] at hx
  subst hx
  rw [Addr.add_lit]
  exact hc

theorem Tryz.size_u8 : (Tryz.prog.info? 5).map (·.size) = some 1 := by kernel_rfl

/-- copy(dst, src): bytes into a block known whole. -/
theorem copy_run {w : World} {g o dLen dCap : Nat} {x : Addr} {sLen sCap : Nat} {cur : List Value} (hg : Blk w g 5 cur) (cs : List UInt8) (hn : cs.length = Nat.min sLen dLen)
    (hsrc : ∀ j v, (cs.map B8)[j]? = some v → w.cell? (x.add j) = some v) (hfit : o + cs.length ≤ cur.length) :
    ∃ W', (Builtin.copy_ #[22, 22] 3 #[.slice (some ⟨g, o, none⟩) dLen dCap, .slice (some x) sLen sCap]).run Tryz.prog w = .ok (.int .i64 cs.length) W' ∧
      Blk W' g 5 (cur.take o ++ cs.map B8 ++ cur.drop (o + cs.length)) ∧ Keeps [g] w W' := by
  have hg' : w.heap[g]? = some (.cells cur.toArray 5 (0, 0)) := hg
  have h := run_copy_row (P := Tryz.prog) w 22 22 3 5 g o dLen dCap x sLen sCap cur.toArray 5 (cs.map B8) Tryz.underlying22 Tryz.size_u8 hg' (by simpa using hn) hsrc (by simpa using hfit) (B8_one cs)
  refine ⟨_, h.trans (by rw [List.length_map]; rfl), ?_, ?_⟩
  · have := setRow_heap w g cur.toArray (cur.toArray.toList.take o ++ cs.map B8 ++ cur.toArray.toList.drop (o + (cs.map B8).length)).toArray 5 (0, 0) hg'
    simpa [Blk] using this
  · refine ⟨rfl, rfl, rfl, by simp [World.setRow], fun k hk hS => ?_⟩
    simp only [World.setRow, Array.getElem?_modify]
    rw [if_neg (by simp at hS; omega)]

/-- string(b) -/
theorem str_run {w : World} {a : Option Addr} {l : List UInt8} (n c : Nat) (hl : Rd w a l) (hn : l.length = n) (h0 : a = none → l = []) :
    (convert 22 9 (.slice a n c)).run Tryz.prog w = .ok (.string ⟨l.toArray⟩) w := by
  subst hn
  cases a with
  | none =>
    obtain rfl := h0 rfl
    exact run_convert_bytes_nil (P := Tryz.prog) w 22 5 Tryz.underlying22 Tryz.underlying5 0 c 9 Tryz.underlying9
  | some x =>
    refine run_convert_bytes_back (P := Tryz.prog) w 22 9 5 x c l Tryz.underlying22 Tryz.underlying5 Tryz.underlying9 (fun j hj => ?_)
    obtain ⟨b, o, hx, hc⟩ := hl j l[j] (by simp [hj])
    simp only [Option.some.injEq] at hx
    subst hx
    rw [Addr.add_lit]
    exact hc

def ClonePost (w : World) (l : List UInt8) (e : Ending) (w' : World) : Prop := ∃ v, e = .returned v ∧ Own w' w.heap.size v l ∧ Keeps [] w w'

set_option maxRecDepth 100000 in
set_option maxHeartbeats 400000 in
theorem clone_calls {w : World} (a : Option Addr) (n c : Nat) (l : List UInt8) (hl : Rd w a l) (hln : l.length = n) (hn : l.length ≤ 140737488351232) (h0 : a = none → l = []) :
    Calls Tryz.prog 38 #[.slice a n c] w (ClonePost w l) := by
  subst hln
  have hnil := fun w (a : Option Addr) l c => Lib.run_eql_slice_nil (P := Tryz.prog) w 22 5 a l c 0 0 Tryz.underlying22
  obtain ⟨i0, hi, hz0, hz1, hz2⟩ := info_parts Tryz.info_u8
  cases a with
  | none =>
    obtain rfl := h0 rfl
    go_enter Tryz.func38, Tryz.ntmps38
    go_wp2
    go_ret
    exact ⟨_, rfl, Own.nil _ _, Keeps.refl _ _⟩
  | some x =>
    go_enter Tryz.func38, Tryz.ntmps38
    have hnews : ∀ j u, (l.map B8)[j]? = some u → (w.alloc (.cells #[] 5)).cell? (x.add j) = some u := (hl.keeps ((Keeps.refl [] w).alloc _) (by simp)).news
    go_wp2_with (at_builtin; refine wpList_append_own _ rfl _ _ 22 rfl w.heap.size 5 i0 (.int .u8 0) 1 1 Tryz.underlying22 hi hz0 hz1 hz2 rfl (by decide) _ 0 [] rfl (World.ownsRow_made w #[] 0 (Nat.le_refl _) (by decide) rfl) x l.length c (l.map B8) rfl (by simp) hnews (B8_one l) ?c3 ?c4 ?c5 ?_)
    case c3 => unfold maxLen; omega
    case c4 => omega
    case c5 => simp
    intro v' w1 hown hgrow _
    clear hnews hl hnil
    go_wp2
    go_ret
    refine ⟨v', rfl, ?_, ?_⟩
    · simpa [Own] using hown
    · exact ((Keeps.refl [] w).alloc _).grown hgrow (by simp [Value.ownBlock])

end Go.Proofs.YtijhaeapoapgfaaGreatDoor

namespace Go.Proofs.YtijhaeapoapgfaaGreatDoor
open Go.RowKit

/-- append(v, bytes..), v the call's own. -/
theorem append_run {w : World} {B : Nat} {v : Value} {l m : List UInt8} (h : Own w B v l) (a : Option Addr) (n c : Nat) (hm : Rd w a m) (hn : m.length = n) (h0 : a = none → n = 0 ∧ c = 0)
    (hlen : l.length + n ≤ 140737488351232) (hB : B ≤ w.heap.size) (t : TypeId) :
    ∃ v' w', (Builtin.append_ #[22, 22] t #[v, .slice a n c]).run Tryz.prog w = .ok v' w' ∧ Own w' B v' (l ++ m) ∧ w.grownBy w' v.ownBlock ∧ (∀ x, v'.ownBlock = some x → v.ownBlock = some x ∨ w.heap.size ≤ x) := by
  obtain ⟨i0, hi, hz0, hz1, hz2⟩ := info_parts Tryz.info_u8
  subst hn
  cases a with
  | none =>
    obtain ⟨h1, rfl⟩ := h0 rfl
    have : m = [] := List.length_eq_zero_iff.1 h1
    subst this
    have hr := run_append_owned_none (P := Tryz.prog) (w := w) B 22 t 5 i0 1 Tryz.underlying22 hi v l.length (l.map B8) h
    exact ⟨v, w, hr, by simpa using h, ⟨rfl, rfl, rfl, Nat.le_refl _, fun _ _ _ => rfl⟩, fun x hx => .inl hx⟩
  | some x =>
    obtain ⟨v', w', hr, h2, h3, h4, h5⟩ := run_append_own_at (P := Tryz.prog) w B 22 t 5 i0 (.int .u8 0) 1 1 Tryz.underlying22 hi hz0 hz1 hz2 rfl (by decide) v l.length (l.map B8) h x m.length c (m.map B8)
      (by simp) hm.news (B8_one m) (by unfold maxLen; omega) (by omega) hB
    refine ⟨v', w', hr, by simpa [Own] using h2, h3, fun y hy => ?_⟩
    rcases h5 with h5 | h5
    · exact .inl (h5 ▸ hy)
    · rw [h5] at hy; simp at hy; exact .inr (by omega)

/-- .. at the operation, for the walk. -/
theorem wpList_append_bytes {w : World} {ops : Array Oper} {rest : List Oper} {o : Oper} {act : Act} {Q : Exit → Act → World → Prop} (hgd : o.guard = none) (s x : Operand)
    (ho : o.op = .call { callee := .builtin .append, args := #[s, x], argTypes := #[22, 22] })
    {B : Nat} {v : Value} {l m : List UInt8} (h : Own w B v l) (hs : act.eval s = v) (a : Option Addr) (n c : Nat) (hx : act.eval x = .slice a n c) (hm : Rd w a m) (hn : m.length = n) (h0 : a = none → n = 0 ∧ c = 0)
    (hlen : l.length + n ≤ 140737488351232) (hB : B ≤ w.heap.size)
    (hK : ∀ v' w', Own w' B v' (l ++ m) → w.grownBy w' v.ownBlock → (∀ x, v'.ownBlock = some x → v.ownBlock = some x ∨ w.heap.size ≤ x) → wpList Tryz.prog ops Q rest (act.put o.dst v') w') : wpList Tryz.prog ops Q (o :: rest) act w := by
  refine wpList_plain hgd fun K hK' => ?_
  obtain ⟨v', w', hrun, h1, h2, h3⟩ := append_run h a n c hm hn h0 hlen hB o.type
  unfold Oper.wp
  simp [execOp, ho, resolve, invoke, builtin, hs, hx, hrun, Result.andThen]
  exact hK' _ _ (hK v' w' h1 h2 h3)

end Go.Proofs.YtijhaeapoapgfaaGreatDoor

namespace Go.Proofs.YtijhaeapoapgfaaGreatDoor
open Go.RowKit

/-- A slice value that reads as the bytes l; what it reads lies in blocks from B on. -/
def Sl (w : World) (B : Nat) (v : Value) (l : List UInt8) : Prop :=
  ∃ a c, v = .slice a l.length c ∧ l.length ≤ c ∧ c ≤ 9223372036854775807 ∧ Rd w a l ∧ (a = none → l = [] ∧ c = 0) ∧ (∀ x, a = some x → l ≠ [] → B ≤ x.block ∧ x.block < w.heap.size)

theorem Own.cap {w : World} {B : Nat} {v : Value} {l : List UInt8} (h : Own w B v l) :
    ∃ a c, v = .slice a l.length c ∧ l.length ≤ c ∧ c ≤ 9223372036854775807 ∧ (a = none → l = [] ∧ c = 0) := by
  rcases h.2 with ⟨rfl, h0⟩ | ⟨g, cap, cur, rfl, hb, hg, hn, hm, hs, ht⟩
  · exact ⟨none, 0, by rw [h0], by omega, by omega, fun _ => ⟨List.length_eq_zero_iff.1 h0, rfl⟩⟩
  · exact ⟨_, cap, rfl, hn, hm, by simp⟩

theorem Own.sl {w : World} {B : Nat} {v : Value} {l : List UInt8} (h : Own w B v l) : Sl w B v l := by
  obtain ⟨a, c, rfl, h1, h2, h3⟩ := h.cap
  obtain ⟨a', c', he, _, hr, hb, _, _⟩ := h.rd
  simp only [Value.slice.injEq] at he
  obtain ⟨rfl, _, rfl⟩ := he
  exact ⟨a, c, rfl, h1, h2, hr, h3, fun x hx _ => ⟨(hb x hx).1, (hb x hx).2.1⟩⟩

theorem Sl.nil (w : World) (B : Nat) : Sl w B (.slice none 0 0) [] := (Own.nil w B).sl

theorem Sl.mono {w : World} {B B' : Nat} {v : Value} {l : List UInt8} (h : Sl w B v l) (hB : B' ≤ B) : Sl w B' v l := by
  obtain ⟨a, c, rfl, h1, h2, h3, h4, h5⟩ := h
  exact ⟨a, c, rfl, h1, h2, h3, h4, fun x hx hl => ⟨by have := (h5 x hx hl).1; omega, (h5 x hx hl).2⟩⟩

theorem Sl.keeps {S : List Nat} {w w' : World} {B : Nat} {v : Value} {l : List UInt8} (h : Sl w B v l) (k : Keeps S w w') (hS : ∀ x, x ∈ S → x < B) : Sl w' B v l := by
  obtain ⟨a, c, rfl, h1, h2, h3, h4, h5⟩ := h
  refine ⟨a, c, rfl, h1, h2, h3.keeps k (fun x hx hl hm => ?_), h4, fun x hx hl => ⟨(h5 x hx hl).1, Nat.lt_of_lt_of_le (h5 x hx hl).2 k.size⟩⟩
  have := hS _ hm
  have := (h5 x hx hl).1
  omega

/-- string(v) -/
theorem Sl.str {w : World} {B : Nat} {v : Value} {l : List UInt8} (h : Sl w B v l) : (convert 22 9 v).run Tryz.prog w = .ok (.string ⟨l.toArray⟩) w := by
  obtain ⟨a, c, rfl, h1, h2, h3, h4, h5⟩ := h
  exact str_run _ c h3 rfl (fun h => (h4 h).1)

end Go.Proofs.YtijhaeapoapgfaaGreatDoor

namespace Go.Proofs.YtijhaeapoapgfaaGreatDoor
open Go.RowKit

def zeros (n : Nat) : Array Value := ((List.replicate n (0 : UInt8)).map B8).toArray

theorem made_zeros (n : Nat) : madeCells #[.int .u8 0] n = zeros n := by
  apply Array.ext
  · simp [madeCells, zeros]
  · intro i h1 h2
    simp [madeCells, zeros, Nat.mod_one]

theorem make_u8 (n c : Nat) (hnc : n ≤ c) (hc : c ≤ 281474976710656) (w : World) :
    (Instr.makeSlice 22 (.int .i64 (n : Int)) (.int .i64 (c : Int))).run Tryz.prog w = .ok (.slice (some ⟨w.heap.size, 0, none⟩) n c) (w.alloc (.cells (zeros c) 5)) := by
  obtain ⟨i0, hi, hz0, hz1, hz2⟩ := info_parts Tryz.info_u8
  have hr := run_make (P := Tryz.prog) w 22 5 i0 _ Tryz.underlying22 hi hz0 .i64 .i64 n c (by omega) (by omega) (by rw [hz2]; omega) (by omega)
  rw [hz1] at hr
  simp only [Int.toNat_natCast, Nat.mul_one] at hr
  rw [hr, ← made_zeros]
  rfl


theorem zeros_rd (w : World) (n : Nat) : Rd (w.alloc (.cells (zeros n) 5)) (some ⟨w.heap.size, 0, none⟩) (List.replicate n 0) := Rd.lit w _ _ _ rfl

end Go.Proofs.YtijhaeapoapgfaaGreatDoor

set_option linter.unusedVariables false
set_option linter.unusedSimpArgs false
namespace Go.Proofs.YtijhaeapoapgfaaGreatDoor
open Go.RowKit

/-- append([]byte(nil), make([]byte, n)...) -/
theorem grow_run (w : World) (n : Nat) (h0 : 0 < n) (hn : n ≤ 140737488351232) (ty : TypeId) :
    (Builtin.append_ #[22, 3] ty #[.slice none 0 0, .int .i64 n]).run Tryz.prog w =
      .ok (.slice (some ⟨w.heap.size, 0, none⟩) n (grownCap w n 0 5)) (w.drew.alloc (.cells (Builtin.zeroCells #[.int .u8 0] n ++ Builtin.zeroCells #[.int .u8 0] (grownCap w n 0 5 - n)) 5)) := by
  obtain ⟨i0, hi, hz0, hz1, hz2⟩ := info_parts Tryz.info_u8
  have hn' : n ≠ 0 := by omega
  have h63' : ¬ (9223372036854775807 < (n : Int)) := by omega
  have h48' : ¬ (281474976710656 < Builtin.nextslicecap n 0) := by rw [nextslicecap_zero h0]; omega
  have h48'' : ¬ (281474976710656 < (n : Int)) := by omega
  have hw : IntKind.i64.wrap (n : Int) = n := IntWalk.i64_in _ (by omega)
  have hle : ¬ ((n : Int) ≤ 0) := by omega
  have hmx : ¬ (9223372036854775807 < max (n : Int) 0) := by omega
  have hneg : ¬ ((n : Int) < 0) := by omega
  simp [Builtin.append_, run_underlying Tryz.underlying22, run_underlying Tryz.underlying3, sizeOf, typeInfo, zeroValue, hi, hz0, hz1, hz2, Builtin.lenOf, hn', h63', h48', h48'', hw, hneg, Question.forced, run_firstCells_none, newRow, grownCap, asInt, asIntOf]
  rfl

theorem wpList_grow {w : World} {ops : Array Oper} {rest : List Oper} {o : Oper} {act : Act} {Q : Exit → Act → World → Prop} (hgd : o.guard = none) (s x : Operand)
    (ho : o.op = .call { callee := .builtin .append, args := #[s, x], argTypes := #[22, 3] }) (n : Nat) (hs : act.eval s = .slice none 0 0) (hx : act.eval x = .int .i64 n) (h0 : 0 < n) (hn : n ≤ 140737488351232)
    (hK : ∀ c w', n ≤ c → c ≤ maxLen → (∃ cs : Array Value, cs.size = c ∧ w' = w.drew.alloc (.cells cs 5)) → wpList Tryz.prog ops Q rest (act.put o.dst (.slice (some ⟨w.heap.size, 0, none⟩) n c)) w') : wpList Tryz.prog ops Q (o :: rest) act w := by
  refine wpList_plain hgd fun K hK' => ?_
  unfold Oper.wp
  simp [execOp, ho, resolve, invoke, builtin, hs, hx, grow_run w n h0 hn o.type, Result.andThen]
  have hge := grownCap_ge w n 0 5
  refine hK' _ _ (hK _ _ hge (grownCap_le_maxLen w n 0 5 (by unfold maxLen; omega)) ⟨_, ?_, rfl⟩)
  simp only [Array.size_append, size_zeroCells]
  simp
  omega

set_option maxRecDepth 100000 in
theorem grow_calls {w : World} (n : Nat) (h0 : 0 < n) (hn : n ≤ 140737488351232) :
    Calls Tryz.prog 154 #[.slice none 0 0, .int .i64 n] w fun e w' => ∃ c, e = .returned (.slice (some ⟨w.heap.size, 0, none⟩) 0 c) ∧ Own w' w.heap.size (.slice (some ⟨w.heap.size, 0, none⟩) 0 c) [] ∧ Keeps [] w w' := by
  have hi : (0 : Int) < (n : Int) := by omega
  go_enter Tryz.func154, Tryz.ntmps154
  go_wp2_with (at_builtin; (refine wpList_grow rfl _ _ rfl n rfl rfl h0 hn ?_); rintro c w1 hc hcm ⟨cs, hcs, rfl⟩)
  go_ret
  have hg : ((w.alloc (.cells cs 5)).drew).heap[w.heap.size]? = some (.cells cs 5 (0, 0)) := by
    show (w.heap.push _)[w.heap.size]? = _
    simp
  exact ⟨c, rfl, ⟨by simp, .inr ⟨w.heap.size, c, cs, rfl, Nat.le_refl _, hg, Nat.zero_le _, hcm, by omega, by simp⟩⟩, ((Keeps.refl [] w).alloc _).drew⟩

theorem Own.ge {w : World} {B : Nat} {v : Value} {l : List UInt8} (h : Own w B v l) : ∀ y, v.ownBlock = some y → B ≤ y := by
  intro y hy
  rcases h.2 with ⟨rfl, _⟩ | ⟨g, cap, cur, rfl, hb, _⟩
  · simp [Value.ownBlock] at hy
  · simp [Value.ownBlock] at hy; omega

end Go.Proofs.YtijhaeapoapgfaaGreatDoor
