/-
  GrSol2: the texts Sol2, Once, SolS, Spr, one behind another.
-/
import Derived.Test.YtijhaeapoapgfaaGreatDoorGrVecL
import Derived.Tactics
import Derived.Tactics2
import Derived.Defers
import Derived.Laws.Pointers
import Derived.Laws.LoneSync
import Derived.RegionTactic
import Derived.RegionCalls
import Derived.ChangeAlike
import Derived.BigQuiet
import Derived.Test.YtijhaeapoapgfaaGreatDoorGrPopT
import Derived.Test.YtijhaeapoapgfaaGreatDoorGrRandS
set_option linter.unusedVariables false
set_option linter.unusedSimpArgs false
namespace Go.Proofs.YtijhaeapoapgfaaGreatDoor
open Go.RowKit
attribute [local go_sem ↓] Go.wp_at_zero Go.wp_at_succ

abbrev V32 (x : Nat) : Value := .int .u32 x
theorem Tryz.info_uint32 : (Tryz.prog.info? 30).map (fun i => (i.zero, i.size, i.bytes)) = some (some (.int .u32 0), 1, 4) := by kernel_rfl

def IsW (w : World) (B : Nat) (v : Value) (l : List Nat) : Prop :=
  ∃ a c, v = .slice a l.length c ∧ l.length ≤ c ∧ c ≤ 9223372036854775807 ∧ ∀ i, i < l.length → ∃ g, a = some ⟨g, 0, none⟩ ∧ B ≤ g ∧ w.cell? ⟨g, i, none⟩ = some (V32 (l.getD i 0))
theorem IsW.nil (w : World) (B : Nat) : IsW w B (.slice none 0 0) [] := ⟨none, 0, rfl, by simp, by simp, by simp⟩
theorem IsW.keeps {S : List Nat} {w w' : World} {B : Nat} {v : Value} {l : List Nat} (h : IsW w B v l) (k : Keeps S w w') (hS : ∀ x, x ∈ S → x < B) : IsW w' B v l := by
  obtain ⟨a, c, rfl, h1, h2, h3⟩ := h
  refine ⟨a, c, rfl, h1, h2, fun i hi => ?_⟩
  obtain ⟨g, rfl, hg, hc⟩ := h3 i hi
  exact ⟨g, rfl, hg, (World.cell?_of_block (a := ⟨g, i, none⟩) (k.block g (World.block_lt_of_cell? w _ hc) (fun hm => by have := hS g hm; omega))).trans hc⟩

/-- A slice of words of 32 bits that the call has made, in a block from B on (or it is nil and there are none). -/
def OwnW (w : World) (B : Nat) (v : Value) (l : List Nat) : Prop := w.ownsRow B 30 1 v l.length (l.map V32)

theorem OwnW.nil (w : World) (B : Nat) : OwnW w B (.slice none 0 0) [] := ⟨rfl, .inl ⟨rfl, rfl⟩⟩

theorem OwnW.ints {w : World} {B : Nat} {v : Value} {l : List Nat} (h : OwnW w B v l) : IsW w B v l := by
  rcases h.2 with ⟨rfl, h0⟩ | ⟨g, cap, cur, rfl, hb, hg, hn, hm, hs, ht⟩
  · have : l = [] := List.length_eq_zero_iff.1 h0
    subst this
    exact IsW.nil _ _
  · have hbk : Blk w g 30 (l.map V32 ++ cur.toList.drop l.length) := by
      unfold Blk
      rw [hg, ← ht, Nat.mul_one, List.take_append_drop]
    refine ⟨some ⟨g, 0, none⟩, cap, rfl, hn, hm, fun i hi => ⟨g, rfl, hb, ?_⟩⟩
    refine hbk.cell' ?_
    rw [List.getElem?_append_left (by simpa using hi), List.getElem?_map, List.getD_eq_getElem?_getD, List.getElem?_eq_getElem hi]
    rfl

theorem append_runW {w : World} {B : Nat} {v : Value} {l : List Nat} (h : OwnW w B v l) (x b o c : Nat) (hx : w.cell? ⟨b, o, none⟩ = some (V32 x))
    (hlen : l.length ≤ 1000000) (hB : B ≤ w.heap.size) (t : TypeId) :
    ∃ v' w', (Builtin.append_ #[23, 23] t #[v, .slice (some ⟨b, o, none⟩) 1 c]).run Tryz.prog w = .ok v' w' ∧ OwnW w' B v' (l ++ [x]) ∧ w.grownBy w' v.ownBlock ∧ (∀ x, v'.ownBlock = some x → v.ownBlock = some x ∨ w.heap.size ≤ x) := by
  obtain ⟨i0, hi, hz0, hz1, hz2⟩ := info_parts Tryz.info_uint32
  obtain ⟨v', w', hr, h2, h3, h4, h5⟩ := run_append_own_at (P := Tryz.prog) w B 23 t 30 i0 (.int .u32 0) 1 4 Tryz.underlying23 hi hz0 hz1 hz2 rfl (by decide) v l.length (l.map V32) h ⟨b, o, none⟩ 1 c [V32 x]
    (by simp) (fun j u hu => by
      obtain rfl : j = 0 := by
        rcases j with _ | j
        · rfl
        · simp at hu
      simp only [List.getElem?_cons_zero, Option.some.injEq] at hu
      subst hu
      rw [Addr.add_lit]
      exact hx) (by intro u hu; simp only [List.mem_singleton] at hu; subst hu; rfl) (by unfold maxLen; omega) (by omega) hB
  refine ⟨v', w', hr, ?_, h3, fun y hy => ?_⟩
  · unfold OwnW
    rw [List.length_append, List.map_append]
    exact h2
  · rcases h5 with h5 | h5
    · exact .inl (h5 ▸ hy)
    · rw [h5] at hy; simp at hy; exact .inr (by omega)

theorem wpList_append_u32 {w : World} {ops : Array Oper} {rest : List Oper} {o : Oper} {act : Act} {Q : Exit → Act → World → Prop} (hgd : o.guard = none) (s x : Operand)
    (ho : o.op = .call { callee := .builtin .append, args := #[s, x], argTypes := #[23, 23] })
    {B : Nat} {v : Value} {l : List Nat} (h : OwnW w B v l) (hs : act.eval s = v) (y b k c : Nat) (hx : act.eval x = .slice (some ⟨b, k, none⟩) 1 c) (hm : w.cell? ⟨b, k, none⟩ = some (V32 y))
    (hlen : l.length ≤ 1000000) (hB : B ≤ w.heap.size)
    (hK : ∀ v' w', OwnW w' B v' (l ++ [y]) → w.grownBy w' v.ownBlock → (∀ x, v'.ownBlock = some x → v.ownBlock = some x ∨ w.heap.size ≤ x) → wpList Tryz.prog ops Q rest (act.put o.dst v') w') : wpList Tryz.prog ops Q (o :: rest) act w := by
  refine wpList_plain hgd fun K hK' => ?_
  obtain ⟨v', w', hrun, h1, h2, h3⟩ := append_runW h y b k c hm hlen hB o.type
  unfold Oper.wp
  simp [execOp, ho, resolve, invoke, builtin, hs, hx, hrun, Result.andThen]
  exact hK' _ _ (hK v' w' h1 h2 h3)

theorem OwnW.keeps {S : List Nat} {w w' : World} {B : Nat} {v : Value} {l : List Nat} (h : OwnW w B v l) (k : Keeps S w w') (hS : ∀ x, x ∈ S → x < B) : OwnW w' B v l := by
  refine ⟨h.1, ?_⟩
  rcases h.2 with ⟨rfl, h0⟩ | ⟨g, cap, cur, rfl, hb, hg, hn, hm, hs, ht⟩
  · exact .inl ⟨rfl, h0⟩
  · exact .inr ⟨g, cap, cur, rfl, hb, (k.block g (Array.getElem?_eq_some_iff.1 hg).1 (fun hm => by have := hS g hm; omega)).trans hg, hn, hm, hs, ht⟩
theorem OwnW.block {w : World} {B x : Nat} {v : Value} {l : List Nat} (h : OwnW w B v l) (hx : v.ownBlock = some x) : B ≤ x ∧ x < w.heap.size := by
  rcases h.2 with ⟨rfl, h0⟩ | ⟨g, cap, cur, rfl, hb, hg, hn, hm, hs, ht⟩
  · simp [Value.ownBlock] at hx
  · simp [Value.ownBlock] at hx
    subst hx
    exact ⟨hb, (Array.getElem?_eq_some_iff.1 hg).1⟩

def IsS (w : World) (B : Nat) (v : Value) (l : List Nat) : Prop :=
  ∃ a c, v = .slice a l.length c ∧ l.length ≤ c ∧ c ≤ 9223372036854775807 ∧ ∀ i, i < l.length → ∃ g, a = some ⟨g, 0, none⟩ ∧ B ≤ g ∧ w.cell? ⟨g, i, none⟩ = some (U64 (l.getD i 0))
theorem IsS.nil (w : World) (B : Nat) : IsS w B (.slice none 0 0) [] := ⟨none, 0, rfl, by simp, by simp, by simp⟩
theorem IsS.keeps {S : List Nat} {w w' : World} {B : Nat} {v : Value} {l : List Nat} (h : IsS w B v l) (k : Keeps S w w') (hS : ∀ x, x ∈ S → x < B) : IsS w' B v l := by
  obtain ⟨a, c, rfl, h1, h2, h3⟩ := h
  refine ⟨a, c, rfl, h1, h2, fun i hi => ?_⟩
  obtain ⟨g, rfl, hg, hc⟩ := h3 i hi
  exact ⟨g, rfl, hg, (World.cell?_of_block (a := ⟨g, i, none⟩) (k.block g (World.block_lt_of_cell? w _ hc) (fun hm => by have := hS g hm; omega))).trans hc⟩

/-- A slice of words of 64 bits that the call has made, in a block from B on (or it is nil and there are none). -/
def OwnS (w : World) (B : Nat) (v : Value) (l : List Nat) : Prop := w.ownsRow B 25 1 v l.length (l.map U64)

theorem OwnS.nil (w : World) (B : Nat) : OwnS w B (.slice none 0 0) [] := ⟨rfl, .inl ⟨rfl, rfl⟩⟩

theorem OwnS.ints {w : World} {B : Nat} {v : Value} {l : List Nat} (h : OwnS w B v l) : IsS w B v l := by
  rcases h.2 with ⟨rfl, h0⟩ | ⟨g, cap, cur, rfl, hb, hg, hn, hm, hs, ht⟩
  · have : l = [] := List.length_eq_zero_iff.1 h0
    subst this
    exact IsS.nil _ _
  · have hbk : Blk w g 25 (l.map U64 ++ cur.toList.drop l.length) := by
      unfold Blk
      rw [hg, ← ht, Nat.mul_one, List.take_append_drop]
    refine ⟨some ⟨g, 0, none⟩, cap, rfl, hn, hm, fun i hi => ⟨g, rfl, hb, ?_⟩⟩
    refine hbk.cell' ?_
    rw [List.getElem?_append_left (by simpa using hi), List.getElem?_map, List.getD_eq_getElem?_getD, List.getElem?_eq_getElem hi]
    rfl

theorem append_runS {w : World} {B : Nat} {v : Value} {l : List Nat} (h : OwnS w B v l) (x b o c : Nat) (hx : w.cell? ⟨b, o, none⟩ = some (U64 x))
    (hlen : l.length ≤ 1000000) (hB : B ≤ w.heap.size) (t : TypeId) :
    ∃ v' w', (Builtin.append_ #[229, 229] t #[v, .slice (some ⟨b, o, none⟩) 1 c]).run Tryz.prog w = .ok v' w' ∧ OwnS w' B v' (l ++ [x]) ∧ w.grownBy w' v.ownBlock ∧ (∀ x, v'.ownBlock = some x → v.ownBlock = some x ∨ w.heap.size ≤ x) := by
  obtain ⟨i0, hi, hz0, hz1, hz2⟩ := info_parts Tryz.info_uint64
  obtain ⟨v', w', hr, h2, h3, h4, h5⟩ := run_append_own_at (P := Tryz.prog) w B 229 t 25 i0 (.int .u64 0) 1 8 Tryz.underlying229 hi hz0 hz1 hz2 rfl (by decide) v l.length (l.map U64) h ⟨b, o, none⟩ 1 c [U64 x]
    (by simp) (fun j u hu => by
      obtain rfl : j = 0 := by
        rcases j with _ | j
        · rfl
        · simp at hu
      simp only [List.getElem?_cons_zero, Option.some.injEq] at hu
      subst hu
      rw [Addr.add_lit]
      exact hx) (by intro u hu; simp only [List.mem_singleton] at hu; subst hu; rfl) (by unfold maxLen; omega) (by omega) hB
  refine ⟨v', w', hr, ?_, h3, fun y hy => ?_⟩
  · unfold OwnS
    rw [List.length_append, List.map_append]
    exact h2
  · rcases h5 with h5 | h5
    · exact .inl (h5 ▸ hy)
    · rw [h5] at hy; simp at hy; exact .inr (by omega)

theorem wpList_append_u64 {w : World} {ops : Array Oper} {rest : List Oper} {o : Oper} {act : Act} {Q : Exit → Act → World → Prop} (hgd : o.guard = none) (s x : Operand)
    (ho : o.op = .call { callee := .builtin .append, args := #[s, x], argTypes := #[229, 229] })
    {B : Nat} {v : Value} {l : List Nat} (h : OwnS w B v l) (hs : act.eval s = v) (y b k c : Nat) (hx : act.eval x = .slice (some ⟨b, k, none⟩) 1 c) (hm : w.cell? ⟨b, k, none⟩ = some (U64 y))
    (hlen : l.length ≤ 1000000) (hB : B ≤ w.heap.size)
    (hK : ∀ v' w', OwnS w' B v' (l ++ [y]) → w.grownBy w' v.ownBlock → (∀ x, v'.ownBlock = some x → v.ownBlock = some x ∨ w.heap.size ≤ x) → wpList Tryz.prog ops Q rest (act.put o.dst v') w') : wpList Tryz.prog ops Q (o :: rest) act w := by
  refine wpList_plain hgd fun K hK' => ?_
  obtain ⟨v', w', hrun, h1, h2, h3⟩ := append_runS h y b k c hm hlen hB o.type
  unfold Oper.wp
  simp [execOp, ho, resolve, invoke, builtin, hs, hx, hrun, Result.andThen]
  exact hK' _ _ (hK v' w' h1 h2 h3)

theorem OwnS.keeps {S : List Nat} {w w' : World} {B : Nat} {v : Value} {l : List Nat} (h : OwnS w B v l) (k : Keeps S w w') (hS : ∀ x, x ∈ S → x < B) : OwnS w' B v l := by
  refine ⟨h.1, ?_⟩
  rcases h.2 with ⟨rfl, h0⟩ | ⟨g, cap, cur, rfl, hb, hg, hn, hm, hs, ht⟩
  · exact .inl ⟨rfl, h0⟩
  · exact .inr ⟨g, cap, cur, rfl, hb, (k.block g (Array.getElem?_eq_some_iff.1 hg).1 (fun hm => by have := hS g hm; omega)).trans hg, hn, hm, hs, ht⟩
theorem OwnS.block {w : World} {B x : Nat} {v : Value} {l : List Nat} (h : OwnS w B v l) (hx : v.ownBlock = some x) : B ≤ x ∧ x < w.heap.size := by
  rcases h.2 with ⟨rfl, h0⟩ | ⟨g, cap, cur, rfl, hb, hg, hn, hm, hs, ht⟩
  · simp [Value.ownBlock] at hx
  · simp [Value.ownBlock] at hx
    subst hx
    exact ⟨hb, (Array.getElem?_eq_some_iff.1 hg).1⟩


def WListPost (w : World) (l : List Nat) (e : Ending) (w' : World) : Prop := ∃ v, e = .returned v ∧ OwnW w' w.heap.size v l ∧ Keeps [] w w'

set_option maxRecDepth 100000 in
set_option maxHeartbeats 1000000 in
theorem weights_calls {w : World} {p n : Nat} (c0 : w.cell? ⟨p, 0, none⟩ = some (.int .i64 n)) (h1 : 1 ≤ n) (h2 : n ≤ 80) :
    Calls Tryz.prog 190 #[.pointer (some ⟨p, 0, none⟩)] w (WListPost w (wgts n n)) := by
  have hB0 := OwnW.nil w w.heap.size
  go_enter Tryz.func190, Tryz.ntmps190
  go_wp2_with fail
  go_loopw [3, 4] (fun v i wr => ∃ k : Nat, k ≤ n ∧ i = .int .i64 ((k : Int) + 1) ∧ OwnW wr w.heap.size v (wgts n k) ∧ Keeps [] w wr) (fun _ i _ => n + 1 - (intOf i).toNat)
  case atStart => exact ⟨0, Nat.zero_le _, rfl, hB0, Keeps.refl _ _⟩
  case round =>
    obtain ⟨k, hk, rfl, hO, hK⟩ := hrel
    have c0r := hK.cell0 c0
    by_cases hlt : k < n
    · have hC := weight_calls (v := .pointer none) (t := 0) (s := 0) c0r h1 h2 (k + 1) (by omega) (by omega)
      have hs := wgts_succ n k
      have hsz := hK.size
      have hlen := wgts_len n k
      have e1 : ((k + 1 : Nat) : Int) = (k : Int) + 1 := by omega
      rw [e1] at hC
      generalize wgt n (k + 1) = x at *
      have Hs := Lib.hid hs
      have HO := Lib.hid (hO.keeps ((Keeps.refl [] wr).alloc (.cells #[V32 x] 30)) (by simp))
      have HK := Lib.hid hK
      have hX : (wr.alloc (.cells #[V32 x] 30)).cell? ⟨wr.heap.size, 0, none⟩ = some (V32 x) := (Blk.newA wr 30 #[V32 x]).cell' rfl
      have hB : w.heap.size ≤ (wr.alloc (.cells #[V32 x] 30)).heap.size := by simp; omega
      have HX := Lib.hid hX
      generalize wgts n k = L at *
      clear hs hO hK hX e1
      go_wp2_with fail
      refine hC.mono ?_
      rintro e w' ⟨rfl, rfl⟩
      go_wp2_with (at_builtin; (refine wpList_append_u32 rfl (.tmp 15) (.tmp 19) rfl HO.out rfl x _ 0 1 rfl HX.out (by omega) hB ?_); intro v2 w2 g1 g2 g3)
      go_roundw
      case rel =>
        refine ⟨k + 1, by omega, by go_num, by rw [Hs.out]; exact g1, (HK.out.alloc _).grown g2 (fun x hx => .inr ?_)⟩
        exact (HO.out.block hx).1
      case measure => simp [intOf]; omega
    · obtain rfl : n = k := by omega
      go_wp2_with fail
      go_ret
      exact ⟨_, rfl, hO, hK⟩

theorem OwnS.mono {w : World} {B B' : Nat} {v : Value} {l : List Nat} (h : OwnS w B v l) (hB : B' ≤ B) : OwnS w B' v l := by
  refine ⟨h.1, ?_⟩
  rcases h.2 with ⟨rfl, h0⟩ | ⟨g, cap, cur, rfl, hb, hg, hn, hm, hs, ht⟩
  · exact .inl ⟨rfl, h0⟩
  · exact .inr ⟨g, cap, cur, rfl, by omega, hg, hn, hm, hs, ht⟩

/-- What fill leaves: the sums, in new memory; all else of the table as it was. -/
def FillPost (w : World) (p n : Nat) (x1 x2 x3 : Value) (e : Ending) (w' : World) : Prop :=
  ∃ v, e = .returned (.tuple #[]) ∧ Blk w' p 231 [.int .i64 n, x1, x2, x3, v] ∧ OwnS w' w.heap.size v (sums n n) ∧ Keeps [p] w w'

theorem wrap_u64_small {x : Nat} (hx : x < 18446744073709551616) : IntKind.u64.wrap (x : Int) = x := by rw [IntKind.wrap_u64]; omega

set_option maxRecDepth 100000 in
set_option maxHeartbeats 1000000 in
theorem fill_calls {w : World} {p n : Nat} {x1 x2 x3 : Value} (hb : Blk w p 231 [.int .i64 n, x1, x2, x3, .slice none 0 0]) (h1 : 1 ≤ n) (h2 : n ≤ 80) :
    Calls Tryz.prog 167 #[.pointer (some ⟨p, 0, none⟩)] w (FillPost w p n x1 x2 x3) := by
  have c0 := hb.cell' (i := 0) rfl
  have hpl := hb.lt
  have hB0 := OwnS.nil w w.heap.size
  go_enter Tryz.func167, Tryz.ntmps167
  go_wp2_with fail
  refine (weights_calls c0 h1 h2).mono ?_
  rintro e w1 ⟨vw, rfl, hO, hK⟩
  have hb1 := hb.keeps hK (by simp)
  have hI := hO.ints
  have hK' : Keeps [p] w w1 := hK.nil
  have hS0 := OwnS.nil w1 w1.heap.size
  obtain ⟨a, c, rfl, hc1, hc2, hc3⟩ := hI
  have hl := wgts_len n n
  have hcell : ∀ k, k < n → ∃ g, a = some ⟨g, 0, none⟩ ∧ w.heap.size ≤ g ∧ w1.cell? ⟨g, k, none⟩ = some (V32 (wgt n (k + 1))) := fun k hk => by
    obtain ⟨g, e, hg, hc⟩ := hc3 k (by omega)
    rw [wgts_at n hk] at hc
    exact ⟨g, e, hg, hc⟩
  rw [hl]
  have Hc := Lib.hid hcell
  clear hc1 hc2 hc3 hcell hl hO hb hK c0
  have hsz1 := hK'.size
  go_wp2_with fail
  go_loopw [2, 8] (fun s i wr => ∃ (k : Nat) (v : Value), k ≤ n ∧ i = .int .i64 k ∧ s = .int .u64 (sumTo n k : Nat) ∧ Blk wr p 231 [.int .i64 n, x1, x2, x3, v] ∧ OwnS wr w1.heap.size v (sums n k) ∧ Keeps [p] w1 wr ∧ Keeps [p] w wr) (fun _ i _ => n - (intOf i).toNat)
  case atStart => exact ⟨0, _, Nat.zero_le _, rfl, rfl, hb1, hS0, Keeps.refl _ _, hK'⟩
  case round =>
    clear hb1 hS0 hK'
    obtain ⟨k, v, hk, rfl, rfl, hb, hO, hK1, hK⟩ := hrel
    by_cases hlt : k < n
    · obtain ⟨g, rfl, hg, hc⟩ := Hc.out k hlt
      have hcr : wr.cell? ⟨g, k, none⟩ = some (V32 (wgt n (k + 1))) := (World.cell?_of_block (a := ⟨g, k, none⟩) (hK1.block g (World.block_lt_of_cell? w1 _ hc) (by simp; omega))).trans hc
      have hs := sums_succ n k
      have hst : sumTo n (k + 1) = sumTo n k + wgt n (k + 1) := rfl
      have hb1 := sumTo_le n k
      have hb2 := wgt_le (n := n) (d := k + 1) (by omega)
      have hlen := sums_len n k
      have hsz := hK.size
      generalize wgt n (k + 1) = x at *
      generalize sumTo n k = y at *
      have hkn : (k : Int) < (n : Int) := by omega
      have c4 := hb.cell' (i := 4) rfl
      have fr := hb.frozen 4
      have hwz : (y : Int) + (x : Int) = ((sumTo n (k + 1) : Nat) : Int) := by rw [hst]; omega
      have hwb : sumTo n (k + 1) ≤ 200000000 := by omega
      generalize hz : sumTo n (k + 1) = z at *
      have Hz := Lib.hid hz
      clear hz
      have Hs := Lib.hid hs
      have Hst := Lib.hid hst
      have HO := Lib.hid (hO.keeps ((Keeps.refl [] wr).alloc (.cells #[U64 z] 25)) (by simp))
      have HOb := Lib.hid (fun x (hx : v.ownBlock = some x) => (hO.block hx).1)
      have HK := Lib.hid hK
      have HK1 := Lib.hid hK1
      have HB := Lib.hid hb
      have hX : (wr.alloc (.cells #[U64 z] 25)).cell? ⟨wr.heap.size, 0, none⟩ = some (U64 z) := (Blk.newA wr 25 #[U64 z]).cell' rfl
      have hB : w1.heap.size ≤ (wr.alloc (.cells #[U64 z] 25)).heap.size := by have := hK1.size; simp; omega
      have HX := Lib.hid hX
      generalize sums n k = L at *
      have hL6 : L.length ≤ 1000000 := by omega
      clear hs hst hO hK hK1 hb hX hlen hc
      go_wp2_with (at_builtin; (refine wpList_append_u64 rfl (.tmp 20) (.tmp 22) rfl HO.out rfl z _ 0 1 rfl HX.out hL6 hB ?_); intro v2 w2 g1 g2 g3; have k2 := ((Keeps.refl (Option.toList v.ownBlock) wr).alloc (.cells #[U64 z] 25)).grown g2 (fun x hx => .inl (by rw [hx]; simp)); have b2 := HB.out.keeps k2 (by intro hm; have := HOb.out p (by simpa using hm); omega); have c42 := b2.cell' (i := 4) rfl; have f42 := b2.frozen 4; obtain ⟨a2, c2, rfl, _, _, _⟩ := g1.ints)
      rw [show (L ++ [z]).length = L.length + 1 from by simp] at g1
      have kp : Keeps [p] w2 (w2.setCell ⟨p, 4, none⟩ (.slice a2 (L.length + 1) c2)) := (Keeps.refl [p] w2).setCell (by simp) _
      have b3 := b2.set 4 (.slice a2 (L.length + 1) c2)
      have o3 := g1.keeps kp (by simp; omega)
      have kw1 : Keeps [p] w1 (w2.setCell ⟨p, 4, none⟩ (.slice a2 (L.length + 1) c2)) := (HK1.out.trans' k2 (fun _ h => .inl h) (fun x hx => .inr (HOb.out x (by simpa using hx)))).trans kp
      have kw : Keeps [p] w (w2.setCell ⟨p, 4, none⟩ (.slice a2 (L.length + 1) c2)) := (HK.out.trans' k2 (fun _ h => .inl h) (fun x hx => .inr (Nat.le_trans hsz1 (HOb.out x (by simpa using hx))))).trans kp
      go_roundw
      case rel => exact ⟨k + 1, (.slice a2 (L.length + 1) c2), by omega, by go_num, by rw [Hz.out], b3, by rw [Hs.out]; exact o3, kw1, kw⟩
      case measure => simp [intOf]; omega
    · obtain rfl : n = k := by omega
      go_wp2_with fail
      go_end0
      exact ⟨_, rfl, hb, hO.mono hsz1, hK⟩

end Go.Proofs.YtijhaeapoapgfaaGreatDoor

set_option linter.unusedVariables false
set_option linter.unusedSimpArgs false
namespace Go.Proofs.YtijhaeapoapgfaaGreatDoor
open Go.RowKit
attribute [local go_sem ↓] Go.wp_at_zero Go.wp_at_succ

theorem lz_disable (w : World) : (callFunc 208 #[]).run Tryz.prog w = .ok (.value (.tuple #[])) w := run_call_mark0 Tryz.func208 (by kernel_rfl) (by kernel_rfl) (by kernel_rfl) .disable (by kernel_rfl) w
theorem lz_enable (w : World) : (callFunc 210 #[]).run Tryz.prog w = .ok (.value (.tuple #[])) w := run_call_mark0 Tryz.func210 (by kernel_rfl) (by kernel_rfl) (by kernel_rfl) .enable (by kernel_rfl) w
theorem lz_acquire (a : Addr) (w : World) : (callFunc 211 #[.pointer (some a)]).run Tryz.prog w = .ok (.value (.tuple #[])) w := run_call_marked Tryz.func211 (by kernel_rfl) (by kernel_rfl) (by kernel_rfl) .acquire (by kernel_rfl) a w
theorem lz_releaseMerge (a : Addr) (w : World) : (callFunc 213 #[.pointer (some a)]).run Tryz.prog w = .ok (.value (.tuple #[])) w := run_call_marked Tryz.func213 (by kernel_rfl) (by kernel_rfl) (by kernel_rfl) .releaseMerge (by kernel_rfl) a w

/-- '(*sync/atomic.Bool).Store(true)', ENTERED AS A DEFERRED CALL: the cell holds 1. -/
theorem store_deferred (a : Addr) (x : Value) (u : FrameMode) (w : World) (hc : w.cell? a = some x) (hz : w.frozen? a = false) :
    CallsD Tryz.prog 182 #[.pointer (some a), .bool true] u w fun e u' w' => u' = u ∧ (e = .returned (.tuple #[]) ∧ w' = w.drew.setCell a (.int .u32 1)) := by
  have hc' : w.drew.cell? a = some x := by go_simp
  have hz' : w.drew.frozen? a = false := by go_simp
  have hst := run_call_store (P := Tryz.prog) Tryz.func187 (by kernel_rfl) (by kernel_rfl) (by kernel_rfl) (by kernel_rfl) (k := .u32) (y := 1) hc' hz'
  go_enter_d Tryz.func182, Tryz.ntmps182
  go_wp2
  go_region_calls
  all_goals (go_end0; exact ⟨rfl, rfl⟩)

set_option maxRecDepth 100000 in
/-- '(*sync.Mutex).Unlock', ENTERED AS A DEFERRED CALL, the lock held and nobody waiting (state 1): state 0. -/
theorem unlock_deferred (a : Addr) (u : FrameMode) (w : World) (hc : w.cell? a = some (.int .i32 1)) (hz : w.frozen? a = false) :
    CallsD Tryz.prog 181 #[.pointer (some a)] u w fun e u' w' => u' = u ∧ (e = .returned (.tuple #[]) ∧ w' = w.setCell a (.int .i32 0)) := by
  have hd := lz_disable
  have he := lz_enable
  have hr := lz_releaseMerge
  have hadd := run_call_add (P := Tryz.prog) Tryz.func214 (by kernel_rfl) (by kernel_rfl) (by kernel_rfl) .i32 (by kernel_rfl) (y := -1) (s := 0) hc hz (by simp [go_sem]; rfl)
  have hcv := run_convert_to_unsafe (P := Tryz.prog) (src := 265) (dst := 269) Tryz.underlying265 Tryz.underlying269 (by kernel_rfl) hc
  go_enter_d Tryz.func181, Tryz.ntmps181
  go_wp2
  go_end0
  go_wp2
  go_end0
  exact ⟨rfl, rfl⟩

set_option maxRecDepth 100000 in
/-- '(*sync.Mutex).Lock', the lock free (state 0): state 1. -/
theorem lock_free (a : Addr) (w : World) (hc : w.cell? a = some (.int .i32 0)) (hz : w.frozen? a = false) :
    Calls Tryz.prog 180 #[.pointer (some a)] w fun e w' => e = .returned (.tuple #[]) ∧ w' = w.setCell a (.int .i32 1) := by
  have hd := lz_disable
  have he := lz_enable
  have ha := lz_acquire
  have hcas := run_call_cas_hit (P := Tryz.prog) Tryz.func209 (by kernel_rfl) (by kernel_rfl) (by kernel_rfl) .i32 (by kernel_rfl) (y := 1) hc hz
  have hc' : (w.setCell a (.int .i32 1)).cell? a = some (.int .i32 1) := World.cell?_setCell_same w a _ hc
  have hcv := run_convert_to_unsafe (P := Tryz.prog) (src := 265) (dst := 269) Tryz.underlying265 Tryz.underlying269 (by kernel_rfl) hc'
  go_enter Tryz.func180, Tryz.ntmps180
  go_wp2
  first | go_end0 | (simp only [Exit.inBlock, Exit.then]; refine bodyPost_ret (results_none rfl _ _ _) rfl ?_) | refine bodyPost_ret (results_none rfl _ _ _) rfl ?_
  go_wp2
  go_end0
  exact ⟨rfl, rfl⟩

set_option maxRecDepth 100000 in
set_option maxHeartbeats 1600000 in
theorem slow_calls {w : World} {p n : Nat} (hb : Blk w p 231 [.int .i64 n, .int .u32 0, .int .i32 0, .int .u32 0, .slice none 0 0]) (h1 : 1 ≤ n) (h2 : n ≤ 80) :
    Calls Tryz.prog 147 #[.pointer (some ⟨p, 1, none⟩), .func (.func 167) #[.pointer (some ⟨p, 0, none⟩)] #[]] w (FillPost w p n (.int .u32 1) (.int .i32 0) (.int .u32 0)) := by
  have hb1 := hb.set 2 (.int .i32 1)
  have kp : Keeps [p] w (w.setCell ⟨p, 2, none⟩ (.int .i32 1)) := (Keeps.refl [p] w).setCell (by simp) _
  have hF := fill_calls hb1 h1 h2
  have hsz : (w.setCell ⟨p, 2, none⟩ (.int .i32 1)).heap.size = w.heap.size := by simp [World.setCell]
  have hpl := hb.lt
  have hl := run_call_load (P := Tryz.prog) Tryz.func179 (by kernel_rfl) (by kernel_rfl) (by kernel_rfl) .u32 (by kernel_rfl) (w := w.setCell ⟨p, 2, none⟩ (.int .i32 1)) (a := ⟨p, 1, none⟩) (x := 0) (hb1.cell' (i := 1) rfl)
  have hnot : ∀ (x : Bool) (w : World), (Op.unary .not (.bool x)).run Tryz.prog w = .ok (.bool (!x)) w := fun _ _ => rfl
  have c2 := hb.cell' (i := 2) rfl
  have f2 := hb.frozen 2
  go_enter_defers Tryz.func147, Tryz.ntmps147
  go_wp2_with (first | (go_at_call 180; refine (lock_free ⟨p, 2, none⟩ _ c2 f2).mono ?_; rintro e w' ⟨rfl, rfl⟩) | (go_at_call 146; go_in) | (go_at_call 167; refine hF.mono ?_; rintro e w2 ⟨v, rfl, hb2, hO, hK⟩))
  have b3 := hb2.drew.set 1 (.int .u32 1)
  have b4 := b3.set 2 (.int .i32 0)
  have k3 : Keeps [p] w2 (w2.drew.setCell ⟨p, 1, none⟩ (.int .u32 1)) := ((Keeps.refl [p] w2).drew).setCell (by simp) _
  have k4 : Keeps [p] w2 ((w2.drew.setCell ⟨p, 1, none⟩ (.int .u32 1)).setCell ⟨p, 2, none⟩ (.int .i32 0)) := k3.setCell (by simp) _
  have o4 := hO.keeps k4 (by simp; omega)
  go_wp2
  refine leaves_cons (f := 182) (args := #[.pointer (some ⟨p, 1, none⟩), .bool true]) (by simp) (by simp [go_sem]) ?_
  refine (store_deferred ⟨p, 1, none⟩ (.int .u32 0) .returning _ (hb2.cell' (i := 1) rfl) (hb2.frozen 1)).mono ?_
  rintro e u' w'' ⟨rfl, rfl, rfl⟩
  refine leaves_cons (f := 181) (args := #[.pointer (some ⟨p, 2, none⟩)]) (by simp [settle]) (by simp [go_sem]) ?_
  refine (unlock_deferred ⟨p, 2, none⟩ _ _ (b3.cell' (i := 2) rfl) (b3.frozen 2)).mono ?_
  rintro e u' w'' ⟨rfl, rfl, rfl⟩
  simp [Leaves, settle, results, Tryz.results147]
  exact ⟨v, rfl, b4, o4.mono (by omega), (kp.trans hK).trans k4⟩

set_option maxRecDepth 100000 in
set_option maxHeartbeats 1600000 in
/-- '(*sync.Once).Do', not yet done, the lock free. -/
theorem once_calls {w : World} {p n : Nat} (hb : Blk w p 231 [.int .i64 n, .int .u32 0, .int .i32 0, .int .u32 0, .slice none 0 0]) (h1 : 1 ≤ n) (h2 : n ≤ 80) :
    Calls Tryz.prog 100 #[.pointer (some ⟨p, 1, none⟩), .func (.func 167) #[.pointer (some ⟨p, 0, none⟩)] #[]] w (FillPost w p n (.int .u32 1) (.int .i32 0) (.int .u32 0)) := by
  have hS := slow_calls hb h1 h2
  have c1 := hb.cell' (i := 1) rfl
  have hl := run_call_load (P := Tryz.prog) Tryz.func179 (by kernel_rfl) (by kernel_rfl) (by kernel_rfl) .u32 (by kernel_rfl) c1
  have hnot : ∀ (x : Bool) (w : World), (Op.unary .not (.bool x)).run Tryz.prog w = .ok (.bool (!x)) w := fun _ _ => rfl
  go_enter Tryz.func100, Tryz.ntmps100
  go_wp2_with (first | (go_at_call 147; refine hS.mono ?_; rintro e w2 ⟨v, rfl, hb2, hO, hK⟩) | (go_at_call 146; go_in))
  go_end0
  exact ⟨v, rfl, hb2, hO, hK⟩

end Go.Proofs.YtijhaeapoapgfaaGreatDoor

set_option linter.unusedVariables false
set_option linter.unusedSimpArgs false
namespace Go.Proofs.YtijhaeapoapgfaaGreatDoor
open Go.RowKit
attribute [local go_sem ↓] Go.wp_at_zero Go.wp_at_succ

theorem cnt_full {f : Nat → Bool} {n : Nat} (h : ∀ i, i < n → f i = true) : cnt f n = n := by
  induction n with
  | zero => rfl
  | succ n ih => rw [cnt_succ, ih (fun i hi => h i (by omega)), h n (by omega)]; simp
theorem cnt_edge {p : Nat → Bool} {n m : Nat} (hm : m ≤ n) (h1 : ∀ t, t < m → p t = false) (h2 : ∀ t, m ≤ t → t < n → p t = true) : cnt (fun i => !p i) n = m := by
  rw [show n = m + (n - m) from by omega, cnt_add, cnt_full (n := m) (fun i hi => by rw [h1 i hi]; rfl), cnt_none (n := n - m) (fun i hi => by rw [h2 (m + i) (by omega) (by omega)]; rfl), Nat.add_zero]

set_option maxRecDepth 100000 in
set_option maxHeartbeats 1000000 in
theorem search_calls {w : World} (cb : Array Value) (n : Nat) (p : Nat → Bool) (hsz : n ≤ 1000000)
    (hf : ∀ (wr : World) (i : Nat), Keeps [] w wr → i < n → Calls Tryz.prog 169 (#[.int .i64 i] ++ cb) wr fun e w' => e = .returned (.bool (p i)) ∧ Keeps [] w w')
    (hmono : ∀ a b, a ≤ b → b < n → p a = true → p b = true) :
    Calls Tryz.prog 168 #[.int .i64 n, .func (.func 169) #[] cb] w fun e w' => e = .returned (.int .i64 (cnt (fun i => !p i) n)) ∧ Keeps [] w w' := by
  have HF := Lib.hid hf
  have M := Lib.hid hmono
  clear hf hmono
  generalize hcnt : cnt (fun i => !p i) n = c
  have CN := Lib.hid hcnt
  clear hcnt
  go_enter Tryz.func168, Tryz.ntmps168
  go_wp2_with fail
  go_loopw [5, 6] (fun s5 s6 wr => ∃ lo hi : Nat, s5 = .int .i64 lo ∧ s6 = .int .i64 hi ∧ lo ≤ hi ∧ hi ≤ n ∧ Keeps [] w wr ∧
    Hid ((∀ t, t < lo → p t = false) ∧ (∀ t, hi ≤ t → t < n → p t = true))) (fun s5 s6 _ => (intOf s6).toNat - (intOf s5).toNat)
  case atStart => exact ⟨0, n, rfl, rfl, Nat.zero_le _, Nat.le_refl _, Keeps.refl _ _, Lib.hid ⟨fun t ht => absurd ht (Nat.not_lt_zero _), fun t h1 h2 => by omega⟩⟩
  case round =>
    obtain ⟨lo, hi, rfl, rfl, hlh, hin, hK, I⟩ := hrel
    by_cases hlt : lo < hi
    · have hc := HF.out wr ((lo + hi) / 2) hK (by omega)
      rw [show (((lo + hi) / 2 : Nat) : Int) = ((lo : Int) + (hi : Int)) / 2 by omega] at hc
      cases hp : p ((lo + hi) / 2) <;> rw [hp] at hc
      · have HP := Lib.hid hp
        clear hp
        go_wp2_with (go_at_call 169; refine hc.mono ?_; rintro e w' ⟨rfl, hk⟩)
        go_roundw
        case rel =>
          exact ⟨(lo + hi) / 2 + 1, hi, by rw [show ((lo : Int) + (hi : Int)) / 2 + 1 = (((lo + hi) / 2 + 1 : Nat) : Int) by omega], rfl, by omega, hin, hk, Lib.hid ⟨fun t ht => (by
            cases h : p t with
            | false => rfl
            | true => have := M.out t ((lo + hi) / 2) (by omega) (by omega) h; rw [HP.out] at this; cases this), I.out.2⟩⟩
        case measure => simp [intOf]; omega
      · have HP := Lib.hid hp
        clear hp
        go_wp2_with (go_at_call 169; refine hc.mono ?_; rintro e w' ⟨rfl, hk⟩)
        go_roundw
        case rel =>
          exact ⟨lo, (lo + hi) / 2, rfl, by rw [show ((lo : Int) + (hi : Int)) / 2 = (((lo + hi) / 2 : Nat) : Int) by omega], by omega, by omega, hk, Lib.hid ⟨I.out.1, fun t ht htn => M.out ((lo + hi) / 2) t ht htn HP.out⟩⟩
        case measure => simp [intOf]; omega
    · obtain rfl : hi = lo := by omega
      have ec : c = hi := by rw [← CN.out]; exact cnt_edge hin I.out.1 I.out.2
      subst ec
      go_wp2_with fail
      go_ret
      exact ⟨rfl, hK⟩

/-- The closure of Degree: is the sum of the weights up to i beyond what chance points at? -/
theorem degfn_calls {w : World} {p n bt ba : Nat} {v : Value} {B y : Nat} (hb : Blk w p 231 [.int .i64 n, .int .u32 1, .int .i32 0, .int .u32 0, v]) (hO : IsS w B v (sums n n))
    (ht : w.cell? ⟨bt, 0, none⟩ = some (.pointer (some ⟨p, 0, none⟩))) (ha : w.cell? ⟨ba, 0, none⟩ = some (U64 y)) (i : Nat) (hi : i < n) :
    Calls Tryz.prog 169 (#[.int .i64 i] ++ #[.pointer (some ⟨bt, 0, none⟩), .pointer (some ⟨ba, 0, none⟩)]) w fun e w' => e = .returned (.bool (decide (y < sumTo n (i + 1)))) ∧ Keeps [] w w' := by
  obtain ⟨a, c, rfl, hc1, hc2, hc3⟩ := hO
  have hl := sums_len n n
  obtain ⟨g, rfl, hg, hc⟩ := hc3 i (by omega)
  rw [sums_at n hi] at hc
  rw [hl] at *
  have c4 := hb.cell' (i := 4) rfl
  generalize hx : sumTo n (i + 1) = x at *
  have hin : (i : Int) < (n : Int) := by omega
  clear hc3 hl hx
  go_enter Tryz.func169, Tryz.ntmps169
  go_wp2_with fail
  go_quiet (fail)
  go_wp2_with fail
  go_ret
  exact ⟨rfl, (Keeps.refl _ _).drewN nq⟩

def SolNew (w : World) (n : Nat) (e : Ending) (w' : World) : Prop :=
  ∃ p, e = .returned (.pointer (some ⟨p, 0, none⟩)) ∧ w.heap.size ≤ p ∧ Blk w' p 231 [.int .i64 n, .int .u32 0, .int .i32 0, .int .u32 0, .slice none 0 0] ∧ Keeps [] w w'

set_option maxRecDepth 100000 in
theorem solnew_calls {w : World} (n : Nat) (h1 : 1 ≤ n) (h2 : n ≤ 80) : Calls Tryz.prog 126 #[.int .i64 n] w (SolNew w n) := by
  go_enter Tryz.func126, Tryz.ntmps126
  go_wp2_with fail
  go_ret
  exact ⟨_, rfl, Nat.le_refl _, Blk.newA w _ _, (Keeps.refl _ _).alloc _⟩


theorem aim_val (n : Nat) (x : UInt32) (s : Nat) (hs : s ≤ 167772160) : IntKind.u64.wrap ((x.toNat : Int) * (s : Int)) = ((x.toNat * s : Nat) : Int) := by
  have hx := x.toNat_lt
  have h : x.toNat * s ≤ 4294967295 * 167772160 := Nat.mul_le_mul (by omega) hs
  rw [← Int.natCast_mul]
  generalize x.toNat * s = y at *
  exact wrap_u64_small (by omega)

set_option maxRecDepth 100000 in
set_option maxHeartbeats 1600000 in
theorem degree_calls {w : World} {p n : Nat} (hb : Blk w p 231 [.int .i64 n, .int .u32 0, .int .i32 0, .int .u32 0, .slice none 0 0]) (h1 : 1 ≤ n) (h2 : n ≤ 80) (x : UInt32) :
    Calls Tryz.prog 127 #[.pointer (some ⟨p, 0, none⟩), B32 x] w fun e w' => e = .returned (.int .i64 (degree n x)) ∧ Keeps [p] w w' := by
  have hpl := hb.lt
  have hmf : ∀ (fn : Fn) (first cap : Array Value) (w : World), (Instr.makeFunc fn first cap).run Tryz.prog w = .ok (.func fn first cap) w := fun _ _ _ _ => rfl
  have hb1 := hb.alloc (.cells #[.pointer (some ⟨p, 0, none⟩)] 186)
  have t0 : (w.alloc (.cells #[.pointer (some ⟨p, 0, none⟩)] 186)).cell? ⟨w.heap.size, 0, none⟩ = some (.pointer (some ⟨p, 0, none⟩)) := (Blk.newA w _ _).cell' rfl
  have k0 : Keeps [p] w (w.alloc (.cells #[.pointer (some ⟨p, 0, none⟩)] 186)) := (Keeps.refl _ _).alloc _
  have hsz0 : (w.alloc (.cells #[.pointer (some ⟨p, 0, none⟩)] 186)).heap.size = w.heap.size + 1 := by simp
  go_enter Tryz.func127, Tryz.ntmps127
  go_wp2_with fail
  generalize w.alloc (.cells #[.pointer (some ⟨p, 0, none⟩)] 186) = w0 at *
  have hO1 := once_calls (w := w0.drew) hb1.drew h1 h2
  refine wp_region_noPanic ?_
  refine wp_region_held_drew (S := (fun w' => w'.cell? ⟨w.heap.size, 0, none⟩ = some (.pointer (some ⟨p, 0, none⟩)))) (by kernel_rfl) t0 (fun hHeld => ?_)
  refine wpAnyH_take (i := 0) (v := ?v1_1) rfl (by kernel_rfl) (by kernel_rfl) (by kernel_rfl) (fun _ _ _ h => h) (Or.inl ⟨by rfl, ?y1_1⟩) (by assumption) ?r1_1
  case y1_1 => (intro w hSw; (try dsimp only at hSw); go_simp; try with_reducible rfl)
  (try simp only [Act.put, List.getElem_toArray, List.getElem_cons_zero, List.getElem_cons_succ, List.setIfInBounds_toArray, List.set_cons_zero, List.set_cons_succ])
  refine wpAnyH_take (i := 1) (v := ?v1_2) rfl (by kernel_rfl) (by kernel_rfl) (by kernel_rfl) (fun _ _ _ h => h) (Or.inl ⟨by rfl, ?y1_2⟩) (by assumption) ?r1_2
  case y1_2 => (intro w hSw; (try dsimp only at hSw); go_simp; try with_reducible rfl)
  (try simp only [Act.put, List.getElem_toArray, List.getElem_cons_zero, List.getElem_cons_succ, List.setIfInBounds_toArray, List.set_cons_zero, List.set_cons_succ])
  refine wpAnyH_take (i := 2) (v := ?v1_3) rfl (by kernel_rfl) (by kernel_rfl) (by kernel_rfl) (fun _ _ _ h => h) (Or.inl ⟨by rfl, ?y1_3⟩) (by assumption) ?r1_3
  case y1_3 => (intro w hSw; (try dsimp only at hSw); go_simp; try with_reducible rfl)
  (try simp only [Act.put, List.getElem_toArray, List.getElem_cons_zero, List.getElem_cons_succ, List.setIfInBounds_toArray, List.set_cons_zero, List.set_cons_succ])
  refine wpAnyH_take (i := 3) (v := ?v1_4) rfl (by kernel_rfl) (by kernel_rfl) (by kernel_rfl) (fun _ _ _ h => h) (Or.inl ⟨by rfl, ?y1_4⟩) (by assumption) ?r1_4
  case y1_4 => (intro w hSw; (try dsimp only at hSw); go_simp; try with_reducible rfl)
  (try simp only [Act.put, List.getElem_toArray, List.getElem_cons_zero, List.getElem_cons_succ, List.setIfInBounds_toArray, List.set_cons_zero, List.set_cons_succ])
  refine wpAnyH_take (i := 4) (v := ?v1_5) rfl (by kernel_rfl) (by kernel_rfl) (by kernel_rfl) (fun _ _ _ h => h) (Or.inl ⟨by rfl, ?y1_5⟩) (by assumption) ?r1_5
  case y1_5 => (intro w hSw; (try dsimp only at hSw); go_simp; try with_reducible rfl)
  (try simp only [Act.put, List.getElem_toArray, List.getElem_cons_zero, List.getElem_cons_succ, List.setIfInBounds_toArray, List.set_cons_zero, List.set_cons_succ])
  refine wpAnyH_ready (rs := [5]) (by kernel_rfl) (by simp) ?_
  refine AllReadyH.cons rfl (fun K hK => ?_) AllReadyH.nil
  go_simp
  refine hO1.mono ?_
  rintro e w1 ⟨v, rfl, hb2, hS, kO⟩
  have t1 : w1.cell? ⟨w.heap.size, 0, none⟩ = some (.pointer (some ⟨p, 0, none⟩)) := (World.cell?_of_block (a := ⟨w.heap.size, 0, none⟩) (kO.block w.heap.size (by show w.heap.size < w0.heap.size; omega) (by simp; omega))).trans t0
  have k1 : Keeps [p] w w1 := k0.drew.trans kO
  go_wp2_with fail
  refine hK.out _ _ ?s1_6 (fun hHeld => ?_)
  case s1_6 => ((try dsimp only) <;> (first | exact t1))
  clear hK K
  (try simp only [Act.put, List.getElem_toArray, List.getElem_cons_zero, List.getElem_cons_succ, List.setIfInBounds_toArray, List.set_cons_zero, List.set_cons_succ])
  refine wpAnyH_done (by kernel_rfl) ?_ _
  refine NoPanic.normal ?_
  obtain ⟨a, c, rfl, hc1, hc2, hc3⟩ := hS.ints
  have HI := Lib.hid hS.ints
  have hl := sums_len n n
  obtain ⟨g, rfl, hg, hc⟩ := hc3 (n - 1) (by omega)
  rw [sums_at n (by omega), show n - 1 + 1 = n from by omega] at hc
  rw [hl] at *
  have hm : (n : Int) - 1 = ((n - 1 : Nat) : Int) := by omega
  have hmn : n - 1 < n := by omega
  generalize n - 1 = m at *
  have c0 := hb2.cell' (i := 0) rfl
  have c4 := hb2.cell' (i := 4) rfl
  have hss := sumTo_le n n
  have hq := aim_val n x (sumTo n n) (by omega)
  have hy : ((x.toNat * sumTo n n : Nat) : Int) / 4294967296 = (aim n x : Int) := by unfold aim; simp
  have hdeg : degree n x = 1 + cnt (fun i => !decide (aim n x < sumTo n (i + 1))) n := rfl
  have HD := Lib.hid hdeg
  clear hdeg
  generalize aim n x = y at *
  generalize hSn : sumTo n n = Sn at *
  generalize x.toNat * Sn = q at *
  clear hSn hss hc3
  go_wp2_with fail
  have hwx : IntKind.u64.wrap (x.toNat : Int) = (x.toNat : Int) := wrap_u64_small (by have := x.toNat_lt; omega)
  have hwm : IntKind.i64.wrap (m : Int) = (m : Int) := IntWalk.i64_in _ (by omega)
  have kA : Keeps [] w1 (w1.drew.alloc (.cells #[U64 0] 25)) := (Keeps.refl [] w1).drew.alloc _
  have kB : Keeps [] w1 (w1.alloc (.cells #[U64 y] 25)).drew := ((Keeps.refl [] w1).alloc _).drew
  refine wp_region_noPanic ?_
  refine wp_region_held_drew (S := (fun w' => w'.cell? ⟨w.heap.size, 0, none⟩ = some (.pointer (some ⟨p, 0, none⟩)) ∧ w'.cell? ⟨p, 0, none⟩ = some (.int .i64 n) ∧ w'.cell? ⟨p, 4, none⟩ = some (.slice (some ⟨g, 0, none⟩) n c) ∧ w'.cell? ⟨g, m, none⟩ = some (U64 Sn))) (by kernel_rfl) ⟨t1, c0, c4, hc⟩ (fun hHeld => ?_)
  refine wpAnyH_take (i := 0) (v := ?v2_7) rfl (by kernel_rfl) (by kernel_rfl) (by kernel_rfl) (fun _ _ _ h => h) (Or.inl ⟨by rfl, ?y2_7⟩) (by assumption) ?r2_7
  case y2_7 => (intro w hSw; (try dsimp only at hSw); go_simp; try with_reducible rfl)
  (try simp only [Act.put, List.getElem_toArray, List.getElem_cons_zero, List.getElem_cons_succ, List.setIfInBounds_toArray, List.set_cons_zero, List.set_cons_succ])
  refine wpAnyH_take (i := 1) (v := ?v2_8) rfl (by kernel_rfl) (by kernel_rfl) (by kernel_rfl) (fun _ _ _ h => h) (Or.inl ⟨by rfl, ?y2_8⟩) (by assumption) ?r2_8
  case y2_8 => (intro w hSw; (try dsimp only at hSw); go_simp; try with_reducible rfl)
  (try simp only [Act.put, List.getElem_toArray, List.getElem_cons_zero, List.getElem_cons_succ, List.setIfInBounds_toArray, List.set_cons_zero, List.set_cons_succ])
  refine wpAnyH_take (i := 2) (v := ?v2_9) rfl (by kernel_rfl) (by kernel_rfl) (by kernel_rfl) (fun _ _ _ h => h) (Or.inl ⟨by rfl, ?y2_9⟩) (by assumption) ?r2_9
  case y2_9 => (intro w hSw; (try dsimp only at hSw); go_simp; try with_reducible rfl)
  (try simp only [Act.put, List.getElem_toArray, List.getElem_cons_zero, List.getElem_cons_succ, List.setIfInBounds_toArray, List.set_cons_zero, List.set_cons_succ])
  refine wpAnyH_take (i := 3) (v := ?v2_10) rfl (by kernel_rfl) (by kernel_rfl) (by kernel_rfl) (fun _ _ _ h => h) (Or.inl ⟨by rfl, ?y2_10⟩) (by assumption) ?r2_10
  case y2_10 => (intro w hSw; (try dsimp only at hSw); go_simp; try with_reducible rfl)
  (try simp only [Act.put, List.getElem_toArray, List.getElem_cons_zero, List.getElem_cons_succ, List.setIfInBounds_toArray, List.set_cons_zero, List.set_cons_succ])
  refine wpAnyH_take (i := 4) (v := ?v2_11) rfl (by kernel_rfl) (by kernel_rfl) (by kernel_rfl) (fun _ _ _ h => h) (Or.inl ⟨by rfl, ?y2_11⟩) (by assumption) ?r2_11
  case y2_11 => (intro w hSw; (try dsimp only at hSw); go_simp; try with_reducible rfl)
  (try simp only [Act.put, List.getElem_toArray, List.getElem_cons_zero, List.getElem_cons_succ, List.setIfInBounds_toArray, List.set_cons_zero, List.set_cons_succ])
  refine wpAnyH_take (i := 5) (v := ?v2_12) rfl (by kernel_rfl) (by kernel_rfl) (by kernel_rfl) (fun _ _ _ h => h) (Or.inl ⟨by rfl, ?y2_12⟩) (by assumption) ?r2_12
  case y2_12 => (intro w hSw; (try dsimp only at hSw); go_simp; try with_reducible rfl)
  (try simp only [Act.put, List.getElem_toArray, List.getElem_cons_zero, List.getElem_cons_succ, List.setIfInBounds_toArray, List.set_cons_zero, List.set_cons_succ])
  refine wpAnyH_take (i := 6) (v := ?v2_13) rfl (by kernel_rfl) (by kernel_rfl) (by kernel_rfl) (fun _ _ _ h => h) (Or.inl ⟨by rfl, ?y2_13⟩) (by assumption) ?r2_13
  case y2_13 => (intro w hSw; (try dsimp only at hSw); go_simp; try with_reducible rfl)
  (try simp only [Act.put, List.getElem_toArray, List.getElem_cons_zero, List.getElem_cons_succ, List.setIfInBounds_toArray, List.set_cons_zero, List.set_cons_succ])
  refine wpAnyH_take (i := 7) (v := ?v2_14) rfl (by kernel_rfl) (by kernel_rfl) (by kernel_rfl) (fun _ _ _ h => h) (Or.inl ⟨by rfl, ?y2_14⟩) (by assumption) ?r2_14
  case y2_14 => (intro w hSw; (try dsimp only at hSw); go_simp; try with_reducible rfl)
  (try simp only [Act.put, List.getElem_toArray, List.getElem_cons_zero, List.getElem_cons_succ, List.setIfInBounds_toArray, List.set_cons_zero, List.set_cons_succ])
  refine wpAnyH_take (i := 8) (v := ?v2_15) rfl (by kernel_rfl) (by kernel_rfl) (by kernel_rfl) (fun _ _ _ h => h) (Or.inl ⟨by rfl, ?y2_15⟩) (by assumption) ?r2_15
  case y2_15 => (intro w hSw; (try dsimp only at hSw); go_simp; try with_reducible rfl)
  (try simp only [Act.put, List.getElem_toArray, List.getElem_cons_zero, List.getElem_cons_succ, List.setIfInBounds_toArray, List.set_cons_zero, List.set_cons_succ])
  refine wpAnyH_take (i := 9) (v := ?v2_16) rfl (by kernel_rfl) (by kernel_rfl) (by kernel_rfl) (fun _ _ _ h => h) (Or.inl ⟨by rfl, ?y2_16⟩) (by assumption) ?r2_16
  case y2_16 => (intro w hSw; (try dsimp only at hSw); go_simp; try with_reducible rfl)
  (try simp only [Act.put, List.getElem_toArray, List.getElem_cons_zero, List.getElem_cons_succ, List.setIfInBounds_toArray, List.set_cons_zero, List.set_cons_succ])
  refine wpAnyH_take (i := 10) (v := ?v2_17) rfl (by kernel_rfl) (by kernel_rfl) (by kernel_rfl) (fun _ _ _ h => h) (Or.inl ⟨by rfl, ?y2_17⟩) (by assumption) ?r2_17
  case y2_17 => (intro w hSw; (try dsimp only at hSw); go_simp; try with_reducible rfl)
  (try simp only [Act.put, List.getElem_toArray, List.getElem_cons_zero, List.getElem_cons_succ, List.setIfInBounds_toArray, List.set_cons_zero, List.set_cons_succ])
  refine wpAnyH_take (i := 11) (v := ?v2_18) rfl (by kernel_rfl) (by kernel_rfl) (by kernel_rfl) (fun _ _ _ h => h) (Or.inl ⟨by rfl, ?y2_18⟩) (by assumption) ?r2_18
  case y2_18 => (intro w hSw; (try dsimp only at hSw); go_simp; try with_reducible rfl)
  (try simp only [Act.put, List.getElem_toArray, List.getElem_cons_zero, List.getElem_cons_succ, List.setIfInBounds_toArray, List.set_cons_zero, List.set_cons_succ])
  refine wpAnyH_take (i := 12) (v := ?v2_19) rfl (by kernel_rfl) (by kernel_rfl) (by kernel_rfl) (fun _ _ _ h => h) (Or.inl ⟨by rfl, ?y2_19⟩) (by assumption) ?r2_19
  case y2_19 => (intro w hSw; (try dsimp only at hSw); go_simp; try with_reducible rfl)
  (try simp only [Act.put, List.getElem_toArray, List.getElem_cons_zero, List.getElem_cons_succ, List.setIfInBounds_toArray, List.set_cons_zero, List.set_cons_succ])
  refine wpAnyH_take (i := 13) (v := ?v2_20) rfl (by kernel_rfl) (by kernel_rfl) (by kernel_rfl) (fun _ _ _ h => h) (Or.inl ⟨by rfl, ?y2_20⟩) (by assumption) ?r2_20
  case y2_20 => (intro w hSw; (try dsimp only at hSw); go_simp; try with_reducible rfl)
  (try simp only [Act.put, List.getElem_toArray, List.getElem_cons_zero, List.getElem_cons_succ, List.setIfInBounds_toArray, List.set_cons_zero, List.set_cons_succ])
  refine wpAnyH_take (i := 14) (v := ?v2_21) rfl (by kernel_rfl) (by kernel_rfl) (by kernel_rfl) (fun _ _ _ h => h) (Or.inl ⟨by rfl, ?y2_21⟩) (by assumption) ?r2_21
  case y2_21 => (intro w hSw; (try dsimp only at hSw); go_simp; try with_reducible rfl)
  (try simp only [Act.put, List.getElem_toArray, List.getElem_cons_zero, List.getElem_cons_succ, List.setIfInBounds_toArray, List.set_cons_zero, List.set_cons_succ])
  refine wpAnyH_ready (rs := [15]) (by kernel_rfl) (by simp) ?_
  refine AllReadyH.cons rfl (fun K hK => ?_) AllReadyH.nil
  go_simp
  refine hK.out _ _ ?s2_22 (fun hHeld => ?_)
  case s2_22 => ((try dsimp only) <;> (first | exact ⟨kA.cell0 t1, kA.cell0 c0, kA.cell0 c4, kA.cell0 hc⟩))
  clear hK K
  (try simp only [Act.put, List.getElem_toArray, List.getElem_cons_zero, List.getElem_cons_succ, List.setIfInBounds_toArray, List.set_cons_zero, List.set_cons_succ])
  refine wpAnyH_ready (rs := [16]) (by kernel_rfl) (by simp) ?_
  refine AllReadyH.cons rfl (fun K hK => ?_) AllReadyH.nil
  go_simp
  refine hK.out _ _ ?s2_23 (fun hHeld => ?_)
  case s2_23 => ((try dsimp only) <;> (first | exact ⟨kB.cell0 t1, kB.cell0 c0, kB.cell0 c4, kB.cell0 hc⟩))
  clear hK K
  (try simp only [Act.put, List.getElem_toArray, List.getElem_cons_zero, List.getElem_cons_succ, List.setIfInBounds_toArray, List.set_cons_zero, List.set_cons_succ])
  refine wpAnyH_done (by kernel_rfl) ?_ _
  refine NoPanic.normal ?_
  have hbB := hb2.keeps kB (by simp)
  have HB := Lib.hid (HI.out.keeps kB (by simp))
  have d1 := kB.cell0 t1
  have ca : (w1.alloc (.cells #[U64 y] 25)).drew.cell? ⟨w1.heap.size, 0, none⟩ = some (U64 y) := (Blk.newA w1 25 #[U64 y]).cell' (i := 0) rfl
  have kw := k1.trans' kB (fun _ h => .inl h) (by simp)
  clear HI
  go_wp2_with fail
  generalize (w1.alloc (.cells #[U64 y] 25)).drew = w2 at *
  refine (search_calls #[.pointer (some ⟨w.heap.size, 0, none⟩), .pointer (some ⟨w1.heap.size, 0, none⟩)] n (fun i => decide (y < sumTo n (i + 1))) (by omega) (fun wr i hk hi => ?_) ?_).mono ?_
  · have := degfn_calls (hbB.keeps hk (by simp)) (HB.out.keeps hk (by simp)) (hk.cell0 d1) (hk.cell0 ca) i hi
    exact this.mono fun e w' ⟨h1, h2⟩ => ⟨h1, hk.trans h2⟩
  · intro a b hab hbn ha
    have := sumTo_mono n (show a + 1 ≤ b + 1 by omega)
    simp at ha ⊢
    omega
  rintro e w3 ⟨rfl, k3⟩
  have hcl := cnt_le (fun i => !decide (y < sumTo n (i + 1))) n
  have HD' := Lib.hid (show degree n x = 1 + cnt (fun i => !decide (y < sumTo n (i + 1))) n from HD.out)
  clear HD
  generalize cnt (fun i => !decide (y < sumTo n (i + 1))) n = cc at *
  go_wp2_with fail
  go_ret
  exact ⟨by rw [HD'.out, Int.natCast_add]; rfl, kw.trans' k3 (fun _ h => .inl h) (by simp)⟩

end Go.Proofs.YtijhaeapoapgfaaGreatDoor

set_option linter.unusedVariables false
set_option linter.unusedSimpArgs false
namespace Go.Proofs.YtijhaeapoapgfaaGreatDoor
open Go.RowKit
attribute [local go_sem ↓] Go.wp_at_zero Go.wp_at_succ

def PmOk (k p z : Int) : Bool := decide (1 ≤ k) && decide (k ≤ 64) && decide (0 ≤ p) && decide (p ≤ 16) && decide (1 ≤ z) && decide (z ≤ 16)

theorem pmOk_true {k p z : Int} (h : PmOk k p z = true) : 1 ≤ k ∧ k ≤ 64 ∧ 0 ≤ p ∧ p ≤ 16 ∧ 1 ≤ z ∧ z ≤ 16 := by
  simp [PmOk] at h; omega

set_option maxRecDepth 100000 in
set_option maxHeartbeats 1000000 in
theorem may_calls {w : World} (s : UInt32) (k p z : Int) : Calls Tryz.prog 70 #[.agg #[B32 s, .int .i64 k, .int .i64 p, .int .i64 z]] w fun e w' => e = .returned (.bool (PmOk k p z)) ∧ Keeps [] w w' := by
  by_cases h1 : 1 ≤ k
  · by_cases h2 : k ≤ 64
    · by_cases h3 : 0 ≤ p
      · by_cases h4 : p ≤ 16
        · by_cases h5 : 1 ≤ z
          · by_cases h6 : z ≤ 16 <;>
            · have E := Lib.hid (show PmOk k p z = decide (z ≤ 16) from by simp [PmOk, h1, h2, h3, h4, h5])
              go_enter Tryz.func70, Tryz.ntmps70
              go_wp2_with fail
              go_ret
              exact ⟨by rw [E.out]; simp [h6], (Keeps.refl _ _).alloc _⟩
          · have E := Lib.hid (show PmOk k p z = false from by simp [PmOk, h5])
            go_enter Tryz.func70, Tryz.ntmps70
            go_wp2_with fail
            go_ret
            exact ⟨by rw [E.out]; rfl, (Keeps.refl _ _).alloc _⟩
        · have E := Lib.hid (show PmOk k p z = false from by simp [PmOk, h4])
          go_enter Tryz.func70, Tryz.ntmps70
          go_wp2_with fail
          go_ret
          exact ⟨by rw [E.out]; rfl, (Keeps.refl _ _).alloc _⟩
      · have E := Lib.hid (show PmOk k p z = false from by simp [PmOk, h3])
        go_enter Tryz.func70, Tryz.ntmps70
        go_wp2_with fail
        go_ret
        exact ⟨by rw [E.out]; rfl, (Keeps.refl _ _).alloc _⟩
    · have E := Lib.hid (show PmOk k p z = false from by simp [PmOk, h2])
      go_enter Tryz.func70, Tryz.ntmps70
      go_wp2_with fail
      go_ret
      exact ⟨by rw [E.out]; rfl, (Keeps.refl _ _).alloc _⟩
  · have E := Lib.hid (show PmOk k p z = false from by simp [PmOk, h1])
    go_enter Tryz.func70, Tryz.ntmps70
    go_wp2_with fail
    go_ret
    exact ⟨by rw [E.out]; rfl, (Keeps.refl _ _).alloc _⟩

set_option maxRecDepth 100000 in
set_option maxHeartbeats 1000000 in
theorem pieces_calls {w : World} (s : UInt32) (k p z : Int) : Calls Tryz.prog 81 #[.agg #[B32 s, .int .i64 k, .int .i64 p, .int .i64 z]] w fun e w' => e = .returned (.int .i64 (if PmOk k p z then k + p else 0)) ∧ Keeps [] w w' := by
  have hM := may_calls (w := w.alloc (.cells #[B32 s, .int .i64 k, .int .i64 p, .int .i64 z] 38)) s k p z
  have hB : Blk (w.alloc (.cells #[B32 s, .int .i64 k, .int .i64 p, .int .i64 z] 38)) w.heap.size 38 [B32 s, .int .i64 k, .int .i64 p, .int .i64 z] := Blk.newA w _ _
  have hk0 : Keeps [] w (w.alloc (.cells #[B32 s, .int .i64 k, .int .i64 p, .int .i64 z] 38)) := (Keeps.refl _ _).alloc _
  cases hE : PmOk k p z
  · rw [hE] at hM
    clear hE
    go_enter Tryz.func81, Tryz.ntmps81
    go_wp2_with fail
    refine hM.mono ?_
    rintro e w1 ⟨rfl, k1⟩
    go_wp2_with fail
    go_ret
    exact ⟨rfl, hk0.trans k1⟩
  · obtain ⟨b1, b2, b3, b4, b5, b6⟩ := pmOk_true hE
    rw [hE] at hM
    clear hE
    go_enter Tryz.func81, Tryz.ntmps81
    go_wp2_with fail
    refine hM.mono ?_
    rintro e w1 ⟨rfl, k1⟩
    have hB1 := hB.keeps k1 (by simp)
    have c1 := hB1.cell' (i := 1) rfl
    have c2 := hB1.cell' (i := 2) rfl
    go_wp2_with fail
    go_ret
    exact ⟨rfl, hk0.trans k1⟩


theorem ints_one {w : World} (x : Nat) : IsInts (w.alloc (.cells #[I64 x] 3)) w.heap.size (.slice (some ⟨w.heap.size, 0, none⟩) 1 1) [x] :=
  ⟨some ⟨w.heap.size, 0, none⟩, 1, rfl, by simp, by simp, fun i hi => by
    obtain rfl : i = 0 := by simp at hi; omega
    exact ⟨w.heap.size, rfl, Nat.le_refl _, (Blk.newA w 3 #[I64 x]).cell' rfl⟩⟩

set_option maxRecDepth 100000 in
set_option maxHeartbeats 2000000 in
theorem row_calls {w : World} (s : UInt32) (K P z : Nat) (h1 : 1 ≤ K) (h2 : K ≤ 64) (h3 : P ≤ 16) (h4 : 1 ≤ z) (h5 : z ≤ 16) (id : UInt32) :
    Calls Tryz.prog 73 #[.agg #[B32 s, .int .i64 K, .int .i64 P, .int .i64 z], B32 id] w (VecNew w (K + P) (rowN s K P id)) := by
  have hP := pieces_calls (w := w.alloc (.cells #[B32 s, .int .i64 K, .int .i64 P, .int .i64 z] 38)) s K P z
  have hok : PmOk (K : Int) (P : Int) (z : Int) = true := by simp [PmOk]; omega
  rw [hok, if_pos rfl, show (K : Int) + (P : Int) = ((K + P : Nat) : Int) from by omega] at hP
  clear hok
  have hB : Blk (w.alloc (.cells #[B32 s, .int .i64 K, .int .i64 P, .int .i64 z] 38)) w.heap.size 38 [B32 s, .int .i64 K, .int .i64 P, .int .i64 z] := Blk.newA w _ _
  have hk0 : Keeps [] w (w.alloc (.cells #[B32 s, .int .i64 K, .int .i64 P, .int .i64 z] 38)) := (Keeps.refl _ _).alloc _
  have hX : rowN s K P id = putL (K + P) 0 (rowL s K P id) := rfl
  have hid := id.toNat_lt
  have hL : rowL s K P id = if id.toNat < K then [id.toNat] else rsome (rstep (rseed s id)) ((K + P : Nat) : Int) ((degree (K + P) (rnext (rseed s id)) : Nat) : Int) := rfl
  have hLl : (rowL s K P id).length ≤ K + P := (rowL_rising s K P id h1 (by omega)).2.2.2
  have hn1 : 1 ≤ K + P := by omega
  have hn2 : K + P ≤ 80 := by omega
  generalize rowN s K P id = X at *
  generalize rowL s K P id = L at *
  generalize K + P = n at *
  have HX := Lib.hid hX
  by_cases hlt : id.toNat < K
  · rw [if_pos hlt] at hL
    have HL := Lib.hid hL
    clear hX hL
    have hu : (id.toNat : Int) < (K : Int) := by omega
    go_enter Tryz.func73, Tryz.ntmps73
    go_wp2_with fail
    refine hP.mono ?_
    rintro e w1 ⟨rfl, k1⟩
    have hB1 := hB.keeps k1 (by simp)
    have c1 := hB1.cell' (i := 1) rfl
    have hne : ¬ ((n : Int) = 0) := by omega
    have HI := Lib.hid (ints_one (w := w1) id.toNat)
    go_wp2_with fail
    refine (vof_calls HI.out n (by omega) (by simp)).mono ?_
    rintro e w2 ⟨q, g, rfl, hq, hg, hV, hK⟩
    have kk := (hk0.trans k1).trans (((Keeps.refl [] w1).alloc (.cells #[I64 id.toNat] 3)).trans hK)
    have z0 : w.heap.size ≤ q := by have := hk0.size; have := k1.size; have e := hq; simp at e; omega
    have z1 : w.heap.size ≤ g := by have := hk0.size; have := k1.size; have e := hg; simp at e; omega
    go_wp2_with fail
    go_ret
    exact ⟨q, g, rfl, z0, z1, by rw [HX.out, HL.out]; exact hV, kk⟩
  · rw [if_neg hlt] at hL
    have HL := Lib.hid hL
    clear hX hL
    have hu : ¬ ((id.toNat : Int) < (K : Int)) := by omega
    go_enter Tryz.func73, Tryz.ntmps73
    go_wp2_with fail
    refine hP.mono ?_
    rintro e w1 ⟨rfl, k1⟩
    have hB1 := hB.keeps k1 (by simp)
    have c0 := hB1.cell' (i := 0) rfl
    have c1 := hB1.cell' (i := 1) rfl
    have hne : ¬ ((n : Int) = 0) := by omega
    go_wp2_with fail
    refine (randnew_calls s id).mono ?_
    rintro e w2 ⟨p, rfl, hp, hS, k2⟩
    go_wp2_with fail
    refine (solnew_calls n hn1 hn2).mono ?_
    rintro e w3 ⟨q, rfl, hq, hT, k3⟩
    have hS3 := hS.keeps k3 (by simp)
    have hpl := hS.ltp
    go_wp2_with fail
    refine (next_calls hS3).mono ?_
    rintro e w4 ⟨rfl, hS4, k4⟩
    have hT4 := hT.keeps k4 (by simp; omega)
    go_wp2_with fail
    refine (degree_calls hT4 hn1 hn2 _).mono ?_
    rintro e w5 ⟨rfl, k5⟩
    have hS5 := hS4.keeps k5 (by simp; omega)
    generalize hd : degree n (rnext (rseed s id)) = d at *
    go_wp2_with fail
    refine (some_any hS5 (n : Int) (d : Int)).mono ?_
    rintro e w6 ⟨v, rfl, hI, hS6, k6⟩
    rw [← HL.out] at hI
    obtain ⟨a6, c6, rfl, i1, i2, i3⟩ := hI
    have hI : IsInts w6 w5.heap.size (.slice a6 L.length c6) L := ⟨a6, c6, rfl, i1, i2, i3⟩
    go_wp2_with fail
    refine (vof_calls hI n (by omega) (by omega)).mono ?_
    rintro e w7 ⟨q7, g7, rfl, hq7, hg7, hV, k7⟩
    have s1 := (hk0.trans k1).size
    have s2 := k2.size
    have s3 := k3.size
    have s4 := k4.size
    have s5 := k5.size
    have s6 := k6.size
    have e2 : Keeps [] w w2 := (hk0.trans k1).trans k2
    have e3 : Keeps [] w w3 := e2.trans k3
    have e4 : Keeps [] w w4 := e3.trans' k4 (fun _ h => .inl h) (fun x hx => .inr (by simp at hx; omega))
    have e5 : Keeps [] w w5 := e4.trans' k5 (fun _ h => .inl h) (fun x hx => .inr (by simp at hx; omega))
    have e6 : Keeps [] w w6 := e5.trans' k6 (fun _ h => .inl h) (fun x hx => .inr (by simp at hx; omega))
    go_wp2_with fail
    go_ret
    exact ⟨q7, g7, rfl, by omega, by omega, by rw [HX.out]; exact hV, e6.trans k7⟩

end Go.Proofs.YtijhaeapoapgfaaGreatDoor
