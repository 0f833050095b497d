/-
  GrVecL: the texts VecL, BkV, Bk1, Bk2, Sol, one behind another.
-/
import Derived.Test.YtijhaeapoapgfaaGreatDoorGrRandS
import Derived.Maps.AppendAt
import Derived.Deep.RegionHeld3
import Derived.Deep.DrawnRows
import Derived.StillTailTactics
import Derived.Test.YtijhaeapoapgfaaGreatDoorGrBytes
import Derived.Test.YtijhaeapoapgfaaGreatDoorGrPopT
set_option linter.unusedVariables false
set_option linter.unusedSimpArgs false
namespace Go.Proofs.YtijhaeapoapgfaaGreatDoor
open Go.RowKit
attribute [local go_sem ↓] Go.wp_at_zero Go.wp_at_succ

/-- A slice of numbers that the call has made, in a block from B on (or it is nil and there are none). -/
def OwnI (w : World) (B : Nat) (v : Value) (l : List Nat) : Prop := w.ownsRow B 3 1 v l.length (l.map I64)

theorem OwnI.nil (w : World) (B : Nat) : OwnI w B (.slice none 0 0) [] := ⟨rfl, .inl ⟨rfl, rfl⟩⟩

theorem OwnI.ints {w : World} {B : Nat} {v : Value} {l : List Nat} (h : OwnI w B v l) : IsInts w B v l := by
  rcases h.2 with ⟨rfl, h0⟩ | ⟨g, cap, cur, rfl, hb, hg, hn, hm, hs, ht⟩
  · have : l = [] := List.length_eq_zero_iff.1 h0
    subst this
    exact IsInts.nil _ _
  · have hbk : Blk w g 3 (l.map I64 ++ cur.toList.drop l.length) := by
      unfold Blk
      rw [hg, ← ht, Nat.mul_one, List.take_append_drop]
    refine ⟨some ⟨g, 0, none⟩, cap, rfl, hn, hm, fun i hi => ⟨g, rfl, hb, ?_⟩⟩
    refine hbk.cell' ?_
    rw [List.getElem?_append_left (by simpa using hi), List.getElem?_map, List.getD_eq_getElem?_getD, List.getElem?_eq_getElem hi]
    rfl

theorem append_runI {w : World} {B : Nat} {v : Value} {l : List Nat} (h : OwnI w B v l) (x b o c : Nat) (hx : w.cell? ⟨b, o, none⟩ = some (I64 x))
    (hlen : l.length ≤ 1000000) (hB : B ≤ w.heap.size) (t : TypeId) :
    ∃ v' w', (Builtin.append_ #[138, 138] t #[v, .slice (some ⟨b, o, none⟩) 1 c]).run Tryz.prog w = .ok v' w' ∧ OwnI w' B v' (l ++ [x]) ∧ w.grownBy w' v.ownBlock ∧ (∀ x, v'.ownBlock = some x → v.ownBlock = some x ∨ w.heap.size ≤ x) := by
  obtain ⟨i0, hi, hz0, hz1, hz2⟩ := info_parts Tryz.info_int
  obtain ⟨v', w', hr, h2, h3, h4, h5⟩ := run_append_own_at (P := Tryz.prog) w B 138 t 3 i0 (.int .i64 0) 1 8 Tryz.underlying138 hi hz0 hz1 hz2 rfl (by decide) v l.length (l.map I64) h ⟨b, o, none⟩ 1 c [I64 x]
    (by simp) (fun j u hu => by
      obtain rfl : j = 0 := by
        rcases j with _ | j
        · rfl
        · simp at hu
      simp only [List.getElem?_cons_zero, Option.some.injEq] at hu
      subst hu
      rw [Addr.add_lit]
      exact hx) (by intro u hu; simp only [List.mem_singleton] at hu; subst hu; rfl) (by unfold maxLen; omega) (by omega) hB
  refine ⟨v', w', hr, ?_, h3, fun y hy => ?_⟩
  · unfold OwnI
    rw [List.length_append, List.map_append]
    exact h2
  · rcases h5 with h5 | h5
    · exact .inl (h5 ▸ hy)
    · rw [h5] at hy; simp at hy; exact .inr (by omega)

theorem wpList_append_int {w : World} {ops : Array Oper} {rest : List Oper} {o : Oper} {act : Act} {Q : Exit → Act → World → Prop} (hgd : o.guard = none) (s x : Operand)
    (ho : o.op = .call { callee := .builtin .append, args := #[s, x], argTypes := #[138, 138] })
    {B : Nat} {v : Value} {l : List Nat} (h : OwnI w B v l) (hs : act.eval s = v) (y b k c : Nat) (hx : act.eval x = .slice (some ⟨b, k, none⟩) 1 c) (hm : w.cell? ⟨b, k, none⟩ = some (I64 y))
    (hlen : l.length ≤ 1000000) (hB : B ≤ w.heap.size)
    (hK : ∀ v' w', OwnI w' B v' (l ++ [y]) → w.grownBy w' v.ownBlock → (∀ x, v'.ownBlock = some x → v.ownBlock = some x ∨ w.heap.size ≤ x) → wpList Tryz.prog ops Q rest (act.put o.dst v') w') : wpList Tryz.prog ops Q (o :: rest) act w := by
  refine wpList_plain hgd fun K hK' => ?_
  obtain ⟨v', w', hrun, h1, h2, h3⟩ := append_runI h y b k c hm hlen hB o.type
  unfold Oper.wp
  simp [execOp, ho, resolve, invoke, builtin, hs, hx, hrun, Result.andThen]
  exact hK' _ _ (hK v' w' h1 h2 h3)

theorem OwnI.keeps {S : List Nat} {w w' : World} {B : Nat} {v : Value} {l : List Nat} (h : OwnI w B v l) (k : Keeps S w w') (hS : ∀ x, x ∈ S → x < B) : OwnI w' B v l := by
  refine ⟨h.1, ?_⟩
  rcases h.2 with ⟨rfl, h0⟩ | ⟨g, cap, cur, rfl, hb, hg, hn, hm, hs, ht⟩
  · exact .inl ⟨rfl, h0⟩
  · exact .inr ⟨g, cap, cur, rfl, hb, (k.block g (Array.getElem?_eq_some_iff.1 hg).1 (fun hm => by have := hS g hm; omega)).trans hg, hn, hm, hs, ht⟩
theorem OwnI.block {w : World} {B x : Nat} {v : Value} {l : List Nat} (h : OwnI w B v l) (hx : v.ownBlock = some x) : B ≤ x ∧ x < w.heap.size := by
  rcases h.2 with ⟨rfl, h0⟩ | ⟨g, cap, cur, rfl, hb, hg, hn, hm, hs, ht⟩
  · simp [Value.ownBlock] at hx
  · simp [Value.ownBlock] at hx
    subst hx
    exact ⟨hb, (Array.getElem?_eq_some_iff.1 hg).1⟩

/-- A list of numbers, in new memory. -/
def ListPost (w : World) (l : List Nat) (e : Ending) (w' : World) : Prop := ∃ v, e = .returned v ∧ OwnI w' w.heap.size v l ∧ Keeps [] w w'

set_option maxRecDepth 100000 in
set_option maxHeartbeats 1000000 in
theorem vlist_calls {w : World} {p g n X : Nat} (h : VecAt w p g n X) :
    Calls Tryz.prog 74 #[.pointer (some ⟨p, 0, none⟩)] w (ListPost w (bitsOf n X)) := by
  have hn := h.le
  have hpl := h.b.lt
  have hgl := h.r.lt
  have hB0 := OwnI.nil w w.heap.size
  go_enter Tryz.func74, Tryz.ntmps74
  go_wp2_with fail
  refine (vlen_calls h).mono ?_
  rintro e w' ⟨rfl, rfl⟩
  go_wp2_with fail
  go_loopw [3, 7] (fun v i wr => ∃ k : Nat, k ≤ n ∧ i = .int .i64 k ∧ OwnI wr w.heap.size v (bitsOf k X) ∧ Keeps [] w wr) (fun _ i _ => n - (intOf i).toNat)
  case atStart => exact ⟨0, Nat.zero_le _, rfl, hB0, Keeps.refl _ _⟩
  case round =>
    obtain ⟨k, hk, rfl, hO, hK⟩ := hrel
    by_cases hlt : k < n
    · have hV := h.keeps hK (by simp) (by simp)
      have hH := vhas_calls hV (k : Int)
      have hlen : (bitsOf k X).length ≤ k := by unfold bitsOf; exact Nat.le_trans (List.length_filter_le _ _) (by simp)
      have hsz := hK.size
      rw [decide_eq_true (show 0 ≤ (k : Int) ∧ (k : Int) < n by omega), Bool.true_and, Int.toNat_natCast] at hH
      have hs := bitsOf_succ k X
      have hd : decide (k < n) = true := decide_eq_true hlt
      cases hb : X.testBit k
      · rw [hb] at hH hs
        simp only [Bool.false_eq_true, if_false, List.append_nil] at hs
        have Hs := Lib.hid hs
        have HO := Lib.hid hO
        have HK := Lib.hid hK
        clear hs hO hK hb
        go_wp2_with fail
        refine hH.mono ?_
        rintro e w' ⟨rfl, rfl⟩
        go_wp2_with fail
        go_roundw
        case rel => exact ⟨k + 1, by omega, by go_num, by rw [Hs.out]; exact HO.out, HK.out⟩
        case measure => simp [intOf]; omega
      · rw [hb] at hH hs
        simp only [if_true] at hs
        have Hs := Lib.hid hs
        have HO := Lib.hid (hO.keeps ((Keeps.refl [] wr).alloc (.cells #[.int .i64 (k : Int)] 3)) (by simp))
        have HK := Lib.hid hK
        have hX : (wr.alloc (.cells #[.int .i64 (k : Int)] 3)).cell? ⟨wr.heap.size, 0, none⟩ = some (I64 k) := (Blk.newA wr 3 #[.int .i64 (k : Int)]).cell' rfl
        have hB : w.heap.size ≤ (wr.alloc (.cells #[.int .i64 (k : Int)] 3)).heap.size := by simp; omega
        have HX := Lib.hid hX
        generalize bitsOf k X = L at *
        clear hs hO hK hb hX
        go_wp2_with fail
        refine hH.mono ?_
        rintro e w' ⟨rfl, rfl⟩
        go_wp2_with (at_builtin; (refine wpList_append_int rfl (.tmp 13) (.tmp 15) rfl HO.out rfl k _ 0 1 rfl HX.out (by omega) hB ?_); intro v2 w2 h1 h2 h3)
        go_roundw
        case rel =>
          refine ⟨k + 1, by omega, by go_num, by rw [Hs.out]; exact h1, (HK.out.alloc _).grown h2 (fun x hx => .inr ?_)⟩
          exact (HO.out.block hx).1
        case measure => simp [intOf]; omega
    · obtain rfl : n = k := by omega
      go_wp2_with fail
      go_ret
      exact ⟨_, rfl, hO, hK⟩

theorem putL_snoc (n X : Nat) (l : List Nat) (i : Nat) : putL n X (l ++ [i]) = if i < n then putB (putL n X l) i true else putL n X l := by
  unfold putL
  rw [List.foldl_append]
  rfl

theorem IsInts.keepsNil {w w' : World} {B : Nat} {v : Value} {l : List Nat} (h : IsInts w B v l) (k : Keeps [] w w') : IsInts w' B v l := h.keeps k (by simp)

set_option maxRecDepth 100000 in
set_option maxHeartbeats 1000000 in
theorem vof_calls {w : World} {B : Nat} {v : Value} {l : List Nat} (hl : IsInts w B v l) (n : Nat) (hn : n ≤ 256) (hlen : l.length ≤ 1000000) :
    Calls Tryz.prog 123 #[.int .i64 n, v] w (VecNew w n (putL n 0 l)) := by
  obtain ⟨a, c, rfl, hc1, hc2, hcell⟩ := hl
  go_enter Tryz.func123, Tryz.ntmps123
  go_wp2_with fail
  refine (vnew_calls n hn).mono ?_
  rintro e w1 ⟨p, g, rfl, hp, hg, hV, hK1⟩
  have hpg := hV.ne
  have hcells : ∀ i, i < l.length → ∃ g0, a = some ⟨g0, 0, none⟩ ∧ w.cell? ⟨g0, i, none⟩ = some (I64 (l.getD i 0)) := fun i hi => by
    obtain ⟨g0, e, _, hc⟩ := hcell i hi
    exact ⟨g0, e, hc⟩
  have Hc := Lib.hid hcells
  clear hcell hcells
  go_wp2_with fail
  go_loopw [12] (fun i wr => ∃ k : Nat, k ≤ l.length ∧ i = .int .i64 k ∧ VecAt wr p g n (putL n 0 (l.take k)) ∧ Keeps [] w wr) (fun i _ => l.length - (intOf i).toNat)
  case atStart => exact ⟨0, Nat.zero_le _, rfl, hV, hK1⟩
  case round =>
    obtain ⟨k, hk, rfl, hV, hK⟩ := hrel
    by_cases hlt : k < l.length
    · obtain ⟨g0, rfl, hc⟩ := Hc.out k hlt
      have hcr : wr.cell? ⟨g0, k, none⟩ = some (I64 (l.getD k 0)) := (World.cell?_of_block (a := ⟨g0, k, none⟩) (hK.block g0 (World.block_lt_of_cell? w _ hc) (by simp))).trans hc
      have hs : l.take (k + 1) = l.take k ++ [l.getD k 0] := by rw [List.take_add_one, List.getElem?_eq_getElem hlt, List.getD_eq_getElem?_getD, List.getElem?_eq_getElem hlt]; rfl
      have hp := putL_snoc n 0 (l.take k) (l.getD k 0)
      rw [← hs] at hp
      generalize l.getD k 0 = x at *
      have hkl : (k : Int) < (l.length : Int) := by omega
      by_cases hx : x < n
      · rw [if_pos hx] at hp
        have hS := vset_calls hV x true hx
        have Hp := Lib.hid hp
        have HK := Lib.hid hK
        clear hs hp hK hV hc
        go_wp2_with fail
        refine hS.mono ?_
        rintro e w2 ⟨rfl, hV2, hK2⟩
        go_wp2_with fail
        go_roundw
        case rel => exact ⟨k + 1, by omega, by go_num, by rw [Hp.out]; exact hV2, HK.out.trans' hK2 (by simp) (by simp; omega)⟩
        case measure => simp [intOf]; omega
      · rw [if_neg hx] at hp
        have hS := vsetout_calls hV (x : Int) true (by omega)
        have Hp := Lib.hid hp
        have HK := Lib.hid hK
        have HV := Lib.hid hV
        clear hs hp hK hV hc
        go_wp2_with fail
        refine hS.mono ?_
        rintro e w2 ⟨rfl, rfl⟩
        go_wp2_with fail
        go_roundw
        case rel => exact ⟨k + 1, by omega, by go_num, by rw [Hp.out]; exact HV.out, HK.out⟩
        case measure => simp [intOf]; omega
    · obtain rfl : k = l.length := by omega
      rw [List.take_length] at hV
      have HV := Lib.hid hV
      have HK := Lib.hid hK
      clear hV hK
      go_wp2_with fail
      go_ret
      exact ⟨p, g, rfl, by omega, by omega, HV.out, HK.out⟩

theorem Keeps.cell0 {w w' : World} (k : Keeps [] w w') {a : Addr} {v : Value} (h : w.cell? a = some v) : w'.cell? a = some v := (World.cell?_of_block (k.block a.block (World.block_lt_of_cell? w _ h) (by simp))).trans h

end Go.Proofs.YtijhaeapoapgfaaGreatDoor

set_option linter.unusedVariables false
set_option linter.unusedSimpArgs false
namespace Go.Proofs.YtijhaeapoapgfaaGreatDoor
open Go.RowKit
attribute [local go_sem ↓] Go.wp_at_zero Go.wp_at_succ

/-- A slice of bytes that reads as l, in blocks of bytes. -/
def RdS (w : World) (v : Value) (l : List UInt8) : Prop :=
  ∃ a c, v = .slice a l.length c ∧ l.length ≤ c ∧ c ≤ 9223372036854775807 ∧ Rd w a l ∧ (a = none → l = [] ∧ c = 0) ∧ (∀ x, a = some x → l ≠ [] → ∃ cs, Blk w x.block 5 cs)

theorem Own.rds {w : World} {B : Nat} {v : Value} {l : List UInt8} (h : Own w B v l) : RdS w v l := by
  obtain ⟨a, c, rfl, h1, h2, h3⟩ := h.cap
  obtain ⟨a', c', he, _, hr, hb, hk, _⟩ := h.rd
  simp only [Value.slice.injEq] at he
  obtain ⟨rfl, _, rfl⟩ := he
  exact ⟨a, c, rfl, h1, h2, hr, h3, fun x hx _ => by obtain ⟨r, hr⟩ := hk x hx; exact ⟨_, hr⟩⟩
theorem RdS.keepsNil {w w' : World} {v : Value} {l : List UInt8} (h : RdS w v l) (k : Keeps [] w w') : RdS w' v l := by
  obtain ⟨a, c, rfl, h1, h2, h3, h4, h5⟩ := h
  exact ⟨a, c, rfl, h1, h2, h3.keepsNil k, h4, fun x hx hl => by obtain ⟨cs, hb⟩ := h5 x hx hl; exact ⟨cs, hb.keeps k (by simp)⟩⟩
theorem RdS.len {w : World} {v : Value} {l : List UInt8} (h : RdS w v l) : ∃ a c, v = .slice a l.length c := by
  obtain ⟨a, c, rfl, _⟩ := h; exact ⟨a, c, rfl⟩

/-- A slice of values of one cell each, that the call has made. -/
def OwnX (et : TypeId) (w : World) (B : Nat) (v : Value) (vs : List Value) : Prop := w.ownsRow B et 1 v vs.length vs
theorem OwnX.nil (et : TypeId) (w : World) (B : Nat) : OwnX et w B (.slice none 0 0) [] := ⟨rfl, .inl ⟨rfl, rfl⟩⟩
theorem OwnX.read {et : TypeId} {w : World} {B : Nat} {v : Value} {vs : List Value} (h : OwnX et w B v vs) :
    ∃ a c, v = .slice a vs.length c ∧ vs.length ≤ c ∧ c ≤ 9223372036854775807 ∧ (∀ (i : Nat) (u : Value), vs[i]? = some u → ∃ g, a = some ⟨g, 0, none⟩ ∧ B ≤ g ∧ w.cell? ⟨g, i, none⟩ = some u) ∧ (a = none → vs = [] ∧ c = 0) := by
  rcases h.2 with ⟨rfl, h0⟩ | ⟨g, cap, cur, rfl, hb, hg, hn, hm, hs, ht⟩
  · have : vs = [] := List.length_eq_zero_iff.1 h0
    subst this
    exact ⟨none, 0, rfl, by simp, by simp, by simp, fun _ => ⟨rfl, rfl⟩⟩
  · have hbk : Blk w g et (vs ++ cur.toList.drop vs.length) := by
      have e := List.take_append_drop vs.length cur.toList
      rw [show cur.toList.take vs.length = vs from by simpa using ht] at e
      unfold Blk
      rw [hg, e]
    refine ⟨some ⟨g, 0, none⟩, cap, rfl, hn, hm, fun i u hu => ⟨g, rfl, hb, ?_⟩, by simp⟩
    refine hbk.cell' ?_
    have hi : i < vs.length := (List.getElem?_eq_some_iff.1 hu).1
    rw [List.getElem?_append_left hi]
    exact hu
theorem OwnX.keeps {et : TypeId} {S : List Nat} {w w' : World} {B : Nat} {v : Value} {l : List Value} (h : OwnX et w B v l) (k : Keeps S w w') (hS : ∀ x, x ∈ S → x < B) : OwnX et w' B v l := by
  refine ⟨h.1, ?_⟩
  rcases h.2 with ⟨rfl, h0⟩ | ⟨g, cap, cur, rfl, hb, hg, hn, hm, hs, ht⟩
  · exact .inl ⟨rfl, h0⟩
  · exact .inr ⟨g, cap, cur, rfl, hb, (k.block g (Array.getElem?_eq_some_iff.1 hg).1 (fun hm => by have := hS g hm; omega)).trans hg, hn, hm, hs, ht⟩
theorem OwnX.mono {et : TypeId} {w : World} {B B' : Nat} {v : Value} {l : List Value} (h : OwnX et w B v l) (hB : B' ≤ B) : OwnX et w B' v l := by
  refine ⟨h.1, ?_⟩
  rcases h.2 with ⟨rfl, h0⟩ | ⟨g, cap, cur, rfl, hb, hg, hn, hm, hs, ht⟩
  · exact .inl ⟨rfl, h0⟩
  · exact .inr ⟨g, cap, cur, rfl, by omega, hg, hn, hm, hs, ht⟩
theorem OwnX.block {et : TypeId} {w : World} {B x : Nat} {v : Value} {l : List Value} (h : OwnX et w B v l) (hx : v.ownBlock = some x) : B ≤ x ∧ x < w.heap.size ∧ ∃ cs, Blk w x et cs := by
  rcases h.2 with ⟨rfl, h0⟩ | ⟨g, cap, cur, rfl, hb, hg, hn, hm, hs, ht⟩
  · simp [Value.ownBlock] at hx
  · simp [Value.ownBlock] at hx
    subst hx
    refine ⟨hb, (Array.getElem?_eq_some_iff.1 hg).1, l ++ cur.toList.drop l.length, ?_⟩
    have e := List.take_append_drop l.length cur.toList
    rw [show cur.toList.take l.length = l from by simpa using ht] at e
    unfold Blk
    rw [hg, e]

theorem Tryz.info_bs : (Tryz.prog.info? 22).map (fun i => (i.zero, i.size, i.bytes)) = some (some (.slice none 0 0), 1, 24) := by kernel_rfl

theorem append_runbs {w : World} {B : Nat} {v : Value} {l : List Value} (h : OwnX 22 w B v l) (x : Value) (hone : x.oneCell' = true) (b o c : Nat) (hx : w.cell? ⟨b, o, none⟩ = some x)
    (hlen : l.length ≤ 1000000) (hB : B ≤ w.heap.size) (t : TypeId) :
    ∃ v' w', (Builtin.append_ #[93, 93] t #[v, .slice (some ⟨b, o, none⟩) 1 c]).run Tryz.prog w = .ok v' w' ∧ OwnX 22 w' B v' (l ++ [x]) ∧ w.grownBy w' v.ownBlock ∧ (∀ x, v'.ownBlock = some x → v.ownBlock = some x ∨ w.heap.size ≤ x) := by
  obtain ⟨i0, hi, hz0, hz1, hz2⟩ := info_parts Tryz.info_bs
  obtain ⟨v', w', hr, h2, h3, h4, h5⟩ := run_append_own_at (P := Tryz.prog) w B 93 t 22 i0 (.slice none 0 0) 1 24 Tryz.underlying93 hi hz0 hz1 hz2 rfl (by decide) v l.length l h ⟨b, o, none⟩ 1 c [x]
    (by simp) (fun j u hu => by
      obtain rfl : j = 0 := by
        rcases j with _ | j
        · rfl
        · simp at hu
      simp only [List.getElem?_cons_zero, Option.some.injEq] at hu
      subst hu
      rw [Addr.add_lit]
      exact hx) (by intro u hu; simp only [List.mem_singleton] at hu; subst hu; exact hone) (by unfold maxLen; omega) (by omega) hB
  refine ⟨v', w', hr, ?_, h3, fun y hy => ?_⟩
  · unfold OwnX
    rw [List.length_append]
    exact h2
  · rcases h5 with h5 | h5
    · exact .inl (h5 ▸ hy)
    · rw [h5] at hy; simp at hy; exact .inr (by omega)

theorem wpList_append_bs {w : World} {ops : Array Oper} {rest : List Oper} {o : Oper} {act : Act} {Q : Exit → Act → World → Prop} (hgd : o.guard = none) (s x : Operand)
    (ho : o.op = .call { callee := .builtin .append, args := #[s, x], argTypes := #[93, 93] })
    {B : Nat} {v : Value} {l : List Value} (h : OwnX 22 w B v l) (hs : act.eval s = v) (y : Value) (hone : y.oneCell' = true) (b k c : Nat) (hx : act.eval x = .slice (some ⟨b, k, none⟩) 1 c) (hm : w.cell? ⟨b, k, none⟩ = some y)
    (hlen : l.length ≤ 1000000) (hB : B ≤ w.heap.size)
    (hK : ∀ v' w', OwnX 22 w' B v' (l ++ [y]) → w.grownBy w' v.ownBlock → (∀ x, v'.ownBlock = some x → v.ownBlock = some x ∨ w.heap.size ≤ x) → wpList Tryz.prog ops Q rest (act.put o.dst v') w') : wpList Tryz.prog ops Q (o :: rest) act w := by
  refine wpList_plain hgd fun K hK' => ?_
  obtain ⟨v', w', hrun, h1, h2, h3⟩ := append_runbs h y hone b k c hm hlen hB o.type
  unfold Oper.wp
  simp [execOp, ho, resolve, invoke, builtin, hs, hx, hrun, Result.andThen]
  exact hK' _ _ (hK v' w' h1 h2 h3)

theorem Tryz.info_vecp : (Tryz.prog.info? 139).map (fun i => (i.zero, i.size, i.bytes)) = some (some (.pointer none), 1, 8) := by kernel_rfl

theorem append_runvecp {w : World} {B : Nat} {v : Value} {l : List Value} (h : OwnX 139 w B v l) (x : Value) (hone : x.oneCell' = true) (b o c : Nat) (hx : w.cell? ⟨b, o, none⟩ = some x)
    (hlen : l.length ≤ 1000000) (hB : B ≤ w.heap.size) (t : TypeId) :
    ∃ v' w', (Builtin.append_ #[151, 151] t #[v, .slice (some ⟨b, o, none⟩) 1 c]).run Tryz.prog w = .ok v' w' ∧ OwnX 139 w' B v' (l ++ [x]) ∧ w.grownBy w' v.ownBlock ∧ (∀ x, v'.ownBlock = some x → v.ownBlock = some x ∨ w.heap.size ≤ x) := by
  obtain ⟨i0, hi, hz0, hz1, hz2⟩ := info_parts Tryz.info_vecp
  obtain ⟨v', w', hr, h2, h3, h4, h5⟩ := run_append_own_at (P := Tryz.prog) w B 151 t 139 i0 (.pointer none) 1 8 Tryz.underlying151 hi hz0 hz1 hz2 rfl (by decide) v l.length l h ⟨b, o, none⟩ 1 c [x]
    (by simp) (fun j u hu => by
      obtain rfl : j = 0 := by
        rcases j with _ | j
        · rfl
        · simp at hu
      simp only [List.getElem?_cons_zero, Option.some.injEq] at hu
      subst hu
      rw [Addr.add_lit]
      exact hx) (by intro u hu; simp only [List.mem_singleton] at hu; subst hu; exact hone) (by unfold maxLen; omega) (by omega) hB
  refine ⟨v', w', hr, ?_, h3, fun y hy => ?_⟩
  · unfold OwnX
    rw [List.length_append]
    exact h2
  · rcases h5 with h5 | h5
    · exact .inl (h5 ▸ hy)
    · rw [h5] at hy; simp at hy; exact .inr (by omega)

theorem wpList_append_vecp {w : World} {ops : Array Oper} {rest : List Oper} {o : Oper} {act : Act} {Q : Exit → Act → World → Prop} (hgd : o.guard = none) (s x : Operand)
    (ho : o.op = .call { callee := .builtin .append, args := #[s, x], argTypes := #[151, 151] })
    {B : Nat} {v : Value} {l : List Value} (h : OwnX 139 w B v l) (hs : act.eval s = v) (y : Value) (hone : y.oneCell' = true) (b k c : Nat) (hx : act.eval x = .slice (some ⟨b, k, none⟩) 1 c) (hm : w.cell? ⟨b, k, none⟩ = some y)
    (hlen : l.length ≤ 1000000) (hB : B ≤ w.heap.size)
    (hK : ∀ v' w', OwnX 139 w' B v' (l ++ [y]) → w.grownBy w' v.ownBlock → (∀ x, v'.ownBlock = some x → v.ownBlock = some x ∨ w.heap.size ≤ x) → wpList Tryz.prog ops Q rest (act.put o.dst v') w') : wpList Tryz.prog ops Q (o :: rest) act w := by
  refine wpList_plain hgd fun K hK' => ?_
  obtain ⟨v', w', hrun, h1, h2, h3⟩ := append_runvecp h y hone b k c hm hlen hB o.type
  unfold Oper.wp
  simp [execOp, ho, resolve, invoke, builtin, hs, hx, hrun, Result.andThen]
  exact hK' _ _ (hK v' w' h1 h2 h3)

/-- A slice of slices of bytes that the call has made: its slices, in other blocks, read as these. -/
def Pcs (w : World) (B : Nat) (v : Value) (L : List (List UInt8)) : Prop :=
  ∃ vs, OwnX 22 w B v vs ∧ vs.length = L.length ∧ ∀ (i : Nat) (x : List UInt8), L[i]? = some x → ∃ u, vs[i]? = some u ∧ RdS w u x
/-- .. to be read. -/
def RdL (w : World) (v : Value) (L : List (List UInt8)) : Prop :=
  ∃ a c, v = .slice a L.length c ∧ L.length ≤ c ∧ c ≤ 9223372036854775807 ∧ (∀ (i : Nat) (x : List UInt8), L[i]? = some x → ∃ g u, a = some ⟨g, 0, none⟩ ∧ w.cell? ⟨g, i, none⟩ = some u ∧ RdS w u x) ∧ (a = none → L = [] ∧ c = 0)
theorem Pcs.nil (w : World) (B : Nat) : Pcs w B (.slice none 0 0) [] := ⟨[], OwnX.nil _ _ _, rfl, by simp⟩
theorem Pcs.rdl {w : World} {B : Nat} {v : Value} {L : List (List UInt8)} (h : Pcs w B v L) : RdL w v L := by
  obtain ⟨vs, hO, hl, he⟩ := h
  obtain ⟨a, c, rfl, h1, h2, h3, h4⟩ := hO.read
  rw [hl] at h1 ⊢
  refine ⟨a, c, rfl, h1, h2, fun i x hx => ?_, fun ha => ⟨?_, (h4 ha).2⟩⟩
  · obtain ⟨u, hu, hr⟩ := he i x hx
    obtain ⟨g, ha, _, hc⟩ := h3 i u hu
    exact ⟨g, u, ha, hc, hr⟩
  · have := (h4 ha).1
    rw [this] at hl
    exact List.length_eq_zero_iff.1 hl.symm
theorem Pcs.keepsNil {w w' : World} {B : Nat} {v : Value} {L : List (List UInt8)} (h : Pcs w B v L) (k : Keeps [] w w') : Pcs w' B v L := by
  obtain ⟨vs, hO, hl, he⟩ := h
  exact ⟨vs, hO.keeps k (by simp), hl, fun i x hx => by obtain ⟨u, hu, hr⟩ := he i x hx; exact ⟨u, hu, hr.keepsNil k⟩⟩
theorem Pcs.mono {w : World} {B B' : Nat} {v : Value} {L : List (List UInt8)} (h : Pcs w B v L) (hB : B' ≤ B) : Pcs w B' v L := by
  obtain ⟨vs, hO, hl, he⟩ := h
  exact ⟨vs, hO.mono hB, hl, he⟩
theorem RdL.keepsNil {w w' : World} {v : Value} {L : List (List UInt8)} (h : RdL w v L) (k : Keeps [] w w') : RdL w' v L := by
  obtain ⟨a, c, rfl, h1, h2, h3, h4⟩ := h
  refine ⟨a, c, rfl, h1, h2, fun i x hx => ?_, h4⟩
  obtain ⟨g, u, ha, hc, hr⟩ := h3 i x hx
  exact ⟨g, u, ha, k.cell0 hc, hr.keepsNil k⟩
theorem RdS.grown {w w' : World} {row : Option Nat} {v : Value} {l : List UInt8} (h : RdS w v l) (hg : w.grownBy w' row) (hr : ∀ k, row = some k → ∃ cs, Blk w k 22 cs) : RdS w' v l := by
  obtain ⟨a, c, rfl, h1, h2, h3, h4, h5⟩ := h
  have k : Keeps row.toList w w' := (Keeps.refl row.toList w).grown hg (fun k hk => .inl (by rw [hk]; simp))
  have hne : ∀ x, a = some x → l ≠ [] → x.block ∉ row.toList := fun x hx hl hm => by
    obtain ⟨cs, hb⟩ := h5 x hx hl
    obtain ⟨cs', hb'⟩ := hr x.block (by simpa using hm)
    exact hb.ne hb' (by decide) rfl
  exact ⟨a, c, rfl, h1, h2, h3.keeps k hne, h4, fun x hx hl => by obtain ⟨cs, hb⟩ := h5 x hx hl; exact ⟨cs, hb.keeps k (hne x hx hl)⟩⟩

/-- One slice more. -/
theorem Pcs.snoc {w w' : World} {B : Nat} {v v' u : Value} {vs : List Value} {L : List (List UInt8)} {x : List UInt8} (hO : OwnX 22 w B v vs) (hl : vs.length = L.length) (he : ∀ (i : Nat) (x : List UInt8), L[i]? = some x → ∃ u, vs[i]? = some u ∧ RdS w u x)
    (hu : RdS w u x) (h' : OwnX 22 w' B v' (vs ++ [u])) (hg : w.grownBy w' v.ownBlock) : Pcs w' B v' (L ++ [x]) := by
  have hr : ∀ k, v.ownBlock = some k → ∃ cs, Blk w k 22 cs := fun k hk => (hO.block hk).2.2
  refine ⟨vs ++ [u], h', by simp [hl], fun i y hy => ?_⟩
  by_cases hi : i < L.length
  · rw [List.getElem?_append_left hi] at hy
    obtain ⟨z, hz, hzr⟩ := he i y hy
    exact ⟨z, by rw [List.getElem?_append_left (by omega)]; exact hz, hzr.grown hg hr⟩
  · rw [List.getElem?_append_right (by omega)] at hy
    have h0 : i - L.length = 0 := by
      rcases Nat.eq_zero_or_pos (i - L.length) with h0 | h0
      · exact h0
      · rw [List.getElem?_eq_none (by simp; omega)] at hy; cases hy
    rw [h0] at hy
    simp only [List.getElem?_cons_zero, Option.some.injEq] at hy
    subst hy
    exact ⟨u, by rw [List.getElem?_append_right (by omega), show i - vs.length = 0 from by omega]; rfl, hu.grown hg hr⟩

end Go.Proofs.YtijhaeapoapgfaaGreatDoor

set_option linter.unusedVariables false
set_option linter.unusedSimpArgs false
namespace Go.Proofs.YtijhaeapoapgfaaGreatDoor
open Go.RowKit
attribute [local go_sem ↓] Go.wp_at_zero Go.wp_at_succ

set_option maxRecDepth 100000 in
theorem bcount_calls {w : World} (len size : Nat) (hl : len ≤ 512) (h1 : 1 ≤ size) (h2 : size ≤ 16) :
    Calls Tryz.prog 69 #[.int .i64 len, .int .i64 size] w fun e w' => e = .returned (.int .i64 (bcount len size)) ∧ w = w' := by
  by_cases h0 : len = 0
  · subst h0
    go_enter Tryz.func69, Tryz.ntmps69
    go_wp2_with fail
    go_ret
    exact ⟨rfl, rfl⟩
  · have hE : bcount len size = if (len + size - 1) / size ≤ 64 then (len + size - 1) / size else 0 := by unfold bcount; rw [if_neg h0]
    have hq : ((len : Int) + (size : Int) - 1) / (size : Int) = (((len + size - 1) / size : Nat) : Int) := by
      rw [show (len : Int) + (size : Int) - 1 = ((len + size - 1 : Nat) : Int) from by omega, Int.natCast_ediv]
    have hqb : (len + size - 1) / size ≤ len + size - 1 := Nat.div_le_self _ _
    generalize (len + size - 1) / size = q at *
    by_cases h64 : q ≤ 64
    · rw [if_pos h64] at hE
      have HE := Lib.hid hE
      clear hE
      go_enter Tryz.func69, Tryz.ntmps69
      go_wp2_with fail
      go_ret
      exact ⟨by rw [HE.out, ← hq]; rfl, rfl⟩
    · rw [if_neg h64] at hE
      have HE := Lib.hid hE
      clear hE
      go_enter Tryz.func69, Tryz.ntmps69
      go_wp2_with fail
      go_ret
      exact ⟨by rw [HE.out]; rfl, rfl⟩

def PcsPost (w : World) (L : List (List UInt8)) (e : Ending) (w' : World) : Prop := ∃ v, e = .returned v ∧ Pcs w' w.heap.size v L ∧ Keeps [] w w'

set_option maxRecDepth 100000 in
set_option maxHeartbeats 1000000 in
theorem bsplit_calls {w : World} {vi : Value} {img : List UInt8} (hi : RdS w vi img) (K size : Nat) (hl : img.length ≤ 512) (h1 : 1 ≤ size) (h2 : size ≤ 16) (hK : bcount img.length size = K) (hK1 : 1 ≤ K) (hK2 : K ≤ 64) (hfit : img.length ≤ K * size) :
    Calls Tryz.prog 122 #[vi, .int .i64 size] w (PcsPost w (bsplit img K size K)) := by
  obtain ⟨a, c, rfl, _, _, hrd, hn0, _⟩ := hi
  have hC := bcount_calls (w := w) img.length size hl h1 h2
  rw [hK] at hC
  have hn : (K : Int) * (size : Int) = ((K * size : Nat) : Int) := by simp
  have hnb : K * size ≤ 64 * 16 := Nat.mul_le_mul hK2 h2
  have hn1 : 1 ≤ K * size := Nat.mul_pos (by omega) (by omega)
  have hmx : max (size : Int) 0 = size := by omega
  have hpl : ∀ i, i < K → (bpiece img K size i).length = size := fun i hi => bpiece_len hfit hi
  have hbs := bsplit_succ img K size
  have hbl := bsplit_len img K size
  have hpd : ∀ i, bpiece img K size i = ((bfull img (K * size)).drop (i * size)).take size := fun i => rfl
  have hip : ∀ i, i < K → (i + 1) * size ≤ K * size := fun i hi => Nat.mul_le_mul_right _ hi
  have hfl := bfull_len hfit
  have hfd : bfull img (K * size) = img ++ zer (K * size - img.length) := rfl
  have hb0 : bsplit img K size 0 = [] := rfl
  generalize bsplit img K size = bs at *
  generalize bpiece img K size = bp at *
  generalize bfull img (K * size) = D at *
  generalize K * size = n at *
  have hmk := fun w => make_u8 n n (Nat.le_refl _) (by omega) w
  go_enter Tryz.func122, Tryz.ntmps122
  go_wp2_with fail
  refine hC.mono ?_
  rintro e w' ⟨rfl, rfl⟩
  have hbl0 := Blk.newA w 5 (zeros n)
  obtain ⟨w1, hcp, hb1, hk1⟩ : ∃ W', (Builtin.copy_ #[22, 22] 3 #[.slice (some ⟨w.heap.size, 0, none⟩) n n, .slice a img.length c]).run Tryz.prog (w.alloc (.cells (zeros n) 5)) = .ok (.int .i64 img.length) W' ∧
      Blk W' w.heap.size 5 (D.map B8) ∧ Keeps [] w W' := by
    cases a with
    | none =>
      exfalso
      have := (hn0 rfl).1
      subst this
      have : bcount 0 size = 0 := rfl
      simp only [List.length_nil] at hK
      omega
    | some x =>
      obtain ⟨W', e1, e2, e3⟩ := copy_run (w := w.alloc (.cells (zeros n) 5)) (g := w.heap.size) (o := 0) (dLen := n) (dCap := n) (x := x) (sLen := img.length) (sCap := c) hbl0 img (by show img.length = min img.length n; omega) ((hrd.keeps ((Keeps.refl [] w).alloc _) (by simp)).news) (by simp [zeros]; omega)
      refine ⟨W', e1, ?_, ((Keeps.refl [] w).alloc _).trans' e3 (fun _ h => .inl h) (by simp)⟩
      rw [hfd, List.map_append]
      simpa [zeros, zer] using e2
  have HD := Lib.hid hb1
  have hk1' := Lib.hid hk1
  have hgl := hb1.lt
  have hP0 := Pcs.nil w1 w1.heap.size
  rw [← hb0] at hP0
  have Hbs := Lib.hid hbs
  have Hbl := Lib.hid hbl
  have Hpl := Lib.hid hpl
  have Hpd := Lib.hid hpd
  have Hip := Lib.hid hip
  have Hfl := Lib.hid hfl
  clear hb1 hk1 hb0 hbs hbl hpl hpd hip hfl hfd hbl0 hK hC hn0 hrd
  go_wp2_with fail
  go_loopw [7, 22] (fun v i wr => ∃ k : Nat, k ≤ K ∧ i = .int .i64 k ∧ Pcs wr w1.heap.size v (bs k) ∧ Keeps [] w1 wr) (fun _ i _ => K - (intOf i).toNat)
  case atStart => exact ⟨0, Nat.zero_le _, rfl, hP0, Keeps.refl _ _⟩
  case round =>
    obtain ⟨k, hk, rfl, hP, hK⟩ := hrel
    by_cases hlt : k < K
    · have hlo : (k : Int) * (size : Int) = ((k * size : Nat) : Int) := by simp
      have hhi : ((k : Int) + 1) * (size : Int) = (((k + 1) * size : Nat) : Int) := by simp
      have hpk := Hpd.out k
      have hlk := Hpl.out k hlt
      have hi2 := Hip.out k hlt
      have hst : (k + 1) * size = k * size + size := by rw [Nat.add_mul, Nat.one_mul]
      have hb := Hbs.out k
      have hbl := Hbl.out k
      have hDr := HD.out.keeps hK (by simp)
      have hrd : Rd wr (some ⟨w.heap.size, k * size, none⟩) (bp k) := by
        rw [hpk]
        have := Blk.rdSub (r := []) (l := D) (by rw [List.append_nil]; exact hDr) (k * size) size
        exact this
      generalize k * size = lo at *
      generalize (k + 1) * size = hi at *
      have hsz := hK.size
      have hC := fun c => clone_calls (w := wr) (some ⟨w.heap.size, lo, none⟩) size c (bp k) hrd hlk (by omega) (by simp)
      obtain ⟨vs, hO, hvl, hve⟩ := hP
      have i1 : (lo : Int) ≤ (hi : Int) := by omega
      have i2 : (hi : Int) ≤ (n : Int) := by omega
      have HC := Lib.hid hC
      have HO := Lib.hid hO
      have Hve := Lib.hid hve
      have Hb := Lib.hid hb
      have HKr := Lib.hid hK
      have e3 : hi - lo = size := by omega
      clear hrd hDr hC hO hve hb hpk hK
      go_wp2_with fail
      refine (HC.out (n - lo)).mono ?_
      rintro e w2 ⟨v2, rfl, hO2, k2⟩
      obtain ⟨a2, c2, rfl, r1, r2, r3, r4, r5⟩ := hO2.rds
      rw [hlk] at r1 ⊢
      have kB : Keeps [] w2 (w2.alloc (.cells #[.slice a2 size c2] 22)) := (Keeps.refl [] w2).alloc _
      have HU := Lib.hid (show RdS (w2.alloc (.cells #[.slice a2 size c2] 22)) (.slice a2 size c2) (bp k) from (show RdS w2 (.slice a2 size c2) (bp k) from ⟨a2, c2, by rw [hlk], by omega, r2, r3, r4, r5⟩).keepsNil kB)
      have HOw := Lib.hid (HO.out.keeps (k2.trans kB) (by simp))
      have Hve2 := Lib.hid (fun (i : Nat) (x : List UInt8) (hx : (bs k)[i]? = some x) => by obtain ⟨u, hu, hr⟩ := Hve.out i x hx; exact (⟨u, hu, hr.keepsNil (k2.trans kB)⟩ : ∃ u, vs[i]? = some u ∧ RdS (w2.alloc (.cells #[.slice a2 size c2] 22)) u x))
      have HX := Lib.hid (show (w2.alloc (.cells #[.slice a2 size c2] 22)).cell? ⟨w2.heap.size, 0, none⟩ = some (.slice a2 size c2) from (Blk.newA w2 22 #[.slice a2 size c2]).cell' rfl)
      have hs2 := k2.size
      have hB : w1.heap.size ≤ (w2.alloc (.cells #[.slice a2 size c2] 22)).heap.size := by simp; omega
      have hvl6 : vs.length ≤ 1000000 := by omega
      have HK2 := Lib.hid ((HKr.out.trans k2).trans kB)
      clear r3 r4 r5 hO2 kB k2
      go_wp2_with (at_builtin; (refine wpList_append_bs rfl (.tmp 25) (.tmp 36) rfl HOw.out rfl (.slice a2 size c2) rfl _ 0 1 rfl HX.out hvl6 hB ?_); intro v3 w3 g1 g2 g3)
      go_roundw
      case rel =>
        refine ⟨k + 1, by omega, by go_num, ?_, HK2.out.grown g2 (fun x hx => .inr (HOw.out.block hx).1)⟩
        rw [Hb.out]
        exact Pcs.snoc HOw.out hvl Hve2.out HU.out g1 g2
      case measure => simp [intOf]; omega
    · obtain rfl : k = K := by omega
      have HP := Lib.hid hP
      have HKr := Lib.hid hK
      have hsz := hk1'.out.size
      clear hP hK
      go_wp2_with fail
      go_ret
      exact ⟨_, rfl, HP.out.mono hsz, hk1'.out.trans HKr.out⟩

end Go.Proofs.YtijhaeapoapgfaaGreatDoor

set_option linter.unusedVariables false
set_option linter.unusedSimpArgs false
namespace Go.Proofs.YtijhaeapoapgfaaGreatDoor
open Go.RowKit
attribute [local go_sem ↓] Go.wp_at_zero Go.wp_at_succ

theorem xor_byte (a b : UInt8) : bits .xor .u8 (a.toNat : Int) (b.toNat : Int) = ((a ^^^ b).toNat : Int) := by
  rw [u8_xor_nat _ _ a.toNat_lt b.toNat_lt, UInt8.toNat_xor]
theorem map_set8 (l : List UInt8) (i : Nat) (x : UInt8) : (l.map B8).set i (B8 x) = (l.set i x).map B8 := by rw [List.map_set]

/-- Bytes in a block of their own. -/
def BNew (w : World) (l : List UInt8) (e : Ending) (w' : World) : Prop := ∃ g, e = .returned (.slice (some ⟨g, 0, none⟩) l.length l.length) ∧ w.heap.size ≤ g ∧ Blk w' g 5 (l.map B8) ∧ Keeps [] w w'

set_option maxRecDepth 100000 in
set_option maxHeartbeats 2000000 in
theorem bsum_calls {w : World} {v : Value} {L : List (List UInt8)} (hv : RdL w v L) (size : Nat) (hsz : size ≤ 16) (hs1 : 1 ≤ size) (hL : ∀ x ∈ L, x.length = size) (hL1 : 1 ≤ L.length) (hL2 : L.length ≤ 1000000) :
    Calls Tryz.prog 75 #[v] w (BNew w (bsum size L)) := by
  obtain ⟨a, c, rfl, _, _, hrd, _⟩ := hv
  have hmk := fun w => make_u8 size size (Nat.le_refl _) (by omega) w
  have Hrd := Lib.hid hrd
  have HL := Lib.hid hL
  clear hrd hL
  go_enter Tryz.func75, Tryz.ntmps75
  go_wp2_with fail
  go_loopw [3, 10] (fun o i wr => ∃ k : Nat, k ≤ L.length ∧ i = .int .i64 k ∧ (if k = 0 then o = .slice none 0 0 else ∃ g, o = .slice (some ⟨g, 0, none⟩) size size ∧ w.heap.size ≤ g ∧ Blk wr g 5 ((bsum size (L.take k)).map B8)) ∧ Keeps [] w wr) (fun _ i _ => L.length - (intOf i).toNat)
  case atStart => exact ⟨0, Nat.zero_le _, rfl, rfl, Keeps.refl _ _⟩
  case round =>
    obtain ⟨k, hk, rfl, ho, hK⟩ := hrel
    by_cases hlt : k < L.length
    · obtain ⟨g0, u, rfl, hc0, hru⟩ := Hrd.out k L[k] (List.getElem?_eq_getElem hlt)
      have hbl := HL.out L[k] (List.getElem_mem hlt)
      have hcr := hK.cell0 hc0
      have hsn : bsum size (L.take (k + 1)) = xorL (bsum size (L.take k)) L[k] := by rw [List.take_add_one, List.getElem?_eq_getElem hlt]; exact bsum_snoc _ _ _
      have hAl : (bsum size (L.take k)).length = size := bsum_len (zer_len _) (fun x hx => HL.out x (List.mem_of_mem_take hx))
      have hA0 : k = 0 → bsum size (L.take k) = zer size := fun h => by subst h; rfl
      generalize L[k] = b at *
      generalize hA : bsum size (L.take k) = A at *
      obtain ⟨ab, cb, rfl, b1, b2, b3, _, _⟩ := hru
      rw [hbl] at b1 hcr
      have HRd := Lib.hid b3
      have Hsn := Lib.hid hsn
      have HA := Lib.hid hAl
      have hkn : (k : Int) < (L.length : Int) := by omega
      clear hc0 b3 hsn hA
      by_cases hk0 : k = 0
      · rw [if_pos hk0] at ho
        subst ho
        have hAz := hA0 hk0
        clear hA0
        have HG := Lib.hid (show Blk (wr.alloc (.cells (zeros size) 5)) wr.heap.size 5 ((xorTo A b 0).map B8) from by
          have := Blk.newA wr 5 (zeros size)
          rw [xorTo_zero, hAz]
          simpa [zeros, zer] using this)
        have HKK := Lib.hid (hK.alloc (.cells (zeros size) 5))
        have HGb := Lib.hid hK.size
        clear hK hAz
        obtain ⟨wg, hwg⟩ : ∃ wg, wg = wr.heap.size := ⟨_, rfl⟩
        rw [← hwg] at HG HGb
        subst hk0
        go_wp2_with fail
        rw [← hwg]
        generalize wr.alloc (.cells (zeros size) 5) = wr1 at *
        clear hwg
        go_loopw [27] (fun i wx => ∃ j : Nat, j ≤ size ∧ i = .int .i64 j ∧ Blk wx wg 5 ((xorTo A b j).map B8) ∧ Keeps [] w wx) (fun i _ => size - (intOf i).toNat)
        case atStart => exact ⟨0, Nat.zero_le _, rfl, HG.out, HKK.out⟩
        case round =>
          clear HG HKK
          obtain ⟨j, hj, rfl, hG, hKj⟩ := hrel
          by_cases hjl : j < size
          · obtain ⟨bb, oo, rfl, cb⟩ := (HRd.out.keepsNil hKj) j (b.getD j 0) (by rw [List.getD_eq_getElem?_getD, List.getElem?_eq_getElem (by omega)]; rfl)
            have hgt := xorTo_getD (a := A) (b := b) (by omega) (k := j) (by omega)
            have hset := xorTo_set (a := A) (b := b) (by omega) (k := j) (by omega)
            rw [hgt] at hset
            have cg : wr.cell? ⟨wg, j, none⟩ = some (B8 (A.getD j 0)) := hG.cell' (by
              rw [List.getElem?_map, List.getElem?_eq_getElem (by rw [xorTo_len (by omega)]; omega)]
              rw [List.getD_eq_getElem?_getD, List.getElem?_eq_getElem (by rw [xorTo_len (by omega)]; omega)] at hgt
              rw [← hgt]; rfl)
            have fr := hG.frozen j
            have hS := hG.set j (B8 (A.getD j 0 ^^^ b.getD j 0))
            rw [map_set8, hset] at hS
            have hx8 := xor_byte (A.getD j 0) (b.getD j 0)
            have HS := Lib.hid hS
            have HKj := Lib.hid (hKj.setCell (p := ⟨wg, j, none⟩) (.inr HGb.out) (B8 (A.getD j 0 ^^^ b.getD j 0)))
            have hji : (j : Int) < (size : Int) := by omega
            clear hgt hset hS hG hKj
            generalize A.getD j 0 = x at *
            generalize b.getD j 0 = y at *
            go_wp2_with fail
            go_roundw
            case rel => exact ⟨j + 1, by omega, by go_num, HS.out, HKj.out⟩
            case measure => simp [intOf]; omega
          · obtain rfl : j = size := by omega
            rw [show xorTo A b j = xorL A b from by have := xorTo_all (a := A) (b := b) (by omega); rwa [HA.out] at this] at hG
            have HG := Lib.hid hG
            have HKj := Lib.hid hKj
            clear hG hKj
            go_wp2_with fail
            go_roundw
            case rel => exact ⟨0 + 1, by omega, by go_num, by rw [if_neg (by omega)]; exact ⟨wg, rfl, HGb.out, by rw [Hsn.out]; exact HG.out⟩, HKj.out⟩
            case measure => simp [intOf]; omega
      · rw [if_neg hk0] at ho
        obtain ⟨wg, rfl, hgb, hGb⟩ := ho
        have HG := Lib.hid (show Blk wr wg 5 ((xorTo A b 0).map B8) from by rw [xorTo_zero]; exact hGb)
        have HKK := Lib.hid hK
        have HGb := Lib.hid hgb
        have hkz : ¬ (k : Int) = 0 := by omega
        clear hK hGb hA0 hgb
        go_wp2_with fail
        go_loopw [27] (fun i wx => ∃ j : Nat, j ≤ size ∧ i = .int .i64 j ∧ Blk wx wg 5 ((xorTo A b j).map B8) ∧ Keeps [] w wx) (fun i _ => size - (intOf i).toNat)
        case atStart => exact ⟨0, Nat.zero_le _, rfl, HG.out, HKK.out⟩
        case round =>
          clear HG HKK
          obtain ⟨j, hj, rfl, hG, hKj⟩ := hrel
          by_cases hjl : j < size
          · obtain ⟨bb, oo, rfl, cb⟩ := (HRd.out.keepsNil hKj) j (b.getD j 0) (by rw [List.getD_eq_getElem?_getD, List.getElem?_eq_getElem (by omega)]; rfl)
            have hgt := xorTo_getD (a := A) (b := b) (by omega) (k := j) (by omega)
            have hset := xorTo_set (a := A) (b := b) (by omega) (k := j) (by omega)
            rw [hgt] at hset
            have cg : wr.cell? ⟨wg, j, none⟩ = some (B8 (A.getD j 0)) := hG.cell' (by
              rw [List.getElem?_map, List.getElem?_eq_getElem (by rw [xorTo_len (by omega)]; omega)]
              rw [List.getD_eq_getElem?_getD, List.getElem?_eq_getElem (by rw [xorTo_len (by omega)]; omega)] at hgt
              rw [← hgt]; rfl)
            have fr := hG.frozen j
            have hS := hG.set j (B8 (A.getD j 0 ^^^ b.getD j 0))
            rw [map_set8, hset] at hS
            have hx8 := xor_byte (A.getD j 0) (b.getD j 0)
            have HS := Lib.hid hS
            have HKj := Lib.hid (hKj.setCell (p := ⟨wg, j, none⟩) (.inr HGb.out) (B8 (A.getD j 0 ^^^ b.getD j 0)))
            have hji : (j : Int) < (size : Int) := by omega
            clear hgt hset hS hG hKj
            generalize A.getD j 0 = x at *
            generalize b.getD j 0 = y at *
            go_wp2_with fail
            go_roundw
            case rel => exact ⟨j + 1, by omega, by go_num, HS.out, HKj.out⟩
            case measure => simp [intOf]; omega
          · obtain rfl : j = size := by omega
            rw [show xorTo A b j = xorL A b from by have := xorTo_all (a := A) (b := b) (by omega); rwa [HA.out] at this] at hG
            have HG := Lib.hid hG
            have HKj := Lib.hid hKj
            clear hG hKj
            go_wp2_with fail
            go_roundw
            case rel => exact ⟨k + 1, by omega, by go_num, by rw [if_neg (by omega)]; exact ⟨wg, rfl, HGb.out, by rw [Hsn.out]; exact HG.out⟩, HKj.out⟩
            case measure => simp [intOf]; omega
    · obtain rfl : k = L.length := by omega
      rw [if_neg (by omega), List.take_length] at ho
      obtain ⟨g, rfl, hg, hG⟩ := ho
      have hlen : (bsum size L).length = size := bsum_len (zer_len _) HL.out
      have HK := Lib.hid hK
      have HG := Lib.hid hG
      have Hlen := Lib.hid hlen
      clear hK hG hlen
      go_wp2_with fail
      go_ret
      exact ⟨g, by rw [Hlen.out]; rfl, hg, HG.out, HK.out⟩

end Go.Proofs.YtijhaeapoapgfaaGreatDoor

set_option linter.unusedVariables false
set_option linter.unusedSimpArgs false
namespace Go.Proofs.YtijhaeapoapgfaaGreatDoor
open Go.RowKit
attribute [local go_sem ↓] Go.wp_at_zero Go.wp_at_succ

set_option maxRecDepth 100000 in
theorem root_calls {w : World} (n : Nat) (h1 : 1 ≤ n) (h2 : n ≤ 80) : Calls Tryz.prog 222 #[.int .i64 n] w fun e w' => e = .returned (.int .i64 (rootN n)) ∧ w = w' := by
  go_enter Tryz.func222, Tryz.ntmps222
  go_wp2_with fail
  rw [show min (n : Int) 4294967295 = n from by omega]
  go_loopw [3, 4] (fun a b wr => ∃ lo hi : Nat, a = .int .i64 lo ∧ b = .int .i64 hi ∧ 1 ≤ lo ∧ lo ≤ hi ∧ hi ≤ n ∧ lo * lo ≤ n ∧ n < (hi + 1) * (hi + 1) ∧ wr = w) (fun a b _ => (intOf b).toNat - (intOf a).toNat)
  case atStart => exact ⟨1, n, rfl, rfl, Nat.le_refl _, h1, Nat.le_refl _, h1, by rw [Nat.add_mul]; omega, rfl⟩
  case round =>
    obtain ⟨lo, hi, rfl, rfl, hl1, hlh, hhn, hsq, htop, rfl⟩ := hrel
    by_cases hlt : lo < hi
    · have hm : ∃ m : Nat, (hi : Int) - ((hi : Int) - (lo : Int)) / 2 = m ∧ lo < m ∧ m ≤ hi := ⟨hi - (hi - lo) / 2, by omega, by omega, by omega⟩
      obtain ⟨m, hm, hm1, hm2⟩ := hm
      have hqd := Nat.le_div_iff_mul_le (x := m) (y := n) (show 0 < m by omega)
      have hq : (n : Int) / (m : Int) = ((n / m : Nat) : Int) := by simp
      have hqb : n / m ≤ n := Nat.div_le_self _ _
      generalize n / m = q at *
      have Htop := Lib.hid htop
      have Hsq := Lib.hid hsq
      clear htop hsq
      by_cases hmq : m ≤ q
      · have hm2q := Lib.hid (hqd.1 hmq)
        clear hqd
        go_wp2_with fail
        go_roundw
        case rel => exact ⟨m, hi, rfl, rfl, by omega, by omega, by omega, hm2q.out, Htop.out, trivial⟩
        case measure => simp [intOf]; omega
      · have hm2q := Lib.hid (show ¬ m * m ≤ n from fun h => hmq (hqd.2 h))
        clear hqd
        go_wp2_with fail
        go_roundw
        case rel => exact ⟨lo, m - 1, rfl, by congr 1; omega, by omega, by omega, by omega, Hsq.out, by rw [show m - 1 + 1 = m from by omega]; have := hm2q.out; omega, trivial⟩
        case measure => simp [intOf]; omega
    · obtain rfl : hi = lo := by omega
      have HR := Lib.hid (rootN_uniq hsq htop)
      clear hsq htop
      go_wp2_with fail
      go_ret
      exact ⟨by rw [HR.out]; rfl, rfl⟩

set_option maxRecDepth 100000 in
set_option maxHeartbeats 1000000 in
theorem weight_calls {w : World} {p n : Nat} {t : Int} {s : Int} {v : Value} (c0 : w.cell? ⟨p, 0, none⟩ = some (.int .i64 n)) (h1 : 1 ≤ n) (h2 : n ≤ 80) (d : Nat) (hd1 : 1 ≤ d) (hd2 : d ≤ n) :
    Calls Tryz.prog 207 #[.pointer (some ⟨p, 0, none⟩), .int .i64 d] w fun e w' => e = .returned (.int .u32 (wgt n d)) ∧ w = w' := by
  have hr := root_calls (w := w) n h1 h2
  have hr1 := rootN_pos h1
  have hr2 := rootN_le n
  have hw : wgt n d = if d < n / rootN n then wbase n d + 262144 * rootN n / (d * n) else if d = n / rootN n then wbase n d + 524288 * rootN n / n else wbase n d := rfl
  have hs := share_le (n := n) hd1
  have hp := spike_le n
  have hbv : (1 < d → wbase n d = 1048576 / (d * (d - 1))) ∧ (¬ 1 < d → wbase n d = 1048576 / n) := by unfold wbase; constructor <;> intro h <;> simp [h]
  have hbl := wbase_le n d
  generalize wbase n d = wb at *
  generalize rootN n = r at *
  go_enter Tryz.func207, Tryz.ntmps207
  go_wp2_with fail
  refine hr.mono ?_
  rintro e w' ⟨rfl, rfl⟩
  have htop : (n : Int) / (r : Int) = ((n / r : Nat) : Int) := by simp
  have htb : n / r ≤ n := Nat.div_le_self _ _
  generalize n / r = top at *
  have Hw := Lib.hid hw
  clear hw
  have hdn : (d : Int) * (n : Int) = ((d * n : Nat) : Int) := by simp
  have hdn1 : 1 ≤ d * n := Nat.mul_pos (by omega) (by omega)
  have hdn2 : d * n ≤ 6400 := Nat.mul_le_mul (show d ≤ 80 by omega) h2
  have hsv : 262144 * (r : Int) / ((d * n : Nat) : Int) = ((262144 * r / (d * n) : Nat) : Int) := by simp
  have hpv : 524288 * (r : Int) / (n : Int) = ((524288 * r / n : Nat) : Int) := by simp
  have hz : (1048576 : Int) / (n : Int) = ((1048576 / n : Nat) : Int) := by simp
  have hzb : 1048576 / n ≤ 1048576 := Nat.div_le_self _ _
  generalize 262144 * r / (d * n) = sh at *
  generalize 524288 * r / n = sp at *
  generalize d * n = dn at *
  by_cases hd : 1 < d
  · obtain ⟨hb1, _⟩ := hbv
    have hb := hb1 hd
    have hdd : (d : Int) * ((d : Int) - 1) = ((d * (d - 1) : Nat) : Int) := by rw [Int.natCast_mul]; congr 1; omega
    have hdd1 : 1 ≤ d * (d - 1) := Nat.mul_pos (by omega) (by omega)
    have hdd2 : d * (d - 1) ≤ 6400 := Nat.mul_le_mul (show d ≤ 80 by omega) (show d - 1 ≤ 80 by omega)
    have hbz : (1048576 : Int) / ((d * (d - 1) : Nat) : Int) = (wb : Int) := by rw [hb]; simp
    generalize d * (d - 1) = dd at *
    clear hb hb1
    by_cases ht : d < top
    · go_wp2_with fail
      go_ret
      exact ⟨by rw [Hw.out, if_pos ht, Int.natCast_add]; rfl, rfl⟩
    · by_cases ht2 : d = top
      · subst ht2
        go_wp2_with fail
        go_ret
        exact ⟨by rw [Hw.out, if_neg ht, if_pos trivial, Int.natCast_add]; rfl, rfl⟩
      · have hne : ¬ ((d : Int) = (top : Int)) := by omega
        go_wp2_with fail
        go_ret
        exact ⟨by rw [Hw.out, if_neg ht, if_neg ht2]; rfl, rfl⟩
  · have hb := hbv.2 hd
    rw [← hb] at hz
    clear hbv hb hzb
    by_cases ht : d < top
    · go_wp2_with fail
      go_ret
      exact ⟨by rw [Hw.out, if_pos ht, Int.natCast_add]; rfl, rfl⟩
    · by_cases ht2 : d = top
      · subst ht2
        go_wp2_with fail
        go_ret
        exact ⟨by rw [Hw.out, if_neg ht, if_pos trivial, Int.natCast_add]; rfl, rfl⟩
      · have hne : ¬ ((d : Int) = (top : Int)) := by omega
        go_wp2_with fail
        go_ret
        exact ⟨by rw [Hw.out, if_neg ht, if_neg ht2]; rfl, rfl⟩

end Go.Proofs.YtijhaeapoapgfaaGreatDoor
