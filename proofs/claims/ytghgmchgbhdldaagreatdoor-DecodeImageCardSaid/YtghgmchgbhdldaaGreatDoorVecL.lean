/-
  VecL: slices of numbers that a call appends to; List, Of of package vec, walked.
-/
import Derived.Test.YtghgmchgbhdldaaGreatDoorVec
import Derived.Maps.AppendAt
import Derived.Deep.RegionHeld3
import Derived.Deep.DrawnRows
import Derived.StillTailTactics
set_option linter.unusedVariables false
set_option linter.unusedSimpArgs false
namespace Go.Proofs.YtghgmchgbhdldaaGreatDoor
open Go.RowKit
attribute [local go_sem ↓] Go.wp_at_zero Go.wp_at_succ

/-- A slice of numbers that the call has made, in a block from B on (or it is nil and there are none). -/
def OwnI (w : World) (B : Nat) (v : Value) (l : List Nat) : Prop := w.ownsRow B 3 1 v l.length (l.map I64)

theorem OwnI.nil (w : World) (B : Nat) : OwnI w B (.slice none 0 0) [] := ⟨rfl, .inl ⟨rfl, rfl⟩⟩

theorem OwnI.ints {w : World} {B : Nat} {v : Value} {l : List Nat} (h : OwnI w B v l) : IsInts w B v l := by
  rcases h.2 with ⟨rfl, h0⟩ | ⟨g, cap, cur, rfl, hb, hg, hn, hm, hs, ht⟩
  · have : l = [] := List.length_eq_zero_iff.1 h0
    subst this
    exact IsInts.nil _ _
  · have hbk : Blk w g 3 (l.map I64 ++ cur.toList.drop l.length) := by
      unfold Blk
      rw [hg, ← ht, Nat.mul_one, List.take_append_drop]
    refine ⟨some ⟨g, 0, none⟩, cap, rfl, hn, hm, fun i hi => ⟨g, rfl, hb, ?_⟩⟩
    refine hbk.cell' ?_
    rw [List.getElem?_append_left (by simpa using hi), List.getElem?_map, List.getD_eq_getElem?_getD, List.getElem?_eq_getElem hi]
    rfl

theorem append_runI {w : World} {B : Nat} {v : Value} {l : List Nat} (h : OwnI w B v l) (x b o c : Nat) (hx : w.cell? ⟨b, o, none⟩ = some (I64 x))
    (hlen : l.length ≤ 1000000) (hB : B ≤ w.heap.size) (t : TypeId) :
    ∃ v' w', (Builtin.append_ #[86, 86] t #[v, .slice (some ⟨b, o, none⟩) 1 c]).run Tryz.prog w = .ok v' w' ∧ OwnI w' B v' (l ++ [x]) ∧ w.grownBy w' v.ownBlock ∧ (∀ x, v'.ownBlock = some x → v.ownBlock = some x ∨ w.heap.size ≤ x) := by
  obtain ⟨i0, hi, hz0, hz1, hz2⟩ := info_parts Tryz.info_int
  obtain ⟨v', w', hr, h2, h3, h4, h5⟩ := run_append_own_at (P := Tryz.prog) w B 86 t 3 i0 (.int .i64 0) 1 8 Tryz.underlying86 hi hz0 hz1 hz2 rfl (by decide) v l.length (l.map I64) h ⟨b, o, none⟩ 1 c [I64 x]
    (by simp) (fun j u hu => by
      obtain rfl : j = 0 := by
        rcases j with _ | j
        · rfl
        · simp at hu
      simp only [List.getElem?_cons_zero, Option.some.injEq] at hu
      subst hu
      rw [Addr.add_lit]
      exact hx) (by intro u hu; simp only [List.mem_singleton] at hu; subst hu; rfl) (by unfold maxLen; omega) (by omega) hB
  refine ⟨v', w', hr, ?_, h3, fun y hy => ?_⟩
  · unfold OwnI
    rw [List.length_append, List.map_append]
    exact h2
  · rcases h5 with h5 | h5
    · exact .inl (h5 ▸ hy)
    · rw [h5] at hy; simp at hy; exact .inr (by omega)

theorem wpList_append_int {w : World} {ops : Array Oper} {rest : List Oper} {o : Oper} {act : Act} {Q : Exit → Act → World → Prop} (hgd : o.guard = none) (s x : Operand)
    (ho : o.op = .call { callee := .builtin .append, args := #[s, x], argTypes := #[86, 86] })
    {B : Nat} {v : Value} {l : List Nat} (h : OwnI w B v l) (hs : act.eval s = v) (y b k c : Nat) (hx : act.eval x = .slice (some ⟨b, k, none⟩) 1 c) (hm : w.cell? ⟨b, k, none⟩ = some (I64 y))
    (hlen : l.length ≤ 1000000) (hB : B ≤ w.heap.size)
    (hK : ∀ v' w', OwnI w' B v' (l ++ [y]) → w.grownBy w' v.ownBlock → (∀ x, v'.ownBlock = some x → v.ownBlock = some x ∨ w.heap.size ≤ x) → wpList Tryz.prog ops Q rest (act.put o.dst v') w') : wpList Tryz.prog ops Q (o :: rest) act w := by
  refine wpList_plain hgd fun K hK' => ?_
  obtain ⟨v', w', hrun, h1, h2, h3⟩ := append_runI h y b k c hm hlen hB o.type
  unfold Oper.wp
  simp [execOp, ho, resolve, invoke, builtin, hs, hx, hrun, Result.andThen]
  exact hK' _ _ (hK v' w' h1 h2 h3)

theorem OwnI.keeps {S : List Nat} {w w' : World} {B : Nat} {v : Value} {l : List Nat} (h : OwnI w B v l) (k : Keeps S w w') (hS : ∀ x, x ∈ S → x < B) : OwnI w' B v l := by
  refine ⟨h.1, ?_⟩
  rcases h.2 with ⟨rfl, h0⟩ | ⟨g, cap, cur, rfl, hb, hg, hn, hm, hs, ht⟩
  · exact .inl ⟨rfl, h0⟩
  · exact .inr ⟨g, cap, cur, rfl, hb, (k.block g (Array.getElem?_eq_some_iff.1 hg).1 (fun hm => by have := hS g hm; omega)).trans hg, hn, hm, hs, ht⟩
theorem OwnI.block {w : World} {B x : Nat} {v : Value} {l : List Nat} (h : OwnI w B v l) (hx : v.ownBlock = some x) : B ≤ x ∧ x < w.heap.size := by
  rcases h.2 with ⟨rfl, h0⟩ | ⟨g, cap, cur, rfl, hb, hg, hn, hm, hs, ht⟩
  · simp [Value.ownBlock] at hx
  · simp [Value.ownBlock] at hx
    subst hx
    exact ⟨hb, (Array.getElem?_eq_some_iff.1 hg).1⟩

/-- A list of numbers, in new memory. -/
def ListPost (w : World) (l : List Nat) (e : Ending) (w' : World) : Prop := ∃ v, e = .returned v ∧ OwnI w' w.heap.size v l ∧ Keeps [] w w'

set_option maxRecDepth 100000 in
set_option maxHeartbeats 1000000 in
theorem vlist_calls {w : World} {p g n X : Nat} (h : VecAt w p g n X) :
    Calls Tryz.prog 37 #[.pointer (some ⟨p, 0, none⟩)] w (ListPost w (bitsOf n X)) := by
  have hn := h.le
  have hpl := h.b.lt
  have hgl := h.r.lt
  have hB0 := OwnI.nil w w.heap.size
  go_enter Tryz.func37, Tryz.ntmps37
  go_wp2_with fail
  refine (vlen_calls h).mono ?_
  rintro e w' ⟨rfl, rfl⟩
  go_wp2_with fail
  go_loopw [3, 7] (fun v i wr => ∃ k : Nat, k ≤ n ∧ i = .int .i64 k ∧ OwnI wr w.heap.size v (bitsOf k X) ∧ Keeps [] w wr) (fun _ i _ => n - (intOf i).toNat)
  case atStart => exact ⟨0, Nat.zero_le _, rfl, hB0, Keeps.refl _ _⟩
  case round =>
    obtain ⟨k, hk, rfl, hO, hK⟩ := hrel
    by_cases hlt : k < n
    · have hV := h.keeps hK (by simp) (by simp)
      have hH := vhas_calls hV (k : Int)
      have hlen : (bitsOf k X).length ≤ k := by unfold bitsOf; exact Nat.le_trans (List.length_filter_le _ _) (by simp)
      have hsz := hK.size
      rw [decide_eq_true (show 0 ≤ (k : Int) ∧ (k : Int) < n by omega), Bool.true_and, Int.toNat_natCast] at hH
      have hs := bitsOf_succ k X
      have hd : decide (k < n) = true := decide_eq_true hlt
      cases hb : X.testBit k
      · rw [hb] at hH hs
        simp only [Bool.false_eq_true, if_false, List.append_nil] at hs
        have Hs := Lib.hid hs
        have HO := Lib.hid hO
        have HK := Lib.hid hK
        clear hs hO hK hb
        go_wp2_with fail
        refine hH.mono ?_
        rintro e w' ⟨rfl, rfl⟩
        go_wp2_with fail
        go_roundw
        case rel => exact ⟨k + 1, by omega, by go_num, by rw [Hs.out]; exact HO.out, HK.out⟩
        case measure => simp [intOf]; omega
      · rw [hb] at hH hs
        simp only [if_true] at hs
        have Hs := Lib.hid hs
        have HO := Lib.hid (hO.keeps ((Keeps.refl [] wr).alloc (.cells #[.int .i64 (k : Int)] 3)) (by simp))
        have HK := Lib.hid hK
        have hX : (wr.alloc (.cells #[.int .i64 (k : Int)] 3)).cell? ⟨wr.heap.size, 0, none⟩ = some (I64 k) := (Blk.newA wr 3 #[.int .i64 (k : Int)]).cell' rfl
        have hB : w.heap.size ≤ (wr.alloc (.cells #[.int .i64 (k : Int)] 3)).heap.size := by simp; omega
        have HX := Lib.hid hX
        generalize bitsOf k X = L at *
        clear hs hO hK hb hX
        go_wp2_with fail
        refine hH.mono ?_
        rintro e w' ⟨rfl, rfl⟩
        go_wp2_with (at_builtin; (refine wpList_append_int rfl (.tmp 13) (.tmp 15) rfl HO.out rfl k _ 0 1 rfl HX.out (by omega) hB ?_); intro v2 w2 h1 h2 h3)
        go_roundw
        case rel =>
          refine ⟨k + 1, by omega, by go_num, by rw [Hs.out]; exact h1, (HK.out.alloc _).grown h2 (fun x hx => .inr ?_)⟩
          exact (HO.out.block hx).1
        case measure => simp [intOf]; omega
    · obtain rfl : n = k := by omega
      go_wp2_with fail
      go_ret
      exact ⟨_, rfl, hO, hK⟩

theorem putL_snoc (n X : Nat) (l : List Nat) (i : Nat) : putL n X (l ++ [i]) = if i < n then putB (putL n X l) i true else putL n X l := by
  unfold putL
  rw [List.foldl_append]
  rfl

theorem IsInts.keepsNil {w w' : World} {B : Nat} {v : Value} {l : List Nat} (h : IsInts w B v l) (k : Keeps [] w w') : IsInts w' B v l := h.keeps k (by simp)

set_option maxRecDepth 100000 in
set_option maxHeartbeats 1000000 in
theorem vof_calls {w : World} {B : Nat} {v : Value} {l : List Nat} (hl : IsInts w B v l) (n : Nat) (hn : n ≤ 256) (hlen : l.length ≤ 1000000) :
    Calls Tryz.prog 39 #[.int .i64 n, v] w (VecNew w n (putL n 0 l)) := by
  obtain ⟨a, c, rfl, hc1, hc2, hcell⟩ := hl
  go_enter Tryz.func39, Tryz.ntmps39
  go_wp2_with fail
  refine (vnew_calls n hn).mono ?_
  rintro e w1 ⟨p, g, rfl, hp, hg, hV, hK1⟩
  have hpg := hV.ne
  have hcells : ∀ i, i < l.length → ∃ g0, a = some ⟨g0, 0, none⟩ ∧ w.cell? ⟨g0, i, none⟩ = some (I64 (l.getD i 0)) := fun i hi => by
    obtain ⟨g0, e, _, hc⟩ := hcell i hi
    exact ⟨g0, e, hc⟩
  have Hc := Lib.hid hcells
  clear hcell hcells
  go_wp2_with fail
  go_loopw [12] (fun i wr => ∃ k : Nat, k ≤ l.length ∧ i = .int .i64 k ∧ VecAt wr p g n (putL n 0 (l.take k)) ∧ Keeps [] w wr) (fun i _ => l.length - (intOf i).toNat)
  case atStart => exact ⟨0, Nat.zero_le _, rfl, hV, hK1⟩
  case round =>
    obtain ⟨k, hk, rfl, hV, hK⟩ := hrel
    by_cases hlt : k < l.length
    · obtain ⟨g0, rfl, hc⟩ := Hc.out k hlt
      have hcr : wr.cell? ⟨g0, k, none⟩ = some (I64 (l.getD k 0)) := (World.cell?_of_block (a := ⟨g0, k, none⟩) (hK.block g0 (World.block_lt_of_cell? w _ hc) (by simp))).trans hc
      have hs : l.take (k + 1) = l.take k ++ [l.getD k 0] := by rw [List.take_add_one, List.getElem?_eq_getElem hlt, List.getD_eq_getElem?_getD, List.getElem?_eq_getElem hlt]; rfl
      have hp := putL_snoc n 0 (l.take k) (l.getD k 0)
      rw [← hs] at hp
      generalize l.getD k 0 = x at *
      have hkl : (k : Int) < (l.length : Int) := by omega
      by_cases hx : x < n
      · rw [if_pos hx] at hp
        have hS := vset_calls hV x true hx
        have Hp := Lib.hid hp
        have HK := Lib.hid hK
        clear hs hp hK hV hc
        go_wp2_with fail
        refine hS.mono ?_
        rintro e w2 ⟨rfl, hV2, hK2⟩
        go_wp2_with fail
        go_roundw
        case rel => exact ⟨k + 1, by omega, by go_num, by rw [Hp.out]; exact hV2, HK.out.trans' hK2 (by simp) (by simp; omega)⟩
        case measure => simp [intOf]; omega
      · rw [if_neg hx] at hp
        have hS := vsetout_calls hV (x : Int) true (by omega)
        have Hp := Lib.hid hp
        have HK := Lib.hid hK
        have HV := Lib.hid hV
        clear hs hp hK hV hc
        go_wp2_with fail
        refine hS.mono ?_
        rintro e w2 ⟨rfl, rfl⟩
        go_wp2_with fail
        go_roundw
        case rel => exact ⟨k + 1, by omega, by go_num, by rw [Hp.out]; exact HV.out, HK.out⟩
        case measure => simp [intOf]; omega
    · obtain rfl : k = l.length := by omega
      rw [List.take_length] at hV
      have HV := Lib.hid hV
      have HK := Lib.hid hK
      clear hV hK
      go_wp2_with fail
      go_ret
      exact ⟨p, g, rfl, by omega, by omega, HV.out, HK.out⟩

theorem Keeps.cell0 {w w' : World} (k : Keeps [] w w') {a : Addr} {v : Value} (h : w.cell? a = some v) : w'.cell? a = some v := (World.cell?_of_block (k.block a.block (World.block_lt_of_cell? w _ h) (by simp))).trans h

end Go.Proofs.YtghgmchgbhdldaaGreatDoor
