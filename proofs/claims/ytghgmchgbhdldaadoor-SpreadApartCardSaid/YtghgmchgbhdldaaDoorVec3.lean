/-
  Vec3: slices.Equal of words; slices of numbers that a call appends to; Same, Xor, List, Of of package vec, walked.
-/
import Derived.Test.YtghgmchgbhdldaaDoorVec2
import Derived.Maps.AppendAt
import Derived.Deep.RegionHeld3
import Derived.Deep.DrawnRows
import Derived.StillTailTactics
set_option linter.unusedVariables false
set_option linter.unusedSimpArgs false
namespace Go.Proofs.YtghgmchgbhdldaaDoor
open Go.RowKit
attribute [local go_sem ↓] Go.wp_at_zero Go.wp_at_succ

/-- A slice's address reads as these words. -/
def RdU (w : World) (a : Option Addr) (l : List Nat) : Prop :=
  ∀ i u, l[i]? = some u → ∃ b o, a = some ⟨b, o, none⟩ ∧ w.cell? ⟨b, o + i, none⟩ = some (U64 u)
theorem RdU.keepsNil {w w' : World} {a : Option Addr} {l : List Nat} (h : RdU w a l) (k : Keeps [] w w') : RdU w' a l := by
  intro i u hu
  obtain ⟨b, o, rfl, hc⟩ := h i u hu
  exact ⟨b, o, rfl, (World.cell?_of_block (a := ⟨b, o + i, none⟩) (k.block b (World.block_lt_of_cell? w _ hc) (by simp))).trans hc⟩
theorem RdU.blk {w : World} {g : Nat} {t : TypeId} {l : List Nat} (h : Blk w g t (l.map U64)) : RdU w (some ⟨g, 0, none⟩) l := by
  intro i u hu
  exact ⟨g, 0, rfl, by rw [Nat.zero_add]; exact h.cell' (by rw [List.getElem?_map, hu]; rfl)⟩

def EqPost (w : World) (b : Bool) (e : Ending) (w' : World) : Prop := e = .returned (.bool b) ∧ Keeps [] w w'

set_option maxRecDepth 100000 in
set_option maxHeartbeats 1000000 in
theorem equalU_calls {w : World} (a : Option Addr) (n c : Nat) (l : List Nat) (b : Option Addr) (m d : Nat) (k : List Nat) (hl : RdU w a l) (hn : l.length = n) (hk : RdU w b k) (hm : k.length = m) (hb : n ≤ 140737488351232) :
    Calls Tryd.prog 30 #[.slice a n c, .slice b m d] w (EqPost w (decide (l = k))) := by
  subst hn hm
  by_cases hne : l.length = k.length
  · have hd : ((l.length : Int) == (k.length : Int)) = true := by rw [beq_iff_eq]; omega
    have Hne := Lib.hid hne
    clear hne
    go_enter Tryd.func30, Tryd.ntmps30
    go_wp2_with fail
    (try rw [show ((l.length : Int) != (k.length : Int)) = false from by rw [bne, hd]; rfl])
    clear hd
    go_loopw [13] (fun i wr => ∃ j : Nat, j ≤ l.length ∧ i = .int .i64 j ∧ l.take j = k.take j ∧ Keeps [] w wr) (fun i _ => l.length - (intOf i).toNat)
    case atStart => exact ⟨0, Nat.zero_le _, rfl, by simp, Keeps.refl _ _⟩
    case round =>
      obtain ⟨j, hj, rfl, hT, hK⟩ := hrel
      have hne := Hne.out
      by_cases hlt : j < l.length
      · obtain ⟨b0, o0, rfl, hc0⟩ := (hl.keepsNil hK) j l[j] (by simp [hlt])
        obtain ⟨b1, o1, rfl, hc1⟩ := (hk.keepsNil hK) j (k[j]'(by omega)) (by simp [show j < k.length by omega])
        have hs1 : l.take (j + 1) = l.take j ++ [l[j]] := by rw [List.take_add_one, List.getElem?_eq_getElem hlt]; rfl
        have hs2 : k.take (j + 1) = k.take j ++ [k[j]'(by omega)] := by rw [List.take_add_one, List.getElem?_eq_getElem (show j < k.length by omega)]; rfl
        have hdiff : l[j] ≠ k[j]'(by omega) → decide (l = k) = false := by
          intro h
          rw [decide_eq_false_iff_not]
          rintro rfl
          exact h rfl
        have hj1 : (j : Int) < (l.length : Int) := by omega
        have hj2 : (j : Int) < (k.length : Int) := by omega
        generalize l[j] = x at *
        generalize k[j]'(by omega) = y at *
        have Hd := Lib.hid hdiff
        have HS1 := Lib.hid hs1
        have HS2 := Lib.hid hs2
        have HT := Lib.hid hT
        have HK := Lib.hid hK
        clear hdiff hs1 hs2 hT hK hne hl hk
        by_cases hxy : x = y
        · subst hxy
          go_wp2_with fail
          refine wp_region_noPanic ?_
          refine wp_region_held_drew (S := (fun w' => w'.cell? ⟨b0, o0 + j, none⟩ = some (U64 x) ∧ w'.cell? ⟨b1, o1 + j, none⟩ = some (U64 x))) (by kernel_rfl) ⟨hc0, hc1⟩ (fun hHeld => ?_)
          refine wpAnyH_take (i := 0) (v := ?v1_1) rfl (by kernel_rfl) (by kernel_rfl) (by kernel_rfl) (fun _ _ _ h => h) (Or.inl ⟨by rfl, ?y1_1⟩) (by assumption) ?r1_1
          case y1_1 => (intro w hSw; (try dsimp only at hSw); go_simp; try with_reducible rfl)
          (try simp only [Act.put, List.getElem_toArray, List.getElem_cons_zero, List.getElem_cons_succ, List.setIfInBounds_toArray, List.set_cons_zero, List.set_cons_succ])
          refine wpAnyH_take (i := 1) (v := ?v1_2) rfl (by kernel_rfl) (by kernel_rfl) (by kernel_rfl) (fun _ _ _ h => h) (Or.inl ⟨by rfl, ?y1_2⟩) (by assumption) ?r1_2
          case y1_2 => (intro w hSw; (try dsimp only at hSw); go_simp; try with_reducible rfl)
          (try simp only [Act.put, List.getElem_toArray, List.getElem_cons_zero, List.getElem_cons_succ, List.setIfInBounds_toArray, List.set_cons_zero, List.set_cons_succ])
          refine wpAnyH_take (i := 2) (v := ?v1_3) rfl (by kernel_rfl) (by kernel_rfl) (by kernel_rfl) (fun _ _ _ h => h) (Or.inl ⟨by rfl, ?y1_3⟩) (by assumption) ?r1_3
          case y1_3 => (intro w hSw; (try dsimp only at hSw); go_simp; try with_reducible rfl)
          (try simp only [Act.put, List.getElem_toArray, List.getElem_cons_zero, List.getElem_cons_succ, List.setIfInBounds_toArray, List.set_cons_zero, List.set_cons_succ])
          refine wpAnyH_take (i := 3) (v := ?v1_4) rfl (by kernel_rfl) (by kernel_rfl) (by kernel_rfl) (fun _ _ _ h => h) (Or.inl ⟨by rfl, ?y1_4⟩) (by assumption) ?r1_4
          case y1_4 => (intro w hSw; (try dsimp only at hSw); go_simp; try with_reducible rfl)
          (try simp only [Act.put, List.getElem_toArray, List.getElem_cons_zero, List.getElem_cons_succ, List.setIfInBounds_toArray, List.set_cons_zero, List.set_cons_succ])
          refine wpAnyH_take (i := 4) (v := ?v1_5) rfl (by kernel_rfl) (by kernel_rfl) (by kernel_rfl) (fun _ _ _ h => h) (Or.inl ⟨by rfl, ?y1_5⟩) (by assumption) ?r1_5
          case y1_5 => (intro w hSw; (try dsimp only at hSw); go_simp; try with_reducible rfl)
          (try simp only [Act.put, List.getElem_toArray, List.getElem_cons_zero, List.getElem_cons_succ, List.setIfInBounds_toArray, List.set_cons_zero, List.set_cons_succ])
          refine wpAnyH_take (i := 5) (v := ?v1_6) rfl (by kernel_rfl) (by kernel_rfl) (by kernel_rfl) (fun _ _ _ h => h) (Or.inl ⟨by rfl, ?y1_6⟩) (by assumption) ?r1_6
          case y1_6 => (intro w hSw; (try dsimp only at hSw); go_simp; try with_reducible rfl)
          (try simp only [Act.put, List.getElem_toArray, List.getElem_cons_zero, List.getElem_cons_succ, List.setIfInBounds_toArray, List.set_cons_zero, List.set_cons_succ])
          refine wpAnyH_take (i := 6) (v := ?v1_7) rfl (by kernel_rfl) (by kernel_rfl) (by kernel_rfl) (fun _ _ _ h => h) (Or.inl ⟨by rfl, ?y1_7⟩) (by assumption) ?r1_7
          case y1_7 => (intro w hSw; (try dsimp only at hSw); go_simp; try with_reducible rfl)
          (try simp only [Act.put, List.getElem_toArray, List.getElem_cons_zero, List.getElem_cons_succ, List.setIfInBounds_toArray, List.set_cons_zero, List.set_cons_succ])
          refine wpAnyH_take (i := 7) (v := ?v1_8) rfl (by kernel_rfl) (by kernel_rfl) (by kernel_rfl) (fun _ _ _ h => h) (Or.inl ⟨by rfl, ?y1_8⟩) (by assumption) ?r1_8
          case y1_8 => (intro w hSw; (try dsimp only at hSw); go_simp; try with_reducible rfl)
          (try simp only [Act.put, List.getElem_toArray, List.getElem_cons_zero, List.getElem_cons_succ, List.setIfInBounds_toArray, List.set_cons_zero, List.set_cons_succ])
          refine wpAnyH_take (i := 8) (v := ?v1_9) rfl (by kernel_rfl) (by kernel_rfl) (by kernel_rfl) (fun _ _ _ h => h) (Or.inl ⟨by rfl, ?y1_9⟩) (by assumption) ?r1_9
          case y1_9 => (intro w hSw; (try dsimp only at hSw); go_simp; try with_reducible rfl)
          (try simp only [Act.put, List.getElem_toArray, List.getElem_cons_zero, List.getElem_cons_succ, List.setIfInBounds_toArray, List.set_cons_zero, List.set_cons_succ])
          refine wpAnyH_done (by kernel_rfl) ?_ _
          refine NoPanic.normal ?_
          go_wp2_with fail
          go_roundw
          case rel => exact ⟨j + 1, by omega, by go_num, by rw [HS1.out, HS2.out, HT.out], HK.out.drew⟩
          case measure => simp [intOf]; omega
        · have hz : ((x : Int) == (y : Int)) = false := by
            rw [beq_eq_false_iff_ne]; intro h; exact hxy (by omega)
          have hz2 : (x == y) = false := by
            rw [beq_eq_false_iff_ne]; intro h; exact hxy h
          go_wp2_with fail
          refine wp_region_noPanic ?_
          refine wp_region_held_drew (S := (fun w' => w'.cell? ⟨b0, o0 + j, none⟩ = some (U64 x) ∧ w'.cell? ⟨b1, o1 + j, none⟩ = some (U64 y))) (by kernel_rfl) ⟨hc0, hc1⟩ (fun hHeld => ?_)
          refine wpAnyH_take (i := 0) (v := ?v2_10) rfl (by kernel_rfl) (by kernel_rfl) (by kernel_rfl) (fun _ _ _ h => h) (Or.inl ⟨by rfl, ?y2_10⟩) (by assumption) ?r2_10
          case y2_10 => (intro w hSw; (try dsimp only at hSw); go_simp; try with_reducible rfl)
          (try simp only [Act.put, List.getElem_toArray, List.getElem_cons_zero, List.getElem_cons_succ, List.setIfInBounds_toArray, List.set_cons_zero, List.set_cons_succ])
          refine wpAnyH_take (i := 1) (v := ?v2_11) rfl (by kernel_rfl) (by kernel_rfl) (by kernel_rfl) (fun _ _ _ h => h) (Or.inl ⟨by rfl, ?y2_11⟩) (by assumption) ?r2_11
          case y2_11 => (intro w hSw; (try dsimp only at hSw); go_simp; try with_reducible rfl)
          (try simp only [Act.put, List.getElem_toArray, List.getElem_cons_zero, List.getElem_cons_succ, List.setIfInBounds_toArray, List.set_cons_zero, List.set_cons_succ])
          refine wpAnyH_take (i := 2) (v := ?v2_12) rfl (by kernel_rfl) (by kernel_rfl) (by kernel_rfl) (fun _ _ _ h => h) (Or.inl ⟨by rfl, ?y2_12⟩) (by assumption) ?r2_12
          case y2_12 => (intro w hSw; (try dsimp only at hSw); go_simp; try with_reducible rfl)
          (try simp only [Act.put, List.getElem_toArray, List.getElem_cons_zero, List.getElem_cons_succ, List.setIfInBounds_toArray, List.set_cons_zero, List.set_cons_succ])
          refine wpAnyH_take (i := 3) (v := ?v2_13) rfl (by kernel_rfl) (by kernel_rfl) (by kernel_rfl) (fun _ _ _ h => h) (Or.inl ⟨by rfl, ?y2_13⟩) (by assumption) ?r2_13
          case y2_13 => (intro w hSw; (try dsimp only at hSw); go_simp; try with_reducible rfl)
          (try simp only [Act.put, List.getElem_toArray, List.getElem_cons_zero, List.getElem_cons_succ, List.setIfInBounds_toArray, List.set_cons_zero, List.set_cons_succ])
          refine wpAnyH_take (i := 4) (v := ?v2_14) rfl (by kernel_rfl) (by kernel_rfl) (by kernel_rfl) (fun _ _ _ h => h) (Or.inl ⟨by rfl, ?y2_14⟩) (by assumption) ?r2_14
          case y2_14 => (intro w hSw; (try dsimp only at hSw); go_simp; try with_reducible rfl)
          (try simp only [Act.put, List.getElem_toArray, List.getElem_cons_zero, List.getElem_cons_succ, List.setIfInBounds_toArray, List.set_cons_zero, List.set_cons_succ])
          refine wpAnyH_take (i := 5) (v := ?v2_15) rfl (by kernel_rfl) (by kernel_rfl) (by kernel_rfl) (fun _ _ _ h => h) (Or.inl ⟨by rfl, ?y2_15⟩) (by assumption) ?r2_15
          case y2_15 => (intro w hSw; (try dsimp only at hSw); go_simp; try with_reducible rfl)
          (try simp only [Act.put, List.getElem_toArray, List.getElem_cons_zero, List.getElem_cons_succ, List.setIfInBounds_toArray, List.set_cons_zero, List.set_cons_succ])
          refine wpAnyH_take (i := 6) (v := ?v2_16) rfl (by kernel_rfl) (by kernel_rfl) (by kernel_rfl) (fun _ _ _ h => h) (Or.inl ⟨by rfl, ?y2_16⟩) (by assumption) ?r2_16
          case y2_16 => (intro w hSw; (try dsimp only at hSw); go_simp; try with_reducible rfl)
          (try simp only [Act.put, List.getElem_toArray, List.getElem_cons_zero, List.getElem_cons_succ, List.setIfInBounds_toArray, List.set_cons_zero, List.set_cons_succ])
          refine wpAnyH_take (i := 7) (v := ?v2_17) rfl (by kernel_rfl) (by kernel_rfl) (by kernel_rfl) (fun _ _ _ h => h) (Or.inl ⟨by rfl, ?y2_17⟩) (by assumption) ?r2_17
          case y2_17 => (intro w hSw; (try dsimp only at hSw); go_simp; try with_reducible rfl)
          (try simp only [Act.put, List.getElem_toArray, List.getElem_cons_zero, List.getElem_cons_succ, List.setIfInBounds_toArray, List.set_cons_zero, List.set_cons_succ])
          refine wpAnyH_take (i := 8) (v := ?v2_18) rfl (by kernel_rfl) (by kernel_rfl) (by kernel_rfl) (fun _ _ _ h => h) (Or.inl ⟨by rfl, ?y2_18⟩) (by assumption) ?r2_18
          case y2_18 => (intro w hSw; (try dsimp only at hSw); go_simp; try with_reducible rfl)
          (try simp only [Act.put, List.getElem_toArray, List.getElem_cons_zero, List.getElem_cons_succ, List.setIfInBounds_toArray, List.set_cons_zero, List.set_cons_succ])
          refine wpAnyH_done (by kernel_rfl) ?_ _
          refine NoPanic.normal ?_
          go_wp2_with fail
          go_ret
          exact ⟨by rw [Hd.out hxy]; rfl, HK.out.drew⟩
      · obtain rfl : j = l.length := by omega
        have he : l = k := by rw [List.take_length] at hT; rw [hne, List.take_length] at hT; exact hT
        have HE := Lib.hid (show decide (l = k) = true from by simp [he])
        have HK := Lib.hid hK
        clear he hT hK hl hk hne
        go_wp2_with fail
        go_ret
        exact ⟨by rw [HE.out]; rfl, HK.out⟩
  · have he : decide (l = k) = false := by rw [decide_eq_false_iff_not]; rintro rfl; exact hne rfl
    rw [he]
    have hd : ((l.length : Int) == (k.length : Int)) = false := by rw [beq_eq_false_iff_ne]; omega
    clear he hl hk hne
    go_enter Tryd.func30, Tryd.ntmps30
    go_wp2_with fail
    go_ret
    exact ⟨rfl, Keeps.refl _ _⟩


/-- A slice of numbers that the call has made, in a block from B on (or it is nil and there are none). -/
def OwnI (w : World) (B : Nat) (v : Value) (l : List Nat) : Prop := w.ownsRow B 3 1 v l.length (l.map I64)

theorem OwnI.nil (w : World) (B : Nat) : OwnI w B (.slice none 0 0) [] := ⟨rfl, .inl ⟨rfl, rfl⟩⟩

theorem OwnI.ints {w : World} {B : Nat} {v : Value} {l : List Nat} (h : OwnI w B v l) : IsInts w B v l := by
  rcases h.2 with ⟨rfl, h0⟩ | ⟨g, cap, cur, rfl, hb, hg, hn, hm, hs, ht⟩
  · have : l = [] := List.length_eq_zero_iff.1 h0
    subst this
    exact IsInts.nil _ _
  · have hbk : Blk w g 3 (l.map I64 ++ cur.toList.drop l.length) := by
      unfold Blk
      rw [hg, ← ht, Nat.mul_one, List.take_append_drop]
    refine ⟨some ⟨g, 0, none⟩, cap, rfl, hn, hm, fun i hi => ⟨g, rfl, hb, ?_⟩⟩
    refine hbk.cell' ?_
    rw [List.getElem?_append_left (by simpa using hi), List.getElem?_map, List.getD_eq_getElem?_getD, List.getElem?_eq_getElem hi]
    rfl

theorem append_runI {w : World} {B : Nat} {v : Value} {l : List Nat} (h : OwnI w B v l) (x b o c : Nat) (hx : w.cell? ⟨b, o, none⟩ = some (I64 x))
    (hlen : l.length ≤ 1000000) (hB : B ≤ w.heap.size) (t : TypeId) :
    ∃ v' w', (Builtin.append_ #[37, 37] t #[v, .slice (some ⟨b, o, none⟩) 1 c]).run Tryd.prog w = .ok v' w' ∧ OwnI w' B v' (l ++ [x]) ∧ w.grownBy w' v.ownBlock ∧ (∀ x, v'.ownBlock = some x → v.ownBlock = some x ∨ w.heap.size ≤ x) := by
  obtain ⟨i0, hi, hz0, hz1, hz2⟩ := info_parts Tryd.info_int
  obtain ⟨v', w', hr, h2, h3, h4, h5⟩ := run_append_own_at (P := Tryd.prog) w B 37 t 3 i0 (.int .i64 0) 1 8 Tryd.underlying37 hi hz0 hz1 hz2 rfl (by decide) v l.length (l.map I64) h ⟨b, o, none⟩ 1 c [I64 x]
    (by simp) (fun j u hu => by
      obtain rfl : j = 0 := by
        rcases j with _ | j
        · rfl
        · simp at hu
      simp only [List.getElem?_cons_zero, Option.some.injEq] at hu
      subst hu
      rw [Addr.add_lit]
      exact hx) (by intro u hu; simp only [List.mem_singleton] at hu; subst hu; rfl) (by unfold maxLen; omega) (by omega) hB
  refine ⟨v', w', hr, ?_, h3, fun y hy => ?_⟩
  · unfold OwnI
    rw [List.length_append, List.map_append]
    exact h2
  · rcases h5 with h5 | h5
    · exact .inl (h5 ▸ hy)
    · rw [h5] at hy; simp at hy; exact .inr (by omega)

theorem wpList_append_int {w : World} {ops : Array Oper} {rest : List Oper} {o : Oper} {act : Act} {Q : Exit → Act → World → Prop} (hgd : o.guard = none) (s x : Operand)
    (ho : o.op = .call { callee := .builtin .append, args := #[s, x], argTypes := #[37, 37] })
    {B : Nat} {v : Value} {l : List Nat} (h : OwnI w B v l) (hs : act.eval s = v) (y b k c : Nat) (hx : act.eval x = .slice (some ⟨b, k, none⟩) 1 c) (hm : w.cell? ⟨b, k, none⟩ = some (I64 y))
    (hlen : l.length ≤ 1000000) (hB : B ≤ w.heap.size)
    (hK : ∀ v' w', OwnI w' B v' (l ++ [y]) → w.grownBy w' v.ownBlock → (∀ x, v'.ownBlock = some x → v.ownBlock = some x ∨ w.heap.size ≤ x) → wpList Tryd.prog ops Q rest (act.put o.dst v') w') : wpList Tryd.prog ops Q (o :: rest) act w := by
  refine wpList_plain hgd fun K hK' => ?_
  obtain ⟨v', w', hrun, h1, h2, h3⟩ := append_runI h y b k c hm hlen hB o.type
  unfold Oper.wp
  simp [execOp, ho, resolve, invoke, builtin, hs, hx, hrun, Result.andThen]
  exact hK' _ _ (hK v' w' h1 h2 h3)

theorem OwnI.keeps {S : List Nat} {w w' : World} {B : Nat} {v : Value} {l : List Nat} (h : OwnI w B v l) (k : Keeps S w w') (hS : ∀ x, x ∈ S → x < B) : OwnI w' B v l := by
  refine ⟨h.1, ?_⟩
  rcases h.2 with ⟨rfl, h0⟩ | ⟨g, cap, cur, rfl, hb, hg, hn, hm, hs, ht⟩
  · exact .inl ⟨rfl, h0⟩
  · exact .inr ⟨g, cap, cur, rfl, hb, (k.block g (Array.getElem?_eq_some_iff.1 hg).1 (fun hm => by have := hS g hm; omega)).trans hg, hn, hm, hs, ht⟩
theorem OwnI.block {w : World} {B x : Nat} {v : Value} {l : List Nat} (h : OwnI w B v l) (hx : v.ownBlock = some x) : B ≤ x ∧ x < w.heap.size := by
  rcases h.2 with ⟨rfl, h0⟩ | ⟨g, cap, cur, rfl, hb, hg, hn, hm, hs, ht⟩
  · simp [Value.ownBlock] at hx
  · simp [Value.ownBlock] at hx
    subst hx
    exact ⟨hb, (Array.getElem?_eq_some_iff.1 hg).1⟩

/-- A list of numbers, in new memory. -/
def ListPost (w : World) (l : List Nat) (e : Ending) (w' : World) : Prop := ∃ v, e = .returned v ∧ OwnI w' w.heap.size v l ∧ Keeps [] w w'

set_option maxRecDepth 100000 in
set_option maxHeartbeats 1000000 in
theorem vlist_calls {w : World} {p g n X : Nat} (h : VecAt w p g n X) :
    Calls Tryd.prog 17 #[.pointer (some ⟨p, 0, none⟩)] w (ListPost w (bitsOf n X)) := by
  have hn := h.le
  have hpl := h.b.lt
  have hgl := h.r.lt
  have hB0 := OwnI.nil w w.heap.size
  go_enter Tryd.func17, Tryd.ntmps17
  go_wp2_with fail
  refine (vlen_calls h).mono ?_
  rintro e w' ⟨rfl, rfl⟩
  go_wp2_with fail
  go_loopw [3, 7] (fun v i wr => ∃ k : Nat, k ≤ n ∧ i = .int .i64 k ∧ OwnI wr w.heap.size v (bitsOf k X) ∧ Keeps [] w wr) (fun _ i _ => n - (intOf i).toNat)
  case atStart => exact ⟨0, Nat.zero_le _, rfl, hB0, Keeps.refl _ _⟩
  case round =>
    obtain ⟨k, hk, rfl, hO, hK⟩ := hrel
    by_cases hlt : k < n
    · have hV := h.keeps hK (by simp) (by simp)
      have hH := vhas_calls hV (k : Int)
      have hlen : (bitsOf k X).length ≤ k := by unfold bitsOf; exact Nat.le_trans (List.length_filter_le _ _) (by simp)
      have hsz := hK.size
      rw [decide_eq_true (show 0 ≤ (k : Int) ∧ (k : Int) < n by omega), Bool.true_and, Int.toNat_natCast] at hH
      have hs := bitsOf_succ k X
      have hd : decide (k < n) = true := decide_eq_true hlt
      cases hb : X.testBit k
      · rw [hb] at hH hs
        simp only [Bool.false_eq_true, if_false, List.append_nil] at hs
        have Hs := Lib.hid hs
        have HO := Lib.hid hO
        have HK := Lib.hid hK
        clear hs hO hK hb
        go_wp2_with fail
        refine hH.mono ?_
        rintro e w' ⟨rfl, rfl⟩
        go_wp2_with fail
        go_roundw
        case rel => exact ⟨k + 1, by omega, by go_num, by rw [Hs.out]; exact HO.out, HK.out⟩
        case measure => simp [intOf]; omega
      · rw [hb] at hH hs
        simp only [if_true] at hs
        have Hs := Lib.hid hs
        have HO := Lib.hid (hO.keeps ((Keeps.refl [] wr).alloc (.cells #[.int .i64 (k : Int)] 3)) (by simp))
        have HK := Lib.hid hK
        have hX : (wr.alloc (.cells #[.int .i64 (k : Int)] 3)).cell? ⟨wr.heap.size, 0, none⟩ = some (I64 k) := (Blk.newA wr 3 #[.int .i64 (k : Int)]).cell' rfl
        have hB : w.heap.size ≤ (wr.alloc (.cells #[.int .i64 (k : Int)] 3)).heap.size := by simp; omega
        have HX := Lib.hid hX
        generalize bitsOf k X = L at *
        clear hs hO hK hb hX
        go_wp2_with fail
        refine hH.mono ?_
        rintro e w' ⟨rfl, rfl⟩
        go_wp2_with (at_builtin; (refine wpList_append_int rfl (.tmp 13) (.tmp 15) rfl HO.out rfl k _ 0 1 rfl HX.out (by omega) hB ?_); intro v2 w2 h1 h2 h3)
        go_roundw
        case rel =>
          refine ⟨k + 1, by omega, by go_num, by rw [Hs.out]; exact h1, (HK.out.alloc _).grown h2 (fun x hx => .inr ?_)⟩
          exact (HO.out.block hx).1
        case measure => simp [intOf]; omega
    · obtain rfl : n = k := by omega
      go_wp2_with fail
      go_ret
      exact ⟨_, rfl, hO, hK⟩

end Go.Proofs.YtghgmchgbhdldaaDoor
