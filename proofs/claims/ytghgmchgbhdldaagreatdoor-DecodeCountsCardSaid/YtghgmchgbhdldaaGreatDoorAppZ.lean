/-
  AppZ: append(v, make([]byte, k)...) to a slice of bytes that is the call's own.
-/
import Derived.Test.YtghgmchgbhdldaaGreatDoorAppB
import Derived.Lib.AppendZerosOnto
set_option linter.unusedVariables false
set_option linter.unusedSimpArgs false
namespace Go.Proofs.YtghgmchgbhdldaaGreatDoor
open Go.RowKit

theorem zeroCells_u8 (k : Nat) : (Builtin.zeroCells #[.int .u8 0] k).toList = (List.replicate k (0 : UInt8)).map B8 := by
  apply List.ext_getElem
  · simp [Builtin.zeroCells]
  · intro i h1 h2
    simp [Builtin.zeroCells, Nat.mod_one]

theorem u8_cells : (Value.int .u8 0).cells = #[.int .u8 0] := rfl

set_option maxHeartbeats 1000000 in
theorem append_zeros {w : World} {B : Nat} {v : Value} {l : List UInt8} (h : Own w B v l) (k : Nat) (h0 : 0 < k) (hlen : l.length + k ≤ 1000000) (hB : B ≤ w.heap.size) (t : TypeId) :
    ∃ v' w', (Builtin.append_ #[28, 3] t #[v, .int .i64 k]).run Tryz.prog w = .ok v' w' ∧ Own w' B v' (l ++ List.replicate k 0) ∧ w.grownBy w' v.ownBlock ∧ (∀ x, v'.ownBlock = some x → v.ownBlock = some x ∨ w.heap.size ≤ x) := by
  obtain ⟨i0, hi, hz0, hz1, hz2⟩ := info_parts Tryz.info_u8
  have hwhole : (l ++ List.replicate k (0 : UInt8)).map B8 = l.map B8 ++ (List.replicate k (0 : UInt8)).map B8 := List.map_append
  have hll : (l ++ List.replicate k (0 : UInt8)).length = l.length + k := by simp
  have grown : ∀ (old : Nat), old < l.length + k → ∀ (row : Option Nat),
      Own (w.drew.alloc (.cells ((l.map B8).toArray ++ Builtin.zeroCells #[.int .u8 0] k ++ Builtin.zeroCells #[.int .u8 0] (grownCap w (l.length + k) old 5 - (l.length + k))) 5)) B
        (.slice (some ⟨w.heap.size, 0, none⟩) (l.length + k) (grownCap w (l.length + k) old 5)) (l ++ List.replicate k 0) ∧
      w.grownBy (w.drew.alloc (.cells ((l.map B8).toArray ++ Builtin.zeroCells #[.int .u8 0] k ++ Builtin.zeroCells #[.int .u8 0] (grownCap w (l.length + k) old 5 - (l.length + k))) 5)) row := by
    intro old ho row
    have hge := grownCap_ge w (l.length + k) old 5
    have hcm : grownCap w (l.length + k) old 5 ≤ maxLen := grownCap_le_maxLen w (l.length + k) old 5 (by unfold maxLen; omega)
    refine ⟨⟨by simp, .inr ⟨w.heap.size, _, _, by rw [hll], hB, heap_alloc_new w.drew _, by rw [hll]; exact hge, hcm, ?_, ?_⟩⟩, ⟨rfl, rfl, rfl, by simp, fun k' hk _ => heap_alloc_old w.drew _ hk⟩⟩
    · simp only [Array.size_append, List.size_toArray, size_zeroCells, List.length_map]
      simp
      omega
    · simp only [Array.toList_append, List.append_assoc]
      rw [hwhole, zeroCells_u8 k, ← List.append_assoc, Nat.mul_one]
      exact List.take_left' (by simp)
  rcases h.2 with ⟨rfl, hl0⟩ | ⟨g, cap, cur, rfl, hbg, hg, hnc, hcm, hcs, htake⟩
  · have : l = [] := List.length_eq_zero_iff.1 hl0
    subst this
    have hr := Lib.run_append_nil_zeros (P := Tryz.prog) w 28 3 t 5 i0 _ .i64 _ Tryz.underlying28 Tryz.underlying3 hi hz0 k h0 (by rw [hz1]; omega) (by simp at hlen; omega) (by rw [hz2]; simp at hlen; omega)
    have hgr := grown 0 (by omega) (Value.ownBlock (.slice none 0 0))
    simp only [List.length_nil, Nat.zero_add, List.map_nil, Array.empty_append, List.nil_append] at hgr
    refine ⟨_, _, hr, ?_, ?_, fun x hx => ?_⟩
    · rw [u8_cells]; exact hgr.1
    · rw [u8_cells]; exact hgr.2
    · simp [Value.ownBlock] at hx; exact .inr (by omega)
  · by_cases hroom : l.length + k ≤ cap
    · have hfit : l.length + k ≤ cur.size := by rw [hcs]; omega
      have hone : ∀ v ∈ (List.replicate k (0 : UInt8)).map B8, v.oneCell' = true := B8_one _
      have hst := run_storeCells_at Tryz.prog g l.length 5 ((List.replicate k (0 : UInt8)).map B8) 0 cur w hg (by simpa using hfit) hone
      simp only [Nat.add_zero, List.length_map, List.length_replicate] at hst
      have hw : IntKind.i64.wrap (k : Int) = k := by rw [IntKind.wrap_i64]; omega
      have hneg : ¬ ((k : Int) < 0) := by omega
      have h48i : ¬ (281474976710656 < (k : Int)) := by omega
      have hk0 : k ≠ 0 := by omega
      have hzc : (Builtin.zeroCells #[.int .u8 0] k).toList = (List.replicate k (0 : UInt8)).map B8 := zeroCells_u8 k
      have hr : (Builtin.append_ #[28, 3] t #[.slice (some ⟨g, 0, none⟩) l.length cap, .int .i64 k]).run Tryz.prog w =
          .ok (.slice (some ⟨g, 0, none⟩) (l.length + k) cap) (w.setRow g (cur.toList.take l.length ++ (List.replicate k (0 : UInt8)).map B8 ++ cur.toList.drop (l.length + k)).toArray) := by
        simp only [Builtin.append_, run_underlying Tryz.underlying28, run_underlying Tryz.underlying3, sizeOf, typeInfo, zeroValue, hi, hz0, hz1, hz2, asInt, asIntOf, hw, hneg, h48i, hk0, hroom]
        simp [run_underlying Tryz.underlying28, run_underlying Tryz.underlying3, hi, hz0, hz1, hz2, hw, hneg, h48i, hk0, hroom, u8_cells, hzc, Addr.add_lit]
        have h2 := hst
        simp at h2
        rw [h2]
        rfl
      have htake' : cur.toList.take l.length = l.map B8 := by simpa using htake
      refine ⟨_, _, hr, ⟨by simp, .inr ⟨g, cap, _, by rw [hll], hbg, setRow_heap w g cur _ 5 _ hg, by rw [hll]; exact hroom, hcm, ?_, ?_⟩⟩, ⟨rfl, rfl, rfl, by simp, fun k _ hk => setRow_other w g k _ (fun e => hk (by simp [Value.ownBlock, e]))⟩, fun x hx => .inl hx⟩
      · simp only [List.size_toArray, List.length_append, List.length_take, List.length_drop, Array.length_toList, List.length_map, List.length_replicate]
        omega
      · rw [htake', hwhole]
        show List.take _ (l.map B8 ++ (List.replicate k (0 : UInt8)).map B8 ++ _) = _
        exact List.take_left' (by simp)
    · have holds : ∀ j u, (l.map B8)[j]? = some u → w.cell? ((⟨g, 0, none⟩ : Addr).add j) = some u := h.cells (g := g) rfl
      have hold : (Builtin.firstCells i0.size l.length (.slice (some ⟨g, 0, none⟩) l.length cap)).run Tryz.prog w.drew = .ok (l.map B8).toArray w.drew := run_firstCells_some (P := Tryz.prog) w.drew i0.size l.length ⟨g, 0, none⟩ l.length cap (l.map B8) (by rw [hz1]; simp) holds
      have hr := Lib.run_append_grow_zeros (P := Tryz.prog) w 28 3 t 5 i0 _ .i64 _ Tryz.underlying28 Tryz.underlying3 hi hz0 (some ⟨g, 0, none⟩) l.length cap (l.map B8) hold k h0 (by rw [hz1]; omega) (by omega) (by omega) (by rw [hz2]; omega)
        (growslice_fits (by omega) (by rw [hz2]; omega))
      have hgr := grown cap (by omega) (Value.ownBlock (.slice (some ⟨g, 0, none⟩) l.length cap))
      refine ⟨_, _, hr, ?_, ?_, fun x hx => ?_⟩
      · rw [u8_cells]; exact hgr.1
      · rw [u8_cells]; exact hgr.2
      · simp [Value.ownBlock] at hx; exact .inr (by omega)

/-- .. at the operation, for the walk. -/
theorem wpList_append_zeros {w : World} {ops : Array Oper} {rest : List Oper} {o : Oper} {act : Act} {Q : Exit → Act → World → Prop} (hgd : o.guard = none) (s x : Operand)
    (ho : o.op = .call { callee := .builtin .append, args := #[s, x], argTypes := #[28, 3] })
    {B : Nat} {v : Value} {l : List UInt8} (h : Own w B v l) (hs : act.eval s = v) (k : Nat) (hx : act.eval x = .int .i64 k) (h0 : 0 < k) (hlen : l.length + k ≤ 1000000) (hB : B ≤ w.heap.size)
    (hK : ∀ v' w', Own w' B v' (l ++ List.replicate k 0) → w.grownBy w' v.ownBlock → (∀ x, v'.ownBlock = some x → v.ownBlock = some x ∨ w.heap.size ≤ x) → wpList Tryz.prog ops Q rest (act.put o.dst v') w') : wpList Tryz.prog ops Q (o :: rest) act w := by
  refine wpList_plain hgd fun K hK' => ?_
  obtain ⟨v', w', hrun, h1, h2, h3⟩ := append_zeros h k h0 hlen hB o.type
  unfold Oper.wp
  simp [execOp, ho, resolve, invoke, builtin, hs, hx, hrun, Result.andThen]
  exact hK' _ _ (hK v' w' h1 h2 h3)

/-- .. at a step of a region that draws its order. -/
theorem step_append_zeros {w : World} {ops : Array Oper} {o : Oper} {a : Act} {K : Act → World → Prop} {Q : Exit → Act → World → Prop} {E : Prop} (hgd : o.guard = none) (s x : Operand)
    (ho : o.op = .call { callee := .builtin .append, args := #[s, x], argTypes := #[28, 3] })
    {B : Nat} {v : Value} {l : List UInt8} (h : Own w B v l) (hs : a.eval s = v) (k : Nat) (hx : a.eval x = .int .i64 k) (h0 : 0 < k) (hlen : l.length + k ≤ 1000000) (hB : B ≤ w.heap.size)
    (hK : ∀ v' w', Own w' B v' (l ++ List.replicate k 0) → w.grownBy w' v.ownBlock → (∀ x, v'.ownBlock = some x → v.ownBlock = some x ∨ w.heap.size ≤ x) → K (a.put o.dst v') w') :
    if Region.wanted o (yielded ops a.tmps) = true then Oper.wp Tryz.prog o a w K Q else E := by
  rw [if_pos (by simp [Region.wanted, hgd])]
  obtain ⟨v', w', hrun, h1, h2, h3⟩ := append_zeros h k h0 hlen hB o.type
  unfold Oper.wp
  simp [execOp, ho, resolve, invoke, builtin, hs, hx, hrun, Result.andThen]
  exact hK v' w' h1 h2 h3

theorem step_append_bytes {w : World} {ops : Array Oper} {o : Oper} {act : Act} {K : Act → World → Prop} {Q : Exit → Act → World → Prop} {E : Prop} (hgd : o.guard = none) (s x : Operand)
    (ho : o.op = .call { callee := .builtin .append, args := #[s, x], argTypes := #[28, 28] })
    {B : Nat} {v : Value} {l m : List UInt8} (h : Own w B v l) (hs : act.eval s = v) (a : Option Addr) (n c : Nat) (hx : act.eval x = .slice a n c) (hm : Rd w a m) (hn : m.length = n) (h0 : a = none → n = 0 ∧ c = 0)
    (hlen : l.length + n ≤ 140737488351232) (hB : B ≤ w.heap.size)
    (hK : ∀ v' w', Own w' B v' (l ++ m) → w.grownBy w' v.ownBlock → (∀ x, v'.ownBlock = some x → v.ownBlock = some x ∨ w.heap.size ≤ x) → K (act.put o.dst v') w') :
    if Region.wanted o (yielded ops act.tmps) = true then Oper.wp Tryz.prog o act w K Q else E := by
  rw [if_pos (by simp [Region.wanted, hgd])]
  obtain ⟨v', w', hrun, h1, h2, h3⟩ := append_run h a n c hm hn h0 hlen hB o.type
  unfold Oper.wp
  simp [execOp, ho, resolve, invoke, builtin, hs, hx, hrun, Result.andThen]
  exact hK v' w' h1 h2 h3

end Go.Proofs.YtghgmchgbhdldaaGreatDoor
