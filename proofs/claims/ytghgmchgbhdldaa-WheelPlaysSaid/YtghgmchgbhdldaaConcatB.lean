/-
  ConcatB: slices.Grow of a nil slice of bytes; slices.Concat of three slices of bytes.
-/
import Derived.Test.YtghgmchgbhdldaaAppB
import Derived.Test.YtghgmchgbhdldaaSl
import Derived.Test.YtghgmchgbhdldaaNumB
import Derived.Deep.DeepMust
set_option linter.unusedVariables false
set_option linter.unusedSimpArgs false
namespace Go.Proofs.Ytghgmchgbhdldaa
open Go.RowKit

/-- append([]byte(nil), make([]byte, n)...) -/
theorem grow_run (w : World) (n : Nat) (h0 : 0 < n) (hn : n ≤ 140737488351232) (ty : TypeId) :
    (Builtin.append_ #[23, 3] ty #[.slice none 0 0, .int .i64 n]).run Try.prog w =
      .ok (.slice (some ⟨w.heap.size, 0, none⟩) n (grownCap w n 0 5)) (w.drew.alloc (.cells (Builtin.zeroCells #[.int .u8 0] n ++ Builtin.zeroCells #[.int .u8 0] (grownCap w n 0 5 - n)) 5)) := by
  obtain ⟨i0, hi, hz0, hz1, hz2⟩ := info_parts Try.info_u8
  have hn' : n ≠ 0 := by omega
  have h63' : ¬ (9223372036854775807 < (n : Int)) := by omega
  have h48' : ¬ (281474976710656 < Builtin.nextslicecap n 0) := by rw [nextslicecap_zero h0]; omega
  have h48'' : ¬ (281474976710656 < (n : Int)) := by omega
  have hw : IntKind.i64.wrap (n : Int) = n := IntWalk.i64_in _ (by omega)
  have hle : ¬ ((n : Int) ≤ 0) := by omega
  have hmx : ¬ (9223372036854775807 < max (n : Int) 0) := by omega
  have hneg : ¬ ((n : Int) < 0) := by omega
  simp [Builtin.append_, run_underlying Try.underlying23, run_underlying Try.underlying3, sizeOf, typeInfo, zeroValue, hi, hz0, hz1, hz2, Builtin.lenOf, hn', h63', h48', h48'', hw, hneg, Question.forced, run_firstCells_none, newRow, grownCap, asInt, asIntOf]
  rfl

theorem wpList_grow {w : World} {ops : Array Oper} {rest : List Oper} {o : Oper} {act : Act} {Q : Exit → Act → World → Prop} (hgd : o.guard = none) (s x : Operand)
    (ho : o.op = .call { callee := .builtin .append, args := #[s, x], argTypes := #[23, 3] }) (n : Nat) (hs : act.eval s = .slice none 0 0) (hx : act.eval x = .int .i64 n) (h0 : 0 < n) (hn : n ≤ 140737488351232)
    (hK : ∀ c w', n ≤ c → c ≤ maxLen → (∃ cs : Array Value, cs.size = c ∧ w' = w.drew.alloc (.cells cs 5)) → wpList Try.prog ops Q rest (act.put o.dst (.slice (some ⟨w.heap.size, 0, none⟩) n c)) w') : wpList Try.prog ops Q (o :: rest) act w := by
  refine wpList_plain hgd fun K hK' => ?_
  unfold Oper.wp
  simp [execOp, ho, resolve, invoke, builtin, hs, hx, grow_run w n h0 hn o.type, Result.andThen]
  have hge := grownCap_ge w n 0 5
  refine hK' _ _ (hK _ _ hge (grownCap_le_maxLen w n 0 5 (by unfold maxLen; omega)) ⟨_, ?_, rfl⟩)
  simp only [Array.size_append, size_zeroCells]
  simp
  omega

set_option maxRecDepth 100000 in
theorem grow_calls {w : World} (n : Nat) (h0 : 0 < n) (hn : n ≤ 140737488351232) :
    Calls Try.prog 103 #[.slice none 0 0, .int .i64 n] w fun e w' => ∃ c, e = .returned (.slice (some ⟨w.heap.size, 0, none⟩) 0 c) ∧ Own w' w.heap.size (.slice (some ⟨w.heap.size, 0, none⟩) 0 c) [] ∧ Keeps [] w w' := by
  have hi : (0 : Int) < (n : Int) := by omega
  go_enter Try.func103, Try.ntmps103
  go_wp2_with (at_builtin; (refine wpList_grow rfl _ _ rfl n rfl rfl h0 hn ?_); rintro c w1 hc hcm ⟨cs, hcs, rfl⟩)
  go_ret
  have hg : ((w.alloc (.cells cs 5)).drew).heap[w.heap.size]? = some (.cells cs 5 (0, 0)) := by
    show (w.heap.push _)[w.heap.size]? = _
    simp
  exact ⟨c, rfl, ⟨by simp, .inr ⟨w.heap.size, c, cs, rfl, Nat.le_refl _, hg, Nat.zero_le _, hcm, by omega, by simp⟩⟩, ((Keeps.refl [] w).alloc _).drew⟩

theorem Own.ge {w : World} {B : Nat} {v : Value} {l : List UInt8} (h : Own w B v l) : ∀ y, v.ownBlock = some y → B ≤ y := by
  intro y hy
  rcases h.2 with ⟨rfl, _⟩ | ⟨g, cap, cur, rfl, hb, _⟩
  · simp [Value.ownBlock] at hy
  · simp [Value.ownBlock] at hy; omega

/-- Three slices of bytes, in a block of their own. -/
def Tri (w : World) (b : Nat) (x y z : Value) : Prop := Blk w b 23 [x, y, z]

set_option maxRecDepth 100000 in
set_option maxHeartbeats 1000000 in
theorem concat3_calls {w : World} {b : Nat} {a1 a2 a3 : Option Addr} {c1 c2 c3 : Nat} {l1 l2 l3 : List UInt8} (hb : Tri w b (.slice a1 l1.length c1) (.slice a2 l2.length c2) (.slice a3 l3.length c3))
    (h1 : Rd w a1 l1) (h2 : Rd w a2 l2) (h3 : Rd w a3 l3) (n1 : a1 = none → l1 = [] ∧ c1 = 0) (n2 : a2 = none → l2 = [] ∧ c2 = 0) (n3 : a3 = none → l3 = [] ∧ c3 = 0)
    (m1 : l1.length ≤ 1000) (m2 : l2.length ≤ 1000) (m3 : l3.length ≤ 1000) (h0 : 0 < l1.length) :
    Calls Try.prog 63 #[.slice (some ⟨b, 0, none⟩) 3 3] w fun e w' => ∃ v, e = .returned v ∧ Own w' w.heap.size v (l1 ++ l2 ++ l3) ∧ Keeps [] w w' := by
  have e0 := hb.cell' (i := 0) rfl
  have e1 := hb.cell' (i := 1) rfl
  have e2 := hb.cell' (i := 2) rfl
  go_enter Try.func63, Try.ntmps63
  go_wp2_with fail
  go_loopw [3, 11] (fun s i wr => wr = w ∧ ((i = .int .i64 0 ∧ s = .int .i64 0) ∨ (i = .int .i64 1 ∧ s = .int .i64 l1.length) ∨ (i = .int .i64 2 ∧ s = .int .i64 (l1.length + l2.length : Nat)) ∨ (i = .int .i64 3 ∧ s = .int .i64 (l1.length + l2.length + l3.length : Nat)))) (fun _ i _ => 3 - (intOf i).toNat)
  case atStart => exact ⟨rfl, .inl ⟨rfl, rfl⟩⟩
  case round =>
    obtain ⟨rfl, ⟨rfl, rfl⟩ | ⟨rfl, rfl⟩ | ⟨rfl, rfl⟩ | ⟨rfl, rfl⟩⟩ := hrel
    · go_wp2_with fail
      go_roundw
      case rel => simp
      case measure => simp [intOf]
    · go_wp2_with fail
      go_roundw
      case rel => simp
      case measure => simp [intOf]
    · go_wp2_with fail
      go_roundw
      case rel => simp
      case measure => simp [intOf]
    · have hG := grow_calls (w := wr) (l1.length + l2.length + l3.length) (by omega) (by omega)
      go_wp2_with fail
      refine hG.mono ?_
      rintro e w1 ⟨c, rfl, hO, hK⟩
      go_wp2_with fail
      clear hG e0 e1 e2
      have e0 := hb.cell' (i := 0) rfl
      have e1 := hb.cell' (i := 1) rfl
      have e2 := hb.cell' (i := 2) rfl
      go_loopw [6, 27] (fun o i wx => Keeps [] wr wx ∧ ((i = .int .i64 0 ∧ Own wx wr.heap.size o []) ∨ (i = .int .i64 1 ∧ Own wx wr.heap.size o l1) ∨ (i = .int .i64 2 ∧ Own wx wr.heap.size o (l1 ++ l2)) ∨ (i = .int .i64 3 ∧ Own wx wr.heap.size o (l1 ++ l2 ++ l3)))) (fun _ i _ => 3 - (intOf i).toNat)
      case atStart => exact ⟨hK, .inl ⟨rfl, hO⟩⟩
      case round =>
        obtain ⟨hK3, ⟨rfl, hO3⟩ | ⟨rfl, hO3⟩ | ⟨rfl, hO3⟩ | ⟨rfl, hO3⟩⟩ := hrel
        · have hs3 := hK3.size
          have f0 := hK3.cell e0
          go_wp2_with (at_builtin; (refine wpList_append_bytes rfl _ _ rfl hO3 rfl a1 l1.length c1 rfl (h1.keepsNil hK3) rfl (fun h => ⟨by rw [(n1 h).1]; rfl, (n1 h).2⟩) (by first | omega | (simp; omega)) hs3 ?_); intro v4 w4 hO4 hG4 hB4)
          have hK4 := hK3.grown hG4 (fun y hy => .inr (hO3.ge y hy))
          go_wp2_with fail
          go_roundw
          case rel => exact ⟨hK4, .inr (.inl ⟨rfl, hO4⟩)⟩
          case measure => simp [intOf]
        · have hs3 := hK3.size
          have f0 := hK3.cell e1
          go_wp2_with (at_builtin; (refine wpList_append_bytes rfl _ _ rfl hO3 rfl a2 l2.length c2 rfl (h2.keepsNil hK3) rfl (fun h => ⟨by rw [(n2 h).1]; rfl, (n2 h).2⟩) (by first | omega | (simp; omega)) hs3 ?_); intro v4 w4 hO4 hG4 hB4)
          have hK4 := hK3.grown hG4 (fun y hy => .inr (hO3.ge y hy))
          go_wp2_with fail
          go_roundw
          case rel => exact ⟨hK4, .inr (.inr (.inl ⟨rfl, hO4⟩))⟩
          case measure => simp [intOf]
        · have hs3 := hK3.size
          have f0 := hK3.cell e2
          go_wp2_with (at_builtin; (refine wpList_append_bytes rfl _ _ rfl hO3 rfl a3 l3.length c3 rfl (h3.keepsNil hK3) rfl (fun h => ⟨by rw [(n3 h).1]; rfl, (n3 h).2⟩) (by first | omega | (simp; omega)) hs3 ?_); intro v4 w4 hO4 hG4 hB4)
          have hK4 := hK3.grown hG4 (fun y hy => .inr (hO3.ge y hy))
          go_wp2_with fail
          go_roundw
          case rel => exact ⟨hK4, .inr (.inr (.inr ⟨rfl, hO4⟩))⟩
          case measure => simp [intOf]
        · go_wp2_with fail
          go_ret
          exact ⟨_, rfl, hO3, hK3⟩

end Go.Proofs.Ytghgmchgbhdldaa
