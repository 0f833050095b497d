/-
  AppB: append of bytes to a slice that is the call's own.
-/
import Derived.Test.YtghgmchgbhdldaaGreatDoorBytes
import Derived.Maps.AppendAt
namespace Go.Proofs.YtghgmchgbhdldaaGreatDoor
open Go.RowKit

/-- append(v, bytes..), v the call's own. -/
theorem append_run {w : World} {B : Nat} {v : Value} {l m : List UInt8} (h : Own w B v l) (a : Option Addr) (n c : Nat) (hm : Rd w a m) (hn : m.length = n) (h0 : a = none → n = 0 ∧ c = 0)
    (hlen : l.length + n ≤ 140737488351232) (hB : B ≤ w.heap.size) (t : TypeId) :
    ∃ v' w', (Builtin.append_ #[28, 28] t #[v, .slice a n c]).run Tryz.prog w = .ok v' w' ∧ Own w' B v' (l ++ m) ∧ w.grownBy w' v.ownBlock ∧ (∀ x, v'.ownBlock = some x → v.ownBlock = some x ∨ w.heap.size ≤ x) := by
  obtain ⟨i0, hi, hz0, hz1, hz2⟩ := info_parts Tryz.info_u8
  subst hn
  cases a with
  | none =>
    obtain ⟨h1, rfl⟩ := h0 rfl
    have : m = [] := List.length_eq_zero_iff.1 h1
    subst this
    have hr := run_append_owned_none (P := Tryz.prog) (w := w) B 28 t 5 i0 1 Tryz.underlying28 hi v l.length (l.map B8) h
    exact ⟨v, w, hr, by simpa using h, ⟨rfl, rfl, rfl, Nat.le_refl _, fun _ _ _ => rfl⟩, fun x hx => .inl hx⟩
  | some x =>
    obtain ⟨v', w', hr, h2, h3, h4, h5⟩ := run_append_own_at (P := Tryz.prog) w B 28 t 5 i0 (.int .u8 0) 1 1 Tryz.underlying28 hi hz0 hz1 hz2 rfl (by decide) v l.length (l.map B8) h x m.length c (m.map B8)
      (by simp) hm.news (B8_one m) (by unfold maxLen; omega) (by omega) hB
    refine ⟨v', w', hr, by simpa [Own] using h2, h3, fun y hy => ?_⟩
    rcases h5 with h5 | h5
    · exact .inl (h5 ▸ hy)
    · rw [h5] at hy; simp at hy; exact .inr (by omega)

/-- .. at the operation, for the walk. -/
theorem wpList_append_bytes {w : World} {ops : Array Oper} {rest : List Oper} {o : Oper} {act : Act} {Q : Exit → Act → World → Prop} (hgd : o.guard = none) (s x : Operand)
    (ho : o.op = .call { callee := .builtin .append, args := #[s, x], argTypes := #[28, 28] })
    {B : Nat} {v : Value} {l m : List UInt8} (h : Own w B v l) (hs : act.eval s = v) (a : Option Addr) (n c : Nat) (hx : act.eval x = .slice a n c) (hm : Rd w a m) (hn : m.length = n) (h0 : a = none → n = 0 ∧ c = 0)
    (hlen : l.length + n ≤ 140737488351232) (hB : B ≤ w.heap.size)
    (hK : ∀ v' w', Own w' B v' (l ++ m) → w.grownBy w' v.ownBlock → (∀ x, v'.ownBlock = some x → v.ownBlock = some x ∨ w.heap.size ≤ x) → wpList Tryz.prog ops Q rest (act.put o.dst v') w') : wpList Tryz.prog ops Q (o :: rest) act w := by
  refine wpList_plain hgd fun K hK' => ?_
  obtain ⟨v', w', hrun, h1, h2, h3⟩ := append_run h a n c hm hn h0 hlen hB o.type
  unfold Oper.wp
  simp [execOp, ho, resolve, invoke, builtin, hs, hx, hrun, Result.andThen]
  exact hK' _ _ (hK v' w' h1 h2 h3)

end Go.Proofs.YtghgmchgbhdldaaGreatDoor
