/-
  Wh: package wheel, walked: wide, places, at, word, number.
-/
import Derived.Test.YtghgmchgbhdldaaFlashN
import Derived.Test.YtghgmchgbhdldaaCrc
import Derived.Test.YtghgmchgbhdldaaWhM
import Derived.Test.YtghgmchgbhdldaaNumB
import Derived.BigQuiet
set_option linter.unusedVariables false
namespace Go.Proofs.Ytghgmchgbhdldaa
open Go.RowKit
attribute [local go_sem ↓] Go.wp_at_zero Go.wp_at_succ

set_option maxRecDepth 100000 in
theorem wide_calls {w : World} {u s : Nat} (h : w.cell? ⟨u, 2, none⟩ = some (.int .i64 s)) (hs : s ≤ 16) :
    Calls Try.prog 59 #[.pointer (some ⟨u, 0, none⟩)] w fun e w' => e = .returned (.int .i64 (wide s)) ∧ w = w' := by
  go_enter Try.func59, Try.ntmps59
  go_wp2_with fail
  go_ret
  exact ⟨rfl, rfl⟩

set_option maxRecDepth 100000 in
theorem places_calls {w : World} {u s : Nat} (h : w.cell? ⟨u, 2, none⟩ = some (.int .i64 s)) (hs : s ≤ 16) :
    Calls Try.prog 56 #[.pointer (some ⟨u, 0, none⟩)] w fun e w' => e = .returned (.int .i64 (places s)) ∧ w = w' := by
  have hC := wide_calls h hs
  have hw : 1 ≤ wide s ∧ wide s ≤ 29 := ⟨by unfold wide; omega, by unfold wide; omega⟩
  have hp : places s = 256 / wide s := rfl
  rw [hp]
  generalize wide s = W at *
  clear hp h hs
  go_enter Try.func56, Try.ntmps56
  go_wp2_with fail
  refine hC.mono ?_
  rintro e w' ⟨rfl, rfl⟩
  go_wp2_with fail
  go_ret
  exact ⟨rfl, rfl⟩

set_option maxRecDepth 100000 in
set_option maxHeartbeats 1000000 in
theorem whAt_calls {w : World} {u s : Nat} (h : w.cell? ⟨u, 2, none⟩ = some (.int .i64 s)) (h1 : 1 ≤ s) (hs : s ≤ 16) (k : Nat) (hk : k ≤ 200) :
    Calls Try.prog 58 #[.pointer (some ⟨u, 0, none⟩), .int .i64 k] w fun e w' => e = .returned (.int .i64 (whAt s k)) ∧ ∃ n, w' = w.drewN n := by
  have hP := fun n => (places_calls (w := w.drewN n) h hs).mono (fun _ _ h => (⟨h.1, h.2.symm⟩ : _ ∧ _ = w.drewN n))
  have hW := fun n => (wide_calls (w := w.drewN n) h hs).mono (fun _ _ h => (⟨h.1, h.2.symm⟩ : _ ∧ _ = w.drewN n))
  have hw : 14 ≤ wide s ∧ wide s ≤ 29 := ⟨by unfold wide; omega, by unfold wide; omega⟩
  have hp := places_bounds h1 hs
  have e : whAt s k = (6 + k / places s) * 256 + k % places s * wide s := rfl
  rw [e]
  have hpp : 0 < places s := by omega
  have hr := Nat.mod_lt k hpp
  have hm : k % places s * wide s ≤ 18 * 29 := Nat.mul_le_mul (by omega) (by omega)
  have hd : k / places s ≤ k := Nat.div_le_self _ _
  generalize wide s = W at *
  generalize places s = P at *
  have x1 : (0 : Int) ≤ (k : Int) / (P : Int) := by rw [← Int.natCast_ediv]; exact Int.natCast_nonneg _
  have x2 : (k : Int) / (P : Int) ≤ 200 := by rw [← Int.natCast_ediv]; omega
  have x3 : (0 : Int) ≤ (k : Int) % (P : Int) := by rw [← Int.natCast_emod]; omega
  have x4 : (k : Int) % (P : Int) ≤ 18 := by rw [← Int.natCast_emod]; omega
  have x5 : (0 : Int) ≤ (k : Int) % (P : Int) * (W : Int) := by rw [← Int.natCast_emod, ← Int.natCast_mul]; omega
  have x6 : (k : Int) % (P : Int) * (W : Int) ≤ 1000 := by rw [← Int.natCast_emod, ← Int.natCast_mul]; omega
  clear hr hm hd e h
  go_enter Try.func58, Try.ntmps58
  go_wp2_with fail
  go_quiet (first
    | (go_at_call 56; exact Calls.quiet_of_same (hP _))
    | (go_at_call 59; exact Calls.quiet_of_same (hW _)))
  go_wp2_with fail
  go_ret
  exact ⟨by rw [Int.natCast_add, Int.natCast_mul, Int.natCast_add, Int.natCast_mul, Int.natCast_ediv, Int.natCast_emod]; rfl, nq, rfl⟩

theorem whAtK_calls {w : World} {u s : Nat} (h : w.cell? ⟨u, 2, none⟩ = some (.int .i64 s)) (h1 : 1 ≤ s) (hs : s ≤ 16) (k : Nat) (hk : k ≤ 200) :
    Calls Try.prog 58 #[.pointer (some ⟨u, 0, none⟩), .int .i64 k] w fun e w' => e = .returned (.int .i64 (whAt s k)) ∧ Keeps [] w w' :=
  (whAt_calls h h1 hs k hk).mono fun _ _ ⟨he, n, hn⟩ => ⟨he, hn ▸ (Keeps.refl [] w).drewN n⟩

theorem four_bytes (M : UInt32) (x0 x1 x2 x3 : Int) (h0 : x0 = (M.toNat : Int) / (16777216 : Int) % (256 : Int)) (h1 : x1 = (M.toNat : Int) / (65536 : Int) % (256 : Int)) (h2 : x2 = (M.toNat : Int) / (256 : Int) % (256 : Int)) (h3 : x3 = (M.toNat : Int) % (256 : Int)) :
    [Value.int .u8 x0, .int .u8 x1, .int .u8 x2, .int .u8 x3] = List.map B8 (be4 M) := by
  have g0 := be4_24 M
  have g1 := be4_16 M
  have g2 := be4_8 M
  have g3 := be4_0 M
  have e0 : x0 = (((M >>> 24).toUInt8).toNat : Int) := by rw [h0, ← g0]; rfl
  have e1 : x1 = (((M >>> 16).toUInt8).toNat : Int) := by rw [h1, ← g1]; rfl
  have e2 : x2 = (((M >>> 8).toUInt8).toNat : Int) := by rw [h2, ← g2]; rfl
  have e3 : x3 = ((M.toUInt8).toNat : Int) := by rw [h3, ← g3]
  rw [e0, e1, e2, e3]
  rfl

set_option maxRecDepth 100000 in
theorem word_calls {w : World} (n : UInt32) :
    Calls Try.prog 64 #[.int .u32 n.toNat] w fun e w' => e = .returned (.slice (some ⟨w.heap.size, 0, none⟩) 4 4) ∧ Own w' w.heap.size (.slice (some ⟨w.heap.size, 0, none⟩) 4 4) (be4 n) ∧ Keeps [] w w' ∧ w'.heap.size = w.heap.size + 1 := by
  have hM := n.toNat_lt
  go_enter Try.func64, Try.ntmps64
  go_wp2_with fail
  go_ret
  exact ⟨rfl, Own.lit w _ (be4 n) 4 (four_bytes n _ _ _ _ (by omega) (by omega) (by omega) (by omega)) rfl (by omega), (Keeps.refl [] w).alloc _, by simp⟩

set_option maxRecDepth 100000 in
theorem number_calls' {w : World} {g o n c : Nat} (l : List UInt8) (hl : Rd w (some ⟨g, o, none⟩) l) (h4 : 4 ≤ l.length) (hn : n = l.length) :
    Calls Try.prog 130 #[.slice (some ⟨g, o, none⟩) n c] w fun e w' => e = .returned (B32 (num4 l)) ∧ ∃ n, w' = w.drewN n := by
  have x : ∀ i, i < 4 → w.cell? ⟨g, o + i, none⟩ = some (B8 (l.getD i 0)) := by
    intro i hi
    obtain ⟨b, o', he, hc⟩ := hl i (l.getD i 0) (by rw [List.getD, List.getElem?_eq_getElem (by omega)]; rfl)
    simp only [Option.some.injEq, Addr.mk.injEq] at he
    obtain ⟨rfl, rfl, _⟩ := he
    exact hc
  have x0 : w.cell? ⟨g, o, none⟩ = _ := x 0 (by omega)
  have x1 := x 1 (by omega)
  have x2 := x 2 (by omega)
  have x3 := x 3 (by omega)
  have e : num4 l = be32 (l.getD 0 0) (l.getD 1 0) (l.getD 2 0) (l.getD 3 0) := rfl
  rw [e]
  generalize l.getD 0 0 = b0 at *
  generalize l.getD 1 0 = b1 at *
  generalize l.getD 2 0 = b2 at *
  generalize l.getD 3 0 = b3 at *
  generalize hnum : be32 b0 b1 b2 b3 = num at *
  have Hn := Lib.hid hnum
  clear hnum
  have h4' : (4 : Int) ≤ (n : Int) := by omega
  have i0 : (0 : Int) < (n : Int) := by omega
  have i1 : (1 : Int) < (n : Int) := by omega
  have i2 : (2 : Int) < (n : Int) := by omega
  have i3 : (3 : Int) < (n : Int) := by omega
  clear x e hl h4 hn
  go_enter Try.func130, Try.ntmps130
  go_wp2_with fail
  go_quiet (fail)
  rw [num_bits b0 b1 b2 b3, Hn.out]
  go_wp2_with fail
  go_ret
  exact ⟨rfl, nq, rfl⟩

end Go.Proofs.Ytghgmchgbhdldaa
