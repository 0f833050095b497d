/-
  SpM: the row of a symbol as a number: one piece, or some by chance; at least one. No program here.
-/
import Derived.Test.YtghgmchgbhdldaaSolM
import Derived.Test.YtghgmchgbhdldaaRandM
set_option linter.unusedVariables false
set_option linter.unusedSimpArgs false
namespace Go.Proofs.Ytghgmchgbhdldaa
open Go.RowKit

/-- The pieces that a symbol sums. -/
def rowL (s : UInt32) (K P : Nat) (id : UInt32) : List Nat :=
  if id.toNat < K then [id.toNat] else rsome (rstep (rseed s id)) ((K + P : Nat) : Int) ((degree (K + P) (rnext (rseed s id)) : Nat) : Int)
/-- .. as a row of bits. -/
def rowN (s : UInt32) (K P : Nat) (id : UInt32) : Nat := putL (K + P) 0 (rowL s K P id)

theorem degree_pos (n : Nat) (x : UInt32) : 1 ≤ degree n x := by unfold degree; omega

theorem rowL_rising (s : UInt32) (K P : Nat) (id : UInt32) (h1 : 1 ≤ K) (h2 : K + P ≤ 256) : (rowL s K P id).Pairwise (· < ·) ∧ (∀ x ∈ rowL s K P id, x < K + P) ∧ 1 ≤ (rowL s K P id).length ∧ (rowL s K P id).length ≤ K + P := by
  unfold rowL
  split
  · next h =>
    refine ⟨List.pairwise_singleton _ _, fun x hx => ?_, by simp, by simp; omega⟩
    obtain rfl := List.mem_singleton.1 hx
    omega
  · obtain ⟨hl, hr1, hr2⟩ := some_props (rstep (rseed s id)) ((K + P : Nat) : Int) ((degree (K + P) (rnext (rseed s id)) : Nat) : Int) (by omega) (by omega)
    have hd := degree_pos (K + P) (rnext (rseed s id))
    refine ⟨hr1, fun x hx => by have := hr2 x hx; omega, ?_, ?_⟩ <;> rw [hl] <;> unfold clampK <;> omega

theorem rowN_lt (s : UInt32) (K P : Nat) (id : UInt32) : rowN s K P id < 2 ^ (K + P) := putL_lt (Nat.two_pow_pos _) _
theorem rowN_bits (s : UInt32) (K P : Nat) (id : UInt32) (h1 : 1 ≤ K) (h2 : K + P ≤ 256) : bitsOf (K + P) (rowN s K P id) = rowL s K P id :=
  bitsOf_putL (rowL_rising s K P id h1 h2).1 (rowL_rising s K P id h1 h2).2.1
theorem rowN_count (s : UInt32) (K P : Nat) (id : UInt32) (h1 : 1 ≤ K) (h2 : K + P ≤ 256) : 1 ≤ (bitsOf (K + P) (rowN s K P id)).length ∧ (bitsOf (K + P) (rowN s K P id)).length ≤ K + P := by
  rw [rowN_bits s K P id h1 h2]; exact (rowL_rising s K P id h1 h2).2.2
theorem rowL_first (s : UInt32) (K P : Nat) (id : UInt32) (h : id.toNat < K) : rowL s K P id = [id.toNat] := by unfold rowL; rw [if_pos h]
theorem rowN_first (s : UInt32) (K P : Nat) (id : UInt32) (h1 : 1 ≤ K) (h2 : K + P ≤ 256) (h : id.toNat < K) : firstB (K + P) (rowN s K P id) = id.toNat ∧ (bitsOf (K + P) (rowN s K P id)).length = 1 := by
  unfold firstB
  rw [rowN_bits s K P id h1 h2, rowL_first s K P id h]
  exact ⟨rfl, rfl⟩

end Go.Proofs.Ytghgmchgbhdldaa
