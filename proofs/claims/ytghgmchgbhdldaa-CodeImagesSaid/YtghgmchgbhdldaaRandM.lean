/-
  RandM: numbers by chance, as plain functions; what they come to. No program here.
-/
import Derived.Test.YtghgmchgbhdldaaBase
set_option linter.unusedVariables false
set_option linter.unusedSimpArgs false
namespace Go.Proofs.Ytghgmchgbhdldaa
open Go.RowKit

def mixU (x : UInt32) : UInt32 :=
  let a := (x ^^^ (x >>> 16)) * 2146121005
  let b := (a ^^^ (a >>> 15)) * 2221713035
  b ^^^ (b >>> 16)

def rseed (a b : UInt32) : UInt32 := mixU a + b * 2654435769 + 1

/-- The state's next one. -/
def rstep (s : UInt32) : UInt32 :=
  let x := if s = 0 then 1 else s
  let a := x ^^^ (x <<< 13)
  let b := a ^^^ (a >>> 17)
  b ^^^ (b <<< 5)

def rnext (s : UInt32) : UInt32 := mixU (rstep s)

/-- A number below m. -/
def rlow (s : UInt32) (m : Nat) : Nat := (rnext s).toNat * m / 4294967296

theorem rlow_lt (s : UInt32) {m : Nat} (hm : 1 ≤ m) : rlow s m < m := by
  unfold rlow
  have h := (rnext s).toNat_lt
  generalize (rnext s).toNat = v at *
  have : v * m < 4294967296 * m := Nat.mul_lt_mul_of_pos_right h (by omega)
  rw [Nat.div_lt_iff_lt_mul (by omega), Nat.mul_comm m]
  exact this

def rbelow (s : UInt32) (n : Int) : Int × UInt32 := if n < 1 ∨ 2147483648 < n then (0, s) else ((rlow s n.toNat : Nat), rstep s)

def swapAt (l : List Nat) (i j : Nat) : List Nat := (l.set i (l.getD j 0)).set j (l.getD i 0)

theorem swapAt_len (l : List Nat) (i j : Nat) : (swapAt l i j).length = l.length := by unfold swapAt; simp

theorem swapAt_perm {l : List Nat} {i j : Nat} (hi : i < l.length) (hj : j < l.length) : List.Perm (swapAt l i j) l := by
  have h := List.set_set_perm hi hj
  unfold swapAt
  rwa [List.getD, List.getD, List.getElem?_eq_getElem hi, List.getElem?_eq_getElem hj]

def stepN : Nat → UInt32 → UInt32
  | 0, s => s
  | n + 1, s => stepN n (rstep s)

/-- m places more, from place i on. -/
def someLoop (n : Nat) : Nat → Nat → UInt32 → List Nat → List Nat
  | 0, _, _, l => l
  | m + 1, i, s, l => someLoop n m (i + 1) (rstep s) (swapAt l i (i + rlow s (n - i)))

theorem someLoop_perm (n : Nat) : ∀ (m i : Nat) (s : UInt32) (l : List Nat), l.length = n → i + m ≤ n → List.Perm (someLoop n m i s l) l := by
  intro m
  induction m with
  | zero => intro i s l _ _; exact List.Perm.refl _
  | succ m ih =>
    intro i s l hl him
    have h := rlow_lt s (m := n - i) (by omega)
    exact (ih _ _ _ (by rw [swapAt_len, hl]) (by omega)).trans (swapAt_perm (by omega) (by omega))

/-- How many are asked for. -/
def clampK (n k : Int) : Nat := (max 0 (min k n)).toNat

def rsome (s : UInt32) (n k : Int) : List Nat :=
  if n < 1 ∨ 256 < n then [] else ((someLoop n.toNat (clampK n k) 0 s (List.range n.toNat)).take (clampK n k)).mergeSort
def rsomeSt (s : UInt32) (n k : Int) : UInt32 := if n < 1 ∨ 256 < n then s else stepN (clampK n k) s

/-- Different ones, rising, each below n. -/
def Rising (l : List Nat) (n : Nat) : Prop := l.Pairwise (· < ·) ∧ ∀ x ∈ l, x < n

theorem sorted_rising {l : List Nat} {n : Nat} (hn : l.Nodup) (hb : ∀ x ∈ l, x < n) : Rising l.mergeSort n := by
  refine ⟨?_, fun x hx => hb x ((List.mergeSort_perm l _).mem_iff.1 hx)⟩
  have h1 : l.mergeSort.Pairwise (fun a b => decide (a ≤ b) = true) := List.pairwise_mergeSort (by intro a b c; simp; omega) (by intro a b; simp; omega) l
  have h2 : l.mergeSort.Nodup := (List.mergeSort_perm l _).nodup_iff.2 hn
  have h3 := h1.and h2
  exact h3.imp (fun {a b} h => by simp at h; omega)

theorem some_props (s : UInt32) (n k : Int) (h1 : 1 ≤ n) (h2 : n ≤ 256) : (rsome s n k).length = clampK n k ∧ Rising (rsome s n k) n.toNat := by
  have hk : clampK n k ≤ n.toNat := by unfold clampK; omega
  unfold rsome
  rw [if_neg (by omega)]
  have hp := someLoop_perm n.toNat (clampK n k) 0 s (List.range n.toNat) List.length_range (by omega)
  generalize someLoop n.toNat (clampK n k) 0 s (List.range n.toNat) = L at *
  have hl : L.length = n.toNat := by rw [hp.length_eq, List.length_range]
  refine ⟨by rw [(List.mergeSort_perm _ _).length_eq, List.length_take]; omega, ?_⟩
  have hnd : L.Nodup := hp.nodup_iff.2 List.nodup_range
  exact sorted_rising (hnd.sublist (List.take_sublist _ _)) (fun x hx => List.mem_range.1 (hp.mem_iff.1 (List.mem_of_mem_take hx)))

/-- Of all there are all. -/
theorem some_all (s : UInt32) (n : Int) (h1 : 1 ≤ n) (h2 : n ≤ 256) : rsome s n n = List.range n.toNat := by
  have hk : clampK n n = n.toNat := by unfold clampK; omega
  unfold rsome
  rw [if_neg (by omega), hk]
  have hp := someLoop_perm n.toNat n.toNat 0 s (List.range n.toNat) List.length_range (by omega)
  generalize someLoop n.toNat n.toNat 0 s (List.range n.toNat) = L at *
  have hl : L.length = n.toNat := by rw [hp.length_eq, List.length_range]
  rw [List.take_of_length_le (by omega)]
  refine List.Perm.eq_of_pairwise (le := (· ≤ ·)) (fun a b _ _ h1 h2 => by omega) ?_ ?_ ((List.mergeSort_perm L _).trans hp)
  · have h1 : L.mergeSort.Pairwise (fun a b => decide (a ≤ b) = true) := List.pairwise_mergeSort (by intro a b c; simp; omega) (by intro a b; simp; omega) L
    exact h1.imp (fun {a b} h => by simpa using h)
  · exact (List.pairwise_lt_range (n := n.toNat)).imp (fun {a b} h => by omega)

end Go.Proofs.Ytghgmchgbhdldaa
