/-
  RShaT: the reference's SHA-256 computes the same: bits, words, lengths. No program here.
-/
import Derived.Test.YthjojkkjdaoocaaShaM
import Derived.Test.YthjojkkjdaoocaaRefC
set_option linter.unusedVariables false
set_option linter.unusedSimpArgs false
namespace Go.Proofs.Ythjojkkjdaoocaa
open Go.RowKit

theorem rturn_eq (n : Nat) (x : UInt32) : (x >>> UInt32.ofNat n) ||| (x <<< UInt32.ofNat (32 - n)) = rotr n x := UInt32.or_comm _ _

theorem ch_xor (e f g : UInt32) : (e &&& f) ^^^ (~~~ e &&& g) = (e &&& f) ||| (~~~ e &&& g) := by
  apply UInt32.toBitVec_inj.1
  simp only [UInt32.toBitVec_xor, UInt32.toBitVec_and, UInt32.toBitVec_or, UInt32.toBitVec_not]
  ext i hi
  simp only [BitVec.getElem_xor, BitVec.getElem_and, BitVec.getElem_or, BitVec.getElem_not]
  cases e.toBitVec[i] <;> cases f.toBitVec[i] <;> cases g.toBitVec[i] <;> rfl

theorem mj_xor (a b c : UInt32) : ((a &&& b) ^^^ (a &&& c)) ^^^ (b &&& c) = ((a &&& b) ||| (a &&& c)) ||| (b &&& c) := by
  apply UInt32.toBitVec_inj.1
  simp only [UInt32.toBitVec_xor, UInt32.toBitVec_and, UInt32.toBitVec_or]
  ext i hi
  simp only [BitVec.getElem_xor, BitVec.getElem_and, BitVec.getElem_or]
  cases a.toBitVec[i] <;> cases b.toBitVec[i] <;> cases c.toBitVec[i] <;> rfl

theorem wNew_ref (W : List UInt32) (i : Nat) : W.getD (i - 16) 0 + sgB (W.getD (i - 15) 0) + W.getD (i - 7) 0 + sgA (W.getD (i - 2) 0) = wNew W i := by
  unfold wNew
  generalize W.getD (i - 16) 0 = a
  generalize sgB (W.getD (i - 15) 0) = b
  generalize W.getD (i - 7) 0 = c
  generalize sgA (W.getD (i - 2) 0) = d
  ac_rfl

theorem getD_set32 (l : List UInt32) (i j : Nat) (x : UInt32) (hi : i < l.length) : (l.set i x).getD j 0 = if i = j then x else l.getD j 0 := by
  by_cases h : i = j
  · subst h; rw [if_pos rfl, List.getD, List.getElem?_set_self hi]; rfl
  · rw [if_neg h, List.getD, List.getD, List.getElem?_set_ne h]

theorem wBytes_zero (l : List UInt8) (m : Nat) (hm : m < 64) : ∀ k, k ≤ 4 * m → (wBytes l k).getD m 0 = 0
  | 0, _ => by
    show (List.replicate 64 (0 : UInt32)).getD m 0 = 0
    rw [List.getD, List.getElem?_replicate, if_pos hm]; rfl
  | k + 1, h => by
    have := wBytes_zero l m hm k (by omega)
    unfold wBytes wPut
    rw [getD_set32 _ _ _ _ (by rw [wBytes_len]; omega), if_neg (by omega)]
    exact this

theorem wPut_at (W : List UInt32) (hW : W.length = 64) (i r : Nat) (hi : i < 64) (hr : r < 4) (c : UInt8) : wPut W (4 * i + r) c = W.set i ((W.getD i 0 <<< 8) ||| c.toUInt32) := by
  unfold wPut
  rw [show (4 * i + r) / 4 = i from by omega]

theorem wBytes_four (l : List UInt8) (i : Nat) (hi : i < 16) (hl : 4 * i + 4 ≤ l.length) : wBytes l (4 * (i + 1)) = (wBytes l (4 * i)).set i (numFold ((l.drop (4 * i)).take 4)) := by
  have h0 := wBytes_zero l i (by omega) (4 * i) (Nat.le_refl _)
  have hW := wBytes_len l (4 * i)
  have e : wBytes l (4 * (i + 1)) = wPut (wPut (wPut (wPut (wBytes l (4 * i)) (4 * i + 0) (l.getD (4 * i + 0) 0)) (4 * i + 1) (l.getD (4 * i + 1) 0)) (4 * i + 2) (l.getD (4 * i + 2) 0)) (4 * i + 3) (l.getD (4 * i + 3) 0) := by
    rw [show 4 * (i + 1) = 4 * i + 3 + 1 from by omega]
    rfl
  have ht : (l.drop (4 * i)).take 4 = [l.getD (4 * i + 0) 0, l.getD (4 * i + 1) 0, l.getD (4 * i + 2) 0, l.getD (4 * i + 3) 0] := by
    apply List.ext_getElem?
    intro j
    rw [List.getElem?_take]
    have hg : ∀ r, r < 4 → l[4 * i + r]? = some (l.getD (4 * i + r) 0) := fun r hr => by
      rw [List.getD, List.getElem?_eq_getElem (by omega)]; rfl
    match j with
    | 0 => rw [if_pos (by omega), List.getElem?_drop, hg 0 (by omega)]; rfl
    | 1 => rw [if_pos (by omega), List.getElem?_drop, hg 1 (by omega)]; rfl
    | 2 => rw [if_pos (by omega), List.getElem?_drop, hg 2 (by omega)]; rfl
    | 3 => rw [if_pos (by omega), List.getElem?_drop, hg 3 (by omega)]; rfl
    | j + 4 => rw [if_neg (by omega)]; rfl
  rw [e, ht]
  generalize wBytes l (4 * i) = W at *
  generalize l.getD (4 * i + 0) 0 = x0
  generalize l.getD (4 * i + 1) 0 = x1
  generalize l.getD (4 * i + 2) 0 = x2
  generalize l.getD (4 * i + 3) 0 = x3
  have hn : ∀ x : UInt32, (W.set i x).length = 64 := fun x => by rw [List.length_set, hW]
  have hg : ∀ x : UInt32, (W.set i x).getD i 0 = x := fun x => by rw [getD_set32 _ _ _ _ (by omega), if_pos rfl]
  rw [wPut_at W hW i 0 (by omega) (by omega), wPut_at _ (hn _) i 1 (by omega) (by omega), hg, List.set_set, wPut_at _ (hn _) i 2 (by omega) (by omega), hg, List.set_set, wPut_at _ (hn _) i 3 (by omega) (by omega), hg, List.set_set, h0]
  rfl

theorem bits8_four (n : Nat) : bits8 n = be4 (UInt32.ofNat (n * 8 / 4294967296)) ++ be4 (UInt32.ofNat (n * 8)) := by
  have hb : ∀ (x : UInt32), be4 x = [UInt8.ofNat (x.toNat / 16777216), UInt8.ofNat (x.toNat / 65536), UInt8.ofNat (x.toNat / 256), UInt8.ofNat x.toNat] := fun x => by
    unfold be4
    have e : ∀ (y : UInt32) (m : Nat), y.toNat = m → y.toUInt8 = UInt8.ofNat m := fun y m h => by
      apply UInt8.toNat_inj.1
      rw [UInt32.toNat_toUInt8, UInt8.toNat_ofNat', h]
    rw [e (x >>> 24) (x.toNat / 16777216) (by rw [UInt32.toNat_shiftRight]; exact Nat.shiftRight_eq_div_pow _ _), e (x >>> 16) (x.toNat / 65536) (by rw [UInt32.toNat_shiftRight]; exact Nat.shiftRight_eq_div_pow _ _), e (x >>> 8) (x.toNat / 256) (by rw [UInt32.toNat_shiftRight]; exact Nat.shiftRight_eq_div_pow _ _), e x x.toNat rfl]
  rw [hb, hb, UInt32.toNat_ofNat', UInt32.toNat_ofNat']
  have e8 : ∀ a b : Nat, a % 256 = b % 256 → UInt8.ofNat a = UInt8.ofNat b := fun a b h => by
    apply UInt8.toNat_inj.1
    rw [UInt8.toNat_ofNat', UInt8.toNat_ofNat']; exact h
  unfold bits8
  show [_, _, _, _, _, _, _, _] = [_, _, _, _, _, _, _, _]
  generalize n * 8 = N
  rw [e8 (N / 2 ^ 56) (N / 4294967296 % 2 ^ 32 / 16777216) (by omega), e8 (N / 2 ^ 48) (N / 4294967296 % 2 ^ 32 / 65536) (by omega), e8 (N / 2 ^ 40) (N / 4294967296 % 2 ^ 32 / 256) (by omega), e8 (N / 2 ^ 32) (N / 4294967296 % 2 ^ 32) (by omega), e8 (N / 2 ^ 24) (N % 2 ^ 32 / 16777216) (by omega), e8 (N / 2 ^ 16) (N % 2 ^ 32 / 65536) (by omega), e8 (N / 2 ^ 8) (N % 2 ^ 32 / 256) (by omega), e8 N (N % 2 ^ 32) (by omega)]

theorem size_hi (n : Nat) (hm : n ≤ 70368744177664) (v : Int) (hv : v = (n : Int) * 8 / 4294967296) : Value.int .u32 v = B32 (UInt32.ofNat (n * 8 / 4294967296)) := by
  subst hv
  show _ = Value.int .u32 _
  refine congrArg (Value.int .u32) ?_
  rw [UInt32.toNat_ofNat']
  omega
theorem size_lo (n : Nat) (v : Int) (hv : v = (n : Int) * 8 % 4294967296) : Value.int .u32 v = B32 (UInt32.ofNat (n * 8)) := by
  subst hv
  show _ = Value.int .u32 _
  refine congrArg (Value.int .u32) ?_
  rw [UInt32.toNat_ofNat']
  omega

end Go.Proofs.Ythjojkkjdaoocaa
