/-
  CellT: what the plain functions of the cell come to, wherever power goes.
-/
import Derived.Test.YtghgmchgbhdldaaSecT
import Derived.Test.YtghgmchgbhdldaaCellM
import Derived.Test.YtghgmchgbhdldaaCrcT
set_option linter.unusedVariables false
set_option linter.unusedSimpArgs false
namespace Go.Proofs.Ytghgmchgbhdldaa
open Go.RowKit

theorem or_place (x e k : Nat) (he : e < 2 ^ k) : (x <<< k) ||| e = x * 2 ^ k + e := by
  rw [← Nat.shiftLeft_add_eq_or_of_lt he, Nat.shiftLeft_eq]

theorem be32_toNat (a b c d : UInt8) : (be32 a b c d).toNat = a.toNat * 16777216 + b.toNat * 65536 + c.toNat * 256 + d.toNat := by
  have ha := a.toNat_lt
  have hb := b.toNat_lt
  have hc := c.toNat_lt
  have hd := d.toNat_lt
  unfold be32
  rw [UInt32.toNat_or, UInt32.toNat_or, UInt32.toNat_or]
  have s (x : UInt8) (k : Nat) (hk : k = 24 ∨ k = 16 ∨ k = 8) : (x.toUInt32 <<< (UInt32.ofNat k)).toNat = x.toNat <<< k := by
    rw [UInt32.toNat_shiftLeft, UInt8.toNat_toUInt32]
    have hx := x.toNat_lt
    rcases hk with rfl | rfl | rfl
    · show x.toNat <<< 24 % 4294967296 = _
      rw [Nat.shiftLeft_eq]; omega
    · show x.toNat <<< 16 % 4294967296 = _
      rw [Nat.shiftLeft_eq]; omega
    · show x.toNat <<< 8 % 4294967296 = _
      rw [Nat.shiftLeft_eq]; omega
  have s1 : (a.toUInt32 <<< (24 : UInt32)).toNat = a.toNat <<< 24 := s a 24 (.inl rfl)
  have s2 : (b.toUInt32 <<< (16 : UInt32)).toNat = b.toNat <<< 16 := s b 16 (.inr (.inl rfl))
  have s3 : (c.toUInt32 <<< (8 : UInt32)).toNat = c.toNat <<< 8 := s c 8 (.inr (.inr rfl))
  rw [s1, s2, s3, UInt8.toNat_toUInt32]
  have e1 : a.toNat <<< 24 ||| b.toNat <<< 16 = (a.toNat * 256 + b.toNat) <<< 16 := by
    rw [Nat.shiftLeft_eq b.toNat, or_place _ _ 24 (by omega), Nat.shiftLeft_eq]; omega
  have e2 : (a.toNat * 256 + b.toNat) <<< 16 ||| c.toNat <<< 8 = ((a.toNat * 256 + b.toNat) * 256 + c.toNat) <<< 8 := by
    rw [Nat.shiftLeft_eq c.toNat, or_place _ _ 16 (by omega), Nat.shiftLeft_eq]; omega
  rw [e1, e2, or_place _ _ 8 (by omega)]
  omega

theorem be4_bytes (n : UInt32) : ((n >>> 24).toUInt8).toNat = n.toNat / 16777216 ∧ ((n >>> 16).toUInt8).toNat = n.toNat / 65536 % 256 ∧ ((n >>> 8).toUInt8).toNat = n.toNat / 256 % 256 ∧ (n.toUInt8).toNat = n.toNat % 256 := by
  have := be4_24 n; have := be4_16 n; have := be4_8 n; have := be4_0 n
  have := n.toNat_lt
  omega

theorem be32_be4 (n : UInt32) : be32 (n >>> 24).toUInt8 (n >>> 16).toUInt8 (n >>> 8).toUInt8 n.toUInt8 = n := by
  apply UInt32.toNat_inj.1
  obtain ⟨h1, h2, h3, h4⟩ := be4_bytes n
  rw [be32_toNat, h1, h2, h3, h4]
  omega

theorem cellOut_len (n : UInt32) (b : List UInt8) : (Fla.cellOut n b).length = 10 + b.length := by
  unfold Fla.cellOut; rw [crcPut_len]; simp [be4]; omega

def cellHead (n : UInt32) (b : List UInt8) : List UInt8 := be4 n ++ [UInt8.ofNat (b.length / 256), UInt8.ofNat b.length] ++ b
theorem cellOut_eq (n : UInt32) (b : List UInt8) : Fla.cellOut n b = cellHead n b ++ be4 (crcSum (cellHead n b)) := rfl

/-- A sector whose copy is n, b; the first k bytes were erased since. -/
def Headed (s : List UInt8) (n : UInt32) (b : List UInt8) (k : Nat) : Prop :=
  b.length ≤ 245 ∧ k ≤ 4 ∧ ∃ r, r.length = 245 - b.length ∧ s = worn (Fla.cellOut n b ++ 0 :: r) k

/-- A sector that says no copy, and says none either where its first bytes are erased. -/
def Dead (s : List UInt8) : Prop := s.length = 256 ∧ (cpLen s > 245 ∨ s.getD (10 + cpLen s) 0 ≠ 0)

theorem Dead.copy {s : List UInt8} (h : Dead s) : cellCopy s = none := by
  unfold cellCopy
  rcases h.2 with h | h
  · rw [if_pos h]
  · split
    · rfl
    · rfl
    
theorem getD_app_left {l m : List UInt8} {i : Nat} (h : i < l.length) : (l ++ m).getD i 0 = l.getD i 0 := by
  rw [List.getD, List.getD, List.getElem?_append_left h]

theorem out_getD {n : UInt32} {b m : List UInt8} {i : Nat} (h : i < 6) : (Fla.cellOut n b ++ m).getD i 0 = (be4 n ++ [UInt8.ofNat (b.length / 256), UInt8.ofNat b.length]).getD i 0 := by
  rw [cellOut_eq, cellHead]
  simp only [List.append_assoc]
  rw [← List.append_assoc (be4 n)]
  exact getD_app_left (by simp [be4]; omega)

theorem out_cpLen {n : UInt32} {b m : List UInt8} (hb : b.length ≤ 245) : cpLen (Fla.cellOut n b ++ m) = b.length := by
  unfold cpLen
  rw [out_getD (by omega), out_getD (by omega)]
  show (UInt8.ofNat (b.length / 256)).toNat * 256 + (UInt8.ofNat b.length).toNat = _
  rw [UInt8.toNat_ofNat', UInt8.toNat_ofNat']
  omega

theorem cpLen_worn {s : List UInt8} {k : Nat} (hk : k ≤ 4) (hs : s.length = 256) : cpLen (worn s k) = cpLen s := by
  unfold cpLen
  rw [worn_getD (by omega), worn_getD (by omega), if_neg (by omega), if_neg (by omega)]

theorem cpLen_dead {s : List UInt8} (h : s.getD 4 0 = 255) : cpLen s > 245 := by
  unfold cpLen; rw [h]; show 255 * 256 + _ > 245; omega

theorem Dead.wornTo {s : List UInt8} (h : Dead s) {k : Nat} (hk : k ≤ 256) : Dead (worn s k) := by
  refine ⟨by rw [worn_len (by rw [h.1]; exact hk), h.1], ?_⟩
  by_cases h4 : k ≤ 4
  · rw [cpLen_worn h4 h.1, worn_getD (by rw [h.1]; exact hk), if_neg (by omega)]
    exact h.2
  · left
    apply cpLen_dead
    rw [worn_getD (by rw [h.1]; exact hk), if_pos (by omega)]

theorem Headed.len {s : List UInt8} {n : UInt32} {b : List UInt8} {k : Nat} (h : Headed s n b k) : s.length = 256 := by
  obtain ⟨hb, hk, r, hr, rfl⟩ := h
  have : (Fla.cellOut n b ++ 0 :: r).length = 256 := by rw [List.length_append, cellOut_len, List.length_cons, hr]; omega
  rw [worn_len (by omega), this]

theorem Headed.wornTo {s : List UInt8} {n : UInt32} {b : List UInt8} {k : Nat} (h : Headed s n b k) {m : Nat} (hm : m ≤ 256) : (∃ j, Headed (worn s m) n b j) ∨ Dead (worn s m) := by
  have hl := h.len
  obtain ⟨hb, hk, r, hr, rfl⟩ := h
  have : (Fla.cellOut n b ++ 0 :: r).length = 256 := by rw [List.length_append, cellOut_len, List.length_cons, hr]; omega
  by_cases h4 : m ≤ 4
  · left
    exact ⟨max k m, hb, by omega, r, hr, by rw [worn_worn (by omega) (by omega)]⟩
  · right
    refine ⟨by rw [worn_len (by omega), hl], .inl (cpLen_dead ?_)⟩
    rw [worn_getD (by omega), if_pos (by omega)]

theorem Headed.copy0 {s : List UInt8} {n : UInt32} {b : List UInt8} (h : Headed s n b 0) : cellCopy s = some (n, b) := by
  obtain ⟨hb, _, r, hr, rfl⟩ := h
  have hw : worn (Fla.cellOut n b ++ 0 :: r) 0 = Fla.cellOut n b ++ 0 :: r := by unfold worn; simp
  rw [hw]
  have hn := out_cpLen (n := n) (m := 0 :: r) hb
  have ht : (Fla.cellOut n b ++ 0 :: r).take (10 + b.length) = Fla.cellOut n b := by
    rw [← cellOut_len n b]; exact List.take_left' rfl
  have hg : (Fla.cellOut n b ++ 0 :: r).getD (10 + b.length) 0 = 0 := by
    rw [List.getD, List.getElem?_append_right (by rw [cellOut_len]; omega), cellOut_len, Nat.sub_self]; rfl
  unfold cellCopy
  rw [hn, if_neg (by omega), hg, if_neg (by simp), ht]
  have hr : crcRight (Fla.cellOut n b) = some (cellHead n b) := crcRight_put _
  rw [hr, Option.map_some]
  congr 2
  · unfold num4
    rw [out_getD (by omega), out_getD (by omega), out_getD (by omega), out_getD (by omega)]
    exact be32_be4 n

theorem Headed.copyk {s : List UInt8} {n : UInt32} {b : List UInt8} {k : Nat} (h : Headed s n b k) (hk : k ≠ 0) (hn : n.toNat < 16777216) : cellCopy s = none := by
  obtain ⟨hb, hk4, r, hr, rfl⟩ := h
  have hl : (Fla.cellOut n b ++ 0 :: r).length = 256 := by rw [List.length_append, cellOut_len, List.length_cons, hr]; omega
  have hc : cpLen (worn (Fla.cellOut n b ++ 0 :: r) k) = b.length := by rw [cpLen_worn hk4 hl, out_cpLen hb]
  have hg : (worn (Fla.cellOut n b ++ 0 :: r) k).getD (10 + b.length) 0 = 0 := by
    rw [worn_getD (by omega), if_neg (by omega), List.getD, List.getElem?_append_right (by rw [cellOut_len]; omega), cellOut_len, Nat.sub_self]; rfl
  have ht : (worn (Fla.cellOut n b ++ 0 :: r) k).take (10 + b.length) = worn (Fla.cellOut n b) k := by
    apply ext_getD
    · rw [List.length_take, worn_len (by omega), worn_len (by rw [cellOut_len]; omega), cellOut_len, hl]; omega
    · intro i hi
      rw [List.length_take, worn_len (by omega), hl] at hi
      rw [List.getD, List.getElem?_take, if_pos (by omega)]
      show (worn (Fla.cellOut n b ++ 0 :: r) k).getD i 0 = _
      rw [worn_getD (by omega), worn_getD (by rw [cellOut_len]; omega), getD_app_left (by rw [cellOut_len]; omega)]
  unfold cellCopy
  rw [hc, if_neg (by omega), hg, if_neg (by simp), ht]
  have hw : worn (Fla.cellOut n b) k = worn (cellHead n b) k ++ be4 (crcSum (cellHead n b)) := by
    rw [cellOut_eq]; unfold worn
    rw [List.drop_append_of_le_length (by simp [cellHead, be4]; omega), List.append_assoc]
  have hwl : (worn (cellHead n b) k).length = (cellHead n b).length := worn_len (by simp [cellHead, be4]; omega)
  rw [hw]
  unfold crcRight
  rw [if_neg (by simp [be4])]
  have htk : ((worn (cellHead n b) k ++ be4 (crcSum (cellHead n b))).take ((worn (cellHead n b) k ++ be4 (crcSum (cellHead n b))).length - 4)) = worn (cellHead n b) k := by
    apply List.take_left'
    rw [List.length_append, be4_len]; omega
  rw [htk]
  split
  · rename_i he
    exfalso
    unfold crcPut at he
    have h1 := List.append_cancel_left he
    have h2 := be4_inj h1
    have hd : cellHead n b = be4 n ++ ([UInt8.ofNat (b.length / 256), UInt8.ofNat b.length] ++ b) := by unfold cellHead; rw [List.append_assoc]
    have hd2 : worn (cellHead n b) k = worn (be4 n) k ++ ([UInt8.ofNat (b.length / 256), UInt8.ofNat b.length] ++ b) := by
      rw [hd]; unfold worn
      rw [List.drop_append_of_le_length (by rw [be4_len]; omega), List.append_assoc]
    rw [hd2, hd] at h2
    have h3 := crcSum_heads h2
    have h0 : ((n >>> 24).toUInt8).toNat = 0 := by rw [(be4_bytes n).1]; omega
    have hne : (n >>> 24).toUInt8 ≠ 255 := by intro e; rw [e] at h0; exact absurd h0 (by decide)
    have h3' : crcFold (~~~ 0) (worn (be4 n) k) = crcFold (~~~ 0) (be4 n) := h3
    clear h3 h2 he hd hd2 htk hw hwl ht hg hc hl
    match k, hk, hk4 with
    | 1, _, _ => exact hne (heads_inj (a0 := 255) (a1 := (n >>> 16).toUInt8) (a2 := (n >>> 8).toUInt8) (a3 := n.toUInt8) h3').1.symm
    | 2, _, _ => exact hne (heads_inj (a0 := 255) (a1 := 255) (a2 := (n >>> 8).toUInt8) (a3 := n.toUInt8) h3').1.symm
    | 3, _, _ => exact hne (heads_inj (a0 := 255) (a1 := 255) (a2 := 255) (a3 := n.toUInt8) h3').1.symm
    | 4, _, _ => exact hne (heads_inj (a0 := 255) (a1 := 255) (a2 := 255) (a3 := 255) h3').1.symm
  · rfl

end Go.Proofs.Ytghgmchgbhdldaa
