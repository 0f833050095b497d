/-
  CrcM: sums that tell slips, as plain functions; what they come to. No program here.
-/
import Derived.Test.YtghgmchgbhdldaaBase
namespace Go.Proofs.Ytghgmchgbhdldaa
open Go.RowKit

def crcBit (c : UInt32) : UInt32 := (c >>> 1) ^^^ (3988292384 * (c &&& 1))
def crcBits : Nat → UInt32 → UInt32
  | 0, c => c
  | n + 1, c => crcBits n (crcBit c)
def crcByte (c : UInt32) (x : UInt8) : UInt32 := crcBits 8 (c ^^^ x.toUInt32)
def crcFold (c : UInt32) (l : List UInt8) : UInt32 := l.foldl crcByte c
def crcAdd (s : UInt32) (l : List UInt8) : UInt32 := ~~~ (crcFold (~~~ s) l)

def crcSum (l : List UInt8) : UInt32 := crcAdd 0 l
/-- A number in four bytes, the greatest first. -/
def be4 (s : UInt32) : List UInt8 := [(s >>> 24).toUInt8, (s >>> 16).toUInt8, (s >>> 8).toUInt8, s.toUInt8]

def crcPut (l : List UInt8) : List UInt8 := l ++ be4 (crcSum l)

/-- What stands ahead of a sum that is right. -/
def crcRight (l : List UInt8) : Option (List UInt8) :=
  if l.length < 4 then none else if crcPut (l.take (l.length - 4)) = l then some (l.take (l.length - 4)) else none

theorem be4_24 (s : UInt32) : (s.toNat : Int) / 16777216 % 256 = (((s >>> 24).toUInt8).toNat : Int) := by
  rw [UInt32.toNat_toUInt8, UInt32.toNat_shiftRight]
  show _ = (((s.toNat >>> 24) % 256 : Nat) : Int)
  rw [Nat.shiftRight_eq_div_pow]
  omega
theorem be4_16 (s : UInt32) : (s.toNat : Int) / 65536 % 256 = (((s >>> 16).toUInt8).toNat : Int) := by
  rw [UInt32.toNat_toUInt8, UInt32.toNat_shiftRight]
  show _ = (((s.toNat >>> 16) % 256 : Nat) : Int)
  rw [Nat.shiftRight_eq_div_pow]
  omega
theorem be4_8 (s : UInt32) : (s.toNat : Int) / 256 % 256 = (((s >>> 8).toUInt8).toNat : Int) := by
  rw [UInt32.toNat_toUInt8, UInt32.toNat_shiftRight]
  show _ = (((s.toNat >>> 8) % 256 : Nat) : Int)
  rw [Nat.shiftRight_eq_div_pow]
  omega
theorem be4_0 (s : UInt32) : (s.toNat : Int) % 256 = ((s.toUInt8).toNat : Int) := by
  rw [UInt32.toNat_toUInt8]
  omega

theorem B8_24 (s : UInt32) : [Value.int .u8 ((s.toNat : Int) / (16777216 : Int) % (256 : Int))] = [B8 ((s >>> 24).toUInt8)] := congrArg (fun z => [Value.int .u8 z]) (be4_24 s)
theorem B8_16 (s : UInt32) : [Value.int .u8 ((s.toNat : Int) / (65536 : Int) % (256 : Int))] = [B8 ((s >>> 16).toUInt8)] := congrArg (fun z => [Value.int .u8 z]) (be4_16 s)
theorem B8_8 (s : UInt32) : [Value.int .u8 ((s.toNat : Int) / (256 : Int) % (256 : Int))] = [B8 ((s >>> 8).toUInt8)] := congrArg (fun z => [Value.int .u8 z]) (be4_8 s)
theorem B8_0 (s : UInt32) : [Value.int .u8 ((s.toNat : Int) % (256 : Int))] = [B8 s.toUInt8] := congrArg (fun z => [Value.int .u8 z]) (be4_0 s)
theorem be4_len (s : UInt32) : (be4 s).length = 4 := rfl
theorem crcPut_len (l : List UInt8) : (crcPut l).length = l.length + 4 := by simp [crcPut, be4]

theorem crcRight_put (l : List UInt8) : crcRight (crcPut l) = some l := by
  unfold crcRight
  have h : (crcPut l).take ((crcPut l).length - 4) = l := by
    rw [crcPut_len, Nat.add_sub_cancel]; simp [crcPut]
  rw [if_neg (by rw [crcPut_len]; omega), h, if_pos rfl]

theorem crcRight_some {l m : List UInt8} (h : crcRight l = some m) : l = crcPut m ∧ m = l.take (l.length - 4) ∧ 4 ≤ l.length := by
  unfold crcRight at h
  split at h
  · cases h
  · split at h
    · rename_i h1 h2
      simp only [Option.some.injEq] at h
      subst h
      exact ⟨h2.symm, rfl, by omega⟩
    · cases h

/-! Each step is one to one: the polynomial's top bit is set. -/

theorem shr1_toNat (a : UInt32) : (a >>> 1).toNat = a.toNat / 2 := by
  rw [UInt32.toNat_shiftRight]
  show a.toNat >>> 1 = _
  rw [Nat.shiftRight_eq_div_pow]
theorem and1_toNat (a : UInt32) : (a &&& 1).toNat = a.toNat % 2 := by
  rw [UInt32.toNat_and]
  show a.toNat &&& 1 = _
  rw [Nat.and_one_is_mod]

theorem crcBit_cases (a : UInt32) : (a.toNat % 2 = 0 ∧ crcBit a = a >>> 1) ∨ (a.toNat % 2 = 1 ∧ crcBit a = (a >>> 1) ^^^ 3988292384) := by
  have h := and1_toNat a
  rcases Nat.mod_two_eq_zero_or_one a.toNat with h0 | h0
  · left
    refine ⟨h0, ?_⟩
    have : a &&& 1 = 0 := by apply UInt32.toNat_inj.1; rw [h, h0]; rfl
    unfold crcBit
    rw [this]
    simp
  · right
    refine ⟨h0, ?_⟩
    have : a &&& 1 = 1 := by apply UInt32.toNat_inj.1; rw [h, h0]; rfl
    unfold crcBit
    rw [this]
    simp

theorem eq_of_half {a b : UInt32} (h1 : a.toNat / 2 = b.toNat / 2) (h2 : a.toNat % 2 = b.toNat % 2) : a = b := by
  apply UInt32.toNat_inj.1; omega

theorem top_ne (a b : UInt32) : (a >>> 1) ≠ (b >>> 1) ^^^ 3988292384 := by
  intro h
  have h1 := congrArg (fun x => x.toNat.testBit 31) h
  simp only [UInt32.toNat_xor, Nat.testBit_xor] at h1
  have t (c : UInt32) : (c >>> 1).toNat.testBit 31 = false := by
    apply Nat.testBit_lt_two_pow
    rw [shr1_toNat]; have := c.toNat_lt; omega
  rw [t, t] at h1
  revert h1
  decide

theorem crcBit_inj {a b : UInt32} (h : crcBit a = crcBit b) : a = b := by
  rcases crcBit_cases a with ⟨ha, ea⟩ | ⟨ha, ea⟩ <;> rcases crcBit_cases b with ⟨hb, eb⟩ | ⟨hb, eb⟩ <;> rw [ea, eb] at h
  · have := congrArg UInt32.toNat h
    rw [shr1_toNat, shr1_toNat] at this
    exact eq_of_half this (by omega)
  · exact absurd h (top_ne a b)
  · exact absurd h.symm (top_ne b a)
  · have h' : a >>> 1 = b >>> 1 := by
      have := congrArg (fun x => x ^^^ (3988292384 : UInt32)) h
      simpa [UInt32.xor_assoc] using this
    have := congrArg UInt32.toNat h'
    rw [shr1_toNat, shr1_toNat] at this
    exact eq_of_half this (by omega)

theorem crcBits_inj (n : Nat) : ∀ {a b : UInt32}, crcBits n a = crcBits n b → a = b := by
  induction n with
  | zero => intro a b h; exact h
  | succ n ih => intro a b h; exact crcBit_inj (ih h)

theorem crcByte_inj {a b : UInt32} {x : UInt8} (h : crcByte a x = crcByte b x) : a = b := by
  have := crcBits_inj 8 h
  have := congrArg (fun y => y ^^^ x.toUInt32) this
  simpa [UInt32.xor_assoc] using this

theorem crcFold_inj (l : List UInt8) : ∀ {a b : UInt32}, crcFold a l = crcFold b l → a = b := by
  induction l with
  | nil => intro a b h; exact h
  | cons x xs ih => intro a b h; exact crcByte_inj (ih h)

theorem crcFold_append (c : UInt32) (l m : List UInt8) : crcFold c (l ++ m) = crcFold (crcFold c l) m := by
  unfold crcFold; rw [List.foldl_append]

theorem not32_inj {a b : UInt32} (h : ~~~ a = ~~~ b) : a = b := by simpa using h

/-- Two heads that a sum tells apart are told apart whatever stands behind them. -/
theorem crcSum_heads {l m r : List UInt8} (h : crcSum (l ++ r) = crcSum (m ++ r)) : crcFold (~~~ 0) l = crcFold (~~~ 0) m := by
  unfold crcSum crcAdd at h
  have := not32_inj h
  rw [crcFold_append, crcFold_append] at this
  exact crcFold_inj r this

theorem be4_inj {a b : UInt32} (h : be4 a = be4 b) : a = b := by
  unfold be4 at h
  simp only [List.cons.injEq, and_true] at h
  obtain ⟨h1, h2, h3, h4⟩ := h
  have t (x : UInt32) : ((x >>> 24).toUInt8).toNat = x.toNat / 16777216 % 256 ∧ ((x >>> 16).toUInt8).toNat = x.toNat / 65536 % 256 ∧ ((x >>> 8).toUInt8).toNat = x.toNat / 256 % 256 ∧ (x.toUInt8).toNat = x.toNat % 256 := by
    have := be4_24 x; have := be4_16 x; have := be4_8 x; have := be4_0 x
    omega
  have ha := t a
  have hb := t b
  rw [h1, h2, h3, h4] at ha
  have := a.toNat_lt
  have := b.toNat_lt
  apply UInt32.toNat_inj.1
  omega

end Go.Proofs.Ytghgmchgbhdldaa
