/-
  Plain: the texts ShaM, CrcM, CrcT, RefCT, FlashM, CellM, RandM, PopT, TzT, VecM, SolM, SpM, BkM, BkL, ElM, ElS, ElD, FrameV, HeldT, one behind another.
-/
import Derived.Test.YtijhaeapoapgfaaGreatDoorBase
import Derived.Deep.RegionHeld3
namespace Go.Proofs.YtijhaeapoapgfaaGreatDoor
open Go.RowKit

def rotr (n : Nat) (x : UInt32) : UInt32 := (x <<< UInt32.ofNat (32 - n)) ||| (x >>> UInt32.ofNat n)

/-- The constants of all rounds. -/
def shaK : List UInt32 := [1116352408, 1899447441, 3049323471, 3921009573, 961987163, 1508970993, 2453635748, 2870763221, 3624381080, 310598401, 607225278, 1426881987, 1925078388, 2162078206, 2614888103, 3248222580, 3835390401, 4022224774, 264347078, 604807628, 770255983, 1249150122, 1555081692, 1996064986, 2554220882, 2821834349, 2952996808, 3210313671, 3336571891, 3584528711, 113926993, 338241895, 666307205, 773529912, 1294757372, 1396182291, 1695183700, 1986661051, 2177026350, 2456956037, 2730485921, 2820302411, 3259730800, 3345764771, 3516065817, 3600352804, 4094571909, 275423344, 430227734, 506948616, 659060556, 883997877, 958139571, 1322822218, 1537002063, 1747873779, 1955562222, 2024104815, 2227730452, 2361852424, 2428436474, 2756734187, 3204031479, 3329325298]

theorem shaK_len : shaK.length = 64 := rfl

/-- One byte into the words of a block. -/
def wPut (W : List UInt32) (i : Nat) (c : UInt8) : List UInt32 := W.set (i / 4) ((W.getD (i / 4) 0 <<< 8) ||| c.toUInt32)

/-- The words behind the first bytes. -/
def wBytes (b : List UInt8) : Nat → List UInt32
  | 0 => List.replicate 64 0
  | i + 1 => wPut (wBytes b i) i (b.getD i 0)

theorem wBytes_len (b : List UInt8) : ∀ i, (wBytes b i).length = 64
  | 0 => List.length_replicate
  | i + 1 => by unfold wBytes wPut; rw [List.length_set]; exact wBytes_len b i

def sgA (x : UInt32) : UInt32 := rotr 17 x ^^^ rotr 19 x ^^^ (x >>> 10)
def sgB (y : UInt32) : UInt32 := rotr 7 y ^^^ rotr 18 y ^^^ (y >>> 3)

/-- The word at place i, of those before it. -/
def wNew (W : List UInt32) (i : Nat) : UInt32 := sgA (W.getD (i - 2) 0) + W.getD (i - 7) 0 + sgB (W.getD (i - 15) 0) + W.getD (i - 16) 0

/-- The words, made up to place 16 + j. -/
def wExt (W : List UInt32) : Nat → List UInt32
  | 0 => W
  | j + 1 => (wExt W j).set (16 + j) (wNew (wExt W j) (16 + j))

theorem wExt_len (W : List UInt32) (h : W.length = 64) : ∀ j, (wExt W j).length = 64
  | 0 => h
  | j + 1 => by unfold wExt; rw [List.length_set]; exact wExt_len W h j

/-- All words of a block. -/
def wAll (b : List UInt8) : List UInt32 := wExt (wBytes b b.length) 48

theorem wAll_len (b : List UInt8) : (wAll b).length = 64 := wExt_len _ (wBytes_len b _) 48

/-- The eight words. -/
structure St where
  a : UInt32
  b : UInt32
  c : UInt32
  d : UInt32
  e : UInt32
  f : UInt32
  g : UInt32
  h : UInt32

namespace St
def list (s : St) : List UInt32 := [s.a, s.b, s.c, s.d, s.e, s.f, s.g, s.h]

def first : St := ⟨0x6a09e667, 0xbb67ae85, 0x3c6ef372, 0xa54ff53a, 0x510e527f, 0x9b05688c, 0x1f83d9ab, 0x5be0cd19⟩

def ch (s : St) : UInt32 := (s.e &&& s.f) ||| (~~~ s.e &&& s.g)
def mj (s : St) : UInt32 := ((s.a &&& s.b) ||| (s.a &&& s.c)) ||| (s.b &&& s.c)
def one (s : St) (k w : UInt32) : UInt32 := s.h + (rotr 6 s.e ^^^ rotr 11 s.e ^^^ rotr 25 s.e) + s.ch + k + w
def two (s : St) : UInt32 := (rotr 2 s.a ^^^ rotr 13 s.a ^^^ rotr 22 s.a) + s.mj

def round (s : St) (k w : UInt32) : St := ⟨s.one k w + s.two, s.a, s.b, s.c, s.d + s.one k w, s.e, s.f, s.g⟩

def rounds (s : St) (W : List UInt32) : Nat → St
  | 0 => s
  | i + 1 => (s.rounds W i).round (shaK.getD i 0) (W.getD i 0)

def add (s x : St) : St := ⟨s.a + x.a, s.b + x.b, s.c + x.c, s.d + x.d, s.e + x.e, s.f + x.f, s.g + x.g, s.h + x.h⟩

def takes (s : St) (b : List UInt8) : St := s.add (s.rounds (wAll b) 64)

def bytes4 (x : UInt32) : List UInt8 := [(x >>> 24).toUInt8, (x >>> 16).toUInt8, (x >>> 8).toUInt8, x.toUInt8]

def bytes (s : St) : List UInt8 := s.list.flatMap bytes4

theorem bytes_len (s : St) : s.bytes.length = 32 := rfl
end St

/-- How many zeros fill up. -/
def padN (n : Nat) : Nat := (119 - n % 64) % 64

theorem padN_mod (n : Nat) : (n + 1 + padN n) % 64 = 56 := by unfold padN; omega
theorem padN_least (n k : Nat) (h : (n + 1 + k) % 64 = 56) (hk : k < 64) : k = padN n := by unfold padN; omega

/-- The number of bits, in eight bytes. -/
def bits8 (n : Nat) : List UInt8 := [UInt8.ofNat (n * 8 / 2 ^ 56), UInt8.ofNat (n * 8 / 2 ^ 48), UInt8.ofNat (n * 8 / 2 ^ 40), UInt8.ofNat (n * 8 / 2 ^ 32), UInt8.ofNat (n * 8 / 2 ^ 24), UInt8.ofNat (n * 8 / 2 ^ 16), UInt8.ofNat (n * 8 / 2 ^ 8), UInt8.ofNat (n * 8)]

def filled (b : List UInt8) : List UInt8 := b ++ 128 :: List.replicate (padN b.length) 0 ++ bits8 b.length

theorem filled_len (b : List UInt8) : (filled b).length = b.length + 1 + padN b.length + 8 := by
  unfold filled; simp [bits8]; omega

theorem filled_mod (b : List UInt8) : (filled b).length % 64 = 0 := by
  rw [filled_len]; have := padN_mod b.length; omega

theorem filled_le (b : List UInt8) : (filled b).length ≤ b.length + 72 := by
  rw [filled_len]; unfold padN; omega

/-- The state behind the first blocks. -/
def stBlocks (l : List UInt8) : Nat → St
  | 0 => St.first
  | k + 1 => (stBlocks l k).takes ((l.drop (64 * k)).take 64)

/-- SHA-256. -/
def sha (b : List UInt8) : List UInt8 := (stBlocks (filled b) ((filled b).length / 64)).bytes

theorem sha_len (b : List UInt8) : (sha b).length = 32 := St.bytes_len _

end Go.Proofs.YtijhaeapoapgfaaGreatDoor

namespace Go.Proofs.YtijhaeapoapgfaaGreatDoor
open Go.RowKit

def crcBit (c : UInt32) : UInt32 := (c >>> 1) ^^^ (3988292384 * (c &&& 1))
def crcBits : Nat → UInt32 → UInt32
  | 0, c => c
  | n + 1, c => crcBits n (crcBit c)
def crcByte (c : UInt32) (x : UInt8) : UInt32 := crcBits 8 (c ^^^ x.toUInt32)
def crcFold (c : UInt32) (l : List UInt8) : UInt32 := l.foldl crcByte c
def crcAdd (s : UInt32) (l : List UInt8) : UInt32 := ~~~ (crcFold (~~~ s) l)

def crcSum (l : List UInt8) : UInt32 := crcAdd 0 l
/-- A number in four bytes, the greatest first. -/
def be4 (s : UInt32) : List UInt8 := [(s >>> 24).toUInt8, (s >>> 16).toUInt8, (s >>> 8).toUInt8, s.toUInt8]

def crcPut (l : List UInt8) : List UInt8 := l ++ be4 (crcSum l)

/-- What stands ahead of a sum that is right. -/
def crcRight (l : List UInt8) : Option (List UInt8) :=
  if l.length < 4 then none else if crcPut (l.take (l.length - 4)) = l then some (l.take (l.length - 4)) else none

theorem be4_24 (s : UInt32) : (s.toNat : Int) / 16777216 % 256 = (((s >>> 24).toUInt8).toNat : Int) := by
  rw [UInt32.toNat_toUInt8, UInt32.toNat_shiftRight]
  show _ = (((s.toNat >>> 24) % 256 : Nat) : Int)
  rw [Nat.shiftRight_eq_div_pow]
  omega
theorem be4_16 (s : UInt32) : (s.toNat : Int) / 65536 % 256 = (((s >>> 16).toUInt8).toNat : Int) := by
  rw [UInt32.toNat_toUInt8, UInt32.toNat_shiftRight]
  show _ = (((s.toNat >>> 16) % 256 : Nat) : Int)
  rw [Nat.shiftRight_eq_div_pow]
  omega
theorem be4_8 (s : UInt32) : (s.toNat : Int) / 256 % 256 = (((s >>> 8).toUInt8).toNat : Int) := by
  rw [UInt32.toNat_toUInt8, UInt32.toNat_shiftRight]
  show _ = (((s.toNat >>> 8) % 256 : Nat) : Int)
  rw [Nat.shiftRight_eq_div_pow]
  omega
theorem be4_0 (s : UInt32) : (s.toNat : Int) % 256 = ((s.toUInt8).toNat : Int) := by
  rw [UInt32.toNat_toUInt8]
  omega

theorem B8_24 (s : UInt32) : [Value.int .u8 ((s.toNat : Int) / (16777216 : Int) % (256 : Int))] = [B8 ((s >>> 24).toUInt8)] := congrArg (fun z => [Value.int .u8 z]) (be4_24 s)
theorem B8_16 (s : UInt32) : [Value.int .u8 ((s.toNat : Int) / (65536 : Int) % (256 : Int))] = [B8 ((s >>> 16).toUInt8)] := congrArg (fun z => [Value.int .u8 z]) (be4_16 s)
theorem B8_8 (s : UInt32) : [Value.int .u8 ((s.toNat : Int) / (256 : Int) % (256 : Int))] = [B8 ((s >>> 8).toUInt8)] := congrArg (fun z => [Value.int .u8 z]) (be4_8 s)
theorem B8_0 (s : UInt32) : [Value.int .u8 ((s.toNat : Int) % (256 : Int))] = [B8 s.toUInt8] := congrArg (fun z => [Value.int .u8 z]) (be4_0 s)
theorem be4_len (s : UInt32) : (be4 s).length = 4 := rfl
theorem crcPut_len (l : List UInt8) : (crcPut l).length = l.length + 4 := by simp [crcPut, be4]

theorem crcRight_put (l : List UInt8) : crcRight (crcPut l) = some l := by
  unfold crcRight
  have h : (crcPut l).take ((crcPut l).length - 4) = l := by
    rw [crcPut_len, Nat.add_sub_cancel]; simp [crcPut]
  rw [if_neg (by rw [crcPut_len]; omega), h, if_pos rfl]

theorem crcRight_some {l m : List UInt8} (h : crcRight l = some m) : l = crcPut m ∧ m = l.take (l.length - 4) ∧ 4 ≤ l.length := by
  unfold crcRight at h
  split at h
  · cases h
  · split at h
    · rename_i h1 h2
      simp only [Option.some.injEq] at h
      subst h
      exact ⟨h2.symm, rfl, by omega⟩
    · cases h

/-! Each step is one to one: the polynomial's top bit is set. -/

theorem shr1_toNat (a : UInt32) : (a >>> 1).toNat = a.toNat / 2 := by
  rw [UInt32.toNat_shiftRight]
  show a.toNat >>> 1 = _
  rw [Nat.shiftRight_eq_div_pow]
theorem and1_toNat (a : UInt32) : (a &&& 1).toNat = a.toNat % 2 := by
  rw [UInt32.toNat_and]
  show a.toNat &&& 1 = _
  rw [Nat.and_one_is_mod]

theorem crcBit_cases (a : UInt32) : (a.toNat % 2 = 0 ∧ crcBit a = a >>> 1) ∨ (a.toNat % 2 = 1 ∧ crcBit a = (a >>> 1) ^^^ 3988292384) := by
  have h := and1_toNat a
  rcases Nat.mod_two_eq_zero_or_one a.toNat with h0 | h0
  · left
    refine ⟨h0, ?_⟩
    have : a &&& 1 = 0 := by apply UInt32.toNat_inj.1; rw [h, h0]; rfl
    unfold crcBit
    rw [this]
    simp
  · right
    refine ⟨h0, ?_⟩
    have : a &&& 1 = 1 := by apply UInt32.toNat_inj.1; rw [h, h0]; rfl
    unfold crcBit
    rw [this]
    simp

theorem eq_of_half {a b : UInt32} (h1 : a.toNat / 2 = b.toNat / 2) (h2 : a.toNat % 2 = b.toNat % 2) : a = b := by
  apply UInt32.toNat_inj.1; omega

theorem top_ne (a b : UInt32) : (a >>> 1) ≠ (b >>> 1) ^^^ 3988292384 := by
  intro h
  have h1 := congrArg (fun x => x.toNat.testBit 31) h
  simp only [UInt32.toNat_xor, Nat.testBit_xor] at h1
  have t (c : UInt32) : (c >>> 1).toNat.testBit 31 = false := by
    apply Nat.testBit_lt_two_pow
    rw [shr1_toNat]; have := c.toNat_lt; omega
  rw [t, t] at h1
  revert h1
  decide

theorem crcBit_inj {a b : UInt32} (h : crcBit a = crcBit b) : a = b := by
  rcases crcBit_cases a with ⟨ha, ea⟩ | ⟨ha, ea⟩ <;> rcases crcBit_cases b with ⟨hb, eb⟩ | ⟨hb, eb⟩ <;> rw [ea, eb] at h
  · have := congrArg UInt32.toNat h
    rw [shr1_toNat, shr1_toNat] at this
    exact eq_of_half this (by omega)
  · exact absurd h (top_ne a b)
  · exact absurd h.symm (top_ne b a)
  · have h' : a >>> 1 = b >>> 1 := by
      have := congrArg (fun x => x ^^^ (3988292384 : UInt32)) h
      simpa [UInt32.xor_assoc] using this
    have := congrArg UInt32.toNat h'
    rw [shr1_toNat, shr1_toNat] at this
    exact eq_of_half this (by omega)

theorem crcBits_inj (n : Nat) : ∀ {a b : UInt32}, crcBits n a = crcBits n b → a = b := by
  induction n with
  | zero => intro a b h; exact h
  | succ n ih => intro a b h; exact crcBit_inj (ih h)

theorem crcByte_inj {a b : UInt32} {x : UInt8} (h : crcByte a x = crcByte b x) : a = b := by
  have := crcBits_inj 8 h
  have := congrArg (fun y => y ^^^ x.toUInt32) this
  simpa [UInt32.xor_assoc] using this

theorem crcFold_inj (l : List UInt8) : ∀ {a b : UInt32}, crcFold a l = crcFold b l → a = b := by
  induction l with
  | nil => intro a b h; exact h
  | cons x xs ih => intro a b h; exact crcByte_inj (ih h)

theorem crcFold_append (c : UInt32) (l m : List UInt8) : crcFold c (l ++ m) = crcFold (crcFold c l) m := by
  unfold crcFold; rw [List.foldl_append]

theorem not32_inj {a b : UInt32} (h : ~~~ a = ~~~ b) : a = b := by simpa using h

/-- Two heads that a sum tells apart are told apart whatever stands behind them. -/
theorem crcSum_heads {l m r : List UInt8} (h : crcSum (l ++ r) = crcSum (m ++ r)) : crcFold (~~~ 0) l = crcFold (~~~ 0) m := by
  unfold crcSum crcAdd at h
  have := not32_inj h
  rw [crcFold_append, crcFold_append] at this
  exact crcFold_inj r this

theorem be4_inj {a b : UInt32} (h : be4 a = be4 b) : a = b := by
  unfold be4 at h
  simp only [List.cons.injEq, and_true] at h
  obtain ⟨h1, h2, h3, h4⟩ := h
  have t (x : UInt32) : ((x >>> 24).toUInt8).toNat = x.toNat / 16777216 % 256 ∧ ((x >>> 16).toUInt8).toNat = x.toNat / 65536 % 256 ∧ ((x >>> 8).toUInt8).toNat = x.toNat / 256 % 256 ∧ (x.toUInt8).toNat = x.toNat % 256 := by
    have := be4_24 x; have := be4_16 x; have := be4_8 x; have := be4_0 x
    omega
  have ha := t a
  have hb := t b
  rw [h1, h2, h3, h4] at ha
  have := a.toNat_lt
  have := b.toNat_lt
  apply UInt32.toNat_inj.1
  omega

end Go.Proofs.YtijhaeapoapgfaaGreatDoor

namespace Go.Proofs.YtijhaeapoapgfaaGreatDoor
open Go.RowKit

theorem mul01 (c : UInt32) : 3988292384 * (c &&& 1) = if c.toNat % 2 = 1 then 3988292384 else 0 := by
  rcases crcBit_cases c with ⟨h, _⟩ | ⟨h, _⟩
  · have : c &&& 1 = 0 := by apply UInt32.toNat_inj.1; rw [and1_toNat, h]; rfl
    rw [this, if_neg (by omega)]; rfl
  · have : c &&& 1 = 1 := by apply UInt32.toNat_inj.1; rw [and1_toNat, h]; rfl
    rw [this, if_pos h]; rfl

theorem xor_mod2 (a b : UInt32) : (a ^^^ b).toNat % 2 = (a.toNat + b.toNat) % 2 := by
  rw [UInt32.toNat_xor]
  have h := Nat.xor_mod_two_eq_one (a := a.toNat) (b := b.toNat)
  omega

theorem shr_xor (a b : UInt32) : (a ^^^ b) >>> 1 = (a >>> 1) ^^^ (b >>> 1) := by
  apply UInt32.toNat_inj.1
  rw [UInt32.toNat_shiftRight, UInt32.toNat_xor, UInt32.toNat_xor, UInt32.toNat_shiftRight, UInt32.toNat_shiftRight]
  exact Nat.shiftRight_xor_distrib

theorem crcBit_xor (a b : UInt32) : crcBit (a ^^^ b) = crcBit a ^^^ crcBit b := by
  rcases crcBit_cases a with ⟨ha, ea⟩ | ⟨ha, ea⟩ <;> rcases crcBit_cases b with ⟨hb, eb⟩ | ⟨hb, eb⟩ <;> rcases crcBit_cases (a ^^^ b) with ⟨hc, ec⟩ | ⟨hc, ec⟩ <;> rw [xor_mod2] at hc <;> first | omega | (rw [ea, eb, ec, shr_xor])
  · rw [UInt32.xor_assoc]
  · rw [UInt32.xor_assoc, UInt32.xor_assoc, UInt32.xor_comm (b >>> 1)]
  · rw [UInt32.xor_assoc (a >>> 1), ← UInt32.xor_assoc 3988292384, UInt32.xor_comm 3988292384 (b >>> 1), UInt32.xor_assoc (b >>> 1), UInt32.xor_self, UInt32.xor_zero]

theorem crcBits_xor (n : Nat) : ∀ (a b : UInt32), crcBits n (a ^^^ b) = crcBits n a ^^^ crcBits n b := by
  induction n with
  | zero => intro a b; rfl
  | succ n ih => intro a b; rw [crcBits, crcBits, crcBits, crcBit_xor, ih]

theorem crcBits_pow (n : Nat) : ∀ (y z : UInt32), z.toNat = y.toNat * 2 ^ n → crcBits n z = y := by
  induction n with
  | zero => intro y z h; apply UInt32.toNat_inj.1; rw [crcBits, h]; omega
  | succ n ih =>
    intro y z h
    rw [crcBits]
    have h2 : z.toNat = 2 * (y.toNat * 2 ^ n) := by rw [h, Nat.pow_succ]; rw [Nat.mul_comm 2, Nat.mul_assoc]
    apply ih
    rcases crcBit_cases z with ⟨hz, ez⟩ | ⟨hz, ez⟩
    · rw [ez, shr1_toNat]; omega
    · omega

/-- What eight steps make small was small before, but for its place. -/
theorem crc8_small {z y : UInt32} (h : crcBits 8 z = y) (hy : y.toNat < 16777216) : z.toNat = y.toNat * 256 := by
  have hs : (UInt32.ofNat (y.toNat * 256)).toNat = y.toNat * 2 ^ 8 := by
    rw [UInt32.toNat_ofNat']
    show y.toNat * 256 % 4294967296 = y.toNat * 256
    omega
  have := crcBits_pow 8 y _ hs
  have := crcBits_inj 8 (h.trans this.symm)
  rw [this, hs]

theorem xor_place (x e : Nat) (he : e < 256) : (x * 256) ^^^ e = x * 256 + e := by
  apply Nat.eq_of_testBit_eq
  intro j
  have h := Nat.testBit_two_pow_mul_add x (b := e) (i := 8) he j
  rw [show 2 ^ 8 * x + e = x * 256 + e from by omega] at h
  have h0 := Nat.testBit_two_pow_mul_add x (b := 0) (i := 8) (by omega) j
  rw [show 2 ^ 8 * x + 0 = x * 256 from by omega] at h0
  rw [Nat.testBit_xor, h, h0]
  by_cases hj : j < 8
  · simp [hj]
  · have : e.testBit j = false := Nat.testBit_lt_two_pow (Nat.lt_of_lt_of_le he (Nat.pow_le_pow_right (n := 2) (by omega) (show 8 ≤ j by omega)))
    simp [hj, this]

theorem byteXor (a b : UInt8) : (a.toUInt32 ^^^ b.toUInt32).toNat < 256 := by
  rw [UInt32.toNat_xor, UInt8.toNat_toUInt32, UInt8.toNat_toUInt32]
  exact Nat.xor_lt_two_pow (n := 8) a.toNat_lt b.toNat_lt

theorem byteXor_zero {a b : UInt8} (h : (a.toUInt32 ^^^ b.toUInt32).toNat = 0) : a = b := by
  have h1 : a.toUInt32 ^^^ b.toUInt32 = 0 := UInt32.toNat_inj.1 h
  have h2 := congrArg (fun z => z ^^^ b.toUInt32) h1
  simp only [UInt32.xor_assoc, UInt32.xor_self, UInt32.xor_zero, UInt32.zero_xor] at h2
  have h3 := congrArg UInt32.toNat h2
  rw [UInt8.toNat_toUInt32, UInt8.toNat_toUInt32] at h3
  exact UInt8.toNat_inj.1 h3

/-- The difference of two states behind a byte each. -/
theorem crcByte_diff (c d : UInt32) (a b : UInt8) : crcByte c a ^^^ crcByte d b = crcBits 8 ((c ^^^ d) ^^^ (a.toUInt32 ^^^ b.toUInt32)) := by
  unfold crcByte
  rw [← crcBits_xor]
  congr 1
  rw [UInt32.xor_assoc, UInt32.xor_assoc, ← UInt32.xor_assoc a.toUInt32, UInt32.xor_comm a.toUInt32 d, UInt32.xor_assoc d]

theorem undo {x e : UInt32} {v : Nat} (he : e.toNat < 256) (h : (x ^^^ e).toNat = v * 256) : x.toNat = v * 256 + e.toNat := by
  have h1 : x = (x ^^^ e) ^^^ e := by rw [UInt32.xor_assoc, UInt32.xor_self, UInt32.xor_zero]
  rw [h1, UInt32.toNat_xor, h, xor_place v _ he]

theorem heads_inj {c : UInt32} {a0 a1 a2 a3 b0 b1 b2 b3 : UInt8} (h : crcFold c [a0, a1, a2, a3] = crcFold c [b0, b1, b2, b3]) : a0 = b0 ∧ a1 = b1 ∧ a2 = b2 ∧ a3 = b3 := by
  have h0 : crcByte (crcByte (crcByte (crcByte c a0) a1) a2) a3 = crcByte (crcByte (crcByte (crcByte c b0) b1) b2) b3 := h
  have e3 := byteXor a3 b3
  have e2 := byteXor a2 b2
  have e1 := byteXor a1 b1
  have e0 := byteXor a0 b0
  have hx := congrArg (fun z => z ^^^ crcByte (crcByte (crcByte (crcByte c b0) b1) b2) b3) h0
  simp only [UInt32.xor_self] at hx
  rw [crcByte_diff] at hx
  have z0 : (0 : UInt32).toNat = 0 := rfl
  have t3 := undo e3 (v := 0) ((crc8_small hx (by rw [z0]; omega)).trans (by rw [z0]))
  rw [crcByte_diff] at t3
  have t2 := undo e2 (v := (a3.toUInt32 ^^^ b3.toUInt32).toNat) ((crc8_small (z := crcByte (crcByte c a0) a1 ^^^ crcByte (crcByte c b0) b1 ^^^ (a2.toUInt32 ^^^ b2.toUInt32)) rfl (by omega)).trans (by rw [t3]; omega))
  rw [crcByte_diff] at t2
  have t1 := undo e1 (v := (a3.toUInt32 ^^^ b3.toUInt32).toNat * 256 + (a2.toUInt32 ^^^ b2.toUInt32).toNat) ((crc8_small (z := crcByte c a0 ^^^ crcByte c b0 ^^^ (a1.toUInt32 ^^^ b1.toUInt32)) rfl (by omega)).trans (by rw [t2]))
  rw [crcByte_diff] at t1
  have t0 := crc8_small (z := (c ^^^ c) ^^^ (a0.toUInt32 ^^^ b0.toUInt32)) rfl (by omega)
  rw [UInt32.xor_self, UInt32.zero_xor] at t0
  rw [UInt32.xor_self, UInt32.zero_xor] at t1
  exact ⟨byteXor_zero (by omega), byteXor_zero (by omega), byteXor_zero (by omega), byteXor_zero (by omega)⟩

end Go.Proofs.YtijhaeapoapgfaaGreatDoor

namespace Go.Proofs.YtijhaeapoapgfaaGreatDoor
open Go.RowKit

def sh : Nat → UInt32 → UInt32
  | 0, x => x
  | n + 1, x => (sh n x) >>> 1

theorem sh_toNat (n : Nat) (x : UInt32) : (sh n x).toNat = x.toNat / 2 ^ n := by
  induction n with
  | zero => simp [sh]
  | succ n ih => rw [sh, shr1_toNat, ih, Nat.pow_succ, Nat.div_div_eq_div_mul]

theorem sh_byte (x : UInt8) : sh 8 x.toUInt32 = 0 := by
  apply UInt32.toNat_inj.1
  rw [sh_toNat, UInt8.toNat_toUInt32]
  have := x.toNat_lt
  show x.toNat / 256 = 0
  omega

theorem crcBits_last (n : Nat) : ∀ c : UInt32, crcBits (n + 1) c = crcBit (crcBits n c) := by
  induction n with
  | zero => intro c; rfl
  | succ n ih => intro c; rw [crcBits, ih, crcBits]

/-- The state in which k bits have been taken. -/
def bitSt (l : List UInt8) (k : Nat) : UInt32 :=
  crcBits (k % 8) (crcFold (~~~ 0) (l.take (k / 8)) ^^^ (l.getD (k / 8) 0).toUInt32) ^^^ sh (k % 8) (l.getD (k / 8) 0).toUInt32

theorem bitSt_zero (l : List UInt8) : bitSt l 0 = 4294967295 := by
  unfold bitSt
  show (crcFold (~~~ 0) (l.take 0) ^^^ _) ^^^ _ = _
  rw [UInt32.xor_assoc]
  show (crcFold (~~~ 0) (l.take 0)) ^^^ ((l.getD 0 0).toUInt32 ^^^ (l.getD 0 0).toUInt32) = _
  rw [UInt32.xor_self, UInt32.xor_zero]
  rfl

theorem bitSt_full (l : List UInt8) (m : Nat) : bitSt l (8 * m) = crcFold (~~~ 0) (l.take m) := by
  unfold bitSt
  rw [show 8 * m % 8 = 0 from by omega, show 8 * m / 8 = m from by omega]
  show (crcFold (~~~ 0) (l.take m) ^^^ (l.getD m 0).toUInt32) ^^^ (l.getD m 0).toUInt32 = _
  rw [UInt32.xor_assoc, UInt32.xor_self, UInt32.xor_zero]

/-- One bit more. -/
def bitStep (y b : UInt32) : UInt32 := if (y &&& 1) ^^^ b = 1 then (y >>> 1) ^^^ 3988292384 else y >>> 1

theorem bitStep_eq (c : UInt32) (s : UInt32) : bitStep (c ^^^ s) (s &&& 1) = crcBit c ^^^ (s >>> 1) := by
  have h : ((c ^^^ s) &&& 1) ^^^ (s &&& 1) = c &&& 1 := by
    apply UInt32.toNat_inj.1
    rw [UInt32.toNat_xor, and1_toNat, and1_toNat, and1_toNat, xor_mod2]
    rcases Nat.mod_two_eq_zero_or_one c.toNat with h1 | h1 <;> rcases Nat.mod_two_eq_zero_or_one s.toNat with h2 | h2
    · rw [show (c.toNat + s.toNat) % 2 = 0 from by omega, h1, h2]; rfl
    · rw [show (c.toNat + s.toNat) % 2 = 1 from by omega, h1, h2]; rfl
    · rw [show (c.toNat + s.toNat) % 2 = 1 from by omega, h1, h2]; rfl
    · rw [show (c.toNat + s.toNat) % 2 = 0 from by omega, h1, h2]; rfl
  unfold bitStep
  rw [h, shr_xor]
  rcases crcBit_cases c with ⟨h1, h2⟩ | ⟨h1, h2⟩
  · have : c &&& 1 = 0 := by apply UInt32.toNat_inj.1; rw [and1_toNat, h1]; rfl
    rw [this, if_neg (by decide), h2]
  · have : c &&& 1 = 1 := by apply UInt32.toNat_inj.1; rw [and1_toNat, h1]; rfl
    rw [this, if_pos rfl, h2, UInt32.xor_assoc, UInt32.xor_assoc, UInt32.xor_comm (s >>> 1)]

theorem bitSt_succ (l : List UInt8) (k : Nat) (hk : k < 8 * l.length) : bitSt l (k + 1) = bitStep (bitSt l k) ((sh (k % 8) (l.getD (k / 8) 0).toUInt32) &&& 1) := by
  have h : bitStep (bitSt l k) ((sh (k % 8) (l.getD (k / 8) 0).toUInt32) &&& 1) = crcBits (k % 8 + 1) (crcFold (~~~ 0) (l.take (k / 8)) ^^^ (l.getD (k / 8) 0).toUInt32) ^^^ sh (k % 8 + 1) (l.getD (k / 8) 0).toUInt32 := by
    rw [crcBits_last, sh]
    exact bitStep_eq _ _
  rw [h]
  by_cases h7 : k % 8 = 7
  · have e : k + 1 = 8 * (k / 8 + 1) := by omega
    rw [e, bitSt_full, h7, sh_byte, UInt32.xor_zero]
    have hlt : k / 8 < l.length := by omega
    rw [List.take_add_one, List.getElem?_eq_getElem hlt, Option.toList_some, crcFold_append]
    have : l.getD (k / 8) 0 = l[k / 8] := by rw [List.getD, List.getElem?_eq_getElem hlt]; rfl
    rw [this]
    rfl
  · unfold bitSt
    rw [show (k + 1) % 8 = k % 8 + 1 from by omega, show (k + 1) / 8 = k / 8 from by omega]

end Go.Proofs.YtijhaeapoapgfaaGreatDoor

namespace Go.Proofs.YtijhaeapoapgfaaGreatDoor
open Go.RowKit

/-- All bytes, erased. -/
def blankAll : List UInt8 := List.replicate 3584 255

theorem blankAll_len : blankAll.length = 3584 := List.length_replicate

/-- What a flash holds. -/
structure Fla where
  b : List UInt8
  er : List Int
  wear : Int
  down : Bool
  fused : Bool
  left : Int
  torn : Int
  steps : Int

namespace Fla

/-- Its struct's cells; q: the block of its bytes. -/
def cells (F : Fla) (q : Nat) : List Value :=
  .slice (some ⟨q, 0, none⟩) 3584 3584 :: (F.er.map (Value.int .i64) ++ [.int .i64 F.wear, .bool F.down, .bool F.fused, .int .i64 F.left, .int .i64 F.torn, .int .i64 F.steps])

def tornB (F : Fla) : UInt8 := UInt8.ofNat (F.torn % 256).toNat

/-- One step: is it done whole? -/
def step (F : Fla) : Fla :=
  let l := wrap64 (F.left - 1)
  { F with steps := wrap64 (F.steps + 1), left := l, down := F.down || (F.fused && decide (l < 0)) }

def setB (F : Fla) (i : Nat) (x : UInt8) : Fla := { F with b := F.b.set i x }

def at_ (F : Fla) (i : Nat) : UInt8 := F.b.getD i 0

/-- Why bytes cannot be reached. -/
def ready (F : Fla) (at_ n : Int) : Int := if F.down then 11 else if n < 0 ∨ n > 3584 ∨ at_ < 0 ∨ at_ > 3584 - n then 1 else 0

/-- Program, past the checks. -/
def prog (F : Fla) (at_ : Nat) : List UInt8 → Fla × Int
  | [] => (F, 0)
  | x :: xs =>
    if F.step.down then (F.step.setB at_ (F.at_ at_ &&& (x ||| F.tornB)), 11)
    else (F.step.setB at_ (F.at_ at_ &&& x)).prog (at_ + 1) xs

def program (F : Fla) (at_ : Int) (l : List UInt8) : Fla × Int :=
  if F.ready at_ l.length ≠ 0 then (F, F.ready at_ l.length) else F.prog at_.toNat l

def fill (F : Fla) (o n : Nat) : Fla := { F with b := F.b.take o ++ List.replicate n 255 ++ F.b.drop (o + n) }

def erase (F : Fla) (s : Int) : Fla × Int :=
  if F.down then (F, 11)
  else if s < 0 ∨ s ≥ 14 then (F, 1)
  else if F.er.getD s.toNat 0 ≥ F.wear then (F, 10)
  else
    let G : Fla := { F.step with er := F.er.set s.toNat (wrap64 (F.er.getD s.toNat 0 + 1)) }
    if F.step.down then (G.fill (s.toNat * 256) ((max 0 F.torn) % 257).toNat, 11) else (G.fill (s.toNat * 256) 256, 0)

def read (F : Fla) (at_ n : Int) : List UInt8 × Int :=
  if F.ready at_ n ≠ 0 then ([], F.ready at_ n) else ((F.b.drop at_.toNat).take n.toNat, 0)

def blank (F : Fla) (at_ n : Int) : Bool := (F.read at_ n).2 == 0 && (F.read at_ n).1.all (· == 255)

def erases (F : Fla) (s : Int) : Int := if s < 0 ∨ s ≥ 14 then 0 else F.er.getD s.toNat 0

def fuse (F : Fla) (n torn : Int) : Fla := { F with fused := decide (0 ≤ n), left := n, torn := torn }
def cut (F : Fla) : Fla := { F with down := true }
def start (F : Fla) : Fla := { F with down := false, fused := F.fused && decide (0 ≤ F.left) }
def new (wear : Int) : Fla := { b := blankAll, er := List.replicate 14 0, wear := max 1 (min wear 10000), down := false, fused := false, left := 0, torn := 0, steps := 0 }

end Fla

/-- A flash in memory: its struct in block p, its bytes in block q. -/
structure FlaAt (w : World) (p q : Nat) (F : Fla) : Prop where
  er : F.er.length = 14
  len : F.b.length = 3584
  own : Blk w p 136 (F.cells q)
  bytes : ∃ r, Blk w q 5 (F.b.map B8 ++ r)

namespace FlaAt
variable {w : World} {p q : Nat} {F : Fla}

theorem len14 {l : List Int} (h : l.length = 14) : ∃ a0 a1 a2 a3 a4 a5 a6 a7 a8 a9 a10 a11 a12 a13, l = [a0, a1, a2, a3, a4, a5, a6, a7, a8, a9, a10, a11, a12, a13] := by
  match l, h with
  | [a0, a1, a2, a3, a4, a5, a6, a7, a8, a9, a10, a11, a12, a13], _ => exact ⟨a0, a1, a2, a3, a4, a5, a6, a7, a8, a9, a10, a11, a12, a13, rfl⟩

theorem cell (h : FlaAt w p q F) {i : Nat} {v : Value} (hv : (F.cells q)[i]? = some v) : w.cell? ⟨p, i, none⟩ = some v := h.own.cell' hv
theorem frz (h : FlaAt w p q F) (i : Nat) : w.frozen? ⟨p, i, none⟩ = false := h.own.frozen i
theorem frzq (h : FlaAt w p q F) (i : Nat) : w.frozen? ⟨q, i, none⟩ = false := by obtain ⟨r, hr⟩ := h.bytes; exact hr.frozen i
theorem c0 (h : FlaAt w p q F) : w.cell? ⟨p, 0, none⟩ = some (.slice (some ⟨q, 0, none⟩) 3584 3584) := h.cell rfl
theorem tailC (h : FlaAt w p q F) (k : Nat) (v : Value) (hv : [.int .i64 F.wear, .bool F.down, .bool F.fused, .int .i64 F.left, .int .i64 F.torn, .int .i64 F.steps][k]? = some v) : w.cell? ⟨p, 15 + k, none⟩ = some v := by
  refine h.cell ?_
  unfold Fla.cells
  rw [show 15 + k = (14 + k) + 1 from by omega, List.getElem?_cons_succ, List.getElem?_append_right (by simp [h.er])]
  simp only [List.length_map, h.er]
  rw [show 14 + k - 14 = k from by omega]
  exact hv
theorem wear (h : FlaAt w p q F) : w.cell? ⟨p, 15, none⟩ = some (.int .i64 F.wear) := h.tailC 0 _ rfl
theorem down (h : FlaAt w p q F) : w.cell? ⟨p, 16, none⟩ = some (.bool F.down) := h.tailC 1 _ rfl
theorem fused (h : FlaAt w p q F) : w.cell? ⟨p, 17, none⟩ = some (.bool F.fused) := h.tailC 2 _ rfl
theorem left (h : FlaAt w p q F) : w.cell? ⟨p, 18, none⟩ = some (.int .i64 F.left) := h.tailC 3 _ rfl
theorem torn (h : FlaAt w p q F) : w.cell? ⟨p, 19, none⟩ = some (.int .i64 F.torn) := h.tailC 4 _ rfl
theorem steps (h : FlaAt w p q F) : w.cell? ⟨p, 20, none⟩ = some (.int .i64 F.steps) := h.tailC 5 _ rfl
theorem erC (h : FlaAt w p q F) {s : Nat} (hs : s < 14) : w.cell? ⟨p, 1 + s, none⟩ = some (.int .i64 (F.er.getD s 0)) := by
  refine h.cell ?_
  unfold Fla.cells
  rw [show 1 + s = s + 1 from by omega, List.getElem?_cons_succ, List.getElem?_append_left (by simp [h.er]; omega)]
  simp [List.getD, h.er, hs]
theorem byte (h : FlaAt w p q F) {i : Nat} (hi : i < 3584) : w.cell? ⟨q, i, none⟩ = some (B8 (F.at_ i)) := by
  obtain ⟨r, hr⟩ := h.bytes
  refine hr.cell' ?_
  rw [List.getElem?_append_left (by simp [h.len]; exact hi)]
  simp [Fla.at_, List.getD, h.len, hi]
theorem ne (h : FlaAt w p q F) : p ≠ q := by obtain ⟨r, hr⟩ := h.bytes; exact h.own.ne hr (by decide)
theorem ltp (h : FlaAt w p q F) : p < w.heap.size := h.own.lt
theorem ltq (h : FlaAt w p q F) : q < w.heap.size := by obtain ⟨r, hr⟩ := h.bytes; exact hr.lt

theorem keeps {S : List Nat} {w' : World} (h : FlaAt w p q F) (k : Keeps S w w') (hp : p ∉ S) (hq : q ∉ S) : FlaAt w' p q F :=
  ⟨h.er, h.len, h.own.keeps k hp, by obtain ⟨r, hr⟩ := h.bytes; exact ⟨r, hr.keeps k hq⟩⟩
theorem drew (h : FlaAt w p q F) : FlaAt w.drew p q F := ⟨h.er, h.len, h.own.drew, h.bytes⟩

theorem alloc (h : FlaAt w p q F) (o : Obj) : FlaAt (w.alloc o) p q F := h.keeps ((Keeps.refl [] w).alloc o) (by simp) (by simp)

theorem drewN (h : FlaAt w p q F) (n : Nat) : FlaAt (w.drewN n) p q F := ⟨h.er, h.len, h.own.drewN n, h.bytes⟩

theorem setTail (h : FlaAt w p q F) (k : Nat) (v : Value) (G : Fla) (hb : G.b = F.b) (he : G.er = F.er)
    (hG : [.int .i64 F.wear, .bool F.down, .bool F.fused, .int .i64 F.left, .int .i64 F.torn, .int .i64 F.steps].set k v = [.int .i64 G.wear, .bool G.down, .bool G.fused, .int .i64 G.left, .int .i64 G.torn, .int .i64 G.steps]) :
    FlaAt (w.setCell ⟨p, 15 + k, none⟩ v) p q G := by
  refine ⟨by rw [he, h.er], by rw [hb, h.len], ?_, ?_⟩
  · have := h.own.set (15 + k) v
    unfold Fla.cells at this ⊢
    rw [show 15 + k = (14 + k) + 1 from by omega, List.set_cons_succ, List.set_append_right _ _ (by simp [h.er])] at this
    simp only [List.length_map, h.er, show 14 + k - 14 = k from by omega, hG] at this
    rw [he, show 15 + k = (14 + k) + 1 from by omega]
    exact this
  · obtain ⟨r, hr⟩ := h.bytes
    exact ⟨r, by rw [hb]; exact hr.setOther v h.ne.symm⟩
theorem setDown (h : FlaAt w p q F) (v : Bool) : FlaAt (w.setCell ⟨p, 16, none⟩ (.bool v)) p q { F with down := v } := h.setTail 1 _ _ rfl rfl rfl
theorem setFused (h : FlaAt w p q F) (v : Bool) : FlaAt (w.setCell ⟨p, 17, none⟩ (.bool v)) p q { F with fused := v } := h.setTail 2 _ _ rfl rfl rfl
theorem setLeft (h : FlaAt w p q F) (v : Int) : FlaAt (w.setCell ⟨p, 18, none⟩ (.int .i64 v)) p q { F with left := v } := h.setTail 3 _ _ rfl rfl rfl
theorem setTorn (h : FlaAt w p q F) (v : Int) : FlaAt (w.setCell ⟨p, 19, none⟩ (.int .i64 v)) p q { F with torn := v } := h.setTail 4 _ _ rfl rfl rfl
theorem setSteps (h : FlaAt w p q F) (v : Int) : FlaAt (w.setCell ⟨p, 20, none⟩ (.int .i64 v)) p q { F with steps := v } := h.setTail 5 _ _ rfl rfl rfl
theorem setEr (h : FlaAt w p q F) {s : Nat} (hs : s < 14) (v : Int) : FlaAt (w.setCell ⟨p, 1 + s, none⟩ (.int .i64 v)) p q { F with er := F.er.set s v } := by
  refine ⟨by simp [h.er], h.len, ?_, ?_⟩
  · have := h.own.set (1 + s) (.int .i64 v)
    unfold Fla.cells at this ⊢
    rw [show 1 + s = s + 1 from by omega, List.set_cons_succ, List.set_append_left _ _ (by simp [h.er]; omega)] at this
    rw [show 1 + s = s + 1 from by omega]
    simp only [List.map_set]
    exact this
  · obtain ⟨r, hr⟩ := h.bytes
    exact ⟨r, hr.setOther _ h.ne.symm⟩
theorem setByte (h : FlaAt w p q F) {i : Nat} (hi : i < 3584) (x : UInt8) : FlaAt (w.setCell ⟨q, i, none⟩ (B8 x)) p q (F.setB i x) := by
  refine ⟨h.er, by simp [Fla.setB, h.len], h.own.setOther _ h.ne, ?_⟩
  obtain ⟨r, hr⟩ := h.bytes
  refine ⟨r, ?_⟩
  have := hr.set i (B8 x)
  rw [List.set_append_left _ _ (by simp [h.len]; exact hi)] at this
  simpa [Fla.setB, List.map_set] using this

end FlaAt

end Go.Proofs.YtijhaeapoapgfaaGreatDoor

namespace Go.Proofs.YtijhaeapoapgfaaGreatDoor
open Go.RowKit

/-- The number of the first four bytes, the greatest first. -/
def be32 (a b c d : UInt8) : UInt32 := (a.toUInt32 <<< 24) ||| (b.toUInt32 <<< 16) ||| (c.toUInt32 <<< 8) ||| d.toUInt32
def num4 (l : List UInt8) : UInt32 := be32 (l.getD 0 0) (l.getD 1 0) (l.getD 2 0) (l.getD 3 0)

/-- How many bytes a copy says it has. -/
def cpLen (s : List UInt8) : Nat := (s.getD 4 0).toNat * 256 + (s.getD 5 0).toNat

/-- A sector's copy, if it is whole. -/
def cellCopy (s : List UInt8) : Option (UInt32 × List UInt8) :=
  if cpLen s > 245 then none
  else if s.getD (10 + cpLen s) 0 ≠ 0 then none
  else (crcRight (s.take (10 + cpLen s))).map fun x => (num4 s, x.drop 6)

namespace Fla
def sec (F : Fla) (k : Nat) : List UInt8 := (F.b.drop (k * 256)).take 256

def whole (F : Fla) (k : Nat) : Option (UInt32 × List UInt8) := if F.down then none else cellCopy (F.sec k)

/-- One sector more: its copy, if it is whole, against what counts so far. -/
def stepF (st : Option (UInt32 × List UInt8 × Nat)) (k : Nat) (r : Option (UInt32 × List UInt8)) : Option (UInt32 × List UInt8 × Nat) :=
  match r with
  | none => st
  | some (n, b) => match st with
    | none => some (n, b, k)
    | some (m, _, _) => if n > m then some (n, b, k) else st

def foundTo (F : Fla) : Nat → Option (UInt32 × List UInt8 × Nat)
  | 0 => none
  | k + 1 => stepF (F.foundTo k) k (F.whole k)

def found (F : Fla) : Option (UInt32 × List UInt8 × Nat) := F.foundTo 2

def stNum (st : Option (UInt32 × List UInt8 × Nat)) : UInt32 := (st.map (·.1)).getD 0
def stB (st : Option (UInt32 × List UInt8 × Nat)) : List UInt8 := (st.map (·.2.1)).getD []
def stAt (st : Option (UInt32 × List UInt8 × Nat)) : Int := match st with
  | none => -1
  | some x => x.2.2

theorem step_take {st : Option (UInt32 × List UInt8 × Nat)} {k : Nat} {n : UInt32} {b : List UInt8} (h : stAt st < 0 ∨ (stNum st).toNat < n.toNat) : stepF st k (some (n, b)) = some (n, b, k) := by
  cases st with
  | none => rfl
  | some x =>
    obtain ⟨m, b', j⟩ := x
    have hm : n > m := by
      rcases h with h | h
      · simp only [stAt] at h; omega
      · exact UInt32.lt_iff_toNat_lt.2 h
    simp only [stepF, if_pos hm]

theorem step_keep {st : Option (UInt32 × List UInt8 × Nat)} {k : Nat} {n : UInt32} {b : List UInt8} (h0 : 0 ≤ stAt st) (h : ¬ (stNum st).toNat < n.toNat) : stepF st k (some (n, b)) = st := by
  cases st with
  | none => simp [stAt] at h0
  | some x =>
    obtain ⟨m, b', j⟩ := x
    have hm : ¬ n > m := fun h' => h (UInt32.lt_iff_toNat_lt.1 h')
    simp only [stepF, if_neg hm]

def cellRead (F : Fla) : List UInt8 × Int :=
  if F.down then ([], 11) else if stAt F.found < 0 then ([], 14) else (stB F.found, 0)

/-- A copy's bytes, without its mark. -/
def cellOut (n : UInt32) (b : List UInt8) : List UInt8 := crcPut (be4 n ++ [UInt8.ofNat (b.length / 256), UInt8.ofNat b.length] ++ b)

def cellPut (F : Fla) (to at_ : Int) (out : List UInt8) : Fla × Int :=
  if (F.erase to).2 ≠ 0 then F.erase to
  else if ((F.erase to).1.program at_ out).2 ≠ 0 then (F.erase to).1.program at_ out
  else ((F.erase to).1.program at_ out).1.program (at_ + out.length) [0]

def cellWrite (F : Fla) (b : List UInt8) : Fla × Int :=
  if b.length > 245 then (F, 1)
  else if F.down then (F, 11)
  else if stNum F.found = 4294967295 then (F, 9)
  else if stAt F.found = 0 then F.cellPut 1 256 (cellOut (stNum F.found + 1) b)
  else F.cellPut 0 0 (cellOut (stNum F.found + 1) b)
end Fla

end Go.Proofs.YtijhaeapoapgfaaGreatDoor

set_option linter.unusedVariables false
set_option linter.unusedSimpArgs false
namespace Go.Proofs.YtijhaeapoapgfaaGreatDoor
open Go.RowKit

def mixU (x : UInt32) : UInt32 :=
  let a := (x ^^^ (x >>> 16)) * 2146121005
  let b := (a ^^^ (a >>> 15)) * 2221713035
  b ^^^ (b >>> 16)

def rseed (a b : UInt32) : UInt32 := mixU a + b * 2654435769 + 1

/-- The state's next one. -/
def rstep (s : UInt32) : UInt32 :=
  let x := if s = 0 then 1 else s
  let a := x ^^^ (x <<< 13)
  let b := a ^^^ (a >>> 17)
  b ^^^ (b <<< 5)

def rnext (s : UInt32) : UInt32 := mixU (rstep s)

/-- A number below m. -/
def rlow (s : UInt32) (m : Nat) : Nat := (rnext s).toNat * m / 4294967296

theorem rlow_lt (s : UInt32) {m : Nat} (hm : 1 ≤ m) : rlow s m < m := by
  unfold rlow
  have h := (rnext s).toNat_lt
  generalize (rnext s).toNat = v at *
  have : v * m < 4294967296 * m := Nat.mul_lt_mul_of_pos_right h (by omega)
  rw [Nat.div_lt_iff_lt_mul (by omega), Nat.mul_comm m]
  exact this

def rbelow (s : UInt32) (n : Int) : Int × UInt32 := if n < 1 ∨ 2147483648 < n then (0, s) else ((rlow s n.toNat : Nat), rstep s)

def swapAt (l : List Nat) (i j : Nat) : List Nat := (l.set i (l.getD j 0)).set j (l.getD i 0)

theorem swapAt_len (l : List Nat) (i j : Nat) : (swapAt l i j).length = l.length := by unfold swapAt; simp

theorem swapAt_perm {l : List Nat} {i j : Nat} (hi : i < l.length) (hj : j < l.length) : List.Perm (swapAt l i j) l := by
  have h := List.set_set_perm hi hj
  unfold swapAt
  rwa [List.getD, List.getD, List.getElem?_eq_getElem hi, List.getElem?_eq_getElem hj]

def stepN : Nat → UInt32 → UInt32
  | 0, s => s
  | n + 1, s => stepN n (rstep s)

/-- m places more, from place i on. -/
def someLoop (n : Nat) : Nat → Nat → UInt32 → List Nat → List Nat
  | 0, _, _, l => l
  | m + 1, i, s, l => someLoop n m (i + 1) (rstep s) (swapAt l i (i + rlow s (n - i)))

theorem someLoop_perm (n : Nat) : ∀ (m i : Nat) (s : UInt32) (l : List Nat), l.length = n → i + m ≤ n → List.Perm (someLoop n m i s l) l := by
  intro m
  induction m with
  | zero => intro i s l _ _; exact List.Perm.refl _
  | succ m ih =>
    intro i s l hl him
    have h := rlow_lt s (m := n - i) (by omega)
    exact (ih _ _ _ (by rw [swapAt_len, hl]) (by omega)).trans (swapAt_perm (by omega) (by omega))

/-- How many are asked for. -/
def clampK (n k : Int) : Nat := (max 0 (min k n)).toNat

def rsome (s : UInt32) (n k : Int) : List Nat :=
  if n < 1 ∨ 256 < n then [] else ((someLoop n.toNat (clampK n k) 0 s (List.range n.toNat)).take (clampK n k)).mergeSort
def rsomeSt (s : UInt32) (n k : Int) : UInt32 := if n < 1 ∨ 256 < n then s else stepN (clampK n k) s

/-- Different ones, rising, each below n. -/
def Rising (l : List Nat) (n : Nat) : Prop := l.Pairwise (· < ·) ∧ ∀ x ∈ l, x < n

theorem sorted_rising {l : List Nat} {n : Nat} (hn : l.Nodup) (hb : ∀ x ∈ l, x < n) : Rising l.mergeSort n := by
  refine ⟨?_, fun x hx => hb x ((List.mergeSort_perm l _).mem_iff.1 hx)⟩
  have h1 : l.mergeSort.Pairwise (fun a b => decide (a ≤ b) = true) := List.pairwise_mergeSort (by intro a b c; simp; omega) (by intro a b; simp; omega) l
  have h2 : l.mergeSort.Nodup := (List.mergeSort_perm l _).nodup_iff.2 hn
  have h3 := h1.and h2
  exact h3.imp (fun {a b} h => by simp at h; omega)

theorem some_props (s : UInt32) (n k : Int) (h1 : 1 ≤ n) (h2 : n ≤ 256) : (rsome s n k).length = clampK n k ∧ Rising (rsome s n k) n.toNat := by
  have hk : clampK n k ≤ n.toNat := by unfold clampK; omega
  unfold rsome
  rw [if_neg (by omega)]
  have hp := someLoop_perm n.toNat (clampK n k) 0 s (List.range n.toNat) List.length_range (by omega)
  generalize someLoop n.toNat (clampK n k) 0 s (List.range n.toNat) = L at *
  have hl : L.length = n.toNat := by rw [hp.length_eq, List.length_range]
  refine ⟨by rw [(List.mergeSort_perm _ _).length_eq, List.length_take]; omega, ?_⟩
  have hnd : L.Nodup := hp.nodup_iff.2 List.nodup_range
  exact sorted_rising (hnd.sublist (List.take_sublist _ _)) (fun x hx => List.mem_range.1 (hp.mem_iff.1 (List.mem_of_mem_take hx)))

/-- Of all there are all. -/
theorem some_all (s : UInt32) (n : Int) (h1 : 1 ≤ n) (h2 : n ≤ 256) : rsome s n n = List.range n.toNat := by
  have hk : clampK n n = n.toNat := by unfold clampK; omega
  unfold rsome
  rw [if_neg (by omega), hk]
  have hp := someLoop_perm n.toNat n.toNat 0 s (List.range n.toNat) List.length_range (by omega)
  generalize someLoop n.toNat n.toNat 0 s (List.range n.toNat) = L at *
  have hl : L.length = n.toNat := by rw [hp.length_eq, List.length_range]
  rw [List.take_of_length_le (by omega)]
  refine List.Perm.eq_of_pairwise (le := (· ≤ ·)) (fun a b _ _ h1 h2 => by omega) ?_ ?_ ((List.mergeSort_perm L _).trans hp)
  · have h1 : L.mergeSort.Pairwise (fun a b => decide (a ≤ b) = true) := List.pairwise_mergeSort (by intro a b c; simp; omega) (by intro a b; simp; omega) L
    exact h1.imp (fun {a b} h => by simpa using h)
  · exact (List.pairwise_lt_range (n := n.toNat)).imp (fun {a b} h => by omega)

end Go.Proofs.YtijhaeapoapgfaaGreatDoor

set_option linter.unusedVariables false
set_option linter.unusedSimpArgs false
namespace Go.Proofs.YtijhaeapoapgfaaGreatDoor
open Go.RowKit

theorem and_cat {k a c : Nat} (q m : Nat) (ha : a < 2 ^ k) (hc : c < 2 ^ k) : (2 ^ k * q + a) &&& (2 ^ k * m + c) = 2 ^ k * (q &&& m) + (a &&& c) := by
  have hac : a &&& c < 2 ^ k := Nat.lt_of_le_of_lt Nat.and_le_left ha
  apply Nat.eq_of_testBit_eq
  intro i
  rw [Nat.testBit_and, Nat.testBit_two_pow_mul_add _ ha, Nat.testBit_two_pow_mul_add _ hc, Nat.testBit_two_pow_mul_add _ hac]
  split
  · rw [Nat.testBit_and]
  · rw [Nat.testBit_and]

/-- Eight bytes, the lowest first. -/
def cat8 (b0 b1 b2 b3 b4 b5 b6 b7 : Nat) : Nat := 256 * (256 * (256 * (256 * (256 * (256 * (256 * b7 + b6) + b5) + b4) + b3) + b2) + b1) + b0

theorem and_cat256 {a c : Nat} (q m : Nat) (ha : a < 256) (hc : c < 256) : (256 * q + a) &&& (256 * m + c) = 256 * (q &&& m) + (a &&& c) := and_cat (k := 8) q m ha hc

theorem cat8_and {b0 b1 b2 b3 b4 b5 b6 b7 : Nat} (m : Nat) (h0 : b0 < 256) (h1 : b1 < 256) (h2 : b2 < 256) (h3 : b3 < 256) (h4 : b4 < 256) (h5 : b5 < 256) (h6 : b6 < 256) (hm : m < 256) :
    cat8 b0 b1 b2 b3 b4 b5 b6 b7 &&& cat8 m m m m m m m m = cat8 (b0 &&& m) (b1 &&& m) (b2 &&& m) (b3 &&& m) (b4 &&& m) (b5 &&& m) (b6 &&& m) (b7 &&& m) := by
  unfold cat8
  rw [and_cat256 _ _ h0 hm, and_cat256 _ _ h1 hm, and_cat256 _ _ h2 hm, and_cat256 _ _ h3 hm, and_cat256 _ _ h4 hm, and_cat256 _ _ h5 hm, and_cat256 _ _ h6 hm]

theorem mask0 : (6148914691236517205 : Nat) = cat8 85 85 85 85 85 85 85 85 := by decide
theorem mask1 : (3689348814741910323 : Nat) = cat8 51 51 51 51 51 51 51 51 := by decide
theorem mask2 : (1085102592571150095 : Nat) = cat8 15 15 15 15 15 15 15 15 := by decide

/-- The bits of a byte that are set. -/
def pop8 (b : Nat) : Nat := b % 2 + b / 2 % 2 + b / 4 % 2 + b / 8 % 2 + b / 16 % 2 + b / 32 % 2 + b / 64 % 2 + b / 128 % 2

def st1 (b : Nat) : Nat := (b / 2 &&& 85) + (b &&& 85)
def st2 (b : Nat) : Nat := (b / 4 &&& 51) + (b &&& 51)

theorem by1 : ∀ b : Fin 256, ∀ t : Fin 2, ((128 * t.val + b.val / 2) &&& 85) = (b.val / 2 &&& 85) := by decide +kernel
theorem by1b : ∀ b : Fin 256, st1 b.val < 256 := by decide +kernel
theorem by2 : ∀ b : Fin 256, ∀ t : Fin 4, ((64 * t.val + b.val / 4) &&& 51) = (b.val / 4 &&& 51) := by decide +kernel
theorem by2b : ∀ b : Fin 256, st2 (st1 b.val) ≤ 68 ∧ st1 b.val < 256 ∧ st2 (st1 b.val) % 16 ≤ 4 := by decide +kernel
theorem by3 : ∀ b : Fin 256, ∀ t : Fin 16, ((16 * t.val + st2 (st1 b.val) / 16 + st2 (st1 b.val)) &&& 15) = pop8 b.val := by decide +kernel

theorem cat8_half {b0 b1 b2 b3 b4 b5 b6 b7 : Nat} (h0 : b0 < 256) (h1 : b1 < 256) (h2 : b2 < 256) (h3 : b3 < 256) (h4 : b4 < 256) (h5 : b5 < 256) (h6 : b6 < 256) (h7 : b7 < 256) :
    cat8 b0 b1 b2 b3 b4 b5 b6 b7 / 2 = cat8 (128 * (b1 % 2) + b0 / 2) (128 * (b2 % 2) + b1 / 2) (128 * (b3 % 2) + b2 / 2) (128 * (b4 % 2) + b3 / 2) (128 * (b5 % 2) + b4 / 2) (128 * (b6 % 2) + b5 / 2) (128 * (b7 % 2) + b6 / 2) (128 * 0 + b7 / 2) := by
  unfold cat8; omega
theorem cat8_quart {b0 b1 b2 b3 b4 b5 b6 b7 : Nat} (h0 : b0 < 256) (h1 : b1 < 256) (h2 : b2 < 256) (h3 : b3 < 256) (h4 : b4 < 256) (h5 : b5 < 256) (h6 : b6 < 256) (h7 : b7 < 256) :
    cat8 b0 b1 b2 b3 b4 b5 b6 b7 / 4 = cat8 (64 * (b1 % 4) + b0 / 4) (64 * (b2 % 4) + b1 / 4) (64 * (b3 % 4) + b2 / 4) (64 * (b4 % 4) + b3 / 4) (64 * (b5 % 4) + b4 / 4) (64 * (b6 % 4) + b5 / 4) (64 * (b7 % 4) + b6 / 4) (64 * 0 + b7 / 4) := by
  unfold cat8; omega
theorem cat8_sixt {b0 b1 b2 b3 b4 b5 b6 b7 : Nat} (h0 : b0 ≤ 68) (h1 : b1 ≤ 68) (h2 : b2 ≤ 68) (h3 : b3 ≤ 68) (h4 : b4 ≤ 68) (h5 : b5 ≤ 68) (h6 : b6 ≤ 68) (h7 : b7 ≤ 68) :
    cat8 b0 b1 b2 b3 b4 b5 b6 b7 / 16 + cat8 b0 b1 b2 b3 b4 b5 b6 b7 = cat8 (16 * (b1 % 16) + b0 / 16 + b0) (16 * (b2 % 16) + b1 / 16 + b1) (16 * (b3 % 16) + b2 / 16 + b2) (16 * (b4 % 16) + b3 / 16 + b3) (16 * (b5 % 16) + b4 / 16 + b4) (16 * (b6 % 16) + b5 / 16 + b5) (16 * (b7 % 16) + b6 / 16 + b6) (16 * 0 + b7 / 16 + b7) := by
  unfold cat8; omega
theorem cat8_add {a0 a1 a2 a3 a4 a5 a6 a7 b0 b1 b2 b3 b4 b5 b6 b7 : Nat} : cat8 a0 a1 a2 a3 a4 a5 a6 a7 + cat8 b0 b1 b2 b3 b4 b5 b6 b7 = cat8 (a0 + b0) (a1 + b1) (a2 + b2) (a3 + b3) (a4 + b4) (a5 + b5) (a6 + b6) (a7 + b7) := by
  unfold cat8; omega

theorem pop8_le : ∀ b : Fin 256, pop8 b.val ≤ 8 := by decide +kernel

theorem cat8_d1 {b0 b1 b2 b3 b4 b5 b6 b7 : Nat} (h0 : b0 < 256) : cat8 b0 b1 b2 b3 b4 b5 b6 b7 / 256 = cat8 b1 b2 b3 b4 b5 b6 b7 0 := by
  unfold cat8; omega
theorem cat8_d2 {b0 b1 b2 b3 b4 b5 b6 b7 : Nat} (h0 : b0 < 256) (h1 : b1 < 256) : cat8 b0 b1 b2 b3 b4 b5 b6 b7 / 65536 = cat8 b2 b3 b4 b5 b6 b7 0 0 := by
  unfold cat8; omega
theorem cat8_d4 {b0 b1 b2 b3 b4 b5 b6 b7 : Nat} (h0 : b0 < 256) (h1 : b1 < 256) (h2 : b2 < 256) (h3 : b3 < 256) : cat8 b0 b1 b2 b3 b4 b5 b6 b7 / 4294967296 = cat8 b4 b5 b6 b7 0 0 0 0 := by
  unfold cat8; omega

/-- The road of the library: in words of 64 bits. -/
def ones1 (x : Nat) : Nat := (x / 2 &&& 6148914691236517205) + (x &&& 6148914691236517205)
def ones2 (x : Nat) : Nat := (x / 4 &&& 3689348814741910323) + (x &&& 3689348814741910323)
def ones3 (x : Nat) : Nat := (x / 16 + x) &&& 1085102592571150095
def ones4 (x : Nat) : Nat := x + x / 256
def ones5 (x : Nat) : Nat := x + x / 65536
def ones6 (x : Nat) : Nat := x + x / 4294967296
def onesAll (x : Nat) : Nat := ones6 (ones5 (ones4 (ones3 (ones2 (ones1 x))))) % 128

theorem ones1_cat {b0 b1 b2 b3 b4 b5 b6 b7 : Nat} (h0 : b0 < 256) (h1 : b1 < 256) (h2 : b2 < 256) (h3 : b3 < 256) (h4 : b4 < 256) (h5 : b5 < 256) (h6 : b6 < 256) (h7 : b7 < 256) : ones1 (cat8 b0 b1 b2 b3 b4 b5 b6 b7) = cat8 (st1 b0) (st1 b1) (st1 b2) (st1 b3) (st1 b4) (st1 b5) (st1 b6) (st1 b7) := by
  have e : ∀ b t, b < 256 → t < 2 → (128 * t + b / 2) &&& 85 = (b / 2 &&& 85) := fun b t hb ht => by1 ⟨b, hb⟩ ⟨t, ht⟩
  have l : ∀ b t, b < 256 → t < 2 → 128 * t + b / 2 < 256 := fun b t hb ht => by omega
  have m2 : ∀ b, b % 2 < 2 := fun b => Nat.mod_lt _ (by omega)
  unfold ones1
  rw [mask0, cat8_half h0 h1 h2 h3 h4 h5 h6 h7, cat8_and 85 (l _ _ h0 (m2 _)) (l _ _ h1 (m2 _)) (l _ _ h2 (m2 _)) (l _ _ h3 (m2 _)) (l _ _ h4 (m2 _)) (l _ _ h5 (m2 _)) (l _ _ h6 (m2 _)) (by omega), cat8_and 85 h0 h1 h2 h3 h4 h5 h6 (by omega), cat8_add]
  rw [e _ _ h0 (m2 _), e _ _ h1 (m2 _), e _ _ h2 (m2 _), e _ _ h3 (m2 _), e _ _ h4 (m2 _), e _ _ h5 (m2 _), e _ _ h6 (m2 _), e _ 0 h7 (by omega)]
  rfl

theorem ones2_cat {b0 b1 b2 b3 b4 b5 b6 b7 : Nat} (h0 : b0 < 256) (h1 : b1 < 256) (h2 : b2 < 256) (h3 : b3 < 256) (h4 : b4 < 256) (h5 : b5 < 256) (h6 : b6 < 256) (h7 : b7 < 256) : ones2 (cat8 b0 b1 b2 b3 b4 b5 b6 b7) = cat8 (st2 b0) (st2 b1) (st2 b2) (st2 b3) (st2 b4) (st2 b5) (st2 b6) (st2 b7) := by
  have e : ∀ b t, b < 256 → t < 4 → (64 * t + b / 4) &&& 51 = (b / 4 &&& 51) := fun b t hb ht => by2 ⟨b, hb⟩ ⟨t, ht⟩
  have l : ∀ b t, b < 256 → t < 4 → 64 * t + b / 4 < 256 := fun b t hb ht => by omega
  have m2 : ∀ b, b % 4 < 4 := fun b => Nat.mod_lt _ (by omega)
  unfold ones2
  rw [mask1, cat8_quart h0 h1 h2 h3 h4 h5 h6 h7, cat8_and 51 (l _ _ h0 (m2 _)) (l _ _ h1 (m2 _)) (l _ _ h2 (m2 _)) (l _ _ h3 (m2 _)) (l _ _ h4 (m2 _)) (l _ _ h5 (m2 _)) (l _ _ h6 (m2 _)) (by omega), cat8_and 51 h0 h1 h2 h3 h4 h5 h6 (by omega), cat8_add]
  rw [e _ _ h0 (m2 _), e _ _ h1 (m2 _), e _ _ h2 (m2 _), e _ _ h3 (m2 _), e _ _ h4 (m2 _), e _ _ h5 (m2 _), e _ _ h6 (m2 _), e _ 0 h7 (by omega)]
  rfl

theorem ones3_cat {b0 b1 b2 b3 b4 b5 b6 b7 : Nat} (h0 : b0 < 256) (h1 : b1 < 256) (h2 : b2 < 256) (h3 : b3 < 256) (h4 : b4 < 256) (h5 : b5 < 256) (h6 : b6 < 256) (h7 : b7 < 256) : ones3 (cat8 (st2 (st1 b0)) (st2 (st1 b1)) (st2 (st1 b2)) (st2 (st1 b3)) (st2 (st1 b4)) (st2 (st1 b5)) (st2 (st1 b6)) (st2 (st1 b7))) = cat8 (pop8 b0) (pop8 b1) (pop8 b2) (pop8 b3) (pop8 b4) (pop8 b5) (pop8 b6) (pop8 b7) := by
  have e : ∀ b t, b < 256 → t < 16 → (16 * t + st2 (st1 b) / 16 + st2 (st1 b)) &&& 15 = pop8 b := fun b t hb ht => by3 ⟨b, hb⟩ ⟨t, ht⟩
  have q : ∀ b, b < 256 → st2 (st1 b) ≤ 68 := fun b hb => (by2b ⟨b, hb⟩).1
  have m4 : ∀ b, b < 256 → st2 (st1 b) % 16 ≤ 4 := fun b hb => (by2b ⟨b, hb⟩).2.2
  have l : ∀ b t, b < 256 → t ≤ 4 → 16 * t + st2 (st1 b) / 16 + st2 (st1 b) < 256 := fun b t hb ht => by have := q b hb; omega
  unfold ones3
  rw [mask2, cat8_sixt (q _ h0) (q _ h1) (q _ h2) (q _ h3) (q _ h4) (q _ h5) (q _ h6) (q _ h7), cat8_and 15 (l _ _ h0 (m4 _ h1)) (l _ _ h1 (m4 _ h2)) (l _ _ h2 (m4 _ h3)) (l _ _ h3 (m4 _ h4)) (l _ _ h4 (m4 _ h5)) (l _ _ h5 (m4 _ h6)) (l _ _ h6 (m4 _ h7)) (by omega)]
  rw [e _ _ h0 (Nat.lt_of_le_of_lt (m4 _ h1) (by omega)), e _ _ h1 (Nat.lt_of_le_of_lt (m4 _ h2) (by omega)), e _ _ h2 (Nat.lt_of_le_of_lt (m4 _ h3) (by omega)), e _ _ h3 (Nat.lt_of_le_of_lt (m4 _ h4) (by omega)), e _ _ h4 (Nat.lt_of_le_of_lt (m4 _ h5) (by omega)), e _ _ h5 (Nat.lt_of_le_of_lt (m4 _ h6) (by omega)), e _ _ h6 (Nat.lt_of_le_of_lt (m4 _ h7) (by omega)), e _ 0 h7 (by omega)]

theorem ones_low {p0 p1 p2 p3 p4 p5 p6 p7 : Nat} (h0 : p0 ≤ 8) (h1 : p1 ≤ 8) (h2 : p2 ≤ 8) (h3 : p3 ≤ 8) (h4 : p4 ≤ 8) (h5 : p5 ≤ 8) (h6 : p6 ≤ 8) (h7 : p7 ≤ 8) : ones6 (ones5 (ones4 (cat8 p0 p1 p2 p3 p4 p5 p6 p7))) % 128 = p0 + p1 + p2 + p3 + p4 + p5 + p6 + p7 := by
  unfold ones4
  rw [cat8_d1 (by omega), cat8_add]
  unfold ones5
  rw [cat8_d2 (by omega) (by omega), cat8_add]
  unfold ones6
  rw [cat8_d4 (by omega) (by omega) (by omega) (by omega), cat8_add]
  unfold cat8
  omega

theorem onesAll_cat {b0 b1 b2 b3 b4 b5 b6 b7 : Nat} (h0 : b0 < 256) (h1 : b1 < 256) (h2 : b2 < 256) (h3 : b3 < 256) (h4 : b4 < 256) (h5 : b5 < 256) (h6 : b6 < 256) (h7 : b7 < 256) : onesAll (cat8 b0 b1 b2 b3 b4 b5 b6 b7) = pop8 b0 + pop8 b1 + pop8 b2 + pop8 b3 + pop8 b4 + pop8 b5 + pop8 b6 + pop8 b7 := by
  have a : ∀ b, b < 256 → st1 b < 256 := fun b hb => (by2b ⟨b, hb⟩).2.1
  have c : ∀ b, b < 256 → pop8 b ≤ 8 := fun b hb => pop8_le ⟨b, hb⟩
  unfold onesAll
  rw [ones1_cat h0 h1 h2 h3 h4 h5 h6 h7, ones2_cat (a _ h0) (a _ h1) (a _ h2) (a _ h3) (a _ h4) (a _ h5) (a _ h6) (a _ h7), ones3_cat h0 h1 h2 h3 h4 h5 h6 h7, ones_low (c _ h0) (c _ h1) (c _ h2) (c _ h3) (c _ h4) (c _ h5) (c _ h6) (c _ h7)]

/-- How many bits of a word are set. -/
def popN (x : Nat) : Nat := pop8 (x % 256) + pop8 (x / 256 % 256) + pop8 (x / 65536 % 256) + pop8 (x / 16777216 % 256) + pop8 (x / 4294967296 % 256) + pop8 (x / 1099511627776 % 256) + pop8 (x / 281474976710656 % 256) + pop8 (x / 72057594037927936 % 256)

theorem onesAll_eq (x : Nat) (hx : x < 18446744073709551616) : onesAll x = popN x := by
  have e : x = cat8 (x % 256) (x / 256 % 256) (x / 65536 % 256) (x / 16777216 % 256) (x / 4294967296 % 256) (x / 1099511627776 % 256) (x / 281474976710656 % 256) (x / 72057594037927936 % 256) := by
    unfold cat8; omega
  have m : ∀ y, y % 256 < 256 := fun y => Nat.mod_lt _ (by omega)
  have h := onesAll_cat (m x) (m (x / 256)) (m (x / 65536)) (m (x / 16777216)) (m (x / 4294967296)) (m (x / 1099511627776)) (m (x / 281474976710656)) (m (x / 72057594037927936))
  rw [← e] at h
  exact h

end Go.Proofs.YtijhaeapoapgfaaGreatDoor

set_option linter.unusedVariables false
set_option linter.unusedSimpArgs false
namespace Go.Proofs.YtijhaeapoapgfaaGreatDoor
open Go.RowKit

theorem odd_part : ∀ (n x : Nat), x < 2 ^ n → x ≠ 0 → ∃ k m, k < n ∧ x = 2 ^ k * (2 * m + 1)
  | 0, x, h, h0 => by simp at h; omega
  | n + 1, x, h, h0 => by
    by_cases ho : x % 2 = 1
    · exact ⟨0, x / 2, by omega, by simp; omega⟩
    · obtain ⟨k, m, hk, he⟩ := odd_part n (x / 2) (by rw [Nat.pow_succ] at h; omega) (by omega)
      refine ⟨k + 1, m, by omega, ?_⟩
      rw [Nat.pow_succ, Nat.mul_right_comm, ← he]
      omega

theorem low_and {k m : Nat} (hx : 2 ^ k * (2 * m + 1) < 18446744073709551616) : 2 ^ k * (2 * m + 1) &&& (18446744073709551616 - 2 ^ k * (2 * m + 1)) = 2 ^ k := by
  have hp : 0 < 2 ^ k := Nat.two_pow_pos k
  have hx1 : 2 ^ k * (2 * m + 1) - 1 < 2 ^ 64 := by
    have : (2 : Nat) ^ 64 = 18446744073709551616 := by decide
    omega
  have hm1 : 2 ^ k * (2 * m + 1) - 1 = 2 ^ k * (2 * m) + (2 ^ k - 1) := by rw [Nat.mul_add]; omega
  have hneg : 18446744073709551616 - 2 ^ k * (2 * m + 1) = 2 ^ 64 - ((2 ^ k * (2 * m + 1) - 1) + 1) := by
    have : (2 : Nat) ^ 64 = 18446744073709551616 := by decide
    have h1 : 1 ≤ 2 ^ k * (2 * m + 1) := Nat.mul_pos hp (by omega)
    omega
  rw [hneg]
  apply Nat.eq_of_testBit_eq
  intro i
  rw [Nat.testBit_and, Nat.testBit_two_pow_sub_succ hx1, hm1]
  have e1 : (2 ^ k * (2 * m + 1)).testBit i = if i < k then false else (2 * m + 1).testBit (i - k) := by
    have := Nat.testBit_two_pow_mul_add (2 * m + 1) hp i
    rw [Nat.add_zero] at this
    rw [this]
    simp
  rw [e1, Nat.testBit_two_pow_mul_add (2 * m) (show 2 ^ k - 1 < 2 ^ k by omega)]
  rw [Nat.testBit_two_pow]
  by_cases hik : i < k
  · rw [if_pos hik, Bool.false_and]
    simp; omega
  · rw [if_neg hik, if_neg hik]
    by_cases he : k = i
    · subst he
      rw [Nat.sub_self]
      have hk64 : k < 64 := by
        cases Nat.lt_or_ge k 64 with
        | inl h => exact h
        | inr h =>
          exfalso
          have h1 : (2 : Nat) ^ 64 ≤ 2 ^ k := Nat.pow_le_pow_right (by omega) h
          have h2 : 2 ^ k ≤ 2 ^ k * (2 * m + 1) := Nat.le_mul_of_pos_right _ (by omega)
          have : (2 : Nat) ^ 64 = 18446744073709551616 := by decide
          omega
      simp [hk64, Nat.testBit_zero]
    · obtain ⟨j, hj⟩ : ∃ j, i - k = j + 1 := ⟨i - k - 1, by omega⟩
      rw [hj, Nat.testBit_succ, Nat.testBit_succ, show (2 * m + 1) / 2 = m from by omega, show 2 * m / 2 = m from by omega]
      cases m.testBit j <;> simp [he]

theorem low_bit {x : Nat} (hx : x < 18446744073709551616) (h0 : x ≠ 0) : ∃ k m, k < 64 ∧ x = 2 ^ k * (2 * m + 1) ∧ x &&& (18446744073709551616 - x) = 2 ^ k := by
  obtain ⟨k, m, hk, rfl⟩ := odd_part 64 x (by have : (2 : Nat) ^ 64 = 18446744073709551616 := by decide
                                              omega) h0
  exact ⟨k, m, hk, rfl, low_and hx⟩

/-- The library's table. -/
def tzTab : List Nat := [0, 1, 56, 2, 57, 49, 28, 3, 61, 58, 42, 50, 38, 29, 17, 4, 62, 47, 59, 36, 45, 43, 51, 22, 53, 39, 33, 30, 24, 18, 12, 5, 63, 55, 48, 27, 60, 41, 37, 16, 46, 35, 44, 21, 52, 32, 23, 11, 54, 26, 40, 15, 34, 20, 31, 10, 25, 14, 19, 9, 13, 8, 7, 6]

theorem tzTab_at : ∀ k : Fin 64, tzTab.getD (2 ^ k.val * 285870213051353865 % 18446744073709551616 / 288230376151711744) 0 = k.val := by decide +kernel

end Go.Proofs.YtijhaeapoapgfaaGreatDoor

set_option linter.unusedVariables false
set_option linter.unusedSimpArgs false
namespace Go.Proofs.YtijhaeapoapgfaaGreatDoor
open Go.RowKit

theorem two64 : (2 : Nat) ^ 64 = 18446744073709551616 := by decide

/-- The k-th word. -/
def word (X k : Nat) : Nat := X / 2 ^ (64 * k) % 18446744073709551616

theorem word_lt (X k : Nat) : word X k < 18446744073709551616 := Nat.mod_lt _ (by omega)

theorem word_testBit (X k j : Nat) : (word X k).testBit j = (decide (j < 64) && X.testBit (64 * k + j)) := by
  unfold word
  rw [← two64, Nat.testBit_mod_two_pow, Nat.testBit_div_two_pow, Nat.add_comm]

/-- How many words. -/
def nw (n : Nat) : Nat := (n + 63) / 64
def words (n X : Nat) : List Nat := (List.range (nw n)).map (word X)

theorem words_len (n X : Nat) : (words n X).length = nw n := by simp [words]
theorem words_at (n X : Nat) {k : Nat} (hk : k < nw n) : (words n X).getD k 0 = word X k := by
  simp [words, List.getD, hk]
theorem words_ext {n : Nat} {l : List Nat} {X : Nat} (hl : l.length = nw n) (h : ∀ k, k < nw n → l.getD k 0 = word X k) : l = words n X := by
  apply List.ext_getElem
  · rw [hl, words_len]
  · intro i h1 h2
    have := h i (by omega)
    rw [List.getD_eq_getElem?_getD, List.getElem?_eq_getElem h1, Option.getD_some] at this
    rw [this]
    simp [words]

theorem words_zero (n : Nat) : words n 0 = List.replicate (nw n) 0 := by
  symm
  refine words_ext (by simp) (fun k hk => ?_)
  simp [word, List.getD, hk]

def clrB (X i : Nat) : Nat := X ^^^ (X &&& 2 ^ i)
def orB (X i : Nat) : Nat := X ||| 2 ^ i
def putB (X i : Nat) (on : Bool) : Nat := if on then orB (clrB X i) i else clrB X i

theorem testBit_clr (X i j : Nat) : (clrB X i).testBit j = (X.testBit j && !decide (i = j)) := by
  unfold clrB
  rw [Nat.testBit_xor, Nat.testBit_and, Nat.testBit_two_pow]
  cases X.testBit j <;> cases decide (i = j) <;> rfl
theorem testBit_orB (X i j : Nat) : (orB X i).testBit j = (X.testBit j || decide (i = j)) := by
  unfold orB
  rw [Nat.testBit_or, Nat.testBit_two_pow]
theorem testBit_put (X i j : Nat) (on : Bool) : (putB X i on).testBit j = if i = j then on else X.testBit j := by
  unfold putB
  cases on
  · simp only [Bool.false_eq_true, if_false]
    rw [testBit_clr]
    by_cases h : i = j <;> simp [h]
  · simp only [if_true]
    rw [testBit_orB, testBit_clr]
    by_cases h : i = j <;> simp [h]

theorem lt_of_bits {X n : Nat} (h : ∀ j, n ≤ j → X.testBit j = false) : X < 2 ^ n := Nat.lt_pow_two_of_testBit X h
theorem bit_ge {X n j : Nat} (hX : X < 2 ^ n) (hj : n ≤ j) : X.testBit j = false :=
  Nat.testBit_lt_two_pow (Nat.lt_of_lt_of_le hX (Nat.pow_le_pow_right (by omega) hj))

theorem clr_lt {X n i : Nat} (hX : X < 2 ^ n) : clrB X i < 2 ^ n := lt_of_bits fun j hj => by rw [testBit_clr, bit_ge hX hj]; rfl
theorem orB_lt {X n i : Nat} (hX : X < 2 ^ n) (hi : i < n) : orB X i < 2 ^ n := lt_of_bits fun j hj => by rw [testBit_orB, bit_ge hX hj]; simp; omega
theorem put_lt {X n i : Nat} {on : Bool} (hX : X < 2 ^ n) (hi : i < n) : putB X i on < 2 ^ n := by
  unfold putB; split
  · exact orB_lt (clr_lt hX) hi
  · exact clr_lt hX
theorem xor_lt {X Y n : Nat} (hX : X < 2 ^ n) (hY : Y < 2 ^ n) : X ^^^ Y < 2 ^ n := Nat.xor_lt_two_pow hX hY

theorem not_bit (a j : Nat) (ha : a < 64) : (18446744073709551615 - 2 ^ a).testBit j = (decide (j < 64) && !decide (a = j)) := by
  have h : 2 ^ a < 2 ^ 64 := Nat.pow_lt_pow_right (by omega) ha
  have := Nat.testBit_two_pow_sub_succ h j
  rw [show 18446744073709551615 - 2 ^ a = 2 ^ 64 - (2 ^ a + 1) from by rw [two64]; omega, this, Nat.testBit_two_pow]

theorem split_eq {i k j : Nat} (hj : j < 64) : (i = 64 * k + j) ↔ (i / 64 = k ∧ i % 64 = j) := by omega

theorem word_clr_same (X i : Nat) : word (clrB X i) (i / 64) = word X (i / 64) &&& (18446744073709551615 - 2 ^ (i % 64)) := by
  apply Nat.eq_of_testBit_eq
  intro j
  rw [Nat.testBit_and, not_bit _ _ (Nat.mod_lt _ (by omega)), word_testBit, word_testBit, testBit_clr]
  by_cases hj : j < 64
  · have e : decide (i = 64 * (i / 64) + j) = decide (i % 64 = j) := by congr 1; simp; omega
    rw [e]
    cases X.testBit (64 * (i / 64) + j) <;> cases decide (i % 64 = j) <;> simp [hj]
  · simp [hj]
theorem word_clr_other (X i k : Nat) (hk : k ≠ i / 64) : word (clrB X i) k = word X k := by
  apply Nat.eq_of_testBit_eq
  intro j
  rw [word_testBit, word_testBit, testBit_clr]
  by_cases hj : j < 64
  · have e : decide (i = 64 * k + j) = false := by simp; omega
    rw [e]
    simp
  · simp [hj]
theorem word_or_same (X i : Nat) : word (orB X i) (i / 64) = word X (i / 64) ||| 2 ^ (i % 64) := by
  apply Nat.eq_of_testBit_eq
  intro j
  rw [Nat.testBit_or, Nat.testBit_two_pow, word_testBit, word_testBit, testBit_orB]
  by_cases hj : j < 64
  · have e : decide (i = 64 * (i / 64) + j) = decide (i % 64 = j) := by congr 1; simp; omega
    rw [e]
    simp [hj]
  · have : ¬ i % 64 = j := by omega
    simp [hj, this]
theorem word_or_other (X i k : Nat) (hk : k ≠ i / 64) : word (orB X i) k = word X k := by
  apply Nat.eq_of_testBit_eq
  intro j
  rw [word_testBit, word_testBit, testBit_orB]
  by_cases hj : j < 64
  · have e : decide (i = 64 * k + j) = false := by simp; omega
    rw [e]
    simp
  · simp [hj]
theorem word_xor (X Y k : Nat) : word (X ^^^ Y) k = word X k ^^^ word Y k := by
  apply Nat.eq_of_testBit_eq
  intro j
  rw [Nat.testBit_xor, word_testBit, word_testBit, word_testBit, Nat.testBit_xor]
  cases decide (j < 64) <;> simp

theorem getD_set (l : List Nat) (i j v : Nat) (hi : i < l.length) : (l.set i v).getD j 0 = if j = i then v else l.getD j 0 := by
  rw [List.getD_eq_getElem?_getD, List.getElem?_set]
  by_cases h : j = i
  · subst h; simp [hi]
  · have : ¬ i = j := fun e => h e.symm
    simp [this, h, List.getD_eq_getElem?_getD]

theorem words_clr {n X i : Nat} (hi : i < n) : (words n X).set (i / 64) (word X (i / 64) &&& (18446744073709551615 - 2 ^ (i % 64))) = words n (clrB X i) := by
  have hq : i / 64 < nw n := by unfold nw; omega
  refine words_ext (by rw [List.length_set, words_len]) (fun k hk => ?_)
  rw [getD_set _ _ _ _ (by rw [words_len]; exact hq)]
  split
  · next h => subst h; rw [word_clr_same]
  · next h => rw [words_at _ _ hk, word_clr_other _ _ _ h]
theorem words_or {n X i : Nat} (hi : i < n) : (words n X).set (i / 64) (word X (i / 64) ||| 2 ^ (i % 64)) = words n (orB X i) := by
  have hq : i / 64 < nw n := by unfold nw; omega
  refine words_ext (by rw [List.length_set, words_len]) (fun k hk => ?_)
  rw [getD_set _ _ _ _ (by rw [words_len]; exact hq)]
  split
  · next h => subst h; rw [word_or_same]
  · next h => rw [words_at _ _ hk, word_or_other _ _ _ h]

/-- Two rows of one length are the same just if their words are. -/
theorem words_inj {n X Y : Nat} (hX : X < 2 ^ n) (hY : Y < 2 ^ n) (h : words n X = words n Y) : X = Y := by
  apply Nat.eq_of_testBit_eq
  intro i
  by_cases hi : i < n
  · have hk : i / 64 < nw n := by unfold nw; omega
    have e := congrArg (fun l => (l.getD (i / 64) 0).testBit (i % 64)) h
    simp only [words_at _ _ hk, word_testBit] at e
    have h1 : i % 64 < 64 := Nat.mod_lt _ (by omega)
    rw [show 64 * (i / 64) + i % 64 = i from by omega] at e
    simpa [h1] using e
  · rw [bit_ge hX (by omega), bit_ge hY (by omega)]

/-- Is a bit set? -/
theorem word_has (X i : Nat) : ((word X (i / 64) / 2 ^ (i % 64)) &&& 1 = 1) ↔ X.testBit i = true := by
  have h := word_testBit X (i / 64) (i % 64)
  have h1 : i % 64 < 64 := Nat.mod_lt _ (by omega)
  rw [show 64 * (i / 64) + i % 64 = i from by omega] at h
  simp only [h1, decide_true, Bool.true_and] at h
  rw [← h, Nat.and_one_is_mod, Nat.testBit_eq_decide_div_mod_eq]
  simp

/-! How many. -/
def cnt (f : Nat → Bool) (n : Nat) : Nat := (List.range n).countP f
theorem cnt_zero (f : Nat → Bool) : cnt f 0 = 0 := rfl
theorem cnt_succ (f : Nat → Bool) (n : Nat) : cnt f (n + 1) = cnt f n + (if f n then 1 else 0) := by
  unfold cnt
  rw [List.range_succ, List.countP_append]
  simp [List.countP_cons]
theorem cnt_add (f : Nat → Bool) (a b : Nat) : cnt f (a + b) = cnt f a + cnt (fun i => f (a + i)) b := by
  induction b with
  | zero => rfl
  | succ b ih => rw [← Nat.add_assoc, cnt_succ, cnt_succ, ih]; omega
theorem cnt_congr {f g : Nat → Bool} {n : Nat} (h : ∀ i, i < n → f i = g i) : cnt f n = cnt g n := by
  induction n with
  | zero => rfl
  | succ n ih => rw [cnt_succ, cnt_succ, ih (fun i hi => h i (by omega)), h n (by omega)]
theorem cnt_none {f : Nat → Bool} {n : Nat} (h : ∀ i, i < n → f i = false) : cnt f n = 0 := by
  induction n with
  | zero => rfl
  | succ n ih => rw [cnt_succ, ih (fun i hi => h i (by omega)), h n (by omega)]; rfl

theorem pop8_cnt : ∀ b : Fin 256, pop8 b.val = cnt (fun i => b.val.testBit i) 8 := by decide +kernel
theorem byte_bit (x s i : Nat) (hi : i < 8) : (x / 2 ^ s % 256).testBit i = x.testBit (s + i) := by
  rw [show (256 : Nat) = 2 ^ 8 from rfl, Nat.testBit_mod_two_pow, Nat.testBit_div_two_pow, Nat.add_comm]
  simp [hi]
theorem pop8_at (x s : Nat) : pop8 (x / 2 ^ s % 256) = cnt (fun i => x.testBit (s + i)) 8 := by
  have h : x / 2 ^ s % 256 < 256 := Nat.mod_lt _ (by omega)
  rw [show pop8 (x / 2 ^ s % 256) = cnt (fun i => (x / 2 ^ s % 256).testBit i) 8 from pop8_cnt ⟨_, h⟩]
  exact cnt_congr fun i hi => byte_bit x s i hi
theorem popN_cnt (x : Nat) : popN x = cnt x.testBit 64 := by
  have h0 := pop8_at x 0
  have h1 := pop8_at x 8
  have h2 := pop8_at x 16
  have h3 := pop8_at x 24
  have h4 := pop8_at x 32
  have h5 := pop8_at x 40
  have h6 := pop8_at x 48
  have h7 := pop8_at x 56
  rw [show x / 2 ^ 0 = x from by simp] at h0
  unfold popN
  rw [h0, show (256 : Nat) = 2 ^ 8 from rfl, show (65536 : Nat) = 2 ^ 16 from rfl, show (16777216 : Nat) = 2 ^ 24 from rfl, show (4294967296 : Nat) = 2 ^ 32 from rfl, show (1099511627776 : Nat) = 2 ^ 40 from rfl, show (281474976710656 : Nat) = 2 ^ 48 from rfl, show (72057594037927936 : Nat) = 2 ^ 56 from rfl]
  rw [show (2 : Nat) ^ 8 = 256 from rfl] at h1 ⊢
  rw [h1, h2, h3, h4, h5, h6, h7]
  rw [show (64 : Nat) = 56 + 8 from rfl, cnt_add, show (56 : Nat) = 48 + 8 from rfl, cnt_add, show (48 : Nat) = 40 + 8 from rfl, cnt_add, show (40 : Nat) = 32 + 8 from rfl, cnt_add, show (32 : Nat) = 24 + 8 from rfl, cnt_add, show (24 : Nat) = 16 + 8 from rfl, cnt_add, show (16 : Nat) = 8 + 8 from rfl, cnt_add]
  simp only [Nat.zero_add]

/-- How many are set in the first k words. -/
def popW (X : Nat) : Nat → Nat
  | 0 => 0
  | k + 1 => popW X k + popN (word X k)
theorem popW_cnt (X k : Nat) : popW X k = cnt X.testBit (64 * k) := by
  induction k with
  | zero => rfl
  | succ k ih =>
    rw [popW, ih, popN_cnt, show 64 * (k + 1) = 64 * k + 64 from by omega, cnt_add]
    congr 1
    exact cnt_congr fun i hi => by rw [word_testBit]; simp [hi]

/-- The bits that are set. -/
def bitsOf (n X : Nat) : List Nat := (List.range n).filter X.testBit
theorem bitsOf_len (n X : Nat) : (bitsOf n X).length = cnt X.testBit n := by
  unfold bitsOf cnt; rw [List.countP_eq_length_filter]
theorem popW_all {n X : Nat} (hX : X < 2 ^ n) : popW X (nw n) = (bitsOf n X).length := by
  have hn : n ≤ 64 * nw n := by unfold nw; omega
  rw [popW_cnt, bitsOf_len, show 64 * nw n = n + (64 * nw n - n) from by omega, cnt_add, cnt_none (n := 64 * nw n - n), Nat.add_zero]
  intro i _
  exact bit_ge hX (by omega)
theorem popN_le (x : Nat) : popN x ≤ 64 := by rw [popN_cnt]; unfold cnt; exact Nat.le_trans List.countP_le_length (by simp)
theorem popW_le (X k : Nat) : popW X k ≤ 64 * k := by rw [popW_cnt]; unfold cnt; exact Nat.le_trans List.countP_le_length (by simp)

theorem bitsOf_succ (n X : Nat) : bitsOf (n + 1) X = bitsOf n X ++ (if X.testBit n then [n] else []) := by
  unfold bitsOf
  rw [List.range_succ, List.filter_append]
  congr 1
  by_cases h : X.testBit n <;> simp [h]

/-- The lowest bit that is set; -1: there is none. -/
def firstB (n X : Nat) : Int := match bitsOf n X with
  | [] => -1
  | a :: _ => a

theorem bitsOf_first : ∀ {n X r : Nat}, r < n → X.testBit r = true → (∀ j, j < r → X.testBit j = false) → ∃ t, bitsOf n X = r :: t
  | 0, X, r, h, _, _ => by omega
  | n + 1, X, r, h, h1, h2 => by
    rw [bitsOf_succ]
    by_cases hr : r = n
    · subst hr
      have : bitsOf r X = [] := by
        unfold bitsOf
        rw [List.filter_eq_nil_iff]
        intro a ha
        rw [h2 a (List.mem_range.1 ha)]
        simp
      exact ⟨[], by rw [this, h1]; rfl⟩
    · obtain ⟨t, ht⟩ := bitsOf_first (n := n) (by omega) h1 h2
      exact ⟨t ++ (if X.testBit n then [n] else []), by rw [ht]; rfl⟩
theorem firstB_at {n X r : Nat} (hr : r < n) (h1 : X.testBit r = true) (h2 : ∀ j, j < r → X.testBit j = false) : firstB n X = r := by
  obtain ⟨t, ht⟩ := bitsOf_first hr h1 h2
  unfold firstB; rw [ht]
theorem firstB_none {n X : Nat} (h : ∀ j, j < n → X.testBit j = false) : firstB n X = -1 := by
  have : bitsOf n X = [] := by
    unfold bitsOf
    rw [List.filter_eq_nil_iff]
    intro a ha
    rw [h a (List.mem_range.1 ha)]
    simp
  unfold firstB; rw [this]

/-- A word that is not zero: its lowest bit. -/
theorem word_low {x : Nat} (hx : x < 18446744073709551616) (h0 : x ≠ 0) : ∃ k, k < 64 ∧ x &&& (18446744073709551616 - x) = 2 ^ k ∧ x.testBit k = true ∧ ∀ j, j < k → x.testBit j = false := by
  obtain ⟨k, m, hk, rfl, he⟩ := low_bit hx h0
  have e1 : ∀ i, (2 ^ k * (2 * m + 1)).testBit i = if i < k then false else (2 * m + 1).testBit (i - k) := fun i => by
    have := Nat.testBit_two_pow_mul_add (2 * m + 1) (Nat.two_pow_pos k) i
    rw [Nat.add_zero] at this
    rw [this]
    simp
  refine ⟨k, hk, he, ?_, fun j hj => ?_⟩
  · rw [e1, if_neg (by omega), Nat.sub_self, Nat.testBit_zero]; simp
  · rw [e1, if_pos hj]

theorem first_word {n X k t : Nat} (hX : X < 2 ^ n) (hz : ∀ j, j < k → word X j = 0) (ht : t < 64) (h1 : (word X k).testBit t = true) (h2 : ∀ j, j < t → (word X k).testBit j = false) : firstB n X = ((64 * k + t : Nat) : Int) := by
  have hb : X.testBit (64 * k + t) = true := by rw [word_testBit] at h1; simpa [ht] using h1
  refine firstB_at ?_ hb (fun j hj => ?_)
  · rcases Nat.lt_or_ge (64 * k + t) n with h | h
    · exact h
    · rw [bit_ge hX h] at hb; cases hb
  · by_cases hk : j / 64 < k
    · have h3 := congrArg (fun x => x.testBit (j % 64)) (hz _ hk)
      have h4 : j % 64 < 64 := Nat.mod_lt _ (by omega)
      simp only [word_testBit, Nat.zero_testBit] at h3
      rw [show 64 * (j / 64) + j % 64 = j from by omega] at h3
      simpa [h4] using h3
    · have h3 := h2 (j - 64 * k) (by omega)
      rw [word_testBit, show 64 * k + (j - 64 * k) = j from by omega] at h3
      have : j - 64 * k < 64 := by omega
      simpa [this] using h3
theorem first_none {n X : Nat} (hz : ∀ j, j < nw n → word X j = 0) : firstB n X = -1 := by
  refine firstB_none (fun j hj => ?_)
  have h3 := congrArg (fun x => x.testBit (j % 64)) (hz (j / 64) (by unfold nw; omega))
  have h4 : j % 64 < 64 := Nat.mod_lt _ (by omega)
  simp only [word_testBit, Nat.zero_testBit] at h3
  rw [show 64 * (j / 64) + j % 64 = j from by omega] at h3
  simpa [h4] using h3

/-- A row with the bits of a list. -/
def putL (n X : Nat) (l : List Nat) : Nat := l.foldl (fun X i => if i < n then putB X i true else X) X

theorem testBit_putL (n : Nat) : ∀ (l : List Nat) (X j : Nat), (putL n X l).testBit j = (X.testBit j || decide (j < n ∧ j ∈ l))
  | [], X, j => by simp [putL]
  | i :: l, X, j => by
    show (putL n (if i < n then putB X i true else X) l).testBit j = _
    rw [testBit_putL n l]
    by_cases hi : i < n
    · rw [if_pos hi, testBit_put]
      by_cases hj : i = j
      · subst hj; simp [hi]
      · have : ¬ j = i := fun e => hj e.symm
        simp [hj, this]
    · rw [if_neg hi]
      have : j < n → ¬ j = i := by omega
      cases X.testBit j
      · simp only [Bool.false_or]
        congr 1
        simp only [List.mem_cons, eq_iff_iff]
        constructor
        · rintro ⟨h1, h2⟩; exact ⟨h1, .inr h2⟩
        · rintro ⟨h1, h2 | h2⟩
          · exact absurd h2 (this h1)
          · exact ⟨h1, h2⟩
      · simp

theorem putL_lt {n X : Nat} (hX : X < 2 ^ n) (l : List Nat) : putL n X l < 2 ^ n := lt_of_bits fun j hj => by
  rw [testBit_putL, bit_ge hX hj]; simp; omega

/-- A rising list of places is the list of its row. -/
theorem bitsOf_putL {n : Nat} {l : List Nat} (hl : l.Pairwise (· < ·)) (hb : ∀ x ∈ l, x < n) : bitsOf n (putL n 0 l) = l := by
  have h1 : (bitsOf n (putL n 0 l)).Pairwise (· < ·) := List.Pairwise.filter _ List.pairwise_lt_range
  have hm : ∀ x, x ∈ bitsOf n (putL n 0 l) ↔ x ∈ l := by
    intro x
    unfold bitsOf
    rw [List.mem_filter, List.mem_range, testBit_putL]
    simp only [Nat.zero_testBit, Bool.false_or, decide_eq_true_eq]
    constructor
    · rintro ⟨_, _, h⟩; exact h
    · intro h; exact ⟨hb x h, hb x h, h⟩
  refine List.Perm.eq_of_pairwise (le := (· < ·)) (fun a b _ _ h1 h2 => by omega) h1 hl ?_
  rw [List.perm_ext_iff_of_nodup (h1.imp (fun {a b} h => by omega)) (hl.imp (fun {a b} h => by omega))]
  exact hm

end Go.Proofs.YtijhaeapoapgfaaGreatDoor

set_option linter.unusedVariables false
set_option linter.unusedSimpArgs false
namespace Go.Proofs.YtijhaeapoapgfaaGreatDoor
open Go.RowKit

def rootF (n : Nat) : Nat → Nat
  | 0 => 0
  | k + 1 => if (k + 1) * (k + 1) ≤ n then k + 1 else rootF n k
def rootN (n : Nat) : Nat := rootF n n

theorem rootF_sq (n : Nat) : ∀ k, rootF n k * rootF n k ≤ n
  | 0 => by simp [rootF]
  | k + 1 => by
    unfold rootF
    split
    · assumption
    · exact rootF_sq n k
theorem rootF_top (n : Nat) : ∀ k m, rootF n k < m → m ≤ k → n < m * m
  | 0, m, h, h2 => by simp [rootF] at h; omega
  | k + 1, m, h, h2 => by
    unfold rootF at h
    split at h
    · omega
    · next h3 =>
      by_cases hm : m = k + 1
      · subst hm; omega
      · exact rootF_top n k m h (by omega)
theorem rootN_sq (n : Nat) : rootN n * rootN n ≤ n := rootF_sq n n
theorem rootN_top {n m : Nat} (h : rootN n < m) : n < m * m := by
  by_cases hm : m ≤ n
  · exact rootF_top n n m h hm
  · exact Nat.lt_of_lt_of_le (by omega) (Nat.le_mul_of_pos_right m (by omega))
theorem rootN_uniq {n r : Nat} (h1 : r * r ≤ n) (h2 : n < (r + 1) * (r + 1)) : rootN n = r := by
  have a := rootN_sq n
  have c1 : ¬ rootN n < r := fun h => by have := rootN_top h; omega
  have c2 : ¬ r < rootN n := fun h => by
    have : (r + 1) * (r + 1) ≤ rootN n * rootN n := Nat.mul_le_mul h h
    omega
  omega
theorem rootN_pos {n : Nat} (h : 1 ≤ n) : 1 ≤ rootN n := by
  rcases Nat.eq_zero_or_pos (rootN n) with h0 | h0
  · have := rootN_top (n := n) (m := 1) (by omega); omega
  · exact h0
theorem rootN_le (n : Nat) : rootN n ≤ n := by
  have := rootN_sq n
  rcases Nat.eq_zero_or_pos (rootN n) with h0 | h0
  · omega
  · exact Nat.le_trans (Nat.le_mul_of_pos_right _ h0) this

def wbase (n d : Nat) : Nat := if 1 < d then 1048576 / (d * (d - 1)) else 1048576 / n
/-- How likely a number is. -/
def wgt (n d : Nat) : Nat := if d < n / rootN n then wbase n d + 262144 * rootN n / (d * n) else if d = n / rootN n then wbase n d + 524288 * rootN n / n else wbase n d

theorem wbase_le (n d : Nat) : wbase n d ≤ 1048576 := by
  unfold wbase
  split <;> exact Nat.div_le_self _ _
theorem share_le {n d : Nat} (hd : 1 ≤ d) : 262144 * rootN n / (d * n) ≤ 262144 := by
  have h : rootN n ≤ d * n := Nat.le_trans (rootN_le n) (Nat.le_mul_of_pos_left n hd)
  rcases Nat.eq_zero_or_pos (d * n) with h0 | h0
  · rw [h0]; simp
  · refine Nat.div_le_of_le_mul ?_
    rw [Nat.mul_comm (d * n)]
    exact Nat.mul_le_mul_left _ h
theorem spike_le (n : Nat) : 524288 * rootN n / n ≤ 524288 := by
  have h := rootN_le n
  rcases Nat.eq_zero_or_pos n with h0 | h0
  · rw [h0]; simp
  · refine Nat.div_le_of_le_mul ?_
    rw [Nat.mul_comm n]
    exact Nat.mul_le_mul_left _ h
theorem wgt_le {n d : Nat} (hd : 1 ≤ d) : wgt n d ≤ 2097152 := by
  have h1 := wbase_le n d
  have h2 := share_le (n := n) hd
  have h3 := spike_le n
  unfold wgt
  split
  · omega
  · split <;> omega

/-- The sum of the first k weights. -/
def sumTo (n : Nat) : Nat → Nat
  | 0 => 0
  | k + 1 => sumTo n k + wgt n (k + 1)
theorem sumTo_le (n k : Nat) : sumTo n k ≤ k * 2097152 := by
  induction k with
  | zero => simp [sumTo]
  | succ k ih => have := wgt_le (n := n) (d := k + 1) (by omega); rw [sumTo]; omega
theorem sumTo_mono (n : Nat) {a b : Nat} (h : a ≤ b) : sumTo n a ≤ sumTo n b := by
  induction b with
  | zero => obtain rfl : a = 0 := by omega
            exact Nat.le_refl _
  | succ b ih =>
    by_cases hb : a ≤ b
    · exact Nat.le_trans (ih hb) (by rw [sumTo]; omega)
    · obtain rfl : a = b + 1 := by omega
      exact Nat.le_refl _

def wgts (n k : Nat) : List Nat := (List.range k).map fun i => wgt n (i + 1)
def sums (n k : Nat) : List Nat := (List.range k).map fun i => sumTo n (i + 1)
theorem wgts_succ (n k : Nat) : wgts n (k + 1) = wgts n k ++ [wgt n (k + 1)] := by simp [wgts, List.range_succ]
theorem sums_succ (n k : Nat) : sums n (k + 1) = sums n k ++ [sumTo n (k + 1)] := by simp [sums, List.range_succ]
theorem wgts_len (n k : Nat) : (wgts n k).length = k := by simp [wgts]
theorem sums_len (n k : Nat) : (sums n k).length = k := by simp [sums]
theorem wgts_at (n : Nat) {k i : Nat} (hi : i < k) : (wgts n k).getD i 0 = wgt n (i + 1) := by simp [wgts, List.getD, hi]
theorem sums_at (n : Nat) {k i : Nat} (hi : i < k) : (sums n k).getD i 0 = sumTo n (i + 1) := by simp [sums, List.getD, hi]

/-- What chance points at. -/
def aim (n : Nat) (x : UInt32) : Nat := x.toNat * sumTo n n / 4294967296
def degree (n : Nat) (x : UInt32) : Nat := 1 + cnt (fun i => !decide (aim n x < sumTo n (i + 1))) n
theorem cnt_le (f : Nat → Bool) (n : Nat) : cnt f n ≤ n := by unfold cnt; exact Nat.le_trans List.countP_le_length (by simp)
theorem degree_le (n : Nat) (x : UInt32) : degree n x ≤ n + 1 := by
  have := cnt_le (fun i => !decide (aim n x < sumTo n (i + 1))) n
  unfold degree; omega

end Go.Proofs.YtijhaeapoapgfaaGreatDoor

set_option linter.unusedVariables false
set_option linter.unusedSimpArgs false
namespace Go.Proofs.YtijhaeapoapgfaaGreatDoor
open Go.RowKit

/-- The pieces that a symbol sums. -/
def rowL (s : UInt32) (K P : Nat) (id : UInt32) : List Nat :=
  if id.toNat < K then [id.toNat] else rsome (rstep (rseed s id)) ((K + P : Nat) : Int) ((degree (K + P) (rnext (rseed s id)) : Nat) : Int)
/-- .. as a row of bits. -/
def rowN (s : UInt32) (K P : Nat) (id : UInt32) : Nat := putL (K + P) 0 (rowL s K P id)

theorem degree_pos (n : Nat) (x : UInt32) : 1 ≤ degree n x := by unfold degree; omega

theorem rowL_rising (s : UInt32) (K P : Nat) (id : UInt32) (h1 : 1 ≤ K) (h2 : K + P ≤ 256) : (rowL s K P id).Pairwise (· < ·) ∧ (∀ x ∈ rowL s K P id, x < K + P) ∧ 1 ≤ (rowL s K P id).length ∧ (rowL s K P id).length ≤ K + P := by
  unfold rowL
  split
  · next h =>
    refine ⟨List.pairwise_singleton _ _, fun x hx => ?_, by simp, by simp; omega⟩
    obtain rfl := List.mem_singleton.1 hx
    omega
  · obtain ⟨hl, hr1, hr2⟩ := some_props (rstep (rseed s id)) ((K + P : Nat) : Int) ((degree (K + P) (rnext (rseed s id)) : Nat) : Int) (by omega) (by omega)
    have hd := degree_pos (K + P) (rnext (rseed s id))
    refine ⟨hr1, fun x hx => by have := hr2 x hx; omega, ?_, ?_⟩ <;> rw [hl] <;> unfold clampK <;> omega

theorem rowN_lt (s : UInt32) (K P : Nat) (id : UInt32) : rowN s K P id < 2 ^ (K + P) := putL_lt (Nat.two_pow_pos _) _
theorem rowN_bits (s : UInt32) (K P : Nat) (id : UInt32) (h1 : 1 ≤ K) (h2 : K + P ≤ 256) : bitsOf (K + P) (rowN s K P id) = rowL s K P id :=
  bitsOf_putL (rowL_rising s K P id h1 h2).1 (rowL_rising s K P id h1 h2).2.1
theorem rowN_count (s : UInt32) (K P : Nat) (id : UInt32) (h1 : 1 ≤ K) (h2 : K + P ≤ 256) : 1 ≤ (bitsOf (K + P) (rowN s K P id)).length ∧ (bitsOf (K + P) (rowN s K P id)).length ≤ K + P := by
  rw [rowN_bits s K P id h1 h2]; exact (rowL_rising s K P id h1 h2).2.2
theorem rowL_first (s : UInt32) (K P : Nat) (id : UInt32) (h : id.toNat < K) : rowL s K P id = [id.toNat] := by unfold rowL; rw [if_pos h]
theorem rowN_first (s : UInt32) (K P : Nat) (id : UInt32) (h1 : 1 ≤ K) (h2 : K + P ≤ 256) (h : id.toNat < K) : firstB (K + P) (rowN s K P id) = id.toNat ∧ (bitsOf (K + P) (rowN s K P id)).length = 1 := by
  unfold firstB
  rw [rowN_bits s K P id h1 h2, rowL_first s K P id h]
  exact ⟨rfl, rfl⟩

end Go.Proofs.YtijhaeapoapgfaaGreatDoor

set_option linter.unusedVariables false
set_option linter.unusedSimpArgs false
namespace Go.Proofs.YtijhaeapoapgfaaGreatDoor
open Go.RowKit

def zer (n : Nat) : List UInt8 := List.replicate n 0
def xorL (a b : List UInt8) : List UInt8 := List.zipWith (· ^^^ ·) a b
theorem zer_len (n : Nat) : (zer n).length = n := by simp [zer]
theorem xorL_len {a b : List UInt8} {n : Nat} (ha : a.length = n) (hb : b.length = n) : (xorL a b).length = n := by simp [xorL, ha, hb]
theorem xorL_at {a b : List UInt8} {i : Nat} (h1 : i < a.length) (h2 : i < b.length) : (xorL a b)[i]? = some (a[i] ^^^ b[i]) := by
  unfold xorL
  rw [List.getElem?_zipWith, List.getElem?_eq_getElem h1, List.getElem?_eq_getElem h2]

/-- a, with b added to its first k places. -/
def xorTo (a b : List UInt8) (k : Nat) : List UInt8 := xorL (a.take k) b ++ a.drop k
theorem xorTo_zero (a b : List UInt8) : xorTo a b 0 = a := by simp [xorTo, xorL]
theorem xorTo_len {a b : List UInt8} (h : a.length = b.length) (k : Nat) : (xorTo a b k).length = a.length := by simp [xorTo, xorL]; omega
theorem xorTo_all {a b : List UInt8} (h : a.length = b.length) : xorTo a b a.length = xorL a b := by simp [xorTo]
theorem xorTo_at {a b : List UInt8} (h : a.length = b.length) {k i : Nat} (hi : i < a.length) : (xorTo a b k)[i]? = some (if i < k then a.getD i 0 ^^^ b.getD i 0 else a.getD i 0) := by
  have hg : ∀ l : List UInt8, i < l.length → l.getD i 0 = l[i]?.getD 0 := fun l _ => by rw [List.getD_eq_getElem?_getD]
  unfold xorTo
  by_cases hk : i < k
  · rw [if_pos hk, List.getElem?_append_left (by simp [xorL]; omega)]
    unfold xorL
    rw [List.getElem?_zipWith, List.getElem?_take, if_pos hk, List.getElem?_eq_getElem hi, List.getElem?_eq_getElem (by omega : i < b.length)]
    simp only [List.getD_eq_getElem?_getD, List.getElem?_eq_getElem hi, List.getElem?_eq_getElem (by omega : i < b.length), Option.getD_some]
  · rw [if_neg hk]
    have hl : (xorL (a.take k) b).length = k := by simp [xorL]; omega
    rw [List.getElem?_append_right (by omega), hl, List.getElem?_drop, show k + (i - k) = i from by omega, List.getElem?_eq_getElem hi]
    simp only [List.getD_eq_getElem?_getD, List.getElem?_eq_getElem hi, Option.getD_some]
theorem xorTo_set {a b : List UInt8} (h : a.length = b.length) {k : Nat} (hk : k < a.length) : (xorTo a b k).set k ((xorTo a b k).getD k 0 ^^^ b.getD k 0) = xorTo a b (k + 1) := by
  apply List.ext_getElem?
  intro i
  by_cases hi : i < a.length
  · rw [List.getElem?_set, xorTo_at h hi, xorTo_at h hi]
    by_cases e : k = i
    · subst e
      have h3 : (xorTo a b k).getD k 0 = a.getD k 0 := by rw [List.getD_eq_getElem?_getD, xorTo_at h hk]; simp
      have h4 : k < (xorTo a b k).length := by rw [xorTo_len h]; exact hk
      rw [if_pos rfl, if_pos h4, h3, if_pos (by omega)]
    · have : (i < k + 1) = (i < k) := by simp; omega
      simp [e, this]
  · rw [List.getElem?_eq_none (by rw [List.length_set, xorTo_len h]; omega), List.getElem?_eq_none (by rw [xorTo_len h]; omega)]
theorem xorTo_getD {a b : List UInt8} (h : a.length = b.length) {k : Nat} (hk : k < a.length) : (xorTo a b k).getD k 0 = a.getD k 0 := by
  rw [List.getD_eq_getElem?_getD, xorTo_at h hk]; simp

/-- The sum of pieces of one length. -/
def bsum (n : Nat) (L : List (List UInt8)) : List UInt8 := L.foldl xorL (zer n)
theorem bsum_len {n : Nat} : ∀ {L : List (List UInt8)} {z : List UInt8}, z.length = n → (∀ x ∈ L, x.length = n) → (L.foldl xorL z).length = n
  | [], z, hz, _ => hz
  | x :: L, z, hz, h => bsum_len (L := L) (xorL_len hz (h x (by simp))) (fun y hy => h y (by simp [hy]))
theorem bsum_snoc (n : Nat) (L : List (List UInt8)) (x : List UInt8) : bsum n (L ++ [x]) = xorL (bsum n L) x := by unfold bsum; rw [List.foldl_append]; rfl

/-- How many pieces hold an image. -/
def bcount (len size : Nat) : Nat := if len = 0 then 0 else if (len + size - 1) / size ≤ 64 then (len + size - 1) / size else 0

/-- The image, filled up. -/
def bfull (img : List UInt8) (n : Nat) : List UInt8 := img ++ zer (n - img.length)
theorem bfull_len {img : List UInt8} {n : Nat} (h : img.length ≤ n) : (bfull img n).length = n := by simp [bfull, zer]; omega
/-- Its pieces. -/
def bpiece (img : List UInt8) (K size i : Nat) : List UInt8 := ((bfull img (K * size)).drop (i * size)).take size
def bsplit (img : List UInt8) (K size k : Nat) : List (List UInt8) := (List.range k).map (bpiece img K size)
theorem bsplit_len (img : List UInt8) (K size k : Nat) : (bsplit img K size k).length = k := by simp [bsplit]
theorem bsplit_succ (img : List UInt8) (K size k : Nat) : bsplit img K size (k + 1) = bsplit img K size k ++ [bpiece img K size k] := by simp [bsplit, List.range_succ]
theorem bpiece_len {img : List UInt8} {K size i : Nat} (h : img.length ≤ K * size) (hi : i < K) : (bpiece img K size i).length = size := by
  unfold bpiece
  rw [List.length_take, List.length_drop, bfull_len h]
  have : (i + 1) * size ≤ K * size := Nat.mul_le_mul_right _ hi
  rw [Nat.add_mul] at this
  omega
theorem bsplit_each {img : List UInt8} {K size k : Nat} (h : img.length ≤ K * size) (hk : k ≤ K) : ∀ x ∈ bsplit img K size k, x.length = size := by
  intro x hx
  unfold bsplit at hx
  obtain ⟨i, hi, rfl⟩ := List.mem_map.1 hx
  exact bpiece_len h (by have := List.mem_range.1 hi; omega)

/-- A bit of parity. -/
def parB (s : UInt32) (j i : Nat) : Bool := decide ((rnext (stepN i (rseed s (UInt32.ofNat (2147483648 + j))))).toNat % 2 = 1)
/-- The row of parity, its first k bits told. -/
def parX (s : UInt32) (K n j : Nat) : Nat → Nat
  | 0 => putL n 0 [K + j]
  | k + 1 => putB (parX s K n j k) k (parB s j k)
theorem parX_lt (s : UInt32) {K n j : Nat} (hn : K ≤ n) : ∀ k, k ≤ K → parX s K n j k < 2 ^ n
  | 0, _ => putL_lt (Nat.two_pow_pos _) _
  | k + 1, h => put_lt (parX_lt s hn k (by omega)) (by omega)
theorem parX_bit (s : UInt32) (K n j : Nat) : ∀ k i, i < k → k ≤ K → (parX s K n j k).testBit i = parB s j i
  | 0, i, h, _ => by omega
  | k + 1, i, h, hk => by
    show (putB (parX s K n j k) k (parB s j k)).testBit i = _
    rw [testBit_put]
    by_cases e : k = i
    · subst e; rw [if_pos rfl]
    · rw [if_neg e]; exact parX_bit s K n j k i (by omega) (by omega)

/-- The sum of those of the first k pieces that a row has. -/
def psum (f : Nat → Bool) (size : Nat) (L : List (List UInt8)) : Nat → List UInt8
  | 0 => zer size
  | k + 1 => if f k then xorL (psum f size L k) (L.getD k []) else psum f size L k
theorem psum_len {f : Nat → Bool} {size : Nat} {L : List (List UInt8)} (h : ∀ x ∈ L, x.length = size) : ∀ k, k ≤ L.length → (psum f size L k).length = size
  | 0, _ => zer_len _
  | k + 1, hk => by
    unfold psum
    split
    · refine xorL_len (psum_len h k (by omega)) ?_
      rw [List.getD_eq_getElem?_getD, List.getElem?_eq_getElem (by omega)]
      exact h _ (List.getElem_mem _)
    · exact psum_len h k (by omega)
theorem psum_congr {f g : Nat → Bool} {size : Nat} {L : List (List UInt8)} : ∀ k, (∀ i, i < k → f i = g i) → psum f size L k = psum g size L k
  | 0, _ => rfl
  | k + 1, h => by
    unfold psum
    rw [h k (by omega), psum_congr k (fun i hi => h i (by omega))]

/-- All pieces: the image's, and j of parity. -/
def bpars (s : UInt32) (size : Nat) (L : List (List UInt8)) (j : Nat) : List (List UInt8) := (List.range j).map fun j => psum (parB s j) size L L.length
def ball (s : UInt32) (size : Nat) (L : List (List UInt8)) (P : Nat) : List (List UInt8) := L ++ bpars s size L P
theorem bpars_succ (s : UInt32) (size : Nat) (L : List (List UInt8)) (j : Nat) : bpars s size L (j + 1) = bpars s size L j ++ [psum (parB s j) size L L.length] := by simp [bpars, List.range_succ]
theorem ball_len (s : UInt32) (size : Nat) (L : List (List UInt8)) (P : Nat) : (ball s size L P).length = L.length + P := by simp [ball, bpars]
theorem ball_each {s : UInt32} {size : Nat} {L : List (List UInt8)} {P : Nat} (h : ∀ x ∈ L, x.length = size) : ∀ x ∈ ball s size L P, x.length = size := by
  intro x hx
  unfold ball at hx
  rcases List.mem_append.1 hx with hx | hx
  · exact h x hx
  · unfold bpars at hx
    obtain ⟨j, _, rfl⟩ := List.mem_map.1 hx
    exact psum_len h _ (Nat.le_refl _)

/-- The pieces of an image under parameters. -/
def pieces (s : UInt32) (K P size : Nat) (img : List UInt8) : List (List UInt8) := ball s size (bsplit img K size K) P
/-- A symbol. -/
def symb (s : UInt32) (K P size : Nat) (img : List UInt8) (id : UInt32) : List UInt8 := bsum size ((rowL s K P id).map fun i => (pieces s K P size img).getD i [])

end Go.Proofs.YtijhaeapoapgfaaGreatDoor

set_option linter.unusedVariables false
set_option linter.unusedSimpArgs false
namespace Go.Proofs.YtijhaeapoapgfaaGreatDoor
open Go.RowKit

theorem xor4 (a b c d : UInt8) : (a ^^^ b) ^^^ (c ^^^ d) = (a ^^^ c) ^^^ (b ^^^ d) := by ac_rfl
theorem xorL_four {n : Nat} {a b c d : List UInt8} (ha : a.length = n) (hb : b.length = n) (hc : c.length = n) (hd : d.length = n) : xorL (xorL a b) (xorL c d) = xorL (xorL a c) (xorL b d) := by
  apply List.ext_getElem
  · simp [xorL, ha, hb, hc, hd]
  · intro i h1 h2
    simp only [xorL, List.getElem_zipWith]
    exact xor4 _ _ _ _
theorem xorL_zz (n : Nat) : xorL (zer n) (zer n) = zer n := by
  apply List.ext_getElem
  · simp [xorL, zer]
  · intro i h1 h2
    simp [xorL, zer]
theorem xorL_append {a b c d : List UInt8} (h : a.length = b.length) : xorL (a ++ c) (b ++ d) = xorL a b ++ xorL c d := by
  unfold xorL; exact List.zipWith_append h
theorem xorL_full {a b : List UInt8} (h : a.length = b.length) (n : Nat) : bfull (xorL a b) n = xorL (bfull a n) (bfull b n) := by
  have hl : (xorL a b).length = a.length := by simp [xorL]; omega
  unfold bfull
  rw [xorL_append h, hl, ← h, xorL_zz]
theorem xorL_piece {a b : List UInt8} (h : a.length = b.length) (K z i : Nat) : bpiece (xorL a b) K z i = xorL (bpiece a K z i) (bpiece b K z i) := by
  unfold bpiece
  rw [xorL_full h]
  unfold xorL
  rw [List.drop_zipWith, List.take_zipWith]

/-- Three rows of pieces, the third the sums of the others'. -/
structure Lin (z : Nat) (A B C : List (List UInt8)) : Prop where
  l1 : B.length = A.length
  l2 : C.length = A.length
  a : ∀ x ∈ A, x.length = z
  b : ∀ x ∈ B, x.length = z
  s : ∀ i, i < A.length → C.getD i [] = xorL (A.getD i []) (B.getD i [])

theorem getD_len {A : List (List UInt8)} {z i : Nat} (h : ∀ x ∈ A, x.length = z) (hi : i < A.length) : (A.getD i []).length = z := by
  rw [List.getD_eq_getElem?_getD, List.getElem?_eq_getElem hi]; exact h _ (List.getElem_mem _)

theorem lin_psum {z : Nat} {A B C : List (List UInt8)} (h : Lin z A B C) (f : Nat → Bool) : ∀ k, k ≤ A.length → psum f z C k = xorL (psum f z A k) (psum f z B k)
  | 0, _ => (xorL_zz z).symm
  | k + 1, hk => by
    unfold psum
    rw [lin_psum h f k (by omega), h.s k (by omega)]
    split
    · exact xorL_four (psum_len h.a k (by omega)) (psum_len h.b k (by rw [h.l1]; omega)) (getD_len h.a (by omega)) (getD_len h.b (by rw [h.l1]; omega))
    · rfl

theorem getD_append_left' {A B : List (List UInt8)} {i : Nat} (hi : i < A.length) : (A ++ B).getD i [] = A.getD i [] := by
  rw [List.getD_eq_getElem?_getD, List.getElem?_append_left hi, List.getD_eq_getElem?_getD]
theorem getD_append_right' {A B : List (List UInt8)} {i : Nat} (hi : A.length ≤ i) : (A ++ B).getD i [] = B.getD (i - A.length) [] := by
  rw [List.getD_eq_getElem?_getD, List.getElem?_append_right hi, List.getD_eq_getElem?_getD]

theorem lin_split {a b : List UInt8} {K z : Nat} (h : a.length = b.length) (hf : a.length ≤ K * z) : Lin z (bsplit a K z K) (bsplit b K z K) (bsplit (xorL a b) K z K) :=
  ⟨by rw [bsplit_len, bsplit_len], by rw [bsplit_len, bsplit_len], bsplit_each hf (Nat.le_refl _), bsplit_each (by omega) (Nat.le_refl _), fun i hi => by
    rw [bsplit_len] at hi
    have e : ∀ c : List UInt8, (bsplit c K z K).getD i [] = bpiece c K z i := fun c => by simp [bsplit, List.getD, hi]
    rw [e, e, e, xorL_piece h]⟩
theorem lin_all {z : Nat} {A B C : List (List UInt8)} (h : Lin z A B C) (s : UInt32) (P : Nat) : Lin z (ball s z A P) (ball s z B P) (ball s z C P) :=
  ⟨by rw [ball_len, ball_len, h.l1], by rw [ball_len, ball_len, h.l2], ball_each h.a, ball_each h.b, fun i hi => by
    rw [ball_len] at hi
    unfold ball
    have q1 := h.l1
    have q2 := h.l2
    by_cases hl : i < A.length
    · rw [getD_append_left' (A := A) hl, getD_append_left' (A := B) (by omega), getD_append_left' (A := C) (by omega), h.s i hl]
    · rw [getD_append_right' (A := A) (by omega), getD_append_right' (A := B) (by omega), getD_append_right' (A := C) (by omega), h.l1, h.l2]
      have hj : i - A.length < P := by omega
      have e : ∀ L : List (List UInt8), (bpars s z L P).getD (i - A.length) [] = psum (parB s (i - A.length)) z L L.length := fun L => by simp [bpars, List.getD, hj]
      rw [e, e, e, h.l1, h.l2]
      exact lin_psum h _ _ (Nat.le_refl _)⟩

theorem lin_sum {z : Nat} {A B C : List (List UInt8)} (h : Lin z A B C) : ∀ (R : List Nat) (u v : List UInt8), (∀ i ∈ R, i < A.length) → u.length = z → v.length = z →
    (R.map fun i => C.getD i []).foldl xorL (xorL u v) = xorL ((R.map fun i => A.getD i []).foldl xorL u) ((R.map fun i => B.getD i []).foldl xorL v)
  | [], u, v, _, _, _ => rfl
  | i :: R, u, v, hR, hu, hv => by
    have hi := hR i (by simp)
    have ha := getD_len h.a hi
    have hb := getD_len h.b (i := i) (by rw [h.l1]; exact hi)
    simp only [List.map_cons, List.foldl_cons]
    rw [h.s i hi, xorL_four hu hv ha hb]
    exact lin_sum h R _ _ (fun j hj => hR j (by simp [hj])) (xorL_len hu ha) (xorL_len hv hb)

theorem symb_lin {s : UInt32} {K P z : Nat} {a b : List UInt8} {id : UInt32} (h1 : 1 ≤ K) (h2 : K + P ≤ 256) (h : a.length = b.length) (hf : a.length ≤ K * z) : symb s K P z (xorL a b) id = xorL (symb s K P z a id) (symb s K P z b id) := by
  have hl := lin_all (lin_split h hf) s P
  have hr := (rowL_rising s K P id h1 h2).2.1
  unfold symb bsum pieces
  have := lin_sum hl (rowL s K P id) (zer z) (zer z) (fun i hi => by rw [ball_len, bsplit_len]; exact hr i hi) (zer_len _) (zer_len _)
  rwa [xorL_zz] at this

/-- The other image: by steps of five. -/
def oth (y : UInt8) (n : Nat) : List UInt8 := (List.range n).map fun i => y + UInt8.ofNat (i * 5)
theorem oth_len (y : UInt8) (n : Nat) : (oth y n).length = n := by simp [oth]
/-- The first k of a list, zeros behind. -/
def half (l : List UInt8) (k : Nat) : List UInt8 := l.take k ++ zer (l.length - k)
theorem half_len (l : List UInt8) {k : Nat} (h : k ≤ l.length) : (half l k).length = l.length := by simp [half, zer]; omega
theorem half_zero (l : List UInt8) : half l 0 = zer l.length := by simp [half]
theorem half_all (l : List UInt8) : half l l.length = l := by simp [half, zer]
theorem half_set (l : List UInt8) {k : Nat} (hk : k < l.length) : (half l k).set k (l.getD k 0) = half l (k + 1) := by
  rw [List.getD_eq_getElem?_getD, List.getElem?_eq_getElem hk, Option.getD_some]
  apply List.ext_getElem
  · simp [half, zer]; omega
  · intro j h1 h2
    simp only [half, zer, List.getElem_set, List.getElem_append, List.length_take, List.getElem_take, List.getElem_replicate]
    by_cases hj : k = j
    · subst hj
      have : k < min (k + 1) l.length := by omega
      simp [this]
    · by_cases h3 : j < k
      · have a1 : j < min k l.length := by omega
        have a2 : j < min (k + 1) l.length := by omega
        simp [hj, a1, a2]
      · have a1 : ¬ j < min k l.length := by omega
        have a2 : ¬ j < min (k + 1) l.length := by omega
        simp [hj, a1, a2]

end Go.Proofs.YtijhaeapoapgfaaGreatDoor

set_option linter.unusedVariables false
set_option linter.unusedSimpArgs false
namespace Go.Proofs.YtijhaeapoapgfaaGreatDoor
open Go.RowKit

/-- A row, and its data. -/
structure Rw where
  x : Nat
  d : List UInt8
def rxor (a b : Rw) : Rw := ⟨a.x ^^^ b.x, xorL a.d b.d⟩

abbrev Mtx := List (Option Rw)
def Mtx.at (M : Mtx) (i : Nat) : Option Rw := M.getD i none

/-- A row less what the first k rows say of it. -/
def redK (M : Mtx) (r : Rw) : Nat → Rw
  | 0 => r
  | k + 1 => match M.at k with
    | some q => if (redK M r k).x.testBit k then rxor (redK M r k) q else redK M r k
    | none => redK M r k
def red (M : Mtx) (r : Rw) : Rw := redK M r M.length

/-- Each row in the place of its first bit; no other row has that bit. -/
structure Ech (n size : Nat) (M : Mtx) : Prop where
  l : M.length = n
  lt : ∀ i q, M.at i = some q → q.x < 2 ^ n
  d : ∀ i q, M.at i = some q → q.d.length = size
  piv : ∀ i q, M.at i = some q → q.x.testBit i = true
  low : ∀ i q, M.at i = some q → ∀ j, j < i → q.x.testBit j = false
  off : ∀ i q, M.at i = some q → ∀ j p, j ≠ i → M.at j = some p → q.x.testBit j = false

theorem Mtx.at_lt {M : Mtx} {i : Nat} {q : Rw} (h : M.at i = some q) : i < M.length := by
  unfold Mtx.at at h
  rcases Nat.lt_or_ge i M.length with h' | h'
  · exact h'
  · rw [List.getD_eq_getElem?_getD, List.getElem?_eq_none h'] at h; cases h

theorem redK_len {n size : Nat} {M : Mtx} (h : Ech n size M) {r : Rw} (hr : r.x < 2 ^ n) (hd : r.d.length = size) : ∀ k, (redK M r k).x < 2 ^ n ∧ (redK M r k).d.length = size
  | 0 => ⟨hr, hd⟩
  | k + 1 => by
    have ih := redK_len h hr hd k
    unfold redK
    split
    · next q hq =>
      split
      · exact ⟨xor_lt ih.1 (h.lt k q hq), xorL_len ih.2 (h.d k q hq)⟩
      · exact ih
    · exact ih
/-- Behind the first k rows their places are clear. -/
theorem redK_clear {n size : Nat} {M : Mtx} (h : Ech n size M) (r : Rw) : ∀ k i p, i < k → M.at i = some p → (redK M r k).x.testBit i = false
  | 0, i, _, hi, _ => by omega
  | k + 1, i, p, hi, hp => by
    unfold redK
    by_cases hik : i = k
    · subst hik
      rw [hp]
      simp only
      split
      · next hb => show ((redK M r i).x ^^^ p.x).testBit i = false; rw [Nat.testBit_xor, hb, h.piv i p hp]; rfl
      · next hb => simpa using hb
    · have ih := redK_clear h r k i p (by omega) hp
      split
      · next q hq =>
        split
        · show ((redK M r k).x ^^^ q.x).testBit i = false
          rw [Nat.testBit_xor, ih, h.off k q hq i p hik hp]; rfl
        · exact ih
      · exact ih
theorem red_clear {n size : Nat} {M : Mtx} (h : Ech n size M) (r : Rw) {i : Nat} {p : Rw} (hp : M.at i = some p) : (red M r).x.testBit i = false :=
  redK_clear h r _ i p (Mtx.at_lt hp) hp
/-- A place that no row has stays as it was. -/
theorem red_len {n size : Nat} {M : Mtx} (h : Ech n size M) {r : Rw} (hr : r.x < 2 ^ n) (hd : r.d.length = size) : (red M r).x < 2 ^ n ∧ (red M r).d.length = size := redK_len h hr hd _

/-- The rows, a new one taken off where its first bit is. -/
def addTo (M : Mtx) (at_ : Nat) (r : Rw) (k : Nat) : Mtx := (List.range M.length).map fun i => if i < k then (match M.at i with | some q => if q.x.testBit at_ then some (rxor q r) else some q | none => none) else M.at i
def madd (M : Mtx) (at_ : Nat) (r : Rw) : Mtx := (addTo M at_ r M.length).set at_ (some r)

theorem addTo_len (M : Mtx) (at_ : Nat) (r : Rw) (k : Nat) : (addTo M at_ r k).length = M.length := by simp [addTo]
theorem addTo_at (M : Mtx) (at_ : Nat) (r : Rw) (k i : Nat) (hi : i < M.length) : (addTo M at_ r k).at i = if i < k then (match M.at i with | some q => if q.x.testBit at_ then some (rxor q r) else some q | none => none) else M.at i := by
  simp [addTo, Mtx.at, List.getD, hi]
theorem addTo_zero (M : Mtx) (at_ : Nat) (r : Rw) : addTo M at_ r 0 = M := by
  apply List.ext_getElem
  · simp [addTo]
  · intro i h1 h2
    simp [addTo, Mtx.at, List.getD, h2]
theorem madd_len (M : Mtx) (at_ : Nat) (r : Rw) : (madd M at_ r).length = M.length := by simp [madd, addTo]
theorem madd_at (M : Mtx) (at_ : Nat) (r : Rw) {i : Nat} (hi : i < M.length) (ha : at_ < M.length) : (madd M at_ r).at i = if i = at_ then some r else (match M.at i with | some q => if q.x.testBit at_ then some (rxor q r) else some q | none => none) := by
  have h := addTo_at M at_ r M.length i hi
  rw [if_pos hi] at h
  unfold madd Mtx.at
  rw [List.getD_eq_getElem?_getD, List.getElem?_set]
  by_cases e : at_ = i
  · subst e
    simp [addTo_len, ha]
  · rw [if_neg e, if_neg (fun h => e h.symm)]
    unfold Mtx.at at h
    rw [← h, List.getD_eq_getElem?_getD]

/-- What a new row leaves is in order again. -/
theorem madd_ech {n size : Nat} {M : Mtx} (h : Ech n size M) {r : Rw} {a : Nat} (hr : r.x < 2 ^ n) (hd : r.d.length = size) (ha : a < n) (h1 : r.x.testBit a = true) (h2 : ∀ j, j < a → r.x.testBit j = false) (h3 : ∀ i p, M.at i = some p → r.x.testBit i = false) : Ech n size (madd M a r) := by
  have hl := h.l
  have hna : M.at a = none := by
    cases e : M.at a with
    | none => rfl
    | some p => rw [h3 a p e] at h1; cases h1
  have key : ∀ i q, (madd M a r).at i = some q → (i = a ∧ q = r) ∨ (i ≠ a ∧ ∃ p, M.at i = some p ∧ ((p.x.testBit a = true ∧ q = rxor p r) ∨ (p.x.testBit a = false ∧ q = p))) := by
    intro i q hq
    have hi := Mtx.at_lt hq
    rw [madd_len] at hi
    rw [madd_at M a r hi (by omega)] at hq
    by_cases e : i = a
    · rw [if_pos e] at hq; exact .inl ⟨e, (Option.some.inj hq).symm⟩
    · rw [if_neg e] at hq
      refine .inr ⟨e, ?_⟩
      cases e2 : M.at i with
      | none => rw [e2] at hq; cases hq
      | some p =>
        rw [e2] at hq
        refine ⟨p, rfl, ?_⟩
        simp only at hq
        split at hq
        · next hb => exact .inl ⟨hb, (Option.some.inj hq).symm⟩
        · next hb => exact .inr ⟨by simpa using hb, (Option.some.inj hq).symm⟩
  have some_of : ∀ i, (∃ p, M.at i = some p) ∨ i = a ∨ ∀ q, (madd M a r).at i ≠ some q := by
    intro i
    by_cases e : i = a
    · exact .inr (.inl e)
    · cases e2 : M.at i with
      | some p => exact .inl ⟨p, rfl⟩
      | none => exact .inr (.inr (fun q hq => by
          rcases key i q hq with ⟨h', _⟩ | ⟨_, p, hp, _⟩
          · exact e h'
          · rw [e2] at hp; cases hp))
  refine ⟨by rw [madd_len, hl], fun i q hq => ?_, fun i q hq => ?_, fun i q hq => ?_, fun i q hq j hj => ?_, fun i q hq j p' hji hp' => ?_⟩
  · rcases key i q hq with ⟨_, rfl⟩ | ⟨_, p, hp, ⟨_, rfl⟩ | ⟨_, rfl⟩⟩
    · exact hr
    · exact xor_lt (h.lt i p hp) hr
    · exact h.lt i _ hp
  · rcases key i q hq with ⟨_, rfl⟩ | ⟨_, p, hp, ⟨_, rfl⟩ | ⟨_, rfl⟩⟩
    · exact hd
    · exact xorL_len (h.d i p hp) hd
    · exact h.d i _ hp
  · rcases key i q hq with ⟨rfl, rfl⟩ | ⟨_, p, hp, ⟨_, rfl⟩ | ⟨_, rfl⟩⟩
    · exact h1
    · show (p.x ^^^ r.x).testBit i = true
      rw [Nat.testBit_xor, h.piv i p hp, h3 i p hp]; rfl
    · exact h.piv i _ hp
  · rcases key i q hq with ⟨rfl, rfl⟩ | ⟨hia, p, hp, ⟨hb, rfl⟩ | ⟨_, rfl⟩⟩
    · exact h2 j hj
    · show (p.x ^^^ r.x).testBit j = false
      have hai : i < a := by
        rcases Nat.lt_or_ge a i with h' | h'
        · rw [h.low i p hp a h'] at hb; cases hb
        · omega
      rw [Nat.testBit_xor, h.low i p hp j hj, h2 j (by omega)]; rfl
    · exact h.low i _ hp j hj
  · by_cases hja : j = a
    · subst hja
      rcases key i q hq with ⟨e, _⟩ | ⟨_, p, hp, ⟨hb, rfl⟩ | ⟨hb, rfl⟩⟩
      · exact absurd e.symm hji
      · show (p.x ^^^ r.x).testBit j = false
        rw [Nat.testBit_xor, hb, h1]; rfl
      · exact hb
    · obtain ⟨pj, hpj⟩ : ∃ p, M.at j = some p := by
        rcases some_of j with h' | h' | h'
        · exact h'
        · exact absurd h' hja
        · exact absurd hp' (h' p')
      rcases key i q hq with ⟨rfl, rfl⟩ | ⟨_, p, hp, ⟨_, rfl⟩ | ⟨_, rfl⟩⟩
      · exact h3 j pj hpj
      · show (p.x ^^^ r.x).testBit j = false
        rw [Nat.testBit_xor, h.off i p hp j pj hji hpj, h3 j pj hpj]; rfl
      · exact h.off i _ hp j pj hji hpj

end Go.Proofs.YtijhaeapoapgfaaGreatDoor

set_option linter.unusedVariables false
set_option linter.unusedSimpArgs false
namespace Go.Proofs.YtijhaeapoapgfaaGreatDoor
open Go.RowKit

/-- The bits of a row less what the first k rows say of it. -/
def rdx (M : Mtx) (x : Nat) : Nat → Nat
  | 0 => x
  | k + 1 => match M.at k with
    | some q => if (rdx M x k).testBit k then rdx M x k ^^^ q.x else rdx M x k
    | none => rdx M x k
theorem redK_x (M : Mtx) (r : Rw) : ∀ k, (redK M r k).x = rdx M r.x k
  | 0 => rfl
  | k + 1 => by
    unfold redK rdx
    have ih := redK_x M r k
    cases M.at k with
    | none => exact ih
    | some q =>
      simp only
      rw [ih]
      split
      · show (redK M r k).x ^^^ q.x = _; rw [ih]
      · exact ih
/-- What the rows say all of. -/
def inS (M : Mtx) (x : Nat) : Prop := rdx M x M.length = 0
theorem red_x (M : Mtx) (r : Rw) : (red M r).x = rdx M r.x M.length := redK_x M r _

theorem rdx_xor (M : Mtx) (x y : Nat) : ∀ k, rdx M (x ^^^ y) k = rdx M x k ^^^ rdx M y k
  | 0 => rfl
  | k + 1 => by
    unfold rdx
    rw [rdx_xor M x y k]
    cases M.at k with
    | none => rfl
    | some q =>
      simp only
      rw [Nat.testBit_xor]
      cases (rdx M x k).testBit k <;> cases (rdx M y k).testBit k <;> simp only [Bool.xor_false, Bool.xor_true, Bool.not_true, Bool.not_false, if_true, if_false, Bool.false_eq_true, Bool.false_xor, Bool.true_xor]
      · rw [Nat.xor_assoc]
      · rw [Nat.xor_assoc, Nat.xor_assoc, Nat.xor_comm q.x]
      · rw [Nat.xor_assoc, ← Nat.xor_assoc q.x, Nat.xor_comm q.x, Nat.xor_assoc, Nat.xor_self, Nat.xor_zero]
theorem inS_xor {M : Mtx} {x y : Nat} (hx : inS M x) (hy : inS M y) : inS M (x ^^^ y) := by unfold inS; rw [rdx_xor, hx, hy]; rfl
theorem rdx_zero (M : Mtx) : ∀ k, rdx M 0 k = 0
  | 0 => rfl
  | k + 1 => by
    unfold rdx
    rw [rdx_zero M k]
    split <;> simp
theorem inS_zero (M : Mtx) : inS M 0 := rdx_zero M _

/-- What is taken off a row lies in whatever holds all rows. -/
theorem rdx_off {M : Mtx} {T : Nat → Prop} (h0 : T 0) (hx : ∀ a b, T a → T b → T (a ^^^ b)) (hr : ∀ i q, M.at i = some q → T q.x) (x : Nat) : ∀ k, T (x ^^^ rdx M x k)
  | 0 => by show T (x ^^^ x); rw [Nat.xor_self]; exact h0
  | k + 1 => by
    have ih := rdx_off h0 hx hr x k
    unfold rdx
    split
    · next q hq =>
      split
      · rw [← Nat.xor_assoc]; exact hx _ _ ih (hr k q hq)
      · exact ih
    · exact ih
theorem inS_sub {M : Mtx} {T : Nat → Prop} (h0 : T 0) (hx : ∀ a b, T a → T b → T (a ^^^ b)) (hr : ∀ i q, M.at i = some q → T q.x) {x : Nat} (h : inS M x) : T x := by
  have := rdx_off h0 hx hr x M.length
  rw [h, Nat.xor_zero] at this
  exact this

/-- Each row is said. -/
theorem row_in {n size : Nat} {M : Mtx} (h : Ech n size M) {i : Nat} {q : Rw} (hq : M.at i = some q) : inS M q.x := by
  have hi := Mtx.at_lt hq
  have h1 : ∀ k, k ≤ i → rdx M q.x k = q.x := by
    intro k
    induction k with
    | zero => intro _; rfl
    | succ k ih =>
      intro hk
      unfold rdx
      rw [ih (by omega)]
      split
      · next p hp => rw [h.off i q hq k p (by omega) hp]; rfl
      · rfl
  have h2 : rdx M q.x (i + 1) = 0 := by
    unfold rdx
    rw [h1 i (Nat.le_refl _), hq]
    simp only
    rw [h.piv i q hq, if_pos rfl, Nat.xor_self]
  have h3 : ∀ k, rdx M q.x (i + 1 + k) = 0 := by
    intro k
    induction k with
    | zero => exact h2
    | succ k ih =>
      rw [← Nat.add_assoc]
      unfold rdx
      rw [ih]
      split <;> simp
  have := h3 (M.length - (i + 1))
  rw [show i + 1 + (M.length - (i + 1)) = M.length from by omega] at this
  exact this

/-- A bit that no row has, and that is a row's first, stays. -/
theorem rdx_keep {n size : Nat} {M : Mtx} (h : Ech n size M) {x i : Nat} (hx : x.testBit i = true) (hl : ∀ j, j < i → x.testBit j = false) (hi : M.at i = none) : ∀ k, (rdx M x k).testBit i = true ∧ ∀ j, j < i → (rdx M x k).testBit j = false
  | 0 => ⟨hx, hl⟩
  | k + 1 => by
    have ih := rdx_keep h hx hl hi k
    unfold rdx
    split
    · next q hq =>
      split
      · next hb =>
        have hik : i < k := by
          rcases Nat.lt_trichotomy k i with h' | h' | h'
          · rw [ih.2 k h'] at hb; cases hb
          · subst h'; rw [hi] at hq; cases hq
          · exact h'
        refine ⟨?_, fun j hj => ?_⟩
        · rw [Nat.testBit_xor, ih.1, h.low k q hq i hik]; rfl
        · rw [Nat.testBit_xor, ih.2 j hj, h.low k q hq j (by omega)]; rfl
      · exact ih
    · exact ih
/-- A row is in a place just if something that is said has its first bit there. -/
theorem pivot_of {n size : Nat} {M : Mtx} (h : Ech n size M) {x i : Nat} (hx : x.testBit i = true) (hl : ∀ j, j < i → x.testBit j = false) (hs : inS M x) : ∃ q, M.at i = some q := by
  cases e : M.at i with
  | some q => exact ⟨q, rfl⟩
  | none =>
    have := (rdx_keep h hx hl e M.length).1
    rw [hs, Nat.zero_testBit] at this
    cases this

/-- The same is said: the same places have rows. -/
theorem pivots_same {n size size' : Nat} {M M' : Mtx} (h : Ech n size M) (h' : Ech n size' M') (hs : ∀ x, inS M x → inS M' x) {i : Nat} {q : Rw} (hq : M.at i = some q) : ∃ q', M'.at i = some q' :=
  pivot_of h' (h.piv i q hq) (h.low i q hq) (hs _ (row_in h hq))

/-- Behind a new row all that was said is said, and the row. -/
theorem madd_in {n size : Nat} {M : Mtx} (h : Ech n size M) {r : Rw} {a : Nat} (h' : Ech n size (madd M a r)) (ha : a < n) (hn : M.at a = none) : inS (madd M a r) r.x ∧ ∀ x, inS M x → inS (madd M a r) x := by
  have hl := h.l
  have hr : (madd M a r).at a = some r := by rw [madd_at M a r (by omega) (by omega), if_pos rfl]
  have h1 := row_in h' hr
  refine ⟨h1, fun x hx => inS_sub (T := inS (madd M a r)) (inS_zero _) (fun _ _ => inS_xor) (fun i q hq => ?_) hx⟩
  have hi := Mtx.at_lt hq
  by_cases e : i = a
  · subst e; rw [hn] at hq; cases hq
  · have h2 := madd_at M a r hi (by omega)
    rw [if_neg e, hq] at h2
    simp only at h2
    split at h2
    · have h3 := row_in h' h2
      have h4 := inS_xor h3 h1
      show inS (madd M a r) q.x
      have : (rxor q r).x ^^^ r.x = q.x := by show (q.x ^^^ r.x) ^^^ r.x = q.x; rw [Nat.xor_assoc, Nat.xor_self, Nat.xor_zero]
      rwa [this] at h4
    · exact row_in h' h2

end Go.Proofs.YtijhaeapoapgfaaGreatDoor

set_option linter.unusedVariables false
set_option linter.unusedSimpArgs false
namespace Go.Proofs.YtijhaeapoapgfaaGreatDoor
open Go.RowKit

def rank (M : Mtx) : Nat := M.countP Option.isSome
theorem rank_le (M : Mtx) : rank M ≤ M.length := List.countP_le_length
theorem countP_set_some {M : Mtx} {a : Nat} {r : Rw} (ha : a < M.length) (hn : Mtx.at M a = none) : (List.set M a (some r)).countP Option.isSome = M.countP Option.isSome + 1 := by
  induction M generalizing a with
  | nil => simp at ha
  | cons x M ih =>
    cases a with
    | zero =>
      have hx : x = none := by simpa [Mtx.at, List.getD] using hn
      subst hx
      simp [List.countP_cons]
    | succ a =>
      have h2 : Mtx.at M a = none := by simpa [Mtx.at, List.getD] using hn
      rw [List.set_cons_succ, List.countP_cons, List.countP_cons, ih (by simpa using ha) h2]
      omega
theorem addTo_rank (M : Mtx) (a : Nat) (r : Rw) (k : Nat) : rank (addTo M a r k) = rank M := by
  have h : (addTo M a r k).map Option.isSome = M.map Option.isSome := by
    apply List.ext_getElem
    · simp [addTo]
    · intro i h1 h2
      have hi : i < M.length := by simpa using h2
      have e : M.at i = M[i] := by simp [Mtx.at, List.getD, hi]
      simp only [addTo, List.getElem_map, List.getElem_range, e]
      split
      · cases M[i] with
        | none => rfl
        | some q => simp only; split <;> rfl
      · rfl
  have e : ∀ N : Mtx, rank N = (N.map Option.isSome).countP id := fun N => by unfold rank; rw [List.countP_map]; rfl
  rw [e, e, h]
theorem madd_rank {M : Mtx} {a : Nat} {r : Rw} (ha : a < M.length) (hn : M.at a = none) : rank (madd M a r) = rank M + 1 := by
  unfold madd
  have h2 : (addTo M a r M.length).at a = none := by rw [addTo_at M a r M.length a ha, if_pos ha, hn]
  unfold rank
  rw [countP_set_some (by rw [addTo_len]; exact ha) h2]
  have := addTo_rank M a r M.length
  unfold rank at this
  rw [this]
theorem full_at {M : Mtx} (h : rank M = M.length) {i : Nat} (hi : i < M.length) : ∃ q, M.at i = some q := by
  have := List.countP_eq_length.1 h M[i] (List.getElem_mem hi)
  have e : M.at i = M[i] := by simp [Mtx.at, List.getD, hi]
  rw [e]
  exact Option.isSome_iff_exists.1 this
theorem rank_full {M : Mtx} (h : ∀ i, i < M.length → ∃ q, M.at i = some q) : rank M = M.length := by
  refine List.countP_eq_length.2 (fun o ho => ?_)
  obtain ⟨i, hi, rfl⟩ := List.getElem_of_mem ho
  obtain ⟨q, hq⟩ := h i hi
  have e : M.at i = M[i] := by simp [Mtx.at, List.getD, hi]
  rw [← e, hq]; rfl
/-- All unit rows are said: it is full. -/
theorem full_of_units {n size : Nat} {M : Mtx} (h : Ech n size M) (hu : ∀ i, i < n → inS M (2 ^ i)) : rank M = n := by
  rw [rank_full (fun i hi => ?_), h.l]
  refine pivot_of h (x := 2 ^ i) (i := i) (by rw [Nat.testBit_two_pow]; simp) (fun j hj => ?_) (hu i (by have := h.l; omega))
  rw [Nat.testBit_two_pow]; simp; omega

/-- The sum of those pieces that a row has. -/
def dotP (z : Nat) (A : List (List UInt8)) (x : Nat) : List UInt8 := psum x.testBit z A A.length
theorem psum_xor {z : Nat} {A : List (List UInt8)} (hA : ∀ x ∈ A, x.length = z) (f g : Nat → Bool) : ∀ k, k ≤ A.length → psum (fun i => (f i).xor (g i)) z A k = xorL (psum f z A k) (psum g z A k)
  | 0, _ => (xorL_zz z).symm
  | k + 1, hk => by
    have ih := psum_xor hA f g k (by omega)
    have lf := psum_len (f := f) hA k (by omega)
    have lg := psum_len (f := g) hA k (by omega)
    have la := getD_len hA (i := k) (by omega)
    unfold psum
    rw [ih]
    generalize A.getD k [] = u0 at *
    have hz : xorL u0 u0 = zer z := by
      apply List.ext_getElem
      · simp [xorL, zer, la]
      · intro i h1 h2; simp [xorL, zer]
    have hzr : ∀ u : List UInt8, u.length = z → xorL u (zer z) = u := fun u hu => by
      apply List.ext_getElem
      · simp [xorL, zer, hu]
      · intro i h1 h2; simp [xorL, zer]
    cases f k <;> cases g k <;> simp only [Bool.xor_false, Bool.xor_true, Bool.false_xor, Bool.true_xor, Bool.not_true, Bool.not_false, if_true, if_false, Bool.false_eq_true]
    · have := xorL_four lf lg (zer_len z) la
      rw [hzr _ lf] at this
      rw [← this]
      congr 1
      apply List.ext_getElem
      · simp [xorL, zer, la]
      · intro i h1 h2; simp [xorL, zer]
    · have := xorL_four lf lg la (zer_len z)
      rw [hzr _ lg, hzr _ la] at this
      exact this
    · have := xorL_four lf lg la la
      rw [hz, hzr _ (xorL_len lf lg)] at this
      exact this
theorem dotP_xor {z : Nat} {A : List (List UInt8)} (hA : ∀ x ∈ A, x.length = z) (x y : Nat) : dotP z A (x ^^^ y) = xorL (dotP z A x) (dotP z A y) := by
  unfold dotP
  rw [← psum_xor hA _ _ _ (Nat.le_refl _)]
  exact psum_congr _ (fun i _ => by rw [Nat.testBit_xor])
theorem dotP_len {z : Nat} {A : List (List UInt8)} (hA : ∀ x ∈ A, x.length = z) (x : Nat) : (dotP z A x).length = z := psum_len hA _ (Nat.le_refl _)
theorem dotP_unit {z : Nat} {A : List (List UInt8)} (hA : ∀ x ∈ A, x.length = z) {i : Nat} (hi : i < A.length) : dotP z A (2 ^ i) = A.getD i [] := by
  have h1 : ∀ k, k ≤ i → psum (2 ^ i).testBit z A k = zer z := by
    intro k
    induction k with
    | zero => intro _; rfl
    | succ k ih =>
      intro hk
      unfold psum
      rw [ih (by omega), Nat.testBit_two_pow, if_neg (by simp; omega)]
  have la := getD_len hA hi
  have h2 : psum (2 ^ i).testBit z A (i + 1) = A.getD i [] := by
    unfold psum
    rw [h1 i (Nat.le_refl _), Nat.testBit_two_pow, if_pos (by simp)]
    generalize A.getD i [] = u0 at *
    apply List.ext_getElem
    · simp [xorL, zer, la]
    · intro j h1 h2; simp [xorL, zer]
  have h3 : ∀ k, i + 1 + k ≤ A.length → psum (2 ^ i).testBit z A (i + 1 + k) = A.getD i [] := by
    intro k
    induction k with
    | zero => intro _; exact h2
    | succ k ih =>
      intro hk
      rw [← Nat.add_assoc]
      unfold psum
      rw [ih (by omega), Nat.testBit_two_pow, if_neg (by simp; omega)]
  have := h3 (A.length - (i + 1)) (by omega)
  rw [show i + 1 + (A.length - (i + 1)) = A.length from by omega] at this
  exact this

/-- Each row's data is the sum of its pieces. -/
def Snd12 (z : Nat) (A : List (List UInt8)) (M : Mtx) : Prop := ∀ i q, M.at i = some q → q.d = dotP z A q.x
theorem redK_snd {z : Nat} {A : List (List UInt8)} {M : Mtx} (hA : ∀ x ∈ A, x.length = z) (h : Snd12 z A M) {r : Rw} (hr : r.d = dotP z A r.x) : ∀ k, (redK M r k).d = dotP z A (redK M r k).x
  | 0 => hr
  | k + 1 => by
    have ih := redK_snd hA h hr k
    unfold redK
    split
    · next q hq =>
      split
      · show xorL (redK M r k).d q.d = dotP z A ((redK M r k).x ^^^ q.x)
        rw [dotP_xor hA, ih, h k q hq]
      · exact ih
    · exact ih
theorem madd_snd {z : Nat} {A : List (List UInt8)} {M : Mtx} (hA : ∀ x ∈ A, x.length = z) (h : Snd12 z A M) {r : Rw} (hr : r.d = dotP z A r.x) {a : Nat} (ha : a < M.length) : Snd12 z A (madd M a r) := by
  intro i q hq
  have hi := Mtx.at_lt hq
  rw [madd_len] at hi
  rw [madd_at M a r hi ha] at hq
  by_cases e : i = a
  · rw [if_pos e] at hq
    obtain rfl := Option.some.inj hq
    exact hr
  · rw [if_neg e] at hq
    cases e2 : M.at i with
    | none => rw [e2] at hq; cases hq
    | some p =>
      rw [e2] at hq
      simp only at hq
      split at hq
      · obtain rfl := Option.some.inj hq
        show xorL p.d r.d = dotP z A (p.x ^^^ r.x)
        rw [dotP_xor hA, ← h i p e2, ← hr]
      · obtain rfl := Option.some.inj hq
        exact h i p e2
/-- A full matrix tells each piece. -/
theorem full_tells {n z : Nat} {A : List (List UInt8)} {M : Mtx} (hA : ∀ x ∈ A, x.length = z) (hl : A.length = n) (h : Ech n z M) (hs : Snd12 z A M) (hf : rank M = n) {i : Nat} {q : Rw} (hq : M.at i = some q) : q.d = A.getD i [] := by
  have hi := Mtx.at_lt hq
  have hlM := h.l
  have hx : q.x = 2 ^ i := by
    apply Nat.eq_of_testBit_eq
    intro j
    rw [Nat.testBit_two_pow]
    by_cases e : i = j
    · subst e; rw [h.piv i q hq]; simp
    · have hd : decide (i = j) = false := by simp [e]
      rw [hd]
      by_cases hj : j < n
      · obtain ⟨p, hp⟩ := full_at (by rw [hf, hlM]) (i := j) (by omega)
        exact h.off i q hq j p (fun h' => e h'.symm) hp
      · exact bit_ge (h.lt i q hq) (by omega)
  rw [hs i q hq, hx, dotP_unit hA (by omega)]

end Go.Proofs.YtijhaeapoapgfaaGreatDoor

set_option linter.unusedVariables false
set_option linter.unusedSimpArgs false
namespace Go.Proofs.YtijhaeapoapgfaaGreatDoor
open Go.RowKit

theorem fv_const (a : Act) (v : Value) : a.eval (.const v) = v := rfl
theorem fv_size (a : Act) (x : Option Tmp) (v : Value) : (a.put x v).tmps.size = a.tmps.size := by
  unfold Act.put
  split
  · simp
  · rfl
theorem fv_eq {a : Act} {d : Tmp} {v : Value} (h : d < a.tmps.size) : (a.put (some d) v).eval (.tmp d) = v := by
  unfold Act.put Act.eval
  simp [Array.getD, h]
theorem fv_ne {a : Act} {d k : Tmp} {v : Value} (h : d ≠ k) : (a.put (some d) v).eval (.tmp k) = a.eval (.tmp k) := by
  unfold Act.put Act.eval
  simp only [Array.getD_eq_getD_getElem?, Array.getElem?_setIfInBounds]
  rw [if_neg h]

theorem fv_lit (l : List Value) (d : List Deferred) (i : Nat) (v : Value) : Act.put { tmps := l.toArray, defers := d } (some i) v = { tmps := (l.set i v).toArray, defers := d } := by
  unfold Act.put
  simp
theorem fv_none (a : Act) (v : Value) : a.put none v = a := rfl

theorem wp_frame {c : Code} {P : Program} {Q : Exit → Act → World → Prop} {a : Act} {w : World} (h : ∀ A : Act, A = a → c.wp P Q A w) : c.wp P Q a w := h a rfl

theorem oper_call_same {P : Program} {o : Oper} {a : Act} {w : World} {K : Act → World → Prop} {Q : Exit → Act → World → Prop} {f : FuncId} {xs : Array Operand} {ts : Array TypeId}
    (ho : o.op = .call { callee := .value (.func f), args := xs, argTypes := ts }) {vs : Array Value} {v : Value} (hc : Calls P f vs w fun e w' => e = .returned v ∧ w = w')
    (hf : Sem.run P (callFunc f vs) w = .ok (.enter f vs) w) (hx : xs.map a.eval = vs) (hK : K (a.put o.dst v) w) : o.wp P a w K Q := by
  have : (execOp a.eval o).run P w = .ok (.enter f vs) w := by
    unfold execOp
    rw [ho]
    simp [go_sem, hx, hf]
  unfold Oper.wp
  rw [this, Oper.upon_enter]
  exact hc.mono (by rintro e w' ⟨rfl, rfl⟩; exact hK)

end Go.Proofs.YtijhaeapoapgfaaGreatDoor

namespace Go.Proofs.YtijhaeapoapgfaaGreatDoor
open Go.RowKit
variable {P : Program} {md : Region.Mode} {ops : Array Oper} {Q : Exit → Act → World → Prop}

theorem wpAnyH_stronger {S S' : World → Prop} (hm : ∀ w, S' w → S w) : ∀ (fuel : Nat) (listed : Array Bool) (a : Act) (w : World), wpAnyH P md ops Q S' fuel listed a w → wpAnyH P md ops Q S fuel listed a w
  | 0, _, _, _, h => h
  | fuel + 1, _, _, _, h => ⟨h.1, fun i hi => wpOp_mono (fun a' w' h' => ⟨hm _ h'.1, wpAnyH_stronger hm fuel _ a' w' h'.2⟩) (h.2 i hi)⟩

theorem wpAnyH_more {S S' : World → Prop} {fuel : Nat} {listed : Array Bool} {a : Act} {w : World} (hm : ∀ w, S' w → S w) (hS : S' w) (h : S' w → wpAnyH P md ops Q S' fuel listed a w) : wpAnyH P md ops Q S fuel listed a w :=
  wpAnyH_stronger hm _ _ _ _ (h hS)

end Go.Proofs.YtijhaeapoapgfaaGreatDoor
