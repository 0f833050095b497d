/-
  ShaM: SHA-256 over lists of words, as plain functions. No program here.
-/
import Derived.Test.YtghgmchgbhdldaaBase
namespace Go.Proofs.Ytghgmchgbhdldaa
open Go.RowKit

def rotr (n : Nat) (x : UInt32) : UInt32 := (x <<< UInt32.ofNat (32 - n)) ||| (x >>> UInt32.ofNat n)

/-- The constants of all rounds. -/
def shaK : List UInt32 := [1116352408, 1899447441, 3049323471, 3921009573, 961987163, 1508970993, 2453635748, 2870763221, 3624381080, 310598401, 607225278, 1426881987, 1925078388, 2162078206, 2614888103, 3248222580, 3835390401, 4022224774, 264347078, 604807628, 770255983, 1249150122, 1555081692, 1996064986, 2554220882, 2821834349, 2952996808, 3210313671, 3336571891, 3584528711, 113926993, 338241895, 666307205, 773529912, 1294757372, 1396182291, 1695183700, 1986661051, 2177026350, 2456956037, 2730485921, 2820302411, 3259730800, 3345764771, 3516065817, 3600352804, 4094571909, 275423344, 430227734, 506948616, 659060556, 883997877, 958139571, 1322822218, 1537002063, 1747873779, 1955562222, 2024104815, 2227730452, 2361852424, 2428436474, 2756734187, 3204031479, 3329325298]

theorem shaK_len : shaK.length = 64 := rfl

/-- One byte into the words of a block. -/
def wPut (W : List UInt32) (i : Nat) (c : UInt8) : List UInt32 := W.set (i / 4) ((W.getD (i / 4) 0 <<< 8) ||| c.toUInt32)

/-- The words behind the first bytes. -/
def wBytes (b : List UInt8) : Nat → List UInt32
  | 0 => List.replicate 64 0
  | i + 1 => wPut (wBytes b i) i (b.getD i 0)

theorem wBytes_len (b : List UInt8) : ∀ i, (wBytes b i).length = 64
  | 0 => List.length_replicate
  | i + 1 => by unfold wBytes wPut; rw [List.length_set]; exact wBytes_len b i

def sgA (x : UInt32) : UInt32 := rotr 17 x ^^^ rotr 19 x ^^^ (x >>> 10)
def sgB (y : UInt32) : UInt32 := rotr 7 y ^^^ rotr 18 y ^^^ (y >>> 3)

/-- The word at place i, of those before it. -/
def wNew (W : List UInt32) (i : Nat) : UInt32 := sgA (W.getD (i - 2) 0) + W.getD (i - 7) 0 + sgB (W.getD (i - 15) 0) + W.getD (i - 16) 0

/-- The words, made up to place 16 + j. -/
def wExt (W : List UInt32) : Nat → List UInt32
  | 0 => W
  | j + 1 => (wExt W j).set (16 + j) (wNew (wExt W j) (16 + j))

theorem wExt_len (W : List UInt32) (h : W.length = 64) : ∀ j, (wExt W j).length = 64
  | 0 => h
  | j + 1 => by unfold wExt; rw [List.length_set]; exact wExt_len W h j

/-- All words of a block. -/
def wAll (b : List UInt8) : List UInt32 := wExt (wBytes b b.length) 48

theorem wAll_len (b : List UInt8) : (wAll b).length = 64 := wExt_len _ (wBytes_len b _) 48

/-- The eight words. -/
structure St where
  a : UInt32
  b : UInt32
  c : UInt32
  d : UInt32
  e : UInt32
  f : UInt32
  g : UInt32
  h : UInt32

namespace St
def list (s : St) : List UInt32 := [s.a, s.b, s.c, s.d, s.e, s.f, s.g, s.h]

def first : St := ⟨0x6a09e667, 0xbb67ae85, 0x3c6ef372, 0xa54ff53a, 0x510e527f, 0x9b05688c, 0x1f83d9ab, 0x5be0cd19⟩

def ch (s : St) : UInt32 := (s.e &&& s.f) ||| (~~~ s.e &&& s.g)
def mj (s : St) : UInt32 := ((s.a &&& s.b) ||| (s.a &&& s.c)) ||| (s.b &&& s.c)
def one (s : St) (k w : UInt32) : UInt32 := s.h + (rotr 6 s.e ^^^ rotr 11 s.e ^^^ rotr 25 s.e) + s.ch + k + w
def two (s : St) : UInt32 := (rotr 2 s.a ^^^ rotr 13 s.a ^^^ rotr 22 s.a) + s.mj

def round (s : St) (k w : UInt32) : St := ⟨s.one k w + s.two, s.a, s.b, s.c, s.d + s.one k w, s.e, s.f, s.g⟩

def rounds (s : St) (W : List UInt32) : Nat → St
  | 0 => s
  | i + 1 => (s.rounds W i).round (shaK.getD i 0) (W.getD i 0)

def add (s x : St) : St := ⟨s.a + x.a, s.b + x.b, s.c + x.c, s.d + x.d, s.e + x.e, s.f + x.f, s.g + x.g, s.h + x.h⟩

def takes (s : St) (b : List UInt8) : St := s.add (s.rounds (wAll b) 64)

def bytes4 (x : UInt32) : List UInt8 := [(x >>> 24).toUInt8, (x >>> 16).toUInt8, (x >>> 8).toUInt8, x.toUInt8]

def bytes (s : St) : List UInt8 := s.list.flatMap bytes4

theorem bytes_len (s : St) : s.bytes.length = 32 := rfl
end St

/-- How many zeros fill up. -/
def padN (n : Nat) : Nat := (119 - n % 64) % 64

theorem padN_mod (n : Nat) : (n + 1 + padN n) % 64 = 56 := by unfold padN; omega
theorem padN_least (n k : Nat) (h : (n + 1 + k) % 64 = 56) (hk : k < 64) : k = padN n := by unfold padN; omega

/-- The number of bits, in eight bytes. -/
def bits8 (n : Nat) : List UInt8 := [UInt8.ofNat (n * 8 / 2 ^ 56), UInt8.ofNat (n * 8 / 2 ^ 48), UInt8.ofNat (n * 8 / 2 ^ 40), UInt8.ofNat (n * 8 / 2 ^ 32), UInt8.ofNat (n * 8 / 2 ^ 24), UInt8.ofNat (n * 8 / 2 ^ 16), UInt8.ofNat (n * 8 / 2 ^ 8), UInt8.ofNat (n * 8)]

def filled (b : List UInt8) : List UInt8 := b ++ 128 :: List.replicate (padN b.length) 0 ++ bits8 b.length

theorem filled_len (b : List UInt8) : (filled b).length = b.length + 1 + padN b.length + 8 := by
  unfold filled; simp [bits8]; omega

theorem filled_mod (b : List UInt8) : (filled b).length % 64 = 0 := by
  rw [filled_len]; have := padN_mod b.length; omega

theorem filled_le (b : List UInt8) : (filled b).length ≤ b.length + 72 := by
  rw [filled_len]; unfold padN; omega

/-- The state behind the first blocks. -/
def stBlocks (l : List UInt8) : Nat → St
  | 0 => St.first
  | k + 1 => (stBlocks l k).takes ((l.drop (64 * k)).take 64)

/-- SHA-256. -/
def sha (b : List UInt8) : List UInt8 := (stBlocks (filled b) ((filled b).length / 64)).bytes

theorem sha_len (b : List UInt8) : (sha b).length = 32 := St.bytes_len _

end Go.Proofs.Ytghgmchgbhdldaa
