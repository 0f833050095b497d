/-
  GrBase: the texts Base, ShaM, CrcM, CrcT, RefCT, FlashM, CellM, RandM, one behind another.
-/
import Derived.WalkKit
import Derived.WalkSpells
import Derived.WalkLawsBesides
import Derived.Lib.Hide
import Derived.Deep.Draws
namespace Go.Proofs.YtijhaeapoapgfaaGreatDoor
open Go.RowKit

/-- What was there is as it was, but for the blocks in S. -/
structure Keeps (S : List Nat) (w w' : World) : Prop where
  os : w'.os = w.os
  tape : w'.tape = w.tape
  output : w'.output = w.output
  size : w.heap.size ≤ w'.heap.size
  block : ∀ k, k < w.heap.size → k ∉ S → w'.heap[k]? = w.heap[k]?

theorem Keeps.refl (S : List Nat) (w : World) : Keeps S w w := ⟨rfl, rfl, rfl, Nat.le_refl _, fun _ _ _ => rfl⟩

theorem Keeps.trans' {S S' T : List Nat} {a b c : World} (h : Keeps S a b) (k : Keeps S' b c)
    (h1 : ∀ x, x ∈ S → x ∈ T ∨ a.heap.size ≤ x) (h2 : ∀ x, x ∈ S' → x ∈ T ∨ a.heap.size ≤ x) : Keeps T a c :=
  ⟨k.os.trans h.os, k.tape.trans h.tape, k.output.trans h.output, Nat.le_trans h.size k.size, fun i hi hT => by
    have e1 : i ∉ S := fun hS => by rcases h1 i hS with h | h <;> first | exact hT h | omega
    have e2 : i ∉ S' := fun hS => by rcases h2 i hS with h | h <;> first | exact hT h | omega
    exact (k.block i (Nat.lt_of_lt_of_le hi h.size) e2).trans (h.block i hi e1)⟩

theorem Keeps.trans {S : List Nat} {a b c : World} (h : Keeps S a b) (k : Keeps S b c) : Keeps S a c :=
  h.trans' k (fun _ h => .inl h) (fun _ h => .inl h)

theorem Keeps.mono {S T : List Nat} {a b : World} (h : Keeps S a b) (hs : ∀ x, x ∈ S → x ∈ T ∨ a.heap.size ≤ x) : Keeps T a b :=
  h.trans' (Keeps.refl T b) hs (fun _ h => .inl h)

theorem Keeps.nil {S : List Nat} {a b : World} (h : Keeps [] a b) : Keeps S a b := h.mono (by simp)

theorem Keeps.drew {S : List Nat} {a w : World} (h : Keeps S a w) : Keeps S a w.drew := ⟨h.os, h.tape, h.output, h.size, h.block⟩

theorem Keeps.drewN {S : List Nat} {a w : World} (h : Keeps S a w) (n : Nat) : Keeps S a (w.drewN n) := ⟨h.os, h.tape, h.output, h.size, h.block⟩

theorem Keeps.alloc {S : List Nat} {a w : World} (h : Keeps S a w) (o : Obj) : Keeps S a (w.alloc o) :=
  h.trans ⟨rfl, rfl, rfl, by simp, fun k hk _ => Below.heap_alloc _ _ _ (by omega)⟩

theorem Keeps.setCell {S : List Nat} {a w : World} (h : Keeps S a w) {p : Addr} (hp : p.block ∈ S ∨ a.heap.size ≤ p.block) (u : Value) : Keeps S a (w.setCell p u) := by
  refine ⟨h.os, h.tape, h.output, by simp [World.setCell]; exact h.size, fun k hk hS => ?_⟩
  have hne : k ≠ p.block := by
    rintro rfl
    rcases hp with h | h
    · exact hS h
    · omega
  rw [Below.heap_setCell _ _ _ _ hne]
  exact h.block k hk hS

theorem Keeps.grown {S : List Nat} {a w w' : World} {row : Option Nat} (h : Keeps S a w) (hg : w.grownBy w' row) (hr : ∀ k, row = some k → k ∈ S ∨ a.heap.size ≤ k) : Keeps S a w' :=
  h.trans' ⟨hg.os, hg.tape, hg.output, hg.size, fun k hk hS => hg.block k hk (by rintro e; exact hS (by simpa using e.symm))⟩ (S' := row.toList) (fun _ h => .inl h)
    (by intro x hx; exact hr x (by simpa using hx))

theorem Keeps.below {S : List Nat} {a b : World} (h : Keeps S a b) {B : Nat} (hB : B ≤ a.heap.size) (hs : ∀ x, x ∈ S → B ≤ x) : Below B a b :=
  ⟨h.os, h.tape, h.output, h.size, fun k hk => h.block k (by omega) (fun hS => by have := hs k hS; omega)⟩

theorem Keeps.of_below {a b : World} (h : Below a.heap.size a b) : Keeps [] a b :=
  ⟨h.os, h.tape, h.output, h.size, fun k hk _ => h.block k hk⟩

/-- A block known whole: its cells, as a list; none of them frozen. -/
def Blk (w : World) (p : Nat) (t : TypeId) (l : List Value) : Prop := w.heap[p]? = some (.cells l.toArray t (0, 0))

theorem Blk.lt {w : World} {p : Nat} {t : TypeId} {l : List Value} (h : Blk w p t l) : p < w.heap.size := (Array.getElem?_eq_some_iff.1 h).1

theorem Blk.cell {w : World} {p : Nat} {t : TypeId} {l : List Value} (h : Blk w p t l) (i : Nat) : w.cell? ⟨p, i, none⟩ = l[i]? := by
  unfold Blk at h
  simp [World.cell?, h]

theorem Blk.cell' {w : World} {p : Nat} {t : TypeId} {l : List Value} (h : Blk w p t l) {i : Nat} {v : Value} (hv : l[i]? = some v) : w.cell? ⟨p, i, none⟩ = some v := (h.cell i).trans hv

theorem Blk.frozen {w : World} {p : Nat} {t : TypeId} {l : List Value} (h : Blk w p t l) (i : Nat) : w.frozen? ⟨p, i, none⟩ = false := by
  unfold Blk at h
  simp [World.frozen?, h]

theorem Blk.keeps {S : List Nat} {w w' : World} {p : Nat} {t : TypeId} {l : List Value} (h : Blk w p t l) (k : Keeps S w w') (hp : p ∉ S) : Blk w' p t l := (k.block p h.lt hp).trans h

theorem Blk.drew {w : World} {p : Nat} {t : TypeId} {l : List Value} (h : Blk w p t l) : Blk w.drew p t l := h

theorem Blk.drewN {w : World} {p : Nat} {t : TypeId} {l : List Value} (h : Blk w p t l) (n : Nat) : Blk (w.drewN n) p t l := h

theorem Blk.alloc {w : World} {p : Nat} {t : TypeId} {l : List Value} (h : Blk w p t l) (o : Obj) : Blk (w.alloc o) p t l :=
  (Below.heap_alloc w o p h.lt).trans h

theorem Blk.new (w : World) (t : TypeId) (l : List Value) : Blk (w.alloc (.cells l.toArray t)) w.heap.size t l := by
  show (w.heap.push _)[w.heap.size]? = _
  simp

theorem Blk.newA (w : World) (t : TypeId) (c : Array Value) : Blk (w.alloc (.cells c t)) w.heap.size t c.toList := by
  show (w.heap.push _)[w.heap.size]? = _
  simp

theorem Blk.set {w : World} {p : Nat} {t : TypeId} {l : List Value} (h : Blk w p t l) (i : Nat) (v : Value) : Blk (w.setCell ⟨p, i, none⟩ v) p t (l.set i v) := by
  unfold Blk at *
  simp only [World.setCell, Array.getElem?_modify, ↓reduceIte, h, Option.map_some]
  simp

theorem Blk.setOther {w : World} {p : Nat} {t : TypeId} {l : List Value} (h : Blk w p t l) {a : Addr} (v : Value) (ha : p ≠ a.block) : Blk (w.setCell a v) p t l :=
  (Below.heap_setCell w a v p ha).trans h

theorem Blk.ne {w : World} {p q : Nat} {t u : TypeId} {l m : List Value} (h : Blk w p t l) (k : Blk w q u m) (ht : t ≠ u) : p ≠ q := by
  rintro rfl
  unfold Blk at *
  rw [h] at k
  simp at k
  exact ht k.2

/-- A byte as a value. -/
abbrev B8 (x : UInt8) : Value := .int .u8 x.toNat

/-- A slice's address reads as these bytes. -/
def Rd (w : World) (a : Option Addr) (l : List UInt8) : Prop :=
  ∀ i u, l[i]? = some u → ∃ b o, a = some ⟨b, o, none⟩ ∧ w.cell? ⟨b, o + i, none⟩ = some (B8 u)

theorem Rd.nil (w : World) (a : Option Addr) : Rd w a [] := by intro i u h; simp at h

theorem Rd.keeps {S : List Nat} {w w' : World} {a : Option Addr} {l : List UInt8} (h : Rd w a l) (k : Keeps S w w') (ha : ∀ x, a = some x → l ≠ [] → x.block ∉ S) : Rd w' a l := by
  intro i u hu
  have hne : l ≠ [] := by rintro rfl; simp at hu
  obtain ⟨b, o, rfl, hc⟩ := h i u hu
  exact ⟨b, o, rfl, (World.cell?_of_block (a := ⟨b, o + i, none⟩) (k.block b (World.block_lt_of_cell? w _ hc) (ha _ rfl hne))).trans hc⟩

theorem Rd.lt {w : World} {a : Option Addr} {l : List UInt8} (h : Rd w a l) : ∀ x, a = some x → l ≠ [] → x.block < w.heap.size := by
  rintro x rfl hne
  obtain ⟨u, us, rfl⟩ := List.exists_cons_of_ne_nil hne
  obtain ⟨b, o, hx, hc⟩ := h 0 u rfl
  simp only [Option.some.injEq] at hx
  subst hx
  exact World.block_lt_of_cell? w _ hc

/-- A slice that reads is nil only where it is empty; its block is none of S. -/
theorem Rd.keepsNil {w w' : World} {a : Option Addr} {l : List UInt8} (h : Rd w a l) (k : Keeps [] w w') : Rd w' a l := h.keeps k (by simp)

theorem Rd.take {w : World} {a : Option Addr} {l : List UInt8} (h : Rd w a l) (n : Nat) : Rd w a (l.take n) := by
  intro i u hu
  rw [List.getElem?_take] at hu
  split at hu
  · exact h i u hu
  · simp at hu

theorem Rd.drop {w : World} {b o : Nat} {l : List UInt8} (h : Rd w (some ⟨b, o, none⟩) l) (n : Nat) : Rd w (some ⟨b, o + n, none⟩) (l.drop n) := by
  intro i u hu
  rw [List.getElem?_drop] at hu
  obtain ⟨b', o', hx, hc⟩ := h _ u hu
  simp only [Option.some.injEq, Addr.mk.injEq] at hx
  obtain ⟨rfl, rfl, -⟩ := hx
  exact ⟨b, o + n, rfl, by rw [Nat.add_assoc]; exact hc⟩

theorem Rd.dropMap {w : World} {a : Option Addr} {l : List UInt8} (h : Rd w a l) (n : Nat) : Rd w (a.map fun x => ⟨x.block, x.off + n, none⟩) (l.drop n) := by
  intro i u hu
  rw [List.getElem?_drop] at hu
  obtain ⟨b', o', rfl, hc⟩ := h _ u hu
  exact ⟨b', o' + n, rfl, by rw [Nat.add_assoc]; exact hc⟩

theorem Rd.dropAdd {w : World} {a : Option Addr} {l : List UInt8} (h : Rd w a l) (n : Nat) : Rd w (a.map fun x => x.add n) (l.drop n) := by
  intro i u hu
  rw [List.getElem?_drop] at hu
  obtain ⟨b', o', rfl, hc⟩ := h _ u hu
  exact ⟨b', o' + n, by rw [Option.map_some, Addr.add_lit], by rw [Nat.add_assoc]; exact hc⟩

theorem Rd.blk {w : World} {p : Nat} {t : TypeId} {vs : List Value} (h : Blk w p t vs) (o : Nat) (l : List UInt8) (hl : ∀ i u, l[i]? = some u → vs[o + i]? = some (B8 u)) : Rd w (some ⟨p, o, none⟩) l := by
  intro i u hu
  exact ⟨p, o, rfl, h.cell' (hl i u hu)⟩

theorem Rd.lit (w : World) (t : TypeId) (c : Array Value) (l : List UInt8) (hc : c.toList = l.map B8) : Rd (w.alloc (.cells c t)) (some ⟨w.heap.size, 0, none⟩) l := by
  refine Rd.blk (Blk.newA w t c) 0 l ?_
  intro i u hu
  rw [hc, Nat.zero_add, List.getElem?_map, hu]
  rfl

end Go.Proofs.YtijhaeapoapgfaaGreatDoor

namespace Go.Proofs.YtijhaeapoapgfaaGreatDoor
open Go.RowKit

def rotr (n : Nat) (x : UInt32) : UInt32 := (x <<< UInt32.ofNat (32 - n)) ||| (x >>> UInt32.ofNat n)

/-- The constants of all rounds. -/
def shaK : List UInt32 := [1116352408, 1899447441, 3049323471, 3921009573, 961987163, 1508970993, 2453635748, 2870763221, 3624381080, 310598401, 607225278, 1426881987, 1925078388, 2162078206, 2614888103, 3248222580, 3835390401, 4022224774, 264347078, 604807628, 770255983, 1249150122, 1555081692, 1996064986, 2554220882, 2821834349, 2952996808, 3210313671, 3336571891, 3584528711, 113926993, 338241895, 666307205, 773529912, 1294757372, 1396182291, 1695183700, 1986661051, 2177026350, 2456956037, 2730485921, 2820302411, 3259730800, 3345764771, 3516065817, 3600352804, 4094571909, 275423344, 430227734, 506948616, 659060556, 883997877, 958139571, 1322822218, 1537002063, 1747873779, 1955562222, 2024104815, 2227730452, 2361852424, 2428436474, 2756734187, 3204031479, 3329325298]

theorem shaK_len : shaK.length = 64 := rfl

/-- One byte into the words of a block. -/
def wPut (W : List UInt32) (i : Nat) (c : UInt8) : List UInt32 := W.set (i / 4) ((W.getD (i / 4) 0 <<< 8) ||| c.toUInt32)

/-- The words behind the first bytes. -/
def wBytes (b : List UInt8) : Nat → List UInt32
  | 0 => List.replicate 64 0
  | i + 1 => wPut (wBytes b i) i (b.getD i 0)

theorem wBytes_len (b : List UInt8) : ∀ i, (wBytes b i).length = 64
  | 0 => List.length_replicate
  | i + 1 => by unfold wBytes wPut; rw [List.length_set]; exact wBytes_len b i

def sgA (x : UInt32) : UInt32 := rotr 17 x ^^^ rotr 19 x ^^^ (x >>> 10)
def sgB (y : UInt32) : UInt32 := rotr 7 y ^^^ rotr 18 y ^^^ (y >>> 3)

/-- The word at place i, of those before it. -/
def wNew (W : List UInt32) (i : Nat) : UInt32 := sgA (W.getD (i - 2) 0) + W.getD (i - 7) 0 + sgB (W.getD (i - 15) 0) + W.getD (i - 16) 0

/-- The words, made up to place 16 + j. -/
def wExt (W : List UInt32) : Nat → List UInt32
  | 0 => W
  | j + 1 => (wExt W j).set (16 + j) (wNew (wExt W j) (16 + j))

theorem wExt_len (W : List UInt32) (h : W.length = 64) : ∀ j, (wExt W j).length = 64
  | 0 => h
  | j + 1 => by unfold wExt; rw [List.length_set]; exact wExt_len W h j

/-- All words of a block. -/
def wAll (b : List UInt8) : List UInt32 := wExt (wBytes b b.length) 48

theorem wAll_len (b : List UInt8) : (wAll b).length = 64 := wExt_len _ (wBytes_len b _) 48

/-- The eight words. -/
structure St where
  a : UInt32
  b : UInt32
  c : UInt32
  d : UInt32
  e : UInt32
  f : UInt32
  g : UInt32
  h : UInt32

namespace St
def list (s : St) : List UInt32 := [s.a, s.b, s.c, s.d, s.e, s.f, s.g, s.h]

def first : St := ⟨0x6a09e667, 0xbb67ae85, 0x3c6ef372, 0xa54ff53a, 0x510e527f, 0x9b05688c, 0x1f83d9ab, 0x5be0cd19⟩

def ch (s : St) : UInt32 := (s.e &&& s.f) ||| (~~~ s.e &&& s.g)
def mj (s : St) : UInt32 := ((s.a &&& s.b) ||| (s.a &&& s.c)) ||| (s.b &&& s.c)
def one (s : St) (k w : UInt32) : UInt32 := s.h + (rotr 6 s.e ^^^ rotr 11 s.e ^^^ rotr 25 s.e) + s.ch + k + w
def two (s : St) : UInt32 := (rotr 2 s.a ^^^ rotr 13 s.a ^^^ rotr 22 s.a) + s.mj

def round (s : St) (k w : UInt32) : St := ⟨s.one k w + s.two, s.a, s.b, s.c, s.d + s.one k w, s.e, s.f, s.g⟩

def rounds (s : St) (W : List UInt32) : Nat → St
  | 0 => s
  | i + 1 => (s.rounds W i).round (shaK.getD i 0) (W.getD i 0)

def add (s x : St) : St := ⟨s.a + x.a, s.b + x.b, s.c + x.c, s.d + x.d, s.e + x.e, s.f + x.f, s.g + x.g, s.h + x.h⟩

def takes (s : St) (b : List UInt8) : St := s.add (s.rounds (wAll b) 64)

def bytes4 (x : UInt32) : List UInt8 := [(x >>> 24).toUInt8, (x >>> 16).toUInt8, (x >>> 8).toUInt8, x.toUInt8]

def bytes (s : St) : List UInt8 := s.list.flatMap bytes4

theorem bytes_len (s : St) : s.bytes.length = 32 := rfl
end St

/-- How many zeros fill up. -/
def padN (n : Nat) : Nat := (119 - n % 64) % 64

theorem padN_mod (n : Nat) : (n + 1 + padN n) % 64 = 56 := by unfold padN; omega
theorem padN_least (n k : Nat) (h : (n + 1 + k) % 64 = 56) (hk : k < 64) : k = padN n := by unfold padN; omega

/-- The number of bits, in eight bytes. -/
def bits8 (n : Nat) : List UInt8 := [UInt8.ofNat (n * 8 / 2 ^ 56), UInt8.ofNat (n * 8 / 2 ^ 48), UInt8.ofNat (n * 8 / 2 ^ 40), UInt8.ofNat (n * 8 / 2 ^ 32), UInt8.ofNat (n * 8 / 2 ^ 24), UInt8.ofNat (n * 8 / 2 ^ 16), UInt8.ofNat (n * 8 / 2 ^ 8), UInt8.ofNat (n * 8)]

def filled (b : List UInt8) : List UInt8 := b ++ 128 :: List.replicate (padN b.length) 0 ++ bits8 b.length

theorem filled_len (b : List UInt8) : (filled b).length = b.length + 1 + padN b.length + 8 := by
  unfold filled; simp [bits8]; omega

theorem filled_mod (b : List UInt8) : (filled b).length % 64 = 0 := by
  rw [filled_len]; have := padN_mod b.length; omega

theorem filled_le (b : List UInt8) : (filled b).length ≤ b.length + 72 := by
  rw [filled_len]; unfold padN; omega

/-- The state behind the first blocks. -/
def stBlocks (l : List UInt8) : Nat → St
  | 0 => St.first
  | k + 1 => (stBlocks l k).takes ((l.drop (64 * k)).take 64)

/-- SHA-256. -/
def sha (b : List UInt8) : List UInt8 := (stBlocks (filled b) ((filled b).length / 64)).bytes

theorem sha_len (b : List UInt8) : (sha b).length = 32 := St.bytes_len _

end Go.Proofs.YtijhaeapoapgfaaGreatDoor

namespace Go.Proofs.YtijhaeapoapgfaaGreatDoor
open Go.RowKit

def crcBit (c : UInt32) : UInt32 := (c >>> 1) ^^^ (3988292384 * (c &&& 1))
def crcBits : Nat → UInt32 → UInt32
  | 0, c => c
  | n + 1, c => crcBits n (crcBit c)
def crcByte (c : UInt32) (x : UInt8) : UInt32 := crcBits 8 (c ^^^ x.toUInt32)
def crcFold (c : UInt32) (l : List UInt8) : UInt32 := l.foldl crcByte c
def crcAdd (s : UInt32) (l : List UInt8) : UInt32 := ~~~ (crcFold (~~~ s) l)

def crcSum (l : List UInt8) : UInt32 := crcAdd 0 l
/-- A number in four bytes, the greatest first. -/
def be4 (s : UInt32) : List UInt8 := [(s >>> 24).toUInt8, (s >>> 16).toUInt8, (s >>> 8).toUInt8, s.toUInt8]

def crcPut (l : List UInt8) : List UInt8 := l ++ be4 (crcSum l)

/-- What stands ahead of a sum that is right. -/
def crcRight (l : List UInt8) : Option (List UInt8) :=
  if l.length < 4 then none else if crcPut (l.take (l.length - 4)) = l then some (l.take (l.length - 4)) else none

theorem be4_24 (s : UInt32) : (s.toNat : Int) / 16777216 % 256 = (((s >>> 24).toUInt8).toNat : Int) := by
  rw [UInt32.toNat_toUInt8, UInt32.toNat_shiftRight]
  show _ = (((s.toNat >>> 24) % 256 : Nat) : Int)
  rw [Nat.shiftRight_eq_div_pow]
  omega
theorem be4_16 (s : UInt32) : (s.toNat : Int) / 65536 % 256 = (((s >>> 16).toUInt8).toNat : Int) := by
  rw [UInt32.toNat_toUInt8, UInt32.toNat_shiftRight]
  show _ = (((s.toNat >>> 16) % 256 : Nat) : Int)
  rw [Nat.shiftRight_eq_div_pow]
  omega
theorem be4_8 (s : UInt32) : (s.toNat : Int) / 256 % 256 = (((s >>> 8).toUInt8).toNat : Int) := by
  rw [UInt32.toNat_toUInt8, UInt32.toNat_shiftRight]
  show _ = (((s.toNat >>> 8) % 256 : Nat) : Int)
  rw [Nat.shiftRight_eq_div_pow]
  omega
theorem be4_0 (s : UInt32) : (s.toNat : Int) % 256 = ((s.toUInt8).toNat : Int) := by
  rw [UInt32.toNat_toUInt8]
  omega

theorem B8_24 (s : UInt32) : [Value.int .u8 ((s.toNat : Int) / (16777216 : Int) % (256 : Int))] = [B8 ((s >>> 24).toUInt8)] := congrArg (fun z => [Value.int .u8 z]) (be4_24 s)
theorem B8_16 (s : UInt32) : [Value.int .u8 ((s.toNat : Int) / (65536 : Int) % (256 : Int))] = [B8 ((s >>> 16).toUInt8)] := congrArg (fun z => [Value.int .u8 z]) (be4_16 s)
theorem B8_8 (s : UInt32) : [Value.int .u8 ((s.toNat : Int) / (256 : Int) % (256 : Int))] = [B8 ((s >>> 8).toUInt8)] := congrArg (fun z => [Value.int .u8 z]) (be4_8 s)
theorem B8_0 (s : UInt32) : [Value.int .u8 ((s.toNat : Int) % (256 : Int))] = [B8 s.toUInt8] := congrArg (fun z => [Value.int .u8 z]) (be4_0 s)
theorem crcPut_len (l : List UInt8) : (crcPut l).length = l.length + 4 := by simp [crcPut, be4]

/-! Each step is one to one: the polynomial's top bit is set. -/

theorem shr1_toNat (a : UInt32) : (a >>> 1).toNat = a.toNat / 2 := by
  rw [UInt32.toNat_shiftRight]
  show a.toNat >>> 1 = _
  rw [Nat.shiftRight_eq_div_pow]
theorem and1_toNat (a : UInt32) : (a &&& 1).toNat = a.toNat % 2 := by
  rw [UInt32.toNat_and]
  show a.toNat &&& 1 = _
  rw [Nat.and_one_is_mod]

theorem crcBit_cases (a : UInt32) : (a.toNat % 2 = 0 ∧ crcBit a = a >>> 1) ∨ (a.toNat % 2 = 1 ∧ crcBit a = (a >>> 1) ^^^ 3988292384) := by
  have h := and1_toNat a
  rcases Nat.mod_two_eq_zero_or_one a.toNat with h0 | h0
  · left
    refine ⟨h0, ?_⟩
    have : a &&& 1 = 0 := by apply UInt32.toNat_inj.1; rw [h, h0]; rfl
    unfold crcBit
    rw [this]
    simp
  · right
    refine ⟨h0, ?_⟩
    have : a &&& 1 = 1 := by apply UInt32.toNat_inj.1; rw [h, h0]; rfl
    unfold crcBit
    rw [this]
    simp

theorem crcFold_append (c : UInt32) (l m : List UInt8) : crcFold c (l ++ m) = crcFold (crcFold c l) m := by
  unfold crcFold; rw [List.foldl_append]

end Go.Proofs.YtijhaeapoapgfaaGreatDoor

namespace Go.Proofs.YtijhaeapoapgfaaGreatDoor
open Go.RowKit

theorem xor_mod2 (a b : UInt32) : (a ^^^ b).toNat % 2 = (a.toNat + b.toNat) % 2 := by
  rw [UInt32.toNat_xor]
  have h := Nat.xor_mod_two_eq_one (a := a.toNat) (b := b.toNat)
  omega

theorem shr_xor (a b : UInt32) : (a ^^^ b) >>> 1 = (a >>> 1) ^^^ (b >>> 1) := by
  apply UInt32.toNat_inj.1
  rw [UInt32.toNat_shiftRight, UInt32.toNat_xor, UInt32.toNat_xor, UInt32.toNat_shiftRight, UInt32.toNat_shiftRight]
  exact Nat.shiftRight_xor_distrib

end Go.Proofs.YtijhaeapoapgfaaGreatDoor

namespace Go.Proofs.YtijhaeapoapgfaaGreatDoor
open Go.RowKit

def sh : Nat → UInt32 → UInt32
  | 0, x => x
  | n + 1, x => (sh n x) >>> 1

theorem sh_toNat (n : Nat) (x : UInt32) : (sh n x).toNat = x.toNat / 2 ^ n := by
  induction n with
  | zero => simp [sh]
  | succ n ih => rw [sh, shr1_toNat, ih, Nat.pow_succ, Nat.div_div_eq_div_mul]

theorem sh_byte (x : UInt8) : sh 8 x.toUInt32 = 0 := by
  apply UInt32.toNat_inj.1
  rw [sh_toNat, UInt8.toNat_toUInt32]
  have := x.toNat_lt
  show x.toNat / 256 = 0
  omega

theorem crcBits_last (n : Nat) : ∀ c : UInt32, crcBits (n + 1) c = crcBit (crcBits n c) := by
  induction n with
  | zero => intro c; rfl
  | succ n ih => intro c; rw [crcBits, ih, crcBits]

/-- The state in which k bits have been taken. -/
def bitSt (l : List UInt8) (k : Nat) : UInt32 :=
  crcBits (k % 8) (crcFold (~~~ 0) (l.take (k / 8)) ^^^ (l.getD (k / 8) 0).toUInt32) ^^^ sh (k % 8) (l.getD (k / 8) 0).toUInt32

theorem bitSt_zero (l : List UInt8) : bitSt l 0 = 4294967295 := by
  unfold bitSt
  show (crcFold (~~~ 0) (l.take 0) ^^^ _) ^^^ _ = _
  rw [UInt32.xor_assoc]
  show (crcFold (~~~ 0) (l.take 0)) ^^^ ((l.getD 0 0).toUInt32 ^^^ (l.getD 0 0).toUInt32) = _
  rw [UInt32.xor_self, UInt32.xor_zero]
  rfl

theorem bitSt_full (l : List UInt8) (m : Nat) : bitSt l (8 * m) = crcFold (~~~ 0) (l.take m) := by
  unfold bitSt
  rw [show 8 * m % 8 = 0 from by omega, show 8 * m / 8 = m from by omega]
  show (crcFold (~~~ 0) (l.take m) ^^^ (l.getD m 0).toUInt32) ^^^ (l.getD m 0).toUInt32 = _
  rw [UInt32.xor_assoc, UInt32.xor_self, UInt32.xor_zero]

/-- One bit more. -/
def bitStep (y b : UInt32) : UInt32 := if (y &&& 1) ^^^ b = 1 then (y >>> 1) ^^^ 3988292384 else y >>> 1

theorem bitStep_eq (c : UInt32) (s : UInt32) : bitStep (c ^^^ s) (s &&& 1) = crcBit c ^^^ (s >>> 1) := by
  have h : ((c ^^^ s) &&& 1) ^^^ (s &&& 1) = c &&& 1 := by
    apply UInt32.toNat_inj.1
    rw [UInt32.toNat_xor, and1_toNat, and1_toNat, and1_toNat, xor_mod2]
    rcases Nat.mod_two_eq_zero_or_one c.toNat with h1 | h1 <;> rcases Nat.mod_two_eq_zero_or_one s.toNat with h2 | h2
    · rw [show (c.toNat + s.toNat) % 2 = 0 from by omega, h1, h2]; rfl
    · rw [show (c.toNat + s.toNat) % 2 = 1 from by omega, h1, h2]; rfl
    · rw [show (c.toNat + s.toNat) % 2 = 1 from by omega, h1, h2]; rfl
    · rw [show (c.toNat + s.toNat) % 2 = 0 from by omega, h1, h2]; rfl
  unfold bitStep
  rw [h, shr_xor]
  rcases crcBit_cases c with ⟨h1, h2⟩ | ⟨h1, h2⟩
  · have : c &&& 1 = 0 := by apply UInt32.toNat_inj.1; rw [and1_toNat, h1]; rfl
    rw [this, if_neg (by decide), h2]
  · have : c &&& 1 = 1 := by apply UInt32.toNat_inj.1; rw [and1_toNat, h1]; rfl
    rw [this, if_pos rfl, h2, UInt32.xor_assoc, UInt32.xor_assoc, UInt32.xor_comm (s >>> 1)]

theorem bitSt_succ (l : List UInt8) (k : Nat) (hk : k < 8 * l.length) : bitSt l (k + 1) = bitStep (bitSt l k) ((sh (k % 8) (l.getD (k / 8) 0).toUInt32) &&& 1) := by
  have h : bitStep (bitSt l k) ((sh (k % 8) (l.getD (k / 8) 0).toUInt32) &&& 1) = crcBits (k % 8 + 1) (crcFold (~~~ 0) (l.take (k / 8)) ^^^ (l.getD (k / 8) 0).toUInt32) ^^^ sh (k % 8 + 1) (l.getD (k / 8) 0).toUInt32 := by
    rw [crcBits_last, sh]
    exact bitStep_eq _ _
  rw [h]
  by_cases h7 : k % 8 = 7
  · have e : k + 1 = 8 * (k / 8 + 1) := by omega
    rw [e, bitSt_full, h7, sh_byte, UInt32.xor_zero]
    have hlt : k / 8 < l.length := by omega
    rw [List.take_add_one, List.getElem?_eq_getElem hlt, Option.toList_some, crcFold_append]
    have : l.getD (k / 8) 0 = l[k / 8] := by rw [List.getD, List.getElem?_eq_getElem hlt]; rfl
    rw [this]
    rfl
  · unfold bitSt
    rw [show (k + 1) % 8 = k % 8 + 1 from by omega, show (k + 1) / 8 = k / 8 from by omega]

end Go.Proofs.YtijhaeapoapgfaaGreatDoor

namespace Go.Proofs.YtijhaeapoapgfaaGreatDoor
open Go.RowKit

/-- All bytes, erased. -/
def blankAll : List UInt8 := List.replicate 3584 255

/-- What a flash holds. -/
structure Fla where
  b : List UInt8
  er : List Int
  wear : Int
  down : Bool
  fused : Bool
  left : Int
  torn : Int
  steps : Int

namespace Fla

/-- Its struct's cells; q: the block of its bytes. -/
def cells (F : Fla) (q : Nat) : List Value :=
  .slice (some ⟨q, 0, none⟩) 3584 3584 :: (F.er.map (Value.int .i64) ++ [.int .i64 F.wear, .bool F.down, .bool F.fused, .int .i64 F.left, .int .i64 F.torn, .int .i64 F.steps])

def tornB (F : Fla) : UInt8 := UInt8.ofNat (F.torn % 256).toNat

/-- One step: is it done whole? -/
def step (F : Fla) : Fla :=
  let l := wrap64 (F.left - 1)
  { F with steps := wrap64 (F.steps + 1), left := l, down := F.down || (F.fused && decide (l < 0)) }

def setB (F : Fla) (i : Nat) (x : UInt8) : Fla := { F with b := F.b.set i x }

def at_ (F : Fla) (i : Nat) : UInt8 := F.b.getD i 0

/-- Why bytes cannot be reached. -/
def ready (F : Fla) (at_ n : Int) : Int := if F.down then 11 else if n < 0 ∨ n > 3584 ∨ at_ < 0 ∨ at_ > 3584 - n then 1 else 0

/-- Program, past the checks. -/
def prog (F : Fla) (at_ : Nat) : List UInt8 → Fla × Int
  | [] => (F, 0)
  | x :: xs =>
    if F.step.down then (F.step.setB at_ (F.at_ at_ &&& (x ||| F.tornB)), 11)
    else (F.step.setB at_ (F.at_ at_ &&& x)).prog (at_ + 1) xs

def fill (F : Fla) (o n : Nat) : Fla := { F with b := F.b.take o ++ List.replicate n 255 ++ F.b.drop (o + n) }

def read (F : Fla) (at_ n : Int) : List UInt8 × Int :=
  if F.ready at_ n ≠ 0 then ([], F.ready at_ n) else ((F.b.drop at_.toNat).take n.toNat, 0)

def start (F : Fla) : Fla := { F with down := false, fused := F.fused && decide (0 ≤ F.left) }
def new (wear : Int) : Fla := { b := blankAll, er := List.replicate 14 0, wear := max 1 (min wear 10000), down := false, fused := false, left := 0, torn := 0, steps := 0 }

end Fla

/-- A flash in memory: its struct in block p, its bytes in block q. -/
structure FlaAt (w : World) (p q : Nat) (F : Fla) : Prop where
  er : F.er.length = 14
  len : F.b.length = 3584
  own : Blk w p 136 (F.cells q)
  bytes : ∃ r, Blk w q 5 (F.b.map B8 ++ r)

namespace FlaAt
variable {w : World} {p q : Nat} {F : Fla}

theorem cell (h : FlaAt w p q F) {i : Nat} {v : Value} (hv : (F.cells q)[i]? = some v) : w.cell? ⟨p, i, none⟩ = some v := h.own.cell' hv
theorem frz (h : FlaAt w p q F) (i : Nat) : w.frozen? ⟨p, i, none⟩ = false := h.own.frozen i
theorem c0 (h : FlaAt w p q F) : w.cell? ⟨p, 0, none⟩ = some (.slice (some ⟨q, 0, none⟩) 3584 3584) := h.cell rfl
theorem tailC (h : FlaAt w p q F) (k : Nat) (v : Value) (hv : [.int .i64 F.wear, .bool F.down, .bool F.fused, .int .i64 F.left, .int .i64 F.torn, .int .i64 F.steps][k]? = some v) : w.cell? ⟨p, 15 + k, none⟩ = some v := by
  refine h.cell ?_
  unfold Fla.cells
  rw [show 15 + k = (14 + k) + 1 from by omega, List.getElem?_cons_succ, List.getElem?_append_right (by simp [h.er])]
  simp only [List.length_map, h.er]
  rw [show 14 + k - 14 = k from by omega]
  exact hv
theorem wear (h : FlaAt w p q F) : w.cell? ⟨p, 15, none⟩ = some (.int .i64 F.wear) := h.tailC 0 _ rfl
theorem down (h : FlaAt w p q F) : w.cell? ⟨p, 16, none⟩ = some (.bool F.down) := h.tailC 1 _ rfl
theorem fused (h : FlaAt w p q F) : w.cell? ⟨p, 17, none⟩ = some (.bool F.fused) := h.tailC 2 _ rfl
theorem left (h : FlaAt w p q F) : w.cell? ⟨p, 18, none⟩ = some (.int .i64 F.left) := h.tailC 3 _ rfl
theorem torn (h : FlaAt w p q F) : w.cell? ⟨p, 19, none⟩ = some (.int .i64 F.torn) := h.tailC 4 _ rfl
theorem steps (h : FlaAt w p q F) : w.cell? ⟨p, 20, none⟩ = some (.int .i64 F.steps) := h.tailC 5 _ rfl
theorem byte (h : FlaAt w p q F) {i : Nat} (hi : i < 3584) : w.cell? ⟨q, i, none⟩ = some (B8 (F.at_ i)) := by
  obtain ⟨r, hr⟩ := h.bytes
  refine hr.cell' ?_
  rw [List.getElem?_append_left (by simp [h.len]; exact hi)]
  simp [Fla.at_, List.getD, h.len, hi]
theorem ne (h : FlaAt w p q F) : p ≠ q := by obtain ⟨r, hr⟩ := h.bytes; exact h.own.ne hr (by decide)
theorem ltp (h : FlaAt w p q F) : p < w.heap.size := h.own.lt
theorem keeps {S : List Nat} {w' : World} (h : FlaAt w p q F) (k : Keeps S w w') (hp : p ∉ S) (hq : q ∉ S) : FlaAt w' p q F :=
  ⟨h.er, h.len, h.own.keeps k hp, by obtain ⟨r, hr⟩ := h.bytes; exact ⟨r, hr.keeps k hq⟩⟩
theorem drew (h : FlaAt w p q F) : FlaAt w.drew p q F := ⟨h.er, h.len, h.own.drew, h.bytes⟩

theorem alloc (h : FlaAt w p q F) (o : Obj) : FlaAt (w.alloc o) p q F := h.keeps ((Keeps.refl [] w).alloc o) (by simp) (by simp)

theorem drewN (h : FlaAt w p q F) (n : Nat) : FlaAt (w.drewN n) p q F := ⟨h.er, h.len, h.own.drewN n, h.bytes⟩

end FlaAt

end Go.Proofs.YtijhaeapoapgfaaGreatDoor

namespace Go.Proofs.YtijhaeapoapgfaaGreatDoor
open Go.RowKit

/-- The number of the first four bytes, the greatest first. -/
def be32 (a b c d : UInt8) : UInt32 := (a.toUInt32 <<< 24) ||| (b.toUInt32 <<< 16) ||| (c.toUInt32 <<< 8) ||| d.toUInt32
def num4 (l : List UInt8) : UInt32 := be32 (l.getD 0 0) (l.getD 1 0) (l.getD 2 0) (l.getD 3 0)

/-- How many bytes a copy says it has. -/
def cpLen (s : List UInt8) : Nat := (s.getD 4 0).toNat * 256 + (s.getD 5 0).toNat

/-- A sector's copy, if it is whole. -/
def cellCopy (s : List UInt8) : Option (UInt32 × List UInt8) :=
  if cpLen s > 245 then none
  else if s.getD (10 + cpLen s) 0 ≠ 0 then none
  else (crcRight (s.take (10 + cpLen s))).map fun x => (num4 s, x.drop 6)

namespace Fla
def sec (F : Fla) (k : Nat) : List UInt8 := (F.b.drop (k * 256)).take 256

def whole (F : Fla) (k : Nat) : Option (UInt32 × List UInt8) := if F.down then none else cellCopy (F.sec k)

end Fla

end Go.Proofs.YtijhaeapoapgfaaGreatDoor

set_option linter.unusedVariables false
set_option linter.unusedSimpArgs false
namespace Go.Proofs.YtijhaeapoapgfaaGreatDoor
open Go.RowKit

def mixU (x : UInt32) : UInt32 :=
  let a := (x ^^^ (x >>> 16)) * 2146121005
  let b := (a ^^^ (a >>> 15)) * 2221713035
  b ^^^ (b >>> 16)

def rseed (a b : UInt32) : UInt32 := mixU a + b * 2654435769 + 1

/-- The state's next one. -/
def rstep (s : UInt32) : UInt32 :=
  let x := if s = 0 then 1 else s
  let a := x ^^^ (x <<< 13)
  let b := a ^^^ (a >>> 17)
  b ^^^ (b <<< 5)

def rnext (s : UInt32) : UInt32 := mixU (rstep s)

/-- A number below m. -/
def rlow (s : UInt32) (m : Nat) : Nat := (rnext s).toNat * m / 4294967296

theorem rlow_lt (s : UInt32) {m : Nat} (hm : 1 ≤ m) : rlow s m < m := by
  unfold rlow
  have h := (rnext s).toNat_lt
  generalize (rnext s).toNat = v at *
  have : v * m < 4294967296 * m := Nat.mul_lt_mul_of_pos_right h (by omega)
  rw [Nat.div_lt_iff_lt_mul (by omega), Nat.mul_comm m]
  exact this

def rbelow (s : UInt32) (n : Int) : Int × UInt32 := if n < 1 ∨ 2147483648 < n then (0, s) else ((rlow s n.toNat : Nat), rstep s)

def swapAt (l : List Nat) (i j : Nat) : List Nat := (l.set i (l.getD j 0)).set j (l.getD i 0)

theorem swapAt_len (l : List Nat) (i j : Nat) : (swapAt l i j).length = l.length := by unfold swapAt; simp

theorem swapAt_perm {l : List Nat} {i j : Nat} (hi : i < l.length) (hj : j < l.length) : List.Perm (swapAt l i j) l := by
  have h := List.set_set_perm hi hj
  unfold swapAt
  rwa [List.getD, List.getD, List.getElem?_eq_getElem hi, List.getElem?_eq_getElem hj]

def stepN : Nat → UInt32 → UInt32
  | 0, s => s
  | n + 1, s => stepN n (rstep s)

/-- m places more, from place i on. -/
def someLoop (n : Nat) : Nat → Nat → UInt32 → List Nat → List Nat
  | 0, _, _, l => l
  | m + 1, i, s, l => someLoop n m (i + 1) (rstep s) (swapAt l i (i + rlow s (n - i)))

theorem someLoop_perm (n : Nat) : ∀ (m i : Nat) (s : UInt32) (l : List Nat), l.length = n → i + m ≤ n → List.Perm (someLoop n m i s l) l := by
  intro m
  induction m with
  | zero => intro i s l _ _; exact List.Perm.refl _
  | succ m ih =>
    intro i s l hl him
    have h := rlow_lt s (m := n - i) (by omega)
    exact (ih _ _ _ (by rw [swapAt_len, hl]) (by omega)).trans (swapAt_perm (by omega) (by omega))

/-- How many are asked for. -/
def clampK (n k : Int) : Nat := (max 0 (min k n)).toNat

def rsome (s : UInt32) (n k : Int) : List Nat :=
  if n < 1 ∨ 256 < n then [] else ((someLoop n.toNat (clampK n k) 0 s (List.range n.toNat)).take (clampK n k)).mergeSort
def rsomeSt (s : UInt32) (n k : Int) : UInt32 := if n < 1 ∨ 256 < n then s else stepN (clampK n k) s

/-- Different ones, rising, each below n. -/
def Rising (l : List Nat) (n : Nat) : Prop := l.Pairwise (· < ·) ∧ ∀ x ∈ l, x < n

theorem sorted_rising {l : List Nat} {n : Nat} (hn : l.Nodup) (hb : ∀ x ∈ l, x < n) : Rising l.mergeSort n := by
  refine ⟨?_, fun x hx => hb x ((List.mergeSort_perm l _).mem_iff.1 hx)⟩
  have h1 : l.mergeSort.Pairwise (fun a b => decide (a ≤ b) = true) := List.pairwise_mergeSort (by intro a b c; simp; omega) (by intro a b; simp; omega) l
  have h2 : l.mergeSort.Nodup := (List.mergeSort_perm l _).nodup_iff.2 hn
  have h3 := h1.and h2
  exact h3.imp (fun {a b} h => by simp at h; omega)

theorem some_props (s : UInt32) (n k : Int) (h1 : 1 ≤ n) (h2 : n ≤ 256) : (rsome s n k).length = clampK n k ∧ Rising (rsome s n k) n.toNat := by
  have hk : clampK n k ≤ n.toNat := by unfold clampK; omega
  unfold rsome
  rw [if_neg (by omega)]
  have hp := someLoop_perm n.toNat (clampK n k) 0 s (List.range n.toNat) List.length_range (by omega)
  generalize someLoop n.toNat (clampK n k) 0 s (List.range n.toNat) = L at *
  have hl : L.length = n.toNat := by rw [hp.length_eq, List.length_range]
  refine ⟨by rw [(List.mergeSort_perm _ _).length_eq, List.length_take]; omega, ?_⟩
  have hnd : L.Nodup := hp.nodup_iff.2 List.nodup_range
  exact sorted_rising (hnd.sublist (List.take_sublist _ _)) (fun x hx => List.mem_range.1 (hp.mem_iff.1 (List.mem_of_mem_take hx)))

end Go.Proofs.YtijhaeapoapgfaaGreatDoor
