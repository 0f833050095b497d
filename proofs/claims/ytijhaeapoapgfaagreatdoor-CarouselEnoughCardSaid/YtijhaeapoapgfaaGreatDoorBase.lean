/-
  Base: worlds that keep what was there, blocks known whole, slices that read as bytes. Nothing here names a program.
-/
import Derived.WalkKit
import Derived.WalkSpells
import Derived.WalkLawsBesides
import Derived.Lib.Hide
import Derived.Deep.Draws
namespace Go.Proofs.YtijhaeapoapgfaaGreatDoor
open Go.RowKit

/-- What was there is as it was, but for the blocks in S. -/
structure Keeps (S : List Nat) (w w' : World) : Prop where
  os : w'.os = w.os
  tape : w'.tape = w.tape
  output : w'.output = w.output
  size : w.heap.size ≤ w'.heap.size
  block : ∀ k, k < w.heap.size → k ∉ S → w'.heap[k]? = w.heap[k]?

theorem Keeps.refl (S : List Nat) (w : World) : Keeps S w w := ⟨rfl, rfl, rfl, Nat.le_refl _, fun _ _ _ => rfl⟩

theorem Keeps.trans' {S S' T : List Nat} {a b c : World} (h : Keeps S a b) (k : Keeps S' b c)
    (h1 : ∀ x, x ∈ S → x ∈ T ∨ a.heap.size ≤ x) (h2 : ∀ x, x ∈ S' → x ∈ T ∨ a.heap.size ≤ x) : Keeps T a c :=
  ⟨k.os.trans h.os, k.tape.trans h.tape, k.output.trans h.output, Nat.le_trans h.size k.size, fun i hi hT => by
    have e1 : i ∉ S := fun hS => by rcases h1 i hS with h | h <;> first | exact hT h | omega
    have e2 : i ∉ S' := fun hS => by rcases h2 i hS with h | h <;> first | exact hT h | omega
    exact (k.block i (Nat.lt_of_lt_of_le hi h.size) e2).trans (h.block i hi e1)⟩

theorem Keeps.trans {S : List Nat} {a b c : World} (h : Keeps S a b) (k : Keeps S b c) : Keeps S a c :=
  h.trans' k (fun _ h => .inl h) (fun _ h => .inl h)

theorem Keeps.mono {S T : List Nat} {a b : World} (h : Keeps S a b) (hs : ∀ x, x ∈ S → x ∈ T ∨ a.heap.size ≤ x) : Keeps T a b :=
  h.trans' (Keeps.refl T b) hs (fun _ h => .inl h)

theorem Keeps.nil {S : List Nat} {a b : World} (h : Keeps [] a b) : Keeps S a b := h.mono (by simp)

theorem Keeps.drew {S : List Nat} {a w : World} (h : Keeps S a w) : Keeps S a w.drew := ⟨h.os, h.tape, h.output, h.size, h.block⟩

theorem Keeps.drewN {S : List Nat} {a w : World} (h : Keeps S a w) (n : Nat) : Keeps S a (w.drewN n) := ⟨h.os, h.tape, h.output, h.size, h.block⟩

theorem Keeps.alloc {S : List Nat} {a w : World} (h : Keeps S a w) (o : Obj) : Keeps S a (w.alloc o) :=
  h.trans ⟨rfl, rfl, rfl, by simp, fun k hk _ => Below.heap_alloc _ _ _ (by omega)⟩

theorem Keeps.setCell {S : List Nat} {a w : World} (h : Keeps S a w) {p : Addr} (hp : p.block ∈ S ∨ a.heap.size ≤ p.block) (u : Value) : Keeps S a (w.setCell p u) := by
  refine ⟨h.os, h.tape, h.output, by simp [World.setCell]; exact h.size, fun k hk hS => ?_⟩
  have hne : k ≠ p.block := by
    rintro rfl
    rcases hp with h | h
    · exact hS h
    · omega
  rw [Below.heap_setCell _ _ _ _ hne]
  exact h.block k hk hS

theorem Keeps.grown {S : List Nat} {a w w' : World} {row : Option Nat} (h : Keeps S a w) (hg : w.grownBy w' row) (hr : ∀ k, row = some k → k ∈ S ∨ a.heap.size ≤ k) : Keeps S a w' :=
  h.trans' ⟨hg.os, hg.tape, hg.output, hg.size, fun k hk hS => hg.block k hk (by rintro e; exact hS (by simpa using e.symm))⟩ (S' := row.toList) (fun _ h => .inl h)
    (by intro x hx; exact hr x (by simpa using hx))

theorem Keeps.below {S : List Nat} {a b : World} (h : Keeps S a b) {B : Nat} (hB : B ≤ a.heap.size) (hs : ∀ x, x ∈ S → B ≤ x) : Below B a b :=
  ⟨h.os, h.tape, h.output, h.size, fun k hk => h.block k (by omega) (fun hS => by have := hs k hS; omega)⟩

theorem Keeps.of_below {a b : World} (h : Below a.heap.size a b) : Keeps [] a b :=
  ⟨h.os, h.tape, h.output, h.size, fun k hk _ => h.block k hk⟩

/-- A block known whole: its cells, as a list; none of them frozen. -/
def Blk (w : World) (p : Nat) (t : TypeId) (l : List Value) : Prop := w.heap[p]? = some (.cells l.toArray t (0, 0))

theorem Blk.lt {w : World} {p : Nat} {t : TypeId} {l : List Value} (h : Blk w p t l) : p < w.heap.size := (Array.getElem?_eq_some_iff.1 h).1

theorem Blk.cell {w : World} {p : Nat} {t : TypeId} {l : List Value} (h : Blk w p t l) (i : Nat) : w.cell? ⟨p, i, none⟩ = l[i]? := by
  unfold Blk at h
  simp [World.cell?, h]

theorem Blk.cell' {w : World} {p : Nat} {t : TypeId} {l : List Value} (h : Blk w p t l) {i : Nat} {v : Value} (hv : l[i]? = some v) : w.cell? ⟨p, i, none⟩ = some v := (h.cell i).trans hv

theorem Blk.frozen {w : World} {p : Nat} {t : TypeId} {l : List Value} (h : Blk w p t l) (i : Nat) : w.frozen? ⟨p, i, none⟩ = false := by
  unfold Blk at h
  simp [World.frozen?, h]

theorem Blk.keeps {S : List Nat} {w w' : World} {p : Nat} {t : TypeId} {l : List Value} (h : Blk w p t l) (k : Keeps S w w') (hp : p ∉ S) : Blk w' p t l := (k.block p h.lt hp).trans h

theorem Blk.drew {w : World} {p : Nat} {t : TypeId} {l : List Value} (h : Blk w p t l) : Blk w.drew p t l := h

theorem Blk.drewN {w : World} {p : Nat} {t : TypeId} {l : List Value} (h : Blk w p t l) (n : Nat) : Blk (w.drewN n) p t l := h

theorem Blk.alloc {w : World} {p : Nat} {t : TypeId} {l : List Value} (h : Blk w p t l) (o : Obj) : Blk (w.alloc o) p t l :=
  (Below.heap_alloc w o p h.lt).trans h

theorem Blk.new (w : World) (t : TypeId) (l : List Value) : Blk (w.alloc (.cells l.toArray t)) w.heap.size t l := by
  show (w.heap.push _)[w.heap.size]? = _
  simp

theorem Blk.newA (w : World) (t : TypeId) (c : Array Value) : Blk (w.alloc (.cells c t)) w.heap.size t c.toList := by
  show (w.heap.push _)[w.heap.size]? = _
  simp

theorem Blk.set {w : World} {p : Nat} {t : TypeId} {l : List Value} (h : Blk w p t l) (i : Nat) (v : Value) : Blk (w.setCell ⟨p, i, none⟩ v) p t (l.set i v) := by
  unfold Blk at *
  simp only [World.setCell, Array.getElem?_modify, ↓reduceIte, h, Option.map_some]
  simp

theorem Blk.setOther {w : World} {p : Nat} {t : TypeId} {l : List Value} (h : Blk w p t l) {a : Addr} (v : Value) (ha : p ≠ a.block) : Blk (w.setCell a v) p t l :=
  (Below.heap_setCell w a v p ha).trans h

theorem Blk.ne {w : World} {p q : Nat} {t u : TypeId} {l m : List Value} (h : Blk w p t l) (k : Blk w q u m) (ht : t ≠ u) : p ≠ q := by
  rintro rfl
  unfold Blk at *
  rw [h] at k
  simp at k
  exact ht k.2

/-- A byte as a value. -/
abbrev B8 (x : UInt8) : Value := .int .u8 x.toNat

/-- A slice's address reads as these bytes. -/
def Rd (w : World) (a : Option Addr) (l : List UInt8) : Prop :=
  ∀ i u, l[i]? = some u → ∃ b o, a = some ⟨b, o, none⟩ ∧ w.cell? ⟨b, o + i, none⟩ = some (B8 u)

theorem Rd.nil (w : World) (a : Option Addr) : Rd w a [] := by intro i u h; simp at h

theorem Rd.keeps {S : List Nat} {w w' : World} {a : Option Addr} {l : List UInt8} (h : Rd w a l) (k : Keeps S w w') (ha : ∀ x, a = some x → l ≠ [] → x.block ∉ S) : Rd w' a l := by
  intro i u hu
  have hne : l ≠ [] := by rintro rfl; simp at hu
  obtain ⟨b, o, rfl, hc⟩ := h i u hu
  exact ⟨b, o, rfl, (World.cell?_of_block (a := ⟨b, o + i, none⟩) (k.block b (World.block_lt_of_cell? w _ hc) (ha _ rfl hne))).trans hc⟩

theorem Rd.lt {w : World} {a : Option Addr} {l : List UInt8} (h : Rd w a l) : ∀ x, a = some x → l ≠ [] → x.block < w.heap.size := by
  rintro x rfl hne
  obtain ⟨u, us, rfl⟩ := List.exists_cons_of_ne_nil hne
  obtain ⟨b, o, hx, hc⟩ := h 0 u rfl
  simp only [Option.some.injEq] at hx
  subst hx
  exact World.block_lt_of_cell? w _ hc

/-- A slice that reads is nil only where it is empty; its block is none of S. -/
theorem Rd.keepsNil {w w' : World} {a : Option Addr} {l : List UInt8} (h : Rd w a l) (k : Keeps [] w w') : Rd w' a l := h.keeps k (by simp)

theorem Rd.take {w : World} {a : Option Addr} {l : List UInt8} (h : Rd w a l) (n : Nat) : Rd w a (l.take n) := by
  intro i u hu
  rw [List.getElem?_take] at hu
  split at hu
  · exact h i u hu
  · simp at hu

theorem Rd.drop {w : World} {b o : Nat} {l : List UInt8} (h : Rd w (some ⟨b, o, none⟩) l) (n : Nat) : Rd w (some ⟨b, o + n, none⟩) (l.drop n) := by
  intro i u hu
  rw [List.getElem?_drop] at hu
  obtain ⟨b', o', hx, hc⟩ := h _ u hu
  simp only [Option.some.injEq, Addr.mk.injEq] at hx
  obtain ⟨rfl, rfl, -⟩ := hx
  exact ⟨b, o + n, rfl, by rw [Nat.add_assoc]; exact hc⟩

theorem Rd.dropMap {w : World} {a : Option Addr} {l : List UInt8} (h : Rd w a l) (n : Nat) : Rd w (a.map fun x => ⟨x.block, x.off + n, none⟩) (l.drop n) := by
  intro i u hu
  rw [List.getElem?_drop] at hu
  obtain ⟨b', o', rfl, hc⟩ := h _ u hu
  exact ⟨b', o' + n, rfl, by rw [Nat.add_assoc]; exact hc⟩

theorem Addr.add_block (x : Addr) (n : Nat) : (x.add n).block = x.block := by unfold Addr.add; split <;> rfl

theorem Rd.dropAdd {w : World} {a : Option Addr} {l : List UInt8} (h : Rd w a l) (n : Nat) : Rd w (a.map fun x => x.add n) (l.drop n) := by
  intro i u hu
  rw [List.getElem?_drop] at hu
  obtain ⟨b', o', rfl, hc⟩ := h _ u hu
  exact ⟨b', o' + n, by rw [Option.map_some, Addr.add_lit], by rw [Nat.add_assoc]; exact hc⟩

theorem Rd.blk {w : World} {p : Nat} {t : TypeId} {vs : List Value} (h : Blk w p t vs) (o : Nat) (l : List UInt8) (hl : ∀ i u, l[i]? = some u → vs[o + i]? = some (B8 u)) : Rd w (some ⟨p, o, none⟩) l := by
  intro i u hu
  exact ⟨p, o, rfl, h.cell' (hl i u hu)⟩

theorem umod (a m : Int) (hm : 0 < m) (hm2 : m < 4611686018427387904) : ∃ n : Nat, (n : Int) < m ∧ wrap64 ((IntKind.u64.wrap a).tmod m) = n ∧ (IntKind.u64.wrap a).tmod m = n := by
  have h0 : 0 ≤ IntKind.u64.wrap a := by simp [IntKind.wrap, IntKind.bits, IntKind.signed]; omega
  have h1 : (IntKind.u64.wrap a).tmod m = IntKind.u64.wrap a % m := Int.tmod_eq_emod_of_nonneg h0
  have h2 := Int.emod_nonneg (IntKind.u64.wrap a) (show m ≠ 0 by omega)
  have h3 := Int.emod_lt_of_pos (IntKind.u64.wrap a) hm
  refine ⟨(IntKind.u64.wrap a % m).toNat, by omega, ?_, ?_⟩
  · rw [h1, IntWalk.wrap64_in _ (by omega)]; omega
  · rw [h1]; omega

/-- A law's end: true, and what was there is as it was. -/
def TrueKeep (w : World) (e : Ending) (w' : World) : Prop := e = .returned (.bool true) ∧ Keeps [] w w'

theorem Rd.lit (w : World) (t : TypeId) (c : Array Value) (l : List UInt8) (hc : c.toList = l.map B8) : Rd (w.alloc (.cells c t)) (some ⟨w.heap.size, 0, none⟩) l := by
  refine Rd.blk (Blk.newA w t c) 0 l ?_
  intro i u hu
  rw [hc, Nat.zero_add, List.getElem?_map, hu]
  rfl

end Go.Proofs.YtijhaeapoapgfaaGreatDoor
