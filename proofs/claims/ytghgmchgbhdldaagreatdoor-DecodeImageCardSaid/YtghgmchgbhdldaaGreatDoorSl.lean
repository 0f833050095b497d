/-
  Sl: slices of bytes that lie in blocks from a number on: their own, or a part of one.
-/
import Derived.Test.YtghgmchgbhdldaaGreatDoorBytes
namespace Go.Proofs.YtghgmchgbhdldaaGreatDoor
open Go.RowKit

/-- A slice value that reads as the bytes l; what it reads lies in blocks from B on. -/
def Sl (w : World) (B : Nat) (v : Value) (l : List UInt8) : Prop :=
  ∃ a c, v = .slice a l.length c ∧ l.length ≤ c ∧ c ≤ 9223372036854775807 ∧ Rd w a l ∧ (a = none → l = [] ∧ c = 0) ∧ (∀ x, a = some x → l ≠ [] → B ≤ x.block ∧ x.block < w.heap.size)

theorem Own.cap {w : World} {B : Nat} {v : Value} {l : List UInt8} (h : Own w B v l) :
    ∃ a c, v = .slice a l.length c ∧ l.length ≤ c ∧ c ≤ 9223372036854775807 ∧ (a = none → l = [] ∧ c = 0) := by
  rcases h.2 with ⟨rfl, h0⟩ | ⟨g, cap, cur, rfl, hb, hg, hn, hm, hs, ht⟩
  · exact ⟨none, 0, by rw [h0], by omega, by omega, fun _ => ⟨List.length_eq_zero_iff.1 h0, rfl⟩⟩
  · exact ⟨_, cap, rfl, hn, hm, by simp⟩

theorem Own.sl {w : World} {B : Nat} {v : Value} {l : List UInt8} (h : Own w B v l) : Sl w B v l := by
  obtain ⟨a, c, rfl, h1, h2, h3⟩ := h.cap
  obtain ⟨a', c', he, _, hr, hb, _, _⟩ := h.rd
  simp only [Value.slice.injEq] at he
  obtain ⟨rfl, _, rfl⟩ := he
  exact ⟨a, c, rfl, h1, h2, hr, h3, fun x hx _ => ⟨(hb x hx).1, (hb x hx).2.1⟩⟩

theorem Own.rowc {w : World} {B : Nat} {v : Value} {l : List UInt8} (h : Own w B v l) (hne : l ≠ []) :
    ∃ g c r, v = .slice (some ⟨g, 0, none⟩) l.length c ∧ l.length ≤ c ∧ c ≤ 9223372036854775807 ∧ B ≤ g ∧ g < w.heap.size ∧ Blk w g 5 (l.map B8 ++ r) := by
  obtain ⟨g, c, r, rfl, h1, h2, h3, h4⟩ := h.row hne
  obtain ⟨a', c', he, _, hm, _⟩ := h.cap
  simp only [Value.slice.injEq] at he
  obtain ⟨_, _, rfl⟩ := he
  exact ⟨g, c, r, rfl, h1, hm, h2, h3, h4⟩

theorem Sl.nil (w : World) (B : Nat) : Sl w B (.slice none 0 0) [] := (Own.nil w B).sl

theorem Sl.mono {w : World} {B B' : Nat} {v : Value} {l : List UInt8} (h : Sl w B v l) (hB : B' ≤ B) : Sl w B' v l := by
  obtain ⟨a, c, rfl, h1, h2, h3, h4, h5⟩ := h
  exact ⟨a, c, rfl, h1, h2, h3, h4, fun x hx hl => ⟨by have := (h5 x hx hl).1; omega, (h5 x hx hl).2⟩⟩

theorem Sl.keeps {S : List Nat} {w w' : World} {B : Nat} {v : Value} {l : List UInt8} (h : Sl w B v l) (k : Keeps S w w') (hS : ∀ x, x ∈ S → x < B) : Sl w' B v l := by
  obtain ⟨a, c, rfl, h1, h2, h3, h4, h5⟩ := h
  refine ⟨a, c, rfl, h1, h2, h3.keeps k (fun x hx hl hm => ?_), h4, fun x hx hl => ⟨(h5 x hx hl).1, Nat.lt_of_lt_of_le (h5 x hx hl).2 k.size⟩⟩
  have := hS _ hm
  have := (h5 x hx hl).1
  omega

/-- string(v) -/
theorem Sl.str {w : World} {B : Nat} {v : Value} {l : List UInt8} (h : Sl w B v l) : (convert 28 9 v).run Tryz.prog w = .ok (.string ⟨l.toArray⟩) w := by
  obtain ⟨a, c, rfl, h1, h2, h3, h4, h5⟩ := h
  exact str_run _ c h3 rfl (fun h => (h4 h).1)

/-- v[k:] -/
theorem Rd.cut {w : World} {b : Nat} {l : List UInt8} (h : Rd w (some ⟨b, 0, none⟩) l) (k : Nat) : Rd w (some ⟨b, k, none⟩) (l.drop k) := by
  have := h.drop k
  rwa [Nat.zero_add] at this

end Go.Proofs.YtghgmchgbhdldaaGreatDoor
