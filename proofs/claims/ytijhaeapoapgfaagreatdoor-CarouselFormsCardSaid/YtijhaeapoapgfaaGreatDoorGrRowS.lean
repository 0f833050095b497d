/-
  GrRowS: the texts RowS, one behind another.
-/
import Derived.Test.YtijhaeapoapgfaaGreatDoorGrRowB
import Derived.Deep.Slices
import Derived.Lib.SmallJoins
set_option linter.unusedVariables false
namespace Go.Proofs.YtijhaeapoapgfaaGreatDoor
open Go.ChangeShapes Go.WideShapes Go.ChangeAt Go.RowKit Go.Deep Go.Joins

/-- A slice of structs, each of k cells, reads as the list l. -/
def RowsAt {C : Type} (cells : C → List Value) (ok : World → C → Prop) (k : Nat) (w : World) (a : Option Addr) (l : List C) : Prop :=
  ∀ i c, l[i]? = some c → ok w c ∧ ∃ b o, a = some ⟨b, o, none⟩ ∧ ∀ j v, (cells c)[j]? = some v → w.cell? ⟨b, o + i * k + j, none⟩ = some v

theorem below_rd {w w' : World} {a : Option Addr} {l : List UInt8} (k : Below w.heap.size w w') (h : Rd w a l) : Rd w' a l := by
  intro i u hu
  obtain ⟨b, o, rfl, hc⟩ := h i u hu
  exact ⟨b, o, rfl, (k.cell (p := ⟨b, o + i, none⟩) (World.block_lt_of_cell? w _ hc)).trans hc⟩

theorem RowsAt.below {C : Type} {cells : C → List Value} {ok : World → C → Prop} {k : Nat} {w w' : World} {a : Option Addr} {l : List C} (h : RowsAt cells ok k w a l) (hb : Below w.heap.size w w')
    (hok : ∀ c, ok w c → ok w' c) : RowsAt cells ok k w' a l := by
  intro i c hc
  obtain ⟨h1, b, o, rfl, hj⟩ := h i c hc
  exact ⟨hok c h1, b, o, rfl, fun j v hv => (hb.cell (p := ⟨b, o + i * k + j, none⟩) (World.block_lt_of_cell? w _ (hj j v hv))).trans (hj j v hv)⟩

/-- Bytes within a struct that came in. -/
structure BS where
  A : Option Addr
  cap : Nat
  b : List UInt8

def BS.val (s : BS) : Value := .slice s.A s.b.length s.cap
structure BS.ok (w : World) (s : BS) : Prop where
  le : s.b.length ≤ s.cap
  max : s.cap ≤ maxLen
  rd : Rd w s.A s.b
  nil : s.A = none → s.b = []
  nil0 : s.A = none → s.cap = 0

theorem BS.ok.below {w w' : World} {s : BS} (h : s.ok w) (hb : Below w.heap.size w w') : s.ok w' := ⟨h.le, h.max, below_rd hb h.rd, h.nil, h.nil0⟩

/-- A call: three numbers, and bytes. -/
structure C16 where
  d : Int
  a : Int
  n : Int
  s : BS

def C16.cells (c : C16) : List Value := [.int .i64 c.d, .int .i64 c.a, .int .i64 c.n, c.s.val]
structure C16.ok (w : World) (c : C16) : Prop where
  d : (Lit.int .i64 c.d).wf = true
  a : (Lit.int .i64 c.a).wf = true
  n : (Lit.int .i64 c.n).wf = true
  s : c.s.ok w

theorem C16.ok.below {w w' : World} {c : C16} (h : c.ok w) (hb : Below w.heap.size w w') : c.ok w' := ⟨h.d, h.a, h.n, h.s.below hb⟩

end Go.Proofs.YtijhaeapoapgfaaGreatDoor
