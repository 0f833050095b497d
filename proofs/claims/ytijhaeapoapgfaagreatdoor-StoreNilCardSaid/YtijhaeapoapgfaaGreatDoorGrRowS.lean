/-
  GrRowS: the texts RowS, one behind another.
-/
import Derived.Test.YtijhaeapoapgfaaGreatDoorGrRowB
import Derived.Deep.Slices
import Derived.Lib.SmallJoins
set_option linter.unusedVariables false
namespace Go.Proofs.YtijhaeapoapgfaaGreatDoor
open Go.ChangeShapes Go.WideShapes Go.ChangeAt Go.RowKit Go.Deep Go.Joins

/-- A slice of structs, each of k cells, reads as the list l. -/
def RowsAt {C : Type} (cells : C → List Value) (ok : World → C → Prop) (k : Nat) (w : World) (a : Option Addr) (l : List C) : Prop :=
  ∀ i c, l[i]? = some c → ok w c ∧ ∃ b o, a = some ⟨b, o, none⟩ ∧ ∀ j v, (cells c)[j]? = some v → w.cell? ⟨b, o + i * k + j, none⟩ = some v

theorem below_rd {w w' : World} {a : Option Addr} {l : List UInt8} (k : Below w.heap.size w w') (h : Rd w a l) : Rd w' a l := by
  intro i u hu
  obtain ⟨b, o, rfl, hc⟩ := h i u hu
  exact ⟨b, o, rfl, (k.cell (p := ⟨b, o + i, none⟩) (World.block_lt_of_cell? w _ hc)).trans hc⟩

theorem RowsAt.below {C : Type} {cells : C → List Value} {ok : World → C → Prop} {k : Nat} {w w' : World} {a : Option Addr} {l : List C} (h : RowsAt cells ok k w a l) (hb : Below w.heap.size w w')
    (hok : ∀ c, ok w c → ok w' c) : RowsAt cells ok k w' a l := by
  intro i c hc
  obtain ⟨h1, b, o, rfl, hj⟩ := h i c hc
  exact ⟨hok c h1, b, o, rfl, fun j v hv => (hb.cell (p := ⟨b, o + i * k + j, none⟩) (World.block_lt_of_cell? w _ (hj j v hv))).trans (hj j v hv)⟩

/-- Bytes within a struct that came in. -/
structure BS where
  A : Option Addr
  cap : Nat
  b : List UInt8

def BS.val (s : BS) : Value := .slice s.A s.b.length s.cap
structure BS.ok (w : World) (s : BS) : Prop where
  le : s.b.length ≤ s.cap
  max : s.cap ≤ maxLen
  rd : Rd w s.A s.b
  nil : s.A = none → s.b = []
  nil0 : s.A = none → s.cap = 0

theorem BS.ok.below {w w' : World} {s : BS} (h : s.ok w) (hb : Below w.heap.size w w') : s.ok w' := ⟨h.le, h.max, below_rd hb h.rd, h.nil, h.nil0⟩

set_option maxRecDepth 100000 in
theorem open_bs {H : Type} {enc : TypeId × Value → H} {W : World} {fuel : Nat} {cs : List Value} {x : DataW H × List MemPlace}
    (h : DataW.trod enc Tryz.prog W 0 (fun _ => true) true fuel 22 cs = some x) : ∃ s : BS, cs = [s.val] ∧ s.ok W := by
  rcases open_ints Tryz.underlying22 Tryz.underlying5 (by kernel_rfl) h with ⟨hcs, _⟩ | ⟨x, l, c, zs, hcs, _, hl, hm, hz, _, hcell, hwz⟩
  · exact ⟨⟨none, 0, []⟩, hcs, ⟨by simp, by simp, Rd.nil _ _, fun _ => rfl, fun _ => rfl⟩⟩
  · simp only [↓reduceIte] at hz
    have hlen : ((zs.take l).map (fun z => UInt8.ofNat z.toNat)).length = l := by rw [List.length_map, List.length_take]; omega
    refine ⟨⟨some x, c, (zs.take l).map (fun z => UInt8.ofNat z.toNat)⟩, by rw [hcs]; unfold BS.val; simp only [hlen], ⟨by simp only [hlen]; omega, hm, ?_, by simp, by simp⟩⟩
    intro i u hu
    simp only at hu
    have hi : i < l := by
      have := (List.getElem?_eq_some_iff.1 hu).1
      omega
    obtain ⟨b, o, rfl, hc⟩ := ints_at hcell (by omega)
    refine ⟨b, o, rfl, ?_⟩
    rw [hc i (by omega)]
    rw [List.getElem?_map, List.getElem?_take, if_pos hi, List.getElem?_eq_getElem (by omega), Option.map_some, Option.some.injEq] at hu
    subst hu
    have hz0 : zs.getD i 0 = zs[i] := by simp [List.getD, List.getElem?_eq_getElem (show i < zs.length by omega)]
    rw [hz0]
    have hw := hwz zs[i] (List.getElem_mem _)
    have hb : 0 ≤ zs[i] ∧ zs[i] ≤ 255 := by simpa [Lit.wf, IntKind.has, IntKind.min, IntKind.max, IntKind.signed, IntKind.bits] using hw
    show some (Value.int .u8 zs[i]) = some (.int .u8 ((UInt8.ofNat zs[i].toNat).toNat : Int))
    rw [UInt8.toNat_ofNat']
    congr 2
    omega

theorem open_int1 {H : Type} {enc : TypeId × Value → H} {W : World} {fuel : Nat} {cs : List Value} {x : DataW H × List MemPlace} {t : TypeId} {k : IntKind} (ht : Tryz.prog.underlying t = some (.int k))
    (h : DataW.trod enc Tryz.prog W 0 (fun _ => true) true fuel t cs = some x) : ∃ n : Int, cs = [.int k n] ∧ (Lit.int k n).wf = true := by
  obtain ⟨n, rfl, _, hw⟩ := DataW.trod_int ht h
  exact ⟨n, rfl, hw⟩

/-- A call: three numbers, and bytes. -/
structure C16 where
  d : Int
  a : Int
  n : Int
  s : BS

def C16.cells (c : C16) : List Value := [.int .i64 c.d, .int .i64 c.a, .int .i64 c.n, c.s.val]
structure C16.ok (w : World) (c : C16) : Prop where
  d : (Lit.int .i64 c.d).wf = true
  a : (Lit.int .i64 c.a).wf = true
  n : (Lit.int .i64 c.n).wf = true
  s : c.s.ok w

theorem C16.ok.below {w w' : World} {c : C16} (h : c.ok w) (hb : Below w.heap.size w w') : c.ok w' := ⟨h.d, h.a, h.n, h.s.below hb⟩

abbrev CallsC := RowsAt C16.cells C16.ok 4
abbrev RowsB := RowsAt (fun s : BS => [s.val]) BS.ok 1

end Go.Proofs.YtijhaeapoapgfaaGreatDoor
