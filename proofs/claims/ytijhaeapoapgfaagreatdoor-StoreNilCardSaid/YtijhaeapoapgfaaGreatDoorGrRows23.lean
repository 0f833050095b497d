/-
  GrRows23: the texts Rows23, one behind another.
-/
import Derived.Test.YtijhaeapoapgfaaGreatDoorGrRowS
import Derived.Test.YtijhaeapoapgfaaGreatDoorGrNumB
set_option linter.unusedVariables false
namespace Go.Proofs.YtijhaeapoapgfaaGreatDoor
open Go.ChangeShapes Go.WideShapes Go.ChangeAt Go.RowKit Go.Deep Go.Joins

/-- A call: three numbers, a record's number, and bytes. -/
structure C18 where
  d : Int
  n : Int
  t : Int
  id : UInt32
  s : BS

def C18.cells (c : C18) : List Value := [.int .i64 c.d, .int .i64 c.n, .int .i64 c.t, B32 c.id, c.s.val]
structure C18.ok (w : World) (c : C18) : Prop where
  d : (Lit.int .i64 c.d).wf = true
  n : (Lit.int .i64 c.n).wf = true
  t : (Lit.int .i64 c.t).wf = true
  s : c.s.ok w

theorem C18.ok.below {w w' : World} {c : C18} (h : c.ok w) (hb : Below w.heap.size w w') : c.ok w' := ⟨h.d, h.n, h.t, h.s.below hb⟩

abbrev Calls18 := RowsAt C18.cells C18.ok 5

section
variable {H : Type} {enc : TypeId × Value → H} {P : Program} {w : World} {base : Nat} {spare : Nat → Bool} {held : Bool}

theorem trod_struct5 {t : TypeId} {f0 f1 f2 f3 f4 : Field} {fuel : Nat} {cs : List Value} {x : DataW H × List MemPlace} (ht : P.underlying t = some (.struct #[f0, f1, f2, f3, f4])) (h : DataW.trod enc P w base spare held fuel t cs = some x) :
    ∃ y0 y1 y2 y3 y4 n, cs.length = P.cellsOf t ∧ DataW.trod enc P w base spare held n f0.type ((cs.drop f0.offset).take (P.cellsOf f0.type)) = some y0 ∧
      DataW.trod enc P w base spare held n f1.type ((cs.drop f1.offset).take (P.cellsOf f1.type)) = some y1 ∧ DataW.trod enc P w base spare held n f2.type ((cs.drop f2.offset).take (P.cellsOf f2.type)) = some y2 ∧
      DataW.trod enc P w base spare held n f3.type ((cs.drop f3.offset).take (P.cellsOf f3.type)) = some y3 ∧ DataW.trod enc P w base spare held n f4.type ((cs.drop f4.offset).take (P.cellsOf f4.type)) = some y4 := by
  obtain ⟨xs, n, _, rfl, hl, hlen, hf⟩ := DataW.trod_struct ht h
  match xs, hlen with
  | [y0, y1, y2, y3, y4], _ => exact ⟨y0, y1, y2, y3, y4, n, hl, by simpa using hf 0 f0 rfl, by simpa using hf 1 f1 rfl, by simpa using hf 2 f2 rfl, by simpa using hf 3 f3 rfl, by simpa using hf 4 f4 rfl⟩

theorem array5 {α : Type} {cs : Array α} (h : cs.size = 5) : ∃ c0 c1 c2 c3 c4, cs = #[c0, c1, c2, c3, c4] := by
  obtain ⟨l⟩ := cs
  match l, h with
  | [c0, c1, c2, c3, c4], _ => exact ⟨c0, c1, c2, c3, c4, rfl⟩

theorem open_agg5 {r : Reach} {b0 : Nat} {t : TypeId} {f0 f1 f2 f3 f4 : Field} {v : Value} {d : DataW H} {p : List MemPlace} (hs : P.underlying t = some (.struct #[f0, f1, f2, f3, f4])) (hone : oneCellFields P #[f0, f1, f2, f3, f4] = true) (hC : P.cellsOf t = 5)
    (hv : Value.okWide P w r b0 t v) (h : DataW.Trod enc P w base spare held t v d p) :
    ∃ (v0 v1 v2 v3 v4 : Value) (y0 y1 y2 y3 y4 : DataW H × List MemPlace) (n : Nat), v = .agg #[v0, v1, v2, v3, v4] ∧
      DataW.trod enc P w base spare held n f0.type [v0] = some y0 ∧ DataW.trod enc P w base spare held n f1.type [v1] = some y1 ∧ DataW.trod enc P w base spare held n f2.type [v2] = some y2 ∧ DataW.trod enc P w base spare held n f3.type [v3] = some y3 ∧
      DataW.trod enc P w base spare held n f4.type [v4] = some y4 := by
  obtain ⟨cs, rfl, hsz⟩ := okWide_struct hs hv
  obtain ⟨c0, c1, c2, c3, c4, rfl⟩ := array5 (hsz.trans hC)
  obtain ⟨fuel, hf⟩ := h
  obtain ⟨y0, y1, y2, y3, y4, n, _, h0, h1, h2, h3, h4⟩ := trod_struct5 hs hf
  obtain ⟨o0, k0⟩ := hone_of hone 0 f0 rfl
  obtain ⟨o1, k1⟩ := hone_of hone 1 f1 rfl
  obtain ⟨o2, k2⟩ := hone_of hone 2 f2 rfl
  obtain ⟨o3, k3⟩ := hone_of hone 3 f3 rfl
  obtain ⟨o4, k4⟩ := hone_of hone 4 f4 rfl
  exact ⟨c0, c1, c2, c3, c4, y0, y1, y2, y3, y4, n, rfl, by simpa [Value.cells, o0, k0] using h0, by simpa [Value.cells, o1, k1] using h1, by simpa [Value.cells, o2, k2] using h2, by simpa [Value.cells, o3, k3] using h3, by simpa [Value.cells, o4, k4] using h4⟩
end

theorem u32_back {n : Int} (h : (Lit.int .u32 n).wf = true) : Value.int .u32 n = B32 (UInt32.ofNat n.toNat) := by
  have hb : 0 ≤ n ∧ n ≤ 4294967295 := by simpa [Lit.wf, IntKind.has, IntKind.min, IntKind.max, IntKind.signed, IntKind.bits] using h
  show Value.int .u32 n = .int .u32 (((UInt32.ofNat n.toNat).toNat : Nat) : Int)
  rw [UInt32.toNat_ofNat']
  congr 1
  omega

set_option maxRecDepth 100000 in
theorem open_call23 {H : Type} {enc : TypeId × Value → H} {W : World} {v : Value} {d : DataW H} {ps : List MemPlace} {base : Nat}
    (hv : Value.okWide Tryz.prog W .any base 58 v) (h : DataW.Trod enc Tryz.prog W 0 (fun _ => true) true 58 v d ps) :
    ∃ c : C18, v = .agg #[.int .i64 c.d, .int .i64 c.n, .int .i64 c.t, B32 c.id, c.s.val] ∧ c.ok W := by
  obtain ⟨v0, v1, v2, v3, v4, y0, y1, y2, y3, y4, n, rfl, h0, h1, h2, h3, h4⟩ := open_agg5 Tryz.underlying58 (by kernel_rfl) (by kernel_rfl) hv h
  obtain ⟨d0, e0, w0⟩ := open_int1 Tryz.underlying3 h0
  obtain ⟨d1, e1, w1⟩ := open_int1 Tryz.underlying3 h1
  obtain ⟨d2, e2, w2⟩ := open_int1 Tryz.underlying3 h2
  obtain ⟨d3, e3, w3⟩ := open_int1 Tryz.underlying30 h3
  obtain ⟨s, e4, w4⟩ := open_bs h4
  simp only [List.cons.injEq, and_true] at e0 e1 e2 e3 e4
  exact ⟨⟨d0, d1, d2, UInt32.ofNat d3.toNat, s⟩, by rw [e0, e1, e2, e3, e4, u32_back w3], ⟨w0, w1, w2, w4⟩⟩

end Go.Proofs.YtijhaeapoapgfaaGreatDoor
