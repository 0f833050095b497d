/-
  Rows20: what came into layer 20's statements, opened.
-/
import Derived.Test.YthjojkkjdaoocaaRowS
set_option linter.unusedVariables false
namespace Go.Proofs.Ythjojkkjdaoocaa
open Go.ChangeShapes Go.WideShapes Go.ChangeAt Go.RowKit Go.Deep Go.Joins

section
variable {H : Type} {enc : TypeId × Value → H} {P : Program} {w : World} {base : Nat} {spare : Nat → Bool} {held : Bool}
theorem trod_struct5 {t : TypeId} {f0 f1 f2 f3 f4 : Field} {fuel : Nat} {cs : List Value} {x : DataW H × List MemPlace} (ht : P.underlying t = some (.struct #[f0, f1, f2, f3, f4])) (h : DataW.trod enc P w base spare held fuel t cs = some x) :
    ∃ y0 y1 y2 y3 y4 n, x = (.agg [y0.1, y1.1, y2.1, y3.1, y4.1], y0.2 ++ (y1.2 ++ (y2.2 ++ (y3.2 ++ y4.2)))) ∧ cs.length = P.cellsOf t ∧ DataW.trod enc P w base spare held n f0.type ((cs.drop f0.offset).take (P.cellsOf f0.type)) = some y0 ∧
      DataW.trod enc P w base spare held n f1.type ((cs.drop f1.offset).take (P.cellsOf f1.type)) = some y1 ∧ DataW.trod enc P w base spare held n f2.type ((cs.drop f2.offset).take (P.cellsOf f2.type)) = some y2 ∧
      DataW.trod enc P w base spare held n f3.type ((cs.drop f3.offset).take (P.cellsOf f3.type)) = some y3 ∧ DataW.trod enc P w base spare held n f4.type ((cs.drop f4.offset).take (P.cellsOf f4.type)) = some y4 := by
  obtain ⟨xs, n, _, rfl, hl, hlen, hf⟩ := DataW.trod_struct ht h
  match xs, hlen with
  | [y0, y1, y2, y3, y4], _ => exact ⟨y0, y1, y2, y3, y4, n, by simp, hl, by simpa using hf 0 f0 rfl, by simpa using hf 1 f1 rfl, by simpa using hf 2 f2 rfl, by simpa using hf 3 f3 rfl, by simpa using hf 4 f4 rfl⟩
end

/-- A call: four numbers, and bytes. -/
structure C20 where
  d : Int
  a : Int
  n : Int
  t : Int
  s : BS

def C20.cells (c : C20) : List Value := [.int .i64 c.d, .int .i64 c.a, .int .i64 c.n, .int .i64 c.t, c.s.val]
structure C20.ok (w : World) (c : C20) : Prop where
  d : (Lit.int .i64 c.d).wf = true
  a : (Lit.int .i64 c.a).wf = true
  n : (Lit.int .i64 c.n).wf = true
  t : (Lit.int .i64 c.t).wf = true
  s : c.s.ok w

theorem C20.ok.below {w w' : World} {c : C20} (h : c.ok w) (hb : Below w.heap.size w w') : c.ok w' := ⟨h.d, h.a, h.n, h.t, h.s.below hb⟩

abbrev Calls20 := RowsAt C20.cells C20.ok 5

set_option maxRecDepth 100000 in
theorem open_calls20 {H : Type} {enc : TypeId × Value → H} {W : World} {v : Value} {d : DataW H} {ps : List MemPlace} {base : Nat}
    (hv : Value.okWide Try.prog W .any base 75 v) (h : DataW.Trod enc Try.prog W 0 (fun _ => true) true 75 v d ps) :
    ∃ a c l, v = .slice a l.length c ∧ l.length ≤ maxLen ∧ Calls20 W a l := by
  obtain ⟨a, len, cap, rfl⟩ := okWide_slice Try.underlying75 hv
  obtain ⟨fuel, hf⟩ := h
  rcases open_slice Try.underlying75 hf with ⟨hcs, _⟩ | ⟨x, len', cap', m, n, D, Pl, hcs, _, hl, hm, hmm, _, hel⟩
  · simp [Value.cells] at hcs
    obtain ⟨rfl, rfl, rfl⟩ := hcs
    exact ⟨none, 0, [], rfl, by simp, fun i c hc => by simp at hc⟩
  · simp [Value.cells] at hcs
    obtain ⟨rfl, rfl, rfl⟩ := hcs
    simp only [↓reduceIte] at hmm
    subst hmm
    have hC : Try.prog.cellsOf 77 = 5 := by kernel_rfl
    have each : ∀ i, i < len → ∃ c : C20, c.ok W ∧ W.cells? 0 (x.add (i * 5)) 5 = some c.cells := by
      intro i hi
      obtain ⟨cs, hcs, ht⟩ := hel i (by omega)
      rw [hC] at hcs
      obtain ⟨y0, y1, y2, y3, y4, n, _, hlen, h0, h1, h2, h3, h4⟩ := trod_struct5 Try.underlying77 ht
      rw [hC] at hlen
      match cs, hlen with
      | [c0, c1, c2, c3, c4], _ =>
        obtain ⟨d0, e0, w0⟩ := open_int1 Try.underlying3 h0
        obtain ⟨d1, e1, w1⟩ := open_int1 Try.underlying3 h1
        obtain ⟨d2, e2, w2⟩ := open_int1 Try.underlying3 h2
        obtain ⟨d3, e3, w3⟩ := open_int1 Try.underlying3 h3
        obtain ⟨s, e4, w4⟩ := open_bs h4
        have hz3 : Try.prog.cellsOf 3 = 1 := by kernel_rfl
        have hz22 : Try.prog.cellsOf 22 = 1 := by kernel_rfl
        simp [hz3] at e0 e1 e2 e3
        simp [hz22] at e4
        exact ⟨⟨d0, d1, d2, d3, s⟩, ⟨w0, w1, w2, w3, w4⟩, by rw [hcs, e0, e1, e2, e3, e4]; rfl⟩
    obtain ⟨f, hf2⟩ : ∃ f : Nat → C20, ∀ i, i < len → (f i).ok W ∧ W.cells? 0 (x.add (i * 5)) 5 = some (f i).cells := by
      have : Inhabited C20 := ⟨⟨0, 0, 0, 0, ⟨none, 0, []⟩⟩⟩
      exact choose_lt each
    refine ⟨some x, m, (List.range len).map f, by simp, by simp; omega, ?_⟩
    intro i c hc
    rw [List.getElem?_map] at hc
    obtain ⟨j, hj, rfl⟩ := Option.map_eq_some_iff.1 hc
    have hi : i < len := by
      have := (List.getElem?_eq_some_iff.1 hj).1
      simpa using this
    have hji : j = i := by rw [List.getElem?_range hi] at hj; simpa using hj.symm
    subst hji
    obtain ⟨h1, h2⟩ := hf2 j hi
    refine ⟨h1, ?_⟩
    obtain ⟨_, h4⟩ := World.cells?_some h2
    have hsp : x.spot = none := by
      obtain ⟨_, h6⟩ := World.cells?_some (hf2 0 (by omega)).2
      have h7 := h6.2 0 (by omega)
      have h8 : W.cell? x = some (.int .i64 (f 0).d) := h7
      exact World.cell?_spot h8
    obtain ⟨b, o, sp⟩ := x
    dsimp only at hsp
    subst hsp
    refine ⟨b, o, rfl, fun k v hv => ?_⟩
    have hk : k < 5 := by
      have := (List.getElem?_eq_some_iff.1 hv).1
      rw [h4.1] at this
      exact this
    have := h4.2 k hk
    rw [Addr.add_lit, Addr.add_lit] at this
    rw [this, hv]


end Go.Proofs.Ythjojkkjdaoocaa
