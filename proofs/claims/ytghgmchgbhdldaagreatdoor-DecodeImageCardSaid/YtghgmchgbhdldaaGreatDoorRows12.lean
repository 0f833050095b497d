/-
  Rows12: the inputs of layer 12's statements, opened.
-/
import Derived.Test.YtghgmchgbhdldaaGreatDoorRows8
set_option linter.unusedVariables false
namespace Go.Proofs.YtghgmchgbhdldaaGreatDoor
open Go.ChangeShapes Go.WideShapes Go.ChangeAt Go.RowKit Go.Deep Go.Joins

/-- A symbol that is taken. -/
structure C12 where
  id : UInt32
  s : BS
def C12.cells (c : C12) : List Value := [B32 c.id, c.s.val]
def C12.ok (w : World) (c : C12) : Prop := c.s.ok w
abbrev Calls12 := RowsAt C12.cells C12.ok 2

set_option maxRecDepth 100000 in
theorem open_call12 {H : Type} {enc : TypeId × Value → H} {W : World} {v : Value} {d : DataW H} {ps : List MemPlace} {base : Nat}
    (hv : Value.okWide Tryz.prog W .any base 36 v) (h : DataW.Trod enc Tryz.prog W 0 (fun _ => true) true 36 v d ps) :
    ∃ (id : UInt32) (s : BS), v = .agg #[B32 id, .slice s.A s.b.length s.cap] ∧ s.ok W := by
  obtain ⟨v0, v1, y0, y1, n, rfl, _, _, h0, h1⟩ := open_agg2 Tryz.underlying36 (by kernel_rfl) (by kernel_rfl) hv h
  obtain ⟨d0, e0, w0⟩ := open_int1 Tryz.underlying22 h0
  obtain ⟨s, e1, w1⟩ := open_bs h1
  simp only [List.cons.injEq, and_true] at e0 e1
  exact ⟨UInt32.ofNat d0.toNat, s, by rw [e0, e1, u32_back8 w0]; rfl, w1⟩

set_option maxRecDepth 100000 in
theorem open_calls12 {H : Type} {enc : TypeId × Value → H} {W : World} {v : Value} {d : DataW H} {ps : List MemPlace} {base : Nat}
    (hv : Value.okWide Tryz.prog W .any base 25 v) (h : DataW.Trod enc Tryz.prog W 0 (fun _ => true) true 25 v d ps) :
    ∃ a c l, v = .slice a l.length c ∧ l.length ≤ maxLen ∧ Calls12 W a l := by
  obtain ⟨a, len, cap, rfl⟩ := okWide_slice Tryz.underlying25 hv
  obtain ⟨fuel, hf⟩ := h
  rcases open_slice Tryz.underlying25 hf with ⟨hcs, _⟩ | ⟨x, len', cap', m, n, D, Pl, hcs, _, hl, hm, hmm, _, hel⟩
  · simp [Value.cells] at hcs
    obtain ⟨rfl, rfl, rfl⟩ := hcs
    exact ⟨none, 0, [], rfl, by simp, fun i c hc => by simp at hc⟩
  · simp [Value.cells] at hcs
    obtain ⟨rfl, rfl, rfl⟩ := hcs
    simp only [↓reduceIte] at hmm
    subst hmm
    have hC : Tryz.prog.cellsOf 36 = 2 := by kernel_rfl
    have each : ∀ i, i < len → ∃ c : C12, c.ok W ∧ W.cells? 0 (x.add (i * 2)) 2 = some c.cells := by
      intro i hi
      obtain ⟨cs, hcs, ht⟩ := hel i (by omega)
      rw [hC] at hcs
      obtain ⟨y0, y1, n, _, hlen, h0, h1⟩ := trod_struct2 Tryz.underlying36 ht
      rw [hC] at hlen
      match cs, hlen with
      | [c0, c1], _ =>
        obtain ⟨d0, e0, w0⟩ := open_int1 Tryz.underlying22 h0
        obtain ⟨s, e1, w1⟩ := open_bs h1
        have hz3 : Tryz.prog.cellsOf 22 = 1 := by kernel_rfl
        have hz22 : Tryz.prog.cellsOf 28 = 1 := by kernel_rfl
        simp [hz3] at e0
        simp [hz22] at e1
        exact ⟨⟨UInt32.ofNat d0.toNat, s⟩, w1, by rw [hcs, e0, e1, u32_back8 w0]; rfl⟩
    obtain ⟨f, hf2⟩ : ∃ f : Nat → C12, ∀ i, i < len → (f i).ok W ∧ W.cells? 0 (x.add (i * 2)) 2 = some (f i).cells := by
      have : Inhabited C12 := ⟨⟨0, ⟨none, 0, []⟩⟩⟩
      exact choose_lt each
    refine ⟨some x, m, (List.range len).map f, by simp, by simp; omega, ?_⟩
    intro i c hc
    rw [List.getElem?_map] at hc
    obtain ⟨j, hj, rfl⟩ := Option.map_eq_some_iff.1 hc
    have hi : i < len := by
      have := (List.getElem?_eq_some_iff.1 hj).1
      simpa using this
    have hji : j = i := by rw [List.getElem?_range hi] at hj; simpa using hj.symm
    subst hji
    obtain ⟨h1, h2⟩ := hf2 j hi
    refine ⟨h1, ?_⟩
    obtain ⟨_, h4⟩ := World.cells?_some h2
    have hsp : x.spot = none := by
      obtain ⟨_, h6⟩ := World.cells?_some (hf2 0 (by omega)).2
      have h7 := h6.2 0 (by omega)
      have h8 : W.cell? x = some (B32 (f 0).id) := h7
      exact World.cell?_spot h8
    obtain ⟨b, o, sp⟩ := x
    dsimp only at hsp
    subst hsp
    refine ⟨b, o, rfl, fun k v hv => ?_⟩
    have hk : k < 2 := by
      have := (List.getElem?_eq_some_iff.1 hv).1
      rw [h4.1] at this
      exact this
    have := h4.2 k hk
    rw [Addr.add_lit, Addr.add_lit] at this
    rw [this, hv]

/-- Numbers of symbols, to be read. -/
def IdsAt (w : World) (a : Option Addr) (l : List UInt32) : Prop := ∀ i x, l[i]? = some x → ∃ b o, a = some ⟨b, o, none⟩ ∧ w.cell? ⟨b, o + i, none⟩ = some (B32 x)
set_option maxRecDepth 100000 in
theorem open_ids {H : Type} {enc : TypeId × Value → H} {W : World} {v : Value} {d : DataW H} {ps : List MemPlace} {base : Nat}
    (hv : Value.okWide Tryz.prog W .any base 43 v) (h : DataW.Trod enc Tryz.prog W 0 (fun _ => true) true 43 v d ps) :
    ∃ a c l, v = .slice a l.length c ∧ l.length ≤ c ∧ c ≤ maxLen ∧ IdsAt W a l ∧ (a = none → l = [] ∧ c = 0) := by
  obtain ⟨a, len, cap, rfl⟩ := okWide_slice Tryz.underlying43 hv
  obtain ⟨fuel, hf⟩ := h
  rcases open_ints Tryz.underlying43 Tryz.underlying22 (by kernel_rfl) hf with ⟨hcs, _⟩ | ⟨x, l, c, zs, hcs, _, hl, hm, hz, _, hcell, hwz⟩
  · simp [Value.cells] at hcs
    obtain ⟨rfl, rfl, rfl⟩ := hcs
    exact ⟨none, 0, [], rfl, by simp, by simp, fun i x hx => by simp at hx, fun _ => ⟨rfl, rfl⟩⟩
  · simp [Value.cells] at hcs
    obtain ⟨rfl, rfl, rfl⟩ := hcs
    simp only [↓reduceIte] at hz
    have hlen : ((zs.take len).map (fun z => UInt32.ofNat z.toNat)).length = len := by rw [List.length_map, List.length_take]; omega
    refine ⟨some x, cap, (zs.take len).map (fun z => UInt32.ofNat z.toNat), by rw [hlen], by rw [hlen]; omega, hm, ?_, by simp⟩
    intro i u hu
    have hi : i < len := by
      have := (List.getElem?_eq_some_iff.1 hu).1
      omega
    obtain ⟨b, o, rfl, hc⟩ := ints_at hcell (by omega)
    refine ⟨b, o, rfl, ?_⟩
    rw [hc i (by omega)]
    rw [List.getElem?_map, List.getElem?_take, if_pos hi, List.getElem?_eq_getElem (by omega), Option.map_some, Option.some.injEq] at hu
    subst hu
    have hz0 : zs.getD i 0 = zs[i] := by simp [List.getD, List.getElem?_eq_getElem (show i < zs.length by omega)]
    rw [hz0, u32_back8 (hwz zs[i] (List.getElem_mem _))]

end Go.Proofs.YtghgmchgbhdldaaGreatDoor
