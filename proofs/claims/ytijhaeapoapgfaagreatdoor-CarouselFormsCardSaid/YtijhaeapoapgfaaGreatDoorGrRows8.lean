/-
  GrRows8: the texts Rows8, RowsU, one behind another.
-/
import Derived.Test.YtijhaeapoapgfaaGreatDoorGrRowS
import Derived.Test.YtijhaeapoapgfaaGreatDoorGrPopT
import Derived.Test.YtijhaeapoapgfaaGreatDoorGrRand
set_option linter.unusedVariables false
namespace Go.Proofs.YtijhaeapoapgfaaGreatDoor
open Go.ChangeShapes Go.WideShapes Go.ChangeAt Go.RowKit Go.Deep Go.Joins

/-- How an image is coded. -/
structure Pm where
  s : UInt32
  k : Int
  p : Int
  z : Int
def Pm.val (x : Pm) : Value := .agg #[B32 x.s, .int .i64 x.k, .int .i64 x.p, .int .i64 x.z]
structure Pm.wf (x : Pm) : Prop where
  k : (Lit.int .i64 x.k).wf = true
  p : (Lit.int .i64 x.p).wf = true
  z : (Lit.int .i64 x.z).wf = true

section
variable {H : Type} {enc : TypeId × Value → H} {P : Program} {w : World} {base : Nat} {spare : Nat → Bool} {held : Bool}

end

theorem u32_back8 {n : Int} (h : (Lit.int .u32 n).wf = true) : Value.int .u32 n = B32 (UInt32.ofNat n.toNat) := by
  have hb : 0 ≤ n ∧ n ≤ 4294967295 := by simpa [Lit.wf, IntKind.has, IntKind.min, IntKind.max, IntKind.signed, IntKind.bits] using h
  show Value.int .u32 n = .int .u32 (((UInt32.ofNat n.toNat).toNat : Nat) : Int)
  rw [UInt32.toNat_ofNat']
  congr 1
  omega

set_option maxRecDepth 100000 in
theorem open_u32 {H : Type} {enc : TypeId × Value → H} {W : World} {v : Value} {d : DataW H} {ps : List MemPlace} {base : Nat}
    (hv : Value.okWide Tryz.prog W .any base 30 v) (h : DataW.Trod enc Tryz.prog W 0 (fun _ => true) true 30 v d ps) : ∃ x : UInt32, v = B32 x := by
  obtain ⟨a, rfl, rfl, rfl, w⟩ := open_int Tryz.underlying30 hv h
  exact ⟨UInt32.ofNat a.toNat, u32_back8 w⟩
end Go.Proofs.YtijhaeapoapgfaaGreatDoor

set_option linter.unusedVariables false
namespace Go.Proofs.YtijhaeapoapgfaaGreatDoor
open Go.ChangeShapes Go.WideShapes Go.ChangeAt Go.RowKit Go.Deep Go.Joins

/-- Numbers of symbols, to be read. -/
def IdsAt (w : World) (a : Option Addr) (l : List UInt32) : Prop := ∀ i x, l[i]? = some x → ∃ b o, a = some ⟨b, o, none⟩ ∧ w.cell? ⟨b, o + i, none⟩ = some (B32 x)
set_option maxRecDepth 100000 in
theorem open_ids {H : Type} {enc : TypeId × Value → H} {W : World} {v : Value} {d : DataW H} {ps : List MemPlace} {base : Nat}
    (hv : Value.okWide Tryz.prog W .any base 23 v) (h : DataW.Trod enc Tryz.prog W 0 (fun _ => true) true 23 v d ps) :
    ∃ a c l, v = .slice a l.length c ∧ l.length ≤ c ∧ c ≤ maxLen ∧ IdsAt W a l ∧ (a = none → l = [] ∧ c = 0) := by
  obtain ⟨a, len, cap, rfl⟩ := okWide_slice Tryz.underlying23 hv
  obtain ⟨fuel, hf⟩ := h
  rcases open_ints Tryz.underlying23 Tryz.underlying30 (by kernel_rfl) hf with ⟨hcs, _⟩ | ⟨x, l, c, zs, hcs, _, hl, hm, hz, _, hcell, hwz⟩
  · simp [Value.cells] at hcs
    obtain ⟨rfl, rfl, rfl⟩ := hcs
    exact ⟨none, 0, [], rfl, by simp, by simp, fun i x hx => by simp at hx, fun _ => ⟨rfl, rfl⟩⟩
  · simp [Value.cells] at hcs
    obtain ⟨rfl, rfl, rfl⟩ := hcs
    simp only [↓reduceIte] at hz
    have hlen : ((zs.take len).map (fun z => UInt32.ofNat z.toNat)).length = len := by rw [List.length_map, List.length_take]; omega
    refine ⟨some x, cap, (zs.take len).map (fun z => UInt32.ofNat z.toNat), by rw [hlen], by rw [hlen]; omega, hm, ?_, by simp⟩
    intro i u hu
    have hi : i < len := by
      have := (List.getElem?_eq_some_iff.1 hu).1
      omega
    obtain ⟨b, o, rfl, hc⟩ := ints_at hcell (by omega)
    refine ⟨b, o, rfl, ?_⟩
    rw [hc i (by omega)]
    rw [List.getElem?_map, List.getElem?_take, if_pos hi, List.getElem?_eq_getElem (by omega), Option.map_some, Option.some.injEq] at hu
    subst hu
    have hz0 : zs.getD i 0 = zs[i] := by simp [List.getD, List.getElem?_eq_getElem (show i < zs.length by omega)]
    rw [hz0, u32_back8 (hwz zs[i] (List.getElem_mem _))]

end Go.Proofs.YtijhaeapoapgfaaGreatDoor
