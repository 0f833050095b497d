/-
  GrRowB: the texts RowB, one behind another.
-/
import Derived.Test.YtijhaeapoapgfaaGreatDoorRows
import Derived.Test.YtijhaeapoapgfaaGreatDoorGrBytes
import Derived.ProofKit
import Derived.OpenShut
namespace Go.Proofs.YtijhaeapoapgfaaGreatDoor
open Go.ChangeShapes Go.WideShapes Go.ChangeAt Go.RowKit

theorem Tryz.own : ownKnob Tryz.prog.godebug = none := by kernel_rfl
theorem Tryz.laidOut : laidOutB Tryz.prog = true := by kernel_rfl

theorem Keeps.belowAll {a b : World} (h : Keeps [] a b) : Below a.heap.size a b := h.below (Nat.le_refl _) (by simp)

set_option maxRecDepth 100000 in
theorem open_bytes3 {H : Type} {enc : TypeId × Value → H} {W : World} {v : Value} {d : DataW H} {ps : List MemPlace} {base : Nat}
    (hv : Value.okWide Tryz.prog W .any base 22 v) (h : DataW.Trod enc Tryz.prog W 0 (fun _ => true) true 22 v d ps) :
    ∃ a c l, v = .slice a l.length c ∧ l.length ≤ c ∧ c ≤ maxLen ∧ Rd W a l ∧ (a = none → l = [] ∧ c = 0) := by
  obtain ⟨a, len, cap, rfl⟩ := okWide_slice Tryz.underlying22 hv
  obtain ⟨fuel, hf⟩ := h
  rcases open_ints Tryz.underlying22 Tryz.underlying5 (by kernel_rfl) hf with ⟨hcs, _⟩ | ⟨x, l, c, zs, hcs, _, hl, hm, hz, _, hcell, hwz⟩
  · simp [Value.cells] at hcs
    obtain ⟨rfl, rfl, rfl⟩ := hcs
    exact ⟨none, 0, [], rfl, by simp, by simp, Rd.nil _ _, fun _ => ⟨rfl, rfl⟩⟩
  · simp [Value.cells] at hcs
    obtain ⟨rfl, rfl, rfl⟩ := hcs
    simp only [↓reduceIte] at hz
    have hlen : ((zs.take len).map (fun z => UInt8.ofNat z.toNat)).length = len := by rw [List.length_map, List.length_take]; omega
    refine ⟨some x, cap, (zs.take len).map (fun z => UInt8.ofNat z.toNat), by rw [hlen], by rw [hlen]; omega, hm, ?_, by simp⟩
    intro i u hu
    have hi : i < len := by
      have := (List.getElem?_eq_some_iff.1 hu).1
      omega
    obtain ⟨b, o, rfl, hc⟩ := ints_at hcell (by omega)
    refine ⟨b, o, rfl, ?_⟩
    rw [hc i (by omega)]
    rw [List.getElem?_map, List.getElem?_take, if_pos hi, List.getElem?_eq_getElem (by omega), Option.map_some, Option.some.injEq] at hu
    subst hu
    have hz0 : zs.getD i 0 = zs[i] := by simp [List.getD, List.getElem?_eq_getElem (show i < zs.length by omega)]
    rw [hz0]
    have hw := hwz zs[i] (List.getElem_mem _)
    have hb : 0 ≤ zs[i] ∧ zs[i] ≤ 255 := by simpa [Lit.wf, IntKind.has, IntKind.min, IntKind.max, IntKind.signed, IntKind.bits] using hw
    show some (Value.int .u8 zs[i]) = some (.int .u8 ((UInt8.ofNat zs[i].toNat).toNat : Int))
    rw [UInt8.toNat_ofNat']
    congr 2
    omega

end Go.Proofs.YtijhaeapoapgfaaGreatDoor
