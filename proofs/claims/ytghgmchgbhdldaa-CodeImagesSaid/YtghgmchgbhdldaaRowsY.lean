/-
  RowsY: a byte that came in, opened.
-/
import Derived.Test.YtghgmchgbhdldaaRows8
namespace Go.Proofs.Ytghgmchgbhdldaa
open Go.ChangeShapes Go.WideShapes Go.ChangeAt Go.RowKit Go.Deep Go.Joins

theorem u8_back8 {n : Int} (h : (Lit.int .u8 n).wf = true) : Value.int .u8 n = B8 (UInt8.ofNat n.toNat) := by
  have hb : 0 ≤ n ∧ n ≤ 255 := by simpa [Lit.wf, IntKind.has, IntKind.min, IntKind.max, IntKind.signed, IntKind.bits] using h
  show Value.int .u8 n = .int .u8 (((UInt8.ofNat n.toNat).toNat : Nat) : Int)
  rw [UInt8.toNat_ofNat']
  congr 1
  omega
set_option maxRecDepth 100000 in
theorem open_u8 {H : Type} {enc : TypeId × Value → H} {W : World} {v : Value} {d : DataW H} {ps : List MemPlace} {base : Nat}
    (hv : Value.okWide Try.prog W .any base 5 v) (h : DataW.Trod enc Try.prog W 0 (fun _ => true) true 5 v d ps) : ∃ x : UInt8, v = B8 x := by
  obtain ⟨a, rfl, rfl, rfl, w⟩ := open_int Try.underlying5 hv h
  exact ⟨UInt8.ofNat a.toNat, u8_back8 w⟩
end Go.Proofs.Ytghgmchgbhdldaa
