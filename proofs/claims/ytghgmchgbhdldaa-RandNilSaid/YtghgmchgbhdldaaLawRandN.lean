/-
  LawRandN: the walk of RandNil.
-/
import Derived.Test.YtghgmchgbhdldaaLawRand0
import Derived.Test.YtghgmchgbhdldaaRowB
import Derived.Lib.SmallJoins
set_option linter.unusedVariables false
set_option linter.unusedSimpArgs false
namespace Go.Proofs.Ytghgmchgbhdldaa
open Go.ChangeShapes Go.WideShapes Go.ChangeAt Go.RowKit Go.Deep Go.Joins

theorem open_int1' {H : Type} {enc : TypeId × Value → H} {W : World} {fuel : Nat} {cs : List Value} {x : DataW H × List MemPlace} {t : TypeId} {k : IntKind} (ht : Try.prog.underlying t = some (.int k))
    (h : DataW.trod enc Try.prog W 0 (fun _ => true) true fuel t cs = some x) : ∃ n : Int, cs = [.int k n] ∧ (Lit.int k n).wf = true := by
  obtain ⟨n, rfl, _, hw⟩ := DataW.trod_int ht h
  exact ⟨n, rfl, hw⟩

set_option maxRecDepth 100000 in
theorem open_call4 {H : Type} {enc : TypeId × Value → H} {W : World} {v : Value} {d : DataW H} {ps : List MemPlace} {base : Nat}
    (hv : Value.okWide Try.prog W .any base 62 v) (h : DataW.Trod enc Try.prog W 0 (fun _ => true) true 62 v d ps) :
    ∃ c0 c1 c2 : Int, v = .agg #[.int .i64 c0, .int .i64 c1, .int .i64 c2] := by
  obtain ⟨v0, v1, v2, y0, y1, y2, n, rfl, _, _, h0, h1, h2⟩ := open_agg3 Try.underlying62 (by kernel_rfl) (by kernel_rfl) hv h
  obtain ⟨d0, e0, w0⟩ := open_int1' Try.underlying3 h0
  obtain ⟨d1, e1, w1⟩ := open_int1' Try.underlying3 h1
  obtain ⟨d2, e2, w2⟩ := open_int1' Try.underlying3 h2
  simp only [List.cons.injEq, and_true] at e0 e1 e2
  exact ⟨d0, d1, d2, by rw [e0, e1, e2]⟩

set_option maxRecDepth 100000 in
set_option maxHeartbeats 1000000 in
theorem randNil_walk {w : World} (c0 c1 c2 : Int) :
    Calls Try.prog 9 #[.agg #[.int .i64 c0, .int .i64 c1, .int .i64 c2]] w (TrueKeep w) := by
  go_enter Try.func9, Try.ntmps9
  go_wp2_with fail
  refine nextNil_calls.mono ?_
  rintro e w' ⟨rfl, rfl⟩
  go_wp2_with fail
  refine (belowNil_calls c1).mono ?_
  rintro e w' ⟨rfl, rfl⟩
  go_wp2_with fail
  refine (someNil_calls c1 c2).mono ?_
  rintro e w' ⟨rfl, rfl⟩
  go_wp2_with fail
  refine awake4.mono ?_
  rintro e w1 ⟨rfl, hk⟩
  go_wp2_with fail
  go_ret
  exact ⟨rfl, ((Keeps.refl [] w).alloc _).trans hk⟩

end Go.Proofs.Ytghgmchgbhdldaa
