/-
  GrFrameV: the texts FrameV, HeldT, one behind another.
-/
import Derived.Test.YtijhaeapoapgfaaGreatDoorGrBase
import Derived.Deep.RegionHeld3
set_option linter.unusedVariables false
set_option linter.unusedSimpArgs false
namespace Go.Proofs.YtijhaeapoapgfaaGreatDoor
open Go.RowKit

theorem fv_const (a : Act) (v : Value) : a.eval (.const v) = v := rfl
theorem fv_size (a : Act) (x : Option Tmp) (v : Value) : (a.put x v).tmps.size = a.tmps.size := by
  unfold Act.put
  split
  · simp
  · rfl
theorem fv_eq {a : Act} {d : Tmp} {v : Value} (h : d < a.tmps.size) : (a.put (some d) v).eval (.tmp d) = v := by
  unfold Act.put Act.eval
  simp [Array.getD, h]
theorem fv_ne {a : Act} {d k : Tmp} {v : Value} (h : d ≠ k) : (a.put (some d) v).eval (.tmp k) = a.eval (.tmp k) := by
  unfold Act.put Act.eval
  simp only [Array.getD_eq_getD_getElem?, Array.getElem?_setIfInBounds]
  rw [if_neg h]

theorem fv_lit (l : List Value) (d : List Deferred) (i : Nat) (v : Value) : Act.put { tmps := l.toArray, defers := d } (some i) v = { tmps := (l.set i v).toArray, defers := d } := by
  unfold Act.put
  simp
theorem fv_none (a : Act) (v : Value) : a.put none v = a := rfl

theorem wp_frame {c : Code} {P : Program} {Q : Exit → Act → World → Prop} {a : Act} {w : World} (h : ∀ A : Act, A = a → c.wp P Q A w) : c.wp P Q a w := h a rfl

theorem oper_call_same {P : Program} {o : Oper} {a : Act} {w : World} {K : Act → World → Prop} {Q : Exit → Act → World → Prop} {f : FuncId} {xs : Array Operand} {ts : Array TypeId}
    (ho : o.op = .call { callee := .value (.func f), args := xs, argTypes := ts }) {vs : Array Value} {v : Value} (hc : Calls P f vs w fun e w' => e = .returned v ∧ w = w')
    (hf : Sem.run P (callFunc f vs) w = .ok (.enter f vs) w) (hx : xs.map a.eval = vs) (hK : K (a.put o.dst v) w) : o.wp P a w K Q := by
  have : (execOp a.eval o).run P w = .ok (.enter f vs) w := by
    unfold execOp
    rw [ho]
    simp [go_sem, hx, hf]
  unfold Oper.wp
  rw [this, Oper.upon_enter]
  exact hc.mono (by rintro e w' ⟨rfl, rfl⟩; exact hK)

end Go.Proofs.YtijhaeapoapgfaaGreatDoor

namespace Go.Proofs.YtijhaeapoapgfaaGreatDoor
open Go.RowKit
variable {P : Program} {md : Region.Mode} {ops : Array Oper} {Q : Exit → Act → World → Prop}

theorem wpAnyH_stronger {S S' : World → Prop} (hm : ∀ w, S' w → S w) : ∀ (fuel : Nat) (listed : Array Bool) (a : Act) (w : World), wpAnyH P md ops Q S' fuel listed a w → wpAnyH P md ops Q S fuel listed a w
  | 0, _, _, _, h => h
  | fuel + 1, _, _, _, h => ⟨h.1, fun i hi => wpOp_mono (fun a' w' h' => ⟨hm _ h'.1, wpAnyH_stronger hm fuel _ a' w' h'.2⟩) (h.2 i hi)⟩

theorem wpAnyH_more {S S' : World → Prop} {fuel : Nat} {listed : Array Bool} {a : Act} {w : World} (hm : ∀ w, S' w → S w) (hS : S' w) (h : S' w → wpAnyH P md ops Q S' fuel listed a w) : wpAnyH P md ops Q S fuel listed a w :=
  wpAnyH_stronger hm _ _ _ _ (h hS)

end Go.Proofs.YtijhaeapoapgfaaGreatDoor
