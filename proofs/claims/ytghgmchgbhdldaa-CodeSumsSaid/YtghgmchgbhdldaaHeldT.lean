/-
  HeldT: of a drawn region: what holds behind every operation may be made stronger on the way.
-/
import Derived.Test.YtghgmchgbhdldaaBase
import Derived.Deep.RegionHeld3
namespace Go.Proofs.Ytghgmchgbhdldaa
open Go.RowKit
variable {P : Program} {md : Region.Mode} {ops : Array Oper} {Q : Exit → Act → World → Prop}

theorem wpAnyH_stronger {S S' : World → Prop} (hm : ∀ w, S' w → S w) : ∀ (fuel : Nat) (listed : Array Bool) (a : Act) (w : World), wpAnyH P md ops Q S' fuel listed a w → wpAnyH P md ops Q S fuel listed a w
  | 0, _, _, _, h => h
  | fuel + 1, _, _, _, h => ⟨h.1, fun i hi => wpOp_mono (fun a' w' h' => ⟨hm _ h'.1, wpAnyH_stronger hm fuel _ a' w' h'.2⟩) (h.2 i hi)⟩

theorem wpAnyH_more {S S' : World → Prop} {fuel : Nat} {listed : Array Bool} {a : Act} {w : World} (hm : ∀ w, S' w → S w) (hS : S' w) (h : S' w → wpAnyH P md ops Q S' fuel listed a w) : wpAnyH P md ops Q S fuel listed a w :=
  wpAnyH_stronger hm _ _ _ _ (h hS)

end Go.Proofs.Ytghgmchgbhdldaa
