/-
  Law17: a cell that every program must know; where one copy is erased.
-/
import Derived.Test.YthjojkkjdaoocaaLaw17T
import Derived.Test.YthjojkkjdaoocaaCellW
import Derived.Lib.SlBytesConst
set_option linter.unusedVariables false
namespace Go.Proofs.Ythjojkkjdaoocaa
open Go.RowKit

theorem Rd.litF (w : World) (t : TypeId) (c : Array Value) (z : Nat × Nat) (l : List UInt8) (hc : c.toList = l.map B8) : Rd (w.alloc (.cells c t z)) (some ⟨w.heap.size, 0, none⟩) l := by
  intro i u hu
  refine ⟨w.heap.size, 0, rfl, ?_⟩
  have hg : (w.alloc (.cells c t z)).heap[w.heap.size]? = some (.cells c t z) := by
    show (w.heap.push _)[w.heap.size]? = _
    simp
  have : c[i]? = some (B8 u) := by
    rw [← Array.getElem?_toList, hc, List.getElem?_map, hu]; rfl
  unfold World.cell?
  dsimp only
  rw [hg]
  simpa using this

set_option maxRecDepth 100000 in
set_option maxHeartbeats 1000000 in
theorem awake17 {w : World} : Calls Try.prog 42 #[] w (TrueKeep w) := by
  obtain ⟨G1, G2, h1, h2, h3, h4, h5, h6, h7⟩ := two_writes 10 [97] [98] (by simp) (by simp)
  have hr := h7.read h5.down
  have kc := fun (w : World) (C : Array Value) (n c : Nat) => Lib.run_convert_bytes_const (P := Try.prog) w 22 5 C n c Try.underlying22 Try.underlying5
  have H1 := Lib.hid h1
  have H2 := Lib.hid h2
  have HR := Lib.hid hr
  clear h1 h2 h3 h4 h5 h6 h7 hr
  go_enter Try.func42, Try.ntmps42
  go_wp2_with fail
  refine (new_calls 10).mono ?_
  rintro e w1 ⟨p, q, rfl, hp, hq, hF, hK⟩
  have hp1 := hF.ltp
  have hq1 := hF.ltq
  go_wp2_with fail
  refine (cellread_calls hF).mono ?_
  rw [new_read]
  rintro e w2 ⟨v, rfl, hv, hk2⟩
  obtain ⟨a2, c2, rfl, _⟩ := hv
  have hF2 := hF.keeps hk2 (by simp) (by simp)
  have hp2 := hF2.ltp
  have hq2 := hF2.ltq
  clear hF
  go_wp2_with fail
  have hF3 := hF2.alloc (.cells #[.int .u8 97] 5 (1, 2))
  refine (cellwrite_calls hF3 _ 1 [97] (Rd.litF w2 5 #[.int .u8 97] (1, 2) [97] rfl) (by simp) (by simp) (by omega) (by simp) (by simp; omega)).mono ?_
  rw [H1.out]
  rintro e w3 ⟨rfl, hF4, hk4⟩
  have hp3 := hF4.ltp
  have hq3 := hF4.ltq
  go_wp2_with fail
  have hF5 := hF4.alloc (.cells #[.int .u8 98] 5 (1, 2))
  refine (cellwrite_calls hF5 _ 1 [98] (Rd.litF w3 5 #[.int .u8 98] (1, 2) [98] rfl) (by simp) (by simp) (by omega) (by simp) (by simp; omega)).mono ?_
  rw [H2.out]
  rintro e w4 ⟨rfl, hF6, hk6⟩
  go_wp2_with fail
  refine (cellread_calls hF6).mono ?_
  rw [HR.out]
  rintro e w5 ⟨v5, rfl, hv5, hk5⟩
  have hs5 := hv5.str
  obtain ⟨a5, c5, rfl, _⟩ := hv5
  replace hs5 : (convert 22 9 (.slice a5 1 c5)).run Try.prog w5 = .ok (.string ⟨#[98]⟩) w5 := hs5
  have hk : Keeps [p, q] w w5 := ((((((hK.trans hk2).alloc _).nil).trans hk4).alloc _).trans hk6).trans hk5.nil
  go_wp2_with fail
  go_ret
  exact ⟨rfl, hk.mono (by simp [hp, hq])⟩

end Go.Proofs.Ythjojkkjdaoocaa
