/-
  Law20: a slot that every program must know.
-/
import Derived.Test.YthjojkkjdaoocaaSlotWr
import Derived.Test.YthjojkkjdaoocaaFlashT
import Derived.Lib.SlBytesConst
import Derived.Deep.CutBlock
set_option linter.unusedVariables false
set_option linter.unusedSimpArgs false
namespace Go.Proofs.Ythjojkkjdaoocaa
open Go.RowKit

theorem sha_ne : decide (sha [255, 255, 255] = sha [97, 98, 99]) = false := by decide +kernel
def aw20 : Fla := ((Fla.new 10).slotWrite 1 [97, 98, 99]).1
theorem aw20_ok : ((Fla.new 10).slotWrite 1 [97, 98, 99]).2 = 0 := by decide +kernel
theorem aw20_read1 : aw20.slotRead 1 3 = ([97, 98, 99], 0) := by decide +kernel
theorem aw20_read0 : aw20.slotRead 0 3 = ([255, 255, 255], 0) := by decide +kernel

theorem Rd.litF (w : World) (t : TypeId) (c : Array Value) (z : Nat × Nat) (l : List UInt8) (hc : c.toList = l.map B8) : Rd (w.alloc (.cells c t z)) (some ⟨w.heap.size, 0, none⟩) l := by
  intro i u hu
  refine ⟨w.heap.size, 0, rfl, ?_⟩
  have hg : (w.alloc (.cells c t z)).heap[w.heap.size]? = some (.cells c t z) := by
    show (w.heap.push _)[w.heap.size]? = _
    simp
  have : c[i]? = some (B8 u) := by
    rw [← Array.getElem?_toList, hc, List.getElem?_map, hu]; rfl
  unfold World.cell?
  dsimp only
  rw [hg]
  simpa using this

set_option maxRecDepth 100000 in
set_option maxHeartbeats 1000000 in
theorem awake20 {w : World} : Calls Try.prog 47 #[] w (TrueKeep w) := by
  have kc := fun (w : World) (C : Array Value) (n c : Nat) => Lib.run_convert_bytes_const (P := Try.prog) w 22 5 C n c Try.underlying22 Try.underlying5
  have hm : mayB [97, 98, 99] = true := rfl
  have hR1 : aw20.slotRight 1 3 (sha [97, 98, 99]) = true := by
    unfold Fla.slotRight
    rw [aw20_read1]; simp
  have hR0 : aw20.slotRight 0 3 (sha [97, 98, 99]) = false := by
    unfold Fla.slotRight
    rw [aw20_read0, if_neg (by decide), if_neg (by simp)]
    exact sha_ne
  have HR1 := Lib.hid hR1
  have HR0 := Lib.hid hR0
  have hsl := sha_len [97, 98, 99]
  generalize hD : sha [97, 98, 99] = D at *
  have HD := Lib.hid hD
  clear hR1 hR0 hD
  go_enter Try.func47, Try.ntmps47
  go_wp2_with fail
  refine (new_calls 10).mono ?_
  rintro e w1 ⟨p, q, rfl, hp, hq, hF, hK⟩
  have hp1 := hF.ltp
  have hq1 := hF.ltq
  go_wp2_with fail
  have hOf := slotof_yes (w := w1.alloc (.cells #[.int .u8 97, .int .u8 98, .int .u8 99] 5 (3, 4))) 3 (some ⟨w1.heap.size, 0, none⟩) 3 [97, 98, 99] (Rd.litF w1 _ _ (3, 4) [97, 98, 99] rfl) (by simp) hm
  rw [HD.out] at hOf
  refine hOf.mono ?_
  rintro e w2 ⟨v2, rfl, hv2, hk2⟩
  have hF2 := (hF.alloc (.cells #[.int .u8 97, .int .u8 98, .int .u8 99] 5 (3, 4))).keeps hk2 (by simp) (by simp)
  have hp2 := hF2.ltp
  have hq2 := hF2.ltq
  obtain ⟨g, gc, gr, rfl, hg1, hg2, hg3, hg4, hBg⟩ := hv2.rowc (by rintro rfl; simp at hsl)
  have hrdD : Rd w2 (some ⟨g, 0, none⟩) D := by have := hBg.rdSub 0 D.length; simpa using this
  rw [hsl] at hg1 ⊢
  clear hv2 hOf
  go_upto_region 3 with (fail)
  have hB := Blk.newA w2 68 #[.int .u32 3, .int .i64 3, .slice (some ⟨g, 0, none⟩) 32 gc]
  have hKB := (Keeps.refl [] w2).alloc (.cells #[.int .u32 3, .int .i64 3, .slice (some ⟨g, 0, none⟩) 32 gc] 68)
  have hs2 := hk2.size
  simp only [World.size_alloc] at hs2 hg3
  have hK2 : Keeps [] w w2 := (hK.alloc _).trans hk2
  generalize hw3 : w2.alloc (.cells #[.int .u32 3, .int .i64 3, .slice (some ⟨g, 0, none⟩) 32 gc] 68) = w3 at *
  have hF3 := hF2.keeps hKB (by simp) (by simp)
  have hp3 := hF3.ltp
  have hq3 := hF3.ltq
  have hF4 := hF3.alloc (.cells #[.int .u8 97, .int .u8 98, .int .u8 99] 5 (3, 4))
  have hKw := (Keeps.refl [] w3).alloc (.cells #[.int .u8 97, .int .u8 98, .int .u8 99] 5 (3, 4))
  have hn : w2.heap.size ≠ p ∧ w2.heap.size ≠ q ∧ g ≠ p ∧ g ≠ q := by omega
  clear hw3
  go_wp2_with fail
  refine (slotwrite_calls hF4 1 (some ⟨w3.heap.size, 0, none⟩) 3 [97, 98, 99] (Rd.litF w3 _ _ (3, 4) [97, 98, 99] rfl) (by intro x hx _; simp only [Option.some.injEq] at hx; subst hx; simp; omega)).mono ?_
  rw [aw20_ok]
  rintro e w4 ⟨rfl, hF5, hk4⟩
  replace hF5 : FlaAt w4 p q aw20 := hF5
  have hK4 : Keeps [p, q] w3 w4 := hKw.nil.trans hk4
  have hB4 := hB.keeps hK4 (by simp; exact ⟨hn.1, hn.2.1⟩)
  have hD4 : Rd w4 (some ⟨g, 0, none⟩) D := (hrdD.keepsNil hKB).keeps hK4 (by intro x hx _; simp only [Option.some.injEq] at hx; subst hx; simp; exact ⟨hn.2.2.1, hn.2.2.2⟩)
  go_wp2_with fail
  refine (slotread_calls hF5 1 3).mono ?_
  rw [aw20_read1]
  rintro e w5 ⟨v5, rfl, hv5, hk5⟩
  have hst := hv5.sl.str
  obtain ⟨a5, k5, rfl, _⟩ := hv5.cap
  replace hst : (convert 22 9 (.slice a5 3 k5)).run Try.prog w5 = .ok (.string ⟨#[97, 98, 99]⟩) w5 := hst
  have hF6 := hF5.keeps hk5 (by simp) (by simp)
  have hB5 := hB4.keeps hk5 (by simp)
  have hD5 := hD4.keepsNil hk5
  have c0 := hB5.cell' (i := 0) rfl
  have c1 := hB5.cell' (i := 1) rfl
  have c2 := hB5.cell' (i := 2) rfl
  clear hv5
  go_wp2_with fail
  refine (slotright_calls hF6 1 3 3 (some ⟨g, 0, none⟩) 32 gc D hD5 hsl).mono ?_
  rw [HR1.out]
  rintro e w6 ⟨rfl, hk6⟩
  have hF7 := hF6.keeps hk6 (by simp) (by simp)
  have hD6 := hD5.keepsNil hk6
  have hB6 := hB5.keeps hk6 (by simp)
  have d0 := hB6.cell' (i := 0) rfl
  have d1 := hB6.cell' (i := 1) rfl
  have d2 := hB6.cell' (i := 2) rfl
  go_wp2_with fail
  refine (slotright_calls hF7 0 3 3 (some ⟨g, 0, none⟩) 32 gc D hD6 hsl).mono ?_
  rw [HR0.out]
  rintro e w7 ⟨rfl, hk7⟩
  go_wp2_with fail
  go_ret
  exact ⟨rfl, ((((hK2.trans hKB).nil.trans hK4).trans hk5.nil).trans hk6.nil |>.trans hk7.nil).mono (by simp [hp, hq])⟩

end Go.Proofs.Ythjojkkjdaoocaa
