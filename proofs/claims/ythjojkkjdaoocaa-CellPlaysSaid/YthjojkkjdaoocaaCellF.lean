/-
  CellF: found, ready, Read of package cell, walked.
-/
import Derived.Test.YthjojkkjdaoocaaCell
set_option linter.unusedVariables false
namespace Go.Proofs.Ythjojkkjdaoocaa
open Go.RowKit
attribute [local go_sem ↓] Go.wp_at_zero Go.wp_at_succ

def FoundPost (w : World) (st : Option (UInt32 × List UInt8 × Nat)) (e : Ending) (w' : World) : Prop :=
  ∃ v, e = .returned (.tuple #[.agg #[B32 (Fla.stNum st), v], .int .i64 (Fla.stAt st)]) ∧ Sl w' w.heap.size v (Fla.stB st) ∧ Keeps [] w w'

set_option maxRecDepth 100000 in
set_option maxHeartbeats 1000000 in
theorem found_calls {w : World} {p q : Nat} {F : Fla} (h : FlaAt w p q F) :
    Calls Try.prog 69 #[.pointer (some ⟨p, 0, none⟩)] w (FoundPost w F.found) := by
  have hlp := h.ltp
  have hlq := h.ltq
  go_enter Try.func69, Try.ntmps69
  go_wp2_with fail
  go_loopw [5, 10] (fun s i wr => ∃ k : Nat, k ≤ 2 ∧ i = .int .i64 k ∧ s = .int .i64 (Fla.stAt (F.foundTo k)) ∧ FlaAt wr p q F ∧ Keeps [] w wr ∧ Blk wr w.heap.size 97 [.int .u32 0, .slice none 0 0] ∧ ∃ v, Blk wr (w.heap.size + 1) 97 [B32 (Fla.stNum (F.foundTo k)), v] ∧ Sl wr (w.heap.size + 2) v (Fla.stB (F.foundTo k))) (fun _ i _ => 2 - (intOf i).toNat)
  case atStart =>
    refine ⟨0, by omega, rfl, rfl, (h.alloc _).alloc _, ((Keeps.refl [] w).alloc _).alloc _, (Blk.newA w _ _).alloc _, .slice none 0 0, ?_, Sl.nil _ _⟩
    have := Blk.newA (w.alloc (.cells #[.int .u32 0, .slice none 0 0] 97)) 97 #[.int .u32 0, .slice none 0 0]
    rw [World.size_alloc] at this
    exact this
  case round =>
    obtain ⟨k, hk, rfl, rfl, hF, hK, hB0, v, hB1, hv⟩ := hrel
    have hsz := hK.size
    have l0 := hB0.lt
    have l1 := hB1.lt
    by_cases hk2 : k < 2
    · have hW := cellwhole_calls hF (k : Int) (by omega) (by omega)
      rw [show ((k : Int)).toNat = k from by omega] at hW
      have hst : F.foundTo (k + 1) = Fla.stepF (F.foundTo k) k (F.whole k) := rfl
      have Hst := Lib.hid hst
      clear hst
      generalize F.foundTo k = st at *
      have HW := Lib.hid hW
      clear hW
      obtain ⟨av, cv, rfl, hv'⟩ := hv
      have Hv : Hid (Sl wr (w.heap.size + 2) (.slice av (Fla.stB st).length cv) (Fla.stB st)) := Lib.hid ⟨av, cv, rfl, hv'⟩
      clear hv'
      cases hw : F.whole k with
      | none =>
        rw [hw] at HW Hst
        clear hw
        go_wp2_with fail
        refine HW.out.mono ?_
        rintro e w1 ⟨v1, rfl, hv1, hk1⟩
        dsimp only [Option.map_none, Option.getD_none, Option.isSome_none] at hv1 ⊢
        obtain ⟨a1, c1, rfl, _⟩ := hv1
        have hs1 := hk1.size
        go_wp2_with fail
        go_roundw
        case rel =>
          refine ⟨k + 1, by omega, by go_num, ?_⟩
          rw [Hst.out]
          exact ⟨rfl, (hF.keeps hk1 (by simp) (by simp)).alloc _, (hK.trans hk1).alloc _, (hB0.keeps hk1 (by simp)).alloc _, _, (hB1.keeps hk1 (by simp)).alloc _, Hv.out.keeps (S := []) (hk1.alloc _) (by simp)⟩
        case measure => simp [intOf]; omega
      | some r =>
        obtain ⟨n, b⟩ := r
        rw [hw] at HW Hst
        clear hw
        go_wp2_with fail
        refine HW.out.mono ?_
        rintro e w1 ⟨v1, rfl, hv1, hk1⟩
        dsimp only [Option.map_some, Option.getD_some, Option.isSome_some] at hv1 ⊢
        obtain ⟨a1, c1, rfl, hv1'⟩ := hv1
        have Hv1 : Hid (Sl w1 wr.heap.size (.slice a1 b.length c1) b) := Lib.hid ⟨a1, c1, rfl, hv1'⟩
        clear hv1'
        have hs1 := hk1.size
        have hb1 := hB1.keeps hk1 (by simp)
        have c0 := hb1.cell' (i := 0) rfl
        have c1' := hb1.cell' (i := 1) rfl
        have f0 := hb1.frozen 0
        have f1 := hb1.frozen 1
        have hl1 := hb1.lt
        go_wp2_with fail
        · go_roundw
          case rel =>
            refine ⟨k + 1, by omega, by go_num, ?_⟩
            rw [Hst.out, Fla.step_take (by assumption)]
            have K : Keeps [w.heap.size + 1] wr (((w1.setCell ⟨w.heap.size + 1, 0, none⟩ (.int .u32 n.toNat)).setCell ⟨w.heap.size + 1, 1, none⟩ (.slice a1 b.length c1)).alloc (.cells #[.int .u32 n.toNat, .slice a1 b.length c1] 97)) := ((hk1.nil.setCell (by simp) _).setCell (by simp) _).alloc _
            have K1 : Keeps [w.heap.size + 1] w1 (((w1.setCell ⟨w.heap.size + 1, 0, none⟩ (.int .u32 n.toNat)).setCell ⟨w.heap.size + 1, 1, none⟩ (.slice a1 b.length c1)).alloc (.cells #[.int .u32 n.toNat, .slice a1 b.length c1] 97)) := (((Keeps.refl _ w1).setCell (by simp) _).setCell (by simp) _).alloc _
            refine ⟨rfl, hF.keeps K (by simp; omega) (by simp; omega), hK.trans' K (by simp) (by simp), hB0.keeps K (by simp), .slice a1 b.length c1, ((hb1.set 0 _).set 1 _).alloc _, ((Hv1.out.mono (by omega)).keeps K1 (by simp))⟩
          case measure => simp [intOf]; omega
        · go_roundw
          case rel =>
            refine ⟨k + 1, by omega, by go_num, ?_⟩
            rw [Hst.out, Fla.step_keep (by assumption) (by omega)]
            exact ⟨rfl, (hF.keeps hk1 (by simp) (by simp)).alloc _, (hK.trans hk1).alloc _, (hB0.keeps hk1 (by simp)).alloc _, _, hb1.alloc _, Hv.out.keeps (S := []) (hk1.alloc _) (by simp)⟩
          case measure => simp [intOf]; omega
        · go_roundw
          case rel =>
            refine ⟨k + 1, by omega, by go_num, ?_⟩
            rw [Hst.out, Fla.step_take (.inl (by omega))]
            have K : Keeps [w.heap.size + 1] wr (((w1.setCell ⟨w.heap.size + 1, 0, none⟩ (.int .u32 n.toNat)).setCell ⟨w.heap.size + 1, 1, none⟩ (.slice a1 b.length c1)).alloc (.cells #[.int .u32 n.toNat, .slice a1 b.length c1] 97)) := ((hk1.nil.setCell (by simp) _).setCell (by simp) _).alloc _
            have K1 : Keeps [w.heap.size + 1] w1 (((w1.setCell ⟨w.heap.size + 1, 0, none⟩ (.int .u32 n.toNat)).setCell ⟨w.heap.size + 1, 1, none⟩ (.slice a1 b.length c1)).alloc (.cells #[.int .u32 n.toNat, .slice a1 b.length c1] 97)) := (((Keeps.refl _ w1).setCell (by simp) _).setCell (by simp) _).alloc _
            refine ⟨rfl, hF.keeps K (by simp; omega) (by simp; omega), hK.trans' K (by simp) (by simp), hB0.keeps K (by simp), .slice a1 b.length c1, ((hb1.set 0 _).set 1 _).alloc _, ((Hv1.out.mono (by omega)).keeps K1 (by simp))⟩
          case measure => simp [intOf]; omega
    · have : k = 2 := by omega
      subst this
      obtain ⟨av, cv, rfl, hv'⟩ := hv
      have Hv : Hid (Sl wr (w.heap.size + 2) (.slice av (Fla.stB (F.foundTo 2)).length cv) (Fla.stB (F.foundTo 2))) := Lib.hid ⟨av, cv, rfl, hv'⟩
      clear hv'
      have c0 := hB1.cell' (i := 0) rfl
      have c1 := hB1.cell' (i := 1) rfl
      have d0 := hB0.cell' (i := 0) rfl
      have d1 := hB0.cell' (i := 1) rfl
      have f0 := hB0.frozen 0
      have f1 := hB0.frozen 1
      go_wp2_with fail
      refine bodyPost_ret (v := .tuple #[.agg #[.int .u32 (Fla.stNum (F.foundTo 2)).toNat, .slice av (Fla.stB (F.foundTo 2)).length cv], .int .i64 (Fla.stAt (F.foundTo 2))]) (by simp [results, Try.results69, go_sem, d0, d1]) rfl ⟨_, rfl, ?_, (hK.setCell (by simp) _).setCell (by simp) _⟩
      exact (Hv.out.keeps (S := [w.heap.size]) (((Keeps.refl _ wr).setCell (by simp) _).setCell (by simp) _) (by simp)).mono (by omega)

end Go.Proofs.Ythjojkkjdaoocaa
