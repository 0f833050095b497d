/-
  RefWh1: the reference's wheel, walked: places, at, Room, clear.
-/
import Derived.Test.YtghgmchgbhdldaaRefN
import Derived.Test.YtghgmchgbhdldaaRefR
import Derived.Test.YtghgmchgbhdldaaWhOp
import Derived.Test.YtghgmchgbhdldaaSlotM
set_option linter.unusedVariables false
set_option linter.unusedSimpArgs false
namespace Go.Proofs.Ytghgmchgbhdldaa
open Go.RowKit
attribute [local go_sem ↓] Go.wp_at_zero Go.wp_at_succ

/-- The reference's wheel's struct, in block u. -/
def RWhB (w : World) (p u : Nat) (gen : UInt32) (s : Nat) (v : Value) (ready next : Int) : Prop :=
  Blk w u 55 [.pointer (some ⟨p, 0, none⟩), B32 gen, .int .i64 s, v, .int .i64 ready, .int .i64 next]

theorem RWhB.setL {w : World} {p u s : Nat} {gen : UInt32} {v : Value} {r n : Int} (h : RWhB w p u gen s v r n) (v' : Value) : RWhB (w.setCell ⟨u, 3, none⟩ v') p u gen s v' r n := Blk.set h 3 v'
theorem RWhB.setR {w : World} {p u s : Nat} {gen : UInt32} {v : Value} {r n : Int} (h : RWhB w p u gen s v r n) (r' : Int) : RWhB (w.setCell ⟨u, 4, none⟩ (.int .i64 r')) p u gen s v r' n := Blk.set h 4 _
theorem RWhB.setN {w : World} {p u s : Nat} {gen : UInt32} {v : Value} {r n : Int} (h : RWhB w p u gen s v r n) (n' : Int) : RWhB (w.setCell ⟨u, 5, none⟩ (.int .i64 n')) p u gen s v r n' := Blk.set h 5 _
theorem RWhB.keeps {S : List Nat} {w w' : World} {p u s : Nat} {gen : UInt32} {v : Value} {r n : Int} (h : RWhB w p u gen s v r n) (k : Keeps S w w') (hu : u ∉ S) : RWhB w' p u gen s v r n := Blk.keeps h k hu
theorem RWhB.drewN {w : World} {p u s : Nat} {gen : UInt32} {v : Value} {r n : Int} (h : RWhB w p u gen s v r n) (k : Nat) : RWhB (w.drewN k) p u gen s v r n := h

set_option maxRecDepth 100000 in
theorem rplaces_calls {w : World} {u s : Nat} (h : w.cell? ⟨u, 2, none⟩ = some (.int .i64 s)) (hs : s ≤ 16) :
    Calls Try.prog 68 #[.pointer (some ⟨u, 0, none⟩)] w fun e w' => e = .returned (.int .i64 (places s)) ∧ w = w' := by
  have hd : (256 : Int).tdiv ((s : Int) + 13) = ((places s : Nat) : Int) := by
    unfold places wide
    rw [Int.tdiv_eq_ediv_of_nonneg (by omega), Int.natCast_ediv]; rfl
  have hd2 : (256 : Int) / ((s : Int) + 13) = ((places s : Nat) : Int) := by
    unfold places wide
    rw [Int.natCast_ediv]; rfl
  have hPb : places s ≤ 256 := Nat.div_le_self _ _
  generalize places s = P at *
  go_enter Try.func68, Try.ntmps68
  go_wp2_with fail
  go_ret
  exact ⟨rfl, rfl⟩

set_option maxRecDepth 100000 in
set_option maxHeartbeats 1000000 in
theorem rat_calls {w : World} {u s : Nat} (h : w.cell? ⟨u, 2, none⟩ = some (.int .i64 s)) (h1 : 1 ≤ s) (hs : s ≤ 16) (k : Nat) (hk : k ≤ 200) :
    Calls Try.prog 69 #[.pointer (some ⟨u, 0, none⟩), .int .i64 k] w fun e w' => e = .returned (.tuple #[.int .i64 ((6 + k / places s : Nat) : Int), .int .i64 (whAt s k)]) ∧ ∃ n, w' = w.drewN n := by
  have hP0 := rplaces_calls (w := w) h hs
  have hP := fun n => (rplaces_calls (w := w.drewN n) h hs).mono (fun _ _ h => (⟨h.1, h.2.symm⟩ : _ ∧ _ = w.drewN n))
  have hp := places_bounds h1 hs
  have e : whAt s k = (6 + k / places s) * 256 + k % places s * wide s := rfl
  have hw : wide s = s + 13 := rfl
  rw [e]
  have hpp : 0 < places s := by omega
  have hr := Nat.mod_lt k hpp
  have hm : k % places s * wide s ≤ 18 * 29 := Nat.mul_le_mul (by omega) (by omega)
  have hd : k / places s ≤ k := Nat.div_le_self _ _
  generalize places s = P at *
  have x1 : (0 : Int) ≤ (k : Int) / (P : Int) := by rw [← Int.natCast_ediv]; exact Int.natCast_nonneg _
  have x2 : (k : Int) / (P : Int) ≤ 200 := by rw [← Int.natCast_ediv]; omega
  have x3 : (0 : Int) ≤ (k : Int) % (P : Int) := by rw [← Int.natCast_emod]; omega
  have x4 : (k : Int) % (P : Int) ≤ 18 := by rw [← Int.natCast_emod]; omega
  have hmul : (k : Int) % (P : Int) * ((s : Int) + 13) = ((k % P * wide s : Nat) : Int) := by rw [hw, Int.natCast_mul, Int.natCast_emod]; rfl
  have x5 : (0 : Int) ≤ (k : Int) % (P : Int) * ((s : Int) + 13) := by rw [hmul]; omega
  have x6 : (k : Int) % (P : Int) * ((s : Int) + 13) ≤ 1000 := by rw [hmul]; omega
  have Hm := Lib.hid hmul
  clear hr hm hd e hw hmul
  go_enter Try.func69, Try.ntmps69
  go_wp2_with fail
  refine hP0.mono ?_
  rintro e w' ⟨rfl, rfl⟩
  go_wp2_with fail
  go_quiet (first | (go_at_call 68; exact Calls.quiet_of_same (hP _)))
  go_wp2_with fail
  go_ret2
  refine ⟨?_, nq, rfl⟩
  rw [Hm.out, Int.natCast_add, Int.natCast_mul, Int.natCast_add, Int.natCast_ediv]; rfl

set_option maxRecDepth 100000 in
theorem rroom_calls {w : World} {p u s : Nat} {gen : UInt32} {v : Value} {r : Int} {N : Nat} (hW : RWhB w p u gen s v r N) (h1 : 1 ≤ s) (hs : s ≤ 16) (hN : N ≤ 8 * places s) :
    Calls Try.prog 36 #[.pointer (some ⟨u, 0, none⟩)] w fun e w' => e = .returned (.int .i64 (8 * (places s : Int) - N)) ∧ ∃ n, w' = w.drewN n := by
  have hp := places_bounds h1 hs
  have hP := fun n => (rplaces_calls (w := w.drewN n) (u := u) (s := s) (hW.cell' (i := 2) rfl) hs).mono (fun _ _ h => (⟨h.1, h.2.symm⟩ : _ ∧ _ = w.drewN n))
  have c5 := hW.cell' (i := 5) rfl
  clear hW
  generalize places s = P at *
  go_enter Try.func36, Try.ntmps36
  go_wp2_with fail
  go_quiet (first | (go_at_call 68; exact Calls.quiet_of_same (hP _)))
  go_wp2_with fail
  go_ret
  refine ⟨?_, nq, rfl⟩
  rw [Int.mul_comm]
  rfl

set_option maxRecDepth 100000 in
theorem rclear18_calls {w : World} {p q : Nat} {F : Fla} (h : RfAt w p q F) (k : Int) (hk : 0 ≤ k ∧ k ≤ 100) :
    Calls Try.prog 73 #[.pointer (some ⟨p, 0, none⟩), .int .i64 k] w (RPost w p q (F.clear1 k).1 (.int .i64 (F.clear1 k).2)) := by
  have hB := rblank_calls h (k * 256) 256
  have hE := fun w1 (h1 : RfAt w1 p q F) => rerase_calls h1 k
  have hc1 : F.clear1 k = if F.blank (k * 256) 256 then (F, 0) else F.erase k := rfl
  cases hbl : F.blank (k * 256) 256
  · rw [hbl] at hc1 hB
    simp only [Bool.false_eq_true, ↓reduceIte] at hc1
    rw [hc1]
    generalize F.erase k = r at *
    obtain ⟨G, z⟩ := r
    have HB := Lib.hid hB
    have HE := Lib.hid hE
    have H := Lib.hid h
    clear hB hE h hbl hc1
    go_enter Try.func73, Try.ntmps73
    go_wp2_with fail
    refine HB.out.mono ?_
    rintro e w1 ⟨rfl, hk1⟩
    go_wp2_with fail
    refine (HE.out w1 (H.out.keeps hk1 (by simp) (by simp))).mono ?_
    rintro e w2 ⟨rfl, hF2, hk2⟩
    go_wp2_with fail
    go_ret
    exact ⟨rfl, hF2, hk1.nil.trans hk2⟩
  · rw [hbl] at hc1 hB
    simp only [↓reduceIte] at hc1
    rw [hc1]
    have HB := Lib.hid hB
    have H := Lib.hid h
    clear hB hE h hbl hc1
    go_enter Try.func73, Try.ntmps73
    go_wp2_with fail
    refine HB.out.mono ?_
    rintro e w1 ⟨rfl, hk1⟩
    go_wp2_with fail
    go_ret
    exact ⟨rfl, H.out.keeps hk1 (by simp) (by simp), hk1.nil⟩

end Go.Proofs.Ytghgmchgbhdldaa
