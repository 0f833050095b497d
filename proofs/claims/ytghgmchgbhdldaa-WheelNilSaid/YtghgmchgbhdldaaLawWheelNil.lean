/-
  LawWheelNil: the walk of WheelNil.
-/
import Derived.Test.YtghgmchgbhdldaaLaw18
import Derived.Test.YtghgmchgbhdldaaRows18
set_option linter.unusedVariables false
namespace Go.Proofs.Ytghgmchgbhdldaa
open Go.RowKit
attribute [local go_sem ↓] Go.wp_at_zero Go.wp_at_succ

set_option maxRecDepth 100000 in
set_option maxHeartbeats 2000000 in
theorem wheelNil_walk {w : World} (c : C18) (hc : c.ok w) :
    Calls Try.prog 3 #[.agg #[.int .i64 c.d, .int .i64 c.n, .int .i64 c.t, B32 c.id, c.s.val]] w (TrueKeep w) := by
  unfold BS.val
  go_enter Try.func3, Try.ntmps3
  go_wp2_with fail
  refine (new_calls 5).mono ?_
  rintro e w1 ⟨p, q, rfl, hp, hq, hF, hK⟩
  go_wp2_with fail
  refine (cut_calls hF).mono ?_
  rintro e w2 ⟨rfl, hF2, hk2⟩
  go_wp2_with fail
  refine (open_nil 1 4).mono ?_
  rintro e w3 ⟨rfl, hk3⟩
  have hF3 := hF2.keeps hk3 (by simp) (by simp)
  go_wp2_with fail
  refine (open_down hF3 rfl 1 4 (by omega) (by omega)).mono ?_
  rintro e w4 ⟨rfl, hk4⟩
  go_wp2_with fail
  refine (open_bad p 1 17 (by omega)).mono ?_
  rintro e w5 ⟨rfl, hk5⟩
  have hn : w.heap.size ∉ [p, q] := by
    simp only [World.size_alloc] at hp hq
    simp
    omega
  have hB := ((((((Blk.newA w 25 #[.int .i64 c.d, .int .i64 c.n, .int .i64 c.t, B32 c.id, .slice c.s.A c.s.b.length c.s.cap]).keeps hK (by simp)).keeps hk2 hn).keeps hk3 (by simp)).keeps hk4 (by simp)).keeps hk5 (by simp))
  have b3 := hB.cell' (i := 3) rfl
  have b4 := hB.cell' (i := 4) rfl
  go_wp2_with fail
  refine (add_nil c.id c.s.A c.s.b.length c.s.cap).mono ?_
  rintro e w6 ⟨rfl, rfl⟩
  go_wp2_with fail
  refine (records_nil).mono ?_
  rintro e w7 ⟨v7, rfl, hv7, hk7⟩
  obtain ⟨a7, c7, rfl, _⟩ := hv7.form
  go_wp2_with fail
  refine (room_nil).mono ?_
  rintro e w8 ⟨rfl, rfl⟩
  go_wp2_with fail
  refine (awake18).mono ?_
  rintro e w9 ⟨rfl, hk9⟩
  go_wp2_with fail
  go_ret
  have k0 : Keeps [] w (w.alloc (.cells #[.int .i64 c.d, .int .i64 c.n, .int .i64 c.t, B32 c.id, .slice c.s.A c.s.b.length c.s.cap] 25)) := (Keeps.refl [] w).alloc _
  have kk := (hk3.trans (hk4.trans (hk5.trans (hk7.trans hk9))))
  refine ⟨rfl, ((k0.trans hK).trans' (T := []) hk2 (by simp) (fun x hx => .inr ?_)).trans kk⟩
  simp only [World.size_alloc] at hp hq
  simp at hx
  omega

end Go.Proofs.Ytghgmchgbhdldaa
