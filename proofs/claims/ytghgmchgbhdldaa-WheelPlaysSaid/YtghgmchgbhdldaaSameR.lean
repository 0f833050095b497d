/-
  SameR: SameRecords of the reference, walked.
-/
import Derived.Test.YtghgmchgbhdldaaWhR
import Derived.Test.YtghgmchgbhdldaaFlashB
import Derived.Deep.QuietTactic
import Derived.BigQuiet
set_option linter.unusedVariables false
namespace Go.Proofs.Ytghgmchgbhdldaa
open Go.RowKit

/-- A slice of records that reads as l. -/
def RecsR (w : World) (v : Value) (l : List Rec) : Prop :=
  ∃ a c, v = .slice a l.length c ∧ ∀ i d, l[i]? = some d → ∃ g ax cx, a = some ⟨g, 0, none⟩ ∧ w.cell? ⟨g, i * 2, none⟩ = some (B32 d.1) ∧ w.cell? ⟨g, i * 2 + 1, none⟩ = some (.slice ax d.2.length cx) ∧ Rd w ax d.2 ∧ (ax = none → d.2 = [])

theorem RecsR.keeps {w w' : World} {v : Value} {l : List Rec} (h : RecsR w v l) (k : Keeps [] w w') : RecsR w' v l := by
  obtain ⟨a, c, rfl, h⟩ := h
  refine ⟨a, c, rfl, fun i d hd => ?_⟩
  obtain ⟨g, ax, cx, h1, h2, h3, h4, h5⟩ := h i d hd
  exact ⟨g, ax, cx, h1, k.cell h2, k.cell h3, h4.keepsNil k, h5⟩

theorem Recs.r {w : World} {B : Nat} {v : Value} {l : List Rec} (h : Recs w B v l) : RecsR w v l := by
  obtain ⟨a, c, rfl, _⟩ := h.form
  refine ⟨a, c, rfl, fun i d hd => ?_⟩
  obtain ⟨g, x, h1, h2, h3, h4⟩ := h.at hd
  obtain ⟨ax, cx, rfl, _, _, hrd, h0, _⟩ := h4
  rw [Nat.mul_comm] at h2 h3
  exact ⟨g, ax, cx, h1, h2, h3, hrd, fun hx => (h0 hx).1⟩

set_option maxRecDepth 100000 in
set_option maxHeartbeats 2000000 in
theorem same_calls {w : World} {v v' : Value} {l m : List Rec} (h1 : RecsR w v l) (h2 : RecsR w v' m) (hm : l.length ≤ 1000000) :
    Calls Try.prog 26 #[v, v'] w (BoolPost w (decide (l = m))) := by
  have hl1 := h1
  have hl2 := h2
  obtain ⟨a, c, rfl, _⟩ := hl1
  obtain ⟨a', c', rfl, _⟩ := hl2
  by_cases hlen : l.length = m.length
  · have H1 := Lib.hid h1
    have H2 := Lib.hid h2
    have hi : ((l.length : Int) != (m.length : Int)) = false := by rw [hlen]; simp
    clear h1 h2
    rw [← hlen] at H2 ⊢
    go_enter Try.func26, Try.ntmps26
    go_wp2_with fail
    go_loopw [13] (fun i wr => ∃ k : Nat, i = .int .i64 k ∧ k ≤ l.length ∧ l.take k = m.take k ∧ Keeps [] w wr) (fun i _ => l.length - (intOf i).toNat)
    case atStart => exact ⟨0, rfl, Nat.zero_le _, by simp, Keeps.refl _ _⟩
    case round =>
      obtain ⟨k, rfl, hk, ht, hK⟩ := hrel
      have hr1 := H1.out.keeps hK
      have hr2 := H2.out.keeps hK
      by_cases hlt : k < l.length
      · obtain ⟨a1, c1, e1, g1⟩ := hr1
        obtain ⟨a2, c2, e2, g2⟩ := hr2
        simp only [Value.slice.injEq] at e1 e2
        obtain ⟨rfl, -, rfl⟩ := e1
        obtain ⟨rfl, -, rfl⟩ := e2
        have hlt2 : k < m.length := by omega
        obtain ⟨x, hx⟩ : ∃ x, l[k]? = some x := ⟨l[k], by simp [hlt]⟩
        obtain ⟨y, hy⟩ : ∃ y, m[k]? = some y := ⟨m[k], by simp [hlt2]⟩
        obtain ⟨b1, ax, cx, rfl, p1, p2, p3, p4⟩ := g1 k x hx
        obtain ⟨b2, ay, cy, rfl, q1, q2, q3, q4⟩ := g2 k y hy
        have hki : (k : Int) < (l.length : Int) := by omega
        have s1 := fun n => str_run (w := wr.drewN n) (a := ax) x.2.length cx (p3.keepsNil ((Keeps.refl [] wr).drewN n)) rfl p4
        have s2 := fun n => str_run (w := wr.drewN n) (a := ay) y.2.length cy (q3.keepsNil ((Keeps.refl [] wr).drewN n)) rfl q4
        have Ht := Lib.hid ht
        have Hx := Lib.hid hx
        have Hy := Lib.hid hy
        have Hl := Lib.hid hlen
        clear ht hx hy hlen g1 g2 p3 p4 q3 q4
        obtain ⟨i1, d1⟩ := x
        obtain ⟨i2, d2⟩ := y
        dsimp only at p1 p2 q1 q2 s1 s2
        by_cases hid : i1 = i2
        · subst hid
          by_cases hd : d1 = d2
          · subst hd
            go_wp2_with fail
            go_quiet (fail)
            go_wp2_with fail
            refine ⟨⟨k + 1, by go_num, by omega, by rw [List.take_add_one, List.take_add_one, Ht.out, Hx.out, Hy.out], hK.drewN _⟩, ?_⟩
            simp [intOf]; omega
          · have E := Lib.hid (show decide (l = m) = false from decide_eq_false (fun h => by
              have h1 := Hx.out
              rw [h, Hy.out] at h1
              simp only [Option.some.injEq, Prod.mk.injEq, true_and] at h1
              exact hd h1.symm))
            have hdb : (!d1 == d2) = true := by simpa using hd
            go_wp2_with fail
            go_quiet (fail)
            go_wp2_with fail
            go_ret
            rw [E.out]
            exact ⟨rfl, hK.drewN _⟩
        · have E := Lib.hid (show decide (l = m) = false from decide_eq_false (fun h => by
            have h1 := Hx.out
            rw [h, Hy.out] at h1
            simp only [Option.some.injEq, Prod.mk.injEq] at h1
            exact hid h1.1.symm))
          have hib : ((i1.toNat : Int) != (i2.toNat : Int)) = true := by
            simp only [bne_iff_ne, ne_eq]
            intro h
            exact hid (UInt32.toNat_inj.1 (by omega))
          go_wp2_with fail
          go_quiet (fail)
          go_wp2_with fail
          go_ret
          rw [E.out]
          exact ⟨rfl, hK.drewN _⟩
      · obtain rfl : k = l.length := by omega
        have E := Lib.hid (show decide (l = m) = true by
          rw [List.take_length, hlen, List.take_length] at ht
          exact decide_eq_true ht)
        clear hr1 hr2 ht
        go_wp2_with fail
        go_ret
        rw [E.out]
        exact ⟨rfl, hK⟩
  · have hi : ((l.length : Int) != (m.length : Int)) = true := by simp; omega
    have E := Lib.hid (show decide (l = m) = false from decide_eq_false (fun h => hlen (by rw [h])))
    clear hlen h1 h2
    go_enter Try.func26, Try.ntmps26
    go_wp2_with fail
    go_ret
    rw [E.out]
    exact ⟨rfl, Keeps.refl _ _⟩

end Go.Proofs.Ytghgmchgbhdldaa
