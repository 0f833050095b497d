/-
  LawBounds: the walk of FlashBounds.
-/
import Derived.Test.YthjojkkjdaoocaaLaw16
namespace Go.Proofs.Ythjojkkjdaoocaa
open Go.RowKit

theorem blank_new (a n : Nat) : ((blankAll.drop a).take n).all (· == 255) = true := by
  rw [List.all_eq_true]
  intro x hx
  have := List.mem_of_mem_drop (List.mem_of_mem_take hx)
  unfold blankAll at this
  rw [List.mem_replicate] at this
  simpa using this.2

theorem bounds_in {a n : Int} (wr : Int) (h : 0 ≤ n ∧ n ≤ 3584 ∧ 0 ≤ a ∧ a ≤ 3584 - n) : ((Fla.new wr).read a n).2 = 0 ∧ (Fla.new wr).blank a n = true := by
  have hr : (Fla.new wr).ready a n = 0 := by unfold Fla.ready; rw [if_neg (by simp [Fla.new]), if_neg (by omega)]
  have e : (Fla.new wr).read a n = ((blankAll.drop a.toNat).take n.toNat, 0) := by unfold Fla.read; rw [if_neg (by simp [hr])]; rfl
  constructor
  · rw [e]
  · unfold Fla.blank; rw [e, blank_new]; rfl

theorem bounds_out {a n : Int} (wr : Int) (h : ¬ (0 ≤ n ∧ n ≤ 3584 ∧ 0 ≤ a ∧ a ≤ 3584 - n)) : ((Fla.new wr).read a n).2 = 1 ∧ (Fla.new wr).blank a n = false := by
  have hr : (Fla.new wr).ready a n = 1 := by unfold Fla.ready; rw [if_neg (by simp [Fla.new]), if_pos (by omega)]
  have e : (Fla.new wr).read a n = ([], 1) := by unfold Fla.read; rw [if_pos (by simp [hr]), hr]
  constructor
  · rw [e]
  · unfold Fla.blank; rw [e]; rfl

def cut9 : Fla := (Fla.new 9).cut
theorem cut9_read : (cut9.read 0 1).2 = 11 := rfl
theorem cut9_prog : cut9.program 0 [] = (cut9, 11) := rfl
theorem cut9_erase : cut9.erase 0 = (cut9, 11) := rfl
theorem cut9_erase9 : cut9.erase 99 = (cut9, 11) := rfl
theorem cut9_blank : cut9.blank 0 0 = false := rfl

set_option maxRecDepth 100000 in
set_option maxHeartbeats 2000000 in
theorem flashBounds_walk {w : World} (a : Int) (_ : (Lit.int .i64 a).wf = true) (n : Int) (_ : (Lit.int .i64 n).wf = true) : Calls Try.prog 7 #[.int .i64 a, .int .i64 n] w (TrueKeep w) := by
  by_cases h1 : 0 ≤ n
  · by_cases h2 : n ≤ 3584
    · by_cases h3 : 0 ≤ a
      · by_cases h4 : a ≤ 3584 - n
        · have hz := bounds_in (a := a) (n := n) 9 (by omega)
          go_enter Try.func7, Try.ntmps7
          go_wp2_with fail
          refine (new_calls 9).mono ?_
          rintro e w1 ⟨p, q, rfl, hp, hq, hF, hK⟩
          go_wp2_with fail
          refine (read_calls hF a n).mono ?_
          rintro e w2 ⟨v, rfl, hv, hK2⟩
          rw [hz.1]
          obtain ⟨a0, c0, rfl, -, -, -, -, -⟩ := hv.rd
          have hF2 := hF.keeps hK2 (by simp) (by simp)
          have hk2 : Keeps [p, q] w w2 := hK.nil.trans hK2.nil
          clear hv hF hK hK2
          go_wp2_with fail
          refine (blank_calls hF2 a n).mono ?_
          rw [hz.2]
          rintro e w3 ⟨rfl, hK3⟩
          have hF3 := hF2.keeps hK3 (by simp) (by simp)
          have hk3 := hk2.trans hK3.nil
          clear hF2 hk2 hK3
          go_wp2_with fail
          refine (cut_calls hF3).mono ?_
          rintro e w4 ⟨rfl, hF4, hK4⟩
          replace hF4 : FlaAt w4 p q cut9 := hF4
          have hk4 := hk3.trans hK4
          clear hF3 hk3 hK4
          go_wp2_with fail
          refine (read_calls hF4 0 1).mono ?_
          rintro e w5 ⟨v, rfl, hv, hK5⟩
          rw [cut9_read]
          obtain ⟨a1, c1, rfl, -, -, -, -, -⟩ := hv.rd
          have hF5 := hF4.keeps hK5 (by simp) (by simp)
          have hk5 := hk4.trans hK5.nil
          clear hv hF4 hK5 hk4
          go_wp2_with fail
          refine (program_calls hF5 0 none 0 [] (Rd.nil _ _) (by simp)).mono ?_
          rw [cut9_prog]
          rintro e w6 ⟨rfl, hF6, hK6⟩
          have hk6 := hk5.trans hK6
          clear hF5 hk5 hK6
          go_wp2_with fail
          refine (erase_calls hF6 0).mono ?_
          rw [cut9_erase]
          rintro e w7 ⟨rfl, hF7, hK7⟩
          have hk7 := hk6.trans hK7
          clear hF6 hk6 hK7
          go_wp2_with fail
          refine (down_calls hF7).mono ?_
          rintro e w' ⟨rfl, rfl⟩
          rw [show cut9.down = true from rfl]
          go_wp2_with fail
          refine (erase_calls hF7 99).mono ?_
          rw [cut9_erase9]
          rintro e w8 ⟨rfl, hF8, hK8⟩
          have hk8 := hk7.trans hK8
          clear hF7 hk7 hK8
          go_wp2_with fail
          refine (blank_calls hF8 0 0).mono ?_
          rw [cut9_blank]
          rintro e w9 ⟨rfl, hK9⟩
          have hF9 := hF8.keeps hK9 (by simp) (by simp)
          have hk9 := hk8.trans hK9.nil
          clear hF8 hk8 hK9
          go_wp2_with fail
          refine (steps_calls hF9).mono ?_
          rintro e w' ⟨rfl, rfl⟩
          rw [show cut9.steps = 0 from rfl]
          go_wp2_with fail
          refine awake16.mono ?_
          rintro e wa ⟨rfl, hKa⟩
          have hka := hk9.trans hKa.nil
          go_wp2_with fail
          go_ret
          exact ⟨rfl, hka.mono (by simp [hp, hq])⟩
        · have hz := bounds_out (a := a) (n := n) 9 (by omega)
          go_enter Try.func7, Try.ntmps7
          go_wp2_with fail
          refine (new_calls 9).mono ?_
          rintro e w1 ⟨p, q, rfl, hp, hq, hF, hK⟩
          go_wp2_with fail
          refine (read_calls hF a n).mono ?_
          rintro e w2 ⟨v, rfl, hv, hK2⟩
          rw [hz.1]
          obtain ⟨a0, c0, rfl, -, -, -, -, -⟩ := hv.rd
          have hF2 := hF.keeps hK2 (by simp) (by simp)
          have hk2 : Keeps [p, q] w w2 := hK.nil.trans hK2.nil
          clear hv hF hK hK2
          go_wp2_with fail
          refine (blank_calls hF2 a n).mono ?_
          rw [hz.2]
          rintro e w3 ⟨rfl, hK3⟩
          have hF3 := hF2.keeps hK3 (by simp) (by simp)
          have hk3 := hk2.trans hK3.nil
          clear hF2 hk2 hK3
          go_wp2_with fail
          refine (cut_calls hF3).mono ?_
          rintro e w4 ⟨rfl, hF4, hK4⟩
          replace hF4 : FlaAt w4 p q cut9 := hF4
          have hk4 := hk3.trans hK4
          clear hF3 hk3 hK4
          go_wp2_with fail
          refine (read_calls hF4 0 1).mono ?_
          rintro e w5 ⟨v, rfl, hv, hK5⟩
          rw [cut9_read]
          obtain ⟨a1, c1, rfl, -, -, -, -, -⟩ := hv.rd
          have hF5 := hF4.keeps hK5 (by simp) (by simp)
          have hk5 := hk4.trans hK5.nil
          clear hv hF4 hK5 hk4
          go_wp2_with fail
          refine (program_calls hF5 0 none 0 [] (Rd.nil _ _) (by simp)).mono ?_
          rw [cut9_prog]
          rintro e w6 ⟨rfl, hF6, hK6⟩
          have hk6 := hk5.trans hK6
          clear hF5 hk5 hK6
          go_wp2_with fail
          refine (erase_calls hF6 0).mono ?_
          rw [cut9_erase]
          rintro e w7 ⟨rfl, hF7, hK7⟩
          have hk7 := hk6.trans hK7
          clear hF6 hk6 hK7
          go_wp2_with fail
          refine (down_calls hF7).mono ?_
          rintro e w' ⟨rfl, rfl⟩
          rw [show cut9.down = true from rfl]
          go_wp2_with fail
          refine (erase_calls hF7 99).mono ?_
          rw [cut9_erase9]
          rintro e w8 ⟨rfl, hF8, hK8⟩
          have hk8 := hk7.trans hK8
          clear hF7 hk7 hK8
          go_wp2_with fail
          refine (blank_calls hF8 0 0).mono ?_
          rw [cut9_blank]
          rintro e w9 ⟨rfl, hK9⟩
          have hF9 := hF8.keeps hK9 (by simp) (by simp)
          have hk9 := hk8.trans hK9.nil
          clear hF8 hk8 hK9
          go_wp2_with fail
          refine (steps_calls hF9).mono ?_
          rintro e w' ⟨rfl, rfl⟩
          rw [show cut9.steps = 0 from rfl]
          go_wp2_with fail
          refine awake16.mono ?_
          rintro e wa ⟨rfl, hKa⟩
          have hka := hk9.trans hKa.nil
          go_wp2_with fail
          go_ret
          exact ⟨rfl, hka.mono (by simp [hp, hq])⟩
      · have hz := bounds_out (a := a) (n := n) 9 (by omega)
        go_enter Try.func7, Try.ntmps7
        go_wp2_with fail
        refine (new_calls 9).mono ?_
        rintro e w1 ⟨p, q, rfl, hp, hq, hF, hK⟩
        go_wp2_with fail
        refine (read_calls hF a n).mono ?_
        rintro e w2 ⟨v, rfl, hv, hK2⟩
        rw [hz.1]
        obtain ⟨a0, c0, rfl, -, -, -, -, -⟩ := hv.rd
        have hF2 := hF.keeps hK2 (by simp) (by simp)
        have hk2 : Keeps [p, q] w w2 := hK.nil.trans hK2.nil
        clear hv hF hK hK2
        go_wp2_with fail
        refine (blank_calls hF2 a n).mono ?_
        rw [hz.2]
        rintro e w3 ⟨rfl, hK3⟩
        have hF3 := hF2.keeps hK3 (by simp) (by simp)
        have hk3 := hk2.trans hK3.nil
        clear hF2 hk2 hK3
        go_wp2_with fail
        refine (cut_calls hF3).mono ?_
        rintro e w4 ⟨rfl, hF4, hK4⟩
        replace hF4 : FlaAt w4 p q cut9 := hF4
        have hk4 := hk3.trans hK4
        clear hF3 hk3 hK4
        go_wp2_with fail
        refine (read_calls hF4 0 1).mono ?_
        rintro e w5 ⟨v, rfl, hv, hK5⟩
        rw [cut9_read]
        obtain ⟨a1, c1, rfl, -, -, -, -, -⟩ := hv.rd
        have hF5 := hF4.keeps hK5 (by simp) (by simp)
        have hk5 := hk4.trans hK5.nil
        clear hv hF4 hK5 hk4
        go_wp2_with fail
        refine (program_calls hF5 0 none 0 [] (Rd.nil _ _) (by simp)).mono ?_
        rw [cut9_prog]
        rintro e w6 ⟨rfl, hF6, hK6⟩
        have hk6 := hk5.trans hK6
        clear hF5 hk5 hK6
        go_wp2_with fail
        refine (erase_calls hF6 0).mono ?_
        rw [cut9_erase]
        rintro e w7 ⟨rfl, hF7, hK7⟩
        have hk7 := hk6.trans hK7
        clear hF6 hk6 hK7
        go_wp2_with fail
        refine (down_calls hF7).mono ?_
        rintro e w' ⟨rfl, rfl⟩
        rw [show cut9.down = true from rfl]
        go_wp2_with fail
        refine (erase_calls hF7 99).mono ?_
        rw [cut9_erase9]
        rintro e w8 ⟨rfl, hF8, hK8⟩
        have hk8 := hk7.trans hK8
        clear hF7 hk7 hK8
        go_wp2_with fail
        refine (blank_calls hF8 0 0).mono ?_
        rw [cut9_blank]
        rintro e w9 ⟨rfl, hK9⟩
        have hF9 := hF8.keeps hK9 (by simp) (by simp)
        have hk9 := hk8.trans hK9.nil
        clear hF8 hk8 hK9
        go_wp2_with fail
        refine (steps_calls hF9).mono ?_
        rintro e w' ⟨rfl, rfl⟩
        rw [show cut9.steps = 0 from rfl]
        go_wp2_with fail
        refine awake16.mono ?_
        rintro e wa ⟨rfl, hKa⟩
        have hka := hk9.trans hKa.nil
        go_wp2_with fail
        go_ret
        exact ⟨rfl, hka.mono (by simp [hp, hq])⟩
    · have hz := bounds_out (a := a) (n := n) 9 (by omega)
      go_enter Try.func7, Try.ntmps7
      go_wp2_with fail
      refine (new_calls 9).mono ?_
      rintro e w1 ⟨p, q, rfl, hp, hq, hF, hK⟩
      go_wp2_with fail
      refine (read_calls hF a n).mono ?_
      rintro e w2 ⟨v, rfl, hv, hK2⟩
      rw [hz.1]
      obtain ⟨a0, c0, rfl, -, -, -, -, -⟩ := hv.rd
      have hF2 := hF.keeps hK2 (by simp) (by simp)
      have hk2 : Keeps [p, q] w w2 := hK.nil.trans hK2.nil
      clear hv hF hK hK2
      go_wp2_with fail
      refine (blank_calls hF2 a n).mono ?_
      rw [hz.2]
      rintro e w3 ⟨rfl, hK3⟩
      have hF3 := hF2.keeps hK3 (by simp) (by simp)
      have hk3 := hk2.trans hK3.nil
      clear hF2 hk2 hK3
      go_wp2_with fail
      refine (cut_calls hF3).mono ?_
      rintro e w4 ⟨rfl, hF4, hK4⟩
      replace hF4 : FlaAt w4 p q cut9 := hF4
      have hk4 := hk3.trans hK4
      clear hF3 hk3 hK4
      go_wp2_with fail
      refine (read_calls hF4 0 1).mono ?_
      rintro e w5 ⟨v, rfl, hv, hK5⟩
      rw [cut9_read]
      obtain ⟨a1, c1, rfl, -, -, -, -, -⟩ := hv.rd
      have hF5 := hF4.keeps hK5 (by simp) (by simp)
      have hk5 := hk4.trans hK5.nil
      clear hv hF4 hK5 hk4
      go_wp2_with fail
      refine (program_calls hF5 0 none 0 [] (Rd.nil _ _) (by simp)).mono ?_
      rw [cut9_prog]
      rintro e w6 ⟨rfl, hF6, hK6⟩
      have hk6 := hk5.trans hK6
      clear hF5 hk5 hK6
      go_wp2_with fail
      refine (erase_calls hF6 0).mono ?_
      rw [cut9_erase]
      rintro e w7 ⟨rfl, hF7, hK7⟩
      have hk7 := hk6.trans hK7
      clear hF6 hk6 hK7
      go_wp2_with fail
      refine (down_calls hF7).mono ?_
      rintro e w' ⟨rfl, rfl⟩
      rw [show cut9.down = true from rfl]
      go_wp2_with fail
      refine (erase_calls hF7 99).mono ?_
      rw [cut9_erase9]
      rintro e w8 ⟨rfl, hF8, hK8⟩
      have hk8 := hk7.trans hK8
      clear hF7 hk7 hK8
      go_wp2_with fail
      refine (blank_calls hF8 0 0).mono ?_
      rw [cut9_blank]
      rintro e w9 ⟨rfl, hK9⟩
      have hF9 := hF8.keeps hK9 (by simp) (by simp)
      have hk9 := hk8.trans hK9.nil
      clear hF8 hk8 hK9
      go_wp2_with fail
      refine (steps_calls hF9).mono ?_
      rintro e w' ⟨rfl, rfl⟩
      rw [show cut9.steps = 0 from rfl]
      go_wp2_with fail
      refine awake16.mono ?_
      rintro e wa ⟨rfl, hKa⟩
      have hka := hk9.trans hKa.nil
      go_wp2_with fail
      go_ret
      exact ⟨rfl, hka.mono (by simp [hp, hq])⟩
  · have hz := bounds_out (a := a) (n := n) 9 (by omega)
    go_enter Try.func7, Try.ntmps7
    go_wp2_with fail
    refine (new_calls 9).mono ?_
    rintro e w1 ⟨p, q, rfl, hp, hq, hF, hK⟩
    go_wp2_with fail
    refine (read_calls hF a n).mono ?_
    rintro e w2 ⟨v, rfl, hv, hK2⟩
    rw [hz.1]
    obtain ⟨a0, c0, rfl, -, -, -, -, -⟩ := hv.rd
    have hF2 := hF.keeps hK2 (by simp) (by simp)
    have hk2 : Keeps [p, q] w w2 := hK.nil.trans hK2.nil
    clear hv hF hK hK2
    go_wp2_with fail
    refine (blank_calls hF2 a n).mono ?_
    rw [hz.2]
    rintro e w3 ⟨rfl, hK3⟩
    have hF3 := hF2.keeps hK3 (by simp) (by simp)
    have hk3 := hk2.trans hK3.nil
    clear hF2 hk2 hK3
    go_wp2_with fail
    refine (cut_calls hF3).mono ?_
    rintro e w4 ⟨rfl, hF4, hK4⟩
    replace hF4 : FlaAt w4 p q cut9 := hF4
    have hk4 := hk3.trans hK4
    clear hF3 hk3 hK4
    go_wp2_with fail
    refine (read_calls hF4 0 1).mono ?_
    rintro e w5 ⟨v, rfl, hv, hK5⟩
    rw [cut9_read]
    obtain ⟨a1, c1, rfl, -, -, -, -, -⟩ := hv.rd
    have hF5 := hF4.keeps hK5 (by simp) (by simp)
    have hk5 := hk4.trans hK5.nil
    clear hv hF4 hK5 hk4
    go_wp2_with fail
    refine (program_calls hF5 0 none 0 [] (Rd.nil _ _) (by simp)).mono ?_
    rw [cut9_prog]
    rintro e w6 ⟨rfl, hF6, hK6⟩
    have hk6 := hk5.trans hK6
    clear hF5 hk5 hK6
    go_wp2_with fail
    refine (erase_calls hF6 0).mono ?_
    rw [cut9_erase]
    rintro e w7 ⟨rfl, hF7, hK7⟩
    have hk7 := hk6.trans hK7
    clear hF6 hk6 hK7
    go_wp2_with fail
    refine (down_calls hF7).mono ?_
    rintro e w' ⟨rfl, rfl⟩
    rw [show cut9.down = true from rfl]
    go_wp2_with fail
    refine (erase_calls hF7 99).mono ?_
    rw [cut9_erase9]
    rintro e w8 ⟨rfl, hF8, hK8⟩
    have hk8 := hk7.trans hK8
    clear hF7 hk7 hK8
    go_wp2_with fail
    refine (blank_calls hF8 0 0).mono ?_
    rw [cut9_blank]
    rintro e w9 ⟨rfl, hK9⟩
    have hF9 := hF8.keeps hK9 (by simp) (by simp)
    have hk9 := hk8.trans hK9.nil
    clear hF8 hk8 hK9
    go_wp2_with fail
    refine (steps_calls hF9).mono ?_
    rintro e w' ⟨rfl, rfl⟩
    rw [show cut9.steps = 0 from rfl]
    go_wp2_with fail
    refine awake16.mono ?_
    rintro e wa ⟨rfl, hKa⟩
    have hka := hk9.trans hKa.nil
    go_wp2_with fail
    go_ret
    exact ⟨rfl, hka.mono (by simp [hp, hq])⟩

end Go.Proofs.Ythjojkkjdaoocaa
