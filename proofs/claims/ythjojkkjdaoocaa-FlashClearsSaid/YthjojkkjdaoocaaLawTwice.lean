/-
  LawTwice: the walk of FlashTwice.
-/
import Derived.Test.YthjojkkjdaoocaaLawFuse
import Derived.Deep.RegionHeld3
namespace Go.Proofs.Ythjojkkjdaoocaa
open Go.RowKit

theorem andAt_append (l m : List UInt8) : ∀ (b : List UInt8) (a : Nat), andAt b a (l ++ m) = andAt (andAt b a l) (a + l.length) m := by
  induction l with
  | nil => intro b a; rfl
  | cons x xs ih => intro b a; rw [List.cons_append, andAt, ih, andAt, List.length_cons, show a + 1 + xs.length = a + (xs.length + 1) from by omega]

theorem andAt_twice (b l : List UInt8) (a : Nat) (h : a + l.length ≤ b.length) : andAt (andAt b a l) a l = andAt b a l := by
  apply List.ext_getElem
  · rw [andAt_len]
  · intro i h1 h2
    rw [andAt_len] at h1 h2
    have e := andAt_getD l (andAt b a l) a i (by rw [andAt_len]; exact h)
    have e2 := andAt_getD l b a i h
    rw [List.getD, List.getElem?_eq_getElem (by rw [andAt_len, andAt_len]; exact h2)] at e
    rw [List.getD, List.getElem?_eq_getElem (by rw [andAt_len]; exact h2)] at e2
    simp only [Option.getD_some] at e e2
    rw [e, e2, List.getD, List.getElem?_eq_getElem (by rw [andAt_len]; exact h2), Option.getD_some, e2]
    split
    · rw [UInt8.and_assoc, UInt8.and_self]
    · rfl

/-- A flash without a fuse, with power, its numbers in range. -/
structure Free (G : Fla) : Prop where
  down : G.down = false
  fused : G.fused = false
  l1 : G.left ≤ 9223372036854775807
  l2 : -9223372036854775808 ≤ G.left
  s1 : G.steps ≤ 9223372036854775807
  s2 : -9223372036854775808 ≤ G.steps

theorem Free.new (wear : Int) : Free (Fla.new wear) := ⟨rfl, rfl, by show (0 : Int) ≤ _; omega, by show _ ≤ (0 : Int); omega, by show (0 : Int) ≤ _; omega, by show _ ≤ (0 : Int); omega⟩

theorem Free.program {G : Fla} (h : Free G) (a : Nat) (l : List UInt8) (ha : a + l.length ≤ 3584) :
    G.program a l = ({ G.stepped l.length with b := andAt G.b a l }, 0) ∧ Free { G.stepped l.length with b := andAt G.b a l } := by
  have hr : G.ready a l.length = 0 := by unfold Fla.ready; rw [if_neg (by simp [h.down]), if_neg (by omega)]
  have hw : ∀ n, -9223372036854775808 ≤ wrap64 n ∧ wrap64 n ≤ 9223372036854775807 := fun n => by unfold wrap64; omega
  constructor
  · unfold Fla.program
    rw [if_neg (by simp [hr]), Int.toNat_natCast, Fla.prog_whole l G a h.down (by simp [h.fused]) h.l1 h.l2 h.s1 h.s2]
  · exact ⟨h.down, h.fused, (hw _).2, (hw _).1, (hw _).2, (hw _).1⟩

theorem Fla.step_free' {G : Fla} (hd : G.down = false) (hf : G.fused = false) : G.step.down = false := by simp [Fla.step, hd, hf]

theorem Free.step {G : Fla} (h : Free G) : Free G.step := by
  have hw : ∀ n, -9223372036854775808 ≤ wrap64 n ∧ wrap64 n ≤ 9223372036854775807 := fun n => by unfold wrap64; omega
  exact ⟨Fla.step_free' h.down h.fused, h.fused, (hw _).2, (hw _).1, (hw _).2, (hw _).1⟩

theorem Free.erase {G : Fla} (h : Free G) {s : Nat} (hs : s < 14) (hw : G.er.getD s 0 < G.wear) :
    G.erase s = ((G.eraseG s).fill (s * 256) 256, 0) ∧ Free ((G.eraseG s).fill (s * 256) 256) := by
  constructor
  · unfold Fla.erase
    rw [if_neg (by simp [h.down]), if_neg (by omega), if_neg (by rw [Int.toNat_natCast]; omega)]
    simp only [Int.toNat_natCast]
    rw [if_neg (by simp [Fla.step_free' h.down h.fused])]
    rfl
  · have := h.step
    exact ⟨this.down, this.fused, this.l1, this.l2, this.s1, this.s2⟩

theorem fill_getD (F : Fla) (o n j : Nat) (h : o + n ≤ F.b.length) : (F.fill o n).b.getD j 0 = if o ≤ j ∧ j < o + n then 255 else F.b.getD j 0 := by
  unfold Fla.fill
  simp only
  have hto : (F.b.take o).length = o := by rw [List.length_take]; omega
  by_cases h1 : j < o
  · rw [if_neg (by omega), List.getD, List.getD, List.append_assoc, List.getElem?_append_left (by omega), List.getElem?_take_of_lt h1]
  · by_cases h2 : j < o + n
    · rw [if_pos (by omega), List.getD, List.append_assoc, List.getElem?_append_right (by omega), List.getElem?_append_left (by rw [List.length_replicate]; omega), List.getElem?_replicate, if_pos (by omega)]
      rfl
    · rw [if_neg (by omega), List.getD, List.getD, List.append_assoc, List.getElem?_append_right (by omega), List.getElem?_append_right (by rw [List.length_replicate]; omega), List.length_replicate, hto, List.getElem?_drop,
        show o + n + (j - o - n) = j from by omega]

theorem blank_of {F : Fla} (hd : F.down = false) (hl : F.b.length = 3584) {a n : Nat} (ha : a + n ≤ 3584) (h : ∀ j, a ≤ j → j < a + n → F.b.getD j 0 = 255) : F.blank a n = true := by
  have hr : F.ready a n = 0 := by unfold Fla.ready; rw [if_neg (by simp [hd]), if_neg (by omega)]
  unfold Fla.blank Fla.read
  rw [if_neg (by simp [hr])]
  simp only [Int.toNat_natCast, beq_self_eq_true, Bool.true_and, List.all_eq_true, beq_iff_eq]
  intro x hx
  obtain ⟨i, hi, rfl⟩ := List.mem_iff_getElem.1 hx
  have h2 := hi
  rw [List.length_take, List.length_drop] at h2
  have := h (a + i) (by omega) (by omega)
  rw [List.getD, List.getElem?_eq_getElem (by omega)] at this
  rw [List.getElem_take, List.getElem_drop]
  exact this

theorem twice_facts {l : List UInt8} {a s : Nat} {F1 : Fla} (ha : a < 3584) (h : a + l.length ≤ 3584) (hl : l.length ≤ 250) (hs : s = a / 256) (hF : F1 = { (Fla.new 9).stepped l.length with b := andAt (Fla.new 9).b a l }) :
    ∃ F2, F1.program a l = (F2, 0) ∧ F2.b = F1.b ∧ ∃ F3, F2.erase s = (F3, 0) ∧ F3.blank ((s : Int) * 256) 256 = true ∧ (s = 13 → F3.blank a l.length = true) ∧
      (s ≠ 13 → ∃ F4, F3.erase ((s : Int) + 1) = (F4, 0) ∧ F4.blank a l.length = true) := by
  have hs14 : s < 14 := by omega
  have h1 := ((Free.new 9).program a l h)
  rw [← hF] at h1
  have hb1 : F1.b = andAt blankAll a l := by rw [hF]; rfl
  have hlen1 : F1.b.length = 3584 := by rw [hb1, andAt_len]; exact blankAll_len
  have h2 := h1.2.program a l h
  have hb2 : andAt F1.b a l = F1.b := by rw [hb1]; exact andAt_twice _ _ _ (by rw [blankAll_len]; exact h)
  obtain ⟨F2, hF2⟩ : ∃ F2, F2 = ({ F1.stepped l.length with b := andAt F1.b a l } : Fla) := ⟨_, rfl⟩
  rw [← hF2] at h2
  have er2 : F2.er = List.replicate 14 0 := by rw [hF2, hF]; rfl
  have we2 : F2.wear = 9 := by rw [hF2, hF]; rfl
  have b2 : F2.b = F1.b := by rw [hF2]; exact hb2
  have h3 := h2.2.erase hs14 (by rw [er2, we2, List.getD, List.getElem?_replicate, if_pos hs14]; decide)
  obtain ⟨F3, hF3⟩ : ∃ F3, F3 = (F2.eraseG s).fill (s * 256) 256 := ⟨_, rfl⟩
  rw [← hF3] at h3
  have hE2 : (F2.eraseG s).b = F1.b := b2
  have g3 : ∀ j, F3.b.getD j 0 = if s * 256 ≤ j ∧ j < s * 256 + 256 then 255 else F1.b.getD j 0 := by
    intro j; rw [hF3, fill_getD _ _ _ _ (by rw [hE2, hlen1]; omega), hE2]
  have l3 : F3.b.length = 3584 := by
    rw [hF3]; unfold Fla.fill; simp only; rw [List.length_append, List.length_append, List.length_take, List.length_replicate, List.length_drop, hE2, hlen1]; omega
  refine ⟨F2, h2.1, b2, F3, h3.1, ?_, ?_, ?_⟩
  · have := blank_of (a := s * 256) (n := 256) h3.2.down l3 (by omega) (fun j h4 h5 => by rw [g3, if_pos (by omega)])
    simpa using this
  · intro h13
    exact blank_of h3.2.down l3 h (fun j h4 h5 => by rw [g3, if_pos (by omega)])
  · intro h13
    have er3 : F3.er.getD (s + 1) 0 = 0 := by
      rw [hF3]
      show (F2.er.set s _).getD (s + 1) 0 = 0
      rw [er2, List.getD, List.getElem?_set_ne (by omega), List.getElem?_replicate, if_pos (by omega)]
      rfl
    have we3 : F3.wear = 9 := by rw [hF3]; exact we2
    have h4 := h3.2.erase (s := s + 1) (by omega) (by rw [er3, we3]; decide)
    refine ⟨_, by have := h4.1; rw [← this]; congr 1, ?_⟩
    have hE3 : (F3.eraseG (s + 1)).b = F3.b := rfl
    refine blank_of h4.2.down ?_ h (fun j h5 h6 => ?_)
    · unfold Fla.fill; simp only; rw [List.length_append, List.length_append, List.length_take, List.length_replicate, List.length_drop, hE3, l3]; omega
    · rw [fill_getD _ _ _ _ (by rw [hE3, l3]; omega), hE3, g3]
      split
      · rfl
      · rw [if_pos (by omega)]

set_option maxRecDepth 100000 in
set_option maxHeartbeats 6000000 in
theorem flashTwice_walk {w : World} (a0 : Int) (_ : (Lit.int .i64 a0).wf = true) 
    (A : Option Addr) (c : Nat) (l : List UInt8) (hlc : l.length ≤ c) (hm : c ≤ maxLen) (hl : Rd w A l) (h0 : A = none → l = []) (t : Int) (_ : (Lit.int .i64 t).wf = true) :
    Calls Try.prog 6 #[.int .i64 a0, .slice A l.length c, .int .i64 t] w (TrueKeep w) := by
  unfold maxLen at hm
  by_cases hhi : 250 < (l.length : Int)
  · go_enter Try.func6, Try.ntmps6
    go_wp2_with fail
    refine awake16.mono ?_
    rintro e wa ⟨rfl, hKa⟩
    go_wp2_with fail
    go_ret
    exact ⟨rfl, hKa⟩
  obtain ⟨a, ha, e1, e2⟩ := umod a0 3584 (by omega) (by omega)
  by_cases hmin : (l.length : Int) ≤ 3584 - a
  · obtain ⟨l2, hl2⟩ : ∃ l2, l2 = l := ⟨_, rfl⟩
    subst hl2
    generalize hL : l2.length = L at *
    have hl' := hl
    have h0' := h0
    clear hl h0
    have hLa : (a : Int) + L ≤ 3584 := by omega
    obtain ⟨k, hk, e3, e4⟩ := umod t ((L : Int) + 1) (by omega) (by omega)
    go_enter Try.func6, Try.ntmps6
    go_wp2_with fail
    refine (new_calls 9).mono ?_
    rintro e w1 ⟨p, q, rfl, hp, hq, hF, hK⟩
    have hp1 := hF.ltp
    have hq1 := hF.ltq
    go_wp2_with fail
    refine (new_calls 9).mono ?_
    rintro e w2 ⟨p2, q2, rfl, hp2, hq2, hF2, hK2⟩
    have hG2 := hF.keeps hK2 (by simp) (by simp)
    have hk2 : Keeps [p, q, p2, q2] w w2 := (hK.trans hK2).nil
    have hws := hK.size
    clear hF hK hK2
    go_wp2_with fail
    have hn1 : p2 ∉ [p, q] := by simp; omega
    have hn2 : q2 ∉ [p, q] := by simp; omega
    have hr2 : Rd w2.drew A l2 := hl'.keeps hk2.drew (by intro x hx hne; have := hl'.lt x hx hne; simp; omega)
    have hap : ∀ x, A = some x → l2 ≠ [] → x.block ∉ [p, q] := by intro x hx hne; have := hl'.lt x hx hne; simp; omega
    have hbp : ∀ x, A = some x → l2 ≠ [] → x.block ∉ [p2, q2] := by intro x hx hne; have := hl'.lt x hx hne; simp; omega
    have hP := (Free.new 9).program a l2 (by omega)
    have hP2 := (Free.new 9).program a (l2.take k) (by rw [List.length_take]; omega)
    have hP3 := hP2.2.program (a + k) (l2.drop k) (by rw [List.length_drop]; omega)
    have hLk : (l2.take k).length = k := by rw [List.length_take]; omega
    have hLd : (l2.drop k).length = L - k := by rw [List.length_drop]; omega
    have hsl0 : (0 : Int) ≤ (k : Int) := Int.natCast_nonneg _
    have hsl1 : (k : Int) ≤ (L : Int) := by omega
    have hsl2 : (L : Int) ≤ (c : Int) := by omega
    have hsl3 : (k : Int) ≤ (c : Int) := by omega
    have ew : IntKind.i64.wrap ((a : Int) + (k : Int)) = (a : Int) + (k : Int) := IntWalk.i64_in _ (by omega)
    have hbpt : ∀ x, A = some x → l2.take k ≠ [] → x.block ∉ [p2, q2] := by intro x hx hne; exact hbp x hx (by rintro rfl; simp at hne)
    obtain ⟨F1, hF1⟩ : ∃ F1, F1 = ({ (Fla.new 9).stepped l2.length with b := andAt (Fla.new 9).b a l2 } : Fla) := ⟨_, rfl⟩
    obtain ⟨G1, hG1⟩ : ∃ G1, G1 = ({ (Fla.new 9).stepped (l2.take k).length with b := andAt (Fla.new 9).b a (l2.take k) } : Fla) := ⟨_, rfl⟩
    rw [← hG1] at hP2 hP3
    rw [← hF1] at hP
    obtain ⟨G2, hG2e⟩ : ∃ G2, G2 = ({ G1.stepped (l2.drop k).length with b := andAt G1.b (a + k) (l2.drop k) } : Fla) := ⟨_, rfl⟩
    rw [← hG2e] at hP3
    have hP3' : G1.program ((a : Int) + k) (l2.drop k) = (G2, 0) := hP3.1
    have C1 := program_calls_n hG2.drew a A L c l2 hr2 hL hap
    rw [hP.1] at C1
    have C2 : ∀ w3, FlaAt w3 p2 q2 (Fla.new 9) → Rd w3 A l2 → Calls Try.prog 23 #[.pointer (some ⟨p2, 0, none⟩), .int .i64 a, .slice A k c] w3 (FPost w3 p2 q2 G1 (.int .i64 0)) := by
      intro w3 hF3 hr3
      have := program_calls_n hF3 a _ _ c _ (hr3.take k) hLk hbpt
      rw [hP2.1] at this
      exact this
    obtain ⟨s, hs⟩ : ∃ s : Nat, s = a / 256 := ⟨_, rfl⟩
    obtain ⟨F2, hT1, hT2, F3, hT3, hT4, hT5, hT5b⟩ := twice_facts (by omega) (by omega) (by omega) hs hF1
    rw [hL] at hT5 hT5b
    have hGb : G2.b = F1.b := by
      rw [hF1, hG2e, hG1]
      show andAt (andAt (Fla.new 9).b a (l2.take k)) (a + k) (l2.drop k) = andAt (Fla.new 9).b a l2
      have := andAt_append (l2.take k) (l2.drop k) (Fla.new 9).b a
      rw [List.take_append_drop, hLk] at this
      exact this.symm
    have es : (a : Int) / 256 = (s : Int) := by omega
    have hs13 : s ≤ 13 := by omega
    have hm1 : p ∉ [p2, q2] := by simp; omega
    have hm2 : q ∉ [p2, q2] := by simp; omega
    have hs1 : ∀ {W : World}, ∀ x, x ∈ [p, q] → x ∈ [p, q, p2, q2] ∨ W.heap.size ≤ x := by intro W x hx; simp at hx ⊢; omega
    have hs2 : ∀ {W : World}, ∀ x, x ∈ [p2, q2] → x ∈ [p, q, p2, q2] ∨ W.heap.size ≤ x := by intro W x hx; simp at hx ⊢; omega
    have hs3 : ∀ x, x ∈ [p, q, p2, q2] → x ∈ [] ∨ w.heap.size ≤ x := by intro x hx; simp at hx; rcases hx with rfl | rfl | rfl | rfl <;> right <;> omega
    clear hs
    have HF1 := Lib.hid hF1
    have HG2 := Lib.hid hG2e
    have HG1 := Lib.hid hG1
    clear hF1 hG2e hG1
    by_cases hkc : k = c
    · have hdk : l2.drop k = [] := List.drop_of_length_le (by omega)
      obtain rfl : L = k := by omega
      subst hkc
      have C3 : ∀ A3 c3 w4, FlaAt w4 p2 q2 G1 → Rd w4 A l2 → Calls Try.prog 23 #[.pointer (some ⟨p2, 0, none⟩), .int .i64 ((a : Int) + L), .slice A3 0 c3] w4 (FPost w4 p2 q2 G2 (.int .i64 0)) := by
        intro A3 c3 w4 hF4 hr4
        have := program_calls_n hF4 ((a : Int) + L) A3 0 c3 (l2.drop L) (by rw [hdk]; exact Rd.nil _ _) (by rw [hdk]; rfl) (by intro y _ h; exact absurd hdk h)
        rw [hP3'] at this
        exact this
      have H1 := Lib.hid C1; have H2 := Lib.hid C2; have H3 := Lib.hid C3
      clear C1 C2 C3
      go_region_held3 (fun _ => True) (exact trivial) (first | (go_at_call_of 23 (Value.pointer (some ⟨p, 0, none⟩)); refine H1.out.mono ?_; rintro e w3 ⟨rfl, hG3, hK3⟩; have hF3 := hF2.drew.keeps hK3 hn1 hn2; have hr3 := hr2.keeps hK3 hap) | (go_at_call_of 23 (Value.int .i64 (a : Int)); refine (H2.out _ hF3 hr3).mono ?_; rintro e w4 ⟨rfl, hF4, hK4⟩; have hr4 := hr3.keeps hK4 hbp) | (go_at_call_of 23 (Value.int .i64 ((a : Int) + (L : Nat))); refine (H3.out _ _ _ hF4 hr4).mono ?_; rintro e w5 ⟨rfl, hF5, hK5⟩))
      have hG5 := (hG3.keeps hK4 hm1 hm2).keeps hK5 hm1 hm2
      have hk5 : Keeps [p, q, p2, q2] w w5 := ((hk2.drew.trans (hK3.mono hs1)).trans (hK4.mono hs2)).trans (hK5.mono hs2)
      have hr5 := hr4.keeps hK5 hbp
      clear hG3 hF3 hF4 hr3 hr4 hK3 hK4 hK5 hG2 hF2 H1 H2 H3
      go_wp2_with fail
      refine (bytes_calls hG5).mono ?_
      rintro e w6 ⟨v1, rfl, hv1, hK6⟩
      obtain ⟨a1, c1, rfl, _, hrd1, _, _, hn1'⟩ := hv1.rd
      have hst1 := fun c => str_run F1.b.length c hrd1 rfl hn1'
      have hG6 := hG5.keeps hK6 (by simp) (by simp)
      have hF6 := hF5.keeps hK6 (by simp) (by simp)
      have hr6 := hr5.keeps hK6 (by simp)
      have hk6 := hk5.trans hK6.nil
      clear hG5 hF5 hr5 hv1 hrd1 hn1' hK6 hk5
      go_wp2_with fail
      refine (program_calls_n hG6 a _ _ _ _ hr6 hL hap).mono ?_
      rw [hT1]
      rintro e w7 ⟨rfl, hG7, hK7⟩
      have hF7 := hF6.keeps hK7 hn1 hn2
      have hk7 := hk6.trans (hK7.mono hs1)
      clear hG6 hF6 hr6 hK7 hk6 hst1
      go_wp2_with fail
      refine (bytes_calls hG7).mono ?_
      rintro e w8 ⟨v1, rfl, hv1, hK8⟩
      obtain ⟨a1, c1, rfl, _, hrd1, _, _, hn1'⟩ := hv1.rd
      have hst1 := fun c => str_run F2.b.length c hrd1 rfl hn1'
      rw [hT2] at hst1
      rw [hT2]
      have hG8 := hG7.keeps hK8 (by simp) (by simp)
      have hF8 := hF7.keeps hK8 (by simp) (by simp)
      have hk8 := hk7.trans hK8.nil
      clear hG7 hF7 hv1 hrd1 hn1' hK8 hk7
      go_wp2_with fail
      refine (bytes_calls hF8).mono ?_
      rintro e w9 ⟨v1, rfl, hv1, hK9⟩
      obtain ⟨a1, c1, rfl, _, hrd1, _, _, hn1'⟩ := hv1.rd
      have hst2 := fun c => str_run G2.b.length c hrd1 rfl hn1'
      rw [hGb] at hst2
      rw [hGb]
      have hG9 := hG8.keeps hK9 (by simp) (by simp)
      have hk9 := hk8.trans hK9.nil
      clear hG8 hF8 hv1 hrd1 hn1' hK9 hk8 hst1
      go_wp2_with fail
      refine (erase_calls hG9 s).mono ?_
      rw [hT3]
      rintro e wa ⟨rfl, hGa, hKa⟩
      have hka := hk9.trans (hKa.mono hs1)
      clear hst2 hG9 hKa hk9
      go_wp2_with fail
      refine (blank_calls hGa _ 256).mono ?_
      rw [hT4]
      rintro e wb ⟨rfl, hKb⟩
      have hGb' := hGa.keeps hKb (by simp) (by simp)
      have hkb := hka.trans hKb.nil
      clear hGa hKb hka
      by_cases h13 : s = 13
      · have hse : ((s : Int) == 13) = true := by simp [h13]
        have hT5' := hT5 h13
        clear h13
        go_wp2_with fail
        refine (blank_calls hGb' a _).mono ?_
        rw [hT5']
        rintro e wc ⟨rfl, hKc⟩
        have hkc' := hkb.trans hKc.nil
        go_wp2_with fail
        refine awake16.mono ?_
        rintro e wd ⟨rfl, hKd⟩
        have hkd := hkc'.trans hKd.nil
        go_wp2_with fail
        go_ret
        exact ⟨rfl, hkd.mono hs3⟩
      · have hse : ((s : Int) == 13) = false := by simp; omega
        obtain ⟨F4, hT6, hT7⟩ := hT5b h13
        clear h13
        go_wp2_with fail
        refine (erase_calls hGb' _).mono ?_
        rw [hT6]
        rintro e wc ⟨rfl, hGc, hKc⟩
        have hkc' := hkb.trans (hKc.mono hs1)
        clear hGb' hKc hkb
        go_wp2_with fail
        refine (blank_calls hGc a _).mono ?_
        rw [hT7]
        rintro e wd ⟨rfl, hKd⟩
        have hkd := hkc'.trans hKd.nil
        go_wp2_with fail
        refine awake16.mono ?_
        rintro e we ⟨rfl, hKe⟩
        have hke := hkd.trans hKe.nil
        go_wp2_with fail
        go_ret
        exact ⟨rfl, hke.mono hs3⟩
    · have hkc2 : k < c := by omega
      have C3 : ∀ c3 w4, FlaAt w4 p2 q2 G1 → Rd w4 A l2 → Calls Try.prog 23 #[.pointer (some ⟨p2, 0, none⟩), .int .i64 ((a : Int) + k), .slice (A.map fun x => x.add k) (L - k) c3] w4 (FPost w4 p2 q2 G2 (.int .i64 0)) := by
        intro c3 w4 hF4 hr4
        have := program_calls_n hF4 ((a : Int) + k) _ _ c3 _ (hr4.dropAdd k) hLd (by intro y hy hne; obtain ⟨x, hx, rfl⟩ := Option.map_eq_some_iff.1 hy; rw [Addr.add_block]; exact hbp x hx (by rintro rfl; simp at hne))
        rw [hP3'] at this
        exact this
      have H1 := Lib.hid C1; have H2 := Lib.hid C2; have H3 := Lib.hid C3
      clear C1 C2 C3
      go_region_held3 (fun _ => True) (exact trivial) (first | (go_at_call_of 23 (Value.pointer (some ⟨p, 0, none⟩)); refine H1.out.mono ?_; rintro e w3 ⟨rfl, hG3, hK3⟩; have hF3 := hF2.drew.keeps hK3 hn1 hn2; have hr3 := hr2.keeps hK3 hap) | (go_at_call_of 23 (Value.int .i64 (a : Int)); refine (H2.out _ hF3 hr3).mono ?_; rintro e w4 ⟨rfl, hF4, hK4⟩; have hr4 := hr3.keeps hK4 hbp) | (go_at_call_of 23 (Value.int .i64 ((a : Int) + (k : Nat))); refine (H3.out _ _ hF4 hr4).mono ?_; rintro e w5 ⟨rfl, hF5, hK5⟩))
      have hG5 := (hG3.keeps hK4 hm1 hm2).keeps hK5 hm1 hm2
      have hk5 : Keeps [p, q, p2, q2] w w5 := ((hk2.drew.trans (hK3.mono hs1)).trans (hK4.mono hs2)).trans (hK5.mono hs2)
      have hr5 := hr4.keeps hK5 hbp
      clear hG3 hF3 hF4 hr3 hr4 hK3 hK4 hK5 hG2 hF2 H1 H2 H3
      go_wp2_with fail
      refine (bytes_calls hG5).mono ?_
      rintro e w6 ⟨v1, rfl, hv1, hK6⟩
      obtain ⟨a1, c1, rfl, _, hrd1, _, _, hn1'⟩ := hv1.rd
      have hst1 := fun c => str_run F1.b.length c hrd1 rfl hn1'
      have hG6 := hG5.keeps hK6 (by simp) (by simp)
      have hF6 := hF5.keeps hK6 (by simp) (by simp)
      have hr6 := hr5.keeps hK6 (by simp)
      have hk6 := hk5.trans hK6.nil
      clear hG5 hF5 hr5 hv1 hrd1 hn1' hK6 hk5
      go_wp2_with fail
      refine (program_calls_n hG6 a _ _ _ _ hr6 hL hap).mono ?_
      rw [hT1]
      rintro e w7 ⟨rfl, hG7, hK7⟩
      have hF7 := hF6.keeps hK7 hn1 hn2
      have hk7 := hk6.trans (hK7.mono hs1)
      clear hG6 hF6 hr6 hK7 hk6 hst1
      go_wp2_with fail
      refine (bytes_calls hG7).mono ?_
      rintro e w8 ⟨v1, rfl, hv1, hK8⟩
      obtain ⟨a1, c1, rfl, _, hrd1, _, _, hn1'⟩ := hv1.rd
      have hst1 := fun c => str_run F2.b.length c hrd1 rfl hn1'
      rw [hT2] at hst1
      rw [hT2]
      have hG8 := hG7.keeps hK8 (by simp) (by simp)
      have hF8 := hF7.keeps hK8 (by simp) (by simp)
      have hk8 := hk7.trans hK8.nil
      clear hG7 hF7 hv1 hrd1 hn1' hK8 hk7
      go_wp2_with fail
      refine (bytes_calls hF8).mono ?_
      rintro e w9 ⟨v1, rfl, hv1, hK9⟩
      obtain ⟨a1, c1, rfl, _, hrd1, _, _, hn1'⟩ := hv1.rd
      have hst2 := fun c => str_run G2.b.length c hrd1 rfl hn1'
      rw [hGb] at hst2
      rw [hGb]
      have hG9 := hG8.keeps hK9 (by simp) (by simp)
      have hk9 := hk8.trans hK9.nil
      clear hG8 hF8 hv1 hrd1 hn1' hK9 hk8 hst1
      go_wp2_with fail
      refine (erase_calls hG9 s).mono ?_
      rw [hT3]
      rintro e wa ⟨rfl, hGa, hKa⟩
      have hka := hk9.trans (hKa.mono hs1)
      clear hst2 hG9 hKa hk9
      go_wp2_with fail
      refine (blank_calls hGa _ 256).mono ?_
      rw [hT4]
      rintro e wb ⟨rfl, hKb⟩
      have hGb' := hGa.keeps hKb (by simp) (by simp)
      have hkb := hka.trans hKb.nil
      clear hGa hKb hka
      by_cases h13 : s = 13
      · have hse : ((s : Int) == 13) = true := by simp [h13]
        have hT5' := hT5 h13
        clear h13
        go_wp2_with fail
        refine (blank_calls hGb' a _).mono ?_
        rw [hT5']
        rintro e wc ⟨rfl, hKc⟩
        have hkc' := hkb.trans hKc.nil
        go_wp2_with fail
        refine awake16.mono ?_
        rintro e wd ⟨rfl, hKd⟩
        have hkd := hkc'.trans hKd.nil
        go_wp2_with fail
        go_ret
        exact ⟨rfl, hkd.mono hs3⟩
      · have hse : ((s : Int) == 13) = false := by simp; omega
        obtain ⟨F4, hT6, hT7⟩ := hT5b h13
        clear h13
        go_wp2_with fail
        refine (erase_calls hGb' _).mono ?_
        rw [hT6]
        rintro e wc ⟨rfl, hGc, hKc⟩
        have hkc' := hkb.trans (hKc.mono hs1)
        clear hGb' hKc hkb
        go_wp2_with fail
        refine (blank_calls hGc a _).mono ?_
        rw [hT7]
        rintro e wd ⟨rfl, hKd⟩
        have hkd := hkc'.trans hKd.nil
        go_wp2_with fail
        refine awake16.mono ?_
        rintro e we ⟨rfl, hKe⟩
        have hke := hkd.trans hKe.nil
        go_wp2_with fail
        go_ret
        exact ⟨rfl, hke.mono hs3⟩
  · obtain ⟨L, hL0⟩ : ∃ L : Nat, 3584 - (a : Int) = L := ⟨3584 - a, by omega⟩
    obtain ⟨l2, hl2⟩ : ∃ l2, l2 = l.take L := ⟨_, rfl⟩
    have hL : l2.length = L := by rw [hl2, List.length_take]; omega
    have hl' : Rd w A l2 := by
      intro i u hu
      rw [hl2, List.getElem?_take] at hu
      split at hu
      · exact hl i u hu
      · simp at hu
    have h0' : A = none → l2 = [] := by intro h; rw [hl2, h0 h]; simp
    have hlL : L ≤ l.length := by omega
    have hLa : (a : Int) + L ≤ 3584 := by omega
    clear hl2 hl h0
    obtain ⟨k, hk, e3, e4⟩ := umod t ((L : Int) + 1) (by omega) (by omega)
    go_enter Try.func6, Try.ntmps6
    go_wp2_with fail
    refine (new_calls 9).mono ?_
    rintro e w1 ⟨p, q, rfl, hp, hq, hF, hK⟩
    have hp1 := hF.ltp
    have hq1 := hF.ltq
    go_wp2_with fail
    refine (new_calls 9).mono ?_
    rintro e w2 ⟨p2, q2, rfl, hp2, hq2, hF2, hK2⟩
    have hG2 := hF.keeps hK2 (by simp) (by simp)
    have hk2 : Keeps [p, q, p2, q2] w w2 := (hK.trans hK2).nil
    have hws := hK.size
    clear hF hK hK2
    go_wp2_with fail
    have hn1 : p2 ∉ [p, q] := by simp; omega
    have hn2 : q2 ∉ [p, q] := by simp; omega
    have hr2 : Rd w2.drew A l2 := hl'.keeps hk2.drew (by intro x hx hne; have := hl'.lt x hx hne; simp; omega)
    have hap : ∀ x, A = some x → l2 ≠ [] → x.block ∉ [p, q] := by intro x hx hne; have := hl'.lt x hx hne; simp; omega
    have hbp : ∀ x, A = some x → l2 ≠ [] → x.block ∉ [p2, q2] := by intro x hx hne; have := hl'.lt x hx hne; simp; omega
    have hP := (Free.new 9).program a l2 (by omega)
    have hP2 := (Free.new 9).program a (l2.take k) (by rw [List.length_take]; omega)
    have hP3 := hP2.2.program (a + k) (l2.drop k) (by rw [List.length_drop]; omega)
    have hLk : (l2.take k).length = k := by rw [List.length_take]; omega
    have hLd : (l2.drop k).length = L - k := by rw [List.length_drop]; omega
    have hsl0 : (0 : Int) ≤ (k : Int) := Int.natCast_nonneg _
    have hsl1 : (k : Int) ≤ (L : Int) := by omega
    have hsl2 : (L : Int) ≤ (c : Int) := by omega
    have hsl3 : (k : Int) ≤ (c : Int) := by omega
    have ew : IntKind.i64.wrap ((a : Int) + (k : Int)) = (a : Int) + (k : Int) := IntWalk.i64_in _ (by omega)
    have hbpt : ∀ x, A = some x → l2.take k ≠ [] → x.block ∉ [p2, q2] := by intro x hx hne; exact hbp x hx (by rintro rfl; simp at hne)
    obtain ⟨F1, hF1⟩ : ∃ F1, F1 = ({ (Fla.new 9).stepped l2.length with b := andAt (Fla.new 9).b a l2 } : Fla) := ⟨_, rfl⟩
    obtain ⟨G1, hG1⟩ : ∃ G1, G1 = ({ (Fla.new 9).stepped (l2.take k).length with b := andAt (Fla.new 9).b a (l2.take k) } : Fla) := ⟨_, rfl⟩
    rw [← hG1] at hP2 hP3
    rw [← hF1] at hP
    obtain ⟨G2, hG2e⟩ : ∃ G2, G2 = ({ G1.stepped (l2.drop k).length with b := andAt G1.b (a + k) (l2.drop k) } : Fla) := ⟨_, rfl⟩
    rw [← hG2e] at hP3
    have hP3' : G1.program ((a : Int) + k) (l2.drop k) = (G2, 0) := hP3.1
    have C1 := program_calls_n hG2.drew a A L c l2 hr2 hL hap
    rw [hP.1] at C1
    have C2 : ∀ w3, FlaAt w3 p2 q2 (Fla.new 9) → Rd w3 A l2 → Calls Try.prog 23 #[.pointer (some ⟨p2, 0, none⟩), .int .i64 a, .slice A k c] w3 (FPost w3 p2 q2 G1 (.int .i64 0)) := by
      intro w3 hF3 hr3
      have := program_calls_n hF3 a _ _ c _ (hr3.take k) hLk hbpt
      rw [hP2.1] at this
      exact this
    obtain ⟨s, hs⟩ : ∃ s : Nat, s = a / 256 := ⟨_, rfl⟩
    obtain ⟨F2, hT1, hT2, F3, hT3, hT4, hT5, hT5b⟩ := twice_facts (by omega) (by omega) (by omega) hs hF1
    rw [hL] at hT5 hT5b
    have hGb : G2.b = F1.b := by
      rw [hF1, hG2e, hG1]
      show andAt (andAt (Fla.new 9).b a (l2.take k)) (a + k) (l2.drop k) = andAt (Fla.new 9).b a l2
      have := andAt_append (l2.take k) (l2.drop k) (Fla.new 9).b a
      rw [List.take_append_drop, hLk] at this
      exact this.symm
    have es : (a : Int) / 256 = (s : Int) := by omega
    have hs13 : s ≤ 13 := by omega
    have hm1 : p ∉ [p2, q2] := by simp; omega
    have hm2 : q ∉ [p2, q2] := by simp; omega
    have hs1 : ∀ {W : World}, ∀ x, x ∈ [p, q] → x ∈ [p, q, p2, q2] ∨ W.heap.size ≤ x := by intro W x hx; simp at hx ⊢; omega
    have hs2 : ∀ {W : World}, ∀ x, x ∈ [p2, q2] → x ∈ [p, q, p2, q2] ∨ W.heap.size ≤ x := by intro W x hx; simp at hx ⊢; omega
    have hs3 : ∀ x, x ∈ [p, q, p2, q2] → x ∈ [] ∨ w.heap.size ≤ x := by intro x hx; simp at hx; rcases hx with rfl | rfl | rfl | rfl <;> right <;> omega
    clear hs
    have HF1 := Lib.hid hF1
    have HG2 := Lib.hid hG2e
    have HG1 := Lib.hid hG1
    clear hF1 hG2e hG1
    by_cases hkc : k = c
    · have hdk : l2.drop k = [] := List.drop_of_length_le (by omega)
      obtain rfl : L = k := by omega
      subst hkc
      have C3 : ∀ A3 c3 w4, FlaAt w4 p2 q2 G1 → Rd w4 A l2 → Calls Try.prog 23 #[.pointer (some ⟨p2, 0, none⟩), .int .i64 ((a : Int) + L), .slice A3 0 c3] w4 (FPost w4 p2 q2 G2 (.int .i64 0)) := by
        intro A3 c3 w4 hF4 hr4
        have := program_calls_n hF4 ((a : Int) + L) A3 0 c3 (l2.drop L) (by rw [hdk]; exact Rd.nil _ _) (by rw [hdk]; rfl) (by intro y _ h; exact absurd hdk h)
        rw [hP3'] at this
        exact this
      have H1 := Lib.hid C1; have H2 := Lib.hid C2; have H3 := Lib.hid C3
      clear C1 C2 C3
      go_region_held3 (fun _ => True) (exact trivial) (first | (go_at_call_of 23 (Value.pointer (some ⟨p, 0, none⟩)); refine H1.out.mono ?_; rintro e w3 ⟨rfl, hG3, hK3⟩; have hF3 := hF2.drew.keeps hK3 hn1 hn2; have hr3 := hr2.keeps hK3 hap) | (go_at_call_of 23 (Value.int .i64 (a : Int)); refine (H2.out _ hF3 hr3).mono ?_; rintro e w4 ⟨rfl, hF4, hK4⟩; have hr4 := hr3.keeps hK4 hbp) | (go_at_call_of 23 (Value.int .i64 ((a : Int) + (L : Nat))); refine (H3.out _ _ _ hF4 hr4).mono ?_; rintro e w5 ⟨rfl, hF5, hK5⟩))
      have hG5 := (hG3.keeps hK4 hm1 hm2).keeps hK5 hm1 hm2
      have hk5 : Keeps [p, q, p2, q2] w w5 := ((hk2.drew.trans (hK3.mono hs1)).trans (hK4.mono hs2)).trans (hK5.mono hs2)
      have hr5 := hr4.keeps hK5 hbp
      clear hG3 hF3 hF4 hr3 hr4 hK3 hK4 hK5 hG2 hF2 H1 H2 H3
      go_wp2_with fail
      refine (bytes_calls hG5).mono ?_
      rintro e w6 ⟨v1, rfl, hv1, hK6⟩
      obtain ⟨a1, c1, rfl, _, hrd1, _, _, hn1'⟩ := hv1.rd
      have hst1 := fun c => str_run F1.b.length c hrd1 rfl hn1'
      have hG6 := hG5.keeps hK6 (by simp) (by simp)
      have hF6 := hF5.keeps hK6 (by simp) (by simp)
      have hr6 := hr5.keeps hK6 (by simp)
      have hk6 := hk5.trans hK6.nil
      clear hG5 hF5 hr5 hv1 hrd1 hn1' hK6 hk5
      go_wp2_with fail
      refine (program_calls_n hG6 a _ _ _ _ hr6 hL hap).mono ?_
      rw [hT1]
      rintro e w7 ⟨rfl, hG7, hK7⟩
      have hF7 := hF6.keeps hK7 hn1 hn2
      have hk7 := hk6.trans (hK7.mono hs1)
      clear hG6 hF6 hr6 hK7 hk6 hst1
      go_wp2_with fail
      refine (bytes_calls hG7).mono ?_
      rintro e w8 ⟨v1, rfl, hv1, hK8⟩
      obtain ⟨a1, c1, rfl, _, hrd1, _, _, hn1'⟩ := hv1.rd
      have hst1 := fun c => str_run F2.b.length c hrd1 rfl hn1'
      rw [hT2] at hst1
      rw [hT2]
      have hG8 := hG7.keeps hK8 (by simp) (by simp)
      have hF8 := hF7.keeps hK8 (by simp) (by simp)
      have hk8 := hk7.trans hK8.nil
      clear hG7 hF7 hv1 hrd1 hn1' hK8 hk7
      go_wp2_with fail
      refine (bytes_calls hF8).mono ?_
      rintro e w9 ⟨v1, rfl, hv1, hK9⟩
      obtain ⟨a1, c1, rfl, _, hrd1, _, _, hn1'⟩ := hv1.rd
      have hst2 := fun c => str_run G2.b.length c hrd1 rfl hn1'
      rw [hGb] at hst2
      rw [hGb]
      have hG9 := hG8.keeps hK9 (by simp) (by simp)
      have hk9 := hk8.trans hK9.nil
      clear hG8 hF8 hv1 hrd1 hn1' hK9 hk8 hst1
      go_wp2_with fail
      refine (erase_calls hG9 s).mono ?_
      rw [hT3]
      rintro e wa ⟨rfl, hGa, hKa⟩
      have hka := hk9.trans (hKa.mono hs1)
      clear hst2 hG9 hKa hk9
      go_wp2_with fail
      refine (blank_calls hGa _ 256).mono ?_
      rw [hT4]
      rintro e wb ⟨rfl, hKb⟩
      have hGb' := hGa.keeps hKb (by simp) (by simp)
      have hkb := hka.trans hKb.nil
      clear hGa hKb hka
      by_cases h13 : s = 13
      · have hse : ((s : Int) == 13) = true := by simp [h13]
        have hT5' := hT5 h13
        clear h13
        go_wp2_with fail
        refine (blank_calls hGb' a _).mono ?_
        rw [hT5']
        rintro e wc ⟨rfl, hKc⟩
        have hkc' := hkb.trans hKc.nil
        go_wp2_with fail
        refine awake16.mono ?_
        rintro e wd ⟨rfl, hKd⟩
        have hkd := hkc'.trans hKd.nil
        go_wp2_with fail
        go_ret
        exact ⟨rfl, hkd.mono hs3⟩
      · have hse : ((s : Int) == 13) = false := by simp; omega
        obtain ⟨F4, hT6, hT7⟩ := hT5b h13
        clear h13
        go_wp2_with fail
        refine (erase_calls hGb' _).mono ?_
        rw [hT6]
        rintro e wc ⟨rfl, hGc, hKc⟩
        have hkc' := hkb.trans (hKc.mono hs1)
        clear hGb' hKc hkb
        go_wp2_with fail
        refine (blank_calls hGc a _).mono ?_
        rw [hT7]
        rintro e wd ⟨rfl, hKd⟩
        have hkd := hkc'.trans hKd.nil
        go_wp2_with fail
        refine awake16.mono ?_
        rintro e we ⟨rfl, hKe⟩
        have hke := hkd.trans hKe.nil
        go_wp2_with fail
        go_ret
        exact ⟨rfl, hke.mono hs3⟩
    · have hkc2 : k < c := by omega
      have C3 : ∀ c3 w4, FlaAt w4 p2 q2 G1 → Rd w4 A l2 → Calls Try.prog 23 #[.pointer (some ⟨p2, 0, none⟩), .int .i64 ((a : Int) + k), .slice (A.map fun x => x.add k) (L - k) c3] w4 (FPost w4 p2 q2 G2 (.int .i64 0)) := by
        intro c3 w4 hF4 hr4
        have := program_calls_n hF4 ((a : Int) + k) _ _ c3 _ (hr4.dropAdd k) hLd (by intro y hy hne; obtain ⟨x, hx, rfl⟩ := Option.map_eq_some_iff.1 hy; rw [Addr.add_block]; exact hbp x hx (by rintro rfl; simp at hne))
        rw [hP3'] at this
        exact this
      have H1 := Lib.hid C1; have H2 := Lib.hid C2; have H3 := Lib.hid C3
      clear C1 C2 C3
      go_region_held3 (fun _ => True) (exact trivial) (first | (go_at_call_of 23 (Value.pointer (some ⟨p, 0, none⟩)); refine H1.out.mono ?_; rintro e w3 ⟨rfl, hG3, hK3⟩; have hF3 := hF2.drew.keeps hK3 hn1 hn2; have hr3 := hr2.keeps hK3 hap) | (go_at_call_of 23 (Value.int .i64 (a : Int)); refine (H2.out _ hF3 hr3).mono ?_; rintro e w4 ⟨rfl, hF4, hK4⟩; have hr4 := hr3.keeps hK4 hbp) | (go_at_call_of 23 (Value.int .i64 ((a : Int) + (k : Nat))); refine (H3.out _ _ hF4 hr4).mono ?_; rintro e w5 ⟨rfl, hF5, hK5⟩))
      have hG5 := (hG3.keeps hK4 hm1 hm2).keeps hK5 hm1 hm2
      have hk5 : Keeps [p, q, p2, q2] w w5 := ((hk2.drew.trans (hK3.mono hs1)).trans (hK4.mono hs2)).trans (hK5.mono hs2)
      have hr5 := hr4.keeps hK5 hbp
      clear hG3 hF3 hF4 hr3 hr4 hK3 hK4 hK5 hG2 hF2 H1 H2 H3
      go_wp2_with fail
      refine (bytes_calls hG5).mono ?_
      rintro e w6 ⟨v1, rfl, hv1, hK6⟩
      obtain ⟨a1, c1, rfl, _, hrd1, _, _, hn1'⟩ := hv1.rd
      have hst1 := fun c => str_run F1.b.length c hrd1 rfl hn1'
      have hG6 := hG5.keeps hK6 (by simp) (by simp)
      have hF6 := hF5.keeps hK6 (by simp) (by simp)
      have hr6 := hr5.keeps hK6 (by simp)
      have hk6 := hk5.trans hK6.nil
      clear hG5 hF5 hr5 hv1 hrd1 hn1' hK6 hk5
      go_wp2_with fail
      refine (program_calls_n hG6 a _ _ _ _ hr6 hL hap).mono ?_
      rw [hT1]
      rintro e w7 ⟨rfl, hG7, hK7⟩
      have hF7 := hF6.keeps hK7 hn1 hn2
      have hk7 := hk6.trans (hK7.mono hs1)
      clear hG6 hF6 hr6 hK7 hk6 hst1
      go_wp2_with fail
      refine (bytes_calls hG7).mono ?_
      rintro e w8 ⟨v1, rfl, hv1, hK8⟩
      obtain ⟨a1, c1, rfl, _, hrd1, _, _, hn1'⟩ := hv1.rd
      have hst1 := fun c => str_run F2.b.length c hrd1 rfl hn1'
      rw [hT2] at hst1
      rw [hT2]
      have hG8 := hG7.keeps hK8 (by simp) (by simp)
      have hF8 := hF7.keeps hK8 (by simp) (by simp)
      have hk8 := hk7.trans hK8.nil
      clear hG7 hF7 hv1 hrd1 hn1' hK8 hk7
      go_wp2_with fail
      refine (bytes_calls hF8).mono ?_
      rintro e w9 ⟨v1, rfl, hv1, hK9⟩
      obtain ⟨a1, c1, rfl, _, hrd1, _, _, hn1'⟩ := hv1.rd
      have hst2 := fun c => str_run G2.b.length c hrd1 rfl hn1'
      rw [hGb] at hst2
      rw [hGb]
      have hG9 := hG8.keeps hK9 (by simp) (by simp)
      have hk9 := hk8.trans hK9.nil
      clear hG8 hF8 hv1 hrd1 hn1' hK9 hk8 hst1
      go_wp2_with fail
      refine (erase_calls hG9 s).mono ?_
      rw [hT3]
      rintro e wa ⟨rfl, hGa, hKa⟩
      have hka := hk9.trans (hKa.mono hs1)
      clear hst2 hG9 hKa hk9
      go_wp2_with fail
      refine (blank_calls hGa _ 256).mono ?_
      rw [hT4]
      rintro e wb ⟨rfl, hKb⟩
      have hGb' := hGa.keeps hKb (by simp) (by simp)
      have hkb := hka.trans hKb.nil
      clear hGa hKb hka
      by_cases h13 : s = 13
      · have hse : ((s : Int) == 13) = true := by simp [h13]
        have hT5' := hT5 h13
        clear h13
        go_wp2_with fail
        refine (blank_calls hGb' a _).mono ?_
        rw [hT5']
        rintro e wc ⟨rfl, hKc⟩
        have hkc' := hkb.trans hKc.nil
        go_wp2_with fail
        refine awake16.mono ?_
        rintro e wd ⟨rfl, hKd⟩
        have hkd := hkc'.trans hKd.nil
        go_wp2_with fail
        go_ret
        exact ⟨rfl, hkd.mono hs3⟩
      · have hse : ((s : Int) == 13) = false := by simp; omega
        obtain ⟨F4, hT6, hT7⟩ := hT5b h13
        clear h13
        go_wp2_with fail
        refine (erase_calls hGb' _).mono ?_
        rw [hT6]
        rintro e wc ⟨rfl, hGc, hKc⟩
        have hkc' := hkb.trans (hKc.mono hs1)
        clear hGb' hKc hkb
        go_wp2_with fail
        refine (blank_calls hGc a _).mono ?_
        rw [hT7]
        rintro e wd ⟨rfl, hKd⟩
        have hkd := hkc'.trans hKd.nil
        go_wp2_with fail
        refine awake16.mono ?_
        rintro e we ⟨rfl, hKe⟩
        have hke := hkd.trans hKe.nil
        go_wp2_with fail
        go_ret
        exact ⟨rfl, hke.mono hs3⟩

end Go.Proofs.Ythjojkkjdaoocaa
