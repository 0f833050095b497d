/-
  Rows16: the calls of layer 16's statements, opened; 'few' walked.
-/
import Derived.Test.YthjojkkjdaoocaaRowS
import Derived.Test.YthjojkkjdaoocaaFlashN
set_option linter.unusedVariables false
namespace Go.Proofs.Ythjojkkjdaoocaa
open Go.ChangeShapes Go.WideShapes Go.ChangeAt Go.RowKit Go.Deep Go.Joins

abbrev Calls16 := RowsAt C16.cells C16.ok 4

set_option maxRecDepth 100000 in
theorem open_calls16 {H : Type} {enc : TypeId × Value → H} {W : World} {v : Value} {d : DataW H} {ps : List MemPlace} {base : Nat}
    (hv : Value.okWide Try.prog W .any base 36 v) (h : DataW.Trod enc Try.prog W 0 (fun _ => true) true 36 v d ps) :
    ∃ a c l, v = .slice a l.length c ∧ l.length ≤ maxLen ∧ Calls16 W a l := by
  obtain ⟨a, len, cap, rfl⟩ := okWide_slice Try.underlying36 hv
  obtain ⟨fuel, hf⟩ := h
  rcases open_slice Try.underlying36 hf with ⟨hcs, _⟩ | ⟨x, len', cap', m, n, D, Pl, hcs, _, hl, hm, hmm, _, hel⟩
  · simp [Value.cells] at hcs
    obtain ⟨rfl, rfl, rfl⟩ := hcs
    exact ⟨none, 0, [], rfl, by simp, fun i c hc => by simp at hc⟩
  · simp [Value.cells] at hcs
    obtain ⟨rfl, rfl, rfl⟩ := hcs
    simp only [↓reduceIte] at hmm
    subst hmm
    have hC : Try.prog.cellsOf 39 = 4 := by kernel_rfl
    have each : ∀ i, i < len → ∃ c : C16, c.ok W ∧ W.cells? 0 (x.add (i * 4)) 4 = some c.cells := by
      intro i hi
      obtain ⟨cs, hcs, ht⟩ := hel i (by omega)
      rw [hC] at hcs
      obtain ⟨y0, y1, y2, y3, n, _, hlen, h0, h1, h2, h3⟩ := trod_struct4 Try.underlying39 ht
      rw [hC] at hlen
      match cs, hlen with
      | [c0, c1, c2, c3], _ =>
        obtain ⟨d0, e0, w0⟩ := open_int1 Try.underlying3 h0
        obtain ⟨d1, e1, w1⟩ := open_int1 Try.underlying3 h1
        obtain ⟨d2, e2, w2⟩ := open_int1 Try.underlying3 h2
        obtain ⟨s, e3, w3⟩ := open_bs h3
        have hz3 : Try.prog.cellsOf 3 = 1 := by kernel_rfl
        have hz22 : Try.prog.cellsOf 22 = 1 := by kernel_rfl
        simp [hz3] at e0 e1 e2
        simp [hz22] at e3
        exact ⟨⟨d0, d1, d2, s⟩, ⟨w0, w1, w2, w3⟩, by rw [hcs, e0, e1, e2, e3]; rfl⟩
    obtain ⟨f, hf2⟩ : ∃ f : Nat → C16, ∀ i, i < len → (f i).ok W ∧ W.cells? 0 (x.add (i * 4)) 4 = some (f i).cells := by
      have : Inhabited C16 := ⟨⟨0, 0, 0, ⟨none, 0, []⟩⟩⟩
      exact choose_lt each
    refine ⟨some x, m, (List.range len).map f, by simp, by simp; omega, ?_⟩
    intro i c hc
    rw [List.getElem?_map] at hc
    obtain ⟨j, hj, rfl⟩ := Option.map_eq_some_iff.1 hc
    have hi : i < len := by
      have := (List.getElem?_eq_some_iff.1 hj).1
      simpa using this
    have hji : j = i := by rw [List.getElem?_range hi] at hj; simpa using hj.symm
    subst hji
    obtain ⟨h1, h2⟩ := hf2 j hi
    refine ⟨h1, ?_⟩
    obtain ⟨_, h4⟩ := World.cells?_some h2
    have hsp : x.spot = none := by
      obtain ⟨_, h6⟩ := World.cells?_some (hf2 0 (by omega)).2
      have h7 := h6.2 0 (by omega)
      have h8 : W.cell? x = some (.int .i64 (f 0).d) := h7
      exact World.cell?_spot h8
    obtain ⟨b, o, sp⟩ := x
    dsimp only at hsp
    subst hsp
    refine ⟨b, o, rfl, fun k v hv => ?_⟩
    have hk : k < 4 := by
      have := (List.getElem?_eq_some_iff.1 hv).1
      rw [h4.1] at this
      exact this
    have := h4.2 k hk
    rw [Addr.add_lit, Addr.add_lit] at this
    rw [this, hv]

/-- few, from a place on. -/
def fewFrom16 : Nat → List C16 → Bool
  | _, [] => true
  | k, c :: cs => if 80 ≤ k ∨ 300 < c.s.b.length then false else fewFrom16 (k + 1) cs

theorem fewFrom16_len (l : List C16) : ∀ k, fewFrom16 k l = true → k ≤ 80 → k + l.length ≤ 80 ∧ ∀ c ∈ l, c.s.b.length ≤ 300 := by
  induction l with
  | nil => intro k _ hk; simp; omega
  | cons c cs ih =>
    intro k h hk
    unfold fewFrom16 at h
    split at h
    · cases h
    · obtain ⟨h1, h2⟩ := ih (k + 1) h (by omega)
      simp only [List.length_cons, List.mem_cons]
      refine ⟨by omega, ?_⟩
      rintro x (rfl | hx)
      · omega
      · exact h2 x hx

set_option maxRecDepth 100000 in
set_option maxHeartbeats 400000 in
theorem few16_calls {w : World} (a : Option Addr) (c : Nat) (l : List C16) (hl : Calls16 w a l) (hm : l.length ≤ maxLen) :
    Calls Try.prog 30 #[.slice a l.length c] w (BoolPost w (fewFrom16 0 l)) := by
  unfold maxLen at hm
  go_enter Try.func30, Try.ntmps30
  go_wp2_with fail
  go_loopw [7] (fun i wr => ∃ k : Nat, k ≤ l.length ∧ i = .int .i64 k ∧ fewFrom16 k (l.drop k) = fewFrom16 0 l ∧ Keeps [] w wr) (fun i _ => l.length - (intOf i).toNat)
  case atStart => exact ⟨0, Nat.zero_le _, rfl, by simp, Keeps.refl _ _⟩
  case round =>
    obtain ⟨k, hk, rfl, hf, hK⟩ := hrel
    by_cases hlt : k < l.length
    · obtain ⟨hok, b, o, rfl, hc⟩ := (hl.below hK.belowAll (fun c h => h.below hK.belowAll)) k l[k] (by simp [hlt])
      rw [List.drop_eq_getElem_cons hlt, fewFrom16] at hf
      generalize l[k] = x at *
      have c0 : wr.cell? ⟨b, o + k * 4, none⟩ = some (.int .i64 x.d) := hc 0 _ rfl
      have c1 := hc 1 _ rfl
      have c2 := hc 2 _ rfl
      have c3 := hc 3 _ rfl
      unfold BS.val at c3
      clear hc
      by_cases h80 : 80 ≤ k
      · rw [if_pos (.inl h80)] at hf
        have Hf := Lib.hid hf
        have h80' : (80 : Int) ≤ (k : Int) := by omega
        clear hf h80
        go_wp2_with fail
        go_ret
        exact ⟨by rw [← Hf.out]; rfl, hK.alloc _⟩
      · have h80' : (k : Int) < 80 := by omega
        by_cases h300 : 300 < x.s.b.length
        · rw [if_pos (.inr h300)] at hf
          have Hf := Lib.hid hf
          have h300' : (300 : Int) < (x.s.b.length : Int) := by omega
          clear hf h80 h300
          go_wp2_with fail
          go_ret
          exact ⟨by rw [← Hf.out]; rfl, hK.alloc _⟩
        · rw [if_neg (by omega)] at hf
          have Hf := Lib.hid hf
          have h300' : (x.s.b.length : Int) ≤ 300 := by omega
          clear hf h80 h300
          go_wp2_with fail
          go_roundw
          case rel => exact ⟨k + 1, by omega, by go_num, Hf.out, hK.alloc _⟩
          case measure => simp [intOf]; omega
    · have hkl : k = l.length := by omega
      subst hkl
      rw [List.drop_length, fewFrom16] at hf
      have Hf := Lib.hid hf
      clear hf hl
      go_wp2_with fail
      go_ret
      exact ⟨by rw [← Hf.out]; rfl, hK⟩

end Go.Proofs.Ythjojkkjdaoocaa
