/-
  Rows18: the calls of layer 18's statements, opened; 'few' walked.
-/
import Derived.Test.YtghgmchgbhdldaaRowS
import Derived.Test.YtghgmchgbhdldaaNumB
set_option linter.unusedVariables false
namespace Go.Proofs.Ytghgmchgbhdldaa
open Go.ChangeShapes Go.WideShapes Go.ChangeAt Go.RowKit Go.Deep Go.Joins

/-- A call: three numbers, a record's number, and bytes. -/
structure C18 where
  d : Int
  n : Int
  t : Int
  id : UInt32
  s : BS

def C18.cells (c : C18) : List Value := [.int .i64 c.d, .int .i64 c.n, .int .i64 c.t, B32 c.id, c.s.val]
structure C18.ok (w : World) (c : C18) : Prop where
  d : (Lit.int .i64 c.d).wf = true
  n : (Lit.int .i64 c.n).wf = true
  t : (Lit.int .i64 c.t).wf = true
  s : c.s.ok w

theorem C18.ok.below {w w' : World} {c : C18} (h : c.ok w) (hb : Below w.heap.size w w') : c.ok w' := ⟨h.d, h.n, h.t, h.s.below hb⟩

abbrev Calls18 := RowsAt C18.cells C18.ok 5

section
variable {H : Type} {enc : TypeId × Value → H} {P : Program} {w : World} {base : Nat} {spare : Nat → Bool} {held : Bool}

theorem trod_struct5 {t : TypeId} {f0 f1 f2 f3 f4 : Field} {fuel : Nat} {cs : List Value} {x : DataW H × List MemPlace} (ht : P.underlying t = some (.struct #[f0, f1, f2, f3, f4])) (h : DataW.trod enc P w base spare held fuel t cs = some x) :
    ∃ y0 y1 y2 y3 y4 n, cs.length = P.cellsOf t ∧ DataW.trod enc P w base spare held n f0.type ((cs.drop f0.offset).take (P.cellsOf f0.type)) = some y0 ∧
      DataW.trod enc P w base spare held n f1.type ((cs.drop f1.offset).take (P.cellsOf f1.type)) = some y1 ∧ DataW.trod enc P w base spare held n f2.type ((cs.drop f2.offset).take (P.cellsOf f2.type)) = some y2 ∧
      DataW.trod enc P w base spare held n f3.type ((cs.drop f3.offset).take (P.cellsOf f3.type)) = some y3 ∧ DataW.trod enc P w base spare held n f4.type ((cs.drop f4.offset).take (P.cellsOf f4.type)) = some y4 := by
  obtain ⟨xs, n, _, rfl, hl, hlen, hf⟩ := DataW.trod_struct ht h
  match xs, hlen with
  | [y0, y1, y2, y3, y4], _ => exact ⟨y0, y1, y2, y3, y4, n, hl, by simpa using hf 0 f0 rfl, by simpa using hf 1 f1 rfl, by simpa using hf 2 f2 rfl, by simpa using hf 3 f3 rfl, by simpa using hf 4 f4 rfl⟩

theorem array5 {α : Type} {cs : Array α} (h : cs.size = 5) : ∃ c0 c1 c2 c3 c4, cs = #[c0, c1, c2, c3, c4] := by
  obtain ⟨l⟩ := cs
  match l, h with
  | [c0, c1, c2, c3, c4], _ => exact ⟨c0, c1, c2, c3, c4, rfl⟩

theorem open_agg5 {r : Reach} {b0 : Nat} {t : TypeId} {f0 f1 f2 f3 f4 : Field} {v : Value} {d : DataW H} {p : List MemPlace} (hs : P.underlying t = some (.struct #[f0, f1, f2, f3, f4])) (hone : oneCellFields P #[f0, f1, f2, f3, f4] = true) (hC : P.cellsOf t = 5)
    (hv : Value.okWide P w r b0 t v) (h : DataW.Trod enc P w base spare held t v d p) :
    ∃ (v0 v1 v2 v3 v4 : Value) (y0 y1 y2 y3 y4 : DataW H × List MemPlace) (n : Nat), v = .agg #[v0, v1, v2, v3, v4] ∧
      DataW.trod enc P w base spare held n f0.type [v0] = some y0 ∧ DataW.trod enc P w base spare held n f1.type [v1] = some y1 ∧ DataW.trod enc P w base spare held n f2.type [v2] = some y2 ∧ DataW.trod enc P w base spare held n f3.type [v3] = some y3 ∧
      DataW.trod enc P w base spare held n f4.type [v4] = some y4 := by
  obtain ⟨cs, rfl, hsz⟩ := okWide_struct hs hv
  obtain ⟨c0, c1, c2, c3, c4, rfl⟩ := array5 (hsz.trans hC)
  obtain ⟨fuel, hf⟩ := h
  obtain ⟨y0, y1, y2, y3, y4, n, _, h0, h1, h2, h3, h4⟩ := trod_struct5 hs hf
  obtain ⟨o0, k0⟩ := hone_of hone 0 f0 rfl
  obtain ⟨o1, k1⟩ := hone_of hone 1 f1 rfl
  obtain ⟨o2, k2⟩ := hone_of hone 2 f2 rfl
  obtain ⟨o3, k3⟩ := hone_of hone 3 f3 rfl
  obtain ⟨o4, k4⟩ := hone_of hone 4 f4 rfl
  exact ⟨c0, c1, c2, c3, c4, y0, y1, y2, y3, y4, n, rfl, by simpa [Value.cells, o0, k0] using h0, by simpa [Value.cells, o1, k1] using h1, by simpa [Value.cells, o2, k2] using h2, by simpa [Value.cells, o3, k3] using h3, by simpa [Value.cells, o4, k4] using h4⟩
end

theorem u32_back {n : Int} (h : (Lit.int .u32 n).wf = true) : Value.int .u32 n = B32 (UInt32.ofNat n.toNat) := by
  have hb : 0 ≤ n ∧ n ≤ 4294967295 := by simpa [Lit.wf, IntKind.has, IntKind.min, IntKind.max, IntKind.signed, IntKind.bits] using h
  show Value.int .u32 n = .int .u32 (((UInt32.ofNat n.toNat).toNat : Nat) : Int)
  rw [UInt32.toNat_ofNat']
  congr 1
  omega

set_option maxRecDepth 100000 in
theorem open_call18 {H : Type} {enc : TypeId × Value → H} {W : World} {v : Value} {d : DataW H} {ps : List MemPlace} {base : Nat}
    (hv : Value.okWide Try.prog W .any base 25 v) (h : DataW.Trod enc Try.prog W 0 (fun _ => true) true 25 v d ps) :
    ∃ c : C18, v = .agg #[.int .i64 c.d, .int .i64 c.n, .int .i64 c.t, B32 c.id, c.s.val] ∧ c.ok W := by
  obtain ⟨v0, v1, v2, v3, v4, y0, y1, y2, y3, y4, n, rfl, h0, h1, h2, h3, h4⟩ := open_agg5 Try.underlying25 (by kernel_rfl) (by kernel_rfl) hv h
  obtain ⟨d0, e0, w0⟩ := open_int1 Try.underlying3 h0
  obtain ⟨d1, e1, w1⟩ := open_int1 Try.underlying3 h1
  obtain ⟨d2, e2, w2⟩ := open_int1 Try.underlying3 h2
  obtain ⟨d3, e3, w3⟩ := open_int1 Try.underlying22 h3
  obtain ⟨s, e4, w4⟩ := open_bs h4
  simp only [List.cons.injEq, and_true] at e0 e1 e2 e3 e4
  exact ⟨⟨d0, d1, d2, UInt32.ofNat d3.toNat, s⟩, by rw [e0, e1, e2, e3, e4, u32_back w3], ⟨w0, w1, w2, w4⟩⟩

set_option maxRecDepth 100000 in
theorem open_calls18 {H : Type} {enc : TypeId × Value → H} {W : World} {v : Value} {d : DataW H} {ps : List MemPlace} {base : Nat}
    (hv : Value.okWide Try.prog W .any base 45 v) (h : DataW.Trod enc Try.prog W 0 (fun _ => true) true 45 v d ps) :
    ∃ a c l, v = .slice a l.length c ∧ l.length ≤ maxLen ∧ Calls18 W a l := by
  obtain ⟨a, len, cap, rfl⟩ := okWide_slice Try.underlying45 hv
  obtain ⟨fuel, hf⟩ := h
  rcases open_slice Try.underlying45 hf with ⟨hcs, _⟩ | ⟨x, len', cap', m, n, D, Pl, hcs, _, hl, hm, hmm, _, hel⟩
  · simp [Value.cells] at hcs
    obtain ⟨rfl, rfl, rfl⟩ := hcs
    exact ⟨none, 0, [], rfl, by simp, fun i c hc => by simp at hc⟩
  · simp [Value.cells] at hcs
    obtain ⟨rfl, rfl, rfl⟩ := hcs
    simp only [↓reduceIte] at hmm
    subst hmm
    have hC : Try.prog.cellsOf 25 = 5 := by kernel_rfl
    have each : ∀ i, i < len → ∃ c : C18, c.ok W ∧ W.cells? 0 (x.add (i * 5)) 5 = some c.cells := by
      intro i hi
      obtain ⟨cs, hcs, ht⟩ := hel i (by omega)
      rw [hC] at hcs
      obtain ⟨y0, y1, y2, y3, y4, n, hlen, h0, h1, h2, h3, h4⟩ := trod_struct5 Try.underlying25 ht
      rw [hC] at hlen
      match cs, hlen with
      | [c0, c1, c2, c3, c4], _ =>
        obtain ⟨d0, e0, w0⟩ := open_int1 Try.underlying3 h0
        obtain ⟨d1, e1, w1⟩ := open_int1 Try.underlying3 h1
        obtain ⟨d2, e2, w2⟩ := open_int1 Try.underlying3 h2
        obtain ⟨d3, e3, w3⟩ := open_int1 Try.underlying22 h3
        obtain ⟨s, e4, w4⟩ := open_bs h4
        have hz3 : Try.prog.cellsOf 3 = 1 := by kernel_rfl
        have hz5 : Try.prog.cellsOf 22 = 1 := by kernel_rfl
        have hz22 : Try.prog.cellsOf 23 = 1 := by kernel_rfl
        simp [hz3] at e0 e1 e2
        simp [hz5] at e3
        simp [hz22] at e4
        exact ⟨⟨d0, d1, d2, UInt32.ofNat d3.toNat, s⟩, ⟨w0, w1, w2, w4⟩, by rw [hcs, e0, e1, e2, e3, e4, u32_back w3]; rfl⟩
    obtain ⟨f, hf2⟩ : ∃ f : Nat → C18, ∀ i, i < len → (f i).ok W ∧ W.cells? 0 (x.add (i * 5)) 5 = some (f i).cells := by
      have : Inhabited C18 := ⟨⟨0, 0, 0, 0, ⟨none, 0, []⟩⟩⟩
      exact choose_lt each
    refine ⟨some x, m, (List.range len).map f, by simp, by simp; omega, ?_⟩
    intro i c hc
    rw [List.getElem?_map] at hc
    obtain ⟨j, hj, rfl⟩ := Option.map_eq_some_iff.1 hc
    have hi : i < len := by
      have := (List.getElem?_eq_some_iff.1 hj).1
      simpa using this
    have hji : j = i := by rw [List.getElem?_range hi] at hj; simpa using hj.symm
    subst hji
    obtain ⟨h1, h2⟩ := hf2 j hi
    refine ⟨h1, ?_⟩
    obtain ⟨_, h4⟩ := World.cells?_some h2
    have hsp : x.spot = none := by
      obtain ⟨_, h6⟩ := World.cells?_some (hf2 0 (by omega)).2
      have h7 := h6.2 0 (by omega)
      have h8 : W.cell? x = some (.int .i64 (f 0).d) := h7
      exact World.cell?_spot h8
    obtain ⟨b, o, sp⟩ := x
    dsimp only at hsp
    subst hsp
    refine ⟨b, o, rfl, fun k v hv => ?_⟩
    have hk : k < 5 := by
      have := (List.getElem?_eq_some_iff.1 hv).1
      rw [h4.1] at this
      exact this
    have := h4.2 k hk
    rw [Addr.add_lit, Addr.add_lit] at this
    rw [this, hv]

/-- few, from a place on. -/
def fewFrom18 : Nat → List C18 → Bool
  | _, [] => true
  | k, c :: cs => if 80 ≤ k ∨ 40 < c.s.b.length then false else fewFrom18 (k + 1) cs

theorem fewFrom18_len (l : List C18) : ∀ k, fewFrom18 k l = true → k ≤ 80 → k + l.length ≤ 80 ∧ ∀ c ∈ l, c.s.b.length ≤ 40 := by
  induction l with
  | nil => intro k _ hk; simp; omega
  | cons c cs ih =>
    intro k h hk
    unfold fewFrom18 at h
    split at h
    · cases h
    · obtain ⟨h1, h2⟩ := ih (k + 1) h (by omega)
      simp only [List.length_cons, List.mem_cons]
      refine ⟨by omega, ?_⟩
      rintro x (rfl | hx)
      · omega
      · exact h2 x hx

set_option maxRecDepth 100000 in
set_option maxHeartbeats 400000 in
theorem few18_calls {w : World} (a : Option Addr) (c : Nat) (l : List C18) (hl : Calls18 w a l) (hm : l.length ≤ maxLen) :
    Calls Try.prog 27 #[.slice a l.length c] w (BoolPost w (fewFrom18 0 l)) := by
  unfold maxLen at hm
  go_enter Try.func27, Try.ntmps27
  go_wp2_with fail
  go_loopw [7] (fun i wr => ∃ k : Nat, k ≤ l.length ∧ i = .int .i64 k ∧ fewFrom18 k (l.drop k) = fewFrom18 0 l ∧ Keeps [] w wr) (fun i _ => l.length - (intOf i).toNat)
  case atStart => exact ⟨0, Nat.zero_le _, rfl, by simp, Keeps.refl _ _⟩
  case round =>
    obtain ⟨k, hk, rfl, hf, hK⟩ := hrel
    by_cases hlt : k < l.length
    · obtain ⟨hok, b, o, rfl, hc⟩ := (hl.below hK.belowAll (fun c h => h.below hK.belowAll)) k l[k] (by simp [hlt])
      rw [List.drop_eq_getElem_cons hlt, fewFrom18] at hf
      generalize l[k] = x at *
      have c0 : wr.cell? ⟨b, o + k * 5, none⟩ = some (.int .i64 x.d) := hc 0 _ rfl
      have c1 := hc 1 _ rfl
      have c2 := hc 2 _ rfl
      have c3 := hc 3 _ rfl
      have c4 := hc 4 _ rfl
      unfold BS.val at c4
      clear hc
      by_cases h80 : 80 ≤ k
      · rw [if_pos (.inl h80)] at hf
        have Hf := Lib.hid hf
        have h80' : (80 : Int) ≤ (k : Int) := by omega
        clear hf h80
        go_wp2_with fail
        go_ret
        exact ⟨by rw [← Hf.out]; rfl, hK.alloc _⟩
      · have h80' : (k : Int) < 80 := by omega
        by_cases h300 : 40 < x.s.b.length
        · rw [if_pos (.inr h300)] at hf
          have Hf := Lib.hid hf
          have h300' : (40 : Int) < (x.s.b.length : Int) := by omega
          clear hf h80 h300
          go_wp2_with fail
          go_ret
          exact ⟨by rw [← Hf.out]; rfl, hK.alloc _⟩
        · rw [if_neg (by omega)] at hf
          have Hf := Lib.hid hf
          have h300' : (x.s.b.length : Int) ≤ 40 := by omega
          clear hf h80 h300
          go_wp2_with fail
          go_roundw
          case rel => exact ⟨k + 1, by omega, by go_num, Hf.out, hK.alloc _⟩
          case measure => simp [intOf]; omega
    · have hkl : k = l.length := by omega
      subst hkl
      rw [List.drop_length, fewFrom18] at hf
      have Hf := Lib.hid hf
      clear hf hl
      go_wp2_with fail
      go_ret
      exact ⟨by rw [← Hf.out]; rfl, hK⟩

end Go.Proofs.Ytghgmchgbhdldaa
