/-
  Rows16: slices of structs that came in; the calls of layer 16's statements, opened; 'few' walked.
-/
import Derived.Test.YthjojkkjdaoocaaRowB
import Derived.Test.YthjojkkjdaoocaaFlashN
import Derived.Deep.Slices
import Derived.Lib.SmallJoins
set_option linter.unusedVariables false
namespace Go.Proofs.Ythjojkkjdaoocaa
open Go.ChangeShapes Go.WideShapes Go.ChangeAt Go.RowKit Go.Deep Go.Joins

/-- A slice of structs, each of k cells, reads as the list l. -/
def RowsAt {C : Type} (cells : C → List Value) (ok : World → C → Prop) (k : Nat) (w : World) (a : Option Addr) (l : List C) : Prop :=
  ∀ i c, l[i]? = some c → ok w c ∧ ∃ b o, a = some ⟨b, o, none⟩ ∧ ∀ j v, (cells c)[j]? = some v → w.cell? ⟨b, o + i * k + j, none⟩ = some v

theorem below_rd {w w' : World} {a : Option Addr} {l : List UInt8} (k : Below w.heap.size w w') (h : Rd w a l) : Rd w' a l := by
  intro i u hu
  obtain ⟨b, o, rfl, hc⟩ := h i u hu
  exact ⟨b, o, rfl, (k.cell (p := ⟨b, o + i, none⟩) (World.block_lt_of_cell? w _ hc)).trans hc⟩

theorem RowsAt.below {C : Type} {cells : C → List Value} {ok : World → C → Prop} {k : Nat} {w w' : World} {a : Option Addr} {l : List C} (h : RowsAt cells ok k w a l) (hb : Below w.heap.size w w')
    (hok : ∀ c, ok w c → ok w' c) : RowsAt cells ok k w' a l := by
  intro i c hc
  obtain ⟨h1, b, o, rfl, hj⟩ := h i c hc
  exact ⟨hok c h1, b, o, rfl, fun j v hv => (hb.cell (p := ⟨b, o + i * k + j, none⟩) (World.block_lt_of_cell? w _ (hj j v hv))).trans (hj j v hv)⟩

/-- Bytes within a struct that came in. -/
structure BS where
  A : Option Addr
  cap : Nat
  b : List UInt8

def BS.val (s : BS) : Value := .slice s.A s.b.length s.cap
structure BS.ok (w : World) (s : BS) : Prop where
  le : s.b.length ≤ s.cap
  max : s.cap ≤ maxLen
  rd : Rd w s.A s.b
  nil : s.A = none → s.b = []

theorem BS.ok.below {w w' : World} {s : BS} (h : s.ok w) (hb : Below w.heap.size w w') : s.ok w' := ⟨h.le, h.max, below_rd hb h.rd, h.nil⟩

set_option maxRecDepth 100000 in
theorem open_bs {H : Type} {enc : TypeId × Value → H} {W : World} {fuel : Nat} {cs : List Value} {x : DataW H × List MemPlace}
    (h : DataW.trod enc Try.prog W 0 (fun _ => true) true fuel 22 cs = some x) : ∃ s : BS, cs = [s.val] ∧ s.ok W := by
  rcases open_ints Try.underlying22 Try.underlying5 (by kernel_rfl) h with ⟨hcs, _⟩ | ⟨x, l, c, zs, hcs, _, hl, hm, hz, _, hcell, hwz⟩
  · exact ⟨⟨none, 0, []⟩, hcs, ⟨by simp, by simp, Rd.nil _ _, fun _ => rfl⟩⟩
  · simp only [↓reduceIte] at hz
    have hlen : ((zs.take l).map (fun z => UInt8.ofNat z.toNat)).length = l := by rw [List.length_map, List.length_take]; omega
    refine ⟨⟨some x, c, (zs.take l).map (fun z => UInt8.ofNat z.toNat)⟩, by rw [hcs]; unfold BS.val; simp only [hlen], ⟨by simp only [hlen]; omega, hm, ?_, by simp⟩⟩
    intro i u hu
    simp only at hu
    have hi : i < l := by
      have := (List.getElem?_eq_some_iff.1 hu).1
      omega
    obtain ⟨b, o, rfl, hc⟩ := ints_at hcell (by omega)
    refine ⟨b, o, rfl, ?_⟩
    rw [hc i (by omega)]
    rw [List.getElem?_map, List.getElem?_take, if_pos hi, List.getElem?_eq_getElem (by omega), Option.map_some, Option.some.injEq] at hu
    subst hu
    have hz0 : zs.getD i 0 = zs[i] := by simp [List.getD, List.getElem?_eq_getElem (show i < zs.length by omega)]
    rw [hz0]
    have hw := hwz zs[i] (List.getElem_mem _)
    have hb : 0 ≤ zs[i] ∧ zs[i] ≤ 255 := by simpa [Lit.wf, IntKind.has, IntKind.min, IntKind.max, IntKind.signed, IntKind.bits] using hw
    show some (Value.int .u8 zs[i]) = some (.int .u8 ((UInt8.ofNat zs[i].toNat).toNat : Int))
    rw [UInt8.toNat_ofNat']
    congr 2
    omega

theorem open_int1 {H : Type} {enc : TypeId × Value → H} {W : World} {fuel : Nat} {cs : List Value} {x : DataW H × List MemPlace} {t : TypeId} {k : IntKind} (ht : Try.prog.underlying t = some (.int k))
    (h : DataW.trod enc Try.prog W 0 (fun _ => true) true fuel t cs = some x) : ∃ n : Int, cs = [.int k n] ∧ (Lit.int k n).wf = true := by
  obtain ⟨n, rfl, _, hw⟩ := DataW.trod_int ht h
  exact ⟨n, rfl, hw⟩

/-- A call of layer 16's statements. -/
structure C16 where
  d : Int
  a : Int
  n : Int
  s : BS

def C16.cells (c : C16) : List Value := [.int .i64 c.d, .int .i64 c.a, .int .i64 c.n, c.s.val]
structure C16.ok (w : World) (c : C16) : Prop where
  d : (Lit.int .i64 c.d).wf = true
  a : (Lit.int .i64 c.a).wf = true
  n : (Lit.int .i64 c.n).wf = true
  s : c.s.ok w

theorem C16.ok.below {w w' : World} {c : C16} (h : c.ok w) (hb : Below w.heap.size w w') : c.ok w' := ⟨h.d, h.a, h.n, h.s.below hb⟩

abbrev Calls16 := RowsAt C16.cells C16.ok 4

set_option maxRecDepth 100000 in
theorem open_calls16 {H : Type} {enc : TypeId × Value → H} {W : World} {v : Value} {d : DataW H} {ps : List MemPlace} {base : Nat}
    (hv : Value.okWide Try.prog W .any base 36 v) (h : DataW.Trod enc Try.prog W 0 (fun _ => true) true 36 v d ps) :
    ∃ a c l, v = .slice a l.length c ∧ l.length ≤ maxLen ∧ Calls16 W a l := by
  obtain ⟨a, len, cap, rfl⟩ := okWide_slice Try.underlying36 hv
  obtain ⟨fuel, hf⟩ := h
  rcases open_slice Try.underlying36 hf with ⟨hcs, _⟩ | ⟨x, len', cap', m, n, D, Pl, hcs, _, hl, hm, hmm, _, hel⟩
  · simp [Value.cells] at hcs
    obtain ⟨rfl, rfl, rfl⟩ := hcs
    exact ⟨none, 0, [], rfl, by simp, fun i c hc => by simp at hc⟩
  · simp [Value.cells] at hcs
    obtain ⟨rfl, rfl, rfl⟩ := hcs
    simp only [↓reduceIte] at hmm
    subst hmm
    have hC : Try.prog.cellsOf 39 = 4 := by kernel_rfl
    have each : ∀ i, i < len → ∃ c : C16, c.ok W ∧ W.cells? 0 (x.add (i * 4)) 4 = some c.cells := by
      intro i hi
      obtain ⟨cs, hcs, ht⟩ := hel i (by omega)
      rw [hC] at hcs
      obtain ⟨y0, y1, y2, y3, n, _, hlen, h0, h1, h2, h3⟩ := trod_struct4 Try.underlying39 ht
      rw [hC] at hlen
      match cs, hlen with
      | [c0, c1, c2, c3], _ =>
        obtain ⟨d0, e0, w0⟩ := open_int1 Try.underlying3 h0
        obtain ⟨d1, e1, w1⟩ := open_int1 Try.underlying3 h1
        obtain ⟨d2, e2, w2⟩ := open_int1 Try.underlying3 h2
        obtain ⟨s, e3, w3⟩ := open_bs h3
        have hz3 : Try.prog.cellsOf 3 = 1 := by kernel_rfl
        have hz22 : Try.prog.cellsOf 22 = 1 := by kernel_rfl
        simp [hz3] at e0 e1 e2
        simp [hz22] at e3
        exact ⟨⟨d0, d1, d2, s⟩, ⟨w0, w1, w2, w3⟩, by rw [hcs, e0, e1, e2, e3]; rfl⟩
    obtain ⟨f, hf2⟩ : ∃ f : Nat → C16, ∀ i, i < len → (f i).ok W ∧ W.cells? 0 (x.add (i * 4)) 4 = some (f i).cells := by
      have : Inhabited C16 := ⟨⟨0, 0, 0, ⟨none, 0, []⟩⟩⟩
      exact choose_lt each
    refine ⟨some x, m, (List.range len).map f, by simp, by simp; omega, ?_⟩
    intro i c hc
    rw [List.getElem?_map] at hc
    obtain ⟨j, hj, rfl⟩ := Option.map_eq_some_iff.1 hc
    have hi : i < len := by
      have := (List.getElem?_eq_some_iff.1 hj).1
      simpa using this
    have hji : j = i := by rw [List.getElem?_range hi] at hj; simpa using hj.symm
    subst hji
    obtain ⟨h1, h2⟩ := hf2 j hi
    refine ⟨h1, ?_⟩
    obtain ⟨_, h4⟩ := World.cells?_some h2
    have hsp : x.spot = none := by
      obtain ⟨_, h6⟩ := World.cells?_some (hf2 0 (by omega)).2
      have h7 := h6.2 0 (by omega)
      have h8 : W.cell? x = some (.int .i64 (f 0).d) := h7
      exact World.cell?_spot h8
    obtain ⟨b, o, sp⟩ := x
    dsimp only at hsp
    subst hsp
    refine ⟨b, o, rfl, fun k v hv => ?_⟩
    have hk : k < 4 := by
      have := (List.getElem?_eq_some_iff.1 hv).1
      rw [h4.1] at this
      exact this
    have := h4.2 k hk
    rw [Addr.add_lit, Addr.add_lit] at this
    rw [this, hv]

/-- few, from a place on. -/
def fewFrom16 : Nat → List C16 → Bool
  | _, [] => true
  | k, c :: cs => if 80 ≤ k ∨ 300 < c.s.b.length then false else fewFrom16 (k + 1) cs

theorem fewFrom16_len (l : List C16) : ∀ k, fewFrom16 k l = true → k ≤ 80 → k + l.length ≤ 80 ∧ ∀ c ∈ l, c.s.b.length ≤ 300 := by
  induction l with
  | nil => intro k _ hk; simp; omega
  | cons c cs ih =>
    intro k h hk
    unfold fewFrom16 at h
    split at h
    · cases h
    · obtain ⟨h1, h2⟩ := ih (k + 1) h (by omega)
      simp only [List.length_cons, List.mem_cons]
      refine ⟨by omega, ?_⟩
      rintro x (rfl | hx)
      · omega
      · exact h2 x hx

set_option maxRecDepth 100000 in
set_option maxHeartbeats 400000 in
theorem few16_calls {w : World} (a : Option Addr) (c : Nat) (l : List C16) (hl : Calls16 w a l) (hm : l.length ≤ maxLen) :
    Calls Try.prog 30 #[.slice a l.length c] w (BoolPost w (fewFrom16 0 l)) := by
  unfold maxLen at hm
  go_enter Try.func30, Try.ntmps30
  go_wp2_with fail
  go_loopw [7] (fun i wr => ∃ k : Nat, k ≤ l.length ∧ i = .int .i64 k ∧ fewFrom16 k (l.drop k) = fewFrom16 0 l ∧ Keeps [] w wr) (fun i _ => l.length - (intOf i).toNat)
  case atStart => exact ⟨0, Nat.zero_le _, rfl, by simp, Keeps.refl _ _⟩
  case round =>
    obtain ⟨k, hk, rfl, hf, hK⟩ := hrel
    by_cases hlt : k < l.length
    · obtain ⟨hok, b, o, rfl, hc⟩ := (hl.below hK.belowAll (fun c h => h.below hK.belowAll)) k l[k] (by simp [hlt])
      rw [List.drop_eq_getElem_cons hlt, fewFrom16] at hf
      generalize l[k] = x at *
      have c0 : wr.cell? ⟨b, o + k * 4, none⟩ = some (.int .i64 x.d) := hc 0 _ rfl
      have c1 := hc 1 _ rfl
      have c2 := hc 2 _ rfl
      have c3 := hc 3 _ rfl
      unfold BS.val at c3
      clear hc
      by_cases h80 : 80 ≤ k
      · rw [if_pos (.inl h80)] at hf
        have Hf := Lib.hid hf
        have h80' : (80 : Int) ≤ (k : Int) := by omega
        clear hf h80
        go_wp2_with fail
        go_ret
        exact ⟨by rw [← Hf.out]; rfl, hK.alloc _⟩
      · have h80' : (k : Int) < 80 := by omega
        by_cases h300 : 300 < x.s.b.length
        · rw [if_pos (.inr h300)] at hf
          have Hf := Lib.hid hf
          have h300' : (300 : Int) < (x.s.b.length : Int) := by omega
          clear hf h80 h300
          go_wp2_with fail
          go_ret
          exact ⟨by rw [← Hf.out]; rfl, hK.alloc _⟩
        · rw [if_neg (by omega)] at hf
          have Hf := Lib.hid hf
          have h300' : (x.s.b.length : Int) ≤ 300 := by omega
          clear hf h80 h300
          go_wp2_with fail
          go_roundw
          case rel => exact ⟨k + 1, by omega, by go_num, Hf.out, hK.alloc _⟩
          case measure => simp [intOf]; omega
    · have hkl : k = l.length := by omega
      subst hkl
      rw [List.drop_length, fewFrom16] at hf
      have Hf := Lib.hid hf
      clear hf hl
      go_wp2_with fail
      go_ret
      exact ⟨by rw [← Hf.out]; rfl, hK⟩

end Go.Proofs.Ythjojkkjdaoocaa
