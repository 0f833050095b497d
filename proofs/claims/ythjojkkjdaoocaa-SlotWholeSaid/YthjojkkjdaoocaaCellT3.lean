/-
  CellT3: the cell tells what was there, or what was written, whole, wherever power goes.
-/
import Derived.Test.YthjojkkjdaoocaaCellT2
set_option linter.unusedVariables false
set_option linter.unusedSimpArgs false
namespace Go.Proofs.Ythjojkkjdaoocaa
open Go.RowKit

/-- A sector that does not count beside a copy of number cur. -/
def Other (s : List UInt8) (cur : UInt32) : Prop := Dead s ∨ ∃ n b k, Headed s n b k ∧ n.toNat < cur.toNat

structure CellIs (F : Fla) (C : Nat) (cur : UInt32) (was : List UInt8) : Prop where
  C2 : C < 2
  small : cur.toNat < 16777216
  head : Headed (secOf F.b C) cur was 0
  other : Other (secOf F.b (1 - C)) cur

theorem Other.copy {s : List UInt8} {cur : UInt32} (h : Other s cur) (hs : cur.toNat < 16777216) : cellCopy s = none ∨ ∃ n b, cellCopy s = some (n, b) ∧ n.toNat < cur.toNat := by
  rcases h with h | ⟨n, b, k, h, hn⟩
  · exact .inl h.copy
  · by_cases hk : k = 0
    · subst hk; exact .inr ⟨n, b, h.copy0, hn⟩
    · exact .inl (h.copyk hk (by omega))

theorem Other.wornTo {s : List UInt8} {cur : UInt32} (h : Other s cur) {m : Nat} (hm : m ≤ 256) : Other (worn s m) cur := by
  rcases h with h | ⟨n, b, k, h, hn⟩
  · exact .inl (h.wornTo hm)
  · rcases h.wornTo hm with ⟨j, hj⟩ | hd
    · exact .inr ⟨n, b, j, hj, hn⟩
    · exact .inl hd

theorem Other.mono {s : List UInt8} {c d : UInt32} (h : Other s c) (hcd : c.toNat ≤ d.toNat) : Other s d := by
  rcases h with h | ⟨n, b, k, h, hn⟩
  · exact .inl h
  · exact .inr ⟨n, b, k, h, by omega⟩

theorem Fla.whole_eq {F : Fla} (hd : F.down = false) (k : Nat) : F.whole k = cellCopy (secOf F.b k) := by unfold Fla.whole; rw [if_neg (by simp [hd])]; rfl

theorem found_eq (F : Fla) : F.found = Fla.stepF (Fla.stepF none 0 (F.whole 0)) 1 (F.whole 1) := rfl

set_option maxRecDepth 100000 in
theorem CellIs.found {F : Fla} {C : Nat} {cur : UInt32} {was : List UInt8} (h : CellIs F C cur was) (hd : F.down = false) : F.found = some (cur, was, C) := by
  have h0 := h.head.copy0
  have h1 := h.other.copy h.small
  have hC := h.C2
  rw [found_eq, F.whole_eq hd, F.whole_eq hd]
  clear h
  rcases Nat.lt_or_ge C 1 with hc | hc
  · obtain rfl : C = 0 := by omega
    rw [h0]
    rcases h1 with h1 | ⟨n, b, h1, hn⟩
    · rw [show (1 - 0) = 1 from rfl] at h1
      rw [h1]; rfl
    · rw [show (1 - 0) = 1 from rfl] at h1
      rw [h1]
      exact Fla.step_keep (st := some (cur, was, 0)) (by simp [Fla.stAt]) (by simp only [Fla.stNum, Option.map_some, Option.getD_some]; omega)
  · obtain rfl : C = 1 := by omega
    rw [h0]
    rcases h1 with h1 | ⟨n, b, h1, hn⟩
    · rw [show (1 - 1) = 0 from rfl] at h1
      rw [h1]; rfl
    · rw [show (1 - 1) = 0 from rfl] at h1
      rw [h1]
      exact Fla.step_take (st := some (n, b, 0)) (.inr (by simp only [Fla.stNum, Option.map_some, Option.getD_some]; omega))

theorem found_none {F : Fla} (h0 : Dead (secOf F.b 0)) (h1 : Dead (secOf F.b 1)) : F.found = none := by
  rw [found_eq]
  have w (k : Nat) (h : Dead (secOf F.b k)) : F.whole k = none := by
    unfold Fla.whole
    split
    · rfl
    · exact h.copy
  rw [w 0 h0, w 1 h1]; rfl

theorem CellIs.read {F : Fla} {C : Nat} {cur : UInt32} {was : List UInt8} (h : CellIs F C cur was) (hd : F.down = false) : F.cellRead = (was, 0) := by
  unfold Fla.cellRead
  rw [if_neg (by simp [hd]), h.found hd, if_neg (by simp only [Fla.stAt]; omega)]
  rfl

/-- What is as it was but for the cell's two sectors and the counts. -/
structure Rest (F G : Fla) (T : Nat) : Prop where
  len : G.b.length = 3584
  er : G.er = F.er.set T (wrap64 (F.er.getD T 0 + 1))
  wear : G.wear = F.wear
  fused : G.fused = F.fused
  secs : ∀ j, j < 14 → j ≠ T → secOf G.b j = secOf F.b j
  l1 : G.left ≤ 9223372036854775807
  l2 : -9223372036854775808 ≤ G.left
  s1 : G.steps ≤ 9223372036854775807
  s2 : -9223372036854775808 ≤ G.steps

theorem cellPut_is {F : Fla} (hG : Good F) (T : Nat) (hT : T < 2) (hw : F.er.getD T 0 < F.wear) (cur : UInt32) (b : List UInt8) (hb : b.length ≤ 245) (hcur : cur.toNat + 1 < 16777216) (ho : Other (secOf F.b T) cur) :
    ∃ G e, F.cellPut T (T * 256 : Nat) (Fla.cellOut (cur + 1) b) = (G, e) ∧ Rest F G T ∧
      ((e = 0 ∧ Good G ∧ Headed (secOf G.b T) (cur + 1) b 0 ∧ G.steps = wrap64 (F.steps + (12 + b.length))) ∨
       (e = 11 ∧ G.down = true ∧ F.fused = true ∧ (Other (secOf G.b T) cur ∨ Headed (secOf G.b T) (cur + 1) b 0))) := by
  obtain ⟨G, e, h1, h2, h3, h4, h5, h6, h7, h8⟩ := cellPut_spec hG T hT hw (cur + 1) b hb
  refine ⟨G, e, h1, ⟨h2, h3, h4, h5, h6, h7.2.1, h7.1, h7.2.2.2, h7.2.2.1⟩, ?_⟩
  rcases h8 with ⟨he, hg, hh, hs, _⟩ | ⟨he, hd, hf, hh⟩
  · exact .inl ⟨he, hg, hh, hs⟩
  · refine .inr ⟨he, hd, hf, ?_⟩
    rcases hh with ⟨m, hm, hh⟩ | hh | hh
    · rw [hh]; exact .inl (ho.wornTo hm)
    · exact .inl (.inl hh)
    · exact .inr hh

theorem succ_toNat {cur : UInt32} (h : cur.toNat + 1 < 16777216) : (cur + 1).toNat = cur.toNat + 1 := by
  rw [UInt32.toNat_add]
  show (cur.toNat + 1) % 4294967296 = _
  omega

/-- A write over a cell: what was, or what is written; what is written, if it says OK. -/
theorem CellIs.write {F : Fla} {C : Nat} {cur : UInt32} {was : List UInt8} (h : CellIs F C cur was) (hG : Good F) (hw : F.er.getD (1 - C) 0 < F.wear) (b : List UInt8) (hb : b.length ≤ 245) (hcur : cur.toNat + 1 < 16777216) :
    ∃ G e, F.cellWrite b = (G, e) ∧ Rest F G (1 - C) ∧
      ((e = 0 ∧ Good G ∧ CellIs G (1 - C) (cur + 1) b ∧ G.steps = wrap64 (F.steps + (12 + b.length))) ∨
       (e = 11 ∧ G.down = true ∧ F.fused = true ∧ (CellIs G C cur was ∨ CellIs G (1 - C) (cur + 1) b))) := by
  have hC := h.C2
  have hf := h.found hG.down
  have hs := succ_toNat hcur
  have hmax : ¬ (cur = 4294967295) := fun e => by
    rw [e] at hcur
    exact absurd hcur (by decide)
  have hW : F.cellWrite b = F.cellPut (1 - C : Nat) ((1 - C) * 256 : Nat) (Fla.cellOut (cur + 1) b) := by
    unfold Fla.cellWrite
    rw [if_neg (by omega), if_neg (by simp [hG.down]), hf]
    show (if cur = 4294967295 then _ else if ((C : Int) = 0) then _ else _) = _
    rw [if_neg hmax]
    match C, hC with
    | 0, _ => rfl
    | 1, _ => rfl
  obtain ⟨G, e, h1, hR, h2⟩ := cellPut_is hG (1 - C) (by omega) hw cur b hb hcur h.other
  have hsC : secOf G.b C = secOf F.b C := hR.secs C (by omega) (by omega)
  have hn : Headed (secOf G.b (1 - C)) (cur + 1) b 0 → CellIs G (1 - C) (cur + 1) b := fun hh =>
    ⟨by omega, by omega, hh, by rw [show 1 - (1 - C) = C from by omega, hsC]; exact .inr ⟨cur, was, 0, h.head, by omega⟩⟩
  refine ⟨G, e, hW.trans h1, hR, ?_⟩
  rcases h2 with ⟨he, hg, hh, hst⟩ | ⟨he, hd, hfu, hh⟩
  · exact .inl ⟨he, hg, hn hh, hst⟩
  · refine .inr ⟨he, hd, hfu, ?_⟩
    rcases hh with hh | hh
    · exact .inl ⟨hC, h.small, by rw [hsC]; exact h.head, hh⟩
    · exact .inr (hn hh)

/-- The first write. -/
theorem cell_first {F : Fla} (hG : Good F) (h0 : Dead (secOf F.b 0)) (h1 : Dead (secOf F.b 1)) (hw : F.er.getD 0 0 < F.wear) (hf : F.fused = false) (b : List UInt8) (hb : b.length ≤ 245) :
    ∃ G, F.cellWrite b = (G, 0) ∧ Rest F G 0 ∧ Good G ∧ CellIs G 0 1 b ∧ G.steps = wrap64 (F.steps + (12 + b.length)) := by
  have hW : F.cellWrite b = F.cellPut (0 : Nat) (0 * 256 : Nat) (Fla.cellOut (0 + 1) b) := by
    unfold Fla.cellWrite
    rw [if_neg (by omega), if_neg (by simp [hG.down]), found_none h0 h1]
    rfl
  obtain ⟨G, e, he, hR, h2⟩ := cellPut_is hG 0 (by omega) hw 0 b hb (by decide) (.inl h0)
  rcases h2 with ⟨rfl, hg, hh, hst⟩ | ⟨_, _, hfu, _⟩
  · exact ⟨G, hW.trans he, hR, hg, ⟨by omega, by decide, hh, .inl (by rw [hR.secs 1 (by omega) (by omega)]; exact h1)⟩, hst⟩
  · rw [hf] at hfu; cases hfu

theorem blank_dead : Dead (List.replicate 256 255) := ⟨List.length_replicate, .inl (cpLen_dead (replicate_getD _ _ (by omega)))⟩

theorem secOf_blank {k : Nat} (hk : k < 14) : secOf blankAll k = List.replicate 256 255 := by
  apply ext_getD
  · rw [secOf_len blankAll_len hk, List.length_replicate]
  · intro i hi
    rw [secOf_len blankAll_len hk] at hi
    rw [secOf_getD hi, replicate_getD _ _ hi]
    unfold blankAll
    exact replicate_getD _ _ (by omega)

theorem new_good (wear : Int) : Good (Fla.new wear) := ⟨blankAll_len, rfl, rfl, (fun h => Bool.noConfusion h), (by show (0 : Int) ≤ _; omega), (by show _ ≤ (0 : Int); omega), (by show (0 : Int) ≤ _; omega), (by show _ ≤ (0 : Int); omega)⟩

theorem fuse_good {F : Fla} (h : Good F) {n t : Int} (h0 : 0 ≤ n) (hn : n ≤ 9223372036854775807) : Good (F.fuse n t) :=
  ⟨h.len, h.er, h.down, fun _ => h0, hn, by show _ ≤ n; omega, h.s1, h.s2⟩

theorem start_good {F G : Fla} {T : Nat} (h : Rest F G T) (he : F.er.length = 14) : Good G.start := by
  refine ⟨h.len, by show G.er.length = 14; rw [h.er, List.length_set, he], rfl, ?_, h.l1, h.l2, h.s1, h.s2⟩
  intro hf
  have : (G.fused && decide (0 ≤ G.left)) = true := hf
  simp only [Bool.and_eq_true, decide_eq_true_eq] at this
  exact this.2

theorem CellIs.start {F : Fla} {C : Nat} {cur : UInt32} {was : List UInt8} (h : CellIs F C cur was) : CellIs F.start C cur was := ⟨h.C2, h.small, h.head, h.other⟩
theorem CellIs.fuse {F : Fla} {C : Nat} {cur : UInt32} {was : List UInt8} (h : CellIs F C cur was) (n t : Int) : CellIs (F.fuse n t) C cur was := ⟨h.C2, h.small, h.head, h.other⟩

end Go.Proofs.Ythjojkkjdaoocaa
