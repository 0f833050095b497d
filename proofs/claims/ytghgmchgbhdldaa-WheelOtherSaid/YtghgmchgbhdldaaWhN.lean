/-
  WhN: slices of records that the code itself made, whose blocks meet a condition; append of one record.
-/
import Derived.Test.YtghgmchgbhdldaaSameR
set_option linter.unusedVariables false
namespace Go.Proofs.Ytghgmchgbhdldaa
open Go.RowKit

/-- A slice of records that the code owns: its row and each record's bytes lie in blocks that meet N; none of the bytes in the row's. -/
def RecsN (w : World) (N : Nat → Prop) (v : Value) (l : List Rec) : Prop :=
  ∃ vs : List Value, vs.length = l.length ∧ w.ownsRow 0 43 2 v l.length (recCells l vs) ∧ (∀ g, v.ownBlock = some g → N g) ∧
    ∀ (i : Nat) (d : Rec) (x : Value), l[i]? = some d → vs[i]? = some x → Slx w (fun k => N k ∧ v.ownBlock ≠ some k) x d.2

theorem RecsN.nil (w : World) (N : Nat → Prop) : RecsN w N (.slice none 0 0) [] := ⟨[], rfl, World.ownsRow_nil _ _ _ _, by simp [Value.ownBlock], by intro i d x h; simp at h⟩

theorem RecsN.keeps {S : List Nat} {w w' : World} {N N' : Nat → Prop} {v : Value} {l : List Rec} (h : RecsN w N v l) (k : Keeps S w w') (hS : ∀ x, x ∈ S → ¬ N x) (hN : ∀ k, N k → k < w.heap.size → N' k) : RecsN w' N' v l := by
  obtain ⟨vs, h1, h2, h4, h3⟩ := h
  have hown : ∀ g, v.ownBlock = some g → g < w.heap.size := by
    intro g hg
    rcases h2.2 with ⟨rfl, _⟩ | ⟨g', cap, cur, rfl, hb, hgg, rest⟩
    · simp [Value.ownBlock] at hg
    · simp [Value.ownBlock] at hg; subst hg; exact (Array.getElem?_eq_some_iff.1 hgg).1
  refine ⟨vs, h1, ⟨h2.1, ?_⟩, fun g hg => hN g (h4 g hg) (hown g hg), fun i d x hd hx => (h3 i d x hd hx).keeps k (fun x hx hm => hS x hx hm.1) (fun k hk hlt => ⟨hN k hk.1 hlt, hk.2⟩)⟩
  rcases h2.2 with hn | ⟨g, cap, cur, rfl, hb, hg, rest⟩
  · exact .inl hn
  · exact .inr ⟨g, cap, cur, rfl, hb, (k.block g (Array.getElem?_eq_some_iff.1 hg).1 (fun hm => hS g hm (h4 g rfl))).trans hg, rest⟩

theorem RecsN.recs {w : World} {N : Nat → Prop} {v : Value} {l : List Rec} (h : RecsN w N v l) : Recs w 0 v l := by
  obtain ⟨vs, h1, h2, h4, h3⟩ := h
  exact ⟨vs, h1, h2, fun i d x hd hx => (h3 i d x hd hx).keeps (Keeps.refl [] w) (by simp) (fun k hk _ => ⟨Nat.zero_le _, hk.2⟩)⟩

theorem RecsN.mono {w : World} {N N' : Nat → Prop} {v : Value} {l : List Rec} (h : RecsN w N v l) (hN : ∀ k, N k → k < w.heap.size → N' k) : RecsN w N' v l := h.keeps (Keeps.refl [] w) (by simp) hN

/-- append of one record, at a step of a region that draws its order. -/
theorem step_append_recN {w : World} {ops : Array Oper} {o : Oper} {a : Act} {K : Act → World → Prop} {Q : Exit → Act → World → Prop} {E : Prop} (hgd : o.guard = none) (s x : Operand)
    (ho : o.op = .call { callee := .builtin .append, args := #[s, x], argTypes := #[33, 33] })
    {N : Nat → Prop} (N' : World → Nat → Prop) {v : Value} {l : List Rec} (h : RecsN w N v l) (hs : a.eval s = v) (b c : Nat) (hx : a.eval x = .slice (some ⟨b, 0, none⟩) 1 c) (id : UInt32) (x' : Value) (d : List UInt8)
    (hb : Blk w b 43 [B32 id, x']) (hx' : Slx w (fun k => N k ∧ v.ownBlock ≠ some k) x' d) (hlen : l.length ≤ 100000)
    (hN : ∀ w' k, w.grownBy w' v.ownBlock → N k → k < w.heap.size → v.ownBlock ≠ some k → N' w' k)
    (hNg : ∀ w' g cur, w.grownBy w' v.ownBlock → w'.heap[g]? = some (.cells cur 43 (0, 0)) → (v.ownBlock = some g ∧ N g ∨ g = w.heap.size) → N' w' g)
    (hK : ∀ g cap w', RecsN w' (N' w') (.slice (some ⟨g, 0, none⟩) (l.length + 1) cap) (l ++ [(id, d)]) → w.grownBy w' v.ownBlock → (v.ownBlock = some g ∨ g = w.heap.size) → g < w'.heap.size →
      K (a.put o.dst (.slice (some ⟨g, 0, none⟩) (l.length + 1) cap)) w') :
    if Region.wanted o (yielded ops a.tmps) = true then Oper.wp Try.prog o a w K Q else E := by
  obtain ⟨i0, hi, hz0, hz1, hz2⟩ := info_parts Try.info_rec
  obtain ⟨vs, h1, h2, h4, h3⟩ := h
  have hx'c := hx'
  obtain ⟨ax, cx, rfl, _⟩ := hx'
  refine step_append_lies (P := Try.prog) w hgd s x 33 ho 0 43 i0 _ 2 32 Try.underlying33 hi hz0 hz1 hz2 rfl (by decide) v l.length (recCells l vs) hs h2
    ⟨b, 0, none⟩ 1 c [B32 id, .slice ax d.length cx] hx rfl ?_ ?_ (by decide) (by unfold maxLen; omega) (by omega) (Nat.zero_le _) w.heap.size rfl ?_
  · exact World.news_of_block (cs := #[B32 id, .slice ax d.length cx]) hb
  · intro u hu
    simp only [List.mem_cons, List.not_mem_nil, or_false] at hu
    rcases hu with rfl | rfl <;> rfl
  · intro g cap w' hO hG hg hlt
    refine hK g cap w' ⟨vs ++ [.slice ax d.length cx], by simp [h1], ?_, ?_, ?_⟩ hG hg hlt
    · rw [recCells_snoc _ _ _ _ h1, List.length_append]
      exact hO
    · intro g' hg'
      simp only [Value.ownBlock, Option.some.injEq] at hg'
      subst hg'
      rcases hO.2 with ⟨hn, _⟩ | ⟨g', cap', cur, he, _, hgg, _⟩
      · simp at hn
      · simp only [Value.slice.injEq, Option.some.injEq, Addr.mk.injEq] at he
        obtain ⟨⟨rfl, _⟩, _⟩ := he
        exact hNg w' _ cur hG hgg (hg.imp (fun h => ⟨h, h4 _ h⟩) (fun h => h))
    · have hk : Keeps v.ownBlock.toList w w' := (Keeps.refl _ w).grown hG (by intro k hk; rw [hk]; simp)
      have hN2 : ∀ k, (N k ∧ v.ownBlock ≠ some k) → k < w.heap.size → N' w' k ∧ Value.ownBlock (.slice (some ⟨g, 0, none⟩) (l.length + 1) cap) ≠ some k := by
        intro k ⟨hk1, hk2⟩ hk3
        refine ⟨hN w' k hG hk1 hk3 hk2, ?_⟩
        simp only [Value.ownBlock, ne_eq, Option.some.injEq]
        rintro rfl
        rcases hg with hg | hg
        · exact hk2 hg
        · omega
      intro i e y he hy
      have hS : ∀ x, x ∈ v.ownBlock.toList → ¬ (N x ∧ v.ownBlock ≠ some x) := by
        intro x hx hc
        exact hc.2 (by simpa using hx)
      rcases Nat.lt_or_ge i l.length with hil | hil
      · rw [List.getElem?_append_left hil] at he
        rw [List.getElem?_append_left (by omega)] at hy
        exact (h3 i e y he hy).keeps hk hS hN2
      · rw [List.getElem?_append_right hil] at he
        rw [List.getElem?_append_right (by omega), h1] at hy
        have hi0 : i - l.length = 0 := by
          have := (List.getElem?_eq_some_iff.1 he).1
          simp at this
          omega
        rw [hi0] at he hy
        simp only [List.getElem?_cons_zero, Option.some.injEq] at he hy
        subst he hy
        exact hx'c.keeps hk hS hN2

/-- .. at the operation, in a region that draws nothing. -/
theorem wpList_append_recN {w : World} {ops : Array Oper} {rest : List Oper} {o : Oper} {a : Act} {Q : Exit → Act → World → Prop} (hgd : o.guard = none) (s x : Operand)
    (ho : o.op = .call { callee := .builtin .append, args := #[s, x], argTypes := #[33, 33] })
    {N : Nat → Prop} (N' : World → Nat → Prop) {v : Value} {l : List Rec} (h : RecsN w N v l) (hs : a.eval s = v) (b c : Nat) (hx : a.eval x = .slice (some ⟨b, 0, none⟩) 1 c) (id : UInt32) (x' : Value) (d : List UInt8)
    (hb : Blk w b 43 [B32 id, x']) (hx' : Slx w (fun k => N k ∧ v.ownBlock ≠ some k) x' d) (hlen : l.length ≤ 100000)
    (hN : ∀ w' k, w.grownBy w' v.ownBlock → N k → k < w.heap.size → v.ownBlock ≠ some k → N' w' k)
    (hNg : ∀ w' g cur, w.grownBy w' v.ownBlock → w'.heap[g]? = some (.cells cur 43 (0, 0)) → (v.ownBlock = some g ∧ N g ∨ g = w.heap.size) → N' w' g)
    (hK : ∀ g cap w', RecsN w' (N' w') (.slice (some ⟨g, 0, none⟩) (l.length + 1) cap) (l ++ [(id, d)]) → w.grownBy w' v.ownBlock → (v.ownBlock = some g ∨ g = w.heap.size) → g < w'.heap.size →
      wpList Try.prog ops Q rest (a.put o.dst (.slice (some ⟨g, 0, none⟩) (l.length + 1) cap)) w') : wpList Try.prog ops Q (o :: rest) a w := by
  refine wpList_plain hgd fun K hK' => ?_
  have := step_append_recN (ops := #[]) (Q := Q) (K := K) (E := True) hgd s x ho N' h hs b c hx id x' d hb hx' hlen hN hNg (fun g cap w' h1 h2 h3 h4 => hK' _ _ (hK g cap w' h1 h2 h3 h4))
  rw [if_pos (by simp [Region.wanted, hgd])] at this
  exact this

end Go.Proofs.Ytghgmchgbhdldaa
