/-
  GrWhR: the texts WhR, WhN, one behind another.
-/
import Derived.Test.YtijhaeapoapgfaaGreatDoorGrWhW
import Derived.Deep.AppendLies
set_option linter.unusedVariables false
namespace Go.Proofs.YtijhaeapoapgfaaGreatDoor
open Go.RowKit

def recCells : List Rec → List Value → List Value
  | d :: l, x :: vs => B32 d.1 :: x :: recCells l vs
  | _, _ => []

theorem recCells_snoc : ∀ (l : List Rec) (vs : List Value) (d : Rec) (x : Value), vs.length = l.length → recCells (l ++ [d]) (vs ++ [x]) = recCells l vs ++ [B32 d.1, x]
  | [], [], d, x, _ => rfl
  | [], _ :: _, _, _, h => by simp at h
  | _ :: _, [], _, _, h => by simp at h
  | e :: l, y :: vs, d, x, h => by
    simp only [List.cons_append, recCells]
    rw [recCells_snoc l vs d x (by simpa using h)]

theorem recCells_get : ∀ (l : List Rec) (vs : List Value) (i : Nat) (d : Rec) (x : Value), l[i]? = some d → vs[i]? = some x → (recCells l vs)[2 * i]? = some (B32 d.1) ∧ (recCells l vs)[2 * i + 1]? = some x
  | [], _, i, d, x, h, _ => by simp at h
  | _ :: _, [], i, d, x, _, h => by simp at h
  | e :: l, y :: vs, 0, d, x, h, k => by simp at h k; subst h k; simp [recCells]
  | e :: l, y :: vs, i + 1, d, x, h, k => by
    have := recCells_get l vs i d x (by simpa using h) (by simpa using k)
    rw [show 2 * (i + 1) = 2 * i + 2 from by omega]
    simpa [recCells] using this

/-- A slice value that reads as the bytes l; what it reads lies in blocks that meet N. -/
def Slx (w : World) (N : Nat → Prop) (v : Value) (l : List UInt8) : Prop :=
  ∃ a c, v = .slice a l.length c ∧ l.length ≤ c ∧ c ≤ 9223372036854775807 ∧ Rd w a l ∧ (a = none → l = [] ∧ c = 0) ∧ (∀ x, a = some x → l ≠ [] → N x.block ∧ x.block < w.heap.size ∧ ∃ cs, Blk w x.block 5 cs)

theorem Slb.slx {w : World} {B : Nat} {N : Nat → Prop} {v : Value} {l : List UInt8} (h : Slb w B v l) (hN : ∀ k, B ≤ k → k < w.heap.size → N k) : Slx w N v l := by
  obtain ⟨a, c, rfl, h1, h2, h3, h4, h5⟩ := h
  exact ⟨a, c, rfl, h1, h2, h3, h4, fun x hx hl => ⟨hN _ (h5 x hx hl).1 (h5 x hx hl).2.1, (h5 x hx hl).2⟩⟩

theorem Slx.keeps {S : List Nat} {w w' : World} {N N' : Nat → Prop} {v : Value} {l : List UInt8} (h : Slx w N v l) (k : Keeps S w w') (hS : ∀ x, x ∈ S → ¬ N x) (hN : ∀ k, N k → k < w.heap.size → N' k) : Slx w' N' v l := by
  obtain ⟨a, c, rfl, h1, h2, h3, h4, h5⟩ := h
  exact ⟨a, c, rfl, h1, h2, h3.keeps k (fun x hx hl hm => hS _ hm (h5 x hx hl).1), h4, fun x hx hl => ⟨hN _ (h5 x hx hl).1 (h5 x hx hl).2.1, Nat.lt_of_lt_of_le (h5 x hx hl).2.1 k.size, by obtain ⟨cs, h⟩ := (h5 x hx hl).2.2; exact ⟨cs, h.keeps k (fun hm => hS _ hm (h5 x hx hl).1)⟩⟩⟩

/-- .. where nothing but blocks that are not of bytes may have changed. -/
theorem Slx.keepsT {S : List Nat} {w w' : World} {N : Nat → Prop} {v : Value} {l : List UInt8} (h : Slx w N v l) (k : Keeps S w w') (hS : ∀ x, x ∈ S → ¬ ∃ cs, Blk w x 5 cs) : Slx w' N v l := by
  obtain ⟨a, c, rfl, h1, h2, h3, h4, h5⟩ := h
  exact ⟨a, c, rfl, h1, h2, h3.keeps k (fun x hx hl hm => hS _ hm (h5 x hx hl).2.2), h4, fun x hx hl => ⟨(h5 x hx hl).1, Nat.lt_of_lt_of_le (h5 x hx hl).2.1 k.size, by obtain ⟨cs, h⟩ := (h5 x hx hl).2.2; exact ⟨cs, h.keeps k (fun hm => hS _ hm ⟨cs, h⟩)⟩⟩⟩

theorem Slx.slb {w : World} {N : Nat → Prop} {B : Nat} {v : Value} {l : List UInt8} (h : Slx w N v l) (hN : ∀ k, N k → B ≤ k) : Slb w B v l := by
  obtain ⟨a, c, rfl, h1, h2, h3, h4, h5⟩ := h
  exact ⟨a, c, rfl, h1, h2, h3, h4, fun x hx hl => ⟨hN _ (h5 x hx hl).1, (h5 x hx hl).2⟩⟩

theorem Slx.sl {w : World} {N : Nat → Prop} {B : Nat} {v : Value} {l : List UInt8} (h : Slx w N v l) (hN : ∀ k, N k → B ≤ k) : Sl w B v l := by
  obtain ⟨a, c, rfl, h1, h2, h3, h4, h5⟩ := h
  exact ⟨a, c, rfl, h1, h2, h3, h4, fun x hx hl => ⟨hN _ (h5 x hx hl).1, (h5 x hx hl).2.1⟩⟩

/-- A slice of records that the code owns: its row in a block from B on, each record's bytes in blocks from B on, none of them the row's. -/
def Recs (w : World) (B : Nat) (v : Value) (l : List Rec) : Prop :=
  ∃ vs : List Value, vs.length = l.length ∧ w.ownsRow B 115 2 v l.length (recCells l vs) ∧
    ∀ (i : Nat) (d : Rec) (x : Value), l[i]? = some d → vs[i]? = some x → Slx w (fun k => B ≤ k ∧ v.ownBlock ≠ some k) x d.2

theorem Recs.nil (w : World) (B : Nat) : Recs w B (.slice none 0 0) [] := ⟨[], rfl, World.ownsRow_nil _ _ _ _, by intro i d x h; simp at h⟩

theorem Recs.keeps {S : List Nat} {w w' : World} {B : Nat} {v : Value} {l : List Rec} (h : Recs w B v l) (k : Keeps S w w') (hS : ∀ x, x ∈ S → x < B) : Recs w' B v l := by
  obtain ⟨vs, h1, h2, h3⟩ := h
  refine ⟨vs, h1, ⟨h2.1, ?_⟩, fun i d x hd hx => (h3 i d x hd hx).keeps k (fun x hx hm => by have := hS x hx; omega) (fun _ h _ => h)⟩
  rcases h2.2 with hn | ⟨g, cap, cur, rfl, hb, hg, rest⟩
  · exact .inl hn
  · exact .inr ⟨g, cap, cur, rfl, hb, (k.block g (Array.getElem?_eq_some_iff.1 hg).1 (fun hm => by have := hS g hm; omega)).trans hg, rest⟩

/-- .. where nothing but blocks that are neither its row nor of bytes may have changed. -/
theorem Recs.keepsT {S : List Nat} {w w' : World} {B : Nat} {v : Value} {l : List Rec} (h : Recs w B v l) (k : Keeps S w w') (hS : ∀ x, x ∈ S → v.ownBlock ≠ some x ∧ ¬ ∃ cs, Blk w x 5 cs) : Recs w' B v l := by
  obtain ⟨vs, h1, h2, h3⟩ := h
  refine ⟨vs, h1, ⟨h2.1, ?_⟩, fun i d x hd hx => (h3 i d x hd hx).keepsT k (fun x hx => (hS x hx).2)⟩
  rcases h2.2 with hn | ⟨g, cap, cur, rfl, hb, hg, rest⟩
  · exact .inl hn
  · exact .inr ⟨g, cap, cur, rfl, hb, (k.block g (Array.getElem?_eq_some_iff.1 hg).1 (fun hm => (hS g hm).1 rfl)).trans hg, rest⟩

theorem Recs.mono {w : World} {B B' : Nat} {v : Value} {l : List Rec} (h : Recs w B v l) (hB : B' ≤ B) : Recs w B' v l := by
  obtain ⟨vs, h1, h2, h3⟩ := h
  refine ⟨vs, h1, ⟨h2.1, ?_⟩, fun i d x hd hx => (h3 i d x hd hx).keeps (Keeps.refl [] w) (by simp) (fun k h _ => ⟨by omega, h.2⟩)⟩
  rcases h2.2 with hn | ⟨g, cap, cur, rfl, hb, rest⟩
  · exact .inl hn
  · exact .inr ⟨g, cap, cur, rfl, by omega, rest⟩

/-- Its shape. -/
theorem Recs.form {w : World} {B : Nat} {v : Value} {l : List Rec} (h : Recs w B v l) :
    ∃ a c, v = .slice a l.length c ∧ l.length ≤ c ∧ c ≤ 9223372036854775807 ∧ (a = none → l = [] ∧ c = 0) ∧ (∀ y, v.ownBlock = some y → B ≤ y ∧ y < w.heap.size) := by
  obtain ⟨vs, h1, h2, h3⟩ := h
  rcases h2.2 with ⟨rfl, h0⟩ | ⟨g, cap, cur, rfl, hb, hg, hn, hm, rest⟩
  · exact ⟨none, 0, by rw [h0], by omega, by omega, fun _ => ⟨List.length_eq_zero_iff.1 h0, rfl⟩, by simp [Value.ownBlock]⟩
  · exact ⟨_, cap, rfl, hn, hm, by simp, by intro y hy; simp [Value.ownBlock] at hy; subst hy; exact ⟨hb, (Array.getElem?_eq_some_iff.1 hg).1⟩⟩

/-- Record i: its two cells. -/
theorem Recs.at {w : World} {B : Nat} {a : Option Addr} {n c : Nat} {l : List Rec} (h : Recs w B (.slice a n c) l) {i : Nat} {d : Rec} (hi : l[i]? = some d) :
    ∃ g x, a = some ⟨g, 0, none⟩ ∧ w.cell? ⟨g, 2 * i, none⟩ = some (B32 d.1) ∧ w.cell? ⟨g, 2 * i + 1, none⟩ = some x ∧ Sl w B x d.2 := by
  obtain ⟨vs, h1, h2, h3⟩ := h
  have hil : i < l.length := (List.getElem?_eq_some_iff.1 hi).1
  have hvi : vs[i]? = some vs[i] := by simp
  rcases h2.2 with ⟨hn, h0⟩ | ⟨g, cap, cur, he, hb, hg, hn, hm, hs, ht⟩
  · omega
  · simp only [Value.slice.injEq] at he
    obtain ⟨rfl, _, _⟩ := he
    have hB : Blk w g 115 (recCells l vs ++ cur.toList.drop (l.length * 2)) := by
      unfold Blk
      rw [hg, ← ht, List.take_append_drop]
    obtain ⟨e0, e1⟩ := recCells_get l vs i d _ hi hvi
    have l0 := (List.getElem?_eq_some_iff.1 e0).1
    have l1 := (List.getElem?_eq_some_iff.1 e1).1
    exact ⟨g, vs[i], rfl, hB.cell' (by rw [List.getElem?_append_left l0, e0]), hB.cell' (by rw [List.getElem?_append_left l1, e1]), (h3 i d _ hi hvi).sl (fun _ h => h.1)⟩

/-- Record i: its two cells; its bytes lie in a block of bytes, not in the row. -/
theorem Recs.atb {w : World} {B : Nat} {a : Option Addr} {n c : Nat} {l : List Rec} (h : Recs w B (.slice a n c) l) {i : Nat} {d : Rec} (hi : l[i]? = some d) :
    ∃ g x, a = some ⟨g, 0, none⟩ ∧ w.cell? ⟨g, 2 * i, none⟩ = some (B32 d.1) ∧ w.cell? ⟨g, 2 * i + 1, none⟩ = some x ∧ Slx w (fun k => B ≤ k ∧ k ≠ g) x d.2 := by
  obtain ⟨vs, h1, h2, h3⟩ := h
  have hil : i < l.length := (List.getElem?_eq_some_iff.1 hi).1
  have hvi : vs[i]? = some vs[i] := by simp
  rcases h2.2 with ⟨hn, h0⟩ | ⟨g, cap, cur, he, hb, hg, hn, hm, hs, ht⟩
  · omega
  · simp only [Value.slice.injEq] at he
    obtain ⟨rfl, _, _⟩ := he
    have hB : Blk w g 115 (recCells l vs ++ cur.toList.drop (l.length * 2)) := by
      unfold Blk
      rw [hg, ← ht, List.take_append_drop]
    obtain ⟨e0, e1⟩ := recCells_get l vs i d _ hi hvi
    have l0 := (List.getElem?_eq_some_iff.1 e0).1
    have l1 := (List.getElem?_eq_some_iff.1 e1).1
    exact ⟨g, vs[i], rfl, hB.cell' (by rw [List.getElem?_append_left l0, e0]), hB.cell' (by rw [List.getElem?_append_left l1, e1]), (h3 i d _ hi hvi).keeps (Keeps.refl [] w) (by simp) (fun k hk _ => ⟨hk.1, fun hkg => hk.2 (by rw [hkg]; rfl)⟩)⟩

theorem Tryz.info_rec : (Tryz.prog.info? 115).map (fun i => (i.zero, i.size, i.bytes)) = some (some (.agg #[.int .u32 0, .slice none 0 0]), 2, 32) := by kernel_rfl

/-- append of one record, at a step of a region that draws its order. -/
theorem step_append_rec {w : World} {ops : Array Oper} {o : Oper} {a : Act} {K : Act → World → Prop} {Q : Exit → Act → World → Prop} {E : Prop} (hgd : o.guard = none) (s x : Operand)
    (ho : o.op = .call { callee := .builtin .append, args := #[s, x], argTypes := #[112, 112] })
    {B : Nat} {v : Value} {l : List Rec} (h : Recs w B v l) (hs : a.eval s = v) (b c : Nat) (hx : a.eval x = .slice (some ⟨b, 0, none⟩) 1 c) (id : UInt32) (x' : Value) (d : List UInt8)
    (hb : Blk w b 115 [B32 id, x']) (hx' : Slx w (fun k => B ≤ k ∧ v.ownBlock ≠ some k) x' d) (hlen : l.length ≤ 100000) (hB : B ≤ w.heap.size)
    (hK : ∀ g cap w', Recs w' B (.slice (some ⟨g, 0, none⟩) (l.length + 1) cap) (l ++ [(id, d)]) → w.grownBy w' v.ownBlock → (v.ownBlock = some g ∨ g = w.heap.size) → g < w'.heap.size →
      K (a.put o.dst (.slice (some ⟨g, 0, none⟩) (l.length + 1) cap)) w') :
    if Region.wanted o (yielded ops a.tmps) = true then Oper.wp Tryz.prog o a w K Q else E := by
  obtain ⟨i0, hi, hz0, hz1, hz2⟩ := info_parts Tryz.info_rec
  obtain ⟨vs, h1, h2, h3⟩ := h
  have hx'c := hx'
  obtain ⟨ax, cx, rfl, _⟩ := hx'
  refine step_append_lies (P := Tryz.prog) w hgd s x 112 ho B 115 i0 _ 2 32 Tryz.underlying112 hi hz0 hz1 hz2 rfl (by decide) v l.length (recCells l vs) hs h2
    ⟨b, 0, none⟩ 1 c [B32 id, .slice ax d.length cx] hx rfl ?_ ?_ (by decide) (by unfold maxLen; omega) (by omega) hB w.heap.size rfl ?_
  · exact World.news_of_block (cs := #[B32 id, .slice ax d.length cx]) hb
  · intro u hu
    simp only [List.mem_cons, List.not_mem_nil, or_false] at hu
    rcases hu with rfl | rfl <;> rfl
  · intro g cap w' hO hG hg hlt
    refine hK g cap w' ⟨vs ++ [.slice ax d.length cx], by simp [h1], ?_, ?_⟩ hG hg hlt
    · rw [recCells_snoc _ _ _ _ h1, List.length_append]
      exact hO
    · have hk : Keeps v.ownBlock.toList w w' := (Keeps.refl _ w).grown hG (by intro k hk; rw [hk]; simp)
      have hN : ∀ k, (B ≤ k ∧ v.ownBlock ≠ some k) → k < w.heap.size → B ≤ k ∧ Value.ownBlock (.slice (some ⟨g, 0, none⟩) (l.length + 1) cap) ≠ some k := by
        intro k ⟨hk1, hk2⟩ hk3
        refine ⟨hk1, ?_⟩
        simp only [Value.ownBlock, ne_eq, Option.some.injEq]
        rintro rfl
        rcases hg with hg | hg
        · exact hk2 hg
        · omega
      intro i e y he hy
      have hS : ∀ x, x ∈ v.ownBlock.toList → ¬ (B ≤ x ∧ v.ownBlock ≠ some x) := by
        intro x hx hc
        exact hc.2 (by simpa using hx)
      rcases Nat.lt_or_ge i l.length with hil | hil
      · rw [List.getElem?_append_left hil] at he
        rw [List.getElem?_append_left (by omega)] at hy
        exact (h3 i e y he hy).keeps hk hS hN
      · rw [List.getElem?_append_right hil] at he
        rw [List.getElem?_append_right (by omega), h1] at hy
        have hi0 : i - l.length = 0 := by
          have := (List.getElem?_eq_some_iff.1 he).1
          simp at this
          omega
        rw [hi0] at he hy
        simp only [List.getElem?_cons_zero, Option.some.injEq] at he hy
        subst he hy
        exact hx'c.keeps hk hS hN

end Go.Proofs.YtijhaeapoapgfaaGreatDoor

set_option linter.unusedVariables false
namespace Go.Proofs.YtijhaeapoapgfaaGreatDoor
open Go.RowKit

/-- A slice of records that the code owns: its row and each record's bytes lie in blocks that meet N; none of the bytes in the row's. -/
def RecsN (w : World) (N : Nat → Prop) (v : Value) (l : List Rec) : Prop :=
  ∃ vs : List Value, vs.length = l.length ∧ w.ownsRow 0 115 2 v l.length (recCells l vs) ∧ (∀ g, v.ownBlock = some g → N g) ∧
    ∀ (i : Nat) (d : Rec) (x : Value), l[i]? = some d → vs[i]? = some x → Slx w (fun k => N k ∧ v.ownBlock ≠ some k) x d.2

theorem RecsN.nil (w : World) (N : Nat → Prop) : RecsN w N (.slice none 0 0) [] := ⟨[], rfl, World.ownsRow_nil _ _ _ _, by simp [Value.ownBlock], by intro i d x h; simp at h⟩

theorem RecsN.keeps {S : List Nat} {w w' : World} {N N' : Nat → Prop} {v : Value} {l : List Rec} (h : RecsN w N v l) (k : Keeps S w w') (hS : ∀ x, x ∈ S → ¬ N x) (hN : ∀ k, N k → k < w.heap.size → N' k) : RecsN w' N' v l := by
  obtain ⟨vs, h1, h2, h4, h3⟩ := h
  have hown : ∀ g, v.ownBlock = some g → g < w.heap.size := by
    intro g hg
    rcases h2.2 with ⟨rfl, _⟩ | ⟨g', cap, cur, rfl, hb, hgg, rest⟩
    · simp [Value.ownBlock] at hg
    · simp [Value.ownBlock] at hg; subst hg; exact (Array.getElem?_eq_some_iff.1 hgg).1
  refine ⟨vs, h1, ⟨h2.1, ?_⟩, fun g hg => hN g (h4 g hg) (hown g hg), fun i d x hd hx => (h3 i d x hd hx).keeps k (fun x hx hm => hS x hx hm.1) (fun k hk hlt => ⟨hN k hk.1 hlt, hk.2⟩)⟩
  rcases h2.2 with hn | ⟨g, cap, cur, rfl, hb, hg, rest⟩
  · exact .inl hn
  · exact .inr ⟨g, cap, cur, rfl, hb, (k.block g (Array.getElem?_eq_some_iff.1 hg).1 (fun hm => hS g hm (h4 g rfl))).trans hg, rest⟩

theorem RecsN.recs {w : World} {N : Nat → Prop} {v : Value} {l : List Rec} (h : RecsN w N v l) : Recs w 0 v l := by
  obtain ⟨vs, h1, h2, h4, h3⟩ := h
  exact ⟨vs, h1, h2, fun i d x hd hx => (h3 i d x hd hx).keeps (Keeps.refl [] w) (by simp) (fun k hk _ => ⟨Nat.zero_le _, hk.2⟩)⟩

theorem RecsN.mono {w : World} {N N' : Nat → Prop} {v : Value} {l : List Rec} (h : RecsN w N v l) (hN : ∀ k, N k → k < w.heap.size → N' k) : RecsN w N' v l := h.keeps (Keeps.refl [] w) (by simp) hN

/-- append of one record, at a step of a region that draws its order. -/
theorem step_append_recN {w : World} {ops : Array Oper} {o : Oper} {a : Act} {K : Act → World → Prop} {Q : Exit → Act → World → Prop} {E : Prop} (hgd : o.guard = none) (s x : Operand)
    (ho : o.op = .call { callee := .builtin .append, args := #[s, x], argTypes := #[112, 112] })
    {N : Nat → Prop} (N' : World → Nat → Prop) {v : Value} {l : List Rec} (h : RecsN w N v l) (hs : a.eval s = v) (b c : Nat) (hx : a.eval x = .slice (some ⟨b, 0, none⟩) 1 c) (id : UInt32) (x' : Value) (d : List UInt8)
    (hb : Blk w b 115 [B32 id, x']) (hx' : Slx w (fun k => N k ∧ v.ownBlock ≠ some k) x' d) (hlen : l.length ≤ 100000)
    (hN : ∀ w' k, w.grownBy w' v.ownBlock → N k → k < w.heap.size → v.ownBlock ≠ some k → N' w' k)
    (hNg : ∀ w' g cur, w.grownBy w' v.ownBlock → w'.heap[g]? = some (.cells cur 115 (0, 0)) → (v.ownBlock = some g ∧ N g ∨ g = w.heap.size) → N' w' g)
    (hK : ∀ g cap w', RecsN w' (N' w') (.slice (some ⟨g, 0, none⟩) (l.length + 1) cap) (l ++ [(id, d)]) → w.grownBy w' v.ownBlock → (v.ownBlock = some g ∨ g = w.heap.size) → g < w'.heap.size →
      K (a.put o.dst (.slice (some ⟨g, 0, none⟩) (l.length + 1) cap)) w') :
    if Region.wanted o (yielded ops a.tmps) = true then Oper.wp Tryz.prog o a w K Q else E := by
  obtain ⟨i0, hi, hz0, hz1, hz2⟩ := info_parts Tryz.info_rec
  obtain ⟨vs, h1, h2, h4, h3⟩ := h
  have hx'c := hx'
  obtain ⟨ax, cx, rfl, _⟩ := hx'
  refine step_append_lies (P := Tryz.prog) w hgd s x 112 ho 0 115 i0 _ 2 32 Tryz.underlying112 hi hz0 hz1 hz2 rfl (by decide) v l.length (recCells l vs) hs h2
    ⟨b, 0, none⟩ 1 c [B32 id, .slice ax d.length cx] hx rfl ?_ ?_ (by decide) (by unfold maxLen; omega) (by omega) (Nat.zero_le _) w.heap.size rfl ?_
  · exact World.news_of_block (cs := #[B32 id, .slice ax d.length cx]) hb
  · intro u hu
    simp only [List.mem_cons, List.not_mem_nil, or_false] at hu
    rcases hu with rfl | rfl <;> rfl
  · intro g cap w' hO hG hg hlt
    refine hK g cap w' ⟨vs ++ [.slice ax d.length cx], by simp [h1], ?_, ?_, ?_⟩ hG hg hlt
    · rw [recCells_snoc _ _ _ _ h1, List.length_append]
      exact hO
    · intro g' hg'
      simp only [Value.ownBlock, Option.some.injEq] at hg'
      subst hg'
      rcases hO.2 with ⟨hn, _⟩ | ⟨g', cap', cur, he, _, hgg, _⟩
      · simp at hn
      · simp only [Value.slice.injEq, Option.some.injEq, Addr.mk.injEq] at he
        obtain ⟨⟨rfl, _⟩, _⟩ := he
        exact hNg w' _ cur hG hgg (hg.imp (fun h => ⟨h, h4 _ h⟩) (fun h => h))
    · have hk : Keeps v.ownBlock.toList w w' := (Keeps.refl _ w).grown hG (by intro k hk; rw [hk]; simp)
      have hN2 : ∀ k, (N k ∧ v.ownBlock ≠ some k) → k < w.heap.size → N' w' k ∧ Value.ownBlock (.slice (some ⟨g, 0, none⟩) (l.length + 1) cap) ≠ some k := by
        intro k ⟨hk1, hk2⟩ hk3
        refine ⟨hN w' k hG hk1 hk3 hk2, ?_⟩
        simp only [Value.ownBlock, ne_eq, Option.some.injEq]
        rintro rfl
        rcases hg with hg | hg
        · exact hk2 hg
        · omega
      intro i e y he hy
      have hS : ∀ x, x ∈ v.ownBlock.toList → ¬ (N x ∧ v.ownBlock ≠ some x) := by
        intro x hx hc
        exact hc.2 (by simpa using hx)
      rcases Nat.lt_or_ge i l.length with hil | hil
      · rw [List.getElem?_append_left hil] at he
        rw [List.getElem?_append_left (by omega)] at hy
        exact (h3 i e y he hy).keeps hk hS hN2
      · rw [List.getElem?_append_right hil] at he
        rw [List.getElem?_append_right (by omega), h1] at hy
        have hi0 : i - l.length = 0 := by
          have := (List.getElem?_eq_some_iff.1 he).1
          simp at this
          omega
        rw [hi0] at he hy
        simp only [List.getElem?_cons_zero, Option.some.injEq] at he hy
        subst he hy
        exact hx'c.keeps hk hS hN2

/-- .. at the operation, in a region that draws nothing. -/
theorem wpList_append_recN {w : World} {ops : Array Oper} {rest : List Oper} {o : Oper} {a : Act} {Q : Exit → Act → World → Prop} (hgd : o.guard = none) (s x : Operand)
    (ho : o.op = .call { callee := .builtin .append, args := #[s, x], argTypes := #[112, 112] })
    {N : Nat → Prop} (N' : World → Nat → Prop) {v : Value} {l : List Rec} (h : RecsN w N v l) (hs : a.eval s = v) (b c : Nat) (hx : a.eval x = .slice (some ⟨b, 0, none⟩) 1 c) (id : UInt32) (x' : Value) (d : List UInt8)
    (hb : Blk w b 115 [B32 id, x']) (hx' : Slx w (fun k => N k ∧ v.ownBlock ≠ some k) x' d) (hlen : l.length ≤ 100000)
    (hN : ∀ w' k, w.grownBy w' v.ownBlock → N k → k < w.heap.size → v.ownBlock ≠ some k → N' w' k)
    (hNg : ∀ w' g cur, w.grownBy w' v.ownBlock → w'.heap[g]? = some (.cells cur 115 (0, 0)) → (v.ownBlock = some g ∧ N g ∨ g = w.heap.size) → N' w' g)
    (hK : ∀ g cap w', RecsN w' (N' w') (.slice (some ⟨g, 0, none⟩) (l.length + 1) cap) (l ++ [(id, d)]) → w.grownBy w' v.ownBlock → (v.ownBlock = some g ∨ g = w.heap.size) → g < w'.heap.size →
      wpList Tryz.prog ops Q rest (a.put o.dst (.slice (some ⟨g, 0, none⟩) (l.length + 1) cap)) w') : wpList Tryz.prog ops Q (o :: rest) a w := by
  refine wpList_plain hgd fun K hK' => ?_
  have := step_append_recN (ops := #[]) (Q := Q) (K := K) (E := True) hgd s x ho N' h hs b c hx id x' d hb hx' hlen hN hNg (fun g cap w' h1 h2 h3 h4 => hK' _ _ (hK g cap w' h1 h2 h3 h4))
  rw [if_pos (by simp [Region.wanted, hgd])] at this
  exact this

end Go.Proofs.YtijhaeapoapgfaaGreatDoor
