/-
  BkV: slices of slices of bytes, read and appended to; slices of pointers.
-/
import Derived.Test.YtghgmchgbhdldaaGreatDoorSl
import Derived.Test.YtghgmchgbhdldaaGreatDoorAppB
import Derived.Test.YtghgmchgbhdldaaGreatDoorMakeB
import Derived.Test.YtghgmchgbhdldaaGreatDoorPlain
import Derived.Test.YtghgmchgbhdldaaGreatDoorVecL
set_option linter.unusedVariables false
set_option linter.unusedSimpArgs false
namespace Go.Proofs.YtghgmchgbhdldaaGreatDoor
open Go.RowKit
attribute [local go_sem ↓] Go.wp_at_zero Go.wp_at_succ

/-- A slice of bytes that reads as l, in blocks of bytes. -/
def RdS (w : World) (v : Value) (l : List UInt8) : Prop :=
  ∃ a c, v = .slice a l.length c ∧ l.length ≤ c ∧ c ≤ 9223372036854775807 ∧ Rd w a l ∧ (a = none → l = [] ∧ c = 0) ∧ (∀ x, a = some x → l ≠ [] → ∃ cs, Blk w x.block 5 cs)

theorem Own.rds {w : World} {B : Nat} {v : Value} {l : List UInt8} (h : Own w B v l) : RdS w v l := by
  obtain ⟨a, c, rfl, h1, h2, h3⟩ := h.cap
  obtain ⟨a', c', he, _, hr, hb, hk, _⟩ := h.rd
  simp only [Value.slice.injEq] at he
  obtain ⟨rfl, _, rfl⟩ := he
  exact ⟨a, c, rfl, h1, h2, hr, h3, fun x hx _ => by obtain ⟨r, hr⟩ := hk x hx; exact ⟨_, hr⟩⟩
theorem RdS.keepsNil {w w' : World} {v : Value} {l : List UInt8} (h : RdS w v l) (k : Keeps [] w w') : RdS w' v l := by
  obtain ⟨a, c, rfl, h1, h2, h3, h4, h5⟩ := h
  exact ⟨a, c, rfl, h1, h2, h3.keepsNil k, h4, fun x hx hl => by obtain ⟨cs, hb⟩ := h5 x hx hl; exact ⟨cs, hb.keeps k (by simp)⟩⟩
theorem RdS.len {w : World} {v : Value} {l : List UInt8} (h : RdS w v l) : ∃ a c, v = .slice a l.length c := by
  obtain ⟨a, c, rfl, _⟩ := h; exact ⟨a, c, rfl⟩

/-- A slice of values of one cell each, that the call has made. -/
def OwnX (et : TypeId) (w : World) (B : Nat) (v : Value) (vs : List Value) : Prop := w.ownsRow B et 1 v vs.length vs
theorem OwnX.nil (et : TypeId) (w : World) (B : Nat) : OwnX et w B (.slice none 0 0) [] := ⟨rfl, .inl ⟨rfl, rfl⟩⟩
theorem OwnX.read {et : TypeId} {w : World} {B : Nat} {v : Value} {vs : List Value} (h : OwnX et w B v vs) :
    ∃ a c, v = .slice a vs.length c ∧ vs.length ≤ c ∧ c ≤ 9223372036854775807 ∧ (∀ (i : Nat) (u : Value), vs[i]? = some u → ∃ g, a = some ⟨g, 0, none⟩ ∧ B ≤ g ∧ w.cell? ⟨g, i, none⟩ = some u) ∧ (a = none → vs = [] ∧ c = 0) := by
  rcases h.2 with ⟨rfl, h0⟩ | ⟨g, cap, cur, rfl, hb, hg, hn, hm, hs, ht⟩
  · have : vs = [] := List.length_eq_zero_iff.1 h0
    subst this
    exact ⟨none, 0, rfl, by simp, by simp, by simp, fun _ => ⟨rfl, rfl⟩⟩
  · have hbk : Blk w g et (vs ++ cur.toList.drop vs.length) := by
      have e := List.take_append_drop vs.length cur.toList
      rw [show cur.toList.take vs.length = vs from by simpa using ht] at e
      unfold Blk
      rw [hg, e]
    refine ⟨some ⟨g, 0, none⟩, cap, rfl, hn, hm, fun i u hu => ⟨g, rfl, hb, ?_⟩, by simp⟩
    refine hbk.cell' ?_
    have hi : i < vs.length := (List.getElem?_eq_some_iff.1 hu).1
    rw [List.getElem?_append_left hi]
    exact hu
theorem OwnX.keeps {et : TypeId} {S : List Nat} {w w' : World} {B : Nat} {v : Value} {l : List Value} (h : OwnX et w B v l) (k : Keeps S w w') (hS : ∀ x, x ∈ S → x < B) : OwnX et w' B v l := by
  refine ⟨h.1, ?_⟩
  rcases h.2 with ⟨rfl, h0⟩ | ⟨g, cap, cur, rfl, hb, hg, hn, hm, hs, ht⟩
  · exact .inl ⟨rfl, h0⟩
  · exact .inr ⟨g, cap, cur, rfl, hb, (k.block g (Array.getElem?_eq_some_iff.1 hg).1 (fun hm => by have := hS g hm; omega)).trans hg, hn, hm, hs, ht⟩
theorem OwnX.mono {et : TypeId} {w : World} {B B' : Nat} {v : Value} {l : List Value} (h : OwnX et w B v l) (hB : B' ≤ B) : OwnX et w B' v l := by
  refine ⟨h.1, ?_⟩
  rcases h.2 with ⟨rfl, h0⟩ | ⟨g, cap, cur, rfl, hb, hg, hn, hm, hs, ht⟩
  · exact .inl ⟨rfl, h0⟩
  · exact .inr ⟨g, cap, cur, rfl, by omega, hg, hn, hm, hs, ht⟩
theorem OwnX.block {et : TypeId} {w : World} {B x : Nat} {v : Value} {l : List Value} (h : OwnX et w B v l) (hx : v.ownBlock = some x) : B ≤ x ∧ x < w.heap.size ∧ ∃ cs, Blk w x et cs := by
  rcases h.2 with ⟨rfl, h0⟩ | ⟨g, cap, cur, rfl, hb, hg, hn, hm, hs, ht⟩
  · simp [Value.ownBlock] at hx
  · simp [Value.ownBlock] at hx
    subst hx
    refine ⟨hb, (Array.getElem?_eq_some_iff.1 hg).1, l ++ cur.toList.drop l.length, ?_⟩
    have e := List.take_append_drop l.length cur.toList
    rw [show cur.toList.take l.length = l from by simpa using ht] at e
    unfold Blk
    rw [hg, e]

theorem Tryz.info_bs : (Tryz.prog.info? 28).map (fun i => (i.zero, i.size, i.bytes)) = some (some (.slice none 0 0), 1, 24) := by kernel_rfl

theorem append_runbs {w : World} {B : Nat} {v : Value} {l : List Value} (h : OwnX 28 w B v l) (x : Value) (hone : x.oneCell' = true) (b o c : Nat) (hx : w.cell? ⟨b, o, none⟩ = some x)
    (hlen : l.length ≤ 1000000) (hB : B ≤ w.heap.size) (t : TypeId) :
    ∃ v' w', (Builtin.append_ #[73, 73] t #[v, .slice (some ⟨b, o, none⟩) 1 c]).run Tryz.prog w = .ok v' w' ∧ OwnX 28 w' B v' (l ++ [x]) ∧ w.grownBy w' v.ownBlock ∧ (∀ x, v'.ownBlock = some x → v.ownBlock = some x ∨ w.heap.size ≤ x) := by
  obtain ⟨i0, hi, hz0, hz1, hz2⟩ := info_parts Tryz.info_bs
  obtain ⟨v', w', hr, h2, h3, h4, h5⟩ := run_append_own_at (P := Tryz.prog) w B 73 t 28 i0 (.slice none 0 0) 1 24 Tryz.underlying73 hi hz0 hz1 hz2 rfl (by decide) v l.length l h ⟨b, o, none⟩ 1 c [x]
    (by simp) (fun j u hu => by
      obtain rfl : j = 0 := by
        rcases j with _ | j
        · rfl
        · simp at hu
      simp only [List.getElem?_cons_zero, Option.some.injEq] at hu
      subst hu
      rw [Addr.add_lit]
      exact hx) (by intro u hu; simp only [List.mem_singleton] at hu; subst hu; exact hone) (by unfold maxLen; omega) (by omega) hB
  refine ⟨v', w', hr, ?_, h3, fun y hy => ?_⟩
  · unfold OwnX
    rw [List.length_append]
    exact h2
  · rcases h5 with h5 | h5
    · exact .inl (h5 ▸ hy)
    · rw [h5] at hy; simp at hy; exact .inr (by omega)

theorem wpList_append_bs {w : World} {ops : Array Oper} {rest : List Oper} {o : Oper} {act : Act} {Q : Exit → Act → World → Prop} (hgd : o.guard = none) (s x : Operand)
    (ho : o.op = .call { callee := .builtin .append, args := #[s, x], argTypes := #[73, 73] })
    {B : Nat} {v : Value} {l : List Value} (h : OwnX 28 w B v l) (hs : act.eval s = v) (y : Value) (hone : y.oneCell' = true) (b k c : Nat) (hx : act.eval x = .slice (some ⟨b, k, none⟩) 1 c) (hm : w.cell? ⟨b, k, none⟩ = some y)
    (hlen : l.length ≤ 1000000) (hB : B ≤ w.heap.size)
    (hK : ∀ v' w', OwnX 28 w' B v' (l ++ [y]) → w.grownBy w' v.ownBlock → (∀ x, v'.ownBlock = some x → v.ownBlock = some x ∨ w.heap.size ≤ x) → wpList Tryz.prog ops Q rest (act.put o.dst v') w') : wpList Tryz.prog ops Q (o :: rest) act w := by
  refine wpList_plain hgd fun K hK' => ?_
  obtain ⟨v', w', hrun, h1, h2, h3⟩ := append_runbs h y hone b k c hm hlen hB o.type
  unfold Oper.wp
  simp [execOp, ho, resolve, invoke, builtin, hs, hx, hrun, Result.andThen]
  exact hK' _ _ (hK v' w' h1 h2 h3)

theorem Tryz.info_vecp : (Tryz.prog.info? 52).map (fun i => (i.zero, i.size, i.bytes)) = some (some (.pointer none), 1, 8) := by kernel_rfl

theorem append_runvecp {w : World} {B : Nat} {v : Value} {l : List Value} (h : OwnX 52 w B v l) (x : Value) (hone : x.oneCell' = true) (b o c : Nat) (hx : w.cell? ⟨b, o, none⟩ = some x)
    (hlen : l.length ≤ 1000000) (hB : B ≤ w.heap.size) (t : TypeId) :
    ∃ v' w', (Builtin.append_ #[50, 50] t #[v, .slice (some ⟨b, o, none⟩) 1 c]).run Tryz.prog w = .ok v' w' ∧ OwnX 52 w' B v' (l ++ [x]) ∧ w.grownBy w' v.ownBlock ∧ (∀ x, v'.ownBlock = some x → v.ownBlock = some x ∨ w.heap.size ≤ x) := by
  obtain ⟨i0, hi, hz0, hz1, hz2⟩ := info_parts Tryz.info_vecp
  obtain ⟨v', w', hr, h2, h3, h4, h5⟩ := run_append_own_at (P := Tryz.prog) w B 50 t 52 i0 (.pointer none) 1 8 Tryz.underlying50 hi hz0 hz1 hz2 rfl (by decide) v l.length l h ⟨b, o, none⟩ 1 c [x]
    (by simp) (fun j u hu => by
      obtain rfl : j = 0 := by
        rcases j with _ | j
        · rfl
        · simp at hu
      simp only [List.getElem?_cons_zero, Option.some.injEq] at hu
      subst hu
      rw [Addr.add_lit]
      exact hx) (by intro u hu; simp only [List.mem_singleton] at hu; subst hu; exact hone) (by unfold maxLen; omega) (by omega) hB
  refine ⟨v', w', hr, ?_, h3, fun y hy => ?_⟩
  · unfold OwnX
    rw [List.length_append]
    exact h2
  · rcases h5 with h5 | h5
    · exact .inl (h5 ▸ hy)
    · rw [h5] at hy; simp at hy; exact .inr (by omega)

theorem wpList_append_vecp {w : World} {ops : Array Oper} {rest : List Oper} {o : Oper} {act : Act} {Q : Exit → Act → World → Prop} (hgd : o.guard = none) (s x : Operand)
    (ho : o.op = .call { callee := .builtin .append, args := #[s, x], argTypes := #[50, 50] })
    {B : Nat} {v : Value} {l : List Value} (h : OwnX 52 w B v l) (hs : act.eval s = v) (y : Value) (hone : y.oneCell' = true) (b k c : Nat) (hx : act.eval x = .slice (some ⟨b, k, none⟩) 1 c) (hm : w.cell? ⟨b, k, none⟩ = some y)
    (hlen : l.length ≤ 1000000) (hB : B ≤ w.heap.size)
    (hK : ∀ v' w', OwnX 52 w' B v' (l ++ [y]) → w.grownBy w' v.ownBlock → (∀ x, v'.ownBlock = some x → v.ownBlock = some x ∨ w.heap.size ≤ x) → wpList Tryz.prog ops Q rest (act.put o.dst v') w') : wpList Tryz.prog ops Q (o :: rest) act w := by
  refine wpList_plain hgd fun K hK' => ?_
  obtain ⟨v', w', hrun, h1, h2, h3⟩ := append_runvecp h y hone b k c hm hlen hB o.type
  unfold Oper.wp
  simp [execOp, ho, resolve, invoke, builtin, hs, hx, hrun, Result.andThen]
  exact hK' _ _ (hK v' w' h1 h2 h3)

/-- A slice of slices of bytes that the call has made: its slices, in other blocks, read as these. -/
def Pcs (w : World) (B : Nat) (v : Value) (L : List (List UInt8)) : Prop :=
  ∃ vs, OwnX 28 w B v vs ∧ vs.length = L.length ∧ ∀ (i : Nat) (x : List UInt8), L[i]? = some x → ∃ u, vs[i]? = some u ∧ RdS w u x
/-- .. to be read. -/
def RdL (w : World) (v : Value) (L : List (List UInt8)) : Prop :=
  ∃ a c, v = .slice a L.length c ∧ L.length ≤ c ∧ c ≤ 9223372036854775807 ∧ (∀ (i : Nat) (x : List UInt8), L[i]? = some x → ∃ g u, a = some ⟨g, 0, none⟩ ∧ w.cell? ⟨g, i, none⟩ = some u ∧ RdS w u x) ∧ (a = none → L = [] ∧ c = 0)
theorem Pcs.nil (w : World) (B : Nat) : Pcs w B (.slice none 0 0) [] := ⟨[], OwnX.nil _ _ _, rfl, by simp⟩
theorem Pcs.rdl {w : World} {B : Nat} {v : Value} {L : List (List UInt8)} (h : Pcs w B v L) : RdL w v L := by
  obtain ⟨vs, hO, hl, he⟩ := h
  obtain ⟨a, c, rfl, h1, h2, h3, h4⟩ := hO.read
  rw [hl] at h1 ⊢
  refine ⟨a, c, rfl, h1, h2, fun i x hx => ?_, fun ha => ⟨?_, (h4 ha).2⟩⟩
  · obtain ⟨u, hu, hr⟩ := he i x hx
    obtain ⟨g, ha, _, hc⟩ := h3 i u hu
    exact ⟨g, u, ha, hc, hr⟩
  · have := (h4 ha).1
    rw [this] at hl
    exact List.length_eq_zero_iff.1 hl.symm
theorem Pcs.keepsNil {w w' : World} {B : Nat} {v : Value} {L : List (List UInt8)} (h : Pcs w B v L) (k : Keeps [] w w') : Pcs w' B v L := by
  obtain ⟨vs, hO, hl, he⟩ := h
  exact ⟨vs, hO.keeps k (by simp), hl, fun i x hx => by obtain ⟨u, hu, hr⟩ := he i x hx; exact ⟨u, hu, hr.keepsNil k⟩⟩
theorem Pcs.mono {w : World} {B B' : Nat} {v : Value} {L : List (List UInt8)} (h : Pcs w B v L) (hB : B' ≤ B) : Pcs w B' v L := by
  obtain ⟨vs, hO, hl, he⟩ := h
  exact ⟨vs, hO.mono hB, hl, he⟩
theorem RdL.keepsNil {w w' : World} {v : Value} {L : List (List UInt8)} (h : RdL w v L) (k : Keeps [] w w') : RdL w' v L := by
  obtain ⟨a, c, rfl, h1, h2, h3, h4⟩ := h
  refine ⟨a, c, rfl, h1, h2, fun i x hx => ?_, h4⟩
  obtain ⟨g, u, ha, hc, hr⟩ := h3 i x hx
  exact ⟨g, u, ha, k.cell0 hc, hr.keepsNil k⟩
theorem RdS.grown {w w' : World} {row : Option Nat} {v : Value} {l : List UInt8} (h : RdS w v l) (hg : w.grownBy w' row) (hr : ∀ k, row = some k → ∃ cs, Blk w k 28 cs) : RdS w' v l := by
  obtain ⟨a, c, rfl, h1, h2, h3, h4, h5⟩ := h
  have k : Keeps row.toList w w' := (Keeps.refl row.toList w).grown hg (fun k hk => .inl (by rw [hk]; simp))
  have hne : ∀ x, a = some x → l ≠ [] → x.block ∉ row.toList := fun x hx hl hm => by
    obtain ⟨cs, hb⟩ := h5 x hx hl
    obtain ⟨cs', hb'⟩ := hr x.block (by simpa using hm)
    exact hb.ne hb' (by decide) rfl
  exact ⟨a, c, rfl, h1, h2, h3.keeps k hne, h4, fun x hx hl => by obtain ⟨cs, hb⟩ := h5 x hx hl; exact ⟨cs, hb.keeps k (hne x hx hl)⟩⟩

/-- One slice more. -/
theorem Pcs.snoc {w w' : World} {B : Nat} {v v' u : Value} {vs : List Value} {L : List (List UInt8)} {x : List UInt8} (hO : OwnX 28 w B v vs) (hl : vs.length = L.length) (he : ∀ (i : Nat) (x : List UInt8), L[i]? = some x → ∃ u, vs[i]? = some u ∧ RdS w u x)
    (hu : RdS w u x) (h' : OwnX 28 w' B v' (vs ++ [u])) (hg : w.grownBy w' v.ownBlock) : Pcs w' B v' (L ++ [x]) := by
  have hr : ∀ k, v.ownBlock = some k → ∃ cs, Blk w k 28 cs := fun k hk => (hO.block hk).2.2
  refine ⟨vs ++ [u], h', by simp [hl], fun i y hy => ?_⟩
  by_cases hi : i < L.length
  · rw [List.getElem?_append_left hi] at hy
    obtain ⟨z, hz, hzr⟩ := he i y hy
    exact ⟨z, by rw [List.getElem?_append_left (by omega)]; exact hz, hzr.grown hg hr⟩
  · rw [List.getElem?_append_right (by omega)] at hy
    have h0 : i - L.length = 0 := by
      rcases Nat.eq_zero_or_pos (i - L.length) with h0 | h0
      · exact h0
      · rw [List.getElem?_eq_none (by simp; omega)] at hy; cases hy
    rw [h0] at hy
    simp only [List.getElem?_cons_zero, Option.some.injEq] at hy
    subst hy
    exact ⟨u, by rw [List.getElem?_append_right (by omega), show i - vs.length = 0 from by omega]; rfl, hu.grown hg hr⟩

end Go.Proofs.YtghgmchgbhdldaaGreatDoor
