/-
  GrBk: the texts BkV, Bk1, Bk2, ConcatB, Put4, RdZ, Bk3, one behind another.
-/
import Derived.Test.YtijhaeapoapgfaaGreatDoorGrBy
import Derived.Test.YtijhaeapoapgfaaGreatDoorPlain
import Derived.Test.YtijhaeapoapgfaaGreatDoorGrVec
import Derived.Deep.DeepMust
import Derived.Lib.SmallJoins
import Derived.ArgAppend
set_option linter.unusedVariables false
set_option linter.unusedSimpArgs false
namespace Go.Proofs.YtijhaeapoapgfaaGreatDoor
open Go.RowKit
attribute [local go_sem ↓] Go.wp_at_zero Go.wp_at_succ

/-- A slice of bytes that reads as l, in blocks of bytes. -/
def RdS (w : World) (v : Value) (l : List UInt8) : Prop :=
  ∃ a c, v = .slice a l.length c ∧ l.length ≤ c ∧ c ≤ 9223372036854775807 ∧ Rd w a l ∧ (a = none → l = [] ∧ c = 0) ∧ (∀ x, a = some x → l ≠ [] → ∃ cs, Blk w x.block 5 cs)

theorem Own.rds {w : World} {B : Nat} {v : Value} {l : List UInt8} (h : Own w B v l) : RdS w v l := by
  obtain ⟨a, c, rfl, h1, h2, h3⟩ := h.cap
  obtain ⟨a', c', he, _, hr, hb, hk, _⟩ := h.rd
  simp only [Value.slice.injEq] at he
  obtain ⟨rfl, _, rfl⟩ := he
  exact ⟨a, c, rfl, h1, h2, hr, h3, fun x hx _ => by obtain ⟨r, hr⟩ := hk x hx; exact ⟨_, hr⟩⟩
theorem RdS.keepsNil {w w' : World} {v : Value} {l : List UInt8} (h : RdS w v l) (k : Keeps [] w w') : RdS w' v l := by
  obtain ⟨a, c, rfl, h1, h2, h3, h4, h5⟩ := h
  exact ⟨a, c, rfl, h1, h2, h3.keepsNil k, h4, fun x hx hl => by obtain ⟨cs, hb⟩ := h5 x hx hl; exact ⟨cs, hb.keeps k (by simp)⟩⟩
theorem RdS.len {w : World} {v : Value} {l : List UInt8} (h : RdS w v l) : ∃ a c, v = .slice a l.length c := by
  obtain ⟨a, c, rfl, _⟩ := h; exact ⟨a, c, rfl⟩

/-- A slice of values of one cell each, that the call has made. -/
def OwnX (et : TypeId) (w : World) (B : Nat) (v : Value) (vs : List Value) : Prop := w.ownsRow B et 1 v vs.length vs
theorem OwnX.nil (et : TypeId) (w : World) (B : Nat) : OwnX et w B (.slice none 0 0) [] := ⟨rfl, .inl ⟨rfl, rfl⟩⟩
theorem OwnX.read {et : TypeId} {w : World} {B : Nat} {v : Value} {vs : List Value} (h : OwnX et w B v vs) :
    ∃ a c, v = .slice a vs.length c ∧ vs.length ≤ c ∧ c ≤ 9223372036854775807 ∧ (∀ (i : Nat) (u : Value), vs[i]? = some u → ∃ g, a = some ⟨g, 0, none⟩ ∧ B ≤ g ∧ w.cell? ⟨g, i, none⟩ = some u) ∧ (a = none → vs = [] ∧ c = 0) := by
  rcases h.2 with ⟨rfl, h0⟩ | ⟨g, cap, cur, rfl, hb, hg, hn, hm, hs, ht⟩
  · have : vs = [] := List.length_eq_zero_iff.1 h0
    subst this
    exact ⟨none, 0, rfl, by simp, by simp, by simp, fun _ => ⟨rfl, rfl⟩⟩
  · have hbk : Blk w g et (vs ++ cur.toList.drop vs.length) := by
      have e := List.take_append_drop vs.length cur.toList
      rw [show cur.toList.take vs.length = vs from by simpa using ht] at e
      unfold Blk
      rw [hg, e]
    refine ⟨some ⟨g, 0, none⟩, cap, rfl, hn, hm, fun i u hu => ⟨g, rfl, hb, ?_⟩, by simp⟩
    refine hbk.cell' ?_
    have hi : i < vs.length := (List.getElem?_eq_some_iff.1 hu).1
    rw [List.getElem?_append_left hi]
    exact hu
theorem OwnX.keeps {et : TypeId} {S : List Nat} {w w' : World} {B : Nat} {v : Value} {l : List Value} (h : OwnX et w B v l) (k : Keeps S w w') (hS : ∀ x, x ∈ S → x < B) : OwnX et w' B v l := by
  refine ⟨h.1, ?_⟩
  rcases h.2 with ⟨rfl, h0⟩ | ⟨g, cap, cur, rfl, hb, hg, hn, hm, hs, ht⟩
  · exact .inl ⟨rfl, h0⟩
  · exact .inr ⟨g, cap, cur, rfl, hb, (k.block g (Array.getElem?_eq_some_iff.1 hg).1 (fun hm => by have := hS g hm; omega)).trans hg, hn, hm, hs, ht⟩
theorem OwnX.mono {et : TypeId} {w : World} {B B' : Nat} {v : Value} {l : List Value} (h : OwnX et w B v l) (hB : B' ≤ B) : OwnX et w B' v l := by
  refine ⟨h.1, ?_⟩
  rcases h.2 with ⟨rfl, h0⟩ | ⟨g, cap, cur, rfl, hb, hg, hn, hm, hs, ht⟩
  · exact .inl ⟨rfl, h0⟩
  · exact .inr ⟨g, cap, cur, rfl, by omega, hg, hn, hm, hs, ht⟩
theorem OwnX.block {et : TypeId} {w : World} {B x : Nat} {v : Value} {l : List Value} (h : OwnX et w B v l) (hx : v.ownBlock = some x) : B ≤ x ∧ x < w.heap.size ∧ ∃ cs, Blk w x et cs := by
  rcases h.2 with ⟨rfl, h0⟩ | ⟨g, cap, cur, rfl, hb, hg, hn, hm, hs, ht⟩
  · simp [Value.ownBlock] at hx
  · simp [Value.ownBlock] at hx
    subst hx
    refine ⟨hb, (Array.getElem?_eq_some_iff.1 hg).1, l ++ cur.toList.drop l.length, ?_⟩
    have e := List.take_append_drop l.length cur.toList
    rw [show cur.toList.take l.length = l from by simpa using ht] at e
    unfold Blk
    rw [hg, e]

theorem Tryz.info_bs : (Tryz.prog.info? 22).map (fun i => (i.zero, i.size, i.bytes)) = some (some (.slice none 0 0), 1, 24) := by kernel_rfl

theorem append_runbs {w : World} {B : Nat} {v : Value} {l : List Value} (h : OwnX 22 w B v l) (x : Value) (hone : x.oneCell' = true) (b o c : Nat) (hx : w.cell? ⟨b, o, none⟩ = some x)
    (hlen : l.length ≤ 1000000) (hB : B ≤ w.heap.size) (t : TypeId) :
    ∃ v' w', (Builtin.append_ #[93, 93] t #[v, .slice (some ⟨b, o, none⟩) 1 c]).run Tryz.prog w = .ok v' w' ∧ OwnX 22 w' B v' (l ++ [x]) ∧ w.grownBy w' v.ownBlock ∧ (∀ x, v'.ownBlock = some x → v.ownBlock = some x ∨ w.heap.size ≤ x) := by
  obtain ⟨i0, hi, hz0, hz1, hz2⟩ := info_parts Tryz.info_bs
  obtain ⟨v', w', hr, h2, h3, h4, h5⟩ := run_append_own_at (P := Tryz.prog) w B 93 t 22 i0 (.slice none 0 0) 1 24 Tryz.underlying93 hi hz0 hz1 hz2 rfl (by decide) v l.length l h ⟨b, o, none⟩ 1 c [x]
    (by simp) (fun j u hu => by
      obtain rfl : j = 0 := by
        rcases j with _ | j
        · rfl
        · simp at hu
      simp only [List.getElem?_cons_zero, Option.some.injEq] at hu
      subst hu
      rw [Addr.add_lit]
      exact hx) (by intro u hu; simp only [List.mem_singleton] at hu; subst hu; exact hone) (by unfold maxLen; omega) (by omega) hB
  refine ⟨v', w', hr, ?_, h3, fun y hy => ?_⟩
  · unfold OwnX
    rw [List.length_append]
    exact h2
  · rcases h5 with h5 | h5
    · exact .inl (h5 ▸ hy)
    · rw [h5] at hy; simp at hy; exact .inr (by omega)

theorem wpList_append_bs {w : World} {ops : Array Oper} {rest : List Oper} {o : Oper} {act : Act} {Q : Exit → Act → World → Prop} (hgd : o.guard = none) (s x : Operand)
    (ho : o.op = .call { callee := .builtin .append, args := #[s, x], argTypes := #[93, 93] })
    {B : Nat} {v : Value} {l : List Value} (h : OwnX 22 w B v l) (hs : act.eval s = v) (y : Value) (hone : y.oneCell' = true) (b k c : Nat) (hx : act.eval x = .slice (some ⟨b, k, none⟩) 1 c) (hm : w.cell? ⟨b, k, none⟩ = some y)
    (hlen : l.length ≤ 1000000) (hB : B ≤ w.heap.size)
    (hK : ∀ v' w', OwnX 22 w' B v' (l ++ [y]) → w.grownBy w' v.ownBlock → (∀ x, v'.ownBlock = some x → v.ownBlock = some x ∨ w.heap.size ≤ x) → wpList Tryz.prog ops Q rest (act.put o.dst v') w') : wpList Tryz.prog ops Q (o :: rest) act w := by
  refine wpList_plain hgd fun K hK' => ?_
  obtain ⟨v', w', hrun, h1, h2, h3⟩ := append_runbs h y hone b k c hm hlen hB o.type
  unfold Oper.wp
  simp [execOp, ho, resolve, invoke, builtin, hs, hx, hrun, Result.andThen]
  exact hK' _ _ (hK v' w' h1 h2 h3)

theorem Tryz.info_vecp : (Tryz.prog.info? 139).map (fun i => (i.zero, i.size, i.bytes)) = some (some (.pointer none), 1, 8) := by kernel_rfl

theorem append_runvecp {w : World} {B : Nat} {v : Value} {l : List Value} (h : OwnX 139 w B v l) (x : Value) (hone : x.oneCell' = true) (b o c : Nat) (hx : w.cell? ⟨b, o, none⟩ = some x)
    (hlen : l.length ≤ 1000000) (hB : B ≤ w.heap.size) (t : TypeId) :
    ∃ v' w', (Builtin.append_ #[151, 151] t #[v, .slice (some ⟨b, o, none⟩) 1 c]).run Tryz.prog w = .ok v' w' ∧ OwnX 139 w' B v' (l ++ [x]) ∧ w.grownBy w' v.ownBlock ∧ (∀ x, v'.ownBlock = some x → v.ownBlock = some x ∨ w.heap.size ≤ x) := by
  obtain ⟨i0, hi, hz0, hz1, hz2⟩ := info_parts Tryz.info_vecp
  obtain ⟨v', w', hr, h2, h3, h4, h5⟩ := run_append_own_at (P := Tryz.prog) w B 151 t 139 i0 (.pointer none) 1 8 Tryz.underlying151 hi hz0 hz1 hz2 rfl (by decide) v l.length l h ⟨b, o, none⟩ 1 c [x]
    (by simp) (fun j u hu => by
      obtain rfl : j = 0 := by
        rcases j with _ | j
        · rfl
        · simp at hu
      simp only [List.getElem?_cons_zero, Option.some.injEq] at hu
      subst hu
      rw [Addr.add_lit]
      exact hx) (by intro u hu; simp only [List.mem_singleton] at hu; subst hu; exact hone) (by unfold maxLen; omega) (by omega) hB
  refine ⟨v', w', hr, ?_, h3, fun y hy => ?_⟩
  · unfold OwnX
    rw [List.length_append]
    exact h2
  · rcases h5 with h5 | h5
    · exact .inl (h5 ▸ hy)
    · rw [h5] at hy; simp at hy; exact .inr (by omega)

theorem wpList_append_vecp {w : World} {ops : Array Oper} {rest : List Oper} {o : Oper} {act : Act} {Q : Exit → Act → World → Prop} (hgd : o.guard = none) (s x : Operand)
    (ho : o.op = .call { callee := .builtin .append, args := #[s, x], argTypes := #[151, 151] })
    {B : Nat} {v : Value} {l : List Value} (h : OwnX 139 w B v l) (hs : act.eval s = v) (y : Value) (hone : y.oneCell' = true) (b k c : Nat) (hx : act.eval x = .slice (some ⟨b, k, none⟩) 1 c) (hm : w.cell? ⟨b, k, none⟩ = some y)
    (hlen : l.length ≤ 1000000) (hB : B ≤ w.heap.size)
    (hK : ∀ v' w', OwnX 139 w' B v' (l ++ [y]) → w.grownBy w' v.ownBlock → (∀ x, v'.ownBlock = some x → v.ownBlock = some x ∨ w.heap.size ≤ x) → wpList Tryz.prog ops Q rest (act.put o.dst v') w') : wpList Tryz.prog ops Q (o :: rest) act w := by
  refine wpList_plain hgd fun K hK' => ?_
  obtain ⟨v', w', hrun, h1, h2, h3⟩ := append_runvecp h y hone b k c hm hlen hB o.type
  unfold Oper.wp
  simp [execOp, ho, resolve, invoke, builtin, hs, hx, hrun, Result.andThen]
  exact hK' _ _ (hK v' w' h1 h2 h3)

/-- A slice of slices of bytes that the call has made: its slices, in other blocks, read as these. -/
def Pcs (w : World) (B : Nat) (v : Value) (L : List (List UInt8)) : Prop :=
  ∃ vs, OwnX 22 w B v vs ∧ vs.length = L.length ∧ ∀ (i : Nat) (x : List UInt8), L[i]? = some x → ∃ u, vs[i]? = some u ∧ RdS w u x
/-- .. to be read. -/
def RdL (w : World) (v : Value) (L : List (List UInt8)) : Prop :=
  ∃ a c, v = .slice a L.length c ∧ L.length ≤ c ∧ c ≤ 9223372036854775807 ∧ (∀ (i : Nat) (x : List UInt8), L[i]? = some x → ∃ g u, a = some ⟨g, 0, none⟩ ∧ w.cell? ⟨g, i, none⟩ = some u ∧ RdS w u x) ∧ (a = none → L = [] ∧ c = 0)
theorem Pcs.nil (w : World) (B : Nat) : Pcs w B (.slice none 0 0) [] := ⟨[], OwnX.nil _ _ _, rfl, by simp⟩
theorem Pcs.rdl {w : World} {B : Nat} {v : Value} {L : List (List UInt8)} (h : Pcs w B v L) : RdL w v L := by
  obtain ⟨vs, hO, hl, he⟩ := h
  obtain ⟨a, c, rfl, h1, h2, h3, h4⟩ := hO.read
  rw [hl] at h1 ⊢
  refine ⟨a, c, rfl, h1, h2, fun i x hx => ?_, fun ha => ⟨?_, (h4 ha).2⟩⟩
  · obtain ⟨u, hu, hr⟩ := he i x hx
    obtain ⟨g, ha, _, hc⟩ := h3 i u hu
    exact ⟨g, u, ha, hc, hr⟩
  · have := (h4 ha).1
    rw [this] at hl
    exact List.length_eq_zero_iff.1 hl.symm
theorem Pcs.keepsNil {w w' : World} {B : Nat} {v : Value} {L : List (List UInt8)} (h : Pcs w B v L) (k : Keeps [] w w') : Pcs w' B v L := by
  obtain ⟨vs, hO, hl, he⟩ := h
  exact ⟨vs, hO.keeps k (by simp), hl, fun i x hx => by obtain ⟨u, hu, hr⟩ := he i x hx; exact ⟨u, hu, hr.keepsNil k⟩⟩
theorem Pcs.mono {w : World} {B B' : Nat} {v : Value} {L : List (List UInt8)} (h : Pcs w B v L) (hB : B' ≤ B) : Pcs w B' v L := by
  obtain ⟨vs, hO, hl, he⟩ := h
  exact ⟨vs, hO.mono hB, hl, he⟩
theorem RdL.keepsNil {w w' : World} {v : Value} {L : List (List UInt8)} (h : RdL w v L) (k : Keeps [] w w') : RdL w' v L := by
  obtain ⟨a, c, rfl, h1, h2, h3, h4⟩ := h
  refine ⟨a, c, rfl, h1, h2, fun i x hx => ?_, h4⟩
  obtain ⟨g, u, ha, hc, hr⟩ := h3 i x hx
  exact ⟨g, u, ha, k.cell0 hc, hr.keepsNil k⟩
theorem RdS.grown {w w' : World} {row : Option Nat} {v : Value} {l : List UInt8} (h : RdS w v l) (hg : w.grownBy w' row) (hr : ∀ k, row = some k → ∃ cs, Blk w k 22 cs) : RdS w' v l := by
  obtain ⟨a, c, rfl, h1, h2, h3, h4, h5⟩ := h
  have k : Keeps row.toList w w' := (Keeps.refl row.toList w).grown hg (fun k hk => .inl (by rw [hk]; simp))
  have hne : ∀ x, a = some x → l ≠ [] → x.block ∉ row.toList := fun x hx hl hm => by
    obtain ⟨cs, hb⟩ := h5 x hx hl
    obtain ⟨cs', hb'⟩ := hr x.block (by simpa using hm)
    exact hb.ne hb' (by decide) rfl
  exact ⟨a, c, rfl, h1, h2, h3.keeps k hne, h4, fun x hx hl => by obtain ⟨cs, hb⟩ := h5 x hx hl; exact ⟨cs, hb.keeps k (hne x hx hl)⟩⟩

/-- One slice more. -/
theorem Pcs.snoc {w w' : World} {B : Nat} {v v' u : Value} {vs : List Value} {L : List (List UInt8)} {x : List UInt8} (hO : OwnX 22 w B v vs) (hl : vs.length = L.length) (he : ∀ (i : Nat) (x : List UInt8), L[i]? = some x → ∃ u, vs[i]? = some u ∧ RdS w u x)
    (hu : RdS w u x) (h' : OwnX 22 w' B v' (vs ++ [u])) (hg : w.grownBy w' v.ownBlock) : Pcs w' B v' (L ++ [x]) := by
  have hr : ∀ k, v.ownBlock = some k → ∃ cs, Blk w k 22 cs := fun k hk => (hO.block hk).2.2
  refine ⟨vs ++ [u], h', by simp [hl], fun i y hy => ?_⟩
  by_cases hi : i < L.length
  · rw [List.getElem?_append_left hi] at hy
    obtain ⟨z, hz, hzr⟩ := he i y hy
    exact ⟨z, by rw [List.getElem?_append_left (by omega)]; exact hz, hzr.grown hg hr⟩
  · rw [List.getElem?_append_right (by omega)] at hy
    have h0 : i - L.length = 0 := by
      rcases Nat.eq_zero_or_pos (i - L.length) with h0 | h0
      · exact h0
      · rw [List.getElem?_eq_none (by simp; omega)] at hy; cases hy
    rw [h0] at hy
    simp only [List.getElem?_cons_zero, Option.some.injEq] at hy
    subst hy
    exact ⟨u, by rw [List.getElem?_append_right (by omega), show i - vs.length = 0 from by omega]; rfl, hu.grown hg hr⟩

end Go.Proofs.YtijhaeapoapgfaaGreatDoor

set_option linter.unusedVariables false
set_option linter.unusedSimpArgs false
namespace Go.Proofs.YtijhaeapoapgfaaGreatDoor
open Go.RowKit
attribute [local go_sem ↓] Go.wp_at_zero Go.wp_at_succ

set_option maxRecDepth 100000 in
theorem bcount_calls {w : World} (len size : Nat) (hl : len ≤ 512) (h1 : 1 ≤ size) (h2 : size ≤ 16) :
    Calls Tryz.prog 69 #[.int .i64 len, .int .i64 size] w fun e w' => e = .returned (.int .i64 (bcount len size)) ∧ w = w' := by
  by_cases h0 : len = 0
  · subst h0
    go_enter Tryz.func69, Tryz.ntmps69
    go_wp2_with fail
    go_ret
    exact ⟨rfl, rfl⟩
  · have hE : bcount len size = if (len + size - 1) / size ≤ 64 then (len + size - 1) / size else 0 := by unfold bcount; rw [if_neg h0]
    have hq : ((len : Int) + (size : Int) - 1) / (size : Int) = (((len + size - 1) / size : Nat) : Int) := by
      rw [show (len : Int) + (size : Int) - 1 = ((len + size - 1 : Nat) : Int) from by omega, Int.natCast_ediv]
    have hqb : (len + size - 1) / size ≤ len + size - 1 := Nat.div_le_self _ _
    generalize (len + size - 1) / size = q at *
    by_cases h64 : q ≤ 64
    · rw [if_pos h64] at hE
      have HE := Lib.hid hE
      clear hE
      go_enter Tryz.func69, Tryz.ntmps69
      go_wp2_with fail
      go_ret
      exact ⟨by rw [HE.out, ← hq]; rfl, rfl⟩
    · rw [if_neg h64] at hE
      have HE := Lib.hid hE
      clear hE
      go_enter Tryz.func69, Tryz.ntmps69
      go_wp2_with fail
      go_ret
      exact ⟨by rw [HE.out]; rfl, rfl⟩

def PcsPost (w : World) (L : List (List UInt8)) (e : Ending) (w' : World) : Prop := ∃ v, e = .returned v ∧ Pcs w' w.heap.size v L ∧ Keeps [] w w'

set_option maxRecDepth 100000 in
set_option maxHeartbeats 1000000 in
theorem bsplit_calls {w : World} {vi : Value} {img : List UInt8} (hi : RdS w vi img) (K size : Nat) (hl : img.length ≤ 512) (h1 : 1 ≤ size) (h2 : size ≤ 16) (hK : bcount img.length size = K) (hK1 : 1 ≤ K) (hK2 : K ≤ 64) (hfit : img.length ≤ K * size) :
    Calls Tryz.prog 122 #[vi, .int .i64 size] w (PcsPost w (bsplit img K size K)) := by
  obtain ⟨a, c, rfl, _, _, hrd, hn0, _⟩ := hi
  have hC := bcount_calls (w := w) img.length size hl h1 h2
  rw [hK] at hC
  have hn : (K : Int) * (size : Int) = ((K * size : Nat) : Int) := by simp
  have hnb : K * size ≤ 64 * 16 := Nat.mul_le_mul hK2 h2
  have hn1 : 1 ≤ K * size := Nat.mul_pos (by omega) (by omega)
  have hmx : max (size : Int) 0 = size := by omega
  have hpl : ∀ i, i < K → (bpiece img K size i).length = size := fun i hi => bpiece_len hfit hi
  have hbs := bsplit_succ img K size
  have hbl := bsplit_len img K size
  have hpd : ∀ i, bpiece img K size i = ((bfull img (K * size)).drop (i * size)).take size := fun i => rfl
  have hip : ∀ i, i < K → (i + 1) * size ≤ K * size := fun i hi => Nat.mul_le_mul_right _ hi
  have hfl := bfull_len hfit
  have hfd : bfull img (K * size) = img ++ zer (K * size - img.length) := rfl
  have hb0 : bsplit img K size 0 = [] := rfl
  generalize bsplit img K size = bs at *
  generalize bpiece img K size = bp at *
  generalize bfull img (K * size) = D at *
  generalize K * size = n at *
  have hmk := fun w => make_u8 n n (Nat.le_refl _) (by omega) w
  go_enter Tryz.func122, Tryz.ntmps122
  go_wp2_with fail
  refine hC.mono ?_
  rintro e w' ⟨rfl, rfl⟩
  have hbl0 := Blk.newA w 5 (zeros n)
  obtain ⟨w1, hcp, hb1, hk1⟩ : ∃ W', (Builtin.copy_ #[22, 22] 3 #[.slice (some ⟨w.heap.size, 0, none⟩) n n, .slice a img.length c]).run Tryz.prog (w.alloc (.cells (zeros n) 5)) = .ok (.int .i64 img.length) W' ∧
      Blk W' w.heap.size 5 (D.map B8) ∧ Keeps [] w W' := by
    cases a with
    | none =>
      exfalso
      have := (hn0 rfl).1
      subst this
      have : bcount 0 size = 0 := rfl
      simp only [List.length_nil] at hK
      omega
    | some x =>
      obtain ⟨W', e1, e2, e3⟩ := copy_run (w := w.alloc (.cells (zeros n) 5)) (g := w.heap.size) (o := 0) (dLen := n) (dCap := n) (x := x) (sLen := img.length) (sCap := c) hbl0 img (by show img.length = min img.length n; omega) ((hrd.keeps ((Keeps.refl [] w).alloc _) (by simp)).news) (by simp [zeros]; omega)
      refine ⟨W', e1, ?_, ((Keeps.refl [] w).alloc _).trans' e3 (fun _ h => .inl h) (by simp)⟩
      rw [hfd, List.map_append]
      simpa [zeros, zer] using e2
  have HD := Lib.hid hb1
  have hk1' := Lib.hid hk1
  have hgl := hb1.lt
  have hP0 := Pcs.nil w1 w1.heap.size
  rw [← hb0] at hP0
  have Hbs := Lib.hid hbs
  have Hbl := Lib.hid hbl
  have Hpl := Lib.hid hpl
  have Hpd := Lib.hid hpd
  have Hip := Lib.hid hip
  have Hfl := Lib.hid hfl
  clear hb1 hk1 hb0 hbs hbl hpl hpd hip hfl hfd hbl0 hK hC hn0 hrd
  go_wp2_with fail
  go_loopw [7, 22] (fun v i wr => ∃ k : Nat, k ≤ K ∧ i = .int .i64 k ∧ Pcs wr w1.heap.size v (bs k) ∧ Keeps [] w1 wr) (fun _ i _ => K - (intOf i).toNat)
  case atStart => exact ⟨0, Nat.zero_le _, rfl, hP0, Keeps.refl _ _⟩
  case round =>
    obtain ⟨k, hk, rfl, hP, hK⟩ := hrel
    by_cases hlt : k < K
    · have hlo : (k : Int) * (size : Int) = ((k * size : Nat) : Int) := by simp
      have hhi : ((k : Int) + 1) * (size : Int) = (((k + 1) * size : Nat) : Int) := by simp
      have hpk := Hpd.out k
      have hlk := Hpl.out k hlt
      have hi2 := Hip.out k hlt
      have hst : (k + 1) * size = k * size + size := by rw [Nat.add_mul, Nat.one_mul]
      have hb := Hbs.out k
      have hbl := Hbl.out k
      have hDr := HD.out.keeps hK (by simp)
      have hrd : Rd wr (some ⟨w.heap.size, k * size, none⟩) (bp k) := by
        rw [hpk]
        have := Blk.rdSub (r := []) (l := D) (by rw [List.append_nil]; exact hDr) (k * size) size
        exact this
      generalize k * size = lo at *
      generalize (k + 1) * size = hi at *
      have hsz := hK.size
      have hC := fun c => clone_calls (w := wr) (some ⟨w.heap.size, lo, none⟩) size c (bp k) hrd hlk (by omega) (by simp)
      obtain ⟨vs, hO, hvl, hve⟩ := hP
      have i1 : (lo : Int) ≤ (hi : Int) := by omega
      have i2 : (hi : Int) ≤ (n : Int) := by omega
      have HC := Lib.hid hC
      have HO := Lib.hid hO
      have Hve := Lib.hid hve
      have Hb := Lib.hid hb
      have HKr := Lib.hid hK
      have e3 : hi - lo = size := by omega
      clear hrd hDr hC hO hve hb hpk hK
      go_wp2_with fail
      refine (HC.out (n - lo)).mono ?_
      rintro e w2 ⟨v2, rfl, hO2, k2⟩
      obtain ⟨a2, c2, rfl, r1, r2, r3, r4, r5⟩ := hO2.rds
      rw [hlk] at r1 ⊢
      have kB : Keeps [] w2 (w2.alloc (.cells #[.slice a2 size c2] 22)) := (Keeps.refl [] w2).alloc _
      have HU := Lib.hid (show RdS (w2.alloc (.cells #[.slice a2 size c2] 22)) (.slice a2 size c2) (bp k) from (show RdS w2 (.slice a2 size c2) (bp k) from ⟨a2, c2, by rw [hlk], by omega, r2, r3, r4, r5⟩).keepsNil kB)
      have HOw := Lib.hid (HO.out.keeps (k2.trans kB) (by simp))
      have Hve2 := Lib.hid (fun (i : Nat) (x : List UInt8) (hx : (bs k)[i]? = some x) => by obtain ⟨u, hu, hr⟩ := Hve.out i x hx; exact (⟨u, hu, hr.keepsNil (k2.trans kB)⟩ : ∃ u, vs[i]? = some u ∧ RdS (w2.alloc (.cells #[.slice a2 size c2] 22)) u x))
      have HX := Lib.hid (show (w2.alloc (.cells #[.slice a2 size c2] 22)).cell? ⟨w2.heap.size, 0, none⟩ = some (.slice a2 size c2) from (Blk.newA w2 22 #[.slice a2 size c2]).cell' rfl)
      have hs2 := k2.size
      have hB : w1.heap.size ≤ (w2.alloc (.cells #[.slice a2 size c2] 22)).heap.size := by simp; omega
      have hvl6 : vs.length ≤ 1000000 := by omega
      have HK2 := Lib.hid ((HKr.out.trans k2).trans kB)
      clear r3 r4 r5 hO2 kB k2
      go_wp2_with (at_builtin; (refine wpList_append_bs rfl (.tmp 25) (.tmp 36) rfl HOw.out rfl (.slice a2 size c2) rfl _ 0 1 rfl HX.out hvl6 hB ?_); intro v3 w3 g1 g2 g3)
      go_roundw
      case rel =>
        refine ⟨k + 1, by omega, by go_num, ?_, HK2.out.grown g2 (fun x hx => .inr (HOw.out.block hx).1)⟩
        rw [Hb.out]
        exact Pcs.snoc HOw.out hvl Hve2.out HU.out g1 g2
      case measure => simp [intOf]; omega
    · obtain rfl : k = K := by omega
      have HP := Lib.hid hP
      have HKr := Lib.hid hK
      have hsz := hk1'.out.size
      clear hP hK
      go_wp2_with fail
      go_ret
      exact ⟨_, rfl, HP.out.mono hsz, hk1'.out.trans HKr.out⟩

end Go.Proofs.YtijhaeapoapgfaaGreatDoor

set_option linter.unusedVariables false
set_option linter.unusedSimpArgs false
namespace Go.Proofs.YtijhaeapoapgfaaGreatDoor
open Go.RowKit
attribute [local go_sem ↓] Go.wp_at_zero Go.wp_at_succ

theorem xor_byte (a b : UInt8) : bits .xor .u8 (a.toNat : Int) (b.toNat : Int) = ((a ^^^ b).toNat : Int) := by
  rw [u8_xor_nat _ _ a.toNat_lt b.toNat_lt, UInt8.toNat_xor]
theorem map_set8 (l : List UInt8) (i : Nat) (x : UInt8) : (l.map B8).set i (B8 x) = (l.set i x).map B8 := by rw [List.map_set]

/-- Bytes in a block of their own. -/
def BNew (w : World) (l : List UInt8) (e : Ending) (w' : World) : Prop := ∃ g, e = .returned (.slice (some ⟨g, 0, none⟩) l.length l.length) ∧ w.heap.size ≤ g ∧ Blk w' g 5 (l.map B8) ∧ Keeps [] w w'

set_option maxRecDepth 100000 in
set_option maxHeartbeats 2000000 in
theorem bsum_calls {w : World} {v : Value} {L : List (List UInt8)} (hv : RdL w v L) (size : Nat) (hsz : size ≤ 16) (hs1 : 1 ≤ size) (hL : ∀ x ∈ L, x.length = size) (hL1 : 1 ≤ L.length) (hL2 : L.length ≤ 1000000) :
    Calls Tryz.prog 75 #[v] w (BNew w (bsum size L)) := by
  obtain ⟨a, c, rfl, _, _, hrd, _⟩ := hv
  have hmk := fun w => make_u8 size size (Nat.le_refl _) (by omega) w
  have Hrd := Lib.hid hrd
  have HL := Lib.hid hL
  clear hrd hL
  go_enter Tryz.func75, Tryz.ntmps75
  go_wp2_with fail
  go_loopw [3, 10] (fun o i wr => ∃ k : Nat, k ≤ L.length ∧ i = .int .i64 k ∧ (if k = 0 then o = .slice none 0 0 else ∃ g, o = .slice (some ⟨g, 0, none⟩) size size ∧ w.heap.size ≤ g ∧ Blk wr g 5 ((bsum size (L.take k)).map B8)) ∧ Keeps [] w wr) (fun _ i _ => L.length - (intOf i).toNat)
  case atStart => exact ⟨0, Nat.zero_le _, rfl, rfl, Keeps.refl _ _⟩
  case round =>
    obtain ⟨k, hk, rfl, ho, hK⟩ := hrel
    by_cases hlt : k < L.length
    · obtain ⟨g0, u, rfl, hc0, hru⟩ := Hrd.out k L[k] (List.getElem?_eq_getElem hlt)
      have hbl := HL.out L[k] (List.getElem_mem hlt)
      have hcr := hK.cell0 hc0
      have hsn : bsum size (L.take (k + 1)) = xorL (bsum size (L.take k)) L[k] := by rw [List.take_add_one, List.getElem?_eq_getElem hlt]; exact bsum_snoc _ _ _
      have hAl : (bsum size (L.take k)).length = size := bsum_len (zer_len _) (fun x hx => HL.out x (List.mem_of_mem_take hx))
      have hA0 : k = 0 → bsum size (L.take k) = zer size := fun h => by subst h; rfl
      generalize L[k] = b at *
      generalize hA : bsum size (L.take k) = A at *
      obtain ⟨ab, cb, rfl, b1, b2, b3, _, _⟩ := hru
      rw [hbl] at b1 hcr
      have HRd := Lib.hid b3
      have Hsn := Lib.hid hsn
      have HA := Lib.hid hAl
      have hkn : (k : Int) < (L.length : Int) := by omega
      clear hc0 b3 hsn hA
      by_cases hk0 : k = 0
      · rw [if_pos hk0] at ho
        subst ho
        have hAz := hA0 hk0
        clear hA0
        have HG := Lib.hid (show Blk (wr.alloc (.cells (zeros size) 5)) wr.heap.size 5 ((xorTo A b 0).map B8) from by
          have := Blk.newA wr 5 (zeros size)
          rw [xorTo_zero, hAz]
          simpa [zeros, zer] using this)
        have HKK := Lib.hid (hK.alloc (.cells (zeros size) 5))
        have HGb := Lib.hid hK.size
        clear hK hAz
        obtain ⟨wg, hwg⟩ : ∃ wg, wg = wr.heap.size := ⟨_, rfl⟩
        rw [← hwg] at HG HGb
        subst hk0
        go_wp2_with fail
        rw [← hwg]
        generalize wr.alloc (.cells (zeros size) 5) = wr1 at *
        clear hwg
        go_loopw [27] (fun i wx => ∃ j : Nat, j ≤ size ∧ i = .int .i64 j ∧ Blk wx wg 5 ((xorTo A b j).map B8) ∧ Keeps [] w wx) (fun i _ => size - (intOf i).toNat)
        case atStart => exact ⟨0, Nat.zero_le _, rfl, HG.out, HKK.out⟩
        case round =>
          clear HG HKK
          obtain ⟨j, hj, rfl, hG, hKj⟩ := hrel
          by_cases hjl : j < size
          · obtain ⟨bb, oo, rfl, cb⟩ := (HRd.out.keepsNil hKj) j (b.getD j 0) (by rw [List.getD_eq_getElem?_getD, List.getElem?_eq_getElem (by omega)]; rfl)
            have hgt := xorTo_getD (a := A) (b := b) (by omega) (k := j) (by omega)
            have hset := xorTo_set (a := A) (b := b) (by omega) (k := j) (by omega)
            rw [hgt] at hset
            have cg : wr.cell? ⟨wg, j, none⟩ = some (B8 (A.getD j 0)) := hG.cell' (by
              rw [List.getElem?_map, List.getElem?_eq_getElem (by rw [xorTo_len (by omega)]; omega)]
              rw [List.getD_eq_getElem?_getD, List.getElem?_eq_getElem (by rw [xorTo_len (by omega)]; omega)] at hgt
              rw [← hgt]; rfl)
            have fr := hG.frozen j
            have hS := hG.set j (B8 (A.getD j 0 ^^^ b.getD j 0))
            rw [map_set8, hset] at hS
            have hx8 := xor_byte (A.getD j 0) (b.getD j 0)
            have HS := Lib.hid hS
            have HKj := Lib.hid (hKj.setCell (p := ⟨wg, j, none⟩) (.inr HGb.out) (B8 (A.getD j 0 ^^^ b.getD j 0)))
            have hji : (j : Int) < (size : Int) := by omega
            clear hgt hset hS hG hKj
            generalize A.getD j 0 = x at *
            generalize b.getD j 0 = y at *
            go_wp2_with fail
            go_roundw
            case rel => exact ⟨j + 1, by omega, by go_num, HS.out, HKj.out⟩
            case measure => simp [intOf]; omega
          · obtain rfl : j = size := by omega
            rw [show xorTo A b j = xorL A b from by have := xorTo_all (a := A) (b := b) (by omega); rwa [HA.out] at this] at hG
            have HG := Lib.hid hG
            have HKj := Lib.hid hKj
            clear hG hKj
            go_wp2_with fail
            go_roundw
            case rel => exact ⟨0 + 1, by omega, by go_num, by rw [if_neg (by omega)]; exact ⟨wg, rfl, HGb.out, by rw [Hsn.out]; exact HG.out⟩, HKj.out⟩
            case measure => simp [intOf]; omega
      · rw [if_neg hk0] at ho
        obtain ⟨wg, rfl, hgb, hGb⟩ := ho
        have HG := Lib.hid (show Blk wr wg 5 ((xorTo A b 0).map B8) from by rw [xorTo_zero]; exact hGb)
        have HKK := Lib.hid hK
        have HGb := Lib.hid hgb
        have hkz : ¬ (k : Int) = 0 := by omega
        clear hK hGb hA0 hgb
        go_wp2_with fail
        go_loopw [27] (fun i wx => ∃ j : Nat, j ≤ size ∧ i = .int .i64 j ∧ Blk wx wg 5 ((xorTo A b j).map B8) ∧ Keeps [] w wx) (fun i _ => size - (intOf i).toNat)
        case atStart => exact ⟨0, Nat.zero_le _, rfl, HG.out, HKK.out⟩
        case round =>
          clear HG HKK
          obtain ⟨j, hj, rfl, hG, hKj⟩ := hrel
          by_cases hjl : j < size
          · obtain ⟨bb, oo, rfl, cb⟩ := (HRd.out.keepsNil hKj) j (b.getD j 0) (by rw [List.getD_eq_getElem?_getD, List.getElem?_eq_getElem (by omega)]; rfl)
            have hgt := xorTo_getD (a := A) (b := b) (by omega) (k := j) (by omega)
            have hset := xorTo_set (a := A) (b := b) (by omega) (k := j) (by omega)
            rw [hgt] at hset
            have cg : wr.cell? ⟨wg, j, none⟩ = some (B8 (A.getD j 0)) := hG.cell' (by
              rw [List.getElem?_map, List.getElem?_eq_getElem (by rw [xorTo_len (by omega)]; omega)]
              rw [List.getD_eq_getElem?_getD, List.getElem?_eq_getElem (by rw [xorTo_len (by omega)]; omega)] at hgt
              rw [← hgt]; rfl)
            have fr := hG.frozen j
            have hS := hG.set j (B8 (A.getD j 0 ^^^ b.getD j 0))
            rw [map_set8, hset] at hS
            have hx8 := xor_byte (A.getD j 0) (b.getD j 0)
            have HS := Lib.hid hS
            have HKj := Lib.hid (hKj.setCell (p := ⟨wg, j, none⟩) (.inr HGb.out) (B8 (A.getD j 0 ^^^ b.getD j 0)))
            have hji : (j : Int) < (size : Int) := by omega
            clear hgt hset hS hG hKj
            generalize A.getD j 0 = x at *
            generalize b.getD j 0 = y at *
            go_wp2_with fail
            go_roundw
            case rel => exact ⟨j + 1, by omega, by go_num, HS.out, HKj.out⟩
            case measure => simp [intOf]; omega
          · obtain rfl : j = size := by omega
            rw [show xorTo A b j = xorL A b from by have := xorTo_all (a := A) (b := b) (by omega); rwa [HA.out] at this] at hG
            have HG := Lib.hid hG
            have HKj := Lib.hid hKj
            clear hG hKj
            go_wp2_with fail
            go_roundw
            case rel => exact ⟨k + 1, by omega, by go_num, by rw [if_neg (by omega)]; exact ⟨wg, rfl, HGb.out, by rw [Hsn.out]; exact HG.out⟩, HKj.out⟩
            case measure => simp [intOf]; omega
    · obtain rfl : k = L.length := by omega
      rw [if_neg (by omega), List.take_length] at ho
      obtain ⟨g, rfl, hg, hG⟩ := ho
      have hlen : (bsum size L).length = size := bsum_len (zer_len _) HL.out
      have HK := Lib.hid hK
      have HG := Lib.hid hG
      have Hlen := Lib.hid hlen
      clear hK hG hlen
      go_wp2_with fail
      go_ret
      exact ⟨g, by rw [Hlen.out]; rfl, hg, HG.out, HK.out⟩

end Go.Proofs.YtijhaeapoapgfaaGreatDoor

set_option linter.unusedVariables false
set_option linter.unusedSimpArgs false
namespace Go.Proofs.YtijhaeapoapgfaaGreatDoor
open Go.RowKit

/-- append([]byte(nil), make([]byte, n)...) -/
theorem grow_run (w : World) (n : Nat) (h0 : 0 < n) (hn : n ≤ 140737488351232) (ty : TypeId) :
    (Builtin.append_ #[22, 3] ty #[.slice none 0 0, .int .i64 n]).run Tryz.prog w =
      .ok (.slice (some ⟨w.heap.size, 0, none⟩) n (grownCap w n 0 5)) (w.drew.alloc (.cells (Builtin.zeroCells #[.int .u8 0] n ++ Builtin.zeroCells #[.int .u8 0] (grownCap w n 0 5 - n)) 5)) := by
  obtain ⟨i0, hi, hz0, hz1, hz2⟩ := info_parts Tryz.info_u8
  have hn' : n ≠ 0 := by omega
  have h63' : ¬ (9223372036854775807 < (n : Int)) := by omega
  have h48' : ¬ (281474976710656 < Builtin.nextslicecap n 0) := by rw [nextslicecap_zero h0]; omega
  have h48'' : ¬ (281474976710656 < (n : Int)) := by omega
  have hw : IntKind.i64.wrap (n : Int) = n := IntWalk.i64_in _ (by omega)
  have hle : ¬ ((n : Int) ≤ 0) := by omega
  have hmx : ¬ (9223372036854775807 < max (n : Int) 0) := by omega
  have hneg : ¬ ((n : Int) < 0) := by omega
  simp [Builtin.append_, run_underlying Tryz.underlying22, run_underlying Tryz.underlying3, sizeOf, typeInfo, zeroValue, hi, hz0, hz1, hz2, Builtin.lenOf, hn', h63', h48', h48'', hw, hneg, Question.forced, run_firstCells_none, newRow, grownCap, asInt, asIntOf]
  rfl

theorem wpList_grow {w : World} {ops : Array Oper} {rest : List Oper} {o : Oper} {act : Act} {Q : Exit → Act → World → Prop} (hgd : o.guard = none) (s x : Operand)
    (ho : o.op = .call { callee := .builtin .append, args := #[s, x], argTypes := #[22, 3] }) (n : Nat) (hs : act.eval s = .slice none 0 0) (hx : act.eval x = .int .i64 n) (h0 : 0 < n) (hn : n ≤ 140737488351232)
    (hK : ∀ c w', n ≤ c → c ≤ maxLen → (∃ cs : Array Value, cs.size = c ∧ w' = w.drew.alloc (.cells cs 5)) → wpList Tryz.prog ops Q rest (act.put o.dst (.slice (some ⟨w.heap.size, 0, none⟩) n c)) w') : wpList Tryz.prog ops Q (o :: rest) act w := by
  refine wpList_plain hgd fun K hK' => ?_
  unfold Oper.wp
  simp [execOp, ho, resolve, invoke, builtin, hs, hx, grow_run w n h0 hn o.type, Result.andThen]
  have hge := grownCap_ge w n 0 5
  refine hK' _ _ (hK _ _ hge (grownCap_le_maxLen w n 0 5 (by unfold maxLen; omega)) ⟨_, ?_, rfl⟩)
  simp only [Array.size_append, size_zeroCells]
  simp
  omega

set_option maxRecDepth 100000 in
theorem grow_calls {w : World} (n : Nat) (h0 : 0 < n) (hn : n ≤ 140737488351232) :
    Calls Tryz.prog 154 #[.slice none 0 0, .int .i64 n] w fun e w' => ∃ c, e = .returned (.slice (some ⟨w.heap.size, 0, none⟩) 0 c) ∧ Own w' w.heap.size (.slice (some ⟨w.heap.size, 0, none⟩) 0 c) [] ∧ Keeps [] w w' := by
  have hi : (0 : Int) < (n : Int) := by omega
  go_enter Tryz.func154, Tryz.ntmps154
  go_wp2_with (at_builtin; (refine wpList_grow rfl _ _ rfl n rfl rfl h0 hn ?_); rintro c w1 hc hcm ⟨cs, hcs, rfl⟩)
  go_ret
  have hg : ((w.alloc (.cells cs 5)).drew).heap[w.heap.size]? = some (.cells cs 5 (0, 0)) := by
    show (w.heap.push _)[w.heap.size]? = _
    simp
  exact ⟨c, rfl, ⟨by simp, .inr ⟨w.heap.size, c, cs, rfl, Nat.le_refl _, hg, Nat.zero_le _, hcm, by omega, by simp⟩⟩, ((Keeps.refl [] w).alloc _).drew⟩

theorem Own.ge {w : World} {B : Nat} {v : Value} {l : List UInt8} (h : Own w B v l) : ∀ y, v.ownBlock = some y → B ≤ y := by
  intro y hy
  rcases h.2 with ⟨rfl, _⟩ | ⟨g, cap, cur, rfl, hb, _⟩
  · simp [Value.ownBlock] at hy
  · simp [Value.ownBlock] at hy; omega

end Go.Proofs.YtijhaeapoapgfaaGreatDoor

set_option linter.unusedVariables false
namespace Go.Proofs.YtijhaeapoapgfaaGreatDoor
open Go.RowKit

theorem Own.lit8 (w : World) (c : Array Value) (l : List UInt8) (n : Nat) (hc : c.toList = l.map B8) (hn : l.length = n) (hm : n ≤ 1000000) :
    Own (w.alloc (.cells c 5)) w.heap.size (.slice (some ⟨w.heap.size, 0, none⟩) n n) l := by
  have hcs : c.size = n := by rw [← Array.length_toList, hc, List.length_map, hn]
  have hg : (w.alloc (.cells c 5)).heap[w.heap.size]? = some (.cells c 5 (0, 0)) := by
    show (w.heap.push _)[w.heap.size]? = _
    simp
  refine ⟨by simp, .inr ⟨w.heap.size, n, c, by rw [hn], Nat.le_refl _, hg, by omega, by unfold maxLen; omega, by omega, ?_⟩⟩
  rw [hc, List.take_of_length_le (by rw [List.length_map]; omega)]
theorem Own.ge8 {w : World} {B : Nat} {v : Value} {l : List UInt8} (h : Own w B v l) : ∀ y, v.ownBlock = some y → B ≤ y := by
  intro y hy
  rcases h.2 with ⟨rfl, _⟩ | ⟨g, cap, cur, rfl, hb, _⟩
  · simp [Value.ownBlock] at hy
  · simp [Value.ownBlock] at hy; omega

theorem Blk.put4 {w : World} {p : Nat} {t : TypeId} {a0 b0 c0 d0 : Value} (h : Blk w p t [a0, b0, c0, d0]) (a b c d : Value) :
    Blk ((((w.setCell ⟨p, 0, none⟩ a).setCell ⟨p, 1, none⟩ b).setCell ⟨p, 2, none⟩ c).setCell ⟨p, 3, none⟩ d) p t [a, b, c, d] := (((h.set 0 a).set 1 b).set 2 c).set 3 d
theorem Keeps.put4 {S : List Nat} {w' w : World} {p : Nat} (k : Keeps S w' w) (hp : p ∈ S ∨ w'.heap.size ≤ p) (a b c d : Value) :
    Keeps S w' ((((w.setCell ⟨p, 0, none⟩ a).setCell ⟨p, 1, none⟩ b).setCell ⟨p, 2, none⟩ c).setCell ⟨p, 3, none⟩ d) := (((k.setCell hp _).setCell hp _).setCell hp _).setCell hp _

end Go.Proofs.YtijhaeapoapgfaaGreatDoor

set_option linter.unusedVariables false
set_option linter.unusedSimpArgs false
namespace Go.Proofs.YtijhaeapoapgfaaGreatDoor
open Go.RowKit

/-- Bytes to be read; of their block nothing is said. -/
def RdS0 (w : World) (v : Value) (l : List UInt8) : Prop :=
  ∃ a c, v = .slice a l.length c ∧ l.length ≤ c ∧ c ≤ 9223372036854775807 ∧ Rd w a l ∧ (a = none → l = [] ∧ c = 0)
theorem RdS.z {w : World} {v : Value} {l : List UInt8} (h : RdS w v l) : RdS0 w v l := by
  obtain ⟨a, c, h1, h2, h3, h4, h5, _⟩ := h
  exact ⟨a, c, h1, h2, h3, h4, h5⟩
theorem RdS0.keepsNil {w w' : World} {v : Value} {l : List UInt8} (h : RdS0 w v l) (k : Keeps [] w w') : RdS0 w' v l := by
  obtain ⟨a, c, h1, h2, h3, h4, h5⟩ := h
  exact ⟨a, c, h1, h2, h3, h4.keepsNil k, h5⟩
theorem RdS0.str {w : World} {v : Value} {x : List UInt8} (h : RdS0 w v x) : (convert 22 9 v).run Tryz.prog w = .ok (.string ⟨x.toArray⟩) w := by
  obtain ⟨a, c, rfl, _, _, r3, r4⟩ := h
  exact str_run x.length c r3 rfl (fun h => (r4 h).1)
def RdL0 (w : World) (v : Value) (L : List (List UInt8)) : Prop :=
  ∃ a c, v = .slice a L.length c ∧ (∀ (i : Nat) (x : List UInt8), L[i]? = some x → ∃ g u, a = some ⟨g, 0, none⟩ ∧ w.cell? ⟨g, i, none⟩ = some u ∧ RdS0 w u x)
theorem RdL.z {w : World} {v : Value} {L : List (List UInt8)} (h : RdL w v L) : RdL0 w v L := by
  obtain ⟨a, c, h1, _, _, h4, _⟩ := h
  exact ⟨a, c, h1, fun i x hx => by obtain ⟨g, u, e, hc, hr⟩ := h4 i x hx; exact ⟨g, u, e, hc, hr.z⟩⟩
theorem RdL0.keepsNil {w w' : World} {v : Value} {L : List (List UInt8)} (h : RdL0 w v L) (k : Keeps [] w w') : RdL0 w' v L := by
  obtain ⟨a, c, h1, h4⟩ := h
  exact ⟨a, c, h1, fun i x hx => by obtain ⟨g, u, e, hc, hr⟩ := h4 i x hx; exact ⟨g, u, e, k.cell0 hc, hr.keepsNil k⟩⟩
theorem RdL0.two {w : World} {g : Nat} {a b : Value} {x y : List UInt8} (hb : Blk w g 22 [a, b]) (ha : RdS0 w a x) (hb2 : RdS0 w b y) : RdL0 w (.slice (some ⟨g, 0, none⟩) 2 2) [x, y] :=
  ⟨_, _, rfl, fun i u hu => by
    match i, hu with
    | 0, hu => exact ⟨g, a, rfl, hb.cell' rfl, by obtain rfl := Option.some.inj hu; exact ha⟩
    | 1, hu => exact ⟨g, b, rfl, hb.cell' rfl, by obtain rfl := Option.some.inj hu; exact hb2⟩⟩

/-- []byte("..") of a constant: the literal's block bears a mark. -/
theorem lit_conv (w : World) (C : Array Value) (n c : Nat) : (convert 22 22 (.slice (some ⟨w.heap.size, 0, none⟩) n c)).run Tryz.prog (w.alloc (.cells C 5)) = .ok (.slice (some ⟨w.heap.size, 0, none⟩) n c) (w.alloc (.cells C 5 (C.size, C.size + 1))) :=
  Go.Joins.run_convert_bytes_const_at w 22 5 C n c _ rfl Tryz.underlying22 Tryz.underlying5
theorem lit_rd (w : World) (C : Array Value) (fr : Nat × Nat) (l : List UInt8) (hc : C.toList = l.map B8) : Rd (w.alloc (.cells C 5 fr)) (some ⟨w.heap.size, 0, none⟩) l := by
  intro i u hu
  refine ⟨w.heap.size, 0, rfl, ?_⟩
  rw [Nat.zero_add]
  have h1 := World.cell?_alloc_mark w C 5 fr i
  rw [h1, ← Array.getElem?_toList, hc, List.getElem?_map, hu]
  rfl
theorem lit_rds (w : World) (C : Array Value) (fr : Nat × Nat) (l : List UInt8) (n : Nat) (hc : C.toList = l.map B8) (hn : l.length = n) (hm : n ≤ 100000) : RdS0 (w.alloc (.cells C 5 fr)) (.slice (some ⟨w.heap.size, 0, none⟩) n n) l := by
  subst hn
  exact ⟨_, _, rfl, Nat.le_refl _, by omega, lit_rd w C fr l hc, by simp⟩

/-- append(v, bytes..) where there is no room. -/
theorem wpList_append_full {w : World} {ops : Array Oper} {rest : List Oper} {o : Oper} {act : Act} {Q : Exit → Act → World → Prop} (hgd : o.guard = none) (s x : Operand)
    (ho : o.op = .call { callee := .builtin .append, args := #[s, x], argTypes := #[22, 22] })
    {b : Option Addr} {n cap : Nat} {l m : List UInt8} (hl : Rd w b l) (hn : l.length = n) (hs : act.eval s = .slice b n cap) (h0 : b = none → n = 0 ∧ cap = 0) {a : Addr} {k c : Nat} (hm : Rd w (some a) m) (hk : m.length = k) (hx : act.eval x = .slice (some a) k c) (hg : cap < n + k) (hb : n + k ≤ 100000)
    (hK : ∀ v' w', Own w' w.heap.size v' (l ++ m) → w.grownBy w' none → wpList Tryz.prog ops Q rest (act.put o.dst v') w') : wpList Tryz.prog ops Q (o :: rest) act w := by
  obtain ⟨i0, hi, hz0, hz1, hz2⟩ := info_parts Tryz.info_u8
  refine wpList_append_grows (P := Tryz.prog) w hgd s x 22 ho 5 i0 (.int .u8 0) 1 1 Tryz.underlying22 hi hz0 hz1 hz2 rfl (by decide) b n cap (l.map B8) hs h0 (by simp [hn]) (fun b' hb' => by subst hb'; exact hl.news) a k c (m.map B8) hx (by simp [hk]) hm.news (by intro u hu; obtain ⟨y, _, rfl⟩ := List.mem_map.1 hu; rfl) hg (by unfold maxLen; omega) (by omega) (fun v' w' h1 h2 => hK v' w' ?_ h2)
  unfold Own
  rw [List.map_append, List.length_append, hn, hk]
  exact h1

end Go.Proofs.YtijhaeapoapgfaaGreatDoor

set_option linter.unusedVariables false
set_option linter.unusedSimpArgs false
namespace Go.Proofs.YtijhaeapoapgfaaGreatDoor
open Go.RowKit
attribute [local go_sem ↓] Go.wp_at_zero Go.wp_at_succ

def joinS (len : Nat) (out b : List UInt8) : List UInt8 := out ++ b.take (len - out.length)
def joinF (len : Nat) (L : List (List UInt8)) : List UInt8 := L.foldl (joinS len) []
theorem joinF_snoc (len : Nat) (L : List (List UInt8)) (x : List UInt8) : joinF len (L ++ [x]) = joinS len (joinF len L) x := by unfold joinF; rw [List.foldl_append]; rfl
theorem joinS_len (len : Nat) (out b : List UInt8) (h : out.length ≤ len) : (joinS len out b).length ≤ len := by unfold joinS; rw [List.length_append, List.length_take]; omega
theorem joinF_len (len : Nat) (L : List (List UInt8)) : (joinF len L).length ≤ len := by
  have : ∀ (L : List (List UInt8)) (o : List UInt8), o.length ≤ len → (L.foldl (joinS len) o).length ≤ len := by
    intro L
    induction L with
    | nil => intro o h; exact h
    | cons x L ih => intro o h; exact ih _ (joinS_len len o x h)
  exact this L [] (Nat.zero_le _)

/-- The pieces of an image, put together, are the image. -/
theorem join_split {img : List UInt8} {K z : Nat} (hf : img.length ≤ K * z) : ∀ k, k ≤ K → joinF img.length (bsplit img K z k) = img.take (k * z)
  | 0, _ => by simp [bsplit, joinF]
  | k + 1, hk => by
    rw [bsplit_succ, joinF_snoc, join_split hf k (by omega)]
    have hst : (k + 1) * z = k * z + z := by rw [Nat.add_mul, Nat.one_mul]
    unfold joinS bpiece
    rw [hst]
    have hlt : (img.take (k * z)).length = min (k * z) img.length := List.length_take
    rw [hlt]
    by_cases h : k * z ≤ img.length
    · rw [Nat.min_eq_left h, List.take_add]
      congr 1
      have hd : (bfull img (K * z)).drop (k * z) = img.drop (k * z) ++ zer (K * z - img.length) := by unfold bfull; rw [List.drop_append_of_le_length h]
      rw [hd, List.take_take]
      by_cases h2 : z ≤ img.length - k * z
      · rw [Nat.min_eq_right h2, List.take_append_of_le_length (by rw [List.length_drop]; exact h2)]
      · rw [Nat.min_eq_left (by omega), List.take_append_of_le_length (by rw [List.length_drop]; omega), List.take_of_length_le (by rw [List.length_drop]; omega), List.take_of_length_le (by rw [List.length_drop]; omega)]
    · rw [Nat.min_eq_right (by omega), Nat.sub_self, List.take_zero, List.append_nil, List.take_of_length_le (by omega), List.take_of_length_le (by omega)]
theorem join_all {img : List UInt8} {K z : Nat} (hf : img.length ≤ K * z) : joinF img.length (bsplit img K z K) = img := by
  rw [join_split hf K (Nat.le_refl _), List.take_of_length_le hf]

def OwnPost (w : World) (x : List UInt8) (e : Ending) (w' : World) : Prop := ∃ v, e = .returned v ∧ Own w' w.heap.size v x ∧ Keeps [] w w'

set_option maxRecDepth 100000 in
set_option maxHeartbeats 1600000 in
theorem bjoin_calls {w : World} {v : Value} {L : List (List UInt8)} (hv : RdL w v L) (len : Nat) (h1 : 1 ≤ len) (h2 : len ≤ 512) (hL : ∀ x ∈ L, x.length ≤ 16) (hend : (joinF len L).length = len) (hL2 : L.length ≤ 100000) :
    Calls Tryz.prog 103 #[v, .int .i64 len] w (OwnPost w (joinF len L)) := by
  obtain ⟨a, c, rfl, _, _, hrd, _⟩ := hv
  have Hrd := Lib.hid hrd
  have HL := Lib.hid hL
  have Hend := Lib.hid hend
  clear hrd hL hend
  go_enter Tryz.func103, Tryz.ntmps103
  go_wp2_with fail
  go_loopw [5, 16] (fun o i wr => ∃ k : Nat, k ≤ L.length ∧ i = .int .i64 k ∧ Own wr w.heap.size o (joinF len (L.take k)) ∧ Keeps [] w wr) (fun _ i _ => L.length - (intOf i).toNat)
  case atStart => exact ⟨0, Nat.zero_le _, rfl, Own.nil _ _, Keeps.refl _ _⟩
  case round =>
    obtain ⟨k, hk, rfl, hO, hK⟩ := hrel
    by_cases hlt : k < L.length
    · obtain ⟨g0, u, rfl, hc0, hru⟩ := Hrd.out k L[k] (List.getElem?_eq_getElem hlt)
      have hbl := HL.out L[k] (List.getElem_mem hlt)
      have hcr := hK.cell0 hc0
      have hsn : joinF len (L.take (k + 1)) = joinF len (L.take k) ++ (L[k]).take (len - (joinF len (L.take k)).length) := by rw [List.take_add_one, List.getElem?_eq_getElem hlt]; exact joinF_snoc _ _ _
      have hol := joinF_len len (L.take k)
      generalize L[k] = b at *
      generalize joinF len (L.take k) = O at *
      obtain ⟨ab, cb, rfl, b1, b2, b3, b4, _⟩ := hru
      obtain ⟨m, hm, hm1, hm2⟩ : ∃ m : Nat, min (b.length : Int) ((len : Int) - (O.length : Int)) = (m : Int) ∧ m = min b.length (len - O.length) ∧ m ≤ b.length := ⟨min b.length (len - O.length), by omega, rfl, by omega⟩
      have htk : b.take (len - O.length) = b.take m := by
        rw [hm1]
        by_cases h : b.length ≤ len - O.length
        · rw [Nat.min_eq_left h, List.take_of_length_le h, List.take_of_length_le (Nat.le_refl _)]
        · rw [Nat.min_eq_right (by omega)]
      rw [htk] at hsn
      have hkn : (k : Int) < (L.length : Int) := by omega
      have hmc : (m : Int) ≤ (cb : Int) := by omega
      obtain ⟨ao, co, rfl, _⟩ := hO.rds
      have HO := Lib.hid hO
      have HR := Lib.hid ((b3.keepsNil hK).take m)
      have Htl := Lib.hid (show (b.take m).length = m from by rw [List.length_take]; omega)
      have Hm0 := Lib.hid (show ab = none → m = 0 ∧ cb = 0 from fun h => by have := b4 h; rw [this.1] at hm2; simp at hm2; exact ⟨by omega, this.2⟩)
      have hlen1 : O.length + m ≤ 140737488351232 := by omega
      have hsz := hK.size
      have HK := Lib.hid hK
      have Hsn := Lib.hid hsn
      clear hc0 b3 b4 hsn htk hO hK hm1
      go_wp2_with (at_builtin; (refine wpList_append_bytes rfl (.tmp 20) (.tmp 29) rfl HO.out rfl ab m cb rfl HR.out Htl.out Hm0.out hlen1 hsz ?_); intro v2 w2 g1 g2 g3)
      go_roundw
      case rel =>
        refine ⟨k + 1, by omega, by go_num, by rw [Hsn.out]; exact g1, HK.out.grown g2 (fun x hx => .inr ?_)⟩
        rcases HO.out.2 with ⟨e, _⟩ | ⟨g, cap, cur, e, hb, _⟩
        · rw [e] at hx; simp [Value.ownBlock] at hx
        · rw [e] at hx; simp [Value.ownBlock] at hx; omega
      case measure => simp [intOf]; omega
    · obtain rfl : k = L.length := by omega
      rw [List.take_length] at hO
      have hend := Hend.out
      have HO := Lib.hid hO
      have HK := Lib.hid hK
      obtain ⟨ao, co, rfl, _⟩ := hO.rds
      generalize hJ : joinF len L = J at *
      have HJ := Lib.hid hJ
      have hne : ¬ ((J.length : Int) < (len : Int)) := by omega
      have HE := Lib.hid hend
      clear hO hK hJ hend Hend
      go_wp2_with fail
      go_ret
      exact ⟨_, rfl, HO.out, HK.out⟩

end Go.Proofs.YtijhaeapoapgfaaGreatDoor
