/-
  GrSol: the texts Sol, Sol2, one behind another.
-/
import Derived.Test.YtijhaeapoapgfaaGreatDoorPlain
import Derived.Test.YtijhaeapoapgfaaGreatDoorGrVec
set_option linter.unusedVariables false
set_option linter.unusedSimpArgs false
namespace Go.Proofs.YtijhaeapoapgfaaGreatDoor
open Go.RowKit
attribute [local go_sem ↓] Go.wp_at_zero Go.wp_at_succ

set_option maxRecDepth 100000 in
theorem root_calls {w : World} (n : Nat) (h1 : 1 ≤ n) (h2 : n ≤ 80) : Calls Tryz.prog 222 #[.int .i64 n] w fun e w' => e = .returned (.int .i64 (rootN n)) ∧ w = w' := by
  go_enter Tryz.func222, Tryz.ntmps222
  go_wp2_with fail
  rw [show min (n : Int) 4294967295 = n from by omega]
  go_loopw [3, 4] (fun a b wr => ∃ lo hi : Nat, a = .int .i64 lo ∧ b = .int .i64 hi ∧ 1 ≤ lo ∧ lo ≤ hi ∧ hi ≤ n ∧ lo * lo ≤ n ∧ n < (hi + 1) * (hi + 1) ∧ wr = w) (fun a b _ => (intOf b).toNat - (intOf a).toNat)
  case atStart => exact ⟨1, n, rfl, rfl, Nat.le_refl _, h1, Nat.le_refl _, h1, by rw [Nat.add_mul]; omega, rfl⟩
  case round =>
    obtain ⟨lo, hi, rfl, rfl, hl1, hlh, hhn, hsq, htop, rfl⟩ := hrel
    by_cases hlt : lo < hi
    · have hm : ∃ m : Nat, (hi : Int) - ((hi : Int) - (lo : Int)) / 2 = m ∧ lo < m ∧ m ≤ hi := ⟨hi - (hi - lo) / 2, by omega, by omega, by omega⟩
      obtain ⟨m, hm, hm1, hm2⟩ := hm
      have hqd := Nat.le_div_iff_mul_le (x := m) (y := n) (show 0 < m by omega)
      have hq : (n : Int) / (m : Int) = ((n / m : Nat) : Int) := by simp
      have hqb : n / m ≤ n := Nat.div_le_self _ _
      generalize n / m = q at *
      have Htop := Lib.hid htop
      have Hsq := Lib.hid hsq
      clear htop hsq
      by_cases hmq : m ≤ q
      · have hm2q := Lib.hid (hqd.1 hmq)
        clear hqd
        go_wp2_with fail
        go_roundw
        case rel => exact ⟨m, hi, rfl, rfl, by omega, by omega, by omega, hm2q.out, Htop.out, trivial⟩
        case measure => simp [intOf]; omega
      · have hm2q := Lib.hid (show ¬ m * m ≤ n from fun h => hmq (hqd.2 h))
        clear hqd
        go_wp2_with fail
        go_roundw
        case rel => exact ⟨lo, m - 1, rfl, by congr 1; omega, by omega, by omega, by omega, Hsq.out, by rw [show m - 1 + 1 = m from by omega]; have := hm2q.out; omega, trivial⟩
        case measure => simp [intOf]; omega
    · obtain rfl : hi = lo := by omega
      have HR := Lib.hid (rootN_uniq hsq htop)
      clear hsq htop
      go_wp2_with fail
      go_ret
      exact ⟨by rw [HR.out]; rfl, rfl⟩

/-- A table of n pieces, its sums not made yet. -/
structure SolAt (w : World) (p n : Nat) (done : Int) (v : Value) : Prop where
  b : Blk w p 231 [.int .i64 n, .int .u32 done, .int .i32 0, .int .u32 0, v]
  lo : 1 ≤ n
  hi : n ≤ 80

set_option maxRecDepth 100000 in
set_option maxHeartbeats 1000000 in
theorem weight_calls {w : World} {p n : Nat} {t : Int} {s : Int} {v : Value} (c0 : w.cell? ⟨p, 0, none⟩ = some (.int .i64 n)) (h1 : 1 ≤ n) (h2 : n ≤ 80) (d : Nat) (hd1 : 1 ≤ d) (hd2 : d ≤ n) :
    Calls Tryz.prog 207 #[.pointer (some ⟨p, 0, none⟩), .int .i64 d] w fun e w' => e = .returned (.int .u32 (wgt n d)) ∧ w = w' := by
  have hr := root_calls (w := w) n h1 h2
  have hr1 := rootN_pos h1
  have hr2 := rootN_le n
  have hw : wgt n d = if d < n / rootN n then wbase n d + 262144 * rootN n / (d * n) else if d = n / rootN n then wbase n d + 524288 * rootN n / n else wbase n d := rfl
  have hs := share_le (n := n) hd1
  have hp := spike_le n
  have hbv : (1 < d → wbase n d = 1048576 / (d * (d - 1))) ∧ (¬ 1 < d → wbase n d = 1048576 / n) := by unfold wbase; constructor <;> intro h <;> simp [h]
  have hbl := wbase_le n d
  generalize wbase n d = wb at *
  generalize rootN n = r at *
  go_enter Tryz.func207, Tryz.ntmps207
  go_wp2_with fail
  refine hr.mono ?_
  rintro e w' ⟨rfl, rfl⟩
  have htop : (n : Int) / (r : Int) = ((n / r : Nat) : Int) := by simp
  have htb : n / r ≤ n := Nat.div_le_self _ _
  generalize n / r = top at *
  have Hw := Lib.hid hw
  clear hw
  have hdn : (d : Int) * (n : Int) = ((d * n : Nat) : Int) := by simp
  have hdn1 : 1 ≤ d * n := Nat.mul_pos (by omega) (by omega)
  have hdn2 : d * n ≤ 6400 := Nat.mul_le_mul (show d ≤ 80 by omega) h2
  have hsv : 262144 * (r : Int) / ((d * n : Nat) : Int) = ((262144 * r / (d * n) : Nat) : Int) := by simp
  have hpv : 524288 * (r : Int) / (n : Int) = ((524288 * r / n : Nat) : Int) := by simp
  have hz : (1048576 : Int) / (n : Int) = ((1048576 / n : Nat) : Int) := by simp
  have hzb : 1048576 / n ≤ 1048576 := Nat.div_le_self _ _
  generalize 262144 * r / (d * n) = sh at *
  generalize 524288 * r / n = sp at *
  generalize d * n = dn at *
  by_cases hd : 1 < d
  · obtain ⟨hb1, _⟩ := hbv
    have hb := hb1 hd
    have hdd : (d : Int) * ((d : Int) - 1) = ((d * (d - 1) : Nat) : Int) := by rw [Int.natCast_mul]; congr 1; omega
    have hdd1 : 1 ≤ d * (d - 1) := Nat.mul_pos (by omega) (by omega)
    have hdd2 : d * (d - 1) ≤ 6400 := Nat.mul_le_mul (show d ≤ 80 by omega) (show d - 1 ≤ 80 by omega)
    have hbz : (1048576 : Int) / ((d * (d - 1) : Nat) : Int) = (wb : Int) := by rw [hb]; simp
    generalize d * (d - 1) = dd at *
    clear hb hb1
    by_cases ht : d < top
    · go_wp2_with fail
      go_ret
      exact ⟨by rw [Hw.out, if_pos ht, Int.natCast_add]; rfl, rfl⟩
    · by_cases ht2 : d = top
      · subst ht2
        go_wp2_with fail
        go_ret
        exact ⟨by rw [Hw.out, if_neg ht, if_pos trivial, Int.natCast_add]; rfl, rfl⟩
      · have hne : ¬ ((d : Int) = (top : Int)) := by omega
        go_wp2_with fail
        go_ret
        exact ⟨by rw [Hw.out, if_neg ht, if_neg ht2]; rfl, rfl⟩
  · have hb := hbv.2 hd
    rw [← hb] at hz
    clear hbv hb hzb
    by_cases ht : d < top
    · go_wp2_with fail
      go_ret
      exact ⟨by rw [Hw.out, if_pos ht, Int.natCast_add]; rfl, rfl⟩
    · by_cases ht2 : d = top
      · subst ht2
        go_wp2_with fail
        go_ret
        exact ⟨by rw [Hw.out, if_neg ht, if_pos trivial, Int.natCast_add]; rfl, rfl⟩
      · have hne : ¬ ((d : Int) = (top : Int)) := by omega
        go_wp2_with fail
        go_ret
        exact ⟨by rw [Hw.out, if_neg ht, if_neg ht2]; rfl, rfl⟩

end Go.Proofs.YtijhaeapoapgfaaGreatDoor

set_option linter.unusedVariables false
set_option linter.unusedSimpArgs false
namespace Go.Proofs.YtijhaeapoapgfaaGreatDoor
open Go.RowKit
attribute [local go_sem ↓] Go.wp_at_zero Go.wp_at_succ

abbrev V32 (x : Nat) : Value := .int .u32 x
theorem Tryz.info_uint32 : (Tryz.prog.info? 30).map (fun i => (i.zero, i.size, i.bytes)) = some (some (.int .u32 0), 1, 4) := by kernel_rfl

def IsW (w : World) (B : Nat) (v : Value) (l : List Nat) : Prop :=
  ∃ a c, v = .slice a l.length c ∧ l.length ≤ c ∧ c ≤ 9223372036854775807 ∧ ∀ i, i < l.length → ∃ g, a = some ⟨g, 0, none⟩ ∧ B ≤ g ∧ w.cell? ⟨g, i, none⟩ = some (V32 (l.getD i 0))
theorem IsW.nil (w : World) (B : Nat) : IsW w B (.slice none 0 0) [] := ⟨none, 0, rfl, by simp, by simp, by simp⟩
theorem IsW.keeps {S : List Nat} {w w' : World} {B : Nat} {v : Value} {l : List Nat} (h : IsW w B v l) (k : Keeps S w w') (hS : ∀ x, x ∈ S → x < B) : IsW w' B v l := by
  obtain ⟨a, c, rfl, h1, h2, h3⟩ := h
  refine ⟨a, c, rfl, h1, h2, fun i hi => ?_⟩
  obtain ⟨g, rfl, hg, hc⟩ := h3 i hi
  exact ⟨g, rfl, hg, (World.cell?_of_block (a := ⟨g, i, none⟩) (k.block g (World.block_lt_of_cell? w _ hc) (fun hm => by have := hS g hm; omega))).trans hc⟩

/-- A slice of words of 32 bits that the call has made, in a block from B on (or it is nil and there are none). -/
def OwnW (w : World) (B : Nat) (v : Value) (l : List Nat) : Prop := w.ownsRow B 30 1 v l.length (l.map V32)

theorem OwnW.nil (w : World) (B : Nat) : OwnW w B (.slice none 0 0) [] := ⟨rfl, .inl ⟨rfl, rfl⟩⟩

theorem OwnW.ints {w : World} {B : Nat} {v : Value} {l : List Nat} (h : OwnW w B v l) : IsW w B v l := by
  rcases h.2 with ⟨rfl, h0⟩ | ⟨g, cap, cur, rfl, hb, hg, hn, hm, hs, ht⟩
  · have : l = [] := List.length_eq_zero_iff.1 h0
    subst this
    exact IsW.nil _ _
  · have hbk : Blk w g 30 (l.map V32 ++ cur.toList.drop l.length) := by
      unfold Blk
      rw [hg, ← ht, Nat.mul_one, List.take_append_drop]
    refine ⟨some ⟨g, 0, none⟩, cap, rfl, hn, hm, fun i hi => ⟨g, rfl, hb, ?_⟩⟩
    refine hbk.cell' ?_
    rw [List.getElem?_append_left (by simpa using hi), List.getElem?_map, List.getD_eq_getElem?_getD, List.getElem?_eq_getElem hi]
    rfl

theorem append_runW {w : World} {B : Nat} {v : Value} {l : List Nat} (h : OwnW w B v l) (x b o c : Nat) (hx : w.cell? ⟨b, o, none⟩ = some (V32 x))
    (hlen : l.length ≤ 1000000) (hB : B ≤ w.heap.size) (t : TypeId) :
    ∃ v' w', (Builtin.append_ #[23, 23] t #[v, .slice (some ⟨b, o, none⟩) 1 c]).run Tryz.prog w = .ok v' w' ∧ OwnW w' B v' (l ++ [x]) ∧ w.grownBy w' v.ownBlock ∧ (∀ x, v'.ownBlock = some x → v.ownBlock = some x ∨ w.heap.size ≤ x) := by
  obtain ⟨i0, hi, hz0, hz1, hz2⟩ := info_parts Tryz.info_uint32
  obtain ⟨v', w', hr, h2, h3, h4, h5⟩ := run_append_own_at (P := Tryz.prog) w B 23 t 30 i0 (.int .u32 0) 1 4 Tryz.underlying23 hi hz0 hz1 hz2 rfl (by decide) v l.length (l.map V32) h ⟨b, o, none⟩ 1 c [V32 x]
    (by simp) (fun j u hu => by
      obtain rfl : j = 0 := by
        rcases j with _ | j
        · rfl
        · simp at hu
      simp only [List.getElem?_cons_zero, Option.some.injEq] at hu
      subst hu
      rw [Addr.add_lit]
      exact hx) (by intro u hu; simp only [List.mem_singleton] at hu; subst hu; rfl) (by unfold maxLen; omega) (by omega) hB
  refine ⟨v', w', hr, ?_, h3, fun y hy => ?_⟩
  · unfold OwnW
    rw [List.length_append, List.map_append]
    exact h2
  · rcases h5 with h5 | h5
    · exact .inl (h5 ▸ hy)
    · rw [h5] at hy; simp at hy; exact .inr (by omega)

theorem wpList_append_u32 {w : World} {ops : Array Oper} {rest : List Oper} {o : Oper} {act : Act} {Q : Exit → Act → World → Prop} (hgd : o.guard = none) (s x : Operand)
    (ho : o.op = .call { callee := .builtin .append, args := #[s, x], argTypes := #[23, 23] })
    {B : Nat} {v : Value} {l : List Nat} (h : OwnW w B v l) (hs : act.eval s = v) (y b k c : Nat) (hx : act.eval x = .slice (some ⟨b, k, none⟩) 1 c) (hm : w.cell? ⟨b, k, none⟩ = some (V32 y))
    (hlen : l.length ≤ 1000000) (hB : B ≤ w.heap.size)
    (hK : ∀ v' w', OwnW w' B v' (l ++ [y]) → w.grownBy w' v.ownBlock → (∀ x, v'.ownBlock = some x → v.ownBlock = some x ∨ w.heap.size ≤ x) → wpList Tryz.prog ops Q rest (act.put o.dst v') w') : wpList Tryz.prog ops Q (o :: rest) act w := by
  refine wpList_plain hgd fun K hK' => ?_
  obtain ⟨v', w', hrun, h1, h2, h3⟩ := append_runW h y b k c hm hlen hB o.type
  unfold Oper.wp
  simp [execOp, ho, resolve, invoke, builtin, hs, hx, hrun, Result.andThen]
  exact hK' _ _ (hK v' w' h1 h2 h3)

theorem OwnW.keeps {S : List Nat} {w w' : World} {B : Nat} {v : Value} {l : List Nat} (h : OwnW w B v l) (k : Keeps S w w') (hS : ∀ x, x ∈ S → x < B) : OwnW w' B v l := by
  refine ⟨h.1, ?_⟩
  rcases h.2 with ⟨rfl, h0⟩ | ⟨g, cap, cur, rfl, hb, hg, hn, hm, hs, ht⟩
  · exact .inl ⟨rfl, h0⟩
  · exact .inr ⟨g, cap, cur, rfl, hb, (k.block g (Array.getElem?_eq_some_iff.1 hg).1 (fun hm => by have := hS g hm; omega)).trans hg, hn, hm, hs, ht⟩
theorem OwnW.block {w : World} {B x : Nat} {v : Value} {l : List Nat} (h : OwnW w B v l) (hx : v.ownBlock = some x) : B ≤ x ∧ x < w.heap.size := by
  rcases h.2 with ⟨rfl, h0⟩ | ⟨g, cap, cur, rfl, hb, hg, hn, hm, hs, ht⟩
  · simp [Value.ownBlock] at hx
  · simp [Value.ownBlock] at hx
    subst hx
    exact ⟨hb, (Array.getElem?_eq_some_iff.1 hg).1⟩

def IsS (w : World) (B : Nat) (v : Value) (l : List Nat) : Prop :=
  ∃ a c, v = .slice a l.length c ∧ l.length ≤ c ∧ c ≤ 9223372036854775807 ∧ ∀ i, i < l.length → ∃ g, a = some ⟨g, 0, none⟩ ∧ B ≤ g ∧ w.cell? ⟨g, i, none⟩ = some (U64 (l.getD i 0))
theorem IsS.nil (w : World) (B : Nat) : IsS w B (.slice none 0 0) [] := ⟨none, 0, rfl, by simp, by simp, by simp⟩
theorem IsS.keeps {S : List Nat} {w w' : World} {B : Nat} {v : Value} {l : List Nat} (h : IsS w B v l) (k : Keeps S w w') (hS : ∀ x, x ∈ S → x < B) : IsS w' B v l := by
  obtain ⟨a, c, rfl, h1, h2, h3⟩ := h
  refine ⟨a, c, rfl, h1, h2, fun i hi => ?_⟩
  obtain ⟨g, rfl, hg, hc⟩ := h3 i hi
  exact ⟨g, rfl, hg, (World.cell?_of_block (a := ⟨g, i, none⟩) (k.block g (World.block_lt_of_cell? w _ hc) (fun hm => by have := hS g hm; omega))).trans hc⟩

/-- A slice of words of 64 bits that the call has made, in a block from B on (or it is nil and there are none). -/
def OwnS (w : World) (B : Nat) (v : Value) (l : List Nat) : Prop := w.ownsRow B 25 1 v l.length (l.map U64)

theorem OwnS.nil (w : World) (B : Nat) : OwnS w B (.slice none 0 0) [] := ⟨rfl, .inl ⟨rfl, rfl⟩⟩

theorem OwnS.ints {w : World} {B : Nat} {v : Value} {l : List Nat} (h : OwnS w B v l) : IsS w B v l := by
  rcases h.2 with ⟨rfl, h0⟩ | ⟨g, cap, cur, rfl, hb, hg, hn, hm, hs, ht⟩
  · have : l = [] := List.length_eq_zero_iff.1 h0
    subst this
    exact IsS.nil _ _
  · have hbk : Blk w g 25 (l.map U64 ++ cur.toList.drop l.length) := by
      unfold Blk
      rw [hg, ← ht, Nat.mul_one, List.take_append_drop]
    refine ⟨some ⟨g, 0, none⟩, cap, rfl, hn, hm, fun i hi => ⟨g, rfl, hb, ?_⟩⟩
    refine hbk.cell' ?_
    rw [List.getElem?_append_left (by simpa using hi), List.getElem?_map, List.getD_eq_getElem?_getD, List.getElem?_eq_getElem hi]
    rfl

theorem append_runS {w : World} {B : Nat} {v : Value} {l : List Nat} (h : OwnS w B v l) (x b o c : Nat) (hx : w.cell? ⟨b, o, none⟩ = some (U64 x))
    (hlen : l.length ≤ 1000000) (hB : B ≤ w.heap.size) (t : TypeId) :
    ∃ v' w', (Builtin.append_ #[229, 229] t #[v, .slice (some ⟨b, o, none⟩) 1 c]).run Tryz.prog w = .ok v' w' ∧ OwnS w' B v' (l ++ [x]) ∧ w.grownBy w' v.ownBlock ∧ (∀ x, v'.ownBlock = some x → v.ownBlock = some x ∨ w.heap.size ≤ x) := by
  obtain ⟨i0, hi, hz0, hz1, hz2⟩ := info_parts Tryz.info_uint64
  obtain ⟨v', w', hr, h2, h3, h4, h5⟩ := run_append_own_at (P := Tryz.prog) w B 229 t 25 i0 (.int .u64 0) 1 8 Tryz.underlying229 hi hz0 hz1 hz2 rfl (by decide) v l.length (l.map U64) h ⟨b, o, none⟩ 1 c [U64 x]
    (by simp) (fun j u hu => by
      obtain rfl : j = 0 := by
        rcases j with _ | j
        · rfl
        · simp at hu
      simp only [List.getElem?_cons_zero, Option.some.injEq] at hu
      subst hu
      rw [Addr.add_lit]
      exact hx) (by intro u hu; simp only [List.mem_singleton] at hu; subst hu; rfl) (by unfold maxLen; omega) (by omega) hB
  refine ⟨v', w', hr, ?_, h3, fun y hy => ?_⟩
  · unfold OwnS
    rw [List.length_append, List.map_append]
    exact h2
  · rcases h5 with h5 | h5
    · exact .inl (h5 ▸ hy)
    · rw [h5] at hy; simp at hy; exact .inr (by omega)

theorem wpList_append_u64 {w : World} {ops : Array Oper} {rest : List Oper} {o : Oper} {act : Act} {Q : Exit → Act → World → Prop} (hgd : o.guard = none) (s x : Operand)
    (ho : o.op = .call { callee := .builtin .append, args := #[s, x], argTypes := #[229, 229] })
    {B : Nat} {v : Value} {l : List Nat} (h : OwnS w B v l) (hs : act.eval s = v) (y b k c : Nat) (hx : act.eval x = .slice (some ⟨b, k, none⟩) 1 c) (hm : w.cell? ⟨b, k, none⟩ = some (U64 y))
    (hlen : l.length ≤ 1000000) (hB : B ≤ w.heap.size)
    (hK : ∀ v' w', OwnS w' B v' (l ++ [y]) → w.grownBy w' v.ownBlock → (∀ x, v'.ownBlock = some x → v.ownBlock = some x ∨ w.heap.size ≤ x) → wpList Tryz.prog ops Q rest (act.put o.dst v') w') : wpList Tryz.prog ops Q (o :: rest) act w := by
  refine wpList_plain hgd fun K hK' => ?_
  obtain ⟨v', w', hrun, h1, h2, h3⟩ := append_runS h y b k c hm hlen hB o.type
  unfold Oper.wp
  simp [execOp, ho, resolve, invoke, builtin, hs, hx, hrun, Result.andThen]
  exact hK' _ _ (hK v' w' h1 h2 h3)

theorem OwnS.keeps {S : List Nat} {w w' : World} {B : Nat} {v : Value} {l : List Nat} (h : OwnS w B v l) (k : Keeps S w w') (hS : ∀ x, x ∈ S → x < B) : OwnS w' B v l := by
  refine ⟨h.1, ?_⟩
  rcases h.2 with ⟨rfl, h0⟩ | ⟨g, cap, cur, rfl, hb, hg, hn, hm, hs, ht⟩
  · exact .inl ⟨rfl, h0⟩
  · exact .inr ⟨g, cap, cur, rfl, hb, (k.block g (Array.getElem?_eq_some_iff.1 hg).1 (fun hm => by have := hS g hm; omega)).trans hg, hn, hm, hs, ht⟩
theorem OwnS.block {w : World} {B x : Nat} {v : Value} {l : List Nat} (h : OwnS w B v l) (hx : v.ownBlock = some x) : B ≤ x ∧ x < w.heap.size := by
  rcases h.2 with ⟨rfl, h0⟩ | ⟨g, cap, cur, rfl, hb, hg, hn, hm, hs, ht⟩
  · simp [Value.ownBlock] at hx
  · simp [Value.ownBlock] at hx
    subst hx
    exact ⟨hb, (Array.getElem?_eq_some_iff.1 hg).1⟩


def WListPost (w : World) (l : List Nat) (e : Ending) (w' : World) : Prop := ∃ v, e = .returned v ∧ OwnW w' w.heap.size v l ∧ Keeps [] w w'

set_option maxRecDepth 100000 in
set_option maxHeartbeats 1000000 in
theorem weights_calls {w : World} {p n : Nat} (c0 : w.cell? ⟨p, 0, none⟩ = some (.int .i64 n)) (h1 : 1 ≤ n) (h2 : n ≤ 80) :
    Calls Tryz.prog 190 #[.pointer (some ⟨p, 0, none⟩)] w (WListPost w (wgts n n)) := by
  have hB0 := OwnW.nil w w.heap.size
  go_enter Tryz.func190, Tryz.ntmps190
  go_wp2_with fail
  go_loopw [3, 4] (fun v i wr => ∃ k : Nat, k ≤ n ∧ i = .int .i64 ((k : Int) + 1) ∧ OwnW wr w.heap.size v (wgts n k) ∧ Keeps [] w wr) (fun _ i _ => n + 1 - (intOf i).toNat)
  case atStart => exact ⟨0, Nat.zero_le _, rfl, hB0, Keeps.refl _ _⟩
  case round =>
    obtain ⟨k, hk, rfl, hO, hK⟩ := hrel
    have c0r := hK.cell0 c0
    by_cases hlt : k < n
    · have hC := weight_calls (v := .pointer none) (t := 0) (s := 0) c0r h1 h2 (k + 1) (by omega) (by omega)
      have hs := wgts_succ n k
      have hsz := hK.size
      have hlen := wgts_len n k
      have e1 : ((k + 1 : Nat) : Int) = (k : Int) + 1 := by omega
      rw [e1] at hC
      generalize wgt n (k + 1) = x at *
      have Hs := Lib.hid hs
      have HO := Lib.hid (hO.keeps ((Keeps.refl [] wr).alloc (.cells #[V32 x] 30)) (by simp))
      have HK := Lib.hid hK
      have hX : (wr.alloc (.cells #[V32 x] 30)).cell? ⟨wr.heap.size, 0, none⟩ = some (V32 x) := (Blk.newA wr 30 #[V32 x]).cell' rfl
      have hB : w.heap.size ≤ (wr.alloc (.cells #[V32 x] 30)).heap.size := by simp; omega
      have HX := Lib.hid hX
      generalize wgts n k = L at *
      clear hs hO hK hX e1
      go_wp2_with fail
      refine hC.mono ?_
      rintro e w' ⟨rfl, rfl⟩
      go_wp2_with (at_builtin; (refine wpList_append_u32 rfl (.tmp 15) (.tmp 19) rfl HO.out rfl x _ 0 1 rfl HX.out (by omega) hB ?_); intro v2 w2 g1 g2 g3)
      go_roundw
      case rel =>
        refine ⟨k + 1, by omega, by go_num, by rw [Hs.out]; exact g1, (HK.out.alloc _).grown g2 (fun x hx => .inr ?_)⟩
        exact (HO.out.block hx).1
      case measure => simp [intOf]; omega
    · obtain rfl : n = k := by omega
      go_wp2_with fail
      go_ret
      exact ⟨_, rfl, hO, hK⟩

theorem OwnS.mono {w : World} {B B' : Nat} {v : Value} {l : List Nat} (h : OwnS w B v l) (hB : B' ≤ B) : OwnS w B' v l := by
  refine ⟨h.1, ?_⟩
  rcases h.2 with ⟨rfl, h0⟩ | ⟨g, cap, cur, rfl, hb, hg, hn, hm, hs, ht⟩
  · exact .inl ⟨rfl, h0⟩
  · exact .inr ⟨g, cap, cur, rfl, by omega, hg, hn, hm, hs, ht⟩

/-- What fill leaves: the sums, in new memory; all else of the table as it was. -/
def FillPost (w : World) (p n : Nat) (x1 x2 x3 : Value) (e : Ending) (w' : World) : Prop :=
  ∃ v, e = .returned (.tuple #[]) ∧ Blk w' p 231 [.int .i64 n, x1, x2, x3, v] ∧ OwnS w' w.heap.size v (sums n n) ∧ Keeps [p] w w'

theorem wrap_u64_small {x : Nat} (hx : x < 18446744073709551616) : IntKind.u64.wrap (x : Int) = x := by rw [IntKind.wrap_u64]; omega

set_option maxRecDepth 100000 in
set_option maxHeartbeats 1000000 in
theorem fill_calls {w : World} {p n : Nat} {x1 x2 x3 : Value} (hb : Blk w p 231 [.int .i64 n, x1, x2, x3, .slice none 0 0]) (h1 : 1 ≤ n) (h2 : n ≤ 80) :
    Calls Tryz.prog 167 #[.pointer (some ⟨p, 0, none⟩)] w (FillPost w p n x1 x2 x3) := by
  have c0 := hb.cell' (i := 0) rfl
  have hpl := hb.lt
  have hB0 := OwnS.nil w w.heap.size
  go_enter Tryz.func167, Tryz.ntmps167
  go_wp2_with fail
  refine (weights_calls c0 h1 h2).mono ?_
  rintro e w1 ⟨vw, rfl, hO, hK⟩
  have hb1 := hb.keeps hK (by simp)
  have hI := hO.ints
  have hK' : Keeps [p] w w1 := hK.nil
  have hS0 := OwnS.nil w1 w1.heap.size
  obtain ⟨a, c, rfl, hc1, hc2, hc3⟩ := hI
  have hl := wgts_len n n
  have hcell : ∀ k, k < n → ∃ g, a = some ⟨g, 0, none⟩ ∧ w.heap.size ≤ g ∧ w1.cell? ⟨g, k, none⟩ = some (V32 (wgt n (k + 1))) := fun k hk => by
    obtain ⟨g, e, hg, hc⟩ := hc3 k (by omega)
    rw [wgts_at n hk] at hc
    exact ⟨g, e, hg, hc⟩
  rw [hl]
  have Hc := Lib.hid hcell
  clear hc1 hc2 hc3 hcell hl hO hb hK c0
  have hsz1 := hK'.size
  go_wp2_with fail
  go_loopw [2, 8] (fun s i wr => ∃ (k : Nat) (v : Value), k ≤ n ∧ i = .int .i64 k ∧ s = .int .u64 (sumTo n k : Nat) ∧ Blk wr p 231 [.int .i64 n, x1, x2, x3, v] ∧ OwnS wr w1.heap.size v (sums n k) ∧ Keeps [p] w1 wr ∧ Keeps [p] w wr) (fun _ i _ => n - (intOf i).toNat)
  case atStart => exact ⟨0, _, Nat.zero_le _, rfl, rfl, hb1, hS0, Keeps.refl _ _, hK'⟩
  case round =>
    clear hb1 hS0 hK'
    obtain ⟨k, v, hk, rfl, rfl, hb, hO, hK1, hK⟩ := hrel
    by_cases hlt : k < n
    · obtain ⟨g, rfl, hg, hc⟩ := Hc.out k hlt
      have hcr : wr.cell? ⟨g, k, none⟩ = some (V32 (wgt n (k + 1))) := (World.cell?_of_block (a := ⟨g, k, none⟩) (hK1.block g (World.block_lt_of_cell? w1 _ hc) (by simp; omega))).trans hc
      have hs := sums_succ n k
      have hst : sumTo n (k + 1) = sumTo n k + wgt n (k + 1) := rfl
      have hb1 := sumTo_le n k
      have hb2 := wgt_le (n := n) (d := k + 1) (by omega)
      have hlen := sums_len n k
      have hsz := hK.size
      generalize wgt n (k + 1) = x at *
      generalize sumTo n k = y at *
      have hkn : (k : Int) < (n : Int) := by omega
      have c4 := hb.cell' (i := 4) rfl
      have fr := hb.frozen 4
      have hwz : (y : Int) + (x : Int) = ((sumTo n (k + 1) : Nat) : Int) := by rw [hst]; omega
      have hwb : sumTo n (k + 1) ≤ 200000000 := by omega
      generalize hz : sumTo n (k + 1) = z at *
      have Hz := Lib.hid hz
      clear hz
      have Hs := Lib.hid hs
      have Hst := Lib.hid hst
      have HO := Lib.hid (hO.keeps ((Keeps.refl [] wr).alloc (.cells #[U64 z] 25)) (by simp))
      have HOb := Lib.hid (fun x (hx : v.ownBlock = some x) => (hO.block hx).1)
      have HK := Lib.hid hK
      have HK1 := Lib.hid hK1
      have HB := Lib.hid hb
      have hX : (wr.alloc (.cells #[U64 z] 25)).cell? ⟨wr.heap.size, 0, none⟩ = some (U64 z) := (Blk.newA wr 25 #[U64 z]).cell' rfl
      have hB : w1.heap.size ≤ (wr.alloc (.cells #[U64 z] 25)).heap.size := by have := hK1.size; simp; omega
      have HX := Lib.hid hX
      generalize sums n k = L at *
      have hL6 : L.length ≤ 1000000 := by omega
      clear hs hst hO hK hK1 hb hX hlen hc
      go_wp2_with (at_builtin; (refine wpList_append_u64 rfl (.tmp 20) (.tmp 22) rfl HO.out rfl z _ 0 1 rfl HX.out hL6 hB ?_); intro v2 w2 g1 g2 g3; have k2 := ((Keeps.refl (Option.toList v.ownBlock) wr).alloc (.cells #[U64 z] 25)).grown g2 (fun x hx => .inl (by rw [hx]; simp)); have b2 := HB.out.keeps k2 (by intro hm; have := HOb.out p (by simpa using hm); omega); have c42 := b2.cell' (i := 4) rfl; have f42 := b2.frozen 4; obtain ⟨a2, c2, rfl, _, _, _⟩ := g1.ints)
      rw [show (L ++ [z]).length = L.length + 1 from by simp] at g1
      have kp : Keeps [p] w2 (w2.setCell ⟨p, 4, none⟩ (.slice a2 (L.length + 1) c2)) := (Keeps.refl [p] w2).setCell (by simp) _
      have b3 := b2.set 4 (.slice a2 (L.length + 1) c2)
      have o3 := g1.keeps kp (by simp; omega)
      have kw1 : Keeps [p] w1 (w2.setCell ⟨p, 4, none⟩ (.slice a2 (L.length + 1) c2)) := (HK1.out.trans' k2 (fun _ h => .inl h) (fun x hx => .inr (HOb.out x (by simpa using hx)))).trans kp
      have kw : Keeps [p] w (w2.setCell ⟨p, 4, none⟩ (.slice a2 (L.length + 1) c2)) := (HK.out.trans' k2 (fun _ h => .inl h) (fun x hx => .inr (Nat.le_trans hsz1 (HOb.out x (by simpa using hx))))).trans kp
      go_roundw
      case rel => exact ⟨k + 1, (.slice a2 (L.length + 1) c2), by omega, by go_num, by rw [Hz.out], b3, by rw [Hs.out]; exact o3, kw1, kw⟩
      case measure => simp [intOf]; omega
    · obtain rfl : n = k := by omega
      go_wp2_with fail
      go_end0
      exact ⟨_, rfl, hb, hO.mono hsz1, hK⟩

end Go.Proofs.YtijhaeapoapgfaaGreatDoor
