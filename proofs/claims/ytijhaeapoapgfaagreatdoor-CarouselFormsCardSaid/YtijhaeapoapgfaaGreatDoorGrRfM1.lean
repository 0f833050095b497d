/-
  GrRfM1: the texts RfM1, one behind another.
-/
import Derived.Test.YtijhaeapoapgfaaGreatDoorGrApRow
import Derived.Test.YtijhaeapoapgfaaGreatDoorGrRfS4
import Derived.Test.YtijhaeapoapgfaaGreatDoorGrFrameV
import Derived.Deep.AppendLies
set_option linter.unusedVariables false
set_option linter.unusedSimpArgs false
namespace Go.Proofs.YtijhaeapoapgfaaGreatDoor
open Go.RowKit
attribute [local go_sem ↓] Go.wp_at_zero Go.wp_at_succ

theorem bl_of {cs : List Bool} {n X Y : Nat} (hc : cs.length = n) (h : ∀ j, j < n → cs.getD j false = ((X.testBit j).xor (Y.testBit j))) : cs = bl n (X ^^^ Y) := by
  apply List.ext_getElem?
  intro i
  by_cases hi : i < n
  · have h1 := h i hi
    rw [List.getD_eq_getElem?_getD, List.getElem?_eq_getElem (by omega)] at h1
    rw [List.getElem?_eq_getElem (by omega), List.getElem?_eq_getElem (by rw [bl_len]; exact hi)]
    simp only [Option.getD_some] at h1
    rw [h1]
    simp [bl, Nat.testBit_xor]
  · rw [List.getElem?_eq_none (by omega), List.getElem?_eq_none (by rw [bl_len]; omega)]

set_option maxRecDepth 100000 in
set_option maxHeartbeats 2000000 in
theorem rxor_calls {w : World} {ga gb n X Y : Nat} (ha : BlAt w ga (bl n X)) (hb : BlAt w gb (bl n Y)) (hn : n ≤ 256) :
    Calls Tryz.prog 96 #[.slice (some ⟨ga, 0, none⟩) n n, .slice (some ⟨gb, 0, none⟩) n n] w (BlNew w n (bl n (X ^^^ Y))) := by
  have hmk := fun w => make_bools n (by omega) w
  have HA := Lib.hid ha
  have HB := Lib.hid hb
  clear ha hb
  go_enter Tryz.func96, Tryz.ntmps96
  go_wp2_with fail
  have kA : Keeps [] w (w.alloc (.cells (Array.replicate n (.bool false)) 4)) := (Keeps.refl [] w).alloc _
  have hV0 : BlAt (w.alloc (.cells (Array.replicate n (.bool false)) 4)) w.heap.size (List.replicate n false) := ⟨by have := Blk.newA w 4 (Array.replicate n (.bool false)); rw [List.map_replicate]; simpa using this⟩
  have HV := Lib.hid hV0
  have HkA := Lib.hid kA
  clear hV0 kA
  obtain ⟨g, hg⟩ : ∃ g, g = w.heap.size := ⟨_, rfl⟩
  rw [← hg] at HV ⊢
  have Hg := Lib.hid hg
  clear hg
  first
  | generalize w.alloc (.cells (Array.replicate n (.bool false)) 4) = w0 at *
  | skip
  go_loopw [12] (fun i wr => ∃ (k : Nat) (cs : List Bool), k ≤ n ∧ i = .int .i64 k ∧ cs.length = n ∧ BlAt wr g cs ∧ Hid (∀ j, j < k → cs.getD j false = ((X.testBit j).xor (Y.testBit j))) ∧ Keeps [] w wr) (fun i _ => n - (intOf i).toNat)
  case atStart => exact ⟨0, _, Nat.zero_le _, rfl, List.length_replicate, HV.out, Lib.hid (fun j hj => by omega), HkA.out⟩
  case round =>
    clear HV HkA
    obtain ⟨k, cs, hk, rfl, hcl, hG, hx, hK⟩ := hrel
    by_cases hlt : k < n
    · have hki : (k : Int) < (n : Int) := by omega
      have ca := (HA.out.keeps hK (by simp)).bit hlt
      have cb := (HB.out.keeps hK (by simp)).bit hlt
      have fr := hG.b.frozen k
      have cg : wr.cell? ⟨g, k, none⟩ = some (.bool (cs.getD k false)) := hG.at (by omega)
      have hS := fun (x : Bool) => (hG.set k x).keeps ((Keeps.refl [] _).drew) (by simp)
      have hx' : ∀ (x : Bool), x = ((X.testBit k).xor (Y.testBit k)) → ∀ j, j < k + 1 → (cs.set k x).getD j false = ((X.testBit j).xor (Y.testBit j)) := fun x hxx j hj => by
        by_cases e : j = k
        · subst e
          rw [List.getD_eq_getElem?_getD, List.getElem?_set_self (by omega)]; exact hxx
        · rw [List.getD_eq_getElem?_getD, List.getElem?_set_ne (fun h => e h.symm), ← List.getD_eq_getElem?_getD]
          exact hx.out j (by omega)
      have hKs := fun (x : Bool) => (hK.setCell (p := ⟨g, k, none⟩) (.inr (by rw [Hg.out]; exact Nat.le_refl _)) (.bool x)).drew
      have HS := Lib.hid hS
      have HX := Lib.hid hx'
      have HK := Lib.hid hKs
      have Hcl := Lib.hid hcl
      clear hS hx' hG hx hK hcl hKs
      generalize X.testBit k = x at *
      generalize Y.testBit k = y at *
      cases x <;> cases y
      all_goals (
        go_upto_region 5 with (fail)
        go_region
        go_wp2_with fail
        go_roundw
        case rel => exact ⟨k + 1, _, by omega, by go_num, by rw [List.length_set]; exact Hcl.out, HS.out _, Lib.hid (HX.out _ rfl), HK.out _⟩
        case measure => simp [intOf]; omega)
    · obtain rfl : k = n := by omega
      obtain rfl := bl_of hcl hx.out
      have HG := Lib.hid hG
      have HK := Lib.hid hK
      clear hG hK hx
      go_wp2_with fail
      go_ret
      exact ⟨g, rfl, by rw [Hg.out]; exact Nat.le_refl _, HG.out, HK.out⟩

/-- Lines that the code owns; all their blocks meet Q. -/
def LnR (w : World) (B : Nat) (Q : Nat → Prop) (v : Value) (n : Nat) (LL : List Rw) : Prop :=
  ∃ cs : List Value, w.ownsRow B 166 2 v LL.length cs ∧ cs.length = 2 * LL.length ∧ (∀ g, v.ownBlock = some g → Q g) ∧
    ∀ (i : Nat) (q : Rw), LL[i]? = some q → ∃ (gx : Nat) (u : Value), cs[2 * i]? = some (Value.slice (some ⟨gx, 0, none⟩) n n) ∧ cs[2 * i + 1]? = some u ∧ BlAt w gx (bl n q.x) ∧ Q gx ∧ RdA Q w u q.d
theorem LnR.nil (w : World) (B : Nat) (Q : Nat → Prop) (n : Nat) : LnR w B Q (.slice none 0 0) n [] := ⟨[], World.ownsRow_nil _ _ _ _, rfl, by simp [Value.ownBlock], by intro i q h; simp at h⟩
theorem LnR.ownLt {w : World} {B : Nat} {Q : Nat → Prop} {v : Value} {n : Nat} {LL : List Rw} (h : LnR w B Q v n LL) : ∀ g, v.ownBlock = some g → B ≤ g ∧ g < w.heap.size ∧ ∃ cs, Blk w g 166 cs := by
  obtain ⟨cs, h1, h2, h3, h4⟩ := h
  intro g hg
  rcases h1.2 with ⟨rfl, _⟩ | ⟨g', cap, cur, rfl, hb, hgg, rest⟩
  · simp [Value.ownBlock] at hg
  · simp [Value.ownBlock] at hg; subst hg; exact ⟨hb, (Array.getElem?_eq_some_iff.1 hgg).1, cur.toList, by unfold Blk; rw [hgg]⟩
theorem LnR.keeps {S : List Nat} {w w' : World} {B : Nat} {Q : Nat → Prop} {v : Value} {n : Nat} {LL : List Rw} (h : LnR w B Q v n LL) (k : Keeps S w w') (hS : ∀ x, x ∈ S → ¬ Q x) : LnR w' B Q v n LL := by
  obtain ⟨cs, h1, h2, h3, h4⟩ := h
  refine ⟨cs, ⟨h1.1, ?_⟩, h2, h3, fun i q hq => ?_⟩
  · rcases h1.2 with hn | ⟨g, cap, cur, rfl, hb, hg, rest⟩
    · exact .inl hn
    · exact .inr ⟨g, cap, cur, rfl, hb, (k.block g (Array.getElem?_eq_some_iff.1 hg).1 (fun hm => hS g hm (h3 g rfl))).trans hg, rest⟩
  · obtain ⟨gx, u, a1, a2, a3, a4, a5⟩ := h4 i q hq
    exact ⟨gx, u, a1, a2, a3.keeps k (fun hm => hS gx hm a4), a4, a5.1.keepsQ a5.2 k hS, a5.2⟩
theorem LnR.keepsB {S : List Nat} {w w' : World} {B : Nat} {Q : Nat → Prop} {v : Value} {n : Nat} {LL : List Rw} (h : LnR w B Q v n LL) (k : Keeps S w w') (hS : ∀ x, x ∈ S → (∀ g, v.ownBlock = some g → g ≠ x) ∧ ∃ cs, Blk w x 166 cs) : LnR w' B Q v n LL := by
  obtain ⟨cs, h1, h2, h3, h4⟩ := h
  refine ⟨cs, ⟨h1.1, ?_⟩, h2, h3, fun i q hq => ?_⟩
  · rcases h1.2 with hn | ⟨g, cap, cur, rfl, hb, hg, rest⟩
    · exact .inl hn
    · exact .inr ⟨g, cap, cur, rfl, hb, (k.block g (Array.getElem?_eq_some_iff.1 hg).1 (fun hm => (hS g hm).1 g rfl rfl)).trans hg, rest⟩
  · obtain ⟨gx, u, a1, a2, a3, a4, a5⟩ := h4 i q hq
    refine ⟨gx, u, a1, a2, a3.keeps k (fun hm => ?_), a4, a5.1.keepsP k (fun x hx => ?_), a5.2⟩
    · obtain ⟨_, cs', hb'⟩ := hS gx hm
      exact a3.b.ne hb' (by decide) rfl
    · obtain ⟨_, cs', hb'⟩ := hS x hx
      exact ⟨_, cs', hb', by decide⟩
theorem LnR.mono {w : World} {B B' : Nat} {Q Q' : Nat → Prop} {v : Value} {n : Nat} {LL : List Rw} (h : LnR w B Q v n LL) (hB : B' ≤ B) (hQ : ∀ x, Q x → Q' x) : LnR w B' Q' v n LL := by
  obtain ⟨cs, h1, h2, h3, h4⟩ := h
  have h1' : w.ownsRow B' 166 2 v LL.length cs := ⟨h1.1, by
    rcases h1.2 with hn | ⟨g, cap, cur, e, hb, rest⟩
    · exact .inl hn
    · exact .inr ⟨g, cap, cur, e, by omega, rest⟩⟩
  exact ⟨cs, h1', h2, fun g hg => hQ g (h3 g hg), fun i q hq => by
    obtain ⟨gx, u, a1, a2, a3, a4, a5⟩ := h4 i q hq
    exact ⟨gx, u, a1, a2, a3, hQ gx a4, a5.1, fun a n c e => hQ _ (a5.2 a n c e)⟩⟩
theorem LnR.form {w : World} {B : Nat} {Q : Nat → Prop} {v : Value} {n : Nat} {LL : List Rw} (h : LnR w B Q v n LL) : ∃ a c, v = .slice a LL.length c ∧ LL.length ≤ c ∧ c ≤ 9223372036854775807 := by
  obtain ⟨cs, h1, _⟩ := h
  rcases h1.2 with ⟨rfl, h0⟩ | ⟨g, cap, cur, rfl, hb, hgg, hn, hm, _⟩
  · exact ⟨none, 0, by rw [h0], by omega, by omega⟩
  · exact ⟨_, cap, rfl, hn, by unfold maxLen at hm; omega⟩
theorem LnR.at {w : World} {B : Nat} {Q : Nat → Prop} {a : Option Addr} {c n : Nat} {LL : List Rw} (h : LnR w B Q (.slice a LL.length c) n LL) {i : Nat} {q : Rw} (hi : LL[i]? = some q) :
    ∃ g gx u, a = some ⟨g, 0, none⟩ ∧ w.cell? ⟨g, i * 2, none⟩ = some (Value.slice (some ⟨gx, 0, none⟩) n n) ∧ w.cell? ⟨g, i * 2 + 1, none⟩ = some u ∧ BlAt w gx (bl n q.x) ∧ RdS w u q.d ∧ Q gx ∧ Up Q u := by
  obtain ⟨cs, h1, h2, h3, h4⟩ := h
  obtain ⟨gx, u, a1, a2, a3, a4, a5⟩ := h4 i q hi
  rcases h1.2 with ⟨hn, h0⟩ | ⟨g, cap, cur, he, hb, hg, hn, hm, hs, ht⟩
  · exfalso
    have := (List.getElem?_eq_some_iff.1 hi).1
    omega
  · simp only [Value.slice.injEq] at he
    obtain ⟨rfl, _, rfl⟩ := he
    have hbk : Blk w g 166 (cs ++ cur.toList.drop (LL.length * 2)) := by
      unfold Blk
      rw [hg, ← ht, List.take_append_drop]
    have l1 := (List.getElem?_eq_some_iff.1 a1).1
    have l2 := (List.getElem?_eq_some_iff.1 a2).1
    refine ⟨g, gx, u, rfl, hbk.cell' ?_, hbk.cell' ?_, a3, a5.1, a4, a5.2⟩
    · rw [List.getElem?_append_left (by omega), Nat.mul_comm]; exact a1
    · rw [List.getElem?_append_left (by omega), Nat.mul_comm]; exact a2

theorem Tryz.info_ln : (Tryz.prog.info? 166).map (fun i => (i.zero, i.size, i.bytes)) = some (some (.agg #[.slice none 0 0, .slice none 0 0]), 2, 48) := by kernel_rfl
/-- append of one line. -/
theorem wpList_append_ln {w : World} {ops : Array Oper} {rest : List Oper} {o : Oper} {a : Act} {Q : Exit → Act → World → Prop} (hgd : o.guard = none) (s x : Operand)
    (ho : o.op = .call { callee := .builtin .append, args := #[s, x], argTypes := #[103, 103] })
    {B : Nat} {N : Nat → Prop} {v : Value} {n : Nat} {LL : List Rw} (h : LnR w B N v n LL) (hs : a.eval s = v) (b c : Nat) (hx : a.eval x = .slice (some ⟨b, 0, none⟩) 1 c) (gx : Nat) (u : Value) (q : Rw)
    (hb : Blk w b 166 [.slice (some ⟨gx, 0, none⟩) n n, u]) (hgx : BlAt w gx (bl n q.x)) (hNx : N gx) (hu : RdA N w u q.d) (hlen : LL.length ≤ 100000)
    (hNs : N w.heap.size) (hB : B ≤ w.heap.size)
    (hK : ∀ v' w', LnR w' B N v' n (LL ++ [q]) → w.grownBy w' v.ownBlock → (∀ x, v'.ownBlock = some x → v.ownBlock = some x ∨ x = w.heap.size) → wpList Tryz.prog ops Q rest (a.put o.dst v') w') : wpList Tryz.prog ops Q (o :: rest) a w := by
  refine wpList_plain hgd fun K hK' => ?_
  obtain ⟨i0, hi, hz0, hz1, hz2⟩ := info_parts Tryz.info_ln
  have hown := h.ownLt
  obtain ⟨cs, h1, h2, h3, h4⟩ := h
  obtain ⟨⟨au, cu, rfl, ru⟩, hup⟩ := id hu
  have key := step_append_lies (P := Tryz.prog) (ops := #[]) (Q := Q) (K := K) (E := True) w hgd s x 103 ho B 166 i0 _ 2 48 Tryz.underlying103 hi hz0 hz1 hz2 rfl (by decide) v LL.length cs hs h1
    ⟨b, 0, none⟩ 1 c [.slice (some ⟨gx, 0, none⟩) n n, .slice au q.d.length cu] hx rfl (World.news_of_block (cs := #[.slice (some ⟨gx, 0, none⟩) n n, .slice au q.d.length cu]) hb)
    (by intro u hu; simp only [List.mem_cons, List.not_mem_nil, or_false] at hu; rcases hu with rfl | rfl <;> rfl) (by decide) (by unfold maxLen; omega) (by omega) hB w.heap.size rfl ?_
  · rw [if_pos (by simp [Region.wanted, hgd])] at key
    exact key
  · intro g cap w' hO hG hg hlt
    have hk : Keeps v.ownBlock.toList w w' := (Keeps.refl _ w).grown hG (by intro k hk; rw [hk]; simp)
    have hBn : ∀ y Y, BlAt w y Y → y ∉ v.ownBlock.toList := fun y Y hy hm => by
      obtain ⟨_, _, cs', hb'⟩ := hown y (by simpa using hm)
      exact hy.b.ne hb' (by decide) rfl
    have hR : ∀ y l, RdA N w y l → RdA N w' y l := fun y l hy => ⟨hy.1.keepsP hk (fun x hx => by
      obtain ⟨_, _, cs', hb'⟩ := hown x (by simpa using hx)
      exact ⟨_, cs', hb', by decide⟩), hy.2⟩
    refine hK' _ _ (hK _ w' ⟨cs ++ [.slice (some ⟨gx, 0, none⟩) n n, .slice au q.d.length cu], by rw [List.length_append]; exact hO, by simp [h2]; omega, ?_, ?_⟩ hG (fun x hx => by simp only [Value.ownBlock, Option.some.injEq] at hx; subst hx; exact hg))
    · intro g' hg'
      simp only [Value.ownBlock, Option.some.injEq] at hg'
      subst hg'
      rcases hg with hg | hg
      · exact h3 g hg
      · rw [hg]; exact hNs
    · intro i e he
      by_cases hil : i < LL.length
      · rw [List.getElem?_append_left hil] at he
        obtain ⟨gy, uy, a1, a2, a3, a4, a5⟩ := h4 i e he
        exact ⟨gy, uy, by rw [List.getElem?_append_left (by omega)]; exact a1, by rw [List.getElem?_append_left (by omega)]; exact a2, a3.keeps hk (hBn _ _ a3), a4, hR _ _ a5⟩
      · rw [List.getElem?_append_right (by omega)] at he
        have hi0 : i - LL.length = 0 := by
          have := (List.getElem?_eq_some_iff.1 he).1
          simp at this
          omega
        rw [hi0] at he
        simp only [List.getElem?_cons_zero, Option.some.injEq] at he
        subst he
        have hil' : i = LL.length := by omega
        subst hil'
        refine ⟨gx, .slice au q.d.length cu, ?_, ?_, hgx.keeps hk (hBn _ _ hgx), hNx, hR _ _ hu⟩
        · rw [List.getElem?_append_right (by omega), h2, Nat.sub_self]; rfl
        · rw [List.getElem?_append_right (by omega), h2, show 2 * LL.length + 1 - 2 * LL.length = 1 from by omega]; rfl

def RRedPost (w : World) (n : Nat) (r : Rw) (e : Ending) (w' : World) : Prop :=
  ∃ g u, e = .returned (.tuple #[.slice (some ⟨g, 0, none⟩) n n, u]) ∧ BlAt w' g (bl n r.x) ∧ RdS w' u r.d ∧ Keeps [] w w'

set_option maxRecDepth 100000 in
set_option maxHeartbeats 3200000 in
theorem rreduce_calls {w : World} {pm n z B : Nat} {Q : Nat → Prop} {v : Value} {M : Mtx} (hb : Blk w pm 105 [.int .i64 n, .int .i64 z, v]) (hL : LnR w B Q v n (lns M n)) (hE : Ech n z M) (hn : n ≤ 256) (hz : z ≤ 16)
    {gv X : Nat} (hX : BlAt w gv (bl n X)) {u : Value} {d : List UInt8} (hd : RdS w u d) (hdz : d.length = z) (hXl : X < 2 ^ n) :
    Calls Tryz.prog 94 #[P0 pm, .slice (some ⟨gv, 0, none⟩) n n, u] w (RRedPost w n (red M ⟨X, d⟩)) := by
  rw [red_lnP hE]
  have hPl := lnP_len M n
  have hLl := lns_len M n
  have hat : ∀ (j : Nat) (p : Nat × Rw), (lnP M n)[j]? = some p → (lns M n)[j]? = some p.2 ∧ firstB n p.2.x = (p.1 : Int) ∧ p.1 < n ∧ p.2.d.length = z ∧ p.2.x < 2 ^ n := fun j p hp => by
    have hm := List.mem_of_getElem? hp
    have h1 := first_lnP hE hm
    have h2 := lnP_mem hm
    refine ⟨?_, h1.1, h1.2, hE.d _ _ h2.2, hE.lt _ _ h2.2⟩
    unfold lns
    rw [List.getElem?_map, hp]; rfl
  obtain ⟨a, c, rfl, hc1, hc2⟩ := hL.form
  generalize lns M n = LL at *
  generalize lnP M n = P at *
  have c0 := hb.cell' (i := 0) rfl
  have c1 := hb.cell' (i := 1) rfl
  have c2 := hb.cell' (i := 2) rfl
  have Hat := Lib.hid hat
  have HL := Lib.hid hL
  have HX := Lib.hid hX
  have HD := Lib.hid hd
  have Hdz := Lib.hid hdz
  have HXl := Lib.hid hXl
  have HLl := Lib.hid hLl
  rw [hLl] at c2 hc1
  have hPn : P.length ≤ n := hPl
  have hpz : ∀ j, j < P.length → ((j : Int) < (P.length : Int)) := fun j hj => by omega
  clear hat hL hX hd hdz hXl hb hE hPl hLl hpz
  go_enter Tryz.func94, Tryz.ntmps94
  go_wp2_with fail
  go_loopw [1, 2, 15] (fun vx vd i wr => ∃ (j g : Nat) (r : Rw), j ≤ P.length ∧ i = .int .i64 j ∧ vx = .slice (some ⟨g, 0, none⟩) n n ∧ BlAt wr g (bl n r.x) ∧ RdS wr vd r.d ∧ r.d.length = z ∧ r.x < 2 ^ n ∧ r = (P.take j).foldl stR ⟨X, d⟩ ∧ Keeps [] w wr) (fun _ _ i _ => P.length - (intOf i).toNat)
  case atStart => exact ⟨0, gv, ⟨X, d⟩, Nat.zero_le _, rfl, rfl, HX.out, HD.out, Hdz.out, HXl.out, rfl, Keeps.refl _ _⟩
  case round =>
    clear HX HD
    obtain ⟨j, g, r, hj, rfl, rfl, hG, hR, hrl, hrx, hre, hK⟩ := hrel
    by_cases hlt : j < P.length
    · have hji : (j : Int) < (P.length : Int) := by omega
      obtain ⟨p, hp⟩ : ∃ p, P[j]? = some p := ⟨_, List.getElem?_eq_getElem hlt⟩
      obtain ⟨e1, e2, e3, e4, e5⟩ := Hat.out j p hp
      have hL' := HL.out
      rw [HLl.out] at hL'
      have hLL := HL.out
      obtain ⟨gl, gx, ux, ha, k0, k1, hbx, hux, _⟩ := hLL.at e1
      subst ha
      have m0 := hK.cell0 k0
      have m1 := hK.cell0 k1
      have hbx' := hbx.keeps hK (by simp)
      have hux' := hux.keepsNil hK
      obtain ⟨i, q⟩ := p
      simp only at e2 e3 e4 e5 hbx' hux'
      have hst : (P.take (j + 1)).foldl stR ⟨X, d⟩ = stR r (i, q) := by
        rw [List.take_add_one, hp, Option.toList_some, List.foldl_append, ← hre]; rfl
      obtain ⟨au, cu, rfl, x1, x2, x3, x4⟩ := id hux'
      rw [e4] at m1 x1
      have kA : Keeps [] wr (wr.alloc (.cells #[.slice (some ⟨gx, 0, none⟩) n n, .slice au z cu] 166)) := (Keeps.refl [] wr).alloc _
      have hBl := Blk.newA wr 166 #[.slice (some ⟨gx, 0, none⟩) n n, .slice au z cu]
      have HF := Lib.hid (rfirst_calls (hbx'.keeps kA (by simp)) hn n (Nat.le_refl _) (by omega))
      rw [e2] at HF
      have Hbx := Lib.hid (hbx'.keeps kA (by simp))
      have Hux := Lib.hid (x3.keepsNil kA)
      have HG := Lib.hid (hG.keeps kA (by simp))
      have HR := Lib.hid (hR.keepsNil kA)
      have HK := Lib.hid (hK.trans kA)
      have Hst := Lib.hid hst
      have Hrl := Lib.hid hrl
      have Hrx := Lib.hid hrx
      have Hqx := Lib.hid e5
      have Hqd := Lib.hid e4
      have hin : (i : Int) < (n : Int) := by omega
      have cbit := (hG.keeps kA (by simp)).bit e3
      have l0 := hBl.cell' (i := 0) rfl
      have l1 := hBl.cell' (i := 1) rfl
      clear hbx hux hbx' hux' k0 k1 x3 x4 hG hR hK hst hL' hLL hp e1 e2 hre hrl hrx e5 e4 kA hBl
      go_upto_region 4 with (fail)
      clear m0 m1
      generalize wr.alloc (.cells #[.slice (some ⟨gx, 0, none⟩) n n, .slice au z cu] 166) = w1 at *
      have hsr : stR r (i, q) = if r.x.testBit i then rxor r q else r := rfl
      cases hbit : r.x.testBit i with
      | false =>
        rw [hbit] at cbit hsr
        simp only [if_neg, Bool.false_eq_true, not_false_eq_true] at hsr
        have Hsr := Lib.hid hsr
        clear hbit hsr
        go_wp2_with fail
        refine HF.out.mono ?_
        rintro e w2 ⟨rfl, rfl⟩
        go_wp2_with fail
        go_roundw
        case rel => exact ⟨j + 1, g, r, by omega, by go_num, rfl, HG.out, HR.out, Hrl.out, Hrx.out, by rw [Hst.out, Hsr.out], HK.out⟩
        case measure => simp [intOf]; omega
      | true =>
        rw [hbit] at cbit hsr
        simp only [if_pos] at hsr
        have Hsr := Lib.hid hsr
        obtain ⟨ar, cr, er, y1, y2, y3, _⟩ := HR.out
        rw [Hrl.out] at y1 er
        have Hy3 := Lib.hid y3
        subst er
        clear hbit hsr y3 HR
        go_wp2_with fail
        refine HF.out.mono ?_
        rintro e w2 ⟨rfl, rfl⟩
        go_upto_region 5 with (fail)
        have kd : Keeps [] w1 w1.drew := (Keeps.refl [] w1).drew
        refine wp_region_noPanic ?_
        refine wp_region_held_drew (S := (fun W => W.cell? ⟨wr.heap.size, 0, none⟩ = some (.slice (some ⟨gx, 0, none⟩) n n) ∧ W.cell? ⟨wr.heap.size, 1, none⟩ = some (.slice au z cu))) (by kernel_rfl) ⟨l0, l1⟩ (fun hHeld => ?_)
        refine wpAnyH_take (i := 0) (v := ?v1_1) rfl (by kernel_rfl) (by kernel_rfl) (by kernel_rfl) (fun _ _ _ h => h) (Or.inl ⟨by rfl, ?y1_1⟩) (by assumption) ?r1_1
        case y1_1 => (intro w hSw; (try dsimp only at hSw); go_simp; try with_reducible rfl)
        (try simp only [Act.put, List.getElem_toArray, List.getElem_cons_zero, List.getElem_cons_succ, List.setIfInBounds_toArray, List.set_cons_zero, List.set_cons_succ])
        refine wpAnyH_take (i := 1) (v := ?v1_2) rfl (by kernel_rfl) (by kernel_rfl) (by kernel_rfl) (fun _ _ _ h => h) (Or.inl ⟨by rfl, ?y1_2⟩) (by assumption) ?r1_2
        case y1_2 => (intro w hSw; (try dsimp only at hSw); go_simp; try with_reducible rfl)
        (try simp only [Act.put, List.getElem_toArray, List.getElem_cons_zero, List.getElem_cons_succ, List.setIfInBounds_toArray, List.set_cons_zero, List.set_cons_succ])
        refine wpAnyH_take (i := 2) (v := ?v1_3) rfl (by kernel_rfl) (by kernel_rfl) (by kernel_rfl) (fun _ _ _ h => h) (Or.inl ⟨by rfl, ?y1_3⟩) (by assumption) ?r1_3
        case y1_3 => (intro w hSw; (try dsimp only at hSw); go_simp; try with_reducible rfl)
        (try simp only [Act.put, List.getElem_toArray, List.getElem_cons_zero, List.getElem_cons_succ, List.setIfInBounds_toArray, List.set_cons_zero, List.set_cons_succ])
        refine wpAnyH_take (i := 4) (v := ?v1_4) rfl (by kernel_rfl) (by kernel_rfl) (by kernel_rfl) (fun _ _ _ h => h) (Or.inl ⟨by rfl, ?y1_4⟩) (by assumption) ?r1_4
        case y1_4 => (intro w hSw; (try dsimp only at hSw); go_simp; try with_reducible rfl)
        (try simp only [Act.put, List.getElem_toArray, List.getElem_cons_zero, List.getElem_cons_succ, List.setIfInBounds_toArray, List.set_cons_zero, List.set_cons_succ])
        refine wpAnyH_take (i := 5) (v := ?v1_5) rfl (by kernel_rfl) (by kernel_rfl) (by kernel_rfl) (fun _ _ _ h => h) (Or.inl ⟨by rfl, ?y1_5⟩) (by assumption) ?r1_5
        case y1_5 => (intro w hSw; (try dsimp only at hSw); go_simp; try with_reducible rfl)
        (try simp only [Act.put, List.getElem_toArray, List.getElem_cons_zero, List.getElem_cons_succ, List.setIfInBounds_toArray, List.set_cons_zero, List.set_cons_succ])
        refine wpAnyH_take (i := 6) (v := ?v1_6) rfl (by kernel_rfl) (by kernel_rfl) (by kernel_rfl) (fun _ _ _ h => h) (Or.inl ⟨by rfl, ?y1_6⟩) (by assumption) ?r1_6
        case y1_6 => (intro w hSw; (try dsimp only at hSw); go_simp; try with_reducible rfl)
        (try simp only [Act.put, List.getElem_toArray, List.getElem_cons_zero, List.getElem_cons_succ, List.setIfInBounds_toArray, List.set_cons_zero, List.set_cons_succ])
        refine wpAnyH_ready (rs := [3]) (by kernel_rfl) (by simp) ?_
        refine AllReadyH.cons rfl (fun K hK => ?_) AllReadyH.nil
        go_simp
        refine (rxor_calls (HG.out.keeps kd (by simp)) (Hbx.out.keeps kd (by simp)) hn).mono ?_
        rintro e w3 ⟨g3, rfl, hg3, hb3, k3⟩
        replace kd := kd.trans k3
        have Hb3 := Lib.hid hb3
        clear hb3 k3
        go_wp2_with fail
        refine hK.out _ _ ?s1_7 (fun hHeld => ?_)
        case s1_7 => ((try dsimp only) <;> (first | exact ⟨kd.cell0 l0, kd.cell0 l1⟩))
        clear hK K
        (try simp only [Act.put, List.getElem_toArray, List.getElem_cons_zero, List.getElem_cons_succ, List.setIfInBounds_toArray, List.set_cons_zero, List.set_cons_succ])
        refine wpAnyH_ready (rs := [7]) (by kernel_rfl) (by simp) ?_
        refine AllReadyH.cons rfl (fun K hK => ?_) AllReadyH.nil
        go_simp
        refine (rxorb_calls (Hy3.out.keepsNil kd) (Hux.out.keepsNil kd) Hrl.out Hqd.out y1 x1 y2 x2 (by omega)).mono ?_
        rintro e w4 ⟨g4, rfl, hg4, hb4, k4⟩
        replace kd := kd.trans k4
        have Hb4 := Lib.hid hb4
        have Hb34 := Lib.hid (Hb3.out.keeps k4 (by simp))
        clear hb4 k4 Hb3
        go_wp2_with fail
        refine hK.out _ _ ?s1_8 (fun hHeld => ?_)
        case s1_8 => ((try dsimp only) <;> (first | exact ⟨kd.cell0 l0, kd.cell0 l1⟩))
        clear hK K
        (try simp only [Act.put, List.getElem_toArray, List.getElem_cons_zero, List.getElem_cons_succ, List.setIfInBounds_toArray, List.set_cons_zero, List.set_cons_succ])
        refine wpAnyH_take (i := 8) (v := ?v1_9) rfl (by kernel_rfl) (by kernel_rfl) (by kernel_rfl) (fun _ _ _ h => h) (Or.inl ⟨by rfl, ?y1_9⟩) (by assumption) ?r1_9
        case y1_9 => (intro w hSw; (try dsimp only at hSw); go_simp; try with_reducible rfl)
        (try simp only [Act.put, List.getElem_toArray, List.getElem_cons_zero, List.getElem_cons_succ, List.setIfInBounds_toArray, List.set_cons_zero, List.set_cons_succ])
        refine wpAnyH_take (i := 9) (v := ?v1_10) rfl (by kernel_rfl) (by kernel_rfl) (by kernel_rfl) (fun _ _ _ h => h) (Or.inl ⟨by rfl, ?y1_10⟩) (by assumption) ?r1_10
        case y1_10 => (intro w hSw; (try dsimp only at hSw); go_simp; try with_reducible rfl)
        (try simp only [Act.put, List.getElem_toArray, List.getElem_cons_zero, List.getElem_cons_succ, List.setIfInBounds_toArray, List.set_cons_zero, List.set_cons_succ])
        refine wpAnyH_done (by kernel_rfl) ?_ _
        refine NoPanic.normal ?_
        go_wp2_with fail
        go_roundw
        case rel => exact ⟨j + 1, g3, rxor r q, by omega, by go_num, rfl, Hb34.out, RdS.blk Hb4.out (xorL_len Hrl.out Hqd.out) (by omega), xorL_len Hrl.out Hqd.out, xor_lt Hrx.out Hqx.out, by rw [Hst.out, Hsr.out], HK.out.trans kd⟩
        case measure => simp [intOf]; omega
    · obtain rfl : j = P.length := by omega
      rw [List.take_length] at hre
      have HG := Lib.hid hG
      have HR := Lib.hid hR
      have HK := Lib.hid hK
      have Hre := Lib.hid hre
      clear hG hR hK hre
      go_wp2_with fail
      go_ret2
      exact ⟨g, _, rfl, by rw [← Hre.out]; exact HG.out, by rw [← Hre.out]; exact HR.out, HK.out⟩

end Go.Proofs.YtijhaeapoapgfaaGreatDoor
