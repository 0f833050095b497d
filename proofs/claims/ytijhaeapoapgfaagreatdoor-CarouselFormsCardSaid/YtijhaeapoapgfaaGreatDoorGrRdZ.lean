/-
  GrRdZ: the texts RdZ, Cd3, Cd4, one behind another.
-/
import Derived.Test.YtijhaeapoapgfaaGreatDoorGrVecL
import Derived.Test.YtijhaeapoapgfaaGreatDoorGrBytes
import Derived.Lib.SmallJoins
import Derived.ArgAppend
import Derived.Test.YtijhaeapoapgfaaGreatDoorGrCd2
set_option linter.unusedVariables false
set_option linter.unusedSimpArgs false
namespace Go.Proofs.YtijhaeapoapgfaaGreatDoor
open Go.RowKit

/-- Bytes to be read; of their block nothing is said. -/
def RdS0 (w : World) (v : Value) (l : List UInt8) : Prop :=
  ∃ a c, v = .slice a l.length c ∧ l.length ≤ c ∧ c ≤ 9223372036854775807 ∧ Rd w a l ∧ (a = none → l = [] ∧ c = 0)
theorem RdS.z {w : World} {v : Value} {l : List UInt8} (h : RdS w v l) : RdS0 w v l := by
  obtain ⟨a, c, h1, h2, h3, h4, h5, _⟩ := h
  exact ⟨a, c, h1, h2, h3, h4, h5⟩
theorem RdS0.keepsNil {w w' : World} {v : Value} {l : List UInt8} (h : RdS0 w v l) (k : Keeps [] w w') : RdS0 w' v l := by
  obtain ⟨a, c, h1, h2, h3, h4, h5⟩ := h
  exact ⟨a, c, h1, h2, h3, h4.keepsNil k, h5⟩
theorem RdS0.str {w : World} {v : Value} {x : List UInt8} (h : RdS0 w v x) : (convert 22 9 v).run Tryz.prog w = .ok (.string ⟨x.toArray⟩) w := by
  obtain ⟨a, c, rfl, _, _, r3, r4⟩ := h
  exact str_run x.length c r3 rfl (fun h => (r4 h).1)
def RdL0 (w : World) (v : Value) (L : List (List UInt8)) : Prop :=
  ∃ a c, v = .slice a L.length c ∧ (∀ (i : Nat) (x : List UInt8), L[i]? = some x → ∃ g u, a = some ⟨g, 0, none⟩ ∧ w.cell? ⟨g, i, none⟩ = some u ∧ RdS0 w u x)
theorem RdL.z {w : World} {v : Value} {L : List (List UInt8)} (h : RdL w v L) : RdL0 w v L := by
  obtain ⟨a, c, h1, _, _, h4, _⟩ := h
  exact ⟨a, c, h1, fun i x hx => by obtain ⟨g, u, e, hc, hr⟩ := h4 i x hx; exact ⟨g, u, e, hc, hr.z⟩⟩
theorem RdL0.keepsNil {w w' : World} {v : Value} {L : List (List UInt8)} (h : RdL0 w v L) (k : Keeps [] w w') : RdL0 w' v L := by
  obtain ⟨a, c, h1, h4⟩ := h
  exact ⟨a, c, h1, fun i x hx => by obtain ⟨g, u, e, hc, hr⟩ := h4 i x hx; exact ⟨g, u, e, k.cell0 hc, hr.keepsNil k⟩⟩
theorem RdL0.two {w : World} {g : Nat} {a b : Value} {x y : List UInt8} (hb : Blk w g 22 [a, b]) (ha : RdS0 w a x) (hb2 : RdS0 w b y) : RdL0 w (.slice (some ⟨g, 0, none⟩) 2 2) [x, y] :=
  ⟨_, _, rfl, fun i u hu => by
    match i, hu with
    | 0, hu => exact ⟨g, a, rfl, hb.cell' rfl, by obtain rfl := Option.some.inj hu; exact ha⟩
    | 1, hu => exact ⟨g, b, rfl, hb.cell' rfl, by obtain rfl := Option.some.inj hu; exact hb2⟩⟩

/-- []byte("..") of a constant: the literal's block bears a mark. -/
theorem lit_conv (w : World) (C : Array Value) (n c : Nat) : (convert 22 22 (.slice (some ⟨w.heap.size, 0, none⟩) n c)).run Tryz.prog (w.alloc (.cells C 5)) = .ok (.slice (some ⟨w.heap.size, 0, none⟩) n c) (w.alloc (.cells C 5 (C.size, C.size + 1))) :=
  Go.Joins.run_convert_bytes_const_at w 22 5 C n c _ rfl Tryz.underlying22 Tryz.underlying5
theorem lit_rd (w : World) (C : Array Value) (fr : Nat × Nat) (l : List UInt8) (hc : C.toList = l.map B8) : Rd (w.alloc (.cells C 5 fr)) (some ⟨w.heap.size, 0, none⟩) l := by
  intro i u hu
  refine ⟨w.heap.size, 0, rfl, ?_⟩
  rw [Nat.zero_add]
  have h1 := World.cell?_alloc_mark w C 5 fr i
  rw [h1, ← Array.getElem?_toList, hc, List.getElem?_map, hu]
  rfl
theorem lit_rds (w : World) (C : Array Value) (fr : Nat × Nat) (l : List UInt8) (n : Nat) (hc : C.toList = l.map B8) (hn : l.length = n) (hm : n ≤ 100000) : RdS0 (w.alloc (.cells C 5 fr)) (.slice (some ⟨w.heap.size, 0, none⟩) n n) l := by
  subst hn
  exact ⟨_, _, rfl, Nat.le_refl _, by omega, lit_rd w C fr l hc, by simp⟩

/-- append(v, bytes..) where there is no room. -/
theorem wpList_append_full {w : World} {ops : Array Oper} {rest : List Oper} {o : Oper} {act : Act} {Q : Exit → Act → World → Prop} (hgd : o.guard = none) (s x : Operand)
    (ho : o.op = .call { callee := .builtin .append, args := #[s, x], argTypes := #[22, 22] })
    {b : Option Addr} {n cap : Nat} {l m : List UInt8} (hl : Rd w b l) (hn : l.length = n) (hs : act.eval s = .slice b n cap) (h0 : b = none → n = 0 ∧ cap = 0) {a : Addr} {k c : Nat} (hm : Rd w (some a) m) (hk : m.length = k) (hx : act.eval x = .slice (some a) k c) (hg : cap < n + k) (hb : n + k ≤ 100000)
    (hK : ∀ v' w', Own w' w.heap.size v' (l ++ m) → w.grownBy w' none → wpList Tryz.prog ops Q rest (act.put o.dst v') w') : wpList Tryz.prog ops Q (o :: rest) act w := by
  obtain ⟨i0, hi, hz0, hz1, hz2⟩ := info_parts Tryz.info_u8
  refine wpList_append_grows (P := Tryz.prog) w hgd s x 22 ho 5 i0 (.int .u8 0) 1 1 Tryz.underlying22 hi hz0 hz1 hz2 rfl (by decide) b n cap (l.map B8) hs h0 (by simp [hn]) (fun b' hb' => by subst hb'; exact hl.news) a k c (m.map B8) hx (by simp [hk]) hm.news (by intro u hu; obtain ⟨y, _, rfl⟩ := List.mem_map.1 hu; rfl) hg (by unfold maxLen; omega) (by omega) (fun v' w' h1 h2 => hK v' w' ?_ h2)
  unfold Own
  rw [List.map_append, List.length_append, hn, hk]
  exact h1

end Go.Proofs.YtijhaeapoapgfaaGreatDoor

set_option linter.unusedVariables false
set_option linter.unusedSimpArgs false
namespace Go.Proofs.YtijhaeapoapgfaaGreatDoor
open Go.RowKit
attribute [local go_sem ↓] Go.wp_at_zero Go.wp_at_succ

def HdNew (w : World) (s : UInt32) (nK P z : Nat) (img : List UInt8) (e : Ending) (w' : World) : Prop :=
  ∃ p, e = .returned (.pointer (some ⟨p, 0, none⟩)) ∧ w.heap.size ≤ p ∧ Hd w' (w.heap.size ≤ ·) p s nK P z img ∧ Keeps [] w w'

theorem Fits.ok {nK P z : Nat} {img : List UInt8} (h : Fits nK P z img) : PmOk (nK : Int) (P : Int) (z : Int) = true := by
  obtain ⟨h1, h2, h3, h4, h5, _⟩ := h
  simp [PmOk]; omega

set_option maxRecDepth 100000 in
set_option maxHeartbeats 1600000 in
theorem cnew0_calls {w : World} {vi : Value} {img : List UInt8} (hi : RdS0 w vi img) (s : UInt32) {nK P z : Nat} (hf : Fits nK P z img) :
    Calls Tryz.prog 32 #[.agg #[B32 s, .int .i64 nK, .int .i64 P, .int .i64 z], vi] w (HdNew w s nK P z img) := by
  have hM := fun w => may_calls (w := w) s nK P z
  simp only [hf.ok] at hM
  have hC := fun w => bcount_calls (w := w) img.length z hf.l hf.z1 hf.z2
  simp only [hf.c] at hC
  have kA : Keeps [] w (w.alloc (.cells #[B32 s, .int .i64 nK, .int .i64 P, .int .i64 z] 38)) := (Keeps.refl [] w).alloc _
  have hB := Blk.newA w 38 #[B32 s, .int .i64 nK, .int .i64 P, .int .i64 z]
  have c0 := hB.cell' (i := 0) rfl
  have c1 := hB.cell' (i := 1) rfl
  have c2 := hB.cell' (i := 2) rfl
  have c3 := hB.cell' (i := 3) rfl
  obtain ⟨a, c, rfl, r1, r2, r3, r4⟩ := id hi
  have HI := Lib.hid hi
  have HM := Lib.hid hM
  have HC := Lib.hid hC
  have hil := hf.l
  clear hi hM hC hB
  go_enter Tryz.func32, Tryz.ntmps32
  go_wp2_with fail
  generalize w.alloc (.cells #[B32 s, .int .i64 nK, .int .i64 P, .int .i64 z] 38) = w0 at *
  refine wp_region_noPanic ?_
  refine wp_region_held_drew (S := (fun w' => w'.cell? ⟨w.heap.size, 0, none⟩ = some (B32 s) ∧ w'.cell? ⟨w.heap.size, 1, none⟩ = some (.int .i64 nK) ∧ w'.cell? ⟨w.heap.size, 2, none⟩ = some (.int .i64 P) ∧ w'.cell? ⟨w.heap.size, 3, none⟩ = some (.int .i64 z))) (by kernel_rfl) ⟨c0, c1, c2, c3⟩ (fun hHeld => ?_)
  have kd : Keeps [] w0 w0.drew := (Keeps.refl [] w0).drew
  refine wpAnyH_take (i := 0) (v := ?v1_1) rfl (by kernel_rfl) (by kernel_rfl) (by kernel_rfl) (fun _ _ _ h => h) (Or.inl ⟨by rfl, ?y1_1⟩) (by assumption) ?r1_1
  case y1_1 => (intro w hSw; (try dsimp only at hSw); go_simp; try with_reducible rfl)
  (try simp only [Act.put, List.getElem_toArray, List.getElem_cons_zero, List.getElem_cons_succ, List.setIfInBounds_toArray, List.set_cons_zero, List.set_cons_succ])
  refine wpAnyH_ready (rs := [1]) (by kernel_rfl) (by simp) ?_
  refine AllReadyH.cons rfl (fun K hK => ?_) AllReadyH.nil
  go_simp
  refine (HM.out _).mono ?_
  rintro e w1 ⟨rfl, k1⟩
  replace kd := kd.trans k1
  go_wp2_with fail
  refine hK.out _ _ ?s1_2 (fun hHeld => ?_)
  case s1_2 => ((try dsimp only) <;> (first | exact ⟨kd.cell0 c0, kd.cell0 c1, kd.cell0 c2, kd.cell0 c3⟩))
  clear hK K
  (try simp only [Act.put, List.getElem_toArray, List.getElem_cons_zero, List.getElem_cons_succ, List.setIfInBounds_toArray, List.set_cons_zero, List.set_cons_succ])
  refine wpAnyH_take (i := 2) (v := ?v1_3) rfl (by kernel_rfl) (by kernel_rfl) (by kernel_rfl) (fun _ _ _ h => h) (Or.inl ⟨by rfl, ?y1_3⟩) (by assumption) ?r1_3
  case y1_3 => (intro w hSw; (try dsimp only at hSw); go_simp; try with_reducible rfl)
  (try simp only [Act.put, List.getElem_toArray, List.getElem_cons_zero, List.getElem_cons_succ, List.setIfInBounds_toArray, List.set_cons_zero, List.set_cons_succ])
  refine wpAnyH_take (i := 3) (v := ?v1_4) rfl (by kernel_rfl) (by kernel_rfl) (by kernel_rfl) (fun _ _ _ h => h) (Or.inl ⟨by rfl, ?y1_4⟩) (by assumption) ?r1_4
  case y1_4 => (intro w hSw; (try dsimp only at hSw); go_simp; try with_reducible rfl)
  (try simp only [Act.put, List.getElem_toArray, List.getElem_cons_zero, List.getElem_cons_succ, List.setIfInBounds_toArray, List.set_cons_zero, List.set_cons_succ])
  refine wpAnyH_take (i := 4) (v := ?v1_5) rfl (by kernel_rfl) (by kernel_rfl) (by kernel_rfl) (fun _ _ _ h => h) (Or.inl ⟨by rfl, ?y1_5⟩) (by assumption) ?r1_5
  case y1_5 => (intro w hSw; (try dsimp only at hSw); go_simp; try with_reducible rfl)
  (try simp only [Act.put, List.getElem_toArray, List.getElem_cons_zero, List.getElem_cons_succ, List.setIfInBounds_toArray, List.set_cons_zero, List.set_cons_succ])
  refine wpAnyH_take (i := 5) (v := ?v1_6) rfl (by kernel_rfl) (by kernel_rfl) (by kernel_rfl) (fun _ _ _ h => h) (Or.inl ⟨by rfl, ?y1_6⟩) (by assumption) ?r1_6
  case y1_6 => (intro w hSw; (try dsimp only at hSw); go_simp; try with_reducible rfl)
  (try simp only [Act.put, List.getElem_toArray, List.getElem_cons_zero, List.getElem_cons_succ, List.setIfInBounds_toArray, List.set_cons_zero, List.set_cons_succ])
  refine wpAnyH_take (i := 6) (v := ?v1_7) rfl (by kernel_rfl) (by kernel_rfl) (by kernel_rfl) (fun _ _ _ h => h) (Or.inl ⟨by rfl, ?y1_7⟩) (by assumption) ?r1_7
  case y1_7 => (intro w hSw; (try dsimp only at hSw); go_simp; try with_reducible rfl)
  (try simp only [Act.put, List.getElem_toArray, List.getElem_cons_zero, List.getElem_cons_succ, List.setIfInBounds_toArray, List.set_cons_zero, List.set_cons_succ])
  refine wpAnyH_take (i := 7) (v := ?v1_8) rfl (by kernel_rfl) (by kernel_rfl) (by kernel_rfl) (fun _ _ _ h => h) (Or.inl ⟨by rfl, ?y1_8⟩) (by assumption) ?r1_8
  case y1_8 => (intro w hSw; (try dsimp only at hSw); go_simp; try with_reducible rfl)
  (try simp only [Act.put, List.getElem_toArray, List.getElem_cons_zero, List.getElem_cons_succ, List.setIfInBounds_toArray, List.set_cons_zero, List.set_cons_succ])
  refine wpAnyH_take (i := 9) (v := ?v1_9) rfl (by kernel_rfl) (by kernel_rfl) (by kernel_rfl) (fun _ _ _ h => h) (Or.inl ⟨by rfl, ?y1_9⟩) (by assumption) ?r1_9
  case y1_9 => (intro w hSw; (try dsimp only at hSw); go_simp; try with_reducible rfl)
  (try simp only [Act.put, List.getElem_toArray, List.getElem_cons_zero, List.getElem_cons_succ, List.setIfInBounds_toArray, List.set_cons_zero, List.set_cons_succ])
  refine wpAnyH_take (i := 10) (v := ?v1_10) rfl (by kernel_rfl) (by kernel_rfl) (by kernel_rfl) (fun _ _ _ h => h) (Or.inl ⟨by rfl, ?y1_10⟩) (by assumption) ?r1_10
  case y1_10 => (intro w hSw; (try dsimp only at hSw); go_simp; try with_reducible rfl)
  (try simp only [Act.put, List.getElem_toArray, List.getElem_cons_zero, List.getElem_cons_succ, List.setIfInBounds_toArray, List.set_cons_zero, List.set_cons_succ])
  refine wpAnyH_ready (rs := [8]) (by kernel_rfl) (by simp) ?_
  refine AllReadyH.cons rfl (fun K hK => ?_) AllReadyH.nil
  go_simp
  refine (HC.out _).mono ?_
  rintro e w' ⟨rfl, rfl⟩
  go_wp2_with fail
  refine hK.out _ _ ?s1_11 (fun hHeld => ?_)
  case s1_11 => ((try dsimp only) <;> (first | exact ⟨kd.cell0 c0, kd.cell0 c1, kd.cell0 c2, kd.cell0 c3⟩))
  clear hK K
  (try simp only [Act.put, List.getElem_toArray, List.getElem_cons_zero, List.getElem_cons_succ, List.setIfInBounds_toArray, List.set_cons_zero, List.set_cons_succ])
  refine wpAnyH_take (i := 11) (v := ?v1_12) rfl (by kernel_rfl) (by kernel_rfl) (by kernel_rfl) (fun _ _ _ h => h) (Or.inl ⟨by rfl, ?y1_12⟩) (by assumption) ?r1_12
  case y1_12 => (intro w hSw; (try dsimp only at hSw); go_simp; try with_reducible rfl)
  (try simp only [Act.put, List.getElem_toArray, List.getElem_cons_zero, List.getElem_cons_succ, List.setIfInBounds_toArray, List.set_cons_zero, List.set_cons_succ])
  refine wpAnyH_take (i := 12) (v := ?v1_13) rfl (by kernel_rfl) (by kernel_rfl) (by kernel_rfl) (fun _ _ _ h => h) (Or.inl ⟨by rfl, ?y1_13⟩) (by assumption) ?r1_13
  case y1_13 => (intro w hSw; (try dsimp only at hSw); go_simp; try with_reducible rfl)
  (try simp only [Act.put, List.getElem_toArray, List.getElem_cons_zero, List.getElem_cons_succ, List.setIfInBounds_toArray, List.set_cons_zero, List.set_cons_succ])
  refine wpAnyH_done (by kernel_rfl) ?_ _
  refine NoPanic.normal ?_
  have d0 := kd.cell0 c0
  have d1 := kd.cell0 c1
  have d2 := kd.cell0 c2
  have d3 := kd.cell0 c3
  have HK1 := Lib.hid (kA.trans kd)
  clear c0 c1 c2 c3 hHeld kd kA k1
  go_wp2_with fail
  refine wp_region_noPanic ?_
  refine wp_region_held_drew (S := (fun w' => w'.cell? ⟨w.heap.size, 0, none⟩ = some (B32 s) ∧ w'.cell? ⟨w.heap.size, 1, none⟩ = some (.int .i64 nK) ∧ w'.cell? ⟨w.heap.size, 2, none⟩ = some (.int .i64 P) ∧ w'.cell? ⟨w.heap.size, 3, none⟩ = some (.int .i64 z))) (by kernel_rfl) ⟨d0, d1, d2, d3⟩ (fun hHeld => ?_)
  have HI1 := Lib.hid (HI.out.keepsNil (HK1.out.drew))
  have kd : Keeps [] w1 w1.drew := (Keeps.refl [] w1).drew
  refine wpAnyH_take (i := 0) (v := ?v2_14) rfl (by kernel_rfl) (by kernel_rfl) (by kernel_rfl) (fun _ _ _ h => h) (Or.inl ⟨by rfl, ?y2_14⟩) (by assumption) ?r2_14
  case y2_14 => (intro w hSw; (try dsimp only at hSw); go_simp; try with_reducible rfl)
  (try simp only [Act.put, List.getElem_toArray, List.getElem_cons_zero, List.getElem_cons_succ, List.setIfInBounds_toArray, List.set_cons_zero, List.set_cons_succ])
  refine wpAnyH_take (i := 1) (v := ?v2_15) rfl (by kernel_rfl) (by kernel_rfl) (by kernel_rfl) (fun _ _ _ h => h) (Or.inl ⟨by rfl, ?y2_15⟩) (by assumption) ?r2_15
  case y2_15 => (intro w hSw; (try dsimp only at hSw); go_simp; try with_reducible rfl)
  (try simp only [Act.put, List.getElem_toArray, List.getElem_cons_zero, List.getElem_cons_succ, List.setIfInBounds_toArray, List.set_cons_zero, List.set_cons_succ])
  refine wpAnyH_ready (rs := [2]) (by kernel_rfl) (by simp) ?_
  refine AllReadyH.cons rfl (fun K hK => ?_) AllReadyH.nil
  go_simp
  have hcl : Calls Tryz.prog 38 #[.slice a img.length c] w1.drew (ClonePost w1.drew img) := by
    obtain ⟨a', c', e1, _, _, r3, r4⟩ := HI1.out
    simp only [Value.slice.injEq] at e1
    obtain ⟨rfl, _, rfl⟩ := e1
    exact clone_calls a img.length c img r3 rfl (by omega) (fun h => (r4 h).1)
  refine hcl.mono ?_
  rintro e w2 ⟨v2, rfl, hO2, k2⟩
  replace kd := kd.trans k2
  have hwk : w.heap.size ≤ w1.drew.heap.size := HK1.out.size
  have HR2 := Lib.hid (hO2.rda hwk)
  obtain ⟨a2, b2, rfl, _⟩ := hO2.rds
  clear hO2
  go_wp2_with fail
  refine hK.out _ _ ?s2_16 (fun hHeld => ?_)
  case s2_16 => ((try dsimp only) <;> (first | exact ⟨kd.cell0 d0, kd.cell0 d1, kd.cell0 d2, kd.cell0 d3⟩))
  clear hK K
  (try simp only [Act.put, List.getElem_toArray, List.getElem_cons_zero, List.getElem_cons_succ, List.setIfInBounds_toArray, List.set_cons_zero, List.set_cons_succ])
  refine wpAnyH_take (i := 3) (v := ?v2_17) rfl (by kernel_rfl) (by kernel_rfl) (by kernel_rfl) (fun _ _ _ h => h) (Or.inl ⟨by rfl, ?y2_17⟩) (by assumption) ?r2_17
  case y2_17 => (intro w hSw; (try dsimp only at hSw); go_simp; try with_reducible rfl)
  (try simp only [Act.put, List.getElem_toArray, List.getElem_cons_zero, List.getElem_cons_succ, List.setIfInBounds_toArray, List.set_cons_zero, List.set_cons_succ])
  refine wpAnyH_ready (rs := [4]) (by kernel_rfl) (by simp) ?_
  refine AllReadyH.cons rfl (fun K hK => ?_) AllReadyH.nil
  go_simp
  have kN : Keeps [] w2 (w2.alloc (.cells #[B32 s, .int .i64 nK, .int .i64 P, .int .i64 z, .slice a2 img.length b2, .int .u32 0, .int .i32 0, .int .u32 0, .slice none 0 0] 129)) := (Keeps.refl [] w2).alloc _
  have kd2 := kd.trans kN
  refine hK.out _ _ ?s2_18 (fun hHeld => ?_)
  case s2_18 => ((try dsimp only) <;> (first | exact ⟨kd2.cell0 d0, kd2.cell0 d1, kd2.cell0 d2, kd2.cell0 d3⟩))
  clear hK K
  (try simp only [Act.put, List.getElem_toArray, List.getElem_cons_zero, List.getElem_cons_succ, List.setIfInBounds_toArray, List.set_cons_zero, List.set_cons_succ])
  refine wpAnyH_take (i := 5) (v := ?v2_19) rfl (by kernel_rfl) (by kernel_rfl) (by kernel_rfl) (fun _ _ _ h => h) (Or.inl ⟨by rfl, ?y2_19⟩) (by assumption) ?r2_19
  case y2_19 => (intro w hSw; (try dsimp only at hSw); go_simp; try with_reducible rfl)
  (try simp only [Act.put, List.getElem_toArray, List.getElem_cons_zero, List.getElem_cons_succ, List.setIfInBounds_toArray, List.set_cons_zero, List.set_cons_succ])
  refine wpAnyH_done (by kernel_rfl) ?_ _
  refine NoPanic.normal ?_
  go_wp2_with fail
  go_ret
  have hs2 := (HK1.out.trans kd).size
  exact ⟨w2.heap.size, rfl, hs2, ⟨hf, hs2, _, 0, _, Blk.newA w2 129 #[B32 s, .int .i64 nK, .int .i64 P, .int .i64 z, .slice a2 img.length b2, .int .u32 0, .int .i32 0, .int .u32 0, .slice none 0 0], HR2.out.keepsNil kN, .inl ⟨rfl, rfl⟩⟩, (HK1.out.trans kd).trans kN⟩

end Go.Proofs.YtijhaeapoapgfaaGreatDoor

set_option linter.unusedVariables false
set_option linter.unusedSimpArgs false
namespace Go.Proofs.YtijhaeapoapgfaaGreatDoor
open Go.RowKit
attribute [local go_sem ↓] Go.wp_at_zero Go.wp_at_succ

theorem pieces_len (s : UInt32) (nK P z : Nat) (img : List UInt8) : (pieces s nK P z img).length = nK + P := by unfold pieces; rw [ball_len, bsplit_len]
theorem pieces_each {s : UInt32} {nK P z : Nat} {img : List UInt8} (h : img.length ≤ nK * z) : ∀ x ∈ pieces s nK P z img, x.length = z := ball_each (bsplit_each h (Nat.le_refl _))

def SymPost (w : World) (Q : Nat → Prop) (p : Nat) (s : UInt32) (nK P z : Nat) (img : List UInt8) (id : UInt32) (e : Ending) (w' : World) : Prop :=
  ∃ g, e = .returned (.slice (some ⟨g, 0, none⟩) z z) ∧ w.heap.size ≤ g ∧ Blk w' g 5 ((symb s nK P z img id).map B8) ∧ Hd w' (fun x => Q x ∨ w.heap.size ≤ x) p s nK P z img ∧ Keeps [p] w w'

theorem symb_each {s : UInt32} {nK P z : Nat} {img : List UInt8} {id : UInt32} (h1 : 1 ≤ nK) (h2 : nK + P ≤ 256) (h : img.length ≤ nK * z) : ∀ x ∈ (rowL s nK P id).map (fun i => (pieces s nK P z img).getD i []), x.length = z := by
  intro x hx
  obtain ⟨i, hi, rfl⟩ := List.mem_map.1 hx
  have hb := (rowL_rising s nK P id h1 h2).2.1 i hi
  rw [List.getD_eq_getElem?_getD, List.getElem?_eq_getElem (by rw [pieces_len]; exact hb)]
  exact pieces_each h _ (List.getElem_mem _)
theorem symb_len {s : UInt32} {nK P z : Nat} {img : List UInt8} {id : UInt32} (h1 : 1 ≤ nK) (h2 : nK + P ≤ 256) (h : img.length ≤ nK * z) : (symb s nK P z img id).length = z := bsum_len (zer_len _) (symb_each h1 h2 h)

set_option maxRecDepth 100000 in
set_option maxHeartbeats 1600000 in
theorem hdsymbol_calls {w : World} {p : Nat} {s : UInt32} {nK P z : Nat} {img : List UInt8} {Q : Nat → Prop} (h : Hd w Q p s nK P z img) (id : UInt32) :
    Calls Tryz.prog 34 #[.pointer (some ⟨p, 0, none⟩), B32 id] w (SymPost w Q p s nK P z img id) := by
  have hG := hdpieces_calls h
  have hAl := pieces_len s nK P z img
  obtain ⟨f1, f2, f3, f4, f5, f6, f7, f8⟩ := h.fits
  have hk80 : nK + P ≤ 80 := by omega
  have hse := symb_each (s := s) (P := P) (img := img) (z := z) (id := id) f1 (by omega) f8
  have hsl := symb_len (s := s) (P := P) (img := img) (z := z) (id := id) f1 (by omega) f8
  have hsd : symb s nK P z img id = bsum z ((rowL s nK P id).map fun i => (pieces s nK P z img).getD i []) := rfl
  obtain ⟨hr1, hr2, hr3, hr4⟩ := rowL_rising s nK P id f1 (by omega)
  have hR := fun w => row_calls (w := w) s nK P z f1 f2 f3 f4 f5 id
  have hbits := rowN_bits s nK P id f1 (by omega)
  go_enter Tryz.func34, Tryz.ntmps34
  go_wp2_with fail
  refine hG.mono ?_
  rintro e w1 ⟨v, rfl, hRd, hH, hK1, _⟩
  clear hG h
  have HR := Lib.hid hRd
  have HH := Lib.hid hH
  have HK1 := Lib.hid hK1
  obtain ⟨a, c, rfl, _⟩ := hRd
  obtain ⟨_, _, vi, d, vl, hb, _⟩ := hH
  have c0 := hb.cell' (i := 0) rfl
  have c1 := hb.cell' (i := 1) rfl
  have c2 := hb.cell' (i := 2) rfl
  have c3 := hb.cell' (i := 3) rfl
  generalize hYq : symb s nK P z img id = Y at *
  have HYq := Lib.hid hYq
  clear hYq
  generalize pieces s nK P z img = A at *
  generalize rowN s nK P id = X at *
  generalize rowL s nK P id = R at *
  have Hse := Lib.hid hse
  have Hsl := Lib.hid hsl
  have Hsd := Lib.hid hsd
  have Hr2 := Lib.hid hr2
  have HRow := Lib.hid hR
  have Hbits := Lib.hid hbits
  have HAl := Lib.hid hAl
  clear hse hsl hsd hr1 hr2 hR hbits hAl f7 f8 hK1 hb
  go_wp2_with fail
  refine (HRow.out _).mono ?_
  rintro e w2 ⟨vp, vg, rfl, _, _, hV, k2⟩
  clear c0 c1 c2 c3
  go_wp2_with fail
  refine (vlist_calls hV).mono ?_
  rintro e w3 ⟨v3, rfl, hO3, k3⟩
  rw [Hbits.out] at hO3
  obtain ⟨ar, cr, rfl, i1, i2, i3⟩ := hO3.ints
  have Hrow := Lib.hid i3
  have HK3 := Lib.hid (k2.trans k3)
  clear hO3 i3 hV k2 k3
  go_wp2_with fail
  go_loopw [6, 21] (fun o i wr => ∃ k : Nat, k ≤ R.length ∧ i = .int .i64 k ∧ Pcs wr w3.heap.size o ((R.take k).map fun i => A.getD i []) ∧ Keeps [] w3 wr) (fun _ i _ => R.length - (intOf i).toNat)
  case atStart => exact ⟨0, Nat.zero_le _, rfl, Pcs.nil _ _, Keeps.refl _ _⟩
  case round =>
    obtain ⟨k, hk, rfl, hP, hK⟩ := hrel
    by_cases hlt : k < R.length
    · obtain ⟨g1, rfl, _, hcr⟩ := Hrow.out k hlt
      have hcr' := hK.cell0 hcr
      have hxm : R.getD k 0 ∈ R := by rw [List.getD_eq_getElem?_getD, List.getElem?_eq_getElem hlt]; exact List.getElem_mem hlt
      have hxb := Hr2.out _ hxm
      have hsn : (R.take (k + 1)).map (fun i => A.getD i []) = (R.take k).map (fun i => A.getD i []) ++ [A.getD (R.getD k 0) []] := by
        rw [List.take_add_one, List.getElem?_eq_getElem hlt, List.map_append, List.getD_eq_getElem?_getD (l := R), List.getElem?_eq_getElem hlt]; rfl
      have htl : ((R.take k).map fun i => A.getD i []).length = k := by rw [List.length_map, List.length_take]; omega
      generalize R.getD k 0 = x at *
      have hxA : x < A.length := by have := HAl.out; omega
      obtain ⟨a', c', ea, _, _, hrd, _⟩ := (HR.out.keepsNil HK3.out).keepsNil hK
      simp only [Value.slice.injEq] at ea
      obtain ⟨rfl, _, rfl⟩ := ea
      obtain ⟨g0, u, rfl, hc0, hru⟩ := hrd x (A.getD x []) (by rw [List.getD_eq_getElem?_getD, List.getElem?_eq_getElem hxA]; rfl)
      generalize A.getD x [] = b at *
      generalize (R.take k).map (fun i => A.getD i []) = Lk at *
      obtain ⟨ab, cb, rfl, b1, b2, b3, b4, b5⟩ := hru
      have HU := Lib.hid (show RdS wr (.slice ab b.length cb) b from ⟨ab, cb, rfl, b1, b2, b3, b4, b5⟩)
      have HP := Lib.hid hP
      have HK := Lib.hid hK
      have Hsn := Lib.hid hsn
      have HKW := Lib.hid (Keeps.refl [] wr)
      have hkn : (k : Int) < (R.length : Int) := by omega
      have hxi : (x : Int) < (A.length : Int) := by omega
      clear hrd b3 b4 b5 hP hK hsn hcr
      obtain ⟨vs, hO, hvl, hve⟩ := HP.out
      have kB : Keeps [] wr (wr.alloc (.cells #[.slice ab b.length cb] 22)) := (Keeps.refl [] wr).alloc _
      have HUB := Lib.hid ((show RdS wr (.slice ab b.length cb) (b) from HU.out).keepsNil kB)
      have HOw := Lib.hid (hO.keeps (HKW.out.trans kB) (by simp))
      have Hve2 := Lib.hid (fun (i : Nat) (x : List UInt8) (hx : (Lk)[i]? = some x) => by obtain ⟨u, hu, hr⟩ := hve i x hx; exact (⟨u, hu, hr.keepsNil (HKW.out.trans kB)⟩ : ∃ u, vs[i]? = some u ∧ RdS (wr.alloc (.cells #[.slice ab b.length cb] 22)) u x))
      have HX := Lib.hid (show (wr.alloc (.cells #[.slice ab b.length cb] 22)).cell? ⟨wr.heap.size, 0, none⟩ = some (.slice ab b.length cb) from (Blk.newA wr 22 #[.slice ab b.length cb]).cell' rfl)
      have hB : w3.heap.size ≤ (wr.alloc (.cells #[.slice ab b.length cb] 22)).heap.size := by have := HK.out.size; have := HKW.out.size; simp; omega
      have hvl6 : vs.length ≤ 1000000 := by omega
      have HK2 := Lib.hid ((HK.out.trans HKW.out).trans kB)
      have Hvl := Lib.hid hvl
      clear hO hve kB hvl
      go_wp2_with (at_builtin; (refine wpList_append_bs rfl (.tmp 25) (.tmp 30) rfl HOw.out rfl (.slice ab b.length cb) rfl _ 0 1 rfl HX.out hvl6 hB ?_); intro v3 w3 g1 g2 g3)
      go_roundw
      case rel =>
        refine ⟨k + 1, by omega, by go_num, ?_, HK2.out.grown g2 (fun x hx => .inr (HOw.out.block hx).1)⟩
        rw [Hsn.out]
        exact Pcs.snoc HOw.out Hvl.out Hve2.out HUB.out g1 g2
      case measure => simp [intOf]; omega
    · obtain rfl : k = R.length := by omega
      rw [List.take_length] at hP
      have HRL := Lib.hid hP.rdl
      obtain ⟨asl, csl, rfl, _⟩ := hP.rdl
      have HKr := Lib.hid hK
      have hs1 := HK1.out.size
      have hs3 := (HK3.out.trans hK).size
      have HS := Lib.hid (bsum_calls HRL.out z f5 f4 Hse.out (by rw [List.length_map]; omega) (by rw [List.length_map]; omega))
      have HE := Lib.hid (show (R.map fun i => A.getD i []).length = (R.map fun i => A.getD i []).length from rfl)
      clear hP hK
      generalize (R.map fun i => A.getD i []) = Q at *
      go_wp2_with fail
      refine HS.out.mono ?_
      rintro e w5 ⟨g, rfl, hg, hG, k5⟩
      rw [← Hsd.out] at hG ⊢
      have HG := Lib.hid hG
      clear hG
      go_wp2_with fail
      go_ret
      exact ⟨g, by rw [Hsl.out]; rfl, by omega, by rw [HYq.out]; exact HG.out, ((HH.out.keepsNil HK3.out).keepsNil HKr.out).keepsNil k5, HK1.out.trans' ((HK3.out.trans HKr.out).trans k5) (fun _ h => .inl h) (by simp)⟩

end Go.Proofs.YtijhaeapoapgfaaGreatDoor
