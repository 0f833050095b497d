/-
  GrCd: the texts Cd1, Cd2, Cd3, Cd4, one behind another.
-/
import Derived.Test.YtijhaeapoapgfaaGreatDoorPre2
import Derived.Test.YtijhaeapoapgfaaGreatDoorGrBk
set_option linter.unusedVariables false
set_option linter.unusedSimpArgs false
namespace Go.Proofs.YtijhaeapoapgfaaGreatDoor
open Go.RowKit
attribute [local go_sem ↓] Go.wp_at_zero Go.wp_at_succ

/-- An image that fits its parameters. -/
structure Fits (K P z : Nat) (img : List UInt8) : Prop where
  k1 : 1 ≤ K
  k2 : K ≤ 64
  p2 : P ≤ 16
  z1 : 1 ≤ z
  z2 : z ≤ 16
  l : img.length ≤ 512
  c : bcount img.length z = K
  f : img.length ≤ K * z

def HdL (s : UInt32) (K P z : Nat) (vi x1 x2 x3 v : Value) : List Value := [B32 s, .int .i64 K, .int .i64 P, .int .i64 z, vi, x1, x2, x3, v]

/-- .. and what is done to blocks of other types makes no difference. -/
theorem Pcs.keepsP {S : List Nat} {w w' : World} {B : Nat} {v : Value} {L : List (List UInt8)} (h : Pcs w B v L) (k : Keeps S w w') (hS : ∀ x, x ∈ S → ∃ t cs, Blk w x t cs ∧ 5 ≠ t ∧ 22 ≠ t) : Pcs w' B v L := by
  obtain ⟨vs, hO, hl, he⟩ := h
  refine ⟨vs, ⟨hO.1, ?_⟩, hl, fun i x hx => ?_⟩
  · rcases hO.2 with ⟨rfl, h0⟩ | ⟨g, cap, cur, rfl, hb, hg, hn, hm, hs, ht⟩
    · exact .inl ⟨rfl, h0⟩
    · refine .inr ⟨g, cap, cur, rfl, hb, (k.block g (Array.getElem?_eq_some_iff.1 hg).1 (fun hm => ?_)).trans hg, hn, hm, hs, ht⟩
      obtain ⟨t, cs, h1, h2, h3⟩ := hS g hm
      obtain ⟨_, _, cs', hb'⟩ := (show OwnX 22 w B (.slice (some ⟨g, 0, none⟩) vs.length cap) vs from hO).block (x := g) rfl
      exact hb'.ne h1 h3 rfl
  · obtain ⟨u, hu, a, c, rfl, r1, r2, r3, r4, r5⟩ := he i x hx
    have hne : ∀ y, a = some y → x ≠ [] → y.block ∉ S := fun y hy hx' hm => by
      obtain ⟨t, cs, h1, h2, h3⟩ := hS y.block hm
      obtain ⟨cs', hb'⟩ := r5 y hy hx'
      exact hb'.ne h1 h2 rfl
    exact ⟨_, hu, a, c, rfl, r1, r2, r3.keeps k hne, r4, fun y hy hx' => by obtain ⟨cs', hb'⟩ := r5 y hy hx'; exact ⟨cs', hb'.keeps k (hne y hy hx')⟩⟩
theorem PcsA.keepsP {S : List Nat} {w w' : World} {B : Nat} {Q : Nat → Prop} {v : Value} {L : List (List UInt8)} (h : PcsA w B Q v L) (k : Keeps S w w') (hS : ∀ x, x ∈ S → ∃ t cs, Blk w x t cs ∧ 5 ≠ t ∧ 22 ≠ t) : PcsA w' B Q v L := by
  obtain ⟨vs, hO, hl, he⟩ := h
  refine ⟨vs, ⟨hO.1, ?_⟩, hl, fun i x hx => ?_⟩
  · rcases hO.2 with ⟨rfl, h0⟩ | ⟨g, cap, cur, rfl, hb, hg, hn, hm, hs, ht⟩
    · exact .inl ⟨rfl, h0⟩
    · refine .inr ⟨g, cap, cur, rfl, hb, (k.block g (Array.getElem?_eq_some_iff.1 hg).1 (fun hm => ?_)).trans hg, hn, hm, hs, ht⟩
      obtain ⟨t, cs, h1, h2, h3⟩ := hS g hm
      obtain ⟨_, _, cs', hb'⟩ := (show OwnX 22 w B (.slice (some ⟨g, 0, none⟩) vs.length cap) vs from hO).block (x := g) rfl
      exact hb'.ne h1 h3 rfl
  · obtain ⟨u, hu, ⟨a, c, rfl, r1, r2, r3, r4, r5⟩, hq⟩ := he i x hx
    have hne : ∀ y, a = some y → x ≠ [] → y.block ∉ S := fun y hy hx' hm => by
      obtain ⟨t, cs, h1, h2, h3⟩ := hS y.block hm
      obtain ⟨cs', hb'⟩ := r5 y hy hx'
      exact hb'.ne h1 h2 rfl
    exact ⟨_, hu, ⟨a, c, rfl, r1, r2, r3.keeps k hne, r4, fun y hy hx' => by obtain ⟨cs', hb'⟩ := r5 y hy hx'; exact ⟨cs', hb'.keeps k (hne y hy hx')⟩⟩, hq⟩
/-- What is done to other blocks makes no difference. -/
theorem RdS.keepsQ {S : List Nat} {w w' : World} {Q : Nat → Prop} {v : Value} {x : List UInt8} (h : RdS w v x) (hq : Up Q v) (k : Keeps S w w') (hS : ∀ x, x ∈ S → ¬ Q x) : RdS w' v x := by
  obtain ⟨a, c, rfl, r1, r2, r3, r4, r5⟩ := h
  have hne : ∀ y, a = some y → x ≠ [] → y.block ∉ S := fun y hy hx' hm => hS _ hm (hq y _ _ (by rw [hy]))
  exact ⟨a, c, rfl, r1, r2, r3.keeps k hne, r4, fun y hy hx' => by obtain ⟨cs', hb'⟩ := r5 y hy hx'; exact ⟨cs', hb'.keeps k (hne y hy hx')⟩⟩
theorem PcsA.keepsQ {S : List Nat} {w w' : World} {B : Nat} {Q : Nat → Prop} {v : Value} {L : List (List UInt8)} (h : PcsA w B Q v L) (hv : Up Q v) (k : Keeps S w w') (hS : ∀ x, x ∈ S → ¬ Q x) : PcsA w' B Q v L := by
  obtain ⟨vs, hO, hl, he⟩ := h
  refine ⟨vs, ⟨hO.1, ?_⟩, hl, fun i x hx => ?_⟩
  · rcases hO.2 with ⟨rfl, h0⟩ | ⟨g, cap, cur, rfl, hb, hg, hn, hm, hs, ht⟩
    · exact .inl ⟨rfl, h0⟩
    · exact .inr ⟨g, cap, cur, rfl, hb, (k.block g (Array.getElem?_eq_some_iff.1 hg).1 (fun hm => hS g hm (hv _ _ _ rfl))).trans hg, hn, hm, hs, ht⟩
  · obtain ⟨u, hu, hr, hq⟩ := he i x hx
    exact ⟨u, hu, hr.keepsQ hq k hS, hq⟩
theorem PcsA.up {w : World} {B : Nat} {Q : Nat → Prop} {v : Value} {L : List (List UInt8)} (h : PcsA w B Q v L) : Up (B ≤ ·) v := by
  obtain ⟨vs, hO, hl, he⟩ := h
  intro a n c e
  rcases hO.2 with ⟨rfl, h0⟩ | ⟨g, cap, cur, rfl, hb, _⟩
  · cases e
  · simp only [Value.slice.injEq, Option.some.injEq] at e
    rw [← e.1]; exact hb
theorem RdS.keepsP {S : List Nat} {w w' : World} {v : Value} {x : List UInt8} (h : RdS w v x) (k : Keeps S w w') (hS : ∀ x, x ∈ S → ∃ t cs, Blk w x t cs ∧ 5 ≠ t) : RdS w' v x := by
  obtain ⟨a, c, rfl, r1, r2, r3, r4, r5⟩ := h
  have hne : ∀ y, a = some y → x ≠ [] → y.block ∉ S := fun y hy hx' hm => by
    obtain ⟨t, cs, h1, h2⟩ := hS y.block hm
    obtain ⟨cs', hb'⟩ := r5 y hy hx'
    exact hb'.ne h1 h2 rfl
  exact ⟨a, c, rfl, r1, r2, r3.keeps k hne, r4, fun y hy hx' => by obtain ⟨cs', hb'⟩ := r5 y hy hx'; exact ⟨cs', hb'.keeps k (hne y hy hx')⟩⟩

theorem split_len {img : List UInt8} {K z : Nat} : (bsplit img K z K).length = K := bsplit_len _ _ _ _

set_option maxRecDepth 100000 in
set_option maxHeartbeats 2000000 in
theorem hdfn_calls {w : World} {p bx : Nat} {s : UInt32} {nK P z : Nat} {vi x1 x2 x3 : Value} {img : List UInt8} (hb : Blk w p 129 [B32 s, .int .i64 nK, .int .i64 P, .int .i64 z, vi, x1, x2, x3, .slice none 0 0]) (hi : RdS w vi img) (hf : Fits nK P z img)
    (hbx : w.cell? ⟨bx, 0, none⟩ = some (.pointer (some ⟨p, 0, none⟩))) (hne : bx ≠ p) :
    Calls Tryz.prog 120 (#[] ++ #[.pointer (some ⟨bx, 0, none⟩)]) w fun e w' => ∃ v, e = .returned (.tuple #[]) ∧ Blk w' p 129 [B32 s, .int .i64 nK, .int .i64 P, .int .i64 z, vi, x1, x2, x3, v] ∧ PcsA w' w.heap.size (w.heap.size ≤ ·) v (pieces s nK P z img) ∧ Keeps [p] w w' := by
  have c0 := hb.cell' (i := 0) rfl
  have c1 := hb.cell' (i := 1) rfl
  have c2 := hb.cell' (i := 2) rfl
  have c3 := hb.cell' (i := 3) rfl
  have c4 := hb.cell' (i := 4) rfl
  have hpl := hb.lt
  obtain ⟨f1, f2, f3, f4, f5, f6, f7, f8⟩ := hf
  have HC1 := Lib.hid (bsplit_calls (hi.keepsNil (Keeps.refl [] w).drew) nK z f6 f4 f5 f7 f1 f2 f8)
  have hsl := split_len (img := img) (K := nK) (z := z)
  have hse := bsplit_each (img := img) (K := nK) (size := z) (k := nK) f8 (Nat.le_refl _)
  have hpc : pieces s nK P z img = ball s z (bsplit img nK z nK) P := rfl
  generalize bsplit img nK z nK = L at *
  have HB := Lib.hid hb
  obtain ⟨ai, ci, rfl, _⟩ := id hi
  have Hpc := Lib.hid hpc
  have Hse := Lib.hid hse
  have Hsl := Lib.hid hsl
  clear hb hi f7 f8 hpc hse hsl
  go_enter Tryz.func120, Tryz.ntmps120
  go_wp2_with fail
  refine wp_region_noPanic ?_
  refine wp_region_held_drew (S := (fun w' => w'.cell? ⟨bx, 0, none⟩ = some (.pointer (some ⟨p, 0, none⟩)) ∧ w'.cell? ⟨p, 0, none⟩ = some (B32 s) ∧ w'.cell? ⟨p, 1, none⟩ = some (.int .i64 nK) ∧ w'.cell? ⟨p, 2, none⟩ = some (.int .i64 P) ∧ w'.cell? ⟨p, 3, none⟩ = some (.int .i64 z) ∧ w'.cell? ⟨p, 4, none⟩ = some (.slice ai img.length ci))) (by kernel_rfl) ⟨hbx, c0, c1, c2, c3, c4⟩ (fun hHeld => ?_)
  have kd : Keeps [] w w.drew := (Keeps.refl [] w).drew
  refine wpAnyH_take (i := 0) (v := ?v1_1) rfl (by kernel_rfl) (by kernel_rfl) (by kernel_rfl) (fun _ _ _ h => h) (Or.inl ⟨by rfl, ?y1_1⟩) (by assumption) ?r1_1
  case y1_1 => (intro w hSw; (try dsimp only at hSw); go_simp; try with_reducible rfl)
  (try simp only [Act.put, List.getElem_toArray, List.getElem_cons_zero, List.getElem_cons_succ, List.setIfInBounds_toArray, List.set_cons_zero, List.set_cons_succ])
  refine wpAnyH_take (i := 1) (v := ?v1_2) rfl (by kernel_rfl) (by kernel_rfl) (by kernel_rfl) (fun _ _ _ h => h) (Or.inl ⟨by rfl, ?y1_2⟩) (by assumption) ?r1_2
  case y1_2 => (intro w hSw; (try dsimp only at hSw); go_simp; try with_reducible rfl)
  (try simp only [Act.put, List.getElem_toArray, List.getElem_cons_zero, List.getElem_cons_succ, List.setIfInBounds_toArray, List.set_cons_zero, List.set_cons_succ])
  refine wpAnyH_take (i := 2) (v := ?v1_3) rfl (by kernel_rfl) (by kernel_rfl) (by kernel_rfl) (fun _ _ _ h => h) (Or.inl ⟨by rfl, ?y1_3⟩) (by assumption) ?r1_3
  case y1_3 => (intro w hSw; (try dsimp only at hSw); go_simp; try with_reducible rfl)
  (try simp only [Act.put, List.getElem_toArray, List.getElem_cons_zero, List.getElem_cons_succ, List.setIfInBounds_toArray, List.set_cons_zero, List.set_cons_succ])
  refine wpAnyH_take (i := 3) (v := ?v1_4) rfl (by kernel_rfl) (by kernel_rfl) (by kernel_rfl) (fun _ _ _ h => h) (Or.inl ⟨by rfl, ?y1_4⟩) (by assumption) ?r1_4
  case y1_4 => (intro w hSw; (try dsimp only at hSw); go_simp; try with_reducible rfl)
  (try simp only [Act.put, List.getElem_toArray, List.getElem_cons_zero, List.getElem_cons_succ, List.setIfInBounds_toArray, List.set_cons_zero, List.set_cons_succ])
  refine wpAnyH_take (i := 4) (v := ?v1_5) rfl (by kernel_rfl) (by kernel_rfl) (by kernel_rfl) (fun _ _ _ h => h) (Or.inl ⟨by rfl, ?y1_5⟩) (by assumption) ?r1_5
  case y1_5 => (intro w hSw; (try dsimp only at hSw); go_simp; try with_reducible rfl)
  (try simp only [Act.put, List.getElem_toArray, List.getElem_cons_zero, List.getElem_cons_succ, List.setIfInBounds_toArray, List.set_cons_zero, List.set_cons_succ])
  refine wpAnyH_take (i := 5) (v := ?v1_6) rfl (by kernel_rfl) (by kernel_rfl) (by kernel_rfl) (fun _ _ _ h => h) (Or.inl ⟨by rfl, ?y1_6⟩) (by assumption) ?r1_6
  case y1_6 => (intro w hSw; (try dsimp only at hSw); go_simp; try with_reducible rfl)
  (try simp only [Act.put, List.getElem_toArray, List.getElem_cons_zero, List.getElem_cons_succ, List.setIfInBounds_toArray, List.set_cons_zero, List.set_cons_succ])
  refine wpAnyH_take (i := 6) (v := ?v1_7) rfl (by kernel_rfl) (by kernel_rfl) (by kernel_rfl) (fun _ _ _ h => h) (Or.inl ⟨by rfl, ?y1_7⟩) (by assumption) ?r1_7
  case y1_7 => (intro w hSw; (try dsimp only at hSw); go_simp; try with_reducible rfl)
  (try simp only [Act.put, List.getElem_toArray, List.getElem_cons_zero, List.getElem_cons_succ, List.setIfInBounds_toArray, List.set_cons_zero, List.set_cons_succ])
  refine wpAnyH_take (i := 7) (v := ?v1_8) rfl (by kernel_rfl) (by kernel_rfl) (by kernel_rfl) (fun _ _ _ h => h) (Or.inl ⟨by rfl, ?y1_8⟩) (by assumption) ?r1_8
  case y1_8 => (intro w hSw; (try dsimp only at hSw); go_simp; try with_reducible rfl)
  (try simp only [Act.put, List.getElem_toArray, List.getElem_cons_zero, List.getElem_cons_succ, List.setIfInBounds_toArray, List.set_cons_zero, List.set_cons_succ])
  refine wpAnyH_take (i := 8) (v := ?v1_9) rfl (by kernel_rfl) (by kernel_rfl) (by kernel_rfl) (fun _ _ _ h => h) (Or.inl ⟨by rfl, ?y1_9⟩) (by assumption) ?r1_9
  case y1_9 => (intro w hSw; (try dsimp only at hSw); go_simp; try with_reducible rfl)
  (try simp only [Act.put, List.getElem_toArray, List.getElem_cons_zero, List.getElem_cons_succ, List.setIfInBounds_toArray, List.set_cons_zero, List.set_cons_succ])
  refine wpAnyH_take (i := 9) (v := ?v1_10) rfl (by kernel_rfl) (by kernel_rfl) (by kernel_rfl) (fun _ _ _ h => h) (Or.inl ⟨by rfl, ?y1_10⟩) (by assumption) ?r1_10
  case y1_10 => (intro w hSw; (try dsimp only at hSw); go_simp; try with_reducible rfl)
  (try simp only [Act.put, List.getElem_toArray, List.getElem_cons_zero, List.getElem_cons_succ, List.setIfInBounds_toArray, List.set_cons_zero, List.set_cons_succ])
  refine wpAnyH_take (i := 10) (v := ?v1_11) rfl (by kernel_rfl) (by kernel_rfl) (by kernel_rfl) (fun _ _ _ h => h) (Or.inl ⟨by rfl, ?y1_11⟩) (by assumption) ?r1_11
  case y1_11 => (intro w hSw; (try dsimp only at hSw); go_simp; try with_reducible rfl)
  (try simp only [Act.put, List.getElem_toArray, List.getElem_cons_zero, List.getElem_cons_succ, List.setIfInBounds_toArray, List.set_cons_zero, List.set_cons_succ])
  refine wpAnyH_take (i := 11) (v := ?v1_12) rfl (by kernel_rfl) (by kernel_rfl) (by kernel_rfl) (fun _ _ _ h => h) (Or.inl ⟨by rfl, ?y1_12⟩) (by assumption) ?r1_12
  case y1_12 => (intro w hSw; (try dsimp only at hSw); go_simp; try with_reducible rfl)
  (try simp only [Act.put, List.getElem_toArray, List.getElem_cons_zero, List.getElem_cons_succ, List.setIfInBounds_toArray, List.set_cons_zero, List.set_cons_succ])
  refine wpAnyH_take (i := 12) (v := ?v1_13) rfl (by kernel_rfl) (by kernel_rfl) (by kernel_rfl) (fun _ _ _ h => h) (Or.inl ⟨by rfl, ?y1_13⟩) (by assumption) ?r1_13
  case y1_13 => (intro w hSw; (try dsimp only at hSw); go_simp; try with_reducible rfl)
  (try simp only [Act.put, List.getElem_toArray, List.getElem_cons_zero, List.getElem_cons_succ, List.setIfInBounds_toArray, List.set_cons_zero, List.set_cons_succ])
  refine wpAnyH_take (i := 13) (v := ?v1_14) rfl (by kernel_rfl) (by kernel_rfl) (by kernel_rfl) (fun _ _ _ h => h) (Or.inl ⟨by rfl, ?y1_14⟩) (by assumption) ?r1_14
  case y1_14 => (intro w hSw; (try dsimp only at hSw); go_simp; try with_reducible rfl)
  (try simp only [Act.put, List.getElem_toArray, List.getElem_cons_zero, List.getElem_cons_succ, List.setIfInBounds_toArray, List.set_cons_zero, List.set_cons_succ])
  refine wpAnyH_ready (rs := [14]) (by kernel_rfl) (by simp) ?_
  refine AllReadyH.cons rfl (fun K hK => ?_) AllReadyH.nil
  go_simp
  refine HC1.out.mono ?_
  rintro e w1 ⟨v1, rfl, hP1, k1⟩
  replace kd := kd.trans k1
  have HC2 := Lib.hid (ppieces_calls hP1.rdl s nK P z f1 f2 f3 f4 f5 Hsl.out Hse.out)
  obtain ⟨a1, b1, rfl, _⟩ := hP1.rdl
  clear hP1
  go_wp2_with fail
  refine hK.out _ _ ?s1_15 (fun hHeld => ?_)
  case s1_15 => ((try dsimp only) <;> (first | exact ⟨kd.cell0 hbx, kd.cell0 c0, kd.cell0 c1, kd.cell0 c2, kd.cell0 c3, kd.cell0 c4⟩))
  clear hK K
  (try simp only [Act.put, List.getElem_toArray, List.getElem_cons_zero, List.getElem_cons_succ, List.setIfInBounds_toArray, List.set_cons_zero, List.set_cons_succ])
  refine wpAnyH_ready (rs := [15]) (by kernel_rfl) (by simp) ?_
  refine AllReadyH.cons rfl (fun K hK => ?_) AllReadyH.nil
  go_simp
  refine HC2.out.mono ?_
  rintro e w2 ⟨v2, rfl, hP2, k2⟩
  have hs1 := kd.size
  replace kd := kd.trans k2
  have HP2 := Lib.hid hP2
  obtain ⟨a2, b2, rfl, _⟩ := hP2.rdl
  clear hP2
  go_wp2_with fail
  refine hK.out _ _ ?s1_16 (fun hHeld => ?_)
  case s1_16 => ((try dsimp only) <;> (first | exact ⟨kd.cell0 hbx, kd.cell0 c0, kd.cell0 c1, kd.cell0 c2, kd.cell0 c3, kd.cell0 c4⟩))
  clear hK K
  (try simp only [Act.put, List.getElem_toArray, List.getElem_cons_zero, List.getElem_cons_succ, List.setIfInBounds_toArray, List.set_cons_zero, List.set_cons_succ])
  have hb2 := HB.out.keeps kd (by simp)
  have c8 := hb2.cell' (i := 8) rfl
  have f8 := hb2.frozen 8
  have hb3 := hb2.set 8 (.slice a2 (ball s z L P).length b2)
  have k3 : Keeps [p] w2 (w2.setCell ⟨p, 8, none⟩ (.slice a2 (ball s z L P).length b2)) := (Keeps.refl [p] w2).setCell (by simp) _
  have hp2 : ¬ p = bx := fun h => hne h.symm
  refine wpAnyH_take (i := 16) (v := ?v1_17) rfl (by kernel_rfl) (by kernel_rfl) (by kernel_rfl) (fun _ _ _ h => h) (Or.inl ⟨by rfl, ?y1_17⟩) (by assumption) ?r1_17
  case y1_17 => (intro w hSw; (try dsimp only at hSw); go_simp; try with_reducible rfl)
  (try simp only [Act.put, List.getElem_toArray, List.getElem_cons_zero, List.getElem_cons_succ, List.setIfInBounds_toArray, List.set_cons_zero, List.set_cons_succ])
  refine wpAnyH_take (i := 17) (v := ?v1_18) rfl (by kernel_rfl) (by kernel_rfl) (by kernel_rfl) (fun _ _ _ h => h) (Or.inl ⟨by rfl, ?y1_18⟩) (by assumption) ?r1_18
  case y1_18 => (intro w hSw; (try dsimp only at hSw); go_simp; try with_reducible rfl)
  (try simp only [Act.put, List.getElem_toArray, List.getElem_cons_zero, List.getElem_cons_succ, List.setIfInBounds_toArray, List.set_cons_zero, List.set_cons_succ])
  refine wpAnyH_ready (rs := [18]) (by kernel_rfl) (by simp) ?_
  refine AllReadyH.cons rfl (fun K hK => ?_) AllReadyH.nil
  go_simp
  have q1 := World.cell?_setCell_other w2 ⟨p, 8, none⟩ ⟨bx, 0, none⟩ (.slice a2 (ball s z L P).length b2) (fun h => hp2 (congrArg Addr.block h))
  refine hK.out _ _ ?s1_19 (fun hHeld => ?_)
  case s1_19 => ((try dsimp only) <;> (first | exact ⟨q1.trans (kd.cell0 hbx), hb3.cell' (i := 0) rfl, hb3.cell' (i := 1) rfl, hb3.cell' (i := 2) rfl, hb3.cell' (i := 3) rfl, hb3.cell' (i := 4) rfl⟩))
  clear hK K
  (try simp only [Act.put, List.getElem_toArray, List.getElem_cons_zero, List.getElem_cons_succ, List.setIfInBounds_toArray, List.set_cons_zero, List.set_cons_succ])
  refine wpAnyH_done (by kernel_rfl) ?_ _
  refine NoPanic.normal ?_
  go_wp2_with fail
  go_end0
  have hsz2 : w.heap.size ≤ w1.heap.size := hs1
  refine ⟨_, rfl, hb3, ?_, kd.nil.trans k3⟩
  rw [Hpc.out]
  exact (HP2.out.mono hsz2 (fun x hx => Nat.le_trans hsz2 hx)).keepsP k3 (fun x hx => by simp only [List.mem_singleton] at hx; subst hx; exact ⟨_, _, hb2, by decide, by decide⟩)

end Go.Proofs.YtijhaeapoapgfaaGreatDoor

set_option linter.unusedVariables false
set_option linter.unusedSimpArgs false
namespace Go.Proofs.YtijhaeapoapgfaaGreatDoor
open Go.RowKit
attribute [local go_sem ↓] Go.wp_at_zero Go.wp_at_succ

def HdPost (w : World) (p : Nat) (s : UInt32) (nK P z : Nat) (vi : Value) (img : List UInt8) (e : Ending) (w' : World) : Prop :=
  ∃ v, e = .returned (.tuple #[]) ∧ Blk w' p 129 [B32 s, .int .i64 nK, .int .i64 P, .int .i64 z, vi, .int .u32 1, .int .i32 0, .int .u32 0, v] ∧ PcsA w' w.heap.size (w.heap.size ≤ ·) v (pieces s nK P z img) ∧ Keeps [p] w w'

set_option maxRecDepth 100000 in
set_option maxHeartbeats 1600000 in
theorem hdslow_calls {w : World} {p bx : Nat} {s : UInt32} {nK P z : Nat} {vi : Value} {img : List UInt8} (hb : Blk w p 129 [B32 s, .int .i64 nK, .int .i64 P, .int .i64 z, vi, .int .u32 0, .int .i32 0, .int .u32 0, .slice none 0 0]) (hi : RdS w vi img) (hf : Fits nK P z img)
    (hbx : w.cell? ⟨bx, 0, none⟩ = some (.pointer (some ⟨p, 0, none⟩))) (hne : bx ≠ p) :
    Calls Tryz.prog 147 #[.pointer (some ⟨p, 5, none⟩), .func (.func 120) #[] #[.pointer (some ⟨bx, 0, none⟩)]] w (HdPost w p s nK P z vi img) := by
  have hb1 := hb.set 6 (.int .i32 1)
  have kp : Keeps [p] w (w.setCell ⟨p, 6, none⟩ (.int .i32 1)) := (Keeps.refl [p] w).setCell (by simp) _
  have hS : ∀ x, x ∈ [p] → ∃ t cs, Blk w x t cs ∧ 5 ≠ t := fun x hx => by simp only [List.mem_singleton] at hx; subst hx; exact ⟨_, _, hb, by decide⟩
  have hbx1 := World.cell?_setCell_other w ⟨p, 6, none⟩ ⟨bx, 0, none⟩ (.int .i32 1) (fun h => hne (congrArg Addr.block h).symm)
  have hF := hdfn_calls hb1 (hi.keepsP kp hS) hf (hbx1.trans hbx) hne
  have hsz : (w.setCell ⟨p, 6, none⟩ (.int .i32 1)).heap.size = w.heap.size := by simp [World.setCell]
  have hpl := hb.lt
  have hl := run_call_load (P := Tryz.prog) Tryz.func179 (by kernel_rfl) (by kernel_rfl) (by kernel_rfl) .u32 (by kernel_rfl) (w := w.setCell ⟨p, 6, none⟩ (.int .i32 1)) (a := ⟨p, 5, none⟩) (x := 0) (hb1.cell' (i := 5) rfl)
  have hnot : ∀ (x : Bool) (w : World), (Op.unary .not (.bool x)).run Tryz.prog w = .ok (.bool (!x)) w := fun _ _ => rfl
  have c2 := hb.cell' (i := 6) rfl
  have f2 := hb.frozen 6
  clear hbx hbx1 hi
  go_enter_defers Tryz.func147, Tryz.ntmps147
  go_wp2_with (first | (go_at_call 180; refine (lock_free ⟨p, 6, none⟩ _ c2 f2).mono ?_; rintro e w' ⟨rfl, rfl⟩) | (go_at_call 146; go_in) | (go_at_call 120; refine hF.mono ?_; rintro e w2 ⟨v, rfl, hb2, hO, hK⟩))
  have b3 := hb2.drew.set 5 (.int .u32 1)
  have b4 := b3.set 6 (.int .i32 0)
  have k3 : Keeps [p] w2 (w2.drew.setCell ⟨p, 5, none⟩ (.int .u32 1)) := ((Keeps.refl [p] w2).drew).setCell (by simp) _
  have k4 : Keeps [p] w2 ((w2.drew.setCell ⟨p, 5, none⟩ (.int .u32 1)).setCell ⟨p, 6, none⟩ (.int .i32 0)) := k3.setCell (by simp) _
  have o4 := hO.keepsP k4 (fun x hx => by simp only [List.mem_singleton] at hx; subst hx; exact ⟨_, _, hb2, by decide, by decide⟩)
  go_wp2
  refine leaves_cons (f := 182) (args := #[.pointer (some ⟨p, 5, none⟩), .bool true]) (by simp) (by simp [go_sem]) ?_
  refine (store_deferred ⟨p, 5, none⟩ (.int .u32 0) .returning _ (hb2.cell' (i := 5) rfl) (hb2.frozen 5)).mono ?_
  rintro e u' w'' ⟨rfl, rfl, rfl⟩
  refine leaves_cons (f := 181) (args := #[.pointer (some ⟨p, 6, none⟩)]) (by simp [settle]) (by simp [go_sem]) ?_
  refine (unlock_deferred ⟨p, 6, none⟩ _ _ (b3.cell' (i := 6) rfl) (b3.frozen 6)).mono ?_
  rintro e u' w'' ⟨rfl, rfl, rfl⟩
  simp [Leaves, settle, results, Tryz.results147]
  exact ⟨v, rfl, b4, o4.mono (by omega) (fun x hx => by omega), (kp.trans hK).trans k4⟩

set_option maxRecDepth 100000 in
set_option maxHeartbeats 1600000 in
theorem hdonce_calls {w : World} {p bx : Nat} {s : UInt32} {nK P z : Nat} {vi : Value} {img : List UInt8} (hb : Blk w p 129 [B32 s, .int .i64 nK, .int .i64 P, .int .i64 z, vi, .int .u32 0, .int .i32 0, .int .u32 0, .slice none 0 0]) (hi : RdS w vi img) (hf : Fits nK P z img)
    (hbx : w.cell? ⟨bx, 0, none⟩ = some (.pointer (some ⟨p, 0, none⟩))) (hne : bx ≠ p) :
    Calls Tryz.prog 100 #[.pointer (some ⟨p, 5, none⟩), .func (.func 120) #[] #[.pointer (some ⟨bx, 0, none⟩)]] w (HdPost w p s nK P z vi img) := by
  have hS := hdslow_calls hb hi hf hbx hne
  have c1 := hb.cell' (i := 5) rfl
  have hl := run_call_load (P := Tryz.prog) Tryz.func179 (by kernel_rfl) (by kernel_rfl) (by kernel_rfl) .u32 (by kernel_rfl) c1
  have hnot : ∀ (x : Bool) (w : World), (Op.unary .not (.bool x)).run Tryz.prog w = .ok (.bool (!x)) w := fun _ _ => rfl
  clear hi hbx
  go_enter Tryz.func100, Tryz.ntmps100
  go_wp2_with (first | (go_at_call 147; refine hS.mono ?_; rintro e w2 ⟨v, rfl, hb2, hO, hK⟩) | (go_at_call 146; go_in))
  go_end0
  exact ⟨v, rfl, hb2, hO, hK⟩

theorem oncedone_calls (a : Addr) (fv : Value) (w : World) (h0 : w.cell? a = some (.int .u32 1)) :
    Calls Tryz.prog 100 #[.pointer (some a), fv] w fun e w' => e = .returned (.tuple #[]) ∧ w' = w := by
  have hl := run_call_load (P := Tryz.prog) Tryz.func179 (by kernel_rfl) (by kernel_rfl) (by kernel_rfl) .u32 (by kernel_rfl) h0
  have hnot : ∀ (x : Bool) (w : World), (Op.unary .not (.bool x)).run Tryz.prog w = .ok (.bool (!x)) w := fun _ _ => rfl
  go_enter Tryz.func100, Tryz.ntmps100
  go_wp2_with (go_at_call 146; go_in)
  go_end0
  exact ⟨rfl, rfl⟩

/-- A head of an image: its pieces made, or not yet; all its blocks meet Q. -/
structure Hd (w : World) (Q : Nat → Prop) (p : Nat) (s : UInt32) (nK P z : Nat) (img : List UInt8) : Prop where
  fits : Fits nK P z img
  q : Q p
  b : ∃ vi d v, Blk w p 129 [B32 s, .int .i64 nK, .int .i64 P, .int .i64 z, vi, .int .u32 d, .int .i32 0, .int .u32 0, v] ∧ RdA Q w vi img ∧ ((d = 0 ∧ v = .slice none 0 0) ∨ (d = 1 ∧ PcsA w 0 Q v (pieces s nK P z img) ∧ Up Q v))

theorem Hd.keeps {S : List Nat} {w w' : World} {Q : Nat → Prop} {p : Nat} {s : UInt32} {nK P z : Nat} {img : List UInt8} (h : Hd w Q p s nK P z img) (k : Keeps S w w') (hS : ∀ x, x ∈ S → ¬ Q x) : Hd w' Q p s nK P z img := by
  obtain ⟨hf, hq, vi, d, v, hb, hi, hv⟩ := h
  refine ⟨hf, hq, vi, d, v, hb.keeps k (fun hp => hS p hp hq), ⟨hi.1.keepsQ hi.2 k hS, hi.2⟩, ?_⟩
  rcases hv with hv | ⟨hd, hv, hu⟩
  · exact .inl hv
  · exact .inr ⟨hd, hv.keepsQ hu k hS, hu⟩
theorem Hd.keepsNil {w w' : World} {Q : Nat → Prop} {p : Nat} {s : UInt32} {nK P z : Nat} {img : List UInt8} (h : Hd w Q p s nK P z img) (k : Keeps [] w w') : Hd w' Q p s nK P z img := h.keeps k (by simp)
theorem Hd.mono {w : World} {Q Q' : Nat → Prop} {p : Nat} {s : UInt32} {nK P z : Nat} {img : List UInt8} (h : Hd w Q p s nK P z img) (hQ : ∀ x, Q x → Q' x) : Hd w Q' p s nK P z img := by
  obtain ⟨hf, hq, vi, d, v, hb, hi, hv⟩ := h
  refine ⟨hf, hQ _ hq, vi, d, v, hb, ⟨hi.1, fun a n c e => hQ _ (hi.2 a n c e)⟩, ?_⟩
  rcases hv with hv | ⟨hd, hv, hu⟩
  · exact .inl hv
  · exact .inr ⟨hd, hv.mono (Nat.le_refl _) hQ, fun a n c e => hQ _ (hu a n c e)⟩

/-- All pieces of a head are read; they are made now. -/
def GotPost (w : World) (Q : Nat → Prop) (p : Nat) (s : UInt32) (nK P z : Nat) (img : List UInt8) (e : Ending) (w' : World) : Prop :=
  ∃ v, e = .returned v ∧ RdL w' v (pieces s nK P z img) ∧ Hd w' (fun x => Q x ∨ w.heap.size ≤ x) p s nK P z img ∧ Keeps [p] w w' ∧ ∃ b, w'.cell? ⟨p, 0, none⟩ = some b

set_option maxRecDepth 100000 in
set_option maxHeartbeats 1600000 in
theorem hdpieces_calls {w : World} {p : Nat} {s : UInt32} {nK P z : Nat} {img : List UInt8} {Q : Nat → Prop} (h : Hd w Q p s nK P z img) :
    Calls Tryz.prog 72 #[.pointer (some ⟨p, 0, none⟩)] w (GotPost w Q p s nK P z img) := by
  obtain ⟨hf, hq, vi, d, v, hb, hi, hv⟩ := h
  have hmf : ∀ (fn : Fn) (first cap : Array Value) (w : World), (Instr.makeFunc fn first cap).run Tryz.prog w = .ok (.func fn first cap) w := fun _ _ _ _ => rfl
  have kA : Keeps [] w (w.alloc (.cells #[.pointer (some ⟨p, 0, none⟩)] 67)) := (Keeps.refl [] w).alloc _
  have t0 : (w.alloc (.cells #[.pointer (some ⟨p, 0, none⟩)] 67)).cell? ⟨w.heap.size, 0, none⟩ = some (.pointer (some ⟨p, 0, none⟩)) := (Blk.newA w _ _).cell' rfl
  have hpl := hb.lt
  have hbA := hb.keeps kA (by simp)
  have hiA := hi.keepsNil kA
  have hne : w.heap.size ≠ p := by omega
  have hsA : (w.alloc (.cells #[.pointer (some ⟨p, 0, none⟩)] 67)).heap.size = w.heap.size + 1 := by simp
  rcases hv with ⟨rfl, rfl⟩ | ⟨rfl, hP, hU⟩
  · have hO := hdonce_calls hbA hiA.1 hf t0 hne
    have Hi := Lib.hid hiA
    clear hi hiA hb
    go_enter Tryz.func72, Tryz.ntmps72
    go_wp2_with fail
    generalize w.alloc (.cells #[.pointer (some ⟨p, 0, none⟩)] 67) = w0 at *
    refine hO.mono ?_
    rintro e w1 ⟨v, rfl, hb1, hP1, k1⟩
    have hS : ∀ x, x ∈ [p] → ∃ t cs, Blk w0 x t cs ∧ 5 ≠ t := fun x hx => by simp only [List.mem_singleton] at hx; subst hx; exact ⟨_, _, hbA, by decide⟩
    have t1 : w1.cell? ⟨w.heap.size, 0, none⟩ = some (.pointer (some ⟨p, 0, none⟩)) := (World.cell?_of_block (a := ⟨w.heap.size, 0, none⟩) (k1.block w.heap.size (by show w.heap.size < w0.heap.size; omega) (by simp; omega))).trans t0
    have HI1 := Lib.hid (show RdA Q w1 vi img from ⟨Hi.out.1.keepsP k1 hS, Hi.out.2⟩)
    have HP1 := Lib.hid hP1
    have HR1 := Lib.hid hP1.rdl
    obtain ⟨av, bv, rfl, _⟩ := hP1.rdl
    have c8 := hb1.cell' (i := 8) rfl
    have c0 := hb1.cell' (i := 0) rfl
    have Hb1 := Lib.hid hb1
    clear hP1 hb1
    go_wp2_with fail
    go_ret
    have hwq : ∀ x, w0.heap.size ≤ x → Q x ∨ w.heap.size ≤ x := fun x hx => .inr (by omega)
    exact ⟨_, rfl, HR1.out, ⟨hf, .inl hq, vi, 1, _, Hb1.out, ⟨HI1.out.1, fun a n c e => .inl (HI1.out.2 a n c e)⟩, .inr ⟨rfl, HP1.out.mono (Nat.zero_le _) hwq, fun a n c e => hwq _ (HP1.out.up a n c e)⟩⟩, kA.nil.trans k1, _, c0⟩
  · have hPA := hP.keepsNil kA
    have hO := oncedone_calls ⟨p, 5, none⟩ (.func (.func 120) #[] #[.pointer (some ⟨w.heap.size, 0, none⟩)]) _ (hbA.cell' (i := 5) rfl)
    have Hi := Lib.hid hiA
    have HPA := Lib.hid hPA
    have HRA := Lib.hid hPA.rdl
    obtain ⟨av, bv, rfl, _⟩ := hPA.rdl
    have c8 := hbA.cell' (i := 8) rfl
    have c0 := hbA.cell' (i := 0) rfl
    have HbA := Lib.hid hbA
    clear hi hiA hb hP hPA hbA
    go_enter Tryz.func72, Tryz.ntmps72
    go_wp2_with fail
    generalize w.alloc (.cells #[.pointer (some ⟨p, 0, none⟩)] 67) = w0 at *
    refine hO.mono ?_
    rintro e w1 ⟨rfl, rfl⟩
    go_wp2_with fail
    go_ret
    exact ⟨_, rfl, HRA.out, Hd.mono ⟨hf, hq, vi, 1, _, HbA.out, Hi.out, .inr ⟨rfl, HPA.out, hU⟩⟩ (fun x hx => .inl hx), kA.nil, _, c0⟩

end Go.Proofs.YtijhaeapoapgfaaGreatDoor

set_option linter.unusedVariables false
set_option linter.unusedSimpArgs false
namespace Go.Proofs.YtijhaeapoapgfaaGreatDoor
open Go.RowKit
attribute [local go_sem ↓] Go.wp_at_zero Go.wp_at_succ

def HdNew (w : World) (s : UInt32) (nK P z : Nat) (img : List UInt8) (e : Ending) (w' : World) : Prop :=
  ∃ p, e = .returned (.pointer (some ⟨p, 0, none⟩)) ∧ w.heap.size ≤ p ∧ Hd w' (w.heap.size ≤ ·) p s nK P z img ∧ Keeps [] w w'

theorem Fits.ok {nK P z : Nat} {img : List UInt8} (h : Fits nK P z img) : PmOk (nK : Int) (P : Int) (z : Int) = true := by
  obtain ⟨h1, h2, h3, h4, h5, _⟩ := h
  simp [PmOk]; omega

set_option maxRecDepth 100000 in
set_option maxHeartbeats 1600000 in
theorem cnew0_calls {w : World} {vi : Value} {img : List UInt8} (hi : RdS0 w vi img) (s : UInt32) {nK P z : Nat} (hf : Fits nK P z img) :
    Calls Tryz.prog 32 #[.agg #[B32 s, .int .i64 nK, .int .i64 P, .int .i64 z], vi] w (HdNew w s nK P z img) := by
  have hM := fun w => may_calls (w := w) s nK P z
  simp only [hf.ok] at hM
  have hC := fun w => bcount_calls (w := w) img.length z hf.l hf.z1 hf.z2
  simp only [hf.c] at hC
  have kA : Keeps [] w (w.alloc (.cells #[B32 s, .int .i64 nK, .int .i64 P, .int .i64 z] 38)) := (Keeps.refl [] w).alloc _
  have hB := Blk.newA w 38 #[B32 s, .int .i64 nK, .int .i64 P, .int .i64 z]
  have c0 := hB.cell' (i := 0) rfl
  have c1 := hB.cell' (i := 1) rfl
  have c2 := hB.cell' (i := 2) rfl
  have c3 := hB.cell' (i := 3) rfl
  obtain ⟨a, c, rfl, r1, r2, r3, r4⟩ := id hi
  have HI := Lib.hid hi
  have HM := Lib.hid hM
  have HC := Lib.hid hC
  have hil := hf.l
  clear hi hM hC hB
  go_enter Tryz.func32, Tryz.ntmps32
  go_wp2_with fail
  generalize w.alloc (.cells #[B32 s, .int .i64 nK, .int .i64 P, .int .i64 z] 38) = w0 at *
  refine wp_region_noPanic ?_
  refine wp_region_held_drew (S := (fun w' => w'.cell? ⟨w.heap.size, 0, none⟩ = some (B32 s) ∧ w'.cell? ⟨w.heap.size, 1, none⟩ = some (.int .i64 nK) ∧ w'.cell? ⟨w.heap.size, 2, none⟩ = some (.int .i64 P) ∧ w'.cell? ⟨w.heap.size, 3, none⟩ = some (.int .i64 z))) (by kernel_rfl) ⟨c0, c1, c2, c3⟩ (fun hHeld => ?_)
  have kd : Keeps [] w0 w0.drew := (Keeps.refl [] w0).drew
  refine wpAnyH_take (i := 0) (v := ?v2_20) rfl (by kernel_rfl) (by kernel_rfl) (by kernel_rfl) (fun _ _ _ h => h) (Or.inl ⟨by rfl, ?y2_20⟩) (by assumption) ?r2_20
  case y2_20 => (intro w hSw; (try dsimp only at hSw); go_simp; try with_reducible rfl)
  (try simp only [Act.put, List.getElem_toArray, List.getElem_cons_zero, List.getElem_cons_succ, List.setIfInBounds_toArray, List.set_cons_zero, List.set_cons_succ])
  refine wpAnyH_ready (rs := [1]) (by kernel_rfl) (by simp) ?_
  refine AllReadyH.cons rfl (fun K hK => ?_) AllReadyH.nil
  go_simp
  refine (HM.out _).mono ?_
  rintro e w1 ⟨rfl, k1⟩
  replace kd := kd.trans k1
  go_wp2_with fail
  refine hK.out _ _ ?s2_21 (fun hHeld => ?_)
  case s2_21 => ((try dsimp only) <;> (first | exact ⟨kd.cell0 c0, kd.cell0 c1, kd.cell0 c2, kd.cell0 c3⟩))
  clear hK K
  (try simp only [Act.put, List.getElem_toArray, List.getElem_cons_zero, List.getElem_cons_succ, List.setIfInBounds_toArray, List.set_cons_zero, List.set_cons_succ])
  refine wpAnyH_take (i := 2) (v := ?v2_22) rfl (by kernel_rfl) (by kernel_rfl) (by kernel_rfl) (fun _ _ _ h => h) (Or.inl ⟨by rfl, ?y2_22⟩) (by assumption) ?r2_22
  case y2_22 => (intro w hSw; (try dsimp only at hSw); go_simp; try with_reducible rfl)
  (try simp only [Act.put, List.getElem_toArray, List.getElem_cons_zero, List.getElem_cons_succ, List.setIfInBounds_toArray, List.set_cons_zero, List.set_cons_succ])
  refine wpAnyH_take (i := 3) (v := ?v2_23) rfl (by kernel_rfl) (by kernel_rfl) (by kernel_rfl) (fun _ _ _ h => h) (Or.inl ⟨by rfl, ?y2_23⟩) (by assumption) ?r2_23
  case y2_23 => (intro w hSw; (try dsimp only at hSw); go_simp; try with_reducible rfl)
  (try simp only [Act.put, List.getElem_toArray, List.getElem_cons_zero, List.getElem_cons_succ, List.setIfInBounds_toArray, List.set_cons_zero, List.set_cons_succ])
  refine wpAnyH_take (i := 4) (v := ?v2_24) rfl (by kernel_rfl) (by kernel_rfl) (by kernel_rfl) (fun _ _ _ h => h) (Or.inl ⟨by rfl, ?y2_24⟩) (by assumption) ?r2_24
  case y2_24 => (intro w hSw; (try dsimp only at hSw); go_simp; try with_reducible rfl)
  (try simp only [Act.put, List.getElem_toArray, List.getElem_cons_zero, List.getElem_cons_succ, List.setIfInBounds_toArray, List.set_cons_zero, List.set_cons_succ])
  refine wpAnyH_take (i := 5) (v := ?v2_25) rfl (by kernel_rfl) (by kernel_rfl) (by kernel_rfl) (fun _ _ _ h => h) (Or.inl ⟨by rfl, ?y2_25⟩) (by assumption) ?r2_25
  case y2_25 => (intro w hSw; (try dsimp only at hSw); go_simp; try with_reducible rfl)
  (try simp only [Act.put, List.getElem_toArray, List.getElem_cons_zero, List.getElem_cons_succ, List.setIfInBounds_toArray, List.set_cons_zero, List.set_cons_succ])
  refine wpAnyH_take (i := 6) (v := ?v2_26) rfl (by kernel_rfl) (by kernel_rfl) (by kernel_rfl) (fun _ _ _ h => h) (Or.inl ⟨by rfl, ?y2_26⟩) (by assumption) ?r2_26
  case y2_26 => (intro w hSw; (try dsimp only at hSw); go_simp; try with_reducible rfl)
  (try simp only [Act.put, List.getElem_toArray, List.getElem_cons_zero, List.getElem_cons_succ, List.setIfInBounds_toArray, List.set_cons_zero, List.set_cons_succ])
  refine wpAnyH_take (i := 7) (v := ?v2_27) rfl (by kernel_rfl) (by kernel_rfl) (by kernel_rfl) (fun _ _ _ h => h) (Or.inl ⟨by rfl, ?y2_27⟩) (by assumption) ?r2_27
  case y2_27 => (intro w hSw; (try dsimp only at hSw); go_simp; try with_reducible rfl)
  (try simp only [Act.put, List.getElem_toArray, List.getElem_cons_zero, List.getElem_cons_succ, List.setIfInBounds_toArray, List.set_cons_zero, List.set_cons_succ])
  refine wpAnyH_take (i := 9) (v := ?v2_28) rfl (by kernel_rfl) (by kernel_rfl) (by kernel_rfl) (fun _ _ _ h => h) (Or.inl ⟨by rfl, ?y2_28⟩) (by assumption) ?r2_28
  case y2_28 => (intro w hSw; (try dsimp only at hSw); go_simp; try with_reducible rfl)
  (try simp only [Act.put, List.getElem_toArray, List.getElem_cons_zero, List.getElem_cons_succ, List.setIfInBounds_toArray, List.set_cons_zero, List.set_cons_succ])
  refine wpAnyH_take (i := 10) (v := ?v2_29) rfl (by kernel_rfl) (by kernel_rfl) (by kernel_rfl) (fun _ _ _ h => h) (Or.inl ⟨by rfl, ?y2_29⟩) (by assumption) ?r2_29
  case y2_29 => (intro w hSw; (try dsimp only at hSw); go_simp; try with_reducible rfl)
  (try simp only [Act.put, List.getElem_toArray, List.getElem_cons_zero, List.getElem_cons_succ, List.setIfInBounds_toArray, List.set_cons_zero, List.set_cons_succ])
  refine wpAnyH_ready (rs := [8]) (by kernel_rfl) (by simp) ?_
  refine AllReadyH.cons rfl (fun K hK => ?_) AllReadyH.nil
  go_simp
  refine (HC.out _).mono ?_
  rintro e w' ⟨rfl, rfl⟩
  go_wp2_with fail
  refine hK.out _ _ ?s2_30 (fun hHeld => ?_)
  case s2_30 => ((try dsimp only) <;> (first | exact ⟨kd.cell0 c0, kd.cell0 c1, kd.cell0 c2, kd.cell0 c3⟩))
  clear hK K
  (try simp only [Act.put, List.getElem_toArray, List.getElem_cons_zero, List.getElem_cons_succ, List.setIfInBounds_toArray, List.set_cons_zero, List.set_cons_succ])
  refine wpAnyH_take (i := 11) (v := ?v2_31) rfl (by kernel_rfl) (by kernel_rfl) (by kernel_rfl) (fun _ _ _ h => h) (Or.inl ⟨by rfl, ?y2_31⟩) (by assumption) ?r2_31
  case y2_31 => (intro w hSw; (try dsimp only at hSw); go_simp; try with_reducible rfl)
  (try simp only [Act.put, List.getElem_toArray, List.getElem_cons_zero, List.getElem_cons_succ, List.setIfInBounds_toArray, List.set_cons_zero, List.set_cons_succ])
  refine wpAnyH_take (i := 12) (v := ?v2_32) rfl (by kernel_rfl) (by kernel_rfl) (by kernel_rfl) (fun _ _ _ h => h) (Or.inl ⟨by rfl, ?y2_32⟩) (by assumption) ?r2_32
  case y2_32 => (intro w hSw; (try dsimp only at hSw); go_simp; try with_reducible rfl)
  (try simp only [Act.put, List.getElem_toArray, List.getElem_cons_zero, List.getElem_cons_succ, List.setIfInBounds_toArray, List.set_cons_zero, List.set_cons_succ])
  refine wpAnyH_done (by kernel_rfl) ?_ _
  refine NoPanic.normal ?_
  have d0 := kd.cell0 c0
  have d1 := kd.cell0 c1
  have d2 := kd.cell0 c2
  have d3 := kd.cell0 c3
  have HK1 := Lib.hid (kA.trans kd)
  clear c0 c1 c2 c3 hHeld kd kA k1
  go_wp2_with fail
  refine wp_region_noPanic ?_
  refine wp_region_held_drew (S := (fun w' => w'.cell? ⟨w.heap.size, 0, none⟩ = some (B32 s) ∧ w'.cell? ⟨w.heap.size, 1, none⟩ = some (.int .i64 nK) ∧ w'.cell? ⟨w.heap.size, 2, none⟩ = some (.int .i64 P) ∧ w'.cell? ⟨w.heap.size, 3, none⟩ = some (.int .i64 z))) (by kernel_rfl) ⟨d0, d1, d2, d3⟩ (fun hHeld => ?_)
  have HI1 := Lib.hid (HI.out.keepsNil (HK1.out.drew))
  have kd : Keeps [] w1 w1.drew := (Keeps.refl [] w1).drew
  refine wpAnyH_take (i := 0) (v := ?v3_33) rfl (by kernel_rfl) (by kernel_rfl) (by kernel_rfl) (fun _ _ _ h => h) (Or.inl ⟨by rfl, ?y3_33⟩) (by assumption) ?r3_33
  case y3_33 => (intro w hSw; (try dsimp only at hSw); go_simp; try with_reducible rfl)
  (try simp only [Act.put, List.getElem_toArray, List.getElem_cons_zero, List.getElem_cons_succ, List.setIfInBounds_toArray, List.set_cons_zero, List.set_cons_succ])
  refine wpAnyH_take (i := 1) (v := ?v3_34) rfl (by kernel_rfl) (by kernel_rfl) (by kernel_rfl) (fun _ _ _ h => h) (Or.inl ⟨by rfl, ?y3_34⟩) (by assumption) ?r3_34
  case y3_34 => (intro w hSw; (try dsimp only at hSw); go_simp; try with_reducible rfl)
  (try simp only [Act.put, List.getElem_toArray, List.getElem_cons_zero, List.getElem_cons_succ, List.setIfInBounds_toArray, List.set_cons_zero, List.set_cons_succ])
  refine wpAnyH_ready (rs := [2]) (by kernel_rfl) (by simp) ?_
  refine AllReadyH.cons rfl (fun K hK => ?_) AllReadyH.nil
  go_simp
  have hcl : Calls Tryz.prog 38 #[.slice a img.length c] w1.drew (ClonePost w1.drew img) := by
    obtain ⟨a', c', e1, _, _, r3, r4⟩ := HI1.out
    simp only [Value.slice.injEq] at e1
    obtain ⟨rfl, _, rfl⟩ := e1
    exact clone_calls a img.length c img r3 rfl (by omega) (fun h => (r4 h).1)
  refine hcl.mono ?_
  rintro e w2 ⟨v2, rfl, hO2, k2⟩
  replace kd := kd.trans k2
  have hwk : w.heap.size ≤ w1.drew.heap.size := HK1.out.size
  have HR2 := Lib.hid (hO2.rda hwk)
  obtain ⟨a2, b2, rfl, _⟩ := hO2.rds
  clear hO2
  go_wp2_with fail
  refine hK.out _ _ ?s3_35 (fun hHeld => ?_)
  case s3_35 => ((try dsimp only) <;> (first | exact ⟨kd.cell0 d0, kd.cell0 d1, kd.cell0 d2, kd.cell0 d3⟩))
  clear hK K
  (try simp only [Act.put, List.getElem_toArray, List.getElem_cons_zero, List.getElem_cons_succ, List.setIfInBounds_toArray, List.set_cons_zero, List.set_cons_succ])
  refine wpAnyH_take (i := 3) (v := ?v3_36) rfl (by kernel_rfl) (by kernel_rfl) (by kernel_rfl) (fun _ _ _ h => h) (Or.inl ⟨by rfl, ?y3_36⟩) (by assumption) ?r3_36
  case y3_36 => (intro w hSw; (try dsimp only at hSw); go_simp; try with_reducible rfl)
  (try simp only [Act.put, List.getElem_toArray, List.getElem_cons_zero, List.getElem_cons_succ, List.setIfInBounds_toArray, List.set_cons_zero, List.set_cons_succ])
  refine wpAnyH_ready (rs := [4]) (by kernel_rfl) (by simp) ?_
  refine AllReadyH.cons rfl (fun K hK => ?_) AllReadyH.nil
  go_simp
  have kN : Keeps [] w2 (w2.alloc (.cells #[B32 s, .int .i64 nK, .int .i64 P, .int .i64 z, .slice a2 img.length b2, .int .u32 0, .int .i32 0, .int .u32 0, .slice none 0 0] 129)) := (Keeps.refl [] w2).alloc _
  have kd2 := kd.trans kN
  refine hK.out _ _ ?s3_37 (fun hHeld => ?_)
  case s3_37 => ((try dsimp only) <;> (first | exact ⟨kd2.cell0 d0, kd2.cell0 d1, kd2.cell0 d2, kd2.cell0 d3⟩))
  clear hK K
  (try simp only [Act.put, List.getElem_toArray, List.getElem_cons_zero, List.getElem_cons_succ, List.setIfInBounds_toArray, List.set_cons_zero, List.set_cons_succ])
  refine wpAnyH_take (i := 5) (v := ?v3_38) rfl (by kernel_rfl) (by kernel_rfl) (by kernel_rfl) (fun _ _ _ h => h) (Or.inl ⟨by rfl, ?y3_38⟩) (by assumption) ?r3_38
  case y3_38 => (intro w hSw; (try dsimp only at hSw); go_simp; try with_reducible rfl)
  (try simp only [Act.put, List.getElem_toArray, List.getElem_cons_zero, List.getElem_cons_succ, List.setIfInBounds_toArray, List.set_cons_zero, List.set_cons_succ])
  refine wpAnyH_done (by kernel_rfl) ?_ _
  refine NoPanic.normal ?_
  go_wp2_with fail
  go_ret
  have hs2 := (HK1.out.trans kd).size
  exact ⟨w2.heap.size, rfl, hs2, ⟨hf, hs2, _, 0, _, Blk.newA w2 129 #[B32 s, .int .i64 nK, .int .i64 P, .int .i64 z, .slice a2 img.length b2, .int .u32 0, .int .i32 0, .int .u32 0, .slice none 0 0], HR2.out.keepsNil kN, .inl ⟨rfl, rfl⟩⟩, (HK1.out.trans kd).trans kN⟩

theorem cnew_calls {w : World} {vi : Value} {img : List UInt8} (hi : RdS w vi img) (s : UInt32) {nK P z : Nat} (hf : Fits nK P z img) :
    Calls Tryz.prog 32 #[.agg #[B32 s, .int .i64 nK, .int .i64 P, .int .i64 z], vi] w (HdNew w s nK P z img) := cnew0_calls hi.z s hf

end Go.Proofs.YtijhaeapoapgfaaGreatDoor

set_option linter.unusedVariables false
set_option linter.unusedSimpArgs false
namespace Go.Proofs.YtijhaeapoapgfaaGreatDoor
open Go.RowKit
attribute [local go_sem ↓] Go.wp_at_zero Go.wp_at_succ

set_option maxRecDepth 100000 in
set_option maxHeartbeats 1600000 in
theorem cnewbad_calls {w : World} (a : Option Addr) (n c : Nat) (s : UInt32) (k p z : Int) (h : PmOk k p z = false) :
    Calls Tryz.prog 32 #[.agg #[B32 s, .int .i64 k, .int .i64 p, .int .i64 z], .slice a n c] w fun e w' => e = .returned (.pointer none) ∧ Keeps [] w w' := by
  have hM := fun w => may_calls (w := w) s k p z
  simp only [h] at hM
  have HM := Lib.hid hM
  clear hM
  have kA : Keeps [] w (w.alloc (.cells #[B32 s, .int .i64 k, .int .i64 p, .int .i64 z] 38)) := (Keeps.refl [] w).alloc _
  have hB := Blk.newA w 38 #[B32 s, .int .i64 k, .int .i64 p, .int .i64 z]
  have c0 := hB.cell' (i := 0) rfl
  have c1 := hB.cell' (i := 1) rfl
  have c2 := hB.cell' (i := 2) rfl
  have c3 := hB.cell' (i := 3) rfl
  clear hB
  go_enter Tryz.func32, Tryz.ntmps32
  go_wp2_with fail
  generalize w.alloc (.cells #[B32 s, .int .i64 k, .int .i64 p, .int .i64 z] 38) = w0 at *
  refine wp_region_noPanic ?_
  refine wp_region_held_drew (S := (fun w' => w'.cell? ⟨w.heap.size, 0, none⟩ = some (B32 s) ∧ w'.cell? ⟨w.heap.size, 1, none⟩ = some (.int .i64 k) ∧ w'.cell? ⟨w.heap.size, 2, none⟩ = some (.int .i64 p) ∧ w'.cell? ⟨w.heap.size, 3, none⟩ = some (.int .i64 z))) (by kernel_rfl) ⟨c0, c1, c2, c3⟩ (fun hHeld => ?_)
  have kd : Keeps [] w0 w0.drew := (Keeps.refl [] w0).drew
  refine wpAnyH_take (i := 0) (v := ?v4_39) rfl (by kernel_rfl) (by kernel_rfl) (by kernel_rfl) (fun _ _ _ h => h) (Or.inl ⟨by rfl, ?y4_39⟩) (by assumption) ?r4_39
  case y4_39 => (intro w hSw; (try dsimp only at hSw); go_simp; try with_reducible rfl)
  (try simp only [Act.put, List.getElem_toArray, List.getElem_cons_zero, List.getElem_cons_succ, List.setIfInBounds_toArray, List.set_cons_zero, List.set_cons_succ])
  refine wpAnyH_ready (rs := [1]) (by kernel_rfl) (by simp) ?_
  refine AllReadyH.cons rfl (fun K hK => ?_) AllReadyH.nil
  go_simp
  refine (HM.out _).mono ?_
  rintro e w1 ⟨rfl, k1⟩
  replace kd := kd.trans k1
  go_wp2_with fail
  refine hK.out _ _ ?s4_40 (fun hHeld => ?_)
  case s4_40 => ((try dsimp only) <;> (first | exact ⟨kd.cell0 c0, kd.cell0 c1, kd.cell0 c2, kd.cell0 c3⟩))
  clear hK K
  (try simp only [Act.put, List.getElem_toArray, List.getElem_cons_zero, List.getElem_cons_succ, List.setIfInBounds_toArray, List.set_cons_zero, List.set_cons_succ])
  refine wpAnyH_take (i := 2) (v := ?v4_41) rfl (by kernel_rfl) (by kernel_rfl) (by kernel_rfl) (fun _ _ _ h => h) (Or.inl ⟨by rfl, ?y4_41⟩) (by assumption) ?r4_41
  case y4_41 => (intro w hSw; (try dsimp only at hSw); go_simp; try with_reducible rfl)
  (try simp only [Act.put, List.getElem_toArray, List.getElem_cons_zero, List.getElem_cons_succ, List.setIfInBounds_toArray, List.set_cons_zero, List.set_cons_succ])
  refine wpAnyH_take (i := 3) (v := ?v4_42) rfl (by kernel_rfl) (by kernel_rfl) (by kernel_rfl) (fun _ _ _ h => h) (Or.inl ⟨by rfl, ?y4_42⟩) (by assumption) ?r4_42
  case y4_42 => (intro w hSw; (try dsimp only at hSw); go_simp; try with_reducible rfl)
  (try simp only [Act.put, List.getElem_toArray, List.getElem_cons_zero, List.getElem_cons_succ, List.setIfInBounds_toArray, List.set_cons_zero, List.set_cons_succ])
  refine wpAnyH_take (i := 4) (v := undef) rfl (by kernel_rfl) (by kernel_rfl) (by kernel_rfl) (fun _ _ _ h => h) (Or.inr ⟨by rfl, rfl⟩) (by assumption) ?_
  (try simp only [Act.put, List.getElem_toArray, List.getElem_cons_zero, List.getElem_cons_succ, List.setIfInBounds_toArray, List.set_cons_zero, List.set_cons_succ])
  refine wpAnyH_take (i := 5) (v := undef) rfl (by kernel_rfl) (by kernel_rfl) (by kernel_rfl) (fun _ _ _ h => h) (Or.inr ⟨by rfl, rfl⟩) (by assumption) ?_
  (try simp only [Act.put, List.getElem_toArray, List.getElem_cons_zero, List.getElem_cons_succ, List.setIfInBounds_toArray, List.set_cons_zero, List.set_cons_succ])
  refine wpAnyH_take (i := 6) (v := undef) rfl (by kernel_rfl) (by kernel_rfl) (by kernel_rfl) (fun _ _ _ h => h) (Or.inr ⟨by rfl, rfl⟩) (by assumption) ?_
  (try simp only [Act.put, List.getElem_toArray, List.getElem_cons_zero, List.getElem_cons_succ, List.setIfInBounds_toArray, List.set_cons_zero, List.set_cons_succ])
  refine wpAnyH_take (i := 7) (v := undef) rfl (by kernel_rfl) (by kernel_rfl) (by kernel_rfl) (fun _ _ _ h => h) (Or.inr ⟨by rfl, rfl⟩) (by assumption) ?_
  (try simp only [Act.put, List.getElem_toArray, List.getElem_cons_zero, List.getElem_cons_succ, List.setIfInBounds_toArray, List.set_cons_zero, List.set_cons_succ])
  refine wpAnyH_take (i := 8) (v := undef) rfl (by kernel_rfl) (by kernel_rfl) (by kernel_rfl) (fun _ _ _ h => h) (Or.inr ⟨by rfl, rfl⟩) (by assumption) ?_
  (try simp only [Act.put, List.getElem_toArray, List.getElem_cons_zero, List.getElem_cons_succ, List.setIfInBounds_toArray, List.set_cons_zero, List.set_cons_succ])
  refine wpAnyH_take (i := 9) (v := undef) rfl (by kernel_rfl) (by kernel_rfl) (by kernel_rfl) (fun _ _ _ h => h) (Or.inr ⟨by rfl, rfl⟩) (by assumption) ?_
  (try simp only [Act.put, List.getElem_toArray, List.getElem_cons_zero, List.getElem_cons_succ, List.setIfInBounds_toArray, List.set_cons_zero, List.set_cons_succ])
  refine wpAnyH_take (i := 10) (v := undef) rfl (by kernel_rfl) (by kernel_rfl) (by kernel_rfl) (fun _ _ _ h => h) (Or.inr ⟨by rfl, rfl⟩) (by assumption) ?_
  (try simp only [Act.put, List.getElem_toArray, List.getElem_cons_zero, List.getElem_cons_succ, List.setIfInBounds_toArray, List.set_cons_zero, List.set_cons_succ])
  refine wpAnyH_take (i := 11) (v := undef) rfl (by kernel_rfl) (by kernel_rfl) (by kernel_rfl) (fun _ _ _ h => h) (Or.inr ⟨by rfl, rfl⟩) (by assumption) ?_
  (try simp only [Act.put, List.getElem_toArray, List.getElem_cons_zero, List.getElem_cons_succ, List.setIfInBounds_toArray, List.set_cons_zero, List.set_cons_succ])
  refine wpAnyH_take (i := 12) (v := ?v4_43) rfl (by kernel_rfl) (by kernel_rfl) (by kernel_rfl) (fun _ _ _ h => h) (Or.inl ⟨by rfl, ?y4_43⟩) (by assumption) ?r4_43
  case y4_43 => (intro w hSw; (try dsimp only at hSw); go_simp; try with_reducible rfl)
  (try simp only [Act.put, List.getElem_toArray, List.getElem_cons_zero, List.getElem_cons_succ, List.setIfInBounds_toArray, List.set_cons_zero, List.set_cons_succ])
  refine wpAnyH_done (by kernel_rfl) ?_ _
  refine NoPanic.normal ?_
  have HK1 := Lib.hid (kA.trans kd)
  clear c0 c1 c2 c3 hHeld kd kA k1
  go_wp2_with fail
  go_ret
  exact ⟨rfl, HK1.out⟩

set_option maxRecDepth 100000 in
set_option maxHeartbeats 1600000 in
theorem cnewno_calls {w : World} (a : Option Addr) (n c : Nat) (s : UInt32) (k : Int) (p : Int) (z : Nat) (h : PmOk k p z = true) (hn : n ≤ 512) (hz1 : 1 ≤ z) (hz2 : z ≤ 16) (hne : ((bcount n z : Nat) : Int) ≠ k) :
    Calls Tryz.prog 32 #[.agg #[B32 s, .int .i64 k, .int .i64 p, .int .i64 z], .slice a n c] w fun e w' => e = .returned (.pointer none) ∧ Keeps [] w w' := by
  have hM := fun w => may_calls (w := w) s k p z
  simp only [h] at hM
  have HM := Lib.hid hM
  have hC := fun w => bcount_calls (w := w) n z hn hz1 hz2
  generalize bcount n z = q at *
  have HC := Lib.hid hC
  have hqk : ((q : Int) != k) = true := by simpa using hne
  clear hM hC hne
  have kA : Keeps [] w (w.alloc (.cells #[B32 s, .int .i64 k, .int .i64 p, .int .i64 z] 38)) := (Keeps.refl [] w).alloc _
  have hB := Blk.newA w 38 #[B32 s, .int .i64 k, .int .i64 p, .int .i64 z]
  have c0 := hB.cell' (i := 0) rfl
  have c1 := hB.cell' (i := 1) rfl
  have c2 := hB.cell' (i := 2) rfl
  have c3 := hB.cell' (i := 3) rfl
  clear hB
  go_enter Tryz.func32, Tryz.ntmps32
  go_wp2_with fail
  generalize w.alloc (.cells #[B32 s, .int .i64 k, .int .i64 p, .int .i64 z] 38) = w0 at *
  refine wp_region_noPanic ?_
  refine wp_region_held_drew (S := (fun w' => w'.cell? ⟨w.heap.size, 0, none⟩ = some (B32 s) ∧ w'.cell? ⟨w.heap.size, 1, none⟩ = some (.int .i64 k) ∧ w'.cell? ⟨w.heap.size, 2, none⟩ = some (.int .i64 p) ∧ w'.cell? ⟨w.heap.size, 3, none⟩ = some (.int .i64 z))) (by kernel_rfl) ⟨c0, c1, c2, c3⟩ (fun hHeld => ?_)
  have kd : Keeps [] w0 w0.drew := (Keeps.refl [] w0).drew
  refine wpAnyH_take (i := 0) (v := ?v5_44) rfl (by kernel_rfl) (by kernel_rfl) (by kernel_rfl) (fun _ _ _ h => h) (Or.inl ⟨by rfl, ?y5_44⟩) (by assumption) ?r5_44
  case y5_44 => (intro w hSw; (try dsimp only at hSw); go_simp; try with_reducible rfl)
  (try simp only [Act.put, List.getElem_toArray, List.getElem_cons_zero, List.getElem_cons_succ, List.setIfInBounds_toArray, List.set_cons_zero, List.set_cons_succ])
  refine wpAnyH_ready (rs := [1]) (by kernel_rfl) (by simp) ?_
  refine AllReadyH.cons rfl (fun K hK => ?_) AllReadyH.nil
  go_simp
  refine (HM.out _).mono ?_
  rintro e w1 ⟨rfl, k1⟩
  replace kd := kd.trans k1
  go_wp2_with fail
  refine hK.out _ _ ?s5_45 (fun hHeld => ?_)
  case s5_45 => ((try dsimp only) <;> (first | exact ⟨kd.cell0 c0, kd.cell0 c1, kd.cell0 c2, kd.cell0 c3⟩))
  clear hK K
  (try simp only [Act.put, List.getElem_toArray, List.getElem_cons_zero, List.getElem_cons_succ, List.setIfInBounds_toArray, List.set_cons_zero, List.set_cons_succ])
  refine wpAnyH_take (i := 2) (v := ?v5_46) rfl (by kernel_rfl) (by kernel_rfl) (by kernel_rfl) (fun _ _ _ h => h) (Or.inl ⟨by rfl, ?y5_46⟩) (by assumption) ?r5_46
  case y5_46 => (intro w hSw; (try dsimp only at hSw); go_simp; try with_reducible rfl)
  (try simp only [Act.put, List.getElem_toArray, List.getElem_cons_zero, List.getElem_cons_succ, List.setIfInBounds_toArray, List.set_cons_zero, List.set_cons_succ])
  refine wpAnyH_take (i := 3) (v := ?v5_47) rfl (by kernel_rfl) (by kernel_rfl) (by kernel_rfl) (fun _ _ _ h => h) (Or.inl ⟨by rfl, ?y5_47⟩) (by assumption) ?r5_47
  case y5_47 => (intro w hSw; (try dsimp only at hSw); go_simp; try with_reducible rfl)
  (try simp only [Act.put, List.getElem_toArray, List.getElem_cons_zero, List.getElem_cons_succ, List.setIfInBounds_toArray, List.set_cons_zero, List.set_cons_succ])
  refine wpAnyH_take (i := 4) (v := ?v5_48) rfl (by kernel_rfl) (by kernel_rfl) (by kernel_rfl) (fun _ _ _ h => h) (Or.inl ⟨by rfl, ?y5_48⟩) (by assumption) ?r5_48
  case y5_48 => (intro w hSw; (try dsimp only at hSw); go_simp; try with_reducible rfl)
  (try simp only [Act.put, List.getElem_toArray, List.getElem_cons_zero, List.getElem_cons_succ, List.setIfInBounds_toArray, List.set_cons_zero, List.set_cons_succ])
  refine wpAnyH_take (i := 5) (v := ?v5_49) rfl (by kernel_rfl) (by kernel_rfl) (by kernel_rfl) (fun _ _ _ h => h) (Or.inl ⟨by rfl, ?y5_49⟩) (by assumption) ?r5_49
  case y5_49 => (intro w hSw; (try dsimp only at hSw); go_simp; try with_reducible rfl)
  (try simp only [Act.put, List.getElem_toArray, List.getElem_cons_zero, List.getElem_cons_succ, List.setIfInBounds_toArray, List.set_cons_zero, List.set_cons_succ])
  refine wpAnyH_take (i := 6) (v := ?v5_50) rfl (by kernel_rfl) (by kernel_rfl) (by kernel_rfl) (fun _ _ _ h => h) (Or.inl ⟨by rfl, ?y5_50⟩) (by assumption) ?r5_50
  case y5_50 => (intro w hSw; (try dsimp only at hSw); go_simp; try with_reducible rfl)
  (try simp only [Act.put, List.getElem_toArray, List.getElem_cons_zero, List.getElem_cons_succ, List.setIfInBounds_toArray, List.set_cons_zero, List.set_cons_succ])
  refine wpAnyH_take (i := 7) (v := ?v5_51) rfl (by kernel_rfl) (by kernel_rfl) (by kernel_rfl) (fun _ _ _ h => h) (Or.inl ⟨by rfl, ?y5_51⟩) (by assumption) ?r5_51
  case y5_51 => (intro w hSw; (try dsimp only at hSw); go_simp; try with_reducible rfl)
  (try simp only [Act.put, List.getElem_toArray, List.getElem_cons_zero, List.getElem_cons_succ, List.setIfInBounds_toArray, List.set_cons_zero, List.set_cons_succ])
  refine wpAnyH_take (i := 9) (v := ?v5_52) rfl (by kernel_rfl) (by kernel_rfl) (by kernel_rfl) (fun _ _ _ h => h) (Or.inl ⟨by rfl, ?y5_52⟩) (by assumption) ?r5_52
  case y5_52 => (intro w hSw; (try dsimp only at hSw); go_simp; try with_reducible rfl)
  (try simp only [Act.put, List.getElem_toArray, List.getElem_cons_zero, List.getElem_cons_succ, List.setIfInBounds_toArray, List.set_cons_zero, List.set_cons_succ])
  refine wpAnyH_take (i := 10) (v := ?v5_53) rfl (by kernel_rfl) (by kernel_rfl) (by kernel_rfl) (fun _ _ _ h => h) (Or.inl ⟨by rfl, ?y5_53⟩) (by assumption) ?r5_53
  case y5_53 => (intro w hSw; (try dsimp only at hSw); go_simp; try with_reducible rfl)
  (try simp only [Act.put, List.getElem_toArray, List.getElem_cons_zero, List.getElem_cons_succ, List.setIfInBounds_toArray, List.set_cons_zero, List.set_cons_succ])
  refine wpAnyH_ready (rs := [8]) (by kernel_rfl) (by simp) ?_
  refine AllReadyH.cons rfl (fun K hK => ?_) AllReadyH.nil
  go_simp
  refine (HC.out _).mono ?_
  rintro e w' ⟨rfl, rfl⟩
  go_wp2_with fail
  refine hK.out _ _ ?s5_54 (fun hHeld => ?_)
  case s5_54 => ((try dsimp only) <;> (first | exact ⟨kd.cell0 c0, kd.cell0 c1, kd.cell0 c2, kd.cell0 c3⟩))
  clear hK K
  (try simp only [Act.put, List.getElem_toArray, List.getElem_cons_zero, List.getElem_cons_succ, List.setIfInBounds_toArray, List.set_cons_zero, List.set_cons_succ])
  refine wpAnyH_take (i := 11) (v := ?v5_55) rfl (by kernel_rfl) (by kernel_rfl) (by kernel_rfl) (fun _ _ _ h => h) (Or.inl ⟨by rfl, ?y5_55⟩) (by assumption) ?r5_55
  case y5_55 => (intro w hSw; (try dsimp only at hSw); go_simp; try with_reducible rfl)
  (try simp only [Act.put, List.getElem_toArray, List.getElem_cons_zero, List.getElem_cons_succ, List.setIfInBounds_toArray, List.set_cons_zero, List.set_cons_succ])
  refine wpAnyH_take (i := 12) (v := ?v5_56) rfl (by kernel_rfl) (by kernel_rfl) (by kernel_rfl) (fun _ _ _ h => h) (Or.inl ⟨by rfl, ?y5_56⟩) (by assumption) ?r5_56
  case y5_56 => (intro w hSw; (try dsimp only at hSw); go_simp; try with_reducible rfl)
  (try simp only [Act.put, List.getElem_toArray, List.getElem_cons_zero, List.getElem_cons_succ, List.setIfInBounds_toArray, List.set_cons_zero, List.set_cons_succ])
  refine wpAnyH_done (by kernel_rfl) ?_ _
  refine NoPanic.normal ?_
  have HK1 := Lib.hid (kA.trans kd)
  clear c0 c1 c2 c3 hHeld kd kA k1
  go_wp2_with fail
  go_ret
  exact ⟨rfl, HK1.out⟩

theorem hdsymbolNil_calls {w : World} (id : UInt32) : Calls Tryz.prog 34 #[.pointer none, B32 id] w fun e w' => e = .returned (.slice none 0 0) ∧ w = w' := by
  go_enter Tryz.func34, Tryz.ntmps34
  go_wp2_with fail
  go_ret
  exact ⟨rfl, rfl⟩

theorem pieces_len (s : UInt32) (nK P z : Nat) (img : List UInt8) : (pieces s nK P z img).length = nK + P := by unfold pieces; rw [ball_len, bsplit_len]
theorem pieces_each {s : UInt32} {nK P z : Nat} {img : List UInt8} (h : img.length ≤ nK * z) : ∀ x ∈ pieces s nK P z img, x.length = z := ball_each (bsplit_each h (Nat.le_refl _))

def SymPost (w : World) (Q : Nat → Prop) (p : Nat) (s : UInt32) (nK P z : Nat) (img : List UInt8) (id : UInt32) (e : Ending) (w' : World) : Prop :=
  ∃ g, e = .returned (.slice (some ⟨g, 0, none⟩) z z) ∧ w.heap.size ≤ g ∧ Blk w' g 5 ((symb s nK P z img id).map B8) ∧ Hd w' (fun x => Q x ∨ w.heap.size ≤ x) p s nK P z img ∧ Keeps [p] w w'

theorem symb_each {s : UInt32} {nK P z : Nat} {img : List UInt8} {id : UInt32} (h1 : 1 ≤ nK) (h2 : nK + P ≤ 256) (h : img.length ≤ nK * z) : ∀ x ∈ (rowL s nK P id).map (fun i => (pieces s nK P z img).getD i []), x.length = z := by
  intro x hx
  obtain ⟨i, hi, rfl⟩ := List.mem_map.1 hx
  have hb := (rowL_rising s nK P id h1 h2).2.1 i hi
  rw [List.getD_eq_getElem?_getD, List.getElem?_eq_getElem (by rw [pieces_len]; exact hb)]
  exact pieces_each h _ (List.getElem_mem _)
theorem symb_len {s : UInt32} {nK P z : Nat} {img : List UInt8} {id : UInt32} (h1 : 1 ≤ nK) (h2 : nK + P ≤ 256) (h : img.length ≤ nK * z) : (symb s nK P z img id).length = z := bsum_len (zer_len _) (symb_each h1 h2 h)

set_option maxRecDepth 100000 in
set_option maxHeartbeats 1600000 in
theorem hdsymbol_calls {w : World} {p : Nat} {s : UInt32} {nK P z : Nat} {img : List UInt8} {Q : Nat → Prop} (h : Hd w Q p s nK P z img) (id : UInt32) :
    Calls Tryz.prog 34 #[.pointer (some ⟨p, 0, none⟩), B32 id] w (SymPost w Q p s nK P z img id) := by
  have hG := hdpieces_calls h
  have hAl := pieces_len s nK P z img
  obtain ⟨f1, f2, f3, f4, f5, f6, f7, f8⟩ := h.fits
  have hk80 : nK + P ≤ 80 := by omega
  have hse := symb_each (s := s) (P := P) (img := img) (z := z) (id := id) f1 (by omega) f8
  have hsl := symb_len (s := s) (P := P) (img := img) (z := z) (id := id) f1 (by omega) f8
  have hsd : symb s nK P z img id = bsum z ((rowL s nK P id).map fun i => (pieces s nK P z img).getD i []) := rfl
  obtain ⟨hr1, hr2, hr3, hr4⟩ := rowL_rising s nK P id f1 (by omega)
  have hR := fun w => row_calls (w := w) s nK P z f1 f2 f3 f4 f5 id
  have hbits := rowN_bits s nK P id f1 (by omega)
  go_enter Tryz.func34, Tryz.ntmps34
  go_wp2_with fail
  refine hG.mono ?_
  rintro e w1 ⟨v, rfl, hRd, hH, hK1, _⟩
  clear hG h
  have HR := Lib.hid hRd
  have HH := Lib.hid hH
  have HK1 := Lib.hid hK1
  obtain ⟨a, c, rfl, _⟩ := hRd
  obtain ⟨_, _, vi, d, vl, hb, _⟩ := hH
  have c0 := hb.cell' (i := 0) rfl
  have c1 := hb.cell' (i := 1) rfl
  have c2 := hb.cell' (i := 2) rfl
  have c3 := hb.cell' (i := 3) rfl
  generalize hYq : symb s nK P z img id = Y at *
  have HYq := Lib.hid hYq
  clear hYq
  generalize pieces s nK P z img = A at *
  generalize rowN s nK P id = X at *
  generalize rowL s nK P id = R at *
  have Hse := Lib.hid hse
  have Hsl := Lib.hid hsl
  have Hsd := Lib.hid hsd
  have Hr2 := Lib.hid hr2
  have HRow := Lib.hid hR
  have Hbits := Lib.hid hbits
  have HAl := Lib.hid hAl
  clear hse hsl hsd hr1 hr2 hR hbits hAl f7 f8 hK1 hb
  go_wp2_with fail
  refine (HRow.out _).mono ?_
  rintro e w2 ⟨vp, vg, rfl, _, _, hV, k2⟩
  clear c0 c1 c2 c3
  go_wp2_with fail
  refine (vlist_calls hV).mono ?_
  rintro e w3 ⟨v3, rfl, hO3, k3⟩
  rw [Hbits.out] at hO3
  obtain ⟨ar, cr, rfl, i1, i2, i3⟩ := hO3.ints
  have Hrow := Lib.hid i3
  have HK3 := Lib.hid (k2.trans k3)
  clear hO3 i3 hV k2 k3
  go_wp2_with fail
  go_loopw [6, 21] (fun o i wr => ∃ k : Nat, k ≤ R.length ∧ i = .int .i64 k ∧ Pcs wr w3.heap.size o ((R.take k).map fun i => A.getD i []) ∧ Keeps [] w3 wr) (fun _ i _ => R.length - (intOf i).toNat)
  case atStart => exact ⟨0, Nat.zero_le _, rfl, Pcs.nil _ _, Keeps.refl _ _⟩
  case round =>
    obtain ⟨k, hk, rfl, hP, hK⟩ := hrel
    by_cases hlt : k < R.length
    · obtain ⟨g1, rfl, _, hcr⟩ := Hrow.out k hlt
      have hcr' := hK.cell0 hcr
      have hxm : R.getD k 0 ∈ R := by rw [List.getD_eq_getElem?_getD, List.getElem?_eq_getElem hlt]; exact List.getElem_mem hlt
      have hxb := Hr2.out _ hxm
      have hsn : (R.take (k + 1)).map (fun i => A.getD i []) = (R.take k).map (fun i => A.getD i []) ++ [A.getD (R.getD k 0) []] := by
        rw [List.take_add_one, List.getElem?_eq_getElem hlt, List.map_append, List.getD_eq_getElem?_getD (l := R), List.getElem?_eq_getElem hlt]; rfl
      have htl : ((R.take k).map fun i => A.getD i []).length = k := by rw [List.length_map, List.length_take]; omega
      generalize R.getD k 0 = x at *
      have hxA : x < A.length := by have := HAl.out; omega
      obtain ⟨a', c', ea, _, _, hrd, _⟩ := (HR.out.keepsNil HK3.out).keepsNil hK
      simp only [Value.slice.injEq] at ea
      obtain ⟨rfl, _, rfl⟩ := ea
      obtain ⟨g0, u, rfl, hc0, hru⟩ := hrd x (A.getD x []) (by rw [List.getD_eq_getElem?_getD, List.getElem?_eq_getElem hxA]; rfl)
      generalize A.getD x [] = b at *
      generalize (R.take k).map (fun i => A.getD i []) = Lk at *
      obtain ⟨ab, cb, rfl, b1, b2, b3, b4, b5⟩ := hru
      have HU := Lib.hid (show RdS wr (.slice ab b.length cb) b from ⟨ab, cb, rfl, b1, b2, b3, b4, b5⟩)
      have HP := Lib.hid hP
      have HK := Lib.hid hK
      have Hsn := Lib.hid hsn
      have HKW := Lib.hid (Keeps.refl [] wr)
      have hkn : (k : Int) < (R.length : Int) := by omega
      have hxi : (x : Int) < (A.length : Int) := by omega
      clear hrd b3 b4 b5 hP hK hsn hcr
      obtain ⟨vs, hO, hvl, hve⟩ := HP.out
      have kB : Keeps [] wr (wr.alloc (.cells #[.slice ab b.length cb] 22)) := (Keeps.refl [] wr).alloc _
      have HUB := Lib.hid ((show RdS wr (.slice ab b.length cb) (b) from HU.out).keepsNil kB)
      have HOw := Lib.hid (hO.keeps (HKW.out.trans kB) (by simp))
      have Hve2 := Lib.hid (fun (i : Nat) (x : List UInt8) (hx : (Lk)[i]? = some x) => by obtain ⟨u, hu, hr⟩ := hve i x hx; exact (⟨u, hu, hr.keepsNil (HKW.out.trans kB)⟩ : ∃ u, vs[i]? = some u ∧ RdS (wr.alloc (.cells #[.slice ab b.length cb] 22)) u x))
      have HX := Lib.hid (show (wr.alloc (.cells #[.slice ab b.length cb] 22)).cell? ⟨wr.heap.size, 0, none⟩ = some (.slice ab b.length cb) from (Blk.newA wr 22 #[.slice ab b.length cb]).cell' rfl)
      have hB : w3.heap.size ≤ (wr.alloc (.cells #[.slice ab b.length cb] 22)).heap.size := by have := HK.out.size; have := HKW.out.size; simp; omega
      have hvl6 : vs.length ≤ 1000000 := by omega
      have HK2 := Lib.hid ((HK.out.trans HKW.out).trans kB)
      have Hvl := Lib.hid hvl
      clear hO hve kB hvl
      go_wp2_with (at_builtin; (refine wpList_append_bs rfl (.tmp 25) (.tmp 30) rfl HOw.out rfl (.slice ab b.length cb) rfl _ 0 1 rfl HX.out hvl6 hB ?_); intro v3 w3 g1 g2 g3)
      go_roundw
      case rel =>
        refine ⟨k + 1, by omega, by go_num, ?_, HK2.out.grown g2 (fun x hx => .inr (HOw.out.block hx).1)⟩
        rw [Hsn.out]
        exact Pcs.snoc HOw.out Hvl.out Hve2.out HUB.out g1 g2
      case measure => simp [intOf]; omega
    · obtain rfl : k = R.length := by omega
      rw [List.take_length] at hP
      have HRL := Lib.hid hP.rdl
      obtain ⟨asl, csl, rfl, _⟩ := hP.rdl
      have HKr := Lib.hid hK
      have hs1 := HK1.out.size
      have hs3 := (HK3.out.trans hK).size
      have HS := Lib.hid (bsum_calls HRL.out z f5 f4 Hse.out (by rw [List.length_map]; omega) (by rw [List.length_map]; omega))
      have HE := Lib.hid (show (R.map fun i => A.getD i []).length = (R.map fun i => A.getD i []).length from rfl)
      clear hP hK
      generalize (R.map fun i => A.getD i []) = Q at *
      go_wp2_with fail
      refine HS.out.mono ?_
      rintro e w5 ⟨g, rfl, hg, hG, k5⟩
      rw [← Hsd.out] at hG ⊢
      have HG := Lib.hid hG
      clear hG
      go_wp2_with fail
      go_ret
      exact ⟨g, by rw [Hsl.out]; rfl, by omega, by rw [HYq.out]; exact HG.out, ((HH.out.keepsNil HK3.out).keepsNil HKr.out).keepsNil k5, HK1.out.trans' ((HK3.out.trans HKr.out).trans k5) (fun _ h => .inl h) (by simp)⟩

end Go.Proofs.YtijhaeapoapgfaaGreatDoor
