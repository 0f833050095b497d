/-
  Cd1: a head of a code, in memory; its pieces, made once.
-/
import Derived.Test.YtghgmchgbhdldaaGreatDoorPre2
set_option linter.unusedVariables false
set_option linter.unusedSimpArgs false
namespace Go.Proofs.YtghgmchgbhdldaaGreatDoor
open Go.RowKit
attribute [local go_sem ↓] Go.wp_at_zero Go.wp_at_succ

/-- An image that fits its parameters. -/
structure Fits (K P z : Nat) (img : List UInt8) : Prop where
  k1 : 1 ≤ K
  k2 : K ≤ 64
  p2 : P ≤ 16
  z1 : 1 ≤ z
  z2 : z ≤ 16
  l : img.length ≤ 512
  c : bcount img.length z = K
  f : img.length ≤ K * z

def HdL (s : UInt32) (K P z : Nat) (vi x1 x2 x3 v : Value) : List Value := [B32 s, .int .i64 K, .int .i64 P, .int .i64 z, vi, x1, x2, x3, v]

/-- .. and what is done to blocks of other types makes no difference. -/
theorem Pcs.keepsP {S : List Nat} {w w' : World} {B : Nat} {v : Value} {L : List (List UInt8)} (h : Pcs w B v L) (k : Keeps S w w') (hS : ∀ x, x ∈ S → ∃ t cs, Blk w x t cs ∧ 5 ≠ t ∧ 28 ≠ t) : Pcs w' B v L := by
  obtain ⟨vs, hO, hl, he⟩ := h
  refine ⟨vs, ⟨hO.1, ?_⟩, hl, fun i x hx => ?_⟩
  · rcases hO.2 with ⟨rfl, h0⟩ | ⟨g, cap, cur, rfl, hb, hg, hn, hm, hs, ht⟩
    · exact .inl ⟨rfl, h0⟩
    · refine .inr ⟨g, cap, cur, rfl, hb, (k.block g (Array.getElem?_eq_some_iff.1 hg).1 (fun hm => ?_)).trans hg, hn, hm, hs, ht⟩
      obtain ⟨t, cs, h1, h2, h3⟩ := hS g hm
      obtain ⟨_, _, cs', hb'⟩ := (show OwnX 28 w B (.slice (some ⟨g, 0, none⟩) vs.length cap) vs from hO).block (x := g) rfl
      exact hb'.ne h1 h3 rfl
  · obtain ⟨u, hu, a, c, rfl, r1, r2, r3, r4, r5⟩ := he i x hx
    have hne : ∀ y, a = some y → x ≠ [] → y.block ∉ S := fun y hy hx' hm => by
      obtain ⟨t, cs, h1, h2, h3⟩ := hS y.block hm
      obtain ⟨cs', hb'⟩ := r5 y hy hx'
      exact hb'.ne h1 h2 rfl
    exact ⟨_, hu, a, c, rfl, r1, r2, r3.keeps k hne, r4, fun y hy hx' => by obtain ⟨cs', hb'⟩ := r5 y hy hx'; exact ⟨cs', hb'.keeps k (hne y hy hx')⟩⟩
theorem PcsA.keepsP {S : List Nat} {w w' : World} {B : Nat} {Q : Nat → Prop} {v : Value} {L : List (List UInt8)} (h : PcsA w B Q v L) (k : Keeps S w w') (hS : ∀ x, x ∈ S → ∃ t cs, Blk w x t cs ∧ 5 ≠ t ∧ 28 ≠ t) : PcsA w' B Q v L := by
  obtain ⟨vs, hO, hl, he⟩ := h
  refine ⟨vs, ⟨hO.1, ?_⟩, hl, fun i x hx => ?_⟩
  · rcases hO.2 with ⟨rfl, h0⟩ | ⟨g, cap, cur, rfl, hb, hg, hn, hm, hs, ht⟩
    · exact .inl ⟨rfl, h0⟩
    · refine .inr ⟨g, cap, cur, rfl, hb, (k.block g (Array.getElem?_eq_some_iff.1 hg).1 (fun hm => ?_)).trans hg, hn, hm, hs, ht⟩
      obtain ⟨t, cs, h1, h2, h3⟩ := hS g hm
      obtain ⟨_, _, cs', hb'⟩ := (show OwnX 28 w B (.slice (some ⟨g, 0, none⟩) vs.length cap) vs from hO).block (x := g) rfl
      exact hb'.ne h1 h3 rfl
  · obtain ⟨u, hu, ⟨a, c, rfl, r1, r2, r3, r4, r5⟩, hq⟩ := he i x hx
    have hne : ∀ y, a = some y → x ≠ [] → y.block ∉ S := fun y hy hx' hm => by
      obtain ⟨t, cs, h1, h2, h3⟩ := hS y.block hm
      obtain ⟨cs', hb'⟩ := r5 y hy hx'
      exact hb'.ne h1 h2 rfl
    exact ⟨_, hu, ⟨a, c, rfl, r1, r2, r3.keeps k hne, r4, fun y hy hx' => by obtain ⟨cs', hb'⟩ := r5 y hy hx'; exact ⟨cs', hb'.keeps k (hne y hy hx')⟩⟩, hq⟩
/-- What is done to other blocks makes no difference. -/
theorem RdS.keepsQ {S : List Nat} {w w' : World} {Q : Nat → Prop} {v : Value} {x : List UInt8} (h : RdS w v x) (hq : Up Q v) (k : Keeps S w w') (hS : ∀ x, x ∈ S → ¬ Q x) : RdS w' v x := by
  obtain ⟨a, c, rfl, r1, r2, r3, r4, r5⟩ := h
  have hne : ∀ y, a = some y → x ≠ [] → y.block ∉ S := fun y hy hx' hm => hS _ hm (hq y _ _ (by rw [hy]))
  exact ⟨a, c, rfl, r1, r2, r3.keeps k hne, r4, fun y hy hx' => by obtain ⟨cs', hb'⟩ := r5 y hy hx'; exact ⟨cs', hb'.keeps k (hne y hy hx')⟩⟩
theorem PcsA.keepsQ {S : List Nat} {w w' : World} {B : Nat} {Q : Nat → Prop} {v : Value} {L : List (List UInt8)} (h : PcsA w B Q v L) (hv : Up Q v) (k : Keeps S w w') (hS : ∀ x, x ∈ S → ¬ Q x) : PcsA w' B Q v L := by
  obtain ⟨vs, hO, hl, he⟩ := h
  refine ⟨vs, ⟨hO.1, ?_⟩, hl, fun i x hx => ?_⟩
  · rcases hO.2 with ⟨rfl, h0⟩ | ⟨g, cap, cur, rfl, hb, hg, hn, hm, hs, ht⟩
    · exact .inl ⟨rfl, h0⟩
    · exact .inr ⟨g, cap, cur, rfl, hb, (k.block g (Array.getElem?_eq_some_iff.1 hg).1 (fun hm => hS g hm (hv _ _ _ rfl))).trans hg, hn, hm, hs, ht⟩
  · obtain ⟨u, hu, hr, hq⟩ := he i x hx
    exact ⟨u, hu, hr.keepsQ hq k hS, hq⟩
theorem PcsA.up {w : World} {B : Nat} {Q : Nat → Prop} {v : Value} {L : List (List UInt8)} (h : PcsA w B Q v L) : Up (B ≤ ·) v := by
  obtain ⟨vs, hO, hl, he⟩ := h
  intro a n c e
  rcases hO.2 with ⟨rfl, h0⟩ | ⟨g, cap, cur, rfl, hb, _⟩
  · cases e
  · simp only [Value.slice.injEq, Option.some.injEq] at e
    rw [← e.1]; exact hb
theorem RdS.keepsP {S : List Nat} {w w' : World} {v : Value} {x : List UInt8} (h : RdS w v x) (k : Keeps S w w') (hS : ∀ x, x ∈ S → ∃ t cs, Blk w x t cs ∧ 5 ≠ t) : RdS w' v x := by
  obtain ⟨a, c, rfl, r1, r2, r3, r4, r5⟩ := h
  have hne : ∀ y, a = some y → x ≠ [] → y.block ∉ S := fun y hy hx' hm => by
    obtain ⟨t, cs, h1, h2⟩ := hS y.block hm
    obtain ⟨cs', hb'⟩ := r5 y hy hx'
    exact hb'.ne h1 h2 rfl
  exact ⟨a, c, rfl, r1, r2, r3.keeps k hne, r4, fun y hy hx' => by obtain ⟨cs', hb'⟩ := r5 y hy hx'; exact ⟨cs', hb'.keeps k (hne y hy hx')⟩⟩

theorem split_len {img : List UInt8} {K z : Nat} : (bsplit img K z K).length = K := bsplit_len _ _ _ _

set_option maxRecDepth 100000 in
set_option maxHeartbeats 2000000 in
theorem hdfn_calls {w : World} {p bx : Nat} {s : UInt32} {nK P z : Nat} {vi x1 x2 x3 : Value} {img : List UInt8} (hb : Blk w p 85 [B32 s, .int .i64 nK, .int .i64 P, .int .i64 z, vi, x1, x2, x3, .slice none 0 0]) (hi : RdS w vi img) (hf : Fits nK P z img)
    (hbx : w.cell? ⟨bx, 0, none⟩ = some (.pointer (some ⟨p, 0, none⟩))) (hne : bx ≠ p) :
    Calls Tryz.prog 54 (#[] ++ #[.pointer (some ⟨bx, 0, none⟩)]) w fun e w' => ∃ v, e = .returned (.tuple #[]) ∧ Blk w' p 85 [B32 s, .int .i64 nK, .int .i64 P, .int .i64 z, vi, x1, x2, x3, v] ∧ PcsA w' w.heap.size (w.heap.size ≤ ·) v (pieces s nK P z img) ∧ Keeps [p] w w' := by
  have c0 := hb.cell' (i := 0) rfl
  have c1 := hb.cell' (i := 1) rfl
  have c2 := hb.cell' (i := 2) rfl
  have c3 := hb.cell' (i := 3) rfl
  have c4 := hb.cell' (i := 4) rfl
  have hpl := hb.lt
  obtain ⟨f1, f2, f3, f4, f5, f6, f7, f8⟩ := hf
  have HC1 := Lib.hid (bsplit_calls (hi.keepsNil (Keeps.refl [] w).drew) nK z f6 f4 f5 f7 f1 f2 f8)
  have hsl := split_len (img := img) (K := nK) (z := z)
  have hse := bsplit_each (img := img) (K := nK) (size := z) (k := nK) f8 (Nat.le_refl _)
  have hpc : pieces s nK P z img = ball s z (bsplit img nK z nK) P := rfl
  generalize bsplit img nK z nK = L at *
  have HB := Lib.hid hb
  obtain ⟨ai, ci, rfl, _⟩ := id hi
  have Hpc := Lib.hid hpc
  have Hse := Lib.hid hse
  have Hsl := Lib.hid hsl
  clear hb hi f7 f8 hpc hse hsl
  go_enter Tryz.func54, Tryz.ntmps54
  go_wp2_with fail
  refine wp_region_noPanic ?_
  refine wp_region_held_drew (S := (fun w' => w'.cell? ⟨bx, 0, none⟩ = some (.pointer (some ⟨p, 0, none⟩)) ∧ w'.cell? ⟨p, 0, none⟩ = some (B32 s) ∧ w'.cell? ⟨p, 1, none⟩ = some (.int .i64 nK) ∧ w'.cell? ⟨p, 2, none⟩ = some (.int .i64 P) ∧ w'.cell? ⟨p, 3, none⟩ = some (.int .i64 z) ∧ w'.cell? ⟨p, 4, none⟩ = some (.slice ai img.length ci))) (by kernel_rfl) ⟨hbx, c0, c1, c2, c3, c4⟩ (fun hHeld => ?_)
  have kd : Keeps [] w w.drew := (Keeps.refl [] w).drew
  refine wpAnyH_take (i := 0) (v := ?v1_1) rfl (by kernel_rfl) (by kernel_rfl) (by kernel_rfl) (fun _ _ _ h => h) (Or.inl ⟨by rfl, ?y1_1⟩) (by assumption) ?r1_1
  case y1_1 => (intro w hSw; (try dsimp only at hSw); go_simp; try with_reducible rfl)
  (try simp only [Act.put, List.getElem_toArray, List.getElem_cons_zero, List.getElem_cons_succ, List.setIfInBounds_toArray, List.set_cons_zero, List.set_cons_succ])
  refine wpAnyH_take (i := 1) (v := ?v1_2) rfl (by kernel_rfl) (by kernel_rfl) (by kernel_rfl) (fun _ _ _ h => h) (Or.inl ⟨by rfl, ?y1_2⟩) (by assumption) ?r1_2
  case y1_2 => (intro w hSw; (try dsimp only at hSw); go_simp; try with_reducible rfl)
  (try simp only [Act.put, List.getElem_toArray, List.getElem_cons_zero, List.getElem_cons_succ, List.setIfInBounds_toArray, List.set_cons_zero, List.set_cons_succ])
  refine wpAnyH_take (i := 2) (v := ?v1_3) rfl (by kernel_rfl) (by kernel_rfl) (by kernel_rfl) (fun _ _ _ h => h) (Or.inl ⟨by rfl, ?y1_3⟩) (by assumption) ?r1_3
  case y1_3 => (intro w hSw; (try dsimp only at hSw); go_simp; try with_reducible rfl)
  (try simp only [Act.put, List.getElem_toArray, List.getElem_cons_zero, List.getElem_cons_succ, List.setIfInBounds_toArray, List.set_cons_zero, List.set_cons_succ])
  refine wpAnyH_take (i := 3) (v := ?v1_4) rfl (by kernel_rfl) (by kernel_rfl) (by kernel_rfl) (fun _ _ _ h => h) (Or.inl ⟨by rfl, ?y1_4⟩) (by assumption) ?r1_4
  case y1_4 => (intro w hSw; (try dsimp only at hSw); go_simp; try with_reducible rfl)
  (try simp only [Act.put, List.getElem_toArray, List.getElem_cons_zero, List.getElem_cons_succ, List.setIfInBounds_toArray, List.set_cons_zero, List.set_cons_succ])
  refine wpAnyH_take (i := 4) (v := ?v1_5) rfl (by kernel_rfl) (by kernel_rfl) (by kernel_rfl) (fun _ _ _ h => h) (Or.inl ⟨by rfl, ?y1_5⟩) (by assumption) ?r1_5
  case y1_5 => (intro w hSw; (try dsimp only at hSw); go_simp; try with_reducible rfl)
  (try simp only [Act.put, List.getElem_toArray, List.getElem_cons_zero, List.getElem_cons_succ, List.setIfInBounds_toArray, List.set_cons_zero, List.set_cons_succ])
  refine wpAnyH_take (i := 5) (v := ?v1_6) rfl (by kernel_rfl) (by kernel_rfl) (by kernel_rfl) (fun _ _ _ h => h) (Or.inl ⟨by rfl, ?y1_6⟩) (by assumption) ?r1_6
  case y1_6 => (intro w hSw; (try dsimp only at hSw); go_simp; try with_reducible rfl)
  (try simp only [Act.put, List.getElem_toArray, List.getElem_cons_zero, List.getElem_cons_succ, List.setIfInBounds_toArray, List.set_cons_zero, List.set_cons_succ])
  refine wpAnyH_take (i := 6) (v := ?v1_7) rfl (by kernel_rfl) (by kernel_rfl) (by kernel_rfl) (fun _ _ _ h => h) (Or.inl ⟨by rfl, ?y1_7⟩) (by assumption) ?r1_7
  case y1_7 => (intro w hSw; (try dsimp only at hSw); go_simp; try with_reducible rfl)
  (try simp only [Act.put, List.getElem_toArray, List.getElem_cons_zero, List.getElem_cons_succ, List.setIfInBounds_toArray, List.set_cons_zero, List.set_cons_succ])
  refine wpAnyH_take (i := 7) (v := ?v1_8) rfl (by kernel_rfl) (by kernel_rfl) (by kernel_rfl) (fun _ _ _ h => h) (Or.inl ⟨by rfl, ?y1_8⟩) (by assumption) ?r1_8
  case y1_8 => (intro w hSw; (try dsimp only at hSw); go_simp; try with_reducible rfl)
  (try simp only [Act.put, List.getElem_toArray, List.getElem_cons_zero, List.getElem_cons_succ, List.setIfInBounds_toArray, List.set_cons_zero, List.set_cons_succ])
  refine wpAnyH_take (i := 8) (v := ?v1_9) rfl (by kernel_rfl) (by kernel_rfl) (by kernel_rfl) (fun _ _ _ h => h) (Or.inl ⟨by rfl, ?y1_9⟩) (by assumption) ?r1_9
  case y1_9 => (intro w hSw; (try dsimp only at hSw); go_simp; try with_reducible rfl)
  (try simp only [Act.put, List.getElem_toArray, List.getElem_cons_zero, List.getElem_cons_succ, List.setIfInBounds_toArray, List.set_cons_zero, List.set_cons_succ])
  refine wpAnyH_take (i := 9) (v := ?v1_10) rfl (by kernel_rfl) (by kernel_rfl) (by kernel_rfl) (fun _ _ _ h => h) (Or.inl ⟨by rfl, ?y1_10⟩) (by assumption) ?r1_10
  case y1_10 => (intro w hSw; (try dsimp only at hSw); go_simp; try with_reducible rfl)
  (try simp only [Act.put, List.getElem_toArray, List.getElem_cons_zero, List.getElem_cons_succ, List.setIfInBounds_toArray, List.set_cons_zero, List.set_cons_succ])
  refine wpAnyH_take (i := 10) (v := ?v1_11) rfl (by kernel_rfl) (by kernel_rfl) (by kernel_rfl) (fun _ _ _ h => h) (Or.inl ⟨by rfl, ?y1_11⟩) (by assumption) ?r1_11
  case y1_11 => (intro w hSw; (try dsimp only at hSw); go_simp; try with_reducible rfl)
  (try simp only [Act.put, List.getElem_toArray, List.getElem_cons_zero, List.getElem_cons_succ, List.setIfInBounds_toArray, List.set_cons_zero, List.set_cons_succ])
  refine wpAnyH_take (i := 11) (v := ?v1_12) rfl (by kernel_rfl) (by kernel_rfl) (by kernel_rfl) (fun _ _ _ h => h) (Or.inl ⟨by rfl, ?y1_12⟩) (by assumption) ?r1_12
  case y1_12 => (intro w hSw; (try dsimp only at hSw); go_simp; try with_reducible rfl)
  (try simp only [Act.put, List.getElem_toArray, List.getElem_cons_zero, List.getElem_cons_succ, List.setIfInBounds_toArray, List.set_cons_zero, List.set_cons_succ])
  refine wpAnyH_take (i := 12) (v := ?v1_13) rfl (by kernel_rfl) (by kernel_rfl) (by kernel_rfl) (fun _ _ _ h => h) (Or.inl ⟨by rfl, ?y1_13⟩) (by assumption) ?r1_13
  case y1_13 => (intro w hSw; (try dsimp only at hSw); go_simp; try with_reducible rfl)
  (try simp only [Act.put, List.getElem_toArray, List.getElem_cons_zero, List.getElem_cons_succ, List.setIfInBounds_toArray, List.set_cons_zero, List.set_cons_succ])
  refine wpAnyH_take (i := 13) (v := ?v1_14) rfl (by kernel_rfl) (by kernel_rfl) (by kernel_rfl) (fun _ _ _ h => h) (Or.inl ⟨by rfl, ?y1_14⟩) (by assumption) ?r1_14
  case y1_14 => (intro w hSw; (try dsimp only at hSw); go_simp; try with_reducible rfl)
  (try simp only [Act.put, List.getElem_toArray, List.getElem_cons_zero, List.getElem_cons_succ, List.setIfInBounds_toArray, List.set_cons_zero, List.set_cons_succ])
  refine wpAnyH_ready (rs := [14]) (by kernel_rfl) (by simp) ?_
  refine AllReadyH.cons rfl (fun K hK => ?_) AllReadyH.nil
  go_simp
  refine HC1.out.mono ?_
  rintro e w1 ⟨v1, rfl, hP1, k1⟩
  replace kd := kd.trans k1
  have HC2 := Lib.hid (ppieces_calls hP1.rdl s nK P z f1 f2 f3 f4 f5 Hsl.out Hse.out)
  obtain ⟨a1, b1, rfl, _⟩ := hP1.rdl
  clear hP1
  go_wp2_with fail
  refine hK.out _ _ ?s1_15 (fun hHeld => ?_)
  case s1_15 => ((try dsimp only) <;> (first | exact ⟨kd.cell0 hbx, kd.cell0 c0, kd.cell0 c1, kd.cell0 c2, kd.cell0 c3, kd.cell0 c4⟩))
  clear hK K
  (try simp only [Act.put, List.getElem_toArray, List.getElem_cons_zero, List.getElem_cons_succ, List.setIfInBounds_toArray, List.set_cons_zero, List.set_cons_succ])
  refine wpAnyH_ready (rs := [15]) (by kernel_rfl) (by simp) ?_
  refine AllReadyH.cons rfl (fun K hK => ?_) AllReadyH.nil
  go_simp
  refine HC2.out.mono ?_
  rintro e w2 ⟨v2, rfl, hP2, k2⟩
  have hs1 := kd.size
  replace kd := kd.trans k2
  have HP2 := Lib.hid hP2
  obtain ⟨a2, b2, rfl, _⟩ := hP2.rdl
  clear hP2
  go_wp2_with fail
  refine hK.out _ _ ?s1_16 (fun hHeld => ?_)
  case s1_16 => ((try dsimp only) <;> (first | exact ⟨kd.cell0 hbx, kd.cell0 c0, kd.cell0 c1, kd.cell0 c2, kd.cell0 c3, kd.cell0 c4⟩))
  clear hK K
  (try simp only [Act.put, List.getElem_toArray, List.getElem_cons_zero, List.getElem_cons_succ, List.setIfInBounds_toArray, List.set_cons_zero, List.set_cons_succ])
  have hb2 := HB.out.keeps kd (by simp)
  have c8 := hb2.cell' (i := 8) rfl
  have f8 := hb2.frozen 8
  have hb3 := hb2.set 8 (.slice a2 (ball s z L P).length b2)
  have k3 : Keeps [p] w2 (w2.setCell ⟨p, 8, none⟩ (.slice a2 (ball s z L P).length b2)) := (Keeps.refl [p] w2).setCell (by simp) _
  have hp2 : ¬ p = bx := fun h => hne h.symm
  refine wpAnyH_take (i := 16) (v := ?v1_17) rfl (by kernel_rfl) (by kernel_rfl) (by kernel_rfl) (fun _ _ _ h => h) (Or.inl ⟨by rfl, ?y1_17⟩) (by assumption) ?r1_17
  case y1_17 => (intro w hSw; (try dsimp only at hSw); go_simp; try with_reducible rfl)
  (try simp only [Act.put, List.getElem_toArray, List.getElem_cons_zero, List.getElem_cons_succ, List.setIfInBounds_toArray, List.set_cons_zero, List.set_cons_succ])
  refine wpAnyH_take (i := 17) (v := ?v1_18) rfl (by kernel_rfl) (by kernel_rfl) (by kernel_rfl) (fun _ _ _ h => h) (Or.inl ⟨by rfl, ?y1_18⟩) (by assumption) ?r1_18
  case y1_18 => (intro w hSw; (try dsimp only at hSw); go_simp; try with_reducible rfl)
  (try simp only [Act.put, List.getElem_toArray, List.getElem_cons_zero, List.getElem_cons_succ, List.setIfInBounds_toArray, List.set_cons_zero, List.set_cons_succ])
  refine wpAnyH_ready (rs := [18]) (by kernel_rfl) (by simp) ?_
  refine AllReadyH.cons rfl (fun K hK => ?_) AllReadyH.nil
  go_simp
  have q1 := World.cell?_setCell_other w2 ⟨p, 8, none⟩ ⟨bx, 0, none⟩ (.slice a2 (ball s z L P).length b2) (fun h => hp2 (congrArg Addr.block h))
  refine hK.out _ _ ?s1_19 (fun hHeld => ?_)
  case s1_19 => ((try dsimp only) <;> (first | exact ⟨q1.trans (kd.cell0 hbx), hb3.cell' (i := 0) rfl, hb3.cell' (i := 1) rfl, hb3.cell' (i := 2) rfl, hb3.cell' (i := 3) rfl, hb3.cell' (i := 4) rfl⟩))
  clear hK K
  (try simp only [Act.put, List.getElem_toArray, List.getElem_cons_zero, List.getElem_cons_succ, List.setIfInBounds_toArray, List.set_cons_zero, List.set_cons_succ])
  refine wpAnyH_done (by kernel_rfl) ?_ _
  refine NoPanic.normal ?_
  go_wp2_with fail
  go_end0
  have hsz2 : w.heap.size ≤ w1.heap.size := hs1
  refine ⟨_, rfl, hb3, ?_, kd.nil.trans k3⟩
  rw [Hpc.out]
  exact (HP2.out.mono hsz2 (fun x hx => Nat.le_trans hsz2 hx)).keepsP k3 (fun x hx => by simp only [List.mem_singleton] at hx; subst hx; exact ⟨_, _, hb2, by decide, by decide⟩)

end Go.Proofs.YtghgmchgbhdldaaGreatDoor
