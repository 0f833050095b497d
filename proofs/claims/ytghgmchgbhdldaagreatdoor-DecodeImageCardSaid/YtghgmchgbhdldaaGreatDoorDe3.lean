/-
  De3: decode's Image, walked: once all is there, worked out once.
-/
import Derived.Test.YtghgmchgbhdldaaGreatDoorDe2
import Derived.Test.YtghgmchgbhdldaaGreatDoorBk3
set_option linter.unusedVariables false
set_option linter.unusedSimpArgs false
namespace Go.Proofs.YtghgmchgbhdldaaGreatDoor
open Go.RowKit
attribute [local go_sem ↓] Go.wp_at_zero Go.wp_at_succ

def DSolved (w : World) (p : Nat) (s : UInt32) (nK P z pm tk : Nat) (M : Mtx) (x1 x2 x3 : Value) (e : Ending) (w' : World) : Prop :=
  ∃ v, e = .returned (.tuple #[]) ∧ Blk w' p 75 [B32 s, .int .i64 nK, .int .i64 P, .int .i64 z, P0 pm, .int .i64 tk, x1, x2, x3, v] ∧ Pcs w' 0 v (dats M (nK + P)) ∧ Keeps [p] w w'

/-- What is done to a block of another kind makes no difference to pieces. -/
theorem Pcs.past {w w' : World} {p B : Nat} {t : TypeId} {cs : List Value} {v : Value} {L : List (List UInt8)} (h : Pcs w B v L) (k : Keeps [p] w w') (hb : Blk w p t cs) (h1 : 5 ≠ t) (h2 : 28 ≠ t) : Pcs w' B v L :=
  h.keepsP k (fun x hx => by simp only [List.mem_singleton] at hx; subst hx; exact ⟨t, cs, hb, h1, h2⟩)

set_option maxRecDepth 100000 in
set_option maxHeartbeats 1600000 in
theorem dimg1_calls {w : World} {p bx pm tk : Nat} {s : UInt32} {nK P z : Nat} {M : Mtx} {Fm : List Nat} {x1 x2 x3 : Value} (hb : Blk w p 75 [B32 s, .int .i64 nK, .int .i64 P, .int .i64 z, P0 pm, .int .i64 tk, x1, x2, x3, .slice none 0 0]) (hM : MxF w pm (nK + P) z M Fm) (hf : rank M = nK + P)
    (hbx : w.cell? ⟨bx, 0, none⟩ = some (.pointer (some ⟨p, 0, none⟩))) (hne : bx ≠ p) :
    Calls Tryz.prog 31 (#[] ++ #[.pointer (some ⟨bx, 0, none⟩)]) w (DSolved w p s nK P z pm tk M x1 x2 x3) := by
  have c4 := hb.cell' (i := 4) rfl
  have hpl := hb.lt
  have HS := Lib.hid (msolve_calls (hM.keepsNil (Keeps.refl [] w).drew) hf)
  have HB := Lib.hid hb
  clear hb hM hf
  go_enter Tryz.func31, Tryz.ntmps31
  go_wp2_with fail
  refine wp_region_noPanic ?_
  refine wp_region_held_drew (S := (fun w' => w'.cell? ⟨bx, 0, none⟩ = some (.pointer (some ⟨p, 0, none⟩)) ∧ w'.cell? ⟨p, 4, none⟩ = some (P0 pm))) (by kernel_rfl) ⟨hbx, c4⟩ (fun hHeld => ?_)
  have kd : Keeps [] w w.drew := (Keeps.refl [] w).drew
  refine wpAnyH_take (i := 0) (v := ?v1_1) rfl (by kernel_rfl) (by kernel_rfl) (by kernel_rfl) (fun _ _ _ h => h) (Or.inl ⟨by rfl, ?y1_1⟩) (by assumption) ?r1_1
  case y1_1 => (intro w hSw; (try dsimp only at hSw); go_simp; try with_reducible rfl)
  (try simp only [Act.put, List.getElem_toArray, List.getElem_cons_zero, List.getElem_cons_succ, List.setIfInBounds_toArray, List.set_cons_zero, List.set_cons_succ])
  refine wpAnyH_take (i := 1) (v := ?v1_2) rfl (by kernel_rfl) (by kernel_rfl) (by kernel_rfl) (fun _ _ _ h => h) (Or.inl ⟨by rfl, ?y1_2⟩) (by assumption) ?r1_2
  case y1_2 => (intro w hSw; (try dsimp only at hSw); go_simp; try with_reducible rfl)
  (try simp only [Act.put, List.getElem_toArray, List.getElem_cons_zero, List.getElem_cons_succ, List.setIfInBounds_toArray, List.set_cons_zero, List.set_cons_succ])
  refine wpAnyH_take (i := 2) (v := ?v1_3) rfl (by kernel_rfl) (by kernel_rfl) (by kernel_rfl) (fun _ _ _ h => h) (Or.inl ⟨by rfl, ?y1_3⟩) (by assumption) ?r1_3
  case y1_3 => (intro w hSw; (try dsimp only at hSw); go_simp; try with_reducible rfl)
  (try simp only [Act.put, List.getElem_toArray, List.getElem_cons_zero, List.getElem_cons_succ, List.setIfInBounds_toArray, List.set_cons_zero, List.set_cons_succ])
  refine wpAnyH_take (i := 3) (v := ?v1_4) rfl (by kernel_rfl) (by kernel_rfl) (by kernel_rfl) (fun _ _ _ h => h) (Or.inl ⟨by rfl, ?y1_4⟩) (by assumption) ?r1_4
  case y1_4 => (intro w hSw; (try dsimp only at hSw); go_simp; try with_reducible rfl)
  (try simp only [Act.put, List.getElem_toArray, List.getElem_cons_zero, List.getElem_cons_succ, List.setIfInBounds_toArray, List.set_cons_zero, List.set_cons_succ])
  refine wpAnyH_take (i := 4) (v := ?v1_5) rfl (by kernel_rfl) (by kernel_rfl) (by kernel_rfl) (fun _ _ _ h => h) (Or.inl ⟨by rfl, ?y1_5⟩) (by assumption) ?r1_5
  case y1_5 => (intro w hSw; (try dsimp only at hSw); go_simp; try with_reducible rfl)
  (try simp only [Act.put, List.getElem_toArray, List.getElem_cons_zero, List.getElem_cons_succ, List.setIfInBounds_toArray, List.set_cons_zero, List.set_cons_succ])
  refine wpAnyH_ready (rs := [5]) (by kernel_rfl) (by simp) ?_
  refine AllReadyH.cons rfl (fun K hK => ?_) AllReadyH.nil
  go_simp
  refine HS.out.mono ?_
  rintro e w1 ⟨v1, rfl, hP1, k1⟩
  replace kd := kd.trans k1
  have HP1 := Lib.hid hP1
  obtain ⟨a1, b1, rfl, _⟩ := hP1.rdl
  have hb1 := HB.out.keeps kd (by simp)
  have HB1 := Lib.hid hb1
  have f9 := hb1.frozen 9
  have c9 := hb1.cell' (i := 9) rfl
  have hb3 := hb1.set 9 (.slice a1 (dats M (nK + P)).length b1)
  have k3 : Keeps [p] w1 (w1.setCell ⟨p, 9, none⟩ (.slice a1 (dats M (nK + P)).length b1)) := (Keeps.refl [p] w1).setCell (by simp) _
  have hp2 : ¬ p = bx := fun h => hne h.symm
  clear hP1 k1 hb1
  go_wp2_with fail
  refine hK.out _ _ ?s1_6 (fun hHeld => ?_)
  case s1_6 => ((try dsimp only) <;> (first | exact ⟨kd.cell0 hbx, kd.cell0 c4⟩))
  clear hK K
  (try simp only [Act.put, List.getElem_toArray, List.getElem_cons_zero, List.getElem_cons_succ, List.setIfInBounds_toArray, List.set_cons_zero, List.set_cons_succ])
  refine wpAnyH_take (i := 6) (v := ?v1_7) rfl (by kernel_rfl) (by kernel_rfl) (by kernel_rfl) (fun _ _ _ h => h) (Or.inl ⟨by rfl, ?y1_7⟩) (by assumption) ?r1_7
  case y1_7 => (intro w hSw; (try dsimp only at hSw); go_simp; try with_reducible rfl)
  (try simp only [Act.put, List.getElem_toArray, List.getElem_cons_zero, List.getElem_cons_succ, List.setIfInBounds_toArray, List.set_cons_zero, List.set_cons_succ])
  refine wpAnyH_take (i := 7) (v := ?v1_8) rfl (by kernel_rfl) (by kernel_rfl) (by kernel_rfl) (fun _ _ _ h => h) (Or.inl ⟨by rfl, ?y1_8⟩) (by assumption) ?r1_8
  case y1_8 => (intro w hSw; (try dsimp only at hSw); go_simp; try with_reducible rfl)
  (try simp only [Act.put, List.getElem_toArray, List.getElem_cons_zero, List.getElem_cons_succ, List.setIfInBounds_toArray, List.set_cons_zero, List.set_cons_succ])
  refine wpAnyH_ready (rs := [8]) (by kernel_rfl) (by simp) ?_
  refine AllReadyH.cons rfl (fun K hK => ?_) AllReadyH.nil
  go_simp
  have q1 := World.cell?_setCell_other w1 ⟨p, 9, none⟩ ⟨bx, 0, none⟩ (.slice a1 (dats M (nK + P)).length b1) (fun h => hp2 (congrArg Addr.block h))
  refine hK.out _ _ ?s1_9 (fun hHeld => ?_)
  case s1_9 => ((try dsimp only) <;> (first | exact ⟨q1.trans (kd.cell0 hbx), hb3.cell' (i := 4) rfl⟩))
  clear hK K
  (try simp only [Act.put, List.getElem_toArray, List.getElem_cons_zero, List.getElem_cons_succ, List.setIfInBounds_toArray, List.set_cons_zero, List.set_cons_succ])
  refine wpAnyH_done (by kernel_rfl) ?_ _
  refine NoPanic.normal ?_
  go_wp2_with fail
  go_end0
  exact ⟨_, rfl, hb3, ((HP1.out.mono (Nat.zero_le _)).past k3 HB1.out (by decide) (by decide)), kd.nil.trans k3⟩

set_option maxRecDepth 100000 in
set_option maxHeartbeats 1600000 in
theorem dslow_calls {w : World} {p bx pm tk : Nat} {s : UInt32} {nK P z : Nat} {M : Mtx} {Fm : List Nat} (hb : Blk w p 75 [B32 s, .int .i64 nK, .int .i64 P, .int .i64 z, P0 pm, .int .i64 tk, .int .u32 0, .int .i32 0, .int .u32 0, .slice none 0 0]) (hM : MxF w pm (nK + P) z M Fm) (hn : p ∉ Fm) (hf : rank M = nK + P)
    (hbx : w.cell? ⟨bx, 0, none⟩ = some (.pointer (some ⟨p, 0, none⟩))) (hne : bx ≠ p) :
    Calls Tryz.prog 53 #[.pointer (some ⟨p, 6, none⟩), .func (.func 31) #[] #[.pointer (some ⟨bx, 0, none⟩)]] w (DSolved w p s nK P z pm tk M (.int .u32 1) (.int .i32 0) (.int .u32 0)) := by
  have hb1 := hb.set 7 (.int .i32 1)
  have kp : Keeps [p] w (w.setCell ⟨p, 7, none⟩ (.int .i32 1)) := (Keeps.refl [p] w).setCell (by simp) _
  have hbx1 := World.cell?_setCell_other w ⟨p, 7, none⟩ ⟨bx, 0, none⟩ (.int .i32 1) (fun h => hne (congrArg Addr.block h).symm)
  have hF := dimg1_calls hb1 (hM.keeps kp (fun x hx => by simp only [List.mem_singleton] at hx; subst hx; exact hn)) hf (hbx1.trans hbx) hne
  have hsz : (w.setCell ⟨p, 7, none⟩ (.int .i32 1)).heap.size = w.heap.size := by simp [World.setCell]
  have hpl := hb.lt
  have hl := run_call_load (P := Tryz.prog) Tryz.func73 (by kernel_rfl) (by kernel_rfl) (by kernel_rfl) .u32 (by kernel_rfl) (w := w.setCell ⟨p, 7, none⟩ (.int .i32 1)) (a := ⟨p, 6, none⟩) (x := 0) (hb1.cell' (i := 6) rfl)
  have hnot : ∀ (x : Bool) (w : World), (Op.unary .not (.bool x)).run Tryz.prog w = .ok (.bool (!x)) w := fun _ _ => rfl
  have c2 := hb.cell' (i := 7) rfl
  have f2 := hb.frozen 7
  clear hbx hbx1 hM
  go_enter_defers Tryz.func53, Tryz.ntmps53
  go_wp2_with (first | (go_at_call 74; refine (lock_free ⟨p, 7, none⟩ _ c2 f2).mono ?_; rintro e w' ⟨rfl, rfl⟩) | (go_at_call 52; go_in) | (go_at_call 31; refine hF.mono ?_; rintro e w2 ⟨v, rfl, hb2, hO, hK⟩))
  have b3 := hb2.drew.set 6 (.int .u32 1)
  have b4 := b3.set 7 (.int .i32 0)
  have k3 : Keeps [p] w2 (w2.drew.setCell ⟨p, 6, none⟩ (.int .u32 1)) := ((Keeps.refl [p] w2).drew).setCell (by simp) _
  have k4 : Keeps [p] w2 ((w2.drew.setCell ⟨p, 6, none⟩ (.int .u32 1)).setCell ⟨p, 7, none⟩ (.int .i32 0)) := k3.setCell (by simp) _
  have o4 := hO.past k4 hb2 (by decide) (by decide)
  go_wp2
  refine leaves_cons (f := 76) (args := #[.pointer (some ⟨p, 6, none⟩), .bool true]) (by simp) (by simp [go_sem]) ?_
  refine (store_deferred ⟨p, 6, none⟩ (.int .u32 0) .returning _ (hb2.cell' (i := 6) rfl) (hb2.frozen 6)).mono ?_
  rintro e u' w'' ⟨rfl, rfl, rfl⟩
  refine leaves_cons (f := 75) (args := #[.pointer (some ⟨p, 7, none⟩)]) (by simp [settle]) (by simp [go_sem]) ?_
  refine (unlock_deferred ⟨p, 7, none⟩ _ _ (b3.cell' (i := 7) rfl) (b3.frozen 7)).mono ?_
  rintro e u' w'' ⟨rfl, rfl, rfl⟩
  simp [Leaves, settle, results, Tryz.results53]
  exact ⟨v, rfl, b4, o4, (kp.trans hK).trans k4⟩

set_option maxRecDepth 100000 in
set_option maxHeartbeats 1600000 in
theorem donce_calls {w : World} {p bx pm tk : Nat} {d : Int} {s : UInt32} {nK P z : Nat} {M : Mtx} {Fm : List Nat} {v : Value} (hb : Blk w p 75 [B32 s, .int .i64 nK, .int .i64 P, .int .i64 z, P0 pm, .int .i64 tk, .int .u32 d, .int .i32 0, .int .u32 0, v]) (hM : MxF w pm (nK + P) z M Fm) (hn : p ∉ Fm) (hf : rank M = nK + P)
    (ho : (d = 0 ∧ v = .slice none 0 0) ∨ (d = 1 ∧ rank M = nK + P ∧ Pcs w 0 v (dats M (nK + P))))
    (hbx : w.cell? ⟨bx, 0, none⟩ = some (.pointer (some ⟨p, 0, none⟩))) (hne : bx ≠ p) :
    Calls Tryz.prog 30 #[.pointer (some ⟨p, 6, none⟩), .func (.func 31) #[] #[.pointer (some ⟨bx, 0, none⟩)]] w (DSolved w p s nK P z pm tk M (.int .u32 1) (.int .i32 0) (.int .u32 0)) := by
  rcases ho with ⟨rfl, rfl⟩ | ⟨rfl, _, hP⟩
  · have hS := dslow_calls hb hM hn hf hbx hne
    have c1 := hb.cell' (i := 6) rfl
    have hl := run_call_load (P := Tryz.prog) Tryz.func73 (by kernel_rfl) (by kernel_rfl) (by kernel_rfl) .u32 (by kernel_rfl) c1
    have hnot : ∀ (x : Bool) (w : World), (Op.unary .not (.bool x)).run Tryz.prog w = .ok (.bool (!x)) w := fun _ _ => rfl
    clear hM hbx
    go_enter Tryz.func30, Tryz.ntmps30
    go_wp2_with (first | (go_at_call 53; refine hS.mono ?_; rintro e w2 ⟨v, rfl, hb2, hO, hK⟩) | (go_at_call 52; go_in))
    go_end0
    exact ⟨v, rfl, hb2, hO, hK⟩
  · refine (oncedone_calls ⟨p, 6, none⟩ _ w (hb.cell' (i := 6) rfl)).mono ?_
    rintro e w' ⟨rfl, rfl⟩
    exact ⟨v, rfl, hb, hP, Keeps.refl _ _⟩

end Go.Proofs.YtghgmchgbhdldaaGreatDoor
