/-
  GrDe1: the texts De1, De2, De3, De4, one behind another.
-/
import Derived.Test.YtijhaeapoapgfaaGreatDoorGrEl2
import Derived.Test.YtijhaeapoapgfaaGreatDoorGrRdZ
import Derived.Test.YtijhaeapoapgfaaGreatDoorGrCd2
set_option linter.unusedVariables false
set_option linter.unusedSimpArgs false
namespace Go.Proofs.YtijhaeapoapgfaaGreatDoor
open Go.RowKit
attribute [local go_sem ↓] Go.wp_at_zero Go.wp_at_succ

/-- Parameters that may be. -/
structure PmI (nK P z : Nat) : Prop where
  k1 : 1 ≤ nK
  k2 : nK ≤ 64
  p2 : P ≤ 16
  z1 : 1 ≤ z
  z2 : z ≤ 16
theorem Fits.pm {K P z : Nat} {img : List UInt8} (h : Fits K P z img) : PmI K P z := ⟨h.k1, h.k2, h.p2, h.z1, h.z2⟩

/-- A decoder: its matrix; once all is there, what was worked out. -/
def De (w : World) (p : Nat) (s : UInt32) (nK P z : Nat) (M : Mtx) (tk : Nat) (Fl : List Nat) : Prop :=
  ∃ pm Fm d v, Blk w p 150 [B32 s, .int .i64 nK, .int .i64 P, .int .i64 z, P0 pm, .int .i64 tk, .int .u32 d, .int .i32 0, .int .u32 0, v] ∧ MxF w pm (nK + P) z M Fm ∧ Ech (nK + P) z M ∧ Fl = p :: Fm ∧ p ∉ Fm ∧
    ((d = 0 ∧ v = .slice none 0 0) ∨ (d = 1 ∧ rank M = nK + P ∧ Pcs w 0 v (dats M (nK + P))))

theorem De.keeps {S : List Nat} {w w' : World} {p : Nat} {s : UInt32} {nK P z : Nat} {M : Mtx} {tk : Nat} {Fl : List Nat} (h : De w p s nK P z M tk Fl) (k : Keeps S w w') (hS : ∀ x ∈ S, x ∉ Fl) (hf : rank M = nK + P → Keeps [] w w') : De w' p s nK P z M tk Fl := by
  obtain ⟨pm, Fm, d, v, hb, hm, he, hfl, hn, ho⟩ := h
  subst hfl
  refine ⟨pm, Fm, d, v, hb.keeps k (fun hp => hS p hp (by simp)), hm.keeps k (fun x hx hm => hS x hx (by simp [hm])), he, rfl, hn, ?_⟩
  rcases ho with ho | ⟨h1, h2, h3⟩
  · exact .inl ho
  · exact .inr ⟨h1, h2, h3.keepsNil (hf h2)⟩
theorem De.keepsNil {w w' : World} {p : Nat} {s : UInt32} {nK P z : Nat} {M : Mtx} {tk : Nat} {Fl : List Nat} (h : De w p s nK P z M tk Fl) (k : Keeps [] w w') : De w' p s nK P z M tk Fl := h.keeps k (by simp) (fun _ => k)
theorem De.lt {w : World} {p : Nat} {s : UInt32} {nK P z : Nat} {M : Mtx} {tk : Nat} {Fl : List Nat} (h : De w p s nK P z M tk Fl) : ∀ x ∈ Fl, x < w.heap.size := by
  obtain ⟨pm, Fm, d, v, hb, ⟨pb, L, _, _, _, _, h4⟩, he, hfl, hn, ho⟩ := h
  subst hfl
  intro x hx
  simp only [List.mem_cons] at hx
  rcases hx with rfl | hx
  · exact hb.lt
  · exact h4 x hx
theorem pcs_sum {w : World} (s : UInt32) {nK P z : Nat} (h : PmI nK P z) : Calls Tryz.prog 81 #[.agg #[B32 s, .int .i64 nK, .int .i64 P, .int .i64 z]] w fun e w' => e = .returned (.int .i64 (nK + P : Nat)) ∧ Keeps [] w w' := by
  have hP := pieces_calls (w := w) s nK P z
  obtain ⟨h1, h2, h3, h4, h5⟩ := h
  have hok : PmOk (nK : Int) (P : Int) (z : Int) = true := by simp [PmOk]; omega
  rw [hok, if_pos rfl, show (nK : Int) + (P : Int) = ((nK + P : Nat) : Int) from by omega] at hP
  exact hP

set_option maxRecDepth 100000 in
set_option maxHeartbeats 1600000 in
theorem dneeds_calls {w : World} {p : Nat} {s : UInt32} {nK P z : Nat} {M : Mtx} {tk : Nat} {Fl : List Nat} (h : De w p s nK P z M tk Fl) (hp : PmI nK P z) :
    Calls Tryz.prog 41 #[P0 p] w fun e w' => e = .returned (.int .i64 (nK + P - rank M : Nat)) ∧ Keeps [] w w' := by
  obtain ⟨pm, Fm, d, v, hb, hm, he, _⟩ := h
  have hrk : rank M ≤ nK + P := by have := rank_le M; rw [he.l] at this; exact this
  have hn := he.l
  have c0 := hb.cell' (i := 0) rfl
  have c1 := hb.cell' (i := 1) rfl
  have c2 := hb.cell' (i := 2) rfl
  have c3 := hb.cell' (i := 3) rfl
  have c4 := hb.cell' (i := 4) rfl
  have HP := Lib.hid (fun w => pcs_sum (w := w) s hp)
  have HR := Lib.hid (fun (w' : World) (k : Keeps [] w w') => (hm.keepsNil k).rank_calls)
  have hb80 : nK + P ≤ 80 := by have := hp.k2; have := hp.p2; omega
  generalize rank M = rk at *
  clear hb hm he hp hn
  go_enter Tryz.func41, Tryz.ntmps41
  go_wp2_with fail
  go_region_held3 (fun w' => w'.cell? ⟨p, 0, none⟩ = some (B32 s) ∧ w'.cell? ⟨p, 1, none⟩ = some (.int .i64 nK) ∧ w'.cell? ⟨p, 2, none⟩ = some (.int .i64 P) ∧ w'.cell? ⟨p, 3, none⟩ = some (.int .i64 z) ∧ w'.cell? ⟨p, 4, none⟩ = some (P0 pm) ∧ Keeps [] w w')
    (first | exact ⟨c0, c1, c2, c3, c4, (Keeps.refl [] w).drew⟩ | exact ⟨c0, c1, c2, c3, c4, Keeps.refl [] w⟩ | exact ⟨nk.cell0 c0, nk.cell0 c1, nk.cell0 c2, nk.cell0 c3, nk.cell0 c4, nk⟩ | assumption)
    (first
      | (go_at_call 81; obtain ⟨_, _, _, _, _, sk⟩ : _ ∧ _ ∧ _ ∧ _ ∧ _ ∧ Keeps [] w _ := (by assumption); refine (HP.out _).mono ?_; rintro e w2 ⟨rfl, k2⟩; have nk := sk.trans k2)
      | (go_at_call 85; obtain ⟨_, _, _, _, _, nk⟩ : _ ∧ _ ∧ _ ∧ _ ∧ _ ∧ Keeps [] w _ := (by assumption); refine (HR.out _ nk).mono ?_; rintro e w' ⟨rfl, rfl⟩))
  all_goals go_wp2_with fail
  all_goals go_ret
  all_goals exact ⟨by simp [IntKind.wrap_i64]; omega, nk⟩

def TakePost (w : World) (p : Nat) (s : UInt32) (nK P z : Nat) (M : Mtx) (tk : Nat) (Fl : List Nat) (q : Rw) (e : Ending) (w' : World) : Prop :=
  ((red M q).x = 0 ∧ e = .returned (.bool false) ∧ Keeps [] w w') ∨
  ((red M q).x ≠ 0 ∧ e = .returned (.bool true) ∧ ∃ Fl', De w' p s nK P z (mAdd (nK + P) M q) (tk + 1) Fl' ∧ (∀ x ∈ Fl', x ∈ Fl ∨ w.heap.size ≤ x) ∧ Keeps Fl w w' ∧ w'.cell? ⟨p, 6, none⟩ = some (.int .u32 0))

theorem mAdd_ech {n z : Nat} {M : Mtx} (h : Ech n z M) {r : Rw} (hr : r.x < 2 ^ n) (hd : r.d.length = z) : Ech n z (mAdd n M r) := by
  unfold mAdd
  by_cases e : (red M r).x = 0
  · rw [if_pos e]; exact h
  · rw [if_neg e]
    obtain ⟨h1, h2⟩ := red_len h hr hd
    obtain ⟨a, ha, hf, hb1, hb2⟩ := firstB_some h1 e
    rw [hf, Int.toNat_natCast]
    exact madd_ech h h1 h2 ha hb1 hb2 (fun i p hp => red_clear h r hp)

set_option maxRecDepth 100000 in
set_option maxHeartbeats 1600000 in
theorem dtake_calls {w : World} {p : Nat} {s : UInt32} {nK P z : Nat} {M : Mtx} {tk : Nat} {Fl : List Nat} (h : De w p s nK P z M tk Fl) (hp : PmI nK P z) (ht : TzAt w) (htk : tk ≤ 1000000) (id : UInt32) {a : Option Addr} {c : Nat} {l : List UInt8} (hl : Rd w a l) (hlz : l.length = z) :
    Calls Tryz.prog 40 #[P0 p, B32 id, .slice a z c] w (TakePost w p s nK P z M tk Fl ⟨rowN s nK P id, l⟩) := by
  unfold TakePost
  obtain ⟨pm, Fm, d, v, hb, hM, he, hfl, hnp, ho⟩ := h
  have c0 := hb.cell' (i := 0) rfl
  have c1 := hb.cell' (i := 1) rfl
  have c2 := hb.cell' (i := 2) rfl
  have c3 := hb.cell' (i := 3) rfl
  have c4 := hb.cell' (i := 4) rfl
  have HRow := Lib.hid (fun w => row_calls (w := w) s nK P z hp.k1 hp.k2 hp.p2 hp.z1 hp.z2 id)
  have HS := Lib.hid (fun (w' : World) (k : Keeps [] w w') (pv gv : Nat) (hv : VecAt w' pv gv (nK + P) (rowN s nK P id)) => madd_calls (c := c) (hM.keepsNil k) he (ht.keeps k (by simp)) hv.vc (hl.keepsNil k) hlz)
  have hech := mAdd_ech he (r := ⟨rowN s nK P id, l⟩) (rowN_lt s nK P id) hlz
  have hfull : rank M = nK + P → (red M ⟨rowN s nK P id, l⟩).x = 0 := fun hr => by
    have h1 := (red_len he (r := ⟨rowN s nK P id, l⟩) (rowN_lt s nK P id) hlz).1
    apply Nat.eq_of_testBit_eq
    intro i
    rw [Nat.zero_testBit]
    by_cases hi : i < nK + P
    · obtain ⟨q, hq⟩ := full_at (by rw [hr, he.l]) (i := i) (by rw [he.l]; exact hi)
      exact red_clear he _ hq
    · exact bit_ge h1 (by omega)
  unfold AddPost at HS
  generalize (⟨rowN s nK P id, l⟩ : Rw) = q at *
  generalize rowN s nK P id = X at *
  have HB := Lib.hid hb
  have HM := Lib.hid hM
  have Hech := Lib.hid hech
  have Hfull := Lib.hid hfull
  have Hfl := Lib.hid hfl
  have Hnp := Lib.hid hnp
  have Ho := Lib.hid ho
  have hpl := hb.lt
  clear hb hM he hp hl hlz hech hfull hfl hnp ho ht
  go_enter Tryz.func40, Tryz.ntmps40
  go_wp2_with fail
  refine wp_region_noPanic ?_
  refine wp_region_held_drew (S := (fun w' => w'.cell? ⟨p, 0, none⟩ = some (B32 s) ∧ w'.cell? ⟨p, 1, none⟩ = some (.int .i64 nK) ∧ w'.cell? ⟨p, 2, none⟩ = some (.int .i64 P) ∧ w'.cell? ⟨p, 3, none⟩ = some (.int .i64 z) ∧ w'.cell? ⟨p, 4, none⟩ = some (P0 pm))) (by kernel_rfl) ⟨c0, c1, c2, c3, c4⟩ (fun hHeld => ?_)
  have kd : Keeps [] w w.drew := (Keeps.refl [] w).drew
  refine wpAnyH_take (i := 0) (v := ?v3_34) rfl (by kernel_rfl) (by kernel_rfl) (by kernel_rfl) (fun _ _ _ h => h) (Or.inl ⟨by rfl, ?y3_34⟩) (by assumption) ?r3_34
  case y3_34 => (intro w hSw; (try dsimp only at hSw); go_simp; try with_reducible rfl)
  (try simp only [Act.put, List.getElem_toArray, List.getElem_cons_zero, List.getElem_cons_succ, List.setIfInBounds_toArray, List.set_cons_zero, List.set_cons_succ])
  refine wpAnyH_take (i := 1) (v := ?v3_35) rfl (by kernel_rfl) (by kernel_rfl) (by kernel_rfl) (fun _ _ _ h => h) (Or.inl ⟨by rfl, ?y3_35⟩) (by assumption) ?r3_35
  case y3_35 => (intro w hSw; (try dsimp only at hSw); go_simp; try with_reducible rfl)
  (try simp only [Act.put, List.getElem_toArray, List.getElem_cons_zero, List.getElem_cons_succ, List.setIfInBounds_toArray, List.set_cons_zero, List.set_cons_succ])
  refine wpAnyH_take (i := 2) (v := ?v3_36) rfl (by kernel_rfl) (by kernel_rfl) (by kernel_rfl) (fun _ _ _ h => h) (Or.inl ⟨by rfl, ?y3_36⟩) (by assumption) ?r3_36
  case y3_36 => (intro w hSw; (try dsimp only at hSw); go_simp; try with_reducible rfl)
  (try simp only [Act.put, List.getElem_toArray, List.getElem_cons_zero, List.getElem_cons_succ, List.setIfInBounds_toArray, List.set_cons_zero, List.set_cons_succ])
  refine wpAnyH_take (i := 3) (v := ?v3_37) rfl (by kernel_rfl) (by kernel_rfl) (by kernel_rfl) (fun _ _ _ h => h) (Or.inl ⟨by rfl, ?y3_37⟩) (by assumption) ?r3_37
  case y3_37 => (intro w hSw; (try dsimp only at hSw); go_simp; try with_reducible rfl)
  (try simp only [Act.put, List.getElem_toArray, List.getElem_cons_zero, List.getElem_cons_succ, List.setIfInBounds_toArray, List.set_cons_zero, List.set_cons_succ])
  refine wpAnyH_take (i := 4) (v := ?v3_38) rfl (by kernel_rfl) (by kernel_rfl) (by kernel_rfl) (fun _ _ _ h => h) (Or.inl ⟨by rfl, ?y3_38⟩) (by assumption) ?r3_38
  case y3_38 => (intro w hSw; (try dsimp only at hSw); go_simp; try with_reducible rfl)
  (try simp only [Act.put, List.getElem_toArray, List.getElem_cons_zero, List.getElem_cons_succ, List.setIfInBounds_toArray, List.set_cons_zero, List.set_cons_succ])
  refine wpAnyH_take (i := 5) (v := ?v3_39) rfl (by kernel_rfl) (by kernel_rfl) (by kernel_rfl) (fun _ _ _ h => h) (Or.inl ⟨by rfl, ?y3_39⟩) (by assumption) ?r3_39
  case y3_39 => (intro w hSw; (try dsimp only at hSw); go_simp; try with_reducible rfl)
  (try simp only [Act.put, List.getElem_toArray, List.getElem_cons_zero, List.getElem_cons_succ, List.setIfInBounds_toArray, List.set_cons_zero, List.set_cons_succ])
  refine wpAnyH_take (i := 6) (v := ?v3_40) rfl (by kernel_rfl) (by kernel_rfl) (by kernel_rfl) (fun _ _ _ h => h) (Or.inl ⟨by rfl, ?y3_40⟩) (by assumption) ?r3_40
  case y3_40 => (intro w hSw; (try dsimp only at hSw); go_simp; try with_reducible rfl)
  (try simp only [Act.put, List.getElem_toArray, List.getElem_cons_zero, List.getElem_cons_succ, List.setIfInBounds_toArray, List.set_cons_zero, List.set_cons_succ])
  refine wpAnyH_take (i := 7) (v := ?v3_41) rfl (by kernel_rfl) (by kernel_rfl) (by kernel_rfl) (fun _ _ _ h => h) (Or.inl ⟨by rfl, ?y3_41⟩) (by assumption) ?r3_41
  case y3_41 => (intro w hSw; (try dsimp only at hSw); go_simp; try with_reducible rfl)
  (try simp only [Act.put, List.getElem_toArray, List.getElem_cons_zero, List.getElem_cons_succ, List.setIfInBounds_toArray, List.set_cons_zero, List.set_cons_succ])
  refine wpAnyH_take (i := 8) (v := ?v3_42) rfl (by kernel_rfl) (by kernel_rfl) (by kernel_rfl) (fun _ _ _ h => h) (Or.inl ⟨by rfl, ?y3_42⟩) (by assumption) ?r3_42
  case y3_42 => (intro w hSw; (try dsimp only at hSw); go_simp; try with_reducible rfl)
  (try simp only [Act.put, List.getElem_toArray, List.getElem_cons_zero, List.getElem_cons_succ, List.setIfInBounds_toArray, List.set_cons_zero, List.set_cons_succ])
  refine wpAnyH_take (i := 9) (v := ?v3_43) rfl (by kernel_rfl) (by kernel_rfl) (by kernel_rfl) (fun _ _ _ h => h) (Or.inl ⟨by rfl, ?y3_43⟩) (by assumption) ?r3_43
  case y3_43 => (intro w hSw; (try dsimp only at hSw); go_simp; try with_reducible rfl)
  (try simp only [Act.put, List.getElem_toArray, List.getElem_cons_zero, List.getElem_cons_succ, List.setIfInBounds_toArray, List.set_cons_zero, List.set_cons_succ])
  refine wpAnyH_take (i := 10) (v := ?v3_44) rfl (by kernel_rfl) (by kernel_rfl) (by kernel_rfl) (fun _ _ _ h => h) (Or.inl ⟨by rfl, ?y3_44⟩) (by assumption) ?r3_44
  case y3_44 => (intro w hSw; (try dsimp only at hSw); go_simp; try with_reducible rfl)
  (try simp only [Act.put, List.getElem_toArray, List.getElem_cons_zero, List.getElem_cons_succ, List.setIfInBounds_toArray, List.set_cons_zero, List.set_cons_succ])
  refine wpAnyH_take (i := 11) (v := ?v3_45) rfl (by kernel_rfl) (by kernel_rfl) (by kernel_rfl) (fun _ _ _ h => h) (Or.inl ⟨by rfl, ?y3_45⟩) (by assumption) ?r3_45
  case y3_45 => (intro w hSw; (try dsimp only at hSw); go_simp; try with_reducible rfl)
  (try simp only [Act.put, List.getElem_toArray, List.getElem_cons_zero, List.getElem_cons_succ, List.setIfInBounds_toArray, List.set_cons_zero, List.set_cons_succ])
  refine wpAnyH_take (i := 13) (v := ?v3_46) rfl (by kernel_rfl) (by kernel_rfl) (by kernel_rfl) (fun _ _ _ h => h) (Or.inl ⟨by rfl, ?y3_46⟩) (by assumption) ?r3_46
  case y3_46 => (intro w hSw; (try dsimp only at hSw); go_simp; try with_reducible rfl)
  (try simp only [Act.put, List.getElem_toArray, List.getElem_cons_zero, List.getElem_cons_succ, List.setIfInBounds_toArray, List.set_cons_zero, List.set_cons_succ])
  refine wpAnyH_ready (rs := [12]) (by kernel_rfl) (by simp) ?_
  refine AllReadyH.cons rfl (fun K hK => ?_) AllReadyH.nil
  go_simp
  refine (HRow.out _).mono ?_
  rintro e w2 ⟨pv, gv, rfl, _, _, hV, k2⟩
  replace kd := kd.trans k2
  have HS2 := Lib.hid (HS.out _ kd pv gv hV)
  clear hV k2
  go_wp2_with fail
  refine hK.out _ _ ?s3_47 (fun hHeld => ?_)
  case s3_47 => ((try dsimp only) <;> (first | exact ⟨kd.cell0 c0, kd.cell0 c1, kd.cell0 c2, kd.cell0 c3, kd.cell0 c4⟩))
  clear hK K
  (try simp only [Act.put, List.getElem_toArray, List.getElem_cons_zero, List.getElem_cons_succ, List.setIfInBounds_toArray, List.set_cons_zero, List.set_cons_succ])
  refine wpAnyH_ready (rs := [14]) (by kernel_rfl) (by simp) ?_
  refine AllReadyH.cons rfl (fun K hK => ?_) AllReadyH.nil
  go_simp
  refine HS2.out.mono ?_
  intro e w3 hpost
  have hk3 : Keeps Fm w2 w3 := by
    rcases hpost with ⟨_, _, k⟩ | ⟨_, _, _, _, _, k⟩
    · exact k.nil
    · exact k
  obtain ⟨bb, rfl, hbb⟩ : ∃ bb : Bool, e = .returned (.bool bb) ∧ ((bb = false ∧ (red M q).x = 0 ∧ Keeps [] w2 w3) ∨ (bb = true ∧ (red M q).x ≠ 0 ∧ ∃ Fl', MxF w3 pm (nK + P) z (mAdd (nK + P) M q) Fl' ∧ ∀ x ∈ Fl', x ∈ Fm ∨ w2.heap.size ≤ x)) := by
    rcases hpost with ⟨h1, h2, k⟩ | ⟨h1, h2, F', h3, h4, k⟩
    · exact ⟨false, h2, .inl ⟨rfl, h1, k⟩⟩
    · exact ⟨true, h2, .inr ⟨rfl, h1, F', h3, h4⟩⟩
  have Hbb := Lib.hid hbb
  have hb3 := (HB.out.keeps kd (by simp)).keeps hk3 Hnp.out
  have e0 := hb3.cell' (i := 0) rfl
  have e1 := hb3.cell' (i := 1) rfl
  have e2 := hb3.cell' (i := 2) rfl
  have e3 := hb3.cell' (i := 3) rfl
  have e4 := hb3.cell' (i := 4) rfl
  have HB3 := Lib.hid hb3
  have Hkd := Lib.hid kd
  have Hk3 := Lib.hid hk3
  clear hpost hbb hb3 kd hk3 HS2 HS
  go_wp2_with fail
  refine hK.out _ _ ?s3_48 (fun hHeld => ?_)
  case s3_48 => ((try dsimp only) <;> (first | exact ⟨e0, e1, e2, e3, e4⟩))
  clear hK K
  (try simp only [Act.put, List.getElem_toArray, List.getElem_cons_zero, List.getElem_cons_succ, List.setIfInBounds_toArray, List.set_cons_zero, List.set_cons_succ])
  refine wpAnyH_take (i := 15) (v := ?v3_49) rfl (by kernel_rfl) (by kernel_rfl) (by kernel_rfl) (fun _ _ _ h => h) (Or.inl ⟨by rfl, ?y3_49⟩) (by assumption) ?r3_49
  case y3_49 => (intro w hSw; (try dsimp only at hSw); go_simp; try with_reducible rfl)
  (try simp only [Act.put, List.getElem_toArray, List.getElem_cons_zero, List.getElem_cons_succ, List.setIfInBounds_toArray, List.set_cons_zero, List.set_cons_succ])
  refine wpAnyH_take (i := 16) (v := ?v3_50) rfl (by kernel_rfl) (by kernel_rfl) (by kernel_rfl) (fun _ _ _ h => h) (Or.inl ⟨by rfl, ?y3_50⟩) (by assumption) ?r3_50
  case y3_50 => (intro w hSw; (try dsimp only at hSw); go_simp; try with_reducible rfl)
  (try simp only [Act.put, List.getElem_toArray, List.getElem_cons_zero, List.getElem_cons_succ, List.setIfInBounds_toArray, List.set_cons_zero, List.set_cons_succ])
  refine wpAnyH_done (by kernel_rfl) ?_ _
  refine NoPanic.normal ?_
  clear c0 c1 c2 c3 c4 e0 e1 e2 e3 e4
  have hs2 := Hkd.out.size
  rcases Hbb.out with ⟨rfl, hx, k3⟩ | ⟨rfl, hx, F', hM', hF'⟩
  · have HX := Lib.hid hx
    have HK3 := Lib.hid k3
    clear hx k3 Hbb
    go_wp2_with fail
    go_ret
    exact .inl ⟨HX.out, rfl, Hkd.out.trans HK3.out⟩
  · have HX := Lib.hid hx
    have HM3 := Lib.hid hM'
    have HF' := Lib.hid hF'
    have HA := Lib.hid (iadd_calls (i := 5) _ _ HB3.out tk rfl (by omega))
    clear hx hM' hF' Hbb
    go_wp2_with fail
    refine HA.out.mono ?_
    rintro e w6 ⟨rfl, hw6⟩
    have Hw6 := Lib.hid hw6
    clear hw6
    go_wp2_with fail
    go_ret
    have hw6 := Hw6.out
    have hpF : p ∉ F' := fun hp' => by
      rcases HF'.out p hp' with h | h
      · exact Hnp.out h
      · omega
    have k6 : Keeps [p] w3 w6 := by rw [hw6]; exact (Keeps.refl [p] w3).setCell (by simp) _
    have hfl := Hfl.out
    have hnf : ¬ rank M = nK + P := fun h => HX.out (Hfull.out h)
    refine .inr ⟨HX.out, rfl, p :: F', ⟨pm, F', d, v, ?_, HM3.out.keeps k6 (fun x hx => by simp only [List.mem_singleton] at hx; subst hx; exact hpF), Hech.out, rfl, hpF, ?_⟩, fun x hx => ?_, ?_, ?_⟩
    · rw [hw6]
      exact HB3.out.set 5 _
    · rcases Ho.out with ho | ⟨_, h2, _⟩
      · exact .inl ho
      · exact absurd h2 hnf
    · simp only [List.mem_cons] at hx
      rw [hfl]
      rcases hx with rfl | hx
      · exact .inl (by simp)
      · rcases HF'.out x hx with h | h
        · exact .inl (by simp [h])
        · exact .inr (by omega)
    · rw [hfl]
      refine (Hkd.out.trans' Hk3.out (T := p :: Fm) (by simp) (fun x hx => .inl (by simp [hx]))).trans' k6 (fun _ h => .inl h) (fun x hx => .inl ?_)
      simp only [List.mem_singleton] at hx
      simp [hx]
    · have hd0 : d = 0 := by
        rcases Ho.out with ⟨ho, _⟩ | ⟨_, h2, _⟩
        · exact ho
        · exact absurd h2 hnf
      subst hd0
      rw [hw6]
      exact (HB3.out.set 5 _).cell' (i := 6) rfl

end Go.Proofs.YtijhaeapoapgfaaGreatDoor

set_option linter.unusedVariables false
set_option linter.unusedSimpArgs false
namespace Go.Proofs.YtijhaeapoapgfaaGreatDoor
open Go.RowKit
attribute [local go_sem ↓] Go.wp_at_zero Go.wp_at_succ

/-- A slice of rows, all its blocks from B on and below T. -/
def VRb (w : World) (B T : Nat) (v : Value) (n : Nat) (Xs : List Nat) : Prop :=
  ∃ a c, v = .slice a Xs.length c ∧ ∀ (j X : Nat), Xs[j]? = some X → ∃ g0 p g, a = some ⟨g0, 0, none⟩ ∧ (B ≤ g0 ∧ g0 < T) ∧ (B ≤ p ∧ p < T) ∧ (B ≤ g ∧ g < T) ∧ w.cell? ⟨g0, j, none⟩ = some (.pointer (some ⟨p, 0, none⟩)) ∧ VecAt w p g n X
theorem VRows.rb {w : World} {B n : Nat} {v : Value} {Xs : List Nat} (h : VRows w B v n Xs) : VRb w B w.heap.size v n Xs := by
  obtain ⟨vs, hO, hl, he⟩ := h
  obtain ⟨a, c, rfl, _, _, h3, _⟩ := hO.read
  rw [hl]
  refine ⟨a, c, rfl, fun j X hX => ?_⟩
  obtain ⟨p, g, hp, b1, b2, hV⟩ := he j X hX
  obtain ⟨g0, ha, hb, hc⟩ := h3 j _ hp
  exact ⟨g0, p, g, ha, ⟨hb, World.block_lt_of_cell? w _ hc⟩, ⟨b1, hV.b.lt⟩, ⟨b2, hV.r.lt⟩, hc, hV⟩
theorem VRb.keeps {S : List Nat} {w w' : World} {B T n : Nat} {v : Value} {Xs : List Nat} (h : VRb w B T v n Xs) (k : Keeps S w w') (hS : ∀ x ∈ S, x < B ∨ T ≤ x) : VRb w' B T v n Xs := by
  obtain ⟨a, c, rfl, he⟩ := h
  refine ⟨a, c, rfl, fun j X hX => ?_⟩
  obtain ⟨g0, p, g, ha, b0, b1, b2, hc, hV⟩ := he j X hX
  have hn : ∀ x, B ≤ x ∧ x < T → x ∉ S := fun x hx hm => by have := hS x hm; omega
  exact ⟨g0, p, g, ha, b0, b1, b2, (World.cell?_of_block (a := ⟨g0, j, none⟩) (k.block g0 (World.block_lt_of_cell? w _ hc) (hn _ b0))).trans hc, hV.keeps k (hn _ b1) (hn _ b2)⟩
theorem VRb.len {w : World} {B T n : Nat} {v : Value} {Xs : List Nat} (h : VRb w B T v n Xs) : ∃ a c, v = .slice a Xs.length c := by
  obtain ⟨a, c, rfl, _⟩ := h; exact ⟨a, c, rfl⟩

/-- The matrix behind the first k rows of parity, each with d zeros. -/
def pmx (s : UInt32) (nK P d : Nat) : Nat → Mtx
  | 0 => mnew (nK + P)
  | k + 1 => mAdd (nK + P) (pmx s nK P d k) ⟨parX s nK (nK + P) k nK, zer d⟩
theorem pmx_ech (s : UInt32) (nK P d : Nat) : ∀ k, Ech (nK + P) d (pmx s nK P d k)
  | 0 => mnew_ech _ _
  | k + 1 => mAdd_ech (pmx_ech s nK P d k) (parX_lt s (by omega) nK (Nat.le_refl _)) (zer_len d)

/-- What Add leaves, whether it says something new or not. -/
def AddAny (w : World) (pm n z : Nat) (M : Mtx) (q : Rw) (Fl : List Nat) (e : Ending) (w' : World) : Prop :=
  ∃ Fl', e = .returned (.bool (decide ((red M q).x ≠ 0))) ∧ MxF w' pm n z (mAdd n M q) Fl' ∧ (∀ x ∈ Fl', x ∈ Fl ∨ w.heap.size ≤ x) ∧ Keeps Fl w w' ∧ ((red M q).x = 0 → Keeps [] w w')
theorem mAdd_same {n : Nat} {M : Mtx} {r : Rw} (h : (red M r).x = 0) : mAdd n M r = M := by unfold mAdd; rw [if_pos h]
theorem AddPost.any {w w' : World} {pm n z : Nat} {M : Mtx} {q : Rw} {Fl : List Nat} {e : Ending} (hM : MxF w pm n z M Fl) (h : AddPost w pm n z M q Fl e w') : AddAny w pm n z M q Fl e w' := by
  rcases h with ⟨h1, rfl, k⟩ | ⟨h1, rfl, F', h2, h3, k⟩
  · exact ⟨Fl, by rw [decide_eq_false (by simp [h1])], by rw [mAdd_same h1]; exact hM.keepsNil k, fun x hx => .inl hx, k.nil, fun _ => k⟩
  · exact ⟨F', by rw [decide_eq_true h1], h2, h3, k, fun h => absurd h h1⟩

def DeNew (w : World) (s : UInt32) (nK P z : Nat) (e : Ending) (w' : World) : Prop :=
  ∃ p Fl, e = .returned (P0 p) ∧ De w' p s nK P z (pmx s nK P z P) 0 Fl ∧ (∀ x ∈ Fl, w.heap.size ≤ x) ∧ Keeps [] w w'

set_option maxRecDepth 100000 in
set_option maxHeartbeats 2000000 in
theorem dnew_calls {w : World} (s : UInt32) (nK P z : Nat) (hp : PmI nK P z) (ht : TzAt w) :
    Calls Tryz.prog 39 #[.agg #[B32 s, .int .i64 nK, .int .i64 P, .int .i64 z]] w (DeNew w s nK P z) := by
  unfold DeNew
  have h1 := hp.k1
  have h2 := hp.k2
  have h3 := hp.p2
  have h4 := hp.z1
  have h5 := hp.z2
  have hok : PmOk (nK : Int) (P : Int) (z : Int) = true := by simp [PmOk]; omega
  have hMy := fun w => may_calls (w := w) s nK P z
  simp only [hok] at hMy
  have hPc := fun w => pcs_sum (w := w) s hp
  have hEN := fun w => enew_calls (w := w) (nK + P) z (by omega) (by omega) h4 h5
  have hPR := fun w => prows_calls (w := w) s nK P z h1 h2 h3 h4 h5
  have hmk := fun w => make_u8 z z (Nat.le_refl _) (by omega) w
  have hech := pmx_ech s nK P z
  have hpx0 : pmx s nK P z 0 = mnew (nK + P) := rfl
  have hpxs : ∀ k, pmx s nK P z (k + 1) = mAdd (nK + P) (pmx s nK P z k) ⟨parX s nK (nK + P) k nK, zer z⟩ := fun k => rfl
  have hxl := parXs_len s nK (nK + P) P
  have hxa : ∀ k, k < P → (parXs s nK (nK + P) P)[k]? = some (parX s nK (nK + P) k nK) := fun k hk => by simp [parXs, hk]
  generalize pmx s nK P z = px at *
  generalize parXs s nK (nK + P) P = Xs at *
  have HMy := Lib.hid hMy
  have HPc := Lib.hid hPc
  have HEN := Lib.hid hEN
  have HPR := Lib.hid hPR
  have Hech := Lib.hid hech
  have Hpx0 := Lib.hid hpx0
  have Hpxs := Lib.hid hpxs
  have Hxl := Lib.hid hxl
  have Hxa := Lib.hid hxa
  clear hMy hPc hEN hPR hech hpx0 hpxs hxl hxa hok
  have kA : Keeps [] w (w.alloc (.cells #[B32 s, .int .i64 nK, .int .i64 P, .int .i64 z] 38)) := (Keeps.refl [] w).alloc _
  have hB0 := Blk.newA w 38 #[B32 s, .int .i64 nK, .int .i64 P, .int .i64 z]
  go_enter Tryz.func39, Tryz.ntmps39
  go_upto_region 1 with (fail)
  generalize w.alloc (.cells #[B32 s, .int .i64 nK, .int .i64 P, .int .i64 z] 38) = w0 at *
  have c0 := hB0.cell' (i := 0) rfl
  have c1 := hB0.cell' (i := 1) rfl
  have c2 := hB0.cell' (i := 2) rfl
  have c3 := hB0.cell' (i := 3) rfl
  go_wp2_with fail
  refine (HMy.out _).mono ?_
  rintro e w1 ⟨rfl, k1⟩
  have hB1 := hB0.keeps k1 (by simp)
  clear c0 c1 c2 c3
  have c0 := hB1.cell' (i := 0) rfl
  have c1 := hB1.cell' (i := 1) rfl
  have c2 := hB1.cell' (i := 2) rfl
  have c3 := hB1.cell' (i := 3) rfl
  have HB1 := Lib.hid hB1
  have hk1 := kA.trans k1
  have Hk1 := Lib.hid hk1
  clear hB0 hB1 kA k1 hk1
  go_wp2_with fail
  refine wp_region_noPanic ?_
  refine wp_region_held_drew (S := (fun w' => w'.cell? ⟨w.heap.size, 0, none⟩ = some (B32 s) ∧ w'.cell? ⟨w.heap.size, 1, none⟩ = some (.int .i64 nK) ∧ w'.cell? ⟨w.heap.size, 2, none⟩ = some (.int .i64 P) ∧ w'.cell? ⟨w.heap.size, 3, none⟩ = some (.int .i64 z))) (by kernel_rfl) ⟨c0, c1, c2, c3⟩ (fun hHeld => ?_)
  have kd : Keeps [] w1 w1.drew := (Keeps.refl [] w1).drew
  refine wpAnyH_take (i := 0) (v := ?v4_51) rfl (by kernel_rfl) (by kernel_rfl) (by kernel_rfl) (fun _ _ _ h => h) (Or.inl ⟨by rfl, ?y4_51⟩) (by assumption) ?r4_51
  case y4_51 => (intro w hSw; (try dsimp only at hSw); go_simp; try with_reducible rfl)
  (try simp only [Act.put, List.getElem_toArray, List.getElem_cons_zero, List.getElem_cons_succ, List.setIfInBounds_toArray, List.set_cons_zero, List.set_cons_succ])
  refine wpAnyH_take (i := 1) (v := ?v4_52) rfl (by kernel_rfl) (by kernel_rfl) (by kernel_rfl) (fun _ _ _ h => h) (Or.inl ⟨by rfl, ?y4_52⟩) (by assumption) ?r4_52
  case y4_52 => (intro w hSw; (try dsimp only at hSw); go_simp; try with_reducible rfl)
  (try simp only [Act.put, List.getElem_toArray, List.getElem_cons_zero, List.getElem_cons_succ, List.setIfInBounds_toArray, List.set_cons_zero, List.set_cons_succ])
  refine wpAnyH_take (i := 3) (v := ?v4_53) rfl (by kernel_rfl) (by kernel_rfl) (by kernel_rfl) (fun _ _ _ h => h) (Or.inl ⟨by rfl, ?y4_53⟩) (by assumption) ?r4_53
  case y4_53 => (intro w hSw; (try dsimp only at hSw); go_simp; try with_reducible rfl)
  (try simp only [Act.put, List.getElem_toArray, List.getElem_cons_zero, List.getElem_cons_succ, List.setIfInBounds_toArray, List.set_cons_zero, List.set_cons_succ])
  refine wpAnyH_take (i := 4) (v := ?v4_54) rfl (by kernel_rfl) (by kernel_rfl) (by kernel_rfl) (fun _ _ _ h => h) (Or.inl ⟨by rfl, ?y4_54⟩) (by assumption) ?r4_54
  case y4_54 => (intro w hSw; (try dsimp only at hSw); go_simp; try with_reducible rfl)
  (try simp only [Act.put, List.getElem_toArray, List.getElem_cons_zero, List.getElem_cons_succ, List.setIfInBounds_toArray, List.set_cons_zero, List.set_cons_succ])
  refine wpAnyH_ready (rs := [2]) (by kernel_rfl) (by simp) ?_
  refine AllReadyH.cons rfl (fun K hK => ?_) AllReadyH.nil
  go_simp
  refine (HPc.out _).mono ?_
  rintro e w2 ⟨rfl, k2⟩
  replace kd := kd.trans k2
  clear k2
  go_wp2_with fail
  refine hK.out _ _ ?s4_55 (fun hHeld => ?_)
  case s4_55 => ((try dsimp only) <;> (first | exact ⟨kd.cell0 c0, kd.cell0 c1, kd.cell0 c2, kd.cell0 c3⟩))
  clear hK K
  (try simp only [Act.put, List.getElem_toArray, List.getElem_cons_zero, List.getElem_cons_succ, List.setIfInBounds_toArray, List.set_cons_zero, List.set_cons_succ])
  refine wpAnyH_ready (rs := [5]) (by kernel_rfl) (by simp) ?_
  refine AllReadyH.cons rfl (fun K hK => ?_) AllReadyH.nil
  go_simp
  refine (HEN.out _).mono ?_
  rintro e w3 ⟨pm, F0, rfl, hM3, hF3, k3⟩
  have HF3 := Lib.hid (show ∀ x ∈ F0, w1.heap.size ≤ x from fun x hx => Nat.le_trans kd.size (hF3 x hx))
  have HM3 := Lib.hid hM3
  replace kd := kd.trans k3
  clear k3 hM3 hF3
  go_wp2_with fail
  refine hK.out _ _ ?s4_56 (fun hHeld => ?_)
  case s4_56 => ((try dsimp only) <;> (first | exact ⟨kd.cell0 c0, kd.cell0 c1, kd.cell0 c2, kd.cell0 c3⟩))
  clear hK K
  (try simp only [Act.put, List.getElem_toArray, List.getElem_cons_zero, List.getElem_cons_succ, List.setIfInBounds_toArray, List.set_cons_zero, List.set_cons_succ])
  refine wpAnyH_take (i := 6) (v := ?v4_57) rfl (by kernel_rfl) (by kernel_rfl) (by kernel_rfl) (fun _ _ _ h => h) (Or.inl ⟨by rfl, ?y4_57⟩) (by assumption) ?r4_57
  case y4_57 => (intro w hSw; (try dsimp only at hSw); go_simp; try with_reducible rfl)
  (try simp only [Act.put, List.getElem_toArray, List.getElem_cons_zero, List.getElem_cons_succ, List.setIfInBounds_toArray, List.set_cons_zero, List.set_cons_succ])
  refine wpAnyH_ready (rs := [7]) (by kernel_rfl) (by simp) ?_
  refine AllReadyH.cons rfl (fun K hK => ?_) AllReadyH.nil
  go_simp
  refine hK.out _ _ ?s4_58 (fun hHeld => ?_)
  case s4_58 => ((try dsimp only) <;> (first | exact ⟨(kd.alloc _).cell0 c0, (kd.alloc _).cell0 c1, (kd.alloc _).cell0 c2, (kd.alloc _).cell0 c3⟩))
  clear hK K
  (try simp only [Act.put, List.getElem_toArray, List.getElem_cons_zero, List.getElem_cons_succ, List.setIfInBounds_toArray, List.set_cons_zero, List.set_cons_succ])
  refine wpAnyH_take (i := 8) (v := ?v4_59) rfl (by kernel_rfl) (by kernel_rfl) (by kernel_rfl) (fun _ _ _ h => h) (Or.inl ⟨by rfl, ?y4_59⟩) (by assumption) ?r4_59
  case y4_59 => (intro w hSw; (try dsimp only at hSw); go_simp; try with_reducible rfl)
  (try simp only [Act.put, List.getElem_toArray, List.getElem_cons_zero, List.getElem_cons_succ, List.setIfInBounds_toArray, List.set_cons_zero, List.set_cons_succ])
  refine wpAnyH_done (by kernel_rfl) ?_ _
  refine NoPanic.normal ?_
  have hD4 := Blk.newA w3 150 #[B32 s, .int .i64 nK, .int .i64 P, .int .i64 z, P0 pm, .int .i64 0, .int .u32 0, .int .i32 0, .int .u32 0, .slice none 0 0]
  have k4 : Keeps [] w3 (w3.alloc (.cells #[B32 s, .int .i64 nK, .int .i64 P, .int .i64 z, P0 pm, .int .i64 0, .int .u32 0, .int .i32 0, .int .u32 0, .slice none 0 0] 150)) := (Keeps.refl [] w3).alloc _
  have HM4 := Lib.hid (HM3.out.keepsNil k4)
  have hF4 := HM3.out
  obtain ⟨pb0, L0, _, _, _, _, hFl⟩ := hF4
  have Hpn := Lib.hid (show ∀ x ∈ F0, x < w3.heap.size from hFl)
  have kd4 := kd.trans k4
  have hB4 := HB1.out.keeps kd4 (by simp)
  have hw13 := kd.size
  have hw34 := k4.size
  have hbw := HB1.out.lt
  have hpl := hD4.lt
  clear c0 c1 c2 c3
  have c0 := hB4.cell' (i := 0) rfl
  have c1 := hB4.cell' (i := 1) rfl
  have c2 := hB4.cell' (i := 2) rfl
  have c3 := hB4.cell' (i := 3) rfl
  have HD4 := Lib.hid hD4
  have HB4 := Lib.hid hB4
  have hk4 := Hk1.out.trans kd4
  have Hk4 := Lib.hid hk4
  clear hD4 hB4 k4 kd kd4 hk4 hFl HB1 HM3 Hk1 HEN HMy HPc
  generalize w3.alloc (.cells #[B32 s, .int .i64 nK, .int .i64 P, .int .i64 z, P0 pm, .int .i64 0, .int .u32 0, .int .i32 0, .int .u32 0, .slice none 0 0] 150) = w4 at *
  generalize hdp : w3.heap.size = dp at *
  go_wp2_with fail
  refine (HPR.out _).mono ?_
  rintro e w5 ⟨v5, rfl, hR5, k5⟩
  have HR5 := Lib.hid hR5.rb
  obtain ⟨a5, c5, rfl⟩ := hR5.rb.len
  rw [Hxl.out]
  have HM5 := Lib.hid (show MxF w5 pm (nK + P) z (px 0) F0 from by rw [Hpx0.out]; exact HM4.out.keepsNil k5)
  have HD5 := Lib.hid (HD4.out.keeps k5 (by simp))
  have HB5 := Lib.hid (HB4.out.keeps k5 (by simp))
  have HK5 := Lib.hid (Hk4.out.trans k5)
  have hw45 := k5.size
  clear hR5 k5 c0 c1 c2 c3 HM4 HD4 HB4 Hk4 HPR
  go_wp2_with fail
  have HF5 := Lib.hid (show ∀ x ∈ F0, w1.heap.size ≤ x ∧ x ≠ dp ∧ (x < w4.heap.size ∨ w5.heap.size ≤ x) from fun x hx => by have := HF3.out x hx; have := Hpn.out x hx; omega)
  have HbG := Lib.hid (show w.heap.size < w1.heap.size ∧ w1.heap.size ≤ dp ∧ dp < w4.heap.size ∧ w4.heap.size ≤ w5.heap.size from ⟨hbw, hw13, hpl, hw45⟩)
  have HV5 := Lib.hid HR5.out
  clear HF3 Hpn hdp hw13 hw34 hw45 hbw hpl HR5
  go_loopw [20] (fun i wr => ∃ (k : Nat) (Fm : List Nat), k ≤ P ∧ i = .int .i64 k ∧ MxF wr pm (nK + P) z (px k) Fm ∧ (∀ x ∈ Fm, w1.heap.size ≤ x ∧ x ≠ dp ∧ (x < w4.heap.size ∨ w5.heap.size ≤ x)) ∧ VRb wr w4.heap.size w5.heap.size (.slice a5 Xs.length c5) (nK + P) Xs ∧ Blk wr dp 150 [B32 s, .int .i64 nK, .int .i64 P, .int .i64 z, P0 pm, .int .i64 0, .int .u32 0, .int .i32 0, .int .u32 0, .slice none 0 0] ∧ Blk wr w.heap.size 38 [B32 s, .int .i64 nK, .int .i64 P, .int .i64 z] ∧ Keeps [] w wr ∧ w5.heap.size ≤ wr.heap.size) (fun i _ => P - (intOf i).toNat)
  case atStart => exact ⟨0, F0, Nat.zero_le _, rfl, HM5.out, HF5.out, HV5.out, HD5.out, HB5.out, HK5.out, Nat.le_refl _⟩
  case round =>
    clear HM5 HF5 HV5 HD5 HB5 HK5
    obtain ⟨k, Fm, hk, rfl, hM, hF, hV, hD, hB, hK, hsz⟩ := hrel
    by_cases hlt : k < P
    · obtain ⟨a', c', ea, hve⟩ := id hV
      simp only [Value.slice.injEq] at ea
      obtain ⟨rfl, _, rfl⟩ := ea
      obtain ⟨g0, pv, gv, rfl, b0, b1, b2, hcv, hVv⟩ := hve k _ (Hxa.out k hlt)
      have d4 := hD.cell' (i := 4) rfl
      have e3 := hB.cell' (i := 3) rfl
      have hkn : (k : Int) < (P : Int) := by omega
      have hkm : Keeps [] wr (wr.drew.alloc (.cells (zeros z) 5)) := (Keeps.refl [] wr).drew.alloc _
      have hMW := hM.keepsNil hkm
      have hA := (madd_calls (c := z) hMW (Hech.out k) ((ht.keeps hK (by simp)).keeps hkm (by simp)) (hVv.vc.keeps hkm (by simp) (by simp)) (zeros_rd wr.drew z) (by simp)).mono (fun e w' h => h.any hMW)
      unfold AddAny at hA
      rw [show (List.replicate z (0 : UInt8)) = zer z from rfl, ← Hpxs.out k] at hA
      have hWs : (wr.drew.alloc (.cells (zeros z) 5)).heap.size = wr.heap.size + 1 := by simp
      rw [hWs] at hA
      have HA := Lib.hid hA
      have HM := Lib.hid hM
      have HF := Lib.hid hF
      have HV := Lib.hid hV
      have HD := Lib.hid hD
      have HB := Lib.hid hB
      have HK := Lib.hid hK
      have Hkm := Lib.hid hkm
      clear hA hM hF hV hD hB hK hkm hve hVv hMW hWs
      go_wp2_with fail
      refine wp_region_noPanic ?_
      refine wp_region_held_drew (S := (fun w' => w'.cell? ⟨dp, 4, none⟩ = some (P0 pm) ∧ w'.cell? ⟨w.heap.size, 3, none⟩ = some (.int .i64 z))) (by kernel_rfl) ⟨d4, e3⟩ (fun hHeld => ?_)
      refine wpAnyH_take (i := 0) (v := ?v5_60) rfl (by kernel_rfl) (by kernel_rfl) (by kernel_rfl) (fun _ _ _ h => h) (Or.inl ⟨by rfl, ?y5_60⟩) (by assumption) ?r5_60
      case y5_60 => (intro w hSw; (try dsimp only at hSw); go_simp; try with_reducible rfl)
      (try simp only [Act.put, List.getElem_toArray, List.getElem_cons_zero, List.getElem_cons_succ, List.setIfInBounds_toArray, List.set_cons_zero, List.set_cons_succ])
      refine wpAnyH_take (i := 1) (v := ?v5_61) rfl (by kernel_rfl) (by kernel_rfl) (by kernel_rfl) (fun _ _ _ h => h) (Or.inl ⟨by rfl, ?y5_61⟩) (by assumption) ?r5_61
      case y5_61 => (intro w hSw; (try dsimp only at hSw); go_simp; try with_reducible rfl)
      (try simp only [Act.put, List.getElem_toArray, List.getElem_cons_zero, List.getElem_cons_succ, List.setIfInBounds_toArray, List.set_cons_zero, List.set_cons_succ])
      refine wpAnyH_take (i := 2) (v := ?v5_62) rfl (by kernel_rfl) (by kernel_rfl) (by kernel_rfl) (fun _ _ _ h => h) (Or.inl ⟨by rfl, ?y5_62⟩) (by assumption) ?r5_62
      case y5_62 => (intro w hSw; (try dsimp only at hSw); go_simp; try with_reducible rfl)
      (try simp only [Act.put, List.getElem_toArray, List.getElem_cons_zero, List.getElem_cons_succ, List.setIfInBounds_toArray, List.set_cons_zero, List.set_cons_succ])
      refine wpAnyH_take (i := 3) (v := ?v5_63) rfl (by kernel_rfl) (by kernel_rfl) (by kernel_rfl) (fun _ _ _ h => h) (Or.inl ⟨by rfl, ?y5_63⟩) (by assumption) ?r5_63
      case y5_63 => (intro w hSw; (try dsimp only at hSw); go_simp; try with_reducible rfl)
      (try simp only [Act.put, List.getElem_toArray, List.getElem_cons_zero, List.getElem_cons_succ, List.setIfInBounds_toArray, List.set_cons_zero, List.set_cons_succ])
      refine wpAnyH_take (i := 4) (v := ?v5_64) rfl (by kernel_rfl) (by kernel_rfl) (by kernel_rfl) (fun _ _ _ h => h) (Or.inl ⟨by rfl, ?y5_64⟩) (by assumption) ?r5_64
      case y5_64 => (intro w hSw; (try dsimp only at hSw); go_simp; try with_reducible rfl)
      (try simp only [Act.put, List.getElem_toArray, List.getElem_cons_zero, List.getElem_cons_succ, List.setIfInBounds_toArray, List.set_cons_zero, List.set_cons_succ])
      refine wpAnyH_take (i := 5) (v := ?v5_65) rfl (by kernel_rfl) (by kernel_rfl) (by kernel_rfl) (fun _ _ _ h => h) (Or.inl ⟨by rfl, ?y5_65⟩) (by assumption) ?r5_65
      case y5_65 => (intro w hSw; (try dsimp only at hSw); go_simp; try with_reducible rfl)
      (try simp only [Act.put, List.getElem_toArray, List.getElem_cons_zero, List.getElem_cons_succ, List.setIfInBounds_toArray, List.set_cons_zero, List.set_cons_succ])
      refine wpAnyH_take (i := 6) (v := ?v5_66) rfl (by kernel_rfl) (by kernel_rfl) (by kernel_rfl) (fun _ _ _ h => h) (Or.inl ⟨by rfl, ?y5_66⟩) (by assumption) ?r5_66
      case y5_66 => (intro w hSw; (try dsimp only at hSw); go_simp; try with_reducible rfl)
      (try simp only [Act.put, List.getElem_toArray, List.getElem_cons_zero, List.getElem_cons_succ, List.setIfInBounds_toArray, List.set_cons_zero, List.set_cons_succ])
      refine wpAnyH_ready (rs := [7]) (by kernel_rfl) (by simp) ?_
      refine AllReadyH.cons rfl (fun K hK => ?_) AllReadyH.nil
      go_simp
      refine hK.out _ _ ?s5_67 (fun hHeld => ?_)
      case s5_67 => ((try dsimp only) <;> (first | exact ⟨Hkm.out.cell0 d4, Hkm.out.cell0 e3⟩))
      clear hK K
      (try simp only [Act.put, List.getElem_toArray, List.getElem_cons_zero, List.getElem_cons_succ, List.setIfInBounds_toArray, List.set_cons_zero, List.set_cons_succ])
      refine wpAnyH_ready (rs := [8]) (by kernel_rfl) (by simp) ?_
      refine AllReadyH.cons rfl (fun K hK => ?_) AllReadyH.nil
      go_simp
      refine HA.out.mono ?_
      rintro e w6 ⟨Fm', rfl, hM6, hF6, k6, _⟩
      generalize decide ((red (px k) ⟨parX s nK (nK + P) k nK, zer z⟩).x ≠ 0) = bb at *
      have hF := HF.out
      have hG := HbG.out
      have hn1 : dp ∉ Fm := fun h => (hF dp h).2.1 rfl
      have hn2 : w.heap.size ∉ Fm := fun h => by have := (hF _ h).1; omega
      have hD6 := (HD.out.keeps Hkm.out (by simp)).keeps k6 hn1
      have hB6 := (HB.out.keeps Hkm.out (by simp)).keeps k6 hn2
      have g4 := hD6.cell' (i := 4) rfl
      have g3 := hB6.cell' (i := 3) rfl
      have HM6 := Lib.hid hM6
      have HD6 := Lib.hid hD6
      have HB6 := Lib.hid hB6
      have HV6 := Lib.hid ((HV.out.keeps Hkm.out (by simp)).keeps k6 (fun x hx => (hF x hx).2.2))
      have HK6 := Lib.hid ((HK.out.trans Hkm.out).trans' k6 (T := []) (by simp) (fun x hx => .inr (by have := (hF x hx).1; omega)))
      have HF6 := Lib.hid (show ∀ x ∈ Fm', w1.heap.size ≤ x ∧ x ≠ dp ∧ (x < w4.heap.size ∨ w5.heap.size ≤ x) from fun x hx => by
        rcases hF6 x hx with h | h
        · exact hF x h
        · omega)
      have hs6 := k6.size
      have hs6' : w5.heap.size ≤ w6.heap.size := by have := Hkm.out.size; omega
      clear hM6 hF6 k6 hF hG hn1 hn2 hD6 hB6 hs6
      go_wp2_with fail
      refine hK.out _ _ ?s5_68 (fun hHeld => ?_)
      case s5_68 => ((try dsimp only) <;> (first | exact ⟨g4, g3⟩))
      clear hK K
      (try simp only [Act.put, List.getElem_toArray, List.getElem_cons_zero, List.getElem_cons_succ, List.setIfInBounds_toArray, List.set_cons_zero, List.set_cons_succ])
      refine wpAnyH_done (by kernel_rfl) ?_ _
      refine NoPanic.normal ?_
      go_wp2_with fail
      go_roundw
      case rel => exact ⟨k + 1, Fm', by omega, by go_num, HM6.out, HF6.out, HV6.out, HD6.out, HB6.out, HK6.out, hs6'⟩
      case measure => simp [intOf]; omega
    · obtain rfl : k = P := by omega
      have HM := Lib.hid hM
      have HF := Lib.hid hF
      have HD := Lib.hid hD
      have HK := Lib.hid hK
      clear hM hF hV hD hB hK
      go_wp2_with fail
      go_ret
      have hG := HbG.out
      refine ⟨dp, dp :: Fm, rfl, ⟨pm, Fm, 0, _, HD.out, HM.out, Hech.out k, rfl, fun h => (HF.out dp h).2.1 rfl, .inl ⟨rfl, rfl⟩⟩, fun x hx => ?_, HK.out⟩
      simp only [List.mem_cons] at hx
      rcases hx with rfl | hx
      · omega
      · have := (HF.out x hx).1; omega

end Go.Proofs.YtijhaeapoapgfaaGreatDoor

set_option linter.unusedVariables false
set_option linter.unusedSimpArgs false
namespace Go.Proofs.YtijhaeapoapgfaaGreatDoor
open Go.RowKit
attribute [local go_sem ↓] Go.wp_at_zero Go.wp_at_succ

/-- What is done to a block of another kind makes no difference to pieces. -/
theorem Pcs.past {w w' : World} {p B : Nat} {t : TypeId} {cs : List Value} {v : Value} {L : List (List UInt8)} (h : Pcs w B v L) (k : Keeps [p] w w') (hb : Blk w p t cs) (h1 : 5 ≠ t) (h2 : 22 ≠ t) : Pcs w' B v L :=
  h.keepsP k (fun x hx => by simp only [List.mem_singleton] at hx; subst hx; exact ⟨t, cs, hb, h1, h2⟩)

end Go.Proofs.YtijhaeapoapgfaaGreatDoor

set_option linter.unusedVariables false
set_option linter.unusedSimpArgs false
namespace Go.Proofs.YtijhaeapoapgfaaGreatDoor
open Go.RowKit
attribute [local go_sem ↓] Go.wp_at_zero Go.wp_at_succ

theorem RdL.take {w : World} {a : Option Addr} {n c : Nat} {L : List (List UInt8)} (h : RdL w (.slice a n c) L) (k : Nat) (hk : k ≤ L.length) : RdL w (.slice a k c) (L.take k) := by
  obtain ⟨a', c', e, h1, h2, h3, h4⟩ := h
  simp only [Value.slice.injEq] at e
  obtain ⟨rfl, _, rfl⟩ := e
  refine ⟨a, c, by rw [List.length_take, Nat.min_eq_left hk], by rw [List.length_take]; omega, h2, fun i x hx => ?_, fun ha => ⟨by rw [(h4 ha).1]; simp, (h4 ha).2⟩⟩
  rw [List.getElem?_take] at hx
  split at hx
  · exact h3 i x hx
  · cases hx

end Go.Proofs.YtijhaeapoapgfaaGreatDoor
