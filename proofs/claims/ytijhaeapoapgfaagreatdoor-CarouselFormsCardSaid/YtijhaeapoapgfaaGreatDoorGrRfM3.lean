/-
  GrRfM3: the texts RfM3, RfM4, FoT, LawCarFo, one behind another.
-/
import Derived.Test.YtijhaeapoapgfaaGreatDoorGrRfM2
import Derived.Test.YtijhaeapoapgfaaGreatDoorGrRfS4
import Derived.Test.YtijhaeapoapgfaaGreatDoorGrDeT
import Derived.Test.YtijhaeapoapgfaaGreatDoorGrLaw24k
import Derived.Test.YtijhaeapoapgfaaGreatDoorGrRows8
import Derived.Test.YtijhaeapoapgfaaGreatDoorGrFrameV
set_option linter.unusedVariables false
set_option linter.unusedSimpArgs false
namespace Go.Proofs.YtijhaeapoapgfaaGreatDoor
open Go.RowKit
attribute [local go_sem ↓] Go.wp_at_zero Go.wp_at_succ

theorem RMx.len {w : World} {pm : Nat} {Q : Nat → Prop} {n z : Nat} {M : Mtx} (h : RMx w pm Q n z M) : ∃ a c, w.cell? ⟨pm, 0, none⟩ = some (.int .i64 n) ∧ w.cell? ⟨pm, 2, none⟩ = some (.slice a (rank M) c) := by
  obtain ⟨v, hb, hl⟩ := h.b
  obtain ⟨a, c, rfl, _⟩ := hl.form
  rw [lns_rank h.e] at hb
  exact ⟨a, c, hb.cell' (i := 0) rfl, hb.cell' (i := 2) rfl⟩
theorem RMx.blk {w : World} {pm : Nat} {Q : Nat → Prop} {n z : Nat} {M : Mtx} (h : RMx w pm Q n z M) : ∃ cs, Blk w pm 105 cs := by
  obtain ⟨v, hb, hl⟩ := h.b
  exact ⟨_, hb⟩

/-- The reference's decoder: its struct in block pd, its matrix's in block pm; all else behind pd. -/
structure RDe (w : World) (pd pm : Nat) (Q : Nat → Prop) (s : UInt32) (nK P z : Nat) (M : Mtx) (tk : Nat) : Prop where
  b : Blk w pd 99 [B32 s, .int .i64 nK, .int .i64 P, .int .i64 z, P0 pm, .int .i64 tk]
  m : RMx w pm Q (nK + P) z M
  pi : PmI nK P z
  ne : pd ≠ pm
  nq : ¬ Q pd
theorem RDe.keeps {S : List Nat} {w w' : World} {pd pm : Nat} {Q : Nat → Prop} {s : UInt32} {nK P z : Nat} {M : Mtx} {tk : Nat} (h : RDe w pd pm Q s nK P z M tk) (k : Keeps S w w') (h1 : pd ∉ S) (h2 : pm ∉ S) (hS : ∀ x, x ∈ S → ¬ Q x) : RDe w' pd pm Q s nK P z M tk :=
  ⟨h.b.keeps k h1, h.m.keeps k h2 hS, h.pi, h.ne, h.nq⟩
theorem RDe.keepsNil {w w' : World} {pd pm : Nat} {Q : Nat → Prop} {s : UInt32} {nK P z : Nat} {M : Mtx} {tk : Nat} (h : RDe w pd pm Q s nK P z M tk) (k : Keeps [] w w') : RDe w' pd pm Q s nK P z M tk := h.keeps k (by simp) (by simp) (by simp)

set_option maxRecDepth 100000 in
set_option maxHeartbeats 1600000 in
theorem rneeds_calls {w : World} {pd pm : Nat} {s : UInt32} {nK P z : Nat} {tk : Nat} (hb : Blk w pd 99 [B32 s, .int .i64 nK, .int .i64 P, .int .i64 z, P0 pm, .int .i64 tk]) {a : Option Addr} {c rk : Nat} (h0 : w.cell? ⟨pm, 0, none⟩ = some (.int .i64 ((nK + P : Nat) : Int))) (h2 : w.cell? ⟨pm, 2, none⟩ = some (.slice a rk c)) (hr : rk ≤ nK + P) (hk : nK + P ≤ 256) :
    Calls Tryz.prog 23 #[P0 pd] w fun e w' => e = .returned (.int .i64 (nK + P - rk : Nat)) ∧ Keeps [] w w' := by
  have c4 := hb.cell' (i := 4) rfl
  obtain ⟨nd, hnd⟩ : ∃ nd, nd = nK + P - rk := ⟨_, rfl⟩
  rw [← hnd]
  obtain ⟨n, hn⟩ : ∃ n, n = nK + P := ⟨_, rfl⟩
  rw [← hn] at h0
  have hs : (n : Int) - (rk : Int) = (nd : Int) := by omega
  have Hwn := Lib.hid (show wrap64 (nd : Int) = (nd : Int) from IntWalk.wrap64_in _ (by omega))
  clear hb hnd hn hr
  go_enter Tryz.func23, Tryz.ntmps23
  go_wp2_with fail
  go_quiet (fail)
  go_wp2_with fail
  go_ret
  exact ⟨congrArg (fun x => Ending.returned (.int .i64 x)) Hwn.out, (Keeps.refl [] w).drewN _⟩

def RTakeM (w : World) (pd pm : Nat) (Q : Nat → Prop) (s : UInt32) (nK P z : Nat) (M : Mtx) (tk : Nat) (r : Rw) (e : Ending) (w' : World) : Prop :=
  e = .returned (.bool (decide ((red M r).x ≠ 0))) ∧ RDe w' pd pm (fun x => Q x ∨ w.heap.size ≤ x) s nK P z (mAdd (nK + P) M r) (if (red M r).x = 0 then tk else tk + 1) ∧ Keeps [pd, pm] w w'

set_option maxRecDepth 100000 in
set_option maxHeartbeats 1600000 in
theorem RDe.take_calls {w : World} {pd pm : Nat} {Q : Nat → Prop} {s : UInt32} {nK P z : Nat} {M : Mtx} {tk : Nat} (h : RDe w pd pm Q s nK P z M tk) (htk : tk ≤ 1000000) (id : UInt32) {ad : Option Addr} {cd : Nat} {d : List UInt8} (hd : RdS w (.slice ad z cd) d) (hdz : d.length = z) :
    Calls Tryz.prog 18 #[P0 pd, B32 id, .slice ad z cd] w (RTakeM w pd pm Q s nK P z M tk ⟨rowN s nK P id, d⟩) := by
  have hpl := h.b.lt
  have hml : pm < w.heap.size := by obtain ⟨cs, hb⟩ := h.m.blk; exact hb.lt
  have hne := h.ne
  have c0 := h.b.cell' (i := 0) rfl
  have c1 := h.b.cell' (i := 1) rfl
  have c2 := h.b.cell' (i := 2) rfl
  have c3 := h.b.cell' (i := 3) rfl
  have c4 := h.b.cell' (i := 4) rfl
  have HH := Lib.hid h
  have HD := Lib.hid hd
  have Hdz := Lib.hid hdz
  have HRo := Lib.hid (rrow_calls (w := w.drew) s h.pi id)
  have hxl := rowN_lt s nK P id
  generalize rowN s nK P id = X at *
  have HXl := Lib.hid hxl
  clear h hd hdz hxl
  go_enter Tryz.func18, Tryz.ntmps18
  go_wp2_with fail
  have kd : Keeps [] w w.drew := (Keeps.refl [] w).drew
  refine wp_region_noPanic ?_
  refine wp_region_held_drew (S := (fun W => W.cell? ⟨pd, 0, none⟩ = some (B32 s) ∧ W.cell? ⟨pd, 1, none⟩ = some (.int .i64 nK) ∧ W.cell? ⟨pd, 2, none⟩ = some (.int .i64 P) ∧ W.cell? ⟨pd, 3, none⟩ = some (.int .i64 z) ∧ W.cell? ⟨pd, 4, none⟩ = some (P0 pm))) (by kernel_rfl) ⟨c0, c1, c2, c3, c4⟩ (fun hHeld => ?_)
  refine wpAnyH_take (i := 0) (v := ?v1_1) rfl (by kernel_rfl) (by kernel_rfl) (by kernel_rfl) (fun _ _ _ h => h) (Or.inl ⟨by rfl, ?y1_1⟩) (by assumption) ?r1_1
  case y1_1 => (intro w hSw; (try dsimp only at hSw); go_simp; try with_reducible rfl)
  (try simp only [Act.put, List.getElem_toArray, List.getElem_cons_zero, List.getElem_cons_succ, List.setIfInBounds_toArray, List.set_cons_zero, List.set_cons_succ])
  refine wpAnyH_take (i := 1) (v := ?v1_2) rfl (by kernel_rfl) (by kernel_rfl) (by kernel_rfl) (fun _ _ _ h => h) (Or.inl ⟨by rfl, ?y1_2⟩) (by assumption) ?r1_2
  case y1_2 => (intro w hSw; (try dsimp only at hSw); go_simp; try with_reducible rfl)
  (try simp only [Act.put, List.getElem_toArray, List.getElem_cons_zero, List.getElem_cons_succ, List.setIfInBounds_toArray, List.set_cons_zero, List.set_cons_succ])
  refine wpAnyH_take (i := 2) (v := ?v1_3) rfl (by kernel_rfl) (by kernel_rfl) (by kernel_rfl) (fun _ _ _ h => h) (Or.inl ⟨by rfl, ?y1_3⟩) (by assumption) ?r1_3
  case y1_3 => (intro w hSw; (try dsimp only at hSw); go_simp; try with_reducible rfl)
  (try simp only [Act.put, List.getElem_toArray, List.getElem_cons_zero, List.getElem_cons_succ, List.setIfInBounds_toArray, List.set_cons_zero, List.set_cons_succ])
  refine wpAnyH_take (i := 3) (v := ?v1_4) rfl (by kernel_rfl) (by kernel_rfl) (by kernel_rfl) (fun _ _ _ h => h) (Or.inl ⟨by rfl, ?y1_4⟩) (by assumption) ?r1_4
  case y1_4 => (intro w hSw; (try dsimp only at hSw); go_simp; try with_reducible rfl)
  (try simp only [Act.put, List.getElem_toArray, List.getElem_cons_zero, List.getElem_cons_succ, List.setIfInBounds_toArray, List.set_cons_zero, List.set_cons_succ])
  refine wpAnyH_take (i := 4) (v := ?v1_5) rfl (by kernel_rfl) (by kernel_rfl) (by kernel_rfl) (fun _ _ _ h => h) (Or.inl ⟨by rfl, ?y1_5⟩) (by assumption) ?r1_5
  case y1_5 => (intro w hSw; (try dsimp only at hSw); go_simp; try with_reducible rfl)
  (try simp only [Act.put, List.getElem_toArray, List.getElem_cons_zero, List.getElem_cons_succ, List.setIfInBounds_toArray, List.set_cons_zero, List.set_cons_succ])
  refine wpAnyH_take (i := 5) (v := ?v1_6) rfl (by kernel_rfl) (by kernel_rfl) (by kernel_rfl) (fun _ _ _ h => h) (Or.inl ⟨by rfl, ?y1_6⟩) (by assumption) ?r1_6
  case y1_6 => (intro w hSw; (try dsimp only at hSw); go_simp; try with_reducible rfl)
  (try simp only [Act.put, List.getElem_toArray, List.getElem_cons_zero, List.getElem_cons_succ, List.setIfInBounds_toArray, List.set_cons_zero, List.set_cons_succ])
  refine wpAnyH_take (i := 6) (v := ?v1_7) rfl (by kernel_rfl) (by kernel_rfl) (by kernel_rfl) (fun _ _ _ h => h) (Or.inl ⟨by rfl, ?y1_7⟩) (by assumption) ?r1_7
  case y1_7 => (intro w hSw; (try dsimp only at hSw); go_simp; try with_reducible rfl)
  (try simp only [Act.put, List.getElem_toArray, List.getElem_cons_zero, List.getElem_cons_succ, List.setIfInBounds_toArray, List.set_cons_zero, List.set_cons_succ])
  refine wpAnyH_take (i := 7) (v := ?v1_8) rfl (by kernel_rfl) (by kernel_rfl) (by kernel_rfl) (fun _ _ _ h => h) (Or.inl ⟨by rfl, ?y1_8⟩) (by assumption) ?r1_8
  case y1_8 => (intro w hSw; (try dsimp only at hSw); go_simp; try with_reducible rfl)
  (try simp only [Act.put, List.getElem_toArray, List.getElem_cons_zero, List.getElem_cons_succ, List.setIfInBounds_toArray, List.set_cons_zero, List.set_cons_succ])
  refine wpAnyH_take (i := 8) (v := ?v1_9) rfl (by kernel_rfl) (by kernel_rfl) (by kernel_rfl) (fun _ _ _ h => h) (Or.inl ⟨by rfl, ?y1_9⟩) (by assumption) ?r1_9
  case y1_9 => (intro w hSw; (try dsimp only at hSw); go_simp; try with_reducible rfl)
  (try simp only [Act.put, List.getElem_toArray, List.getElem_cons_zero, List.getElem_cons_succ, List.setIfInBounds_toArray, List.set_cons_zero, List.set_cons_succ])
  refine wpAnyH_take (i := 10) (v := ?v1_10) rfl (by kernel_rfl) (by kernel_rfl) (by kernel_rfl) (fun _ _ _ h => h) (Or.inl ⟨by rfl, ?y1_10⟩) (by assumption) ?r1_10
  case y1_10 => (intro w hSw; (try dsimp only at hSw); go_simp; try with_reducible rfl)
  (try simp only [Act.put, List.getElem_toArray, List.getElem_cons_zero, List.getElem_cons_succ, List.setIfInBounds_toArray, List.set_cons_zero, List.set_cons_succ])
  refine wpAnyH_ready (rs := [9]) (by kernel_rfl) (by simp) ?_
  refine AllReadyH.cons rfl (fun K hK => ?_) AllReadyH.nil
  go_simp
  refine HRo.out.mono ?_
  rintro e w1 ⟨gv, rfl, hgv, hV, k1⟩
  replace kd := kd.trans k1
  have HA := Lib.hid (raddm_calls (HH.out.m.keepsNil kd) hV HXl.out (HD.out.keepsNil kd) Hdz.out)
  unfold RAddM at HA
  obtain ⟨bb, hbb⟩ : ∃ bb, bb = decide ((red M ⟨X, d⟩).x ≠ 0) := ⟨_, rfl⟩
  rw [← hbb] at HA
  have Hbb := Lib.hid hbb
  clear hbb
  clear k1 hV HRo
  go_wp2_with fail
  refine hK.out _ _ ?s1_11 (fun hHeld => ?_)
  case s1_11 => ((try dsimp only) <;> (first | exact ⟨kd.cell0 c0, kd.cell0 c1, kd.cell0 c2, kd.cell0 c3, kd.cell0 c4⟩))
  clear hK K
  (try simp only [Act.put, List.getElem_toArray, List.getElem_cons_zero, List.getElem_cons_succ, List.setIfInBounds_toArray, List.set_cons_zero, List.set_cons_succ])
  refine wpAnyH_ready (rs := [11]) (by kernel_rfl) (by simp) ?_
  refine AllReadyH.cons rfl (fun K hK => ?_) AllReadyH.nil
  go_simp
  refine HA.out.mono ?_
  rintro e w2 ⟨rfl, hM, k2, _⟩
  have HM2 := Lib.hid hM
  have hks := kd.size
  have Hk2 := Lib.hid (kd.nil.trans k2 : Keeps [pm] w w2)
  have HB2 := Lib.hid (HH.out.b.keeps Hk2.out (by simpa using hne))
  have e0 := HB2.out.cell' (i := 0) rfl
  have e1 := HB2.out.cell' (i := 1) rfl
  have e2 := HB2.out.cell' (i := 2) rfl
  have e3 := HB2.out.cell' (i := 3) rfl
  have e4 := HB2.out.cell' (i := 4) rfl
  clear hM k2 HA
  go_wp2_with fail
  refine hK.out _ _ ?s1_12 (fun hHeld => ?_)
  case s1_12 => ((try dsimp only) <;> (first | exact ⟨e0, e1, e2, e3, e4⟩))
  clear hK K
  (try simp only [Act.put, List.getElem_toArray, List.getElem_cons_zero, List.getElem_cons_succ, List.setIfInBounds_toArray, List.set_cons_zero, List.set_cons_succ])
  refine wpAnyH_take (i := 12) (v := ?v1_13) rfl (by kernel_rfl) (by kernel_rfl) (by kernel_rfl) (fun _ _ _ h => h) (Or.inl ⟨by rfl, ?y1_13⟩) (by assumption) ?r1_13
  case y1_13 => (intro w hSw; (try dsimp only at hSw); go_simp; try with_reducible rfl)
  (try simp only [Act.put, List.getElem_toArray, List.getElem_cons_zero, List.getElem_cons_succ, List.setIfInBounds_toArray, List.set_cons_zero, List.set_cons_succ])
  refine wpAnyH_done (by kernel_rfl) ?_ _
  refine NoPanic.normal ?_
  clear hHeld
  have hQm : ∀ x, (Q x ∨ w1.heap.size ≤ x) → Q x ∨ w.heap.size ≤ x := fun x hx => hx.imp (fun h => h) (fun h => by omega)
  have HM3 := Lib.hid (HM2.out.mono hQm (fun hq => hq.elim HH.out.m.nq (fun h => by omega)))
  have Hnq := Lib.hid (show ¬ (Q pd ∨ w.heap.size ≤ pd) from fun hq => hq.elim HH.out.nq (fun h => by omega))
  cases bb with
  | false =>
    go_wp2_with fail
    go_ret
    unfold RTakeM
    have hr : (red M ⟨X, d⟩).x = 0 := by have := Hbb.out; simpa using this
    exact ⟨by rw [← Hbb.out]; rfl, by rw [if_pos hr]; exact ⟨HB2.out, HM3.out, HH.out.pi, hne, Hnq.out⟩, Hk2.out.mono (fun x hx => .inl (by simp at hx ⊢; exact .inr hx))⟩
  | true =>
    have e5 := HB2.out.cell' (i := 5) rfl
    have f5 := HB2.out.frozen 5
    have htw : wrap64 ((tk : Int) + 1) = (tk : Int) + 1 := IntWalk.wrap64_in _ (by omega)
    go_wp2_with fail
    go_ret
    unfold RTakeM
    have hr : ¬ (red M ⟨X, d⟩).x = 0 := by have := Hbb.out; simpa using this
    have k3 : Keeps [pd] w2 (w2.setCell ⟨pd, 5, none⟩ (.int .i64 ((tk : Int) + 1))) := (Keeps.refl [pd] w2).setCell (by simp) _
    have hb3 := HB2.out.set 5 (.int .i64 ((tk : Int) + 1))
    exact ⟨by rw [← Hbb.out]; rfl, by rw [if_neg hr]; exact ⟨hb3, HM3.out.keeps k3 (by simpa using fun h => hne h.symm) (fun x hx => by simp only [List.mem_singleton] at hx; subst hx; exact Hnq.out), HH.out.pi, hne, Hnq.out⟩, Hk2.out.trans' k3 (fun x hx => .inl (by simp at hx ⊢; exact .inr hx)) (fun x hx => .inl (by simp at hx ⊢; exact .inl hx))⟩

end Go.Proofs.YtijhaeapoapgfaaGreatDoor

set_option linter.unusedVariables false
set_option linter.unusedSimpArgs false
namespace Go.Proofs.YtijhaeapoapgfaaGreatDoor
open Go.RowKit
attribute [local go_sem ↓] Go.wp_at_zero Go.wp_at_succ

def RNewMxP (w : World) (n z : Nat) (e : Ending) (w' : World) : Prop := ∃ pm, e = .returned (P0 pm) ∧ w.heap.size ≤ pm ∧ pm < w'.heap.size ∧ (∀ Q : Nat → Prop, ¬ Q pm → RMx w' pm Q n z (mnew n)) ∧ Keeps [] w w'
theorem rnewmx2_calls {w : World} {nK P z : Nat} (hp : PmI nK P z) : Calls Tryz.prog 57 #[.int .i64 ((nK : Int) + (P : Int)), .int .i64 z] w (RNewMxP w (nK + P) z) := by
  have h := rnewmx_calls (w := w) (nK + P) z (by have := hp.k1; omega) (by have := hp.k2; have := hp.p2; omega) hp.z1 hp.z2
  have e : ((nK + P : Nat) : Int) = (nK : Int) + (P : Int) := Int.natCast_add nK P
  rw [e] at h
  exact h
def RNewDe (w : World) (s : UInt32) (nK P z : Nat) (e : Ending) (w' : World) : Prop :=
  ∃ pd pm, e = .returned (P0 pd) ∧ w.heap.size ≤ pd ∧ w.heap.size ≤ pm ∧ RDe w' pd pm (fun x => w.heap.size ≤ x ∧ x ≠ pd ∧ x ≠ pm) s nK P z (pmx s nK P z P) 0 ∧ Keeps [] w w'

set_option maxRecDepth 100000 in
set_option maxHeartbeats 3200000 in
theorem rnewde_calls {w : World} (s : UInt32) {nK P z : Nat} (hp : PmI nK P z) :
    Calls Tryz.prog 17 #[.agg #[B32 s, .int .i64 nK, .int .i64 P, .int .i64 z]] w (RNewDe w s nK P z) := by
  obtain ⟨h1, h2, h3, h4, h5⟩ := id hp
  have hmk := fun w => make_u8 z z (Nat.le_refl _) (by omega) w
  have hM : ∀ W, Calls Tryz.prog 47 #[.agg #[B32 s, .int .i64 nK, .int .i64 P, .int .i64 z]] W (fun e w' => e = .returned (.bool true) ∧ Keeps [] W w') := fun W => by
    have := rmayp_calls (w := W) s nK P z
    rwa [show PmOk (nK : Int) (P : Int) (z : Int) = true from by simp [PmOk]; omega] at this
  have HM := Lib.hid hM
  have HNm := Lib.hid (fun W => rnewmx2_calls (w := W) hp)
  unfold RNewMxP at HNm
  have hw1 : IntKind.i64.wrap ((nK : Int) + (P : Int)) = (nK : Int) + (P : Int) := by rw [IntKind.wrap_i64]; omega
  have HPr := Lib.hid (fun W => rparity_calls (w := W) s hp)
  unfold BRowsPost at HPr
  have hpx0 : pmx s nK P z 0 = mnew (nK + P) := rfl
  have hpxs : ∀ k, pmx s nK P z (k + 1) = mAdd (nK + P) (pmx s nK P z k) ⟨parX s nK (nK + P) k nK, zer z⟩ := fun k => rfl
  have hxlt : ∀ k, parX s nK (nK + P) k nK < 2 ^ (nK + P) := fun k => parX_lt s (by omega) nK (Nat.le_refl _)
  have hxa : ∀ j, j < P → (parXs s nK (nK + P) P)[j]? = some (parX s nK (nK + P) j nK) := fun j hj => by simp [parXs, hj]
  have hxl := parXs_len s nK (nK + P) P
  have HP := Lib.hid hp
  have hB0 := Blk.newA w 38 #[B32 s, .int .i64 nK, .int .i64 P, .int .i64 z]
  have kA : Keeps [] w (w.alloc (.cells #[B32 s, .int .i64 nK, .int .i64 P, .int .i64 z] 38)) := (Keeps.refl [] w).alloc _
  have HkA := Lib.hid kA
  have c0 := hB0.cell' (i := 0) rfl
  have c1 := hB0.cell' (i := 1) rfl
  have c2 := hB0.cell' (i := 2) rfl
  have c3 := hB0.cell' (i := 3) rfl
  unfold RNewDe
  clear hM hp kA hB0
  generalize pmx s nK P z = px at *
  generalize hX0 : parX s nK (nK + P) = X0 at *
  generalize parXs s nK (nK + P) P = Xs at *
  clear hX0
  have Hpx0 := Lib.hid hpx0
  have Hpxs := Lib.hid hpxs
  have Hxlt := Lib.hid hxlt
  have Hxa := Lib.hid hxa
  clear hpx0 hpxs hxlt hxa
  go_enter Tryz.func17, Tryz.ntmps17
  go_wp2_with fail
  generalize w.alloc (.cells #[B32 s, .int .i64 nK, .int .i64 P, .int .i64 z] 38) = w0 at *
  refine (HM.out _).mono ?_
  rintro e w1 ⟨rfl, k1⟩
  have d0 := k1.cell0 c0
  have d1 := k1.cell0 c1
  have d2 := k1.cell0 c2
  have d3 := k1.cell0 c3
  have HK1 := Lib.hid (HkA.out.trans k1)
  clear k1 c0 c1 c2 c3 HkA HM
  go_upto_region 3 with (fail)
  have kd : Keeps [] w1 w1.drew := (Keeps.refl [] w1).drew
  refine wp_region_noPanic ?_
  refine wp_region_held_drew (S := (fun W => W.cell? ⟨w.heap.size, 0, none⟩ = some (B32 s) ∧ W.cell? ⟨w.heap.size, 1, none⟩ = some (.int .i64 nK) ∧ W.cell? ⟨w.heap.size, 2, none⟩ = some (.int .i64 P) ∧ W.cell? ⟨w.heap.size, 3, none⟩ = some (.int .i64 z))) (by kernel_rfl) ⟨d0, d1, d2, d3⟩ (fun hHeld => ?_)
  refine wpAnyH_take (i := 0) (v := ?v2_14) rfl (by kernel_rfl) (by kernel_rfl) (by kernel_rfl) (fun _ _ _ h => h) (Or.inl ⟨by rfl, ?y2_14⟩) (by assumption) ?r2_14
  case y2_14 => (intro w hSw; (try dsimp only at hSw); go_simp; try with_reducible rfl)
  (try simp only [Act.put, List.getElem_toArray, List.getElem_cons_zero, List.getElem_cons_succ, List.setIfInBounds_toArray, List.set_cons_zero, List.set_cons_succ])
  refine wpAnyH_take (i := 1) (v := ?v2_15) rfl (by kernel_rfl) (by kernel_rfl) (by kernel_rfl) (fun _ _ _ h => h) (Or.inl ⟨by rfl, ?y2_15⟩) (by assumption) ?r2_15
  case y2_15 => (intro w hSw; (try dsimp only at hSw); go_simp; try with_reducible rfl)
  (try simp only [Act.put, List.getElem_toArray, List.getElem_cons_zero, List.getElem_cons_succ, List.setIfInBounds_toArray, List.set_cons_zero, List.set_cons_succ])
  refine wpAnyH_take (i := 2) (v := ?v2_16) rfl (by kernel_rfl) (by kernel_rfl) (by kernel_rfl) (fun _ _ _ h => h) (Or.inl ⟨by rfl, ?y2_16⟩) (by assumption) ?r2_16
  case y2_16 => (intro w hSw; (try dsimp only at hSw); go_simp; try with_reducible rfl)
  (try simp only [Act.put, List.getElem_toArray, List.getElem_cons_zero, List.getElem_cons_succ, List.setIfInBounds_toArray, List.set_cons_zero, List.set_cons_succ])
  refine wpAnyH_take (i := 3) (v := ?v2_17) rfl (by kernel_rfl) (by kernel_rfl) (by kernel_rfl) (fun _ _ _ h => h) (Or.inl ⟨by rfl, ?y2_17⟩) (by assumption) ?r2_17
  case y2_17 => (intro w hSw; (try dsimp only at hSw); go_simp; try with_reducible rfl)
  (try simp only [Act.put, List.getElem_toArray, List.getElem_cons_zero, List.getElem_cons_succ, List.setIfInBounds_toArray, List.set_cons_zero, List.set_cons_succ])
  refine wpAnyH_take (i := 4) (v := ?v2_18) rfl (by kernel_rfl) (by kernel_rfl) (by kernel_rfl) (fun _ _ _ h => h) (Or.inl ⟨by rfl, ?y2_18⟩) (by assumption) ?r2_18
  case y2_18 => (intro w hSw; (try dsimp only at hSw); go_simp; try with_reducible rfl)
  (try simp only [Act.put, List.getElem_toArray, List.getElem_cons_zero, List.getElem_cons_succ, List.setIfInBounds_toArray, List.set_cons_zero, List.set_cons_succ])
  refine wpAnyH_take (i := 5) (v := ?v2_19) rfl (by kernel_rfl) (by kernel_rfl) (by kernel_rfl) (fun _ _ _ h => h) (Or.inl ⟨by rfl, ?y2_19⟩) (by assumption) ?r2_19
  case y2_19 => (intro w hSw; (try dsimp only at hSw); go_simp; try with_reducible rfl)
  (try simp only [Act.put, List.getElem_toArray, List.getElem_cons_zero, List.getElem_cons_succ, List.setIfInBounds_toArray, List.set_cons_zero, List.set_cons_succ])
  refine wpAnyH_take (i := 6) (v := ?v2_20) rfl (by kernel_rfl) (by kernel_rfl) (by kernel_rfl) (fun _ _ _ h => h) (Or.inl ⟨by rfl, ?y2_20⟩) (by assumption) ?r2_20
  case y2_20 => (intro w hSw; (try dsimp only at hSw); go_simp; try with_reducible rfl)
  (try simp only [Act.put, List.getElem_toArray, List.getElem_cons_zero, List.getElem_cons_succ, List.setIfInBounds_toArray, List.set_cons_zero, List.set_cons_succ])
  refine wpAnyH_take (i := 7) (v := ?v2_21) rfl (by kernel_rfl) (by kernel_rfl) (by kernel_rfl) (fun _ _ _ h => h) (Or.inl ⟨by rfl, ?y2_21⟩) (by assumption) ?r2_21
  case y2_21 => (intro w hSw; (try dsimp only at hSw); go_simp; try with_reducible rfl)
  (try simp only [Act.put, List.getElem_toArray, List.getElem_cons_zero, List.getElem_cons_succ, List.setIfInBounds_toArray, List.set_cons_zero, List.set_cons_succ])
  refine wpAnyH_ready (rs := [8]) (by kernel_rfl) (by simp) ?_
  refine AllReadyH.cons rfl (fun K hK => ?_) AllReadyH.nil
  go_simp
  refine (HNm.out _).mono ?_
  rintro e w2 ⟨pm, rfl, hpm, hpl, hMx, k2⟩
  replace kd := kd.trans k2
  have HMx := Lib.hid hMx
  clear hMx k2
  go_wp2_with fail
  refine hK.out _ _ ?s2_22 (fun hHeld => ?_)
  case s2_22 => ((try dsimp only) <;> (first | exact ⟨kd.cell0 d0, kd.cell0 d1, kd.cell0 d2, kd.cell0 d3⟩))
  clear hK K
  (try simp only [Act.put, List.getElem_toArray, List.getElem_cons_zero, List.getElem_cons_succ, List.setIfInBounds_toArray, List.set_cons_zero, List.set_cons_succ])
  refine wpAnyH_take (i := 9) (v := ?v2_23) rfl (by kernel_rfl) (by kernel_rfl) (by kernel_rfl) (fun _ _ _ h => h) (Or.inl ⟨by rfl, ?y2_23⟩) (by assumption) ?r2_23
  case y2_23 => (intro w hSw; (try dsimp only at hSw); go_simp; try with_reducible rfl)
  (try simp only [Act.put, List.getElem_toArray, List.getElem_cons_zero, List.getElem_cons_succ, List.setIfInBounds_toArray, List.set_cons_zero, List.set_cons_succ])
  refine wpAnyH_ready (rs := [10]) (by kernel_rfl) (by simp) ?_
  refine AllReadyH.cons rfl (fun K hK => ?_) AllReadyH.nil
  go_simp
  have kB : Keeps [] w2 (w2.alloc (.cells #[B32 s, .int .i64 nK, .int .i64 P, .int .i64 z, P0 pm, .int .i64 0] 99)) := (Keeps.refl [] w2).alloc _
  refine hK.out _ _ ?s2_24 (fun hHeld => ?_)
  case s2_24 => ((try dsimp only) <;> (first | exact ⟨(kd.trans kB).cell0 d0, (kd.trans kB).cell0 d1, (kd.trans kB).cell0 d2, (kd.trans kB).cell0 d3⟩))
  clear hK K
  (try simp only [Act.put, List.getElem_toArray, List.getElem_cons_zero, List.getElem_cons_succ, List.setIfInBounds_toArray, List.set_cons_zero, List.set_cons_succ])
  refine wpAnyH_take (i := 11) (v := ?v2_25) rfl (by kernel_rfl) (by kernel_rfl) (by kernel_rfl) (fun _ _ _ h => h) (Or.inl ⟨by rfl, ?y2_25⟩) (by assumption) ?r2_25
  case y2_25 => (intro w hSw; (try dsimp only at hSw); go_simp; try with_reducible rfl)
  (try simp only [Act.put, List.getElem_toArray, List.getElem_cons_zero, List.getElem_cons_succ, List.setIfInBounds_toArray, List.set_cons_zero, List.set_cons_succ])
  refine wpAnyH_done (by kernel_rfl) ?_ _
  refine NoPanic.normal ?_
  have hBd := Lib.hid (Blk.newA w2 99 #[B32 s, .int .i64 nK, .int .i64 P, .int .i64 z, P0 pm, .int .i64 0])
  have hks := HK1.out.size
  have hkd := kd.size
  have hw1 : w1.drew.heap.size = w1.heap.size := rfl
  have HM3 : Hid (RMx (w2.alloc (.cells #[B32 s, .int .i64 nK, .int .i64 P, .int .i64 z, P0 pm, .int .i64 0] 99)) pm (fun x => w.heap.size ≤ x ∧ x ≠ w2.heap.size ∧ x ≠ pm) (nK + P) z (px 0)) := Lib.hid (by rw [Hpx0.out]; exact (HMx.out _ (fun h => h.2.2 rfl)).keepsNil kB)
  have HK3 := Lib.hid ((HK1.out.trans kd).trans kB)
  have x0 := (kd.trans kB).cell0 d0
  have x1 := (kd.trans kB).cell0 d1
  have x2 := (kd.trans kB).cell0 d2
  have x3 := (kd.trans kB).cell0 d3
  have hlt1 := World.block_lt_of_cell? w1 _ d0
  have hpm2 : w.heap.size < pm := by have h1 : w1.heap.size ≤ pm := hpm; have h2 : w.heap.size < w1.heap.size := hlt1; omega
  clear hlt1
  have hpd2 : w.heap.size ≤ w2.heap.size := by omega
  have hsB : (w2.alloc (.cells #[B32 s, .int .i64 nK, .int .i64 P, .int .i64 z, P0 pm, .int .i64 0] 99)).heap.size = w2.heap.size + 1 := World.size_alloc _ _
  clear hHeld kd d0 d1 d2 d3 HNm HMx HK1 hpm kB
  generalize w2.alloc (.cells #[B32 s, .int .i64 nK, .int .i64 P, .int .i64 z, P0 pm, .int .i64 0] 99) = w3 at *
  go_wp2_with fail
  refine (HPr.out w3).mono ?_
  rintro e w4 ⟨v4, rfl, hRo, k4⟩
  obtain ⟨vr, hOr, hvr, hver⟩ := hRo
  obtain ⟨ar, cr, rfl, q1, q2, q3, q4⟩ := hOr.read
  rw [hvr, hxl]
  have HQ := Lib.hid (show ∀ j, j < P → ∃ g gb cs, ar = some ⟨g, 0, none⟩ ∧ Blk w4 g 91 cs ∧ cs[j]? = some (Value.slice (some ⟨gb, 0, none⟩) (nK + P) (nK + P)) ∧ BlAt w4 gb (bl (nK + P) (X0 j nK)) from fun j hj => by
    obtain ⟨gb, hgb, hbb⟩ := hver j _ (Hxa.out j hj)
    obtain ⟨g, e, _, hc⟩ := q3 j _ hgb
    obtain ⟨_, _, cs, hb⟩ := hOr.block (x := g) (by rw [e]; rfl)
    exact ⟨g, gb, cs, e, hb, by rw [hb.cell j] at hc; exact hc, hbb⟩)
  have HM4 := Lib.hid (HM3.out.keepsNil k4)
  have HMb := Lib.hid (HM4.out.blk)
  have HB4 := Lib.hid (hBd.out.keeps k4 (by simp))
  have HK4 := Lib.hid (HK3.out.trans k4)
  have y3 := k4.cell0 x3
  have hs4 := k4.size
  clear hOr hver q3 q4 k4 hvr x0 x1 x2 x3 HM3 hBd HK3 HPr
  go_wp2_with fail
  obtain ⟨n, hn⟩ : ∃ n, n = nK + P := ⟨_, rfl⟩
  rw [← hn] at HQ HM4
  have Hn := Lib.hid hn
  have hn80 : n ≤ 80 := by omega
  clear hn
  go_loopw [23] (fun i wr => ∃ k : Nat, k ≤ P ∧ i = .int .i64 k ∧ RMx wr pm (fun x => w.heap.size ≤ x ∧ x ≠ w2.heap.size ∧ x ≠ pm) n z (px k) ∧ Keeps [pm] w4 wr) (fun i _ => P - (intOf i).toNat)
  case atStart => exact ⟨0, Nat.zero_le _, rfl, HM4.out, Keeps.refl _ _⟩
  case round =>
    clear HM4
    obtain ⟨k, hk, rfl, hMk, hK⟩ := hrel
    by_cases hlt : k < P
    · have hki : (k : Int) < (P : Int) := by omega
      obtain ⟨g, gb, cs, rfl, hbg, hcg, hbb⟩ := HQ.out k hlt
      obtain ⟨cs1, hb1⟩ := HMb.out
      have hgm : g ∉ [pm] := fun hm => by simp only [List.mem_singleton] at hm; subst hm; exact hbg.ne hb1 (by decide) rfl
      have hbm : gb ∉ [pm] := fun hm => by simp only [List.mem_singleton] at hm; subst hm; exact hbb.b.ne hb1 (by decide) rfl
      have hp3 : w.heap.size ∉ [pm] := fun hm => by simp only [List.mem_singleton] at hm; omega
      have cgr := (hbg.keeps hK hgm).cell' hcg
      have hv := hbb.keeps hK hbm
      have e4 := (HB4.out.keeps hK (fun hm => by simp only [List.mem_singleton] at hm; omega)).cell' (i := 4) rfl
      have e3 := (World.cell?_of_block (a := ⟨w.heap.size, 3, none⟩) (hK.block w.heap.size (World.block_lt_of_cell? w4 _ y3) hp3)).trans y3
      have kz : Keeps [] wr.drew (wr.drew.alloc (.cells (zeros z) 5)) := (Keeps.refl [] wr.drew).alloc _
      have hbz : Blk (wr.drew.alloc (.cells (zeros z) 5)) wr.heap.size 5 ((zer z).map B8) := by have := Blk.newA wr.drew 5 (zeros z); simpa [zeros, zer] using this
      have kdz := ((Keeps.refl [] wr).drew).trans kz
      have HA := Lib.hid (raddm_calls (hMk.keepsNil kdz) (hv.keeps kdz (by simp)) (by rw [Hn.out]; exact Hxlt.out k) (RdS.blk hbz (zer_len z) (by omega)) (zer_len z))
      unfold RAddM at HA
      rw [Hn.out, ← Hpxs.out k, ← Hn.out] at HA
      generalize decide ((red (px k) ⟨X0 k nK, zer z⟩).x ≠ 0) = bb at *
      have HK := Lib.hid hK
      have HMk := Lib.hid hMk
      have hsw := hK.size
      clear hMk hbg hcg hbb hv hK kz hbz
      go_upto_region 7 with (fail)
      have kd : Keeps [] wr wr.drew := (Keeps.refl [] wr).drew
      refine wp_region_noPanic ?_
      refine wp_region_held_drew (S := (fun W => W.cell? ⟨w.heap.size, 3, none⟩ = some (.int .i64 z) ∧ W.cell? ⟨w2.heap.size, 4, none⟩ = some (P0 pm))) (by kernel_rfl) ⟨e3, e4⟩ (fun hHeld => ?_)
      refine wpAnyH_take (i := 0) (v := ?v3_26) rfl (by kernel_rfl) (by kernel_rfl) (by kernel_rfl) (fun _ _ _ h => h) (Or.inl ⟨by rfl, ?y3_26⟩) (by assumption) ?r3_26
      case y3_26 => (intro w hSw; (try dsimp only at hSw); go_simp; try with_reducible rfl)
      (try simp only [Act.put, List.getElem_toArray, List.getElem_cons_zero, List.getElem_cons_succ, List.setIfInBounds_toArray, List.set_cons_zero, List.set_cons_succ])
      refine wpAnyH_take (i := 1) (v := ?v3_27) rfl (by kernel_rfl) (by kernel_rfl) (by kernel_rfl) (fun _ _ _ h => h) (Or.inl ⟨by rfl, ?y3_27⟩) (by assumption) ?r3_27
      case y3_27 => (intro w hSw; (try dsimp only at hSw); go_simp; try with_reducible rfl)
      (try simp only [Act.put, List.getElem_toArray, List.getElem_cons_zero, List.getElem_cons_succ, List.setIfInBounds_toArray, List.set_cons_zero, List.set_cons_succ])
      refine wpAnyH_take (i := 2) (v := ?v3_28) rfl (by kernel_rfl) (by kernel_rfl) (by kernel_rfl) (fun _ _ _ h => h) (Or.inl ⟨by rfl, ?y3_28⟩) (by assumption) ?r3_28
      case y3_28 => (intro w hSw; (try dsimp only at hSw); go_simp; try with_reducible rfl)
      (try simp only [Act.put, List.getElem_toArray, List.getElem_cons_zero, List.getElem_cons_succ, List.setIfInBounds_toArray, List.set_cons_zero, List.set_cons_succ])
      refine wpAnyH_take (i := 3) (v := ?v3_29) rfl (by kernel_rfl) (by kernel_rfl) (by kernel_rfl) (fun _ _ _ h => h) (Or.inl ⟨by rfl, ?y3_29⟩) (by assumption) ?r3_29
      case y3_29 => (intro w hSw; (try dsimp only at hSw); go_simp; try with_reducible rfl)
      (try simp only [Act.put, List.getElem_toArray, List.getElem_cons_zero, List.getElem_cons_succ, List.setIfInBounds_toArray, List.set_cons_zero, List.set_cons_succ])
      refine wpAnyH_take (i := 4) (v := ?v3_30) rfl (by kernel_rfl) (by kernel_rfl) (by kernel_rfl) (fun _ _ _ h => h) (Or.inl ⟨by rfl, ?y3_30⟩) (by assumption) ?r3_30
      case y3_30 => (intro w hSw; (try dsimp only at hSw); go_simp; try with_reducible rfl)
      (try simp only [Act.put, List.getElem_toArray, List.getElem_cons_zero, List.getElem_cons_succ, List.setIfInBounds_toArray, List.set_cons_zero, List.set_cons_succ])
      refine wpAnyH_take (i := 5) (v := ?v3_31) rfl (by kernel_rfl) (by kernel_rfl) (by kernel_rfl) (fun _ _ _ h => h) (Or.inl ⟨by rfl, ?y3_31⟩) (by assumption) ?r3_31
      case y3_31 => (intro w hSw; (try dsimp only at hSw); go_simp; try with_reducible rfl)
      (try simp only [Act.put, List.getElem_toArray, List.getElem_cons_zero, List.getElem_cons_succ, List.setIfInBounds_toArray, List.set_cons_zero, List.set_cons_succ])
      refine wpAnyH_take (i := 6) (v := ?v3_32) rfl (by kernel_rfl) (by kernel_rfl) (by kernel_rfl) (fun _ _ _ h => h) (Or.inl ⟨by rfl, ?y3_32⟩) (by assumption) ?r3_32
      case y3_32 => (intro w hSw; (try dsimp only at hSw); go_simp; try with_reducible rfl)
      (try simp only [Act.put, List.getElem_toArray, List.getElem_cons_zero, List.getElem_cons_succ, List.setIfInBounds_toArray, List.set_cons_zero, List.set_cons_succ])
      refine wpAnyH_ready (rs := [7]) (by kernel_rfl) (by simp) ?_
      refine AllReadyH.cons rfl (fun K hK => ?_) AllReadyH.nil
      go_simp
      refine hK.out _ _ ?s3_33 (fun hHeld => ?_)
      case s3_33 => ((try dsimp only) <;> (first | exact ⟨kdz.cell0 e3, kdz.cell0 e4⟩))
      clear hK K
      (try simp only [Act.put, List.getElem_toArray, List.getElem_cons_zero, List.getElem_cons_succ, List.setIfInBounds_toArray, List.set_cons_zero, List.set_cons_succ])
      refine wpAnyH_ready (rs := [8]) (by kernel_rfl) (by simp) ?_
      refine AllReadyH.cons rfl (fun K hK => ?_) AllReadyH.nil
      go_simp
      refine HA.out.mono ?_
      rintro e w6 ⟨rfl, hM6, k6, _⟩
      have HM6 := Lib.hid (hM6.mono (Q' := fun x => w.heap.size ≤ x ∧ x ≠ w2.heap.size ∧ x ≠ pm) (fun x hx => hx.elim (fun h => h) (fun h => by have h2 := kdz.size; exact ⟨by omega, by omega, by omega⟩)) (fun h => h.2.2 rfl))
      have HK6 := Lib.hid ((HK.out.trans kdz.nil).trans k6)
      clear hM6 k6 HA
      go_wp2_with fail
      refine hK.out _ _ ?s3_34 (fun hHeld => ?_)
      case s3_34 => ((try dsimp only) <;> (first | exact ⟨(World.cell?_of_block (a := ⟨w.heap.size, 3, none⟩) (HK6.out.block w.heap.size (World.block_lt_of_cell? w4 _ y3) hp3)).trans y3, (HB4.out.keeps HK6.out (fun hm => by simp only [List.mem_singleton] at hm; omega)).cell' (i := 4) rfl⟩))
      clear hK K
      (try simp only [Act.put, List.getElem_toArray, List.getElem_cons_zero, List.getElem_cons_succ, List.setIfInBounds_toArray, List.set_cons_zero, List.set_cons_succ])
      refine wpAnyH_done (by kernel_rfl) ?_ _
      refine NoPanic.normal ?_
      go_wp2_with fail
      go_roundw
      case rel => exact ⟨k + 1, by omega, by go_num, HM6.out, HK6.out⟩
      case measure => simp [intOf]; omega
    · obtain rfl : k = P := by omega
      have HMk := Lib.hid hMk
      have HK := Lib.hid hK
      have hpx := HB4.out.keeps hK (fun hm => by simp only [List.mem_singleton] at hm; omega)
      have hHB := Lib.hid hpx
      clear hMk hK hpx
      go_wp2_with fail
      go_ret
      have h := HMk.out
      rw [Hn.out] at h
      exact ⟨w2.heap.size, pm, rfl, hpd2, Nat.le_of_lt hpm2, ⟨hHB.out, h, HP.out, by omega, fun h => h.2.1 rfl⟩, HK4.out.trans' HK.out (by simp) (fun x hx => .inr (by simp only [List.mem_singleton] at hx; omega))⟩

end Go.Proofs.YtijhaeapoapgfaaGreatDoor

set_option linter.unusedVariables false
set_option linter.unusedSimpArgs false
namespace Go.Proofs.YtijhaeapoapgfaaGreatDoor
open Go.RowKit

/-- Symbols of nought, of these numbers. -/
def zears (s : UInt32) (nK P z : Nat) (N : Mtx) (l : List UInt32) : Mtx := l.foldl (fun M id => mAdd (nK + P) M ⟨rowN s nK P id, zer z⟩) N
theorem zears_snoc (s : UInt32) (nK P z : Nat) (N : Mtx) (l : List UInt32) (id : UInt32) : zears s nK P z N (l ++ [id]) = mAdd (nK + P) (zears s nK P z N l) ⟨rowN s nK P id, zer z⟩ := by unfold zears; rw [List.foldl_append]; rfl
theorem zears_same {s : UInt32} {nK P z : Nat} {img : List UInt8} (hF : Fits nK P z img) : ∀ (l : List UInt32) {M N : Mtx}, Sd s nK P z img M → Ech (nK + P) z N → Same M N → Same (hears s nK P z img M l) (zears s nK P z N l) ∧ Ech (nK + P) z (zears s nK P z N l)
  | [], _, _, _, hN, h => ⟨h, hN⟩
  | id :: l, M, N, hM, hN, h => zears_same hF l (hM.hear hF id) (mAdd_ech hN (rowN_lt s nK P id) (zer_len z)) (h.mAdd hM.e hN rfl (symR_lt s nK P z img id) (hF.sym_len s id) (zer_len z))
theorem zears_enuf {s : UInt32} {nK P z : Nat} {img : List UInt8} (hF : Fits nK P z img) (l : List UInt32) : enuf s nK P z img l = decide (nK + P - rank (zears s nK P z (pmx s nK P z P) l) = 0) ∧ rank (zears s nK P z (pmx s nK P z P) l) ≤ nK + P := by
  have hS := Sd.start hF s
  obtain ⟨h1, h2⟩ := zears_same hF l hS hS.e (Same.refl _)
  have h3 := h1.rank (Sd.hears hF l hS).e h2
  have h4 := rank_le (zears s nK P z (pmx s nK P z P) l)
  rw [h2.l] at h4
  refine ⟨?_, h4⟩
  show decide (rank (hears s nK P z img (pmx s nK P z P) l) = nK + P) = _
  rw [h3]
  congr 1
  apply propext
  omega

theorem fits_mf {img : List UInt8} {z P nK : Nat} (h : MfOk img.length z P nK) : Fits nK P z img := by
  refine ⟨h.k1, h.k2, h.p2, h.z1, h.z2, h.n2, h.c, ?_⟩
  have h1 := h.c
  have h2 := h.k1
  have h3 := h.z1
  unfold bcount at h1
  split at h1
  · omega
  · split at h1
    · rw [← h1]
      have := Nat.div_add_mod (img.length + z - 1) z
      have hm := Nat.mod_lt (img.length + z - 1) (show z > 0 by omega)
      rw [Nat.mul_comm] at this
      omega
    · omega

theorem Car.keepsD {S : List Nat} {w0 w w' : World} {pc ph : Nat} {vk vh : Value} {key : List UInt8} {s v : UInt32} {n nK P z : Nat} {img : List UInt8} {Q : Nat → Prop} (h : Car w0 w pc ph vk vh key s v n nK P z img Q) (k : Keeps S w w') (hS : ∀ x ∈ S, w0.heap.size ≤ x ∧ x ≠ pc ∧ ¬ Q x) (hf : ∀ x ∈ S, ∃ t cs, Blk w x t cs ∧ 5 ≠ t) : Car w0 w' pc ph vk vh key s v n nK P z img Q :=
  ⟨h.k.trans' k (fun _ h => .inl h) (fun x hx => .inr (hS x hx).1), h.b.keeps k (fun hm => (hS _ hm).2.1 rfl), h.kk.keepsP k hf, h.hh.keepsP k hf, h.h.keeps k (fun x hx => (hS x hx).2.2), fun x hx => ⟨(h.q x hx).1, Nat.lt_of_lt_of_le (h.q x hx).2 k.size⟩, h.p, h.n⟩

end Go.Proofs.YtijhaeapoapgfaaGreatDoor

set_option linter.unusedVariables false
set_option linter.unusedSimpArgs false
namespace Go.Proofs.YtijhaeapoapgfaaGreatDoor
open Go.RowKit
attribute [local go_sem ↓] Go.wp_at_zero Go.wp_at_succ

set_option maxRecDepth 100000 in
set_option maxHeartbeats 3200000 in
theorem carouselForms_far {w : World} (ht : TzAt w) (ak : Option Addr) (nk ck : Nat) (s v : UInt32) (ai : Option Addr) (n ci : Nat) (size p : Int) (id : UInt32) (A : Option Addr) (m cI : Nat) (hb : 100 < nk ∨ 700 < n ∨ 200 < m) :
    Calls Tryz.prog 4 #[.slice ak nk ck, B32 s, B32 v, .slice ai n ci, .int .i64 size, .int .i64 p, B32 id, .slice A m cI] w fun e w' => e = .returned (.bool true) ∧ Keeps [] w w' := by
  have HA := Lib.hid (awake26_calls ht)
  clear ht
  by_cases h1 : 100 < nk
  · have t1 : (100 : Int) < (nk : Int) := by omega
    clear hb h1
    go_enter Tryz.func4, Tryz.ntmps4
    go_wp2_with fail
    refine HA.out.mono ?_
    rintro e w1 ⟨rfl, k1⟩
    go_wp2_with fail
    go_ret
    exact ⟨rfl, k1⟩
  have t1 : ¬ (100 : Int) < (nk : Int) := by omega
  by_cases h2 : 700 < n
  · have t2 : (700 : Int) < (n : Int) := by omega
    clear hb h1 h2
    go_enter Tryz.func4, Tryz.ntmps4
    go_wp2_with fail
    refine HA.out.mono ?_
    rintro e w1 ⟨rfl, k1⟩
    go_wp2_with fail
    go_ret
    exact ⟨rfl, k1⟩
  have t2 : ¬ (700 : Int) < (n : Int) := by omega
  have t3 : (200 : Int) < (m : Int) := by omega
  clear hb h1 h2
  go_enter Tryz.func4, Tryz.ntmps4
  go_wp2_with fail
  refine HA.out.mono ?_
  rintro e w1 ⟨rfl, k1⟩
  go_wp2_with fail
  go_ret
  exact ⟨rfl, k1⟩

set_option maxRecDepth 100000 in
set_option maxHeartbeats 3200000 in
theorem carouselForms_bad {w : World} (ht : TzAt w) (ak : Option Addr) (nk ck : Nat) (s v : UInt32) (ai : Option Addr) (n ci : Nat) (img : List UInt8) (hi : RdS0 w (.slice ai n ci) img) (hn : img.length = n) (size p : Int) (id : UInt32) (A : Option Addr) (m cI : Nat) (h1 : nk ≤ 100) (h2 : n ≤ 700) (h3 : m ≤ 200)
    (hbad : 64 < nk ∨ PmOk (mcnt n size : Nat) p size = false) :
    Calls Tryz.prog 4 #[.slice ak nk ck, B32 s, B32 v, .slice ai n ci, .int .i64 size, .int .i64 p, B32 id, .slice A m cI] w fun e w' => e = .returned (.bool true) ∧ Keeps [] w w' := by
  have HN := Lib.hid (carnewbad_calls (ak := ak) (nk := nk) (ck := ck) s v hi hn (by omega) size p hbad)
  have HA := Lib.hid (fun (W : World) (k : Keeps [] w W) => awake26_calls (ht.keeps k (by simp)))
  obtain ⟨a', c', ea, _, _, r3, r4⟩ := hi
  simp only [Value.slice.injEq] at ea
  obtain ⟨rfl, hx0, rfl⟩ := ea
  clear hx0
  have HD := Lib.hid (fun (W : World) (k : Keeps [] w W) => rdigest_calls ai n ci img (r3.keepsNil k) hn (by omega) (fun h => ⟨by rw [← hn, (r4 h).1]; rfl, (r4 h).2⟩))
  have Hbad := Lib.hid hbad
  have t1 : ¬ (100 : Int) < (nk : Int) := by omega
  have t2 : ¬ (700 : Int) < (n : Int) := by omega
  have t3 : ¬ (200 : Int) < (m : Int) := by omega
  have hsl := sha_len img
  have Hsl := Lib.hid hsl
  clear ht r3 r4 hn hbad hsl
  go_enter Tryz.func4, Tryz.ntmps4
  go_wp2_with fail
  refine HN.out.mono ?_
  rintro e w1 ⟨rfl, k1⟩
  have HK1 := Lib.hid k1
  clear k1 HN
  go_wp2_with fail
  refine (HD.out _ HK1.out).mono ?_
  rintro e w2 ⟨vh, rfl, hO2, k2⟩
  obtain ⟨ah, ch, rfl, _⟩ := hO2.rds
  rw [Hsl.out]
  have hB := Blk.newA w2 35 (MiL s v n size p (.slice ah 32 ch)).toArray
  have kA : Keeps [] w2 (w2.alloc (.cells (MiL s v n size p (.slice ah 32 ch)).toArray 35)) := (Keeps.refl [] w2).alloc _
  have HK2 := Lib.hid ((HK1.out.trans k2).trans kA)
  clear hO2 k2 kA HD HK1
  go_upto_region 5 with (fail)
  generalize w2.alloc (.cells (MiL s v n size p (.slice ah 32 ch)).toArray 35) = w3 at *
  by_cases h64 : 64 < nk
  · have t4 : (64 : Int) < (nk : Int) := by omega
    clear h64 hB
    go_wp2_with fail
    refine (HA.out _ HK2.out).mono ?_
    rintro e w4 ⟨rfl, k4⟩
    go_wp2_with fail
    go_ret
    exact ⟨rfl, HK2.out.trans k4⟩
  · have t4 : ¬ (64 : Int) < (nk : Int) := by omega
    have hb := Hbad.out.resolve_left h64
    have HM := Lib.hid (fun W => rmfmaybad_calls (w := W) s v n size p (.slice ah 32 ch) (by omega) hb)
    have d0 := hB.cell' (i := 0) rfl
    have d1 := hB.cell' (i := 1) rfl
    have d2 := hB.cell' (i := 2) rfl
    have d3 := hB.cell' (i := 3) rfl
    have d4 := hB.cell' (i := 4) rfl
    have d5 := hB.cell' (i := 5) rfl
    clear h64 hB hb
    go_wp2_with fail
    refine (HM.out _).mono ?_
    rintro e w4 ⟨rfl, k4⟩
    have HK4 := Lib.hid (HK2.out.trans k4)
    clear k4
    go_wp2_with fail
    refine (HA.out _ HK4.out).mono ?_
    rintro e w5 ⟨rfl, k5⟩
    go_wp2_with fail
    go_ret
    exact ⟨rfl, HK4.out.trans k5⟩

theorem Car.idsF {w W : World} {pc ph : Nat} {vk vh : Value} {key : List UInt8} {s v : UInt32} {n nK P z : Nat} {img : List UInt8} {Q : Nat → Prop} (h : Car w W pc ph vk vh key s v n nK P z img Q) {A : Option Addr} {l : List UInt32} (hI : IdsAt w A l) : IdsN W ph A l := fun i x hx => by
  obtain ⟨b, o, e, hc⟩ := hI i x hx
  have h1 := World.block_lt_of_cell? w _ hc
  have h2 := (h.q ph h.h.q).1
  exact ⟨b, o, e, fun hb => by subst hb; simp only at h1; omega, h.k.cell0 hc⟩

set_option maxRecDepth 100000 in
set_option maxHeartbeats 6400000 in
theorem carouselForms_good {w : World} (ht : TzAt w) (ak : Option Addr) (nk ck : Nat) (key : List UInt8) (hk : Rd w ak key) (hkn : key.length = nk) (hk0 : ak = none → key = [] ∧ ck = 0) (s v : UInt32) (ai : Option Addr) (n ci : Nat) (img : List UInt8) (hi : RdS0 w (.slice ai n ci) img) (hn : img.length = n) {nK P z : Nat} (hf : Fits nK P z img) (id : UInt32) (A : Option Addr) (m cI : Nat) (ids : List UInt32) (hm : ids.length = m) (hmc : m ≤ cI) (hId : IdsAt w A ids) (h64 : nk ≤ 64) (h3 : m ≤ 200) :
    Calls Tryz.prog 4 #[.slice ak nk ck, B32 s, B32 v, .slice ai n ci, .int .i64 z, .int .i64 P, B32 id, .slice A m cI] w fun e w' => e = .returned (.bool true) ∧ Keeps [] w w' := by
  have hl := hf.l
  have hz1 := hf.z1
  have hz2 := hf.z2
  have hk2 := hf.k2
  have hp2 := hf.p2
  have hmf := hf.mf hn
  have hsy := hf.sym_len s id
  have HN := Lib.hid (carnew_calls (ck := ck) hk hkn h64 (fun h => (hk0 h).1) s v hi hn hf)
  unfold CarNew at HN
  have HA := Lib.hid (fun (W : World) (k : Keeps [] w W) => awake26_calls (ht.keeps k (by simp)))
  have HEn := Lib.hid (fun (W : World) (pc ph : Nat) (vk vh : Value) (Q : Nat → Prop) (h : Car w W pc ph vk vh key s v n nK P z img Q) (hI : IdsN W ph A ids) => caenough_calls h ht hI hm hmc (by omega))
  unfold EnPost at HEn
  have hi2 := hi
  obtain ⟨a', c', ea, i1, i2, r3, r4⟩ := hi2
  simp only [Value.slice.injEq] at ea
  obtain ⟨rfl, hx0, rfl⟩ := ea
  clear hx0
  have HD := Lib.hid (fun (W : World) (k : Keeps [] w W) => rdigest_calls ai n ci img (r3.keepsNil k) hn (by omega) (fun h => ⟨by rw [← hn, (r4 h).1]; rfl, (r4 h).2⟩))
  have HI := Lib.hid hi
  have HF := Lib.hid hf
  have HM := Lib.hid hmf
  have HKy := Lib.hid hk
  have Hkn := Lib.hid hkn
  have HIds := Lib.hid hId
  have Hm := Lib.hid hm
  have Hsy := Lib.hid hsy
  have t1 : ¬ (100 : Int) < (nk : Int) := by omega
  have t2 : ¬ (700 : Int) < (n : Int) := by omega
  have t3 : ¬ (200 : Int) < (m : Int) := by omega
  have t4 : ¬ (64 : Int) < (nk : Int) := by omega
  have hsl := sha_len img
  have Hsl := Lib.hid hsl
  have Hze := Lib.hid (fun l => zears_enuf (s := s) hf l)
  have HT := Lib.hid ht
  clear ht r3 r4 hn hsl hi hf hmf hk hkn hId hm hsy hk0
  go_enter Tryz.func4, Tryz.ntmps4
  go_wp2_with fail
  refine HN.out.mono ?_
  rintro e w1 ⟨pc, ph, vk, vh0, Q, rfl, hC⟩
  have HC1 := Lib.hid hC
  clear hC HN
  go_wp2_with fail
  refine (HD.out _ HC1.out.k).mono ?_
  rintro e w2 ⟨vh, rfl, hO2, k2⟩
  have hR2 := hO2.rds
  obtain ⟨ah, ch, rfl, _⟩ := id_rds hR2
  rw [Hsl.out] at hR2 ⊢
  have hB := Blk.newA w2 35 (MfL s v n z P (.slice ah 32 ch)).toArray
  have kA : Keeps [] w2 (w2.alloc (.cells (MfL s v n z P (.slice ah 32 ch)).toArray 35)) := (Keeps.refl [] w2).alloc _
  have HR3 := Lib.hid (hR2.keepsNil kA)
  have HC3 := Lib.hid ((HC1.out.keepsNil k2).keepsNil kA)
  have hbl := hB.lt
  clear hO2 hR2 k2 kA HD HC1
  go_upto_region 5 with (fail)
  obtain ⟨bm, hbm⟩ : ∃ bm, bm = w2.heap.size := ⟨_, rfl⟩
  rw [← hbm] at hB ⊢
  clear hbm
  generalize w2.alloc (.cells (MfL s v n z P (.slice ah 32 ch)).toArray 35) = w3 at *
  have d0 := hB.cell' (i := 0) rfl
  have d1 := hB.cell' (i := 1) rfl
  have d2 := hB.cell' (i := 2) rfl
  have d3 := hB.cell' (i := 3) rfl
  have d4 := hB.cell' (i := 4) rfl
  have d5 := hB.cell' (i := 5) rfl
  have HB := Lib.hid hB
  clear hB hbl
  go_wp2_with fail
  refine (rmfmay_calls s v ah ch HM.out).mono ?_
  rintro e w4 ⟨rfl, k4⟩
  have HB4 := Lib.hid (HB.out.keeps k4 (by simp))
  have HR4 := Lib.hid (HR3.out.keepsNil k4)
  have HC4 := Lib.hid (HC3.out.keepsNil k4)
  clear d0 d1 d2 d3 d4 d5 k4 HB HR3 HC3
  have d0 := HB4.out.cell' (i := 0) rfl
  have d1 := HB4.out.cell' (i := 1) rfl
  have d2 := HB4.out.cell' (i := 2) rfl
  have d3 := HB4.out.cell' (i := 3) rfl
  have d4 := HB4.out.cell' (i := 4) rfl
  have d5 := HB4.out.cell' (i := 5) rfl
  go_wp2_with fail
  refine (rparams_calls s v (.slice ah 32 ch) HM.out).mono ?_
  rintro e w5 ⟨rfl, k5⟩
  have hP := Blk.newA w5 38 #[B32 s, .int .i64 nK, .int .i64 P, .int .i64 z]
  have kP : Keeps [] w5 (w5.alloc (.cells #[B32 s, .int .i64 nK, .int .i64 P, .int .i64 z] 38)) := (Keeps.refl [] w5).alloc _
  have HB5 := Lib.hid ((HB4.out.keeps k5 (by simp)).keeps kP (by simp))
  have HR5 := Lib.hid ((HR4.out.keepsNil k5).keepsNil kP)
  have HC5 := Lib.hid ((HC4.out.keepsNil k5).keepsNil kP)
  clear d0 d1 d2 d3 d4 d5 k5 kP HB4 HR4 HC4
  go_upto_region 8 with (fail)
  obtain ⟨bp, hbp⟩ : ∃ bp, bp = w5.heap.size := ⟨_, rfl⟩
  rw [← hbp] at hP ⊢
  clear hbp
  generalize w5.alloc (.cells #[B32 s, .int .i64 nK, .int .i64 P, .int .i64 z] 38) = w6 at *
  have HP := Lib.hid hP
  have d0 := HB5.out.cell' (i := 0) rfl
  have d1 := HB5.out.cell' (i := 1) rfl
  have d2 := HB5.out.cell' (i := 2) rfl
  have d3 := HB5.out.cell' (i := 3) rfl
  have d4 := HB5.out.cell' (i := 4) rfl
  have d5 := HB5.out.cell' (i := 5) rfl
  clear hP
  go_wp2_with fail
  refine (rmbytes_calls (ck := ck) (HKy.out.keepsNil HC5.out.k) Hkn.out h64 s v HM.out HR5.out Hsl.out).mono ?_
  rintro e w7 ⟨v7, rfl, hO7, k7⟩
  have hml := manM_len (key := key) (s := s) (v := v) (n := n) (z := z) (P := P) Hsl.out
  have hCf := fun (W : World) (pc ph : Nat) (vk vh : Value) (Q : Nat → Prop) (h : Car w W pc ph vk vh key s v n nK P z img Q) => cafirst_calls h (by rw [Hkn.out]; exact h64)
  unfold ClonePost at hCf
  generalize manM key s v n z P (sha img) = Y at *
  have HCf := Lib.hid hCf
  have hR7 := hO7.rds
  obtain ⟨a7, c7, rfl, _⟩ := id_rds hR7
  rw [hml] at hR7 ⊢
  have HW := Lib.hid (rwrap_calls 1 (by omega) hR7 hml (by omega) : Calls Tryz.prog 14 #[.int .i64 1, .slice a7 76 c7] w7 (PlainPost w7 (wrapM 1 Y)))
  have HB7 := Lib.hid (HB5.out.keeps k7 (by simp))
  have HR8 := Lib.hid (HR5.out.keepsNil k7)
  have HC7 := Lib.hid (HC5.out.keepsNil k7)
  have HP7 := Lib.hid (HP.out.keeps k7 (by simp))
  clear d0 d1 d2 d3 d4 d5 k7 HB5 HR5 HC5 HP hO7 hR7 hml hCf
  go_wp2_with fail
  refine HW.out.mono ?_
  rintro e w8 ⟨v8, rfl, hO8, k8⟩
  have hR9 := hO8.rds
  obtain ⟨a8, c8, rfl, _⟩ := id_rds hR9
  generalize wrapM 1 Y = F1 at *
  have HF1 := Lib.hid hR9
  have HB8 := Lib.hid (HB7.out.keeps k8 (by simp))
  have HRh := Lib.hid (HR8.out.keepsNil k8)
  have HC8 := Lib.hid (HC7.out.keepsNil k8)
  have HP8 := Lib.hid (HP7.out.keeps k8 (by simp))
  have p0 := HP8.out.cell' (i := 0) rfl
  have p1 := HP8.out.cell' (i := 1) rfl
  have p2 := HP8.out.cell' (i := 2) rfl
  have p3 := HP8.out.cell' (i := 3) rfl
  clear hO8 hR9 k8 HB7 HR8 HC7 HP7 HW
  go_wp2_with fail
  refine (rsymbol_calls s HF.out (HI.out.keepsNil HC8.out.k) id).mono ?_
  rintro e w9 ⟨g9, rfl, hg9, hb9, k9⟩
  have HSB := Lib.hid (rsymbytes_calls s id (RdS.blk hb9 Hsy.out (by omega)) Hsy.out hz1 hz2)
  have HF2 := Lib.hid (HF1.out.keepsNil k9)
  have HB9 := Lib.hid (HB8.out.keeps k9 (by simp))
  have HR9 := Lib.hid (HRh.out.keepsNil k9)
  have HC9 := Lib.hid (HC8.out.keepsNil k9)
  have HP9 := Lib.hid (HP8.out.keeps k9 (by simp))
  clear hb9 k9 hg9 HF1 HB8 HRh HC8 HP8 p0 p1 p2 p3
  go_wp2_with fail
  refine HSB.out.mono ?_
  rintro e w10 ⟨v10, rfl, hO10, k10⟩
  have hyl : (symM s id (symb s nK P z img id)).length = z + 8 := by rw [symM_len, Hsy.out]
  have hCs := fun (W : World) (pc ph : Nat) (vk vh : Value) (Q : Nat → Prop) (h : Car w W pc ph vk vh key s v n nK P z img Q) => casymbol_calls h id
  unfold CaSym at hCs
  generalize symM s id (symb s nK P z img id) = Y2 at *
  have HCs := Lib.hid hCs
  have hR10 := hO10.rds
  obtain ⟨a10, c10, rfl, _⟩ := id_rds hR10
  rw [hyl] at hR10 ⊢
  have HW2 := Lib.hid (rwrap_calls 2 (by omega) hR10 hyl (by omega) : Calls Tryz.prog 14 #[.int .i64 2, .slice a10 (z + 8) c10] w10 (PlainPost w10 (wrapM 2 Y2)))
  have HF3 := Lib.hid (HF2.out.keepsNil k10)
  have HB10 := Lib.hid (HB9.out.keeps k10 (by simp))
  have HR10 := Lib.hid (HR9.out.keepsNil k10)
  have HC10 := Lib.hid (HC9.out.keepsNil k10)
  have HP10 := Lib.hid (HP9.out.keeps k10 (by simp))
  clear hO10 hR10 hyl hCs k10 HF2 HB9 HR9 HC9 HP9 HSB
  go_wp2_with fail
  refine HW2.out.mono ?_
  rintro e w11 ⟨v11, rfl, hO11, k11⟩
  have hR11 := hO11.rds
  obtain ⟨a11, c11, rfl, _⟩ := id_rds hR11
  generalize wrapM 2 Y2 = F2 at *
  have HG1 := Lib.hid hR11
  have HF4 := Lib.hid (HF3.out.keepsNil k11)
  have HB11 := Lib.hid (HB10.out.keeps k11 (by simp))
  have HR11 := Lib.hid (HR10.out.keepsNil k11)
  have HC11 := Lib.hid (HC10.out.keepsNil k11)
  have HP11 := Lib.hid (HP10.out.keeps k11 (by simp))
  have p0 := HP11.out.cell' (i := 0) rfl
  have p1 := HP11.out.cell' (i := 1) rfl
  have p2 := HP11.out.cell' (i := 2) rfl
  have p3 := HP11.out.cell' (i := 3) rfl
  clear hO11 hR11 k11 HF3 HB10 HR10 HC10 HP10 HW2
  go_wp2_with fail
  refine (rnewde_calls s HF.out.pm).mono ?_
  rintro e w12 ⟨pd, pm, rfl, hpd, hpm, hDe, k12⟩
  have hQl := HC11.out.q
  have hcl := HC11.out.b.lt
  have hwl := HC11.out.k.size
  have Hpd := Lib.hid (show ∀ x ∈ [pd, pm], w.heap.size ≤ x ∧ x ≠ pc ∧ ¬ Q x from fun x hx => by
    simp only [List.mem_cons, List.not_mem_nil, or_false] at hx
    rcases hx with rfl | rfl
    · exact ⟨by omega, by omega, fun hq => by have := (hQl _ hq).2; omega⟩
    · exact ⟨by omega, by omega, fun hq => by have := (hQl _ hq).2; omega⟩)
  have HDe := Lib.hid hDe
  have HG2 := Lib.hid (HG1.out.keepsNil k12)
  have HF5 := Lib.hid (HF4.out.keepsNil k12)
  have HB12 := Lib.hid (HB11.out.keeps k12 (by simp))
  have HR12 := Lib.hid (HR11.out.keepsNil k12)
  have HC12 := Lib.hid (HC11.out.keepsNil k12)
  clear hDe k12 HG1 HF4 HB11 HR11 HC11 HP11 p0 p1 p2 p3 hQl hcl hwl hpd hpm
  have Hty := Lib.hid (show ∀ x ∈ [pd, pm], ∃ t cs, Blk w12 x t cs ∧ 5 ≠ t ∧ 35 ≠ t ∧ 129 ≠ t from fun x hx => by
    simp only [List.mem_cons, List.not_mem_nil, or_false] at hx
    rcases hx with rfl | rfl
    · exact ⟨_, _, HDe.out.b, by decide, by decide, by decide⟩
    · obtain ⟨cs, hb⟩ := HDe.out.m.blk
      exact ⟨_, cs, hb, by decide, by decide, by decide⟩)
  obtain ⟨N0, hN0⟩ : ∃ N0, N0 = pmx s nK P z P := ⟨_, rfl⟩
  have Hz0 := Hze.out ids
  rw [← hN0] at HDe Hz0
  clear hN0 Hze
  go_wp2_with fail
  go_loopw [119] (fun i wr => ∃ (k tk : Nat) (Qd : Nat → Prop), k ≤ m ∧ i = .int .i64 k ∧ tk ≤ k ∧ RDe wr pd pm Qd s nK P z (zears s nK P z N0 (ids.take k)) tk ∧ Keeps [pd, pm] w12 wr) (fun i _ => m - (intOf i).toNat)
  case atStart => exact ⟨0, 0, _, Nat.zero_le _, rfl, Nat.le_refl _, HDe.out, Keeps.refl _ _⟩
  case round =>
    clear HDe
    obtain ⟨k, tk, Qd, hk, rfl, htk, hR, hK⟩ := hrel
    have HKw := Lib.hid (HC12.out.k.trans' hK (T := []) (by simp) (fun x hx => .inr (Hpd.out x hx).1))
    by_cases hlt : k < m
    · have hki : (k : Int) < (m : Int) := by omega
      have hkl : k < ids.length := by rw [Hm.out]; exact hlt
      obtain ⟨b, o, rfl, hc⟩ := HIds.out k ids[k] (List.getElem?_eq_getElem hkl)
      have cc := HKw.out.cell0 hc
      have hsn : zears s nK P z N0 (ids.take (k + 1)) = mAdd (nK + P) (zears s nK P z N0 (ids.take k)) ⟨rowN s nK P ids[k], zer z⟩ := by
        rw [List.take_add_one, List.getElem?_eq_getElem hkl, Option.toList_some, zears_snoc]
      generalize ids[k] = x at *
      generalize zears s nK P z N0 (ids.take k) = N at *
      have hmk := fun w => make_u8 z z (Nat.le_refl _) (by omega) w
      have kz : Keeps [] wr (wr.alloc (.cells (zeros z) 5)) := (Keeps.refl [] wr).alloc _
      have hbz : Blk (wr.alloc (.cells (zeros z) 5)) wr.heap.size 5 ((zer z).map B8) := by have := Blk.newA wr 5 (zeros z); simpa [zeros, zer] using this
      have HTk := Lib.hid ((hR.keepsNil kz).take_calls (by omega) x (RdS.blk hbz (zer_len z) (by omega)) (zer_len z))
      unfold RTakeM at HTk
      rw [← hsn] at HTk
      have HK := Lib.hid (hK.trans kz.nil)
      generalize (red N ⟨rowN s nK P x, zer z⟩).x = y at *
      clear hR hK hc hsn kz hbz
      go_wp2_with fail
      refine HTk.out.mono ?_
      rintro e w13 ⟨rfl, hR13, k13⟩
      have HR13 := Lib.hid hR13
      have HK13 := Lib.hid (HK.out.trans k13)
      clear hR13 k13 HTk
      go_wp2_with fail
      go_roundw
      case rel => exact ⟨k + 1, _, _, by omega, by go_num, by split <;> omega, HR13.out, HK13.out⟩
      case measure => simp [intOf]; omega
    · obtain rfl : k = m := by omega
      rw [List.take_of_length_le (by rw [Hm.out]; exact Nat.le_refl _)] at hR
      obtain ⟨hE, hrl⟩ := Hz0
      generalize zears s nK P z N0 ids = N at *
      generalize hbE : enuf s nK P z img ids = bE at *
      obtain ⟨nd, hnd⟩ : ∃ nd, nd = nK + P - rank N := ⟨_, rfl⟩
      rw [← hnd] at hE
      have hbe1 : decide ((nd : Int) = 0) = bE := by rw [hE]; exact decide_eq_decide.2 (by omega)
      have hbe2 : ((nd : Int) == 0) = bE := by rw [← hbe1]; rfl
      have HPd := Lib.hid hR.b
      obtain ⟨vl, hmb, hml⟩ := hR.m.b
      obtain ⟨al, cl, rfl, _⟩ := hml.form
      rw [lns_rank hR.m.e] at hmb
      have HPm := Lib.hid hmb
      have Hnd := Lib.hid hnd
      have Hrl := Lib.hid hrl
      have hf2 : ∀ x ∈ [pd, pm], ∃ t cs, Blk w12 x t cs ∧ 5 ≠ t := fun x hx => by obtain ⟨t, cs, h1, h2, _⟩ := Hty.out x hx; exact ⟨t, cs, h1, h2⟩
      have HCr := Lib.hid (HC12.out.keepsD hK Hpd.out hf2)
      have HFr := Lib.hid (HF5.out.keepsP hK hf2)
      have HGr := Lib.hid (HG2.out.keepsP hK hf2)
      have HRr := Lib.hid (HR12.out.keepsP hK hf2)
      have HBr := Lib.hid (HB12.out.keeps hK (fun hm => by obtain ⟨t, cs, h1, _, h3, _⟩ := Hty.out _ hm; exact HB12.out.ne h1 h3 rfl))
      clear hR hK hml hmb hnd hrl hE hbE hf2 HC12 HF5 HG2 HR12 HB12 Hty Hpd HKw hlt hk htk
      go_upto_region 18 with (fail)
      have d0 := HBr.out.cell' (i := 0) rfl
      have d1 := HBr.out.cell' (i := 1) rfl
      have d2 := HBr.out.cell' (i := 2) rfl
      have d3 := HBr.out.cell' (i := 3) rfl
      have d4 := HBr.out.cell' (i := 4) rfl
      have d5 := HBr.out.cell' (i := 5) rfl
      have kd : Keeps [] wr wr.drew := (Keeps.refl [] wr).drew
      refine wp_region_noPanic ?_
      refine wp_region_held_drew (S := (fun W => (W.cell? ⟨bm, 0, none⟩ = some (B32 s) ∧ W.cell? ⟨bm, 1, none⟩ = some (B32 v) ∧ W.cell? ⟨bm, 2, none⟩ = some (.int .i64 n) ∧ W.cell? ⟨bm, 3, none⟩ = some (.int .i64 z) ∧ W.cell? ⟨bm, 4, none⟩ = some (.int .i64 P) ∧ W.cell? ⟨bm, 5, none⟩ = some (.slice ah 32 ch)) ∧ (convert 22 9 (.slice a8 F1.length c8)).run Tryz.prog W = .ok (.string ⟨F1.toArray⟩) W ∧ (convert 22 9 (.slice a11 F2.length c11)).run Tryz.prog W = .ok (.string ⟨F2.toArray⟩) W)) (by kernel_rfl) ⟨⟨d0, d1, d2, d3, d4, d5⟩, (HFr.out.keepsNil kd).str, (HGr.out.keepsNil kd).str⟩ (fun hHeld => ?_)
      refine wpAnyH_take (i := 0) (v := ?v4_35) rfl (by kernel_rfl) (by kernel_rfl) (by kernel_rfl) (fun _ _ _ h => h) (Or.inl ⟨by rfl, ?y4_35⟩) (by assumption) ?r4_35
      case y4_35 => (intro w hSw; (try dsimp only at hSw); go_simp; try with_reducible rfl)
      (try simp only [Act.put, List.getElem_toArray, List.getElem_cons_zero, List.getElem_cons_succ, List.setIfInBounds_toArray, List.set_cons_zero, List.set_cons_succ])
      refine wpAnyH_take (i := 1) (v := ?v4_36) rfl (by kernel_rfl) (by kernel_rfl) (by kernel_rfl) (fun _ _ _ h => h) (Or.inl ⟨by rfl, ?y4_36⟩) (by assumption) ?r4_36
      case y4_36 => (intro w hSw; (try dsimp only at hSw); go_simp; try with_reducible rfl)
      (try simp only [Act.put, List.getElem_toArray, List.getElem_cons_zero, List.getElem_cons_succ, List.setIfInBounds_toArray, List.set_cons_zero, List.set_cons_succ])
      refine wpAnyH_take (i := 2) (v := ?v4_37) rfl (by kernel_rfl) (by kernel_rfl) (by kernel_rfl) (fun _ _ _ h => h) (Or.inl ⟨by rfl, ?y4_37⟩) (by assumption) ?r4_37
      case y4_37 => (intro w hSw; (try dsimp only at hSw); go_simp; try with_reducible rfl)
      (try simp only [Act.put, List.getElem_toArray, List.getElem_cons_zero, List.getElem_cons_succ, List.setIfInBounds_toArray, List.set_cons_zero, List.set_cons_succ])
      refine wpAnyH_take (i := 3) (v := ?v4_38) rfl (by kernel_rfl) (by kernel_rfl) (by kernel_rfl) (fun _ _ _ h => h) (Or.inl ⟨by rfl, ?y4_38⟩) (by assumption) ?r4_38
      case y4_38 => (intro w hSw; (try dsimp only at hSw); go_simp; try with_reducible rfl)
      (try simp only [Act.put, List.getElem_toArray, List.getElem_cons_zero, List.getElem_cons_succ, List.setIfInBounds_toArray, List.set_cons_zero, List.set_cons_succ])
      refine wpAnyH_take (i := 5) (v := ?v4_39) rfl (by kernel_rfl) (by kernel_rfl) (by kernel_rfl) (fun _ _ _ h => h) (Or.inl ⟨by rfl, ?y4_39⟩) (by assumption) ?r4_39
      case y4_39 => (intro w hSw; (try dsimp only at hSw); go_simp; try with_reducible rfl)
      (try simp only [Act.put, List.getElem_toArray, List.getElem_cons_zero, List.getElem_cons_succ, List.setIfInBounds_toArray, List.set_cons_zero, List.set_cons_succ])
      refine wpAnyH_ready (rs := [4]) (by kernel_rfl) (by simp) ?_
      refine AllReadyH.cons rfl (fun K hK => ?_) AllReadyH.nil
      go_simp
      refine (camanifest_calls (HCr.out.keepsNil kd)).mono ?_
      rintro e w14 ⟨a14, c14, rfl, hR14, k14⟩
      replace kd := kd.trans k14
      have HSm := Lib.hid (rsamemf_calls s v n z P hR14 (HRr.out.keepsNil kd))
      have hfa := (HFr.out.keepsNil kd).str
      have hga := (HGr.out.keepsNil kd).str
      clear hR14 k14
      go_wp2_with fail
      refine hK.out _ _ ?s4_40 (fun hHeld => ?_)
      case s4_40 => ((try dsimp only) <;> (first | exact ⟨⟨kd.cell0 d0, kd.cell0 d1, kd.cell0 d2, kd.cell0 d3, kd.cell0 d4, kd.cell0 d5⟩, hfa, hga⟩))
      clear hK K
      (try simp only [Act.put, List.getElem_toArray, List.getElem_cons_zero, List.getElem_cons_succ, List.setIfInBounds_toArray, List.set_cons_zero, List.set_cons_succ])
      refine wpAnyH_ready (rs := [6]) (by kernel_rfl) (by simp) ?_
      refine AllReadyH.cons rfl (fun K hK => ?_) AllReadyH.nil
      go_simp
      refine HSm.out.mono ?_
      rintro e w15 ⟨rfl, k15⟩
      replace kd := kd.trans k15
      have hfa := (HFr.out.keepsNil kd).str
      have hga := (HGr.out.keepsNil kd).str
      clear k15 HSm
      go_wp2_with fail
      refine hK.out _ _ ?s4_41 (fun hHeld => ?_)
      case s4_41 => ((try dsimp only) <;> (first | exact ⟨⟨kd.cell0 d0, kd.cell0 d1, kd.cell0 d2, kd.cell0 d3, kd.cell0 d4, kd.cell0 d5⟩, hfa, hga⟩))
      clear hK K
      (try simp only [Act.put, List.getElem_toArray, List.getElem_cons_zero, List.getElem_cons_succ, List.setIfInBounds_toArray, List.set_cons_zero, List.set_cons_succ])
      refine wpAnyH_take (i := 7) (v := ?v4_42) rfl (by kernel_rfl) (by kernel_rfl) (by kernel_rfl) (fun _ _ _ h => h) (Or.inl ⟨by rfl, ?y4_42⟩) (by assumption) ?r4_42
      case y4_42 => (intro w hSw; (try dsimp only at hSw); go_simp; try with_reducible rfl)
      (try simp only [Act.put, List.getElem_toArray, List.getElem_cons_zero, List.getElem_cons_succ, List.setIfInBounds_toArray, List.set_cons_zero, List.set_cons_succ])
      refine wpAnyH_take (i := 8) (v := ?v4_43) rfl (by kernel_rfl) (by kernel_rfl) (by kernel_rfl) (fun _ _ _ h => h) (Or.inl ⟨by rfl, ?y4_43⟩) (by assumption) ?r4_43
      case y4_43 => (intro w hSw; (try dsimp only at hSw); go_simp; try with_reducible rfl)
      (try simp only [Act.put, List.getElem_toArray, List.getElem_cons_zero, List.getElem_cons_succ, List.setIfInBounds_toArray, List.set_cons_zero, List.set_cons_succ])
      refine wpAnyH_take (i := 9) (v := ?v4_44) rfl (by kernel_rfl) (by kernel_rfl) (by kernel_rfl) (fun _ _ _ h => h) (Or.inl ⟨by rfl, ?y4_44⟩) (by assumption) ?r4_44
      case y4_44 => (intro w hSw; (try dsimp only at hSw); go_simp; try with_reducible rfl)
      (try simp only [Act.put, List.getElem_toArray, List.getElem_cons_zero, List.getElem_cons_succ, List.setIfInBounds_toArray, List.set_cons_zero, List.set_cons_succ])
      refine wpAnyH_take (i := 12) (v := ?v4_45) rfl (by kernel_rfl) (by kernel_rfl) (by kernel_rfl) (fun _ _ _ h => h) (Or.inl ⟨by rfl, ?y4_45⟩) (by assumption) ?r4_45
      case y4_45 => (intro w hSw; (try dsimp only at hSw); go_simp; try with_reducible rfl)
      (try simp only [Act.put, List.getElem_toArray, List.getElem_cons_zero, List.getElem_cons_succ, List.setIfInBounds_toArray, List.set_cons_zero, List.set_cons_succ])
      refine wpAnyH_take (i := 13) (v := ?v4_46) rfl (by kernel_rfl) (by kernel_rfl) (by kernel_rfl) (fun _ _ _ h => h) (Or.inl ⟨by rfl, ?y4_46⟩) (by assumption) ?r4_46
      case y4_46 => (intro w hSw; (try dsimp only at hSw); go_simp; try with_reducible rfl)
      (try simp only [Act.put, List.getElem_toArray, List.getElem_cons_zero, List.getElem_cons_succ, List.setIfInBounds_toArray, List.set_cons_zero, List.set_cons_succ])
      refine wpAnyH_ready (rs := [10]) (by kernel_rfl) (by simp) ?_
      refine AllReadyH.cons rfl (fun K hK => ?_) AllReadyH.nil
      go_simp
      refine (HCf.out _ _ _ _ _ _ (HCr.out.keepsNil kd)).mono ?_
      rintro e w16 ⟨v16, rfl, hO16, k16⟩
      replace kd := kd.trans k16
      have hY16 := hO16.rds
      obtain ⟨a16, c16, rfl, _⟩ := id_rds hY16
      have HY16 := Lib.hid hY16
      have hfa := (HFr.out.keepsNil kd).str
      have hga := (HGr.out.keepsNil kd).str
      have hya := hY16.str
      clear hO16 hY16 k16
      go_wp2_with fail
      refine hK.out _ _ ?s4_47 (fun hHeld => ?_)
      case s4_47 => ((try dsimp only) <;> (first | exact ⟨⟨kd.cell0 d0, kd.cell0 d1, kd.cell0 d2, kd.cell0 d3, kd.cell0 d4, kd.cell0 d5⟩, hfa, hga⟩))
      clear hK K
      (try simp only [Act.put, List.getElem_toArray, List.getElem_cons_zero, List.getElem_cons_succ, List.setIfInBounds_toArray, List.set_cons_zero, List.set_cons_succ])
      refine wpAnyH_more (S' := (fun W => ((convert 22 9 (.slice a8 F1.length c8)).run Tryz.prog W = .ok (.string ⟨F1.toArray⟩) W ∧ (convert 22 9 (.slice a11 F2.length c11)).run Tryz.prog W = .ok (.string ⟨F2.toArray⟩) W) ∧ (W.cell? ⟨bm, 0, none⟩ = some (B32 s) ∧ W.cell? ⟨bm, 1, none⟩ = some (B32 v) ∧ W.cell? ⟨bm, 2, none⟩ = some (.int .i64 n) ∧ W.cell? ⟨bm, 3, none⟩ = some (.int .i64 z) ∧ W.cell? ⟨bm, 4, none⟩ = some (.int .i64 P) ∧ W.cell? ⟨bm, 5, none⟩ = some (.slice ah 32 ch)) ∧ (convert 22 9 (.slice a16 F1.length c16)).run Tryz.prog W = .ok (.string ⟨F1.toArray⟩) W)) (fun _ h => ⟨h.2.1, h.1⟩) (⟨⟨hfa, hga⟩, ⟨kd.cell0 d0, kd.cell0 d1, kd.cell0 d2, kd.cell0 d3, kd.cell0 d4, kd.cell0 d5⟩, hya⟩) (fun hHeld => ?_)
      have HC16 := Lib.hid (HCr.out.keepsNil kd)
      have Hkd := Lib.hid kd
      have Hbph := Lib.hid (show bm ∉ [ph] from fun hm => by simp only [List.mem_singleton] at hm; subst hm; obtain ⟨cs, hb⟩ := HCr.out.h.blk; exact HBr.out.ne hb (by decide) rfl)
      have Hdph := Lib.hid (show pd ∉ [ph] from fun hm => by simp only [List.mem_singleton] at hm; subst hm; obtain ⟨cs, hb⟩ := HCr.out.h.blk; exact HPd.out.ne hb (by decide) rfl)
      have Hmph := Lib.hid (show pm ∉ [ph] from fun hm => by simp only [List.mem_singleton] at hm; subst hm; obtain ⟨cs, hb⟩ := HCr.out.h.blk; exact HPm.out.ne hb (by decide) rfl)
      clear hfa hga hya
      refine wpAnyH_take (i := 11) (v := ?v4_48) rfl (by kernel_rfl) (by kernel_rfl) (by kernel_rfl) (fun _ _ _ h => h) (Or.inl ⟨by rfl, ?y4_48⟩) (by assumption) ?r4_48
      case y4_48 => (intro w hSw; (try dsimp only at hSw); go_simp; try with_reducible rfl)
      (try simp only [Act.put, List.getElem_toArray, List.getElem_cons_zero, List.getElem_cons_succ, List.setIfInBounds_toArray, List.set_cons_zero, List.set_cons_succ])
      refine wpAnyH_take (i := 14) (v := ?v4_49) rfl (by kernel_rfl) (by kernel_rfl) (by kernel_rfl) (fun _ _ _ h => h) (Or.inl ⟨by rfl, ?y4_49⟩) (by assumption) ?r4_49
      case y4_49 => (intro w hSw; (try dsimp only at hSw); go_simp; try with_reducible rfl)
      (try simp only [Act.put, List.getElem_toArray, List.getElem_cons_zero, List.getElem_cons_succ, List.setIfInBounds_toArray, List.set_cons_zero, List.set_cons_succ])
      refine wpAnyH_take (i := 15) (v := ?v4_50) rfl (by kernel_rfl) (by kernel_rfl) (by kernel_rfl) (fun _ _ _ h => h) (Or.inl ⟨by rfl, ?y4_50⟩) (by assumption) ?r4_50
      case y4_50 => (intro w hSw; (try dsimp only at hSw); go_simp; try with_reducible rfl)
      (try simp only [Act.put, List.getElem_toArray, List.getElem_cons_zero, List.getElem_cons_succ, List.setIfInBounds_toArray, List.set_cons_zero, List.set_cons_succ])
      refine wpAnyH_take (i := 16) (v := ?v4_51) rfl (by kernel_rfl) (by kernel_rfl) (by kernel_rfl) (fun _ _ _ h => h) (Or.inl ⟨by rfl, ?y4_51⟩) (by assumption) ?r4_51
      case y4_51 => (intro w hSw; (try dsimp only at hSw); go_simp; try with_reducible rfl)
      (try simp only [Act.put, List.getElem_toArray, List.getElem_cons_zero, List.getElem_cons_succ, List.setIfInBounds_toArray, List.set_cons_zero, List.set_cons_succ])
      refine wpAnyH_take (i := 17) (v := ?v4_52) rfl (by kernel_rfl) (by kernel_rfl) (by kernel_rfl) (fun _ _ _ h => h) (Or.inl ⟨by rfl, ?y4_52⟩) (by assumption) ?r4_52
      case y4_52 => (intro w hSw; (try dsimp only at hSw); go_simp; try with_reducible rfl)
      (try simp only [Act.put, List.getElem_toArray, List.getElem_cons_zero, List.getElem_cons_succ, List.setIfInBounds_toArray, List.set_cons_zero, List.set_cons_succ])
      refine wpAnyH_take (i := 18) (v := ?v4_53) rfl (by kernel_rfl) (by kernel_rfl) (by kernel_rfl) (fun _ _ _ h => h) (Or.inl ⟨by rfl, ?y4_53⟩) (by assumption) ?r4_53
      case y4_53 => (intro w hSw; (try dsimp only at hSw); go_simp; try with_reducible rfl)
      (try simp only [Act.put, List.getElem_toArray, List.getElem_cons_zero, List.getElem_cons_succ, List.setIfInBounds_toArray, List.set_cons_zero, List.set_cons_succ])
      refine wpAnyH_take (i := 21) (v := ?v4_54) rfl (by kernel_rfl) (by kernel_rfl) (by kernel_rfl) (fun _ _ _ h => h) (Or.inl ⟨by rfl, ?y4_54⟩) (by assumption) ?r4_54
      case y4_54 => (intro w hSw; (try dsimp only at hSw); go_simp; try with_reducible rfl)
      (try simp only [Act.put, List.getElem_toArray, List.getElem_cons_zero, List.getElem_cons_succ, List.setIfInBounds_toArray, List.set_cons_zero, List.set_cons_succ])
      refine wpAnyH_take (i := 22) (v := ?v4_55) rfl (by kernel_rfl) (by kernel_rfl) (by kernel_rfl) (fun _ _ _ h => h) (Or.inl ⟨by rfl, ?y4_55⟩) (by assumption) ?r4_55
      case y4_55 => (intro w hSw; (try dsimp only at hSw); go_simp; try with_reducible rfl)
      (try simp only [Act.put, List.getElem_toArray, List.getElem_cons_zero, List.getElem_cons_succ, List.setIfInBounds_toArray, List.set_cons_zero, List.set_cons_succ])
      refine wpAnyH_ready (rs := [19]) (by kernel_rfl) (by simp) ?_
      refine AllReadyH.cons rfl (fun K hK => ?_) AllReadyH.nil
      go_simp
      refine (HCs.out _ _ _ _ _ _ HC16.out).mono ?_
      rintro e w17 ⟨v17, Q17, rfl, hO17, hC17, k17⟩
      have kq := Hkd.out.nil.trans k17
      have hY17 := hO17.rds
      obtain ⟨a17, c17, rfl, _⟩ := id_rds hY17
      have HY17 := Lib.hid hY17
      have HYa := Lib.hid (HC16.out.str k17 HY16.out)
      have HC17 := Lib.hid hC17
      have Hkq := Lib.hid kq
      have hfa := (HCr.out.str kq HFr.out).str
      have hga := (HCr.out.str kq HGr.out).str
      have hya := HYa.out.str
      have hyb := hY17.str
      have hbb := HBr.out.keeps kq Hbph.out
      have hcell := And.intro (hbb.cell' (i := 0) rfl) (And.intro (hbb.cell' (i := 1) rfl) (And.intro (hbb.cell' (i := 2) rfl) (And.intro (hbb.cell' (i := 3) rfl) (And.intro (hbb.cell' (i := 4) rfl) (hbb.cell' (i := 5) rfl)))))
      clear hO17 hY17 k17 hC17 kq hbb
      go_wp2_with fail
      refine hK.out _ _ ?s4_56 (fun hHeld => ?_)
      case s4_56 => ((try dsimp only) <;> (first | exact ⟨⟨hfa, hga⟩, hcell, hya⟩))
      clear hK K
      (try simp only [Act.put, List.getElem_toArray, List.getElem_cons_zero, List.getElem_cons_succ, List.setIfInBounds_toArray, List.set_cons_zero, List.set_cons_succ])
      refine wpAnyH_more (S' := (fun W => ((((convert 22 9 (.slice a8 F1.length c8)).run Tryz.prog W = .ok (.string ⟨F1.toArray⟩) W ∧ (convert 22 9 (.slice a11 F2.length c11)).run Tryz.prog W = .ok (.string ⟨F2.toArray⟩) W) ∧ (W.cell? ⟨bm, 0, none⟩ = some (B32 s) ∧ W.cell? ⟨bm, 1, none⟩ = some (B32 v) ∧ W.cell? ⟨bm, 2, none⟩ = some (.int .i64 n) ∧ W.cell? ⟨bm, 3, none⟩ = some (.int .i64 z) ∧ W.cell? ⟨bm, 4, none⟩ = some (.int .i64 P) ∧ W.cell? ⟨bm, 5, none⟩ = some (.slice ah 32 ch)) ∧ (convert 22 9 (.slice a16 F1.length c16)).run Tryz.prog W = .ok (.string ⟨F1.toArray⟩) W) ∧ (convert 22 9 (.slice a17 F2.length c17)).run Tryz.prog W = .ok (.string ⟨F2.toArray⟩) W))) (fun _ h => h.1) (⟨⟨⟨hfa, hga⟩, hcell, hya⟩, hyb⟩) (fun hHeld => ?_)
      have HIdn := Lib.hid (HC17.out.idsF HIds.out)
      have HEn17 := Lib.hid (HEn.out _ _ _ _ _ _ HC17.out HIdn.out)
      clear hfa hga hya hyb hcell
      refine wpAnyH_take (i := 20) (v := ?v4_57) rfl (by kernel_rfl) (by kernel_rfl) (by kernel_rfl) (fun _ _ _ h => h) (Or.inl ⟨by rfl, ?y4_57⟩) (by assumption) ?r4_57
      case y4_57 => (intro w hSw; (try dsimp only at hSw); go_simp; try with_reducible rfl)
      (try simp only [Act.put, List.getElem_toArray, List.getElem_cons_zero, List.getElem_cons_succ, List.setIfInBounds_toArray, List.set_cons_zero, List.set_cons_succ])
      refine wpAnyH_take (i := 23) (v := ?v4_58) rfl (by kernel_rfl) (by kernel_rfl) (by kernel_rfl) (fun _ _ _ h => h) (Or.inl ⟨by rfl, ?y4_58⟩) (by assumption) ?r4_58
      case y4_58 => (intro w hSw; (try dsimp only at hSw); go_simp; try with_reducible rfl)
      (try simp only [Act.put, List.getElem_toArray, List.getElem_cons_zero, List.getElem_cons_succ, List.setIfInBounds_toArray, List.set_cons_zero, List.set_cons_succ])
      refine wpAnyH_take (i := 24) (v := ?v4_59) rfl (by kernel_rfl) (by kernel_rfl) (by kernel_rfl) (fun _ _ _ h => h) (Or.inl ⟨by rfl, ?y4_59⟩) (by assumption) ?r4_59
      case y4_59 => (intro w hSw; (try dsimp only at hSw); go_simp; try with_reducible rfl)
      (try simp only [Act.put, List.getElem_toArray, List.getElem_cons_zero, List.getElem_cons_succ, List.setIfInBounds_toArray, List.set_cons_zero, List.set_cons_succ])
      refine wpAnyH_take (i := 25) (v := ?v4_60) rfl (by kernel_rfl) (by kernel_rfl) (by kernel_rfl) (fun _ _ _ h => h) (Or.inl ⟨by rfl, ?y4_60⟩) (by assumption) ?r4_60
      case y4_60 => (intro w hSw; (try dsimp only at hSw); go_simp; try with_reducible rfl)
      (try simp only [Act.put, List.getElem_toArray, List.getElem_cons_zero, List.getElem_cons_succ, List.setIfInBounds_toArray, List.set_cons_zero, List.set_cons_succ])
      refine wpAnyH_take (i := 26) (v := ?v4_61) rfl (by kernel_rfl) (by kernel_rfl) (by kernel_rfl) (fun _ _ _ h => h) (Or.inl ⟨by rfl, ?y4_61⟩) (by assumption) ?r4_61
      case y4_61 => (intro w hSw; (try dsimp only at hSw); go_simp; try with_reducible rfl)
      (try simp only [Act.put, List.getElem_toArray, List.getElem_cons_zero, List.getElem_cons_succ, List.setIfInBounds_toArray, List.set_cons_zero, List.set_cons_succ])
      refine wpAnyH_take (i := 27) (v := ?v4_62) rfl (by kernel_rfl) (by kernel_rfl) (by kernel_rfl) (fun _ _ _ h => h) (Or.inl ⟨by rfl, ?y4_62⟩) (by assumption) ?r4_62
      case y4_62 => (intro w hSw; (try dsimp only at hSw); go_simp; try with_reducible rfl)
      (try simp only [Act.put, List.getElem_toArray, List.getElem_cons_zero, List.getElem_cons_succ, List.setIfInBounds_toArray, List.set_cons_zero, List.set_cons_succ])
      refine wpAnyH_take (i := 29) (v := ?v4_63) rfl (by kernel_rfl) (by kernel_rfl) (by kernel_rfl) (fun _ _ _ h => h) (Or.inl ⟨by rfl, ?y4_63⟩) (by assumption) ?r4_63
      case y4_63 => (intro w hSw; (try dsimp only at hSw); go_simp; try with_reducible rfl)
      (try simp only [Act.put, List.getElem_toArray, List.getElem_cons_zero, List.getElem_cons_succ, List.setIfInBounds_toArray, List.set_cons_zero, List.set_cons_succ])
      refine wpAnyH_ready (rs := [28]) (by kernel_rfl) (by simp) ?_
      refine AllReadyH.cons rfl (fun K hK => ?_) AllReadyH.nil
      go_simp
      refine HEn17.out.mono ?_
      rintro e w18 ⟨rfl, k18, Q18, hC18⟩
      have kq := Hkq.out.trans k18
      have hfa := (HCr.out.str kq HFr.out).str
      have hga := (HCr.out.str kq HGr.out).str
      have hya := (HC17.out.str k18 HYa.out).str
      have hyb := (HC17.out.str k18 HY17.out).str
      have hbb := HBr.out.keeps kq Hbph.out
      have hcell := And.intro (hbb.cell' (i := 0) rfl) (And.intro (hbb.cell' (i := 1) rfl) (And.intro (hbb.cell' (i := 2) rfl) (And.intro (hbb.cell' (i := 3) rfl) (And.intro (hbb.cell' (i := 4) rfl) (hbb.cell' (i := 5) rfl)))))
      have HC18 := Lib.hid hC18
      have hmb := HPm.out.keeps kq Hmph.out
      have hNd := rneeds_calls (HPd.out.keeps kq Hdph.out) (hmb.cell' (i := 0) rfl) (hmb.cell' (i := 2) rfl) Hrl.out (by omega)
      rw [← Hnd.out] at hNd
      have HNd := Lib.hid hNd
      have HYc := Lib.hid (And.intro (HCr.out.str kq HFr.out) (And.intro (HCr.out.str kq HGr.out) (And.intro (HC17.out.str k18 HYa.out) (HC17.out.str k18 HY17.out))))
      have HBB := Lib.hid hbb
      clear k18 hC18 kq hbb hmb hNd
      go_wp2_with fail
      refine hK.out _ _ ?s4_64 (fun hHeld => ?_)
      case s4_64 => ((try dsimp only) <;> (first | exact ⟨⟨⟨hfa, hga⟩, hcell, hya⟩, hyb⟩))
      clear hK K
      (try simp only [Act.put, List.getElem_toArray, List.getElem_cons_zero, List.getElem_cons_succ, List.setIfInBounds_toArray, List.set_cons_zero, List.set_cons_succ])
      refine wpAnyH_ready (rs := [30]) (by kernel_rfl) (by simp) ?_
      refine AllReadyH.cons rfl (fun K hK => ?_) AllReadyH.nil
      go_simp
      refine HNd.out.mono ?_
      rintro e w19 ⟨rfl, k19⟩
      have HC19 := Lib.hid (HC18.out.keepsNil k19)
      have hfb := (HYc.out.1.keepsNil k19).str
      have hgb := (HYc.out.2.1.keepsNil k19).str
      have hyc := (HYc.out.2.2.1.keepsNil k19).str
      have hyd := (HYc.out.2.2.2.keepsNil k19).str
      have hbb := HBB.out.keeps k19 (by simp)
      have hcelb := And.intro (hbb.cell' (i := 0) rfl) (And.intro (hbb.cell' (i := 1) rfl) (And.intro (hbb.cell' (i := 2) rfl) (And.intro (hbb.cell' (i := 3) rfl) (And.intro (hbb.cell' (i := 4) rfl) (hbb.cell' (i := 5) rfl)))))
      have HHc := Lib.hid (fun (W : World) (k : Keeps [] w19 W) => (show (((convert 22 9 (.slice a8 F1.length c8)).run Tryz.prog W = .ok (.string ⟨F1.toArray⟩) W ∧ (convert 22 9 (.slice a11 F2.length c11)).run Tryz.prog W = .ok (.string ⟨F2.toArray⟩) W) ∧ (W.cell? ⟨bm, 0, none⟩ = some (B32 s) ∧ W.cell? ⟨bm, 1, none⟩ = some (B32 v) ∧ W.cell? ⟨bm, 2, none⟩ = some (.int .i64 n) ∧ W.cell? ⟨bm, 3, none⟩ = some (.int .i64 z) ∧ W.cell? ⟨bm, 4, none⟩ = some (.int .i64 P) ∧ W.cell? ⟨bm, 5, none⟩ = some (.slice ah 32 ch)) ∧ (convert 22 9 (.slice a16 F1.length c16)).run Tryz.prog W = .ok (.string ⟨F1.toArray⟩) W) ∧ (convert 22 9 (.slice a17 F2.length c17)).run Tryz.prog W = .ok (.string ⟨F2.toArray⟩) W from
        ⟨⟨⟨((HYc.out.1.keepsNil k19).keepsNil k).str, ((HYc.out.2.1.keepsNil k19).keepsNil k).str⟩, ⟨k.cell0 hcelb.1, k.cell0 hcelb.2.1, k.cell0 hcelb.2.2.1, k.cell0 hcelb.2.2.2.1, k.cell0 hcelb.2.2.2.2.1, k.cell0 hcelb.2.2.2.2.2⟩, ((HYc.out.2.2.1.keepsNil k19).keepsNil k).str⟩, ((HYc.out.2.2.2.keepsNil k19).keepsNil k).str⟩))
      clear k19 hbb hfa hga hya hyb hcell
      go_wp2_with fail
      refine hK.out _ _ ?s4_65 (fun hHeld => ?_)
      case s4_65 => ((try dsimp only) <;> (first | exact ⟨⟨⟨hfb, hgb⟩, hcelb, hyc⟩, hyd⟩))
      clear hK K
      (try simp only [Act.put, List.getElem_toArray, List.getElem_cons_zero, List.getElem_cons_succ, List.setIfInBounds_toArray, List.set_cons_zero, List.set_cons_succ])
      refine wpAnyH_take (i := 31) (v := ?v4_66) rfl (by kernel_rfl) (by kernel_rfl) (by kernel_rfl) (fun _ _ _ h => h) (Or.inl ⟨by rfl, ?y4_66⟩) (by assumption) ?r4_66
      case y4_66 => (intro w hSw; (try dsimp only at hSw); go_simp; try with_reducible rfl)
      (try simp only [Act.put, List.getElem_toArray, List.getElem_cons_zero, List.getElem_cons_succ, List.setIfInBounds_toArray, List.set_cons_zero, List.set_cons_succ])
      refine wpAnyH_take (i := 32) (v := ?v4_67) rfl (by kernel_rfl) (by kernel_rfl) (by kernel_rfl) (fun _ _ _ h => h) (Or.inl ⟨by rfl, ?y4_67⟩) (by assumption) ?r4_67
      case y4_67 => (intro w hSw; (try dsimp only at hSw); go_simp; try with_reducible rfl)
      (try simp only [Act.put, List.getElem_toArray, List.getElem_cons_zero, List.getElem_cons_succ, List.setIfInBounds_toArray, List.set_cons_zero, List.set_cons_succ])
      refine wpAnyH_take (i := 33) (v := ?v4_68) rfl (by kernel_rfl) (by kernel_rfl) (by kernel_rfl) (fun _ _ _ h => h) (Or.inl ⟨by rfl, ?y4_68⟩) (by assumption) ?r4_68
      case y4_68 => (intro w hSw; (try dsimp only at hSw); go_simp; try with_reducible rfl)
      (try simp only [Act.put, List.getElem_toArray, List.getElem_cons_zero, List.getElem_cons_succ, List.setIfInBounds_toArray, List.set_cons_zero, List.set_cons_succ])
      refine wpAnyH_take (i := 34) (v := ?v4_69) rfl (by kernel_rfl) (by kernel_rfl) (by kernel_rfl) (fun _ _ _ h => h) (Or.inl ⟨by rfl, ?y4_69⟩) (by assumption) ?r4_69
      case y4_69 => (intro w hSw; (try dsimp only at hSw); go_simp; try with_reducible rfl)
      (try simp only [Act.put, List.getElem_toArray, List.getElem_cons_zero, List.getElem_cons_succ, List.setIfInBounds_toArray, List.set_cons_zero, List.set_cons_succ])
      refine wpAnyH_ready (rs := [35]) (by kernel_rfl) (by simp) ?_
      refine AllReadyH.cons rfl (fun K hK => ?_) AllReadyH.nil
      go_simp
      refine (HA.out _ HC19.out.k).mono ?_
      rintro e w20 ⟨rfl, k20⟩
      have hend := HHc.out _ k20
      have HK20 := Lib.hid (HC19.out.k.trans k20)
      clear k20
      go_wp2_with fail
      refine hK.out _ _ ?s4_70 (fun hHeld => ?_)
      case s4_70 => ((try dsimp only) <;> (first | exact hend))
      clear hK K
      (try simp only [Act.put, List.getElem_toArray, List.getElem_cons_zero, List.getElem_cons_succ, List.setIfInBounds_toArray, List.set_cons_zero, List.set_cons_succ])
      refine wpAnyH_take (i := 36) (v := ?v4_71) rfl (by kernel_rfl) (by kernel_rfl) (by kernel_rfl) (fun _ _ _ h => h) (Or.inl ⟨by rfl, ?y4_71⟩) (by assumption) ?r4_71
      case y4_71 => (intro w hSw; (try dsimp only at hSw); go_simp; try with_reducible rfl)
      (try simp only [Act.put, List.getElem_toArray, List.getElem_cons_zero, List.getElem_cons_succ, List.setIfInBounds_toArray, List.set_cons_zero, List.set_cons_succ])
      refine wpAnyH_take (i := 37) (v := ?v4_72) rfl (by kernel_rfl) (by kernel_rfl) (by kernel_rfl) (fun _ _ _ h => h) (Or.inl ⟨by rfl, ?y4_72⟩) (by assumption) ?r4_72
      case y4_72 => (intro w hSw; (try dsimp only at hSw); go_simp; try with_reducible rfl)
      (try simp only [Act.put, List.getElem_toArray, List.getElem_cons_zero, List.getElem_cons_succ, List.setIfInBounds_toArray, List.set_cons_zero, List.set_cons_succ])
      refine wpAnyH_done (by kernel_rfl) ?_ _
      refine NoPanic.normal ?_
      go_wp2_with fail
      go_ret
      exact ⟨rfl, HK20.out⟩

theorem carouselForms_walk {w : World} (ht : TzAt w) (ak : Option Addr) (nk ck : Nat) (key : List UInt8) (hk : Rd w ak key) (hkn : key.length = nk) (hkc : nk ≤ ck) (hkm : ck ≤ maxLen) (hk0 : ak = none → key = [] ∧ ck = 0) (s v : UInt32) (ai : Option Addr) (n ci : Nat) (img : List UInt8) (hR : Rd w ai img) (hn : img.length = n) (hnc : n ≤ ci) (hcm : ci ≤ maxLen) (h0 : ai = none → img = [] ∧ ci = 0) (size p : Int) (id : UInt32) (A : Option Addr) (cI : Nat) (ids : List UInt32) (hmc : ids.length ≤ cI) (hcI : cI ≤ maxLen) (hId : IdsAt w A ids) (hI0 : A = none → ids = [] ∧ cI = 0) :
    Calls Tryz.prog 4 #[.slice ak nk ck, B32 s, B32 v, .slice ai n ci, .int .i64 size, .int .i64 p, B32 id, .slice A ids.length cI] w fun e w' => e = .returned (.bool true) ∧ Keeps [] w w' := by
  by_cases hb : 100 < nk ∨ 700 < n ∨ 200 < ids.length
  · exact carouselForms_far ht ak nk ck s v ai n ci size p id A ids.length cI hb
  · have hi : RdS0 w (.slice ai n ci) img := ⟨ai, ci, by rw [hn], by omega, by unfold maxLen at hcm; omega, hR, h0⟩
    by_cases hbad : 64 < nk ∨ PmOk (mcnt n size : Nat) p size = false
    · exact carouselForms_bad ht ak nk ck s v ai n ci img hi hn size p id A ids.length cI (by omega) (by omega) (by omega) hbad
    · have h64 : nk ≤ 64 := by omega
      have hpm : PmOk (mcnt n size : Nat) p size = true := by
        cases h : PmOk (mcnt n size : Nat) p size
        · exact absurd (.inr h) hbad
        · rfl
      obtain ⟨y, q, rfl, rfl, hm⟩ := pm_good hpm
      have hf : Fits (bcount n y) q y img := fits_mf (by rw [hn]; exact hm)
      exact carouselForms_good ht ak nk ck key hk hkn hk0 s v ai n ci img hi hn hf id A ids.length cI ids rfl hmc hId h64 (by omega)

end Go.Proofs.YtijhaeapoapgfaaGreatDoor
