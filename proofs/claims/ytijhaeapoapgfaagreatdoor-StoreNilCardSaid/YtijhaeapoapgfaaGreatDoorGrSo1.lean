/-
  GrSo1: the texts So1, So2, So3, LawStoNil, one behind another.
-/
import Derived.Test.YtijhaeapoapgfaaGreatDoorGrMac
import Derived.Test.YtijhaeapoapgfaaGreatDoorGrDeV
import Derived.Test.YtijhaeapoapgfaaGreatDoorGrWhAd2
import Derived.Test.YtijhaeapoapgfaaGreatDoorGrWhT2
import Derived.Test.YtijhaeapoapgfaaGreatDoorGrLaw18
import Derived.Test.YtijhaeapoapgfaaGreatDoorGrFlashN
import Derived.Test.YtijhaeapoapgfaaGreatDoorGrRows23
set_option linter.unusedVariables false
set_option linter.unusedSimpArgs false
namespace Go.Proofs.YtijhaeapoapgfaaGreatDoor
open Go.RowKit
attribute [local go_sem ↓] Go.wp_at_zero Go.wp_at_succ

/-- What the records of a wheel come to. -/
def recM (s : UInt32) (nK P z : Nat) (R : List Rec) : Mtx := R.foldl (fun M r => mAdd (nK + P) M ⟨rowN s nK P r.1, r.2⟩) (pmx s nK P z P)
theorem recM_snoc (s : UInt32) (nK P z : Nat) (R : List Rec) (r : Rec) : recM s nK P z (R ++ [r]) = mAdd (nK + P) (recM s nK P z R) ⟨rowN s nK P r.1, r.2⟩ := by unfold recM; rw [List.foldl_append]; rfl

/-- A symbol taken, whatever it says. -/
def Tk2Post (w : World) (p : Nat) (s : UInt32) (nK P z : Nat) (M : Mtx) (Fl : List Nat) (r : Rw) (e : Ending) (w' : World) : Prop :=
  ∃ (tk' : Nat) (Fl' : List Nat), e = .returned (.bool (decide ((red M r).x ≠ 0))) ∧ De w' p s nK P z (mAdd (nK + P) M r) tk' Fl' ∧ tk' + P = rank (mAdd (nK + P) M r) ∧ (∀ x ∈ Fl', x ∈ Fl ∨ w.heap.size ≤ x) ∧ Keeps Fl w w'
theorem dtk2_calls {w : World} {p : Nat} {s : UInt32} {nK P z : Nat} {M : Mtx} {tk : Nat} {Fl : List Nat} (h : De w p s nK P z M tk Fl) (hp : PmI nK P z) (ht : TzAt w) (h1 : tk + P = rank M) (id : UInt32) {a : Option Addr} {c : Nat} {l : List UInt8} (hl : Rd w a l) (hlz : l.length = z) :
    Calls Tryz.prog 40 #[P0 p, B32 id, .slice a z c] w (Tk2Post w p s nK P z M Fl ⟨rowN s nK P id, l⟩) := by
  have hk2 := hp.k2
  have hp2 := hp.p2
  have hle := rank_le M
  rw [h.ech.l] at hle
  refine (dtake_calls h hp ht (by omega) id hl hlz).mono ?_
  rintro e w' (⟨h0, rfl, k⟩ | ⟨h0, rfl, F', hD, hF, k, _⟩)
  · exact ⟨tk, Fl, by rw [decide_eq_false (by intro hn; exact hn h0)], by rw [mAdd_same h0]; exact h.keepsNil k, by rw [mAdd_same h0]; exact h1, fun x hx => .inl hx, k.nil⟩
  · have hr := mAdd_rank1 h.ech (r := ⟨rowN s nK P id, l⟩) (rowN_lt s nK P id) hlz h0
    exact ⟨tk + 1, F', by rw [decide_eq_true (show (red M ⟨rowN s nK P id, l⟩).x ≠ 0 from h0)], hD, by omega, hF, k⟩

/-- A store: its struct in block ps, its wheel, its decoder; its flash. -/
structure Sto (w : World) (p q ps u pd : Nat) (g : Option Nat) (N : Nat → Prop) (Fl : List Nat) (s : UInt32) (n nK P z : Nat) (F : Fla) (V : Whl) (M : Mtx) (tk : Nat) : Prop where
  b : Blk w ps 108 [.int .u32 0, .int .u32 0, .int .i64 n, .int .i64 z, .int .i64 0, .slice none 0 0, P0 u, P0 pd]
  wh : WhAn w p q u g N F V
  d : De w pd s nK P z M tk Fl
  pm : PmI nK P z
  vz : V.size = z
  t : tk + P = rank M
  a1 : ps ∉ Fl ∧ ps ≠ p ∧ ps ≠ q ∧ ps ≠ u ∧ ¬ N ps
  a2 : ∀ x ∈ Fl, x ≠ p ∧ x ≠ q ∧ x ≠ u ∧ ¬ N x
  nb : ∀ x, N x → x < w.heap.size

theorem Sto.keepsNil {w w' : World} {p q ps u pd : Nat} {g : Option Nat} {N : Nat → Prop} {Fl : List Nat} {s : UInt32} {n nK P z : Nat} {F : Fla} {V : Whl} {M : Mtx} {tk : Nat} (h : Sto w p q ps u pd g N Fl s n nK P z F V M tk) (k : Keeps [] w w') : Sto w' p q ps u pd g N Fl s n nK P z F V M tk :=
  ⟨h.b.keeps k (by simp), h.wh.keepsNil k, h.d.keepsNil k, h.pm, h.vz, h.t, h.a1, h.a2, fun x hx => Nat.lt_of_lt_of_le (h.nb x hx) k.size⟩
/-- What is done to other blocks, none of them of bytes. -/
theorem Sto.keepsT {S : List Nat} {w w' : World} {p q ps u pd : Nat} {g : Option Nat} {N : Nat → Prop} {Fl : List Nat} {s : UInt32} {n nK P z : Nat} {F : Fla} {V : Whl} {M : Mtx} {tk : Nat} (h : Sto w p q ps u pd g N Fl s n nK P z F V M tk) (k : Keeps S w w') (hS : ∀ x ∈ S, x ≠ p ∧ x ≠ q ∧ x ≠ ps ∧ x ≠ u ∧ ¬ N x ∧ x ∉ Fl) (hf : ∀ x, x ∈ S → ∃ t cs, Blk w x t cs ∧ 5 ≠ t ∧ 22 ≠ t) : Sto w' p q ps u pd g N Fl s n nK P z F V M tk :=
  ⟨h.b.keeps k (fun hm => (hS _ hm).2.2.1 rfl), h.wh.keeps k (fun x hx => ⟨(hS x hx).1, (hS x hx).2.1, (hS x hx).2.2.2.1, (hS x hx).2.2.2.2.1⟩), h.d.keepsT k (fun x hx => (hS x hx).2.2.2.2.2) hf, h.pm, h.vz, h.t, h.a1, h.a2, fun x hx => Nat.lt_of_lt_of_le (h.nb x hx) k.size⟩

def SoOpen (w : World) (p q : Nat) (s : UInt32) (n nK P z : Nat) (F : Fla) (V : Whl) (e : Ending) (w' : World) : Prop :=
  ∃ ps u pd g N Fl tk, e = .returned (.tuple #[P0 ps, .int .i64 0]) ∧ Sto w' p q ps u pd g N Fl s n nK P z F V (recM s nK P z V.l) tk ∧ w.heap.size ≤ ps ∧ w.heap.size ≤ u ∧ (∀ x ∈ Fl, w.heap.size ≤ x) ∧ (∀ x, N x → w.heap.size ≤ x) ∧ Keeps [] w w'

set_option maxRecDepth 100000 in
set_option maxHeartbeats 1600000 in
theorem sopen_nil {w : World} (s v : UInt32) {n z P nK : Nat} (h : Value) (hm : MfOk n z P nK) (gen : UInt32) :
    Calls Tryz.prog 25 #[.pointer none, MfV s v n z P h, B32 gen] w (NilPost w 1) := by
  have hB0 := Blk.newA w 35 (MfL s v n z P h).toArray
  have kA : Keeps [] w (w.alloc (.cells (MfL s v n z P h).toArray 35)) := (Keeps.refl [] w).alloc _
  have HM := Lib.hid hm
  clear hm
  go_enter Tryz.func25, Tryz.ntmps25
  have d0 := hB0.cell' (i := 0) rfl
  have d1 := hB0.cell' (i := 1) rfl
  have d2 := hB0.cell' (i := 2) rfl
  have d3 := hB0.cell' (i := 3) rfl
  have d4 := hB0.cell' (i := 4) rfl
  have d5 := hB0.cell' (i := 5) rfl
  go_wp2_with fail
  generalize w.alloc (.cells (MfL s v n z P h).toArray 35) = w0 at *
  refine (of_calls s v h HM.out).mono ?_
  rintro e w1 ⟨rfl, k1⟩
  have kB : Keeps [] w1 (w1.alloc (.cells #[B32 s, .int .i64 nK, .int .i64 P, .int .i64 z] 38)) := (Keeps.refl [] w1).alloc _
  have hP := Blk.newA w1 38 #[B32 s, .int .i64 nK, .int .i64 P, .int .i64 z]
  have HK := Lib.hid ((kA.trans k1).trans kB)
  clear d0 d1 d2 d3 d4 d5 kA k1 kB hB0
  have e3 := hP.cell' (i := 3) rfl
  go_wp2_with fail
  generalize w1.alloc (.cells #[B32 s, .int .i64 nK, .int .i64 P, .int .i64 z] 38) = w2 at *
  refine (open_nil gen (z : Int)).mono ?_
  rintro e w3 ⟨rfl, k3⟩
  have HK3 := Lib.hid (HK.out.trans k3)
  clear k3 e3 hP
  go_wp2_with fail
  go_ret2
  exact ⟨rfl, HK3.out⟩

set_option maxRecDepth 100000 in
set_option maxHeartbeats 3200000 in
theorem sopen_calls {w : World} {p q : Nat} {F : Fla} (hF : FlaAt w p q F) (hd : F.down = false) (ht : TzAt w) (s v : UInt32) {n z P nK : Nat} (h : Value) (hm : MfOk n z P nK) (gen : UInt32) :
    Calls Tryz.prog 25 #[P0 p, MfV s v n z P h, B32 gen] w (SoOpen w p q s n nK P z F (F.openWh gen z)) := by
  have hB0 := Blk.newA w 35 (MfL s v n z P h).toArray
  have kA : Keeps [] w (w.alloc (.cells (MfL s v n z P h).toArray 35)) := (Keeps.refl [] w).alloc _
  have hpm : PmI nK P z := ⟨hm.k1, hm.k2, hm.p2, hm.z1, hm.z2⟩
  have hp := hF.ltp
  have hq := hF.ltq
  have HM := Lib.hid hm
  have HPm := Lib.hid hpm
  have HF := Lib.hid hF
  have HT := Lib.hid ht
  clear hm hpm hF ht
  unfold SoOpen
  obtain ⟨V, hV⟩ : ∃ V, V = F.openWh gen z := ⟨_, rfl⟩
  have hVz : V.size = z := by rw [hV]; rfl
  have hVl : V.l.length ≤ 144 := by rw [hV]; exact open_len F gen z HM.out.z1 HM.out.z2
  have HV := Lib.hid hV
  rw [← hV]
  clear hV
  go_enter Tryz.func25, Tryz.ntmps25
  have d0 := hB0.cell' (i := 0) rfl
  have d1 := hB0.cell' (i := 1) rfl
  have d2 := hB0.cell' (i := 2) rfl
  have d3 := hB0.cell' (i := 3) rfl
  have d4 := hB0.cell' (i := 4) rfl
  have d5 := hB0.cell' (i := 5) rfl
  go_wp2_with fail
  generalize w.alloc (.cells (MfL s v n z P h).toArray 35) = w0 at *
  refine (of_calls s v h HM.out).mono ?_
  rintro e w1 ⟨rfl, k1⟩
  have kB : Keeps [] w1 (w1.alloc (.cells #[B32 s, .int .i64 nK, .int .i64 P, .int .i64 z] 38)) := (Keeps.refl [] w1).alloc _
  have hP := Blk.newA w1 38 #[B32 s, .int .i64 nK, .int .i64 P, .int .i64 z]
  have hB2 := hB0.keeps (k1.trans kB) (by simp)
  have hK2 := (kA.trans k1).trans kB
  have HK2 := Lib.hid hK2
  clear d0 d1 d2 d3 d4 d5 kA k1 kB hB0
  have e3 := hP.cell' (i := 3) rfl
  have HO := Lib.hid (open_ok (HF.out.keeps hK2 (by simp) (by simp)) hd gen z HM.out.z1 HM.out.z2)
  unfold OpenPost at HO
  rw [← HV.out] at HO
  clear hK2
  go_wp2_with fail
  generalize w1.alloc (.cells #[B32 s, .int .i64 nK, .int .i64 P, .int .i64 z] 38) = w2 at *
  refine HO.out.mono ?_
  rintro e w3 ⟨u, g, rfl, hu, hW, k3⟩
  have hP3 := hP.keeps k3 (by simp)
  have hB3 := hB2.keeps k3 (by simp)
  have HK3 := Lib.hid (HK2.out.trans k3)
  have hs2 := HK2.out.size
  have hsz3 := k3.size
  have HW3 := Lib.hid hW.an
  clear hW k3 e3 hP hB2 HO HK2
  have d2 := hB3.cell' (i := 2) rfl
  have d3 := hB3.cell' (i := 3) rfl
  have e0 := hP3.cell' (i := 0) rfl
  have e1 := hP3.cell' (i := 1) rfl
  have e2 := hP3.cell' (i := 2) rfl
  have e3 := hP3.cell' (i := 3) rfl
  go_upto_region 7 with (fail)
  have hS : ∀ W, Keeps [] w3 W → (W.cell? ⟨w.heap.size, 2, none⟩ = some (.int .i64 n) ∧ W.cell? ⟨w.heap.size, 3, none⟩ = some (.int .i64 z) ∧ W.cell? ⟨w1.heap.size, 0, none⟩ = some (B32 s) ∧ W.cell? ⟨w1.heap.size, 1, none⟩ = some (.int .i64 nK) ∧ W.cell? ⟨w1.heap.size, 2, none⟩ = some (.int .i64 P) ∧ W.cell? ⟨w1.heap.size, 3, none⟩ = some (.int .i64 z)) := fun W k => ⟨k.cell0 d2, k.cell0 d3, k.cell0 e0, k.cell0 e1, k.cell0 e2, k.cell0 e3⟩
  have HhS := Lib.hid hS
  have kd : Keeps [] w3 w3.drew := (Keeps.refl [] w3).drew
  have HN := Lib.hid (dnew_calls s nK P z HPm.out (HT.out.keeps (HK3.out.trans kd) (by simp)))
  unfold DeNew at HN
  clear hS hB3 hP3
  refine wp_region_noPanic ?_
  refine wp_region_held_drew (S := (fun W => W.cell? ⟨w.heap.size, 2, none⟩ = some (.int .i64 n) ∧ W.cell? ⟨w.heap.size, 3, none⟩ = some (.int .i64 z) ∧ W.cell? ⟨w1.heap.size, 0, none⟩ = some (B32 s) ∧ W.cell? ⟨w1.heap.size, 1, none⟩ = some (.int .i64 nK) ∧ W.cell? ⟨w1.heap.size, 2, none⟩ = some (.int .i64 P) ∧ W.cell? ⟨w1.heap.size, 3, none⟩ = some (.int .i64 z))) (by kernel_rfl) (HhS.out _ kd) (fun hHeld => ?_)
  refine wpAnyH_take (i := 0) (v := ?v1_1) rfl (by kernel_rfl) (by kernel_rfl) (by kernel_rfl) (fun _ _ _ h => h) (Or.inl ⟨by rfl, ?y1_1⟩) (by assumption) ?r1_1
  case y1_1 => (intro w hSw; (try dsimp only at hSw); go_simp; try with_reducible rfl)
  (try simp only [Act.put, List.getElem_toArray, List.getElem_cons_zero, List.getElem_cons_succ, List.setIfInBounds_toArray, List.set_cons_zero, List.set_cons_succ])
  refine wpAnyH_take (i := 1) (v := ?v1_2) rfl (by kernel_rfl) (by kernel_rfl) (by kernel_rfl) (fun _ _ _ h => h) (Or.inl ⟨by rfl, ?y1_2⟩) (by assumption) ?r1_2
  case y1_2 => (intro w hSw; (try dsimp only at hSw); go_simp; try with_reducible rfl)
  (try simp only [Act.put, List.getElem_toArray, List.getElem_cons_zero, List.getElem_cons_succ, List.setIfInBounds_toArray, List.set_cons_zero, List.set_cons_succ])
  refine wpAnyH_take (i := 2) (v := ?v1_3) rfl (by kernel_rfl) (by kernel_rfl) (by kernel_rfl) (fun _ _ _ h => h) (Or.inl ⟨by rfl, ?y1_3⟩) (by assumption) ?r1_3
  case y1_3 => (intro w hSw; (try dsimp only at hSw); go_simp; try with_reducible rfl)
  (try simp only [Act.put, List.getElem_toArray, List.getElem_cons_zero, List.getElem_cons_succ, List.setIfInBounds_toArray, List.set_cons_zero, List.set_cons_succ])
  refine wpAnyH_take (i := 3) (v := ?v1_4) rfl (by kernel_rfl) (by kernel_rfl) (by kernel_rfl) (fun _ _ _ h => h) (Or.inl ⟨by rfl, ?y1_4⟩) (by assumption) ?r1_4
  case y1_4 => (intro w hSw; (try dsimp only at hSw); go_simp; try with_reducible rfl)
  (try simp only [Act.put, List.getElem_toArray, List.getElem_cons_zero, List.getElem_cons_succ, List.setIfInBounds_toArray, List.set_cons_zero, List.set_cons_succ])
  refine wpAnyH_take (i := 4) (v := ?v1_5) rfl (by kernel_rfl) (by kernel_rfl) (by kernel_rfl) (fun _ _ _ h => h) (Or.inl ⟨by rfl, ?y1_5⟩) (by assumption) ?r1_5
  case y1_5 => (intro w hSw; (try dsimp only at hSw); go_simp; try with_reducible rfl)
  (try simp only [Act.put, List.getElem_toArray, List.getElem_cons_zero, List.getElem_cons_succ, List.setIfInBounds_toArray, List.set_cons_zero, List.set_cons_succ])
  refine wpAnyH_take (i := 5) (v := ?v1_6) rfl (by kernel_rfl) (by kernel_rfl) (by kernel_rfl) (fun _ _ _ h => h) (Or.inl ⟨by rfl, ?y1_6⟩) (by assumption) ?r1_6
  case y1_6 => (intro w hSw; (try dsimp only at hSw); go_simp; try with_reducible rfl)
  (try simp only [Act.put, List.getElem_toArray, List.getElem_cons_zero, List.getElem_cons_succ, List.setIfInBounds_toArray, List.set_cons_zero, List.set_cons_succ])
  refine wpAnyH_take (i := 6) (v := ?v1_7) rfl (by kernel_rfl) (by kernel_rfl) (by kernel_rfl) (fun _ _ _ h => h) (Or.inl ⟨by rfl, ?y1_7⟩) (by assumption) ?r1_7
  case y1_7 => (intro w hSw; (try dsimp only at hSw); go_simp; try with_reducible rfl)
  (try simp only [Act.put, List.getElem_toArray, List.getElem_cons_zero, List.getElem_cons_succ, List.setIfInBounds_toArray, List.set_cons_zero, List.set_cons_succ])
  refine wpAnyH_ready (rs := [7]) (by kernel_rfl) (by simp) ?_
  refine AllReadyH.cons rfl (fun K hK => ?_) AllReadyH.nil
  go_simp
  refine HN.out.mono ?_
  rintro e w4 ⟨pd, Fl0, rfl, hD, hFl, k4⟩
  have hFl3 : ∀ x ∈ Fl0, w3.heap.size ≤ x := hFl
  replace kd := kd.trans k4
  have HD4 := Lib.hid hD
  have HFl4 := Lib.hid hFl3
  clear hD hFl hFl3 k4
  go_wp2_with fail
  refine hK.out _ _ ?s1_8 (fun hHeld => ?_)
  case s1_8 => ((try dsimp only) <;> (first | exact HhS.out _ kd))
  clear hK K
  (try simp only [Act.put, List.getElem_toArray, List.getElem_cons_zero, List.getElem_cons_succ, List.setIfInBounds_toArray, List.set_cons_zero, List.set_cons_succ])
  refine wpAnyH_take (i := 8) (v := ?v1_9) rfl (by kernel_rfl) (by kernel_rfl) (by kernel_rfl) (fun _ _ _ h => h) (Or.inl ⟨by rfl, ?y1_9⟩) (by assumption) ?r1_9
  case y1_9 => (intro w hSw; (try dsimp only at hSw); go_simp; try with_reducible rfl)
  (try simp only [Act.put, List.getElem_toArray, List.getElem_cons_zero, List.getElem_cons_succ, List.setIfInBounds_toArray, List.set_cons_zero, List.set_cons_succ])
  refine wpAnyH_ready (rs := [9]) (by kernel_rfl) (by simp) ?_
  refine AllReadyH.cons rfl (fun K hK => ?_) AllReadyH.nil
  go_simp
  have kN : Keeps [] w4 (w4.alloc (.cells #[.int .u32 0, .int .u32 0, .int .i64 n, .int .i64 z, .int .i64 0, .slice none 0 0, P0 u, P0 pd] 108)) := (Keeps.refl [] w4).alloc _
  refine hK.out _ _ ?s1_10 (fun hHeld => ?_)
  case s1_10 => ((try dsimp only) <;> (first | exact HhS.out _ (kd.trans kN)))
  clear hK K
  (try simp only [Act.put, List.getElem_toArray, List.getElem_cons_zero, List.getElem_cons_succ, List.setIfInBounds_toArray, List.set_cons_zero, List.set_cons_succ])
  refine wpAnyH_take (i := 10) (v := ?v1_11) rfl (by kernel_rfl) (by kernel_rfl) (by kernel_rfl) (fun _ _ _ h => h) (Or.inl ⟨by rfl, ?y1_11⟩) (by assumption) ?r1_11
  case y1_11 => (intro w hSw; (try dsimp only at hSw); go_simp; try with_reducible rfl)
  (try simp only [Act.put, List.getElem_toArray, List.getElem_cons_zero, List.getElem_cons_succ, List.setIfInBounds_toArray, List.set_cons_zero, List.set_cons_succ])
  refine wpAnyH_done (by kernel_rfl) ?_ _
  refine NoPanic.normal ?_
  have hB5 := Blk.newA w4 108 #[.int .u32 0, .int .u32 0, .int .i64 n, .int .i64 z, .int .i64 0, .slice none 0 0, P0 u, P0 pd]
  have HD5 := Lib.hid (HD4.out.keepsNil kN)
  have HFu := Lib.hid HD4.out.lt
  have hsz4 := kd.size
  have HW5 := Lib.hid (HW3.out.keepsNil (kd.trans kN))
  have HK5 := Lib.hid ((HK3.out.trans kd).trans kN)
  have HK35 := Lib.hid (kd.trans kN)
  have hsz5 : (w4.alloc (.cells #[.int .u32 0, .int .u32 0, .int .i64 n, .int .i64 z, .int .i64 0, .slice none 0 0, P0 u, P0 pd] 108)).heap.size = w4.heap.size + 1 := World.size_alloc _ _
  clear d2 d3 e0 e1 e2 e3 hHeld HhS HN kN kd HD4
  generalize w4.alloc (.cells #[.int .u32 0, .int .u32 0, .int .i64 n, .int .i64 z, .int .i64 0, .slice none 0 0, P0 u, P0 pd] 108) = w5 at *
  have HRc := Lib.hid (records_calls HW5.out.at)
  unfold RecsPost at HRc
  go_wp2_with fail
  refine HRc.out.mono ?_
  rintro e w6 ⟨v6, rfl, hR6, k6⟩
  have hN6 : RecsN w6 (fun k => w5.heap.size ≤ k ∧ k < w6.heap.size) v6 V.l := hR6.recsN (fun k h1 h2 => ⟨h1, h2⟩)
  obtain ⟨a6, c6, rfl, _⟩ := hR6.form
  have hM0 : recM s nK P z (V.l.take 0) = pmx s nK P z P := rfl
  have hsz6 := k6.size
  have HD6 := Lib.hid (HD5.out.keepsNil k6)
  have HB6 := Lib.hid (hB5.keeps k6 (by simp))
  have HN6 := Lib.hid hN6
  have HK6 := Lib.hid (HK35.out.trans k6)
  have Hrk := Lib.hid (pmx_rank s nK P z P (Nat.le_refl _))
  have HM0 := Lib.hid hM0
  clear hR6 hN6 k6 hM0 HD5 hB5 HRc
  go_wp2_with fail
  go_loopw [46] (fun i wr => ∃ (k tk : Nat) (Fl : List Nat), k ≤ V.l.length ∧ i = .int .i64 k ∧ De wr pd s nK P z (recM s nK P z (V.l.take k)) tk Fl ∧ tk + P = rank (recM s nK P z (V.l.take k)) ∧ (∀ x ∈ Fl, (w3.heap.size ≤ x ∧ x < w4.heap.size) ∨ w6.heap.size ≤ x) ∧ Blk wr w4.heap.size 108 [.int .u32 0, .int .u32 0, .int .i64 n, .int .i64 z, .int .i64 0, .slice none 0 0, P0 u, P0 pd] ∧ RecsN wr (fun k => w5.heap.size ≤ k ∧ k < w6.heap.size) (.slice a6 V.l.length c6) V.l ∧ Keeps [] w3 wr ∧ w6.heap.size ≤ wr.heap.size) (fun i _ => V.l.length - (intOf i).toNat)
  case atStart => exact ⟨0, 0, Fl0, Nat.zero_le _, rfl, by rw [HM0.out]; exact HD6.out, by rw [HM0.out, Hrk.out]; omega, fun x hx => .inl ⟨HFl4.out x hx, HFu.out x hx⟩, HB6.out, HN6.out, HK6.out, Nat.le_refl _⟩
  case round =>
    clear HD6 HB6 HN6 HK6 Hrk HM0
    obtain ⟨k, tk, Fl, hk, rfl, hD, htk, hFl, hB, hN, hK, hsz⟩ := hrel
    by_cases hlt : k < V.l.length
    · have hki : (k : Int) < (V.l.length : Int) := by omega
      obtain ⟨r, hr⟩ : ∃ r, r = V.l[k] := ⟨_, rfl⟩
      have hget : V.l[k]? = some r := by rw [hr]; exact List.getElem?_eq_getElem hlt
      have hrz : r.2.length = z := by rw [← hVz]; exact HW3.out.dat r (by rw [hr]; exact List.getElem_mem hlt)
      have hsn : recM s nK P z (V.l.take (k + 1)) = mAdd (nK + P) (recM s nK P z (V.l.take k)) ⟨rowN s nK P r.1, r.2⟩ := by
        rw [List.take_add_one, hget, Option.toList_some, recM_snoc]
      obtain ⟨g0, x, rfl, hc0, hc1, hx⟩ := hN.recs.at hget
      obtain ⟨ax, cx, rfl, _, _, hrd, _⟩ := hx
      have c0 : wr.cell? ⟨g0, k * 2, none⟩ = some (B32 r.1) := by rw [Nat.mul_comm]; exact hc0
      have c1 : wr.cell? ⟨g0, k * 2 + 1, none⟩ = some (.slice ax r.2.length cx) := by rw [Nat.mul_comm]; exact hc1
      rw [hrz] at c1
      generalize recM s nK P z (V.l.take k) = M at *
      have Hsn := Lib.hid hsn
      have kR : Keeps [] wr (wr.alloc (.cells #[B32 r.1, .slice ax z cx] 115)) := (Keeps.refl [] wr).alloc _
      have hRb := Blk.newA wr 115 #[B32 r.1, .slice ax z cx]
      have HT1 := Lib.hid (dtk2_calls (c := cx) ((hD.keepsNil kR).keepsNil ((Keeps.refl [] _).drew)) HPm.out (HT.out.keeps (((HK3.out.trans hK).trans kR).drew) (by simp)) htk r.1 ((hrd.keepsNil kR).keepsNil ((Keeps.refl [] _).drew)) hrz)
      have hFlt := hD.lt
      have HFl := Lib.hid hFl
      have HFlt := Lib.hid hFlt
      have HB := Lib.hid (hB.keeps kR (by simp))
      have HN := Lib.hid (hN.keeps kR (by simp) (fun _ h _ => h))
      have HK := Lib.hid (hK.trans kR)
      have Hhr := Lib.hid hr
      have hszR : (wr.alloc (.cells #[B32 r.1, .slice ax z cx] 115)).heap.size = wr.heap.size + 1 := World.size_alloc _ _
      clear hr hD hFl hFlt hB hN hK hc0 hc1 hrd hsn hget kR htk
      go_upto_region 11 with (fail)
      clear c0 c1
      generalize wr.alloc (.cells #[B32 r.1, .slice ax z cx] 115) = w7 at *
      have b7 := HB.out.cell' (i := 7) rfl
      have r0 := hRb.cell' (i := 0) rfl
      have r1 := hRb.cell' (i := 1) rfl
      refine wp_region_noPanic ?_
      refine wp_region_held_drew (S := (fun W => W.cell? ⟨w4.heap.size, 7, none⟩ = some (P0 pd) ∧ W.cell? ⟨wr.heap.size, 0, none⟩ = some (B32 r.1) ∧ W.cell? ⟨wr.heap.size, 1, none⟩ = some (.slice ax z cx))) (by kernel_rfl) ⟨b7, r0, r1⟩ (fun hHeld => ?_)
      refine wpAnyH_take (i := 0) (v := ?v2_12) rfl (by kernel_rfl) (by kernel_rfl) (by kernel_rfl) (fun _ _ _ h => h) (Or.inl ⟨by rfl, ?y2_12⟩) (by assumption) ?r2_12
      case y2_12 => (intro w hSw; (try dsimp only at hSw); go_simp; try with_reducible rfl)
      (try simp only [Act.put, List.getElem_toArray, List.getElem_cons_zero, List.getElem_cons_succ, List.setIfInBounds_toArray, List.set_cons_zero, List.set_cons_succ])
      refine wpAnyH_take (i := 1) (v := ?v2_13) rfl (by kernel_rfl) (by kernel_rfl) (by kernel_rfl) (fun _ _ _ h => h) (Or.inl ⟨by rfl, ?y2_13⟩) (by assumption) ?r2_13
      case y2_13 => (intro w hSw; (try dsimp only at hSw); go_simp; try with_reducible rfl)
      (try simp only [Act.put, List.getElem_toArray, List.getElem_cons_zero, List.getElem_cons_succ, List.setIfInBounds_toArray, List.set_cons_zero, List.set_cons_succ])
      refine wpAnyH_take (i := 2) (v := ?v2_14) rfl (by kernel_rfl) (by kernel_rfl) (by kernel_rfl) (fun _ _ _ h => h) (Or.inl ⟨by rfl, ?y2_14⟩) (by assumption) ?r2_14
      case y2_14 => (intro w hSw; (try dsimp only at hSw); go_simp; try with_reducible rfl)
      (try simp only [Act.put, List.getElem_toArray, List.getElem_cons_zero, List.getElem_cons_succ, List.setIfInBounds_toArray, List.set_cons_zero, List.set_cons_succ])
      refine wpAnyH_take (i := 3) (v := ?v2_15) rfl (by kernel_rfl) (by kernel_rfl) (by kernel_rfl) (fun _ _ _ h => h) (Or.inl ⟨by rfl, ?y2_15⟩) (by assumption) ?r2_15
      case y2_15 => (intro w hSw; (try dsimp only at hSw); go_simp; try with_reducible rfl)
      (try simp only [Act.put, List.getElem_toArray, List.getElem_cons_zero, List.getElem_cons_succ, List.setIfInBounds_toArray, List.set_cons_zero, List.set_cons_succ])
      refine wpAnyH_take (i := 4) (v := ?v2_16) rfl (by kernel_rfl) (by kernel_rfl) (by kernel_rfl) (fun _ _ _ h => h) (Or.inl ⟨by rfl, ?y2_16⟩) (by assumption) ?r2_16
      case y2_16 => (intro w hSw; (try dsimp only at hSw); go_simp; try with_reducible rfl)
      (try simp only [Act.put, List.getElem_toArray, List.getElem_cons_zero, List.getElem_cons_succ, List.setIfInBounds_toArray, List.set_cons_zero, List.set_cons_succ])
      refine wpAnyH_take (i := 5) (v := ?v2_17) rfl (by kernel_rfl) (by kernel_rfl) (by kernel_rfl) (fun _ _ _ h => h) (Or.inl ⟨by rfl, ?y2_17⟩) (by assumption) ?r2_17
      case y2_17 => (intro w hSw; (try dsimp only at hSw); go_simp; try with_reducible rfl)
      (try simp only [Act.put, List.getElem_toArray, List.getElem_cons_zero, List.getElem_cons_succ, List.setIfInBounds_toArray, List.set_cons_zero, List.set_cons_succ])
      refine wpAnyH_take (i := 6) (v := ?v2_18) rfl (by kernel_rfl) (by kernel_rfl) (by kernel_rfl) (fun _ _ _ h => h) (Or.inl ⟨by rfl, ?y2_18⟩) (by assumption) ?r2_18
      case y2_18 => (intro w hSw; (try dsimp only at hSw); go_simp; try with_reducible rfl)
      (try simp only [Act.put, List.getElem_toArray, List.getElem_cons_zero, List.getElem_cons_succ, List.setIfInBounds_toArray, List.set_cons_zero, List.set_cons_succ])
      refine wpAnyH_take (i := 7) (v := ?v2_19) rfl (by kernel_rfl) (by kernel_rfl) (by kernel_rfl) (fun _ _ _ h => h) (Or.inl ⟨by rfl, ?y2_19⟩) (by assumption) ?r2_19
      case y2_19 => (intro w hSw; (try dsimp only at hSw); go_simp; try with_reducible rfl)
      (try simp only [Act.put, List.getElem_toArray, List.getElem_cons_zero, List.getElem_cons_succ, List.setIfInBounds_toArray, List.set_cons_zero, List.set_cons_succ])
      refine wpAnyH_ready (rs := [8]) (by kernel_rfl) (by simp) ?_
      refine AllReadyH.cons rfl (fun K hK => ?_) AllReadyH.nil
      go_simp
      refine HT1.out.mono ?_
      rintro e w8 ⟨tk', Fl', rfl, hD8, htk8, hF8, k8⟩
      have hn4 : w4.heap.size ∉ Fl := fun hm => by have := HFl.out _ hm; omega
      have hnr : wr.heap.size ∉ Fl := fun hm => by have := HFlt.out _ hm; omega
      have k8' : Keeps Fl w7 w8 := (Keeps.refl Fl w7).drew.trans k8
      have HB8 := Lib.hid (HB.out.keeps k8' hn4)
      have hRb8 := hRb.keeps k8' hnr
      have HN8 := Lib.hid (HN.out.keeps k8' (fun x hx hn => by have := HFl.out x hx; omega) (fun _ h _ => h))
      have HK8 := Lib.hid (HK.out.trans' k8' (T := []) (by simp) (fun x hx => .inr (by have := HFl.out x hx; omega)))
      have h78 := k8'.size
      have HF8 := Lib.hid (show ∀ x ∈ Fl', (w3.heap.size ≤ x ∧ x < w4.heap.size) ∨ w6.heap.size ≤ x from fun x hx => by
        rcases hF8 x hx with h1 | h1
        · exact HFl.out x h1
        · have h2 : w7.heap.size ≤ x := h1
          omega)
      rw [← Hsn.out] at hD8 htk8
      have HD8 := Lib.hid hD8
      have Htk8 := Lib.hid htk8
      have q7 := HB8.out.cell' (i := 7) rfl
      have q0 := hRb8.cell' (i := 0) rfl
      have q1 := hRb8.cell' (i := 1) rfl
      have hsz8 : w6.heap.size ≤ w8.heap.size := by omega
      clear hD8 htk8 hF8 k8 hRb8 hRb HT1
      go_wp2_with fail
      refine hK.out _ _ ?s2_20 (fun hHeld => ?_)
      case s2_20 => ((try dsimp only) <;> (first | exact ⟨q7, q0, q1⟩))
      clear hK K
      (try simp only [Act.put, List.getElem_toArray, List.getElem_cons_zero, List.getElem_cons_succ, List.setIfInBounds_toArray, List.set_cons_zero, List.set_cons_succ])
      refine wpAnyH_done (by kernel_rfl) ?_ _
      refine NoPanic.normal ?_
      clear b7 r0 r1 q7 q0 q1 hHeld
      go_wp2_with fail
      go_roundw
      case rel => exact ⟨k + 1, tk', Fl', by omega, by go_num, HD8.out, Htk8.out, HF8.out, HB8.out, HN8.out, HK8.out, hsz8⟩
      case measure => simp [intOf]; omega
    · obtain rfl : k = V.l.length := by omega
      rw [List.take_length] at hD htk
      have hFlt := hD.lt
      have hszk := hK.size
      have hwn := (HW3.out.keepsNil hK)
      have hS : Sto wr p q w4.heap.size u pd g (fun k => u < k ∧ k < w3.heap.size) Fl s n nK P z F V (recM s nK P z V.l) tk := by
        have h1 := HW3.out.ltu
        refine ⟨hB, hwn, hD, HPm.out, hVz, htk, ⟨fun hm => by have := hFl _ hm; omega, by omega, by omega, by omega, fun hm => by omega⟩, fun x hx => ?_, fun x hx => by have := hx.2; omega⟩
        rcases hFl x hx with h2 | h2
        · exact ⟨by omega, by omega, by omega, fun hn => by omega⟩
        · exact ⟨by omega, by omega, by omega, fun hn => by omega⟩
      have HSt := Lib.hid hS
      have HKe := Lib.hid (HK3.out.trans hK)
      have Hr1 := Lib.hid (show ∀ x ∈ Fl, w.heap.size ≤ x from fun x hx => by have := hFl x hx; omega)
      have Hr2 := Lib.hid (show ∀ x, (u < x ∧ x < w3.heap.size) → w.heap.size ≤ x from fun x hx => by omega)
      clear hD htk hFl hB hN hK hFlt hwn hS
      go_wp2_with fail
      go_ret2
      exact ⟨_, u, pd, g, _, Fl, tk, rfl, HSt.out, by omega, by omega, Hr1.out, Hr2.out, HKe.out⟩

end Go.Proofs.YtijhaeapoapgfaaGreatDoor

set_option linter.unusedVariables false
set_option linter.unusedSimpArgs false
namespace Go.Proofs.YtijhaeapoapgfaaGreatDoor
open Go.RowKit
attribute [local go_sem ↓] Go.wp_at_zero Go.wp_at_succ

theorem add_size (V : Whl) (F : Fla) (id : UInt32) (d : List UInt8) : (V.add F id d).2.1.size = V.size := by
  unfold Whl.add
  split
  · rfl
  · split
    · rfl
    · split
      · rfl
      · split
        · rfl
        · dsimp only
          split <;> rfl
theorem red_same (M : Mtx) (x : Nat) (d d' : List UInt8) : (red M ⟨x, d⟩).x ≠ 0 ↔ (red M ⟨x, d'⟩).x ≠ 0 := by
  rw [ne_eq, ne_eq, red_in, red_in]

section
variable {w : World} {p q ps u pd : Nat} {g : Option Nat} {N : Nat → Prop} {Fl : List Nat} {s : UInt32} {n nK P z : Nat} {F : Fla} {V : Whl} {M : Mtx} {tk : Nat}

set_option maxRecDepth 100000 in
set_option maxHeartbeats 400000 in
theorem skept_calls (h : Sto w p q ps u pd g N Fl s n nK P z F V M tk) : Calls Tryz.prog 28 #[P0 ps] w fun e w' => e = .returned (.int .i64 tk) ∧ w = w' := by
  have b7 := h.b.cell' (i := 7) rfl
  have HT := Lib.hid (dtaken_calls h.d)
  clear h
  go_enter Tryz.func28, Tryz.ntmps28
  go_wp2_with fail
  refine HT.out.mono ?_
  rintro e w1 ⟨rfl, rfl⟩
  go_wp2_with fail
  go_ret
  exact ⟨rfl, rfl⟩
set_option maxRecDepth 100000 in
set_option maxHeartbeats 400000 in
theorem sneeds_calls (h : Sto w p q ps u pd g N Fl s n nK P z F V M tk) : Calls Tryz.prog 29 #[P0 ps] w fun e w' => e = .returned (.int .i64 (nK + P - rank M : Nat)) ∧ Keeps [] w w' := by
  have b7 := h.b.cell' (i := 7) rfl
  have HT := Lib.hid (dneeds_calls h.d h.pm)
  generalize nK + P - rank M = nd at *
  clear h
  go_enter Tryz.func29, Tryz.ntmps29
  go_wp2_with fail
  refine HT.out.mono ?_
  rintro e w1 ⟨rfl, k⟩
  go_wp2_with fail
  go_ret
  exact ⟨rfl, k⟩

set_option maxRecDepth 100000 in
set_option maxHeartbeats 400000 in
theorem sput_form (h : Sto w p q ps u pd g N Fl s n nK P z F V M tk) (id : UInt32) (A : Option Addr) (m c : Nat) (hm : m ≠ z) : Calls Tryz.prog 27 #[P0 ps, B32 id, .slice A m c] w fun e w' => e = .returned (.int .i64 3) ∧ Keeps [] w w' := by
  have b3 := h.b.cell' (i := 3) rfl
  have hmb : ((m : Int) != (z : Int)) = true := by simp; omega
  have hmi : ¬ ((m : Int) = (z : Int)) := by omega
  clear h hm
  go_enter Tryz.func27, Tryz.ntmps27
  go_wp2_with fail
  go_ret
  exact ⟨rfl, Keeps.refl _ _⟩

set_option maxRecDepth 100000 in
set_option maxHeartbeats 400000 in
theorem sput_dup (h : Sto w p q ps u pd g N Fl s n nK P z F V M tk) (ht : TzAt w) (id : UInt32) (A : Option Addr) (c : Nat) (d : List UInt8) (hr : (red M ⟨rowN s nK P id, d⟩).x = 0) : Calls Tryz.prog 27 #[P0 ps, B32 id, .slice A z c] w fun e w' => e = .returned (.int .i64 8) ∧ Keeps [] w w' := by
  have b3 := h.b.cell' (i := 3) rfl
  have b7 := h.b.cell' (i := 7) rfl
  have hS := dsays_calls h.d h.pm ht id
  rw [decide_eq_false (fun hn => (red_same M _ _ d).1 hn hr)] at hS
  have HS := Lib.hid hS
  have hmb : ((z : Int) != (z : Int)) = false := by simp
  clear h hr hS ht
  go_enter Tryz.func27, Tryz.ntmps27
  go_wp2_with fail
  refine HS.out.mono ?_
  rintro e w1 ⟨rfl, k⟩
  go_wp2_with fail
  go_ret
  exact ⟨rfl, k⟩

/-- What comes of a symbol that says something new. -/
def soPut (s : UInt32) (nK P : Nat) (M : Mtx) (id : UInt32) (d : List UInt8) (r : Fla × Whl × Int) : Mtx := if r.2.2 = 0 then mAdd (nK + P) M ⟨rowN s nK P id, d⟩ else M
def SoPut (w : World) (p q ps u pd : Nat) (g : Option Nat) (N : Nat → Prop) (Fl : List Nat) (s : UInt32) (n nK P z : Nat) (M : Mtx) (id : UInt32) (d : List UInt8) (r : Fla × Whl × Int) (e : Ending) (w' : World) : Prop :=
  e = .returned (.int .i64 r.2.2) ∧ ∃ g' N' Fl' tk', Sto w' p q ps u pd g' N' Fl' s n nK P z r.1 r.2.1 (soPut s nK P M id d r) tk' ∧ (∀ x, N' x → N x ∨ w.heap.size ≤ x) ∧ (∀ x ∈ Fl', x ∈ Fl ∨ w.heap.size ≤ x) ∧ Keeps (p :: q :: u :: (g.toList ++ Fl)) w w'

set_option maxRecDepth 100000 in
set_option maxHeartbeats 1600000 in
theorem sput_new (h : Sto w p q ps u pd g N Fl s n nK P z F V M tk) (ht : TzAt w) (htn : 1 ∉ p :: q :: u :: g.toList) (id : UInt32) {A : Option Addr} {c : Nat} {d : List UInt8} (hA : Rd w A d) (hA0 : A = none → d = [] ∧ c = 0) (hc : d.length ≤ c) (hcm : c ≤ 9223372036854775807)
    (hAp : ∀ x, A = some x → d ≠ [] → x.block ≠ p ∧ x.block ≠ q ∧ x.block ≠ u ∧ ¬ N x.block) (hdz : d.length = z) (hr : (red M ⟨rowN s nK P id, d⟩).x ≠ 0) :
    Calls Tryz.prog 27 #[P0 ps, B32 id, .slice A z c] w (SoPut w p q ps u pd g N Fl s n nK P z M id d (V.add F id d)) := by
  have hfull : rank M ≠ nK + P := fun hf => hr (red_in.2 (full_in h.d.ech hf (rowN_lt s nK P id)))
  have b3 := h.b.cell' (i := 3) rfl
  have b6 := h.b.cell' (i := 6) rfl
  have b7 := h.b.cell' (i := 7) rfl
  have hS := dsays_calls h.d h.pm ht id
  rw [decide_eq_true ((red_same M _ _ d).2 hr)] at hS
  have HS := Lib.hid hS
  have hgN : ∀ y, g = some y → N y := h.wh.gn
  have hAd : ∀ W, Keeps [] w W → Calls Tryz.prog 67 #[P0 u, B32 id, .slice A z c] W (AddPostN W p q u g (fun k => N k ∨ W.heap.size ≤ k) (V.add F id d)) := fun W k => by
    have h1 := addN_calls (h.wh.keepsNil k) id A c d (hA.keepsNil k) hA0 hc hcm (fun x hx hd => ⟨(hAp x hx hd).1, (hAp x hx hd).2.1, (hAp x hx hd).2.2.1, fun hg => (hAp x hx hd).2.2.2 (hgN _ hg)⟩)
    rwa [hdz] at h1
  have hVz := (add_size V F id d).trans h.vz
  generalize V.add F id d = r at *
  obtain ⟨G, V', err⟩ := r
  unfold AddPostN at hAd
  dsimp only at hAd hVz
  have HAd := Lib.hid hAd
  have HH := Lib.hid h
  have HA := Lib.hid hA
  have HAp := Lib.hid hAp
  have Ht := Lib.hid ht
  have Hr := Lib.hid hr
  have hmb : ((z : Int) != (z : Int)) = false := by simp
  clear h hS hAd hA hAp ht hr
  unfold SoPut
  dsimp only
  go_enter Tryz.func27, Tryz.ntmps27
  go_wp2_with fail
  refine HS.out.mono ?_
  rintro e w1 ⟨rfl, k1⟩
  have c6 := k1.cell0 b6
  clear b6
  go_wp2_with fail
  refine (HAd.out w1 k1).mono ?_
  rintro e w2 ⟨rfl, g', hW, hg', k2⟩
  have hs1 := k1.size
  have hs2 := k2.size
  have HK2 := Lib.hid (k1.nil.trans k2)
  have hW2 := hW.bound
  have hFlt := HH.out.d.lt
  have hdis : ∀ x, x ∈ p :: q :: u :: g.toList → x ∉ Fl := fun x hx hm => by
    have h1 := HH.out.a2 x hm
    simp only [List.mem_cons, Option.mem_toList] at hx
    rcases hx with rfl | rfl | rfl | hx
    · exact h1.1 rfl
    · exact h1.2.1 rfl
    · exact h1.2.2.1 rfl
    · exact h1.2.2.2 (hgN x hx)
  have hpsn : ps ∉ p :: q :: u :: g.toList := fun hx => by
    have h1 := HH.out.a1
    simp only [List.mem_cons, Option.mem_toList] at hx
    rcases hx with rfl | rfl | rfl | hx
    · exact h1.2.1 rfl
    · exact h1.2.2.1 rfl
    · exact h1.2.2.2.1 rfl
    · exact h1.2.2.2.2 (hgN _ hx)
  have hD2 := HH.out.d.keeps HK2.out hdis (fun hf => absurd hf hfull)
  have hB2 := HH.out.b.keeps HK2.out hpsn
  have hpl := hB2.lt
  have hps := HH.out.b.lt
  have hN' : ∀ x, ((N x ∨ w1.heap.size ≤ x) ∧ x < w2.heap.size) → N x ∨ w.heap.size ≤ x := fun x hx => by
    rcases hx.1 with h1 | h1
    · exact .inl h1
    · exact .inr (by omega)
  have ha1 : ps ∉ Fl ∧ ps ≠ p ∧ ps ≠ q ∧ ps ≠ u ∧ ¬ ((N ps ∨ w1.heap.size ≤ ps) ∧ ps < w2.heap.size) := by
    have h1 := HH.out.a1
    refine ⟨h1.1, h1.2.1, h1.2.2.1, h1.2.2.2.1, fun hx => ?_⟩
    rcases hx.1 with h2 | h2
    · exact h1.2.2.2.2 h2
    · omega
  have ha2 : ∀ x ∈ Fl, x ≠ p ∧ x ≠ q ∧ x ≠ u ∧ ¬ ((N x ∨ w1.heap.size ≤ x) ∧ x < w2.heap.size) := fun x hm => by
    have h1 := HH.out.a2 x hm
    have h3 := hFlt x hm
    refine ⟨h1.1, h1.2.1, h1.2.2.1, fun hx => ?_⟩
    rcases hx.1 with h2 | h2
    · exact h1.2.2.2 h2
    · omega
  by_cases he : err = 0
  · subst he
    have hRd : Rd w2 A d := HA.out.keeps HK2.out (fun x hx hd hm => by
      have h1 := HAp.out x hx hd
      simp only [List.mem_cons, Option.mem_toList] at hm
      rcases hm with hm | hm | hm | hm
      · exact h1.1 hm
      · exact h1.2.1 hm
      · exact h1.2.2.1 hm
      · exact h1.2.2.2 (hgN _ hm))
    have HT := Lib.hid (dtk2_calls (c := c) hD2 HH.out.pm (Ht.out.keeps HK2.out htn) HH.out.t id hRd hdz)
    have c7 := hB2.cell' (i := 7) rfl
    have HB2 := Lib.hid hB2
    have HW2 := Lib.hid hW2
    have HN' := Lib.hid hN'
    have Ha1 := Lib.hid ha1
    have Ha2 := Lib.hid ha2
    clear hW hg' k2 hW2 hD2 hB2 hRd hN' ha1 ha2 hdis HS HAd c6
    go_wp2_with fail
    refine HT.out.mono ?_
    rintro e w3 ⟨tk', Fl', rfl, hD3, ht3, hF3, k3⟩
    have hs3 := k3.size
    have HS3 : Hid (Sto w3 p q ps u pd g' (fun k => (N k ∨ w1.heap.size ≤ k) ∧ k < w2.heap.size) Fl' s n nK P z G V' (mAdd (nK + P) M ⟨rowN s nK P id, d⟩) tk') := Lib.hid ⟨HB2.out.keeps k3 Ha1.out.1, HW2.out.keeps k3 Ha2.out, hD3, HH.out.pm, hVz, ht3, ⟨fun hm => by
        rcases hF3 ps hm with h1 | h1
        · exact Ha1.out.1 h1
        · omega, Ha1.out.2⟩, fun x hx => by
        rcases hF3 x hx with h1 | h1
        · exact Ha2.out x h1
        · have h4 := HW2.out.ltu
          have h5 := HW2.out.pu
          have h6 := HW2.out.qu
          exact ⟨by omega, by omega, by omega, fun hn => by omega⟩, fun x hx => by have := hx.2; omega⟩
    have HF3 := Lib.hid (show ∀ x ∈ Fl', x ∈ Fl ∨ w.heap.size ≤ x from fun x hx => by
      rcases hF3 x hx with h1 | h1
      · exact .inl h1
      · exact .inr (by omega))
    have HK3 : Hid (Keeps (p :: q :: u :: (g.toList ++ Fl)) w w3) := Lib.hid (HK2.out.trans' k3 (fun x hx => .inl (by simp only [List.mem_cons, List.mem_append] at hx ⊢; rcases hx with h | h | h | h <;> simp [h])) (fun x hx => .inl (by simp [hx])))
    clear hD3 ht3 hF3 k3 HT c7
    go_wp2_with fail
    go_ret
    exact ⟨rfl, g', _, Fl', tk', by unfold soPut; rw [if_pos rfl]; exact HS3.out, HN'.out, HF3.out, HK3.out⟩
  · have hS2 : Sto w2 p q ps u pd g' (fun k => (N k ∨ w1.heap.size ≤ k) ∧ k < w2.heap.size) Fl s n nK P z G V' M tk := ⟨hB2, hW2, hD2, HH.out.pm, hVz, HH.out.t, ha1, ha2, fun x hx => hx.2⟩
    have HS2 := Lib.hid hS2
    have HN' := Lib.hid hN'
    have HK3 : Hid (Keeps (p :: q :: u :: (g.toList ++ Fl)) w w2) := Lib.hid (HK2.out.mono (fun x hx => .inl (by simp only [List.mem_cons, List.mem_append] at hx ⊢; rcases hx with h | h | h | h <;> simp [h])))
    have heb : (err != 0) = true := by simpa using he
    clear hW hg' k2 hW2 hD2 hB2 hN' ha1 ha2 hdis HS HAd c6 hS2
    go_wp2_with fail
    go_ret
    exact ⟨rfl, g', _, Fl, tk, by unfold soPut; rw [if_neg he]; exact HS2.out, HN'.out, fun x hx => .inl hx, HK3.out⟩

end

end Go.Proofs.YtijhaeapoapgfaaGreatDoor

set_option linter.unusedVariables false
set_option linter.unusedSimpArgs false
namespace Go.Proofs.YtijhaeapoapgfaaGreatDoor
open Go.RowKit
attribute [local go_sem ↓] Go.wp_at_zero Go.wp_at_succ

set_option maxRecDepth 100000 in
set_option maxHeartbeats 400000 in
theorem skeptNil_calls {w : World} : Calls Tryz.prog 28 #[.pointer none] w fun e w' => e = .returned (.int .i64 0) ∧ Keeps [] w w' := by
  go_enter Tryz.func28, Tryz.ntmps28
  go_wp2_with fail
  go_ret
  exact ⟨rfl, Keeps.refl _ _⟩
set_option maxRecDepth 100000 in
set_option maxHeartbeats 400000 in
theorem sneedsNil_calls {w : World} : Calls Tryz.prog 29 #[.pointer none] w fun e w' => e = .returned (.int .i64 0) ∧ Keeps [] w w' := by
  go_enter Tryz.func29, Tryz.ntmps29
  go_wp2_with fail
  go_ret
  exact ⟨rfl, Keeps.refl _ _⟩
set_option maxRecDepth 100000 in
set_option maxHeartbeats 400000 in
theorem simageNil_calls {w : World} : Calls Tryz.prog 24 #[.pointer none] w fun e w' => e = .returned (.tuple #[.slice none 0 0, .bool false]) ∧ Keeps [] w w' := by
  go_enter Tryz.func24, Tryz.ntmps24
  go_wp2_with fail
  go_ret2
  exact ⟨rfl, Keeps.refl _ _⟩
set_option maxRecDepth 100000 in
set_option maxHeartbeats 400000 in
theorem sputNil_calls {w : World} (id : UInt32) (v : Value) : Calls Tryz.prog 27 #[.pointer none, B32 id, v] w fun e w' => e = .returned (.int .i64 1) ∧ Keeps [] w w' := by
  go_enter Tryz.func27, Tryz.ntmps27
  go_wp2_with fail
  go_ret
  exact ⟨rfl, Keeps.refl _ _⟩

set_option maxRecDepth 100000 in
set_option maxHeartbeats 400000 in
theorem small_calls {w : World} (h : Value) (hh : ∃ a n c, h = .slice a n c) : Calls Tryz.prog 26 #[h] w fun e w' => e = .returned (MfV 1 2 3 2 1 h) ∧ Keeps [] w w' := by
  obtain ⟨a, n, c, rfl⟩ := hh
  have hZ := Blk.newA w 35 #[.int .u32 0, .int .u32 0, .int .i64 0, .int .i64 0, .int .i64 0, .slice none 0 0]
  have kZ : Keeps [] w (w.alloc (.cells #[.int .u32 0, .int .u32 0, .int .i64 0, .int .i64 0, .int .i64 0, .slice none 0 0] 35)) := (Keeps.refl [] w).alloc _
  go_enter Tryz.func26, Tryz.ntmps26
  go_upto_region 1 with (fail)
  generalize w.alloc (.cells #[.int .u32 0, .int .u32 0, .int .i64 0, .int .i64 0, .int .i64 0, .slice none 0 0] 35) = wz at *
  have f0 := hZ.frozen 0
  have f1 := hZ.frozen 1
  have f2 := hZ.frozen 2
  have f3 := hZ.frozen 3
  have f4 := hZ.frozen 4
  have f5 := hZ.frozen 5
  have z0 := hZ.cell' (i := 0) rfl
  have z1 := hZ.cell' (i := 1) rfl
  have z2 := hZ.cell' (i := 2) rfl
  have z3 := hZ.cell' (i := 3) rfl
  have z4 := hZ.cell' (i := 4) rfl
  have z5 := hZ.cell' (i := 5) rfl
  have hZ6 := hZ.put6 (.int .u32 1) (.int .u32 2) (.int .i64 3) (.int .i64 2) (.int .i64 1) (.slice a n c)
  have K6 := Lib.hid (kZ.put6 (p := w.heap.size) (.inr (Nat.le_refl _)) (.int .u32 1) (.int .u32 2) (.int .i64 3) (.int .i64 2) (.int .i64 1) (.slice a n c))
  have e0 := hZ6.cell' (i := 0) rfl
  have e1 := hZ6.cell' (i := 1) rfl
  have e2 := hZ6.cell' (i := 2) rfl
  have e3 := hZ6.cell' (i := 3) rfl
  have e4 := hZ6.cell' (i := 4) rfl
  have e5 := hZ6.cell' (i := 5) rfl
  clear hZ hZ6 kZ
  go_wp2_with fail
  refine bodyPost_ret (v := MfV 1 2 3 2 1 (.slice a n c)) (by simp [results, Tryz.results26, go_sem, e0, e1, e2, e3, e4, e5]) rfl ?_
  exact ⟨rfl, K6.out⟩

theorem TzAt.ltw {w : World} (h : TzAt w) : 1 < w.heap.size := World.block_lt_of_cell? w _ (h 0 (by omega))
theorem fitsS : Fits 2 1 2 [1, 2, 3] := ⟨by omega, by omega, by omega, by omega, by omega, by decide, by decide, by decide⟩
theorem symbS0 : symb 1 2 1 2 [1, 2, 3] 0 = [1, 2] := by decide +kernel
theorem mfS : MfOk 3 2 1 2 := ⟨by omega, by omega, by omega, by omega, by omega, by omega, by omega, by decide⟩
/-- What awake's store comes to. -/
theorem awakeS_plain : ∃ M0 M1 : Mtx, M0 = pmx 1 2 1 2 1 ∧ M1 = mAdd (2 + 1) M0 ⟨rowN 1 2 1 0, [1, 2]⟩ ∧ (red M0 ⟨rowN 1 2 1 0, [1, 2]⟩).x ≠ 0 ∧ (red M1 ⟨rowN 1 2 1 0, [1, 2]⟩).x = 0 ∧ rank M1 = 2 := by
  have hS := Sd.start fitsS 1
  have hF := hears_full fitsS hS (l := [0, 1]) (fun i hi => by
    rcases (show i = 0 ∨ i = 1 from by omega) with rfl | rfl
    · exact ⟨0, by simp, rfl⟩
    · exact ⟨1, by simp, rfl⟩)
  have hr : rank (pmx 1 2 1 2 1) = 1 := pmx_rank 1 2 1 2 1 (Nat.le_refl _)
  have e0 : symR 1 2 1 2 [1, 2, 3] 0 = ⟨rowN 1 2 1 0, [1, 2]⟩ := by unfold symR; rw [symbS0]
  have n1 := (hears_new fitsS hS [] 0 [1] (by rw [hr]; exact hF)).1
  simp only [hears, List.foldl_nil, e0] at n1
  have hag := hS.again fitsS 0 (symR 1 2 1 2 [1, 2, 3] 0) rfl
  rw [e0] at hag
  have hrk := mAdd_rank1 hS.e (r := ⟨rowN 1 2 1 0, [1, 2]⟩) (rowN_lt 1 2 1 0) rfl n1
  exact ⟨_, _, rfl, rfl, n1, hag, by rw [hrk, hr]⟩

set_option maxRecDepth 100000 in
set_option maxHeartbeats 1600000 in
theorem awake23_calls {w : World} (ht : TzAt w) : Calls Tryz.prog 30 #[] w fun e w' => e = .returned (.bool true) ∧ Keeps [] w w' := by
  obtain ⟨M0, M1, e0, e1, n0, n1, hrk⟩ := awakeS_plain
  obtain ⟨G, hadd, hG, hGd, hL⟩ := first_add 10 (by omega) 1 (s := 2) (by omega) (by omega) 0 [1, 2] rfl
  have hOW : (Fla.new 10).openWh 1 2 = logWh 1 2 [] := new_open 10 1 (by omega) (by omega)
  have hmk : ∀ w, (Instr.makeSlice 22 (.int .i64 32) (.int .i64 32)).run Tryz.prog w = .ok (.slice (some ⟨w.heap.size, 0, none⟩) 32 32) (w.alloc (.cells (zeros 32) 5)) := fun w => make_u8 32 32 (Nat.le_refl _) (by omega) w
  have hOp : ∀ (W : World) (p q : Nat) (a : Option Addr) (c : Nat), FlaAt W p q (Fla.new 10) → TzAt W → Calls Tryz.prog 25 #[P0 p, MfV 1 2 3 2 1 (.slice a 32 c), .int .u32 1] W (SoOpen W p q 1 3 2 1 2 (Fla.new 10) (logWh 1 2 [])) := fun W p q a c h t => by
    have h1 := sopen_calls h rfl t 1 2 (.slice a 32 c) mfS 1
    rwa [hOW] at h1
  have hM0 : recM 1 2 1 2 (logWh 1 2 []).l = M0 := by rw [e0]; rfl
  unfold SoOpen at hOp
  rw [hM0] at hOp
  have hPn : ∀ (W : World) (p q ps u pd : Nat) (g : Option Nat) (N : Nat → Prop) (Fl : List Nat) (tk b : Nat), Sto W p q ps u pd g N Fl 1 3 2 1 2 (Fla.new 10) (logWh 1 2 []) M0 tk → TzAt W → 1 ∉ p :: q :: u :: g.toList → Rd W (some ⟨b, 0, none⟩) [1, 2] → b ≠ p ∧ b ≠ q ∧ b ≠ u ∧ ¬ N b → Calls Tryz.prog 27 #[P0 ps, .int .u32 0, .slice (some ⟨b, 0, none⟩) 2 2] W (SoPut W p q ps u pd g N Fl 1 3 2 1 2 M0 0 [1, 2] (G, logWh 1 2 [some (0, [1, 2])], 0)) := fun W p q ps u pd g N Fl tk b h t tn hr hb => by
    have h1 := sput_new h t tn 0 (c := 2) hr (by simp) (by simp) (by omega) (fun x hx _ => by obtain rfl := Option.some.inj hx; exact hb) rfl n0
    rwa [hadd] at h1
  have hsp : soPut 1 2 1 M0 0 [1, 2] (G, logWh 1 2 [some (0, [1, 2])], 0) = M1 := by rw [e1]; rfl
  unfold SoPut at hPn
  rw [hsp] at hPn
  dsimp only at hPn
  have hPd : ∀ (W : World) (p q ps u pd : Nat) (g : Option Nat) (N : Nat → Prop) (Fl : List Nat) (tk b : Nat) (V : Whl), Sto W p q ps u pd g N Fl 1 3 2 1 2 G V M1 tk → TzAt W → Calls Tryz.prog 27 #[P0 ps, .int .u32 0, .slice (some ⟨b, 0, none⟩) 2 2] W (fun e w' => e = .returned (.int .i64 8) ∧ Keeps [] W w') := fun W p q ps u pd g N Fl tk b V h t => sput_dup h t 0 _ 2 [1, 2] n1
  have hKp : ∀ (W : World) (p q ps u pd : Nat) (g : Option Nat) (N : Nat → Prop) (Fl : List Nat) (tk : Nat) (V : Whl), Sto W p q ps u pd g N Fl 1 3 2 1 2 G V M1 tk → Calls Tryz.prog 28 #[P0 ps] W (fun e w' => e = .returned (.int .i64 1) ∧ W = w') := fun W p q ps u pd g N Fl tk V h => by
    have h1 := skept_calls h
    have h2 := h.t
    rw [hrk] at h2
    rwa [show tk = 1 from by omega] at h1
  have hNd : ∀ (W : World) (p q ps u pd : Nat) (g : Option Nat) (N : Nat → Prop) (Fl : List Nat) (tk : Nat) (V : Whl), Sto W p q ps u pd g N Fl 1 3 2 1 2 G V M1 tk → Calls Tryz.prog 29 #[P0 ps] W (fun e w' => e = .returned (.int .i64 1) ∧ Keeps [] W w') := fun W p q ps u pd g N Fl tk V h => by
    have h1 := sneeds_calls h
    rw [hrk] at h1
    exact h1
  generalize logWh 1 2 [some (0, [1, 2])] = V1 at *
  generalize logWh 1 2 [] = V0 at *
  have HOp := Lib.hid hOp
  have HPn := Lib.hid hPn
  have HPd := Lib.hid hPd
  have HKp := Lib.hid hKp
  have HNd := Lib.hid hNd
  have HT := Lib.hid ht
  clear hOp hPn hPd hKp hNd hadd hL hM0 hsp n0 n1 hrk e0 e1 hOW hG
  have htp := ht.ltw
  clear ht
  go_enter Tryz.func30, Tryz.ntmps30
  go_wp2_with fail
  refine (new_calls 10).mono ?_
  rintro e w1 ⟨p, q, rfl, hp, hq, hF, k1⟩
  have kM : Keeps [] w1 (w1.alloc (.cells (zeros 32) 5)) := (Keeps.refl [] w1).alloc _
  have HF := Lib.hid (hF.keeps kM (by simp) (by simp))
  have HK := Lib.hid (k1.trans kM)
  have hp1 := hF.ltp
  have hq1 := hF.ltq
  clear hF kM k1
  go_wp2_with fail
  generalize w1.alloc (.cells (zeros 32) 5) = wm at *
  refine (small_calls _ ⟨_, _, _, rfl⟩).mono ?_
  rintro e w2 ⟨rfl, k2⟩
  have HO := Lib.hid (HOp.out w2 p q (some ⟨w1.heap.size, 0, none⟩) 32 (HF.out.keeps k2 (by simp) (by simp)) (HT.out.keeps (HK.out.trans k2) (by simp)))
  have HK2 := Lib.hid (HK.out.trans k2)
  clear k2 HF HK
  go_wp2_with fail
  refine HO.out.mono ?_
  rintro e w3 ⟨ps, u, pd, g, N, Fl, tk, rfl, hS, hps, hu, hFl, hN, k3⟩
  have kL : Keeps [] w3 (w3.alloc (.cells #[.int .u8 1, .int .u8 2] 5)) := (Keeps.refl [] w3).alloc _
  have hs2 := HK2.out.size
  have hs3 := k3.size
  have hul := hS.wh.ltu
  have hpl := hS.wh.pu
  have hql := hS.wh.qu
  have hg : ∀ y, g = some y → w2.heap.size ≤ y := fun y hy => hN y (hS.wh.gn y hy)
  have htn : 1 ∉ p :: q :: u :: g.toList := fun hm => by
    simp only [List.mem_cons, Option.mem_toList] at hm
    rcases hm with hm | hm | hm | hm
    · omega
    · omega
    · omega
    · have := hg _ hm; omega
  have HP := Lib.hid (HPn.out _ p q ps u pd g N Fl tk w3.heap.size (hS.keepsNil kL) (HT.out.keeps ((HK2.out.trans k3).trans kL) (by simp)) htn (Rd.lit w3 5 #[.int .u8 1, .int .u8 2] [1, 2] rfl) ⟨by omega, by omega, by omega, fun hn => by have := hS.nb _ hn; omega⟩)
  have HK3 := Lib.hid ((HK2.out.trans k3).trans kL)
  have HFl := Lib.hid hFl
  have HNw := Lib.hid hN
  have Hg := Lib.hid hg
  clear hS hFl hN k3 kL HO hg htn HOp HPn
  go_wp2_with fail
  generalize w3.alloc (.cells #[.int .u8 1, .int .u8 2] 5) = w4 at *
  refine HP.out.mono ?_
  rintro e w5 ⟨rfl, g', N', Fl', tk', hS5, hN5, hF5, k5⟩
  have kC : Keeps [] w5 (w5.alloc (.cells #[.int .u8 1, .int .u8 2] 5)) := (Keeps.refl [] w5).alloc _
  have HK5 := Lib.hid ((HK3.out.trans' k5 (T := []) (by simp) (fun x hx => by
    simp only [List.mem_cons, List.mem_append, Option.mem_toList] at hx
    rcases hx with rfl | rfl | rfl | hx | hx
    · exact .inr (by omega)
    · exact .inr (by omega)
    · exact .inr (by omega)
    · exact .inr (by have := Hg.out x hx; omega)
    · exact .inr (by have := HFl.out x hx; omega))).trans kC)
  have HS5 := Lib.hid (hS5.keepsNil kC)
  clear hS5 hN5 hF5 k5 kC HP HFl HNw Hg
  go_wp2_with fail
  generalize w5.alloc (.cells #[.int .u8 1, .int .u8 2] 5) = w6 at *
  refine (HPd.out w6 p q ps u pd g' N' Fl' tk' w5.heap.size _ HS5.out (HT.out.keeps HK5.out (by simp))).mono ?_
  rintro e w7 ⟨rfl, k7⟩
  have HS7 := Lib.hid (HS5.out.keepsNil k7)
  have HK7 := Lib.hid (HK5.out.trans k7)
  clear k7 HS5 HK5
  go_wp2_with fail
  refine (HKp.out w7 p q ps u pd g' N' Fl' tk' _ HS7.out).mono ?_
  rintro e w8 ⟨rfl, rfl⟩
  go_wp2_with fail
  refine (HNd.out w7 p q ps u pd g' N' Fl' tk' _ HS7.out).mono ?_
  rintro e w9 ⟨rfl, k9⟩
  go_wp2_with fail
  go_ret
  exact ⟨rfl, HK7.out.trans k9⟩

end Go.Proofs.YtijhaeapoapgfaaGreatDoor

set_option linter.unusedVariables false
set_option linter.unusedSimpArgs false
namespace Go.Proofs.YtijhaeapoapgfaaGreatDoor
open Go.RowKit
attribute [local go_sem ↓] Go.wp_at_zero Go.wp_at_succ

set_option maxRecDepth 100000 in
set_option maxHeartbeats 1600000 in
theorem storeNil_walk {w : World} (ht : TzAt w) (c : C18) (hc : c.ok w) :
    Calls Tryz.prog 5 #[.agg #[.int .i64 c.d, .int .i64 c.n, .int .i64 c.t, B32 c.id, c.s.val]] w fun e w' => e = .returned (.bool true) ∧ Keeps [] w w' := by
  unfold BS.val
  have hmk : ∀ w, (Instr.makeSlice 22 (.int .i64 32) (.int .i64 32)).run Tryz.prog w = .ok (.slice (some ⟨w.heap.size, 0, none⟩) 32 32) (w.alloc (.cells (zeros 32) 5)) := fun w => make_u8 32 32 (Nat.le_refl _) (by omega) w
  have hB := Blk.newA w 58 #[.int .i64 c.d, .int .i64 c.n, .int .i64 c.t, B32 c.id, .slice c.s.A c.s.b.length c.s.cap]
  have kA : Keeps [] w (w.alloc (.cells #[.int .i64 c.d, .int .i64 c.n, .int .i64 c.t, B32 c.id, .slice c.s.A c.s.b.length c.s.cap] 58)) := (Keeps.refl [] w).alloc _
  have HT := Lib.hid ht
  clear ht hc
  go_enter Tryz.func5, Tryz.ntmps5
  go_wp2_with fail
  generalize w.alloc (.cells #[.int .i64 c.d, .int .i64 c.n, .int .i64 c.t, B32 c.id, .slice c.s.A c.s.b.length c.s.cap] 58) = w0 at *
  refine simageNil_calls.mono ?_
  rintro e w1 ⟨rfl, k1⟩
  have kM : Keeps [] w1 (w1.alloc (.cells (zeros 32) 5)) := (Keeps.refl [] w1).alloc _
  have HK1 := Lib.hid ((kA.trans k1).trans kM)
  have hB1 := (hB.keeps k1 (by simp)).keeps kM (by simp)
  clear hB kA k1 kM
  go_wp2_with fail
  generalize w1.alloc (.cells (zeros 32) 5) = w2 at *
  refine (small_calls _ ⟨_, _, _, rfl⟩).mono ?_
  rintro e w3 ⟨rfl, k3⟩
  go_wp2_with fail
  refine (sopen_nil 1 2 (.slice (some ⟨w1.heap.size, 0, none⟩) 32 32) mfS 1).mono ?_
  rintro e w4 ⟨rfl, k4⟩
  have hB4 := (hB1.keeps k3 (by simp)).keeps k4 (by simp)
  have HK4 := Lib.hid ((HK1.out.trans k3).trans k4)
  clear hB1 k3 k4
  have b3 := hB4.cell' (i := 3) rfl
  have b4 := hB4.cell' (i := 4) rfl
  go_wp2_with fail
  refine (sputNil_calls c.id _).mono ?_
  rintro e w5 ⟨rfl, k5⟩
  clear b3 b4 hB4
  go_wp2_with fail
  refine skeptNil_calls.mono ?_
  rintro e w6 ⟨rfl, k6⟩
  go_wp2_with fail
  refine sneedsNil_calls.mono ?_
  rintro e w7 ⟨rfl, k7⟩
  have HK7 := Lib.hid (((HK4.out.trans k5).trans k6).trans k7)
  clear k5 k6 k7
  go_wp2_with fail
  refine (awake23_calls (HT.out.keeps HK7.out (by simp))).mono ?_
  rintro e w8 ⟨rfl, k8⟩
  go_wp2_with fail
  go_ret
  exact ⟨rfl, HK7.out.trans k8⟩

end Go.Proofs.YtijhaeapoapgfaaGreatDoor
