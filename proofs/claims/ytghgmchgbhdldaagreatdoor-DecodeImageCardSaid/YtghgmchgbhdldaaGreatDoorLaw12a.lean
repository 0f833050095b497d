/-
  Law12a: downpourlaw12.awake, walked.
-/
import Derived.Test.YtghgmchgbhdldaaGreatDoorDeU
import Derived.Test.YtghgmchgbhdldaaGreatDoorLaw12
import Derived.Deep.DeepCutAuto
import Derived.Deep.CutBlock
set_option linter.unusedVariables false
set_option linter.unusedSimpArgs false
namespace Go.Proofs.YtghgmchgbhdldaaGreatDoor
open Go.RowKit
attribute [local go_sem ↓] Go.wp_at_zero Go.wp_at_succ

/-- A symbol that says something new, taken. -/
def TookPost (w : World) (p : Nat) (s : UInt32) (nK P z : Nat) (M : Mtx) (tk : Nat) (Fl : List Nat) (e : Ending) (w' : World) : Prop :=
  e = .returned (.bool true) ∧ ∃ Fl', De w' p s nK P z M tk Fl' ∧ (∀ x ∈ Fl', x ∈ Fl ∨ w.heap.size ≤ x) ∧ Keeps Fl w w'
theorem dtook_calls {w : World} {p : Nat} {s : UInt32} {nK P z : Nat} {M : Mtx} {tk : Nat} {Fl : List Nat} (h : De w p s nK P z M tk Fl) (hp : PmI nK P z) (ht : TzAt w) (htk : tk ≤ 1000000) (id : UInt32) {a : Option Addr} {c : Nat} {l : List UInt8} (hl : Rd w a l) (hlz : l.length = z) (hn : (red M ⟨rowN s nK P id, l⟩).x ≠ 0) :
    Calls Tryz.prog 13 #[P0 p, B32 id, .slice a z c] w (TookPost w p s nK P z (mAdd (nK + P) M ⟨rowN s nK P id, l⟩) (tk + 1) Fl) := by
  refine (dtake_calls h hp ht htk id hl hlz).mono ?_
  rintro e w' (⟨h0, _, _⟩ | ⟨_, rfl, F', h1, h2, h3, _⟩)
  · exact absurd h0 hn
  · exact ⟨rfl, F', h1, h2, h3⟩

theorem fits3 : Fits 2 1 2 [1, 2, 3] := ⟨by omega, by omega, by omega, by omega, by omega, by decide, by decide, by decide⟩
theorem symb30 : symb 1 2 1 2 [1, 2, 3] 0 = [1, 2] := by decide +kernel
theorem symb31 : symb 1 2 1 2 [1, 2, 3] 1 = [3, 0] := by decide +kernel
theorem bcount3 : bcount 3 2 = 2 := by decide

/-- What awake's decoder comes to. -/
theorem awake_plain : ∃ M0 M1 M2 : Mtx, M0 = pmx 1 2 1 2 1 ∧ M1 = mAdd (2 + 1) M0 ⟨rowN 1 2 1 1, [3, 0]⟩ ∧ M2 = mAdd (2 + 1) M1 ⟨rowN 1 2 1 0, [1, 2]⟩ ∧ (red M0 ⟨rowN 1 2 1 1, [3, 0]⟩).x ≠ 0 ∧ (red M1 ⟨rowN 1 2 1 0, [1, 2]⟩).x ≠ 0 ∧ rank M2 = 2 + 1 ∧ joinF 3 ((dats M2 (2 + 1)).take 2) = [1, 2, 3] ∧ ∀ x ∈ dats M2 (2 + 1), x.length ≤ 16 := by
  have hS := Sd.start fits3 1
  have hF := hears_full fits3 hS (l := [1, 0]) (fun i hi => by
    rcases (show i = 0 ∨ i = 1 from by omega) with rfl | rfl
    · exact ⟨0, by simp, rfl⟩
    · exact ⟨1, by simp, rfl⟩)
  have hr : rank (pmx 1 2 1 2 1) = 1 := pmx_rank 1 2 1 2 1 (Nat.le_refl _)
  have e1 : symR 1 2 1 2 [1, 2, 3] 1 = ⟨rowN 1 2 1 1, [3, 0]⟩ := by unfold symR; rw [symb31]
  have e0 : symR 1 2 1 2 [1, 2, 3] 0 = ⟨rowN 1 2 1 0, [1, 2]⟩ := by unfold symR; rw [symb30]
  have n1 := (hears_new fits3 hS [] 1 [0] (by rw [hr]; exact hF)).1
  have n2 := (hears_new fits3 hS [1] 0 [] (by rw [hr]; exact hF)).1
  have hS2 := Sd.hears fits3 [1, 0] hS
  have hI := hS2.image fits3 hF
  have hI2 := hS2.dats16 fits3 hF
  simp only [hears, List.foldl_cons, List.foldl_nil, e1, e0] at n1 n2 hF hI hI2
  exact ⟨_, _, _, rfl, rfl, rfl, n1, n2, hF, hI, hI2⟩

theorem TzAt.pos {w : World} (h : TzAt w) : 0 < w.heap.size := World.block_lt_of_cell? w _ (h 0 (by omega))
theorem lit_2 (W : World) (a b : UInt8) : Rd (W.alloc (.cells #[.int .u8 a.toNat, .int .u8 b.toNat] 5)) (some ⟨W.heap.size, 0, none⟩) [a, b] := Rd.lit W 5 _ [a, b] rfl

set_option maxRecDepth 100000 in
set_option maxHeartbeats 1600000 in
theorem awake12_calls {w : World} (ht : TzAt w) : Calls Tryz.prog 9 #[] w fun e w' => e = .returned (.bool true) ∧ Keeps [] w w' := by
  obtain ⟨M0, M1, M2, e0, e1, e2, n1, n2, hr, hi, hi16⟩ := awake_plain
  have hN : Calls Tryz.prog 11 #[.agg #[.int .u32 1, .int .i64 2, .int .i64 1, .int .i64 2]] w (DeNew w 1 2 1 2) := dnew_calls 1 2 1 2 fits3.pm ht
  unfold DeNew at hN
  rw [← e0] at hN
  have hT1 : ∀ (W : World) (p : Nat) (Fl : List Nat) (a : Option Addr), De W p 1 2 1 2 M0 0 Fl → TzAt W → Rd W a [3, 0] → Calls Tryz.prog 13 #[P0 p, .int .u32 1, .slice a 2 2] W (TookPost W p 1 2 1 2 M1 1 Fl) := fun W p Fl a h t hl => by rw [e1]; exact dtook_calls h fits3.pm t (by omega) 1 hl rfl n1
  have hT2 : ∀ (W : World) (p : Nat) (Fl : List Nat) (a : Option Addr), De W p 1 2 1 2 M1 1 Fl → TzAt W → Rd W a [1, 2] → Calls Tryz.prog 13 #[P0 p, .int .u32 0, .slice a 2 2] W (TookPost W p 1 2 1 2 M2 2 Fl) := fun W p Fl a h t hl => by rw [e2]; exact dtook_calls h fits3.pm t (by omega) 0 hl rfl n2
  have hIm : ∀ (W : World) (p : Nat) (Fl : List Nat), De W p 1 2 1 2 M2 2 Fl → Calls Tryz.prog 15 #[P0 p, .int .i64 3] W (DImg W p 1 2 1 2 M2 2 Fl [1, 2, 3]) := fun W p Fl h => by rw [← hi]; exact dimage_calls h fits3.pm hr 3 (by omega) (by omega) bcount3 hi16 (by rw [hi]; rfl)
  have hTk : ∀ (W : World) (p : Nat) (Fl : List Nat), De W p 1 2 1 2 M2 2 Fl → Calls Tryz.prog 14 #[P0 p] W fun e w' => e = .returned (.int .i64 2) ∧ W = w' := fun W p Fl h => dtaken_calls h
  have hNd : ∀ (W : World) (p : Nat) (Fl : List Nat), De W p 1 2 1 2 M2 2 Fl → Calls Tryz.prog 12 #[P0 p] W fun e w' => e = .returned (.int .i64 0) ∧ Keeps [] W w' := fun W p Fl h => by
    have := dneeds_calls h fits3.pm
    rw [hr] at this
    exact this
  have HT1 := Lib.hid hT1
  have HT2 := Lib.hid hT2
  have HIm := Lib.hid hIm
  have HTk := Lib.hid hTk
  have HNd := Lib.hid hNd
  clear hT1 hT2 hIm hTk hNd e0 e1 e2 n1 n2 hr hi hi16
  go_enter Tryz.func9, Tryz.ntmps9
  go_wp2_with fail
  refine hN.mono ?_
  rintro e w1 ⟨p, Fl, rfl, hD, hF, k1⟩
  have ht1 := ht.keeps k1 (by simp)
  clear hN
  have hFl := hD.lt
  have hF0 := Lib.hid hF
  have kb : Keeps [] w1 (w1.alloc (.cells #[.int .u8 3, .int .u8 0] 5)) := (Keeps.refl [] w1).alloc _
  have hA := HT1.out _ p Fl _ (hD.keepsNil kb) (ht1.keeps kb (by simp)) (lit_2 w1 3 0)
  have HA := Lib.hid hA
  have HKb := Lib.hid (k1.trans kb)
  have Ht2 := Lib.hid (ht1.keeps kb (by simp))
  clear hD hF hFl ht1 k1 kb hA HT1
  go_wp2_with fail
  generalize w1.alloc (.cells #[.int .u8 3, .int .u8 0] 5) = wb at *
  refine HA.out.mono ?_
  rintro e w2 ⟨rfl, Fl1, hD1, hF1, k2⟩
  have h0 : 0 ∉ Fl := fun h => by have := hF0.out 0 h; have := ht.pos; omega
  have ht2 := Ht2.out.keeps k2 h0
  have HF1 := Lib.hid (show ∀ x ∈ Fl1, w.heap.size ≤ x from fun x hx => by
    rcases hF1 x hx with h | h
    · exact hF0.out x h
    · exact Nat.le_trans HKb.out.size h)
  have HK2 := Lib.hid (HKb.out.trans' k2 (T := []) (by simp) (fun x hx => .inr (hF0.out x hx)))
  have kc : Keeps [] w2 (w2.alloc (.cells #[.int .u8 1, .int .u8 2] 5)) := (Keeps.refl [] w2).alloc _
  have HB := Lib.hid (HT2.out _ p Fl1 _ (hD1.keepsNil kc) (ht2.keeps kc (by simp)) (lit_2 w2 1 2))
  have HKc := Lib.hid (HK2.out.trans kc)
  clear hD1 hF1 k2 ht2 kc HA HT2 HKb HK2
  go_wp2_with fail
  generalize w2.alloc (.cells #[.int .u8 1, .int .u8 2] 5) = wc at *
  refine HB.out.mono ?_
  rintro e w3 ⟨rfl, Fl2, hD2, hF2, k3⟩
  have HF2 := Lib.hid (show ∀ x ∈ Fl2, w.heap.size ≤ x from fun x hx => by
    rcases hF2 x hx with h | h
    · exact HF1.out x h
    · exact Nat.le_trans HKc.out.size h)
  have HK3 := Lib.hid (HKc.out.trans' k3 (T := []) (by simp) (fun x hx => .inr (HF1.out x hx)))
  have HC := Lib.hid (HIm.out _ p Fl2 hD2)
  have hpF : w.heap.size ≤ p := HF2.out p (by obtain ⟨_, _, _, _, _, _, _, hfl, _⟩ := hD2; rw [hfl]; simp)
  clear hD2 hF2 k3 HB HIm HKc
  go_wp2_with fail
  refine HC.out.mono ?_
  rintro e w4 ⟨v4, rfl, hO4, hD4, k4⟩
  have HK4 := Lib.hid (HK3.out.trans' k4 (T := []) (by simp) (fun x hx => .inr (by simp at hx; omega)))
  obtain ⟨a4, c4, rfl, _, r4, _, _, r5⟩ := hO4.rd
  have HR4 := Lib.hid r4
  have HN4 := Lib.hid r5
  have HD4 := Lib.hid hD4
  have hst : ∀ (W : World), Keeps [] w4 W → (convert 28 9 (.slice a4 3 c4)).run Tryz.prog W = .ok (.string ⟨#[1, 2, 3]⟩) W := fun W k => str_run 3 c4 (r4.keepsNil k) rfl r5
  have HSt := Lib.hid hst
  clear hO4 hD4 k4 r4 r5 hst HC HK3
  have s0 := HSt.out _ (Keeps.refl [] w4)
  go_wp2_with fail
  refine (HTk.out _ p Fl2 HD4.out).mono ?_
  rintro e w' ⟨rfl, rfl⟩
  go_wp2_with fail
  refine (HNd.out _ p Fl2 HD4.out).mono ?_
  rintro e w5 ⟨rfl, k5⟩
  go_wp2_with fail
  go_ret
  exact ⟨rfl, HK4.out.trans k5⟩

end Go.Proofs.YtghgmchgbhdldaaGreatDoor
