/-
  Law11a: downpourlaw11.awake; CodeNil; walked.
-/
import Derived.Test.YtghgmchgbhdldaaLaw11
set_option linter.unusedVariables false
set_option linter.unusedSimpArgs false
namespace Go.Proofs.Ytghgmchgbhdldaa
open Go.RowKit
attribute [local go_sem ↓] Go.wp_at_zero Go.wp_at_succ

theorem str_blk {w : World} {g : Nat} {l : List UInt8} (n : Nat) (h : Blk w g 5 (l.map B8)) (hn : l.length = n) :
    (convert 23 9 (.slice (some ⟨g, 0, none⟩) n n)).run Try.prog w = .ok (.string ⟨l.toArray⟩) w :=
  str_run n n (Rd.blk h 0 l (fun j u hu => by rw [Nat.zero_add, List.getElem?_map, hu]; rfl)) hn (by simp)

theorem fits3 : Fits 2 1 2 [1, 2, 3] := ⟨by omega, by omega, by omega, by omega, by omega, by decide, by decide, by decide⟩
theorem symb30 : symb 1 2 1 2 [1, 2, 3] 0 = [1, 2] := by decide +kernel
theorem symb31 : symb 1 2 1 2 [1, 2, 3] 1 = [3, 0] := by decide +kernel

set_option maxRecDepth 100000 in
set_option maxHeartbeats 1600000 in
theorem awake11_calls {w : World} : Calls Try.prog 48 #[] w fun e w' => e = .returned (.bool true) ∧ Keeps [] w w' := by
  have kA : Keeps [] w (w.alloc (.cells #[.int .u8 1, .int .u8 2, .int .u8 3] 5)) := (Keeps.refl [] w).alloc _
  have hB := Blk.newA w 5 #[.int .u8 1, .int .u8 2, .int .u8 3]
  have hi : RdS (w.alloc (.cells #[.int .u8 1, .int .u8 2, .int .u8 3] 5)) (.slice (some ⟨w.heap.size, 0, none⟩) 3 3) [1, 2, 3] :=
    ⟨some ⟨w.heap.size, 0, none⟩, 3, rfl, by simp, by omega, Rd.lit w 5 #[.int .u8 1, .int .u8 2, .int .u8 3] [1, 2, 3] rfl, by simp, fun x hx _ => by simp only [Option.some.injEq] at hx; subst hx; exact ⟨_, hB⟩⟩
  have hN : Calls Try.prog 47 #[.agg #[.int .u32 1, .int .i64 2, .int .i64 1, .int .i64 2], .slice (some ⟨w.heap.size, 0, none⟩) 3 3] (w.alloc (.cells #[.int .u8 1, .int .u8 2, .int .u8 3] 5)) (HdNew (w.alloc (.cells #[.int .u8 1, .int .u8 2, .int .u8 3] 5)) 1 2 1 2 [1, 2, 3]) := cnew_calls hi 1 fits3
  have hS0 : ∀ (w : World) (p : Nat), Hd w p 1 2 1 2 [1, 2, 3] → Calls Try.prog 45 #[.pointer (some ⟨p, 0, none⟩), .int .u32 0] w (SymPost w p 1 2 1 2 [1, 2, 3] 0) := fun w p h => hdsymbol_calls h 0
  have hS1 : ∀ (w : World) (p : Nat), Hd w p 1 2 1 2 [1, 2, 3] → Calls Try.prog 45 #[.pointer (some ⟨p, 0, none⟩), .int .u32 1] w (SymPost w p 1 2 1 2 [1, 2, 3] 1) := fun w p h => hdsymbol_calls h 1
  have HN := Lib.hid hN
  have HS0 := Lib.hid hS0
  have HS1 := Lib.hid hS1
  clear hN hi hB hS0 hS1
  go_enter Try.func48, Try.ntmps48
  go_wp2_with fail
  generalize w.alloc (.cells #[.int .u8 1, .int .u8 2, .int .u8 3] 5) = w0 at *
  refine HN.out.mono ?_
  rintro e w1 ⟨p, rfl, hp, hH, k1⟩
  have hs0 := kA.size
  have K1 := Lib.hid (kA.trans k1)
  have hpw : w.heap.size ≤ p := Nat.le_trans hs0 hp
  go_wp2_with fail
  refine (HS0.out _ _ hH).mono ?_
  rintro e w2 ⟨g2, rfl, hg2, hb2, hH2, k2⟩
  rw [symb30] at hb2
  have hst2 := str_blk 2 hb2 rfl
  have K2 := Lib.hid (K1.out.trans' k2 (fun _ h => .inl h) (fun x hx => .inr (by simp at hx; omega)))
  go_wp2_with fail
  refine (HS1.out _ _ hH2).mono ?_
  rintro e w3 ⟨g3, rfl, hg3, hb3, hH3, k3⟩
  rw [symb31] at hb3
  have hst3 := str_blk 2 hb3 rfl
  have K3 := Lib.hid (K2.out.trans' k3 (fun _ h => .inl h) (fun x hx => .inr (by simp at hx; omega)))
  go_wp2_with fail
  refine (hdall_calls hH3).mono ?_
  rintro e w4 ⟨v4, rfl, hP4, hH4, k4⟩
  have hl := pieces_len 1 2 1 2 [1, 2, 3]
  obtain ⟨a4, c4, rfl, _⟩ := hP4.rdl
  rw [hl]
  have K4 := Lib.hid (K3.out.trans' k4 (fun _ h => .inl h) (fun x hx => .inr (by simp at hx; omega)))
  clear hP4 hH4 k4 hl
  go_wp2_with fail
  go_ret
  exact ⟨rfl, K4.out⟩

theorem cnewmore_calls {w : World} {nK P z : Nat} {img : List UInt8} (hf : Fits nK P z img) (s : UInt32) (a : Option Addr) (c : Nat) :
    Calls Try.prog 47 #[.agg #[B32 s, .int .i64 ((nK : Int) + 1), .int .i64 P, .int .i64 z], .slice a img.length c] w fun e w' => e = .returned (.pointer none) ∧ Keeps [] w w' := by
  obtain ⟨f1, f2, f3, f4, f5, f6, f7, f8⟩ := hf
  by_cases h : nK + 1 ≤ 64
  · exact cnewno_calls a img.length c s ((nK : Int) + 1) P z (by simp [PmOk]; omega) f6 f4 f5 (by rw [f7]; omega)
  · exact cnewbad_calls a img.length c s ((nK : Int) + 1) P z (by simp [PmOk]; omega)
theorem cnewnone_calls {w : World} {nK P z : Nat} {img : List UInt8} (hf : Fits nK P z img) (s : UInt32) :
    Calls Try.prog 47 #[.agg #[B32 s, .int .i64 nK, .int .i64 P, .int .i64 z], .slice none 0 0] w fun e w' => e = .returned (.pointer none) ∧ Keeps [] w w' :=
  cnewno_calls none 0 0 s nK P z hf.ok (by omega) hf.z1 hf.z2 (by have := hf.k1; show ((bcount 0 z : Nat) : Int) ≠ nK; rw [show bcount 0 z = 0 from rfl]; omega)

set_option maxRecDepth 100000 in
set_option maxHeartbeats 1600000 in
theorem codeNil_walk {w : World} (s : UInt32) (k p z0 : Int) (a : Option Addr) (n c : Nat) (l : List UInt8) (hl : Rd w a l) (hn : l.length = n) (hnc : n ≤ c) (hc : c ≤ maxLen) (h0 : a = none → l = [] ∧ c = 0) (id : UInt32) :
    Calls Try.prog 14 #[.agg #[B32 s, .int .i64 k, .int .i64 p, .int .i64 z0], .slice a n c, B32 id] w fun e w' => e = .returned (.bool true) ∧ Keeps [] w w' := by
  have kA : Keeps [] w (w.alloc (.cells #[B32 s, .int .i64 k, .int .i64 p, .int .i64 z0] 73)) := (Keeps.refl [] w).alloc _
  have hB0 := Blk.newA w 73 #[B32 s, .int .i64 k, .int .i64 p, .int .i64 z0]
  have HS := Lib.hid (sound11_calls s k p z0 a n c l (hl.keepsNil kA) hn hnc hc h0)
  clear hl h0 hn
  go_enter Try.func14, Try.ntmps14
  go_wp2_with fail
  generalize w.alloc (.cells #[B32 s, .int .i64 k, .int .i64 p, .int .i64 z0] 73) = w0 at *
  refine HS.out.mono ?_
  rintro e w1 ⟨nK, P, z, img, vi, rfl, hF, hi1, hi2, hI, k1⟩
  have hB1 := hB0.keeps k1 (by simp)
  have c0 := hB1.cell' (i := 0) rfl
  have c1 := hB1.cell' (i := 1) rfl
  have c2 := hB1.cell' (i := 2) rfl
  have c3 := hB1.cell' (i := 3) rfl
  have f0 := hB1.frozen 0
  have f1 := hB1.frozen 1
  have f2 := hB1.frozen 2
  have f3 := hB1.frozen 3
  go_upto_region 3 with (fail)
  have hB2 := hB1.put4 (B32 s) (.int .i64 nK) (.int .i64 P) (.int .i64 z)
  have K2 := Lib.hid ((kA.trans k1).put4 (.inr (Nat.le_refl _)) (B32 s) (.int .i64 nK) (.int .i64 P) (.int .i64 z))
  clear c0 c1 c2 c3 f0 f1 f2 f3 hB1 hB0 kA k1
  generalize ((((w1.setCell ⟨w.heap.size, 0, none⟩ (B32 s)).setCell ⟨w.heap.size, 1, none⟩ (.int .i64 nK)).setCell ⟨w.heap.size, 2, none⟩ (.int .i64 P)).setCell ⟨w.heap.size, 3, none⟩ (.int .i64 z)) = w2 at *
  obtain ⟨ai, ci, rfl, _⟩ := hI
  have HF := Lib.hid hF
  have hk2 := hF.k2
  clear hF
  have c0 := hB2.cell' (i := 0) rfl
  have c1 := hB2.cell' (i := 1) rfl
  have c2 := hB2.cell' (i := 2) rfl
  have c3 := hB2.cell' (i := 3) rfl
  go_upto_region 5 with (fail)
  have kQ : Keeps [] w2 (w2.alloc (.cells #[B32 s, .int .i64 ((nK : Int) + 1), .int .i64 P, .int .i64 z] 73)) := (Keeps.refl [] w2).alloc _
  have hQ := Blk.newA w2 73 #[B32 s, .int .i64 ((nK : Int) + 1), .int .i64 P, .int .i64 z]
  have K3 := Lib.hid (K2.out.trans kQ)
  have b0 := kQ.cell0 c0
  have b1 := kQ.cell0 c1
  have b2 := kQ.cell0 c2
  have b3 := kQ.cell0 c3
  have d0 := hQ.cell' (i := 0) rfl
  have d1 := hQ.cell' (i := 1) rfl
  have d2 := hQ.cell' (i := 2) rfl
  have d3 := hQ.cell' (i := 3) rfl
  clear c0 c1 c2 c3 hQ kQ
  generalize w2.alloc (.cells #[B32 s, .int .i64 ((nK : Int) + 1), .int .i64 P, .int .i64 z] 73) = w3 at *
  go_wp2_with fail
  refine (hdsymbolNil_calls (w := w3) id).mono ?_
  rintro e w' ⟨rfl, rfl⟩
  go_wp2_with fail
  refine (hdpiecesNil_calls (w := w3)).mono ?_
  rintro e w' ⟨rfl, rfl⟩
  go_wp2_with fail
  refine (cnewmore_calls HF.out s ai ci).mono ?_
  rintro e w4 ⟨rfl, k4⟩
  have e0 := k4.cell0 b0
  have e1 := k4.cell0 b1
  have e2 := k4.cell0 b2
  have e3 := k4.cell0 b3
  go_wp2_with fail
  refine (cnewnone_calls HF.out s).mono ?_
  rintro e w5 ⟨rfl, k5⟩
  go_wp2_with fail
  refine (awake11_calls (w := w5)).mono ?_
  rintro e w6 ⟨rfl, k6⟩
  go_wp2_with fail
  go_ret
  exact ⟨rfl, ((K3.out.trans k4).trans k5).trans k6⟩

end Go.Proofs.Ytghgmchgbhdldaa
