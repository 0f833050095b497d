/-
  Spr: package spread, walked: May, Pieces, Row.
-/
import Derived.Test.YtijhaeapoapgfaaGreatDoorGrOnce
import Derived.Test.YtijhaeapoapgfaaGreatDoorPlain
import Derived.Test.YtijhaeapoapgfaaGreatDoorRandS
set_option linter.unusedVariables false
set_option linter.unusedSimpArgs false
namespace Go.Proofs.YtijhaeapoapgfaaGreatDoor
open Go.RowKit
attribute [local go_sem ↓] Go.wp_at_zero Go.wp_at_succ

def Pv (s : UInt32) (k p z : Int) : Value := .agg #[B32 s, .int .i64 k, .int .i64 p, .int .i64 z]
def PmOk (k p z : Int) : Bool := decide (1 ≤ k) && decide (k ≤ 64) && decide (0 ≤ p) && decide (p ≤ 16) && decide (1 ≤ z) && decide (z ≤ 16)

theorem pmOk_true {k p z : Int} (h : PmOk k p z = true) : 1 ≤ k ∧ k ≤ 64 ∧ 0 ≤ p ∧ p ≤ 16 ∧ 1 ≤ z ∧ z ≤ 16 := by
  simp [PmOk] at h; omega

set_option maxRecDepth 100000 in
set_option maxHeartbeats 1000000 in
theorem may_calls {w : World} (s : UInt32) (k p z : Int) : Calls Tryz.prog 70 #[.agg #[B32 s, .int .i64 k, .int .i64 p, .int .i64 z]] w fun e w' => e = .returned (.bool (PmOk k p z)) ∧ Keeps [] w w' := by
  by_cases h1 : 1 ≤ k
  · by_cases h2 : k ≤ 64
    · by_cases h3 : 0 ≤ p
      · by_cases h4 : p ≤ 16
        · by_cases h5 : 1 ≤ z
          · by_cases h6 : z ≤ 16 <;>
            · have E := Lib.hid (show PmOk k p z = decide (z ≤ 16) from by simp [PmOk, h1, h2, h3, h4, h5])
              go_enter Tryz.func70, Tryz.ntmps70
              go_wp2_with fail
              go_ret
              exact ⟨by rw [E.out]; simp [h6], (Keeps.refl _ _).alloc _⟩
          · have E := Lib.hid (show PmOk k p z = false from by simp [PmOk, h5])
            go_enter Tryz.func70, Tryz.ntmps70
            go_wp2_with fail
            go_ret
            exact ⟨by rw [E.out]; rfl, (Keeps.refl _ _).alloc _⟩
        · have E := Lib.hid (show PmOk k p z = false from by simp [PmOk, h4])
          go_enter Tryz.func70, Tryz.ntmps70
          go_wp2_with fail
          go_ret
          exact ⟨by rw [E.out]; rfl, (Keeps.refl _ _).alloc _⟩
      · have E := Lib.hid (show PmOk k p z = false from by simp [PmOk, h3])
        go_enter Tryz.func70, Tryz.ntmps70
        go_wp2_with fail
        go_ret
        exact ⟨by rw [E.out]; rfl, (Keeps.refl _ _).alloc _⟩
    · have E := Lib.hid (show PmOk k p z = false from by simp [PmOk, h2])
      go_enter Tryz.func70, Tryz.ntmps70
      go_wp2_with fail
      go_ret
      exact ⟨by rw [E.out]; rfl, (Keeps.refl _ _).alloc _⟩
  · have E := Lib.hid (show PmOk k p z = false from by simp [PmOk, h1])
    go_enter Tryz.func70, Tryz.ntmps70
    go_wp2_with fail
    go_ret
    exact ⟨by rw [E.out]; rfl, (Keeps.refl _ _).alloc _⟩

set_option maxRecDepth 100000 in
set_option maxHeartbeats 1000000 in
theorem pieces_calls {w : World} (s : UInt32) (k p z : Int) : Calls Tryz.prog 81 #[.agg #[B32 s, .int .i64 k, .int .i64 p, .int .i64 z]] w fun e w' => e = .returned (.int .i64 (if PmOk k p z then k + p else 0)) ∧ Keeps [] w w' := by
  have hM := may_calls (w := w.alloc (.cells #[B32 s, .int .i64 k, .int .i64 p, .int .i64 z] 38)) s k p z
  have hB : Blk (w.alloc (.cells #[B32 s, .int .i64 k, .int .i64 p, .int .i64 z] 38)) w.heap.size 38 [B32 s, .int .i64 k, .int .i64 p, .int .i64 z] := Blk.newA w _ _
  have hk0 : Keeps [] w (w.alloc (.cells #[B32 s, .int .i64 k, .int .i64 p, .int .i64 z] 38)) := (Keeps.refl _ _).alloc _
  cases hE : PmOk k p z
  · rw [hE] at hM
    clear hE
    go_enter Tryz.func81, Tryz.ntmps81
    go_wp2_with fail
    refine hM.mono ?_
    rintro e w1 ⟨rfl, k1⟩
    go_wp2_with fail
    go_ret
    exact ⟨rfl, hk0.trans k1⟩
  · obtain ⟨b1, b2, b3, b4, b5, b6⟩ := pmOk_true hE
    rw [hE] at hM
    clear hE
    go_enter Tryz.func81, Tryz.ntmps81
    go_wp2_with fail
    refine hM.mono ?_
    rintro e w1 ⟨rfl, k1⟩
    have hB1 := hB.keeps k1 (by simp)
    have c1 := hB1.cell' (i := 1) rfl
    have c2 := hB1.cell' (i := 2) rfl
    go_wp2_with fail
    go_ret
    exact ⟨rfl, hk0.trans k1⟩


theorem ints_one {w : World} (x : Nat) : IsInts (w.alloc (.cells #[I64 x] 3)) w.heap.size (.slice (some ⟨w.heap.size, 0, none⟩) 1 1) [x] :=
  ⟨some ⟨w.heap.size, 0, none⟩, 1, rfl, by simp, by simp, fun i hi => by
    obtain rfl : i = 0 := by simp at hi; omega
    exact ⟨w.heap.size, rfl, Nat.le_refl _, (Blk.newA w 3 #[I64 x]).cell' rfl⟩⟩

set_option maxRecDepth 100000 in
set_option maxHeartbeats 2000000 in
theorem row_calls {w : World} (s : UInt32) (K P z : Nat) (h1 : 1 ≤ K) (h2 : K ≤ 64) (h3 : P ≤ 16) (h4 : 1 ≤ z) (h5 : z ≤ 16) (id : UInt32) :
    Calls Tryz.prog 73 #[.agg #[B32 s, .int .i64 K, .int .i64 P, .int .i64 z], B32 id] w (VecNew w (K + P) (rowN s K P id)) := by
  have hP := pieces_calls (w := w.alloc (.cells #[B32 s, .int .i64 K, .int .i64 P, .int .i64 z] 38)) s K P z
  have hok : PmOk (K : Int) (P : Int) (z : Int) = true := by simp [PmOk]; omega
  rw [hok, if_pos rfl, show (K : Int) + (P : Int) = ((K + P : Nat) : Int) from by omega] at hP
  clear hok
  have hB : Blk (w.alloc (.cells #[B32 s, .int .i64 K, .int .i64 P, .int .i64 z] 38)) w.heap.size 38 [B32 s, .int .i64 K, .int .i64 P, .int .i64 z] := Blk.newA w _ _
  have hk0 : Keeps [] w (w.alloc (.cells #[B32 s, .int .i64 K, .int .i64 P, .int .i64 z] 38)) := (Keeps.refl _ _).alloc _
  have hX : rowN s K P id = putL (K + P) 0 (rowL s K P id) := rfl
  have hid := id.toNat_lt
  have hL : rowL s K P id = if id.toNat < K then [id.toNat] else rsome (rstep (rseed s id)) ((K + P : Nat) : Int) ((degree (K + P) (rnext (rseed s id)) : Nat) : Int) := rfl
  have hLl : (rowL s K P id).length ≤ K + P := (rowL_rising s K P id h1 (by omega)).2.2.2
  have hn1 : 1 ≤ K + P := by omega
  have hn2 : K + P ≤ 80 := by omega
  generalize rowN s K P id = X at *
  generalize rowL s K P id = L at *
  generalize K + P = n at *
  have HX := Lib.hid hX
  by_cases hlt : id.toNat < K
  · rw [if_pos hlt] at hL
    have HL := Lib.hid hL
    clear hX hL
    have hu : (id.toNat : Int) < (K : Int) := by omega
    go_enter Tryz.func73, Tryz.ntmps73
    go_wp2_with fail
    refine hP.mono ?_
    rintro e w1 ⟨rfl, k1⟩
    have hB1 := hB.keeps k1 (by simp)
    have c1 := hB1.cell' (i := 1) rfl
    have hne : ¬ ((n : Int) = 0) := by omega
    have HI := Lib.hid (ints_one (w := w1) id.toNat)
    go_wp2_with fail
    refine (vof_calls HI.out n (by omega) (by simp)).mono ?_
    rintro e w2 ⟨q, g, rfl, hq, hg, hV, hK⟩
    have kk := (hk0.trans k1).trans (((Keeps.refl [] w1).alloc (.cells #[I64 id.toNat] 3)).trans hK)
    have z0 : w.heap.size ≤ q := by have := hk0.size; have := k1.size; have e := hq; simp at e; omega
    have z1 : w.heap.size ≤ g := by have := hk0.size; have := k1.size; have e := hg; simp at e; omega
    go_wp2_with fail
    go_ret
    exact ⟨q, g, rfl, z0, z1, by rw [HX.out, HL.out]; exact hV, kk⟩
  · rw [if_neg hlt] at hL
    have HL := Lib.hid hL
    clear hX hL
    have hu : ¬ ((id.toNat : Int) < (K : Int)) := by omega
    go_enter Tryz.func73, Tryz.ntmps73
    go_wp2_with fail
    refine hP.mono ?_
    rintro e w1 ⟨rfl, k1⟩
    have hB1 := hB.keeps k1 (by simp)
    have c0 := hB1.cell' (i := 0) rfl
    have c1 := hB1.cell' (i := 1) rfl
    have hne : ¬ ((n : Int) = 0) := by omega
    go_wp2_with fail
    refine (randnew_calls s id).mono ?_
    rintro e w2 ⟨p, rfl, hp, hS, k2⟩
    go_wp2_with fail
    refine (solnew_calls n hn1 hn2).mono ?_
    rintro e w3 ⟨q, rfl, hq, hT, k3⟩
    have hS3 := hS.keeps k3 (by simp)
    have hpl := hS.ltp
    go_wp2_with fail
    refine (next_calls hS3).mono ?_
    rintro e w4 ⟨rfl, hS4, k4⟩
    have hT4 := hT.keeps k4 (by simp; omega)
    go_wp2_with fail
    refine (degree_calls hT4 hn1 hn2 _).mono ?_
    rintro e w5 ⟨rfl, k5⟩
    have hS5 := hS4.keeps k5 (by simp; omega)
    generalize hd : degree n (rnext (rseed s id)) = d at *
    go_wp2_with fail
    refine (some_any hS5 (n : Int) (d : Int)).mono ?_
    rintro e w6 ⟨v, rfl, hI, hS6, k6⟩
    rw [← HL.out] at hI
    obtain ⟨a6, c6, rfl, i1, i2, i3⟩ := hI
    have hI : IsInts w6 w5.heap.size (.slice a6 L.length c6) L := ⟨a6, c6, rfl, i1, i2, i3⟩
    go_wp2_with fail
    refine (vof_calls hI n (by omega) (by omega)).mono ?_
    rintro e w7 ⟨q7, g7, rfl, hq7, hg7, hV, k7⟩
    have s1 := (hk0.trans k1).size
    have s2 := k2.size
    have s3 := k3.size
    have s4 := k4.size
    have s5 := k5.size
    have s6 := k6.size
    have e2 : Keeps [] w w2 := (hk0.trans k1).trans k2
    have e3 : Keeps [] w w3 := e2.trans k3
    have e4 : Keeps [] w w4 := e3.trans' k4 (fun _ h => .inl h) (fun x hx => .inr (by simp at hx; omega))
    have e5 : Keeps [] w w5 := e4.trans' k5 (fun _ h => .inl h) (fun x hx => .inr (by simp at hx; omega))
    have e6 : Keeps [] w w6 := e5.trans' k6 (fun _ h => .inl h) (fun x hx => .inr (by simp at hx; omega))
    go_wp2_with fail
    go_ret
    exact ⟨q7, g7, rfl, by omega, by omega, by rw [HX.out]; exact hV, e6.trans k7⟩

end Go.Proofs.YtijhaeapoapgfaaGreatDoor
