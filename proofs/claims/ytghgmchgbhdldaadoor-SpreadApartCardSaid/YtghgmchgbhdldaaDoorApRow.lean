/-
  ApRow: the reference's May, Row; Like; walked.
-/
import Derived.Test.YtghgmchgbhdldaaDoorApSome
import Derived.Test.YtghgmchgbhdldaaDoorApPack
import Derived.Test.YtghgmchgbhdldaaDoorLaw8
set_option linter.unusedVariables false
set_option linter.unusedSimpArgs false
namespace Go.Proofs.YtghgmchgbhdldaaDoor
open Go.RowKit
attribute [local go_sem ↓] Go.wp_at_zero Go.wp_at_succ

set_option maxRecDepth 100000 in
set_option maxHeartbeats 1000000 in
theorem rmay_calls {w : World} (s : UInt32) (k p z : Int) : Calls Tryd.prog 38 #[.agg #[B32 s, .int .i64 k, .int .i64 p, .int .i64 z]] w fun e w' => e = .returned (.bool (PmOk k p z)) ∧ Keeps [] w w' := by
  by_cases h1 : 1 ≤ k
  · by_cases h2 : k ≤ 64
    · by_cases h3 : 0 ≤ p
      · by_cases h4 : p ≤ 16
        · by_cases h5 : 1 ≤ z
          · by_cases h6 : z ≤ 16 <;>
            · have E := Lib.hid (show PmOk k p z = decide (z ≤ 16) from by simp [PmOk, h1, h2, h3, h4, h5])
              go_enter Tryd.func38, Tryd.ntmps38
              go_wp2_with fail
              go_ret
              exact ⟨by rw [E.out]; simp [h6], (Keeps.refl _ _).alloc _⟩
          · have E := Lib.hid (show PmOk k p z = false from by simp [PmOk, h5])
            go_enter Tryd.func38, Tryd.ntmps38
            go_wp2_with fail
            go_ret
            exact ⟨by rw [E.out]; rfl, (Keeps.refl _ _).alloc _⟩
        · have E := Lib.hid (show PmOk k p z = false from by simp [PmOk, h4])
          go_enter Tryd.func38, Tryd.ntmps38
          go_wp2_with fail
          go_ret
          exact ⟨by rw [E.out]; rfl, (Keeps.refl _ _).alloc _⟩
      · have E := Lib.hid (show PmOk k p z = false from by simp [PmOk, h3])
        go_enter Tryd.func38, Tryd.ntmps38
        go_wp2_with fail
        go_ret
        exact ⟨by rw [E.out]; rfl, (Keeps.refl _ _).alloc _⟩
    · have E := Lib.hid (show PmOk k p z = false from by simp [PmOk, h2])
      go_enter Tryd.func38, Tryd.ntmps38
      go_wp2_with fail
      go_ret
      exact ⟨by rw [E.out]; rfl, (Keeps.refl _ _).alloc _⟩
  · have E := Lib.hid (show PmOk k p z = false from by simp [PmOk, h1])
    go_enter Tryd.func38, Tryd.ntmps38
    go_wp2_with fail
    go_ret
    exact ⟨by rw [E.out]; rfl, (Keeps.refl _ _).alloc _⟩


theorem some_marked (s : UInt32) (n : Nat) (k : Int) (h1 : 1 ≤ n) (h2 : n ≤ 256) : rsome s (n : Int) k = marked (someLoop n (clampK n k) 0 s (List.range n)) (clampK n k) n := by
  have hc : clampK n k ≤ n := by unfold clampK; omega
  rw [marked_all (someLoop_perm n (clampK n k) 0 s (List.range n) List.length_range (by omega))]
  unfold rsome
  rw [if_neg (by omega), Int.toNat_natCast]

set_option maxRecDepth 100000 in
set_option maxHeartbeats 2000000 in
theorem rrow_calls {w : World} (s : UInt32) {nK P Z : Nat} (hs : Snd nK P Z) (id : UInt32) :
    Calls Tryd.prog 22 #[.agg #[B32 s, .int .i64 nK, .int .i64 P, .int .i64 Z], B32 id] w (BlNew w (nK + P) (bl (nK + P) (rowN s nK P id))) := by
  have h1 := hs.k1
  have h2 := hs.k2
  have h3 := hs.p2
  have hM := rmay_calls (w := w.alloc (.cells #[B32 s, .int .i64 nK, .int .i64 P, .int .i64 Z] 24)) s nK P Z
  rw [hs.ok] at hM
  have hB : Blk (w.alloc (.cells #[B32 s, .int .i64 nK, .int .i64 P, .int .i64 Z] 24)) w.heap.size 24 [B32 s, .int .i64 nK, .int .i64 P, .int .i64 Z] := Blk.newA w _ _
  have hk0 : Keeps [] w (w.alloc (.cells #[B32 s, .int .i64 nK, .int .i64 P, .int .i64 Z] 24)) := (Keeps.refl _ _).alloc _
  have hX : rowN s nK P id = putL (nK + P) 0 (rowL s nK P id) := rfl
  have hidl := id.toNat_lt
  have hL : rowL s nK P id = if id.toNat < nK then [id.toNat] else rsome (rstep (rseed s id)) ((nK + P : Nat) : Int) ((degree (nK + P) (rnext (rseed s id)) : Nat) : Int) := rfl
  have hLl : (rowL s nK P id).length ≤ nK + P := (rowL_rising s nK P id h1 (by omega)).2.2.2
  have hn : (nK : Int) + (P : Int) = ((nK + P : Nat) : Int) := by omega
  have hn1 : 1 ≤ nK + P := by omega
  have hn2 : nK + P ≤ 80 := by omega
  have hwk : IntKind.u32.wrap (nK : Int) = (nK : Int) := by rw [IntKind.wrap_u32]; omega
  generalize rowN s nK P id = X at *
  generalize rowL s nK P id = L at *
  generalize nK + P = n at *
  have hwn : IntKind.i64.wrap (n : Int) = (n : Int) := IntWalk.i64_in _ (by omega)
  have HX := Lib.hid hX
  by_cases hlt : id.toNat < nK
  · rw [if_pos hlt] at hL
    have HL := Lib.hid hL
    clear hX hL
    have hu : (id.toNat : Int) < (nK : Int) := by omega
    go_enter Tryd.func22, Tryd.ntmps22
    go_wp2_with fail
    refine hM.mono ?_
    rintro e w1 ⟨rfl, k1⟩
    have hB1 := hB.keeps k1 (by simp)
    have c1 := hB1.cell' (i := 1) rfl
    have c2 := hB1.cell' (i := 2) rfl
    have HI := Lib.hid (ints_one (w := w1) id.toNat)
    go_wp2_with fail
    refine (rbits_calls HI.out n (by omega) (by simp)).mono ?_
    rintro e w2 ⟨g, rfl, hg, hV, hK⟩
    have kk := (hk0.trans k1).trans (((Keeps.refl [] w1).alloc (.cells #[I64 id.toNat] 3)).trans hK)
    have z1 : w.heap.size ≤ g := by have := hk0.size; have := k1.size; have e := hg; simp at e; omega
    go_wp2_with fail
    go_ret
    exact ⟨g, rfl, z1, by rw [HX.out, HL.out]; exact hV, kk⟩
  · rw [if_neg hlt] at hL
    have HL := Lib.hid hL
    clear hX hL
    have hu : ¬ ((id.toNat : Int) < (nK : Int)) := by omega
    go_enter Tryd.func22, Tryd.ntmps22
    go_wp2_with fail
    refine hM.mono ?_
    rintro e w1 ⟨rfl, k1⟩
    have hB1 := hB.keeps k1 (by simp)
    have c0 := hB1.cell' (i := 0) rfl
    have c1 := hB1.cell' (i := 1) rfl
    have c2 := hB1.cell' (i := 2) rfl
    go_wp2_with fail
    refine (refnew_calls s id).mono ?_
    rintro e w2 ⟨p, rfl, hp, hS, k2⟩
    go_wp2_with fail
    refine (refnext_calls hS).mono ?_
    rintro e w3 ⟨rfl, hS3, k3⟩
    go_wp2_with fail
    refine (rdegree_calls n hn1 hn2 _).mono ?_
    rintro e w4 ⟨rfl, k4⟩
    have hS4 := hS3.keeps k4 (by simp)
    generalize hd : degree n (rnext (rseed s id)) = d at *
    have hm : ((clampK (n : Int) (d : Int) : Nat) : Int) = max 0 (min (d : Int) (n : Int)) := by unfold clampK; omega
    have hsm := some_marked (rstep (rseed s id)) n (d : Int) hn1 (by omega)
    have hSo := rsome_calls hS4 n (d : Int) hn1 (by omega) _ hm
    rw [← hsm, ← HL.out] at hSo
    clear hm hsm
    go_wp2_with fail
    refine hSo.mono ?_
    rintro e w5 ⟨v, rfl, hO, k5⟩
    obtain ⟨a6, c6, rfl, i1, i2, i3⟩ := hO.ints
    have hI : IsInts w5 w4.heap.size (.slice a6 L.length c6) L := ⟨a6, c6, rfl, i1, i2, i3⟩
    have HI := Lib.hid hI
    clear hI i3 hO
    go_wp2_with fail
    refine (rbits_calls HI.out n (by omega) (by omega)).mono ?_
    rintro e w6 ⟨g, rfl, hg, hV, k6⟩
    have s1 := (hk0.trans k1).size
    have s2 := k2.size
    have s3 := k3.size
    have s4 := k4.size
    have s5 := k5.size
    have e2 : Keeps [] w w2 := (hk0.trans k1).trans k2
    have e3 : Keeps [] w w3 := e2.trans' k3 (fun _ h => .inl h) (fun x hx => .inr (by simp at hx; omega))
    have e5 : Keeps [] w w5 := (e3.trans k4).trans' k5 (fun _ h => .inl h) (fun x hx => .inr (by simp at hx; omega))
    go_wp2_with fail
    go_ret
    exact ⟨g, rfl, by omega, by rw [HX.out]; exact hV, e5.trans k6⟩

end Go.Proofs.YtghgmchgbhdldaaDoor
