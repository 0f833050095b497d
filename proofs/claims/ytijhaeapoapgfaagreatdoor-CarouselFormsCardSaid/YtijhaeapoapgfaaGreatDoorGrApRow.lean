/-
  GrApRow: the texts ApRow, RfS1, RfS2, RfS3, one behind another.
-/
import Derived.Test.YtijhaeapoapgfaaGreatDoorGrApBits
import Derived.Test.YtijhaeapoapgfaaGreatDoorGrDe1
import Derived.RegionTactic
import Derived.Test.YtijhaeapoapgfaaGreatDoorGrVecL
import Derived.Test.YtijhaeapoapgfaaGreatDoorGrElM
import Derived.Test.YtijhaeapoapgfaaGreatDoorGrMac
import Derived.Test.YtijhaeapoapgfaaGreatDoorGrDeT
import Derived.Test.YtijhaeapoapgfaaGreatDoorGrMf2
import Derived.Test.YtijhaeapoapgfaaGreatDoorGrFrameV
set_option linter.unusedVariables false
set_option linter.unusedSimpArgs false
namespace Go.Proofs.YtijhaeapoapgfaaGreatDoor
open Go.RowKit
attribute [local go_sem ↓] Go.wp_at_zero Go.wp_at_succ

set_option maxRecDepth 100000 in
set_option maxHeartbeats 1000000 in
theorem rmayp_calls {w : World} (s : UInt32) (k p z : Int) : Calls Tryz.prog 47 #[.agg #[B32 s, .int .i64 k, .int .i64 p, .int .i64 z]] w fun e w' => e = .returned (.bool (PmOk k p z)) ∧ Keeps [] w w' := by
  by_cases h1 : 1 ≤ k
  · by_cases h2 : k ≤ 64
    · by_cases h3 : 0 ≤ p
      · by_cases h4 : p ≤ 16
        · by_cases h5 : 1 ≤ z
          · by_cases h6 : z ≤ 16 <;>
            · have E := Lib.hid (show PmOk k p z = decide (z ≤ 16) from by simp [PmOk, h1, h2, h3, h4, h5])
              go_enter Tryz.func47, Tryz.ntmps47
              go_wp2_with fail
              go_ret
              exact ⟨by rw [E.out]; simp [h6], (Keeps.refl _ _).alloc _⟩
          · have E := Lib.hid (show PmOk k p z = false from by simp [PmOk, h5])
            go_enter Tryz.func47, Tryz.ntmps47
            go_wp2_with fail
            go_ret
            exact ⟨by rw [E.out]; rfl, (Keeps.refl _ _).alloc _⟩
        · have E := Lib.hid (show PmOk k p z = false from by simp [PmOk, h4])
          go_enter Tryz.func47, Tryz.ntmps47
          go_wp2_with fail
          go_ret
          exact ⟨by rw [E.out]; rfl, (Keeps.refl _ _).alloc _⟩
      · have E := Lib.hid (show PmOk k p z = false from by simp [PmOk, h3])
        go_enter Tryz.func47, Tryz.ntmps47
        go_wp2_with fail
        go_ret
        exact ⟨by rw [E.out]; rfl, (Keeps.refl _ _).alloc _⟩
    · have E := Lib.hid (show PmOk k p z = false from by simp [PmOk, h2])
      go_enter Tryz.func47, Tryz.ntmps47
      go_wp2_with fail
      go_ret
      exact ⟨by rw [E.out]; rfl, (Keeps.refl _ _).alloc _⟩
  · have E := Lib.hid (show PmOk k p z = false from by simp [PmOk, h1])
    go_enter Tryz.func47, Tryz.ntmps47
    go_wp2_with fail
    go_ret
    exact ⟨by rw [E.out]; rfl, (Keeps.refl _ _).alloc _⟩


theorem some_marked (s : UInt32) (n : Nat) (k : Int) (h1 : 1 ≤ n) (h2 : n ≤ 256) : rsome s (n : Int) k = marked (someLoop n (clampK n k) 0 s (List.range n)) (clampK n k) n := by
  have hc : clampK n k ≤ n := by unfold clampK; omega
  rw [marked_all (someLoop_perm n (clampK n k) 0 s (List.range n) List.length_range (by omega))]
  unfold rsome
  rw [if_neg (by omega), Int.toNat_natCast]

set_option maxRecDepth 100000 in
set_option maxHeartbeats 2000000 in
theorem rrow_calls {w : World} (s : UInt32) {nK P Z : Nat} (hs : PmI nK P Z) (id : UInt32) :
    Calls Tryz.prog 54 #[.agg #[B32 s, .int .i64 nK, .int .i64 P, .int .i64 Z], B32 id] w (BlNew w (nK + P) (bl (nK + P) (rowN s nK P id))) := by
  have h1 := hs.k1
  have h2 := hs.k2
  have h3 := hs.p2
  have hM := rmayp_calls (w := w.alloc (.cells #[B32 s, .int .i64 nK, .int .i64 P, .int .i64 Z] 38)) s nK P Z
  rw [show PmOk (nK : Int) (P : Int) (Z : Int) = true from by have := hs.z1; have := hs.z2; simp [PmOk]; omega] at hM
  have hB : Blk (w.alloc (.cells #[B32 s, .int .i64 nK, .int .i64 P, .int .i64 Z] 38)) w.heap.size 38 [B32 s, .int .i64 nK, .int .i64 P, .int .i64 Z] := Blk.newA w _ _
  have hk0 : Keeps [] w (w.alloc (.cells #[B32 s, .int .i64 nK, .int .i64 P, .int .i64 Z] 38)) := (Keeps.refl _ _).alloc _
  have hX : rowN s nK P id = putL (nK + P) 0 (rowL s nK P id) := rfl
  have hidl := id.toNat_lt
  have hL : rowL s nK P id = if id.toNat < nK then [id.toNat] else rsome (rstep (rseed s id)) ((nK + P : Nat) : Int) ((degree (nK + P) (rnext (rseed s id)) : Nat) : Int) := rfl
  have hLl : (rowL s nK P id).length ≤ nK + P := (rowL_rising s nK P id h1 (by omega)).2.2.2
  have hn : (nK : Int) + (P : Int) = ((nK + P : Nat) : Int) := by omega
  have hn1 : 1 ≤ nK + P := by omega
  have hn2 : nK + P ≤ 80 := by omega
  have hwk : IntKind.u32.wrap (nK : Int) = (nK : Int) := by rw [IntKind.wrap_u32]; omega
  generalize rowN s nK P id = X at *
  generalize rowL s nK P id = L at *
  generalize nK + P = n at *
  have hwn : IntKind.i64.wrap (n : Int) = (n : Int) := IntWalk.i64_in _ (by omega)
  have HX := Lib.hid hX
  by_cases hlt : id.toNat < nK
  · rw [if_pos hlt] at hL
    have HL := Lib.hid hL
    clear hX hL
    have hu : (id.toNat : Int) < (nK : Int) := by omega
    go_enter Tryz.func54, Tryz.ntmps54
    go_wp2_with fail
    refine hM.mono ?_
    rintro e w1 ⟨rfl, k1⟩
    have hB1 := hB.keeps k1 (by simp)
    have c1 := hB1.cell' (i := 1) rfl
    have c2 := hB1.cell' (i := 2) rfl
    have HI := Lib.hid (ints_one (w := w1) id.toNat)
    go_wp2_with fail
    refine (rbits_calls HI.out n (by omega) (by simp)).mono ?_
    rintro e w2 ⟨g, rfl, hg, hV, hK⟩
    have kk := (hk0.trans k1).trans (((Keeps.refl [] w1).alloc (.cells #[I64 id.toNat] 3)).trans hK)
    have z1 : w.heap.size ≤ g := by have := hk0.size; have := k1.size; have e := hg; simp at e; omega
    go_wp2_with fail
    go_ret
    exact ⟨g, rfl, z1, by rw [HX.out, HL.out]; exact hV, kk⟩
  · rw [if_neg hlt] at hL
    have HL := Lib.hid hL
    clear hX hL
    have hu : ¬ ((id.toNat : Int) < (nK : Int)) := by omega
    go_enter Tryz.func54, Tryz.ntmps54
    go_wp2_with fail
    refine hM.mono ?_
    rintro e w1 ⟨rfl, k1⟩
    have hB1 := hB.keeps k1 (by simp)
    have c0 := hB1.cell' (i := 0) rfl
    have c1 := hB1.cell' (i := 1) rfl
    have c2 := hB1.cell' (i := 2) rfl
    go_wp2_with fail
    refine (refnew_calls s id).mono ?_
    rintro e w2 ⟨p, rfl, hp, hS, k2⟩
    go_wp2_with fail
    refine (refnext_calls hS).mono ?_
    rintro e w3 ⟨rfl, hS3, k3⟩
    go_wp2_with fail
    refine (rdegree_calls n hn1 hn2 _).mono ?_
    rintro e w4 ⟨rfl, k4⟩
    have hS4 := hS3.keeps k4 (by simp)
    generalize hd : degree n (rnext (rseed s id)) = d at *
    have hm : ((clampK (n : Int) (d : Int) : Nat) : Int) = max 0 (min (d : Int) (n : Int)) := by unfold clampK; omega
    have hsm := some_marked (rstep (rseed s id)) n (d : Int) hn1 (by omega)
    have hSo := rsome_calls hS4 n (d : Int) hn1 (by omega) _ hm
    rw [← hsm, ← HL.out] at hSo
    clear hm hsm
    go_wp2_with fail
    refine hSo.mono ?_
    rintro e w5 ⟨v, rfl, hO, k5⟩
    obtain ⟨a6, c6, rfl, i1, i2, i3⟩ := hO.ints
    have hI : IsInts w5 w4.heap.size (.slice a6 L.length c6) L := ⟨a6, c6, rfl, i1, i2, i3⟩
    have HI := Lib.hid hI
    clear hI i3 hO
    go_wp2_with fail
    refine (rbits_calls HI.out n (by omega) (by omega)).mono ?_
    rintro e w6 ⟨g, rfl, hg, hV, k6⟩
    have s1 := (hk0.trans k1).size
    have s2 := k2.size
    have s3 := k3.size
    have s4 := k4.size
    have s5 := k5.size
    have e2 : Keeps [] w w2 := (hk0.trans k1).trans k2
    have e3 : Keeps [] w w3 := e2.trans' k3 (fun _ h => .inl h) (fun x hx => .inr (by simp at hx; omega))
    have e5 : Keeps [] w w5 := (e3.trans k4).trans' k5 (fun _ h => .inl h) (fun x hx => .inr (by simp at hx; omega))
    go_wp2_with fail
    go_ret
    exact ⟨g, rfl, by omega, by rw [HX.out]; exact hV, e5.trans k6⟩

end Go.Proofs.YtijhaeapoapgfaaGreatDoor

set_option linter.unusedVariables false
set_option linter.unusedSimpArgs false
namespace Go.Proofs.YtijhaeapoapgfaaGreatDoor
open Go.RowKit
attribute [local go_sem ↓] Go.wp_at_zero Go.wp_at_succ

/-- Bytes, in new memory. -/
def BytesNew (w : World) (m : Nat) (l : List UInt8) (e : Ending) (w' : World) : Prop :=
  ∃ g, e = .returned (.slice (some ⟨g, 0, none⟩) m m) ∧ w.heap.size ≤ g ∧ Blk w' g 5 (l.map B8) ∧ Keeps [] w w'
theorem list_get0 {l : List UInt8} {i : Nat} (h : i < l.length) : l[i]? = some (l.getD i 0) := by
  rw [List.getD_eq_getElem?_getD, List.getElem?_eq_getElem h]; rfl
theorem xorL_of {cs l m : List UInt8} {z : Nat} (hc : cs.length = z) (hl : l.length = z) (hm : m.length = z) (h : ∀ j, j < z → cs.getD j 0 = l.getD j 0 ^^^ m.getD j 0) : cs = xorL l m := by
  apply List.ext_getElem?
  intro i
  by_cases hi : i < z
  · rw [list_get0 (by omega), h i hi, xorL_at (by omega) (by omega)]
    simp only [List.getD_eq_getElem?_getD, List.getElem?_eq_getElem (show i < l.length by omega), List.getElem?_eq_getElem (show i < m.length by omega), Option.getD_some]
  · rw [List.getElem?_eq_none (by omega), List.getElem?_eq_none (by rw [xorL_len hl hm]; omega)]

set_option maxRecDepth 100000 in
set_option maxHeartbeats 2000000 in
theorem rxorb_calls {w : World} {a b : Option Addr} {z c d : Nat} {l m : List UInt8} (hl : Rd w a l) (hm : Rd w b m) (hlz : l.length = z) (hmz : m.length = z) (hzc : z ≤ c) (hzd : z ≤ d) (hc : c ≤ 9223372036854775807) (hd : d ≤ 9223372036854775807) (hz : z ≤ 1000) :
    Calls Tryz.prog 87 #[.slice a z c, .slice b z d] w (BytesNew w z (xorL l m)) := by
  have hmk := fun w => make_u8 z z (Nat.le_refl _) (by omega) w
  have HL := Lib.hid hl
  have HMm := Lib.hid hm
  have Hlz := Lib.hid hlz
  have Hmz := Lib.hid hmz
  clear hl hm hlz hmz
  go_enter Tryz.func87, Tryz.ntmps87
  go_wp2_with fail
  have hB := Blk.newA w 5 (zeros z)
  have kA : Keeps [] w (w.alloc (.cells (zeros z) 5)) := (Keeps.refl [] w).alloc _
  have hB0 : Blk (w.alloc (.cells (zeros z) 5)) w.heap.size 5 ((zer z).map B8) := by simpa [zeros, zer] using hB
  have HB := Lib.hid hB0
  have HkA := Lib.hid kA
  clear hB hB0 kA
  obtain ⟨g, hg⟩ : ∃ g, g = w.heap.size := ⟨_, rfl⟩
  rw [← hg] at HB ⊢
  have Hg := Lib.hid hg
  generalize w.alloc (.cells (zeros z) 5) = w0 at *
  clear hg
  go_loopw [12] (fun i wr => ∃ (k : Nat) (cs : List UInt8), k ≤ z ∧ i = .int .i64 k ∧ cs.length = z ∧ Blk wr g 5 (cs.map B8) ∧ Hid (∀ j, j < k → cs.getD j 0 = l.getD j 0 ^^^ m.getD j 0) ∧ Keeps [] w wr) (fun i _ => z - (intOf i).toNat)
  case atStart => exact ⟨0, _, Nat.zero_le _, rfl, zer_len z, HB.out, Lib.hid (fun j hj => by omega), HkA.out⟩
  case round =>
    clear HB HkA
    obtain ⟨k, cs, hk, rfl, hcl, hG, hx, hK⟩ := hrel
    by_cases hlt : k < z
    · have hki : (k : Int) < (z : Int) := by omega
      obtain ⟨ba, oa, rfl, ca⟩ := (HL.out.keepsNil hK) k (l.getD k 0) (list_get0 (by rw [Hlz.out]; exact hlt))
      obtain ⟨bb, ob, rfl, cb⟩ := (HMm.out.keepsNil hK) k (m.getD k 0) (list_get0 (by rw [Hmz.out]; exact hlt))
      have hx8 := xor_byte (l.getD k 0) (m.getD k 0)
      have fr := hG.frozen k
      have cg : wr.cell? ⟨g, k, none⟩ = some (B8 (cs.getD k 0)) := hG.cell' (by rw [List.getElem?_map, list_get0 (by omega)]; rfl)
      have hS := hG.set k (B8 (l.getD k 0 ^^^ m.getD k 0))
      rw [map_set8] at hS
      have hx' : ∀ j, j < k + 1 → (cs.set k (l.getD k 0 ^^^ m.getD k 0)).getD j 0 = l.getD j 0 ^^^ m.getD j 0 := fun j hj => by
        by_cases e : j = k
        · subst e
          rw [List.getD_eq_getElem?_getD, List.getElem?_set_self (by omega)]; rfl
        · rw [List.getD_eq_getElem?_getD, List.getElem?_set_ne (fun h => e h.symm), ← List.getD_eq_getElem?_getD]
          exact hx.out j (by omega)
      have HS := Lib.hid hS.drew
      have HX := Lib.hid hx'
      have HK := Lib.hid (hK.setCell (p := ⟨g, k, none⟩) (.inr (by rw [Hg.out]; exact Nat.le_refl _)) (B8 (l.getD k 0 ^^^ m.getD k 0))).drew
      have Hcl := Lib.hid hcl
      clear hS hx' hG hx hK hcl
      generalize l.getD k 0 = x at *
      generalize m.getD k 0 = y at *
      go_upto_region 5 with (fail)
      go_region
      go_wp2_with fail
      go_roundw
      case rel => exact ⟨k + 1, _, by omega, by go_num, by rw [List.length_set]; exact Hcl.out, HS.out, Lib.hid HX.out, HK.out⟩
      case measure => simp [intOf]; omega
    · obtain rfl : k = z := by omega
      obtain rfl := xorL_of hcl Hlz.out Hmz.out hx.out
      have HG := Lib.hid hG
      have HK := Lib.hid hK
      clear hG hK hx
      go_wp2_with fail
      go_ret
      exact ⟨g, rfl, by rw [Hg.out]; exact Nat.le_refl _, HG.out, HK.out⟩

/-- The sum of those of the first k pieces that a row has. -/
def rsumF (X m : Nat) (i : Nat) : Bool := X.testBit i && decide (i < m)
theorem psum_over {X z : Nat} {L : List (List UInt8)} : ∀ k, psum (rsumF X L.length) z L (L.length + k) = psum X.testBit z L L.length
  | 0 => psum_congr L.length (fun i hi => by unfold rsumF; simp [hi])
  | k + 1 => by
    rw [← psum_over k]
    show (if rsumF X L.length (L.length + k) then _ else psum (rsumF X L.length) z L (L.length + k)) = _
    rw [if_neg (by unfold rsumF; simp)]

set_option maxRecDepth 100000 in
set_option maxHeartbeats 2000000 in
theorem rsum_calls {w : World} {gr X n : Nat} (hr : BlAt w gr (bl n X)) (cr : Nat) (hcr : n ≤ cr) (hcr2 : cr ≤ 9223372036854775807) (hn : n ≤ 256) {v : Value} {L : List (List UInt8)} (hv : RdL w v L) (hL : L.length ≤ n) {z : Nat} (hz1 : 1 ≤ z) (hz : z ≤ 16) (he : ∀ x ∈ L, x.length = z) :
    Calls Tryz.prog 53 #[.slice (some ⟨gr, 0, none⟩) n cr, v, .int .i64 z] w (BytesNew w z (psum X.testBit z L L.length)) := by
  have hmk := fun w => make_u8 z z (Nat.le_refl _) (by omega) w
  rw [← psum_over (n - L.length), show L.length + (n - L.length) = n from by omega]
  have hps : ∀ k, psum (rsumF X L.length) z L (k + 1) = if rsumF X L.length k then xorL (psum (rsumF X L.length) z L k) (L.getD k []) else psum (rsumF X L.length) z L k := fun k => rfl
  have hp0 : psum (rsumF X L.length) z L 0 = zer z := rfl
  generalize hpe : psum (rsumF X L.length) z L = ps at *
  have hff : ∀ k, rsumF X L.length k = (X.testBit k && decide (k < L.length)) := fun k => rfl
  generalize rsumF X L.length = f at *
  obtain ⟨a, c, rfl, r1, r2, r3, r4⟩ := hv
  have HR := Lib.hid r3
  have HE := Lib.hid he
  have HB := Lib.hid hr
  have HPs := Lib.hid hps
  have Hff := Lib.hid hff
  have kA : Keeps [] w (w.alloc (.cells (zeros z) 5)) := (Keeps.refl [] w).alloc _
  have hN : Blk (w.alloc (.cells (zeros z) 5)) w.heap.size 5 ((ps 0).map B8) := by
    have := Blk.newA w 5 (zeros z)
    rw [hp0]; simpa [zeros, zer] using this
  have HN := Lib.hid hN
  have HkA := Lib.hid kA
  have Hp0 := Lib.hid (show (ps 0).length = z by rw [hp0, zer_len])
  clear r3 r4 he hr hps hff hN kA hp0 hpe
  go_enter Tryz.func53, Tryz.ntmps53
  go_wp2_with fail
  generalize hw0 : w.alloc (.cells (zeros z) 5) = w0 at *
  have Hw0 := Lib.hid hw0
  clear hw0
  go_loopw [7, 14] (fun o i wr => ∃ (k g : Nat), k ≤ n ∧ i = .int .i64 k ∧ o = .slice (some ⟨g, 0, none⟩) z z ∧ w.heap.size ≤ g ∧ (ps k).length = z ∧ Blk wr g 5 ((ps k).map B8) ∧ Keeps [] w wr) (fun _ i _ => n - (intOf i).toNat)
  case atStart => exact ⟨0, _, Nat.zero_le _, rfl, rfl, Nat.le_refl _, Hp0.out, HN.out, HkA.out⟩
  case round =>
    clear HN HkA Hp0
    obtain ⟨k, g, hk, rfl, rfl, hg, hpl, hG, hK⟩ := hrel
    by_cases hlt : k < n
    · have hki : (k : Int) < (n : Int) := by omega
      have cr0 := (HB.out.keeps hK (by simp)).bit hlt
      have hps := HPs.out k
      have hf := Hff.out k
      cases hbit : X.testBit k with
      | false =>
        rw [hbit] at cr0 hf
        rw [hf] at hps
        simp only [Bool.false_and, if_neg, Bool.false_eq_true, not_false_eq_true] at hps
        have HG := Lib.hid hG
        have HK := Lib.hid hK
        have Hps := Lib.hid hps
        have Hpl := Lib.hid hpl
        clear hG hK hps hpl hbit hf
        go_wp2_with fail
        go_roundw
        case rel => exact ⟨k + 1, g, by omega, by go_num, rfl, hg, by rw [Hps.out]; exact Hpl.out, by rw [Hps.out]; exact HG.out, HK.out⟩
        case measure => simp [intOf]; omega
      | true =>
        rw [hbit] at cr0 hf
        by_cases hkl : k < L.length
        · have hkli : (k : Int) < (L.length : Int) := by omega
          rw [hf] at hps
          simp only [Bool.true_and, decide_eq_true hkl, if_pos] at hps
          obtain ⟨g0, u, rfl, cu, hu⟩ := HR.out k L[k] (List.getElem?_eq_getElem hkl)
          have hlen := HE.out L[k] (List.getElem_mem hkl)
          rw [List.getD_eq_getElem?_getD, List.getElem?_eq_getElem hkl] at hps
          simp only [Option.getD_some] at hps
          generalize L[k] = y at *
          have cur := hK.cell0 cu
          obtain ⟨ay, cy, rfl, y1, y2, y3, _⟩ := (hu.keepsNil hK)
          rw [hlen] at cur y1
          have HX := Lib.hid (rxorb_calls (a := some ⟨g, 0, none⟩) (c := z) (d := cy) (Rd.blk hG 0 (ps k) (fun j u hu => by rw [Nat.zero_add, List.getElem?_map, hu]; rfl)) y3 hpl hlen (Nat.le_refl _) y1 (by omega) y2 (by omega))
          unfold BytesNew at HX
          rw [← hps] at HX
          have hl1 : (ps (k + 1)).length = z := by rw [hps]; exact xorL_len hpl hlen
          have Hl1 := Lib.hid hl1
          have HK := Lib.hid hK
          have hks := hK.size
          clear hG hK hps hpl hbit hf cu hu y3 hl1
          go_wp2_with fail
          refine HX.out.mono ?_
          rintro e w1 ⟨g1, rfl, hg1, hG1, k1⟩
          have HG := Lib.hid hG1
          have HK1 := Lib.hid (HK.out.trans k1)
          clear hG1 k1 HX
          go_wp2_with fail
          go_roundw
          case rel => exact ⟨k + 1, g1, by omega, by go_num, rfl, by omega, Hl1.out, HG.out, HK1.out⟩
          case measure => simp [intOf]; omega
        · have hkli : (L.length : Int) ≤ (k : Int) := by omega
          have hkb : decide ((k : Int) < (L.length : Int)) = false := decide_eq_false (by omega)
          rw [hf] at hps
          simp only [Bool.true_and, decide_eq_false hkl, if_neg, Bool.false_eq_true, not_false_eq_true] at hps
          have HG := Lib.hid hG
          have HK := Lib.hid hK
          have Hps := Lib.hid hps
          have Hpl := Lib.hid hpl
          clear hG hK hps hpl hbit hf
          go_wp2_with fail
          go_roundw
          case rel => exact ⟨k + 1, g, by omega, by go_num, rfl, hg, by rw [Hps.out]; exact Hpl.out, by rw [Hps.out]; exact HG.out, HK.out⟩
          case measure => simp [intOf]; omega
    · obtain rfl : k = n := by omega
      have HG := Lib.hid hG
      have HK := Lib.hid hK
      clear hG hK hpl
      go_wp2_with fail
      go_ret
      exact ⟨g, rfl, hg, HG.out, HK.out⟩

/-- A piece is what is left of the image, filled up. -/
theorem bpiece_rest {img : List UInt8} {K z i : Nat} (hfit : img.length ≤ K * z) (hi : i < K) : bpiece img K z i = (img.drop (i * z)).take z ++ zer (z - ((img.drop (i * z)).take z).length) := by
  have hst : (i + 1) * z ≤ K * z := Nat.mul_le_mul_right _ hi
  rw [Nat.add_mul, Nat.one_mul] at hst
  apply List.ext_getElem?
  intro j
  unfold bpiece bfull zer
  generalize i * z = o at *
  generalize K * z = T at *
  simp only [List.getElem?_take, List.getElem?_drop, List.getElem?_append, List.getElem?_replicate, List.length_take, List.length_drop]
  by_cases hj : j < z
  · rw [if_pos hj]
    by_cases h1 : o + j < img.length
    · rw [if_pos h1, if_pos (by omega), if_pos hj]
    · rw [if_neg h1, if_pos (by omega), if_neg (by omega), if_pos (by omega)]
  · rw [if_neg hj, if_neg (by omega), if_neg (by omega)]

set_option maxRecDepth 100000 in
set_option maxHeartbeats 2000000 in
theorem rsplit_calls {w : World} {vi : Value} {img : List UInt8} (hi : RdS0 w vi img) (K z : Nat) (hm : MfOk img.length z 0 K) (hfit : img.length ≤ K * z) :
    Calls Tryz.prog 56 #[vi, .int .i64 z] w (PcsPost w (bsplit img K z K)) := by
  obtain ⟨a, c, rfl, i1, i2, hrd, hn0⟩ := hi
  have hC := rcount_calls (w := w) hm
  have hz1 := hm.z1
  have hz2 := hm.z2
  have hn1 := hm.n1
  have hn2 := hm.n2
  have hk2 := hm.k2
  have hpl : ∀ i, i < K → (bpiece img K z i).length = z := fun i hi => bpiece_len hfit hi
  have hpd : ∀ i, i < K → bpiece img K z i = (img.drop (i * z)).take z ++ zer (z - ((img.drop (i * z)).take z).length) := fun i hi => bpiece_rest hfit hi
  have hbs := bsplit_succ img K z
  have hbl := bsplit_len img K z
  have hb0 : bsplit img K z 0 = [] := rfl
  have hlast : ∀ i, i < K → i * z < img.length := fun i hi => by
    have h1 := hm.c
    unfold bcount at h1
    rw [if_neg (by omega)] at h1
    split at h1
    · rw [← h1] at hi
      have h2 := Nat.div_mul_le_self (img.length + z - 1) z
      have h3 : (i + 1) * z ≤ (img.length + z - 1) / z * z := Nat.mul_le_mul_right _ hi
      rw [Nat.add_mul, Nat.one_mul] at h3
      omega
    · omega
  generalize bsplit img K z = bs at *
  generalize bpiece img K z = bp at *
  have hmk := fun w => make_u8 z z (Nat.le_refl _) (by omega) w
  have HC := Lib.hid hC
  have HR := Lib.hid hrd
  have Hn0 := Lib.hid hn0
  have Hpl := Lib.hid hpl
  have Hpd := Lib.hid hpd
  have Hbs := Lib.hid hbs
  have Hbl := Lib.hid hbl
  have Hla := Lib.hid hlast
  have hP0 := Pcs.nil w w.heap.size
  rw [← hb0] at hP0
  have HP0 := Lib.hid hP0
  clear hC hrd hn0 hpl hpd hbs hbl hlast hP0 hm hb0
  obtain ⟨n, hn⟩ : ∃ n, n = img.length := ⟨_, rfl⟩
  have Hn := Lib.hid hn
  rw [← hn] at HC hn1 hn2 hfit i1 ⊢
  clear hn
  go_enter Tryz.func56, Tryz.ntmps56
  go_wp2_with fail
  refine HC.out.mono ?_
  rintro e w1 ⟨rfl, rfl⟩
  have HK1 := Lib.hid (Keeps.refl [] w)
  have HP1 := Lib.hid HP0.out
  clear HC HP0
  go_wp2_with fail
  go_loopw [5, 12] (fun v i wr => ∃ k : Nat, k ≤ K ∧ i = .int .i64 k ∧ Pcs wr w.heap.size v (bs k) ∧ Keeps [] w wr) (fun _ i _ => K - (intOf i).toNat)
  case atStart => exact ⟨0, Nat.zero_le _, rfl, HP1.out, HK1.out⟩
  case round =>
    clear HP1 HK1
    obtain ⟨k, hk, rfl, hP, hK⟩ := hrel
    by_cases hlt : k < K
    · have hki : (k : Int) < (K : Int) := by omega
      have hlo : (k : Int) * (z : Int) = ((k * z : Nat) : Int) := by simp
      have hpk := Hpd.out k hlt
      have hlk := Hpl.out k hlt
      have hb := Hbs.out k
      have hbl := Hbl.out k
      have hla := Hla.out k hlt
      generalize k * z = lo at *
      rw [← Hn.out] at hla
      have i3 : (lo : Int) ≤ (n : Int) := by omega
      have i5 : (lo : Int) < (c : Int) := by omega
      have i6 : ¬ (lo = c) := by omega
      have i7 : ¬ (c = lo) := by omega
      have i4 : (0 : Int) ≤ (lo : Int) := by omega
      have hsz := hK.size
      have hbl0 := Blk.newA wr 5 (zeros z)
      obtain ⟨w2, mm, hcp, hb3, hk3⟩ : ∃ (W' : World) (m : Nat), (Builtin.copy_ #[22, 22] 3 #[.slice (some ⟨wr.heap.size, 0, none⟩) z z, .slice (a.map fun x => x.add lo) (n - lo) (c - lo)]).run Tryz.prog (wr.alloc (.cells (zeros z) 5)) = .ok (.int .i64 ((m : Nat) : Int)) W' ∧
          Blk W' wr.heap.size 5 ((bp k).map B8) ∧ Keeps [] wr W' := by
        cases a with
        | none =>
          exfalso
          have := (Hn0.out rfl).1
          have h2 := Hn.out
          rw [this] at h2
          simp at h2
          omega
        | some x =>
          have hrd2 : Rd (wr.alloc (.cells (zeros z) 5)) (some (x.add lo)) ((img.drop lo).take z) := ((HR.out.keepsNil (hK.alloc _)).dropAdd lo).take z
          obtain ⟨W', e1, e2, e3⟩ := copy_run (w := wr.alloc (.cells (zeros z) 5)) (g := wr.heap.size) (o := 0) (dLen := z) (dCap := z) (x := x.add lo) (sLen := n - lo) (sCap := c - lo) hbl0 ((img.drop lo).take z) (by show _ = min (n - lo) z; rw [List.length_take, List.length_drop, ← Hn.out]; omega) hrd2.news (by simp [zeros]; omega)
          refine ⟨W', _, e1, ?_, ((Keeps.refl [] wr).alloc _).trans' e3 (fun _ h => .inl h) (by simp)⟩
          rw [hpk, List.map_append]
          simpa [zeros, zer] using e2
      obtain ⟨vs, hO, hvl, hve⟩ := hP
      have kB : Keeps [] w2 (w2.alloc (.cells #[.slice (some ⟨wr.heap.size, 0, none⟩) z z] 22)) := (Keeps.refl [] w2).alloc _
      have HU := Lib.hid (show RdS (w2.alloc (.cells #[.slice (some ⟨wr.heap.size, 0, none⟩) z z] 22)) (.slice (some ⟨wr.heap.size, 0, none⟩) z z) (bp k) from (RdS.blk hb3 hlk (by omega)).keepsNil kB)
      have HOw := Lib.hid (hO.keeps (hk3.trans kB) (by simp))
      have Hve := Lib.hid (fun (i : Nat) (x : List UInt8) (hx : (bs k)[i]? = some x) => by obtain ⟨u, hu, hr⟩ := hve i x hx; exact (⟨u, hu, hr.keepsNil (hk3.trans kB)⟩ : ∃ u, vs[i]? = some u ∧ RdS (w2.alloc (.cells #[.slice (some ⟨wr.heap.size, 0, none⟩) z z] 22)) u x))
      have HX := Lib.hid (show (w2.alloc (.cells #[.slice (some ⟨wr.heap.size, 0, none⟩) z z] 22)).cell? ⟨w2.heap.size, 0, none⟩ = some (.slice (some ⟨wr.heap.size, 0, none⟩) z z) from (Blk.newA w2 22 #[.slice (some ⟨wr.heap.size, 0, none⟩) z z]).cell' rfl)
      have hB : w.heap.size ≤ (w2.alloc (.cells #[.slice (some ⟨wr.heap.size, 0, none⟩) z z] 22)).heap.size := by have := hk3.size; simp; omega
      have hvl6 : vs.length ≤ 1000000 := by omega
      have HK2 := Lib.hid ((hK.trans hk3).trans kB)
      have Hb := Lib.hid hb
      clear hbl0 hb3 hk3 hO hve hK hpk hb kB
      go_wp2_with (at_builtin; (refine wpList_append_bs rfl (.tmp 24) (.tmp 26) rfl HOw.out rfl (.slice (some ⟨wr.heap.size, 0, none⟩) z z) rfl _ 0 1 rfl HX.out hvl6 hB ?_); intro v3 w3 g1 g2 g3)
      go_roundw
      case rel =>
        refine ⟨k + 1, by omega, by go_num, ?_, HK2.out.grown g2 (fun x hx => .inr (HOw.out.block hx).1)⟩
        rw [Hb.out]
        exact Pcs.snoc HOw.out hvl Hve.out HU.out g1 g2
      case measure => simp [intOf]; omega
    · obtain rfl : k = K := by omega
      have HP := Lib.hid hP
      have HKr := Lib.hid hK
      clear hP hK
      go_wp2_with fail
      go_ret
      exact ⟨_, rfl, HP.out, HKr.out⟩

end Go.Proofs.YtijhaeapoapgfaaGreatDoor

set_option linter.unusedVariables false
set_option linter.unusedSimpArgs false
namespace Go.Proofs.YtijhaeapoapgfaaGreatDoor
open Go.RowKit
attribute [local go_sem ↓] Go.wp_at_zero Go.wp_at_succ

/-- Which bits a row of parity has, the first k of the image's pieces told. -/
def parLs (s : UInt32) (j K k : Nat) : List Nat := [K + j] ++ (List.range k).filter (fun i => parB s j i)
theorem parLs_succ (s : UInt32) (j K k : Nat) : parLs s j K (k + 1) = if parB s j k then parLs s j K k ++ [k] else parLs s j K k := by
  unfold parLs
  rw [List.range_succ, List.filter_append]
  cases h : parB s j k
  · simp [h]
  · simp [h]
theorem parLs_len (s : UInt32) (j K k : Nat) : (parLs s j K k).length ≤ k + 1 := by
  unfold parLs
  have := List.length_filter_le (fun i => parB s j i) (List.range k)
  rw [List.length_range] at this
  simp; omega
theorem parLs_row (s : UInt32) {j K n : Nat} (hj : K + j < n) : bl n (putL n 0 (parLs s j K K)) = bl n (parX s K n j K) := by
  unfold bl
  apply List.map_congr_left
  intro i hi
  have hi := List.mem_range.1 hi
  rw [testBit_putL, parX_bits s hj i]
  have hm : i ∈ parLs s j K K ↔ i = K + j ∨ (i < K ∧ parB s j i = true) := by unfold parLs; simp
  simp only [Nat.zero_testBit, Bool.false_or]
  by_cases h : i < K
  · rw [if_pos h]
    cases hp : parB s j i
    · exact decide_eq_false (fun hx => by rcases hm.1 hx.2 with h1 | ⟨_, h1⟩; · omega
                                          · rw [hp] at h1; cases h1)
    · exact decide_eq_true ⟨hi, hm.2 (.inr ⟨h, hp⟩)⟩
  · rw [if_neg h]
    by_cases e : i = K + j
    · rw [decide_eq_true e]; exact decide_eq_true ⟨hi, hm.2 (.inl e)⟩
    · rw [decide_eq_false e]; exact decide_eq_false (fun hx => by rcases hm.1 hx.2 with h1 | ⟨h1, _⟩ <;> omega)

theorem Tryz.info_bls : (Tryz.prog.info? 91).map (fun i => (i.zero, i.size, i.bytes)) = some (some (.slice none 0 0), 1, 24) := by kernel_rfl
theorem append_runbls {w : World} {B : Nat} {v : Value} {l : List Value} (h : OwnX 91 w B v l) (x : Value) (hone : x.oneCell' = true) (b o c : Nat) (hx : w.cell? ⟨b, o, none⟩ = some x)
    (hlen : l.length ≤ 1000000) (hB : B ≤ w.heap.size) (t : TypeId) :
    ∃ v' w', (Builtin.append_ #[100, 100] t #[v, .slice (some ⟨b, o, none⟩) 1 c]).run Tryz.prog w = .ok v' w' ∧ OwnX 91 w' B v' (l ++ [x]) ∧ w.grownBy w' v.ownBlock ∧ (∀ x, v'.ownBlock = some x → v.ownBlock = some x ∨ w.heap.size ≤ x) := by
  obtain ⟨i0, hi, hz0, hz1, hz2⟩ := info_parts Tryz.info_bls
  obtain ⟨v', w', hr, h2, h3, h4, h5⟩ := run_append_own_at (P := Tryz.prog) w B 100 t 91 i0 (.slice none 0 0) 1 24 Tryz.underlying100 hi hz0 hz1 hz2 rfl (by decide) v l.length l h ⟨b, o, none⟩ 1 c [x]
    (by simp) (fun j u hu => by
      obtain rfl : j = 0 := by
        rcases j with _ | j
        · rfl
        · simp at hu
      simp only [List.getElem?_cons_zero, Option.some.injEq] at hu
      subst hu
      rw [Addr.add_lit]
      exact hx) (by intro u hu; simp only [List.mem_singleton] at hu; subst hu; exact hone) (by unfold maxLen; omega) (by omega) hB
  refine ⟨v', w', hr, ?_, h3, fun y hy => ?_⟩
  · unfold OwnX
    rw [List.length_append]
    exact h2
  · rcases h5 with h5 | h5
    · exact .inl (h5 ▸ hy)
    · rw [h5] at hy; simp at hy; exact .inr (by omega)
theorem wpList_append_bls {w : World} {ops : Array Oper} {rest : List Oper} {o : Oper} {act : Act} {Q : Exit → Act → World → Prop} (hgd : o.guard = none) (s x : Operand)
    (ho : o.op = .call { callee := .builtin .append, args := #[s, x], argTypes := #[100, 100] })
    {B : Nat} {v : Value} {l : List Value} (h : OwnX 91 w B v l) (hs : act.eval s = v) (y : Value) (hone : y.oneCell' = true) (b k c : Nat) (hx : act.eval x = .slice (some ⟨b, k, none⟩) 1 c) (hm : w.cell? ⟨b, k, none⟩ = some y)
    (hlen : l.length ≤ 1000000) (hB : B ≤ w.heap.size)
    (hK : ∀ v' w', OwnX 91 w' B v' (l ++ [y]) → w.grownBy w' v.ownBlock → (∀ x, v'.ownBlock = some x → v.ownBlock = some x ∨ w.heap.size ≤ x) → wpList Tryz.prog ops Q rest (act.put o.dst v') w') : wpList Tryz.prog ops Q (o :: rest) act w := by
  refine wpList_plain hgd fun K hK' => ?_
  obtain ⟨v', w', hrun, h1, h2, h3⟩ := append_runbls h y hone b k c hm hlen hB o.type
  unfold Oper.wp
  simp [execOp, ho, resolve, invoke, builtin, hs, hx, hrun, Result.andThen]
  exact hK' _ _ (hK v' w' h1 h2 h3)

/-- Rows of truths. -/
def BRows (w : World) (B : Nat) (v : Value) (n : Nat) (Xs : List Nat) : Prop :=
  ∃ vs, OwnX 91 w B v vs ∧ vs.length = Xs.length ∧ ∀ (i X : Nat), Xs[i]? = some X → ∃ g, vs[i]? = some (Value.slice (some ⟨g, 0, none⟩) n n) ∧ BlAt w g (bl n X)
theorem BRows.nil (w : World) (B n : Nat) : BRows w B (.slice none 0 0) n [] := ⟨[], OwnX.nil _ _ _, rfl, by simp⟩
theorem BRows.keepsNil {w w' : World} {B n : Nat} {v : Value} {Xs : List Nat} (h : BRows w B v n Xs) (k : Keeps [] w w') : BRows w' B v n Xs := by
  obtain ⟨vs, hO, hl, he⟩ := h
  exact ⟨vs, hO.keeps k (by simp), hl, fun i X hX => by obtain ⟨g, hg, hb⟩ := he i X hX; exact ⟨g, hg, hb.keeps k (by simp)⟩⟩
theorem BRows.snoc {w w' : World} {B n g X : Nat} {v v' : Value} {vs : List Value} {Xs : List Nat} (hO : OwnX 91 w B v vs) (hl : vs.length = Xs.length) (he : ∀ (i X : Nat), Xs[i]? = some X → ∃ g, vs[i]? = some (Value.slice (some ⟨g, 0, none⟩) n n) ∧ BlAt w g (bl n X))
    (hu : BlAt w g (bl n X)) (h' : OwnX 91 w' B v' (vs ++ [Value.slice (some ⟨g, 0, none⟩) n n])) (hg : w.grownBy w' v.ownBlock) : BRows w' B v' n (Xs ++ [X]) := by
  have k : Keeps v.ownBlock.toList w w' := (Keeps.refl v.ownBlock.toList w).grown hg (fun k hk => .inl (by rw [hk]; simp))
  have hne : ∀ y Y, BlAt w y Y → y ∉ v.ownBlock.toList := fun y Y hy hm => by
    obtain ⟨_, _, cs, hb⟩ := hO.block (show v.ownBlock = some y from by simpa using hm)
    exact hy.b.ne hb (by decide) rfl
  refine ⟨vs ++ [_], h', by simp [hl], fun i Y hY => ?_⟩
  by_cases hi : i < Xs.length
  · rw [List.getElem?_append_left hi] at hY
    obtain ⟨z, hz, hzr⟩ := he i Y hY
    exact ⟨z, by rw [List.getElem?_append_left (by omega)]; exact hz, hzr.keeps k (hne _ _ hzr)⟩
  · rw [List.getElem?_append_right (by omega)] at hY
    have h0 : i - Xs.length = 0 := by
      rcases Nat.eq_zero_or_pos (i - Xs.length) with h0 | h0
      · exact h0
      · rw [List.getElem?_eq_none (by simp; omega)] at hY; cases hY
    rw [h0] at hY
    simp only [List.getElem?_cons_zero, Option.some.injEq] at hY
    subst hY
    exact ⟨g, by rw [List.getElem?_append_right (by omega), show i - vs.length = 0 from by omega]; rfl, hu.keeps k (hne _ _ hu)⟩

theorem OwnI.lit1 (w : World) (x : Nat) : OwnI (w.alloc (.cells #[.int .i64 x] 3)) w.heap.size (.slice (some ⟨w.heap.size, 0, none⟩) 1 1) [x] := by
  have hg : (w.alloc (.cells #[.int .i64 x] 3)).heap[w.heap.size]? = some (.cells #[.int .i64 x] 3 (0, 0)) := by
    show (w.heap.push _)[w.heap.size]? = _
    simp
  exact ⟨by simp, .inr ⟨w.heap.size, 1, #[.int .i64 x], rfl, Nat.le_refl _, hg, by simp, by unfold maxLen; omega, by simp, by simp⟩⟩

def BRowsPost (w : World) (n : Nat) (Xs : List Nat) (e : Ending) (w' : World) : Prop := ∃ v, e = .returned v ∧ BRows w' w.heap.size v n Xs ∧ Keeps [] w w'

set_option maxRecDepth 100000 in
set_option maxHeartbeats 3200000 in
theorem rparity_calls {w : World} (s : UInt32) {nK P z : Nat} (hp : PmI nK P z) :
    Calls Tryz.prog 58 #[.agg #[B32 s, .int .i64 nK, .int .i64 P, .int .i64 z]] w (BRowsPost w (nK + P) (parXs s nK (nK + P) P)) := by
  obtain ⟨h1, h2, h3, h4, h5⟩ := hp
  have hM := rmayp_calls (w := w.alloc (.cells #[B32 s, .int .i64 nK, .int .i64 P, .int .i64 z] 38)) s nK P z
  rw [show PmOk (nK : Int) (P : Int) (z : Int) = true from by simp [PmOk]; omega] at hM
  have hB : Blk (w.alloc (.cells #[B32 s, .int .i64 nK, .int .i64 P, .int .i64 z] 38)) w.heap.size 38 [B32 s, .int .i64 nK, .int .i64 P, .int .i64 z] := Blk.newA w _ _
  have hk0 : Keeps [] w (w.alloc (.cells #[B32 s, .int .i64 nK, .int .i64 P, .int .i64 z] 38)) := (Keeps.refl _ _).alloc _
  have hn80 : nK + P ≤ 80 := by omega
  have hnn : (nK : Int) + (P : Int) = ((nK + P : Nat) : Int) := by omega
  have hrow : ∀ j, j < P → bl (nK + P) (putL (nK + P) 0 (parLs s j nK nK)) = bl (nK + P) (parX s nK (nK + P) j nK) := fun j hj => parLs_row s (by omega)
  have hpx := parXs_succ s nK (nK + P)
  have hpl := parXs_len s nK (nK + P)
  have hp0 : parXs s nK (nK + P) 0 = [] := rfl
  generalize nK + P = n at *
  have hwn : IntKind.i64.wrap (n : Int) = (n : Int) := IntWalk.i64_in _ (by omega)
  generalize parXs s nK n = Xs at *
  have Hpx := Lib.hid hpx
  have Hpl := Lib.hid hpl
  have Hp0 := Lib.hid hp0
  have Hrow := Lib.hid hrow
  clear hpx hpl hp0 hrow
  go_enter Tryz.func58, Tryz.ntmps58
  go_wp2_with fail
  refine hM.mono ?_
  rintro e w1 ⟨rfl, k1⟩
  have hB1 := hB.keeps k1 (by simp)
  have c0 := hB1.cell' (i := 0) rfl
  have c1 := hB1.cell' (i := 1) rfl
  have c2 := hB1.cell' (i := 2) rfl
  have HB1 := Lib.hid hB1
  have Hk1 := Lib.hid (hk0.trans k1)
  clear hB hB1 hk0 k1 hM
  go_wp2_with fail
  clear c0 c1 c2
  go_loopw [3, 13] (fun v i wr => ∃ k : Nat, k ≤ P ∧ i = .int .i64 k ∧ BRows wr w1.heap.size v n (Xs k) ∧ Keeps [] w1 wr) (fun _ i _ => P - (intOf i).toNat)
  case atStart => exact ⟨0, Nat.zero_le _, rfl, by rw [Hp0.out]; exact BRows.nil _ _ _, Keeps.refl _ _⟩
  case round =>
    obtain ⟨k, hk, rfl, hR, hK⟩ := hrel
    by_cases hlt : k < P
    · have hBr := HB1.out.keeps hK (by simp)
      have c0 := hBr.cell' (i := 0) rfl
      have c1 := hBr.cell' (i := 1) rfl
      have c2 := hBr.cell' (i := 2) rfl
      obtain ⟨x, hx, hx'⟩ : ∃ x : Nat, (nK : Int) + (k : Int) = (x : Int) ∧ x = nK + k := ⟨nK + k, by omega, rfl⟩
      obtain ⟨t, ht⟩ : ∃ t : UInt32, t = UInt32.ofNat (2147483648 + k) := ⟨_, rfl⟩
      have htn : t.toNat = 2147483648 + k := by rw [ht, UInt32.toNat_ofNat']; omega
      have htl := t.toNat_lt
      have hti : (2147483648 : Int) + (k : Int) = (t.toNat : Int) := by omega
      have htw : IntKind.u32.wrap (t.toNat : Int) = (t.toNat : Int) := by rw [IntKind.wrap_u32]; omega
      have Ht := Lib.hid ht
      have Hx' := Lib.hid hx'
      have hkl : (k : Int) < (P : Int) := by omega
      have HBr := Lib.hid hBr
      have HR := Lib.hid hR
      have HK := Lib.hid hK
      clear hBr ht htn hR hK hx'
      go_wp2_with fail
      refine (refnew_calls s t).mono ?_
      rintro e w3 ⟨ps, rfl, hps, hS, k3⟩
      have hBc := HBr.out.keeps k3 (by simp)
      have c0 := hBc.cell' (i := 0) rfl
      have c1 := hBc.cell' (i := 1) rfl
      have c2 := hBc.cell' (i := 2) rfl
      have kL : Keeps [] w3 (w3.alloc (.cells #[.int .i64 x] 3)) := (Keeps.refl [] w3).alloc _
      have HO := Lib.hid (OwnI.lit1 w3 x)
      have HS3 := Lib.hid (hS.keeps kL (by simp))
      have hspl := hS.ltp
      have Hkk3 := Lib.hid (k3.trans kL)
      have hBw : w3.heap.size ≤ (w3.alloc (.cells #[.int .i64 x] 3)).heap.size := kL.size
      have HBc := Lib.hid (hBc.keeps kL (by simp))
      clear hBc hS k3 kL c0 c2
      go_upto_region 9 with (fail)
      clear c1
      obtain ⟨wo, hwo⟩ : ∃ wo, wo = wr := ⟨_, rfl⟩
      subst hwo
      obtain ⟨Bo, hBo⟩ : ∃ Bo, Bo = w3.heap.size := ⟨_, rfl⟩
      rw [← hBo] at HO hspl hBw ⊢
      clear hBo
      generalize w3.alloc (.cells #[.int .i64 x] 3) = w4 at *
      have c1 := HBc.out.cell' (i := 1) rfl
      go_wp2_with fail
      clear c1
      go_loopw [6, 29] (fun v i wx => ∃ q : Nat, q ≤ nK ∧ i = .int .i64 q ∧ OwnI wx Bo v (parLs s k nK q) ∧ RSrcAt wx ps (stepN q (rseed s t)) ∧ Keeps [] wo wx ∧ Bo ≤ wx.heap.size) (fun _ i _ => nK - (intOf i).toNat)
      case atStart => exact ⟨0, Nat.zero_le _, rfl, by have := HO.out; rw [Hx'.out] at this; exact this, HS3.out, Hkk3.out, hBw⟩
      case round =>
        clear HO HS3 Hkk3
        obtain ⟨q, hq, rfl, hOq, hSq, hKq, hbo⟩ := hrel
        by_cases hql : q < nK
        · have hN := refnext_calls hSq
          have hst := stepN_out q (rseed s t)
          have hpar : parB s k q = decide ((rnext (stepN q (rseed s t))).toNat % 2 = 1) := by rw [Ht.out]; rfl
          have hls := parLs_succ s k nK q
          have hll := parLs_len s k nK q
          generalize rnext (stepN q (rseed s t)) = y at *
          have ho := one_bit y
          have HN := Lib.hid hN
          have hqi : (q : Int) < (nK : Int) := by omega
          have Hst := Lib.hid hst
          have HKq := Lib.hid hKq
          have HOq := Lib.hid hOq
          generalize parLs s k nK q = Lq at *
          cases hbb : parB s k q with
          | false =>
            rw [hbb] at hls hpar
            simp only [if_neg, Bool.false_eq_true, not_false_eq_true] at hls
            have hm0 : ¬ (y.toNat % 2 = 1) := of_decide_eq_false hpar.symm
            have hb1 : (bits .and .u32 (y.toNat : Int) 1 == 1) = false := by rw [ho, show y.toNat % 2 = 0 from by omega]; rfl
            have hb2 : ¬ (bits .and .u32 (y.toNat : Int) 1 = 1) := by rw [ho, show y.toNat % 2 = 0 from by omega]; omega
            have Hls := Lib.hid hls
            clear hst hKq hOq hSq ho hpar hN hls hm0 hbb
            go_wp2_with fail
            refine HN.out.mono ?_
            rintro e w5 ⟨rfl, hS5, k5⟩
            have HO5 := Lib.hid (HOq.out.keeps k5 (fun x hx => by simp at hx; omega))
            have HS5 := Lib.hid hS5
            have Hk5 := Lib.hid (HKq.out.trans' k5 (fun _ h => .inl h) (fun x hx => .inr (by simp at hx; omega)))
            have hs5 := k5.size
            clear hS5 k5 HN
            go_wp2_with fail
            go_roundw
            case rel => exact ⟨q + 1, by omega, by go_num, by rw [Hls.out]; exact HO5.out, by rw [Hst.out]; exact HS5.out, Hk5.out, by omega⟩
            case measure => simp [intOf]; omega
          | true =>
            rw [hbb] at hls hpar
            simp only [if_pos] at hls
            have hm0 : y.toNat % 2 = 1 := of_decide_eq_true hpar.symm
            have hb1 : (bits .and .u32 (y.toNat : Int) 1 == 1) = true := by rw [ho, hm0]; rfl
            have hb2 : bits .and .u32 (y.toNat : Int) 1 = 1 := by rw [ho, hm0]; rfl
            have Hls := Lib.hid hls
            have hll6 : Lq.length ≤ 1000000 := by omega
            clear hst hKq hOq hSq ho hpar hN hls hm0 hbb hll
            go_wp2_with fail
            refine HN.out.mono ?_
            rintro e w5 ⟨rfl, hS5, k5⟩
            have kC : Keeps [] w5 (w5.alloc (.cells #[.int .i64 q] 3)) := (Keeps.refl [] w5).alloc _
            have HO5 := Lib.hid ((HOq.out.keeps k5 (fun x hx => by simp at hx; omega)).keeps kC (by simp))
            have HS5 := Lib.hid (hS5.keeps kC (by simp))
            have Hk5 := Lib.hid ((HKq.out.trans' k5 (fun _ h => .inl h) (fun x hx => .inr (by simp at hx; omega))).trans kC)
            have HX := Lib.hid (show (w5.alloc (.cells #[.int .i64 q] 3)).cell? ⟨w5.heap.size, 0, none⟩ = some (I64 q) from (Blk.newA w5 3 #[.int .i64 q]).cell' rfl)
            have hs5 := k5.size
            have hB5 : Bo ≤ (w5.alloc (.cells #[.int .i64 q] 3)).heap.size := by simp; omega
            clear hS5 k5 HN kC
            go_wp2_with (at_builtin; (refine wpList_append_int rfl (.tmp 36) (.tmp 38) rfl HO5.out rfl q _ 0 1 rfl HX.out hll6 hB5 ?_); intro v6 w6 g1 g2 g3; have HO6 := Lib.hid g1; have HK6 := Lib.hid (Hk5.out.grown g2 (fun z hz => .inr (by have := (HO5.out.block hz).1; omega))); have HS6 := Lib.hid (HS5.out.keeps ((Keeps.refl (List.map id (Value.ownBlock _).toList) _).grown g2 (fun k hk => .inl (by rw [hk]; simp))) (fun hm => by simp at hm; have := (HO5.out.block hm).1; omega)); have hs6 := g2.size; clear g1 g2 g3)
            go_roundw
            case rel => exact ⟨q + 1, by omega, by go_num, by rw [Hls.out]; exact HO6.out, by rw [Hst.out]; exact HS6.out, HK6.out, by omega⟩
            case measure => simp [intOf]; omega
        · obtain rfl : q = nK := by omega
          have hBx := HB1.out.keeps (HK.out.trans hKq) (by simp)
          have c1 := hBx.cell' (i := 1) rfl
          have c2 := hBx.cell' (i := 2) rfl
          have hll := parLs_len s k q q
          have hI := hOq.ints
          have hBt := rbits_calls hI n (by omega) (by omega)
          rw [Hrow.out k hlt] at hBt
          obtain ⟨a7, c7, rfl, _, _, _⟩ := id hI
          generalize parLs s k q q = Lq at *
          have HBt := Lib.hid hBt
          have HKq := Lib.hid hKq
          clear hBx hI hBt hOq hSq hKq hll
          go_wp2_with fail
          refine HBt.out.mono ?_
          rintro e w8 ⟨g8, rfl, hg8, hV8, k8⟩
          obtain ⟨vs, hO, hvl, hve⟩ := HR.out
          have kB : Keeps [] w8 (w8.alloc (.cells #[.slice (some ⟨g8, 0, none⟩) n n] 91)) := (Keeps.refl [] w8).alloc _
          have kq8 := (HKq.out.trans k8).trans kB
          have HU := Lib.hid (hV8.keeps kB (by simp))
          have HOw := Lib.hid (hO.keeps kq8 (by simp))
          have Hve2 := Lib.hid (fun (j X : Nat) (hX : (Xs k)[j]? = some X) => by obtain ⟨g', hu, hr⟩ := hve j X hX; exact (⟨g', hu, hr.keeps kq8 (by simp)⟩ : ∃ g', vs[j]? = some (Value.slice (some ⟨g', 0, none⟩) n n) ∧ BlAt (w8.alloc (.cells #[.slice (some ⟨g8, 0, none⟩) n n] 91)) g' (bl n X)))
          have HX := Lib.hid (show (w8.alloc (.cells #[.slice (some ⟨g8, 0, none⟩) n n] 91)).cell? ⟨w8.heap.size, 0, none⟩ = some (.slice (some ⟨g8, 0, none⟩) n n) from (Blk.newA w8 91 #[.slice (some ⟨g8, 0, none⟩) n n]).cell' rfl)
          have hB8 : w1.heap.size ≤ (w8.alloc (.cells #[.slice (some ⟨g8, 0, none⟩) n n] 91)).heap.size := by have := HK.out.size; have := kq8.size; omega
          have hxl := Hpl.out k
          have hvl6 : vs.length ≤ 1000000 := by omega
          have HK2 := Lib.hid (HK.out.trans kq8)
          have Hvl := Lib.hid hvl
          have Hps := Lib.hid (Hpx.out k)
          clear hO hve hV8 k8 kB kq8 hvl HBt hxl
          go_wp2_with (at_builtin; (refine wpList_append_bls rfl (.tmp 41) (.tmp 49) rfl HOw.out rfl (.slice (some ⟨g8, 0, none⟩) n n) rfl _ 0 1 rfl HX.out hvl6 hB8 ?_); intro v9 w9 g1 g2 g3)
          go_roundw
          case rel =>
            refine ⟨k + 1, by omega, by go_num, ?_, HK2.out.grown g2 (fun x hx => .inr (HOw.out.block hx).1)⟩
            rw [Hps.out]
            exact BRows.snoc HOw.out Hvl.out Hve2.out HU.out g1 g2
          case measure => simp [intOf]; omega
    · obtain rfl : k = P := by omega
      have HR := Lib.hid hR
      have HKr := Lib.hid hK
      have hsz := Hk1.out.size
      clear hR hK
      go_wp2_with fail
      go_ret
      obtain ⟨vs, hO, hl, he⟩ := HR.out
      exact ⟨_, rfl, ⟨vs, hO.mono hsz, hl, he⟩, Hk1.out.trans HKr.out⟩

end Go.Proofs.YtijhaeapoapgfaaGreatDoor

set_option linter.unusedVariables false
set_option linter.unusedSimpArgs false
namespace Go.Proofs.YtijhaeapoapgfaaGreatDoor
open Go.RowKit
attribute [local go_sem ↓] Go.wp_at_zero Go.wp_at_succ

theorem RdL.one {w : World} {g : Nat} {a : Value} {x : List UInt8} (hb : Blk w g 22 [a]) (ha : RdS w a x) : RdL w (.slice (some ⟨g, 0, none⟩) 1 1) [x] :=
  RdL.blk (L := [x]) hb rfl (by simp) (fun i u hu => by
    match i, hu with
    | 0, hu => exact ⟨a, rfl, by obtain rfl := Option.some.inj hu; exact ha⟩)

/-- Rows of parity, to be read, whatever is done to slices of slices of bytes. -/
def RQ (w : World) (ar : Option Addr) (n P : Nat) (X : Nat → Nat) : Prop := ∀ j, j < P → ∃ g gb cs, ar = some ⟨g, 0, none⟩ ∧ Blk w g 91 cs ∧ cs[j]? = some (Value.slice (some ⟨gb, 0, none⟩) n n) ∧ BlAt w gb (bl n (X j))
theorem RQ.keeps {S : List Nat} {w w' : World} {ar : Option Addr} {n P : Nat} {X : Nat → Nat} (h : RQ w ar n P X) (k : Keeps S w w') (hS : ∀ x ∈ S, ∃ cs, Blk w x 22 cs) : RQ w' ar n P X := fun j hj => by
  obtain ⟨g, gb, cs, e, hb, hc, hB⟩ := h j hj
  refine ⟨g, gb, cs, e, hb.keeps k (fun hm => ?_), hc, hB.keeps k (fun hm => ?_)⟩
  · obtain ⟨cs', hb'⟩ := hS g hm
    exact hb.ne hb' (by decide) rfl
  · obtain ⟨cs', hb'⟩ := hS gb hm
    exact hB.b.ne hb' (by decide) rfl
theorem psum_par (s : UInt32) {nK P j z : Nat} (hj : j < P) {L : List (List UInt8)} (hL : L.length = nK) : psum (parX s nK (nK + P) j nK).testBit z L L.length = psum (parB s j) z L nK := by
  rw [hL]
  exact psum_congr nK (fun i hi => parX_bit s nK (nK + P) j nK i hi (Nat.le_refl _))

set_option maxRecDepth 100000 in
set_option maxHeartbeats 3200000 in
theorem rpieces_calls {w : World} (s : UInt32) {nK P z : Nat} (hp : PmI nK P z) {v : Value} {L : List (List UInt8)} (hv : RdL w v L) (hL : L.length = nK) (he : ∀ x ∈ L, x.length = z) :
    Calls Tryz.prog 55 #[.agg #[B32 s, .int .i64 nK, .int .i64 P, .int .i64 z], v] w (PcsPost w (ball s z L P)) := by
  have HP := Lib.hid hp
  obtain ⟨h1, h2, h3, h4, h5⟩ := hp
  have hM := rmayp_calls (w := w.alloc (.cells #[B32 s, .int .i64 nK, .int .i64 P, .int .i64 z] 38)) s nK P z
  rw [show PmOk (nK : Int) (P : Int) (z : Int) = true from by simp [PmOk]; omega] at hM
  have hB : Blk (w.alloc (.cells #[B32 s, .int .i64 nK, .int .i64 P, .int .i64 z] 38)) w.heap.size 38 [B32 s, .int .i64 nK, .int .i64 P, .int .i64 z] := Blk.newA w _ _
  have hk0 : Keeps [] w (w.alloc (.cells #[B32 s, .int .i64 nK, .int .i64 P, .int .i64 z] 38)) := (Keeps.refl _ _).alloc _
  obtain ⟨a, c, rfl, r1, r2, r3, r4⟩ := hv
  rw [hL] at r1 ⊢
  have hnn : ((nK : Int) != (nK : Int)) = false := by simp
  have HR := Lib.hid (show RdL w (.slice a nK c) L from ⟨a, c, by rw [hL], by omega, r2, r3, r4⟩)
  have HE := Lib.hid he
  have HL := Lib.hid hL
  have Hk0 := Lib.hid hk0
  have HB := Lib.hid hB
  clear r3 r4 he hL hk0 hB
  go_enter Tryz.func55, Tryz.ntmps55
  go_wp2_with fail
  refine hM.mono ?_
  rintro e w1 ⟨rfl, k1⟩
  have hB1 := HB.out.keeps k1 (by simp)
  have c0 := hB1.cell' (i := 0) rfl
  have c1 := hB1.cell' (i := 1) rfl
  have c2 := hB1.cell' (i := 2) rfl
  have c3 := hB1.cell' (i := 3) rfl
  have HB1 := Lib.hid hB1
  have Hk1 := Lib.hid (Hk0.out.trans k1)
  clear hB1 Hk0 k1 hM HB
  go_wp2_with fail
  go_loopw [5, 22] (fun v i wr => ∃ k : Nat, k ≤ nK ∧ i = .int .i64 k ∧ Pcs wr w1.heap.size v (L.take k) ∧ Keeps [] w1 wr) (fun _ i _ => nK - (intOf i).toNat)
  case atStart => exact ⟨0, Nat.zero_le _, rfl, Pcs.nil _ _, Keeps.refl _ _⟩
  case round =>
    clear c0 c1 c2 c3
    obtain ⟨k, hk, rfl, hP, hK⟩ := hrel
    by_cases hlt : k < nK
    · have hki : (k : Int) < (nK : Int) := by omega
      have hkL : k < L.length := by rw [HL.out]; exact hlt
      obtain ⟨a0, ca0, e0, _, _, r30, _⟩ := HR.out
      simp only [Value.slice.injEq] at e0
      obtain ⟨rfl, hx0, rfl⟩ := e0
      clear hx0
      obtain ⟨g0, u, rfl, cu, hu⟩ := r30 k L[k] (List.getElem?_eq_getElem hkL)
      have hlen := HE.out L[k] (List.getElem_mem hkL)
      have hsn : L.take (k + 1) = L.take k ++ [L[k]] := by rw [List.take_add_one, List.getElem?_eq_getElem hkL]; rfl
      have hvlen : (L.take k).length = k := by rw [List.length_take]; omega
      generalize L[k] = y at *
      have cur := (Hk1.out.trans hK).cell0 cu
      have hur := hu.keepsNil (Hk1.out.trans hK)
      obtain ⟨ay, cy, rfl, _⟩ := id hur
      rw [hlen] at cur hur
      have c3 := (HB1.out.keeps hK (by simp)).cell' (i := 3) rfl
      have kB : Keeps [] wr (wr.alloc (.cells #[.slice ay z cy] 22)) := (Keeps.refl [] wr).alloc _
      have hRL : RdL (wr.alloc (.cells #[.slice ay z cy] 22)) (.slice (some ⟨wr.heap.size, 0, none⟩) 1 1) [y] := RdL.one (Blk.newA wr 22 #[.slice ay z cy]) (hur.keepsNil kB)
      have HJ := Lib.hid (rjoin_calls hRL (by simp) (by simp; omega))
      have hzn : ((z : Int) != (z : Int)) = false := by simp
      have Hkb := Lib.hid kB
      have HPk := Lib.hid hP
      have HKk := Lib.hid hK
      have Hsn := Lib.hid hsn
      have Hlen := Lib.hid hlen
      clear cu hu hur hP hK hsn kB hRL r30 hlen
      go_wp2_with fail
      refine HJ.out.mono ?_
      rintro e w2 ⟨v2, rfl, hO2, k2⟩
      simp only [List.flatten_cons, List.flatten_nil, List.append_nil] at hO2
      have hr2 := hO2.rds
      obtain ⟨a2, c2, rfl, _⟩ := id hr2
      rw [Hlen.out] at hr2 ⊢
      have kC : Keeps [] w2 (w2.alloc (.cells #[.slice a2 z c2] 22)) := (Keeps.refl [] w2).alloc _
      obtain ⟨vs, hO, hvl, hve⟩ := HPk.out
      have kk := (Hkb.out.trans k2).trans kC
      have HU := Lib.hid (hr2.keepsNil kC)
      have HOw := Lib.hid (hO.keeps kk (by simp))
      have Hve2 := Lib.hid (fun (i : Nat) (x : List UInt8) (hx : (L.take k)[i]? = some x) => by obtain ⟨u, hu, hr⟩ := hve i x hx; exact (⟨u, hu, hr.keepsNil kk⟩ : ∃ u, vs[i]? = some u ∧ RdS (w2.alloc (.cells #[.slice a2 z c2] 22)) u x))
      have HX := Lib.hid (show (w2.alloc (.cells #[.slice a2 z c2] 22)).cell? ⟨w2.heap.size, 0, none⟩ = some (.slice a2 z c2) from (Blk.newA w2 22 #[.slice a2 z c2]).cell' rfl)
      have hB2 : w1.heap.size ≤ (w2.alloc (.cells #[.slice a2 z c2] 22)).heap.size := by have := HKk.out.size; have := kk.size; omega
      have hvl6 : vs.length ≤ 1000000 := by omega
      have HK2 := Lib.hid (HKk.out.trans kk)
      have Hvl := Lib.hid hvl
      clear hO hve hO2 hr2 k2 kC kk hvl HJ
      go_wp2_with (at_builtin; (refine wpList_append_bs rfl (.tmp 31) (.tmp 35) rfl HOw.out rfl (.slice a2 z c2) rfl _ 0 1 rfl HX.out hvl6 hB2 ?_); intro v3 w3 g1 g2 g3)
      go_roundw
      case rel =>
        refine ⟨k + 1, by omega, by go_num, ?_, HK2.out.grown g2 (fun x hx => .inr (HOw.out.block hx).1)⟩
        rw [Hsn.out]
        exact Pcs.snoc HOw.out Hvl.out Hve2.out HU.out g1 g2
      case measure => simp [intOf]; omega
    · obtain rfl : k = nK := by omega
      rw [List.take_of_length_le (by rw [HL.out]; exact Nat.le_refl _)] at hP
      have hBr := HB1.out.keeps hK (by simp)
      have c0 := hBr.cell' (i := 0) rfl
      have c1 := hBr.cell' (i := 1) rfl
      have c2 := hBr.cell' (i := 2) rfl
      have c3 := hBr.cell' (i := 3) rfl
      have HPr := Lib.hid (rparity_calls (w := wr) s HP.out)
      unfold BRowsPost at HPr
      have hbp := fun j => bpars_succ s z L j
      have hb0 : bpars s z L 0 = [] := rfl
      have hbl : ∀ j, (bpars s z L j).length = j := fun j => by simp [bpars]
      have hba : ball s z L P = L ++ bpars s z L P := rfl
      have hpp : ∀ j, j < P → psum (parX s k (k + P) j k).testBit z L L.length = psum (parB s j) z L L.length := fun j hj => by rw [psum_par s hj HL.out, HL.out]
      have hxa : ∀ j, j < P → (parXs s k (k + P) P)[j]? = some (parX s k (k + P) j k) := fun j hj => by simp [parXs, hj]
      have hxl := parXs_len s k (k + P) P
      generalize bpars s z L = bp at *
      generalize hX0 : parX s k (k + P) = X0 at *
      generalize parXs s k (k + P) P = Xs at *
      have hkP : k ≤ k + P := by omega
      have hkP8 : k + P ≤ 80 := by omega
      generalize k + P = n at *
      have Hbp := Lib.hid hbp
      have Hba := Lib.hid hba
      have Hb0 := Lib.hid hb0
      have Hbl := Lib.hid hbl
      have Hpp := Lib.hid hpp
      have Hxa := Lib.hid hxa
      have HPk := Lib.hid hP
      have HKk := Lib.hid hK
      have HBr := Lib.hid hBr
      clear hbp hb0 hbl hpp hxa hP hK hba hX0 hBr
      go_wp2_with fail
      refine HPr.out.mono ?_
      rintro e w4 ⟨v4, rfl, hRo, k4⟩
      obtain ⟨vr, hOr, hvr, hver⟩ := hRo
      obtain ⟨ar, cr, rfl, q1, q2, q3, q4⟩ := hOr.read
      rw [hvr, hxl]
      have HQ3 := Lib.hid (show RQ w4 ar n P (fun j => X0 j k) from fun j hj => by
        obtain ⟨gb, hgb, hbb⟩ := hver j _ (Hxa.out j hj)
        obtain ⟨g, e, _, hc⟩ := q3 j _ hgb
        obtain ⟨_, _, cs, hb⟩ := hOr.block (x := g) (by rw [e]; rfl)
        exact ⟨g, gb, cs, e, hb, by rw [hb.cell j] at hc; exact hc, hbb⟩)
      have Hk4 := Lib.hid (HKk.out.trans k4)
      have HPk4 := Lib.hid (HPk.out.keepsNil k4)
      clear hOr hver q3 q4 k4 hvr c0 c1 c2 c3 HPr
      go_wp2_with fail
      obtain ⟨wo, hwo⟩ : ∃ wo, wo = wr := ⟨_, rfl⟩
      subst hwo
      go_loopw [5, 41] (fun v i wx => ∃ j : Nat, j ≤ P ∧ i = .int .i64 j ∧ Pcs wx w1.heap.size v (L ++ bp j) ∧ RQ wx ar n P (fun j => X0 j k) ∧ Keeps [] w1 wx) (fun _ i _ => P - (intOf i).toNat)
      case atStart => exact ⟨0, Nat.zero_le _, rfl, by rw [Hb0.out, List.append_nil]; exact HPk4.out, HQ3.out, Hk4.out⟩
      case round =>
        obtain ⟨j, hj, rfl, hPj, hQ, hKj⟩ := hrel
        by_cases hjt : j < P
        · have hji : (j : Int) < (P : Int) := by omega
          obtain ⟨g, gb, csg, rfl, hcb, hcg, hbb⟩ := hQ j hjt
          have cgr := hcb.cell' hcg
          have c3 := (HB1.out.keeps hKj (by simp)).cell' (i := 3) rfl
          have hRx := HR.out.keepsNil (Hk1.out.trans hKj)
          have HQj := Lib.hid hQ
          have HSm := Lib.hid (rsum_calls hbb n (Nat.le_refl _) (by omega) (by omega) hRx (by rw [HL.out]; exact hkP) h4 h5 HE.out)
          rw [Hpp.out j hjt] at HSm
          have hbs := Hbp.out j
          have hb1 := Hbl.out j
          have hpl : (psum (parB s j) z L L.length).length = z := psum_len HE.out _ (Nat.le_refl _)
          generalize psum (parB s j) z L L.length = y at *
          have HPj := Lib.hid hPj
          have HKj := Lib.hid hKj
          have Hbs := Lib.hid hbs
          have Hpl := Lib.hid hpl
          clear hPj hKj hcg hcb hQ hbb hRx hbs hpl
          go_wp2_with fail
          refine HSm.out.mono ?_
          rintro e w5 ⟨g5, rfl, hg5, hb5, k5⟩
          have kC : Keeps [] w5 (w5.alloc (.cells #[.slice (some ⟨g5, 0, none⟩) z z] 22)) := (Keeps.refl [] w5).alloc _
          obtain ⟨vs, hO, hvl, hve⟩ := HPj.out
          have kk := k5.trans kC
          have HU := Lib.hid ((RdS.blk hb5 Hpl.out (by omega)).keepsNil kC)
          have HOw := Lib.hid (hO.keeps kk (by simp))
          have Hve2 := Lib.hid (fun (i : Nat) (x : List UInt8) (hx : (L ++ bp j)[i]? = some x) => by obtain ⟨u, hu, hr⟩ := hve i x hx; exact (⟨u, hu, hr.keepsNil kk⟩ : ∃ u, vs[i]? = some u ∧ RdS (w5.alloc (.cells #[.slice (some ⟨g5, 0, none⟩) z z] 22)) u x))
          have HX := Lib.hid (show (w5.alloc (.cells #[.slice (some ⟨g5, 0, none⟩) z z] 22)).cell? ⟨w5.heap.size, 0, none⟩ = some (.slice (some ⟨g5, 0, none⟩) z z) from (Blk.newA w5 22 #[.slice (some ⟨g5, 0, none⟩) z z]).cell' rfl)
          have hB2 : w1.heap.size ≤ (w5.alloc (.cells #[.slice (some ⟨g5, 0, none⟩) z z] 22)).heap.size := by have := HKj.out.size; have := kk.size; omega
          have hvl6 : vs.length ≤ 1000000 := by rw [hvl, List.length_append, hb1, HL.out]; omega
          have HK2 := Lib.hid (HKj.out.trans kk)
          have HQ2 := Lib.hid (HQj.out.keeps kk (by simp))
          have Hvl := Lib.hid hvl
          clear hO hve hb5 k5 kC kk hvl HSm
          go_wp2_with (at_builtin; (refine wpList_append_bs rfl (.tmp 45) (.tmp 51) rfl HOw.out rfl (.slice (some ⟨g5, 0, none⟩) z z) rfl _ 0 1 rfl HX.out hvl6 hB2 ?_); intro v3 w3 g1 g2 g3)
          go_roundw
          case rel =>
            refine ⟨j + 1, by omega, by go_num, ?_, HQ2.out.keeps ((Keeps.refl (Value.ownBlock _).toList _).grown g2 (fun k hk => .inl (by rw [hk]; simp))) (fun x hx => (HOw.out.block (by simpa using hx)).2.2), HK2.out.grown g2 (fun x hx => .inr (HOw.out.block hx).1)⟩
            rw [Hbs.out, ← List.append_assoc]
            exact Pcs.snoc HOw.out Hvl.out Hve2.out HU.out g1 g2
          case measure => simp [intOf]; omega
        · obtain rfl : P = j := by omega
          clear hQ
          have HPj := Lib.hid hPj
          have HKj := Lib.hid hKj
          have hsz := Hk1.out.size
          clear hPj hKj
          go_wp2_with fail
          go_ret
          exact ⟨_, rfl, by rw [Hba.out]; exact HPj.out.mono hsz, Hk1.out.trans HKj.out⟩

end Go.Proofs.YtijhaeapoapgfaaGreatDoor
