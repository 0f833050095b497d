/-
  Pre1: rows of parity (precode.Rows), walked.
-/
import Derived.Test.YtijhaeapoapgfaaGreatDoorGrBk
import Derived.Test.YtijhaeapoapgfaaGreatDoorSpr
set_option linter.unusedVariables false
set_option linter.unusedSimpArgs false
namespace Go.Proofs.YtijhaeapoapgfaaGreatDoor
open Go.RowKit
attribute [local go_sem ↓] Go.wp_at_zero Go.wp_at_succ

theorem stepN_out (n : Nat) : ∀ s : UInt32, stepN (n + 1) s = rstep (stepN n s) := by
  induction n with
  | zero => intro s; rfl
  | succ n ih => intro s; show stepN (n + 1) (rstep s) = _; rw [ih]; rfl

/-- A slice of rows that the call has made. -/
def VRows (w : World) (B : Nat) (v : Value) (n : Nat) (Xs : List Nat) : Prop :=
  ∃ vs, OwnX 139 w B v vs ∧ vs.length = Xs.length ∧ ∀ (j X : Nat), Xs[j]? = some X → ∃ p g, vs[j]? = some (.pointer (some ⟨p, 0, none⟩)) ∧ B ≤ p ∧ B ≤ g ∧ VecAt w p g n X
/-- .. to be read. -/
def VRd (w : World) (B : Nat) (v : Value) (n : Nat) (Xs : List Nat) : Prop :=
  ∃ a c, v = .slice a Xs.length c ∧ ∀ (j X : Nat), Xs[j]? = some X → ∃ g0 p g, a = some ⟨g0, 0, none⟩ ∧ B ≤ g0 ∧ w.cell? ⟨g0, j, none⟩ = some (.pointer (some ⟨p, 0, none⟩)) ∧ VecAt w p g n X
theorem VRows.nil (w : World) (B n : Nat) : VRows w B (.slice none 0 0) n [] := ⟨[], OwnX.nil _ _ _, rfl, by simp⟩
theorem VRows.rd {w : World} {B n : Nat} {v : Value} {Xs : List Nat} (h : VRows w B v n Xs) : VRd w B v n Xs := by
  obtain ⟨vs, hO, hl, he⟩ := h
  obtain ⟨a, c, rfl, _, _, h3, _⟩ := hO.read
  rw [hl]
  refine ⟨a, c, rfl, fun j X hX => ?_⟩
  obtain ⟨p, g, hp, _, _, hV⟩ := he j X hX
  obtain ⟨g0, ha, hb, hc⟩ := h3 j _ hp
  exact ⟨g0, p, g, ha, hb, hc, hV⟩
theorem VRd.keepsNil {w w' : World} {B : Nat} {v : Value} {n : Nat} {Xs : List Nat} (h : VRd w B v n Xs) (k : Keeps [] w w') : VRd w' B v n Xs := by
  obtain ⟨a, c, rfl, he⟩ := h
  refine ⟨a, c, rfl, fun j X hX => ?_⟩
  obtain ⟨g0, p, g, ha, hb, hc, hV⟩ := he j X hX
  exact ⟨g0, p, g, ha, hb, k.cell0 hc, hV.keeps k (by simp) (by simp)⟩
theorem VecAt.grown {w w' : World} {row : Option Nat} {p g n X : Nat} (h : VecAt w p g n X) (hg : w.grownBy w' row) (hr : ∀ k, row = some k → ∃ cs, Blk w k 139 cs) : VecAt w' p g n X := by
  have k : Keeps row.toList w w' := (Keeps.refl row.toList w).grown hg (fun k hk => .inl (by rw [hk]; simp))
  refine h.keeps k (fun hm => ?_) (fun hm => ?_)
  · obtain ⟨cs', hb'⟩ := hr p (by simpa using hm)
    exact h.b.ne hb' (by decide) rfl
  · obtain ⟨cs', hb'⟩ := hr g (by simpa using hm)
    exact h.r.ne hb' (by decide) rfl
theorem VRows.snoc {w w' : World} {B n : Nat} {v v' : Value} {vs : List Value} {Xs : List Nat} {p g X : Nat} (hO : OwnX 139 w B v vs) (hl : vs.length = Xs.length)
    (he : ∀ (j X : Nat), Xs[j]? = some X → ∃ p g, vs[j]? = some (.pointer (some ⟨p, 0, none⟩)) ∧ B ≤ p ∧ B ≤ g ∧ VecAt w p g n X) (hu : VecAt w p g n X) (hBp : B ≤ p) (hBg : B ≤ g)
    (h' : OwnX 139 w' B v' (vs ++ [.pointer (some ⟨p, 0, none⟩)])) (hg : w.grownBy w' v.ownBlock) : VRows w' B v' n (Xs ++ [X]) := by
  have hr : ∀ k, v.ownBlock = some k → ∃ cs, Blk w k 139 cs := fun k hk => (hO.block hk).2.2
  refine ⟨_, h', by simp [hl], fun i y hy => ?_⟩
  by_cases hi : i < Xs.length
  · rw [List.getElem?_append_left hi] at hy
    obtain ⟨p', g', hz, hb1, hb2, hzr⟩ := he i y hy
    exact ⟨p', g', by rw [List.getElem?_append_left (by omega)]; exact hz, hb1, hb2, hzr.grown hg hr⟩
  · rw [List.getElem?_append_right (by omega)] at hy
    have h0 : i - Xs.length = 0 := by
      rcases Nat.eq_zero_or_pos (i - Xs.length) with h0 | h0
      · exact h0
      · rw [List.getElem?_eq_none (by simp; omega)] at hy; cases hy
    rw [h0] at hy
    simp only [List.getElem?_cons_zero, Option.some.injEq] at hy
    subst hy
    exact ⟨p, g, by rw [List.getElem?_append_right (by omega), show i - vs.length = 0 from by omega]; rfl, hBp, hBg, hu.grown hg hr⟩

theorem one_bit (x : UInt32) : bits .and .u32 (x.toNat : Int) 1 = ((x.toNat % 2 : Nat) : Int) := by
  rw [show (1 : Int) = ((1 : Nat) : Int) from rfl, u32_and_nat _ _ x.toNat_lt (by omega), Nat.and_one_is_mod]

def parXs (s : UInt32) (nK n k : Nat) : List Nat := (List.range k).map fun j => parX s nK n j nK
theorem parXs_succ (s : UInt32) (nK n k : Nat) : parXs s nK n (k + 1) = parXs s nK n k ++ [parX s nK n k nK] := by simp [parXs, List.range_succ]
theorem parXs_len (s : UInt32) (nK n k : Nat) : (parXs s nK n k).length = k := by simp [parXs]

def VRowsPost (w : World) (n : Nat) (Xs : List Nat) (e : Ending) (w' : World) : Prop := ∃ v, e = .returned v ∧ VRows w' w.heap.size v n Xs ∧ Keeps [] w w'

set_option maxRecDepth 100000 in
set_option maxHeartbeats 2000000 in
theorem prows_calls {w : World} (s : UInt32) (nK P z : Nat) (h1 : 1 ≤ nK) (h2 : nK ≤ 64) (h3 : P ≤ 16) (h4 : 1 ≤ z) (h5 : z ≤ 16) :
    Calls Tryz.prog 82 #[.agg #[B32 s, .int .i64 nK, .int .i64 P, .int .i64 z]] w (VRowsPost w (nK + P) (parXs s nK (nK + P) P)) := by
  have hP := pieces_calls (w := w.alloc (.cells #[B32 s, .int .i64 nK, .int .i64 P, .int .i64 z] 38)) s nK P z
  have hok : PmOk (nK : Int) (P : Int) (z : Int) = true := by simp [PmOk]; omega
  rw [hok, if_pos rfl, show (nK : Int) + (P : Int) = ((nK + P : Nat) : Int) from by omega] at hP
  clear hok
  have hB : Blk (w.alloc (.cells #[B32 s, .int .i64 nK, .int .i64 P, .int .i64 z] 38)) w.heap.size 38 [B32 s, .int .i64 nK, .int .i64 P, .int .i64 z] := Blk.newA w _ _
  have hk0 : Keeps [] w (w.alloc (.cells #[B32 s, .int .i64 nK, .int .i64 P, .int .i64 z] 38)) := (Keeps.refl _ _).alloc _
  have hn80 : nK + P ≤ 80 := by omega
  have hnK : nK + P ≥ nK := by omega
  have hnP : P ≤ nK + P := by omega
  have hxb : ∀ k, k < P → nK + k < nK + P := fun k hk => by omega
  generalize nK + P = n at *
  go_enter Tryz.func82, Tryz.ntmps82
  go_wp2_with fail
  refine hP.mono ?_
  rintro e w1 ⟨rfl, k1⟩
  have hB1 := hB.keeps k1 (by simp)
  have c0 := hB1.cell' (i := 0) rfl
  have c1 := hB1.cell' (i := 1) rfl
  have c2 := hB1.cell' (i := 2) rfl
  have hne : ((n : Int) == 0) = false := by rw [beq_eq_false_iff_ne]; omega
  have HB1 := Lib.hid hB1
  have Hk1 := Lib.hid (hk0.trans k1)
  clear hB hB1 hk0 k1 hP
  go_wp2_with fail
  clear c0 c1 c2
  generalize w.alloc (.cells #[B32 s, .int .i64 nK, .int .i64 P, .int .i64 z] 38) = w0 at *
  go_loopw [4, 15] (fun v i wr => ∃ k : Nat, k ≤ P ∧ i = .int .i64 k ∧ VRows wr w1.heap.size v n (parXs s nK n k) ∧ Keeps [] w1 wr) (fun _ i _ => P - (intOf i).toNat)
  case atStart => exact ⟨0, Nat.zero_le _, rfl, VRows.nil _ _ _, Keeps.refl _ _⟩
  case round =>
    obtain ⟨k, hk, rfl, hR, hK⟩ := hrel
    by_cases hlt : k < P
    · have hBr := HB1.out.keeps hK (by simp)
      have c0 := hBr.cell' (i := 0) rfl
      have c1 := hBr.cell' (i := 1) rfl
      have HBr := Lib.hid hBr
      obtain ⟨x, hx, hx', hxn⟩ : ∃ x : Nat, (nK : Int) + (k : Int) = (x : Int) ∧ x = nK + k ∧ x < n := ⟨nK + k, by omega, rfl, hxb k hlt⟩
      obtain ⟨t, ht⟩ : ∃ t : UInt32, t = UInt32.ofNat (2147483648 + k) := ⟨_, rfl⟩
      have htn : t.toNat = 2147483648 + k := by rw [ht, UInt32.toNat_ofNat']; omega
      have htl := t.toNat_lt
      have hti : (2147483648 : Int) + (k : Int) = (t.toNat : Int) := by omega
      have htw : IntKind.u32.wrap (t.toNat : Int) = (t.toNat : Int) := by rw [IntKind.wrap_u32]; omega
      have Ht := Lib.hid ht
      have Hx' := Lib.hid hx'
      have hkl : (k : Int) < (P : Int) := by omega
      have HI := Lib.hid (ints_one (w := wr) x)
      have kI : Keeps [] wr (wr.alloc (.cells #[I64 x] 3)) := (Keeps.refl [] wr).alloc _
      have HR := Lib.hid hR
      have HK := Lib.hid hK
      clear hBr ht htn hR hK hx'
      go_wp2_with fail
      refine (vof_calls HI.out n (by omega) (by simp)).mono ?_
      rintro e w2 ⟨p, g, rfl, hp, hg, hV, k2⟩
      have kk := kI.trans k2
      have hBb := HBr.out.keeps kk (by simp)
      have c0 := hBb.cell' (i := 0) rfl
      have c1 := hBb.cell' (i := 1) rfl
      have hp' : wr.heap.size ≤ p := Nat.le_trans kI.size hp
      have hg' : wr.heap.size ≤ g := Nat.le_trans kI.size hg
      have hVp := hV.b.lt
      have hVg := hV.r.lt
      go_wp2_with fail
      refine (randnew_calls s t).mono ?_
      rintro e w3 ⟨ps, rfl, hps, hS, k3⟩
      have kk3 := kk.trans k3
      have hBc := hBb.keeps k3 (by simp)
      have c0 := hBc.cell' (i := 0) rfl
      have c1 := hBc.cell' (i := 1) rfl
      have hV3 := Lib.hid (show VecAt w3 p g n (parX s nK n k 0) from by show VecAt w3 p g n (putL n 0 [nK + k]); rw [← Hx'.out]; exact hV.keeps k3 (by simp) (by simp))
      have HS3 := Lib.hid hS
      have hs2 := k2.size
      have hskk := kk.size
      have HBc := Lib.hid hBc
      clear hBb hBc hV kI kk k2 k3 hS
      go_wp2_with fail
      obtain ⟨wo, hwo⟩ : ∃ wo, wo = wr := ⟨_, rfl⟩
      subst hwo
      have Hkk3 := Lib.hid kk3
      clear kk3
      go_loopw [33] (fun i wx => ∃ q : Nat, q ≤ nK ∧ i = .int .i64 q ∧ VecAt wx p g n (parX s nK n k q) ∧ SrcAt wx ps (stepN q (rseed s t)) ∧ Keeps [] wo wx) (fun i _ => nK - (intOf i).toNat)
      case atStart => exact ⟨0, Nat.zero_le _, rfl, hV3.out, HS3.out, Hkk3.out⟩
      case round =>
        clear hV3 HS3 Hkk3
        obtain ⟨q, hq, rfl, hVq, hSq, hKq⟩ := hrel
        by_cases hql : q < nK
        · have hN := next_calls hSq
          have hst := stepN_out q (rseed s t)
          have hpar : parB s k q = decide ((rnext (stepN q (rseed s t))).toNat % 2 = 1) := by rw [Ht.out]; rfl
          have hpx : parX s nK n k (q + 1) = putB (parX s nK n k q) q (parB s k q) := rfl
          generalize rnext (stepN q (rseed s t)) = y at *
          have ho := one_bit y
          generalize parB s k q = bb at *
          have hb1 : (bits .and .u32 (y.toNat : Int) 1 == 1) = bb := by
            rw [ho, hpar]
            by_cases e : y.toNat % 2 = 1
            · rw [e]; rfl
            · have e0 : y.toNat % 2 = 0 := by omega
              rw [e0]; rfl
          have hb2 : decide (bits .and .u32 (y.toNat : Int) 1 = 1) = bb := by
            rw [ho, hpar]
            by_cases e : y.toNat % 2 = 1
            · rw [e]; rfl
            · have e0 : y.toNat % 2 = 0 := by omega
              rw [e0]; rfl
          have hqi : (q : Int) < (nK : Int) := by omega
          have Hst := Lib.hid hst
          have Hpx := Lib.hid hpx
          have HKq := Lib.hid hKq
          have HVq := Lib.hid hVq
          have hgs : ps ≠ g := by omega
          have hgp : ps ≠ p := by omega
          clear hst hpx hKq hVq hSq ho hpar
          go_wp2_with fail
          refine hN.mono ?_
          rintro e w4 ⟨rfl, hS4, k4⟩
          have HV4 := Lib.hid (HVq.out.keeps k4 (by simpa using hgp.symm) (by simpa using hgs.symm))
          have HS4 := Lib.hid hS4
          have Hk4 := Lib.hid (HKq.out.trans' k4 (fun _ h => .inl h) (fun x hx => .inr (by simp at hx; omega)))
          clear hS4 k4
          go_wp2_with fail
          refine (vset_calls HV4.out q bb (by omega)).mono ?_
          rintro e w5 ⟨rfl, hV5, k5⟩
          have HV5 := Lib.hid hV5
          have HS5 := Lib.hid (HS4.out.keeps k5 (by simpa using hgs))
          have Hk5 := Lib.hid (Hk4.out.trans' k5 (fun _ h => .inl h) (fun x hx => .inr (by simp at hx; omega)))
          clear hV5 k5
          go_wp2_with fail
          go_roundw
          case rel => exact ⟨q + 1, by omega, by go_num, by rw [Hpx.out]; exact HV5.out, by rw [Hst.out]; exact HS5.out, Hk5.out⟩
          case measure => simp [intOf]; omega
        · obtain rfl : q = nK := by omega
          obtain ⟨vs, hO, hvl, hve⟩ := HR.out
          have hpl := parXs_len s q n k
          have kB : Keeps [] wr (wr.alloc (.cells #[.pointer (some ⟨p, 0, none⟩)] 139)) := (Keeps.refl [] wr).alloc _
          have HU := Lib.hid (hVq.keeps kB (by simp) (by simp))
          have HOw := Lib.hid (hO.keeps (hKq.trans kB) (by simp))
          have Hve2 := Lib.hid (fun (j X : Nat) (hX : (parXs s q n k)[j]? = some X) => by obtain ⟨p', g', hu, hb1, hb2, hr⟩ := hve j X hX; exact (⟨p', g', hu, hb1, hb2, hr.keeps (hKq.trans kB) (by simp) (by simp)⟩ : ∃ p' g', vs[j]? = some (.pointer (some ⟨p', 0, none⟩)) ∧ w1.heap.size ≤ p' ∧ w1.heap.size ≤ g' ∧ VecAt (wr.alloc (.cells #[.pointer (some ⟨p, 0, none⟩)] 139)) p' g' n X))
          have HX := Lib.hid (show (wr.alloc (.cells #[.pointer (some ⟨p, 0, none⟩)] 139)).cell? ⟨wr.heap.size, 0, none⟩ = some (.pointer (some ⟨p, 0, none⟩)) from (Blk.newA wr 139 #[.pointer (some ⟨p, 0, none⟩)]).cell' rfl)
          have hB : w1.heap.size ≤ (wr.alloc (.cells #[.pointer (some ⟨p, 0, none⟩)] 139)).heap.size := by have := HK.out.size; have := hKq.size; simp; omega
          have hvl6 : vs.length ≤ 1000000 := by omega
          have HKs := Lib.hid HK.out.size
          have HK2 := Lib.hid ((HK.out.trans hKq).trans kB)
          have Hvl := Lib.hid hvl
          have Hps := Lib.hid (parXs_succ s q n k)
          clear hO hve hVq hSq hKq kB hvl hpl
          go_wp2_with (at_builtin; (refine wpList_append_vecp rfl (.tmp 44) (.tmp 46) rfl HOw.out rfl (.pointer (some ⟨p, 0, none⟩)) rfl _ 0 1 rfl HX.out hvl6 hB ?_); intro v3 w3 g1 g2 g3)
          go_roundw
          case rel =>
            refine ⟨k + 1, by omega, by go_num, ?_, HK2.out.grown g2 (fun x hx => .inr (HOw.out.block hx).1)⟩
            rw [Hps.out]
            exact VRows.snoc HOw.out Hvl.out Hve2.out HU.out (Nat.le_trans HKs.out hp') (Nat.le_trans HKs.out hg') g1 g2
          case measure => simp [intOf]; omega
    · obtain rfl : k = P := by omega
      have HR := Lib.hid hR
      have HK := Lib.hid hK
      have hs1 := Hk1.out.size
      clear hR hK
      go_wp2_with fail
      go_ret
      obtain ⟨vs, r1, r2, r3⟩ := HR.out
      exact ⟨_, rfl, ⟨vs, r1.mono hs1, r2, fun j X hX => by obtain ⟨p, g, a1, a2, a3, a4⟩ := r3 j X hX; exact ⟨p, g, a1, Nat.le_trans hs1 a2, Nat.le_trans hs1 a3, a4⟩⟩, Hk1.out.trans HK.out⟩

end Go.Proofs.YtijhaeapoapgfaaGreatDoor
