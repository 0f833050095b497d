/-
  GrPre1: the texts Pre1, Pre2, Cd1, one behind another.
-/
import Derived.Test.YtijhaeapoapgfaaGreatDoorGrVecL
import Derived.Test.YtijhaeapoapgfaaGreatDoorGrSol2
import Derived.RegionTactic
set_option linter.unusedVariables false
set_option linter.unusedSimpArgs false
namespace Go.Proofs.YtijhaeapoapgfaaGreatDoor
open Go.RowKit
attribute [local go_sem ↓] Go.wp_at_zero Go.wp_at_succ

theorem stepN_out (n : Nat) : ∀ s : UInt32, stepN (n + 1) s = rstep (stepN n s) := by
  induction n with
  | zero => intro s; rfl
  | succ n ih => intro s; show stepN (n + 1) (rstep s) = _; rw [ih]; rfl

/-- A slice of rows that the call has made. -/
def VRows (w : World) (B : Nat) (v : Value) (n : Nat) (Xs : List Nat) : Prop :=
  ∃ vs, OwnX 139 w B v vs ∧ vs.length = Xs.length ∧ ∀ (j X : Nat), Xs[j]? = some X → ∃ p g, vs[j]? = some (.pointer (some ⟨p, 0, none⟩)) ∧ B ≤ p ∧ B ≤ g ∧ VecAt w p g n X
/-- .. to be read. -/
def VRd (w : World) (B : Nat) (v : Value) (n : Nat) (Xs : List Nat) : Prop :=
  ∃ a c, v = .slice a Xs.length c ∧ ∀ (j X : Nat), Xs[j]? = some X → ∃ g0 p g, a = some ⟨g0, 0, none⟩ ∧ B ≤ g0 ∧ w.cell? ⟨g0, j, none⟩ = some (.pointer (some ⟨p, 0, none⟩)) ∧ VecAt w p g n X
theorem VRows.nil (w : World) (B n : Nat) : VRows w B (.slice none 0 0) n [] := ⟨[], OwnX.nil _ _ _, rfl, by simp⟩
theorem VRows.rd {w : World} {B n : Nat} {v : Value} {Xs : List Nat} (h : VRows w B v n Xs) : VRd w B v n Xs := by
  obtain ⟨vs, hO, hl, he⟩ := h
  obtain ⟨a, c, rfl, _, _, h3, _⟩ := hO.read
  rw [hl]
  refine ⟨a, c, rfl, fun j X hX => ?_⟩
  obtain ⟨p, g, hp, _, _, hV⟩ := he j X hX
  obtain ⟨g0, ha, hb, hc⟩ := h3 j _ hp
  exact ⟨g0, p, g, ha, hb, hc, hV⟩
theorem VRd.keepsNil {w w' : World} {B : Nat} {v : Value} {n : Nat} {Xs : List Nat} (h : VRd w B v n Xs) (k : Keeps [] w w') : VRd w' B v n Xs := by
  obtain ⟨a, c, rfl, he⟩ := h
  refine ⟨a, c, rfl, fun j X hX => ?_⟩
  obtain ⟨g0, p, g, ha, hb, hc, hV⟩ := he j X hX
  exact ⟨g0, p, g, ha, hb, k.cell0 hc, hV.keeps k (by simp) (by simp)⟩
theorem VecAt.grown {w w' : World} {row : Option Nat} {p g n X : Nat} (h : VecAt w p g n X) (hg : w.grownBy w' row) (hr : ∀ k, row = some k → ∃ cs, Blk w k 139 cs) : VecAt w' p g n X := by
  have k : Keeps row.toList w w' := (Keeps.refl row.toList w).grown hg (fun k hk => .inl (by rw [hk]; simp))
  refine h.keeps k (fun hm => ?_) (fun hm => ?_)
  · obtain ⟨cs', hb'⟩ := hr p (by simpa using hm)
    exact h.b.ne hb' (by decide) rfl
  · obtain ⟨cs', hb'⟩ := hr g (by simpa using hm)
    exact h.r.ne hb' (by decide) rfl
theorem VRows.snoc {w w' : World} {B n : Nat} {v v' : Value} {vs : List Value} {Xs : List Nat} {p g X : Nat} (hO : OwnX 139 w B v vs) (hl : vs.length = Xs.length)
    (he : ∀ (j X : Nat), Xs[j]? = some X → ∃ p g, vs[j]? = some (.pointer (some ⟨p, 0, none⟩)) ∧ B ≤ p ∧ B ≤ g ∧ VecAt w p g n X) (hu : VecAt w p g n X) (hBp : B ≤ p) (hBg : B ≤ g)
    (h' : OwnX 139 w' B v' (vs ++ [.pointer (some ⟨p, 0, none⟩)])) (hg : w.grownBy w' v.ownBlock) : VRows w' B v' n (Xs ++ [X]) := by
  have hr : ∀ k, v.ownBlock = some k → ∃ cs, Blk w k 139 cs := fun k hk => (hO.block hk).2.2
  refine ⟨_, h', by simp [hl], fun i y hy => ?_⟩
  by_cases hi : i < Xs.length
  · rw [List.getElem?_append_left hi] at hy
    obtain ⟨p', g', hz, hb1, hb2, hzr⟩ := he i y hy
    exact ⟨p', g', by rw [List.getElem?_append_left (by omega)]; exact hz, hb1, hb2, hzr.grown hg hr⟩
  · rw [List.getElem?_append_right (by omega)] at hy
    have h0 : i - Xs.length = 0 := by
      rcases Nat.eq_zero_or_pos (i - Xs.length) with h0 | h0
      · exact h0
      · rw [List.getElem?_eq_none (by simp; omega)] at hy; cases hy
    rw [h0] at hy
    simp only [List.getElem?_cons_zero, Option.some.injEq] at hy
    subst hy
    exact ⟨p, g, by rw [List.getElem?_append_right (by omega), show i - vs.length = 0 from by omega]; rfl, hBp, hBg, hu.grown hg hr⟩

theorem one_bit (x : UInt32) : bits .and .u32 (x.toNat : Int) 1 = ((x.toNat % 2 : Nat) : Int) := by
  rw [show (1 : Int) = ((1 : Nat) : Int) from rfl, u32_and_nat _ _ x.toNat_lt (by omega), Nat.and_one_is_mod]

def parXs (s : UInt32) (nK n k : Nat) : List Nat := (List.range k).map fun j => parX s nK n j nK
theorem parXs_succ (s : UInt32) (nK n k : Nat) : parXs s nK n (k + 1) = parXs s nK n k ++ [parX s nK n k nK] := by simp [parXs, List.range_succ]
theorem parXs_len (s : UInt32) (nK n k : Nat) : (parXs s nK n k).length = k := by simp [parXs]

def VRowsPost (w : World) (n : Nat) (Xs : List Nat) (e : Ending) (w' : World) : Prop := ∃ v, e = .returned v ∧ VRows w' w.heap.size v n Xs ∧ Keeps [] w w'

set_option maxRecDepth 100000 in
set_option maxHeartbeats 2000000 in
theorem prows_calls {w : World} (s : UInt32) (nK P z : Nat) (h1 : 1 ≤ nK) (h2 : nK ≤ 64) (h3 : P ≤ 16) (h4 : 1 ≤ z) (h5 : z ≤ 16) :
    Calls Tryz.prog 82 #[.agg #[B32 s, .int .i64 nK, .int .i64 P, .int .i64 z]] w (VRowsPost w (nK + P) (parXs s nK (nK + P) P)) := by
  have hP := pieces_calls (w := w.alloc (.cells #[B32 s, .int .i64 nK, .int .i64 P, .int .i64 z] 38)) s nK P z
  have hok : PmOk (nK : Int) (P : Int) (z : Int) = true := by simp [PmOk]; omega
  rw [hok, if_pos rfl, show (nK : Int) + (P : Int) = ((nK + P : Nat) : Int) from by omega] at hP
  clear hok
  have hB : Blk (w.alloc (.cells #[B32 s, .int .i64 nK, .int .i64 P, .int .i64 z] 38)) w.heap.size 38 [B32 s, .int .i64 nK, .int .i64 P, .int .i64 z] := Blk.newA w _ _
  have hk0 : Keeps [] w (w.alloc (.cells #[B32 s, .int .i64 nK, .int .i64 P, .int .i64 z] 38)) := (Keeps.refl _ _).alloc _
  have hn80 : nK + P ≤ 80 := by omega
  have hnK : nK + P ≥ nK := by omega
  have hnP : P ≤ nK + P := by omega
  have hxb : ∀ k, k < P → nK + k < nK + P := fun k hk => by omega
  generalize nK + P = n at *
  go_enter Tryz.func82, Tryz.ntmps82
  go_wp2_with fail
  refine hP.mono ?_
  rintro e w1 ⟨rfl, k1⟩
  have hB1 := hB.keeps k1 (by simp)
  have c0 := hB1.cell' (i := 0) rfl
  have c1 := hB1.cell' (i := 1) rfl
  have c2 := hB1.cell' (i := 2) rfl
  have hne : ((n : Int) == 0) = false := by rw [beq_eq_false_iff_ne]; omega
  have HB1 := Lib.hid hB1
  have Hk1 := Lib.hid (hk0.trans k1)
  clear hB hB1 hk0 k1 hP
  go_wp2_with fail
  clear c0 c1 c2
  generalize w.alloc (.cells #[B32 s, .int .i64 nK, .int .i64 P, .int .i64 z] 38) = w0 at *
  go_loopw [4, 15] (fun v i wr => ∃ k : Nat, k ≤ P ∧ i = .int .i64 k ∧ VRows wr w1.heap.size v n (parXs s nK n k) ∧ Keeps [] w1 wr) (fun _ i _ => P - (intOf i).toNat)
  case atStart => exact ⟨0, Nat.zero_le _, rfl, VRows.nil _ _ _, Keeps.refl _ _⟩
  case round =>
    obtain ⟨k, hk, rfl, hR, hK⟩ := hrel
    by_cases hlt : k < P
    · have hBr := HB1.out.keeps hK (by simp)
      have c0 := hBr.cell' (i := 0) rfl
      have c1 := hBr.cell' (i := 1) rfl
      have HBr := Lib.hid hBr
      obtain ⟨x, hx, hx', hxn⟩ : ∃ x : Nat, (nK : Int) + (k : Int) = (x : Int) ∧ x = nK + k ∧ x < n := ⟨nK + k, by omega, rfl, hxb k hlt⟩
      obtain ⟨t, ht⟩ : ∃ t : UInt32, t = UInt32.ofNat (2147483648 + k) := ⟨_, rfl⟩
      have htn : t.toNat = 2147483648 + k := by rw [ht, UInt32.toNat_ofNat']; omega
      have htl := t.toNat_lt
      have hti : (2147483648 : Int) + (k : Int) = (t.toNat : Int) := by omega
      have htw : IntKind.u32.wrap (t.toNat : Int) = (t.toNat : Int) := by rw [IntKind.wrap_u32]; omega
      have Ht := Lib.hid ht
      have Hx' := Lib.hid hx'
      have hkl : (k : Int) < (P : Int) := by omega
      have HI := Lib.hid (ints_one (w := wr) x)
      have kI : Keeps [] wr (wr.alloc (.cells #[I64 x] 3)) := (Keeps.refl [] wr).alloc _
      have HR := Lib.hid hR
      have HK := Lib.hid hK
      clear hBr ht htn hR hK hx'
      go_wp2_with fail
      refine (vof_calls HI.out n (by omega) (by simp)).mono ?_
      rintro e w2 ⟨p, g, rfl, hp, hg, hV, k2⟩
      have kk := kI.trans k2
      have hBb := HBr.out.keeps kk (by simp)
      have c0 := hBb.cell' (i := 0) rfl
      have c1 := hBb.cell' (i := 1) rfl
      have hp' : wr.heap.size ≤ p := Nat.le_trans kI.size hp
      have hg' : wr.heap.size ≤ g := Nat.le_trans kI.size hg
      have hVp := hV.b.lt
      have hVg := hV.r.lt
      go_wp2_with fail
      refine (randnew_calls s t).mono ?_
      rintro e w3 ⟨ps, rfl, hps, hS, k3⟩
      have kk3 := kk.trans k3
      have hBc := hBb.keeps k3 (by simp)
      have c0 := hBc.cell' (i := 0) rfl
      have c1 := hBc.cell' (i := 1) rfl
      have hV3 := Lib.hid (show VecAt w3 p g n (parX s nK n k 0) from by show VecAt w3 p g n (putL n 0 [nK + k]); rw [← Hx'.out]; exact hV.keeps k3 (by simp) (by simp))
      have HS3 := Lib.hid hS
      have hs2 := k2.size
      have hskk := kk.size
      have HBc := Lib.hid hBc
      clear hBb hBc hV kI kk k2 k3 hS
      go_wp2_with fail
      obtain ⟨wo, hwo⟩ : ∃ wo, wo = wr := ⟨_, rfl⟩
      subst hwo
      have Hkk3 := Lib.hid kk3
      clear kk3
      go_loopw [33] (fun i wx => ∃ q : Nat, q ≤ nK ∧ i = .int .i64 q ∧ VecAt wx p g n (parX s nK n k q) ∧ SrcAt wx ps (stepN q (rseed s t)) ∧ Keeps [] wo wx) (fun i _ => nK - (intOf i).toNat)
      case atStart => exact ⟨0, Nat.zero_le _, rfl, hV3.out, HS3.out, Hkk3.out⟩
      case round =>
        clear hV3 HS3 Hkk3
        obtain ⟨q, hq, rfl, hVq, hSq, hKq⟩ := hrel
        by_cases hql : q < nK
        · have hN := next_calls hSq
          have hst := stepN_out q (rseed s t)
          have hpar : parB s k q = decide ((rnext (stepN q (rseed s t))).toNat % 2 = 1) := by rw [Ht.out]; rfl
          have hpx : parX s nK n k (q + 1) = putB (parX s nK n k q) q (parB s k q) := rfl
          generalize rnext (stepN q (rseed s t)) = y at *
          have ho := one_bit y
          generalize parB s k q = bb at *
          have hb1 : (bits .and .u32 (y.toNat : Int) 1 == 1) = bb := by
            rw [ho, hpar]
            by_cases e : y.toNat % 2 = 1
            · rw [e]; rfl
            · have e0 : y.toNat % 2 = 0 := by omega
              rw [e0]; rfl
          have hb2 : decide (bits .and .u32 (y.toNat : Int) 1 = 1) = bb := by
            rw [ho, hpar]
            by_cases e : y.toNat % 2 = 1
            · rw [e]; rfl
            · have e0 : y.toNat % 2 = 0 := by omega
              rw [e0]; rfl
          have hqi : (q : Int) < (nK : Int) := by omega
          have Hst := Lib.hid hst
          have Hpx := Lib.hid hpx
          have HKq := Lib.hid hKq
          have HVq := Lib.hid hVq
          have hgs : ps ≠ g := by omega
          have hgp : ps ≠ p := by omega
          clear hst hpx hKq hVq hSq ho hpar
          go_wp2_with fail
          refine hN.mono ?_
          rintro e w4 ⟨rfl, hS4, k4⟩
          have HV4 := Lib.hid (HVq.out.keeps k4 (by simpa using hgp.symm) (by simpa using hgs.symm))
          have HS4 := Lib.hid hS4
          have Hk4 := Lib.hid (HKq.out.trans' k4 (fun _ h => .inl h) (fun x hx => .inr (by simp at hx; omega)))
          clear hS4 k4
          go_wp2_with fail
          refine (vset_calls HV4.out q bb (by omega)).mono ?_
          rintro e w5 ⟨rfl, hV5, k5⟩
          have HV5 := Lib.hid hV5
          have HS5 := Lib.hid (HS4.out.keeps k5 (by simpa using hgs))
          have Hk5 := Lib.hid (Hk4.out.trans' k5 (fun _ h => .inl h) (fun x hx => .inr (by simp at hx; omega)))
          clear hV5 k5
          go_wp2_with fail
          go_roundw
          case rel => exact ⟨q + 1, by omega, by go_num, by rw [Hpx.out]; exact HV5.out, by rw [Hst.out]; exact HS5.out, Hk5.out⟩
          case measure => simp [intOf]; omega
        · obtain rfl : q = nK := by omega
          obtain ⟨vs, hO, hvl, hve⟩ := HR.out
          have hpl := parXs_len s q n k
          have kB : Keeps [] wr (wr.alloc (.cells #[.pointer (some ⟨p, 0, none⟩)] 139)) := (Keeps.refl [] wr).alloc _
          have HU := Lib.hid (hVq.keeps kB (by simp) (by simp))
          have HOw := Lib.hid (hO.keeps (hKq.trans kB) (by simp))
          have Hve2 := Lib.hid (fun (j X : Nat) (hX : (parXs s q n k)[j]? = some X) => by obtain ⟨p', g', hu, hb1, hb2, hr⟩ := hve j X hX; exact (⟨p', g', hu, hb1, hb2, hr.keeps (hKq.trans kB) (by simp) (by simp)⟩ : ∃ p' g', vs[j]? = some (.pointer (some ⟨p', 0, none⟩)) ∧ w1.heap.size ≤ p' ∧ w1.heap.size ≤ g' ∧ VecAt (wr.alloc (.cells #[.pointer (some ⟨p, 0, none⟩)] 139)) p' g' n X))
          have HX := Lib.hid (show (wr.alloc (.cells #[.pointer (some ⟨p, 0, none⟩)] 139)).cell? ⟨wr.heap.size, 0, none⟩ = some (.pointer (some ⟨p, 0, none⟩)) from (Blk.newA wr 139 #[.pointer (some ⟨p, 0, none⟩)]).cell' rfl)
          have hB : w1.heap.size ≤ (wr.alloc (.cells #[.pointer (some ⟨p, 0, none⟩)] 139)).heap.size := by have := HK.out.size; have := hKq.size; simp; omega
          have hvl6 : vs.length ≤ 1000000 := by omega
          have HKs := Lib.hid HK.out.size
          have HK2 := Lib.hid ((HK.out.trans hKq).trans kB)
          have Hvl := Lib.hid hvl
          have Hps := Lib.hid (parXs_succ s q n k)
          clear hO hve hVq hSq hKq kB hvl hpl
          go_wp2_with (at_builtin; (refine wpList_append_vecp rfl (.tmp 44) (.tmp 46) rfl HOw.out rfl (.pointer (some ⟨p, 0, none⟩)) rfl _ 0 1 rfl HX.out hvl6 hB ?_); intro v3 w3 g1 g2 g3)
          go_roundw
          case rel =>
            refine ⟨k + 1, by omega, by go_num, ?_, HK2.out.grown g2 (fun x hx => .inr (HOw.out.block hx).1)⟩
            rw [Hps.out]
            exact VRows.snoc HOw.out Hvl.out Hve2.out HU.out (Nat.le_trans HKs.out hp') (Nat.le_trans HKs.out hg') g1 g2
          case measure => simp [intOf]; omega
    · obtain rfl : k = P := by omega
      have HR := Lib.hid hR
      have HK := Lib.hid hK
      have hs1 := Hk1.out.size
      clear hR hK
      go_wp2_with fail
      go_ret
      obtain ⟨vs, r1, r2, r3⟩ := HR.out
      exact ⟨_, rfl, ⟨vs, r1.mono hs1, r2, fun j X hX => by obtain ⟨p, g, a1, a2, a3, a4⟩ := r3 j X hX; exact ⟨p, g, a1, Nat.le_trans hs1 a2, Nat.le_trans hs1 a3, a4⟩⟩, Hk1.out.trans HK.out⟩

end Go.Proofs.YtijhaeapoapgfaaGreatDoor

set_option linter.unusedVariables false
set_option linter.unusedSimpArgs false
namespace Go.Proofs.YtijhaeapoapgfaaGreatDoor
open Go.RowKit
attribute [local go_sem ↓] Go.wp_at_zero Go.wp_at_succ

theorem pfn_calls {w : World} {bx : Nat} {size c : Nat} {a : Option Addr} (hc : w.cell? ⟨bx, 3, none⟩ = some (.int .i64 size)) :
    Calls Tryz.prog 160 (#[.slice a size c] ++ #[.pointer (some ⟨bx, 0, none⟩)]) w fun e w' => e = .returned (.bool false) ∧ w = w' := by
  go_enter Tryz.func160, Tryz.ntmps160
  go_wp2_with fail
  go_ret
  exact ⟨rfl, rfl⟩

set_option maxRecDepth 100000 in
theorem pindex_calls {w : World} {bx : Nat} {size : Nat} {v : Value} {L : List (List UInt8)} (hv : RdL w v L) (hL : ∀ x ∈ L, x.length = size) (hc : w.cell? ⟨bx, 3, none⟩ = some (.int .i64 size)) :
    Calls Tryz.prog 186 #[v, .func (.func 160) #[] #[.pointer (some ⟨bx, 0, none⟩)]] w fun e w' => e = .returned (.int .i64 (-1)) ∧ w = w' := by
  obtain ⟨a, c, rfl, hc1, hc2, hrd, _⟩ := hv
  have Hrd := Lib.hid hrd
  have HL := Lib.hid hL
  clear hrd hL
  go_enter Tryz.func186, Tryz.ntmps186
  go_wp2_with fail
  go_loopw [8] (fun i wr => ∃ k : Nat, k ≤ L.length ∧ i = .int .i64 k ∧ wr = w) (fun i _ => L.length - (intOf i).toNat)
  case atStart => exact ⟨0, Nat.zero_le _, rfl, rfl⟩
  case round =>
    obtain ⟨k, hk, rfl, rfl⟩ := hrel
    by_cases hlt : k < L.length
    · obtain ⟨g0, u, rfl, hc0, hru⟩ := Hrd.out k L[k] (List.getElem?_eq_getElem hlt)
      have hbl := HL.out L[k] (List.getElem_mem hlt)
      obtain ⟨ab, cb, rfl, _⟩ := hru
      rw [hbl] at hc0
      have hkn : (k : Int) < (L.length : Int) := by omega
      have hF := pfn_calls (w := wr) (a := ab) (c := cb) hc
      go_wp2_with (go_at_call 160; refine hF.mono ?_; rintro e w' ⟨rfl, rfl⟩)
      go_roundw
      case rel => exact ⟨k + 1, by omega, by go_num, trivial⟩
      case measure => simp [intOf]; omega
    · obtain rfl : k = L.length := by omega
      go_wp2_with fail
      go_ret
      exact ⟨rfl, rfl⟩

set_option maxRecDepth 100000 in
theorem pcontains_calls {w : World} {bx : Nat} {size : Nat} {v : Value} {L : List (List UInt8)} (hv : RdL w v L) (hL : ∀ x ∈ L, x.length = size) (hc : w.cell? ⟨bx, 3, none⟩ = some (.int .i64 size)) :
    Calls Tryz.prog 159 #[v, .func (.func 160) #[] #[.pointer (some ⟨bx, 0, none⟩)]] w fun e w' => e = .returned (.bool false) ∧ w = w' := by
  have hI := pindex_calls hv hL hc
  go_enter Tryz.func159, Tryz.ntmps159
  go_wp2_with fail
  refine hI.mono ?_
  rintro e w' ⟨rfl, rfl⟩
  go_wp2_with fail
  go_ret
  exact ⟨rfl, rfl⟩

theorem Pcs.eq {w : World} {B : Nat} {v : Value} {L L' : List (List UInt8)} (h : Pcs w B v L) (e : L = L') : Pcs w B v L' := e ▸ h

/-- A slice whose block meets Q. -/
def Up (Q : Nat → Prop) (u : Value) : Prop := ∀ (a : Addr) (n c : Nat), u = .slice (some a) n c → Q a.block
/-- Bytes to be read in a block that meets Q. -/
def RdA (Q : Nat → Prop) (w : World) (u : Value) (x : List UInt8) : Prop := RdS w u x ∧ Up Q u
theorem RdA.keepsNil {Q : Nat → Prop} {w w' : World} {u : Value} {x : List UInt8} (h : RdA Q w u x) (k : Keeps [] w w') : RdA Q w' u x := ⟨h.1.keepsNil k, h.2⟩
theorem Own.rda {w : World} {B B' : Nat} {v : Value} {l : List UInt8} (h : Own w B v l) (hB : B' ≤ B) : RdA (B' ≤ ·) w v l := by
  refine ⟨h.rds, fun a n c e => ?_⟩
  subst e
  obtain ⟨a', c', e', _, _, hb, _⟩ := h.rd
  simp only [Value.slice.injEq] at e'
  exact Nat.le_trans hB (hb a e'.1.symm).1
/-- Slices of bytes, all of whose blocks meet Q. -/
def PcsA (w : World) (B : Nat) (Q : Nat → Prop) (v : Value) (L : List (List UInt8)) : Prop :=
  ∃ vs, OwnX 22 w B v vs ∧ vs.length = L.length ∧ ∀ (i : Nat) (x : List UInt8), L[i]? = some x → ∃ u, vs[i]? = some u ∧ RdA Q w u x
theorem PcsA.nil (w : World) (B : Nat) (Q : Nat → Prop) : PcsA w B Q (.slice none 0 0) [] := ⟨[], OwnX.nil _ _ _, rfl, by simp⟩
theorem PcsA.pcs {w : World} {B : Nat} {Q : Nat → Prop} {v : Value} {L : List (List UInt8)} (h : PcsA w B Q v L) : Pcs w B v L := by
  obtain ⟨vs, hO, hl, he⟩ := h
  exact ⟨vs, hO, hl, fun i x hx => by obtain ⟨u, hu, hr⟩ := he i x hx; exact ⟨u, hu, hr.1⟩⟩
theorem PcsA.rdl {w : World} {B : Nat} {Q : Nat → Prop} {v : Value} {L : List (List UInt8)} (h : PcsA w B Q v L) : RdL w v L := h.pcs.rdl
theorem PcsA.keepsNil {w w' : World} {B : Nat} {Q : Nat → Prop} {v : Value} {L : List (List UInt8)} (h : PcsA w B Q v L) (k : Keeps [] w w') : PcsA w' B Q v L := by
  obtain ⟨vs, hO, hl, he⟩ := h
  exact ⟨vs, hO.keeps k (by simp), hl, fun i x hx => by obtain ⟨u, hu, hr⟩ := he i x hx; exact ⟨u, hu, hr.keepsNil k⟩⟩
theorem PcsA.mono {w : World} {B B' : Nat} {Q Q' : Nat → Prop} {v : Value} {L : List (List UInt8)} (h : PcsA w B Q v L) (hB : B' ≤ B) (hQ : ∀ x, Q x → Q' x) : PcsA w B' Q' v L := by
  obtain ⟨vs, hO, hl, he⟩ := h
  exact ⟨vs, hO.mono hB, hl, fun i x hx => by obtain ⟨u, hu, hr, hq⟩ := he i x hx; exact ⟨u, hu, hr, fun a n c e => hQ _ (hq a n c e)⟩⟩
theorem PcsA.snoc {w w' : World} {B : Nat} {Q : Nat → Prop} {v v' u : Value} {vs : List Value} {L : List (List UInt8)} {x : List UInt8} (hO : OwnX 22 w B v vs) (hl : vs.length = L.length) (he : ∀ (i : Nat) (x : List UInt8), L[i]? = some x → ∃ u, vs[i]? = some u ∧ RdA Q w u x)
    (hu : RdA Q w u x) (h' : OwnX 22 w' B v' (vs ++ [u])) (hg : w.grownBy w' v.ownBlock) : PcsA w' B Q v' (L ++ [x]) := by
  have hr : ∀ k, v.ownBlock = some k → ∃ cs, Blk w k 22 cs := fun k hk => (hO.block hk).2.2
  refine ⟨vs ++ [u], h', by simp [hl], fun i y hy => ?_⟩
  by_cases hi : i < L.length
  · rw [List.getElem?_append_left hi] at hy
    obtain ⟨z, hz, hzr⟩ := he i y hy
    exact ⟨z, by rw [List.getElem?_append_left (by omega)]; exact hz, hzr.1.grown hg hr, hzr.2⟩
  · rw [List.getElem?_append_right (by omega)] at hy
    have h0 : i - L.length = 0 := by
      rcases Nat.eq_zero_or_pos (i - L.length) with h0 | h0
      · exact h0
      · rw [List.getElem?_eq_none (by simp; omega)] at hy; cases hy
    rw [h0] at hy
    simp only [List.getElem?_cons_zero, Option.some.injEq] at hy
    subst hy
    exact ⟨u, by rw [List.getElem?_append_right (by omega), show i - vs.length = 0 from by omega]; rfl, hu.1.grown hg hr, hu.2⟩
theorem PcsA.eq {w : World} {B : Nat} {Q : Nat → Prop} {v : Value} {L L' : List (List UInt8)} (h : PcsA w B Q v L) (e : L = L') : PcsA w B Q v L' := e ▸ h
def PcsPostA (w : World) (L : List (List UInt8)) (e : Ending) (w' : World) : Prop := ∃ v, e = .returned v ∧ PcsA w' w.heap.size (w.heap.size ≤ ·) v L ∧ Keeps [] w w'

theorem parXs_at (s : UInt32) (nK n P : Nat) {k : Nat} (hk : k < P) : (parXs s nK n P)[k]? = some (parX s nK n k nK) := by simp [parXs, hk]

set_option maxRecDepth 100000 in
set_option maxHeartbeats 4000000 in
theorem ppieces_calls {w : World} {v : Value} {L : List (List UInt8)} (hv : RdL w v L) (s : UInt32) (nK P size : Nat) (h1 : 1 ≤ nK) (h2 : nK ≤ 64) (h3 : P ≤ 16) (h4 : 1 ≤ size) (h5 : size ≤ 16) (hLK : L.length = nK) (hL : ∀ x ∈ L, x.length = size) :
    Calls Tryz.prog 121 #[.agg #[B32 s, .int .i64 nK, .int .i64 P, .int .i64 size], v] w (PcsPostA w (ball s size L P)) := by
  have hok : PmOk (nK : Int) (P : Int) (size : Int) = true := by simp [PmOk]; omega
  have hM := may_calls (w := w.alloc (.cells #[B32 s, .int .i64 nK, .int .i64 P, .int .i64 size] 38)) s nK P size
  rw [hok] at hM
  have hmf : ∀ (fn : Fn) (first cap : Array Value) (w : World), (Instr.makeFunc fn first cap).run Tryz.prog w = .ok (.func fn first cap) w := fun _ _ _ _ => rfl
  have hB : Blk (w.alloc (.cells #[B32 s, .int .i64 nK, .int .i64 P, .int .i64 size] 38)) w.heap.size 38 [B32 s, .int .i64 nK, .int .i64 P, .int .i64 size] := Blk.newA w _ _
  have hk0 : Keeps [] w (w.alloc (.cells #[B32 s, .int .i64 nK, .int .i64 P, .int .i64 size] 38)) := (Keeps.refl _ _).alloc _
  have hmk := fun w => make_u8 size size (Nat.le_refl _) (by omega) w
  have hv0 := hv.keepsNil hk0
  clear hok hv
  have c0 := hB.cell' (i := 0) rfl
  have c1 := hB.cell' (i := 1) rfl
  have c2 := hB.cell' (i := 2) rfl
  have c3 := hB.cell' (i := 3) rfl
  obtain ⟨a, c, rfl, hc1, hc2, hrd, hnn⟩ := id hv0
  have Hv0 := Lib.hid hv0
  have HL := Lib.hid hL
  clear hv0 hrd hL hnn
  go_enter Tryz.func121, Tryz.ntmps121
  go_wp2_with fail
  generalize w.alloc (.cells #[B32 s, .int .i64 nK, .int .i64 P, .int .i64 size] 38) = w0 at *
  have hlk : ((L.length : Int) != (nK : Int)) = false := by rw [hLK]; simp
  have hl1 : 1 ≤ L.length ∧ L.length ≤ 64 := by omega
  have HLK := Lib.hid hLK
  clear hLK
  refine hM.mono ?_
  rintro e w1 ⟨rfl, kd⟩
  have d1 := kd.cell0 c1
  have d3 := kd.cell0 c3
  go_wp2_with fail
  refine (pcontains_calls (Hv0.out.keepsNil kd) HL.out (kd.cell0 c3)).mono ?_
  rintro e w' ⟨rfl, rfl⟩
  have Hv1 := Lib.hid (Hv0.out.keepsNil kd)
  have HB1 := Lib.hid (hB.keeps kd (by simp))
  have Hw1 := Lib.hid (hk0.trans kd)
  clear c0 c1 c2 c3 hB hk0 kd hM Hv0 d1 d3
  go_wp2_with fail
  go_loopw [5, 31] (fun o i wr => ∃ k : Nat, k ≤ L.length ∧ i = .int .i64 k ∧ PcsA wr w1.heap.size (w1.heap.size ≤ ·) o (L.take k) ∧ Keeps [] w1 wr) (fun _ i _ => L.length - (intOf i).toNat)
  case atStart => exact ⟨0, Nat.zero_le _, rfl, PcsA.nil _ _ _, Keeps.refl _ _⟩
  case round =>
    obtain ⟨k, hk, rfl, hP, hK⟩ := hrel
    by_cases hlt : k < L.length
    · obtain ⟨a', c', ea, _, _, hrd, _⟩ := Hv1.out.keepsNil hK
      simp only [Value.slice.injEq] at ea
      obtain ⟨rfl, _, rfl⟩ := ea
      obtain ⟨g0, u, rfl, hc0, hru⟩ := hrd k L[k] (List.getElem?_eq_getElem hlt)
      have hbl := HL.out L[k] (List.getElem_mem hlt)
      have hsn : L.take (k + 1) = L.take k ++ [L[k]] := by rw [List.take_add_one, List.getElem?_eq_getElem hlt]; rfl
      have htl : (L.take k).length = k := by rw [List.length_take]; omega
      generalize L[k] = b at *
      generalize L.take k = Lk at *
      obtain ⟨ab, cb, rfl, b1, b2, b3, b4, _⟩ := hru
      have hC := clone_calls (w := wr) ab b.length cb b b3 rfl (by omega) (fun h => (b4 h).1)
      rw [hbl] at hC hc0
      have HP := Lib.hid hP
      have HK := Lib.hid hK
      have Hsn := Lib.hid hsn
      have HC := Lib.hid hC
      have hkn : (k : Int) < (L.length : Int) := by omega
      clear hrd b3 b4 hP hK hsn hC
      go_wp2_with fail
      refine HC.out.mono ?_
      rintro e w2 ⟨v2, rfl, hO2, k2⟩
      obtain ⟨a2, c2, rfl, r1, r2, r3, r4, r5⟩ := hO2.rds
      have HU := Lib.hid (show RdA (w1.heap.size ≤ ·) w2 (.slice a2 b.length c2) b from hO2.rda HK.out.size)
      rw [hbl] at HU ⊢
      have HKW := Lib.hid k2
      clear r3 r4 r5 hO2 k2
      obtain ⟨vs, hO, hvl, hve⟩ := HP.out
      have kB : Keeps [] w2 (w2.alloc (.cells #[.slice a2 size c2] 22)) := (Keeps.refl [] w2).alloc _
      have HUB := Lib.hid ((show RdA (w1.heap.size ≤ ·) w2 (.slice a2 size c2) (b) from HU.out).keepsNil kB)
      have HOw := Lib.hid (hO.keeps (HKW.out.trans kB) (by simp))
      have Hve2 := Lib.hid (fun (i : Nat) (x : List UInt8) (hx : (Lk)[i]? = some x) => by obtain ⟨u, hu, hr⟩ := hve i x hx; exact (⟨u, hu, hr.keepsNil (HKW.out.trans kB)⟩ : ∃ u, vs[i]? = some u ∧ RdA (w1.heap.size ≤ ·) (w2.alloc (.cells #[.slice a2 size c2] 22)) u x))
      have HX := Lib.hid (show (w2.alloc (.cells #[.slice a2 size c2] 22)).cell? ⟨w2.heap.size, 0, none⟩ = some (.slice a2 size c2) from (Blk.newA w2 22 #[.slice a2 size c2]).cell' rfl)
      have hB : w1.heap.size ≤ (w2.alloc (.cells #[.slice a2 size c2] 22)).heap.size := by have := HK.out.size; have := HKW.out.size; simp; omega
      have hvl6 : vs.length ≤ 1000000 := by omega
      have HK2 := Lib.hid ((HK.out.trans HKW.out).trans kB)
      have Hvl := Lib.hid hvl
      clear hO hve kB hvl
      go_wp2_with (at_builtin; (refine wpList_append_bs rfl (.tmp 35) (.tmp 38) rfl HOw.out rfl (.slice a2 size c2) rfl _ 0 1 rfl HX.out hvl6 hB ?_); intro v3 w3 g1 g2 g3)
      go_roundw
      case rel =>
        refine ⟨k + 1, by omega, by go_num, ?_, HK2.out.grown g2 (fun x hx => .inr (HOw.out.block hx).1)⟩
        rw [Hsn.out]
        exact PcsA.snoc HOw.out Hvl.out Hve2.out HUB.out g1 g2
      case measure => simp [intOf]; omega
    · obtain rfl : k = L.length := by omega
      rw [List.take_length] at hP
      obtain ⟨O, hOd⟩ : ∃ O : Option Nat, O = u5.ownBlock := ⟨_, rfl⟩
      have hOb : ∀ x, O = some x → w1.heap.size ≤ x ∧ x < wr.heap.size ∧ ∃ cs, Blk wr x 22 cs := fun x hx => by obtain ⟨vs, hO, _, _⟩ := hP; exact hO.block (hOd ▸ hx)
      have hBr := HB1.out.keeps hK (by simp)
      have c0 := hBr.cell' (i := 0) rfl
      have c1 := hBr.cell' (i := 1) rfl
      have c2 := hBr.cell' (i := 2) rfl
      have c3 := hBr.cell' (i := 3) rfl
      have hP' := hP.eq (show L = L ++ bpars s size L 0 from (List.append_nil L).symm)
      have HPa := Lib.hid hP'
      have HKa := Lib.hid hK
      have HOb := Lib.hid hOb
      have HOd := Lib.hid hOd
      clear hP hP' hK hBr hOb hOd
      obtain ⟨wz, hwz⟩ : ∃ wz, wz = wr := ⟨_, rfl⟩
      subst hwz
      go_wp2_with fail
      refine (prows_calls s nK P size h1 h2 h3 h4 h5).mono ?_
      rintro e wv ⟨vr, rfl, hVR, kv⟩
      obtain ⟨ar, cr, rfl, hVe⟩ := hVR.rd
      rw [parXs_len] at *
      have HVe := Lib.hid hVe
      have HPv := Lib.hid (HPa.out.keepsNil kv)
      have HKv := Lib.hid (HKa.out.trans kv)
      have HOt := Lib.hid (fun (x : Nat) (hx : O = some x) => by obtain ⟨_, _, cs, hb⟩ := HOb.out x hx; exact (⟨cs, hb.keeps kv (by simp)⟩ : ∃ cs, Blk wv x 22 cs))
      have hwv := HKv.out.size
      clear hVR hVe kv c0 c1 c2 c3 HPa
      have hnK : nK ≤ nK + P := by omega
      have hn80 : nK + P ≤ 80 := by omega
      generalize nK + P = n at *
      go_wp2_with fail
      go_loopw [5, 44] (fun o i wr => ∃ k : Nat, k ≤ P ∧ i = .int .i64 k ∧ PcsA wr w1.heap.size (w1.heap.size ≤ ·) o (L ++ bpars s size L k) ∧ Keeps [] w1 wr ∧ Keeps O.toList wv wr ∧ Hid (∀ x, o.ownBlock = some x → O = some x ∨ wv.heap.size ≤ x)) (fun _ i _ => P - (intOf i).toNat)
      case atStart => exact ⟨0, Nat.zero_le _, rfl, HPv.out, HKv.out, Keeps.refl _ _, Lib.hid (fun x hx => .inl (by rw [HOd.out]; exact hx))⟩
      case round =>
        clear HPv
        obtain ⟨k, hk, rfl, hP, hK, hKO, Hown⟩ := hrel
        by_cases hlt : k < P
        · obtain ⟨g0, vp, vg, rfl, hg0, cv, hVv⟩ := HVe.out k _ (parXs_at s nK n P hlt)
          have cv' : wr.cell? ⟨g0, k, none⟩ = some (.pointer (some ⟨vp, 0, none⟩)) := (World.cell?_of_block (a := ⟨g0, k, none⟩) (hKO.block g0 (World.block_lt_of_cell? wv _ cv) (fun hm => by have := HOb.out g0 (by simpa using hm); omega))).trans cv
          have hV := hVv.keeps hKO (fun hm => by obtain ⟨cs, hb⟩ := HOt.out vp (by simpa using hm); exact hVv.b.ne hb (by decide) rfl) (fun hm => by obtain ⟨cs, hb⟩ := HOt.out vg (by simpa using hm); exact hVv.r.ne hb (by decide) rfl)
          have hBr := HB1.out.keeps hK (by simp)
          have c3 := hBr.cell' (i := 3) rfl
          have Hvo := Lib.hid (Hv1.out.keepsNil hK)
          have HV := Lib.hid hV
          have HP := Lib.hid hP
          have HK := Lib.hid hK
          have HKO := Lib.hid hKO
          have hki : (k : Int) < (P : Int) := by omega
          have hxb : ∀ i, i < nK → (parX s nK n k nK).testBit i = parB s k i := fun i hi => parX_bit s nK n k nK i hi (Nat.le_refl _)
          have hbp := bpars_succ s size L k
          have hpz : psum (parB s k) size L 0 = zer size := rfl
          have hpl := fun i (hi : i ≤ L.length) => psum_len (f := parB s k) (size := size) (L := L) HL.out i hi
          have hpu : ∀ i, psum (parB s k) size L (i + 1) = if parB s k i then xorL (psum (parB s k) size L i) (L.getD i []) else psum (parB s k) size L i := fun i => rfl
          have hbpl : (bpars s size L k).length = k := by simp [bpars]
          generalize bpars s size L k = Bk at *
          generalize psum (parB s k) size L = ps at *
          generalize parX s nK n k nK = X at *
          generalize parB s k = f at *
          have Hxb := Lib.hid hxb
          have Hbp := Lib.hid hbp
          have Hpl := Lib.hid hpl
          have Hpu := Lib.hid hpu
          have HG := Lib.hid (show Blk (wr.alloc (.cells (zeros size) 5)) wr.heap.size 5 ((ps 0).map B8) from by
            have := Blk.newA wr 5 (zeros size)
            rw [hpz]
            simpa [zeros, zer] using this)
          have HKw := Lib.hid ((Keeps.refl [] wr).alloc (.cells (zeros size) 5))
          obtain ⟨wo, hwo⟩ : ∃ wo, wo = wr := ⟨_, rfl⟩
          subst hwo
          clear cv hV hVv hP hK hKO hBr hxb hbp hpl hpu hpz
          go_wp2_with fail
          obtain ⟨sg, hsgd⟩ : ∃ sg, sg = wo.heap.size := ⟨_, rfl⟩
          have HGb : Hid (wo.heap.size ≤ sg) := Lib.hid (by omega)
          rw [← hsgd] at HG ⊢
          clear hsgd
          generalize wo.alloc (.cells (zeros size) 5) = wm at *
          go_loopw [53] (fun x wr => ∃ i : Nat, i ≤ L.length ∧ x = .int .i64 i ∧ Blk wr sg 5 ((ps i).map B8) ∧ Keeps [] wo wr) (fun x _ => L.length - (intOf x).toNat)
          case atStart => exact ⟨0, Nat.zero_le _, rfl, HG.out, HKw.out⟩
          case round =>
            clear HG HKw
            obtain ⟨i, hi, rfl, hG, hKi⟩ := hrel
            by_cases hil : i < L.length
            · obtain ⟨a', c', ea, _, _, hrd, _⟩ := Hvo.out
              simp only [Value.slice.injEq] at ea
              obtain ⟨rfl, _, rfl⟩ := ea
              obtain ⟨g1, u, rfl, hc0, hru⟩ := hrd i L[i] (List.getElem?_eq_getElem hil)
              have hbl := HL.out L[i] (List.getElem_mem hil)
              have hpu := Hpu.out i
              rw [List.getD_eq_getElem?_getD, List.getElem?_eq_getElem hil, Option.getD_some] at hpu
              have hpl := Hpl.out i (by omega)
              have Hpb := Lib.hid (Hxb.out i (by have := HLK.out; omega))
              generalize L[i] = b at *
              generalize hA : ps i = A at *
              obtain ⟨ab, cb, rfl, b1, b2, b3, b4, _⟩ := hru
              rw [hbl] at hc0
              have hcr := hKi.cell0 hc0
              have HRd := Lib.hid b3
              have HA := Lib.hid hpl
              have Hps := Lib.hid hpu
              have HKi := Lib.hid hKi
              have hin : i < n := by have := HLK.out; omega
              have hil' : (i : Int) < (L.length : Int) := by omega
              clear hrd b3 b4 hc0 hpu hKi hA
              cases hf : f i
              · rw [hf] at Hpb
                have Hf := Lib.hid (show ¬ f i = true from by rw [hf]; simp)
                have HG0 := Lib.hid hG
                clear hG hf
                go_wp2_with fail
                go_loopw [60] (fun x wx => ∃ q : Nat, q ≤ size ∧ x = .int .i64 q ∧ Blk wx sg 5 ((A).map B8) ∧ Keeps [] wo wx) (fun x _ => size - (intOf x).toNat)
                case atStart => exact ⟨0, Nat.zero_le _, rfl, HG0.out, HKi.out⟩
                case round =>
                  clear HG0 HKi
                  obtain ⟨q, hq, rfl, hG, hKq⟩ := hrel
                  by_cases hql : q < size
                  · have hVq := (HV.out.keeps hKq (by simp) (by simp))
                    have hH := vhas_calls hVq (i : Int)
                    rw [decide_eq_true (show 0 ≤ (i : Int) ∧ (i : Int) < n by omega), Bool.true_and, Int.toNat_natCast, Hpb.out] at hH
                    have hqi : (q : Int) < (size : Int) := by omega
                    have HG := Lib.hid hG
                    have HKq := Lib.hid hKq
                    clear hG hKq hVq
                    go_wp2_with fail
                    refine hH.mono ?_
                    rintro e w' ⟨rfl, rfl⟩
                    go_wp2_with fail
                    go_roundw
                    case rel => exact ⟨q + 1, by omega, by go_num, HG.out, HKq.out⟩
                    case measure => simp [intOf]; omega
                  · obtain rfl : q = size := by omega
                    have HG := Lib.hid hG
                    have HKq := Lib.hid hKq
                    clear hG hKq
                    go_wp2_with fail
                    go_roundw
                    case rel => exact ⟨i + 1, by omega, by go_num, by rw [Hps.out]; rw [if_neg Hf.out]; exact HG.out, HKq.out⟩
                    case measure => simp [intOf]; omega
              · rw [hf] at Hpb
                have Hf := Lib.hid hf
                have HG0 := Lib.hid (show Blk wr sg 5 ((xorTo A b 0).map B8) from by rw [xorTo_zero]; exact hG)
                clear hG hf
                go_wp2_with fail
                go_loopw [60] (fun x wx => ∃ q : Nat, q ≤ size ∧ x = .int .i64 q ∧ Blk wx sg 5 ((xorTo A b q).map B8) ∧ Keeps [] wo wx) (fun x _ => size - (intOf x).toNat)
                case atStart => exact ⟨0, Nat.zero_le _, rfl, HG0.out, HKi.out⟩
                case round =>
                  clear HG0 HKi
                  obtain ⟨q, hq, rfl, hG, hKq⟩ := hrel
                  by_cases hql : q < size
                  · have hVq := (HV.out.keeps hKq (by simp) (by simp))
                    have hH := vhas_calls hVq (i : Int)
                    rw [decide_eq_true (show 0 ≤ (i : Int) ∧ (i : Int) < n by omega), Bool.true_and, Int.toNat_natCast, Hpb.out] at hH
                    have hqi : (q : Int) < (size : Int) := by omega
                    obtain ⟨bb, oo, rfl, cb⟩ := (HRd.out.keepsNil hKq) q (b.getD q 0) (by rw [List.getD_eq_getElem?_getD, List.getElem?_eq_getElem (by omega)]; rfl)
                    have hgt := xorTo_getD (a := A) (b := b) (by omega) (k := q) (by omega)
                    have hset := xorTo_set (a := A) (b := b) (by omega) (k := q) (by omega)
                    rw [hgt] at hset
                    have cg : wr.cell? ⟨sg, q, none⟩ = some (B8 (A.getD q 0)) := hG.cell' (by
                      rw [List.getElem?_map, List.getElem?_eq_getElem (by rw [xorTo_len (by omega)]; omega)]
                      rw [List.getD_eq_getElem?_getD, List.getElem?_eq_getElem (by rw [xorTo_len (by omega)]; omega)] at hgt
                      rw [← hgt]; rfl)
                    have fr := hG.frozen q
                    have hS := hG.set q (B8 (A.getD q 0 ^^^ b.getD q 0))
                    rw [map_set8, hset] at hS
                    have hx8 := xor_byte (A.getD q 0) (b.getD q 0)
                    have HS := Lib.hid hS
                    have HKq := Lib.hid (hKq.setCell (p := ⟨sg, q, none⟩) (.inr HGb.out) (B8 (A.getD q 0 ^^^ b.getD q 0)))
                    clear hgt hset hS hG hKq hVq
                    generalize A.getD q 0 = x at *
                    generalize b.getD q 0 = y at *
                    go_wp2_with fail
                    refine hH.mono ?_
                    rintro e w' ⟨rfl, rfl⟩
                    go_wp2_with fail
                    go_region
                    go_wp2_with fail
                    go_roundw
                    case rel => exact ⟨q + 1, by omega, by go_num, HS.out.drew, HKq.out.drew⟩
                    case measure => simp [intOf]; omega
                  · obtain rfl : q = size := by omega
                    have HG := Lib.hid hG
                    have HKq := Lib.hid hKq
                    clear hG hKq
                    go_wp2_with fail
                    go_roundw
                    case rel => exact ⟨i + 1, by omega, by go_num, by rw [Hps.out]; rw [if_pos Hf.out, ← (show xorTo A b q = xorL A b from by have := xorTo_all (a := A) (b := b) (by omega); rwa [HA.out] at this)]; exact HG.out, HKq.out⟩
                    case measure => simp [intOf]; omega
            · obtain rfl : i = L.length := by omega
              have hplen := Hpl.out L.length (Nat.le_refl _)
              have HU := Lib.hid (show RdA (w1.heap.size ≤ ·) wr (.slice (some ⟨sg, 0, none⟩) size size) (ps L.length) from ⟨⟨some ⟨sg, 0, none⟩, size, by rw [hplen], by omega, by omega, Rd.blk hG 0 _ (fun j u hu => by rw [Nat.zero_add, List.getElem?_map, hu]; rfl), by simp, fun x hx _ => by simp only [Option.some.injEq] at hx; subst hx; exact ⟨_, hG⟩⟩, fun a n c e => by simp only [Value.slice.injEq, Option.some.injEq] at e; rw [← e.1]; exact Nat.le_trans HK.out.size HGb.out⟩)
              have HKW := Lib.hid hKi
              have HKO2 := Lib.hid ((HKO.out.trans' hKi (fun _ h => .inl h) (by simp)).alloc (.cells #[.slice (some ⟨sg, 0, none⟩) size size] 22))
              have hwo := HKO.out.size
              have hwr := hKi.size
              have Hown2 := Hown
              have Hsn := Lib.hid (show L ++ bpars s size L (k + 1) = (L ++ Bk) ++ [ps L.length] from by rw [Hbp.out, List.append_assoc])
              have hpv : (L ++ Bk).length ≤ 100000 := by rw [List.length_append]; omega
              clear hG hKi hplen
              obtain ⟨vs, hO, hvl, hve⟩ := HP.out
              have kB : Keeps [] wr (wr.alloc (.cells #[.slice (some ⟨sg, 0, none⟩) size size] 22)) := (Keeps.refl [] wr).alloc _
              have HUB := Lib.hid ((show RdA (w1.heap.size ≤ ·) wr (.slice (some ⟨sg, 0, none⟩) size size) (ps L.length) from HU.out).keepsNil kB)
              have HOw := Lib.hid (hO.keeps (HKW.out.trans kB) (by simp))
              have Hve2 := Lib.hid (fun (i : Nat) (x : List UInt8) (hx : (L ++ Bk)[i]? = some x) => by obtain ⟨u, hu, hr⟩ := hve i x hx; exact (⟨u, hu, hr.keepsNil (HKW.out.trans kB)⟩ : ∃ u, vs[i]? = some u ∧ RdA (w1.heap.size ≤ ·) (wr.alloc (.cells #[.slice (some ⟨sg, 0, none⟩) size size] 22)) u x))
              have HX := Lib.hid (show (wr.alloc (.cells #[.slice (some ⟨sg, 0, none⟩) size size] 22)).cell? ⟨wr.heap.size, 0, none⟩ = some (.slice (some ⟨sg, 0, none⟩) size size) from (Blk.newA wr 22 #[.slice (some ⟨sg, 0, none⟩) size size]).cell' rfl)
              have hB : w1.heap.size ≤ (wr.alloc (.cells #[.slice (some ⟨sg, 0, none⟩) size size] 22)).heap.size := by have := HK.out.size; have := HKW.out.size; simp; omega
              have hvl6 : vs.length ≤ 1000000 := by omega
              have HK2 := Lib.hid ((HK.out.trans HKW.out).trans kB)
              have Hvl := Lib.hid hvl
              clear hO hve kB hvl
              go_wp2_with (at_builtin; (refine wpList_append_bs rfl (.tmp 78) (.tmp 80) rfl HOw.out rfl (.slice (some ⟨sg, 0, none⟩) size size) rfl _ 0 1 rfl HX.out hvl6 hB ?_); intro v3 w3 g1 g2 g3)
              go_roundw
              case rel =>
                refine ⟨k + 1, by omega, by go_num, ?_, HK2.out.grown g2 (fun x hx => .inr (HOw.out.block hx).1), HKO2.out.grown g2 (fun x hx => by rcases Hown2.out x hx with h | h; exact .inl (by simp [h]); exact .inr h), Lib.hid (fun x hx => by rcases g3 x hx with h | h; exact Hown2.out x h; exact .inr (by simp at h; omega))⟩
                rw [Hsn.out]
                exact PcsA.snoc HOw.out Hvl.out Hve2.out HUB.out g1 g2
              case measure => simp [intOf]; omega
        · obtain rfl : k = P := by omega
          have HP := Lib.hid hP
          have HKr := Lib.hid hK
          have hsw := Hw1.out.size
          clear hP hK hKO
          go_wp2_with fail
          go_ret
          exact ⟨_, rfl, HP.out.mono hsw (fun x hx => Nat.le_trans hsw hx), Hw1.out.trans HKr.out⟩

end Go.Proofs.YtijhaeapoapgfaaGreatDoor

set_option linter.unusedVariables false
set_option linter.unusedSimpArgs false
namespace Go.Proofs.YtijhaeapoapgfaaGreatDoor
open Go.RowKit
attribute [local go_sem ↓] Go.wp_at_zero Go.wp_at_succ

/-- An image that fits its parameters. -/
structure Fits (K P z : Nat) (img : List UInt8) : Prop where
  k1 : 1 ≤ K
  k2 : K ≤ 64
  p2 : P ≤ 16
  z1 : 1 ≤ z
  z2 : z ≤ 16
  l : img.length ≤ 512
  c : bcount img.length z = K
  f : img.length ≤ K * z

/-- .. and what is done to blocks of other types makes no difference. -/
theorem Pcs.keepsP {S : List Nat} {w w' : World} {B : Nat} {v : Value} {L : List (List UInt8)} (h : Pcs w B v L) (k : Keeps S w w') (hS : ∀ x, x ∈ S → ∃ t cs, Blk w x t cs ∧ 5 ≠ t ∧ 22 ≠ t) : Pcs w' B v L := by
  obtain ⟨vs, hO, hl, he⟩ := h
  refine ⟨vs, ⟨hO.1, ?_⟩, hl, fun i x hx => ?_⟩
  · rcases hO.2 with ⟨rfl, h0⟩ | ⟨g, cap, cur, rfl, hb, hg, hn, hm, hs, ht⟩
    · exact .inl ⟨rfl, h0⟩
    · refine .inr ⟨g, cap, cur, rfl, hb, (k.block g (Array.getElem?_eq_some_iff.1 hg).1 (fun hm => ?_)).trans hg, hn, hm, hs, ht⟩
      obtain ⟨t, cs, h1, h2, h3⟩ := hS g hm
      obtain ⟨_, _, cs', hb'⟩ := (show OwnX 22 w B (.slice (some ⟨g, 0, none⟩) vs.length cap) vs from hO).block (x := g) rfl
      exact hb'.ne h1 h3 rfl
  · obtain ⟨u, hu, a, c, rfl, r1, r2, r3, r4, r5⟩ := he i x hx
    have hne : ∀ y, a = some y → x ≠ [] → y.block ∉ S := fun y hy hx' hm => by
      obtain ⟨t, cs, h1, h2, h3⟩ := hS y.block hm
      obtain ⟨cs', hb'⟩ := r5 y hy hx'
      exact hb'.ne h1 h2 rfl
    exact ⟨_, hu, a, c, rfl, r1, r2, r3.keeps k hne, r4, fun y hy hx' => by obtain ⟨cs', hb'⟩ := r5 y hy hx'; exact ⟨cs', hb'.keeps k (hne y hy hx')⟩⟩
theorem PcsA.keepsP {S : List Nat} {w w' : World} {B : Nat} {Q : Nat → Prop} {v : Value} {L : List (List UInt8)} (h : PcsA w B Q v L) (k : Keeps S w w') (hS : ∀ x, x ∈ S → ∃ t cs, Blk w x t cs ∧ 5 ≠ t ∧ 22 ≠ t) : PcsA w' B Q v L := by
  obtain ⟨vs, hO, hl, he⟩ := h
  refine ⟨vs, ⟨hO.1, ?_⟩, hl, fun i x hx => ?_⟩
  · rcases hO.2 with ⟨rfl, h0⟩ | ⟨g, cap, cur, rfl, hb, hg, hn, hm, hs, ht⟩
    · exact .inl ⟨rfl, h0⟩
    · refine .inr ⟨g, cap, cur, rfl, hb, (k.block g (Array.getElem?_eq_some_iff.1 hg).1 (fun hm => ?_)).trans hg, hn, hm, hs, ht⟩
      obtain ⟨t, cs, h1, h2, h3⟩ := hS g hm
      obtain ⟨_, _, cs', hb'⟩ := (show OwnX 22 w B (.slice (some ⟨g, 0, none⟩) vs.length cap) vs from hO).block (x := g) rfl
      exact hb'.ne h1 h3 rfl
  · obtain ⟨u, hu, ⟨a, c, rfl, r1, r2, r3, r4, r5⟩, hq⟩ := he i x hx
    have hne : ∀ y, a = some y → x ≠ [] → y.block ∉ S := fun y hy hx' hm => by
      obtain ⟨t, cs, h1, h2, h3⟩ := hS y.block hm
      obtain ⟨cs', hb'⟩ := r5 y hy hx'
      exact hb'.ne h1 h2 rfl
    exact ⟨_, hu, ⟨a, c, rfl, r1, r2, r3.keeps k hne, r4, fun y hy hx' => by obtain ⟨cs', hb'⟩ := r5 y hy hx'; exact ⟨cs', hb'.keeps k (hne y hy hx')⟩⟩, hq⟩
/-- What is done to other blocks makes no difference. -/
theorem RdS.keepsQ {S : List Nat} {w w' : World} {Q : Nat → Prop} {v : Value} {x : List UInt8} (h : RdS w v x) (hq : Up Q v) (k : Keeps S w w') (hS : ∀ x, x ∈ S → ¬ Q x) : RdS w' v x := by
  obtain ⟨a, c, rfl, r1, r2, r3, r4, r5⟩ := h
  have hne : ∀ y, a = some y → x ≠ [] → y.block ∉ S := fun y hy hx' hm => hS _ hm (hq y _ _ (by rw [hy]))
  exact ⟨a, c, rfl, r1, r2, r3.keeps k hne, r4, fun y hy hx' => by obtain ⟨cs', hb'⟩ := r5 y hy hx'; exact ⟨cs', hb'.keeps k (hne y hy hx')⟩⟩
theorem PcsA.keepsQ {S : List Nat} {w w' : World} {B : Nat} {Q : Nat → Prop} {v : Value} {L : List (List UInt8)} (h : PcsA w B Q v L) (hv : Up Q v) (k : Keeps S w w') (hS : ∀ x, x ∈ S → ¬ Q x) : PcsA w' B Q v L := by
  obtain ⟨vs, hO, hl, he⟩ := h
  refine ⟨vs, ⟨hO.1, ?_⟩, hl, fun i x hx => ?_⟩
  · rcases hO.2 with ⟨rfl, h0⟩ | ⟨g, cap, cur, rfl, hb, hg, hn, hm, hs, ht⟩
    · exact .inl ⟨rfl, h0⟩
    · exact .inr ⟨g, cap, cur, rfl, hb, (k.block g (Array.getElem?_eq_some_iff.1 hg).1 (fun hm => hS g hm (hv _ _ _ rfl))).trans hg, hn, hm, hs, ht⟩
  · obtain ⟨u, hu, hr, hq⟩ := he i x hx
    exact ⟨u, hu, hr.keepsQ hq k hS, hq⟩
theorem PcsA.up {w : World} {B : Nat} {Q : Nat → Prop} {v : Value} {L : List (List UInt8)} (h : PcsA w B Q v L) : Up (B ≤ ·) v := by
  obtain ⟨vs, hO, hl, he⟩ := h
  intro a n c e
  rcases hO.2 with ⟨rfl, h0⟩ | ⟨g, cap, cur, rfl, hb, _⟩
  · cases e
  · simp only [Value.slice.injEq, Option.some.injEq] at e
    rw [← e.1]; exact hb
theorem RdS.keepsP {S : List Nat} {w w' : World} {v : Value} {x : List UInt8} (h : RdS w v x) (k : Keeps S w w') (hS : ∀ x, x ∈ S → ∃ t cs, Blk w x t cs ∧ 5 ≠ t) : RdS w' v x := by
  obtain ⟨a, c, rfl, r1, r2, r3, r4, r5⟩ := h
  have hne : ∀ y, a = some y → x ≠ [] → y.block ∉ S := fun y hy hx' hm => by
    obtain ⟨t, cs, h1, h2⟩ := hS y.block hm
    obtain ⟨cs', hb'⟩ := r5 y hy hx'
    exact hb'.ne h1 h2 rfl
  exact ⟨a, c, rfl, r1, r2, r3.keeps k hne, r4, fun y hy hx' => by obtain ⟨cs', hb'⟩ := r5 y hy hx'; exact ⟨cs', hb'.keeps k (hne y hy hx')⟩⟩

theorem split_len {img : List UInt8} {K z : Nat} : (bsplit img K z K).length = K := bsplit_len _ _ _ _

set_option maxRecDepth 100000 in
set_option maxHeartbeats 2000000 in
theorem hdfn_calls {w : World} {p bx : Nat} {s : UInt32} {nK P z : Nat} {vi x1 x2 x3 : Value} {img : List UInt8} (hb : Blk w p 129 [B32 s, .int .i64 nK, .int .i64 P, .int .i64 z, vi, x1, x2, x3, .slice none 0 0]) (hi : RdS w vi img) (hf : Fits nK P z img)
    (hbx : w.cell? ⟨bx, 0, none⟩ = some (.pointer (some ⟨p, 0, none⟩))) (hne : bx ≠ p) :
    Calls Tryz.prog 120 (#[] ++ #[.pointer (some ⟨bx, 0, none⟩)]) w fun e w' => ∃ v, e = .returned (.tuple #[]) ∧ Blk w' p 129 [B32 s, .int .i64 nK, .int .i64 P, .int .i64 z, vi, x1, x2, x3, v] ∧ PcsA w' w.heap.size (w.heap.size ≤ ·) v (pieces s nK P z img) ∧ Keeps [p] w w' := by
  have c0 := hb.cell' (i := 0) rfl
  have c1 := hb.cell' (i := 1) rfl
  have c2 := hb.cell' (i := 2) rfl
  have c3 := hb.cell' (i := 3) rfl
  have c4 := hb.cell' (i := 4) rfl
  have hpl := hb.lt
  obtain ⟨f1, f2, f3, f4, f5, f6, f7, f8⟩ := hf
  have HC1 := Lib.hid (bsplit_calls (hi.keepsNil (Keeps.refl [] w).drew) nK z f6 f4 f5 f7 f1 f2 f8)
  have hsl := split_len (img := img) (K := nK) (z := z)
  have hse := bsplit_each (img := img) (K := nK) (size := z) (k := nK) f8 (Nat.le_refl _)
  have hpc : pieces s nK P z img = ball s z (bsplit img nK z nK) P := rfl
  generalize bsplit img nK z nK = L at *
  have HB := Lib.hid hb
  obtain ⟨ai, ci, rfl, _⟩ := id hi
  have Hpc := Lib.hid hpc
  have Hse := Lib.hid hse
  have Hsl := Lib.hid hsl
  clear hb hi f7 f8 hpc hse hsl
  go_enter Tryz.func120, Tryz.ntmps120
  go_wp2_with fail
  refine wp_region_noPanic ?_
  refine wp_region_held_drew (S := (fun w' => w'.cell? ⟨bx, 0, none⟩ = some (.pointer (some ⟨p, 0, none⟩)) ∧ w'.cell? ⟨p, 0, none⟩ = some (B32 s) ∧ w'.cell? ⟨p, 1, none⟩ = some (.int .i64 nK) ∧ w'.cell? ⟨p, 2, none⟩ = some (.int .i64 P) ∧ w'.cell? ⟨p, 3, none⟩ = some (.int .i64 z) ∧ w'.cell? ⟨p, 4, none⟩ = some (.slice ai img.length ci))) (by kernel_rfl) ⟨hbx, c0, c1, c2, c3, c4⟩ (fun hHeld => ?_)
  have kd : Keeps [] w w.drew := (Keeps.refl [] w).drew
  refine wpAnyH_take (i := 0) (v := ?v1_1) rfl (by kernel_rfl) (by kernel_rfl) (by kernel_rfl) (fun _ _ _ h => h) (Or.inl ⟨by rfl, ?y1_1⟩) (by assumption) ?r1_1
  case y1_1 => (intro w hSw; (try dsimp only at hSw); go_simp; try with_reducible rfl)
  (try simp only [Act.put, List.getElem_toArray, List.getElem_cons_zero, List.getElem_cons_succ, List.setIfInBounds_toArray, List.set_cons_zero, List.set_cons_succ])
  refine wpAnyH_take (i := 1) (v := ?v1_2) rfl (by kernel_rfl) (by kernel_rfl) (by kernel_rfl) (fun _ _ _ h => h) (Or.inl ⟨by rfl, ?y1_2⟩) (by assumption) ?r1_2
  case y1_2 => (intro w hSw; (try dsimp only at hSw); go_simp; try with_reducible rfl)
  (try simp only [Act.put, List.getElem_toArray, List.getElem_cons_zero, List.getElem_cons_succ, List.setIfInBounds_toArray, List.set_cons_zero, List.set_cons_succ])
  refine wpAnyH_take (i := 2) (v := ?v1_3) rfl (by kernel_rfl) (by kernel_rfl) (by kernel_rfl) (fun _ _ _ h => h) (Or.inl ⟨by rfl, ?y1_3⟩) (by assumption) ?r1_3
  case y1_3 => (intro w hSw; (try dsimp only at hSw); go_simp; try with_reducible rfl)
  (try simp only [Act.put, List.getElem_toArray, List.getElem_cons_zero, List.getElem_cons_succ, List.setIfInBounds_toArray, List.set_cons_zero, List.set_cons_succ])
  refine wpAnyH_take (i := 3) (v := ?v1_4) rfl (by kernel_rfl) (by kernel_rfl) (by kernel_rfl) (fun _ _ _ h => h) (Or.inl ⟨by rfl, ?y1_4⟩) (by assumption) ?r1_4
  case y1_4 => (intro w hSw; (try dsimp only at hSw); go_simp; try with_reducible rfl)
  (try simp only [Act.put, List.getElem_toArray, List.getElem_cons_zero, List.getElem_cons_succ, List.setIfInBounds_toArray, List.set_cons_zero, List.set_cons_succ])
  refine wpAnyH_take (i := 4) (v := ?v1_5) rfl (by kernel_rfl) (by kernel_rfl) (by kernel_rfl) (fun _ _ _ h => h) (Or.inl ⟨by rfl, ?y1_5⟩) (by assumption) ?r1_5
  case y1_5 => (intro w hSw; (try dsimp only at hSw); go_simp; try with_reducible rfl)
  (try simp only [Act.put, List.getElem_toArray, List.getElem_cons_zero, List.getElem_cons_succ, List.setIfInBounds_toArray, List.set_cons_zero, List.set_cons_succ])
  refine wpAnyH_take (i := 5) (v := ?v1_6) rfl (by kernel_rfl) (by kernel_rfl) (by kernel_rfl) (fun _ _ _ h => h) (Or.inl ⟨by rfl, ?y1_6⟩) (by assumption) ?r1_6
  case y1_6 => (intro w hSw; (try dsimp only at hSw); go_simp; try with_reducible rfl)
  (try simp only [Act.put, List.getElem_toArray, List.getElem_cons_zero, List.getElem_cons_succ, List.setIfInBounds_toArray, List.set_cons_zero, List.set_cons_succ])
  refine wpAnyH_take (i := 6) (v := ?v1_7) rfl (by kernel_rfl) (by kernel_rfl) (by kernel_rfl) (fun _ _ _ h => h) (Or.inl ⟨by rfl, ?y1_7⟩) (by assumption) ?r1_7
  case y1_7 => (intro w hSw; (try dsimp only at hSw); go_simp; try with_reducible rfl)
  (try simp only [Act.put, List.getElem_toArray, List.getElem_cons_zero, List.getElem_cons_succ, List.setIfInBounds_toArray, List.set_cons_zero, List.set_cons_succ])
  refine wpAnyH_take (i := 7) (v := ?v1_8) rfl (by kernel_rfl) (by kernel_rfl) (by kernel_rfl) (fun _ _ _ h => h) (Or.inl ⟨by rfl, ?y1_8⟩) (by assumption) ?r1_8
  case y1_8 => (intro w hSw; (try dsimp only at hSw); go_simp; try with_reducible rfl)
  (try simp only [Act.put, List.getElem_toArray, List.getElem_cons_zero, List.getElem_cons_succ, List.setIfInBounds_toArray, List.set_cons_zero, List.set_cons_succ])
  refine wpAnyH_take (i := 8) (v := ?v1_9) rfl (by kernel_rfl) (by kernel_rfl) (by kernel_rfl) (fun _ _ _ h => h) (Or.inl ⟨by rfl, ?y1_9⟩) (by assumption) ?r1_9
  case y1_9 => (intro w hSw; (try dsimp only at hSw); go_simp; try with_reducible rfl)
  (try simp only [Act.put, List.getElem_toArray, List.getElem_cons_zero, List.getElem_cons_succ, List.setIfInBounds_toArray, List.set_cons_zero, List.set_cons_succ])
  refine wpAnyH_take (i := 9) (v := ?v1_10) rfl (by kernel_rfl) (by kernel_rfl) (by kernel_rfl) (fun _ _ _ h => h) (Or.inl ⟨by rfl, ?y1_10⟩) (by assumption) ?r1_10
  case y1_10 => (intro w hSw; (try dsimp only at hSw); go_simp; try with_reducible rfl)
  (try simp only [Act.put, List.getElem_toArray, List.getElem_cons_zero, List.getElem_cons_succ, List.setIfInBounds_toArray, List.set_cons_zero, List.set_cons_succ])
  refine wpAnyH_take (i := 10) (v := ?v1_11) rfl (by kernel_rfl) (by kernel_rfl) (by kernel_rfl) (fun _ _ _ h => h) (Or.inl ⟨by rfl, ?y1_11⟩) (by assumption) ?r1_11
  case y1_11 => (intro w hSw; (try dsimp only at hSw); go_simp; try with_reducible rfl)
  (try simp only [Act.put, List.getElem_toArray, List.getElem_cons_zero, List.getElem_cons_succ, List.setIfInBounds_toArray, List.set_cons_zero, List.set_cons_succ])
  refine wpAnyH_take (i := 11) (v := ?v1_12) rfl (by kernel_rfl) (by kernel_rfl) (by kernel_rfl) (fun _ _ _ h => h) (Or.inl ⟨by rfl, ?y1_12⟩) (by assumption) ?r1_12
  case y1_12 => (intro w hSw; (try dsimp only at hSw); go_simp; try with_reducible rfl)
  (try simp only [Act.put, List.getElem_toArray, List.getElem_cons_zero, List.getElem_cons_succ, List.setIfInBounds_toArray, List.set_cons_zero, List.set_cons_succ])
  refine wpAnyH_take (i := 12) (v := ?v1_13) rfl (by kernel_rfl) (by kernel_rfl) (by kernel_rfl) (fun _ _ _ h => h) (Or.inl ⟨by rfl, ?y1_13⟩) (by assumption) ?r1_13
  case y1_13 => (intro w hSw; (try dsimp only at hSw); go_simp; try with_reducible rfl)
  (try simp only [Act.put, List.getElem_toArray, List.getElem_cons_zero, List.getElem_cons_succ, List.setIfInBounds_toArray, List.set_cons_zero, List.set_cons_succ])
  refine wpAnyH_take (i := 13) (v := ?v1_14) rfl (by kernel_rfl) (by kernel_rfl) (by kernel_rfl) (fun _ _ _ h => h) (Or.inl ⟨by rfl, ?y1_14⟩) (by assumption) ?r1_14
  case y1_14 => (intro w hSw; (try dsimp only at hSw); go_simp; try with_reducible rfl)
  (try simp only [Act.put, List.getElem_toArray, List.getElem_cons_zero, List.getElem_cons_succ, List.setIfInBounds_toArray, List.set_cons_zero, List.set_cons_succ])
  refine wpAnyH_ready (rs := [14]) (by kernel_rfl) (by simp) ?_
  refine AllReadyH.cons rfl (fun K hK => ?_) AllReadyH.nil
  go_simp
  refine HC1.out.mono ?_
  rintro e w1 ⟨v1, rfl, hP1, k1⟩
  replace kd := kd.trans k1
  have HC2 := Lib.hid (ppieces_calls hP1.rdl s nK P z f1 f2 f3 f4 f5 Hsl.out Hse.out)
  obtain ⟨a1, b1, rfl, _⟩ := hP1.rdl
  clear hP1
  go_wp2_with fail
  refine hK.out _ _ ?s1_15 (fun hHeld => ?_)
  case s1_15 => ((try dsimp only) <;> (first | exact ⟨kd.cell0 hbx, kd.cell0 c0, kd.cell0 c1, kd.cell0 c2, kd.cell0 c3, kd.cell0 c4⟩))
  clear hK K
  (try simp only [Act.put, List.getElem_toArray, List.getElem_cons_zero, List.getElem_cons_succ, List.setIfInBounds_toArray, List.set_cons_zero, List.set_cons_succ])
  refine wpAnyH_ready (rs := [15]) (by kernel_rfl) (by simp) ?_
  refine AllReadyH.cons rfl (fun K hK => ?_) AllReadyH.nil
  go_simp
  refine HC2.out.mono ?_
  rintro e w2 ⟨v2, rfl, hP2, k2⟩
  have hs1 := kd.size
  replace kd := kd.trans k2
  have HP2 := Lib.hid hP2
  obtain ⟨a2, b2, rfl, _⟩ := hP2.rdl
  clear hP2
  go_wp2_with fail
  refine hK.out _ _ ?s1_16 (fun hHeld => ?_)
  case s1_16 => ((try dsimp only) <;> (first | exact ⟨kd.cell0 hbx, kd.cell0 c0, kd.cell0 c1, kd.cell0 c2, kd.cell0 c3, kd.cell0 c4⟩))
  clear hK K
  (try simp only [Act.put, List.getElem_toArray, List.getElem_cons_zero, List.getElem_cons_succ, List.setIfInBounds_toArray, List.set_cons_zero, List.set_cons_succ])
  have hb2 := HB.out.keeps kd (by simp)
  have c8 := hb2.cell' (i := 8) rfl
  have f8 := hb2.frozen 8
  have hb3 := hb2.set 8 (.slice a2 (ball s z L P).length b2)
  have k3 : Keeps [p] w2 (w2.setCell ⟨p, 8, none⟩ (.slice a2 (ball s z L P).length b2)) := (Keeps.refl [p] w2).setCell (by simp) _
  have hp2 : ¬ p = bx := fun h => hne h.symm
  refine wpAnyH_take (i := 16) (v := ?v1_17) rfl (by kernel_rfl) (by kernel_rfl) (by kernel_rfl) (fun _ _ _ h => h) (Or.inl ⟨by rfl, ?y1_17⟩) (by assumption) ?r1_17
  case y1_17 => (intro w hSw; (try dsimp only at hSw); go_simp; try with_reducible rfl)
  (try simp only [Act.put, List.getElem_toArray, List.getElem_cons_zero, List.getElem_cons_succ, List.setIfInBounds_toArray, List.set_cons_zero, List.set_cons_succ])
  refine wpAnyH_take (i := 17) (v := ?v1_18) rfl (by kernel_rfl) (by kernel_rfl) (by kernel_rfl) (fun _ _ _ h => h) (Or.inl ⟨by rfl, ?y1_18⟩) (by assumption) ?r1_18
  case y1_18 => (intro w hSw; (try dsimp only at hSw); go_simp; try with_reducible rfl)
  (try simp only [Act.put, List.getElem_toArray, List.getElem_cons_zero, List.getElem_cons_succ, List.setIfInBounds_toArray, List.set_cons_zero, List.set_cons_succ])
  refine wpAnyH_ready (rs := [18]) (by kernel_rfl) (by simp) ?_
  refine AllReadyH.cons rfl (fun K hK => ?_) AllReadyH.nil
  go_simp
  have q1 := World.cell?_setCell_other w2 ⟨p, 8, none⟩ ⟨bx, 0, none⟩ (.slice a2 (ball s z L P).length b2) (fun h => hp2 (congrArg Addr.block h))
  refine hK.out _ _ ?s1_19 (fun hHeld => ?_)
  case s1_19 => ((try dsimp only) <;> (first | exact ⟨q1.trans (kd.cell0 hbx), hb3.cell' (i := 0) rfl, hb3.cell' (i := 1) rfl, hb3.cell' (i := 2) rfl, hb3.cell' (i := 3) rfl, hb3.cell' (i := 4) rfl⟩))
  clear hK K
  (try simp only [Act.put, List.getElem_toArray, List.getElem_cons_zero, List.getElem_cons_succ, List.setIfInBounds_toArray, List.set_cons_zero, List.set_cons_succ])
  refine wpAnyH_done (by kernel_rfl) ?_ _
  refine NoPanic.normal ?_
  go_wp2_with fail
  go_end0
  have hsz2 : w.heap.size ≤ w1.heap.size := hs1
  refine ⟨_, rfl, hb3, ?_, kd.nil.trans k3⟩
  rw [Hpc.out]
  exact (HP2.out.mono hsz2 (fun x hx => Nat.le_trans hsz2 hx)).keepsP k3 (fun x hx => by simp only [List.mem_singleton] at hx; subst hx; exact ⟨_, _, hb2, by decide, by decide⟩)

end Go.Proofs.YtijhaeapoapgfaaGreatDoor
