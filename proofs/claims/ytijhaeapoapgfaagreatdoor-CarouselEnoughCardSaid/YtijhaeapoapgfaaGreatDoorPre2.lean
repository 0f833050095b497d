/-
  Pre2: precode.Pieces, walked (printed by pre2.py).
-/
import Derived.Test.YtijhaeapoapgfaaGreatDoorPre1
import Derived.Test.YtijhaeapoapgfaaGreatDoorGrBk
import Derived.RegionTactic
set_option linter.unusedVariables false
set_option linter.unusedSimpArgs false
namespace Go.Proofs.YtijhaeapoapgfaaGreatDoor
open Go.RowKit
attribute [local go_sem ↓] Go.wp_at_zero Go.wp_at_succ

theorem pfn_calls {w : World} {bx : Nat} {size c : Nat} {a : Option Addr} (hc : w.cell? ⟨bx, 3, none⟩ = some (.int .i64 size)) :
    Calls Tryz.prog 160 (#[.slice a size c] ++ #[.pointer (some ⟨bx, 0, none⟩)]) w fun e w' => e = .returned (.bool false) ∧ w = w' := by
  go_enter Tryz.func160, Tryz.ntmps160
  go_wp2_with fail
  go_ret
  exact ⟨rfl, rfl⟩

set_option maxRecDepth 100000 in
theorem pindex_calls {w : World} {bx : Nat} {size : Nat} {v : Value} {L : List (List UInt8)} (hv : RdL w v L) (hL : ∀ x ∈ L, x.length = size) (hc : w.cell? ⟨bx, 3, none⟩ = some (.int .i64 size)) :
    Calls Tryz.prog 186 #[v, .func (.func 160) #[] #[.pointer (some ⟨bx, 0, none⟩)]] w fun e w' => e = .returned (.int .i64 (-1)) ∧ w = w' := by
  obtain ⟨a, c, rfl, hc1, hc2, hrd, _⟩ := hv
  have Hrd := Lib.hid hrd
  have HL := Lib.hid hL
  clear hrd hL
  go_enter Tryz.func186, Tryz.ntmps186
  go_wp2_with fail
  go_loopw [8] (fun i wr => ∃ k : Nat, k ≤ L.length ∧ i = .int .i64 k ∧ wr = w) (fun i _ => L.length - (intOf i).toNat)
  case atStart => exact ⟨0, Nat.zero_le _, rfl, rfl⟩
  case round =>
    obtain ⟨k, hk, rfl, rfl⟩ := hrel
    by_cases hlt : k < L.length
    · obtain ⟨g0, u, rfl, hc0, hru⟩ := Hrd.out k L[k] (List.getElem?_eq_getElem hlt)
      have hbl := HL.out L[k] (List.getElem_mem hlt)
      obtain ⟨ab, cb, rfl, _⟩ := hru
      rw [hbl] at hc0
      have hkn : (k : Int) < (L.length : Int) := by omega
      have hF := pfn_calls (w := wr) (a := ab) (c := cb) hc
      go_wp2_with (go_at_call 160; refine hF.mono ?_; rintro e w' ⟨rfl, rfl⟩)
      go_roundw
      case rel => exact ⟨k + 1, by omega, by go_num, trivial⟩
      case measure => simp [intOf]; omega
    · obtain rfl : k = L.length := by omega
      go_wp2_with fail
      go_ret
      exact ⟨rfl, rfl⟩

set_option maxRecDepth 100000 in
theorem pcontains_calls {w : World} {bx : Nat} {size : Nat} {v : Value} {L : List (List UInt8)} (hv : RdL w v L) (hL : ∀ x ∈ L, x.length = size) (hc : w.cell? ⟨bx, 3, none⟩ = some (.int .i64 size)) :
    Calls Tryz.prog 159 #[v, .func (.func 160) #[] #[.pointer (some ⟨bx, 0, none⟩)]] w fun e w' => e = .returned (.bool false) ∧ w = w' := by
  have hI := pindex_calls hv hL hc
  go_enter Tryz.func159, Tryz.ntmps159
  go_wp2_with fail
  refine hI.mono ?_
  rintro e w' ⟨rfl, rfl⟩
  go_wp2_with fail
  go_ret
  exact ⟨rfl, rfl⟩

theorem Pcs.eq {w : World} {B : Nat} {v : Value} {L L' : List (List UInt8)} (h : Pcs w B v L) (e : L = L') : Pcs w B v L' := e ▸ h

/-- A slice whose block meets Q. -/
def Up (Q : Nat → Prop) (u : Value) : Prop := ∀ (a : Addr) (n c : Nat), u = .slice (some a) n c → Q a.block
/-- Bytes to be read in a block that meets Q. -/
def RdA (Q : Nat → Prop) (w : World) (u : Value) (x : List UInt8) : Prop := RdS w u x ∧ Up Q u
theorem RdA.keepsNil {Q : Nat → Prop} {w w' : World} {u : Value} {x : List UInt8} (h : RdA Q w u x) (k : Keeps [] w w') : RdA Q w' u x := ⟨h.1.keepsNil k, h.2⟩
theorem Own.rda {w : World} {B B' : Nat} {v : Value} {l : List UInt8} (h : Own w B v l) (hB : B' ≤ B) : RdA (B' ≤ ·) w v l := by
  refine ⟨h.rds, fun a n c e => ?_⟩
  subst e
  obtain ⟨a', c', e', _, _, hb, _⟩ := h.rd
  simp only [Value.slice.injEq] at e'
  exact Nat.le_trans hB (hb a e'.1.symm).1
/-- Slices of bytes, all of whose blocks meet Q. -/
def PcsA (w : World) (B : Nat) (Q : Nat → Prop) (v : Value) (L : List (List UInt8)) : Prop :=
  ∃ vs, OwnX 22 w B v vs ∧ vs.length = L.length ∧ ∀ (i : Nat) (x : List UInt8), L[i]? = some x → ∃ u, vs[i]? = some u ∧ RdA Q w u x
theorem PcsA.nil (w : World) (B : Nat) (Q : Nat → Prop) : PcsA w B Q (.slice none 0 0) [] := ⟨[], OwnX.nil _ _ _, rfl, by simp⟩
theorem PcsA.pcs {w : World} {B : Nat} {Q : Nat → Prop} {v : Value} {L : List (List UInt8)} (h : PcsA w B Q v L) : Pcs w B v L := by
  obtain ⟨vs, hO, hl, he⟩ := h
  exact ⟨vs, hO, hl, fun i x hx => by obtain ⟨u, hu, hr⟩ := he i x hx; exact ⟨u, hu, hr.1⟩⟩
theorem PcsA.rdl {w : World} {B : Nat} {Q : Nat → Prop} {v : Value} {L : List (List UInt8)} (h : PcsA w B Q v L) : RdL w v L := h.pcs.rdl
theorem PcsA.keepsNil {w w' : World} {B : Nat} {Q : Nat → Prop} {v : Value} {L : List (List UInt8)} (h : PcsA w B Q v L) (k : Keeps [] w w') : PcsA w' B Q v L := by
  obtain ⟨vs, hO, hl, he⟩ := h
  exact ⟨vs, hO.keeps k (by simp), hl, fun i x hx => by obtain ⟨u, hu, hr⟩ := he i x hx; exact ⟨u, hu, hr.keepsNil k⟩⟩
theorem PcsA.mono {w : World} {B B' : Nat} {Q Q' : Nat → Prop} {v : Value} {L : List (List UInt8)} (h : PcsA w B Q v L) (hB : B' ≤ B) (hQ : ∀ x, Q x → Q' x) : PcsA w B' Q' v L := by
  obtain ⟨vs, hO, hl, he⟩ := h
  exact ⟨vs, hO.mono hB, hl, fun i x hx => by obtain ⟨u, hu, hr, hq⟩ := he i x hx; exact ⟨u, hu, hr, fun a n c e => hQ _ (hq a n c e)⟩⟩
theorem PcsA.snoc {w w' : World} {B : Nat} {Q : Nat → Prop} {v v' u : Value} {vs : List Value} {L : List (List UInt8)} {x : List UInt8} (hO : OwnX 22 w B v vs) (hl : vs.length = L.length) (he : ∀ (i : Nat) (x : List UInt8), L[i]? = some x → ∃ u, vs[i]? = some u ∧ RdA Q w u x)
    (hu : RdA Q w u x) (h' : OwnX 22 w' B v' (vs ++ [u])) (hg : w.grownBy w' v.ownBlock) : PcsA w' B Q v' (L ++ [x]) := by
  have hr : ∀ k, v.ownBlock = some k → ∃ cs, Blk w k 22 cs := fun k hk => (hO.block hk).2.2
  refine ⟨vs ++ [u], h', by simp [hl], fun i y hy => ?_⟩
  by_cases hi : i < L.length
  · rw [List.getElem?_append_left hi] at hy
    obtain ⟨z, hz, hzr⟩ := he i y hy
    exact ⟨z, by rw [List.getElem?_append_left (by omega)]; exact hz, hzr.1.grown hg hr, hzr.2⟩
  · rw [List.getElem?_append_right (by omega)] at hy
    have h0 : i - L.length = 0 := by
      rcases Nat.eq_zero_or_pos (i - L.length) with h0 | h0
      · exact h0
      · rw [List.getElem?_eq_none (by simp; omega)] at hy; cases hy
    rw [h0] at hy
    simp only [List.getElem?_cons_zero, Option.some.injEq] at hy
    subst hy
    exact ⟨u, by rw [List.getElem?_append_right (by omega), show i - vs.length = 0 from by omega]; rfl, hu.1.grown hg hr, hu.2⟩
theorem PcsA.eq {w : World} {B : Nat} {Q : Nat → Prop} {v : Value} {L L' : List (List UInt8)} (h : PcsA w B Q v L) (e : L = L') : PcsA w B Q v L' := e ▸ h
def PcsPostA (w : World) (L : List (List UInt8)) (e : Ending) (w' : World) : Prop := ∃ v, e = .returned v ∧ PcsA w' w.heap.size (w.heap.size ≤ ·) v L ∧ Keeps [] w w'

theorem parXs_at (s : UInt32) (nK n P : Nat) {k : Nat} (hk : k < P) : (parXs s nK n P)[k]? = some (parX s nK n k nK) := by simp [parXs, hk]

set_option maxRecDepth 100000 in
set_option maxHeartbeats 4000000 in
theorem ppieces_calls {w : World} {v : Value} {L : List (List UInt8)} (hv : RdL w v L) (s : UInt32) (nK P size : Nat) (h1 : 1 ≤ nK) (h2 : nK ≤ 64) (h3 : P ≤ 16) (h4 : 1 ≤ size) (h5 : size ≤ 16) (hLK : L.length = nK) (hL : ∀ x ∈ L, x.length = size) :
    Calls Tryz.prog 121 #[.agg #[B32 s, .int .i64 nK, .int .i64 P, .int .i64 size], v] w (PcsPostA w (ball s size L P)) := by
  have hok : PmOk (nK : Int) (P : Int) (size : Int) = true := by simp [PmOk]; omega
  have hM := may_calls (w := w.alloc (.cells #[B32 s, .int .i64 nK, .int .i64 P, .int .i64 size] 38)) s nK P size
  rw [hok] at hM
  have hmf : ∀ (fn : Fn) (first cap : Array Value) (w : World), (Instr.makeFunc fn first cap).run Tryz.prog w = .ok (.func fn first cap) w := fun _ _ _ _ => rfl
  have hB : Blk (w.alloc (.cells #[B32 s, .int .i64 nK, .int .i64 P, .int .i64 size] 38)) w.heap.size 38 [B32 s, .int .i64 nK, .int .i64 P, .int .i64 size] := Blk.newA w _ _
  have hk0 : Keeps [] w (w.alloc (.cells #[B32 s, .int .i64 nK, .int .i64 P, .int .i64 size] 38)) := (Keeps.refl _ _).alloc _
  have hmk := fun w => make_u8 size size (Nat.le_refl _) (by omega) w
  have hv0 := hv.keepsNil hk0
  clear hok hv
  have c0 := hB.cell' (i := 0) rfl
  have c1 := hB.cell' (i := 1) rfl
  have c2 := hB.cell' (i := 2) rfl
  have c3 := hB.cell' (i := 3) rfl
  obtain ⟨a, c, rfl, hc1, hc2, hrd, hnn⟩ := id hv0
  have Hv0 := Lib.hid hv0
  have HL := Lib.hid hL
  clear hv0 hrd hL hnn
  go_enter Tryz.func121, Tryz.ntmps121
  go_wp2_with fail
  generalize w.alloc (.cells #[B32 s, .int .i64 nK, .int .i64 P, .int .i64 size] 38) = w0 at *
  have hlk : ((L.length : Int) != (nK : Int)) = false := by rw [hLK]; simp
  have hl1 : 1 ≤ L.length ∧ L.length ≤ 64 := by omega
  have HLK := Lib.hid hLK
  clear hLK
  refine hM.mono ?_
  rintro e w1 ⟨rfl, kd⟩
  have d1 := kd.cell0 c1
  have d3 := kd.cell0 c3
  go_wp2_with fail
  refine (pcontains_calls (Hv0.out.keepsNil kd) HL.out (kd.cell0 c3)).mono ?_
  rintro e w' ⟨rfl, rfl⟩
  have Hv1 := Lib.hid (Hv0.out.keepsNil kd)
  have HB1 := Lib.hid (hB.keeps kd (by simp))
  have Hw1 := Lib.hid (hk0.trans kd)
  clear c0 c1 c2 c3 hB hk0 kd hM Hv0 d1 d3
  go_wp2_with fail
  go_loopw [5, 31] (fun o i wr => ∃ k : Nat, k ≤ L.length ∧ i = .int .i64 k ∧ PcsA wr w1.heap.size (w1.heap.size ≤ ·) o (L.take k) ∧ Keeps [] w1 wr) (fun _ i _ => L.length - (intOf i).toNat)
  case atStart => exact ⟨0, Nat.zero_le _, rfl, PcsA.nil _ _ _, Keeps.refl _ _⟩
  case round =>
    obtain ⟨k, hk, rfl, hP, hK⟩ := hrel
    by_cases hlt : k < L.length
    · obtain ⟨a', c', ea, _, _, hrd, _⟩ := Hv1.out.keepsNil hK
      simp only [Value.slice.injEq] at ea
      obtain ⟨rfl, _, rfl⟩ := ea
      obtain ⟨g0, u, rfl, hc0, hru⟩ := hrd k L[k] (List.getElem?_eq_getElem hlt)
      have hbl := HL.out L[k] (List.getElem_mem hlt)
      have hsn : L.take (k + 1) = L.take k ++ [L[k]] := by rw [List.take_add_one, List.getElem?_eq_getElem hlt]; rfl
      have htl : (L.take k).length = k := by rw [List.length_take]; omega
      generalize L[k] = b at *
      generalize L.take k = Lk at *
      obtain ⟨ab, cb, rfl, b1, b2, b3, b4, _⟩ := hru
      have hC := clone_calls (w := wr) ab b.length cb b b3 rfl (by omega) (fun h => (b4 h).1)
      rw [hbl] at hC hc0
      have HP := Lib.hid hP
      have HK := Lib.hid hK
      have Hsn := Lib.hid hsn
      have HC := Lib.hid hC
      have hkn : (k : Int) < (L.length : Int) := by omega
      clear hrd b3 b4 hP hK hsn hC
      go_wp2_with fail
      refine HC.out.mono ?_
      rintro e w2 ⟨v2, rfl, hO2, k2⟩
      obtain ⟨a2, c2, rfl, r1, r2, r3, r4, r5⟩ := hO2.rds
      have HU := Lib.hid (show RdA (w1.heap.size ≤ ·) w2 (.slice a2 b.length c2) b from hO2.rda HK.out.size)
      rw [hbl] at HU ⊢
      have HKW := Lib.hid k2
      clear r3 r4 r5 hO2 k2
      obtain ⟨vs, hO, hvl, hve⟩ := HP.out
      have kB : Keeps [] w2 (w2.alloc (.cells #[.slice a2 size c2] 22)) := (Keeps.refl [] w2).alloc _
      have HUB := Lib.hid ((show RdA (w1.heap.size ≤ ·) w2 (.slice a2 size c2) (b) from HU.out).keepsNil kB)
      have HOw := Lib.hid (hO.keeps (HKW.out.trans kB) (by simp))
      have Hve2 := Lib.hid (fun (i : Nat) (x : List UInt8) (hx : (Lk)[i]? = some x) => by obtain ⟨u, hu, hr⟩ := hve i x hx; exact (⟨u, hu, hr.keepsNil (HKW.out.trans kB)⟩ : ∃ u, vs[i]? = some u ∧ RdA (w1.heap.size ≤ ·) (w2.alloc (.cells #[.slice a2 size c2] 22)) u x))
      have HX := Lib.hid (show (w2.alloc (.cells #[.slice a2 size c2] 22)).cell? ⟨w2.heap.size, 0, none⟩ = some (.slice a2 size c2) from (Blk.newA w2 22 #[.slice a2 size c2]).cell' rfl)
      have hB : w1.heap.size ≤ (w2.alloc (.cells #[.slice a2 size c2] 22)).heap.size := by have := HK.out.size; have := HKW.out.size; simp; omega
      have hvl6 : vs.length ≤ 1000000 := by omega
      have HK2 := Lib.hid ((HK.out.trans HKW.out).trans kB)
      have Hvl := Lib.hid hvl
      clear hO hve kB hvl
      go_wp2_with (at_builtin; (refine wpList_append_bs rfl (.tmp 35) (.tmp 38) rfl HOw.out rfl (.slice a2 size c2) rfl _ 0 1 rfl HX.out hvl6 hB ?_); intro v3 w3 g1 g2 g3)
      go_roundw
      case rel =>
        refine ⟨k + 1, by omega, by go_num, ?_, HK2.out.grown g2 (fun x hx => .inr (HOw.out.block hx).1)⟩
        rw [Hsn.out]
        exact PcsA.snoc HOw.out Hvl.out Hve2.out HUB.out g1 g2
      case measure => simp [intOf]; omega
    · obtain rfl : k = L.length := by omega
      rw [List.take_length] at hP
      obtain ⟨O, hOd⟩ : ∃ O : Option Nat, O = u5.ownBlock := ⟨_, rfl⟩
      have hOb : ∀ x, O = some x → w1.heap.size ≤ x ∧ x < wr.heap.size ∧ ∃ cs, Blk wr x 22 cs := fun x hx => by obtain ⟨vs, hO, _, _⟩ := hP; exact hO.block (hOd ▸ hx)
      have hBr := HB1.out.keeps hK (by simp)
      have c0 := hBr.cell' (i := 0) rfl
      have c1 := hBr.cell' (i := 1) rfl
      have c2 := hBr.cell' (i := 2) rfl
      have c3 := hBr.cell' (i := 3) rfl
      have hP' := hP.eq (show L = L ++ bpars s size L 0 from (List.append_nil L).symm)
      have HPa := Lib.hid hP'
      have HKa := Lib.hid hK
      have HOb := Lib.hid hOb
      have HOd := Lib.hid hOd
      clear hP hP' hK hBr hOb hOd
      obtain ⟨wz, hwz⟩ : ∃ wz, wz = wr := ⟨_, rfl⟩
      subst hwz
      go_wp2_with fail
      refine (prows_calls s nK P size h1 h2 h3 h4 h5).mono ?_
      rintro e wv ⟨vr, rfl, hVR, kv⟩
      obtain ⟨ar, cr, rfl, hVe⟩ := hVR.rd
      rw [parXs_len] at *
      have HVe := Lib.hid hVe
      have HPv := Lib.hid (HPa.out.keepsNil kv)
      have HKv := Lib.hid (HKa.out.trans kv)
      have HOt := Lib.hid (fun (x : Nat) (hx : O = some x) => by obtain ⟨_, _, cs, hb⟩ := HOb.out x hx; exact (⟨cs, hb.keeps kv (by simp)⟩ : ∃ cs, Blk wv x 22 cs))
      have hwv := HKv.out.size
      clear hVR hVe kv c0 c1 c2 c3 HPa
      have hnK : nK ≤ nK + P := by omega
      have hn80 : nK + P ≤ 80 := by omega
      generalize nK + P = n at *
      go_wp2_with fail
      go_loopw [5, 44] (fun o i wr => ∃ k : Nat, k ≤ P ∧ i = .int .i64 k ∧ PcsA wr w1.heap.size (w1.heap.size ≤ ·) o (L ++ bpars s size L k) ∧ Keeps [] w1 wr ∧ Keeps O.toList wv wr ∧ Hid (∀ x, o.ownBlock = some x → O = some x ∨ wv.heap.size ≤ x)) (fun _ i _ => P - (intOf i).toNat)
      case atStart => exact ⟨0, Nat.zero_le _, rfl, HPv.out, HKv.out, Keeps.refl _ _, Lib.hid (fun x hx => .inl (by rw [HOd.out]; exact hx))⟩
      case round =>
        clear HPv
        obtain ⟨k, hk, rfl, hP, hK, hKO, Hown⟩ := hrel
        by_cases hlt : k < P
        · obtain ⟨g0, vp, vg, rfl, hg0, cv, hVv⟩ := HVe.out k _ (parXs_at s nK n P hlt)
          have cv' : wr.cell? ⟨g0, k, none⟩ = some (.pointer (some ⟨vp, 0, none⟩)) := (World.cell?_of_block (a := ⟨g0, k, none⟩) (hKO.block g0 (World.block_lt_of_cell? wv _ cv) (fun hm => by have := HOb.out g0 (by simpa using hm); omega))).trans cv
          have hV := hVv.keeps hKO (fun hm => by obtain ⟨cs, hb⟩ := HOt.out vp (by simpa using hm); exact hVv.b.ne hb (by decide) rfl) (fun hm => by obtain ⟨cs, hb⟩ := HOt.out vg (by simpa using hm); exact hVv.r.ne hb (by decide) rfl)
          have hBr := HB1.out.keeps hK (by simp)
          have c3 := hBr.cell' (i := 3) rfl
          have Hvo := Lib.hid (Hv1.out.keepsNil hK)
          have HV := Lib.hid hV
          have HP := Lib.hid hP
          have HK := Lib.hid hK
          have HKO := Lib.hid hKO
          have hki : (k : Int) < (P : Int) := by omega
          have hxb : ∀ i, i < nK → (parX s nK n k nK).testBit i = parB s k i := fun i hi => parX_bit s nK n k nK i hi (Nat.le_refl _)
          have hbp := bpars_succ s size L k
          have hpz : psum (parB s k) size L 0 = zer size := rfl
          have hpl := fun i (hi : i ≤ L.length) => psum_len (f := parB s k) (size := size) (L := L) HL.out i hi
          have hpu : ∀ i, psum (parB s k) size L (i + 1) = if parB s k i then xorL (psum (parB s k) size L i) (L.getD i []) else psum (parB s k) size L i := fun i => rfl
          have hbpl : (bpars s size L k).length = k := by simp [bpars]
          generalize bpars s size L k = Bk at *
          generalize psum (parB s k) size L = ps at *
          generalize parX s nK n k nK = X at *
          generalize parB s k = f at *
          have Hxb := Lib.hid hxb
          have Hbp := Lib.hid hbp
          have Hpl := Lib.hid hpl
          have Hpu := Lib.hid hpu
          have HG := Lib.hid (show Blk (wr.alloc (.cells (zeros size) 5)) wr.heap.size 5 ((ps 0).map B8) from by
            have := Blk.newA wr 5 (zeros size)
            rw [hpz]
            simpa [zeros, zer] using this)
          have HKw := Lib.hid ((Keeps.refl [] wr).alloc (.cells (zeros size) 5))
          obtain ⟨wo, hwo⟩ : ∃ wo, wo = wr := ⟨_, rfl⟩
          subst hwo
          clear cv hV hVv hP hK hKO hBr hxb hbp hpl hpu hpz
          go_wp2_with fail
          obtain ⟨sg, hsgd⟩ : ∃ sg, sg = wo.heap.size := ⟨_, rfl⟩
          have HGb : Hid (wo.heap.size ≤ sg) := Lib.hid (by omega)
          rw [← hsgd] at HG ⊢
          clear hsgd
          generalize wo.alloc (.cells (zeros size) 5) = wm at *
          go_loopw [53] (fun x wr => ∃ i : Nat, i ≤ L.length ∧ x = .int .i64 i ∧ Blk wr sg 5 ((ps i).map B8) ∧ Keeps [] wo wr) (fun x _ => L.length - (intOf x).toNat)
          case atStart => exact ⟨0, Nat.zero_le _, rfl, HG.out, HKw.out⟩
          case round =>
            clear HG HKw
            obtain ⟨i, hi, rfl, hG, hKi⟩ := hrel
            by_cases hil : i < L.length
            · obtain ⟨a', c', ea, _, _, hrd, _⟩ := Hvo.out
              simp only [Value.slice.injEq] at ea
              obtain ⟨rfl, _, rfl⟩ := ea
              obtain ⟨g1, u, rfl, hc0, hru⟩ := hrd i L[i] (List.getElem?_eq_getElem hil)
              have hbl := HL.out L[i] (List.getElem_mem hil)
              have hpu := Hpu.out i
              rw [List.getD_eq_getElem?_getD, List.getElem?_eq_getElem hil, Option.getD_some] at hpu
              have hpl := Hpl.out i (by omega)
              have Hpb := Lib.hid (Hxb.out i (by have := HLK.out; omega))
              generalize L[i] = b at *
              generalize hA : ps i = A at *
              obtain ⟨ab, cb, rfl, b1, b2, b3, b4, _⟩ := hru
              rw [hbl] at hc0
              have hcr := hKi.cell0 hc0
              have HRd := Lib.hid b3
              have HA := Lib.hid hpl
              have Hps := Lib.hid hpu
              have HKi := Lib.hid hKi
              have hin : i < n := by have := HLK.out; omega
              have hil' : (i : Int) < (L.length : Int) := by omega
              clear hrd b3 b4 hc0 hpu hKi hA
              cases hf : f i
              · rw [hf] at Hpb
                have Hf := Lib.hid (show ¬ f i = true from by rw [hf]; simp)
                have HG0 := Lib.hid hG
                clear hG hf
                go_wp2_with fail
                go_loopw [60] (fun x wx => ∃ q : Nat, q ≤ size ∧ x = .int .i64 q ∧ Blk wx sg 5 ((A).map B8) ∧ Keeps [] wo wx) (fun x _ => size - (intOf x).toNat)
                case atStart => exact ⟨0, Nat.zero_le _, rfl, HG0.out, HKi.out⟩
                case round =>
                  clear HG0 HKi
                  obtain ⟨q, hq, rfl, hG, hKq⟩ := hrel
                  by_cases hql : q < size
                  · have hVq := (HV.out.keeps hKq (by simp) (by simp))
                    have hH := vhas_calls hVq (i : Int)
                    rw [decide_eq_true (show 0 ≤ (i : Int) ∧ (i : Int) < n by omega), Bool.true_and, Int.toNat_natCast, Hpb.out] at hH
                    have hqi : (q : Int) < (size : Int) := by omega
                    have HG := Lib.hid hG
                    have HKq := Lib.hid hKq
                    clear hG hKq hVq
                    go_wp2_with fail
                    refine hH.mono ?_
                    rintro e w' ⟨rfl, rfl⟩
                    go_wp2_with fail
                    go_roundw
                    case rel => exact ⟨q + 1, by omega, by go_num, HG.out, HKq.out⟩
                    case measure => simp [intOf]; omega
                  · obtain rfl : q = size := by omega
                    have HG := Lib.hid hG
                    have HKq := Lib.hid hKq
                    clear hG hKq
                    go_wp2_with fail
                    go_roundw
                    case rel => exact ⟨i + 1, by omega, by go_num, by rw [Hps.out]; rw [if_neg Hf.out]; exact HG.out, HKq.out⟩
                    case measure => simp [intOf]; omega
              · rw [hf] at Hpb
                have Hf := Lib.hid hf
                have HG0 := Lib.hid (show Blk wr sg 5 ((xorTo A b 0).map B8) from by rw [xorTo_zero]; exact hG)
                clear hG hf
                go_wp2_with fail
                go_loopw [60] (fun x wx => ∃ q : Nat, q ≤ size ∧ x = .int .i64 q ∧ Blk wx sg 5 ((xorTo A b q).map B8) ∧ Keeps [] wo wx) (fun x _ => size - (intOf x).toNat)
                case atStart => exact ⟨0, Nat.zero_le _, rfl, HG0.out, HKi.out⟩
                case round =>
                  clear HG0 HKi
                  obtain ⟨q, hq, rfl, hG, hKq⟩ := hrel
                  by_cases hql : q < size
                  · have hVq := (HV.out.keeps hKq (by simp) (by simp))
                    have hH := vhas_calls hVq (i : Int)
                    rw [decide_eq_true (show 0 ≤ (i : Int) ∧ (i : Int) < n by omega), Bool.true_and, Int.toNat_natCast, Hpb.out] at hH
                    have hqi : (q : Int) < (size : Int) := by omega
                    obtain ⟨bb, oo, rfl, cb⟩ := (HRd.out.keepsNil hKq) q (b.getD q 0) (by rw [List.getD_eq_getElem?_getD, List.getElem?_eq_getElem (by omega)]; rfl)
                    have hgt := xorTo_getD (a := A) (b := b) (by omega) (k := q) (by omega)
                    have hset := xorTo_set (a := A) (b := b) (by omega) (k := q) (by omega)
                    rw [hgt] at hset
                    have cg : wr.cell? ⟨sg, q, none⟩ = some (B8 (A.getD q 0)) := hG.cell' (by
                      rw [List.getElem?_map, List.getElem?_eq_getElem (by rw [xorTo_len (by omega)]; omega)]
                      rw [List.getD_eq_getElem?_getD, List.getElem?_eq_getElem (by rw [xorTo_len (by omega)]; omega)] at hgt
                      rw [← hgt]; rfl)
                    have fr := hG.frozen q
                    have hS := hG.set q (B8 (A.getD q 0 ^^^ b.getD q 0))
                    rw [map_set8, hset] at hS
                    have hx8 := xor_byte (A.getD q 0) (b.getD q 0)
                    have HS := Lib.hid hS
                    have HKq := Lib.hid (hKq.setCell (p := ⟨sg, q, none⟩) (.inr HGb.out) (B8 (A.getD q 0 ^^^ b.getD q 0)))
                    clear hgt hset hS hG hKq hVq
                    generalize A.getD q 0 = x at *
                    generalize b.getD q 0 = y at *
                    go_wp2_with fail
                    refine hH.mono ?_
                    rintro e w' ⟨rfl, rfl⟩
                    go_wp2_with fail
                    go_region
                    go_wp2_with fail
                    go_roundw
                    case rel => exact ⟨q + 1, by omega, by go_num, HS.out.drew, HKq.out.drew⟩
                    case measure => simp [intOf]; omega
                  · obtain rfl : q = size := by omega
                    have HG := Lib.hid hG
                    have HKq := Lib.hid hKq
                    clear hG hKq
                    go_wp2_with fail
                    go_roundw
                    case rel => exact ⟨i + 1, by omega, by go_num, by rw [Hps.out]; rw [if_pos Hf.out, ← (show xorTo A b q = xorL A b from by have := xorTo_all (a := A) (b := b) (by omega); rwa [HA.out] at this)]; exact HG.out, HKq.out⟩
                    case measure => simp [intOf]; omega
            · obtain rfl : i = L.length := by omega
              have hplen := Hpl.out L.length (Nat.le_refl _)
              have HU := Lib.hid (show RdA (w1.heap.size ≤ ·) wr (.slice (some ⟨sg, 0, none⟩) size size) (ps L.length) from ⟨⟨some ⟨sg, 0, none⟩, size, by rw [hplen], by omega, by omega, Rd.blk hG 0 _ (fun j u hu => by rw [Nat.zero_add, List.getElem?_map, hu]; rfl), by simp, fun x hx _ => by simp only [Option.some.injEq] at hx; subst hx; exact ⟨_, hG⟩⟩, fun a n c e => by simp only [Value.slice.injEq, Option.some.injEq] at e; rw [← e.1]; exact Nat.le_trans HK.out.size HGb.out⟩)
              have HKW := Lib.hid hKi
              have HKO2 := Lib.hid ((HKO.out.trans' hKi (fun _ h => .inl h) (by simp)).alloc (.cells #[.slice (some ⟨sg, 0, none⟩) size size] 22))
              have hwo := HKO.out.size
              have hwr := hKi.size
              have Hown2 := Hown
              have Hsn := Lib.hid (show L ++ bpars s size L (k + 1) = (L ++ Bk) ++ [ps L.length] from by rw [Hbp.out, List.append_assoc])
              have hpv : (L ++ Bk).length ≤ 100000 := by rw [List.length_append]; omega
              clear hG hKi hplen
              obtain ⟨vs, hO, hvl, hve⟩ := HP.out
              have kB : Keeps [] wr (wr.alloc (.cells #[.slice (some ⟨sg, 0, none⟩) size size] 22)) := (Keeps.refl [] wr).alloc _
              have HUB := Lib.hid ((show RdA (w1.heap.size ≤ ·) wr (.slice (some ⟨sg, 0, none⟩) size size) (ps L.length) from HU.out).keepsNil kB)
              have HOw := Lib.hid (hO.keeps (HKW.out.trans kB) (by simp))
              have Hve2 := Lib.hid (fun (i : Nat) (x : List UInt8) (hx : (L ++ Bk)[i]? = some x) => by obtain ⟨u, hu, hr⟩ := hve i x hx; exact (⟨u, hu, hr.keepsNil (HKW.out.trans kB)⟩ : ∃ u, vs[i]? = some u ∧ RdA (w1.heap.size ≤ ·) (wr.alloc (.cells #[.slice (some ⟨sg, 0, none⟩) size size] 22)) u x))
              have HX := Lib.hid (show (wr.alloc (.cells #[.slice (some ⟨sg, 0, none⟩) size size] 22)).cell? ⟨wr.heap.size, 0, none⟩ = some (.slice (some ⟨sg, 0, none⟩) size size) from (Blk.newA wr 22 #[.slice (some ⟨sg, 0, none⟩) size size]).cell' rfl)
              have hB : w1.heap.size ≤ (wr.alloc (.cells #[.slice (some ⟨sg, 0, none⟩) size size] 22)).heap.size := by have := HK.out.size; have := HKW.out.size; simp; omega
              have hvl6 : vs.length ≤ 1000000 := by omega
              have HK2 := Lib.hid ((HK.out.trans HKW.out).trans kB)
              have Hvl := Lib.hid hvl
              clear hO hve kB hvl
              go_wp2_with (at_builtin; (refine wpList_append_bs rfl (.tmp 78) (.tmp 80) rfl HOw.out rfl (.slice (some ⟨sg, 0, none⟩) size size) rfl _ 0 1 rfl HX.out hvl6 hB ?_); intro v3 w3 g1 g2 g3)
              go_roundw
              case rel =>
                refine ⟨k + 1, by omega, by go_num, ?_, HK2.out.grown g2 (fun x hx => .inr (HOw.out.block hx).1), HKO2.out.grown g2 (fun x hx => by rcases Hown2.out x hx with h | h; exact .inl (by simp [h]); exact .inr h), Lib.hid (fun x hx => by rcases g3 x hx with h | h; exact Hown2.out x h; exact .inr (by simp at h; omega))⟩
                rw [Hsn.out]
                exact PcsA.snoc HOw.out Hvl.out Hve2.out HUB.out g1 g2
              case measure => simp [intOf]; omega
        · obtain rfl : k = P := by omega
          have HP := Lib.hid hP
          have HKr := Lib.hid hK
          have hsw := Hw1.out.size
          clear hP hK hKO
          go_wp2_with fail
          go_ret
          exact ⟨_, rfl, HP.out.mono hsw (fun x hx => Nat.le_trans hsw hx), Hw1.out.trans HKr.out⟩

end Go.Proofs.YtijhaeapoapgfaaGreatDoor
