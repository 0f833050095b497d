/-
  GrRfM2: the texts RfM2, one behind another.
-/
import Derived.Test.YtijhaeapoapgfaaGreatDoorGrRfM1
import Derived.Test.YtijhaeapoapgfaaGreatDoorGrApRow
set_option linter.unusedVariables false
set_option linter.unusedSimpArgs false
namespace Go.Proofs.YtijhaeapoapgfaaGreatDoor
open Go.RowKit
attribute [local go_sem ↓] Go.wp_at_zero Go.wp_at_succ

/-- The reference's matrix; its struct in block pm, all else in blocks that meet Q. -/
structure RMx (w : World) (pm : Nat) (Q : Nat → Prop) (n z : Nat) (M : Mtx) : Prop where
  b : ∃ v, Blk w pm 105 [.int .i64 n, .int .i64 z, v] ∧ LnR w 0 Q v n (lns M n)
  e : Ech n z M
  n1 : 1 ≤ n
  n2 : n ≤ 256
  z1 : 1 ≤ z
  z2 : z ≤ 16
  nq : ¬ Q pm
theorem RMx.keeps {S : List Nat} {w w' : World} {pm : Nat} {Q : Nat → Prop} {n z : Nat} {M : Mtx} (h : RMx w pm Q n z M) (k : Keeps S w w') (hp : pm ∉ S) (hS : ∀ x, x ∈ S → ¬ Q x) : RMx w' pm Q n z M := by
  obtain ⟨v, hb, hl⟩ := h.b
  exact ⟨⟨v, hb.keeps k hp, hl.keeps k hS⟩, h.e, h.n1, h.n2, h.z1, h.z2, h.nq⟩
theorem RMx.keepsNil {w w' : World} {pm : Nat} {Q : Nat → Prop} {n z : Nat} {M : Mtx} (h : RMx w pm Q n z M) (k : Keeps [] w w') : RMx w' pm Q n z M := h.keeps k (by simp) (by simp)
theorem RMx.mono {w : World} {pm : Nat} {Q Q' : Nat → Prop} {n z : Nat} {M : Mtx} (h : RMx w pm Q n z M) (hQ : ∀ x, Q x → Q' x) (hq : ¬ Q' pm) : RMx w pm Q' n z M := by
  obtain ⟨v, hb, hl⟩ := h.b
  exact ⟨⟨v, hb, hl.mono (Nat.le_refl _) hQ⟩, h.e, h.n1, h.n2, h.z1, h.z2, hq⟩

theorem firstB_ge {n X : Nat} (hX : X < 2 ^ n) : decide ((0 : Int) ≤ firstB n X) = decide (X ≠ 0) := by
  by_cases h : X = 0
  · subst h; rw [firstB_zero]; decide
  · obtain ⟨a, _, ha, _⟩ := firstB_some hX h
    rw [ha, decide_eq_true h]
    exact decide_eq_true (by omega)

set_option maxRecDepth 100000 in
set_option maxHeartbeats 1600000 in
theorem rsays_calls {w : World} {pm n z : Nat} {Q : Nat → Prop} {M : Mtx} (h : RMx w pm Q n z M) {gv X : Nat} (hX : BlAt w gv (bl n X)) (hXl : X < 2 ^ n) (d : List UInt8) :
    Calls Tryz.prog 93 #[P0 pm, .slice (some ⟨gv, 0, none⟩) n n] w fun e w' => e = .returned (.bool (decide ((red M ⟨X, d⟩).x ≠ 0))) ∧ Keeps [] w w' := by
  obtain ⟨v, hb, hL⟩ := h.b
  have hn2 := h.n2
  have hz2 := h.z2
  have hz1 := h.z1
  have hmk := fun w => make_u8 z z (Nat.le_refl _) (by omega) w
  have e0 : decide ((red M ⟨X, d⟩).x ≠ 0) = decide ((red M ⟨X, zer z⟩).x ≠ 0) := by
    by_cases hr : (red M ⟨X, d⟩).x = 0
    · have : (red M ⟨X, zer z⟩).x = 0 := by rw [red_in] at hr ⊢; exact hr
      simp [hr, this]
    · have : ¬ (red M ⟨X, zer z⟩).x = 0 := fun h2 => hr (by rw [red_in] at h2 ⊢; exact h2)
      simp [hr, this]
  rw [e0]
  have kA : Keeps [] w (w.alloc (.cells (zeros z) 5)) := (Keeps.refl [] w).alloc _
  have hB0 : Blk (w.alloc (.cells (zeros z) 5)) w.heap.size 5 ((zer z).map B8) := by have := Blk.newA w 5 (zeros z); simpa [zeros, zer] using this
  have HR := Lib.hid (rreduce_calls (hb.keeps kA (by simp)) (hL.keeps kA (by simp)) h.e hn2 hz2 (hX.keeps kA (by simp)) (RdS.blk hB0 (zer_len z) (by omega)) (zer_len z) hXl)
  have hlt := (red_len h.e (r := ⟨X, zer z⟩) hXl (zer_len z)).1
  have Hge := Lib.hid (firstB_ge hlt)
  have c0 := hb.cell' (i := 0) rfl
  have c1 := hb.cell' (i := 1) rfl
  have HkA := Lib.hid kA
  have hnn : ((n : Int) != (n : Int)) = false := by simp
  generalize red M ⟨X, zer z⟩ = r at *
  clear hB0 kA hb hL hX h hXl e0 hlt
  go_enter Tryz.func93, Tryz.ntmps93
  go_wp2_with fail
  generalize w.alloc (.cells (zeros z) 5) = w0 at *
  refine HR.out.mono ?_
  rintro e w1 ⟨g, u, rfl, hg, _, k1⟩
  have HF := Lib.hid (rfirst_calls hg hn2 n (Nat.le_refl _) (by omega))
  have HK := Lib.hid (HkA.out.trans k1)
  clear hg k1 HR c0 c1
  have hge := Hge.out
  generalize firstB n r.x = f at *
  go_wp2_with fail
  refine HF.out.mono ?_
  rintro e w2 ⟨rfl, rfl⟩
  go_wp2_with fail
  go_ret
  exact ⟨(by show Ending.returned (.bool (!decide (r.x = 0))) = _; simp), HK.out⟩

set_option maxRecDepth 100000 in
set_option maxHeartbeats 1600000 in
theorem rnewmx_calls {w : World} (n z : Nat) (n1 : 1 ≤ n) (n2 : n ≤ 256) (z1 : 1 ≤ z) (z2 : z ≤ 16) :
    Calls Tryz.prog 57 #[.int .i64 n, .int .i64 z] w fun e w' => ∃ pm, e = .returned (P0 pm) ∧ w.heap.size ≤ pm ∧ pm < w'.heap.size ∧ (∀ Q : Nat → Prop, ¬ Q pm → RMx w' pm Q n z (mnew n)) ∧ Keeps [] w w' := by
  have kA : Keeps [] w (w.alloc (.cells #[.int .i64 n, .int .i64 z, .slice none 0 0] 105)) := (Keeps.refl [] w).alloc _
  have hB := Blk.newA w 105 #[.int .i64 n, .int .i64 z, .slice none 0 0]
  have hl0 : lns (mnew n) n = [] := by
    unfold lns lnP
    rw [List.map_eq_nil_iff, List.filterMap_eq_nil_iff]
    intro a ha
    have : (mnew n).at a = none := by
      unfold Mtx.at mnew
      rw [List.getD_eq_getElem?_getD, List.getElem?_replicate]
      split <;> rfl
    rw [this]; rfl
  have HX : Hid (∀ Q : Nat → Prop, ¬ Q w.heap.size → RMx (w.alloc (.cells #[.int .i64 n, .int .i64 z, .slice none 0 0] 105)) w.heap.size Q n z (mnew n)) := Lib.hid (fun Q hq => ⟨⟨_, hB, by rw [hl0]; exact LnR.nil _ _ _ _⟩, mnew_ech n z, n1, n2, z1, z2, hq⟩)
  have Hl := Lib.hid hB.lt
  have HK := Lib.hid kA
  have t1 : ¬ ((n : Int) < 1) := by omega
  have t2 : ¬ ((256 : Int) < (n : Int)) := by omega
  have t3 : ¬ ((z : Int) < 1) := by omega
  have t4 : ¬ ((16 : Int) < (z : Int)) := by omega
  clear hB kA hl0
  go_enter Tryz.func57, Tryz.ntmps57
  go_wp2_with fail
  go_ret
  exact ⟨_, rfl, Nat.le_refl _, Hl.out, HX.out, HK.out⟩

/-- What Add comes to. -/
def RAddM (w : World) (pm : Nat) (Q : Nat → Prop) (n z : Nat) (M : Mtx) (r : Rw) (e : Ending) (w' : World) : Prop :=
  e = .returned (.bool (decide ((red M r).x ≠ 0))) ∧ RMx w' pm (fun x => Q x ∨ w.heap.size ≤ x) n z (mAdd n M r) ∧ Keeps [pm] w w' ∧ ((red M r).x = 0 → Keeps [] w w')

theorem fin_add {w w2 wr : World} {pm n z : Nat} {Q : Nat → Prop} {v vl : Value} {M M' : Mtx} {r0 : Rw} {l : List Rw} (hb : Blk wr pm 105 [.int .i64 n, .int .i64 z, v]) (hpl : pm < w.heap.size) (hL : LnR wr w2.heap.size (fun x => Q x ∨ w2.heap.size ≤ x) vl n l) (he : l = lns M' n) (k : Keeps [] w wr) (hE : Ech n z M') (n1 : 1 ≤ n) (n2 : n ≤ 256) (z1 : 1 ≤ z) (z2 : z ≤ 16) (nq : ¬ Q pm) (hs : w.heap.size ≤ w2.heap.size) (h0 : (red M r0).x ≠ 0) (hM : M' = mAdd n M r0) :
    Ending.returned (.bool true) = .returned (.bool (decide ((red M r0).x ≠ 0))) ∧ RMx (wr.setCell ⟨pm, 2, none⟩ vl) pm (fun x => Q x ∨ w.heap.size ≤ x) n z (mAdd n M r0) ∧ Keeps [pm] w (wr.setCell ⟨pm, 2, none⟩ vl) ∧ ((red M r0).x = 0 → Keeps [] w (wr.setCell ⟨pm, 2, none⟩ vl)) := by
  subst he
  have kp : Keeps [pm] wr (wr.setCell ⟨pm, 2, none⟩ vl) := (Keeps.refl [pm] wr).setCell (by simp) _
  have hnn : ¬ (Q pm ∨ w2.heap.size ≤ pm) := fun hq => hq.elim nq (fun h => by omega)
  have hl2 := (hL.keeps kp (fun x hx hq => by simp only [List.mem_singleton] at hx; subst hx; exact hnn hq)).mono (B' := 0) (Q' := fun x => Q x ∨ w.heap.size ≤ x) (Nat.zero_le _) (fun x hx => hx.imp (fun h => h) (fun h => Nat.le_trans hs h))
  refine ⟨by rw [decide_eq_true h0], ?_, (k.nil (S := [pm])).trans kp, fun h => absurd h h0⟩
  rw [← hM]
  exact ⟨⟨vl, hb.set 2 vl, hl2⟩, hE, n1, n2, z1, z2, fun hq => hq.elim nq (fun h => by omega)⟩

set_option maxRecDepth 100000 in
set_option maxHeartbeats 6400000 in
theorem raddm_calls {w : World} {pm n z : Nat} {Q : Nat → Prop} {M : Mtx} (h : RMx w pm Q n z M) {gv X : Nat} (hX : BlAt w gv (bl n X)) (hXl : X < 2 ^ n) {ad : Option Addr} {cd : Nat} {d : List UInt8} (hd : RdS w (.slice ad z cd) d) (hdz : d.length = z) :
    Calls Tryz.prog 59 #[P0 pm, .slice (some ⟨gv, 0, none⟩) n n, .slice ad z cd] w (RAddM w pm Q n z M ⟨X, d⟩) := by
  have hS := rsays_calls h hX hXl d
  obtain ⟨v, hb, hL⟩ := h.b
  have hn2 := h.n2
  have hn1 := h.n1
  have hz2 := h.z2
  have hz1 := h.z1
  have hpml := hb.lt
  have c0 := hb.cell' (i := 0) rfl
  have c1 := hb.cell' (i := 1) rfl
  have c2 := hb.cell' (i := 2) rfl
  have hzz : ((z : Int) != (z : Int)) = false := by simp
  rcases mAdd_cases h.e (r := ⟨X, d⟩) hXl hdz with ⟨h0, hm⟩ | ⟨h0, a, ha, hna, hm⟩
  · rw [decide_eq_false (by intro hn; exact hn h0)] at hS
    have HS := Lib.hid hS
    have HH := Lib.hid h
    have Hm := Lib.hid hm
    have H0 := Lib.hid h0
    clear hS h hb hL hX hd hm h0 c2
    go_enter Tryz.func59, Tryz.ntmps59
    go_wp2_with fail
    refine HS.out.mono ?_
    rintro e w1 ⟨rfl, k1⟩
    have HH1 := Lib.hid ((HH.out.keepsNil k1).mono (Q' := fun x => Q x ∨ w.heap.size ≤ x) (fun x hx => .inl hx) (fun hx => hx.elim HH.out.nq (fun h2 => by omega)))
    go_wp2_with fail
    go_ret
    exact ⟨by rw [decide_eq_false (by intro hn; exact hn H0.out)]; rfl, by rw [Hm.out]; exact HH1.out, k1.nil, fun _ => k1⟩
  · rw [decide_eq_true h0] at hS
    obtain ⟨hrl, hrd⟩ := red_len h.e (r := ⟨X, d⟩) hXl hdz
    have hfa : firstB n (red M ⟨X, d⟩).x = (a : Int) := by
      obtain ⟨a', ha', hf', hb1, hb2⟩ := firstB_some hrl h0
      have hma : mAdd n M ⟨X, d⟩ = madd M a' (red M ⟨X, d⟩) := by unfold mAdd; rw [if_neg h0, hf', Int.toNat_natCast]
      rw [hf']
      rcases Nat.lt_trichotomy a' a with hlt | heq | hgt
      · exfalso
        have e1 := congrArg (fun m : Mtx => m.at a) (hma.symm.trans hm)
        have hE' := mAdd_ech h.e (r := ⟨X, d⟩) hXl hdz
        rw [hm] at hE'
        have h1 : (madd M a (red M ⟨X, d⟩)).at a = some (red M ⟨X, d⟩) := by rw [madd_at M a _ (by rw [h.e.l]; exact ha) (by rw [h.e.l]; exact ha), if_pos rfl]
        have := hE'.low a _ h1 a' hlt
        rw [hb1] at this; cases this
      · rw [heq]
      · exfalso
        have hE' := mAdd_ech h.e (r := ⟨X, d⟩) hXl hdz
        rw [hm] at hE'
        have h1 : (madd M a (red M ⟨X, d⟩)).at a = some (red M ⟨X, d⟩) := by rw [madd_at M a _ (by rw [h.e.l]; exact ha) (by rw [h.e.l]; exact ha), if_pos rfl]
        have := hE'.piv a _ h1
        rw [hb2 a hgt] at this; cases this
    have hE2 := mAdd_ech h.e (r := ⟨X, d⟩) hXl hdz
    have hall := madd_all h.e (r := red M ⟨X, d⟩) ha hna
    rw [← hm] at hall
    have hRd := fun (W : World) (k : Keeps [] w W) => rreduce_calls (hb.keeps k (by simp)) (hL.keeps k (by simp)) h.e hn2 hz2 (hX.keeps k (by simp)) (hd.keepsNil k) hdz hXl
    have hPl := lnP_len M n
    have hLl := lns_len M n
    have hat : ∀ (j : Nat) (p : Nat × Rw), (lnP M n)[j]? = some p → (lns M n)[j]? = some p.2 ∧ firstB n p.2.x = (p.1 : Int) ∧ p.1 < n ∧ p.2.d.length = z ∧ p.2.x < 2 ^ n := fun j p hp => by
      have hm := List.mem_of_getElem? hp
      have h1 := first_lnP h.e hm
      have h2 := lnP_mem hm
      refine ⟨?_, h1.1, h1.2, h.e.d _ _ h2.2, h.e.lt _ _ h2.2⟩
      unfold lns
      rw [List.getElem?_map, hp]; rfl
    obtain ⟨al, cl, rfl, hc1, hc2⟩ := hL.form
    have Hn0 := Lib.hid h0
    have hmk := fun w => make_bools n (by omega) w
    have Hnq := Lib.hid h.nq
    clear hm hna
    generalize hMe : mAdd n M ⟨X, d⟩ = M' at *
    generalize lns M n = LL at *
    generalize lnP M n = P at *
    generalize hre : red M ⟨X, d⟩ = r at *
    have HMe := Lib.hid hMe
    have Hre := Lib.hid hre
    clear hMe hre
    have HS := Lib.hid hS
    have HL := Lib.hid hL
    have HB := Lib.hid hb
    have HRd := Lib.hid hRd
    have Hall := Lib.hid hall
    have HE2 := Lib.hid hE2
    have Hat := Lib.hid hat
    have HLl := Lib.hid hLl
    have Hfa := Lib.hid hfa
    have Hrl := Lib.hid hrl
    have Hrd := Lib.hid hrd
    have hPn : P.length ≤ n := hPl
    rw [hLl] at c2 hc1
    have hai : (a : Int) < (n : Int) := by omega
    clear hS hL hb hRd hall hE2 hat hLl hfa hrl hrd hX hd h hPl h0
    unfold RAddM
    go_enter Tryz.func59, Tryz.ntmps59
    go_wp2_with fail
    refine HS.out.mono ?_
    rintro e w1 ⟨rfl, k1⟩
    have HK1 := Lib.hid k1
    have HRd1 := Lib.hid (HRd.out w1 k1)
    have m0 := k1.cell0 c0
    have m2 := k1.cell0 c2
    clear k1 HS HRd c0 c1 c2
    go_wp2_with fail
    refine HRd1.out.mono ?_
    rintro e w2 ⟨gr, ur, rfl, hgr, hur, k2⟩
    obtain ⟨aw, cw, rfl, u1, u2, _⟩ := id hur
    rw [Hrd.out] at hur u1 ⊢
    have HGr := Lib.hid hgr
    have HUr := Lib.hid hur
    have HK2 := Lib.hid (HK1.out.trans k2)
    have HF := Lib.hid (rfirst_calls hgr hn2 n (Nat.le_refl _) (by omega))
    rw [Hfa.out] at HF
    have n0 := k2.cell0 m0
    have n2' := k2.cell0 m2
    clear hgr hur k2 HRd1 m0 m2
    go_wp2_with fail
    refine HF.out.mono ?_
    rintro e w3 ⟨rfl, rfl⟩
    go_wp2_with fail
    have hr0 : ([], false) = (P.take 0).foldl (stA a r) ([], false) := rfl
    go_loopw [8, 9, 39] (fun vl vp i wr => ∃ (j : Nat) (l : List Rw) (put : Bool) (vx : Value), j ≤ P.length ∧ i = .int .i64 j ∧ vp = .bool put ∧ vx = vl ∧ LnR wr w2.heap.size (fun x => Q x ∨ w2.heap.size ≤ x) vx n l ∧ Hid ((l, put) = (P.take j).foldl (stA a r) ([], false)) ∧ Keeps [] w2 wr) (fun _ _ i _ => P.length - (intOf i).toNat)
    case atStart => exact ⟨0, [], false, _, Nat.zero_le _, rfl, rfl, rfl, LnR.nil _ _ _ _, Lib.hid hr0, Keeps.refl _ _⟩
    case round =>
      obtain ⟨j, l, put, vlx, hj, rfl, rfl, rfl, hLx, hst0, hK⟩ := hrel
      by_cases hlt : j < P.length
      · have hji : (j : Int) < (P.length : Int) := by omega
        obtain ⟨pq, hp⟩ : ∃ pq, P[j]? = some pq := ⟨_, List.getElem?_eq_getElem hlt⟩
        obtain ⟨e1, e2, e3, e4, e5⟩ := Hat.out j pq hp
        obtain ⟨gl, gx, ux, hal, k0, k1, hbx, hux, hqx, hup0⟩ := HL.out.at e1
        subst hal
        obtain ⟨i, q⟩ := pq
        simp only at e2 e3 e4 e5 hbx hux
        have hst : (P.take (j + 1)).foldl (stA a r) ([], false) = stA a r (l, put) (i, q) := by
          rw [List.take_add_one, hp, Option.toList_some, List.foldl_append, ← hst0.out]; rfl
        have kr := HK2.out.trans hK
        have m0 := kr.cell0 k0
        have m1 := kr.cell0 k1
        have nn0 := hK.cell0 n0
        obtain ⟨au, cu, rfl, x1, x2, x3, x4⟩ := id hux
        rw [e4] at m1 x1 hux hup0
        have kA : Keeps [] wr (wr.alloc (.cells #[.slice (some ⟨gx, 0, none⟩) n n, .slice au z cu] 166)) := (Keeps.refl [] wr).alloc _
        have HBb := Lib.hid (Blk.newA wr 166 #[.slice (some ⟨gx, 0, none⟩) n n, .slice au z cu])
        have HBx0 := Lib.hid hbx
        have HUx0 := Lib.hid hux
        have HGw := Lib.hid ((HGr.out.keeps hK (by simp)).keeps kA (by simp))
        have HUw := Lib.hid ((HUr.out.keepsNil hK).keepsNil kA)
        have HBx := Lib.hid ((hbx.keeps kr (by simp)).keeps kA (by simp))
        have HUx := Lib.hid ((hux.keepsNil kr).keepsNil kA)
        have HUp := Lib.hid hup0
        have HQx := Lib.hid hqx
        have Hqd := Lib.hid e4
        have HFq := Lib.hid (rfirst_calls HBx.out hn2 n (Nat.le_refl _) (by omega))
        rw [e2] at HFq
        have hll : l.length ≤ 90000 := by
          have h1 := stA_len a r (P.take j) [] false
          rw [← hst0.out, List.length_take] at h1
          simp at h1
          omega
        have Hll := Lib.hid hll
        have HBoxN : Hid (∀ g, vlx.ownBlock = some g → g ≠ wr.heap.size) := Lib.hid (fun g hg h => by have := (hLx.ownLt g hg).2.1; omega)
        have HL4 := Lib.hid (hLx.keeps kA (by simp))
        have HKr := Lib.hid hK
        have HK4 := Lib.hid (hK.trans kA)
        have l0 := HBb.out.cell' (i := 0) rfl
        have l1 := HBb.out.cell' (i := 1) rfl
        have nz0 := kA.cell0 nn0
        clear hbx hux k0 k1 x3 x4 hK kr kA hLx hup0 hqx hp e1 e2 e4 e5 hst0 hll nn0
        go_upto_region 10 with (fail)
        clear m0 m1
        generalize wr.alloc (.cells #[.slice (some ⟨gx, 0, none⟩) n n, .slice au z cu] 166) = w4 at *
        cases put with
        | true =>
          have hst' : stA a r (l, true) (i, q) = (l ++ [upA a r q], true) := by unfold stA; rfl
          have Hst := Lib.hid (hst.trans hst')
          clear hst hst'
          go_upto_region 12 with (fail)
          have cbit := HBx.out.bit ha
          have hup : upA a r q = if q.x.testBit a then rxor q r else q := rfl
          cases hbit : q.x.testBit a with
          | false =>
            rw [hbit] at cbit hup
            simp only [if_neg, Bool.false_eq_true, not_false_eq_true] at hup
            have Hup := Lib.hid hup
            have kl2 : Keeps [] w4 (w4.alloc (.cells #[.slice (some ⟨gx, 0, none⟩) n n, .slice au z cu] 166)) := (Keeps.refl [] w4).alloc _
            have HBl2 := Lib.hid (Blk.newA w4 166 #[.slice (some ⟨gx, 0, none⟩) n n, .slice au z cu])
            have HV2 := Lib.hid (HBx.out.keeps kl2 (by simp))
            have HU2 := Lib.hid (show RdA (fun x => Q x ∨ w2.heap.size ≤ x) (w4.alloc (.cells #[.slice (some ⟨gx, 0, none⟩) n n, .slice au z cu] 166)) (.slice au z cu) q.d from ⟨HUx.out.keepsNil kl2, fun a n c e => .inl (HUp.out a n c e)⟩)
            have HLl2 := Lib.hid (HL4.out.keeps kl2 (by simp))
            have HKl2 := Lib.hid (HK4.out.trans kl2)
            have Hgn2 := Lib.hid (show Q gx ∨ w2.heap.size ≤ gx from .inl HQx.out)
            have Hhb2 := Lib.hid HKl2.out.size
            have Hhn2 := Lib.hid (show Q (w4.alloc (.cells #[.slice (some ⟨gx, 0, none⟩) n n, .slice au z cu] 166)).heap.size ∨ w2.heap.size ≤ (w4.alloc (.cells #[.slice (some ⟨gx, 0, none⟩) n n, .slice au z cu] 166)).heap.size from .inr HKl2.out.size)
            have Hll2 : Hid ((l).length ≤ 100000) := Lib.hid (by have := Hll.out; omega)
            clear hbit hup kl2
            go_wp2_with (at_builtin; (refine wpList_append_ln rfl (.tmp 80) (.tmp 82) rfl HLl2.out rfl w4.heap.size 1 rfl gx _ q HBl2.out HV2.out Hgn2.out HU2.out Hll2.out Hhn2.out Hhb2.out ?_); intro vq2 wq2 g1 g2 g3; have HLe := Lib.hid g1; have HKe := Lib.hid (HKl2.out.grown g2 (fun x hx => .inr (HLl2.out.ownLt x hx).1)); clear g1 g2 g3)
            go_roundw
            case rel => exact ⟨j + 1, _, true, _, by omega, by go_num, rfl, rfl, HLe.out, Lib.hid (by rw [Hst.out, Hup.out]), HKe.out⟩
            case measure => simp [intOf]; omega

          | true =>
            rw [hbit] at cbit hup
            simp only [if_pos] at hup
            have Hup := Lib.hid hup
            have HXb := Lib.hid (fun (W : World) (k : Keeps [] w4 W) => rxor_calls (HBx.out.keeps k (by simp)) (HGw.out.keeps k (by simp)) hn2)
            obtain ⟨auu, cuu, euu, y1, y2, y3, _⟩ := HUx.out
            simp only [Value.slice.injEq] at euu
            obtain ⟨rfl, hy0, rfl⟩ := euu
            clear hy0
            obtain ⟨aww, cww, eww, v1, v2, v3, _⟩ := HUw.out
            simp only [Value.slice.injEq] at eww
            obtain ⟨rfl, hv0, rfl⟩ := eww
            clear hv0
            have HYb := Lib.hid (fun (W : World) (k : Keeps [] w4 W) => rxorb_calls (y3.keepsNil k) (v3.keepsNil k) Hqd.out Hrd.out (by have := Hqd.out; omega) (by have := Hrd.out; omega) y2 v2 (by omega))
            have Hl1 := Lib.hid (show (xorL q.d r.d).length = z from xorL_len Hqd.out Hrd.out)
            have kd0 : Keeps [] w4 w4.drew := (Keeps.refl [] w4).drew
            have Hkd0 := Lib.hid kd0
            have bfr := HBb.out.frozen
            have hBB := Lib.hid HBb.out
            have frA := bfr 0
            have frB := bfr 1
            have Hll2 : Hid ((l).length ≤ 100000) := Lib.hid (by have := Hll.out; omega)
            clear hbit hup y1 y3 v1 v3 kd0 bfr
            go_wp2_with fail
            go_region_law (first
              | (go_simp; go_at_call 96; refine (HXb.out _ Hkd0.out).mono ?_; rintro e wa ⟨ga, rfl, hga, hba, ka⟩; have kda := Hkd0.out.trans ka; have la0 := kda.cell0 l0; have la1 := kda.cell0 l1; have Hba := Lib.hid hba; have Hkda := Lib.hid kda; clear hba ka kda)
              | (go_simp; go_at_call 87; refine (HYb.out _ Hkda.out).mono ?_; rintro e wb ⟨gb, rfl, hgb, hbb, kb⟩; have kdb := Hkda.out.trans kb; have Hbab := Lib.hid (Hba.out.keeps kb (by simp)); have Hbb := Lib.hid hbb; have Hkdb := Lib.hid kdb; have hBox := (HBb.out.keeps kdb (by simp)); have lb0 := kdb.cell0 l0; have lb1 := kdb.cell0 l1; have fra := hBox.frozen 0; have frb := hBox.frozen 1; have HBox := Lib.hid hBox; clear hbb kb kdb hBox))
            all_goals
              have hBox2 := (HBox.out.set 0 (.slice (some ⟨ga, 0, none⟩) n n)).set 1 (.slice (some ⟨gb, 0, none⟩) z z)
              have kS : Keeps [wr.heap.size] wb ((wb.setCell ⟨wr.heap.size, 0, none⟩ (.slice (some ⟨ga, 0, none⟩) n n)).setCell ⟨wr.heap.size, 1, none⟩ (.slice (some ⟨gb, 0, none⟩) z z)) := ((Keeps.refl [wr.heap.size] wb).setCell (by simp) _).setCell (by simp) _
              have hwr := HKr.out.size
              have hbl := HBb.out.lt
              have ls0 := hBox2.cell' (i := 0) rfl
              have ls1 := hBox2.cell' (i := 1) rfl
              have HKs := Lib.hid ((HK4.out.trans Hkdb.out).trans' kS (T := []) (by simp) (fun x hx => .inr (by simp only [List.mem_singleton] at hx; subst hx; exact hwr)))
              have hnb : ∀ y Y, BlAt wb y Y → y ∉ [wr.heap.size] := fun y Y hy hm => by simp only [List.mem_singleton] at hm; subst hm; exact hy.b.ne HBox.out (by decide) rfl
              have HV2 := Lib.hid (Hbab.out.keeps kS (hnb _ _ Hbab.out))
              have HU2' := (RdS.blk Hbb.out Hl1.out (by omega)).keepsP kS (fun x hx => by simp only [List.mem_singleton] at hx; subst hx; exact ⟨_, _, HBox.out, by decide⟩)
              have HLs := Lib.hid ((HL4.out.keeps Hkdb.out (by simp)).keepsB kS (fun x hx => by simp only [List.mem_singleton] at hx; subst hx; exact ⟨HBoxN.out, _, HBox.out⟩))
              have hga2 : w2.heap.size ≤ ga := by have h1 := HK4.out.size; have h2 : w4.heap.size ≤ ga := hga; omega
              have hgb2 : w2.heap.size ≤ gb := by have h1 := HK4.out.size; have h2 := Hkda.out.size; omega
              clear hBox2 kS hnb hwr hbl HBox
              generalize (wb.setCell ⟨wr.heap.size, 0, none⟩ (.slice (some ⟨ga, 0, none⟩) n n)).setCell ⟨wr.heap.size, 1, none⟩ (.slice (some ⟨gb, 0, none⟩) z z) = ws at *
              have kl2 : Keeps [] ws (ws.alloc (.cells #[.slice (some ⟨ga, 0, none⟩) n n, .slice (some ⟨gb, 0, none⟩) z z] 166)) := (Keeps.refl [] ws).alloc _
              have HBl2 := Lib.hid (Blk.newA ws 166 #[.slice (some ⟨ga, 0, none⟩) n n, .slice (some ⟨gb, 0, none⟩) z z])
              have HV3 := Lib.hid (show BlAt _ ga (bl n (rxor q r).x) from HV2.out.keeps kl2 (by simp))
              have HU3 := Lib.hid (show RdA (fun x => Q x ∨ w2.heap.size ≤ x) (ws.alloc (.cells #[.slice (some ⟨ga, 0, none⟩) n n, .slice (some ⟨gb, 0, none⟩) z z] 166)) (.slice (some ⟨gb, 0, none⟩) z z) (rxor q r).d from ⟨HU2'.keepsNil kl2, fun a n c e => by simp only [Value.slice.injEq, Option.some.injEq] at e; rw [← e.1]; exact .inr hgb2⟩)
              have HLl2 := Lib.hid (HLs.out.keeps kl2 (by simp))
              have HKl2 := Lib.hid (HKs.out.trans kl2)
              have Hgn2 := Lib.hid (show Q ga ∨ w2.heap.size ≤ ga from .inr hga2)
              have Hhb2 := Lib.hid HKl2.out.size
              have Hhn2 := Lib.hid (show Q (ws.alloc (.cells #[.slice (some ⟨ga, 0, none⟩) n n, .slice (some ⟨gb, 0, none⟩) z z] 166)).heap.size ∨ w2.heap.size ≤ (ws.alloc (.cells #[.slice (some ⟨ga, 0, none⟩) n n, .slice (some ⟨gb, 0, none⟩) z z] 166)).heap.size from .inr HKl2.out.size)
              clear kl2 HU2'
              go_wp2_with (at_builtin; (refine wpList_append_ln rfl (.tmp 80) (.tmp 82) rfl HLl2.out rfl ws.heap.size 1 rfl ga _ (rxor q r) HBl2.out HV3.out Hgn2.out HU3.out Hll2.out Hhn2.out Hhb2.out ?_); intro vq2 wq2 g1 g2 g3; have HLe := Lib.hid g1; have HKe := Lib.hid (HKl2.out.grown g2 (fun x hx => .inr (HLl2.out.ownLt x hx).1)); clear g1 g2 g3)
              go_roundw
              case rel => exact ⟨j + 1, _, true, _, by omega, by go_num, rfl, rfl, HLe.out, Lib.hid (by rw [Hst.out, Hup.out]), HKe.out⟩
              case measure => simp [intOf]; omega
        | false =>
          by_cases hia : a < i
          · have hiai : (a : Int) < (i : Int) := by omega
            have hst' : stA a r (l, false) (i, q) = (l ++ [r] ++ [upA a r q], true) := by unfold stA; rw [if_pos (by simp; omega)]
            have Hst := Lib.hid (hst.trans hst')
            clear hst hst'
            go_wp2_with fail
            refine HFq.out.mono ?_
            rintro e wf ⟨rfl, rfl⟩

            have kz : Keeps [] w4 (w4.alloc (.cells (Array.replicate n (.bool false)) 4)) := (Keeps.refl [] w4).alloc _
            have hz : BlAt (w4.alloc (.cells (Array.replicate n (.bool false)) 4)) w4.heap.size (bl n 0) := ⟨by have := Blk.newA w4 4 (Array.replicate n (.bool false)); rw [bl_zero, List.map_replicate]; simpa using this⟩
            have HXz := Lib.hid (rxor_calls ((HGr.out.keeps HK4.out (by simp)).keeps kz (by simp)) hz hn2)
            rw [Nat.xor_zero] at HXz
            have Hkz := Lib.hid (HK4.out.trans kz)
            have HLz := Lib.hid (HL4.out.keeps kz (by simp))
            have Hfz := Lib.hid kz
            clear kz hz
            go_wp2_with fail
            generalize w4.alloc (.cells (Array.replicate n (.bool false)) 4) = wz at *
            refine HXz.out.mono ?_
            rintro e wx ⟨gx5, rfl, hgx5, hbx5, kx5⟩
            have kb : Keeps [] wx (wx.alloc (.cells #[.slice aw z cw] 22)) := (Keeps.refl [] wx).alloc _
            have hRL : RdL (wx.alloc (.cells #[.slice aw z cw] 22)) (.slice (some ⟨wx.heap.size, 0, none⟩) 1 1) [r.d] := RdL.one (Blk.newA wx 22 #[.slice aw z cw]) (HUr.out.keepsNil ((Hkz.out.trans kx5).trans kb))
            have HJ := Lib.hid (rjoin_calls hRL (by simp) (by simp [Hrd.out]; omega))
            have Hb5 := Lib.hid (hbx5.keeps kb (by simp))
            have Hgx5 := Lib.hid (show w2.heap.size ≤ gx5 from Nat.le_trans Hkz.out.size hgx5)
            have Hk5 := Lib.hid ((Hkz.out.trans kx5).trans kb)
            have Hf5 := Lib.hid ((Hfz.out.trans kx5).trans kb)
            have HL5 := Lib.hid (HLz.out.keeps (kx5.trans kb) (by simp))
            clear hgx5 hbx5 kx5 kb hRL HXz Hkz HLz Hfz
            go_wp2_with fail
            generalize wx.alloc (.cells #[.slice aw z cw] 22) = wy at *
            refine HJ.out.mono ?_
            rintro e wj ⟨vj, rfl, hOj, kj⟩
            simp only [List.flatten_cons, List.flatten_nil, List.append_nil] at hOj
            have hrj := hOj.rda (B' := w2.heap.size) Hk5.out.size
            obtain ⟨aj, cj, rfl, j1, j2, _⟩ := id hrj.1
            rw [Hrd.out] at hrj j1 ⊢
            have kl : Keeps [] wj (wj.alloc (.cells #[.slice (some ⟨gx5, 0, none⟩) n n, .slice aj z cj] 166)) := (Keeps.refl [] wj).alloc _
            have HBl := Lib.hid (Blk.newA wj 166 #[.slice (some ⟨gx5, 0, none⟩) n n, .slice aj z cj])
            have Hb6 := Lib.hid ((Hb5.out.keeps kj (by simp)).keeps kl (by simp))
            have HRj := Lib.hid (show RdA (fun x => Q x ∨ w2.heap.size ≤ x) (wj.alloc (.cells #[.slice (some ⟨gx5, 0, none⟩) n n, .slice aj z cj] 166)) (.slice aj z cj) r.d from ⟨hrj.1.keepsNil kl, fun a n c e => .inr (hrj.2 a n c e)⟩)
            have HL6 := Lib.hid (HL5.out.keeps (kj.trans kl) (by simp))
            have Hk6 := Lib.hid ((Hk5.out.trans kj).trans kl)
            have Hf6 := Lib.hid ((Hf5.out.trans kj).trans kl)
            have Hgn := Lib.hid (show Q gx5 ∨ w2.heap.size ≤ gx5 from .inr Hgx5.out)
            have Hhb := Lib.hid Hk6.out.size
            have Hhn := Lib.hid (show Q (wj.alloc (.cells #[.slice (some ⟨gx5, 0, none⟩) n n, .slice aj z cj] 166)).heap.size ∨ w2.heap.size ≤ (wj.alloc (.cells #[.slice (some ⟨gx5, 0, none⟩) n n, .slice aj z cj] 166)).heap.size from .inr Hk6.out.size)
            clear hOj hrj kj kl Hk5 HL5 Hb5 HJ Hf5
            go_upto_region 12 with (at_builtin; (refine wpList_append_ln rfl (.tmp 52) (.tmp 64) rfl HL6.out rfl wj.heap.size 1 rfl gx5 _ r HBl.out Hb6.out Hgn.out HRj.out (Nat.le_trans Hll.out (by omega)) Hhn.out Hhb.out ?_); intro vq wq g1 g2 g3; have HLq := Lib.hid g1; have HBq := Lib.hid g3; have Hkq := Lib.hid (Hk6.out.grown g2 (fun x hx => .inr (HL6.out.ownLt x hx).1)); have Hfq := Lib.hid ((Keeps.nil (S := vlx.ownBlock.toList) Hf6.out).grown g2 (fun x hx => .inl (by rw [hx]; simp))); clear g1 g2 g3)
            have hw4 := Hf6.out.size
            have hbl4 := HBb.out.lt
            have HBoxM := Lib.hid (show ∀ g, vq.ownBlock = some g → g ≠ wr.heap.size from fun g hg hc => by
              rcases HBq.out g hg with h | h
              · exact HBoxN.out g h hc
              · omega)
            have HBc := Lib.hid (HBb.out.keeps Hfq.out (fun hm => HBoxN.out _ (by simpa using hm) rfl))
            clear HBb HBoxN HBx HUx HGw HUw l0 l1 nz0 hw4 hbl4 HBq
            have HBb := HBc
            have HBoxN := HBoxM
            have l0 := HBb.out.cell' (i := 0) rfl
            have l1 := HBb.out.cell' (i := 1) rfl
            have HBx := Lib.hid (HBx0.out.keeps (HK2.out.trans Hkq.out) (by simp))
            have HUx := Lib.hid (HUx0.out.keepsNil (HK2.out.trans Hkq.out))
            have HGw := Lib.hid (HGr.out.keeps Hkq.out (by simp))
            have HUw := Lib.hid (HUr.out.keepsNil Hkq.out)
            have cbit := HBx.out.bit ha
            have hup : upA a r q = if q.x.testBit a then rxor q r else q := rfl
            cases hbit : q.x.testBit a with
            | false =>
              rw [hbit] at cbit hup
              simp only [if_neg, Bool.false_eq_true, not_false_eq_true] at hup
              have Hup := Lib.hid hup
              have kl2 : Keeps [] wq (wq.alloc (.cells #[.slice (some ⟨gx, 0, none⟩) n n, .slice au z cu] 166)) := (Keeps.refl [] wq).alloc _
              have HBl2 := Lib.hid (Blk.newA wq 166 #[.slice (some ⟨gx, 0, none⟩) n n, .slice au z cu])
              have HV2 := Lib.hid (HBx.out.keeps kl2 (by simp))
              have HU2 := Lib.hid (show RdA (fun x => Q x ∨ w2.heap.size ≤ x) (wq.alloc (.cells #[.slice (some ⟨gx, 0, none⟩) n n, .slice au z cu] 166)) (.slice au z cu) q.d from ⟨HUx.out.keepsNil kl2, fun a n c e => .inl (HUp.out a n c e)⟩)
              have HLl2 := Lib.hid (HLq.out.keeps kl2 (by simp))
              have HKl2 := Lib.hid (Hkq.out.trans kl2)
              have Hgn2 := Lib.hid (show Q gx ∨ w2.heap.size ≤ gx from .inl HQx.out)
              have Hhb2 := Lib.hid HKl2.out.size
              have Hhn2 := Lib.hid (show Q (wq.alloc (.cells #[.slice (some ⟨gx, 0, none⟩) n n, .slice au z cu] 166)).heap.size ∨ w2.heap.size ≤ (wq.alloc (.cells #[.slice (some ⟨gx, 0, none⟩) n n, .slice au z cu] 166)).heap.size from .inr HKl2.out.size)
              have Hll2 : Hid ((l ++ [r]).length ≤ 100000) := Lib.hid (by have := Hll.out; simp; omega)
              clear hbit hup kl2
              go_wp2_with (at_builtin; (refine wpList_append_ln rfl (.tmp 80) (.tmp 82) rfl HLl2.out rfl wq.heap.size 1 rfl gx _ q HBl2.out HV2.out Hgn2.out HU2.out Hll2.out Hhn2.out Hhb2.out ?_); intro vq2 wq2 g1 g2 g3; have HLe := Lib.hid g1; have HKe := Lib.hid (HKl2.out.grown g2 (fun x hx => .inr (HLl2.out.ownLt x hx).1)); clear g1 g2 g3)
              go_roundw
              case rel => exact ⟨j + 1, _, true, _, by omega, by go_num, rfl, rfl, HLe.out, Lib.hid (by rw [Hst.out, Hup.out]), HKe.out⟩
              case measure => simp [intOf]; omega

            | true =>
              rw [hbit] at cbit hup
              simp only [if_pos] at hup
              have Hup := Lib.hid hup
              have HXb := Lib.hid (fun (W : World) (k : Keeps [] wq W) => rxor_calls (HBx.out.keeps k (by simp)) (HGw.out.keeps k (by simp)) hn2)
              obtain ⟨auu, cuu, euu, y1, y2, y3, _⟩ := HUx.out
              simp only [Value.slice.injEq] at euu
              obtain ⟨rfl, hy0, rfl⟩ := euu
              clear hy0
              obtain ⟨aww, cww, eww, v1, v2, v3, _⟩ := HUw.out
              simp only [Value.slice.injEq] at eww
              obtain ⟨rfl, hv0, rfl⟩ := eww
              clear hv0
              have HYb := Lib.hid (fun (W : World) (k : Keeps [] wq W) => rxorb_calls (y3.keepsNil k) (v3.keepsNil k) Hqd.out Hrd.out (by have := Hqd.out; omega) (by have := Hrd.out; omega) y2 v2 (by omega))
              have Hl1 := Lib.hid (show (xorL q.d r.d).length = z from xorL_len Hqd.out Hrd.out)
              have kd0 : Keeps [] wq wq.drew := (Keeps.refl [] wq).drew
              have Hkd0 := Lib.hid kd0
              have bfr := HBb.out.frozen
              have hBB := Lib.hid HBb.out
              have frA := bfr 0
              have frB := bfr 1
              have Hll2 : Hid ((l ++ [r]).length ≤ 100000) := Lib.hid (by have := Hll.out; simp; omega)
              clear hbit hup y1 y3 v1 v3 kd0 bfr
              go_wp2_with fail
              go_region_law (first
                | (go_simp; go_at_call 96; refine (HXb.out _ Hkd0.out).mono ?_; rintro e wa ⟨ga, rfl, hga, hba, ka⟩; have kda := Hkd0.out.trans ka; have la0 := kda.cell0 l0; have la1 := kda.cell0 l1; have Hba := Lib.hid hba; have Hkda := Lib.hid kda; clear hba ka kda)
                | (go_simp; go_at_call 87; refine (HYb.out _ Hkda.out).mono ?_; rintro e wb ⟨gb, rfl, hgb, hbb, kb⟩; have kdb := Hkda.out.trans kb; have Hbab := Lib.hid (Hba.out.keeps kb (by simp)); have Hbb := Lib.hid hbb; have Hkdb := Lib.hid kdb; have hBox := (HBb.out.keeps kdb (by simp)); have lb0 := kdb.cell0 l0; have lb1 := kdb.cell0 l1; have fra := hBox.frozen 0; have frb := hBox.frozen 1; have HBox := Lib.hid hBox; clear hbb kb kdb hBox))
              all_goals
                have hBox2 := (HBox.out.set 0 (.slice (some ⟨ga, 0, none⟩) n n)).set 1 (.slice (some ⟨gb, 0, none⟩) z z)
                have kS : Keeps [wr.heap.size] wb ((wb.setCell ⟨wr.heap.size, 0, none⟩ (.slice (some ⟨ga, 0, none⟩) n n)).setCell ⟨wr.heap.size, 1, none⟩ (.slice (some ⟨gb, 0, none⟩) z z)) := ((Keeps.refl [wr.heap.size] wb).setCell (by simp) _).setCell (by simp) _
                have hwr := HKr.out.size
                have hbl := HBb.out.lt
                have ls0 := hBox2.cell' (i := 0) rfl
                have ls1 := hBox2.cell' (i := 1) rfl
                have HKs := Lib.hid ((Hkq.out.trans Hkdb.out).trans' kS (T := []) (by simp) (fun x hx => .inr (by simp only [List.mem_singleton] at hx; subst hx; exact hwr)))
                have hnb : ∀ y Y, BlAt wb y Y → y ∉ [wr.heap.size] := fun y Y hy hm => by simp only [List.mem_singleton] at hm; subst hm; exact hy.b.ne HBox.out (by decide) rfl
                have HV2 := Lib.hid (Hbab.out.keeps kS (hnb _ _ Hbab.out))
                have HU2' := (RdS.blk Hbb.out Hl1.out (by omega)).keepsP kS (fun x hx => by simp only [List.mem_singleton] at hx; subst hx; exact ⟨_, _, HBox.out, by decide⟩)
                have HLs := Lib.hid ((HLq.out.keeps Hkdb.out (by simp)).keepsB kS (fun x hx => by simp only [List.mem_singleton] at hx; subst hx; exact ⟨HBoxN.out, _, HBox.out⟩))
                have hga2 : w2.heap.size ≤ ga := by have h1 := Hkq.out.size; have h2 : wq.heap.size ≤ ga := hga; omega
                have hgb2 : w2.heap.size ≤ gb := by have h1 := Hkq.out.size; have h2 := Hkda.out.size; omega
                clear hBox2 kS hnb hwr hbl HBox
                generalize (wb.setCell ⟨wr.heap.size, 0, none⟩ (.slice (some ⟨ga, 0, none⟩) n n)).setCell ⟨wr.heap.size, 1, none⟩ (.slice (some ⟨gb, 0, none⟩) z z) = ws at *
                have kl2 : Keeps [] ws (ws.alloc (.cells #[.slice (some ⟨ga, 0, none⟩) n n, .slice (some ⟨gb, 0, none⟩) z z] 166)) := (Keeps.refl [] ws).alloc _
                have HBl2 := Lib.hid (Blk.newA ws 166 #[.slice (some ⟨ga, 0, none⟩) n n, .slice (some ⟨gb, 0, none⟩) z z])
                have HV3 := Lib.hid (show BlAt _ ga (bl n (rxor q r).x) from HV2.out.keeps kl2 (by simp))
                have HU3 := Lib.hid (show RdA (fun x => Q x ∨ w2.heap.size ≤ x) (ws.alloc (.cells #[.slice (some ⟨ga, 0, none⟩) n n, .slice (some ⟨gb, 0, none⟩) z z] 166)) (.slice (some ⟨gb, 0, none⟩) z z) (rxor q r).d from ⟨HU2'.keepsNil kl2, fun a n c e => by simp only [Value.slice.injEq, Option.some.injEq] at e; rw [← e.1]; exact .inr hgb2⟩)
                have HLl2 := Lib.hid (HLs.out.keeps kl2 (by simp))
                have HKl2 := Lib.hid (HKs.out.trans kl2)
                have Hgn2 := Lib.hid (show Q ga ∨ w2.heap.size ≤ ga from .inr hga2)
                have Hhb2 := Lib.hid HKl2.out.size
                have Hhn2 := Lib.hid (show Q (ws.alloc (.cells #[.slice (some ⟨ga, 0, none⟩) n n, .slice (some ⟨gb, 0, none⟩) z z] 166)).heap.size ∨ w2.heap.size ≤ (ws.alloc (.cells #[.slice (some ⟨ga, 0, none⟩) n n, .slice (some ⟨gb, 0, none⟩) z z] 166)).heap.size from .inr HKl2.out.size)
                clear kl2 HU2'
                go_wp2_with (at_builtin; (refine wpList_append_ln rfl (.tmp 80) (.tmp 82) rfl HLl2.out rfl ws.heap.size 1 rfl ga _ (rxor q r) HBl2.out HV3.out Hgn2.out HU3.out Hll2.out Hhn2.out Hhb2.out ?_); intro vq2 wq2 g1 g2 g3; have HLe := Lib.hid g1; have HKe := Lib.hid (HKl2.out.grown g2 (fun x hx => .inr (HLl2.out.ownLt x hx).1)); clear g1 g2 g3)
                go_roundw
                case rel => exact ⟨j + 1, _, true, _, by omega, by go_num, rfl, rfl, HLe.out, Lib.hid (by rw [Hst.out, Hup.out]), HKe.out⟩
                case measure => simp [intOf]; omega
          · have hiai : ¬ (a : Int) < (i : Int) := by omega
            have hst' : stA a r (l, false) (i, q) = (l ++ [upA a r q], false) := by unfold stA; rw [if_neg (by simp; omega)]
            have Hst := Lib.hid (hst.trans hst')
            clear hst hst'
            go_wp2_with fail
            refine HFq.out.mono ?_
            rintro e wf ⟨rfl, rfl⟩
            go_upto_region 12 with (fail)
            have cbit := HBx.out.bit ha
            have hup : upA a r q = if q.x.testBit a then rxor q r else q := rfl
            cases hbit : q.x.testBit a with
            | false =>
              rw [hbit] at cbit hup
              simp only [if_neg, Bool.false_eq_true, not_false_eq_true] at hup
              have Hup := Lib.hid hup
              have kl2 : Keeps [] w4 (w4.alloc (.cells #[.slice (some ⟨gx, 0, none⟩) n n, .slice au z cu] 166)) := (Keeps.refl [] w4).alloc _
              have HBl2 := Lib.hid (Blk.newA w4 166 #[.slice (some ⟨gx, 0, none⟩) n n, .slice au z cu])
              have HV2 := Lib.hid (HBx.out.keeps kl2 (by simp))
              have HU2 := Lib.hid (show RdA (fun x => Q x ∨ w2.heap.size ≤ x) (w4.alloc (.cells #[.slice (some ⟨gx, 0, none⟩) n n, .slice au z cu] 166)) (.slice au z cu) q.d from ⟨HUx.out.keepsNil kl2, fun a n c e => .inl (HUp.out a n c e)⟩)
              have HLl2 := Lib.hid (HL4.out.keeps kl2 (by simp))
              have HKl2 := Lib.hid (HK4.out.trans kl2)
              have Hgn2 := Lib.hid (show Q gx ∨ w2.heap.size ≤ gx from .inl HQx.out)
              have Hhb2 := Lib.hid HKl2.out.size
              have Hhn2 := Lib.hid (show Q (w4.alloc (.cells #[.slice (some ⟨gx, 0, none⟩) n n, .slice au z cu] 166)).heap.size ∨ w2.heap.size ≤ (w4.alloc (.cells #[.slice (some ⟨gx, 0, none⟩) n n, .slice au z cu] 166)).heap.size from .inr HKl2.out.size)
              have Hll2 : Hid ((l).length ≤ 100000) := Lib.hid (by have := Hll.out; omega)
              clear hbit hup kl2
              go_wp2_with (at_builtin; (refine wpList_append_ln rfl (.tmp 80) (.tmp 82) rfl HLl2.out rfl w4.heap.size 1 rfl gx _ q HBl2.out HV2.out Hgn2.out HU2.out Hll2.out Hhn2.out Hhb2.out ?_); intro vq2 wq2 g1 g2 g3; have HLe := Lib.hid g1; have HKe := Lib.hid (HKl2.out.grown g2 (fun x hx => .inr (HLl2.out.ownLt x hx).1)); clear g1 g2 g3)
              go_roundw
              case rel => exact ⟨j + 1, _, false, _, by omega, by go_num, rfl, rfl, HLe.out, Lib.hid (by rw [Hst.out, Hup.out]), HKe.out⟩
              case measure => simp [intOf]; omega

            | true =>
              rw [hbit] at cbit hup
              simp only [if_pos] at hup
              have Hup := Lib.hid hup
              have HXb := Lib.hid (fun (W : World) (k : Keeps [] w4 W) => rxor_calls (HBx.out.keeps k (by simp)) (HGw.out.keeps k (by simp)) hn2)
              obtain ⟨auu, cuu, euu, y1, y2, y3, _⟩ := HUx.out
              simp only [Value.slice.injEq] at euu
              obtain ⟨rfl, hy0, rfl⟩ := euu
              clear hy0
              obtain ⟨aww, cww, eww, v1, v2, v3, _⟩ := HUw.out
              simp only [Value.slice.injEq] at eww
              obtain ⟨rfl, hv0, rfl⟩ := eww
              clear hv0
              have HYb := Lib.hid (fun (W : World) (k : Keeps [] w4 W) => rxorb_calls (y3.keepsNil k) (v3.keepsNil k) Hqd.out Hrd.out (by have := Hqd.out; omega) (by have := Hrd.out; omega) y2 v2 (by omega))
              have Hl1 := Lib.hid (show (xorL q.d r.d).length = z from xorL_len Hqd.out Hrd.out)
              have kd0 : Keeps [] w4 w4.drew := (Keeps.refl [] w4).drew
              have Hkd0 := Lib.hid kd0
              have bfr := HBb.out.frozen
              have hBB := Lib.hid HBb.out
              have frA := bfr 0
              have frB := bfr 1
              have Hll2 : Hid ((l).length ≤ 100000) := Lib.hid (by have := Hll.out; omega)
              clear hbit hup y1 y3 v1 v3 kd0 bfr
              go_wp2_with fail
              go_region_law (first
                | (go_simp; go_at_call 96; refine (HXb.out _ Hkd0.out).mono ?_; rintro e wa ⟨ga, rfl, hga, hba, ka⟩; have kda := Hkd0.out.trans ka; have la0 := kda.cell0 l0; have la1 := kda.cell0 l1; have Hba := Lib.hid hba; have Hkda := Lib.hid kda; clear hba ka kda)
                | (go_simp; go_at_call 87; refine (HYb.out _ Hkda.out).mono ?_; rintro e wb ⟨gb, rfl, hgb, hbb, kb⟩; have kdb := Hkda.out.trans kb; have Hbab := Lib.hid (Hba.out.keeps kb (by simp)); have Hbb := Lib.hid hbb; have Hkdb := Lib.hid kdb; have hBox := (HBb.out.keeps kdb (by simp)); have lb0 := kdb.cell0 l0; have lb1 := kdb.cell0 l1; have fra := hBox.frozen 0; have frb := hBox.frozen 1; have HBox := Lib.hid hBox; clear hbb kb kdb hBox))
              all_goals
                have hBox2 := (HBox.out.set 0 (.slice (some ⟨ga, 0, none⟩) n n)).set 1 (.slice (some ⟨gb, 0, none⟩) z z)
                have kS : Keeps [wr.heap.size] wb ((wb.setCell ⟨wr.heap.size, 0, none⟩ (.slice (some ⟨ga, 0, none⟩) n n)).setCell ⟨wr.heap.size, 1, none⟩ (.slice (some ⟨gb, 0, none⟩) z z)) := ((Keeps.refl [wr.heap.size] wb).setCell (by simp) _).setCell (by simp) _
                have hwr := HKr.out.size
                have hbl := HBb.out.lt
                have ls0 := hBox2.cell' (i := 0) rfl
                have ls1 := hBox2.cell' (i := 1) rfl
                have HKs := Lib.hid ((HK4.out.trans Hkdb.out).trans' kS (T := []) (by simp) (fun x hx => .inr (by simp only [List.mem_singleton] at hx; subst hx; exact hwr)))
                have hnb : ∀ y Y, BlAt wb y Y → y ∉ [wr.heap.size] := fun y Y hy hm => by simp only [List.mem_singleton] at hm; subst hm; exact hy.b.ne HBox.out (by decide) rfl
                have HV2 := Lib.hid (Hbab.out.keeps kS (hnb _ _ Hbab.out))
                have HU2' := (RdS.blk Hbb.out Hl1.out (by omega)).keepsP kS (fun x hx => by simp only [List.mem_singleton] at hx; subst hx; exact ⟨_, _, HBox.out, by decide⟩)
                have HLs := Lib.hid ((HL4.out.keeps Hkdb.out (by simp)).keepsB kS (fun x hx => by simp only [List.mem_singleton] at hx; subst hx; exact ⟨HBoxN.out, _, HBox.out⟩))
                have hga2 : w2.heap.size ≤ ga := by have h1 := HK4.out.size; have h2 : w4.heap.size ≤ ga := hga; omega
                have hgb2 : w2.heap.size ≤ gb := by have h1 := HK4.out.size; have h2 := Hkda.out.size; omega
                clear hBox2 kS hnb hwr hbl HBox
                generalize (wb.setCell ⟨wr.heap.size, 0, none⟩ (.slice (some ⟨ga, 0, none⟩) n n)).setCell ⟨wr.heap.size, 1, none⟩ (.slice (some ⟨gb, 0, none⟩) z z) = ws at *
                have kl2 : Keeps [] ws (ws.alloc (.cells #[.slice (some ⟨ga, 0, none⟩) n n, .slice (some ⟨gb, 0, none⟩) z z] 166)) := (Keeps.refl [] ws).alloc _
                have HBl2 := Lib.hid (Blk.newA ws 166 #[.slice (some ⟨ga, 0, none⟩) n n, .slice (some ⟨gb, 0, none⟩) z z])
                have HV3 := Lib.hid (show BlAt _ ga (bl n (rxor q r).x) from HV2.out.keeps kl2 (by simp))
                have HU3 := Lib.hid (show RdA (fun x => Q x ∨ w2.heap.size ≤ x) (ws.alloc (.cells #[.slice (some ⟨ga, 0, none⟩) n n, .slice (some ⟨gb, 0, none⟩) z z] 166)) (.slice (some ⟨gb, 0, none⟩) z z) (rxor q r).d from ⟨HU2'.keepsNil kl2, fun a n c e => by simp only [Value.slice.injEq, Option.some.injEq] at e; rw [← e.1]; exact .inr hgb2⟩)
                have HLl2 := Lib.hid (HLs.out.keeps kl2 (by simp))
                have HKl2 := Lib.hid (HKs.out.trans kl2)
                have Hgn2 := Lib.hid (show Q ga ∨ w2.heap.size ≤ ga from .inr hga2)
                have Hhb2 := Lib.hid HKl2.out.size
                have Hhn2 := Lib.hid (show Q (ws.alloc (.cells #[.slice (some ⟨ga, 0, none⟩) n n, .slice (some ⟨gb, 0, none⟩) z z] 166)).heap.size ∨ w2.heap.size ≤ (ws.alloc (.cells #[.slice (some ⟨ga, 0, none⟩) n n, .slice (some ⟨gb, 0, none⟩) z z] 166)).heap.size from .inr HKl2.out.size)
                clear kl2 HU2'
                go_wp2_with (at_builtin; (refine wpList_append_ln rfl (.tmp 80) (.tmp 82) rfl HLl2.out rfl ws.heap.size 1 rfl ga _ (rxor q r) HBl2.out HV3.out Hgn2.out HU3.out Hll2.out Hhn2.out Hhb2.out ?_); intro vq2 wq2 g1 g2 g3; have HLe := Lib.hid g1; have HKe := Lib.hid (HKl2.out.grown g2 (fun x hx => .inr (HLl2.out.ownLt x hx).1)); clear g1 g2 g3)
                go_roundw
                case rel => exact ⟨j + 1, _, false, _, by omega, by go_num, rfl, rfl, HLe.out, Lib.hid (by rw [Hst.out, Hup.out]), HKe.out⟩
                case measure => simp [intOf]; omega
      · obtain rfl : j = P.length := by omega
        rw [List.take_length] at hst0
        have Hen := Lib.hid (show enA r (l, put) = lns M' n by rw [hst0.out]; exact Hall.out)
        have hll : l.length ≤ 100000 := by
          have h1 := stA_len a r P [] false
          rw [← hst0.out] at h1
          simp at h1
          omega
        have Hll := Lib.hid (show l.length ≤ 90000 by have h1 := stA_len a r P [] false; rw [← hst0.out] at h1; simp at h1; omega)
        have HLx := Lib.hid hLx
        have HKx := Lib.hid hK
        have nz0 := hK.cell0 n0
        have nz2 := hK.cell0 n2'
        clear hLx hK hst0 hll
        have HBp := Lib.hid (HB.out.keeps HK2.out (by simp))
        cases put with
        | true =>
          have Hen2 := Lib.hid (show l = lns M' n from Hen.out)
          obtain ⟨alx, clx, rfl, _, _⟩ := HLx.out.form
          have hBpx := HBp.out.keeps HKx.out (by simp)
          have fr2 := hBpx.frozen 2
          have HF2 := Lib.hid hBpx
          clear hBpx
          go_wp2_with fail
          go_ret
          exact fin_add HF2.out hpml HLx.out Hen2.out (HK2.out.trans HKx.out) HE2.out hn1 hn2 hz1 hz2 Hnq.out HK2.out.size (by rw [Hre.out]; exact Hn0.out) HMe.out.symm
        | false =>
          have Hen2 := Lib.hid (show l ++ [r] = lns M' n from Hen.out)
          have kz : Keeps [] wr (wr.alloc (.cells (Array.replicate n (.bool false)) 4)) := (Keeps.refl [] wr).alloc _
          have hz : BlAt (wr.alloc (.cells (Array.replicate n (.bool false)) 4)) wr.heap.size (bl n 0) := ⟨by have := Blk.newA wr 4 (Array.replicate n (.bool false)); rw [bl_zero, List.map_replicate]; simpa using this⟩
          have HXz := Lib.hid (rxor_calls ((HGr.out.keeps HKx.out (by simp)).keeps kz (by simp)) hz hn2)
          rw [Nat.xor_zero] at HXz
          have Hkz := Lib.hid (HKx.out.trans kz)
          have HLz := Lib.hid (HLx.out.keeps kz (by simp))
          have Hfz := Lib.hid kz
          clear kz hz
          go_wp2_with fail
          generalize wr.alloc (.cells (Array.replicate n (.bool false)) 4) = wz at *
          refine HXz.out.mono ?_
          rintro e wx ⟨gx5, rfl, hgx5, hbx5, kx5⟩
          have kb : Keeps [] wx (wx.alloc (.cells #[.slice aw z cw] 22)) := (Keeps.refl [] wx).alloc _
          have hRL : RdL (wx.alloc (.cells #[.slice aw z cw] 22)) (.slice (some ⟨wx.heap.size, 0, none⟩) 1 1) [r.d] := RdL.one (Blk.newA wx 22 #[.slice aw z cw]) (HUr.out.keepsNil ((Hkz.out.trans kx5).trans kb))
          have HJ := Lib.hid (rjoin_calls hRL (by simp) (by simp [Hrd.out]; omega))
          have Hb5 := Lib.hid (hbx5.keeps kb (by simp))
          have Hgx5 := Lib.hid (show w2.heap.size ≤ gx5 from Nat.le_trans Hkz.out.size hgx5)
          have Hk5 := Lib.hid ((Hkz.out.trans kx5).trans kb)
          have Hf5 := Lib.hid ((Hfz.out.trans kx5).trans kb)
          have HL5 := Lib.hid (HLz.out.keeps (kx5.trans kb) (by simp))
          clear hgx5 hbx5 kx5 kb hRL HXz Hkz HLz Hfz
          go_wp2_with fail
          generalize wx.alloc (.cells #[.slice aw z cw] 22) = wy at *
          refine HJ.out.mono ?_
          rintro e wj ⟨vj, rfl, hOj, kj⟩
          simp only [List.flatten_cons, List.flatten_nil, List.append_nil] at hOj
          have hrj := hOj.rda (B' := w2.heap.size) Hk5.out.size
          obtain ⟨aj, cj, rfl, j1, j2, _⟩ := id hrj.1
          rw [Hrd.out] at hrj j1 ⊢
          have kl : Keeps [] wj (wj.alloc (.cells #[.slice (some ⟨gx5, 0, none⟩) n n, .slice aj z cj] 166)) := (Keeps.refl [] wj).alloc _
          have HBl := Lib.hid (Blk.newA wj 166 #[.slice (some ⟨gx5, 0, none⟩) n n, .slice aj z cj])
          have Hb6 := Lib.hid ((Hb5.out.keeps kj (by simp)).keeps kl (by simp))
          have HRj := Lib.hid (show RdA (fun x => Q x ∨ w2.heap.size ≤ x) (wj.alloc (.cells #[.slice (some ⟨gx5, 0, none⟩) n n, .slice aj z cj] 166)) (.slice aj z cj) r.d from ⟨hrj.1.keepsNil kl, fun a n c e => .inr (hrj.2 a n c e)⟩)
          have HL6 := Lib.hid (HL5.out.keeps (kj.trans kl) (by simp))
          have Hk6 := Lib.hid ((Hk5.out.trans kj).trans kl)
          have Hf6 := Lib.hid ((Hf5.out.trans kj).trans kl)
          have Hgn := Lib.hid (show Q gx5 ∨ w2.heap.size ≤ gx5 from .inr Hgx5.out)
          have Hhb := Lib.hid Hk6.out.size
          have Hhn := Lib.hid (show Q (wj.alloc (.cells #[.slice (some ⟨gx5, 0, none⟩) n n, .slice aj z cj] 166)).heap.size ∨ w2.heap.size ≤ (wj.alloc (.cells #[.slice (some ⟨gx5, 0, none⟩) n n, .slice aj z cj] 166)).heap.size from .inr Hk6.out.size)
          clear hOj hrj kj kl Hk5 HL5 Hb5 HJ Hf5
          go_upto_region 18 with (at_builtin; (refine wpList_append_ln rfl (.tmp 87) (.tmp 99) rfl HL6.out rfl wj.heap.size 1 rfl gx5 _ r HBl.out Hb6.out Hgn.out HRj.out (Nat.le_trans Hll.out (by omega)) Hhn.out Hhb.out ?_); intro vq wq g1 g2 g3; have HLq := Lib.hid g1; have HBq := Lib.hid g3; have Hkq := Lib.hid (Hk6.out.grown g2 (fun x hx => .inr (HL6.out.ownLt x hx).1)); have Hfq := Lib.hid ((Keeps.nil (S := vlx.ownBlock.toList) Hf6.out).grown g2 (fun x hx => .inl (by rw [hx]; simp))); clear g1 g2 g3)
          obtain ⟨aqx, cqx, rfl, _, _⟩ := HLq.out.form
          have hBpx := HBp.out.keeps Hkq.out (by simp)
          have fr2 := hBpx.frozen 2
          have nq2 := hBpx.cell' (i := 2) rfl
          have HF2 := Lib.hid hBpx
          clear hBpx nz0 nz2
          go_wp2_with fail
          go_ret
          have HLq2 := HLq.out
          rw [List.length_append, List.length_singleton] at HLq2
          exact fin_add HF2.out hpml HLq2 Hen2.out (HK2.out.trans Hkq.out) HE2.out hn1 hn2 hz1 hz2 Hnq.out HK2.out.size (by rw [Hre.out]; exact Hn0.out) HMe.out.symm

end Go.Proofs.YtijhaeapoapgfaaGreatDoor
