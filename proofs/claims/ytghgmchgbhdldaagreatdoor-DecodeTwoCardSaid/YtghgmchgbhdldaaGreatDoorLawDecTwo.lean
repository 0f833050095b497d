/-
  LawDecTwo: DecodeTwo, walked.
-/
import Derived.Test.YtghgmchgbhdldaaGreatDoorDeV
import Derived.Test.YtghgmchgbhdldaaGreatDoorRows12
set_option linter.unusedVariables false
set_option linter.unusedSimpArgs false
namespace Go.Proofs.YtghgmchgbhdldaaGreatDoor
open Go.RowKit
attribute [local go_sem ↓] Go.wp_at_zero Go.wp_at_succ

/-- A head and two decoders that are not worked out. -/
structure Trio (w0 w : World) (ph pa pb : Nat) (s : UInt32) (nK P z : Nat) (img : List UInt8) (Ma Mb : Mtx) (ta tb : Nat) (Q : Nat → Prop) (Fa Fb : List Nat) : Prop where
  k : Keeps [] w0 w
  h : Hd w Q ph s nK P z img
  a : De w pa s nK P z Ma ta Fa
  b : De w pb s nK P z Mb tb Fb
  ca : w.cell? ⟨pa, 6, none⟩ = some (.int .u32 0)
  cb : w.cell? ⟨pb, 6, none⟩ = some (.int .u32 0)
  q : ∀ x, Q x → w0.heap.size ≤ x ∧ x < w.heap.size
  fa : ∀ x ∈ Fa, w0.heap.size ≤ x ∧ ¬ Q x
  fb : ∀ x ∈ Fb, w0.heap.size ≤ x ∧ ¬ Q x
  ab : ∀ x ∈ Fa, x ∉ Fb
  sa : Sd s nK P z img Ma
  sb : Sd s nK P z img Mb
  ea : ta + P = rank Ma
  eb : tb + P = rank Mb
  tz : TzAt w0

theorem Trio.swap {w0 w : World} {ph pa pb : Nat} {s : UInt32} {nK P z : Nat} {img : List UInt8} {Ma Mb : Mtx} {ta tb : Nat} {Q : Nat → Prop} {Fa Fb : List Nat} (h : Trio w0 w ph pa pb s nK P z img Ma Mb ta tb Q Fa Fb) : Trio w0 w ph pb pa s nK P z img Mb Ma tb ta Q Fb Fa :=
  ⟨h.k, h.h, h.b, h.a, h.cb, h.ca, h.q, h.fb, h.fa, fun x hx hm => h.ab x hm hx, h.sb, h.sa, h.eb, h.ea, h.tz⟩
theorem Trio.keepsNil {w0 w w' : World} {ph pa pb : Nat} {s : UInt32} {nK P z : Nat} {img : List UInt8} {Ma Mb : Mtx} {ta tb : Nat} {Q : Nat → Prop} {Fa Fb : List Nat} (h : Trio w0 w ph pa pb s nK P z img Ma Mb ta tb Q Fa Fb) (k : Keeps [] w w') : Trio w0 w' ph pa pb s nK P z img Ma Mb ta tb Q Fa Fb :=
  ⟨h.k.trans k, h.h.keepsNil k, h.a.keepsNil k, h.b.keepsNil k, k.cell0 h.ca, k.cell0 h.cb, fun x hx => ⟨(h.q x hx).1, Nat.lt_of_lt_of_le (h.q x hx).2 k.size⟩, h.fa, h.fb, h.ab, h.sa, h.sb, h.ea, h.eb, h.tz⟩

def TrioSym (w0 w : World) (ph pa pb : Nat) (s : UInt32) (nK P z : Nat) (img : List UInt8) (Ma Mb : Mtx) (ta tb : Nat) (Fa Fb : List Nat) (id : UInt32) (e : Ending) (w' : World) : Prop :=
  ∃ g Q', e = .returned (.slice (some ⟨g, 0, none⟩) z z) ∧ Rd w' (some ⟨g, 0, none⟩) (symb s nK P z img id) ∧ Trio w0 w' ph pa pb s nK P z img Ma Mb ta tb Q' Fa Fb
theorem Trio.sym_calls {w0 w : World} {ph pa pb : Nat} {s : UInt32} {nK P z : Nat} {img : List UInt8} {Ma Mb : Mtx} {ta tb : Nat} {Q : Nat → Prop} {Fa Fb : List Nat} (h : Trio w0 w ph pa pb s nK P z img Ma Mb ta tb Q Fa Fb) (id : UInt32) :
    Calls Tryz.prog 18 #[P0 ph, B32 id] w (TrioSym w0 w ph pa pb s nK P z img Ma Mb ta tb Fa Fb id) := by
  refine (hdsymbol_calls h.h id).mono ?_
  rintro e w' ⟨g, rfl, hg, hb, hH, k⟩
  have hk0 := h.k.size
  have hph : Q ph := h.h.q
  have hal := h.a.lt
  have hbl := h.b.lt
  have na : ∀ x ∈ [ph], x ∉ Fa := fun x hx hm => by simp only [List.mem_singleton] at hx; subst hx; exact (h.fa _ hm).2 hph
  have nb : ∀ x ∈ [ph], x ∉ Fb := fun x hx hm => by simp only [List.mem_singleton] at hx; subst hx; exact (h.fb _ hm).2 hph
  obtain ⟨a1, a2⟩ := h.a.keepsU k na h.ca
  obtain ⟨b1, b2⟩ := h.b.keepsU k nb h.cb
  refine ⟨g, _, rfl, Rd.blk hb 0 _ (fun j u hu => by rw [Nat.zero_add, List.getElem?_map, hu]; rfl), ⟨?_, hH.bound, a1, b1, a2, b2, fun x hx => ?_, fun x hx => ⟨(h.fa x hx).1, ?_⟩, fun x hx => ⟨(h.fb x hx).1, ?_⟩, h.ab, h.sa, h.sb, h.ea, h.eb, h.tz⟩⟩
  · exact h.k.trans' k (fun _ h => .inl h) (fun x hx => by simp only [List.mem_singleton] at hx; subst hx; exact .inr (h.q _ hph).1)
  · refine ⟨?_, hx.2⟩
    rcases hx.1 with h1 | h1
    · exact (h.q x h1).1
    · omega
  · rintro ⟨h1 | h1, _⟩
    · exact (h.fa x hx).2 h1
    · have := hal x hx; omega
  · rintro ⟨h1 | h1, _⟩
    · exact (h.fb x hx).2 h1
    · have := hbl x hx; omega

def TrioTake (w0 : World) (ph pa pb : Nat) (s : UInt32) (nK P z : Nat) (img : List UInt8) (Ma Mb : Mtx) (tb : Nat) (Q : Nat → Prop) (Fb : List Nat) (id : UInt32) (e : Ending) (w' : World) : Prop :=
  ∃ bb ta' Fa', e = .returned (.bool bb) ∧ Trio w0 w' ph pa pb s nK P z img (mAdd (nK + P) Ma (symR s nK P z img id)) Mb ta' tb Q Fa' Fb
theorem Trio.take_calls {w0 w : World} {ph pa pb : Nat} {s : UInt32} {nK P z : Nat} {img : List UInt8} {Ma Mb : Mtx} {ta tb : Nat} {Q : Nat → Prop} {Fa Fb : List Nat} (h : Trio w0 w ph pa pb s nK P z img Ma Mb ta tb Q Fa Fb) (id : UInt32) {a : Option Addr} {c : Nat} (hl : Rd w a (symb s nK P z img id)) :
    Calls Tryz.prog 13 #[P0 pa, B32 id, .slice a z c] w (TrioTake w0 ph pa pb s nK P z img Ma Mb tb Q Fb id) := by
  have htk : ta ≤ 1000000 := by
    have h1 := h.sa.rank_le
    have h2 := h.ea
    have h3 := h.h.fits.k2
    have h4 := h.h.fits.p2
    omega
  refine (dtake_calls h.a h.h.fits.pm (h.tz.keeps h.k (by simp)) htk id hl (h.h.fits.sym_len s id)).mono ?_
  rintro e w' (⟨h0, rfl, k⟩ | ⟨h0, rfl, F', h1, h2, k, hu⟩)
  · refine ⟨false, ta, Fa, rfl, ?_⟩
    rw [mAdd_same (r := symR s nK P z img id) h0]
    exact h.keepsNil k
  · have hwk := k.size
    have hbl := h.b.lt
    obtain ⟨b1, b2⟩ := h.b.keepsU k h.ab h.cb
    refine ⟨true, ta + 1, F', rfl, ⟨?_, h.h.keeps k (fun x hx => (h.fa x hx).2), h1, b1, hu, b2, fun x hx => ⟨(h.q x hx).1, by have := (h.q x hx).2; omega⟩, fun x hx => ?_, h.fb, fun x hx hm => ?_, h.sa.hear h.h.fits id, h.sb, ?_, h.eb, h.tz⟩⟩
    · exact h.k.trans' k (fun _ h => .inl h) (fun x hx => .inr (h.fa x hx).1)
    · rcases h2 x hx with hx | hx
      · exact h.fa x hx
      · exact ⟨Nat.le_trans h.k.size hx, fun hq => by have := (h.q x hq).2; omega⟩
    · rcases h2 x hx with hx | hx
      · exact h.ab x hx hm
      · have := hbl x hm; omega
    · rw [mAdd_rank1 h.sa.e (symR_lt s nK P z img id) (h.h.fits.sym_len s id) h0, ← h.ea]; omega
theorem Trio.start {w0 w1 w1' w2 w3 : World} {ph pa pb : Nat} {s : UInt32} {nK P z : Nat} {img : List UInt8} {Fa Fb : List Nat} (hH : Hd w1 (w0.heap.size ≤ ·) ph s nK P z img) (k1 : Keeps [] w0 w1) (k1' : Keeps [] w1 w1') (hA : De w2 pa s nK P z (pmx s nK P z P) 0 Fa) (hF : ∀ x ∈ Fa, w1'.heap.size ≤ x) (k2 : Keeps [] w1' w2) (hB : De w3 pb s nK P z (pmx s nK P z P) 0 Fb) (hG : ∀ x ∈ Fb, w2.heap.size ≤ x) (k3 : Keeps [] w2 w3) (ht : TzAt w0) :
    Trio w0 w3 ph pa pb s nK P z img (pmx s nK P z P) (pmx s nK P z P) 0 0 (fun x => w0.heap.size ≤ x ∧ x < w1.heap.size) Fa Fb := by
  have s1 := k1.size
  have s2 := k1'.size
  have s3 := k2.size
  have s4 := k3.size
  have hr := pmx_rank s nK P z P (Nat.le_refl _)
  have hk := hH.fits.k1
  have hal := hA.lt
  refine ⟨((k1.trans k1').trans k2).trans k3, ((hH.bound.keepsNil k1').keepsNil k2).keepsNil k3, hA.keepsNil k3, hB, k3.cell0 (hA.unsolved (by omega)), hB.unsolved (by omega), fun x hx => by omega, fun x hx => ?_, fun x hx => ?_, fun x hx hm => ?_, Sd.start hH.fits s, Sd.start hH.fits s, by omega, by omega, ht⟩
  · have := hF x hx
    exact ⟨by omega, fun h => by omega⟩
  · have := hG x hx
    exact ⟨by omega, fun h => by omega⟩
  · have := hal x hx
    have := hG x hm
    omega

/-- The other order: turned by k. -/
def turned (ids : List UInt32) (k : Nat) (i : Nat) : List UInt32 := (List.range i).map fun j => ids.getD ((j + k) % ids.length) 0
theorem turned_succ (ids : List UInt32) (k i : Nat) : turned ids k (i + 1) = turned ids k i ++ [ids.getD ((i + k) % ids.length) 0] := by simp [turned, List.range_succ]
theorem turned_mem {ids : List UInt32} {k : Nat} (hk : k ≤ ids.length) (id : UInt32) : id ∈ ids ↔ id ∈ turned ids k ids.length := by
  unfold turned
  constructor
  · intro h
    obtain ⟨m, hm, rfl⟩ := List.getElem_of_mem h
    refine List.mem_map.2 ?_
    by_cases h1 : k ≤ m
    · exact ⟨m - k, List.mem_range.2 (by omega), by rw [show m - k + k = m from by omega, Nat.mod_eq_of_lt hm]; simp [hm]⟩
    · exact ⟨m + ids.length - k, List.mem_range.2 (by omega), by rw [show m + ids.length - k + k = m + ids.length from by omega, Nat.add_mod_right, Nat.mod_eq_of_lt hm]; simp [hm]⟩
  · intro h
    obtain ⟨j, hj, rfl⟩ := List.mem_map.1 h
    have hlt : (j + k) % ids.length < ids.length := Nat.mod_lt _ (by have := List.mem_range.1 hj; omega)
    rw [List.getD_eq_getElem?_getD, List.getElem?_eq_getElem hlt]
    exact List.getElem_mem hlt

set_option maxRecDepth 100000 in
set_option maxHeartbeats 1600000 in
theorem decodeTwo_walk {w : World} (ht : TzAt w) (s : UInt32) (k p z0 : Int) (a : Option Addr) (n c : Nat) (l : List UInt8) (hl : Rd w a l) (hn : l.length = n) (hnc : n ≤ c) (hc : c ≤ maxLen) (h0 : a = none → l = [] ∧ c = 0) (A : Option Addr) (cI : Nat) (ids : List UInt32) (hIc : ids.length ≤ cI) (hIm : cI ≤ maxLen) (hI : IdsAt w A ids) (hI0 : A = none → ids = [] ∧ cI = 0) (turn : Int) :
    Calls Tryz.prog 5 #[.agg #[B32 s, .int .i64 k, .int .i64 p, .int .i64 z0], .slice a n c, .slice A ids.length cI, .int .i64 turn] w fun e w' => e = .returned (.bool true) ∧ Keeps [] w w' := by
  have kA : Keeps [] w (w.alloc (.cells #[B32 s, .int .i64 k, .int .i64 p, .int .i64 z0] 24)) := (Keeps.refl [] w).alloc _
  have hB0 := Blk.newA w 24 #[B32 s, .int .i64 k, .int .i64 p, .int .i64 z0]
  have HS := Lib.hid (sound12_calls s k p z0 a n c l (hl.keepsNil kA) hn hnc hc h0)
  have HId := Lib.hid hI
  clear hl h0 hn hI hI0
  go_enter Tryz.func5, Tryz.ntmps5
  go_wp2_with fail
  generalize w.alloc (.cells #[B32 s, .int .i64 k, .int .i64 p, .int .i64 z0] 24) = w0 at *
  refine HS.out.mono ?_
  rintro e w1 ⟨nK, P, z, img, vi, rfl, hF, hi1, hi2, hI, k1⟩
  have hB1 := hB0.keeps k1 (by simp)
  have c0 := hB1.cell' (i := 0) rfl
  have c1 := hB1.cell' (i := 1) rfl
  have c2 := hB1.cell' (i := 2) rfl
  have c3 := hB1.cell' (i := 3) rfl
  have f0 := hB1.frozen 0
  have f1 := hB1.frozen 1
  have f2 := hB1.frozen 2
  have f3 := hB1.frozen 3
  go_upto_region 2 with (fail)
  have hB2 := hB1.put4 (B32 s) (.int .i64 nK) (.int .i64 P) (.int .i64 z)
  have K2 := Lib.hid ((kA.trans k1).put4 (.inr (Nat.le_refl _)) (B32 s) (.int .i64 nK) (.int .i64 P) (.int .i64 z))
  have hk12 := (Keeps.refl [w.heap.size] w1).put4 (p := w.heap.size) (.inl (by simp)) (B32 s) (.int .i64 nK) (.int .i64 P) (.int .i64 z)
  have HI := Lib.hid (hI.keepsP hk12 (fun x hx => by simp only [List.mem_singleton] at hx; subst hx; exact ⟨_, _, hB1, by decide⟩))
  clear c0 c1 c2 c3 f0 f1 f2 f3 hB1 hB0 kA k1 hk12
  generalize ((((w1.setCell ⟨w.heap.size, 0, none⟩ (B32 s)).setCell ⟨w.heap.size, 1, none⟩ (.int .i64 nK)).setCell ⟨w.heap.size, 2, none⟩ (.int .i64 P)).setCell ⟨w.heap.size, 3, none⟩ (.int .i64 z)) = w2 at *
  obtain ⟨ai, ci, rfl, _⟩ := hI
  have HF := Lib.hid hF
  have hk1 := hF.k1
  have hk2 := hF.k2
  have hp2 := hF.p2
  have hz1 := hF.z1
  have hz2 := hF.z2
  clear hF
  have Ht2 := Lib.hid (ht.keeps K2.out (by simp))
  by_cases h80 : 80 < ids.length
  · have h80i : (80 : Int) < (ids.length : Int) := by omega
    clear h80
    go_wp2_with fail
    refine (awake12_calls Ht2.out).mono ?_
    rintro e w3 ⟨rfl, k3⟩
    go_wp2_with fail
    go_ret
    exact ⟨rfl, K2.out.trans k3⟩
  have h80i : ¬ (80 : Int) < (ids.length : Int) := by omega
  obtain ⟨kt, hkt, eq1, eq2⟩ := umod turn ((ids.length : Int) + 1) (by omega) (by omega)
  have c0 := hB2.cell' (i := 0) rfl
  have c1 := hB2.cell' (i := 1) rfl
  have c2 := hB2.cell' (i := 2) rfl
  have c3 := hB2.cell' (i := 3) rfl
  have HN := Lib.hid (fun (w : World) (k : Keeps [] w2 w) => cnew_calls (HI.out.keepsNil k) s HF.out)
  have HD := Lib.hid (fun (w : World) (k : Keeps [] w2 w) => dnew_calls s nK P z HF.out.pm (Ht2.out.keeps k (by simp)))
  clear h80
  go_wp2_with fail
  refine (HN.out _ (Keeps.refl _ _)).mono ?_
  rintro e w3 ⟨ph, rfl, hph, hH3, k3⟩
  have HH3 := Lib.hid hH3
  have HK3 := Lib.hid k3
  have d0 := k3.cell0 c0
  have d1 := k3.cell0 c1
  have d2 := k3.cell0 c2
  have d3 := k3.cell0 c3
  clear hH3 k3 c0 c1 c2 c3 hB2
  go_wp2_with fail
  refine wp_region_noPanic ?_
  refine wp_region_held_drew (S := (fun w' => w'.cell? ⟨w.heap.size, 0, none⟩ = some (B32 s) ∧ w'.cell? ⟨w.heap.size, 1, none⟩ = some (.int .i64 nK) ∧ w'.cell? ⟨w.heap.size, 2, none⟩ = some (.int .i64 P) ∧ w'.cell? ⟨w.heap.size, 3, none⟩ = some (.int .i64 z))) (by kernel_rfl) ⟨d0, d1, d2, d3⟩ (fun hHeld => ?_)
  have kd : Keeps [] w3 w3.drew := (Keeps.refl [] w3).drew
  refine wpAnyH_take (i := 0) (v := ?v1_1) rfl (by kernel_rfl) (by kernel_rfl) (by kernel_rfl) (fun _ _ _ h => h) (Or.inl ⟨by rfl, ?y1_1⟩) (by assumption) ?r1_1
  case y1_1 => (intro w hSw; (try dsimp only at hSw); go_simp; try with_reducible rfl)
  (try simp only [Act.put, List.getElem_toArray, List.getElem_cons_zero, List.getElem_cons_succ, List.setIfInBounds_toArray, List.set_cons_zero, List.set_cons_succ])
  refine wpAnyH_take (i := 2) (v := ?v1_2) rfl (by kernel_rfl) (by kernel_rfl) (by kernel_rfl) (fun _ _ _ h => h) (Or.inl ⟨by rfl, ?y1_2⟩) (by assumption) ?r1_2
  case y1_2 => (intro w hSw; (try dsimp only at hSw); go_simp; try with_reducible rfl)
  (try simp only [Act.put, List.getElem_toArray, List.getElem_cons_zero, List.getElem_cons_succ, List.setIfInBounds_toArray, List.set_cons_zero, List.set_cons_succ])
  refine wpAnyH_ready (rs := [1]) (by kernel_rfl) (by simp) ?_
  refine AllReadyH.cons rfl (fun K hK => ?_) AllReadyH.nil
  go_simp
  refine (HD.out _ (HK3.out.trans kd)).mono ?_
  rintro e w4 ⟨pa, Fa, rfl, hA4, hFa, k4⟩
  have HA4 := Lib.hid hA4
  have HFa := Lib.hid hFa
  have HK4 := Lib.hid k4
  replace kd := kd.trans k4
  clear hA4 hFa k4
  go_wp2_with fail
  refine hK.out _ _ ?s1_3 (fun hHeld => ?_)
  case s1_3 => ((try dsimp only) <;> (first | exact ⟨kd.cell0 d0, kd.cell0 d1, kd.cell0 d2, kd.cell0 d3⟩))
  clear hK K
  (try simp only [Act.put, List.getElem_toArray, List.getElem_cons_zero, List.getElem_cons_succ, List.setIfInBounds_toArray, List.set_cons_zero, List.set_cons_succ])
  refine wpAnyH_ready (rs := [3]) (by kernel_rfl) (by simp) ?_
  refine AllReadyH.cons rfl (fun K hK => ?_) AllReadyH.nil
  go_simp
  refine (HD.out _ (HK3.out.trans kd)).mono ?_
  rintro e w5 ⟨pb, Fb, rfl, hB5, hFb, k5⟩
  have HT := Lib.hid (Trio.start HH3.out HK3.out (Keeps.refl [] w3).drew HA4.out HFa.out HK4.out hB5 hFb k5 Ht2.out)
  replace kd := kd.trans k5
  clear hB5 hFb k5
  go_wp2_with fail
  refine hK.out _ _ ?s1_4 (fun hHeld => ?_)
  case s1_4 => ((try dsimp only) <;> (first | exact ⟨kd.cell0 d0, kd.cell0 d1, kd.cell0 d2, kd.cell0 d3⟩))
  clear hK K
  (try simp only [Act.put, List.getElem_toArray, List.getElem_cons_zero, List.getElem_cons_succ, List.setIfInBounds_toArray, List.set_cons_zero, List.set_cons_succ])
  refine wpAnyH_take (i := 4) (v := ?v1_5) rfl (by kernel_rfl) (by kernel_rfl) (by kernel_rfl) (fun _ _ _ h => h) (Or.inl ⟨by rfl, ?y1_5⟩) (by assumption) ?r1_5
  case y1_5 => (intro w hSw; (try dsimp only at hSw); go_simp; try with_reducible rfl)
  (try simp only [Act.put, List.getElem_toArray, List.getElem_cons_zero, List.getElem_cons_succ, List.setIfInBounds_toArray, List.set_cons_zero, List.set_cons_succ])
  refine wpAnyH_take (i := 5) (v := ?v1_6) rfl (by kernel_rfl) (by kernel_rfl) (by kernel_rfl) (fun _ _ _ h => h) (Or.inl ⟨by rfl, ?y1_6⟩) (by assumption) ?r1_6
  case y1_6 => (intro w hSw; (try dsimp only at hSw); go_simp; try with_reducible rfl)
  (try simp only [Act.put, List.getElem_toArray, List.getElem_cons_zero, List.getElem_cons_succ, List.setIfInBounds_toArray, List.set_cons_zero, List.set_cons_succ])
  refine wpAnyH_done (by kernel_rfl) ?_ _
  refine NoPanic.normal ?_
  clear d0 d1 d2 d3 kd hHeld HN HD HH3 HK3 HA4 HFa HK4
  go_upto_region 7 with (fail)
  obtain ⟨M0, hM0⟩ : ∃ M0, M0 = pmx s nK P z P := ⟨_, rfl⟩
  rw [← hM0] at HT
  have HM0 := Lib.hid hM0
  have Hkt := Lib.hid (show kt ≤ ids.length by omega)
  clear hM0 hkt eq1 eq2
  go_wp2_with fail
  go_loopw [46] (fun i wr => ∃ (kk ta tb : Nat) (Q : Nat → Prop) (Fa Fb : List Nat), kk ≤ ids.length ∧ i = .int .i64 kk ∧ Trio w2 wr ph pa pb s nK P z img (hears s nK P z img M0 (ids.take kk)) (hears s nK P z img M0 (turned ids kt kk)) ta tb Q Fa Fb) (fun i _ => ids.length - (intOf i).toNat)
  case atStart => exact ⟨0, 0, 0, _, Fa, Fb, Nat.zero_le _, rfl, HT.out⟩
  case round =>
    clear HT
    obtain ⟨kk, ta, tb, Q, Fa, Fb, hk, rfl, hT⟩ := hrel
    by_cases hlt : kk < ids.length
    · obtain ⟨b, o, rfl, cx⟩ := HId.out kk ids[kk] (List.getElem?_eq_getElem hlt)
      obtain ⟨m, hm⟩ : ∃ m, m = (kk + kt) % ids.length := ⟨_, rfl⟩
      have hml : m < ids.length := by rw [hm]; exact Nat.mod_lt _ (by omega)
      obtain ⟨b', o', hbo, cy⟩ := HId.out m ids[m] (List.getElem?_eq_getElem hml)
      simp only [Option.some.injEq, Addr.mk.injEq, and_true] at hbo
      obtain ⟨rfl, rfl⟩ := hbo
      have hna : hears s nK P z img M0 (ids.take (kk + 1)) = mAdd (nK + P) (hears s nK P z img M0 (ids.take kk)) (symR s nK P z img ids[kk]) := by rw [List.take_add_one, List.getElem?_eq_getElem hlt]; exact hears_snoc _ _ _ _ _ _ _ _
      have hnb : hears s nK P z img M0 (turned ids kt (kk + 1)) = mAdd (nK + P) (hears s nK P z img M0 (turned ids kt kk)) (symR s nK P z img ids[m]) := by rw [turned_succ, ← hm, List.getD_eq_getElem?_getD, List.getElem?_eq_getElem hml]; exact hears_snoc _ _ _ _ _ _ _ _
      generalize hMa : hears s nK P z img M0 (ids.take kk) = Ma at *
      generalize hMb : hears s nK P z img M0 (turned ids kt kk) = Mb at *
      have Hna := Lib.hid hna
      have Hnb := Lib.hid hnb
      generalize ids[kk] = x at *
      generalize ids[m] = y at *
      have Hcx := Lib.hid cx
      have Hcy := Lib.hid cy
      have HT0 := Lib.hid hT
      have hki : (kk : Int) < (ids.length : Int) := by omega
      have c0 := (K2.out.trans hT.k).cell0 cx
      have Hm := Lib.hid hm
      clear hna hnb hMa hMb cx cy hT hm
      go_upto_region 10 with (fail)
      refine wp_region_noPanic ?_
      refine wp_region_held_drew (S := (fun w' => w'.cell? ⟨b, o + kk, none⟩ = some (B32 x))) (by kernel_rfl) c0 (fun hHeld => ?_)
      have HS1 := Lib.hid ((HT0.out.keepsNil (Keeps.refl [] wr).drew).sym_calls x)
      refine wpAnyH_take (i := 0) (v := ?v2_7) rfl (by kernel_rfl) (by kernel_rfl) (by kernel_rfl) (fun _ _ _ h => h) (Or.inl ⟨by rfl, ?y2_7⟩) (by assumption) ?r2_7
      case y2_7 => (intro w hSw; (try dsimp only at hSw); go_simp; try with_reducible rfl)
      (try simp only [Act.put, List.getElem_toArray, List.getElem_cons_zero, List.getElem_cons_succ, List.setIfInBounds_toArray, List.set_cons_zero, List.set_cons_succ])
      refine wpAnyH_take (i := 1) (v := ?v2_8) rfl (by kernel_rfl) (by kernel_rfl) (by kernel_rfl) (fun _ _ _ h => h) (Or.inl ⟨by rfl, ?y2_8⟩) (by assumption) ?r2_8
      case y2_8 => (intro w hSw; (try dsimp only at hSw); go_simp; try with_reducible rfl)
      (try simp only [Act.put, List.getElem_toArray, List.getElem_cons_zero, List.getElem_cons_succ, List.setIfInBounds_toArray, List.set_cons_zero, List.set_cons_succ])
      refine wpAnyH_take (i := 2) (v := ?v2_9) rfl (by kernel_rfl) (by kernel_rfl) (by kernel_rfl) (fun _ _ _ h => h) (Or.inl ⟨by rfl, ?y2_9⟩) (by assumption) ?r2_9
      case y2_9 => (intro w hSw; (try dsimp only at hSw); go_simp; try with_reducible rfl)
      (try simp only [Act.put, List.getElem_toArray, List.getElem_cons_zero, List.getElem_cons_succ, List.setIfInBounds_toArray, List.set_cons_zero, List.set_cons_succ])
      refine wpAnyH_take (i := 3) (v := ?v2_10) rfl (by kernel_rfl) (by kernel_rfl) (by kernel_rfl) (fun _ _ _ h => h) (Or.inl ⟨by rfl, ?y2_10⟩) (by assumption) ?r2_10
      case y2_10 => (intro w hSw; (try dsimp only at hSw); go_simp; try with_reducible rfl)
      (try simp only [Act.put, List.getElem_toArray, List.getElem_cons_zero, List.getElem_cons_succ, List.setIfInBounds_toArray, List.set_cons_zero, List.set_cons_succ])
      refine wpAnyH_take (i := 4) (v := ?v2_11) rfl (by kernel_rfl) (by kernel_rfl) (by kernel_rfl) (fun _ _ _ h => h) (Or.inl ⟨by rfl, ?y2_11⟩) (by assumption) ?r2_11
      case y2_11 => (intro w hSw; (try dsimp only at hSw); go_simp; try with_reducible rfl)
      (try simp only [Act.put, List.getElem_toArray, List.getElem_cons_zero, List.getElem_cons_succ, List.setIfInBounds_toArray, List.set_cons_zero, List.set_cons_succ])
      refine wpAnyH_take (i := 5) (v := ?v2_12) rfl (by kernel_rfl) (by kernel_rfl) (by kernel_rfl) (fun _ _ _ h => h) (Or.inl ⟨by rfl, ?y2_12⟩) (by assumption) ?r2_12
      case y2_12 => (intro w hSw; (try dsimp only at hSw); go_simp; try with_reducible rfl)
      (try simp only [Act.put, List.getElem_toArray, List.getElem_cons_zero, List.getElem_cons_succ, List.setIfInBounds_toArray, List.set_cons_zero, List.set_cons_succ])
      refine wpAnyH_take (i := 6) (v := ?v2_13) rfl (by kernel_rfl) (by kernel_rfl) (by kernel_rfl) (fun _ _ _ h => h) (Or.inl ⟨by rfl, ?y2_13⟩) (by assumption) ?r2_13
      case y2_13 => (intro w hSw; (try dsimp only at hSw); go_simp; try with_reducible rfl)
      (try simp only [Act.put, List.getElem_toArray, List.getElem_cons_zero, List.getElem_cons_succ, List.setIfInBounds_toArray, List.set_cons_zero, List.set_cons_succ])
      refine wpAnyH_take (i := 7) (v := ?v2_14) rfl (by kernel_rfl) (by kernel_rfl) (by kernel_rfl) (fun _ _ _ h => h) (Or.inl ⟨by rfl, ?y2_14⟩) (by assumption) ?r2_14
      case y2_14 => (intro w hSw; (try dsimp only at hSw); go_simp; try with_reducible rfl)
      (try simp only [Act.put, List.getElem_toArray, List.getElem_cons_zero, List.getElem_cons_succ, List.setIfInBounds_toArray, List.set_cons_zero, List.set_cons_succ])
      refine wpAnyH_take (i := 8) (v := ?v2_15) rfl (by kernel_rfl) (by kernel_rfl) (by kernel_rfl) (fun _ _ _ h => h) (Or.inl ⟨by rfl, ?y2_15⟩) (by assumption) ?r2_15
      case y2_15 => (intro w hSw; (try dsimp only at hSw); go_simp; try with_reducible rfl)
      (try simp only [Act.put, List.getElem_toArray, List.getElem_cons_zero, List.getElem_cons_succ, List.setIfInBounds_toArray, List.set_cons_zero, List.set_cons_succ])
      refine wpAnyH_take (i := 9) (v := ?v2_16) rfl (by kernel_rfl) (by kernel_rfl) (by kernel_rfl) (fun _ _ _ h => h) (Or.inl ⟨by rfl, ?y2_16⟩) (by assumption) ?r2_16
      case y2_16 => (intro w hSw; (try dsimp only at hSw); go_simp; try with_reducible rfl)
      (try simp only [Act.put, List.getElem_toArray, List.getElem_cons_zero, List.getElem_cons_succ, List.setIfInBounds_toArray, List.set_cons_zero, List.set_cons_succ])
      refine wpAnyH_ready (rs := [10]) (by kernel_rfl) (by simp) ?_
      refine AllReadyH.cons rfl (fun K hK => ?_) AllReadyH.nil
      go_simp
      refine HS1.out.mono ?_
      rintro e w6 ⟨g, Q6, rfl, hR6, hT6⟩
      have HT6 := Lib.hid (hT6.take_calls (c := z) x hR6)
      have c6 := (K2.out.trans hT6.k).cell0 Hcx.out
      clear hR6 hT6
      go_wp2_with fail
      refine hK.out _ _ ?s2_17 (fun hHeld => ?_)
      case s2_17 => ((try dsimp only) <;> (first | exact c6))
      clear hK K
      (try simp only [Act.put, List.getElem_toArray, List.getElem_cons_zero, List.getElem_cons_succ, List.setIfInBounds_toArray, List.set_cons_zero, List.set_cons_succ])
      refine wpAnyH_ready (rs := [11]) (by kernel_rfl) (by simp) ?_
      refine AllReadyH.cons rfl (fun K hK => ?_) AllReadyH.nil
      go_simp
      refine HT6.out.mono ?_
      rintro e w7 ⟨bb, ta7, Fa7, rfl, hT7⟩
      have HT7 := Lib.hid hT7
      have c7 := (K2.out.trans hT7.k).cell0 Hcx.out
      clear hT7
      go_wp2_with fail
      refine hK.out _ _ ?s2_18 (fun hHeld => ?_)
      case s2_18 => ((try dsimp only) <;> (first | exact c7))
      clear hK K
      (try simp only [Act.put, List.getElem_toArray, List.getElem_cons_zero, List.getElem_cons_succ, List.setIfInBounds_toArray, List.set_cons_zero, List.set_cons_succ])
      refine wpAnyH_done (by kernel_rfl) ?_ _
      refine NoPanic.normal ?_
      have cy := (K2.out.trans HT7.out.k).cell0 Hcy.out
      clear c0 c6 c7 HS1 HT6 hHeld
      rw [← Hna.out] at HT7
      have hrem : ((kk : Int) + (kt : Int)) % (ids.length : Int) = (m : Int) := by rw [Hm.out, Int.natCast_emod]; rfl
      have hmi : (m : Int) < (ids.length : Int) := by omega
      have hne0 : (ids.length : Int) ≠ 0 := by omega
      have hktb : (kt : Int) ≤ 80 := by have := Hkt.out; omega
      have HS2 := Lib.hid (HT7.out.sym_calls y)
      clear Hm Hcx Hcy
      go_wp2_with fail
      refine HS2.out.mono ?_
      rintro e w8 ⟨g8, Q8, rfl, hR8, hT8⟩
      have HT8 := Lib.hid (hT8.swap.take_calls (c := z) y hR8)
      clear hR8 hT8 HS2 cy
      go_wp2_with fail
      refine HT8.out.mono ?_
      rintro e w9 ⟨bb9, tb9, Fb9, rfl, hT9⟩
      rw [← Hnb.out] at hT9
      have HT9 := Lib.hid hT9.swap
      clear hT9 HT8 hrem hmi hne0
      go_wp2_with fail
      go_roundw
      case rel => exact ⟨kk + 1, ta7, tb9, Q8, Fa7, Fb9, by omega, by go_num, HT9.out⟩
      case measure => simp [intOf]; omega
    · obtain rfl : kk = ids.length := by omega
      rw [List.take_length] at hT
      have hS0 : Sd s nK P z img M0 := by rw [HM0.out]; exact Sd.start HF.out s
      have hsame := hears_same HF.out hS0 (turned_mem Hkt.out)
      generalize hears s nK P z img M0 ids = Ma at *
      generalize hears s nK P z img M0 (turned ids kt ids.length) = Mb at *
      have hrank := hsame.rank hT.sa.e hT.sb.e
      have htt : ta = tb := by have := hT.ea; have := hT.eb; omega
      have hpa := hT.a.blk.1
      have hpb := hT.b.blk.1
      have hal := hT.a.lt
      have hpaw : w2.heap.size ≤ pa := (hT.fa pa hpa).1
      have hpbw : w2.heap.size ≤ pb := (hT.fb pb hpb).1
      have hpaF : pa ∉ Fb := hT.ab pa hpa
      have hpbF : pb ∉ Fa := fun h => hT.ab pb h hpb
      have hpbl := hT.b.lt pb hpb
      have HT := Lib.hid hT
      subst htt
      clear hsame hS0 HM0 Hkt
      by_cases hfull : rank Ma = nK + P
      · have hfb : rank Mb = nK + P := by omega
        have hJa := hT.sa.image HF.out hfull
        have hJb := hT.sb.image HF.out hfb
        have hA := dimage_calls hT.a HF.out.pm hfull img.length hi2 (by omega) HF.out.c (hT.sa.dats16 HF.out hfull) (by rw [hJa])
        rw [hJa] at hA
        have hB := fun (W : World) (h : De W pb s nK P z Mb ta Fb) => dimage_calls h HF.out.pm hfb img.length hi2 (by omega) HF.out.c (hT.sb.dats16 HF.out hfb) (by rw [hJb])
        rw [hJb] at hB
        have hNa := fun (W : World) (h : De W pa s nK P z Ma ta Fa) => dneeds_calls h HF.out.pm
        have hNb := fun (W : World) (h : De W pb s nK P z Mb ta Fb) => dneeds_calls h HF.out.pm
        rw [hfull, Nat.sub_self] at hNa
        rw [hfb, Nat.sub_self] at hNb
        unfold DImg at hA hB
        have HA := Lib.hid hA
        have HB := Lib.hid hB
        have HNa := Lib.hid hNa
        have HNb := Lib.hid hNb
        clear hJa hJb hA hB hNa hNb hT hrank
        go_wp2_with fail
        refine HA.out.mono ?_
        rintro e wa ⟨va, rfl, hOa, hDa, ka⟩
        obtain ⟨hDb, _⟩ := HT.out.b.keepsU ka (fun x hx => by simp only [List.mem_singleton] at hx; subst hx; exact hpaF) HT.out.cb
        have HBb := Lib.hid (HB.out _ hDb)
        have Kwa := Lib.hid (HT.out.k.trans' ka (T := []) (by simp) (fun x hx => by simp only [List.mem_singleton] at hx; subst hx; exact .inr hpaw))
        have HDa := Lib.hid hDa
        have HDb := Lib.hid hDb
        have HOa := Lib.hid hOa
        obtain ⟨aa, ca, rfl, _⟩ := hOa.rds
        clear hOa hDa hDb ka HA HB
        go_wp2_with fail
        refine HBb.out.mono ?_
        rintro e wb ⟨vb, rfl, hOb, hDb, kb⟩
        have hDa := HDa.out.keepsT kb (fun x hx => by simp only [List.mem_singleton] at hx; subst hx; exact hpbF) (fun x hx => by
          simp only [List.mem_singleton] at hx; subst hx
          obtain ⟨_, cs, hbk⟩ := HDb.out.blk
          exact ⟨_, cs, hbk, by decide, by decide⟩)
        have Kwb := Lib.hid (Kwa.out.trans' kb (T := []) (by simp) (fun x hx => by simp only [List.mem_singleton] at hx; subst hx; exact .inr hpbw))
        have hOa := HOa.out.keeps kb (fun x hx => by have := HOa.out.ge8 x hx; simp only [List.mem_singleton]; omega)
        have HRa := Lib.hid (hOa.rds)
        have HRb := Lib.hid (hOb.rds)
        have HDa2 := Lib.hid hDa
        have HDb2 := Lib.hid hDb
        obtain ⟨ab, cb, rfl, _⟩ := hOb.rds
        clear hOa hOb hDa hDb kb HBb HDa HDb HOa
        go_wp2_with fail
        refine (HNa.out _ HDa2.out).mono ?_
        rintro e wc ⟨rfl, kc⟩
        go_wp2_with fail
        refine (HNb.out _ (HDb2.out.keepsNil kc)).mono ?_
        rintro e wd ⟨rfl, kd⟩
        have Hkd := Lib.hid (kc.trans kd)
        clear kc kd
        go_wp2_with fail
        refine (dtaken_calls (HDa2.out.keepsNil Hkd.out)).mono ?_
        rintro e w' ⟨rfl, rfl⟩
        go_wp2_with fail
        refine (dtaken_calls (HDb2.out.keepsNil Hkd.out)).mono ?_
        rintro e w' ⟨rfl, rfl⟩
        have st1 := RdS.str (HRa.out.keepsNil Hkd.out)
        have st2 := RdS.str (HRb.out.keepsNil Hkd.out)
        have Kwd := Lib.hid (Kwb.out.trans Hkd.out)
        have st3 := RdS.str (HI.out.keepsNil Kwd.out)
        go_wp2_with fail
        refine (awake12_calls (HT.out.tz.keeps Kwd.out (by simp))).mono ?_
        rintro e we ⟨rfl, ke⟩
        go_wp2_with fail
        go_ret
        exact ⟨rfl, (K2.out.trans Kwd.out).trans ke⟩
      · have hfb : rank Mb ≠ nK + P := by omega
        have hA := fun (W : World) (k : Keeps [] wr W) => dimagefew_calls (hT.a.keepsNil k) HF.out.pm hfull (img.length : Int)
        have hB := fun (W : World) (k : Keeps [] wr W) => dimagefew_calls (hT.b.keepsNil k) HF.out.pm hfb (img.length : Int)
        have hNa := fun (W : World) (k : Keeps [] wr W) => dneeds_calls (hT.a.keepsNil k) HF.out.pm
        have hNb := fun (W : World) (k : Keeps [] wr W) => dneeds_calls (hT.b.keepsNil k) HF.out.pm
        rw [← hrank] at hNb
        generalize nK + P - rank Ma = nd at *
        have HA := Lib.hid hA
        have HB := Lib.hid hB
        have HNa := Lib.hid hNa
        have HNb := Lib.hid hNb
        clear hA hB hNa hNb hT hrank hfull hfb
        go_wp2_with fail
        refine (HA.out _ (Keeps.refl _ _)).mono ?_
        rintro e wa ⟨rfl, ka⟩
        go_wp2_with fail
        refine (HB.out _ ka).mono ?_
        rintro e wb ⟨rfl, kb⟩
        replace kb := ka.trans kb
        clear ka
        go_wp2_with fail
        refine (HNa.out _ kb).mono ?_
        rintro e wc ⟨rfl, kc⟩
        replace kc := kb.trans kc
        clear kb
        go_wp2_with fail
        refine (HNb.out _ kc).mono ?_
        rintro e wd ⟨rfl, kd⟩
        have Hkd := Lib.hid (kc.trans kd)
        clear kc kd
        go_wp2_with fail
        refine (dtaken_calls (HT.out.a.keepsNil Hkd.out)).mono ?_
        rintro e w' ⟨rfl, rfl⟩
        go_wp2_with fail
        refine (dtaken_calls (HT.out.b.keepsNil Hkd.out)).mono ?_
        rintro e w' ⟨rfl, rfl⟩
        have st1 := str_run (w := wd) (a := none) 0 0 (Rd.nil _ _) rfl (fun _ => rfl)
        have Kwd := Lib.hid (HT.out.k.trans Hkd.out)
        go_wp2_with fail
        refine (awake12_calls (HT.out.tz.keeps Kwd.out (by simp))).mono ?_
        rintro e we ⟨rfl, ke⟩
        go_wp2_with fail
        go_ret
        exact ⟨rfl, (K2.out.trans Kwd.out).trans ke⟩

end Go.Proofs.YtghgmchgbhdldaaGreatDoor
