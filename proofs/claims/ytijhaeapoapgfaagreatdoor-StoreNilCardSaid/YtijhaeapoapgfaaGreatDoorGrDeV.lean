/-
  GrDeV: the texts DeV, one behind another.
-/
import Derived.Test.YtijhaeapoapgfaaGreatDoorGrDe2
set_option linter.unusedVariables false
set_option linter.unusedSimpArgs false
namespace Go.Proofs.YtijhaeapoapgfaaGreatDoor
open Go.RowKit

/-- What is done to blocks of other kinds makes no difference to a decoder. -/
theorem De.keepsT {S : List Nat} {w w' : World} {p : Nat} {s : UInt32} {nK P z : Nat} {M : Mtx} {tk : Nat} {Fl : List Nat} (h : De w p s nK P z M tk Fl) (k : Keeps S w w') (hS : ∀ x ∈ S, x ∉ Fl) (hf : ∀ x, x ∈ S → ∃ t cs, Blk w x t cs ∧ 5 ≠ t ∧ 22 ≠ t) : De w' p s nK P z M tk Fl := by
  obtain ⟨pm, Fm, d, v, hb, hm, he, hfl, hn, ho⟩ := h
  subst hfl
  refine ⟨pm, Fm, d, v, hb.keeps k (fun hp => hS p hp (by simp)), hm.keeps k (fun x hx hm => hS x hx (by simp [hm])), he, rfl, hn, ?_⟩
  rcases ho with ho | ⟨h1, h2, h3⟩
  · exact .inl ho
  · exact .inr ⟨h1, h2, h3.keepsP k hf⟩
theorem De.blk {w : World} {p : Nat} {s : UInt32} {nK P z : Nat} {M : Mtx} {tk : Nat} {Fl : List Nat} (h : De w p s nK P z M tk Fl) : p ∈ Fl ∧ ∃ cs, Blk w p 150 cs := by
  obtain ⟨pm, Fm, d, v, hb, hm, he, hfl, hn, ho⟩ := h
  exact ⟨by rw [hfl]; simp, _, hb⟩

theorem Fits.ne {nK P z : Nat} {img : List UInt8} (h : Fits nK P z img) : img ≠ [] := by
  rintro rfl
  have h1 := h.c
  have h2 := h.k1
  simp [bcount] at h1
  omega
theorem RdA.bound {Q : Nat → Prop} {w : World} {u : Value} {x : List UInt8} (h : RdA Q w u x) (hx : x ≠ []) : RdA (fun b => Q b ∧ b < w.heap.size) w u x := by
  refine ⟨h.1, fun a n c e => ⟨h.2 a n c e, ?_⟩⟩
  obtain ⟨a', c', e', h1, h2, h3, h4, h5⟩ := h.1
  rw [e] at e'
  simp only [Value.slice.injEq] at e'
  obtain ⟨cs, hb⟩ := h5 a e'.1.symm hx
  exact hb.lt
theorem PcsA.bound {w : World} {B : Nat} {Q : Nat → Prop} {v : Value} {L : List (List UInt8)} (h : PcsA w B Q v L) (hv : Up Q v) (hL : ∀ x ∈ L, x ≠ []) : PcsA w B (fun b => Q b ∧ b < w.heap.size) v L ∧ Up (fun b => Q b ∧ b < w.heap.size) v := by
  obtain ⟨vs, hO, hl, he⟩ := h
  refine ⟨⟨vs, hO, hl, fun i x hx => ?_⟩, fun a n c e => ⟨hv a n c e, ?_⟩⟩
  · obtain ⟨u, hu, hr⟩ := he i x hx
    exact ⟨u, hu, hr.bound (hL x (List.mem_of_getElem? hx))⟩
  · rcases hO.2 with ⟨rfl, h0⟩ | ⟨g, cap, cur, rfl, hb, hg, _⟩
    · cases e
    · simp only [Value.slice.injEq, Option.some.injEq] at e
      rw [← e.1]
      exact (Array.getElem?_eq_some_iff.1 hg).1
theorem Hd.bound {w : World} {Q : Nat → Prop} {p : Nat} {s : UInt32} {nK P z : Nat} {img : List UInt8} (h : Hd w Q p s nK P z img) : Hd w (fun b => Q b ∧ b < w.heap.size) p s nK P z img := by
  obtain ⟨hf, hq, vi, d, v, hb, hi, hv⟩ := h
  refine ⟨hf, ⟨hq, hb.lt⟩, vi, d, v, hb, hi.bound hf.ne, ?_⟩
  rcases hv with hv | ⟨hd, hv, hu⟩
  · exact .inl hv
  · obtain ⟨a1, a2⟩ := hv.bound hu (fun x hx => by
      have h1 := pieces_each (s := s) (P := P) hf.f x hx
      have h2 := hf.z1
      intro h3
      rw [h3] at h1
      simp at h1
      omega)
    exact .inr ⟨hd, a1, a2⟩
theorem Hd.blk {w : World} {Q : Nat → Prop} {p : Nat} {s : UInt32} {nK P z : Nat} {img : List UInt8} (h : Hd w Q p s nK P z img) : ∃ cs, Blk w p 129 cs := by obtain ⟨_, _, vi, d, v, hb, _⟩ := h; exact ⟨_, hb⟩

theorem RdS.str {w : World} {v : Value} {x : List UInt8} (h : RdS w v x) : (convert 22 9 v).run Tryz.prog w = .ok (.string ⟨x.toArray⟩) w := by
  obtain ⟨a, c, rfl, _, _, r3, r4, _⟩ := h
  exact str_run x.length c r3 rfl (fun h => (r4 h).1)
/-- A head and a decoder, all of whose blocks were made since the world w0. -/
structure Duo (w0 w : World) (ph pd : Nat) (s : UInt32) (nK P z : Nat) (img : List UInt8) (M : Mtx) (tk : Nat) (Q : Nat → Prop) (Fl : List Nat) : Prop where
  k : Keeps [] w0 w
  h : Hd w Q ph s nK P z img
  d : De w pd s nK P z M tk Fl
  q : ∀ x, Q x → w0.heap.size ≤ x ∧ x < w.heap.size
  f : ∀ x ∈ Fl, w0.heap.size ≤ x ∧ ¬ Q x
  sd : Sd s nK P z img M
  t : tk + P = rank M
  tz : TzAt w0

theorem Duo.keepsNil {w0 w w' : World} {ph pd : Nat} {s : UInt32} {nK P z : Nat} {img : List UInt8} {M : Mtx} {tk : Nat} {Q : Nat → Prop} {Fl : List Nat} (h : Duo w0 w ph pd s nK P z img M tk Q Fl) (k : Keeps [] w w') : Duo w0 w' ph pd s nK P z img M tk Q Fl :=
  ⟨h.k.trans k, h.h.keepsNil k, h.d.keepsNil k, fun x hx => ⟨(h.q x hx).1, Nat.lt_of_lt_of_le (h.q x hx).2 k.size⟩, h.f, h.sd, h.t, h.tz⟩
theorem Duo.keeps {S : List Nat} {w0 w w' : World} {ph pd : Nat} {s : UInt32} {nK P z : Nat} {img : List UInt8} {M : Mtx} {tk : Nat} {Q : Nat → Prop} {Fl : List Nat} (h : Duo w0 w ph pd s nK P z img M tk Q Fl) (k : Keeps S w w') (hS : ∀ x ∈ S, w0.heap.size ≤ x ∧ ¬ Q x ∧ x ∉ Fl) (hf : rank M = nK + P → Keeps [] w w') : Duo w0 w' ph pd s nK P z img M tk Q Fl :=
  ⟨h.k.trans' k (fun _ h => .inl h) (fun x hx => .inr (hS x hx).1), h.h.keeps k (fun x hx => (hS x hx).2.1), h.d.keeps k (fun x hx => (hS x hx).2.2) hf, fun x hx => ⟨(h.q x hx).1, Nat.lt_of_lt_of_le (h.q x hx).2 k.size⟩, h.f, h.sd, h.t, h.tz⟩
theorem Duo.tzw {w0 w : World} {ph pd : Nat} {s : UInt32} {nK P z : Nat} {img : List UInt8} {M : Mtx} {tk : Nat} {Q : Nat → Prop} {Fl : List Nat} (h : Duo w0 w ph pd s nK P z img M tk Q Fl) : TzAt w := h.tz.keeps h.k (by simp)
theorem Duo.tk_le {w0 w : World} {ph pd : Nat} {s : UInt32} {nK P z : Nat} {img : List UInt8} {M : Mtx} {tk : Nat} {Q : Nat → Prop} {Fl : List Nat} (h : Duo w0 w ph pd s nK P z img M tk Q Fl) : tk ≤ 1000000 := by
  have h1 := h.sd.rank_le
  have h2 := h.t
  have h3 := h.h.fits.k2
  have h4 := h.h.fits.p2
  omega

def DuoSym (w0 w : World) (ph pd : Nat) (s : UInt32) (nK P z : Nat) (img : List UInt8) (M : Mtx) (tk : Nat) (Q : Nat → Prop) (Fl : List Nat) (id : UInt32) (e : Ending) (w' : World) : Prop :=
  ∃ g Q', e = .returned (.slice (some ⟨g, 0, none⟩) z z) ∧ Rd w' (some ⟨g, 0, none⟩) (symb s nK P z img id) ∧ Blk w' g 5 ((symb s nK P z img id).map B8) ∧ w.heap.size ≤ g ∧ Duo w0 w' ph pd s nK P z img M tk Q' Fl ∧ (∀ x, Q' x → Q x ∨ w.heap.size ≤ x) ∧ Keeps [ph] w w'
theorem Duo.sym_calls {w0 w : World} {ph pd : Nat} {s : UInt32} {nK P z : Nat} {img : List UInt8} {M : Mtx} {tk : Nat} {Q : Nat → Prop} {Fl : List Nat} (h : Duo w0 w ph pd s nK P z img M tk Q Fl) (id : UInt32) :
    Calls Tryz.prog 34 #[P0 ph, B32 id] w (DuoSym w0 w ph pd s nK P z img M tk Q Fl id) := by
  refine (hdsymbol_calls h.h id).mono ?_
  rintro e w' ⟨g, rfl, hg, hb, hH, k⟩
  have hk0 := h.k.size
  have hph : Q ph := h.h.q
  have hdl := h.d.lt
  refine ⟨g, _, rfl, Rd.blk hb 0 _ (fun j u hu => by rw [Nat.zero_add, List.getElem?_map, hu]; rfl), hb, hg, ⟨?_, hH.bound, ?_, fun x hx => ?_, fun x hx => ⟨(h.f x hx).1, ?_⟩, h.sd, h.t, h.tz⟩, fun x hx => hx.1, k⟩
  · exact h.k.trans' k (fun _ h => .inl h) (fun x hx => by simp only [List.mem_singleton] at hx; subst hx; exact .inr (h.q _ hph).1)
  · refine h.d.keepsT k (fun x hx hm => ?_) (fun x hx => ?_)
    · simp only [List.mem_singleton] at hx; subst hx; exact (h.f _ hm).2 hph
    · simp only [List.mem_singleton] at hx; subst hx
      obtain ⟨cs, hb⟩ := h.h.blk
      exact ⟨_, cs, hb, by decide, by decide⟩
  · refine ⟨?_, hx.2⟩
    rcases hx.1 with h1 | h1
    · exact (h.q x h1).1
    · omega
  · rintro ⟨h1 | h1, _⟩
    · exact (h.f x hx).2 h1
    · have := hdl x hx; omega

def DuoTake (w0 w : World) (ph pd : Nat) (s : UInt32) (nK P z : Nat) (img : List UInt8) (M : Mtx) (tk : Nat) (Q : Nat → Prop) (Fl : List Nat) (id : UInt32) (e : Ending) (w' : World) : Prop :=
  ∃ tk' Fl', e = .returned (.bool (decide ((red M (symR s nK P z img id)).x ≠ 0))) ∧ Duo w0 w' ph pd s nK P z img (mAdd (nK + P) M (symR s nK P z img id)) tk' Q Fl' ∧ (∀ x ∈ Fl', x ∈ Fl ∨ w.heap.size ≤ x) ∧ Keeps Fl w w' ∧ (rank M = nK + P → Keeps [] w w')
theorem Duo.take_calls {w0 w : World} {ph pd : Nat} {s : UInt32} {nK P z : Nat} {img : List UInt8} {M : Mtx} {tk : Nat} {Q : Nat → Prop} {Fl : List Nat} (h : Duo w0 w ph pd s nK P z img M tk Q Fl) (id : UInt32) {a : Option Addr} {c : Nat} (hl : Rd w a (symb s nK P z img id)) :
    Calls Tryz.prog 40 #[P0 pd, B32 id, .slice a z c] w (DuoTake w0 w ph pd s nK P z img M tk Q Fl id) := by
  refine (dtake_calls h.d h.h.fits.pm h.tzw h.tk_le id hl (h.h.fits.sym_len s id)).mono ?_
  rintro e w' (⟨h0, rfl, k⟩ | ⟨h0, rfl, F', h1, h2, k, _⟩)
  · refine ⟨tk, Fl, by rw [decide_eq_false (by intro hn; exact hn h0)], ?_, fun x hx => .inl hx, k.nil, fun _ => k⟩
    rw [mAdd_same (r := symR s nK P z img id) h0]
    exact h.keepsNil k
  · have hwk := k.size
    refine ⟨tk + 1, F', by rw [decide_eq_true (show (red M (symR s nK P z img id)).x ≠ 0 from h0)], ⟨?_, h.h.keeps k (fun x hx => (h.f x hx).2), h1, fun x hx => ⟨(h.q x hx).1, by have := (h.q x hx).2; omega⟩, fun x hx => ?_, h.sd.hear h.h.fits id, ?_, h.tz⟩, h2, k, fun hf => ?_⟩
    · exact h.k.trans' k (fun _ h => .inl h) (fun x hx => .inr (h.f x hx).1)
    · rcases h2 x hx with hx | hx
      · exact h.f x hx
      · exact ⟨Nat.le_trans h.k.size hx, fun hq => by have := (h.q x hq).2; omega⟩
    · rw [mAdd_rank1 h.sd.e (symR_lt s nK P z img id) (h.h.fits.sym_len s id) h0, ← h.t]; omega
    · exfalso
      exact h0 (red_in.2 (full_in h.sd.e hf (symR_lt s nK P z img id)))

theorem Duo.start {w0 w1 w1' w2 : World} {ph pd : Nat} {s : UInt32} {nK P z : Nat} {img : List UInt8} {Fl : List Nat} (hH : Hd w1 (w0.heap.size ≤ ·) ph s nK P z img) (k1 : Keeps [] w0 w1) (k1' : Keeps [] w1 w1') (hD : De w2 pd s nK P z (pmx s nK P z P) 0 Fl) (hF : ∀ x ∈ Fl, w1'.heap.size ≤ x) (k2 : Keeps [] w1' w2) (ht : TzAt w0) :
    Duo w0 w2 ph pd s nK P z img (pmx s nK P z P) 0 (fun x => w0.heap.size ≤ x ∧ x < w1.heap.size) Fl := by
  have s1 := k1.size
  have s2 := k1'.size
  have s3 := k2.size
  refine ⟨(k1.trans k1').trans k2, (hH.bound.keepsNil k1').keepsNil k2, hD, fun x hx => by omega, fun x hx => ?_, Sd.start hH.fits s, ?_, ht⟩
  · have := hF x hx
    exact ⟨by omega, fun h => by omega⟩
  · rw [pmx_rank s nK P z P (Nat.le_refl _)]; omega

/-- The first k symbols. -/
def idsTo (k : Nat) : List UInt32 := (List.range k).map UInt32.ofNat
theorem idsTo_succ (k : Nat) : idsTo (k + 1) = idsTo k ++ [UInt32.ofNat k] := by simp [idsTo, List.range_succ]
theorem u32_small {k : Nat} (h : k ≤ 64) : (UInt32.ofNat k).toNat = k := by rw [UInt32.toNat_ofNat']; omega
theorem first_full {nK P z : Nat} {img : List UInt8} (hF : Fits nK P z img) (s : UInt32) : rank (hears s nK P z img (pmx s nK P z P) (idsTo nK)) = nK + P := by
  refine hears_full hF (Sd.start hF s) (fun i hi => ⟨UInt32.ofNat i, ?_, u32_small (by have := hF.k2; omega)⟩)
  exact List.mem_map.2 ⟨i, List.mem_range.2 hi, rfl⟩
theorem first_new {nK P z : Nat} {img : List UInt8} (hF : Fits nK P z img) (s : UInt32) {k : Nat} (hk : k < nK) : (red (hears s nK P z img (pmx s nK P z P) (idsTo k)) (symR s nK P z img (UInt32.ofNat k))).x ≠ 0 := by
  obtain ⟨d, hd⟩ : ∃ d, nK = k + (d + 1) := ⟨nK - k - 1, by omega⟩
  have he : idsTo nK = idsTo k ++ UInt32.ofNat k :: (List.range d).map (fun i => UInt32.ofNat (k + 1 + i)) := by
    unfold idsTo
    rw [hd, List.range_add, List.map_append, List.map_map]
    congr 1
    rw [List.range_succ_eq_map]
    simp [Function.comp_def, Nat.add_assoc, Nat.add_comm 1]
  refine (hears_new hF (Sd.start hF s) (idsTo k) (UInt32.ofNat k) ((List.range d).map (fun i => UInt32.ofNat (k + 1 + i))) ?_).1
  rw [← he, first_full hF s, pmx_rank s nK P z P (Nat.le_refl _)]
  simp [idsTo]
  omega
theorem bcount_more {nK z : Nat} {len : Nat} (h1 : 1 ≤ len) (hz : 1 ≤ z) (hk : 1 ≤ nK) (h : bcount len z = nK) : bcount (len + z) z ≠ nK := by
  unfold bcount at h ⊢
  rw [if_neg (by omega)] at h ⊢
  have e : (len + z + z - 1) / z = (len + z - 1) / z + 1 := by
    rw [show len + z + z - 1 = (len + z - 1) + z from by omega, Nat.add_div_right _ (by omega)]
  rw [e]
  split at h
  · split <;> omega
  · omega

end Go.Proofs.YtijhaeapoapgfaaGreatDoor
