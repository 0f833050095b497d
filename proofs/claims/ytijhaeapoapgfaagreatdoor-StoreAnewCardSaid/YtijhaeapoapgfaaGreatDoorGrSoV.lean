/-
  GrSoV: the texts SoV, LawStoAnew, one behind another.
-/
import Derived.Test.YtijhaeapoapgfaaGreatDoorGrSo1
import Derived.Test.YtijhaeapoapgfaaGreatDoorGrWhT2
import Derived.Test.YtijhaeapoapgfaaGreatDoorGrDeV
import Derived.Test.YtijhaeapoapgfaaGreatDoorGrRows8
set_option linter.unusedVariables false
set_option linter.unusedSimpArgs false
namespace Go.Proofs.YtijhaeapoapgfaaGreatDoor
open Go.RowKit

/-- A head and a store, all of whose blocks were made since the world w0; X are the blocks that Add writes to. -/
structure HeSt (w0 w : World) (ph p q ps u pd : Nat) (g : Option Nat) (N : Nat → Prop) (Fl : List Nat) (s : UInt32) (n nK P z : Nat) (img : List UInt8) (F : Fla) (V : Whl) (M : Mtx) (tk : Nat) (Q : Nat → Prop) : Prop where
  k : Keeps [] w0 w
  h : Hd w Q ph s nK P z img
  hq : ∀ x, Q x → w0.heap.size ≤ x ∧ x < w.heap.size
  st : Sto w p q ps u pd g N Fl s n nK P z F V M tk
  f : ∀ x, (x = p ∨ x = q ∨ x = ps ∨ x = u ∨ N x ∨ x ∈ Fl) → w0.heap.size ≤ x ∧ ¬ Q x
  sd : Sd s nK P z img M
  tz : TzAt w0

section
variable {w0 w : World} {ph p q ps u pd : Nat} {g : Option Nat} {N : Nat → Prop} {Fl : List Nat} {s : UInt32} {n nK P z : Nat} {img : List UInt8} {F : Fla} {V : Whl} {M : Mtx} {tk : Nat} {Q : Nat → Prop}

theorem Sto.lts (h : Sto w p q ps u pd g N Fl s n nK P z F V M tk) : ∀ x, (x = p ∨ x = q ∨ x = ps ∨ x = u ∨ N x ∨ x ∈ Fl) → x < w.heap.size := by
  intro x hx
  rcases hx with rfl | rfl | rfl | rfl | hx | hx
  · exact h.wh.fla.ltp
  · exact h.wh.fla.ltq
  · exact h.b.lt
  · exact h.wh.ltu
  · exact h.nb x hx
  · exact h.d.lt x hx
theorem HeSt.keepsNil {w' : World} (h : HeSt w0 w ph p q ps u pd g N Fl s n nK P z img F V M tk Q) (k : Keeps [] w w') : HeSt w0 w' ph p q ps u pd g N Fl s n nK P z img F V M tk Q :=
  ⟨h.k.trans k, h.h.keepsNil k, fun x hx => ⟨(h.hq x hx).1, Nat.lt_of_lt_of_le (h.hq x hx).2 k.size⟩, h.st.keepsNil k, h.f, h.sd, h.tz⟩
theorem HeSt.tzw (h : HeSt w0 w ph p q ps u pd g N Fl s n nK P z img F V M tk Q) : TzAt w := h.tz.keeps h.k (by simp)

def HeSym (w0 w : World) (ph p q ps u pd : Nat) (g : Option Nat) (N : Nat → Prop) (Fl : List Nat) (s : UInt32) (n nK P z : Nat) (img : List UInt8) (F : Fla) (V : Whl) (M : Mtx) (tk : Nat) (id : UInt32) (e : Ending) (w' : World) : Prop :=
  ∃ b Q', e = .returned (.slice (some ⟨b, 0, none⟩) z z) ∧ Rd w' (some ⟨b, 0, none⟩) (symb s nK P z img id) ∧ w.heap.size ≤ b ∧ HeSt w0 w' ph p q ps u pd g N Fl s n nK P z img F V M tk Q' ∧ Keeps [ph] w w'
theorem HeSt.sym_calls (h : HeSt w0 w ph p q ps u pd g N Fl s n nK P z img F V M tk Q) (id : UInt32) :
    Calls Tryz.prog 34 #[P0 ph, B32 id] w (HeSym w0 w ph p q ps u pd g N Fl s n nK P z img F V M tk id) := by
  refine (hdsymbol_calls h.h id).mono ?_
  rintro e w' ⟨b, rfl, hg, hb, hH, k⟩
  have hk0 := h.k.size
  have hph : Q ph := h.h.q
  refine ⟨b, _, rfl, Rd.blk hb 0 _ (fun j u hu => by rw [Nat.zero_add, List.getElem?_map, hu]; rfl), hg, ⟨?_, hH.bound, fun x hx => ?_, ?_, fun x hx => ⟨(h.f x hx).1, ?_⟩, h.sd, h.tz⟩, k⟩
  · exact h.k.trans' k (fun _ h => .inl h) (fun x hx => by simp only [List.mem_singleton] at hx; subst hx; exact .inr (h.hq _ hph).1)
  · refine ⟨?_, hx.2⟩
    rcases hx.1 with h1 | h1
    · exact (h.hq x h1).1
    · omega
  · refine h.st.keepsT k (fun x hx => ?_) (fun x hx => ?_)
    · simp only [List.mem_singleton] at hx; subst hx
      have hno := fun hm => (h.f _ hm).2 hph
      exact ⟨fun e => hno (.inl e), fun e => hno (.inr (.inl e)), fun e => hno (.inr (.inr (.inl e))), fun e => hno (.inr (.inr (.inr (.inl e)))), fun e => hno (.inr (.inr (.inr (.inr (.inl e))))), fun e => hno (.inr (.inr (.inr (.inr (.inr e)))))⟩
    · simp only [List.mem_singleton] at hx; subst hx
      obtain ⟨cs, hb⟩ := h.h.blk
      exact ⟨_, cs, hb, by decide, by decide⟩
  · rintro ⟨h1 | h1, _⟩
    · exact (h.f x hx).2 h1
    · have := h.st.lts x hx; omega

def HePut (w0 w : World) (ph p q ps u pd : Nat) (s : UInt32) (n nK P z : Nat) (img : List UInt8) (M : Mtx) (Q : Nat → Prop) (id : UInt32) (r : Fla × Whl × Int) (e : Ending) (w' : World) : Prop :=
  e = .returned (.int .i64 r.2.2) ∧ ∃ g' N' Fl' tk', HeSt w0 w' ph p q ps u pd g' N' Fl' s n nK P z img r.1 r.2.1 (soPut s nK P M id (symb s nK P z img id) r) tk' Q
theorem HeSt.put_new (h : HeSt w0 w ph p q ps u pd g N Fl s n nK P z img F V M tk Q) (id : UInt32) {b : Nat} (hr : Rd w (some ⟨b, 0, none⟩) (symb s nK P z img id)) (hb : b ≠ p ∧ b ≠ q ∧ b ≠ u ∧ ¬ N b) (hn : (red M (symR s nK P z img id)).x ≠ 0) :
    Calls Tryz.prog 27 #[P0 ps, B32 id, .slice (some ⟨b, 0, none⟩) z z] w (HePut w0 w ph p q ps u pd s n nK P z img M Q id (V.add F id (symb s nK P z img id))) := by
  have hz := h.h.fits.sym_len s id
  have htl := h.tz.ltw
  have hgN := h.st.wh.gn
  have hF := fun x hx => (h.f x hx).1
  refine (sput_new h.st h.tzw (fun hm => ?_) id (c := z) hr (by simp) (by omega) (by have := h.h.fits.z2; omega) (fun x hx _ => by obtain rfl := Option.some.inj hx; exact hb) hz hn).mono ?_
  · simp only [List.mem_cons, Option.mem_toList] at hm
    rcases hm with hm | hm | hm | hm
    · have := hF p (.inl rfl); omega
    · have := hF q (.inr (.inl rfl)); omega
    · have := hF u (.inr (.inr (.inr (.inl rfl)))); omega
    · have := hF _ (.inr (.inr (.inr (.inr (.inl (hgN _ hm)))))); omega
  · rintro e w' ⟨rfl, g', N', Fl', tk', hS, hN, hFl, k⟩
    have hks := h.k.size
    have hkk := k.size
    have hkS : ∀ x, x ∈ p :: q :: u :: (g.toList ++ Fl) → w0.heap.size ≤ x ∧ ¬ Q x := fun x hx => h.f x (by
      simp only [List.mem_cons, List.mem_append, Option.mem_toList] at hx
      rcases hx with hx | hx | hx | hx | hx
      · exact .inl hx
      · exact .inr (.inl hx)
      · exact .inr (.inr (.inr (.inl hx)))
      · exact .inr (.inr (.inr (.inr (.inl (hgN _ hx)))))
      · exact .inr (.inr (.inr (.inr (.inr hx)))))
    have hnew : ∀ x, w.heap.size ≤ x → w0.heap.size ≤ x ∧ ¬ Q x := fun x hx => ⟨by omega, fun hq => by have := (h.hq x hq).2; omega⟩
    refine ⟨rfl, g', N', Fl', tk', ?_, h.h.keeps k (fun x hx => (hkS x hx).2), fun x hx => ⟨(h.hq x hx).1, by have := (h.hq x hx).2; omega⟩, hS, fun x hx => ?_, ?_, h.tz⟩
    · exact h.k.trans' k (fun _ h => .inl h) (fun x hx => .inr (hkS x hx).1)
    · rcases hx with hx | hx | hx | hx | hx | hx
      · exact h.f x (.inl hx)
      · exact h.f x (.inr (.inl hx))
      · exact h.f x (.inr (.inr (.inl hx)))
      · exact h.f x (.inr (.inr (.inr (.inl hx))))
      · rcases hN x hx with h1 | h1
        · exact h.f x (.inr (.inr (.inr (.inr (.inl h1)))))
        · exact hnew x h1
      · rcases hFl x hx with h1 | h1
        · exact h.f x (.inr (.inr (.inr (.inr (.inr h1)))))
        · exact hnew x h1
    · unfold soPut
      split
      · exact h.sd.hear h.h.fits id
      · exact h.sd

end

/-- A head and a store on a new flash, that has written what it was told. -/
def AnSt (w0 w : World) (ph p q ps : Nat) (n nK z : Nat) (img : List UInt8) (X : Nat → Prop) (M : Mtx) : Prop :=
  ∃ u pd g N Fl F L tk Q, HeSt w0 w ph p q ps u pd g N Fl 3 n nK 3 z img F (logWh 1 z (L.map some)) M tk Q ∧ FreshIs F 1 z L ∧ recM 3 nK 3 z L = M ∧ L.length = tk ∧ (∀ x, X x ↔ x = p ∨ x = q ∨ x = u ∨ N x)

section
variable {w0 w : World} {ph p q ps : Nat} {n nK z : Nat} {img : List UInt8} {X : Nat → Prop} {M : Mtx}

theorem AnSt.keepsNil {w' : World} (h : AnSt w0 w ph p q ps n nK z img X M) (k : Keeps [] w w') : AnSt w0 w' ph p q ps n nK z img X M := by
  obtain ⟨u, pd, g, N, Fl, F, L, tk, Q, h1, h2⟩ := h
  exact ⟨u, pd, g, N, Fl, F, L, tk, Q, h1.keepsNil k, h2⟩
theorem AnSt.keep0 (h : AnSt w0 w ph p q ps n nK z img X M) : Keeps [] w0 w := by
  obtain ⟨u, pd, g, N, Fl, F, L, tk, Q, h1, h2⟩ := h
  exact h1.k
theorem AnSt.tzw (h : AnSt w0 w ph p q ps n nK z img X M) : TzAt w := by
  obtain ⟨u, pd, g, N, Fl, F, L, tk, Q, h1, h2⟩ := h
  exact h1.tzw

def AnSym (w0 w : World) (ph p q ps : Nat) (n nK z : Nat) (img : List UInt8) (X : Nat → Prop) (M : Mtx) (id : UInt32) (e : Ending) (w' : World) : Prop :=
  ∃ b, e = .returned (.slice (some ⟨b, 0, none⟩) z z) ∧ Rd w' (some ⟨b, 0, none⟩) (symb 3 nK 3 z img id) ∧ ¬ X b ∧ AnSt w0 w' ph p q ps n nK z img X M ∧ Keeps [ph] w w'
theorem AnSt.sym_calls (h : AnSt w0 w ph p q ps n nK z img X M) (id : UInt32) :
    Calls Tryz.prog 34 #[P0 ph, B32 id] w (AnSym w0 w ph p q ps n nK z img X M id) := by
  obtain ⟨u, pd, g, N, Fl, F, L, tk, Q, h1, h2, h3, hL, h4⟩ := h
  refine (h1.sym_calls id).mono ?_
  rintro e w' ⟨b, Q', rfl, hR, hb, hH, k⟩
  refine ⟨b, rfl, hR, fun hx => ?_, ⟨u, pd, g, N, Fl, F, L, tk, Q', hH, h2, h3, hL, h4⟩, k⟩
  have hl := h1.st.lts b (by
    rcases (h4 b).1 hx with h | h | h | h
    · exact .inl h
    · exact .inr (.inl h)
    · exact .inr (.inr (.inr (.inl h)))
    · exact .inr (.inr (.inr (.inr (.inl h)))))
  omega

def AnPut (w0 : World) (ph p q ps : Nat) (n nK z : Nat) (img : List UInt8) (M : Mtx) (id : UInt32) (e : Ending) (w' : World) : Prop :=
  ∃ (a : Int) (X' : Nat → Prop), e = .returned (.int .i64 a) ∧ (a = 0 ∨ a = 8) ∧ AnSt w0 w' ph p q ps n nK z img X' (mAdd (nK + 3) M (symR 3 nK 3 z img id))
theorem AnSt.put_calls (h : AnSt w0 w ph p q ps n nK z img X M) (id : UInt32) {b : Nat} (hr : Rd w (some ⟨b, 0, none⟩) (symb 3 nK 3 z img id)) (hb : ¬ X b) :
    Calls Tryz.prog 27 #[P0 ps, B32 id, .slice (some ⟨b, 0, none⟩) z z] w (AnPut w0 ph p q ps n nK z img M id) := by
  obtain ⟨u, pd, g, N, Fl, F, L, tk, Q, h1, h2, h3, hL, h4⟩ := h
  by_cases hn : (red M (symR 3 nK 3 z img id)).x = 0
  · refine (sput_dup h1.st h1.tzw id _ z (symb 3 nK 3 z img id) hn).mono ?_
    rintro e w' ⟨rfl, k⟩
    exact ⟨8, X, rfl, .inr rfl, u, pd, g, N, Fl, F, L, tk, Q, by rw [mAdd_same hn]; exact h1.keepsNil k, h2, by rw [mAdd_same hn]; exact h3, hL, h4⟩
  · have hz := h1.h.fits.sym_len 3 id
    have hlen : L.length < 8 * places z := by
      have a1 := h1.st.t
      have a2 := mAdd_rank1 h1.sd.e (symR_lt 3 nK 3 z img id) hz hn
      have a3 := (h1.sd.hear h1.h.fits id).rank_le
      have a4 := (places_bounds h1.h.fits.z1 h1.h.fits.z2).1
      have a5 := h1.h.fits.k2
      omega
    obtain ⟨G, hA, hG⟩ := h2.add hlen id (symb 3 nK 3 z img id) hz
    have hP := h1.put_new id hr (by
      have := fun e => hb ((h4 b).2 e)
      exact ⟨fun e => this (.inl e), fun e => this (.inr (.inl e)), fun e => this (.inr (.inr (.inl e))), fun e => this (.inr (.inr (.inr e)))⟩) hn
    rw [hA] at hP
    refine hP.mono ?_
    rintro e w' ⟨rfl, g', N', Fl', tk', hS⟩
    have hsp : soPut 3 nK 3 M id (symb 3 nK 3 z img id) (G, logWh 1 z ((L ++ [(id, symb 3 nK 3 z img id)]).map some), 0) = mAdd (nK + 3) M (symR 3 nK 3 z img id) := by unfold soPut; rw [if_pos rfl]; rfl
    rw [hsp] at hS
    exact ⟨0, _, rfl, .inl rfl, u, pd, g', N', Fl', G, _, tk', Q, hS, hG, by rw [recM_snoc, h3]; rfl, by have a1 := h1.st.t; have a2 := hS.st.t; have a3 := mAdd_rank1 h1.sd.e (symR_lt 3 nK 3 z img id) hz hn; simp; omega, fun x => Iff.rfl⟩

/-- A store that has heard what comes to M, apart from a head. -/
def OpSt (w : World) (ph ps : Nat) (n nK z : Nat) (M : Mtx) : Prop :=
  ∃ p q u pd g N Fl F V tk, Sto w p q ps u pd g N Fl 3 n nK 3 z F V M tk ∧ ph ≠ p ∧ ph ≠ q ∧ ph ≠ ps ∧ ph ≠ u ∧ ¬ N ph ∧ ph ∉ Fl

theorem OpSt.keepsNil {w' : World} (h : OpSt w ph ps n nK z M) (k : Keeps [] w w') : OpSt w' ph ps n nK z M := by
  obtain ⟨p, q, u, pd, g, N, Fl, F, V, tk, h1, h2⟩ := h
  exact ⟨p, q, u, pd, g, N, Fl, F, V, tk, h1.keepsNil k, h2⟩
theorem OpSt.keepsH {w' : World} (h : OpSt w ph ps n nK z M) (k : Keeps [ph] w w') (hb : ∃ cs, Blk w ph 129 cs) : OpSt w' ph ps n nK z M := by
  obtain ⟨p, q, u, pd, g, N, Fl, F, V, tk, h1, h2, h3, h4, h5, h6, h7⟩ := h
  refine ⟨p, q, u, pd, g, N, Fl, F, V, tk, h1.keepsT k (fun x hx => ?_) (fun x hx => ?_), h2, h3, h4, h5, h6, h7⟩
  · simp only [List.mem_singleton] at hx; subst hx; exact ⟨h2, h3, h4, h5, h6, h7⟩
  · simp only [List.mem_singleton] at hx; subst hx
    obtain ⟨cs, hb⟩ := hb
    exact ⟨_, cs, hb, by decide, by decide⟩
theorem OpSt.kept (h : OpSt w ph ps n nK z M) : Calls Tryz.prog 28 #[P0 ps] w fun e w' => e = .returned (.int .i64 (rank M - 3 : Nat)) ∧ w = w' := by
  obtain ⟨p, q, u, pd, g, N, Fl, F, V, tk, h1, h2⟩ := h
  have h3 := h1.t
  have e : rank M - 3 = tk := by omega
  rw [e]
  exact skept_calls h1
theorem OpSt.needs (h : OpSt w ph ps n nK z M) : Calls Tryz.prog 29 #[P0 ps] w fun e w' => e = .returned (.int .i64 (nK + 3 - rank M : Nat)) ∧ Keeps [] w w' := by
  obtain ⟨p, q, u, pd, g, N, Fl, F, V, tk, h1, h2⟩ := h
  exact sneeds_calls h1
theorem OpSt.dup (h : OpSt w ph ps n nK z M) (ht : TzAt w) (id : UInt32) (A : Option Addr) (c : Nat) (d : List UInt8) (hr : (red M ⟨rowN 3 nK 3 id, d⟩).x = 0) : Calls Tryz.prog 27 #[P0 ps, B32 id, .slice A z c] w fun e w' => e = .returned (.int .i64 8) ∧ Keeps [] w w' := by
  obtain ⟨p, q, u, pd, g, N, Fl, F, V, tk, h1, h2⟩ := h
  exact sput_dup h1 ht id A c d hr
theorem OpSt.form (h : OpSt w ph ps n nK z M) (id : UInt32) : Calls Tryz.prog 27 #[P0 ps, B32 id, .slice none 0 0] w fun e w' => e = .returned (.int .i64 3) ∧ Keeps [] w w' := by
  obtain ⟨p, q, u, pd, g, N, Fl, F, V, tk, h1, h2⟩ := h
  exact sput_form h1 id none 0 0 (by have := h1.pm.z1; omega)

theorem AnSt.op (h : AnSt w0 w ph p q ps n nK z img X M) : OpSt w ph ps n nK z M := by
  obtain ⟨u, pd, g, N, Fl, F, L, tk, Q, h1, h2⟩ := h
  have hph : Q ph := h1.h.q
  have hno := fun hm => (h1.f ph hm).2 hph
  exact ⟨p, q, u, pd, g, N, Fl, F, _, tk, h1.st, fun e => hno (.inl e), fun e => hno (.inr (.inl e)), fun e => hno (.inr (.inr (.inl e))), fun e => hno (.inr (.inr (.inr (.inl e)))), fun e => hno (.inr (.inr (.inr (.inr (.inl e))))), fun e => hno (.inr (.inr (.inr (.inr (.inr e)))))⟩
theorem AnSt.hblk (h : AnSt w0 w ph p q ps n nK z img X M) : ∃ cs, Blk w ph 129 cs := by
  obtain ⟨u, pd, g, N, Fl, F, L, tk, Q, h1, h2⟩ := h
  exact h1.h.blk

def AnOpen (w0 w : World) (ph p q ps : Nat) (n nK z : Nat) (img : List UInt8) (X : Nat → Prop) (M M' : Mtx) (e : Ending) (w' : World) : Prop :=
  ∃ ps2, e = .returned (.tuple #[P0 ps2, .int .i64 0]) ∧ OpSt w' ph ps2 n nK z M' ∧ AnSt w0 w' ph p q ps n nK z img X M
theorem AnSt.open_any (h : AnSt w0 w ph p q ps n nK z img X M) (hm : MfOk n z 3 nK) (hv : Value) (gen : UInt32) {M' : Mtx} (hg : ∀ F L, FreshIs F 1 z L → recM 3 nK 3 z L = M → recM 3 nK 3 z (F.openWh gen z).l = M') :
    Calls Tryz.prog 25 #[P0 p, MfV 3 1 n z 3 hv, B32 gen] w (AnOpen w0 w ph p q ps n nK z img X M M') := by
  obtain ⟨u, pd, g, N, Fl, F, L, tk, Q, h1, h2, h3, hL, h4⟩ := h
  refine (sopen_calls h1.st.wh.fla h2.good.down h1.tzw 3 1 hv hm gen).mono ?_
  rintro e w' ⟨ps2, u2, pd2, g2, N2, Fl2, tk2, rfl, hS, a1, a2, a3, a4, k⟩
  rw [hg F L h2 h3] at hS
  have hph := (h1.hq _ h1.h.q).2
  have hno := fun hm => (h1.f ph hm).2 h1.h.q
  exact ⟨ps2, rfl, ⟨p, q, u2, pd2, g2, N2, Fl2, F, _, tk2, hS, fun e => hno (.inl e), fun e => hno (.inr (.inl e)), by omega, by omega, fun hx => by have := a4 _ hx; omega, fun hx => by have := a3 _ hx; omega⟩, u, pd, g, N, Fl, F, L, tk, Q, h1.keepsNil k, h2, h3, hL, h4⟩
theorem AnSt.open1_calls (h : AnSt w0 w ph p q ps n nK z img X M) (hm : MfOk n z 3 nK) (hv : Value) :
    Calls Tryz.prog 25 #[P0 p, MfV 3 1 n z 3 hv, .int .u32 1] w (AnOpen w0 w ph p q ps n nK z img X M M) :=
  h.open_any hm hv 1 (fun F L h2 h3 => by rw [h2.log.open h2.good.down, logWh_some]; exact h3)
theorem AnSt.open2_calls (h : AnSt w0 w ph p q ps n nK z img X M) (hm : MfOk n z 3 nK) (hv : Value) :
    Calls Tryz.prog 25 #[P0 p, MfV 3 1 n z 3 hv, .int .u32 2] w (AnOpen w0 w ph p q ps n nK z img X M (pmx 3 nK 3 z 3)) :=
  h.open_any hm hv 2 (fun F L h2 h3 => by rw [(h2.other hm.z1 hm.z2).open h2.good.down]; rfl)

theorem AnSt.start {w1 w2 w3 : World} (hH : Hd w1 (w0.heap.size ≤ ·) ph 3 nK 3 z img) (k1 : Keeps [] w0 w1) (k2 : Keeps [] w1 w2) (hp : w1.heap.size ≤ p) (hq : w1.heap.size ≤ q) (hm : MfOk n z 3 nK) (ht : TzAt w0) {e : Ending}
    (hS : SoOpen w2 p q 3 n nK 3 z (Fla.new 9) ((Fla.new 9).openWh 1 z) e w3) : ∃ ps X, e = .returned (.tuple #[P0 ps, .int .i64 0]) ∧ AnSt w0 w3 ph p q ps n nK z img X (pmx 3 nK 3 z 3) := by
  obtain ⟨ps, u, pd, g, N, Fl, tk, rfl, hS, a1, a2, a3, a4, k3⟩ := hS
  rw [new_open 9 1 hm.z1 hm.z2] at hS
  have s1 := k1.size
  have s2 := k2.size
  have s3 := k3.size
  have hFr := FreshIs.new (gen := 1) (wlog_blank 1 hm.z1 hm.z2 False)
  have hrc : recM 3 nK 3 z [] = pmx 3 nK 3 z 3 := by unfold recM; rw [List.foldl_nil]
  have hl0 : (logWh 1 z []).l = [] := by unfold logWh; rw [List.filterMap_nil]
  have hsd := Sd.start hH.fits 3
  have hrk := pmx_rank 3 nK 3 z 3 (Nat.le_refl _)
  rw [hl0, hrc] at hS
  generalize Fla.new 9 = F0 at *
  generalize pmx 3 nK 3 z 3 = M0 at *
  refine ⟨ps, _, rfl, u, pd, g, N, Fl, F0, [], tk, fun x => w0.heap.size ≤ x ∧ x < w1.heap.size, ⟨(k1.trans k2).trans k3, (hH.bound.keepsNil k2).keepsNil k3, fun x hx => by omega, by rw [List.map_nil]; exact hS, fun x hx => ?_, hsd, ht⟩, hFr, hrc, ?_, fun x => Iff.rfl⟩
  · rcases hx with rfl | rfl | rfl | rfl | hx | hx
    · exact ⟨by omega, fun h => by omega⟩
    · exact ⟨by omega, fun h => by omega⟩
    · exact ⟨by omega, fun h => by omega⟩
    · exact ⟨by omega, fun h => by omega⟩
    · have := a4 x hx; exact ⟨by omega, fun h => by omega⟩
    · have := a3 x hx; exact ⟨by omega, fun h => by omega⟩
  · have h1 := hS.t
    simp; omega
theorem AnSt.again (h : AnSt w0 w ph p q ps n nK z img X M) (id : UInt32) (d : List UInt8) : (red (mAdd (nK + 3) M (symR 3 nK 3 z img id)) ⟨rowN 3 nK 3 id, d⟩).x = 0 := by
  obtain ⟨u, pd, g, N, Fl, F, L, tk, Q, h1, h2⟩ := h
  exact h1.sd.again h1.h.fits id _ rfl
end

end Go.Proofs.YtijhaeapoapgfaaGreatDoor

set_option linter.unusedVariables false
set_option linter.unusedSimpArgs false
namespace Go.Proofs.YtijhaeapoapgfaaGreatDoor
open Go.RowKit
attribute [local go_sem ↓] Go.wp_at_zero Go.wp_at_succ

set_option maxRecDepth 100000 in
set_option maxHeartbeats 3200000 in
theorem storeAnew_walk {w : World} (ht : TzAt w) (a : Option Addr) (n c : Nat) (l : List UInt8) (hl : Rd w a l) (hn : l.length = n) (hnc : n ≤ c) (hc : c ≤ maxLen) (h0 : a = none → l = [] ∧ c = 0) (size : Int) (A : Option Addr) (cI : Nat) (ids : List UInt32) (hmc : ids.length ≤ cI) (hcI : cI ≤ maxLen) (hId : IdsAt w A ids) (hI0 : A = none → ids = [] ∧ cI = 0) :
    Calls Tryz.prog 6 #[.slice a n c, .int .i64 size, .slice A ids.length cI] w fun e w' => e = .returned (.bool true) ∧ Keeps [] w w' := by
  by_cases hb : 60 < ids.length
  · have HA := Lib.hid (awake23_calls ht)
    have h1 : (60 : Int) < (ids.length : Int) := by omega
    clear hl h0 hId hI0 ht hb
    go_enter Tryz.func6, Tryz.ntmps6
    go_wp2_with fail
    refine HA.out.mono ?_
    rintro e w1 ⟨rfl, k1⟩
    go_wp2_with fail
    go_ret
    exact ⟨rfl, k1⟩
  have hbi : (ids.length : Int) ≤ 60 := by omega
  clear hb
  obtain ⟨q, hq, eq1, eq2⟩ := umod size 16 (by omega) (by omega)
  obtain ⟨m, hm, hm1, hm2⟩ : ∃ m : Nat, min (n : Int) 200 = (m : Int) ∧ m ≤ n ∧ m ≤ 200 := ⟨min n 200, by omega, by omega, by omega⟩
  have hmi : (m : Int) ≤ (c : Int) := by omega
  obtain ⟨img, himg⟩ : ∃ img, img = ([] ++ l.take m) ++ [9] := ⟨_, rfl⟩
  obtain ⟨L, hL, hL1, hL2⟩ : ∃ L, img.length = L ∧ 1 ≤ L ∧ L ≤ 201 := ⟨m + 1, by rw [himg, List.nil_append, List.length_append, List.length_take]; simp; omega, by omega, by omega⟩
  obtain ⟨z, hz, hz1, hz2, hz3⟩ : ∃ z : Nat, max (1 + (q : Int)) (((L : Int) + 64 - 1) / 64) = (z : Int) ∧ 1 ≤ z ∧ z ≤ 16 ∧ (L + 63) / 64 ≤ z := ⟨max (1 + q) ((L + 63) / 64), by omega, by omega, by omega, by omega⟩
  have hFits := fits_of (img := img) (q := q) (P := 3) (z := z) (by omega) (by omega) (by rw [hL]; exact hz3) hz1 hz2 (by omega)
  obtain ⟨nK, hnK⟩ : ∃ nK : Nat, nK = (img.length + z - 1) / z := ⟨_, rfl⟩
  rw [← hnK] at hFits
  have hMf : MfOk L z 3 nK := ⟨hL1, by omega, hFits.k1, hFits.k2, by omega, hz1, hz2, by rw [← hL]; exact hFits.c⟩
  have H1 := Own.lit8 w #[] [] 0 rfl rfl (by omega)
  have HO1 := Lib.hid H1
  have kW : Keeps [] w (w.alloc (.cells #[] 5)) := (Keeps.refl [] w).alloc _
  have HR1 := Lib.hid ((hl.keepsNil kW).take m)
  have Htl := Lib.hid (show (l.take m).length = m from by rw [List.length_take]; omega)
  have Hm0 := Lib.hid (show a = none → m = 0 ∧ c = 0 from fun h => by have := h0 h; rw [this.1] at hn; simp at hn; exact ⟨by omega, this.2⟩)
  have hb1 : w.heap.size ≤ (w.alloc (.cells #[] 5)).heap.size := by simp
  have hlen1 : ([] : List UInt8).length + m ≤ 140737488351232 := by simp; omega
  have Himg := Lib.hid himg
  have HFits := Lib.hid hFits
  have HL := Lib.hid hL
  have HkW := Lib.hid kW
  have HM := Lib.hid hMf
  have HT := Lib.hid ht
  have HId := Lib.hid hId
  clear H1 hl h0 himg hFits kW hnK hL hMf ht hId hI0
  go_enter Tryz.func6, Tryz.ntmps6
  go_wp2_with (first | (at_builtin; refine wpList_append_bytes rfl (.tmp 25) (.tmp 30) rfl HO1.out rfl a m c rfl HR1.out Htl.out Hm0.out hlen1 hb1 ?_; intro v13 w13 g1 g2 g3; have HO2 := Lib.hid (g1.keeps ((Keeps.refl [] w13).alloc (.cells #[.int .u8 9] 5)) (by simp)); have HR2 := Lib.hid (Rd.lit w13 5 #[.int .u8 9] [9] rfl); have k13 : Keeps [] w w13 := HkW.out.grown g2 (fun x hx => .inr (HO1.out.ge8 x hx)); have hb2 : w.heap.size ≤ (w13.alloc (.cells #[.int .u8 9] 5)).heap.size := (Nat.le_trans k13.size (by simp)); have hlen2 : ([] ++ l.take m).length + 1 ≤ 140737488351232 := (by rw [List.nil_append, Htl.out]; omega); have Hk13 := Lib.hid (k13.alloc (.cells #[.int .u8 9] 5)); clear g1 g2 g3 k13) | (at_builtin; (refine wpList_append_bytes rfl (.tmp 31) (.tmp 32) rfl HO2.out rfl (some ⟨w13.heap.size, 0, none⟩) 1 1 rfl HR2.out rfl (by simp) hlen2 hb2 ?_); intro v15 w15 g4 g5 g6; have k15 : Keeps [] w w15 := Hk13.out.grown g5 (fun x hx => .inr (HO2.out.ge8 x hx)); rw [← Himg.out] at g4; have Hk15 := Lib.hid k15; have HR15 := Lib.hid g4.rds; obtain ⟨a15, c15, rfl, _⟩ := g4.rds; rw [HL.out]; clear g4 g5 g6 k15))
  obtain ⟨a', c', ea, _, _, r3, r4, _⟩ := id HR15.out
  simp only [Value.slice.injEq] at ea
  obtain ⟨rfl, hx0, rfl⟩ := ea
  clear hx0
  rw [HL.out] at HR15
  refine (rdigest_calls a15 L c15 img r3 HL.out (by omega) (fun h => ⟨by rw [← HL.out, (r4 h).1]; rfl, (r4 h).2⟩)).mono ?_
  rintro e w1 ⟨vh, rfl, hO1, k1⟩
  have hR1 := hO1.rds
  obtain ⟨ah, ch, rfl, _⟩ := id hR1
  rw [sha_len img]
  have hOf : ∀ W, Calls Tryz.prog 31 #[.agg #[.int .u32 3, .int .u32 1, .int .i64 L, .int .i64 z, .int .i64 3, .slice ah 32 ch]] W (fun e w' => e = .returned (.tuple #[.agg #[.int .u32 3, .int .i64 nK, .int .i64 3, .int .i64 z], .bool true]) ∧ Keeps [] W w') := fun W => of_calls 3 1 _ HM.out
  have HOf := Lib.hid hOf
  have kA : Keeps [] w1 (w1.alloc (.cells #[.int .u32 3, .int .u32 1, .int .i64 L, .int .i64 z, .int .i64 3, .slice ah 32 ch] 35)) := (Keeps.refl [] w1).alloc _
  have hBm := Blk.newA w1 35 #[.int .u32 3, .int .u32 1, .int .i64 L, .int .i64 z, .int .i64 3, .slice ah 32 ch]
  have HR1 := Lib.hid ((HR15.out.keepsNil k1).keepsNil kA)
  have HK1 := Lib.hid ((Hk15.out.trans k1).trans kA)
  clear hO1 hR1 k1 kA r3 r4 HR15 Hk15 hOf
  have d0 := hBm.cell' (i := 0) rfl
  have d1 := hBm.cell' (i := 1) rfl
  have d2 := hBm.cell' (i := 2) rfl
  have d3 := hBm.cell' (i := 3) rfl
  have d4 := hBm.cell' (i := 4) rfl
  have d5 := hBm.cell' (i := 5) rfl
  go_wp2_with fail
  generalize w1.alloc (.cells #[.int .u32 3, .int .u32 1, .int .i64 L, .int .i64 z, .int .i64 3, .slice ah 32 ch] 35) = w2 at *
  refine (HOf.out _).mono ?_
  rintro e w3 ⟨rfl, k3⟩
  have kB : Keeps [] w3 (w3.alloc (.cells #[.int .u32 3, .int .i64 nK, .int .i64 3, .int .i64 z] 38)) := (Keeps.refl [] w3).alloc _
  have hBp := Blk.newA w3 38 #[.int .u32 3, .int .i64 nK, .int .i64 3, .int .i64 z]
  have HBm := Lib.hid ((hBm.keeps k3 (by simp)).keeps kB (by simp))
  have HR3 := Lib.hid ((HR1.out.keepsNil k3).keepsNil kB)
  have HK3 := Lib.hid ((HK1.out.trans k3).trans kB)
  clear d0 d1 d2 d3 d4 d5 hBm k3 kB HR1 HK1 HOf
  have b0 := hBp.cell' (i := 0) rfl
  have b1 := hBp.cell' (i := 1) rfl
  have b2 := hBp.cell' (i := 2) rfl
  have b3 := hBp.cell' (i := 3) rfl
  go_wp2_with fail
  generalize w3.alloc (.cells #[.int .u32 3, .int .i64 nK, .int .i64 3, .int .i64 z] 38) = wc at *
  have hCN : Calls Tryz.prog 32 #[.agg #[.int .u32 3, .int .i64 nK, .int .i64 3, .int .i64 z], .slice a15 L c15] wc (HdNew wc 3 nK 3 z img) := cnew_calls HR3.out 3 HFits.out
  refine hCN.mono ?_
  rintro e w4 ⟨ph, rfl, hph, hH, k4⟩
  have HH := Lib.hid hH
  have Hk4 := Lib.hid k4
  clear hH k4 hCN
  go_wp2_with fail
  refine (new_calls 9).mono ?_
  rintro e w5 ⟨p, q, rfl, hp, hq, hF, k5⟩
  have HTc := Lib.hid (HT.out.keeps HK3.out (by simp))
  have hSO : Calls Tryz.prog 25 #[P0 p, .agg #[.int .u32 3, .int .u32 1, .int .i64 L, .int .i64 z, .int .i64 3, .slice ah 32 ch], .int .u32 1] w5 (SoOpen w5 p q 3 L nK 3 z (Fla.new 9) ((Fla.new 9).openWh 1 z)) := sopen_calls hF rfl (HTc.out.keeps (Hk4.out.trans k5) (by simp)) 3 1 _ HM.out 1
  have HSO := Lib.hid hSO
  have hBm5 := HBm.out.keeps (Hk4.out.trans k5) (by simp)
  have d0 := hBm5.cell' (i := 0) rfl
  have d1 := hBm5.cell' (i := 1) rfl
  have d2 := hBm5.cell' (i := 2) rfl
  have d3 := hBm5.cell' (i := 3) rfl
  have d4 := hBm5.cell' (i := 4) rfl
  have d5 := hBm5.cell' (i := 5) rfl
  have Hk5 := Lib.hid k5
  clear hF hSO k5 hBm5
  go_wp2_with fail
  refine HSO.out.mono ?_
  rintro e w6 hS
  obtain ⟨ps, X, rfl, hAn⟩ := AnSt.start HH.out Hk4.out Hk5.out hp hq HM.out HTc.out hS
  have HAn := Lib.hid hAn
  clear hS hAn HSO HH Hk4 Hk5 d0 d1 d2 d3 d4 d5 hp hq hph
  go_wp2_with fail
  go_loopw [74] (fun i wr => ∃ (k : Nat) (X : Nat → Prop) (M : Mtx), k ≤ ids.length ∧ i = .int .i64 k ∧ AnSt wc wr ph p q ps L nK z img X M) (fun i _ => ids.length - (intOf i).toNat)
  case atStart => exact ⟨0, X, _, Nat.zero_le _, rfl, HAn.out⟩
  case round =>
    clear HAn
    obtain ⟨k, X, M, hk, rfl, hA⟩ := hrel
    by_cases hlt : k < ids.length
    · have hki : (k : Int) < (ids.length : Int) := by omega
      obtain ⟨x, hx⟩ : ∃ x, ids[k]? = some x := ⟨_, List.getElem?_eq_getElem hlt⟩
      obtain ⟨bi, oi, rfl, hci⟩ := HId.out k x hx
      have ci := (HK3.out.trans hA.keep0).cell0 hci
      have HA := Lib.hid hA
      clear hA hx hci
      go_wp2_with fail
      refine (HA.out.sym_calls x).mono ?_
      rintro e w1 ⟨b, rfl, hR, hX, hA1, k1⟩
      have HP1 := Lib.hid (hA1.put_calls x hR hX)
      have hag := Lib.hid (hA1.again x)
      clear hR hX hA1 k1 ci HA
      go_wp2_with fail
      refine HP1.out.mono ?_
      rintro e w2 ⟨av, X2, rfl, hav, hA2⟩
      generalize mAdd (nK + 3) M (symR 3 nK 3 z img x) = M2 at *
      have hBm2 := HBm.out.keeps hA2.keep0 (by simp)
      have d0 := hBm2.cell' (i := 0) rfl
      have d1 := hBm2.cell' (i := 1) rfl
      have d2 := hBm2.cell' (i := 2) rfl
      have d3 := hBm2.cell' (i := 3) rfl
      have d4 := hBm2.cell' (i := 4) rfl
      have d5 := hBm2.cell' (i := 5) rfl
      have hO2 : Calls Tryz.prog 25 #[P0 p, .agg #[.int .u32 3, .int .u32 1, .int .i64 L, .int .i64 z, .int .i64 3, .slice ah 32 ch], .int .u32 1] w2 (AnOpen wc w2 ph p q ps L nK z img X2 M2 M2) := hA2.open1_calls HM.out _
      have HO2 := Lib.hid hO2
      clear hO2 hBm2 hA2 HP1
      go_wp2_with fail
      refine HO2.out.mono ?_
      rintro e w3 ⟨ps2, rfl, hO3, hA3⟩
      have HO3 := Lib.hid hO3
      have HA3 := Lib.hid hA3
      clear d0 d1 d2 d3 d4 d5 hO3 hA3 HO2
      obtain ⟨kk, hkk⟩ : ∃ kk : Nat, kk = rank M2 - 3 := ⟨_, rfl⟩
      obtain ⟨nd, hnd⟩ : ∃ nd : Nat, nd = nK + 3 - rank M2 := ⟨_, rfl⟩
      have Hkk := Lib.hid hkk
      have Hnd := Lib.hid hnd
      clear hkk hnd
      have hkn : ((kk : Int) != (kk : Int)) = false := by simp
      have hnn : ((nd : Int) != (nd : Int)) = false := by simp
      rcases hav with rfl | rfl
      all_goals (
        go_wp2_with fail
        refine HO3.out.kept.mono ?_
        rw [← Hkk.out]
        rintro e w4 ⟨rfl, rfl⟩
        go_wp2_with fail
        refine HA3.out.op.kept.mono ?_
        rw [← Hkk.out]
        rintro e w4 ⟨rfl, rfl⟩
        go_wp2_with fail
        refine HO3.out.needs.mono ?_
        rw [← Hnd.out]
        rintro e w4 ⟨rfl, k4⟩
        have HO4 := Lib.hid (HO3.out.keepsNil k4)
        have HA4 := Lib.hid (HA3.out.keepsNil k4)
        clear k4
        go_wp2_with fail
        refine HA4.out.op.needs.mono ?_
        rw [← Hnd.out]
        rintro e w5 ⟨rfl, k5⟩
        have HO5 := Lib.hid (HO4.out.keepsNil k5)
        have HA5 := Lib.hid (HA4.out.keepsNil k5)
        clear k5 HO4 HA4
        go_wp2_with fail
        refine (HA5.out.sym_calls x).mono ?_
        rintro e w6 ⟨b6, rfl, hR6, hX6, hA6, k6⟩
        have HA6 := Lib.hid hA6
        have HO6 := Lib.hid (HO5.out.keepsH k6 HA5.out.hblk)
        clear hR6 hX6 hA6 k6 HO5 HA5
        go_wp2_with fail
        refine (HO6.out.dup HA6.out.tzw x (some ⟨b6, 0, none⟩) z _ (hag.out (symb 3 nK 3 z img x))).mono ?_
        rintro e w7 ⟨rfl, k7⟩
        have HO7 := Lib.hid (HO6.out.keepsNil k7)
        have HA7 := Lib.hid (HA6.out.keepsNil k7)
        clear k7 HO6 HA6
        go_wp2_with fail
        refine (HO7.out.form x).mono ?_
        rintro e w8 ⟨rfl, k8⟩
        have HA8 := Lib.hid (HA7.out.keepsNil k8)
        clear k8 HO7 HA7
        go_wp2_with fail
        go_roundw
        case rel => exact ⟨k + 1, X2, M2, by omega, by go_num, HA8.out⟩
        case measure => simp [intOf]; omega)
    · obtain rfl : k = ids.length := by omega
      have hBm2 := HBm.out.keeps hA.keep0 (by simp)
      have d0 := hBm2.cell' (i := 0) rfl
      have d1 := hBm2.cell' (i := 1) rfl
      have d2 := hBm2.cell' (i := 2) rfl
      have d3 := hBm2.cell' (i := 3) rfl
      have d4 := hBm2.cell' (i := 4) rfl
      have d5 := hBm2.cell' (i := 5) rfl
      have hO2 : Calls Tryz.prog 25 #[P0 p, .agg #[.int .u32 3, .int .u32 1, .int .i64 L, .int .i64 z, .int .i64 3, .slice ah 32 ch], .int .u32 2] wr (AnOpen wc wr ph p q ps L nK z img X M (pmx 3 nK 3 z 3)) := hA.open2_calls HM.out _
      have HO2 := Lib.hid hO2
      clear hO2 hBm2 hA
      go_wp2_with fail
      refine HO2.out.mono ?_
      rintro e y3 ⟨ps2, rfl, hO3, hA3⟩
      have c1 := hA3.keep0.cell0 b1
      have hrk := pmx_rank 3 nK 3 z 3 (Nat.le_refl _)
      have HKd := Lib.hid hA3.keep0
      have hKp : ∀ W, Keeps [] y3 W → Calls Tryz.prog 28 #[P0 ps2] W (fun e w' => e = .returned (.int .i64 0) ∧ W = w') := fun W k => by
        have := (hO3.keepsNil k).kept
        rw [hrk] at this
        exact this
      have hNd : ∀ W, Keeps [] y3 W → Calls Tryz.prog 29 #[P0 ps2] W (fun e w' => e = .returned (.int .i64 nK) ∧ Keeps [] W w') := fun W k => by
        have := (hO3.keepsNil k).needs
        rw [hrk, show nK + 3 - 3 = nK from by omega] at this
        exact this
      have HKp := Lib.hid hKp
      have HNd := Lib.hid hNd
      have HTz := Lib.hid hA3.tzw
      clear hKp hNd hO3 hA3 d0 d1 d2 d3 d4 d5 HO2 hrk b0 b1 b2 b3
      go_upto_region 21 with (fail)
      have kd : Keeps [] y3 y3.drew := (Keeps.refl [] y3).drew
      refine wp_region_noPanic ?_
      refine wp_region_held_drew (S := (fun W => W.cell? ⟨w3.heap.size, 1, none⟩ = some (.int .i64 nK))) (by kernel_rfl) (c1) (fun hHeld => ?_)
      refine wpAnyH_take (i := 0) (v := ?v1_1) rfl (by kernel_rfl) (by kernel_rfl) (by kernel_rfl) (fun _ _ _ h => h) (Or.inl ⟨by rfl, ?y1_1⟩) (by assumption) ?r1_1
      case y1_1 => (intro w hSw; (try dsimp only at hSw); go_simp; try with_reducible rfl)
      (try simp only [Act.put, List.getElem_toArray, List.getElem_cons_zero, List.getElem_cons_succ, List.setIfInBounds_toArray, List.set_cons_zero, List.set_cons_succ])
      refine wpAnyH_take (i := 1) (v := ?v1_2) rfl (by kernel_rfl) (by kernel_rfl) (by kernel_rfl) (fun _ _ _ h => h) (Or.inl ⟨by rfl, ?y1_2⟩) (by assumption) ?r1_2
      case y1_2 => (intro w hSw; (try dsimp only at hSw); go_simp; try with_reducible rfl)
      (try simp only [Act.put, List.getElem_toArray, List.getElem_cons_zero, List.getElem_cons_succ, List.setIfInBounds_toArray, List.set_cons_zero, List.set_cons_succ])
      refine wpAnyH_take (i := 2) (v := ?v1_3) rfl (by kernel_rfl) (by kernel_rfl) (by kernel_rfl) (fun _ _ _ h => h) (Or.inl ⟨by rfl, ?y1_3⟩) (by assumption) ?r1_3
      case y1_3 => (intro w hSw; (try dsimp only at hSw); go_simp; try with_reducible rfl)
      (try simp only [Act.put, List.getElem_toArray, List.getElem_cons_zero, List.getElem_cons_succ, List.setIfInBounds_toArray, List.set_cons_zero, List.set_cons_succ])
      refine wpAnyH_take (i := 3) (v := ?v1_4) rfl (by kernel_rfl) (by kernel_rfl) (by kernel_rfl) (fun _ _ _ h => h) (Or.inl ⟨by rfl, ?y1_4⟩) (by assumption) ?r1_4
      case y1_4 => (intro w hSw; (try dsimp only at hSw); go_simp; try with_reducible rfl)
      (try simp only [Act.put, List.getElem_toArray, List.getElem_cons_zero, List.getElem_cons_succ, List.setIfInBounds_toArray, List.set_cons_zero, List.set_cons_succ])
      refine wpAnyH_ready (rs := [4]) (by kernel_rfl) (by simp) ?_
      refine AllReadyH.cons rfl (fun K hK => ?_) AllReadyH.nil
      go_simp
      refine (HKp.out _ kd).mono ?_
      rintro e y4 ⟨rfl, rfl⟩
      go_wp2_with fail
      refine hK.out _ _ ?s1_5 (fun hHeld => ?_)
      case s1_5 => ((try dsimp only) <;> (first | exact c1))
      clear hK K
      (try simp only [Act.put, List.getElem_toArray, List.getElem_cons_zero, List.getElem_cons_succ, List.setIfInBounds_toArray, List.set_cons_zero, List.set_cons_succ])
      refine wpAnyH_take (i := 5) (v := ?v1_6) rfl (by kernel_rfl) (by kernel_rfl) (by kernel_rfl) (fun _ _ _ h => h) (Or.inl ⟨by rfl, ?y1_6⟩) (by assumption) ?r1_6
      case y1_6 => (intro w hSw; (try dsimp only at hSw); go_simp; try with_reducible rfl)
      (try simp only [Act.put, List.getElem_toArray, List.getElem_cons_zero, List.getElem_cons_succ, List.setIfInBounds_toArray, List.set_cons_zero, List.set_cons_succ])
      refine wpAnyH_take (i := 6) (v := ?v1_7) rfl (by kernel_rfl) (by kernel_rfl) (by kernel_rfl) (fun _ _ _ h => h) (Or.inl ⟨by rfl, ?y1_7⟩) (by assumption) ?r1_7
      case y1_7 => (intro w hSw; (try dsimp only at hSw); go_simp; try with_reducible rfl)
      (try simp only [Act.put, List.getElem_toArray, List.getElem_cons_zero, List.getElem_cons_succ, List.setIfInBounds_toArray, List.set_cons_zero, List.set_cons_succ])
      refine wpAnyH_take (i := 7) (v := ?v1_8) rfl (by kernel_rfl) (by kernel_rfl) (by kernel_rfl) (fun _ _ _ h => h) (Or.inl ⟨by rfl, ?y1_8⟩) (by assumption) ?r1_8
      case y1_8 => (intro w hSw; (try dsimp only at hSw); go_simp; try with_reducible rfl)
      (try simp only [Act.put, List.getElem_toArray, List.getElem_cons_zero, List.getElem_cons_succ, List.setIfInBounds_toArray, List.set_cons_zero, List.set_cons_succ])
      refine wpAnyH_take (i := 8) (v := ?v1_9) rfl (by kernel_rfl) (by kernel_rfl) (by kernel_rfl) (fun _ _ _ h => h) (Or.inl ⟨by rfl, ?y1_9⟩) (by assumption) ?r1_9
      case y1_9 => (intro w hSw; (try dsimp only at hSw); go_simp; try with_reducible rfl)
      (try simp only [Act.put, List.getElem_toArray, List.getElem_cons_zero, List.getElem_cons_succ, List.setIfInBounds_toArray, List.set_cons_zero, List.set_cons_succ])
      refine wpAnyH_take (i := 10) (v := ?v1_10) rfl (by kernel_rfl) (by kernel_rfl) (by kernel_rfl) (fun _ _ _ h => h) (Or.inl ⟨by rfl, ?y1_10⟩) (by assumption) ?r1_10
      case y1_10 => (intro w hSw; (try dsimp only at hSw); go_simp; try with_reducible rfl)
      (try simp only [Act.put, List.getElem_toArray, List.getElem_cons_zero, List.getElem_cons_succ, List.setIfInBounds_toArray, List.set_cons_zero, List.set_cons_succ])
      refine wpAnyH_take (i := 11) (v := ?v1_11) rfl (by kernel_rfl) (by kernel_rfl) (by kernel_rfl) (fun _ _ _ h => h) (Or.inl ⟨by rfl, ?y1_11⟩) (by assumption) ?r1_11
      case y1_11 => (intro w hSw; (try dsimp only at hSw); go_simp; try with_reducible rfl)
      (try simp only [Act.put, List.getElem_toArray, List.getElem_cons_zero, List.getElem_cons_succ, List.setIfInBounds_toArray, List.set_cons_zero, List.set_cons_succ])
      refine wpAnyH_ready (rs := [9]) (by kernel_rfl) (by simp) ?_
      refine AllReadyH.cons rfl (fun K hK => ?_) AllReadyH.nil
      go_simp
      refine (HNd.out _ kd).mono ?_
      rintro e y5 ⟨rfl, k5⟩
      replace kd := kd.trans k5
      go_wp2_with fail
      refine hK.out _ _ ?s1_12 (fun hHeld => ?_)
      case s1_12 => ((try dsimp only) <;> (first | exact kd.cell0 c1))
      clear hK K
      (try simp only [Act.put, List.getElem_toArray, List.getElem_cons_zero, List.getElem_cons_succ, List.setIfInBounds_toArray, List.set_cons_zero, List.set_cons_succ])
      refine wpAnyH_take (i := 12) (v := ?v1_13) rfl (by kernel_rfl) (by kernel_rfl) (by kernel_rfl) (fun _ _ _ h => h) (Or.inl ⟨by rfl, ?y1_13⟩) (by assumption) ?r1_13
      case y1_13 => (intro w hSw; (try dsimp only at hSw); go_simp; try with_reducible rfl)
      (try simp only [Act.put, List.getElem_toArray, List.getElem_cons_zero, List.getElem_cons_succ, List.setIfInBounds_toArray, List.set_cons_zero, List.set_cons_succ])
      refine wpAnyH_take (i := 13) (v := ?v1_14) rfl (by kernel_rfl) (by kernel_rfl) (by kernel_rfl) (fun _ _ _ h => h) (Or.inl ⟨by rfl, ?y1_14⟩) (by assumption) ?r1_14
      case y1_14 => (intro w hSw; (try dsimp only at hSw); go_simp; try with_reducible rfl)
      (try simp only [Act.put, List.getElem_toArray, List.getElem_cons_zero, List.getElem_cons_succ, List.setIfInBounds_toArray, List.set_cons_zero, List.set_cons_succ])
      refine wpAnyH_take (i := 14) (v := ?v1_15) rfl (by kernel_rfl) (by kernel_rfl) (by kernel_rfl) (fun _ _ _ h => h) (Or.inl ⟨by rfl, ?y1_15⟩) (by assumption) ?r1_15
      case y1_15 => (intro w hSw; (try dsimp only at hSw); go_simp; try with_reducible rfl)
      (try simp only [Act.put, List.getElem_toArray, List.getElem_cons_zero, List.getElem_cons_succ, List.setIfInBounds_toArray, List.set_cons_zero, List.set_cons_succ])
      refine wpAnyH_ready (rs := [15]) (by kernel_rfl) (by simp) ?_
      refine AllReadyH.cons rfl (fun K hK => ?_) AllReadyH.nil
      go_simp
      refine (awake23_calls (HTz.out.keeps kd (by simp))).mono ?_
      rintro e y6 ⟨rfl, k6⟩
      replace kd := kd.trans k6
      go_wp2_with fail
      refine hK.out _ _ ?s1_16 (fun hHeld => ?_)
      case s1_16 => ((try dsimp only) <;> (first | exact kd.cell0 c1))
      clear hK K
      (try simp only [Act.put, List.getElem_toArray, List.getElem_cons_zero, List.getElem_cons_succ, List.setIfInBounds_toArray, List.set_cons_zero, List.set_cons_succ])
      refine wpAnyH_take (i := 16) (v := ?v1_17) rfl (by kernel_rfl) (by kernel_rfl) (by kernel_rfl) (fun _ _ _ h => h) (Or.inl ⟨by rfl, ?y1_17⟩) (by assumption) ?r1_17
      case y1_17 => (intro w hSw; (try dsimp only at hSw); go_simp; try with_reducible rfl)
      (try simp only [Act.put, List.getElem_toArray, List.getElem_cons_zero, List.getElem_cons_succ, List.setIfInBounds_toArray, List.set_cons_zero, List.set_cons_succ])
      refine wpAnyH_take (i := 17) (v := ?v1_18) rfl (by kernel_rfl) (by kernel_rfl) (by kernel_rfl) (fun _ _ _ h => h) (Or.inl ⟨by rfl, ?y1_18⟩) (by assumption) ?r1_18
      case y1_18 => (intro w hSw; (try dsimp only at hSw); go_simp; try with_reducible rfl)
      (try simp only [Act.put, List.getElem_toArray, List.getElem_cons_zero, List.getElem_cons_succ, List.setIfInBounds_toArray, List.set_cons_zero, List.set_cons_succ])
      refine wpAnyH_done (by kernel_rfl) ?_ _
      refine NoPanic.normal ?_
      go_wp2_with fail
      go_ret
      exact ⟨rfl, (HK3.out.trans HKd.out).trans kd⟩

end Go.Proofs.YtijhaeapoapgfaaGreatDoor
