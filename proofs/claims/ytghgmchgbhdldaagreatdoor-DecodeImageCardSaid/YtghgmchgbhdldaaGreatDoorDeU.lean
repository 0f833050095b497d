/-
  DeU: decoders that hear symbols of an image: plain. No program here.
-/
import Derived.Test.YtghgmchgbhdldaaGreatDoorDe4
import Derived.Test.YtghgmchgbhdldaaGreatDoorDeT
set_option linter.unusedVariables false
set_option linter.unusedSimpArgs false
namespace Go.Proofs.YtghgmchgbhdldaaGreatDoor
open Go.RowKit

/-- A symbol as a row. -/
def symR (s : UInt32) (nK P z : Nat) (img : List UInt8) (id : UInt32) : Rw := ⟨rowN s nK P id, symb s nK P z img id⟩

/-- A decoder's matrix that has heard symbols of an image. -/
structure Sd (s : UInt32) (nK P z : Nat) (img : List UInt8) (M : Mtx) : Prop where
  e : Ech (nK + P) z M
  d : Snd12 z (pieces s nK P z img) M
  p : ∀ j, j < P → inS M (parX s nK (nK + P) j nK)

theorem symR_lt (s : UInt32) (nK P z : Nat) (img : List UInt8) (id : UInt32) : (symR s nK P z img id).x < 2 ^ (nK + P) := rowN_lt s nK P id
theorem Fits.sym_len {nK P z : Nat} {img : List UInt8} (hF : Fits nK P z img) (s : UInt32) (id : UInt32) : (symb s nK P z img id).length = z := symb_len hF.k1 (by have := hF.k2; have := hF.p2; omega) hF.f
theorem Sd.start {nK P z : Nat} {img : List UInt8} (hF : Fits nK P z img) (s : UInt32) : Sd s nK P z img (pmx s nK P z P) := by
  refine ⟨pmx_ech s nK P z P, ?_, fun j hj => pmx_in s nK P z P j hj⟩
  have h := pmx_snd s (z := z) (P := P) (L := bsplit img nK z nK) (bsplit_each hF.f (Nat.le_refl _)) P (Nat.le_refl _)
  rw [bsplit_len] at h
  exact h
theorem Sd.hear {s : UInt32} {nK P z : Nat} {img : List UInt8} {M : Mtx} (hF : Fits nK P z img) (h : Sd s nK P z img M) (id : UInt32) : Sd s nK P z img (mAdd (nK + P) M (symR s nK P z img id)) := by
  have hA : ∀ x ∈ pieces s nK P z img, x.length = z := ball_each (bsplit_each hF.f (Nat.le_refl _))
  have hlt := symR_lt s nK P z img id
  have hl : (symR s nK P z img id).d.length = z := hF.sym_len s id
  have hd : (symR s nK P z img id).d = dotP z (pieces s nK P z img) (symR s nK P z img id).x := symb_dot s hF.k1 (by have := hF.k2; have := hF.p2; omega) id
  obtain ⟨a1, _⟩ := mAdd_in h.e hlt hl
  exact ⟨mAdd_ech h.e hlt hl, mAdd_snd hA h.e h.d hlt hd, fun j hj => a1 _ (h.p j hj)⟩
theorem Sd.image {s : UInt32} {nK P z : Nat} {img : List UInt8} {M : Mtx} (hF : Fits nK P z img) (h : Sd s nK P z img M) (hr : rank M = nK + P) : joinF img.length ((dats M (nK + P)).take nK) = img :=
  full_image s hF.f h.e h.d hr
theorem Sd.dats16 {s : UInt32} {nK P z : Nat} {img : List UInt8} {M : Mtx} (hF : Fits nK P z img) (h : Sd s nK P z img M) (hr : rank M = nK + P) : ∀ x ∈ dats M (nK + P), x.length ≤ 16 := by
  rw [full_dats s hF.f h.e h.d hr]
  intro x hx
  have := ball_each (bsplit_each hF.f (Nat.le_refl nK)) (s := s) (P := P) x hx
  have := hF.z2
  omega
theorem Sd.rank_le {s : UInt32} {nK P z : Nat} {img : List UInt8} {M : Mtx} (h : Sd s nK P z img M) : rank M ≤ nK + P := by
  have := _root_.Go.Proofs.YtghgmchgbhdldaaGreatDoor.rank_le M
  rw [h.e.l] at this
  exact this
theorem Sd.again {s : UInt32} {nK P z : Nat} {img : List UInt8} {M : Mtx} (hF : Fits nK P z img) (h : Sd s nK P z img M) (id : UInt32) (r : Rw) (hr : r.x = rowN s nK P id) : (red (mAdd (nK + P) M (symR s nK P z img id)) r).x = 0 := by
  rw [red_in, hr]
  exact (mAdd_in h.e (symR_lt s nK P z img id) (hF.sym_len s id)).2

/-- What is heard, one symbol behind another. -/
def hears (s : UInt32) (nK P z : Nat) (img : List UInt8) (M : Mtx) (l : List UInt32) : Mtx := l.foldl (fun M id => mAdd (nK + P) M (symR s nK P z img id)) M
theorem hears_snoc (s : UInt32) (nK P z : Nat) (img : List UInt8) (M : Mtx) (l : List UInt32) (id : UInt32) : hears s nK P z img M (l ++ [id]) = mAdd (nK + P) (hears s nK P z img M l) (symR s nK P z img id) := by unfold hears; rw [List.foldl_append]; rfl
theorem hears_app (s : UInt32) (nK P z : Nat) (img : List UInt8) (M : Mtx) (l l' : List UInt32) : hears s nK P z img M (l ++ l') = hears s nK P z img (hears s nK P z img M l) l' := by unfold hears; rw [List.foldl_append]
theorem Sd.hears {s : UInt32} {nK P z : Nat} {img : List UInt8} (hF : Fits nK P z img) : ∀ (l : List UInt32) {M : Mtx}, Sd s nK P z img M → Sd s nK P z img (hears s nK P z img M l)
  | [], _, h => h
  | id :: l, _, h => Sd.hears hF l (h.hear hF id)
theorem hears_in {s : UInt32} {nK P z : Nat} {img : List UInt8} (hF : Fits nK P z img) : ∀ (l : List UInt32) {M : Mtx}, Sd s nK P z img M → (∀ x, inS M x → inS (hears s nK P z img M l) x) ∧ ∀ id ∈ l, inS (hears s nK P z img M l) (rowN s nK P id)
  | [], _, h => ⟨fun _ hx => hx, fun id hi => by cases hi⟩
  | id :: l, M, h => by
    obtain ⟨b1, b2⟩ := hears_in hF l (h.hear hF id)
    obtain ⟨a1, a2⟩ := mAdd_in h.e (symR_lt s nK P z img id) (hF.sym_len s id)
    refine ⟨fun x hx => b1 x (a1 x hx), fun id' hi => ?_⟩
    rcases List.mem_cons.1 hi with rfl | hi
    · exact b1 _ a2
    · exact b2 id' hi
theorem hears_sub {s : UInt32} {nK P z : Nat} {img : List UInt8} (hF : Fits nK P z img) {T : Nat → Prop} (h0 : T 0) (hx : ∀ a b, T a → T b → T (a ^^^ b)) : ∀ (l : List UInt32) {M : Mtx}, Sd s nK P z img M → (∀ x, inS M x → T x) → (∀ id ∈ l, T (rowN s nK P id)) → ∀ x, inS (hears s nK P z img M l) x → T x
  | [], _, h, hM, _ => hM
  | id :: l, M, h, hM, hl => hears_sub hF h0 hx l (h.hear hF id) (mAdd_sub h.e (symR_lt s nK P z img id) (hF.sym_len s id) h0 hx hM (hl id (by simp))) (fun i hi => hl i (by simp [hi]))
theorem hears_same {s : UInt32} {nK P z : Nat} {img : List UInt8} (hF : Fits nK P z img) {M : Mtx} (h : Sd s nK P z img M) {l l' : List UInt32} (hm : ∀ id, id ∈ l ↔ id ∈ l') : Same (hears s nK P z img M l) (hears s nK P z img M l') := by
  obtain ⟨a1, a2⟩ := hears_in hF l h
  obtain ⟨b1, b2⟩ := hears_in hF l' h
  exact fun x => ⟨hears_sub hF (inS_zero _) (fun _ _ => inS_xor) l h b1 (fun id hi => b2 id ((hm id).1 hi)) x, hears_sub hF (inS_zero _) (fun _ _ => inS_xor) l' h a1 (fun id hi => a2 id ((hm id).2 hi)) x⟩
theorem hears_rank_le {s : UInt32} {nK P z : Nat} {img : List UInt8} (hF : Fits nK P z img) : ∀ (l : List UInt32) {M : Mtx}, Sd s nK P z img M → rank (hears s nK P z img M l) ≤ rank M + l.length
  | [], _, _ => Nat.le_refl _
  | id :: l, M, h => by
    have h1 := hears_rank_le hF l (h.hear hF id)
    have h2 : rank (mAdd (nK + P) M (symR s nK P z img id)) ≤ rank M + 1 := by
      by_cases e : (red M (symR s nK P z img id)).x = 0
      · rw [mAdd_rank0 e]; omega
      · rw [mAdd_rank1 h.e (symR_lt s nK P z img id) (hF.sym_len s id) e]; exact Nat.le_refl _
    show rank (hears s nK P z img (mAdd (nK + P) M (symR s nK P z img id)) l) ≤ rank M + (l.length + 1)
    omega
/-- If each symbol counts, each is new. -/
theorem hears_new {s : UInt32} {nK P z : Nat} {img : List UInt8} (hF : Fits nK P z img) {M : Mtx} (h : Sd s nK P z img M) (l : List UInt32) (id : UInt32) (l' : List UInt32) (hr : rank (hears s nK P z img M (l ++ id :: l')) = rank M + (l ++ id :: l').length) : (red (hears s nK P z img M l) (symR s nK P z img id)).x ≠ 0 ∧ rank (hears s nK P z img M l) = rank M + l.length := by
  have h1 := Sd.hears hF l h
  have h2 := hears_rank_le hF l h
  rw [hears_app] at hr
  have h3 := hears_rank_le hF l' (h1.hear hF id)
  have e : hears s nK P z img (hears s nK P z img M l) (id :: l') = hears s nK P z img (mAdd (nK + P) (hears s nK P z img M l) (symR s nK P z img id)) l' := rfl
  rw [e, List.length_append, List.length_cons] at hr
  refine ⟨fun h0 => ?_, ?_⟩
  · rw [mAdd_rank0 h0] at h3; omega
  · by_cases h0 : (red (hears s nK P z img M l) (symR s nK P z img id)).x = 0
    · rw [mAdd_rank0 h0] at h3; omega
    · rw [mAdd_rank1 h1.e (symR_lt s nK P z img id) (hF.sym_len s id) h0] at h3; omega
/-- The first K tell all. -/
theorem hears_full {s : UInt32} {nK P z : Nat} {img : List UInt8} (hF : Fits nK P z img) {M : Mtx} (h : Sd s nK P z img M) {l : List UInt32} (hl : ∀ i, i < nK → ∃ id ∈ l, id.toNat = i) : rank (hears s nK P z img M l) = nK + P := by
  obtain ⟨a1, a2⟩ := hears_in hF l h
  refine enough s (Sd.hears hF l h).e (fun j hj => a1 _ (h.p j hj)) (fun i hi => ?_)
  obtain ⟨id, hm, rfl⟩ := hl i hi
  have := a2 id hm
  rwa [rowN_unit s hi] at this

end Go.Proofs.YtghgmchgbhdldaaGreatDoor
