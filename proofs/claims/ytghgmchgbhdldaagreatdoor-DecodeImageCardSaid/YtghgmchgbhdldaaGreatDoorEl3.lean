/-
  El3: package elim: Add, walked; what it leaves.
-/
import Derived.Test.YtghgmchgbhdldaaGreatDoorEl2
set_option linter.unusedVariables false
set_option linter.unusedSimpArgs false
namespace Go.Proofs.YtghgmchgbhdldaaGreatDoor
open Go.RowKit
attribute [local go_sem ↓] Go.wp_at_zero Go.wp_at_succ

theorem least_bit {p : Nat → Bool} : ∀ r, p r = true → ∃ a, a ≤ r ∧ p a = true ∧ ∀ j, j < a → p j = false := by
  intro r
  induction r using Nat.strongRecOn with
  | ind r ih =>
    intro hr
    by_cases h : ∃ j, j < r ∧ p j = true
    · obtain ⟨j, hj, hp⟩ := h
      obtain ⟨a, h1, h2, h3⟩ := ih j hj hp
      exact ⟨a, by omega, h2, h3⟩
    · refine ⟨r, Nat.le_refl _, hr, fun j hj => ?_⟩
      cases e : p j with
      | false => rfl
      | true => exact absurd ⟨j, hj, e⟩ h
theorem firstB_some {n X : Nat} (hX : X < 2 ^ n) (h0 : X ≠ 0) : ∃ a : Nat, a < n ∧ firstB n X = (a : Int) ∧ X.testBit a = true ∧ ∀ j, j < a → X.testBit j = false := by
  obtain ⟨r, hr⟩ := Nat.exists_testBit_of_ne_zero h0
  obtain ⟨a, _, h2, h3⟩ := least_bit (p := X.testBit) r hr
  have ha : a < n := by
    rcases Nat.lt_or_ge a n with h | h
    · exact h
    · rw [Nat.testBit_lt_two_pow (Nat.lt_of_lt_of_le hX (Nat.pow_le_pow_right (by omega) h))] at h2; cases h2
  exact ⟨a, ha, firstB_at ha h2 h3, h2, h3⟩
theorem firstB_zero (n : Nat) : firstB n 0 = -1 := firstB_none (fun j _ => Nat.zero_testBit j)

/-- A row more, if it says something new. -/
def mAdd (n : Nat) (M : Mtx) (r : Rw) : Mtx := if (red M r).x = 0 then M else madd M (firstB n (red M r).x).toNat (red M r)

theorem rank_congr {M M' : Mtx} (hl : M'.length = M.length) (h : ∀ i, (M'.at i).isSome = (M.at i).isSome) : rank M' = rank M := by
  have e : M'.map Option.isSome = M.map Option.isSome := by
    apply List.ext_getElem
    · simp [hl]
    · intro i h1 h2
      have h1' : i < M'.length := by simpa using h1
      have h2' : i < M.length := by simpa using h2
      have := h i
      simp only [Mtx.at, List.getD_eq_getElem?_getD, List.getElem?_eq_getElem h1', List.getElem?_eq_getElem h2', Option.getD_some] at this
      simpa using this
  have e2 : ∀ N : Mtx, rank N = (N.map Option.isSome).countP id := fun N => by unfold rank; rw [List.countP_map]; rfl
  rw [e2, e2, e]
theorem ptrs_congr {M M' : Mtx} {L : Nat → Loc} (hl : M'.length = M.length) (h : ∀ i, (M'.at i).isSome = (M.at i).isSome) : ptrs M' L = ptrs M L := by
  unfold ptrs
  rw [hl]
  apply List.map_congr_left
  intro i _
  have := h i
  cases e : M.at i <;> cases e' : M'.at i <;> rw [e, e'] at this <;> simp_all [ptrOf]

/-- One row of a matrix has changed. -/
theorem Mx.upd {w w' : World} {pm pb n z k : Nat} {M M' : Mtx} {L : Nat → Loc} {q q' : Rw} (h : Mx w pm pb n z M L) (hl : M'.length = M.length) (ho : ∀ i, i ≠ k → M'.at i = M.at i) (hq : M.at k = some q) (hq' : M'.at k = some q')
    (hr : RwAt w' (L k) n z q') (kp : Keeps [(L k).g, (L k).d] w w') : Mx w' pm pb n z M' L := by
  have hs : ∀ i, (M'.at i).isSome = (M.at i).isSome := fun i => by
    by_cases e : i = k
    · subst e; rw [hq, hq']; rfl
    · rw [ho i e]
  have hk := h.row k q hq
  obtain ⟨ck, tk, hbk, hvk, hdk, hlk⟩ := id hk
  refine ⟨by rw [hl, h.l], h.n1, h.n2, h.z1, h.z2, ?_, ?_, fun i p hp => ?_, fun i j p p' hp hp' hij => ?_⟩
  · rw [rank_congr hl hs]
    exact h.b.keeps kp (by simp only [List.mem_cons, List.not_mem_nil, or_false, not_or]; exact ⟨h.b.ne hvk.r (by decide), h.b.ne hdk (by decide)⟩)
  · rw [ptrs_congr hl hs]
    exact h.r.keeps kp (by simp only [List.mem_cons, List.not_mem_nil, or_false, not_or]; exact ⟨h.r.ne hvk.r (by decide), h.r.ne hdk (by decide)⟩)
  · by_cases e : i = k
    · subst e
      rw [hq'] at hp
      obtain rfl := Option.some.inj hp
      exact hr
    · rw [ho i e] at hp
      obtain ⟨d1, d2⟩ := h.dis i k p q hp hq e
      exact (h.row i p hp).other hk d1 d2 kp
  · have g1 : ∃ u, M.at i = some u := by
      have := hs i; rw [hp] at this; exact Option.isSome_iff_exists.1 this.symm
    have g2 : ∃ u, M.at j = some u := by
      have := hs j; rw [hp'] at this; exact Option.isSome_iff_exists.1 this.symm
    obtain ⟨u, hu⟩ := g1
    obtain ⟨v, hv⟩ := g2
    exact h.dis i j u v hu hv hij

theorem addTo_step_none {M : Mtx} {a k : Nat} {r : Rw} (h : M.at k = none) : addTo M a r (k + 1) = addTo M a r k := by
  unfold addTo
  apply List.map_congr_left
  intro i _
  by_cases e : i = k
  · subst e; rw [if_pos (by omega), if_neg (by omega), h]
  · by_cases e2 : i < k
    · rw [if_pos (by omega), if_pos e2]
    · rw [if_neg (by omega), if_neg e2]
theorem addTo_step_keep {M : Mtx} {a k : Nat} {r q : Rw} (h : M.at k = some q) (hb : q.x.testBit a = false) : addTo M a r (k + 1) = addTo M a r k := by
  unfold addTo
  apply List.map_congr_left
  intro i _
  by_cases e : i = k
  · subst e; rw [if_pos (by omega), if_neg (by omega), h]; simp [hb]
  · by_cases e2 : i < k
    · rw [if_pos (by omega), if_pos e2]
    · rw [if_neg (by omega), if_neg e2]
theorem Mtx.at_ge {M : Mtx} {i : Nat} (h : M.length ≤ i) : M.at i = none := by
  unfold Mtx.at
  rw [List.getD_eq_getElem?_getD, List.getElem?_eq_none h]; rfl
theorem addTo_other {M : Mtx} {a k i : Nat} {r : Rw} (h : i ≠ k) : (addTo M a r (k + 1)).at i = (addTo M a r k).at i := by
  rcases Nat.lt_or_ge i M.length with hi | hi
  · rw [addTo_at M a r _ i hi, addTo_at M a r _ i hi]
    by_cases e2 : i < k
    · rw [if_pos (by omega), if_pos e2]
    · rw [if_neg (by omega), if_neg e2]
  · rw [Mtx.at_ge (by rw [addTo_len]; exact hi), Mtx.at_ge (by rw [addTo_len]; exact hi)]
theorem addTo_here {M : Mtx} {a k : Nat} {r : Rw} (hk : k < M.length) : (addTo M a r k).at k = M.at k := by
  rw [addTo_at M a r k k hk, if_neg (by omega)]
theorem addTo_next {M : Mtx} {a k : Nat} {r q : Rw} (hk : k < M.length) (h : M.at k = some q) (hb : q.x.testBit a = true) : (addTo M a r (k + 1)).at k = some (rxor q r) := by
  rw [addTo_at M a r (k + 1) k hk, if_pos (by omega), h]; simp [hb]
theorem addTo_some {M : Mtx} {a k i : Nat} {r : Rw} : ((addTo M a r k).at i).isSome = (M.at i).isSome := by
  rcases Nat.lt_or_ge i M.length with hi | hi
  · rw [addTo_at M a r _ i hi]
    split
    · cases M.at i with
      | none => rfl
      | some q => simp only; split <;> rfl
    · rfl
  · rw [Mtx.at_ge (by rw [addTo_len]; exact hi), Mtx.at_ge hi]

/-- The new row in its place. -/
theorem Mx.put {w wa wb : World} {pm pb n z a : Nat} {M : Mtx} {L : Nat → Loc} {r : Rw} {Lf : Loc} (h : Mx w pm pb n z (addTo M a r n) L) (hl : M.length = n) (hn : M.at a = none) (ha : a < n) (hr : RwAt w Lf n z r)
    (hfr : ∀ i q, M.at i = some q → (L i).g ≠ Lf.g ∧ (L i).d ≠ Lf.d) (hka : wa = w.setCell ⟨pb, a, none⟩ (P0 Lf.r)) (hkb : wb = wa.setCell ⟨pm, 3, none⟩ (.int .i64 (rank M + 1 : Nat))) :
    Mx wb pm pb n z (madd M a r) (fun i => if i = a then Lf else L i) := by
  have kw : Keeps [pb, pm] w wb := by
    subst hkb hka
    exact ((Keeps.refl [pb, pm] w).setCell (by simp) _).setCell (by simp) _
  have hpne : pm ≠ pb := h.b.ne h.r (by decide)
  have hrw : ∀ {Lx : Loc} {q : Rw}, RwAt w Lx n z q → RwAt wb Lx n z q := fun {Lx q} hx => by
    obtain ⟨c, t, hb, hv, hd, _⟩ := id hx
    refine hx.keeps kw ?_ ?_ ?_ ?_ <;> simp only [List.mem_cons, List.not_mem_nil, or_false, not_or]
    · exact ⟨hb.ne h.r (by decide), hb.ne h.b (by decide)⟩
    · exact ⟨hv.b.ne h.r (by decide), hv.b.ne h.b (by decide)⟩
    · exact ⟨hv.r.ne h.r (by decide), hv.r.ne h.b (by decide)⟩
    · exact ⟨hd.ne h.r (by decide), hd.ne h.b (by decide)⟩
  have hat : ∀ i q, (madd M a r).at i = some q → (i = a ∧ q = r) ∨ (i ≠ a ∧ (addTo M a r n).at i = some q ∧ ∃ q0, M.at i = some q0) := fun i q hq => by
    have hi := Mtx.at_lt hq
    rw [madd_len] at hi
    have e := hq
    rw [madd_at M a r hi (by omega)] at hq
    by_cases hia : i = a
    · rw [if_pos hia] at hq; exact .inl ⟨hia, (Option.some.inj hq).symm⟩
    · rw [if_neg hia] at hq
      refine .inr ⟨hia, ?_, ?_⟩
      · rw [addTo_at M a r n i hi, if_pos (by omega)]; exact hq
      · cases e2 : M.at i with
        | none => rw [e2] at hq; cases hq
        | some q0 => exact ⟨q0, rfl⟩
  refine ⟨by rw [madd_len, hl], h.n1, h.n2, h.z1, h.z2, ?_, ?_, fun i q hq => ?_, fun i j p q hp hq hij => ?_⟩
  · rw [madd_rank (by omega) hn]
    have hb1 := h.b
    subst hkb hka
    exact (h.b.setOther (a := ⟨pb, a, none⟩) (P0 Lf.r) hpne).set 3 (.int .i64 (rank M + 1 : Nat))
  · have hr1 : Blk wb pb 97 ((ptrs (addTo M a r n) L).set a (P0 Lf.r)) := by
      subst hkb hka
      exact (h.r.set a (P0 Lf.r)).setOther (a := ⟨pm, 3, none⟩) _ (fun e => hpne e.symm)
    have he : (ptrs (addTo M a r n) L).set a (P0 Lf.r) = ptrs (madd M a r) (fun i => if i = a then Lf else L i) := by
      apply List.ext_getElem
      · simp [ptrs, addTo_len, madd_len]
      · intro i h1 h2
        have hi : i < M.length := by simpa [ptrs, addTo_len] using h1
        rw [List.getElem_set]
        simp only [ptrs, List.getElem_map, List.getElem_range]
        by_cases e : a = i
        · subst e
          rw [if_pos rfl, madd_at M a r hi (by omega), if_pos rfl]
          simp [ptrOf]
        · rw [if_neg e, addTo_at M a r n i hi, if_pos (by omega), madd_at M a r hi (by omega), if_neg (fun h => e h.symm)]
          cases M.at i with
          | none => rfl
          | some q =>
            have hia : ¬ i = a := fun h => e h.symm
            simp only; split <;> (simp only [ptrOf]; rw [if_neg hia])
    rw [← he]
    exact hr1
  · rcases hat i q hq with ⟨rfl, rfl⟩ | ⟨hia, h1, _⟩
    · simp only [if_pos]; exact hrw hr
    · simp only [if_neg hia]; exact hrw (h.row i q h1)
  · rcases hat i p hp with ⟨rfl, rfl⟩ | ⟨hia, h1, q1, hq1⟩
    · rcases hat j q hq with ⟨rfl, _⟩ | ⟨hja, h2, q2, hq2⟩
      · exact absurd rfl hij
      · simp only [if_neg hja, if_pos]
        have := hfr j q2 hq2
        exact ⟨fun e => this.1 e.symm, fun e => this.2 e.symm⟩
    · rcases hat j q hq with ⟨rfl, rfl⟩ | ⟨hja, h2, q2, hq2⟩
      · simp only [if_neg hia, if_pos]
        exact hfr i q1 hq1
      · simp only [if_neg hia, if_neg hja]
        exact h.dis i j p q h1 h2 hij

set_option maxRecDepth 100000 in
theorem iadd_calls {w : World} {p i : Nat} (t : TypeId) (l : List Value) (h : Blk w p t l) (x : Nat) (hx : l[i]? = some (.int .i64 x)) (hb : x ≤ 1000000000) :
    Calls Tryz.prog 27 #[.pointer (some ⟨p, i, none⟩), .int .i64 1] w fun e w' => e = .returned (.int .i64 (x + 1 : Nat)) ∧ w' = w.setCell ⟨p, i, none⟩ (.int .i64 (x + 1 : Nat)) := by
  have hc := h.cell' hx
  have hz := h.frozen i
  have hadd := run_call_add (P := Tryz.prog) Tryz.func50 (by kernel_rfl) (by kernel_rfl) (by kernel_rfl) .i64 (by kernel_rfl) (y := 1) (s := (x + 1 : Nat)) hc hz (by simp [go_sem]; rw [IntKind.wrap_i64]; omega)
  clear hc hz
  go_enter Tryz.func27, Tryz.ntmps27
  go_wp2
  go_ret
  exact ⟨rfl, rfl⟩

set_option maxRecDepth 100000 in
theorem iload_calls {w : World} {a : Addr} (x : Int) (h : w.cell? a = some (.int .i64 x)) :
    Calls Tryz.prog 28 #[.pointer (some a)] w fun e w' => e = .returned (.int .i64 x) ∧ w = w' := by
  have hl := run_call_load (P := Tryz.prog) Tryz.func51 (by kernel_rfl) (by kernel_rfl) (by kernel_rfl) .i64 (by kernel_rfl) h
  go_enter Tryz.func28, Tryz.ntmps28
  go_wp2
  go_ret
  exact ⟨rfl, rfl⟩

end Go.Proofs.YtghgmchgbhdldaaGreatDoor
