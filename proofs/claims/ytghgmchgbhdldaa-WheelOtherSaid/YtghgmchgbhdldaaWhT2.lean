/-
  WhT2: what Add does to a wheel's log, wherever power goes. No program here.
-/
import Derived.Test.YtghgmchgbhdldaaWhT
set_option linter.unusedVariables false
set_option linter.unusedSimpArgs false
namespace Go.Proofs.Ytghgmchgbhdldaa
open Go.RowKit

theorem WLog.put {b b' : List UInt8} {gen : UInt32} {s : Nat} {L : List (Option Rec)} {mk : Prop} (h : WLog b gen s L mk) (hb : b'.length = 3584) (hn : L.length < 8 * places s)
    (h1 : ∀ k, k < 8 * places s → k / places s ≠ L.length / places s ∨ k < L.length → pl b' s k = pl b s k)
    (h2 : ∀ k, L.length < k → k / places s = L.length / places s → pl b' s k = blankW s)
    (h3 : pl b' s L.length ≠ blankW s) {x : Option Rec} (hx : recOf gen (pl b' s L.length) = x) (h4 : L.length % places s = 0 → ∃ r, x = some r) : WLog b' gen s (L ++ [x]) mk := by
  have hp := places_pos h.s16
  have hL : (L ++ [x]).length = L.length + 1 := by simp
  have gl : ∀ k, k < L.length → (L ++ [x])[k]? = L[k]? := fun k hk => List.getElem?_append_left hk
  have ge : (L ++ [x])[L.length]? = some x := by simp
  have dm : ∀ k, k / places s * places s ≤ k := fun k => Nat.div_mul_le_self _ _
  have dl : ∀ k, k < k / places s * places s + places s := fun k => Nat.lt_div_mul_add hp
  have dmul : ∀ c, c * places s / places s = c := fun c => Nat.mul_div_cancel _ hp
  refine ⟨hb, h.s1, h.s16, by omega, ?_, ?_, ?_, ?_⟩
  · intro k hk
    by_cases hl : k < L.length
    · rw [gl k hl, h1 k (by omega) (.inr hl)]; exact h.used k hl
    · obtain rfl : k = L.length := by omega
      rw [ge, hx]; exact ⟨rfl, h3⟩
  · intro c hc
    by_cases hl : c * places s < L.length
    · rw [gl _ hl]; exact h.head c hl
    · have e : c * places s = L.length := by omega
      rw [e, ge]
      obtain ⟨r, hr⟩ := h4 (by rw [← e]; exact Nat.mul_mod_left _ _)
      exact ⟨r, by rw [hr]⟩
  · intro k hk hkc
    by_cases hl : k / places s * places s < L.length
    · by_cases hs : k / places s = L.length / places s
      · exact h2 k (by omega) hs
      · have hk8 : k < 8 * places s := by
          have h8 : k / places s < 8 := by
            rcases Nat.lt_or_ge (k / places s) 8 with h8 | h8
            · exact h8
            · have := Nat.mul_le_mul_right (places s) h8; omega
          exact (Nat.div_lt_iff_lt_mul hp).1 h8
        rw [h1 k hk8 (.inl hs)]; exact h.rest k (by omega) hl
    · have e : k / places s * places s = L.length := by omega
      refine h2 k (by omega) ?_
      rw [← e, dmul]
  · intro c hc8 hc
    have hne : c * places s / places s ≠ L.length / places s := by
      rw [dmul]
      intro e
      have := dm L.length
      rw [← e] at this
      omega
    rw [h1 _ (Nat.mul_lt_mul_of_pos_right hc8 hp) (.inl hne)]
    exact h.next c hc8 (by omega)

theorem WLog.hold {b b' : List UInt8} {gen : UInt32} {s : Nat} {L : List (Option Rec)} {mk : Prop} (h : WLog b gen s L mk) (hb : b'.length = 3584) (hn : L.length < 8 * places s)
    (h1 : ∀ k, k < 8 * places s → k / places s ≠ L.length / places s → pl b' s k = pl b s k)
    (h2 : L.length % places s ≠ 0 → ∀ k, k < 8 * places s → k / places s = L.length / places s → pl b' s k = pl b s k)
    (h3 : L.length % places s = 0 → recOf gen (pl b' s L.length) = none ∧ (mk → (pl b' s L.length).getD (s + 12) 0 ≠ 0)) : WLog b' gen s L mk := by
  have hp := places_pos h.s16
  have dm : ∀ k, k / places s * places s ≤ k := fun k => Nat.div_mul_le_self _ _
  have dl : ∀ k, k < k / places s * places s + places s := fun k => Nat.lt_div_mul_add hp
  have dmul : ∀ c, c * places s / places s = c := fun c => Nat.mul_div_cancel _ hp
  have hmod := Nat.mod_add_div L.length (places s)
  have hdm : L.length % places s = 0 → L.length / places s * places s = L.length := fun h0 => by rw [Nat.mul_comm]; omega
  have hall : ∀ k, k < 8 * places s → (k / places s ≠ L.length / places s ∨ L.length % places s ≠ 0) → pl b' s k = pl b s k := by
    intro k hk h
    by_cases hs : k / places s = L.length / places s
    · exact h2 (by rcases h with h | h; · exact absurd hs h
                   · exact h) k hk hs
    · exact h1 k hk hs
  refine ⟨hb, h.s1, h.s16, h.le, ?_, h.head, ?_, ?_⟩
  · intro k hk
    rw [hall k (by omega) (by
      by_cases h0 : L.length % places s = 0
      · left
        intro e
        have := dm k
        rw [e, hdm h0] at this
        omega
      · exact .inr h0)]
    exact h.used k hk
  · intro k hk hkc
    have hk8 : k < 8 * places s := by
      have h8 : k / places s < 8 := by
        rcases Nat.lt_or_ge (k / places s) 8 with h8 | h8
        · exact h8
        · have := Nat.mul_le_mul_right (places s) h8; omega
      exact (Nat.div_lt_iff_lt_mul hp).1 h8
    rw [hall k hk8 (by
      by_cases h0 : L.length % places s = 0
      · left
        intro e
        rw [e, hdm h0] at hkc
        omega
      · exact .inr h0)]
    exact h.rest k hk hkc
  · intro c hc8 hc
    by_cases h0 : L.length % places s = 0
    · by_cases e : c = L.length / places s
      · rw [e, hdm h0]; exact h3 h0
      · rw [h1 _ (Nat.mul_lt_mul_of_pos_right hc8 hp) (by rw [dmul]; exact e)]; exact h.next c hc8 hc
    · rw [hall _ (Nat.mul_lt_mul_of_pos_right hc8 hp) (.inr h0)]; exact h.next c hc8 hc

theorem andAt_blankN {l : List UInt8} {N : Nat} (h : l.length ≤ N) : andAt (List.replicate N 255) 0 l = l ++ List.replicate (N - l.length) 255 := by
  apply ext_getD
  · rw [andAt_len, List.length_replicate, List.length_append, List.length_replicate]; omega
  · intro i hi
    rw [andAt_len, List.length_replicate] at hi
    rw [andAt_getD _ _ _ _ (by rw [List.length_replicate]; omega), replicate_getD _ _ hi]
    by_cases hc : i < l.length
    · rw [if_pos (by omega), and255, Nat.sub_zero, getD_app_left hc]
    · rw [if_neg (by omega), List.getD, List.getElem?_append_right (by omega), List.getElem?_replicate, if_pos (by omega)]; rfl

/-- What is as it was but for a sector of the wheel and the counts. -/
structure WRest (F G : Fla) (c : Nat) (era : Prop) : Prop where
  len : G.b.length = 3584
  er : (era ∧ G.er = F.er.set (6 + c) (wrap64 (F.er.getD (6 + c) 0 + 1))) ∨ (¬ era ∧ G.er = F.er)
  wear : G.wear = F.wear
  fused : G.fused = F.fused
  secs : ∀ j, j < 14 → j ≠ 6 + c → secOf G.b j = secOf F.b j
  l1 : G.left ≤ 9223372036854775807
  l2 : -9223372036854775808 ≤ G.left
  s1 : G.steps ≤ 9223372036854775807
  s2 : -9223372036854775808 ≤ G.steps

/-- Is a sector erased when the next record is added? -/
def erases? (F : Fla) (s : Nat) (L : List (Option Rec)) : Prop := L.length % places s = 0 ∧ secOf F.b (6 + L.length / places s) ≠ List.replicate 256 255

theorem blankSec_eq {F : Fla} (hG : Good F) {k : Nat} (hk : k < 14) : F.blank (k * 256 : Nat) 256 = true ↔ secOf F.b k = List.replicate 256 255 := by
  have hr := hG.ready (a := k * 256) (n := 256) (by omega)
  unfold Fla.blank Fla.read
  rw [if_neg (by simpa using hr)]
  simp only [Int.toNat_natCast, beq_self_eq_true, Bool.true_and]
  show (secOf F.b k).all (· == 255) = true ↔ _
  have hl := secOf_len hG.len hk
  rw [List.all_eq_true]
  constructor
  · intro h
    exact List.eq_replicate_iff.2 ⟨hl, fun x hx => by simpa using h x hx⟩
  · intro h x hx
    rw [h] at hx
    have := List.eq_of_mem_replicate hx
    simp [this]

/-- What entering the next record's sector does. -/
theorem enters_log {F : Fla} (hG : Good F) {gen : UInt32} {s : Nat} {L : List (Option Rec)} {mk : Prop} (h : WLog F.b gen s L mk) (hn : L.length < 8 * places s)
    (hw : F.er.getD (6 + L.length / places s) 0 < F.wear) (hmk : F.fused = true → mk) :
    ∃ G e, F.enters (logReady s L) (L.length / places s) = (G, e) ∧ WRest F G (L.length / places s) (erases? F s L) ∧ WLog G.b gen s L mk ∧
      ((e = 0 ∧ Good G ∧ ∀ k, L.length ≤ k → k / places s = L.length / places s → pl G.b s k = blankW s) ∨ (e = 11 ∧ G.down = true ∧ F.fused = true)) := by
  have hp := places_pos h.s16
  have hc8 : L.length / places s < 8 := (Nat.div_lt_iff_lt_mul hp).2 hn
  have hmod := Nat.mod_add_div L.length (places s)
  rw [Nat.mul_comm] at hmod
  have dm : ∀ k, k / places s * places s ≤ k := fun k => Nat.div_mul_le_self _ _
  have hrd : L.length % places s ≠ 0 → ((L.length / places s : Nat) : Int) = logReady s L := by
    intro h0
    unfold logReady
    rw [if_neg (by intro e; rw [e] at h0; simp at h0)]
    congr 1
    apply Nat.le_antisymm
    · exact (Nat.le_div_iff_mul_le hp).2 (by omega)
    · exact Nat.div_le_div_right (by omega)
  have hself : WRest F F (L.length / places s) (erases? F s L) ∨ erases? F s L := by
    by_cases he : erases? F s L
    · exact .inr he
    · exact .inl ⟨hG.len, .inr ⟨he, rfl⟩, rfl, rfl, fun _ _ _ => rfl, hG.l1, hG.l2, hG.s1, hG.s2⟩
  by_cases h0 : L.length % places s = 0
  · have hnr : ¬ ((L.length / places s : Nat) : Int) = logReady s L := by
      intro e
      unfold logReady at e
      split at e
      · have h2 := Int.natCast_nonneg (L.length / places s)
        rw [e] at h2
        exact absurd h2 (by decide)
      · have := Int.ofNat.inj e
        have h3 := dm (L.length - 1)
        rw [← this] at h3
        omega
    by_cases hbl : secOf F.b (6 + L.length / places s) = List.replicate 256 255
    · refine ⟨F, 0, ?_, hself.resolve_right (fun he => he.2 hbl), h, .inl ⟨rfl, hG, ?_⟩⟩
      · unfold Fla.enters
        rw [if_pos (.inr ((blankSec_eq hG (by omega)).2 hbl))]
      · intro k hk hkc
        rw [pl_eq h.s16, hkc, hbl, plOf_blank (Nat.mod_lt _ hp)]
    · have hE : F.enters (logReady s L) (L.length / places s) = F.erase (6 + L.length / places s : Nat) := by
        unfold Fla.enters
        rw [if_neg]
        rintro (e | e)
        · exact hnr e
        · exact hbl ((blankSec_eq hG (by omega)).1 e)
      have hera : erases? F s L := ⟨h0, hbl⟩
      rw [hE]
      have hoth : ∀ m, m ≤ 256 → ∀ k, k < 8 * places s → k / places s ≠ L.length / places s → pl (fillAt F.b ((6 + L.length / places s) * 256) m) s k = pl F.b s k := by
        intro m hm k hk hkc
        have : k / places s < 8 := (Nat.div_lt_iff_lt_mul hp).2 hk
        rw [pl_eq h.s16, pl_eq h.s16, secOf_fill_other hG.len (by omega) (by omega) (by omega) hm]
      have hnext := h.next (L.length / places s) hc8 (by omega)
      have hnn : L.length / places s * places s = L.length := by omega
      rw [hnn] at hnext
      by_cases hA : F.fused = true ∧ F.left = 0
      · obtain ⟨m, hm, he⟩ := hG.eraseTorn (s := 6 + L.length / places s) (by omega) hw hA.1 hA.2
        have hlen : (fillAt F.b ((6 + L.length / places s) * 256) m).length = 3584 := (fillAt_len (by rw [hG.len]; omega)).trans hG.len
        rw [he]
        refine ⟨_, _, rfl, ⟨hlen, .inl ⟨hera, rfl⟩, rfl, rfl, fun j hj hjT => secOf_fill_other hG.len (by omega) hj hjT hm, by simp, by simp, (wrap64_rng _).2, (wrap64_rng _).1⟩, ?_, .inr ⟨rfl, rfl, hA.1⟩⟩
        refine h.hold hlen hn (hoth m hm) (fun hne => absurd h0 hne) (fun _ => ?_)
        have hmark := hnext.2 (hmk hA.1)
        have hw12 : s + 12 < wide s := by unfold wide; omega
        have hwi := wide_in (s := s) hp
        have hlw : (pl (fillAt F.b ((6 + L.length / places s) * 256) m) s L.length).length = wide s := by
          rw [pl_eq h.s16]; exact plOf_len (secOf_len hlen (by omega)) (Nat.mod_lt _ hp)
        have hmk2 : (pl (fillAt F.b ((6 + L.length / places s) * 256) m) s L.length).getD (s + 12) 0 ≠ 0 := by
          show (pl (fillAt F.b ((6 + L.length / places s) * 256) m) s L.length).getD (s + 12) 0 ≠ 0
          rw [pl_eq h.s16, plOf_getD hw12, h0, secOf_fill_same hG.len (by omega) hm, worn_getD (by rw [secOf_len hG.len (by omega)]; omega)]
          split
          · decide
          · have := hmark
            rw [pl_eq h.s16, plOf_getD hw12, h0] at this
            exact this
        exact ⟨recOf_mark hlw hmk2, fun _ => hmk2⟩
      · have hf1 : F.fused = true → 1 ≤ F.left := fun hf => by
          have := hG.arm hf
          have : F.left ≠ 0 := fun e => hA ⟨hf, e⟩
          omega
        have hlen : (fillAt F.b ((6 + L.length / places s) * 256) 256).length = 3584 := (fillAt_len (by rw [hG.len]; omega)).trans hG.len
        rw [hG.erase (s := 6 + L.length / places s) (by omega) hw hf1]
        have hb : ∀ k, k / places s = L.length / places s → pl (fillAt F.b ((6 + L.length / places s) * 256) 256) s k = blankW s := by
          intro k hkc
          rw [pl_eq h.s16, hkc, secOf_fill_same hG.len (by omega) (by omega), worn_all (secOf_len hG.len (by omega)), plOf_blank (Nat.mod_lt _ hp)]
        refine ⟨_, _, rfl, ⟨hlen, .inl ⟨hera, rfl⟩, rfl, rfl, fun j hj hjT => secOf_fill_other hG.len (by omega) hj hjT (by omega), (wrap64_rng _).2, (wrap64_rng _).1, (wrap64_rng _).2, (wrap64_rng _).1⟩, ?_, .inl ⟨rfl, hG.step1 1 hf1 (by omega) _ _ hlen (by rw [List.length_set, hG.er]), fun k _ hkc => hb k hkc⟩⟩
        refine h.hold hlen hn (hoth 256 (by omega)) (fun hne => absurd h0 hne) (fun _ => ?_)
        rw [hb _ rfl]
        refine ⟨recOf_blank, fun _ => ?_⟩
        unfold blankW
        rw [replicate_getD _ _ (by unfold wide; omega)]
        decide
  · have he : ¬ erases? F s L := fun he => h0 he.1
    refine ⟨F, 0, ?_, hself.resolve_right he, h, .inl ⟨rfl, hG, ?_⟩⟩
    · unfold Fla.enters
      rw [if_pos (.inl (hrd h0))]
    · intro k hk hkc
      exact h.rest k hk (by rw [hkc]; omega)

end Go.Proofs.Ytghgmchgbhdldaa
