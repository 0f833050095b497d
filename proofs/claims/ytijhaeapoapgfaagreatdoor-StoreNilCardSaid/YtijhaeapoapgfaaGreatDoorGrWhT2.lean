/-
  GrWhT2: the texts WhT2, Put6, one behind another.
-/
import Derived.Test.YtijhaeapoapgfaaGreatDoorGrCellT2
import Derived.Test.YtijhaeapoapgfaaGreatDoorGrBase
set_option linter.unusedVariables false
set_option linter.unusedSimpArgs false
namespace Go.Proofs.YtijhaeapoapgfaaGreatDoor
open Go.RowKit

theorem WLog.put {b b' : List UInt8} {gen : UInt32} {s : Nat} {L : List (Option Rec)} {mk : Prop} (h : WLog b gen s L mk) (hb : b'.length = 3584) (hn : L.length < 8 * places s)
    (h1 : ∀ k, k < 8 * places s → k / places s ≠ L.length / places s ∨ k < L.length → pl b' s k = pl b s k)
    (h2 : ∀ k, L.length < k → k / places s = L.length / places s → pl b' s k = blankW s)
    (h3 : pl b' s L.length ≠ blankW s) {x : Option Rec} (hx : recOf gen (pl b' s L.length) = x) (h4 : L.length % places s = 0 → ∃ r, x = some r) : WLog b' gen s (L ++ [x]) mk := by
  have hp := places_pos h.s16
  have hL : (L ++ [x]).length = L.length + 1 := by simp
  have gl : ∀ k, k < L.length → (L ++ [x])[k]? = L[k]? := fun k hk => List.getElem?_append_left hk
  have ge : (L ++ [x])[L.length]? = some x := by simp
  have dm : ∀ k, k / places s * places s ≤ k := fun k => Nat.div_mul_le_self _ _
  have dl : ∀ k, k < k / places s * places s + places s := fun k => Nat.lt_div_mul_add hp
  have dmul : ∀ c, c * places s / places s = c := fun c => Nat.mul_div_cancel _ hp
  refine ⟨hb, h.s1, h.s16, by omega, ?_, ?_, ?_, ?_⟩
  · intro k hk
    by_cases hl : k < L.length
    · rw [gl k hl, h1 k (by omega) (.inr hl)]; exact h.used k hl
    · obtain rfl : k = L.length := by omega
      rw [ge, hx]; exact ⟨rfl, h3⟩
  · intro c hc
    by_cases hl : c * places s < L.length
    · rw [gl _ hl]; exact h.head c hl
    · have e : c * places s = L.length := by omega
      rw [e, ge]
      obtain ⟨r, hr⟩ := h4 (by rw [← e]; exact Nat.mul_mod_left _ _)
      exact ⟨r, by rw [hr]⟩
  · intro k hk hkc
    by_cases hl : k / places s * places s < L.length
    · by_cases hs : k / places s = L.length / places s
      · exact h2 k (by omega) hs
      · have hk8 : k < 8 * places s := by
          have h8 : k / places s < 8 := by
            rcases Nat.lt_or_ge (k / places s) 8 with h8 | h8
            · exact h8
            · have := Nat.mul_le_mul_right (places s) h8; omega
          exact (Nat.div_lt_iff_lt_mul hp).1 h8
        rw [h1 k hk8 (.inl hs)]; exact h.rest k (by omega) hl
    · have e : k / places s * places s = L.length := by omega
      refine h2 k (by omega) ?_
      rw [← e, dmul]
  · intro c hc8 hc
    have hne : c * places s / places s ≠ L.length / places s := by
      rw [dmul]
      intro e
      have := dm L.length
      rw [← e] at this
      omega
    rw [h1 _ (Nat.mul_lt_mul_of_pos_right hc8 hp) (.inl hne)]
    exact h.next c hc8 (by omega)

theorem WLog.hold {b b' : List UInt8} {gen : UInt32} {s : Nat} {L : List (Option Rec)} {mk : Prop} (h : WLog b gen s L mk) (hb : b'.length = 3584) (hn : L.length < 8 * places s)
    (h1 : ∀ k, k < 8 * places s → k / places s ≠ L.length / places s → pl b' s k = pl b s k)
    (h2 : L.length % places s ≠ 0 → ∀ k, k < 8 * places s → k / places s = L.length / places s → pl b' s k = pl b s k)
    (h3 : L.length % places s = 0 → recOf gen (pl b' s L.length) = none ∧ (mk → (pl b' s L.length).getD (s + 12) 0 ≠ 0)) : WLog b' gen s L mk := by
  have hp := places_pos h.s16
  have dm : ∀ k, k / places s * places s ≤ k := fun k => Nat.div_mul_le_self _ _
  have dl : ∀ k, k < k / places s * places s + places s := fun k => Nat.lt_div_mul_add hp
  have dmul : ∀ c, c * places s / places s = c := fun c => Nat.mul_div_cancel _ hp
  have hmod := Nat.mod_add_div L.length (places s)
  have hdm : L.length % places s = 0 → L.length / places s * places s = L.length := fun h0 => by rw [Nat.mul_comm]; omega
  have hall : ∀ k, k < 8 * places s → (k / places s ≠ L.length / places s ∨ L.length % places s ≠ 0) → pl b' s k = pl b s k := by
    intro k hk h
    by_cases hs : k / places s = L.length / places s
    · exact h2 (by rcases h with h | h; · exact absurd hs h
                   · exact h) k hk hs
    · exact h1 k hk hs
  refine ⟨hb, h.s1, h.s16, h.le, ?_, h.head, ?_, ?_⟩
  · intro k hk
    rw [hall k (by omega) (by
      by_cases h0 : L.length % places s = 0
      · left
        intro e
        have := dm k
        rw [e, hdm h0] at this
        omega
      · exact .inr h0)]
    exact h.used k hk
  · intro k hk hkc
    have hk8 : k < 8 * places s := by
      have h8 : k / places s < 8 := by
        rcases Nat.lt_or_ge (k / places s) 8 with h8 | h8
        · exact h8
        · have := Nat.mul_le_mul_right (places s) h8; omega
      exact (Nat.div_lt_iff_lt_mul hp).1 h8
    rw [hall k hk8 (by
      by_cases h0 : L.length % places s = 0
      · left
        intro e
        rw [e, hdm h0] at hkc
        omega
      · exact .inr h0)]
    exact h.rest k hk hkc
  · intro c hc8 hc
    by_cases h0 : L.length % places s = 0
    · by_cases e : c = L.length / places s
      · rw [e, hdm h0]; exact h3 h0
      · rw [h1 _ (Nat.mul_lt_mul_of_pos_right hc8 hp) (by rw [dmul]; exact e)]; exact h.next c hc8 hc
    · rw [hall _ (Nat.mul_lt_mul_of_pos_right hc8 hp) (.inr h0)]; exact h.next c hc8 hc

theorem andAt_blankN {l : List UInt8} {N : Nat} (h : l.length ≤ N) : andAt (List.replicate N 255) 0 l = l ++ List.replicate (N - l.length) 255 := by
  apply ext_getD
  · rw [andAt_len, List.length_replicate, List.length_append, List.length_replicate]; omega
  · intro i hi
    rw [andAt_len, List.length_replicate] at hi
    rw [andAt_getD _ _ _ _ (by rw [List.length_replicate]; omega), replicate_getD _ _ hi]
    by_cases hc : i < l.length
    · rw [if_pos (by omega), and255, Nat.sub_zero, getD_app_left hc]
    · rw [if_neg (by omega), List.getD, List.getElem?_append_right (by omega), List.getElem?_replicate, if_pos (by omega)]; rfl

/-- What is as it was but for a sector of the wheel and the counts. -/
structure WRest (F G : Fla) (c : Nat) (era : Prop) : Prop where
  len : G.b.length = 3584
  er : (era ∧ G.er = F.er.set (6 + c) (wrap64 (F.er.getD (6 + c) 0 + 1))) ∨ (¬ era ∧ G.er = F.er)
  wear : G.wear = F.wear
  fused : G.fused = F.fused
  secs : ∀ j, j < 14 → j ≠ 6 + c → secOf G.b j = secOf F.b j
  l1 : G.left ≤ 9223372036854775807
  l2 : -9223372036854775808 ≤ G.left
  s1 : G.steps ≤ 9223372036854775807
  s2 : -9223372036854775808 ≤ G.steps

/-- Is a sector erased when the next record is added? -/
def erases? (F : Fla) (s : Nat) (L : List (Option Rec)) : Prop := L.length % places s = 0 ∧ secOf F.b (6 + L.length / places s) ≠ List.replicate 256 255

theorem blankSec_eq {F : Fla} (hG : Good F) {k : Nat} (hk : k < 14) : F.blank (k * 256 : Nat) 256 = true ↔ secOf F.b k = List.replicate 256 255 := by
  have hr := hG.ready (a := k * 256) (n := 256) (by omega)
  unfold Fla.blank Fla.read
  rw [if_neg (by simpa using hr)]
  simp only [Int.toNat_natCast, beq_self_eq_true, Bool.true_and]
  show (secOf F.b k).all (· == 255) = true ↔ _
  have hl := secOf_len hG.len hk
  rw [List.all_eq_true]
  constructor
  · intro h
    exact List.eq_replicate_iff.2 ⟨hl, fun x hx => by simpa using h x hx⟩
  · intro h x hx
    rw [h] at hx
    have := List.eq_of_mem_replicate hx
    simp [this]

/-- What entering the next record's sector does. -/
theorem enters_log {F : Fla} (hG : Good F) {gen : UInt32} {s : Nat} {L : List (Option Rec)} {mk : Prop} (h : WLog F.b gen s L mk) (hn : L.length < 8 * places s)
    (hw : F.er.getD (6 + L.length / places s) 0 < F.wear) (hmk : F.fused = true → mk) :
    ∃ G e, F.enters (logReady s L) (L.length / places s) = (G, e) ∧ WRest F G (L.length / places s) (erases? F s L) ∧ WLog G.b gen s L mk ∧
      ((e = 0 ∧ Good G ∧ ∀ k, L.length ≤ k → k / places s = L.length / places s → pl G.b s k = blankW s) ∨ (e = 11 ∧ G.down = true ∧ F.fused = true)) := by
  have hp := places_pos h.s16
  have hc8 : L.length / places s < 8 := (Nat.div_lt_iff_lt_mul hp).2 hn
  have hmod := Nat.mod_add_div L.length (places s)
  rw [Nat.mul_comm] at hmod
  have dm : ∀ k, k / places s * places s ≤ k := fun k => Nat.div_mul_le_self _ _
  have hrd : L.length % places s ≠ 0 → ((L.length / places s : Nat) : Int) = logReady s L := by
    intro h0
    unfold logReady
    rw [if_neg (by intro e; rw [e] at h0; simp at h0)]
    congr 1
    apply Nat.le_antisymm
    · exact (Nat.le_div_iff_mul_le hp).2 (by omega)
    · exact Nat.div_le_div_right (by omega)
  have hself : WRest F F (L.length / places s) (erases? F s L) ∨ erases? F s L := by
    by_cases he : erases? F s L
    · exact .inr he
    · exact .inl ⟨hG.len, .inr ⟨he, rfl⟩, rfl, rfl, fun _ _ _ => rfl, hG.l1, hG.l2, hG.s1, hG.s2⟩
  by_cases h0 : L.length % places s = 0
  · have hnr : ¬ ((L.length / places s : Nat) : Int) = logReady s L := by
      intro e
      unfold logReady at e
      split at e
      · have h2 := Int.natCast_nonneg (L.length / places s)
        rw [e] at h2
        exact absurd h2 (by decide)
      · have := Int.ofNat.inj e
        have h3 := dm (L.length - 1)
        rw [← this] at h3
        omega
    by_cases hbl : secOf F.b (6 + L.length / places s) = List.replicate 256 255
    · refine ⟨F, 0, ?_, hself.resolve_right (fun he => he.2 hbl), h, .inl ⟨rfl, hG, ?_⟩⟩
      · unfold Fla.enters
        rw [if_pos (.inr ((blankSec_eq hG (by omega)).2 hbl))]
      · intro k hk hkc
        rw [pl_eq h.s16, hkc, hbl, plOf_blank (Nat.mod_lt _ hp)]
    · have hE : F.enters (logReady s L) (L.length / places s) = F.erase (6 + L.length / places s : Nat) := by
        unfold Fla.enters
        rw [if_neg]
        rintro (e | e)
        · exact hnr e
        · exact hbl ((blankSec_eq hG (by omega)).1 e)
      have hera : erases? F s L := ⟨h0, hbl⟩
      rw [hE]
      have hoth : ∀ m, m ≤ 256 → ∀ k, k < 8 * places s → k / places s ≠ L.length / places s → pl (fillAt F.b ((6 + L.length / places s) * 256) m) s k = pl F.b s k := by
        intro m hm k hk hkc
        have : k / places s < 8 := (Nat.div_lt_iff_lt_mul hp).2 hk
        rw [pl_eq h.s16, pl_eq h.s16, secOf_fill_other hG.len (by omega) (by omega) (by omega) hm]
      have hnext := h.next (L.length / places s) hc8 (by omega)
      have hnn : L.length / places s * places s = L.length := by omega
      rw [hnn] at hnext
      by_cases hA : F.fused = true ∧ F.left = 0
      · obtain ⟨m, hm, he⟩ := hG.eraseTorn (s := 6 + L.length / places s) (by omega) hw hA.1 hA.2
        have hlen : (fillAt F.b ((6 + L.length / places s) * 256) m).length = 3584 := (fillAt_len (by rw [hG.len]; omega)).trans hG.len
        rw [he]
        refine ⟨_, _, rfl, ⟨hlen, .inl ⟨hera, rfl⟩, rfl, rfl, fun j hj hjT => secOf_fill_other hG.len (by omega) hj hjT hm, by simp, by simp, (wrap64_rng _).2, (wrap64_rng _).1⟩, ?_, .inr ⟨rfl, rfl, hA.1⟩⟩
        refine h.hold hlen hn (hoth m hm) (fun hne => absurd h0 hne) (fun _ => ?_)
        have hmark := hnext.2 (hmk hA.1)
        have hw12 : s + 12 < wide s := by unfold wide; omega
        have hwi := wide_in (s := s) hp
        have hlw : (pl (fillAt F.b ((6 + L.length / places s) * 256) m) s L.length).length = wide s := by
          rw [pl_eq h.s16]; exact plOf_len (secOf_len hlen (by omega)) (Nat.mod_lt _ hp)
        have hmk2 : (pl (fillAt F.b ((6 + L.length / places s) * 256) m) s L.length).getD (s + 12) 0 ≠ 0 := by
          show (pl (fillAt F.b ((6 + L.length / places s) * 256) m) s L.length).getD (s + 12) 0 ≠ 0
          rw [pl_eq h.s16, plOf_getD hw12, h0, secOf_fill_same hG.len (by omega) hm, worn_getD (by rw [secOf_len hG.len (by omega)]; omega)]
          split
          · decide
          · have := hmark
            rw [pl_eq h.s16, plOf_getD hw12, h0] at this
            exact this
        exact ⟨recOf_mark hlw hmk2, fun _ => hmk2⟩
      · have hf1 : F.fused = true → 1 ≤ F.left := fun hf => by
          have := hG.arm hf
          have : F.left ≠ 0 := fun e => hA ⟨hf, e⟩
          omega
        have hlen : (fillAt F.b ((6 + L.length / places s) * 256) 256).length = 3584 := (fillAt_len (by rw [hG.len]; omega)).trans hG.len
        rw [hG.erase (s := 6 + L.length / places s) (by omega) hw hf1]
        have hb : ∀ k, k / places s = L.length / places s → pl (fillAt F.b ((6 + L.length / places s) * 256) 256) s k = blankW s := by
          intro k hkc
          rw [pl_eq h.s16, hkc, secOf_fill_same hG.len (by omega) (by omega), worn_all (secOf_len hG.len (by omega)), plOf_blank (Nat.mod_lt _ hp)]
        refine ⟨_, _, rfl, ⟨hlen, .inl ⟨hera, rfl⟩, rfl, rfl, fun j hj hjT => secOf_fill_other hG.len (by omega) hj hjT (by omega), (wrap64_rng _).2, (wrap64_rng _).1, (wrap64_rng _).2, (wrap64_rng _).1⟩, ?_, .inl ⟨rfl, hG.step1 1 hf1 (by omega) _ _ hlen (by rw [List.length_set, hG.er]), fun k _ hkc => hb k hkc⟩⟩
        refine h.hold hlen hn (hoth 256 (by omega)) (fun hne => absurd h0 hne) (fun _ => ?_)
        rw [hb _ rfl]
        refine ⟨recOf_blank, fun _ => ?_⟩
        unfold blankW
        rw [replicate_getD _ _ (by unfold wide; omega)]
        decide
  · have he : ¬ erases? F s L := fun he => h0 he.1
    refine ⟨F, 0, ?_, hself.resolve_right he, h, .inl ⟨rfl, hG, ?_⟩⟩
    · unfold Fla.enters
      rw [if_pos (.inl (hrd h0))]
    · intro k hk hkc
      exact h.rest k hk (by rw [hkc]; omega)

end Go.Proofs.YtijhaeapoapgfaaGreatDoor

/-
  WhT3: what Add does to a wheel's log, wherever power goes: the whole of it. No program here.
-/
set_option linter.unusedVariables false
set_option linter.unusedSimpArgs false
namespace Go.Proofs.YtijhaeapoapgfaaGreatDoor
open Go.RowKit

theorem pl_andAt_other {b l : List UInt8} {s n k o : Nat} (hb : b.length = 3584) (hs : s ≤ 16) (hn : n < 8 * places s) (hk : k < 8 * places s) (hkn : k ≠ n) (hl : o + l.length ≤ wide s) :
    pl (andAt b (whAt s n + o) l) s k = pl b s k := by
  have hp := places_pos hs
  have hwi := wide_in (Nat.mod_lt n hp)
  have hn8 : n / places s < 8 := (Nat.div_lt_iff_lt_mul hp).2 hn
  have hk8 : k / places s < 8 := (Nat.div_lt_iff_lt_mul hp).2 hk
  rw [pl_eq hs, pl_eq hs]
  have e : whAt s n + o = (6 + n / places s) * 256 + (n % places s * wide s + o) := by unfold whAt; omega
  rw [e]
  by_cases hc : k / places s = n / places s
  · have hm : k % places s ≠ n % places s := by
      intro hm
      apply hkn
      rw [← Nat.mod_add_div k (places s), ← Nat.mod_add_div n (places s), hc, hm]
    rw [hc, secOf_andAt_same hb (by omega) _ _ (by omega), plOf_andAt_other (secOf_len hb (by omega)) (Nat.mod_lt _ hp) (Nat.mod_lt _ hp) hm hl]
  · rw [secOf_andAt_other hb (by omega) (by omega) (by omega) _ _ (by omega)]

theorem pl_andAt_same {b l : List UInt8} {s n o : Nat} (hb : b.length = 3584) (hs : s ≤ 16) (hn : n < 8 * places s) (hl : o + l.length ≤ wide s) :
    pl (andAt b (whAt s n + o) l) s n = andAt (pl b s n) o l := by
  have hp := places_pos hs
  have hwi := wide_in (Nat.mod_lt n hp)
  have hn8 : n / places s < 8 := (Nat.div_lt_iff_lt_mul hp).2 hn
  rw [pl_eq hs, pl_eq hs]
  have e : whAt s n + o = (6 + n / places s) * 256 + (n % places s * wide s + o) := by unfold whAt; omega
  rw [e, secOf_andAt_same hb (by omega) _ _ (by omega), plOf_andAt_same (secOf_len hb (by omega)) (Nat.mod_lt _ hp) hl]

theorem pl_andAt_other0 {b l : List UInt8} {s n k : Nat} (hb : b.length = 3584) (hs : s ≤ 16) (hn : n < 8 * places s) (hk : k < 8 * places s) (hkn : k ≠ n) (hl : l.length ≤ wide s) :
    pl (andAt b (whAt s n) l) s k = pl b s k := by
  have := pl_andAt_other (o := 0) (l := l) hb hs hn hk hkn (by omega)
  rwa [Nat.add_zero] at this

theorem pl_andAt_same0 {b l : List UInt8} {s n : Nat} (hb : b.length = 3584) (hs : s ≤ 16) (hn : n < 8 * places s) (hl : l.length ≤ wide s) :
    pl (andAt b (whAt s n) l) s n = andAt (pl b s n) 0 l := by
  have := pl_andAt_same (o := 0) (l := l) hb hs hn (by omega)
  rwa [Nat.add_zero] at this

theorem pl_set_other {b : List UInt8} {s n k o : Nat} {x : UInt8} (hb : b.length = 3584) (hs : s ≤ 16) (hn : n < 8 * places s) (hk : k < 8 * places s) (hkn : k ≠ n) (ho : o < wide s) :
    pl (b.set (whAt s n + o) x) s k = pl b s k := by
  have hp := places_pos hs
  have hwi := wide_in (Nat.mod_lt n hp)
  have hn8 : n / places s < 8 := (Nat.div_lt_iff_lt_mul hp).2 hn
  have hk8 : k / places s < 8 := (Nat.div_lt_iff_lt_mul hp).2 hk
  rw [pl_eq hs, pl_eq hs]
  have e : whAt s n + o = (6 + n / places s) * 256 + (n % places s * wide s + o) := by unfold whAt; omega
  rw [e]
  by_cases hc : k / places s = n / places s
  · have hm : k % places s ≠ n % places s := by
      intro hm
      apply hkn
      rw [← Nat.mod_add_div k (places s), ← Nat.mod_add_div n (places s), hc, hm]
    rw [hc, secOf_set_same hb (by omega) (by omega), plOf_set_other (secOf_len hb (by omega)) (Nat.mod_lt _ hp) (Nat.mod_lt _ hp) hm ho]
  · rw [secOf_set_other hb (by omega) (by omega) (by omega)]

theorem pl_set_same {b : List UInt8} {s n o : Nat} {x : UInt8} (hb : b.length = 3584) (hs : s ≤ 16) (hn : n < 8 * places s) (ho : o < wide s) :
    pl (b.set (whAt s n + o) x) s n = (pl b s n).set o x := by
  have hp := places_pos hs
  have hwi := wide_in (Nat.mod_lt n hp)
  have hn8 : n / places s < 8 := (Nat.div_lt_iff_lt_mul hp).2 hn
  rw [pl_eq hs, pl_eq hs]
  have e : whAt s n + o = (6 + n / places s) * 256 + (n % places s * wide s + o) := by unfold whAt; omega
  rw [e, secOf_set_same hb (by omega) (by omega), plOf_set_same (secOf_len hb (by omega)) (Nat.mod_lt _ hp) ho]

theorem pl_len {b : List UInt8} {s k : Nat} (hb : b.length = 3584) (hs : s ≤ 16) (hk : k < 8 * places s) : (pl b s k).length = wide s := by
  have hp := places_pos hs
  have hk8 : k / places s < 8 := (Nat.div_lt_iff_lt_mul hp).2 hk
  rw [pl_eq hs]
  exact plOf_len (secOf_len hb (by omega)) (Nat.mod_lt _ hp)

/-- A place that was come to, whatever is left in it. -/
theorem WLog.torn {b b' : List UInt8} {gen : UInt32} {s : Nat} {L : List (Option Rec)} {mk : Prop} (h : WLog b gen s L mk) (hb : b'.length = 3584) (hn : L.length < 8 * places s)
    (hbl : ∀ k, L.length ≤ k → k / places s = L.length / places s → pl b s k = blankW s)
    (h1 : ∀ k, k < 8 * places s → k ≠ L.length → pl b' s k = pl b s k) {r : Rec}
    (h2 : (recOf gen (pl b' s L.length) = none ∧ (pl b' s L.length).getD (s + 12) 0 ≠ 0) ∨ recOf gen (pl b' s L.length) = some r) :
    ∃ L', WLog b' gen s L' mk ∧ (L' = L ∨ L' = L ++ [none] ∨ L' = L ++ [some r]) := by
  have hp := places_pos h.s16
  have hc8 : L.length / places s < 8 := (Nat.div_lt_iff_lt_mul hp).2 hn
  have h8 : ∀ k, k / places s = L.length / places s → k < 8 * places s := fun k hk => (Nat.div_lt_iff_lt_mul hp).1 (by omega)
  have p1 : ∀ k, k < 8 * places s → k / places s ≠ L.length / places s ∨ k < L.length → pl b' s k = pl b s k := by
    intro k hk hc
    refine h1 k hk ?_
    rintro rfl
    rcases hc with hc | hc
    · exact hc rfl
    · omega
  have p2 : ∀ k, L.length < k → k / places s = L.length / places s → pl b' s k = blankW s := fun k hk hkc => by
    rw [h1 k (h8 k hkc) (by omega)]; exact hbl k (by omega) hkc
  rcases h2 with ⟨hno, hmk⟩ | hso
  · by_cases h0 : L.length % places s = 0
    · exact ⟨L, h.hold hb hn (fun k hk hkc => p1 k hk (.inl hkc)) (fun hne => absurd h0 hne) (fun _ => ⟨hno, fun _ => hmk⟩), .inl rfl⟩
    · by_cases hX : pl b' s L.length = blankW s
      · refine ⟨L, h.hold hb hn (fun k hk hkc => p1 k hk (.inl hkc)) (fun _ k hk hkc => ?_) (fun he => absurd he h0), .inl rfl⟩
        by_cases hkn : k = L.length
        · rw [hkn, hX, hbl _ (Nat.le_refl _) rfl]
        · exact h1 k hk hkn
      · exact ⟨_, h.put hb hn p1 p2 hX hno (fun he => absurd he h0), .inr (.inl rfl)⟩
  · refine ⟨_, h.put hb hn p1 p2 (fun hX => ?_) hso (fun _ => ⟨r, rfl⟩), .inr (.inr rfl)⟩
    rw [hX, recOf_blank] at hso
    cases hso

theorem Good.progTorn' {F : Fla} (h : Good F) {a n : Nat} {l : List UInt8} (hl : a + l.length ≤ 3584) (hf : F.fused = true) (hn : F.left = n) (hnl : n < l.length) :
    ∃ G, F.program a l = (G, 11) ∧ G.b = (andAt F.b a (l.take n)).set (a + n) ((andAt F.b a (l.take n)).getD (a + n) 0 &&& (l.getD n 0 ||| F.tornB)) ∧ G.er = F.er ∧ G.wear = F.wear ∧ G.fused = F.fused ∧ G.down = true ∧
      G.left ≤ 9223372036854775807 ∧ -9223372036854775808 ≤ G.left ∧ G.steps ≤ 9223372036854775807 ∧ -9223372036854775808 ≤ G.steps :=
  ⟨_, h.progTorn hl hf hn hnl, rfl, rfl, rfl, rfl, rfl, by simp, by simp, (wrap64_rng _).2, (wrap64_rng _).1⟩

theorem Good.prog' {F : Fla} (h : Good F) {a : Nat} {l : List UInt8} (hl : a + l.length ≤ 3584) (hf : F.fused = true → (l.length : Int) ≤ F.left) (hs : l.length ≤ 1000) :
    ∃ G, F.program a l = (G, 0) ∧ Good G ∧ G.b = andAt F.b a l ∧ G.er = F.er ∧ G.wear = F.wear ∧ G.fused = F.fused :=
  ⟨_, h.prog hl hf, h.step1 l.length hf (by omega) (andAt F.b a l) F.er (by rw [andAt_len, h.len]) h.er, rfl, rfl, rfl, rfl⟩

theorem logWh_snoc (gen : UInt32) (s : Nat) (L : List (Option Rec)) (id : UInt32) (d : List UInt8) : (logWh gen s L).added id d = logWh gen s (L ++ [some (id, d)]) := by
  unfold Whl.added logWh Whl.sector logReady
  simp

set_option maxRecDepth 100000 in
/-- Add over a log: what was, or one record more; one more, if it says OK. -/
theorem add_log {F : Fla} (hG : Good F) {gen : UInt32} {s : Nat} {L : List (Option Rec)} {mk : Prop} (h : WLog F.b gen s L mk) (hn : L.length < 8 * places s)
    (hw : F.er.getD (6 + L.length / places s) 0 < F.wear) (hmk : F.fused = true → mk) (id : UInt32) (d : List UInt8) (hd : d.length = s) :
    ∃ G V e, (logWh gen s L).add F id d = (G, V, e) ∧ WRest F G (L.length / places s) (erases? F s L) ∧
      ((e = 0 ∧ Good G ∧ V = logWh gen s (L ++ [some (id, d)]) ∧ WLog G.b gen s (L ++ [some (id, d)]) mk) ∨
       (e = 11 ∧ G.down = true ∧ F.fused = true ∧ V = logWh gen s L ∧ ∃ L', WLog G.b gen s L' mk ∧ (L' = L ∨ L' = L ++ [none] ∨ L' = L ++ [some (id, d)]))) := by
  have hp := places_pos h.s16
  have hs16 := h.s16
  have hc8 : L.length / places s < 8 := (Nat.div_lt_iff_lt_mul hp).2 hn
  have htop := whAt_top' h.s1 h.s16 hn
  have hwd : wide s = s + 13 := rfl
  have hol : (Fla.whOut gen id d).length = s + 12 := by rw [whOut_len', hd]
  obtain ⟨G1, e1, hE, hR1, hL1, hcase⟩ := enters_log hG h hn hw hmk
  have hadd : (logWh gen s L).add F id d = if e1 ≠ 0 then (G1, logWh gen s L, e1)
    else
      let r := G1.whPut (whAt s L.length) (Fla.whOut gen id d)
      if r.2 ≠ 0 then (r.1, logWh gen s L, r.2) else (r.1, (logWh gen s L).added id d, 0) := by
    unfold Whl.add
    have hr : ¬ (logWh gen s L).room = 0 := by
      show ¬ (8 * (places s : Int) - L.length = 0)
      omega
    rw [if_neg (show ¬ d.length ≠ (logWh gen s L).size from fun hne => hne hd), if_neg hr, if_neg (by simp [hG.down])]
    have hE' : F.enters (logWh gen s L).ready (logWh gen s L).sector = (G1, e1) := hE
    rw [hE']
    rfl
  rw [hadd]
  rcases hcase with hcase | hcase
  case inr =>
    obtain ⟨rfl, hd1, hf1⟩ := hcase
    exact ⟨_, _, _, if_pos (by simp), hR1, .inr ⟨rfl, hd1, hf1, rfl, L, hL1, .inl rfl⟩⟩
  obtain ⟨rfl, hG1, hbl⟩ := hcase
  rw [if_neg (by simp)]
  dsimp only
  have hb0 := hbl L.length (Nat.le_refl _) rfl
  have hwA : whAt s L.length = (6 + L.length / places s) * 256 + L.length % places s * wide s := rfl
  have hwi := wide_in (Nat.mod_lt L.length hp)
  have hsecs : ∀ (b : List UInt8), (∀ j, j < 14 → j ≠ 6 + L.length / places s → secOf b j = secOf G1.b j) → ∀ j, j < 14 → j ≠ 6 + L.length / places s → secOf b j = secOf F.b j := fun b hb j hj hjT => (hb j hj hjT).trans (hR1.secs j hj hjT)
  have hfF : G1.fused = true → F.fused = true := fun hf => hR1.fused ▸ hf
  by_cases hB : G1.fused = true ∧ G1.left < (s + 12 : Nat)
  · obtain ⟨k, hk⟩ : ∃ k : Nat, G1.left = k := ⟨G1.left.toNat, by have := hG1.arm hB.1; omega⟩
    have hk2 : k < s + 12 := by have := hB.2; omega
    have htl : ((Fla.whOut gen id d).take k).length = k := by rw [List.length_take]; omega
    have hal : (andAt G1.b (whAt s L.length) ((Fla.whOut gen id d).take k)).length = 3584 := by rw [andAt_len, hG1.len]
    obtain ⟨G2, hG2, b2, er2, we2, fu2, do2, l21, l22, s21, s22⟩ := hG1.progTorn' (a := whAt s L.length) (n := k) (l := Fla.whOut gen id d) (by omega) hB.1 hk (by omega)
    have hW : G1.whPut (whAt s L.length) (Fla.whOut gen id d) = (G2, 11) := by unfold Fla.whPut; rw [hG2]; exact if_pos (by simp)
    rw [hW]
    dsimp only
    rw [if_pos (by simp)]
    have hlen2 : G2.b.length = 3584 := by rw [b2, List.length_set, hal]
    refine ⟨_, _, _, rfl, ⟨hlen2, by rw [er2]; exact hR1.er, we2.trans hR1.wear, fu2.trans hR1.fused, hsecs _ ?_, l21, l22, s21, s22⟩, .inr ⟨rfl, do2, hfF hB.1, rfl, ?_⟩⟩
    · intro j hj hjT
      rw [b2, hwA, Nat.add_assoc, secOf_set_other (by rw [andAt_len, hG1.len]) hj (by omega) hjT, secOf_andAt_other hG1.len (by omega) hj hjT _ _ (by omega)]
    · have hsame : ∀ k', k' < 8 * places s → k' ≠ L.length → ∀ x, pl ((andAt G1.b (whAt s L.length) ((Fla.whOut gen id d).take k)).set (whAt s L.length + k) x) s k' = pl G1.b s k' := by
        intro k' hk' hkn x
        rw [pl_set_other hal hs16 hn hk' hkn (by omega)]
        exact pl_andAt_other0 hG1.len hs16 hn hk' hkn (by omega)
      refine hL1.torn (r := (id, d)) hlen2 hn hbl (fun k' hk' hkn => by rw [b2]; exact hsame k' hk' hkn _) (.inl ?_)
      have hmark : ∀ x, (pl ((andAt G1.b (whAt s L.length) ((Fla.whOut gen id d).take k)).set (whAt s L.length + k) x) s L.length).getD (s + 12) 0 ≠ 0 := by
        intro x
        rw [pl_set_same hal hs16 hn (by omega), getD_setB, if_neg (by omega)]
        rw [pl_andAt_same0 hG1.len hs16 hn (by omega), hb0, andAt_getD _ _ _ _ (by unfold blankW; rw [List.length_replicate]; omega), if_neg (by omega)]
        unfold blankW
        rw [replicate_getD _ _ (by omega)]
        decide
      have hm2 : (pl G2.b s L.length).getD (s + 12) 0 ≠ 0 := by rw [b2]; exact hmark _
      exact ⟨recOf_mark (pl_len hlen2 hs16 hn) hm2, hm2⟩
  have hf2 : G1.fused = true → ((Fla.whOut gen id d).length : Int) ≤ G1.left := fun hf => by
    rw [hol]
    rcases Int.lt_or_le G1.left (s + 12 : Nat) with h2 | h2
    · exact absurd ⟨hf, h2⟩ hB
    · exact h2
  obtain ⟨F2, hF2, hG2', b2, e2, w2, f2⟩ := hG1.prog' (a := whAt s L.length) (l := Fla.whOut gen id d) (by omega) hf2 (by omega)
  have hW : G1.whPut (whAt s L.length) (Fla.whOut gen id d) = F2.program ((whAt s L.length + (s + 12) : Nat) : Int) [0] := by unfold Fla.whPut; rw [hF2, hol]; exact if_neg (by simp)
  have hlen2 : F2.b.length = 3584 := hG2'.len
  have hpl2 : pl (andAt G1.b (whAt s L.length) (Fla.whOut gen id d)) s L.length = Fla.whOut gen id d ++ [255] := by
    rw [pl_andAt_same0 hG1.len hs16 hn (by omega), hb0]
    unfold blankW
    rw [andAt_blankN (by omega), hol, hwd, show s + 13 - (s + 12) = 1 from by omega]
    rfl
  have hoth2 : ∀ k', k' < 8 * places s → k' ≠ L.length → pl (andAt G1.b (whAt s L.length) (Fla.whOut gen id d)) s k' = pl G1.b s k' := fun k' hk' hkn => pl_andAt_other0 hG1.len hs16 hn hk' hkn (by omega)
  have hsec2 : ∀ j, j < 14 → j ≠ 6 + L.length / places s → secOf (andAt G1.b (whAt s L.length) (Fla.whOut gen id d)) j = secOf G1.b j := fun j hj hjT => by
    rw [hwA]; exact secOf_andAt_other hG1.len (by omega) hj hjT _ _ (by omega)
  clear hF2 hB hf2
  rw [← b2] at hpl2 hoth2 hsec2
  have hset : ∀ t : UInt8, (Fla.whOut gen id d ++ [255]).set (s + 12) t = Fla.whOut gen id d ++ [t] := fun t => by
    rw [List.set_append_right _ _ (by omega), hol, Nat.sub_self]; rfl
  have hgt : (Fla.whOut gen id d ++ [255]).getD (s + 12) 0 = 255 := by rw [List.getD, List.getElem?_append_right (by omega), hol, Nat.sub_self]; rfl
  have hbyte : F2.b.getD (whAt s L.length + (s + 12)) 0 = 255 := by
    have e : (pl F2.b s L.length).getD (s + 12) 0 = F2.b.getD (whAt s L.length + (s + 12)) 0 := by
      rw [pl_eq hs16, plOf_getD (by omega), secOf_getD (by omega), hwA]
      congr 1
      omega
    rw [← e, hpl2, hgt]
  by_cases hC : F2.fused = true ∧ F2.left = 0
  · obtain ⟨G3, hG3, b3, er3, we3, fu3, do3, l31, l32, s31, s32⟩ := hG2'.progTorn' (a := whAt s L.length + (s + 12)) (n := 0) (l := [0]) (by simp; omega) hC.1 hC.2 (by simp)
    rw [hW, hG3]
    dsimp only
    rw [if_pos (by simp)]
    have b3' : G3.b = F2.b.set (whAt s L.length + (s + 12) + 0) (F2.b.getD (whAt s L.length + (s + 12) + 0) 0 &&& (0 ||| F2.tornB)) := b3
    have hlen3 : G3.b.length = 3584 := by rw [b3', List.length_set, hlen2]
    refine ⟨_, _, _, rfl, ⟨hlen3, by rw [er3, e2]; exact hR1.er, we3.trans (w2.trans hR1.wear), fu3.trans (f2.trans hR1.fused), hsecs _ ?_, l31, l32, s31, s32⟩, .inr ⟨rfl, do3, hfF (f2 ▸ hC.1), rfl, ?_⟩⟩
    · intro j hj hjT
      rw [b3', hwA, Nat.add_zero, Nat.add_assoc, secOf_set_other hlen2 hj (by omega) hjT]
      exact hsec2 j hj hjT
    · have hX : ∀ x, pl (F2.b.set (whAt s L.length + (s + 12) + 0) x) s L.length = Fla.whOut gen id d ++ [x] := fun x => by
        rw [Nat.add_zero, pl_set_same hlen2 hs16 hn (by omega), hpl2, hset]
      rw [b3']
      refine hL1.torn (r := (id, d)) (by rw [List.length_set, hlen2]) hn hbl (fun k' hk' hkn => by rw [Nat.add_zero, pl_set_other hlen2 hs16 hn hk' hkn (by omega)]; exact hoth2 k' hk' hkn) ?_
      rw [hX, Nat.add_zero, hbyte, and255, UInt8.zero_or]
      by_cases ht : F2.tornB = 0
      · right; rw [ht, recOf_out]
      · have hm : (Fla.whOut gen id d ++ [F2.tornB]).getD (s + 12) 0 ≠ 0 := by
          rw [List.getD, List.getElem?_append_right (by omega), hol, Nat.sub_self]; exact ht
        exact .inl ⟨recOf_mark (s := s) (by rw [List.length_append, hol]; rfl) hm, hm⟩
  have hf3 : F2.fused = true → (([0] : List UInt8).length : Int) ≤ F2.left := fun hf => by
    have h1 := hG2'.arm hf
    have h2 : F2.left ≠ 0 := fun h0 => hC ⟨hf, h0⟩
    simp only [List.length_cons, List.length_nil]
    omega
  obtain ⟨F3, hF3, hG3, b3, e3, w3, f3⟩ := hG2'.prog' (a := whAt s L.length + (s + 12)) (l := [0]) (by simp; omega) hf3 (by simp)
  rw [hW, hF3]
  dsimp only
  rw [if_neg (by simp)]
  have hpl3 : pl (andAt F2.b (whAt s L.length + (s + 12)) [0]) s L.length = Fla.whOut gen id d ++ [0] := by
    rw [pl_andAt_same hlen2 hs16 hn (by simp; omega), hpl2]
    show (Fla.whOut gen id d ++ [255]).set (s + 12) _ = _
    rw [hset, hgt, and255]
  have hoth3 : ∀ k', k' < 8 * places s → k' ≠ L.length → pl (andAt F2.b (whAt s L.length + (s + 12)) [0]) s k' = pl G1.b s k' := fun k' hk' hkn => by
    rw [pl_andAt_other hlen2 hs16 hn hk' hkn (by simp; omega)]; exact hoth2 k' hk' hkn
  refine ⟨_, _, _, rfl, ⟨hG3.len, by rw [e3, e2]; exact hR1.er, w3.trans (w2.trans hR1.wear), f3.trans (f2.trans hR1.fused), hsecs _ ?_, hG3.l1, hG3.l2, hG3.s1, hG3.s2⟩, .inl ⟨rfl, hG3, logWh_snoc _ _ _ _ _, ?_⟩⟩
  · intro j hj hjT
    rw [b3, hwA, Nat.add_assoc, secOf_andAt_other hlen2 (by omega) hj hjT _ _ (by simp; omega)]
    exact hsec2 j hj hjT
  · have h8 : ∀ k, k / places s = L.length / places s → k < 8 * places s := fun k hk => (Nat.div_lt_iff_lt_mul hp).1 (by omega)
    rw [b3]
    refine hL1.put (by rw [andAt_len, hlen2]) hn (fun k hk hc => hoth3 k hk (by
      rintro rfl
      rcases hc with hc | hc
      · exact hc rfl
      · omega)) (fun k hk hkc => by rw [hoth3 k (h8 k hkc) (by omega)]; exact hbl k (by omega) hkc) (fun hX => ?_) (by rw [hpl3, recOf_out]) (fun _ => ⟨_, rfl⟩)
    rw [hpl3] at hX
    have := recOf_out gen id d
    rw [hX, recOf_blank] at this
    cases this

end Go.Proofs.YtijhaeapoapgfaaGreatDoor

set_option linter.unusedVariables false
namespace Go.Proofs.YtijhaeapoapgfaaGreatDoor
open Go.RowKit

theorem Blk.put6 {w : World} {p : Nat} {t : TypeId} {a0 b0 c0 d0 e0 f0 : Value} (h : Blk w p t [a0, b0, c0, d0, e0, f0]) (a b c d e f : Value) :
    Blk ((((((w.setCell ⟨p, 0, none⟩ a).setCell ⟨p, 1, none⟩ b).setCell ⟨p, 2, none⟩ c).setCell ⟨p, 3, none⟩ d).setCell ⟨p, 4, none⟩ e).setCell ⟨p, 5, none⟩ f) p t [a, b, c, d, e, f] := (((((h.set 0 a).set 1 b).set 2 c).set 3 d).set 4 e).set 5 f
theorem Keeps.put6 {S : List Nat} {w' w : World} {p : Nat} (k : Keeps S w' w) (hp : p ∈ S ∨ w'.heap.size ≤ p) (a b c d e f : Value) :
    Keeps S w' ((((((w.setCell ⟨p, 0, none⟩ a).setCell ⟨p, 1, none⟩ b).setCell ⟨p, 2, none⟩ c).setCell ⟨p, 3, none⟩ d).setCell ⟨p, 4, none⟩ e).setCell ⟨p, 5, none⟩ f) := (((((k.setCell hp _).setCell hp _).setCell hp _).setCell hp _).setCell hp _).setCell hp _

end Go.Proofs.YtijhaeapoapgfaaGreatDoor
