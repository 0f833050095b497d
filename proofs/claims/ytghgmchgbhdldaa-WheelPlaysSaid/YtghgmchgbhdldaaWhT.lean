/-
  WhT: places of the wheel: what programs and erasures do to them; what a wheel that is opened tells. No program here.
-/
import Derived.Test.YtghgmchgbhdldaaWhM
import Derived.Test.YtghgmchgbhdldaaCellT2
set_option linter.unusedVariables false
set_option linter.unusedSimpArgs false
namespace Go.Proofs.Ytghgmchgbhdldaa
open Go.RowKit

theorem num4_be4 (n : UInt32) (m : List UInt8) : num4 (be4 n ++ m) = n := be32_be4 n

theorem whAt_top' {s k : Nat} (h1 : 1 ≤ s) (hs : s ≤ 16) (hk : k < 8 * places s) : whAt s k + wide s ≤ 3584 := by
  have hp := places_bounds h1 hs
  have hpw := @places_wide s
  have hd : k / places s < 8 := (Nat.div_lt_iff_lt_mul (by omega)).2 hk
  have hm : k % places s < places s := Nat.mod_lt _ (by omega)
  have : (k % places s + 1) * wide s ≤ places s * wide s := Nat.mul_le_mul_right _ hm
  unfold whAt
  rw [Nat.add_mul] at this
  omega

/-- A place's bytes. -/
def pl (b : List UInt8) (s k : Nat) : List UInt8 := (b.drop (whAt s k)).take (wide s)
theorem place_pl (F : Fla) (s k : Nat) : F.place s k = pl F.b s k := rfl

/-- A place within its sector's bytes. -/
def plOf (S : List UInt8) (s i : Nat) : List UInt8 := (S.drop (i * wide s)).take (wide s)

theorem wide_in {s i : Nat} (h : i < places s) : i * wide s + wide s ≤ 256 := by
  have h1 : (i + 1) * wide s ≤ places s * wide s := Nat.mul_le_mul_right _ h
  have h2 := places_wide (s := s)
  rw [Nat.add_mul] at h1
  omega

theorem places_pos {s : Nat} (hs : s ≤ 16) : 0 < places s := by
  unfold places wide
  exact Nat.div_pos (by omega) (by omega)

theorem pl_eq {b : List UInt8} {s k : Nat} (hs : s ≤ 16) : pl b s k = plOf (secOf b (6 + k / places s)) s (k % places s) := by
  have h := wide_in (Nat.mod_lt k (places_pos hs))
  unfold pl plOf secOf whAt
  rw [List.drop_take, List.drop_drop, List.take_take, Nat.min_eq_left (by omega)]

theorem plOf_len {S : List UInt8} {s i : Nat} (hS : S.length = 256) (hi : i < places s) : (plOf S s i).length = wide s := by
  have h := wide_in hi
  unfold plOf; rw [List.length_take, List.length_drop, hS]; omega

theorem plOf_getD {S : List UInt8} {s i t : Nat} (ht : t < wide s) : (plOf S s i).getD t 0 = S.getD (i * wide s + t) 0 := by
  unfold plOf; simp [List.getD, List.getElem?_take, ht, List.getElem?_drop]

theorem apart {s i j : Nat} (h : i ≠ j) : i * wide s + wide s ≤ j * wide s ∨ j * wide s + wide s ≤ i * wide s := by
  rcases Nat.lt_or_gt_of_ne h with h | h
  · left; have := Nat.mul_le_mul_right (wide s) (show i + 1 ≤ j from h); rw [Nat.add_mul] at this; omega
  · right; have := Nat.mul_le_mul_right (wide s) (show j + 1 ≤ i from h); rw [Nat.add_mul] at this; omega

theorem plOf_andAt_other {S : List UInt8} {s i j o : Nat} {l : List UInt8} (hS : S.length = 256) (hi : i < places s) (hj : j < places s) (hij : j ≠ i) (hl : o + l.length ≤ wide s) :
    plOf (andAt S (i * wide s + o) l) s j = plOf S s j := by
  have h1 := wide_in hi
  have h2 := wide_in hj
  apply ext_getD
  · rw [plOf_len (by rw [andAt_len, hS]) hj, plOf_len hS hj]
  · intro t ht
    rw [plOf_len (by rw [andAt_len, hS]) hj] at ht
    rw [plOf_getD ht, plOf_getD ht, andAt_getD _ _ _ _ (by omega), if_neg (by have := apart (s := s) hij; omega)]

theorem plOf_andAt_same {S : List UInt8} {s i o : Nat} {l : List UInt8} (hS : S.length = 256) (hi : i < places s) (hl : o + l.length ≤ wide s) :
    plOf (andAt S (i * wide s + o) l) s i = andAt (plOf S s i) o l := by
  have h1 := wide_in hi
  apply ext_getD
  · rw [plOf_len (by rw [andAt_len, hS]) hi, andAt_len, plOf_len hS hi]
  · intro t ht
    rw [plOf_len (by rw [andAt_len, hS]) hi] at ht
    rw [plOf_getD ht, andAt_getD _ _ _ _ (by omega), andAt_getD _ _ _ _ (by rw [plOf_len hS hi]; omega), plOf_getD ht]
    by_cases hc : o ≤ t ∧ t < o + l.length
    · rw [if_pos (by omega), if_pos hc, show i * wide s + t - (i * wide s + o) = t - o from by omega]
    · rw [if_neg (by omega), if_neg hc]

theorem plOf_set_other {S : List UInt8} {s i j o : Nat} {x : UInt8} (hS : S.length = 256) (hi : i < places s) (hj : j < places s) (hij : j ≠ i) (ho : o < wide s) :
    plOf (S.set (i * wide s + o) x) s j = plOf S s j := by
  have h1 := wide_in hi
  have h2 := wide_in hj
  apply ext_getD
  · rw [plOf_len (by rw [List.length_set, hS]) hj, plOf_len hS hj]
  · intro t ht
    rw [plOf_len (by rw [List.length_set, hS]) hj] at ht
    rw [plOf_getD ht, plOf_getD ht, getD_set, if_neg (by have := apart (s := s) hij; omega)]

theorem plOf_set_same {S : List UInt8} {s i o : Nat} {x : UInt8} (hS : S.length = 256) (hi : i < places s) (ho : o < wide s) :
    plOf (S.set (i * wide s + o) x) s i = (plOf S s i).set o x := by
  have h1 := wide_in hi
  apply ext_getD
  · rw [plOf_len (by rw [List.length_set, hS]) hi, List.length_set, plOf_len hS hi]
  · intro t ht
    rw [plOf_len (by rw [List.length_set, hS]) hi] at ht
    rw [plOf_getD ht, getD_set, getD_set, plOf_getD ht, plOf_len hS hi, hS]
    by_cases hc : o = t
    · rw [if_pos (by omega), if_pos (by omega)]
    · rw [if_neg (by omega), if_neg (by omega)]

def blankW (s : Nat) : List UInt8 := List.replicate (wide s) 255

theorem plOf_blank {s i : Nat} (hi : i < places s) : plOf (List.replicate 256 255) s i = blankW s := by
  have h1 := wide_in hi
  unfold plOf blankW
  rw [List.drop_replicate, List.take_replicate]
  congr 1
  omega

/-- A place counts only if its mark is 0. -/
theorem recOf_mark {gen : UInt32} {b : List UInt8} {s : Nat} (hb : b.length = wide s) (h : b.getD (s + 12) 0 ≠ 0) : recOf gen b = none := by
  unfold recOf
  rw [if_pos (by rw [hb]; exact h)]

theorem recOf_blank {gen : UInt32} {s : Nat} : recOf gen (blankW s) = none := by
  refine recOf_mark (s := s) (by unfold blankW; simp) ?_
  unfold blankW wide
  rw [replicate_getD _ _ (by omega)]
  decide

theorem whOut_len' (gen id : UInt32) (d : List UInt8) : (Fla.whOut gen id d).length = d.length + 12 := by
  unfold Fla.whOut; rw [crcPut_len]; simp [be4]

theorem recOf_out (gen id : UInt32) (d : List UInt8) : recOf gen (Fla.whOut gen id d ++ [0]) = some (id, d) := by
  unfold recOf
  have hl := whOut_len' gen id d
  rw [if_neg (by rw [List.length_append, hl, List.getD, List.getElem?_append_right (by simp [hl])]; simp [hl]), List.length_append]
  simp only [List.length_cons, List.length_nil, Nat.zero_add, Nat.add_sub_cancel, List.take_left]
  unfold Fla.whOut
  rw [crcRight_put]
  dsimp only
  rw [List.append_assoc, num4_be4, if_pos rfl]
  have h4 : ∀ (x : UInt32) (m : List UInt8), (be4 x ++ m).drop 4 = m := fun _ _ => rfl
  rw [show ∀ m : List UInt8, m.drop 8 = (m.drop 4).drop 4 from fun m => by rw [List.drop_drop], h4, num4_be4, h4]

/-- A record's place begins with its generation. -/
theorem recOf_gen {gen : UInt32} {b : List UInt8} {r : Rec} (h : recOf gen b = some r) (hb : 9 ≤ b.length) : num4 b = gen := by
  unfold recOf at h
  split at h
  · cases h
  · split at h
    · cases h
    · rename_i m hm
      split at h
      · rename_i hg
        have hr := crcRight_some hm
        rw [← hg]
        unfold num4
        have e : ∀ i, i < 4 → m.getD i 0 = b.getD i 0 := fun i hi => by
          rw [hr.2.1, List.take_take, List.length_take]
          simp only [List.getD, List.getElem?_take]
          rw [if_pos (by omega)]
        rw [e 0 (by omega), e 1 (by omega), e 2 (by omega), e 3 (by omega)]
      · cases h

theorem recOf_other {gen : UInt32} {b : List UInt8} (hb : 9 ≤ b.length) (h : num4 b ≠ gen) : recOf gen b = none := by
  cases hr : recOf gen b with
  | none => rfl
  | some r => exact absurd (recOf_gen hr hb) h

/-- A wheel's log on flash: L tells for each place that was used its record, if it is whole; mk: the sectors to come hold no mark. -/
structure WLog (b : List UInt8) (gen : UInt32) (s : Nat) (L : List (Option Rec)) (mk : Prop) : Prop where
  len : b.length = 3584
  s1 : 1 ≤ s
  s16 : s ≤ 16
  le : L.length ≤ 8 * places s
  used : ∀ k, k < L.length → L[k]? = some (recOf gen (pl b s k)) ∧ pl b s k ≠ blankW s
  head : ∀ c, c * places s < L.length → ∃ r, L[c * places s]? = some (some r)
  rest : ∀ k, L.length ≤ k → k / places s * places s < L.length → pl b s k = blankW s
  next : ∀ c, c < 8 → L.length ≤ c * places s → recOf gen (pl b s (c * places s)) = none ∧ (mk → (pl b s (c * places s)).getD (s + 12) 0 ≠ 0)

def logReady (s : Nat) (L : List (Option Rec)) : Int := if L.length = 0 then -1 else ((L.length - 1) / places s : Nat)

/-- The wheel that a log is. -/
def logWh (gen : UInt32) (s : Nat) (L : List (Option Rec)) : Whl := ⟨gen, s, L.filterMap id, logReady s L, L.length⟩

theorem recAt_up {F : Fla} (hd : F.down = false) (gen : UInt32) (s k : Nat) : F.recAt gen s k = recOf gen (pl F.b s k) := by
  unfold Fla.recAt; rw [if_neg (by simp [hd])]; rfl

theorem take_one (L : List (Option Rec)) (k : Nat) : (L.take (k + 1)).filterMap id = (L.take k).filterMap id ++ ((L[k]?).getD none).toList := by
  rw [List.take_add_one, List.filterMap_append]
  cases L[k]? with
  | none => rfl
  | some o => cases o <;> rfl

theorem WLog.at {F : Fla} {gen : UInt32} {s : Nat} {L : List (Option Rec)} {mk : Prop} (h : WLog F.b gen s L mk) (hd : F.down = false) (k : Nat) (hk : k / places s * places s < L.length) : F.recAt gen s k = (L[k]?).getD none := by
  rw [recAt_up hd]
  by_cases hl : k < L.length
  · rw [(h.used k hl).1]; rfl
  · rw [h.rest k (by omega) hk, recOf_blank, List.getElem?_eq_none (by omega)]; rfl

theorem WLog.recsAt {F : Fla} {gen : UInt32} {s : Nat} {L : List (Option Rec)} {mk : Prop} (h : WLog F.b gen s L mk) (hd : F.down = false) (c : Nat) (hc : c * places s < L.length) :
    ∀ m, m ≤ places s → (L.take (c * places s)).filterMap id ++ F.recsAt gen s (c * places s) m = (L.take (c * places s + m)).filterMap id
  | 0, _ => by rw [Fla.recsAt, List.append_nil, Nat.add_zero]
  | m + 1, hm => by
    have hp := places_pos h.s16
    rw [Fla.recsAt, ← List.append_assoc, h.recsAt hd c hc m (by omega), ← Nat.add_assoc, take_one, h.at hd _ (by
      rw [Nat.mul_comm c, Nat.mul_add_div hp, Nat.div_eq_of_lt (by omega), Nat.add_zero]; exact hc)]

theorem WLog.readTo {F : Fla} {gen : UInt32} {s : Nat} {L : List (Option Rec)} {mk : Prop} (h : WLog F.b gen s L mk) (hd : F.down = false) :
    ∀ c, c ≤ 8 → F.readTo gen s c = ((L.take (c * places s)).filterMap id, if L.length = 0 ∨ c = 0 then -1 else if c * places s < L.length then (c : Int) - 1 else logReady s L)
  | 0, _ => by simp [Fla.readTo]
  | c + 1, hc => by
    have hp := places_pos h.s16
    have ih := h.readTo hd c (by omega)
    have hmul : (c + 1) * places s = c * places s + places s := by rw [Nat.add_mul, Nat.one_mul]
    rw [Fla.readTo, ih, Fla.readSec]
    by_cases hl : c * places s < L.length
    · obtain ⟨r, hr⟩ := h.head c hl
      have ha := h.at hd (c * places s) (by rw [Nat.mul_div_cancel _ hp]; exact hl)
      rw [hr] at ha
      rw [if_neg (by simp [ha]), h.recsAt hd c hl _ (Nat.le_refl _), ← hmul]
      congr 1
      rw [if_neg (by omega)]
      split
      · omega
      · unfold logReady
        rw [if_neg (by omega)]
        congr 1
        apply Nat.le_antisymm
        · exact (Nat.le_div_iff_mul_le hp).2 (by omega)
        · exact Nat.le_of_lt_succ ((Nat.div_lt_iff_lt_mul hp).2 (by rw [Nat.succ_eq_add_one, hmul]; omega))
    · have ha := h.next c (by omega) (by omega)
      rw [if_pos (by rw [recAt_up hd, ha.1]; rfl)]
      have e : ∀ n, L.length ≤ n → L.take n = L := fun n hn => List.take_of_length_le hn
      rw [e _ (by omega), e _ (by omega)]
      congr 1
      by_cases h0 : L.length = 0
      · rw [if_pos (.inl h0), if_pos (.inl h0)]
      · have hc0 : c ≠ 0 := by intro hc0; subst hc0; omega
        rw [if_neg (by omega), if_neg (by omega), if_neg (by omega), if_neg (by omega)]

theorem blank_eq {F : Fla} (hb : F.b.length = 3584) (hd : F.down = false) {s k : Nat} (h1 : 1 ≤ s) (hs : s ≤ 16) (hk : k < 8 * places s) : F.blank (whAt s k) (wide s) = true ↔ pl F.b s k = blankW s := by
  have htop := whAt_top' h1 hs hk
  have hr : F.ready (whAt s k) (wide s) = 0 := by unfold Fla.ready; rw [if_neg (by simp [hd]), if_neg (by omega)]
  unfold Fla.blank Fla.read
  rw [if_neg (by simp [hr])]
  simp only [Int.toNat_natCast, beq_self_eq_true, Bool.true_and]
  show (pl F.b s k).all (· == 255) = true ↔ _
  have hl : (pl F.b s k).length = wide s := by unfold pl; rw [List.length_take, List.length_drop, hb]; omega
  rw [List.all_eq_true]
  constructor
  · intro h
    rw [List.eq_replicate_iff.2 ⟨hl, fun x hx => by simpa using h x hx⟩]; rfl
  · intro h x hx
    rw [h] at hx
    have := List.eq_of_mem_replicate hx
    simp [this]

theorem WLog.trim {F : Fla} {gen : UInt32} {s : Nat} {L : List (Option Rec)} {mk : Prop} (h : WLog F.b gen s L mk) (hd : F.down = false) (c : Nat) (hc : c * places s < L.length) (hc2 : L.length ≤ c * places s + places s) :
    ∀ m, m ≤ places s → L.length ≤ c * places s + m → F.trim s (c * places s) m = L.length - c * places s
  | 0, _, hl => by omega
  | m + 1, hm, hl => by
    have hp := places_pos h.s16
    have hle := h.le
    have hk : c * places s + m < 8 * places s := by
      have : c < 8 := by
        rcases Nat.lt_or_ge c 8 with h8 | h8
        · exact h8
        · have := Nat.mul_le_mul_right (places s) h8; omega
      have := Nat.mul_le_mul_right (places s) (show c + 1 ≤ 8 from this)
      rw [Nat.add_mul] at this
      omega
    rw [Fla.trim]
    by_cases hb : L.length ≤ c * places s + m
    · rw [if_pos ((blank_eq h.len hd h.s1 h.s16 hk).2 (h.rest _ hb (by rw [Nat.mul_comm c, Nat.mul_add_div hp, Nat.div_eq_of_lt (by omega), Nat.add_zero]; exact hc)))]
      exact h.trim hd c hc hc2 m (by omega) hb
    · rw [if_neg (fun hbl => (h.used _ (by omega)).2 ((blank_eq h.len hd h.s1 h.s16 hk).1 hbl))]
      omega

/-- What a log tells, opened. -/
theorem WLog.open {F : Fla} {gen : UInt32} {s : Nat} {L : List (Option Rec)} {mk : Prop} (h : WLog F.b gen s L mk) (hd : F.down = false) : F.openWh gen s = logWh gen s L := by
  have hp := places_pos h.s16
  have hr := h.readTo hd 8 (Nat.le_refl _)
  have e : L.take (8 * places s) = L := List.take_of_length_le h.le
  have hle := h.le
  rw [e, if_neg (show ¬ 8 * places s < L.length by omega)] at hr
  unfold Fla.openWh logWh
  by_cases h0 : L.length = 0
  · rw [if_pos (.inl h0)] at hr
    rw [hr]
    unfold logReady
    rw [if_pos h0, h0]
    rfl
  · rw [if_neg (by omega)] at hr
    rw [hr]
    have hlr : logReady s L = ((L.length - 1) / places s : Nat) := by unfold logReady; rw [if_neg h0]
    have hc1 : (L.length - 1) / places s * places s ≤ L.length - 1 := Nat.div_mul_le_self _ _
    have hc2 : L.length - 1 < (L.length - 1) / places s * places s + places s := by
      have := Nat.lt_div_mul_add hp (a := L.length - 1)
      exact this
    dsimp only
    unfold Fla.nextOf
    rw [if_neg (by rw [hlr]; exact Int.not_lt.2 (Int.natCast_nonneg _)), hlr, Int.toNat_natCast, h.trim hd _ (by omega) (by omega) _ (Nat.le_refl _) (by omega)]
    congr 1
    omega

end Go.Proofs.Ytghgmchgbhdldaa
