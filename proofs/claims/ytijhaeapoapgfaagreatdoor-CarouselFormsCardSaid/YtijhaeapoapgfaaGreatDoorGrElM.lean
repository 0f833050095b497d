/-
  GrElM: the texts ElM, ElS, ElD, SpA, Put6, one behind another.
-/
import Derived.Test.YtijhaeapoapgfaaGreatDoorGrPopT
import Derived.Test.YtijhaeapoapgfaaGreatDoorGrBase
set_option linter.unusedVariables false
set_option linter.unusedSimpArgs false
namespace Go.Proofs.YtijhaeapoapgfaaGreatDoor
open Go.RowKit

/-- A row, and its data. -/
structure Rw where
  x : Nat
  d : List UInt8
def rxor (a b : Rw) : Rw := ⟨a.x ^^^ b.x, xorL a.d b.d⟩

abbrev Mtx := List (Option Rw)
def Mtx.at (M : Mtx) (i : Nat) : Option Rw := M.getD i none

/-- A row less what the first k rows say of it. -/
def redK (M : Mtx) (r : Rw) : Nat → Rw
  | 0 => r
  | k + 1 => match M.at k with
    | some q => if (redK M r k).x.testBit k then rxor (redK M r k) q else redK M r k
    | none => redK M r k
def red (M : Mtx) (r : Rw) : Rw := redK M r M.length

/-- Each row in the place of its first bit; no other row has that bit. -/
structure Ech (n size : Nat) (M : Mtx) : Prop where
  l : M.length = n
  lt : ∀ i q, M.at i = some q → q.x < 2 ^ n
  d : ∀ i q, M.at i = some q → q.d.length = size
  piv : ∀ i q, M.at i = some q → q.x.testBit i = true
  low : ∀ i q, M.at i = some q → ∀ j, j < i → q.x.testBit j = false
  off : ∀ i q, M.at i = some q → ∀ j p, j ≠ i → M.at j = some p → q.x.testBit j = false

theorem Mtx.at_lt {M : Mtx} {i : Nat} {q : Rw} (h : M.at i = some q) : i < M.length := by
  unfold Mtx.at at h
  rcases Nat.lt_or_ge i M.length with h' | h'
  · exact h'
  · rw [List.getD_eq_getElem?_getD, List.getElem?_eq_none h'] at h; cases h

theorem redK_len {n size : Nat} {M : Mtx} (h : Ech n size M) {r : Rw} (hr : r.x < 2 ^ n) (hd : r.d.length = size) : ∀ k, (redK M r k).x < 2 ^ n ∧ (redK M r k).d.length = size
  | 0 => ⟨hr, hd⟩
  | k + 1 => by
    have ih := redK_len h hr hd k
    unfold redK
    split
    · next q hq =>
      split
      · exact ⟨xor_lt ih.1 (h.lt k q hq), xorL_len ih.2 (h.d k q hq)⟩
      · exact ih
    · exact ih
/-- Behind the first k rows their places are clear. -/
theorem redK_clear {n size : Nat} {M : Mtx} (h : Ech n size M) (r : Rw) : ∀ k i p, i < k → M.at i = some p → (redK M r k).x.testBit i = false
  | 0, i, _, hi, _ => by omega
  | k + 1, i, p, hi, hp => by
    unfold redK
    by_cases hik : i = k
    · subst hik
      rw [hp]
      simp only
      split
      · next hb => show ((redK M r i).x ^^^ p.x).testBit i = false; rw [Nat.testBit_xor, hb, h.piv i p hp]; rfl
      · next hb => simpa using hb
    · have ih := redK_clear h r k i p (by omega) hp
      split
      · next q hq =>
        split
        · show ((redK M r k).x ^^^ q.x).testBit i = false
          rw [Nat.testBit_xor, ih, h.off k q hq i p hik hp]; rfl
        · exact ih
      · exact ih
theorem red_clear {n size : Nat} {M : Mtx} (h : Ech n size M) (r : Rw) {i : Nat} {p : Rw} (hp : M.at i = some p) : (red M r).x.testBit i = false :=
  redK_clear h r _ i p (Mtx.at_lt hp) hp
/-- A place that no row has stays as it was. -/
theorem red_len {n size : Nat} {M : Mtx} (h : Ech n size M) {r : Rw} (hr : r.x < 2 ^ n) (hd : r.d.length = size) : (red M r).x < 2 ^ n ∧ (red M r).d.length = size := redK_len h hr hd _

/-- The rows, a new one taken off where its first bit is. -/
def addTo (M : Mtx) (at_ : Nat) (r : Rw) (k : Nat) : Mtx := (List.range M.length).map fun i => if i < k then (match M.at i with | some q => if q.x.testBit at_ then some (rxor q r) else some q | none => none) else M.at i
def madd (M : Mtx) (at_ : Nat) (r : Rw) : Mtx := (addTo M at_ r M.length).set at_ (some r)

theorem addTo_len (M : Mtx) (at_ : Nat) (r : Rw) (k : Nat) : (addTo M at_ r k).length = M.length := by simp [addTo]
theorem addTo_at (M : Mtx) (at_ : Nat) (r : Rw) (k i : Nat) (hi : i < M.length) : (addTo M at_ r k).at i = if i < k then (match M.at i with | some q => if q.x.testBit at_ then some (rxor q r) else some q | none => none) else M.at i := by
  simp [addTo, Mtx.at, List.getD, hi]
theorem addTo_zero (M : Mtx) (at_ : Nat) (r : Rw) : addTo M at_ r 0 = M := by
  apply List.ext_getElem
  · simp [addTo]
  · intro i h1 h2
    simp [addTo, Mtx.at, List.getD, h2]
theorem madd_len (M : Mtx) (at_ : Nat) (r : Rw) : (madd M at_ r).length = M.length := by simp [madd, addTo]
theorem madd_at (M : Mtx) (at_ : Nat) (r : Rw) {i : Nat} (hi : i < M.length) (ha : at_ < M.length) : (madd M at_ r).at i = if i = at_ then some r else (match M.at i with | some q => if q.x.testBit at_ then some (rxor q r) else some q | none => none) := by
  have h := addTo_at M at_ r M.length i hi
  rw [if_pos hi] at h
  unfold madd Mtx.at
  rw [List.getD_eq_getElem?_getD, List.getElem?_set]
  by_cases e : at_ = i
  · subst e
    simp [addTo_len, ha]
  · rw [if_neg e, if_neg (fun h => e h.symm)]
    unfold Mtx.at at h
    rw [← h, List.getD_eq_getElem?_getD]

/-- What a new row leaves is in order again. -/
theorem madd_ech {n size : Nat} {M : Mtx} (h : Ech n size M) {r : Rw} {a : Nat} (hr : r.x < 2 ^ n) (hd : r.d.length = size) (ha : a < n) (h1 : r.x.testBit a = true) (h2 : ∀ j, j < a → r.x.testBit j = false) (h3 : ∀ i p, M.at i = some p → r.x.testBit i = false) : Ech n size (madd M a r) := by
  have hl := h.l
  have hna : M.at a = none := by
    cases e : M.at a with
    | none => rfl
    | some p => rw [h3 a p e] at h1; cases h1
  have key : ∀ i q, (madd M a r).at i = some q → (i = a ∧ q = r) ∨ (i ≠ a ∧ ∃ p, M.at i = some p ∧ ((p.x.testBit a = true ∧ q = rxor p r) ∨ (p.x.testBit a = false ∧ q = p))) := by
    intro i q hq
    have hi := Mtx.at_lt hq
    rw [madd_len] at hi
    rw [madd_at M a r hi (by omega)] at hq
    by_cases e : i = a
    · rw [if_pos e] at hq; exact .inl ⟨e, (Option.some.inj hq).symm⟩
    · rw [if_neg e] at hq
      refine .inr ⟨e, ?_⟩
      cases e2 : M.at i with
      | none => rw [e2] at hq; cases hq
      | some p =>
        rw [e2] at hq
        refine ⟨p, rfl, ?_⟩
        simp only at hq
        split at hq
        · next hb => exact .inl ⟨hb, (Option.some.inj hq).symm⟩
        · next hb => exact .inr ⟨by simpa using hb, (Option.some.inj hq).symm⟩
  have some_of : ∀ i, (∃ p, M.at i = some p) ∨ i = a ∨ ∀ q, (madd M a r).at i ≠ some q := by
    intro i
    by_cases e : i = a
    · exact .inr (.inl e)
    · cases e2 : M.at i with
      | some p => exact .inl ⟨p, rfl⟩
      | none => exact .inr (.inr (fun q hq => by
          rcases key i q hq with ⟨h', _⟩ | ⟨_, p, hp, _⟩
          · exact e h'
          · rw [e2] at hp; cases hp))
  refine ⟨by rw [madd_len, hl], fun i q hq => ?_, fun i q hq => ?_, fun i q hq => ?_, fun i q hq j hj => ?_, fun i q hq j p' hji hp' => ?_⟩
  · rcases key i q hq with ⟨_, rfl⟩ | ⟨_, p, hp, ⟨_, rfl⟩ | ⟨_, rfl⟩⟩
    · exact hr
    · exact xor_lt (h.lt i p hp) hr
    · exact h.lt i _ hp
  · rcases key i q hq with ⟨_, rfl⟩ | ⟨_, p, hp, ⟨_, rfl⟩ | ⟨_, rfl⟩⟩
    · exact hd
    · exact xorL_len (h.d i p hp) hd
    · exact h.d i _ hp
  · rcases key i q hq with ⟨rfl, rfl⟩ | ⟨_, p, hp, ⟨_, rfl⟩ | ⟨_, rfl⟩⟩
    · exact h1
    · show (p.x ^^^ r.x).testBit i = true
      rw [Nat.testBit_xor, h.piv i p hp, h3 i p hp]; rfl
    · exact h.piv i _ hp
  · rcases key i q hq with ⟨rfl, rfl⟩ | ⟨hia, p, hp, ⟨hb, rfl⟩ | ⟨_, rfl⟩⟩
    · exact h2 j hj
    · show (p.x ^^^ r.x).testBit j = false
      have hai : i < a := by
        rcases Nat.lt_or_ge a i with h' | h'
        · rw [h.low i p hp a h'] at hb; cases hb
        · omega
      rw [Nat.testBit_xor, h.low i p hp j hj, h2 j (by omega)]; rfl
    · exact h.low i _ hp j hj
  · by_cases hja : j = a
    · subst hja
      rcases key i q hq with ⟨e, _⟩ | ⟨_, p, hp, ⟨hb, rfl⟩ | ⟨hb, rfl⟩⟩
      · exact absurd e.symm hji
      · show (p.x ^^^ r.x).testBit j = false
        rw [Nat.testBit_xor, hb, h1]; rfl
      · exact hb
    · obtain ⟨pj, hpj⟩ : ∃ p, M.at j = some p := by
        rcases some_of j with h' | h' | h'
        · exact h'
        · exact absurd h' hja
        · exact absurd hp' (h' p')
      rcases key i q hq with ⟨rfl, rfl⟩ | ⟨_, p, hp, ⟨_, rfl⟩ | ⟨_, rfl⟩⟩
      · exact h3 j pj hpj
      · show (p.x ^^^ r.x).testBit j = false
        rw [Nat.testBit_xor, h.off i p hp j pj hji hpj, h3 j pj hpj]; rfl
      · exact h.off i _ hp j pj hji hpj

end Go.Proofs.YtijhaeapoapgfaaGreatDoor

set_option linter.unusedVariables false
set_option linter.unusedSimpArgs false
namespace Go.Proofs.YtijhaeapoapgfaaGreatDoor
open Go.RowKit

/-- The bits of a row less what the first k rows say of it. -/
def rdx (M : Mtx) (x : Nat) : Nat → Nat
  | 0 => x
  | k + 1 => match M.at k with
    | some q => if (rdx M x k).testBit k then rdx M x k ^^^ q.x else rdx M x k
    | none => rdx M x k
theorem redK_x (M : Mtx) (r : Rw) : ∀ k, (redK M r k).x = rdx M r.x k
  | 0 => rfl
  | k + 1 => by
    unfold redK rdx
    have ih := redK_x M r k
    cases M.at k with
    | none => exact ih
    | some q =>
      simp only
      rw [ih]
      split
      · show (redK M r k).x ^^^ q.x = _; rw [ih]
      · exact ih
/-- What the rows say all of. -/
def inS (M : Mtx) (x : Nat) : Prop := rdx M x M.length = 0
theorem red_x (M : Mtx) (r : Rw) : (red M r).x = rdx M r.x M.length := redK_x M r _

theorem rdx_xor (M : Mtx) (x y : Nat) : ∀ k, rdx M (x ^^^ y) k = rdx M x k ^^^ rdx M y k
  | 0 => rfl
  | k + 1 => by
    unfold rdx
    rw [rdx_xor M x y k]
    cases M.at k with
    | none => rfl
    | some q =>
      simp only
      rw [Nat.testBit_xor]
      cases (rdx M x k).testBit k <;> cases (rdx M y k).testBit k <;> simp only [Bool.xor_false, Bool.xor_true, Bool.not_true, Bool.not_false, if_true, if_false, Bool.false_eq_true, Bool.false_xor, Bool.true_xor]
      · rw [Nat.xor_assoc]
      · rw [Nat.xor_assoc, Nat.xor_assoc, Nat.xor_comm q.x]
      · rw [Nat.xor_assoc, ← Nat.xor_assoc q.x, Nat.xor_comm q.x, Nat.xor_assoc, Nat.xor_self, Nat.xor_zero]
theorem inS_xor {M : Mtx} {x y : Nat} (hx : inS M x) (hy : inS M y) : inS M (x ^^^ y) := by unfold inS; rw [rdx_xor, hx, hy]; rfl
theorem rdx_zero (M : Mtx) : ∀ k, rdx M 0 k = 0
  | 0 => rfl
  | k + 1 => by
    unfold rdx
    rw [rdx_zero M k]
    split <;> simp
theorem inS_zero (M : Mtx) : inS M 0 := rdx_zero M _

/-- What is taken off a row lies in whatever holds all rows. -/
theorem rdx_off {M : Mtx} {T : Nat → Prop} (h0 : T 0) (hx : ∀ a b, T a → T b → T (a ^^^ b)) (hr : ∀ i q, M.at i = some q → T q.x) (x : Nat) : ∀ k, T (x ^^^ rdx M x k)
  | 0 => by show T (x ^^^ x); rw [Nat.xor_self]; exact h0
  | k + 1 => by
    have ih := rdx_off h0 hx hr x k
    unfold rdx
    split
    · next q hq =>
      split
      · rw [← Nat.xor_assoc]; exact hx _ _ ih (hr k q hq)
      · exact ih
    · exact ih
theorem inS_sub {M : Mtx} {T : Nat → Prop} (h0 : T 0) (hx : ∀ a b, T a → T b → T (a ^^^ b)) (hr : ∀ i q, M.at i = some q → T q.x) {x : Nat} (h : inS M x) : T x := by
  have := rdx_off h0 hx hr x M.length
  rw [h, Nat.xor_zero] at this
  exact this

/-- Each row is said. -/
theorem row_in {n size : Nat} {M : Mtx} (h : Ech n size M) {i : Nat} {q : Rw} (hq : M.at i = some q) : inS M q.x := by
  have hi := Mtx.at_lt hq
  have h1 : ∀ k, k ≤ i → rdx M q.x k = q.x := by
    intro k
    induction k with
    | zero => intro _; rfl
    | succ k ih =>
      intro hk
      unfold rdx
      rw [ih (by omega)]
      split
      · next p hp => rw [h.off i q hq k p (by omega) hp]; rfl
      · rfl
  have h2 : rdx M q.x (i + 1) = 0 := by
    unfold rdx
    rw [h1 i (Nat.le_refl _), hq]
    simp only
    rw [h.piv i q hq, if_pos rfl, Nat.xor_self]
  have h3 : ∀ k, rdx M q.x (i + 1 + k) = 0 := by
    intro k
    induction k with
    | zero => exact h2
    | succ k ih =>
      rw [← Nat.add_assoc]
      unfold rdx
      rw [ih]
      split <;> simp
  have := h3 (M.length - (i + 1))
  rw [show i + 1 + (M.length - (i + 1)) = M.length from by omega] at this
  exact this

/-- A bit that no row has, and that is a row's first, stays. -/
theorem rdx_keep {n size : Nat} {M : Mtx} (h : Ech n size M) {x i : Nat} (hx : x.testBit i = true) (hl : ∀ j, j < i → x.testBit j = false) (hi : M.at i = none) : ∀ k, (rdx M x k).testBit i = true ∧ ∀ j, j < i → (rdx M x k).testBit j = false
  | 0 => ⟨hx, hl⟩
  | k + 1 => by
    have ih := rdx_keep h hx hl hi k
    unfold rdx
    split
    · next q hq =>
      split
      · next hb =>
        have hik : i < k := by
          rcases Nat.lt_trichotomy k i with h' | h' | h'
          · rw [ih.2 k h'] at hb; cases hb
          · subst h'; rw [hi] at hq; cases hq
          · exact h'
        refine ⟨?_, fun j hj => ?_⟩
        · rw [Nat.testBit_xor, ih.1, h.low k q hq i hik]; rfl
        · rw [Nat.testBit_xor, ih.2 j hj, h.low k q hq j (by omega)]; rfl
      · exact ih
    · exact ih
/-- A row is in a place just if something that is said has its first bit there. -/
theorem pivot_of {n size : Nat} {M : Mtx} (h : Ech n size M) {x i : Nat} (hx : x.testBit i = true) (hl : ∀ j, j < i → x.testBit j = false) (hs : inS M x) : ∃ q, M.at i = some q := by
  cases e : M.at i with
  | some q => exact ⟨q, rfl⟩
  | none =>
    have := (rdx_keep h hx hl e M.length).1
    rw [hs, Nat.zero_testBit] at this
    cases this

/-- The same is said: the same places have rows. -/
theorem pivots_same {n size size' : Nat} {M M' : Mtx} (h : Ech n size M) (h' : Ech n size' M') (hs : ∀ x, inS M x → inS M' x) {i : Nat} {q : Rw} (hq : M.at i = some q) : ∃ q', M'.at i = some q' :=
  pivot_of h' (h.piv i q hq) (h.low i q hq) (hs _ (row_in h hq))

/-- Behind a new row all that was said is said, and the row. -/
theorem madd_in {n size : Nat} {M : Mtx} (h : Ech n size M) {r : Rw} {a : Nat} (h' : Ech n size (madd M a r)) (ha : a < n) (hn : M.at a = none) : inS (madd M a r) r.x ∧ ∀ x, inS M x → inS (madd M a r) x := by
  have hl := h.l
  have hr : (madd M a r).at a = some r := by rw [madd_at M a r (by omega) (by omega), if_pos rfl]
  have h1 := row_in h' hr
  refine ⟨h1, fun x hx => inS_sub (T := inS (madd M a r)) (inS_zero _) (fun _ _ => inS_xor) (fun i q hq => ?_) hx⟩
  have hi := Mtx.at_lt hq
  by_cases e : i = a
  · subst e; rw [hn] at hq; cases hq
  · have h2 := madd_at M a r hi (by omega)
    rw [if_neg e, hq] at h2
    simp only at h2
    split at h2
    · have h3 := row_in h' h2
      have h4 := inS_xor h3 h1
      show inS (madd M a r) q.x
      have : (rxor q r).x ^^^ r.x = q.x := by show (q.x ^^^ r.x) ^^^ r.x = q.x; rw [Nat.xor_assoc, Nat.xor_self, Nat.xor_zero]
      rwa [this] at h4
    · exact row_in h' h2

end Go.Proofs.YtijhaeapoapgfaaGreatDoor

set_option linter.unusedVariables false
set_option linter.unusedSimpArgs false
namespace Go.Proofs.YtijhaeapoapgfaaGreatDoor
open Go.RowKit

def rank (M : Mtx) : Nat := M.countP Option.isSome
theorem rank_le (M : Mtx) : rank M ≤ M.length := List.countP_le_length
theorem countP_set_some {M : Mtx} {a : Nat} {r : Rw} (ha : a < M.length) (hn : Mtx.at M a = none) : (List.set M a (some r)).countP Option.isSome = M.countP Option.isSome + 1 := by
  induction M generalizing a with
  | nil => simp at ha
  | cons x M ih =>
    cases a with
    | zero =>
      have hx : x = none := by simpa [Mtx.at, List.getD] using hn
      subst hx
      simp [List.countP_cons]
    | succ a =>
      have h2 : Mtx.at M a = none := by simpa [Mtx.at, List.getD] using hn
      rw [List.set_cons_succ, List.countP_cons, List.countP_cons, ih (by simpa using ha) h2]
      omega
theorem addTo_rank (M : Mtx) (a : Nat) (r : Rw) (k : Nat) : rank (addTo M a r k) = rank M := by
  have h : (addTo M a r k).map Option.isSome = M.map Option.isSome := by
    apply List.ext_getElem
    · simp [addTo]
    · intro i h1 h2
      have hi : i < M.length := by simpa using h2
      have e : M.at i = M[i] := by simp [Mtx.at, List.getD, hi]
      simp only [addTo, List.getElem_map, List.getElem_range, e]
      split
      · cases M[i] with
        | none => rfl
        | some q => simp only; split <;> rfl
      · rfl
  have e : ∀ N : Mtx, rank N = (N.map Option.isSome).countP id := fun N => by unfold rank; rw [List.countP_map]; rfl
  rw [e, e, h]
theorem madd_rank {M : Mtx} {a : Nat} {r : Rw} (ha : a < M.length) (hn : M.at a = none) : rank (madd M a r) = rank M + 1 := by
  unfold madd
  have h2 : (addTo M a r M.length).at a = none := by rw [addTo_at M a r M.length a ha, if_pos ha, hn]
  unfold rank
  rw [countP_set_some (by rw [addTo_len]; exact ha) h2]
  have := addTo_rank M a r M.length
  unfold rank at this
  rw [this]
theorem full_at {M : Mtx} (h : rank M = M.length) {i : Nat} (hi : i < M.length) : ∃ q, M.at i = some q := by
  have := List.countP_eq_length.1 h M[i] (List.getElem_mem hi)
  have e : M.at i = M[i] := by simp [Mtx.at, List.getD, hi]
  rw [e]
  exact Option.isSome_iff_exists.1 this
theorem rank_full {M : Mtx} (h : ∀ i, i < M.length → ∃ q, M.at i = some q) : rank M = M.length := by
  refine List.countP_eq_length.2 (fun o ho => ?_)
  obtain ⟨i, hi, rfl⟩ := List.getElem_of_mem ho
  obtain ⟨q, hq⟩ := h i hi
  have e : M.at i = M[i] := by simp [Mtx.at, List.getD, hi]
  rw [← e, hq]; rfl
/-- All unit rows are said: it is full. -/
theorem full_of_units {n size : Nat} {M : Mtx} (h : Ech n size M) (hu : ∀ i, i < n → inS M (2 ^ i)) : rank M = n := by
  rw [rank_full (fun i hi => ?_), h.l]
  refine pivot_of h (x := 2 ^ i) (i := i) (by rw [Nat.testBit_two_pow]; simp) (fun j hj => ?_) (hu i (by have := h.l; omega))
  rw [Nat.testBit_two_pow]; simp; omega

/-- The sum of those pieces that a row has. -/
def dotP (z : Nat) (A : List (List UInt8)) (x : Nat) : List UInt8 := psum x.testBit z A A.length
theorem psum_xor {z : Nat} {A : List (List UInt8)} (hA : ∀ x ∈ A, x.length = z) (f g : Nat → Bool) : ∀ k, k ≤ A.length → psum (fun i => (f i).xor (g i)) z A k = xorL (psum f z A k) (psum g z A k)
  | 0, _ => (xorL_zz z).symm
  | k + 1, hk => by
    have ih := psum_xor hA f g k (by omega)
    have lf := psum_len (f := f) hA k (by omega)
    have lg := psum_len (f := g) hA k (by omega)
    have la := getD_len hA (i := k) (by omega)
    unfold psum
    rw [ih]
    generalize A.getD k [] = u0 at *
    have hz : xorL u0 u0 = zer z := by
      apply List.ext_getElem
      · simp [xorL, zer, la]
      · intro i h1 h2; simp [xorL, zer]
    have hzr : ∀ u : List UInt8, u.length = z → xorL u (zer z) = u := fun u hu => by
      apply List.ext_getElem
      · simp [xorL, zer, hu]
      · intro i h1 h2; simp [xorL, zer]
    cases f k <;> cases g k <;> simp only [Bool.xor_false, Bool.xor_true, Bool.false_xor, Bool.true_xor, Bool.not_true, Bool.not_false, if_true, if_false, Bool.false_eq_true]
    · have := xorL_four lf lg (zer_len z) la
      rw [hzr _ lf] at this
      rw [← this]
      congr 1
      apply List.ext_getElem
      · simp [xorL, zer, la]
      · intro i h1 h2; simp [xorL, zer]
    · have := xorL_four lf lg la (zer_len z)
      rw [hzr _ lg, hzr _ la] at this
      exact this
    · have := xorL_four lf lg la la
      rw [hz, hzr _ (xorL_len lf lg)] at this
      exact this
theorem dotP_xor {z : Nat} {A : List (List UInt8)} (hA : ∀ x ∈ A, x.length = z) (x y : Nat) : dotP z A (x ^^^ y) = xorL (dotP z A x) (dotP z A y) := by
  unfold dotP
  rw [← psum_xor hA _ _ _ (Nat.le_refl _)]
  exact psum_congr _ (fun i _ => by rw [Nat.testBit_xor])
theorem dotP_len {z : Nat} {A : List (List UInt8)} (hA : ∀ x ∈ A, x.length = z) (x : Nat) : (dotP z A x).length = z := psum_len hA _ (Nat.le_refl _)
theorem dotP_unit {z : Nat} {A : List (List UInt8)} (hA : ∀ x ∈ A, x.length = z) {i : Nat} (hi : i < A.length) : dotP z A (2 ^ i) = A.getD i [] := by
  have h1 : ∀ k, k ≤ i → psum (2 ^ i).testBit z A k = zer z := by
    intro k
    induction k with
    | zero => intro _; rfl
    | succ k ih =>
      intro hk
      unfold psum
      rw [ih (by omega), Nat.testBit_two_pow, if_neg (by simp; omega)]
  have la := getD_len hA hi
  have h2 : psum (2 ^ i).testBit z A (i + 1) = A.getD i [] := by
    unfold psum
    rw [h1 i (Nat.le_refl _), Nat.testBit_two_pow, if_pos (by simp)]
    generalize A.getD i [] = u0 at *
    apply List.ext_getElem
    · simp [xorL, zer, la]
    · intro j h1 h2; simp [xorL, zer]
  have h3 : ∀ k, i + 1 + k ≤ A.length → psum (2 ^ i).testBit z A (i + 1 + k) = A.getD i [] := by
    intro k
    induction k with
    | zero => intro _; exact h2
    | succ k ih =>
      intro hk
      rw [← Nat.add_assoc]
      unfold psum
      rw [ih (by omega), Nat.testBit_two_pow, if_neg (by simp; omega)]
  have := h3 (A.length - (i + 1)) (by omega)
  rw [show i + 1 + (A.length - (i + 1)) = A.length from by omega] at this
  exact this

/-- Each row's data is the sum of its pieces. -/
def Snd12 (z : Nat) (A : List (List UInt8)) (M : Mtx) : Prop := ∀ i q, M.at i = some q → q.d = dotP z A q.x
theorem redK_snd {z : Nat} {A : List (List UInt8)} {M : Mtx} (hA : ∀ x ∈ A, x.length = z) (h : Snd12 z A M) {r : Rw} (hr : r.d = dotP z A r.x) : ∀ k, (redK M r k).d = dotP z A (redK M r k).x
  | 0 => hr
  | k + 1 => by
    have ih := redK_snd hA h hr k
    unfold redK
    split
    · next q hq =>
      split
      · show xorL (redK M r k).d q.d = dotP z A ((redK M r k).x ^^^ q.x)
        rw [dotP_xor hA, ih, h k q hq]
      · exact ih
    · exact ih
theorem madd_snd {z : Nat} {A : List (List UInt8)} {M : Mtx} (hA : ∀ x ∈ A, x.length = z) (h : Snd12 z A M) {r : Rw} (hr : r.d = dotP z A r.x) {a : Nat} (ha : a < M.length) : Snd12 z A (madd M a r) := by
  intro i q hq
  have hi := Mtx.at_lt hq
  rw [madd_len] at hi
  rw [madd_at M a r hi ha] at hq
  by_cases e : i = a
  · rw [if_pos e] at hq
    obtain rfl := Option.some.inj hq
    exact hr
  · rw [if_neg e] at hq
    cases e2 : M.at i with
    | none => rw [e2] at hq; cases hq
    | some p =>
      rw [e2] at hq
      simp only at hq
      split at hq
      · obtain rfl := Option.some.inj hq
        show xorL p.d r.d = dotP z A (p.x ^^^ r.x)
        rw [dotP_xor hA, ← h i p e2, ← hr]
      · obtain rfl := Option.some.inj hq
        exact h i p e2
/-- A full matrix tells each piece. -/
theorem full_tells {n z : Nat} {A : List (List UInt8)} {M : Mtx} (hA : ∀ x ∈ A, x.length = z) (hl : A.length = n) (h : Ech n z M) (hs : Snd12 z A M) (hf : rank M = n) {i : Nat} {q : Rw} (hq : M.at i = some q) : q.d = A.getD i [] := by
  have hi := Mtx.at_lt hq
  have hlM := h.l
  have hx : q.x = 2 ^ i := by
    apply Nat.eq_of_testBit_eq
    intro j
    rw [Nat.testBit_two_pow]
    by_cases e : i = j
    · subst e; rw [h.piv i q hq]; simp
    · have hd : decide (i = j) = false := by simp [e]
      rw [hd]
      by_cases hj : j < n
      · obtain ⟨p, hp⟩ := full_at (by rw [hf, hlM]) (i := j) (by omega)
        exact h.off i q hq j p (fun h' => e h'.symm) hp
      · exact bit_ge (h.lt i q hq) (by omega)
  rw [hs i q hq, hx, dotP_unit hA (by omega)]

end Go.Proofs.YtijhaeapoapgfaaGreatDoor

set_option linter.unusedVariables false
set_option linter.unusedSimpArgs false
namespace Go.Proofs.YtijhaeapoapgfaaGreatDoor
open Go.RowKit

def bl (n X : Nat) : List Bool := (List.range n).map X.testBit
theorem bl_len (n X : Nat) : (bl n X).length = n := by simp [bl]
theorem bl_at (n X : Nat) {i : Nat} (hi : i < n) : (bl n X).getD i false = X.testBit i := by simp [bl, List.getD, hi]
theorem bl_zero (n : Nat) : bl n 0 = List.replicate n false := by
  apply List.ext_getElem
  · simp [bl]
  · intro i h1 h2; simp [bl]
theorem bl_set (n X : Nat) {i : Nat} (hi : i < n) : (bl n X).set i true = bl n (putB X i true) := by
  apply List.ext_getElem
  · simp [bl]
  · intro j h1 h2
    rw [List.getElem_set]
    simp only [bl, List.getElem_map, List.getElem_range, testBit_put]

/-- What is left of a place by later places. -/
theorem swap_low {l : List Nat} {i j t : Nat} (ht : t < i) (hij : i ≤ j) : (swapAt l i j).getD t 0 = l.getD t 0 := by
  unfold swapAt
  rw [List.getD_eq_getElem?_getD, List.getElem?_set_ne (by omega), List.getElem?_set_ne (by omega), List.getD_eq_getElem?_getD]
theorem someLoop_low (n : Nat) : ∀ (m i : Nat) (s : UInt32) (l : List Nat) (t : Nat), t < i → (someLoop n m i s l).getD t 0 = l.getD t 0
  | 0, i, s, l, t, h => rfl
  | m + 1, i, s, l, t, h => by
    show (someLoop n m (i + 1) (rstep s) (swapAt l i (i + rlow s (n - i)))).getD t 0 = _
    rw [someLoop_low n m (i + 1) _ _ t (by omega), swap_low h (by omega)]
theorem someLoop_here (n m i : Nat) (s : UInt32) (l : List Nat) : (someLoop n (m + 1) i s l).getD i 0 = (swapAt l i (i + rlow s (n - i))).getD i 0 := by
  show (someLoop n m (i + 1) (rstep s) (swapAt l i (i + rlow s (n - i)))).getD i 0 = _
  exact someLoop_low n m (i + 1) _ _ i (by omega)

/-- Which are among the first k. -/
def marks (n : Nat) (F : List Nat) (k : Nat) : List Bool := (List.range n).map fun x => decide (x ∈ F.take k)
theorem marks_len (n : Nat) (F : List Nat) (k : Nat) : (marks n F k).length = n := by simp [marks]
theorem marks_zero (n : Nat) (F : List Nat) : marks n F 0 = List.replicate n false := by
  apply List.ext_getElem
  · simp [marks]
  · intro i h1 h2; simp [marks]
theorem marks_succ (n : Nat) (F : List Nat) {k : Nat} (hk : k < F.length) : (marks n F k).set (F.getD k 0) true = marks n F (k + 1) := by
  apply List.ext_getElem
  · simp [marks]
  · intro j h1 h2
    rw [List.getElem_set]
    have e : F.getD k 0 = F[k] := by rw [List.getD_eq_getElem?_getD, List.getElem?_eq_getElem hk]; rfl
    simp only [marks, List.getElem_map, List.getElem_range, List.take_add_one, List.getElem?_eq_getElem hk, Option.toList_some, List.mem_append, List.mem_singleton, e]
    split
    · next h => simp [h]
    · next h =>
      have : ¬ j = F[k] := fun e => h e.symm
      simp [this]
theorem marks_at (n : Nat) (F : List Nat) (k : Nat) {i : Nat} (hi : i < n) : (marks n F k).getD i false = decide (i ∈ F.take k) := by simp [marks, List.getD, hi]

/-- The places that are marked below i. -/
def marked (F : List Nat) (k i : Nat) : List Nat := (List.range i).filter fun x => decide (x ∈ F.take k)
theorem marked_succ (F : List Nat) (k i : Nat) : marked F k (i + 1) = marked F k i ++ (if i ∈ F.take k then [i] else []) := by
  unfold marked
  rw [List.range_succ, List.filter_append]
  congr 1
  by_cases h : i ∈ F.take k <;> simp [h]
theorem marked_all {n k : Nat} {F : List Nat} (hp : List.Perm F (List.range n)) : marked F k n = (F.take k).mergeSort := by
  have hnd : F.Nodup := hp.nodup_iff.2 List.nodup_range
  have hb : ∀ x ∈ F.take k, x < n := fun x hx => List.mem_range.1 (hp.mem_iff.1 (List.mem_of_mem_take hx))
  have h1 : (marked F k n).Pairwise (· < ·) := List.Pairwise.filter _ List.pairwise_lt_range
  have h2 := (sorted_rising (hnd.sublist (List.take_sublist k F)) hb).1
  refine List.Perm.eq_of_pairwise (le := (· < ·)) (fun a b _ _ h1 h2 => by omega) h1 h2 ?_
  rw [List.perm_ext_iff_of_nodup (h1.imp (fun {a b} h => by omega)) (h2.imp (fun {a b} h => by omega))]
  intro x
  rw [(List.mergeSort_perm _ _).mem_iff]
  unfold marked
  rw [List.mem_filter, List.mem_range, decide_eq_true_eq]
  exact ⟨fun h => h.2, fun h => ⟨hb x h, h⟩⟩

/-- Chance points at one of the sums. -/
theorem wbase_pos {n d : Nat} (h1 : 1 ≤ n) (h2 : n ≤ 80) (hd : d ≤ n) : 1 ≤ wbase n d := by
  unfold wbase
  split
  · next h =>
    have : d * (d - 1) ≤ 6400 := Nat.mul_le_mul (show d ≤ 80 by omega) (show d - 1 ≤ 80 by omega)
    have : 0 < d * (d - 1) := Nat.mul_pos (by omega) (by omega)
    rw [Nat.le_div_iff_mul_le (by omega)]; omega
  · rw [Nat.le_div_iff_mul_le (by omega)]; omega
theorem wgt_pos {n d : Nat} (h1 : 1 ≤ n) (h2 : n ≤ 80) (hd : d ≤ n) : 1 ≤ wgt n d := by
  have := wbase_pos h1 h2 hd
  unfold wgt
  split
  · exact Nat.le_trans this (Nat.le_add_right _ _)
  · split
    · exact Nat.le_trans this (Nat.le_add_right _ _)
    · exact this
theorem sumTo_pos {n : Nat} (h1 : 1 ≤ n) (h2 : n ≤ 80) : 1 ≤ sumTo n n := by
  obtain ⟨m, rfl⟩ : ∃ m, n = m + 1 := ⟨n - 1, by omega⟩
  have := wgt_pos (d := m + 1) h1 h2 (Nat.le_refl _)
  rw [sumTo]; omega
theorem aim_lt {n : Nat} (h1 : 1 ≤ n) (h2 : n ≤ 80) (x : UInt32) : aim n x < sumTo n n := by
  have hp := sumTo_pos h1 h2
  have hx := x.toNat_lt
  unfold aim
  rw [Nat.div_lt_iff_lt_mul (by omega), Nat.mul_comm]
  exact Nat.mul_lt_mul_of_pos_left (by omega) hp
theorem cnt_first {p : Nat → Bool} {n m : Nat} (hm : m < n) (h1 : ∀ t, t < m → p t = true) (h2 : ∀ t, m ≤ t → t < n → p t = false) : cnt p n = m := by
  have hf : cnt p m = m := by
    clear hm h2
    induction m with
    | zero => rfl
    | succ m ih => rw [cnt_succ, ih (fun i hi => h1 i (by omega)), h1 m (by omega)]; simp
  rw [show n = m + (n - m) from by omega, cnt_add, hf, cnt_none (n := n - m) (fun i hi => h2 (m + i) (by omega) (by omega)), Nat.add_zero]
/-- The first sum beyond what chance points at. -/
theorem degree_at {n i : Nat} {x : UInt32} (hi : i < n) (h1 : ∀ t, t < i → ¬ aim n x < sumTo n (t + 1)) (h2 : aim n x < sumTo n (i + 1)) : degree n x = i + 1 := by
  unfold degree
  rw [cnt_first (m := i) hi (fun t ht => by simpa using h1 t ht) (fun t ht htn => ?_), Nat.add_comm]
  have := sumTo_mono n (show i + 1 ≤ t + 1 by omega)
  simp; omega

end Go.Proofs.YtijhaeapoapgfaaGreatDoor

set_option linter.unusedVariables false
namespace Go.Proofs.YtijhaeapoapgfaaGreatDoor
open Go.RowKit

theorem Blk.put6 {w : World} {p : Nat} {t : TypeId} {a0 b0 c0 d0 e0 f0 : Value} (h : Blk w p t [a0, b0, c0, d0, e0, f0]) (a b c d e f : Value) :
    Blk ((((((w.setCell ⟨p, 0, none⟩ a).setCell ⟨p, 1, none⟩ b).setCell ⟨p, 2, none⟩ c).setCell ⟨p, 3, none⟩ d).setCell ⟨p, 4, none⟩ e).setCell ⟨p, 5, none⟩ f) p t [a, b, c, d, e, f] := (((((h.set 0 a).set 1 b).set 2 c).set 3 d).set 4 e).set 5 f
theorem Keeps.put6 {S : List Nat} {w' w : World} {p : Nat} (k : Keeps S w' w) (hp : p ∈ S ∨ w'.heap.size ≤ p) (a b c d e f : Value) :
    Keeps S w' ((((((w.setCell ⟨p, 0, none⟩ a).setCell ⟨p, 1, none⟩ b).setCell ⟨p, 2, none⟩ c).setCell ⟨p, 3, none⟩ d).setCell ⟨p, 4, none⟩ e).setCell ⟨p, 5, none⟩ f) := (((((k.setCell hp _).setCell hp _).setCell hp _).setCell hp _).setCell hp _).setCell hp _

end Go.Proofs.YtijhaeapoapgfaaGreatDoor
