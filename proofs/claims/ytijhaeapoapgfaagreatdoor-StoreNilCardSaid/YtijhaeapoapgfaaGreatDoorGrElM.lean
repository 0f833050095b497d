/-
  GrElM: the texts ElM, ElS, ElD, WhM, FlashT, SecT, CellT, one behind another.
-/
import Derived.Test.YtijhaeapoapgfaaGreatDoorGrPopT
import Derived.Test.YtijhaeapoapgfaaGreatDoorGrBase
set_option linter.unusedVariables false
set_option linter.unusedSimpArgs false
namespace Go.Proofs.YtijhaeapoapgfaaGreatDoor
open Go.RowKit

/-- A row, and its data. -/
structure Rw where
  x : Nat
  d : List UInt8
def rxor (a b : Rw) : Rw := ⟨a.x ^^^ b.x, xorL a.d b.d⟩

abbrev Mtx := List (Option Rw)
def Mtx.at (M : Mtx) (i : Nat) : Option Rw := M.getD i none

/-- A row less what the first k rows say of it. -/
def redK (M : Mtx) (r : Rw) : Nat → Rw
  | 0 => r
  | k + 1 => match M.at k with
    | some q => if (redK M r k).x.testBit k then rxor (redK M r k) q else redK M r k
    | none => redK M r k
def red (M : Mtx) (r : Rw) : Rw := redK M r M.length

/-- Each row in the place of its first bit; no other row has that bit. -/
structure Ech (n size : Nat) (M : Mtx) : Prop where
  l : M.length = n
  lt : ∀ i q, M.at i = some q → q.x < 2 ^ n
  d : ∀ i q, M.at i = some q → q.d.length = size
  piv : ∀ i q, M.at i = some q → q.x.testBit i = true
  low : ∀ i q, M.at i = some q → ∀ j, j < i → q.x.testBit j = false
  off : ∀ i q, M.at i = some q → ∀ j p, j ≠ i → M.at j = some p → q.x.testBit j = false

theorem Mtx.at_lt {M : Mtx} {i : Nat} {q : Rw} (h : M.at i = some q) : i < M.length := by
  unfold Mtx.at at h
  rcases Nat.lt_or_ge i M.length with h' | h'
  · exact h'
  · rw [List.getD_eq_getElem?_getD, List.getElem?_eq_none h'] at h; cases h

theorem redK_len {n size : Nat} {M : Mtx} (h : Ech n size M) {r : Rw} (hr : r.x < 2 ^ n) (hd : r.d.length = size) : ∀ k, (redK M r k).x < 2 ^ n ∧ (redK M r k).d.length = size
  | 0 => ⟨hr, hd⟩
  | k + 1 => by
    have ih := redK_len h hr hd k
    unfold redK
    split
    · next q hq =>
      split
      · exact ⟨xor_lt ih.1 (h.lt k q hq), xorL_len ih.2 (h.d k q hq)⟩
      · exact ih
    · exact ih
/-- Behind the first k rows their places are clear. -/
theorem redK_clear {n size : Nat} {M : Mtx} (h : Ech n size M) (r : Rw) : ∀ k i p, i < k → M.at i = some p → (redK M r k).x.testBit i = false
  | 0, i, _, hi, _ => by omega
  | k + 1, i, p, hi, hp => by
    unfold redK
    by_cases hik : i = k
    · subst hik
      rw [hp]
      simp only
      split
      · next hb => show ((redK M r i).x ^^^ p.x).testBit i = false; rw [Nat.testBit_xor, hb, h.piv i p hp]; rfl
      · next hb => simpa using hb
    · have ih := redK_clear h r k i p (by omega) hp
      split
      · next q hq =>
        split
        · show ((redK M r k).x ^^^ q.x).testBit i = false
          rw [Nat.testBit_xor, ih, h.off k q hq i p hik hp]; rfl
        · exact ih
      · exact ih
theorem red_clear {n size : Nat} {M : Mtx} (h : Ech n size M) (r : Rw) {i : Nat} {p : Rw} (hp : M.at i = some p) : (red M r).x.testBit i = false :=
  redK_clear h r _ i p (Mtx.at_lt hp) hp
/-- A place that no row has stays as it was. -/
theorem red_len {n size : Nat} {M : Mtx} (h : Ech n size M) {r : Rw} (hr : r.x < 2 ^ n) (hd : r.d.length = size) : (red M r).x < 2 ^ n ∧ (red M r).d.length = size := redK_len h hr hd _

/-- The rows, a new one taken off where its first bit is. -/
def addTo (M : Mtx) (at_ : Nat) (r : Rw) (k : Nat) : Mtx := (List.range M.length).map fun i => if i < k then (match M.at i with | some q => if q.x.testBit at_ then some (rxor q r) else some q | none => none) else M.at i
def madd (M : Mtx) (at_ : Nat) (r : Rw) : Mtx := (addTo M at_ r M.length).set at_ (some r)

theorem addTo_len (M : Mtx) (at_ : Nat) (r : Rw) (k : Nat) : (addTo M at_ r k).length = M.length := by simp [addTo]
theorem addTo_at (M : Mtx) (at_ : Nat) (r : Rw) (k i : Nat) (hi : i < M.length) : (addTo M at_ r k).at i = if i < k then (match M.at i with | some q => if q.x.testBit at_ then some (rxor q r) else some q | none => none) else M.at i := by
  simp [addTo, Mtx.at, List.getD, hi]
theorem addTo_zero (M : Mtx) (at_ : Nat) (r : Rw) : addTo M at_ r 0 = M := by
  apply List.ext_getElem
  · simp [addTo]
  · intro i h1 h2
    simp [addTo, Mtx.at, List.getD, h2]
theorem madd_len (M : Mtx) (at_ : Nat) (r : Rw) : (madd M at_ r).length = M.length := by simp [madd, addTo]
theorem madd_at (M : Mtx) (at_ : Nat) (r : Rw) {i : Nat} (hi : i < M.length) (ha : at_ < M.length) : (madd M at_ r).at i = if i = at_ then some r else (match M.at i with | some q => if q.x.testBit at_ then some (rxor q r) else some q | none => none) := by
  have h := addTo_at M at_ r M.length i hi
  rw [if_pos hi] at h
  unfold madd Mtx.at
  rw [List.getD_eq_getElem?_getD, List.getElem?_set]
  by_cases e : at_ = i
  · subst e
    simp [addTo_len, ha]
  · rw [if_neg e, if_neg (fun h => e h.symm)]
    unfold Mtx.at at h
    rw [← h, List.getD_eq_getElem?_getD]

/-- What a new row leaves is in order again. -/
theorem madd_ech {n size : Nat} {M : Mtx} (h : Ech n size M) {r : Rw} {a : Nat} (hr : r.x < 2 ^ n) (hd : r.d.length = size) (ha : a < n) (h1 : r.x.testBit a = true) (h2 : ∀ j, j < a → r.x.testBit j = false) (h3 : ∀ i p, M.at i = some p → r.x.testBit i = false) : Ech n size (madd M a r) := by
  have hl := h.l
  have hna : M.at a = none := by
    cases e : M.at a with
    | none => rfl
    | some p => rw [h3 a p e] at h1; cases h1
  have key : ∀ i q, (madd M a r).at i = some q → (i = a ∧ q = r) ∨ (i ≠ a ∧ ∃ p, M.at i = some p ∧ ((p.x.testBit a = true ∧ q = rxor p r) ∨ (p.x.testBit a = false ∧ q = p))) := by
    intro i q hq
    have hi := Mtx.at_lt hq
    rw [madd_len] at hi
    rw [madd_at M a r hi (by omega)] at hq
    by_cases e : i = a
    · rw [if_pos e] at hq; exact .inl ⟨e, (Option.some.inj hq).symm⟩
    · rw [if_neg e] at hq
      refine .inr ⟨e, ?_⟩
      cases e2 : M.at i with
      | none => rw [e2] at hq; cases hq
      | some p =>
        rw [e2] at hq
        refine ⟨p, rfl, ?_⟩
        simp only at hq
        split at hq
        · next hb => exact .inl ⟨hb, (Option.some.inj hq).symm⟩
        · next hb => exact .inr ⟨by simpa using hb, (Option.some.inj hq).symm⟩
  have some_of : ∀ i, (∃ p, M.at i = some p) ∨ i = a ∨ ∀ q, (madd M a r).at i ≠ some q := by
    intro i
    by_cases e : i = a
    · exact .inr (.inl e)
    · cases e2 : M.at i with
      | some p => exact .inl ⟨p, rfl⟩
      | none => exact .inr (.inr (fun q hq => by
          rcases key i q hq with ⟨h', _⟩ | ⟨_, p, hp, _⟩
          · exact e h'
          · rw [e2] at hp; cases hp))
  refine ⟨by rw [madd_len, hl], fun i q hq => ?_, fun i q hq => ?_, fun i q hq => ?_, fun i q hq j hj => ?_, fun i q hq j p' hji hp' => ?_⟩
  · rcases key i q hq with ⟨_, rfl⟩ | ⟨_, p, hp, ⟨_, rfl⟩ | ⟨_, rfl⟩⟩
    · exact hr
    · exact xor_lt (h.lt i p hp) hr
    · exact h.lt i _ hp
  · rcases key i q hq with ⟨_, rfl⟩ | ⟨_, p, hp, ⟨_, rfl⟩ | ⟨_, rfl⟩⟩
    · exact hd
    · exact xorL_len (h.d i p hp) hd
    · exact h.d i _ hp
  · rcases key i q hq with ⟨rfl, rfl⟩ | ⟨_, p, hp, ⟨_, rfl⟩ | ⟨_, rfl⟩⟩
    · exact h1
    · show (p.x ^^^ r.x).testBit i = true
      rw [Nat.testBit_xor, h.piv i p hp, h3 i p hp]; rfl
    · exact h.piv i _ hp
  · rcases key i q hq with ⟨rfl, rfl⟩ | ⟨hia, p, hp, ⟨hb, rfl⟩ | ⟨_, rfl⟩⟩
    · exact h2 j hj
    · show (p.x ^^^ r.x).testBit j = false
      have hai : i < a := by
        rcases Nat.lt_or_ge a i with h' | h'
        · rw [h.low i p hp a h'] at hb; cases hb
        · omega
      rw [Nat.testBit_xor, h.low i p hp j hj, h2 j (by omega)]; rfl
    · exact h.low i _ hp j hj
  · by_cases hja : j = a
    · subst hja
      rcases key i q hq with ⟨e, _⟩ | ⟨_, p, hp, ⟨hb, rfl⟩ | ⟨hb, rfl⟩⟩
      · exact absurd e.symm hji
      · show (p.x ^^^ r.x).testBit j = false
        rw [Nat.testBit_xor, hb, h1]; rfl
      · exact hb
    · obtain ⟨pj, hpj⟩ : ∃ p, M.at j = some p := by
        rcases some_of j with h' | h' | h'
        · exact h'
        · exact absurd h' hja
        · exact absurd hp' (h' p')
      rcases key i q hq with ⟨rfl, rfl⟩ | ⟨_, p, hp, ⟨_, rfl⟩ | ⟨_, rfl⟩⟩
      · exact h3 j pj hpj
      · show (p.x ^^^ r.x).testBit j = false
        rw [Nat.testBit_xor, h.off i p hp j pj hji hpj, h3 j pj hpj]; rfl
      · exact h.off i _ hp j pj hji hpj

end Go.Proofs.YtijhaeapoapgfaaGreatDoor

set_option linter.unusedVariables false
set_option linter.unusedSimpArgs false
namespace Go.Proofs.YtijhaeapoapgfaaGreatDoor
open Go.RowKit

/-- The bits of a row less what the first k rows say of it. -/
def rdx (M : Mtx) (x : Nat) : Nat → Nat
  | 0 => x
  | k + 1 => match M.at k with
    | some q => if (rdx M x k).testBit k then rdx M x k ^^^ q.x else rdx M x k
    | none => rdx M x k
theorem redK_x (M : Mtx) (r : Rw) : ∀ k, (redK M r k).x = rdx M r.x k
  | 0 => rfl
  | k + 1 => by
    unfold redK rdx
    have ih := redK_x M r k
    cases M.at k with
    | none => exact ih
    | some q =>
      simp only
      rw [ih]
      split
      · show (redK M r k).x ^^^ q.x = _; rw [ih]
      · exact ih
/-- What the rows say all of. -/
def inS (M : Mtx) (x : Nat) : Prop := rdx M x M.length = 0
theorem red_x (M : Mtx) (r : Rw) : (red M r).x = rdx M r.x M.length := redK_x M r _

theorem rdx_xor (M : Mtx) (x y : Nat) : ∀ k, rdx M (x ^^^ y) k = rdx M x k ^^^ rdx M y k
  | 0 => rfl
  | k + 1 => by
    unfold rdx
    rw [rdx_xor M x y k]
    cases M.at k with
    | none => rfl
    | some q =>
      simp only
      rw [Nat.testBit_xor]
      cases (rdx M x k).testBit k <;> cases (rdx M y k).testBit k <;> simp only [Bool.xor_false, Bool.xor_true, Bool.not_true, Bool.not_false, if_true, if_false, Bool.false_eq_true, Bool.false_xor, Bool.true_xor]
      · rw [Nat.xor_assoc]
      · rw [Nat.xor_assoc, Nat.xor_assoc, Nat.xor_comm q.x]
      · rw [Nat.xor_assoc, ← Nat.xor_assoc q.x, Nat.xor_comm q.x, Nat.xor_assoc, Nat.xor_self, Nat.xor_zero]
theorem inS_xor {M : Mtx} {x y : Nat} (hx : inS M x) (hy : inS M y) : inS M (x ^^^ y) := by unfold inS; rw [rdx_xor, hx, hy]; rfl
theorem rdx_zero (M : Mtx) : ∀ k, rdx M 0 k = 0
  | 0 => rfl
  | k + 1 => by
    unfold rdx
    rw [rdx_zero M k]
    split <;> simp
theorem inS_zero (M : Mtx) : inS M 0 := rdx_zero M _

/-- What is taken off a row lies in whatever holds all rows. -/
theorem rdx_off {M : Mtx} {T : Nat → Prop} (h0 : T 0) (hx : ∀ a b, T a → T b → T (a ^^^ b)) (hr : ∀ i q, M.at i = some q → T q.x) (x : Nat) : ∀ k, T (x ^^^ rdx M x k)
  | 0 => by show T (x ^^^ x); rw [Nat.xor_self]; exact h0
  | k + 1 => by
    have ih := rdx_off h0 hx hr x k
    unfold rdx
    split
    · next q hq =>
      split
      · rw [← Nat.xor_assoc]; exact hx _ _ ih (hr k q hq)
      · exact ih
    · exact ih
theorem inS_sub {M : Mtx} {T : Nat → Prop} (h0 : T 0) (hx : ∀ a b, T a → T b → T (a ^^^ b)) (hr : ∀ i q, M.at i = some q → T q.x) {x : Nat} (h : inS M x) : T x := by
  have := rdx_off h0 hx hr x M.length
  rw [h, Nat.xor_zero] at this
  exact this

/-- Each row is said. -/
theorem row_in {n size : Nat} {M : Mtx} (h : Ech n size M) {i : Nat} {q : Rw} (hq : M.at i = some q) : inS M q.x := by
  have hi := Mtx.at_lt hq
  have h1 : ∀ k, k ≤ i → rdx M q.x k = q.x := by
    intro k
    induction k with
    | zero => intro _; rfl
    | succ k ih =>
      intro hk
      unfold rdx
      rw [ih (by omega)]
      split
      · next p hp => rw [h.off i q hq k p (by omega) hp]; rfl
      · rfl
  have h2 : rdx M q.x (i + 1) = 0 := by
    unfold rdx
    rw [h1 i (Nat.le_refl _), hq]
    simp only
    rw [h.piv i q hq, if_pos rfl, Nat.xor_self]
  have h3 : ∀ k, rdx M q.x (i + 1 + k) = 0 := by
    intro k
    induction k with
    | zero => exact h2
    | succ k ih =>
      rw [← Nat.add_assoc]
      unfold rdx
      rw [ih]
      split <;> simp
  have := h3 (M.length - (i + 1))
  rw [show i + 1 + (M.length - (i + 1)) = M.length from by omega] at this
  exact this

/-- A bit that no row has, and that is a row's first, stays. -/
theorem rdx_keep {n size : Nat} {M : Mtx} (h : Ech n size M) {x i : Nat} (hx : x.testBit i = true) (hl : ∀ j, j < i → x.testBit j = false) (hi : M.at i = none) : ∀ k, (rdx M x k).testBit i = true ∧ ∀ j, j < i → (rdx M x k).testBit j = false
  | 0 => ⟨hx, hl⟩
  | k + 1 => by
    have ih := rdx_keep h hx hl hi k
    unfold rdx
    split
    · next q hq =>
      split
      · next hb =>
        have hik : i < k := by
          rcases Nat.lt_trichotomy k i with h' | h' | h'
          · rw [ih.2 k h'] at hb; cases hb
          · subst h'; rw [hi] at hq; cases hq
          · exact h'
        refine ⟨?_, fun j hj => ?_⟩
        · rw [Nat.testBit_xor, ih.1, h.low k q hq i hik]; rfl
        · rw [Nat.testBit_xor, ih.2 j hj, h.low k q hq j (by omega)]; rfl
      · exact ih
    · exact ih
/-- A row is in a place just if something that is said has its first bit there. -/
theorem pivot_of {n size : Nat} {M : Mtx} (h : Ech n size M) {x i : Nat} (hx : x.testBit i = true) (hl : ∀ j, j < i → x.testBit j = false) (hs : inS M x) : ∃ q, M.at i = some q := by
  cases e : M.at i with
  | some q => exact ⟨q, rfl⟩
  | none =>
    have := (rdx_keep h hx hl e M.length).1
    rw [hs, Nat.zero_testBit] at this
    cases this

/-- The same is said: the same places have rows. -/
theorem pivots_same {n size size' : Nat} {M M' : Mtx} (h : Ech n size M) (h' : Ech n size' M') (hs : ∀ x, inS M x → inS M' x) {i : Nat} {q : Rw} (hq : M.at i = some q) : ∃ q', M'.at i = some q' :=
  pivot_of h' (h.piv i q hq) (h.low i q hq) (hs _ (row_in h hq))

/-- Behind a new row all that was said is said, and the row. -/
theorem madd_in {n size : Nat} {M : Mtx} (h : Ech n size M) {r : Rw} {a : Nat} (h' : Ech n size (madd M a r)) (ha : a < n) (hn : M.at a = none) : inS (madd M a r) r.x ∧ ∀ x, inS M x → inS (madd M a r) x := by
  have hl := h.l
  have hr : (madd M a r).at a = some r := by rw [madd_at M a r (by omega) (by omega), if_pos rfl]
  have h1 := row_in h' hr
  refine ⟨h1, fun x hx => inS_sub (T := inS (madd M a r)) (inS_zero _) (fun _ _ => inS_xor) (fun i q hq => ?_) hx⟩
  have hi := Mtx.at_lt hq
  by_cases e : i = a
  · subst e; rw [hn] at hq; cases hq
  · have h2 := madd_at M a r hi (by omega)
    rw [if_neg e, hq] at h2
    simp only at h2
    split at h2
    · have h3 := row_in h' h2
      have h4 := inS_xor h3 h1
      show inS (madd M a r) q.x
      have : (rxor q r).x ^^^ r.x = q.x := by show (q.x ^^^ r.x) ^^^ r.x = q.x; rw [Nat.xor_assoc, Nat.xor_self, Nat.xor_zero]
      rwa [this] at h4
    · exact row_in h' h2

end Go.Proofs.YtijhaeapoapgfaaGreatDoor

set_option linter.unusedVariables false
set_option linter.unusedSimpArgs false
namespace Go.Proofs.YtijhaeapoapgfaaGreatDoor
open Go.RowKit

def rank (M : Mtx) : Nat := M.countP Option.isSome
theorem rank_le (M : Mtx) : rank M ≤ M.length := List.countP_le_length
theorem countP_set_some {M : Mtx} {a : Nat} {r : Rw} (ha : a < M.length) (hn : Mtx.at M a = none) : (List.set M a (some r)).countP Option.isSome = M.countP Option.isSome + 1 := by
  induction M generalizing a with
  | nil => simp at ha
  | cons x M ih =>
    cases a with
    | zero =>
      have hx : x = none := by simpa [Mtx.at, List.getD] using hn
      subst hx
      simp [List.countP_cons]
    | succ a =>
      have h2 : Mtx.at M a = none := by simpa [Mtx.at, List.getD] using hn
      rw [List.set_cons_succ, List.countP_cons, List.countP_cons, ih (by simpa using ha) h2]
      omega
theorem addTo_rank (M : Mtx) (a : Nat) (r : Rw) (k : Nat) : rank (addTo M a r k) = rank M := by
  have h : (addTo M a r k).map Option.isSome = M.map Option.isSome := by
    apply List.ext_getElem
    · simp [addTo]
    · intro i h1 h2
      have hi : i < M.length := by simpa using h2
      have e : M.at i = M[i] := by simp [Mtx.at, List.getD, hi]
      simp only [addTo, List.getElem_map, List.getElem_range, e]
      split
      · cases M[i] with
        | none => rfl
        | some q => simp only; split <;> rfl
      · rfl
  have e : ∀ N : Mtx, rank N = (N.map Option.isSome).countP id := fun N => by unfold rank; rw [List.countP_map]; rfl
  rw [e, e, h]
theorem madd_rank {M : Mtx} {a : Nat} {r : Rw} (ha : a < M.length) (hn : M.at a = none) : rank (madd M a r) = rank M + 1 := by
  unfold madd
  have h2 : (addTo M a r M.length).at a = none := by rw [addTo_at M a r M.length a ha, if_pos ha, hn]
  unfold rank
  rw [countP_set_some (by rw [addTo_len]; exact ha) h2]
  have := addTo_rank M a r M.length
  unfold rank at this
  rw [this]
theorem full_at {M : Mtx} (h : rank M = M.length) {i : Nat} (hi : i < M.length) : ∃ q, M.at i = some q := by
  have := List.countP_eq_length.1 h M[i] (List.getElem_mem hi)
  have e : M.at i = M[i] := by simp [Mtx.at, List.getD, hi]
  rw [e]
  exact Option.isSome_iff_exists.1 this
theorem rank_full {M : Mtx} (h : ∀ i, i < M.length → ∃ q, M.at i = some q) : rank M = M.length := by
  refine List.countP_eq_length.2 (fun o ho => ?_)
  obtain ⟨i, hi, rfl⟩ := List.getElem_of_mem ho
  obtain ⟨q, hq⟩ := h i hi
  have e : M.at i = M[i] := by simp [Mtx.at, List.getD, hi]
  rw [← e, hq]; rfl
/-- All unit rows are said: it is full. -/
theorem full_of_units {n size : Nat} {M : Mtx} (h : Ech n size M) (hu : ∀ i, i < n → inS M (2 ^ i)) : rank M = n := by
  rw [rank_full (fun i hi => ?_), h.l]
  refine pivot_of h (x := 2 ^ i) (i := i) (by rw [Nat.testBit_two_pow]; simp) (fun j hj => ?_) (hu i (by have := h.l; omega))
  rw [Nat.testBit_two_pow]; simp; omega

/-- The sum of those pieces that a row has. -/
def dotP (z : Nat) (A : List (List UInt8)) (x : Nat) : List UInt8 := psum x.testBit z A A.length
theorem psum_xor {z : Nat} {A : List (List UInt8)} (hA : ∀ x ∈ A, x.length = z) (f g : Nat → Bool) : ∀ k, k ≤ A.length → psum (fun i => (f i).xor (g i)) z A k = xorL (psum f z A k) (psum g z A k)
  | 0, _ => (xorL_zz z).symm
  | k + 1, hk => by
    have ih := psum_xor hA f g k (by omega)
    have lf := psum_len (f := f) hA k (by omega)
    have lg := psum_len (f := g) hA k (by omega)
    have la := getD_len hA (i := k) (by omega)
    unfold psum
    rw [ih]
    generalize A.getD k [] = u0 at *
    have hz : xorL u0 u0 = zer z := by
      apply List.ext_getElem
      · simp [xorL, zer, la]
      · intro i h1 h2; simp [xorL, zer]
    have hzr : ∀ u : List UInt8, u.length = z → xorL u (zer z) = u := fun u hu => by
      apply List.ext_getElem
      · simp [xorL, zer, hu]
      · intro i h1 h2; simp [xorL, zer]
    cases f k <;> cases g k <;> simp only [Bool.xor_false, Bool.xor_true, Bool.false_xor, Bool.true_xor, Bool.not_true, Bool.not_false, if_true, if_false, Bool.false_eq_true]
    · have := xorL_four lf lg (zer_len z) la
      rw [hzr _ lf] at this
      rw [← this]
      congr 1
      apply List.ext_getElem
      · simp [xorL, zer, la]
      · intro i h1 h2; simp [xorL, zer]
    · have := xorL_four lf lg la (zer_len z)
      rw [hzr _ lg, hzr _ la] at this
      exact this
    · have := xorL_four lf lg la la
      rw [hz, hzr _ (xorL_len lf lg)] at this
      exact this
theorem dotP_xor {z : Nat} {A : List (List UInt8)} (hA : ∀ x ∈ A, x.length = z) (x y : Nat) : dotP z A (x ^^^ y) = xorL (dotP z A x) (dotP z A y) := by
  unfold dotP
  rw [← psum_xor hA _ _ _ (Nat.le_refl _)]
  exact psum_congr _ (fun i _ => by rw [Nat.testBit_xor])
theorem dotP_len {z : Nat} {A : List (List UInt8)} (hA : ∀ x ∈ A, x.length = z) (x : Nat) : (dotP z A x).length = z := psum_len hA _ (Nat.le_refl _)
theorem dotP_unit {z : Nat} {A : List (List UInt8)} (hA : ∀ x ∈ A, x.length = z) {i : Nat} (hi : i < A.length) : dotP z A (2 ^ i) = A.getD i [] := by
  have h1 : ∀ k, k ≤ i → psum (2 ^ i).testBit z A k = zer z := by
    intro k
    induction k with
    | zero => intro _; rfl
    | succ k ih =>
      intro hk
      unfold psum
      rw [ih (by omega), Nat.testBit_two_pow, if_neg (by simp; omega)]
  have la := getD_len hA hi
  have h2 : psum (2 ^ i).testBit z A (i + 1) = A.getD i [] := by
    unfold psum
    rw [h1 i (Nat.le_refl _), Nat.testBit_two_pow, if_pos (by simp)]
    generalize A.getD i [] = u0 at *
    apply List.ext_getElem
    · simp [xorL, zer, la]
    · intro j h1 h2; simp [xorL, zer]
  have h3 : ∀ k, i + 1 + k ≤ A.length → psum (2 ^ i).testBit z A (i + 1 + k) = A.getD i [] := by
    intro k
    induction k with
    | zero => intro _; exact h2
    | succ k ih =>
      intro hk
      rw [← Nat.add_assoc]
      unfold psum
      rw [ih (by omega), Nat.testBit_two_pow, if_neg (by simp; omega)]
  have := h3 (A.length - (i + 1)) (by omega)
  rw [show i + 1 + (A.length - (i + 1)) = A.length from by omega] at this
  exact this

/-- Each row's data is the sum of its pieces. -/
def Snd12 (z : Nat) (A : List (List UInt8)) (M : Mtx) : Prop := ∀ i q, M.at i = some q → q.d = dotP z A q.x
theorem redK_snd {z : Nat} {A : List (List UInt8)} {M : Mtx} (hA : ∀ x ∈ A, x.length = z) (h : Snd12 z A M) {r : Rw} (hr : r.d = dotP z A r.x) : ∀ k, (redK M r k).d = dotP z A (redK M r k).x
  | 0 => hr
  | k + 1 => by
    have ih := redK_snd hA h hr k
    unfold redK
    split
    · next q hq =>
      split
      · show xorL (redK M r k).d q.d = dotP z A ((redK M r k).x ^^^ q.x)
        rw [dotP_xor hA, ih, h k q hq]
      · exact ih
    · exact ih
theorem madd_snd {z : Nat} {A : List (List UInt8)} {M : Mtx} (hA : ∀ x ∈ A, x.length = z) (h : Snd12 z A M) {r : Rw} (hr : r.d = dotP z A r.x) {a : Nat} (ha : a < M.length) : Snd12 z A (madd M a r) := by
  intro i q hq
  have hi := Mtx.at_lt hq
  rw [madd_len] at hi
  rw [madd_at M a r hi ha] at hq
  by_cases e : i = a
  · rw [if_pos e] at hq
    obtain rfl := Option.some.inj hq
    exact hr
  · rw [if_neg e] at hq
    cases e2 : M.at i with
    | none => rw [e2] at hq; cases hq
    | some p =>
      rw [e2] at hq
      simp only at hq
      split at hq
      · obtain rfl := Option.some.inj hq
        show xorL p.d r.d = dotP z A (p.x ^^^ r.x)
        rw [dotP_xor hA, ← h i p e2, ← hr]
      · obtain rfl := Option.some.inj hq
        exact h i p e2
/-- A full matrix tells each piece. -/
theorem full_tells {n z : Nat} {A : List (List UInt8)} {M : Mtx} (hA : ∀ x ∈ A, x.length = z) (hl : A.length = n) (h : Ech n z M) (hs : Snd12 z A M) (hf : rank M = n) {i : Nat} {q : Rw} (hq : M.at i = some q) : q.d = A.getD i [] := by
  have hi := Mtx.at_lt hq
  have hlM := h.l
  have hx : q.x = 2 ^ i := by
    apply Nat.eq_of_testBit_eq
    intro j
    rw [Nat.testBit_two_pow]
    by_cases e : i = j
    · subst e; rw [h.piv i q hq]; simp
    · have hd : decide (i = j) = false := by simp [e]
      rw [hd]
      by_cases hj : j < n
      · obtain ⟨p, hp⟩ := full_at (by rw [hf, hlM]) (i := j) (by omega)
        exact h.off i q hq j p (fun h' => e h'.symm) hp
      · exact bit_ge (h.lt i q hq) (by omega)
  rw [hs i q hq, hx, dotP_unit hA (by omega)]

end Go.Proofs.YtijhaeapoapgfaaGreatDoor

namespace Go.Proofs.YtijhaeapoapgfaaGreatDoor
open Go.RowKit

abbrev Rec := UInt32 × List UInt8

/-- What a wheel holds, beside its flash. -/
structure Whl where
  gen : UInt32
  size : Nat
  l : List Rec
  ready : Int
  next : Nat

def wide (s : Nat) : Nat := s + 13
def places (s : Nat) : Nat := 256 / wide s
def whAt (s k : Nat) : Nat := (6 + k / places s) * 256 + k % places s * wide s

theorem places_bounds {s : Nat} (h1 : 1 ≤ s) (h2 : s ≤ 16) : 8 ≤ places s ∧ places s ≤ 18 := by
  unfold places wide
  constructor
  · rw [Nat.le_div_iff_mul_le (by omega)]; omega
  · exact Nat.le_of_lt_succ ((Nat.div_lt_iff_lt_mul (by omega)).2 (by omega))

theorem places_wide {s : Nat} : places s * wide s ≤ 256 := Nat.div_mul_le_self _ _

/-- A place's record, out of its bytes. -/
def recOf (gen : UInt32) (b : List UInt8) : Option Rec :=
  if b.getD (b.length - 1) 0 ≠ 0 then none
  else match crcRight (b.take (b.length - 1)) with
  | none => none
  | some m => if num4 m = gen then some (num4 (m.drop 4), m.drop 8) else none

namespace Fla
def place (F : Fla) (s k : Nat) : List UInt8 := (F.b.drop (whAt s k)).take (wide s)

def recAt (F : Fla) (gen : UInt32) (s k : Nat) : Option Rec := if F.down then none else recOf gen (F.place s k)

/-- A sector's records, from its place i on: n places. -/
def recsAt (F : Fla) (gen : UInt32) (s k : Nat) : Nat → List Rec
  | 0 => []
  | n + 1 => F.recsAt gen s k n ++ (F.recAt gen s (k + n)).toList

def readSec (F : Fla) (gen : UInt32) (s : Nat) (st : List Rec × Int) (sector : Nat) : List Rec × Int :=
  if (F.recAt gen s (sector * places s)).isNone then st else (st.1 ++ F.recsAt gen s (sector * places s) (places s), sector)

def readTo (F : Fla) (gen : UInt32) (s : Nat) : Nat → List Rec × Int
  | 0 => ([], -1)
  | n + 1 => F.readSec gen s (F.readTo gen s n) n

/-- From n places above the first one down, as long as they are blank. -/
def trim (F : Fla) (s first : Nat) : Nat → Nat
  | 0 => 0
  | n + 1 => if F.blank (whAt s (first + n)) (wide s) then F.trim s first n else n + 1

def nextOf (F : Fla) (s : Nat) (ready : Int) : Nat := if ready < 0 then 0 else ready.toNat * places s + F.trim s (ready.toNat * places s) (places s)

def openWh (F : Fla) (gen : UInt32) (s : Nat) : Whl := ⟨gen, s, (F.readTo gen s 8).1, (F.readTo gen s 8).2, F.nextOf s (F.readTo gen s 8).2⟩

def whOut (gen id : UInt32) (d : List UInt8) : List UInt8 := crcPut (be4 gen ++ be4 id ++ d)

def enters (F : Fla) (ready : Int) (sector : Nat) : Fla × Int :=
  if (sector : Int) = ready ∨ F.blank ((6 + sector) * 256 : Nat) 256 = true then (F, 0) else F.erase (6 + sector : Nat)

/-- A record's bytes, then its mark. -/
def whPut (F : Fla) (at_ : Nat) (out : List UInt8) : Fla × Int :=
  if (F.program at_ out).2 ≠ 0 then F.program at_ out else (F.program at_ out).1.program (at_ + out.length : Nat) [0]
end Fla

namespace Whl
def room (V : Whl) : Int := 8 * places V.size - V.next

def sector (V : Whl) : Nat := V.next / places V.size

def added (V : Whl) (id : UInt32) (d : List UInt8) : Whl := { V with ready := V.sector, next := V.next + 1, l := V.l ++ [(id, d)] }

def add (F : Fla) (V : Whl) (id : UInt32) (d : List UInt8) : Fla × Whl × Int :=
  if d.length ≠ V.size then (F, V, 1)
  else if V.room = 0 then (F, V, 9)
  else if F.down then (F, V, 11)
  else if (F.enters V.ready V.sector).2 ≠ 0 then ((F.enters V.ready V.sector).1, V, (F.enters V.ready V.sector).2)
  else
    let r := (F.enters V.ready V.sector).1.whPut (whAt V.size V.next) (Fla.whOut V.gen id d)
    if r.2 ≠ 0 then (r.1, V, r.2) else (r.1, V.added id d, 0)
end Whl

end Go.Proofs.YtijhaeapoapgfaaGreatDoor

namespace Go.Proofs.YtijhaeapoapgfaaGreatDoor
open Go.RowKit

theorem wrap64_add_wrap (a b : Int) : wrap64 (wrap64 a + b) = wrap64 (a + b) := by unfold wrap64; omega
theorem wrap64_sub_wrap (a b : Int) : wrap64 (wrap64 a - b) = wrap64 (a - b) := by unfold wrap64; omega

/-- Bytes of which some are cleared by others, from a place on. -/
def andAt (b : List UInt8) : Nat → List UInt8 → List UInt8
  | _, [] => b
  | a, x :: xs => andAt (b.set a (b.getD a 0 &&& x)) (a + 1) xs

theorem andAt_len (l : List UInt8) : ∀ (b : List UInt8) (a : Nat), (andAt b a l).length = b.length := by
  induction l with
  | nil => intro b a; rfl
  | cons x xs ih => intro b a; rw [andAt, ih, List.length_set]

theorem getD_setB (b : List UInt8) (i j : Nat) (x : UInt8) : (b.set i x).getD j 0 = if i = j ∧ j < b.length then x else b.getD j 0 := by
  by_cases h : i = j
  · subst h
    by_cases hl : i < b.length
    · rw [if_pos ⟨rfl, hl⟩, List.getD, List.getElem?_set_self hl]; rfl
    · rw [if_neg (by omega), List.getD, List.getD, List.getElem?_eq_none (by rw [List.length_set]; omega), List.getElem?_eq_none (by omega)]
  · rw [if_neg (by omega), List.getD, List.getD, List.getElem?_set_ne h]

theorem andAt_getD (l : List UInt8) : ∀ (b : List UInt8) (a j : Nat), a + l.length ≤ b.length →
    (andAt b a l).getD j 0 = if a ≤ j ∧ j < a + l.length then b.getD j 0 &&& l.getD (j - a) 0 else b.getD j 0 := by
  induction l with
  | nil => intro b a j _; rw [andAt, if_neg (by simp)]
  | cons x xs ih =>
    intro b a j h
    simp only [List.length_cons] at h ⊢
    rw [andAt, ih _ _ _ (by rw [List.length_set]; omega), getD_setB]
    by_cases h1 : a = j
    · subst h1
      rw [if_neg (by omega), if_pos ⟨rfl, by omega⟩, if_pos (by omega), Nat.sub_self]
      rfl
    · by_cases h2 : a + 1 ≤ j ∧ j < a + 1 + xs.length
      · rw [if_pos h2, if_neg (by omega), if_pos (by omega), show j - a = (j - (a + 1)) + 1 from by omega, List.getD_cons_succ]
      · rw [if_neg h2, if_neg (by omega), if_neg (by omega)]

theorem andAt_nil (b : List UInt8) (a : Nat) : andAt b a [] = b := rfl

/-- A flash behind n steps that are done whole. -/
def Fla.stepped (F : Fla) (n : Nat) : Fla := { F with steps := wrap64 (F.steps + n), left := wrap64 (F.left - n) }

theorem Fla.prog_whole (l : List UInt8) : ∀ (F : Fla) (a : Nat), F.down = false → (F.fused = true → (l.length : Int) ≤ F.left) → F.left ≤ 9223372036854775807 → -9223372036854775808 ≤ F.left →
    F.steps ≤ 9223372036854775807 → -9223372036854775808 ≤ F.steps →
    F.prog a l = ({ F.stepped l.length with b := andAt F.b a l }, 0) := by
  induction l with
  | nil =>
    intro F a _ _ h1 h2 h3 h4
    rw [Fla.prog, andAt]
    obtain ⟨b, er, wear, down, fused, left, torn, steps⟩ := F
    unfold Fla.stepped
    dsimp only at *
    rw [List.length_nil, Int.natCast_zero, Int.sub_zero, Int.add_zero, IntWalk.wrap64_in _ ⟨h2, h1⟩, IntWalk.wrap64_in _ ⟨h4, h3⟩]
  | cons x xs ih =>
    intro F a hd hf h1 h2 h3 h4
    have hw : F.fused = true → ¬ wrap64 (F.left - 1) < 0 := by
      intro h
      have := hf h
      simp only [List.length_cons] at this
      rw [IntWalk.wrap64_in _ (by omega)]; omega
    have hs : F.step.down = false := by
      unfold Fla.step
      simp only [hd, Bool.false_or]
      cases hfu : F.fused
      · rfl
      · simp [hw hfu]
    have hb : ∀ n, -9223372036854775808 ≤ wrap64 n ∧ wrap64 n ≤ 9223372036854775807 := fun n => by unfold wrap64; omega
    rw [Fla.prog, if_neg (by simp [hs]), ih]
    · unfold Fla.stepped Fla.setB Fla.at_
      simp only [Fla.step, andAt, List.length_cons]
      rw [wrap64_add_wrap, wrap64_sub_wrap]
      have e1 : F.steps + 1 + (xs.length : Int) = F.steps + ((xs.length + 1 : Nat) : Int) := by omega
      have e2 : F.left - 1 - (xs.length : Int) = F.left - ((xs.length + 1 : Nat) : Int) := by omega
      rw [e1, e2]
      have e3 : (F.down || (F.fused && decide (wrap64 (F.left - 1) < 0))) = F.down := by
        have := hs; unfold Fla.step at this; simp only at this; rw [this, hd]
      rw [e3]
    · exact hs
    · intro h
      have h' : F.fused = true := h
      have := hf h'
      simp only [List.length_cons] at this
      show (xs.length : Int) ≤ wrap64 (F.left - 1)
      rw [IntWalk.wrap64_in _ (by omega)]; omega
    · exact (hb _).2
    · exact (hb _).1
    · exact (hb _).2
    · exact (hb _).1

/-- A program that the fuse tears at byte n. -/
theorem Fla.prog_torn (l : List UInt8) : ∀ (F : Fla) (a n : Nat), F.down = false → F.fused = true → F.left = n → n < l.length → n < 9223372036854775807 →
    F.prog a l = ({ F with b := (andAt F.b a (l.take n)).set (a + n) ((andAt F.b a (l.take n)).getD (a + n) 0 &&& (l.getD n 0 ||| F.tornB)), steps := wrap64 (F.steps + (n + 1)), left := -1, down := true }, 11) := by
  induction l with
  | nil => intro F a n _ _ _ h; simp at h
  | cons x xs ih =>
    intro F a n hd hf hl hn hb
    cases n with
    | zero =>
      have hs : F.step.down = true := by
        unfold Fla.step
        simp only [hf, hl]
        rw [IntWalk.wrap64_in _ (by omega)]
        simp
      rw [Fla.prog, if_pos hs]
      unfold Fla.setB Fla.at_
      simp only [List.take_zero, andAt, Nat.add_zero, List.getD_cons_zero]
      unfold Fla.step at hs
      simp only at hs
      unfold Fla.step
      simp only [hs]
      rw [hl, IntWalk.wrap64_in _ (by omega)]
      simp
    | succ n =>
      have hs : F.step.down = false := by
        unfold Fla.step
        simp only [hf, hl, hd]
        rw [IntWalk.wrap64_in _ (by omega)]
        simp
      simp only [List.length_cons] at hn
      rw [Fla.prog, if_neg (by simp [hs]), ih (F.step.setB a (F.at_ a &&& x)) (a + 1) n]
      · unfold Fla.setB Fla.at_ Fla.tornB
        simp only [Fla.step, List.take_succ_cons, andAt, List.getD_cons_succ]
        rw [wrap64_add_wrap, show a + 1 + n = a + (n + 1) from by omega]
        have e1 : F.steps + 1 + ((n : Int) + 1) = F.steps + (((n + 1 : Nat) : Int) + 1) := by omega
        rw [e1]
      · exact hs
      · exact hf
      · show wrap64 (F.left - 1) = n
        rw [hl, IntWalk.wrap64_in _ (by omega)]; omega
      · omega
      · omega

end Go.Proofs.YtijhaeapoapgfaaGreatDoor

set_option linter.unusedVariables false
set_option linter.unusedSimpArgs false
namespace Go.Proofs.YtijhaeapoapgfaaGreatDoor
open Go.RowKit

theorem ext_getD {l m : List UInt8} (h : l.length = m.length) (hg : ∀ i, i < l.length → l.getD i 0 = m.getD i 0) : l = m := by
  apply List.ext_getElem h
  intro i h1 h2
  have := hg i h1
  simpa [List.getD, h1, h2] using this

def secOf (b : List UInt8) (k : Nat) : List UInt8 := (b.drop (k * 256)).take 256

theorem secOf_len {b : List UInt8} (hb : b.length = 3584) {k : Nat} (hk : k < 14) : (secOf b k).length = 256 := by
  unfold secOf; rw [List.length_take, List.length_drop, hb]; omega

theorem secOf_getD {b : List UInt8} {k i : Nat} (hi : i < 256) : (secOf b k).getD i 0 = b.getD (k * 256 + i) 0 := by
  unfold secOf; simp [List.getD, List.getElem?_take, hi, List.getElem?_drop]

theorem secOf_andAt_same {b : List UInt8} (hb : b.length = 3584) {k : Nat} (hk : k < 14) (o : Nat) (l : List UInt8) (h : o + l.length ≤ 256) :
    secOf (andAt b (k * 256 + o) l) k = andAt (secOf b k) o l := by
  apply ext_getD
  · rw [secOf_len (by rw [andAt_len, hb]) hk, andAt_len, secOf_len hb hk]
  · intro i hi
    rw [secOf_len (by rw [andAt_len, hb]) hk] at hi
    rw [secOf_getD hi, andAt_getD _ _ _ _ (by omega), andAt_getD _ _ _ _ (by rw [secOf_len hb hk]; omega), secOf_getD hi]
    by_cases hc : o ≤ i ∧ i < o + l.length
    · rw [if_pos (by omega), if_pos hc, show k * 256 + i - (k * 256 + o) = i - o from by omega]
    · rw [if_neg (by omega), if_neg hc]

theorem secOf_andAt_other {b : List UInt8} (hb : b.length = 3584) {k j : Nat} (hk : k < 14) (hj : j < 14) (hjk : j ≠ k) (o : Nat) (l : List UInt8) (h : o + l.length ≤ 256) :
    secOf (andAt b (k * 256 + o) l) j = secOf b j := by
  apply ext_getD
  · rw [secOf_len (by rw [andAt_len, hb]) hj, secOf_len hb hj]
  · intro i hi
    rw [secOf_len (by rw [andAt_len, hb]) hj] at hi
    rw [secOf_getD hi, andAt_getD _ _ _ _ (by omega), secOf_getD hi, if_neg (by omega)]

theorem secOf_set_same {b : List UInt8} (hb : b.length = 3584) {k i : Nat} (hk : k < 14) (hi : i < 256) (x : UInt8) : secOf (b.set (k * 256 + i) x) k = (secOf b k).set i x := by
  apply ext_getD
  · rw [secOf_len (by rw [List.length_set, hb]) hk, List.length_set, secOf_len hb hk]
  · intro j hj
    rw [secOf_len (by rw [List.length_set, hb]) hk] at hj
    rw [secOf_getD hj, getD_setB, getD_setB, secOf_getD hj, secOf_len hb hk, hb]
    by_cases h : i = j
    · rw [if_pos (by omega), if_pos (by omega)]
    · rw [if_neg (by omega), if_neg (by omega)]

theorem secOf_set_other {b : List UInt8} (hb : b.length = 3584) {k i j : Nat} (hj : j < 14) (hi : i < 256) (hjk : j ≠ k) (x : UInt8) : secOf (b.set (k * 256 + i) x) j = secOf b j := by
  apply ext_getD
  · rw [secOf_len (by rw [List.length_set, hb]) hj, secOf_len hb hj]
  · intro n hn
    rw [secOf_len (by rw [List.length_set, hb]) hj] at hn
    rw [secOf_getD hn, getD_setB, secOf_getD hn, if_neg (by omega)]

def fillAt (b : List UInt8) (o n : Nat) : List UInt8 := b.take o ++ List.replicate n 255 ++ b.drop (o + n)

theorem fillAt_len {b : List UInt8} {o n : Nat} (h : o + n ≤ b.length) : (fillAt b o n).length = b.length := by
  unfold fillAt; simp; omega

theorem fillAt_getD {b : List UInt8} {o n : Nat} (h : o + n ≤ b.length) (j : Nat) : (fillAt b o n).getD j 0 = if o ≤ j ∧ j < o + n then 255 else b.getD j 0 := by
  unfold fillAt
  simp only [List.getD]
  by_cases h1 : j < o
  · rw [List.append_assoc, List.getElem?_append_left (by simp; omega), List.getElem?_take, if_pos h1, if_neg (by omega)]
  · by_cases h2 : j < o + n
    · rw [List.append_assoc, List.getElem?_append_right (by simp; omega), List.getElem?_append_left (by simp; omega), if_pos (by omega)]
      simp only [List.length_take, Nat.min_eq_left (show o ≤ b.length by omega)]
      rw [List.getElem?_replicate, if_pos (by omega)]; rfl
    · rw [List.getElem?_append_right (by simp; omega), List.getElem?_drop, if_neg (by omega)]
      simp only [List.length_append, List.length_take, List.length_replicate, Nat.min_eq_left (show o ≤ b.length by omega)]
      rw [show o + n + (j - (o + n)) = j from by omega]

/-- A sector whose first n bytes are erased. -/
def worn (s : List UInt8) (n : Nat) : List UInt8 := List.replicate n 255 ++ s.drop n

theorem worn_len {s : List UInt8} {n : Nat} (h : n ≤ s.length) : (worn s n).length = s.length := by unfold worn; simp; omega

theorem worn_getD {s : List UInt8} {n : Nat} (h : n ≤ s.length) (j : Nat) : (worn s n).getD j 0 = if j < n then 255 else s.getD j 0 := by
  have := fillAt_getD (b := s) (o := 0) (n := n) (by omega) j
  unfold fillAt at this
  simp only [List.take_zero, List.nil_append, Nat.zero_add] at this
  unfold worn
  rw [this]
  by_cases hj : j < n
  · rw [if_pos (by omega), if_pos hj]
  · rw [if_neg (by omega), if_neg hj]

theorem worn_worn {s : List UInt8} {n m : Nat} (hn : n ≤ s.length) (hm : m ≤ s.length) : worn (worn s n) m = worn s (max n m) := by
  apply ext_getD
  · rw [worn_len (by rw [worn_len hn]; exact hm), worn_len hn, worn_len (by omega)]
  · intro j _
    rw [worn_getD (by rw [worn_len hn]; exact hm), worn_getD hn, worn_getD (by omega)]
    by_cases h1 : j < m
    · rw [if_pos h1, if_pos (by omega)]
    · by_cases h2 : j < n
      · rw [if_neg h1, if_pos h2, if_pos (by omega)]
      · rw [if_neg h1, if_neg h2, if_neg (by omega)]

theorem secOf_fill_same {b : List UInt8} (hb : b.length = 3584) {k n : Nat} (hk : k < 14) (hn : n ≤ 256) : secOf (fillAt b (k * 256) n) k = worn (secOf b k) n := by
  apply ext_getD
  · rw [secOf_len (by rw [fillAt_len (by omega), hb]) hk, worn_len (by rw [secOf_len hb hk]; exact hn), secOf_len hb hk]
  · intro i hi
    rw [secOf_len (by rw [fillAt_len (by omega), hb]) hk] at hi
    rw [secOf_getD hi, fillAt_getD (by omega), worn_getD (by rw [secOf_len hb hk]; exact hn), secOf_getD hi]
    by_cases h : i < n
    · rw [if_pos (by omega), if_pos h]
    · rw [if_neg (by omega), if_neg h]

theorem secOf_fill_other {b : List UInt8} (hb : b.length = 3584) {k n j : Nat} (hk : k < 14) (hj : j < 14) (hjk : j ≠ k) (hn : n ≤ 256) : secOf (fillAt b (k * 256) n) j = secOf b j := by
  apply ext_getD
  · rw [secOf_len (by rw [fillAt_len (by omega), hb]) hj, secOf_len hb hj]
  · intro i hi
    rw [secOf_len (by rw [fillAt_len (by omega), hb]) hj] at hi
    rw [secOf_getD hi, fillAt_getD (by omega), secOf_getD hi, if_neg (by omega)]

theorem worn_all {s : List UInt8} (hs : s.length = 256) : worn s 256 = List.replicate 256 255 := by
  unfold worn; rw [List.drop_of_length_le (by omega), List.append_nil]

theorem and255 (x : UInt8) : (255 : UInt8) &&& x = x := by
  apply UInt8.toNat_inj.1
  rw [UInt8.toNat_and, Nat.and_comm]
  show x.toNat &&& (2 ^ 8 - 1) = _
  rw [Nat.and_two_pow_sub_one_eq_mod]
  have := x.toNat_lt
  omega

theorem replicate_getD (n i : Nat) (h : i < n) : (List.replicate n (255 : UInt8)).getD i 0 = 255 := by
  simp [List.getD, List.getElem?_replicate, h]

/-- Bytes programmed over what is erased. -/
theorem andAt_blank {l : List UInt8} (h : l.length ≤ 256) : andAt (List.replicate 256 255) 0 l = l ++ List.replicate (256 - l.length) 255 := by
  apply ext_getD
  · rw [andAt_len, List.length_append, List.length_replicate, List.length_replicate]; omega
  · intro i hi
    rw [andAt_len, List.length_replicate] at hi
    rw [andAt_getD _ _ _ _ (by rw [List.length_replicate]; omega), replicate_getD _ _ hi]
    by_cases hl : i < l.length
    · rw [if_pos (by omega), and255, Nat.sub_zero, List.getD, List.getD, List.getElem?_append_left hl]
    · rw [if_neg (by omega), List.getD, List.getElem?_append_right (by omega), List.getElem?_replicate, if_pos (by omega)]; rfl

/-- .. from a place on, where from there on all is erased. -/
theorem andAt_tail {l m : List UInt8} (h : l.length + m.length ≤ 256) : andAt (l ++ List.replicate (256 - l.length) 255) l.length m = l ++ m ++ List.replicate (256 - l.length - m.length) 255 := by
  apply ext_getD
  · rw [andAt_len]; simp; omega
  · intro i hi
    rw [andAt_len] at hi
    simp only [List.length_append, List.length_replicate] at hi
    rw [andAt_getD _ _ _ _ (by simp; omega)]
    by_cases h1 : i < l.length
    · rw [if_neg (by omega), List.getD, List.getD, List.append_assoc, List.getElem?_append_left h1, List.getElem?_append_left h1]
    · by_cases h2 : i < l.length + m.length
      · rw [if_pos (by omega), List.getD, List.getD, List.getD, List.getElem?_append_right (by omega), List.getElem?_replicate, if_pos (by omega), List.append_assoc, List.getElem?_append_right (by omega), List.getElem?_append_left (by omega)]
        exact and255 _
      · rw [if_neg (by omega), List.getD, List.getD, List.getElem?_append_right (by omega), List.getElem?_replicate, if_pos (by omega), List.getElem?_append_right (by simp; omega), List.getElem?_replicate, if_pos (by simp; omega)]

end Go.Proofs.YtijhaeapoapgfaaGreatDoor

set_option linter.unusedVariables false
set_option linter.unusedSimpArgs false
namespace Go.Proofs.YtijhaeapoapgfaaGreatDoor
open Go.RowKit

theorem or_place (x e k : Nat) (he : e < 2 ^ k) : (x <<< k) ||| e = x * 2 ^ k + e := by
  rw [← Nat.shiftLeft_add_eq_or_of_lt he, Nat.shiftLeft_eq]

theorem be32_toNat (a b c d : UInt8) : (be32 a b c d).toNat = a.toNat * 16777216 + b.toNat * 65536 + c.toNat * 256 + d.toNat := by
  have ha := a.toNat_lt
  have hb := b.toNat_lt
  have hc := c.toNat_lt
  have hd := d.toNat_lt
  unfold be32
  rw [UInt32.toNat_or, UInt32.toNat_or, UInt32.toNat_or]
  have s (x : UInt8) (k : Nat) (hk : k = 24 ∨ k = 16 ∨ k = 8) : (x.toUInt32 <<< (UInt32.ofNat k)).toNat = x.toNat <<< k := by
    rw [UInt32.toNat_shiftLeft, UInt8.toNat_toUInt32]
    have hx := x.toNat_lt
    rcases hk with rfl | rfl | rfl
    · show x.toNat <<< 24 % 4294967296 = _
      rw [Nat.shiftLeft_eq]; omega
    · show x.toNat <<< 16 % 4294967296 = _
      rw [Nat.shiftLeft_eq]; omega
    · show x.toNat <<< 8 % 4294967296 = _
      rw [Nat.shiftLeft_eq]; omega
  have s1 : (a.toUInt32 <<< (24 : UInt32)).toNat = a.toNat <<< 24 := s a 24 (.inl rfl)
  have s2 : (b.toUInt32 <<< (16 : UInt32)).toNat = b.toNat <<< 16 := s b 16 (.inr (.inl rfl))
  have s3 : (c.toUInt32 <<< (8 : UInt32)).toNat = c.toNat <<< 8 := s c 8 (.inr (.inr rfl))
  rw [s1, s2, s3, UInt8.toNat_toUInt32]
  have e1 : a.toNat <<< 24 ||| b.toNat <<< 16 = (a.toNat * 256 + b.toNat) <<< 16 := by
    rw [Nat.shiftLeft_eq b.toNat, or_place _ _ 24 (by omega), Nat.shiftLeft_eq]; omega
  have e2 : (a.toNat * 256 + b.toNat) <<< 16 ||| c.toNat <<< 8 = ((a.toNat * 256 + b.toNat) * 256 + c.toNat) <<< 8 := by
    rw [Nat.shiftLeft_eq c.toNat, or_place _ _ 16 (by omega), Nat.shiftLeft_eq]; omega
  rw [e1, e2, or_place _ _ 8 (by omega)]
  omega

theorem be4_bytes (n : UInt32) : ((n >>> 24).toUInt8).toNat = n.toNat / 16777216 ∧ ((n >>> 16).toUInt8).toNat = n.toNat / 65536 % 256 ∧ ((n >>> 8).toUInt8).toNat = n.toNat / 256 % 256 ∧ (n.toUInt8).toNat = n.toNat % 256 := by
  have := be4_24 n; have := be4_16 n; have := be4_8 n; have := be4_0 n
  have := n.toNat_lt
  omega

theorem be32_be4 (n : UInt32) : be32 (n >>> 24).toUInt8 (n >>> 16).toUInt8 (n >>> 8).toUInt8 n.toUInt8 = n := by
  apply UInt32.toNat_inj.1
  obtain ⟨h1, h2, h3, h4⟩ := be4_bytes n
  rw [be32_toNat, h1, h2, h3, h4]
  omega

theorem cellOut_len (n : UInt32) (b : List UInt8) : (Fla.cellOut n b).length = 10 + b.length := by
  unfold Fla.cellOut; rw [crcPut_len]; simp [be4]; omega

def cellHead (n : UInt32) (b : List UInt8) : List UInt8 := be4 n ++ [UInt8.ofNat (b.length / 256), UInt8.ofNat b.length] ++ b
theorem cellOut_eq (n : UInt32) (b : List UInt8) : Fla.cellOut n b = cellHead n b ++ be4 (crcSum (cellHead n b)) := rfl

/-- A sector whose copy is n, b; the first k bytes were erased since. -/
def Headed (s : List UInt8) (n : UInt32) (b : List UInt8) (k : Nat) : Prop :=
  b.length ≤ 245 ∧ k ≤ 4 ∧ ∃ r, r.length = 245 - b.length ∧ s = worn (Fla.cellOut n b ++ 0 :: r) k

/-- A sector that says no copy, and says none either where its first bytes are erased. -/
def Dead (s : List UInt8) : Prop := s.length = 256 ∧ (cpLen s > 245 ∨ s.getD (10 + cpLen s) 0 ≠ 0)

theorem Dead.copy {s : List UInt8} (h : Dead s) : cellCopy s = none := by
  unfold cellCopy
  rcases h.2 with h | h
  · rw [if_pos h]
  · split
    · rfl
    · rfl
    
theorem getD_app_left {l m : List UInt8} {i : Nat} (h : i < l.length) : (l ++ m).getD i 0 = l.getD i 0 := by
  rw [List.getD, List.getD, List.getElem?_append_left h]

theorem out_getD {n : UInt32} {b m : List UInt8} {i : Nat} (h : i < 6) : (Fla.cellOut n b ++ m).getD i 0 = (be4 n ++ [UInt8.ofNat (b.length / 256), UInt8.ofNat b.length]).getD i 0 := by
  rw [cellOut_eq, cellHead]
  simp only [List.append_assoc]
  rw [← List.append_assoc (be4 n)]
  exact getD_app_left (by simp [be4]; omega)

theorem out_cpLen {n : UInt32} {b m : List UInt8} (hb : b.length ≤ 245) : cpLen (Fla.cellOut n b ++ m) = b.length := by
  unfold cpLen
  rw [out_getD (by omega), out_getD (by omega)]
  show (UInt8.ofNat (b.length / 256)).toNat * 256 + (UInt8.ofNat b.length).toNat = _
  rw [UInt8.toNat_ofNat', UInt8.toNat_ofNat']
  omega

theorem cpLen_worn {s : List UInt8} {k : Nat} (hk : k ≤ 4) (hs : s.length = 256) : cpLen (worn s k) = cpLen s := by
  unfold cpLen
  rw [worn_getD (by omega), worn_getD (by omega), if_neg (by omega), if_neg (by omega)]

theorem cpLen_dead {s : List UInt8} (h : s.getD 4 0 = 255) : cpLen s > 245 := by
  unfold cpLen; rw [h]; show 255 * 256 + _ > 245; omega

theorem Dead.wornTo {s : List UInt8} (h : Dead s) {k : Nat} (hk : k ≤ 256) : Dead (worn s k) := by
  refine ⟨by rw [worn_len (by rw [h.1]; exact hk), h.1], ?_⟩
  by_cases h4 : k ≤ 4
  · rw [cpLen_worn h4 h.1, worn_getD (by rw [h.1]; exact hk), if_neg (by omega)]
    exact h.2
  · left
    apply cpLen_dead
    rw [worn_getD (by rw [h.1]; exact hk), if_pos (by omega)]

theorem Headed.len {s : List UInt8} {n : UInt32} {b : List UInt8} {k : Nat} (h : Headed s n b k) : s.length = 256 := by
  obtain ⟨hb, hk, r, hr, rfl⟩ := h
  have : (Fla.cellOut n b ++ 0 :: r).length = 256 := by rw [List.length_append, cellOut_len, List.length_cons, hr]; omega
  rw [worn_len (by omega), this]

theorem Headed.wornTo {s : List UInt8} {n : UInt32} {b : List UInt8} {k : Nat} (h : Headed s n b k) {m : Nat} (hm : m ≤ 256) : (∃ j, Headed (worn s m) n b j) ∨ Dead (worn s m) := by
  have hl := h.len
  obtain ⟨hb, hk, r, hr, rfl⟩ := h
  have : (Fla.cellOut n b ++ 0 :: r).length = 256 := by rw [List.length_append, cellOut_len, List.length_cons, hr]; omega
  by_cases h4 : m ≤ 4
  · left
    exact ⟨max k m, hb, by omega, r, hr, by rw [worn_worn (by omega) (by omega)]⟩
  · right
    refine ⟨by rw [worn_len (by omega), hl], .inl (cpLen_dead ?_)⟩
    rw [worn_getD (by omega), if_pos (by omega)]

theorem Headed.copy0 {s : List UInt8} {n : UInt32} {b : List UInt8} (h : Headed s n b 0) : cellCopy s = some (n, b) := by
  obtain ⟨hb, _, r, hr, rfl⟩ := h
  have hw : worn (Fla.cellOut n b ++ 0 :: r) 0 = Fla.cellOut n b ++ 0 :: r := by unfold worn; simp
  rw [hw]
  have hn := out_cpLen (n := n) (m := 0 :: r) hb
  have ht : (Fla.cellOut n b ++ 0 :: r).take (10 + b.length) = Fla.cellOut n b := by
    rw [← cellOut_len n b]; exact List.take_left' rfl
  have hg : (Fla.cellOut n b ++ 0 :: r).getD (10 + b.length) 0 = 0 := by
    rw [List.getD, List.getElem?_append_right (by rw [cellOut_len]; omega), cellOut_len, Nat.sub_self]; rfl
  unfold cellCopy
  rw [hn, if_neg (by omega), hg, if_neg (by simp), ht]
  have hr : crcRight (Fla.cellOut n b) = some (cellHead n b) := crcRight_put _
  rw [hr, Option.map_some]
  congr 2
  · unfold num4
    rw [out_getD (by omega), out_getD (by omega), out_getD (by omega), out_getD (by omega)]
    exact be32_be4 n

theorem Headed.copyk {s : List UInt8} {n : UInt32} {b : List UInt8} {k : Nat} (h : Headed s n b k) (hk : k ≠ 0) (hn : n.toNat < 16777216) : cellCopy s = none := by
  obtain ⟨hb, hk4, r, hr, rfl⟩ := h
  have hl : (Fla.cellOut n b ++ 0 :: r).length = 256 := by rw [List.length_append, cellOut_len, List.length_cons, hr]; omega
  have hc : cpLen (worn (Fla.cellOut n b ++ 0 :: r) k) = b.length := by rw [cpLen_worn hk4 hl, out_cpLen hb]
  have hg : (worn (Fla.cellOut n b ++ 0 :: r) k).getD (10 + b.length) 0 = 0 := by
    rw [worn_getD (by omega), if_neg (by omega), List.getD, List.getElem?_append_right (by rw [cellOut_len]; omega), cellOut_len, Nat.sub_self]; rfl
  have ht : (worn (Fla.cellOut n b ++ 0 :: r) k).take (10 + b.length) = worn (Fla.cellOut n b) k := by
    apply ext_getD
    · rw [List.length_take, worn_len (by omega), worn_len (by rw [cellOut_len]; omega), cellOut_len, hl]; omega
    · intro i hi
      rw [List.length_take, worn_len (by omega), hl] at hi
      rw [List.getD, List.getElem?_take, if_pos (by omega)]
      show (worn (Fla.cellOut n b ++ 0 :: r) k).getD i 0 = _
      rw [worn_getD (by omega), worn_getD (by rw [cellOut_len]; omega), getD_app_left (by rw [cellOut_len]; omega)]
  unfold cellCopy
  rw [hc, if_neg (by omega), hg, if_neg (by simp), ht]
  have hw : worn (Fla.cellOut n b) k = worn (cellHead n b) k ++ be4 (crcSum (cellHead n b)) := by
    rw [cellOut_eq]; unfold worn
    rw [List.drop_append_of_le_length (by simp [cellHead, be4]; omega), List.append_assoc]
  have hwl : (worn (cellHead n b) k).length = (cellHead n b).length := worn_len (by simp [cellHead, be4]; omega)
  rw [hw]
  unfold crcRight
  rw [if_neg (by simp [be4])]
  have htk : ((worn (cellHead n b) k ++ be4 (crcSum (cellHead n b))).take ((worn (cellHead n b) k ++ be4 (crcSum (cellHead n b))).length - 4)) = worn (cellHead n b) k := by
    apply List.take_left'
    rw [List.length_append, be4_len]; omega
  rw [htk]
  split
  · rename_i he
    exfalso
    unfold crcPut at he
    have h1 := List.append_cancel_left he
    have h2 := be4_inj h1
    have hd : cellHead n b = be4 n ++ ([UInt8.ofNat (b.length / 256), UInt8.ofNat b.length] ++ b) := by unfold cellHead; rw [List.append_assoc]
    have hd2 : worn (cellHead n b) k = worn (be4 n) k ++ ([UInt8.ofNat (b.length / 256), UInt8.ofNat b.length] ++ b) := by
      rw [hd]; unfold worn
      rw [List.drop_append_of_le_length (by rw [be4_len]; omega), List.append_assoc]
    rw [hd2, hd] at h2
    have h3 := crcSum_heads h2
    have h0 : ((n >>> 24).toUInt8).toNat = 0 := by rw [(be4_bytes n).1]; omega
    have hne : (n >>> 24).toUInt8 ≠ 255 := by intro e; rw [e] at h0; exact absurd h0 (by decide)
    have h3' : crcFold (~~~ 0) (worn (be4 n) k) = crcFold (~~~ 0) (be4 n) := h3
    clear h3 h2 he hd hd2 htk hw hwl ht hg hc hl
    match k, hk, hk4 with
    | 1, _, _ => exact hne (heads_inj (a0 := 255) (a1 := (n >>> 16).toUInt8) (a2 := (n >>> 8).toUInt8) (a3 := n.toUInt8) h3').1.symm
    | 2, _, _ => exact hne (heads_inj (a0 := 255) (a1 := 255) (a2 := (n >>> 8).toUInt8) (a3 := n.toUInt8) h3').1.symm
    | 3, _, _ => exact hne (heads_inj (a0 := 255) (a1 := 255) (a2 := 255) (a3 := n.toUInt8) h3').1.symm
    | 4, _, _ => exact hne (heads_inj (a0 := 255) (a1 := 255) (a2 := 255) (a3 := 255) h3').1.symm
  · rfl

end Go.Proofs.YtijhaeapoapgfaaGreatDoor
