/-
  DeT: what a decoder's matrix says, and when it is full: plain. No program here.
-/
import Derived.Test.YtghgmchgbhdldaaGreatDoorDe2
import Derived.Test.YtghgmchgbhdldaaGreatDoorBk3
set_option linter.unusedVariables false
set_option linter.unusedSimpArgs false
namespace Go.Proofs.YtghgmchgbhdldaaGreatDoor
open Go.RowKit

theorem mAdd_cases {n z : Nat} {M : Mtx} (h : Ech n z M) {r : Rw} (hr : r.x < 2 ^ n) (hd : r.d.length = z) :
    ((red M r).x = 0 ∧ mAdd n M r = M) ∨ ((red M r).x ≠ 0 ∧ ∃ a, a < n ∧ M.at a = none ∧ mAdd n M r = madd M a (red M r)) := by
  by_cases e : (red M r).x = 0
  · exact .inl ⟨e, mAdd_same e⟩
  · obtain ⟨h1, h2⟩ := red_len h hr hd
    obtain ⟨a, ha, hf, hb1, hb2⟩ := firstB_some h1 e
    refine .inr ⟨e, a, ha, ?_, ?_⟩
    · cases hq : M.at a with
      | none => rfl
      | some p => rw [red_clear h r hq] at hb1; cases hb1
    · unfold mAdd; rw [if_neg e, hf, Int.toNat_natCast]
theorem mAdd_rank0 {n : Nat} {M : Mtx} {r : Rw} (e : (red M r).x = 0) : rank (mAdd n M r) = rank M := by rw [mAdd_same e]
theorem mAdd_rank1 {n z : Nat} {M : Mtx} (h : Ech n z M) {r : Rw} (hr : r.x < 2 ^ n) (hd : r.d.length = z) (e : (red M r).x ≠ 0) : rank (mAdd n M r) = rank M + 1 := by
  rcases mAdd_cases h hr hd with ⟨h0, _⟩ | ⟨_, a, ha, hn, he⟩
  · exact absurd h0 e
  · rw [he]; exact madd_rank (by rw [h.l]; exact ha) hn
theorem red_in {M : Mtx} {r : Rw} : (red M r).x = 0 ↔ inS M r.x := by rw [red_x]; exact Iff.rfl

/-- All that was said is said, and the row. -/
theorem mAdd_in {n z : Nat} {M : Mtx} (h : Ech n z M) {r : Rw} (hr : r.x < 2 ^ n) (hd : r.d.length = z) : (∀ x, inS M x → inS (mAdd n M r) x) ∧ inS (mAdd n M r) r.x := by
  have hE := mAdd_ech h hr hd
  rcases mAdd_cases h hr hd with ⟨h0, e⟩ | ⟨h0, a, ha, hn, e⟩
  · rw [e]; exact ⟨fun _ hx => hx, red_in.1 h0⟩
  · rw [e] at hE ⊢
    obtain ⟨h1, h2⟩ := madd_in h hE ha hn
    refine ⟨h2, ?_⟩
    have h3 := rdx_off (M := M) (T := inS (madd M a (red M r))) (inS_zero _) (fun _ _ => inS_xor) (fun i q hq => h2 _ (row_in h hq)) r.x M.length
    rw [← red_x] at h3
    have h4 := inS_xor h3 h1
    rwa [Nat.xor_assoc, Nat.xor_self, Nat.xor_zero] at h4
/-- Nothing more is said. -/
theorem mAdd_sub {n z : Nat} {M : Mtx} (h : Ech n z M) {r : Rw} (hr : r.x < 2 ^ n) (hd : r.d.length = z) {T : Nat → Prop} (h0 : T 0) (hx : ∀ a b, T a → T b → T (a ^^^ b)) (hM : ∀ x, inS M x → T x) (hT : T r.x) : ∀ x, inS (mAdd n M r) x → T x := by
  rcases mAdd_cases h hr hd with ⟨_, e⟩ | ⟨_, a, ha, hn, e⟩
  · rw [e]; exact hM
  · rw [e]
    intro x hs
    have hl := h.l
    have hrow : ∀ i q, M.at i = some q → T q.x := fun i q hq => hM _ (row_in h hq)
    have hq : T (red M r).x := by
      have h3 := rdx_off (M := M) (T := T) h0 hx hrow r.x M.length
      rw [← red_x] at h3
      have h4 := hx _ _ h3 hT
      rwa [Nat.xor_comm r.x, Nat.xor_assoc, Nat.xor_self, Nat.xor_zero] at h4
    refine inS_sub h0 hx (fun i q he => ?_) hs
    have hi := Mtx.at_lt he
    rw [madd_len] at hi
    rw [madd_at M a _ hi (by omega)] at he
    by_cases ei : i = a
    · rw [if_pos ei] at he
      obtain rfl := Option.some.inj he
      exact hq
    · rw [if_neg ei] at he
      cases e2 : M.at i with
      | none => rw [e2] at he; cases he
      | some p =>
        rw [e2] at he
        simp only at he
        split at he
        · obtain rfl := Option.some.inj he
          exact hx _ _ (hrow i p e2) hq
        · obtain rfl := Option.some.inj he
          exact hrow i p e2
theorem mAdd_snd {n z : Nat} {A : List (List UInt8)} {M : Mtx} (hA : ∀ x ∈ A, x.length = z) (h : Ech n z M) (hs : Snd12 z A M) {r : Rw} (hr : r.x < 2 ^ n) (hd : r.d = dotP z A r.x) : Snd12 z A (mAdd n M r) := by
  rcases mAdd_cases h hr (by rw [hd]; exact dotP_len hA _) with ⟨_, e⟩ | ⟨_, a, ha, hn, e⟩
  · rw [e]; exact hs
  · rw [e]
    refine madd_snd hA hs ?_ (by rw [h.l]; exact ha)
    exact redK_snd hA hs hd _

/-- The same is said. -/
def Same (M M' : Mtx) : Prop := ∀ x, inS M x ↔ inS M' x
theorem Same.refl (M : Mtx) : Same M M := fun _ => Iff.rfl
theorem Same.symm {M M' : Mtx} (h : Same M M') : Same M' M := fun x => (h x).symm
theorem Same.rank {n z z' : Nat} {M M' : Mtx} (hs : Same M M') (h : Ech n z M) (h' : Ech n z' M') : rank M = rank M' := by
  refine rank_congr (by rw [h.l, h'.l]) (fun i => ?_)
  cases e : M.at i with
  | some q =>
    obtain ⟨q', hq'⟩ := pivots_same h h' (fun x hx => (hs x).1 hx) e
    rw [hq']; rfl
  | none =>
    cases e' : M'.at i with
    | none => rfl
    | some q' =>
      obtain ⟨q, hq⟩ := pivots_same h' h (fun x hx => (hs x).2 hx) e'
      rw [hq] at e; cases e
theorem Same.says {M M' : Mtx} (hs : Same M M') {r r' : Rw} (e : r.x = r'.x) : decide ((red M r).x ≠ 0) = decide ((red M' r').x ≠ 0) := by
  have : (red M r).x = 0 ↔ (red M' r').x = 0 := by rw [red_in, red_in, e]; exact hs _
  by_cases h : (red M r).x = 0
  · have h' := this.1 h; simp [h, h']
  · have h' : ¬ (red M' r').x = 0 := fun h2 => h (this.2 h2)
    simp [h, h']
theorem Same.mAdd {n z z' : Nat} {M M' : Mtx} (hs : Same M M') (h : Ech n z M) (h' : Ech n z' M') {r r' : Rw} (e : r.x = r'.x) (hr : r.x < 2 ^ n) (hd : r.d.length = z) (hd' : r'.d.length = z') : Same (mAdd n M r) (mAdd n M' r') := by
  obtain ⟨a1, a2⟩ := mAdd_in h hr hd
  have hr' : r'.x < 2 ^ n := by rw [← e]; exact hr
  obtain ⟨b1, b2⟩ := mAdd_in h' hr' hd'
  exact fun x => ⟨mAdd_sub h hr hd (T := inS (_root_.Go.Proofs.YtghgmchgbhdldaaGreatDoor.mAdd n M' r')) (inS_zero _) (fun _ _ => inS_xor) (fun y hy => b1 y ((hs y).1 hy)) (by rw [e]; exact b2) x,
    mAdd_sub h' hr' hd' (T := inS (_root_.Go.Proofs.YtghgmchgbhdldaaGreatDoor.mAdd n M r)) (inS_zero _) (fun _ _ => inS_xor) (fun y hy => a1 y ((hs y).2 hy)) (by rw [← e]; exact a2) x⟩
theorem Same.mnew (n : Nat) : Same (mnew n) (mnew n) := Same.refl _

/-- The row of parity, bit by bit. -/
theorem putL_one {n a i : Nat} (ha : a < n) : (putL n 0 [a]).testBit i = decide (i = a) := by
  rw [testBit_putL, Nat.zero_testBit, Bool.false_or]
  by_cases e : i = a
  · subst e; simp [ha]
  · simp [e]
theorem parX_high (s : UInt32) {K n j : Nat} (hj : K + j < n) : ∀ k i, k ≤ i → k ≤ K → (parX s K n j k).testBit i = decide (i = K + j)
  | 0, i, _, _ => putL_one hj
  | k + 1, i, h, hk => by
    show (putB (parX s K n j k) k (parB s j k)).testBit i = _
    rw [testBit_put, if_neg (by omega)]
    exact parX_high s hj k i (by omega) (by omega)
theorem parX_bits (s : UInt32) {K n j : Nat} (hj : K + j < n) (i : Nat) : (parX s K n j K).testBit i = if i < K then parB s j i else decide (i = K + j) := by
  by_cases h : i < K
  · rw [if_pos h]; exact parX_bit s K n j K i h (Nat.le_refl _)
  · rw [if_neg h]; exact parX_high s hj K i (by omega) (Nat.le_refl _)

/-- No bit from m on. -/
def Low (m : Nat) (x : Nat) : Prop := ∀ i, m ≤ i → x.testBit i = false
theorem Low.zero (m : Nat) : Low m 0 := fun i _ => Nat.zero_testBit i
theorem Low.xor {m a b : Nat} (ha : Low m a) (hb : Low m b) : Low m (a ^^^ b) := fun i hi => by rw [Nat.testBit_xor, ha i hi, hb i hi]; rfl
theorem mnew_in {n x : Nat} (h : inS (mnew n) x) : x = 0 := by
  have : ∀ k, rdx (mnew n) x k = x := by
    intro k
    induction k with
    | zero => rfl
    | succ k ih => unfold rdx; rw [mnew_at]; exact ih
  unfold inS at h
  rw [this] at h; exact h
theorem pmx_low (s : UInt32) (K P d : Nat) : ∀ k, k ≤ P → ∀ x, inS (pmx s K P d k) x → Low (K + k) x
  | 0, _, x, hx => by rw [mnew_in hx]; exact Low.zero _
  | k + 1, hk, x, hx => by
    refine mAdd_sub (pmx_ech s K P d k) (r := ⟨parX s K (K + P) k K, zer d⟩) (parX_lt s (by omega) K (Nat.le_refl _)) (zer_len d) (T := Low (K + (k + 1))) (Low.zero _) (fun _ _ => Low.xor) (fun y hy i hi => pmx_low s K P d k (by omega) y hy i (by omega)) (fun i hi => ?_) x hx
    show (parX s K (K + P) k K).testBit i = false
    rw [parX_bits s (by omega), if_neg (by omega)]
    simp; omega
theorem pmx_new (s : UInt32) (K P d : Nat) {k : Nat} (hk : k < P) : (red (pmx s K P d k) ⟨parX s K (K + P) k K, zer d⟩).x ≠ 0 := fun h => by
  have h1 := pmx_low s K P d k (by omega) _ (red_in.1 h) (K + k) (Nat.le_refl _)
  simp only at h1
  rw [parX_bits s (by omega), if_neg (by omega)] at h1
  simp at h1
theorem pmx_rank (s : UInt32) (K P d : Nat) : ∀ k, k ≤ P → rank (pmx s K P d k) = k
  | 0, _ => mnew_rank _
  | k + 1, hk => by
    show rank (mAdd (K + P) (pmx s K P d k) ⟨parX s K (K + P) k K, zer d⟩) = k + 1
    rw [mAdd_rank1 (pmx_ech s K P d k) (parX_lt s (by omega) K (Nat.le_refl _)) (zer_len d) (pmx_new s K P d (by omega)), pmx_rank s K P d k (by omega)]
theorem pmx_same (s : UInt32) (K P d d' : Nat) : ∀ k, Same (pmx s K P d k) (pmx s K P d' k)
  | 0 => Same.refl _
  | k + 1 => (pmx_same s K P d d' k).mAdd (pmx_ech s K P d k) (pmx_ech s K P d' k) rfl (parX_lt s (by omega) K (Nat.le_refl _)) (zer_len d) (zer_len d')
theorem pmx_in (s : UInt32) (K P d : Nat) : ∀ k j, j < k → inS (pmx s K P d k) (parX s K (K + P) j K)
  | 0, _, h => by omega
  | k + 1, j, h => by
    obtain ⟨a1, a2⟩ := mAdd_in (pmx_ech s K P d k) (r := ⟨parX s K (K + P) k K, zer d⟩) (parX_lt s (by omega) K (Nat.le_refl _)) (zer_len d)
    by_cases e : j = k
    · subst e; exact a2
    · exact a1 _ (pmx_in s K P d k j (by omega))

/-- A row of parity sums to nothing. -/
theorem psum_app {f : Nat → Bool} {z : Nat} {L B : List (List UInt8)} : ∀ k, k ≤ L.length → psum f z (L ++ B) k = psum f z L k
  | 0, _ => rfl
  | k + 1, hk => by
    unfold psum
    rw [psum_app k (by omega), getD_append_left' (by omega)]
theorem xorL_self {a : List UInt8} {z : Nat} (h : a.length = z) : xorL a a = zer z := by
  apply List.ext_getElem
  · simp [xorL, zer, h]
  · intro i h1 h2; simp [xorL, zer]
theorem psum_skip {f : Nat → Bool} {z : Nat} {A : List (List UInt8)} (a : Nat) : ∀ d, (∀ i, a ≤ i → i < a + d → f i = false) → psum f z A (a + d) = psum f z A a
  | 0, _ => rfl
  | d + 1, h => by
    show (if f (a + d) then _ else _) = _
    rw [h (a + d) (by omega) (by omega)]
    simp only [Bool.false_eq_true, if_false]
    exact psum_skip a d (fun i h1 h2 => h i h1 (by omega))
theorem dotP_par (s : UInt32) {z P j : Nat} {L : List (List UInt8)} (hL : ∀ x ∈ L, x.length = z) (hj : j < P) : dotP z (ball s z L P) (parX s L.length (L.length + P) j L.length) = zer z := by
  have hb := parX_bits s (K := L.length) (n := L.length + P) (j := j) (by omega)
  unfold dotP
  rw [ball_len]
  have hlen : L.length + P = (L.length + j + 1) + (P - j - 1) := by omega
  rw [show psum (parX s L.length (L.length + P) j L.length).testBit z (ball s z L P) (L.length + P) = psum (parX s L.length (L.length + P) j L.length).testBit z (ball s z L P) ((L.length + j + 1) + (P - j - 1)) from by rw [← hlen]]
  rw [psum_skip _ _ (fun i h1 h2 => by rw [hb, if_neg (by omega)]; simp; omega)]
  show (if (parX s L.length (L.length + P) j L.length).testBit (L.length + j) then xorL (psum _ z (ball s z L P) (L.length + j)) ((ball s z L P).getD (L.length + j) []) else _) = _
  have hbj : (parX s L.length (L.length + P) j L.length).testBit (L.length + j) = true := by rw [hb, if_neg (by omega)]; simp
  rw [hbj, if_pos rfl]
  rw [psum_skip _ _ (fun i h1 h2 => by rw [hb, if_neg (by omega)]; simp; omega)]
  have h1 : psum (parX s L.length (L.length + P) j L.length).testBit z (ball s z L P) L.length = psum (parB s j) z L L.length := by
    unfold ball
    rw [psum_app _ (Nat.le_refl _)]
    exact psum_congr _ (fun i hi => by rw [hb, if_pos hi])
  have h2 : (ball s z L P).getD (L.length + j) [] = psum (parB s j) z L L.length := by
    unfold ball
    rw [getD_append_right' (by omega), show L.length + j - L.length = j from by omega]
    simp [bpars, List.getD, hj]
  rw [h1, h2]
  exact xorL_self (psum_len hL _ (Nat.le_refl _))
theorem pmx_snd (s : UInt32) {z P : Nat} {L : List (List UInt8)} (hL : ∀ x ∈ L, x.length = z) : ∀ k, k ≤ P → Snd12 z (ball s z L P) (pmx s L.length P z k)
  | 0, _ => fun i q hq => by rw [show (pmx s L.length P z 0) = mnew (L.length + P) from rfl, mnew_at] at hq; cases hq
  | k + 1, hk => mAdd_snd (ball_each hL) (pmx_ech s L.length P z k) (pmx_snd s hL k (by omega)) (r := ⟨parX s L.length (L.length + P) k L.length, zer z⟩) (parX_lt s (by omega) _ (Nat.le_refl _)) (dotP_par s hL (by omega)).symm

/-- A symbol's data is the sum of its row's pieces. -/
theorem psum_fold (f : Nat → Bool) (z : Nat) (A : List (List UInt8)) : ∀ k, psum f z A k = (((List.range k).filter f).map fun i => A.getD i []).foldl xorL (zer z)
  | 0 => rfl
  | k + 1 => by
    rw [List.range_succ, List.filter_append, List.map_append, List.foldl_append, ← psum_fold f z A k]
    show (if f k then xorL (psum f z A k) (A.getD k []) else psum f z A k) = _
    generalize psum f z A k = u
    cases hf : f k <;> simp [hf]
theorem symb_dot (s : UInt32) {K P z : Nat} {img : List UInt8} (h1 : 1 ≤ K) (h2 : K + P ≤ 256) (id : UInt32) : symb s K P z img id = dotP z (pieces s K P z img) (rowN s K P id) := by
  unfold dotP symb bsum
  rw [psum_fold]
  have hl : (pieces s K P z img).length = K + P := by unfold pieces; rw [ball_len, bsplit_len]
  rw [hl]
  have := rowN_bits s K P id h1 h2
  unfold bitsOf at this
  rw [this]

/-- All units of the first K, and the rows of parity: all is said. -/
theorem low_in {n z : Nat} {M : Mtx} (h : Ech n z M) {K : Nat} (hu : ∀ i, i < K → inS M (2 ^ i)) : ∀ k, k ≤ K → ∀ y, y < 2 ^ k → inS M y
  | 0, _, y, hy => by obtain rfl : y = 0 := by simpa using hy
                      exact inS_zero M
  | k + 1, hk, y, hy => by
    by_cases hb : y.testBit k = true
    · have h1 : y ^^^ 2 ^ k < 2 ^ k := by
        apply lt_of_bits
        intro j hj
        rw [Nat.testBit_xor, Nat.testBit_two_pow]
        by_cases e : k = j
        · subst e; rw [hb]; simp
        · rw [bit_ge hy (by omega)]; simp [e]
      have h2 := inS_xor (low_in h hu k (by omega) _ h1) (hu k (by omega))
      rwa [Nat.xor_assoc, Nat.xor_self, Nat.xor_zero] at h2
    · have h1 : y < 2 ^ k := by
        apply lt_of_bits
        intro j hj
        by_cases e : j = k
        · subst e; simpa using hb
        · exact bit_ge hy (by omega)
      exact low_in h hu k (by omega) y h1
theorem enough (s : UInt32) {K P z : Nat} {M : Mtx} (h : Ech (K + P) z M) (hp : ∀ j, j < P → inS M (parX s K (K + P) j K)) (hu : ∀ i, i < K → inS M (2 ^ i)) : rank M = K + P := by
  refine full_of_units h (fun i hi => ?_)
  by_cases h1 : i < K
  · exact hu i h1
  · have hj := hp (i - K) (by omega)
    have h2 : parX s K (K + P) (i - K) K ^^^ 2 ^ i < 2 ^ K := by
      apply lt_of_bits
      intro j hj
      rw [Nat.testBit_xor, Nat.testBit_two_pow, parX_bits s (by omega), if_neg (by omega)]
      by_cases e : i = j
      · subst e; simp; omega
      · simp [e]; omega
    have h3 := inS_xor (low_in h hu K (Nat.le_refl _) _ h2) hj
    rwa [Nat.xor_comm (parX s K (K + P) (i - K) K), Nat.xor_assoc, Nat.xor_self, Nat.xor_zero] at h3
theorem rowN_unit (s : UInt32) {K P : Nat} {id : UInt32} (h : id.toNat < K) : rowN s K P id = 2 ^ id.toNat := by
  unfold rowN
  rw [rowL_first s K P id h]
  apply Nat.eq_of_testBit_eq
  intro i
  rw [putL_one (by omega), Nat.testBit_two_pow]
  by_cases e : i = id.toNat
  · simp [e]
  · have : ¬ id.toNat = i := fun h => e h.symm
    simp [e, this]

/-- Full: nothing says anything new. -/
theorem full_in {n z : Nat} {M : Mtx} (h : Ech n z M) (hf : rank M = n) {x : Nat} (hx : x < 2 ^ n) : inS M x := by
  have h1 := (red_len h (r := ⟨x, zer z⟩) hx (zer_len z)).1
  refine red_in (r := ⟨x, zer z⟩).1 ?_
  apply Nat.eq_of_testBit_eq
  intro i
  rw [Nat.zero_testBit]
  by_cases hi : i < n
  · obtain ⟨q, hq⟩ := full_at (by rw [hf, h.l]) (i := i) (by rw [h.l]; exact hi)
    exact red_clear h _ hq
  · exact bit_ge h1 (by omega)
/-- .. and what is told is the image. -/
theorem full_dats (s : UInt32) {K P z : Nat} {img : List UInt8} (hf : img.length ≤ K * z) {M : Mtx} (h : Ech (K + P) z M) (hs : Snd12 z (pieces s K P z img) M) (hr : rank M = K + P) : dats M (K + P) = pieces s K P z img := by
  have hA : ∀ x ∈ pieces s K P z img, x.length = z := ball_each (bsplit_each hf (Nat.le_refl _))
  have hl : (pieces s K P z img).length = K + P := by unfold pieces; rw [ball_len, bsplit_len]
  apply List.ext_getElem
  · rw [dats_len, hl]
  · intro i h1 h2
    rw [dats_len] at h1
    obtain ⟨q, hq⟩ := full_at (by rw [hr, h.l]) (i := i) (by rw [h.l]; exact h1)
    have h3 := full_tells hA hl h hs hr hq
    simp only [dats, List.getElem_map, List.getElem_range]
    unfold datOf
    rw [hq]
    simp only
    rw [h3, List.getD_eq_getElem?_getD, List.getElem?_eq_getElem h2, Option.getD_some]
theorem full_image (s : UInt32) {K P z : Nat} {img : List UInt8} (hf : img.length ≤ K * z) {M : Mtx} (h : Ech (K + P) z M) (hs : Snd12 z (pieces s K P z img) M) (hr : rank M = K + P) : joinF img.length ((dats M (K + P)).take K) = img := by
  rw [full_dats s hf h hs hr]
  have : (pieces s K P z img).take K = bsplit img K z K := by
    unfold pieces ball
    rw [List.take_append_of_le_length (by rw [bsplit_len]; exact Nat.le_refl _), List.take_of_length_le (by rw [bsplit_len]; exact Nat.le_refl _)]
  rw [this]
  exact join_all hf

end Go.Proofs.YtghgmchgbhdldaaGreatDoor
