/-
  GrDt: the texts DeT, DeU, DeV, one behind another.
-/
import Derived.Test.YtijhaeapoapgfaaGreatDoorGrDe1
import Derived.Test.YtijhaeapoapgfaaGreatDoorGrBk
import Derived.Test.YtijhaeapoapgfaaGreatDoorGrDe3
set_option linter.unusedVariables false
set_option linter.unusedSimpArgs false
namespace Go.Proofs.YtijhaeapoapgfaaGreatDoor
open Go.RowKit

theorem mAdd_cases {n z : Nat} {M : Mtx} (h : Ech n z M) {r : Rw} (hr : r.x < 2 ^ n) (hd : r.d.length = z) :
    ((red M r).x = 0 ∧ mAdd n M r = M) ∨ ((red M r).x ≠ 0 ∧ ∃ a, a < n ∧ M.at a = none ∧ mAdd n M r = madd M a (red M r)) := by
  by_cases e : (red M r).x = 0
  · exact .inl ⟨e, mAdd_same e⟩
  · obtain ⟨h1, h2⟩ := red_len h hr hd
    obtain ⟨a, ha, hf, hb1, hb2⟩ := firstB_some h1 e
    refine .inr ⟨e, a, ha, ?_, ?_⟩
    · cases hq : M.at a with
      | none => rfl
      | some p => rw [red_clear h r hq] at hb1; cases hb1
    · unfold mAdd; rw [if_neg e, hf, Int.toNat_natCast]
theorem mAdd_rank0 {n : Nat} {M : Mtx} {r : Rw} (e : (red M r).x = 0) : rank (mAdd n M r) = rank M := by rw [mAdd_same e]
theorem mAdd_rank1 {n z : Nat} {M : Mtx} (h : Ech n z M) {r : Rw} (hr : r.x < 2 ^ n) (hd : r.d.length = z) (e : (red M r).x ≠ 0) : rank (mAdd n M r) = rank M + 1 := by
  rcases mAdd_cases h hr hd with ⟨h0, _⟩ | ⟨_, a, ha, hn, he⟩
  · exact absurd h0 e
  · rw [he]; exact madd_rank (by rw [h.l]; exact ha) hn
theorem red_in {M : Mtx} {r : Rw} : (red M r).x = 0 ↔ inS M r.x := by rw [red_x]; exact Iff.rfl

/-- All that was said is said, and the row. -/
theorem mAdd_in {n z : Nat} {M : Mtx} (h : Ech n z M) {r : Rw} (hr : r.x < 2 ^ n) (hd : r.d.length = z) : (∀ x, inS M x → inS (mAdd n M r) x) ∧ inS (mAdd n M r) r.x := by
  have hE := mAdd_ech h hr hd
  rcases mAdd_cases h hr hd with ⟨h0, e⟩ | ⟨h0, a, ha, hn, e⟩
  · rw [e]; exact ⟨fun _ hx => hx, red_in.1 h0⟩
  · rw [e] at hE ⊢
    obtain ⟨h1, h2⟩ := madd_in h hE ha hn
    refine ⟨h2, ?_⟩
    have h3 := rdx_off (M := M) (T := inS (madd M a (red M r))) (inS_zero _) (fun _ _ => inS_xor) (fun i q hq => h2 _ (row_in h hq)) r.x M.length
    rw [← red_x] at h3
    have h4 := inS_xor h3 h1
    rwa [Nat.xor_assoc, Nat.xor_self, Nat.xor_zero] at h4
/-- Nothing more is said. -/
theorem mAdd_sub {n z : Nat} {M : Mtx} (h : Ech n z M) {r : Rw} (hr : r.x < 2 ^ n) (hd : r.d.length = z) {T : Nat → Prop} (h0 : T 0) (hx : ∀ a b, T a → T b → T (a ^^^ b)) (hM : ∀ x, inS M x → T x) (hT : T r.x) : ∀ x, inS (mAdd n M r) x → T x := by
  rcases mAdd_cases h hr hd with ⟨_, e⟩ | ⟨_, a, ha, hn, e⟩
  · rw [e]; exact hM
  · rw [e]
    intro x hs
    have hl := h.l
    have hrow : ∀ i q, M.at i = some q → T q.x := fun i q hq => hM _ (row_in h hq)
    have hq : T (red M r).x := by
      have h3 := rdx_off (M := M) (T := T) h0 hx hrow r.x M.length
      rw [← red_x] at h3
      have h4 := hx _ _ h3 hT
      rwa [Nat.xor_comm r.x, Nat.xor_assoc, Nat.xor_self, Nat.xor_zero] at h4
    refine inS_sub h0 hx (fun i q he => ?_) hs
    have hi := Mtx.at_lt he
    rw [madd_len] at hi
    rw [madd_at M a _ hi (by omega)] at he
    by_cases ei : i = a
    · rw [if_pos ei] at he
      obtain rfl := Option.some.inj he
      exact hq
    · rw [if_neg ei] at he
      cases e2 : M.at i with
      | none => rw [e2] at he; cases he
      | some p =>
        rw [e2] at he
        simp only at he
        split at he
        · obtain rfl := Option.some.inj he
          exact hx _ _ (hrow i p e2) hq
        · obtain rfl := Option.some.inj he
          exact hrow i p e2
theorem mAdd_snd {n z : Nat} {A : List (List UInt8)} {M : Mtx} (hA : ∀ x ∈ A, x.length = z) (h : Ech n z M) (hs : Snd12 z A M) {r : Rw} (hr : r.x < 2 ^ n) (hd : r.d = dotP z A r.x) : Snd12 z A (mAdd n M r) := by
  rcases mAdd_cases h hr (by rw [hd]; exact dotP_len hA _) with ⟨_, e⟩ | ⟨_, a, ha, hn, e⟩
  · rw [e]; exact hs
  · rw [e]
    refine madd_snd hA hs ?_ (by rw [h.l]; exact ha)
    exact redK_snd hA hs hd _

/-- The same is said. -/
def Same (M M' : Mtx) : Prop := ∀ x, inS M x ↔ inS M' x
theorem Same.refl (M : Mtx) : Same M M := fun _ => Iff.rfl
theorem Same.symm {M M' : Mtx} (h : Same M M') : Same M' M := fun x => (h x).symm
theorem Same.rank {n z z' : Nat} {M M' : Mtx} (hs : Same M M') (h : Ech n z M) (h' : Ech n z' M') : rank M = rank M' := by
  refine rank_congr (by rw [h.l, h'.l]) (fun i => ?_)
  cases e : M.at i with
  | some q =>
    obtain ⟨q', hq'⟩ := pivots_same h h' (fun x hx => (hs x).1 hx) e
    rw [hq']; rfl
  | none =>
    cases e' : M'.at i with
    | none => rfl
    | some q' =>
      obtain ⟨q, hq⟩ := pivots_same h' h (fun x hx => (hs x).2 hx) e'
      rw [hq] at e; cases e
theorem Same.says {M M' : Mtx} (hs : Same M M') {r r' : Rw} (e : r.x = r'.x) : decide ((red M r).x ≠ 0) = decide ((red M' r').x ≠ 0) := by
  have : (red M r).x = 0 ↔ (red M' r').x = 0 := by rw [red_in, red_in, e]; exact hs _
  by_cases h : (red M r).x = 0
  · have h' := this.1 h; simp [h, h']
  · have h' : ¬ (red M' r').x = 0 := fun h2 => h (this.2 h2)
    simp [h, h']
theorem Same.mAdd {n z z' : Nat} {M M' : Mtx} (hs : Same M M') (h : Ech n z M) (h' : Ech n z' M') {r r' : Rw} (e : r.x = r'.x) (hr : r.x < 2 ^ n) (hd : r.d.length = z) (hd' : r'.d.length = z') : Same (mAdd n M r) (mAdd n M' r') := by
  obtain ⟨a1, a2⟩ := mAdd_in h hr hd
  have hr' : r'.x < 2 ^ n := by rw [← e]; exact hr
  obtain ⟨b1, b2⟩ := mAdd_in h' hr' hd'
  exact fun x => ⟨mAdd_sub h hr hd (T := inS (_root_.Go.Proofs.YtijhaeapoapgfaaGreatDoor.mAdd n M' r')) (inS_zero _) (fun _ _ => inS_xor) (fun y hy => b1 y ((hs y).1 hy)) (by rw [e]; exact b2) x,
    mAdd_sub h' hr' hd' (T := inS (_root_.Go.Proofs.YtijhaeapoapgfaaGreatDoor.mAdd n M r)) (inS_zero _) (fun _ _ => inS_xor) (fun y hy => a1 y ((hs y).2 hy)) (by rw [← e]; exact a2) x⟩
theorem Same.mnew (n : Nat) : Same (mnew n) (mnew n) := Same.refl _

/-- The row of parity, bit by bit. -/
theorem putL_one {n a i : Nat} (ha : a < n) : (putL n 0 [a]).testBit i = decide (i = a) := by
  rw [testBit_putL, Nat.zero_testBit, Bool.false_or]
  by_cases e : i = a
  · subst e; simp [ha]
  · simp [e]
theorem parX_high (s : UInt32) {K n j : Nat} (hj : K + j < n) : ∀ k i, k ≤ i → k ≤ K → (parX s K n j k).testBit i = decide (i = K + j)
  | 0, i, _, _ => putL_one hj
  | k + 1, i, h, hk => by
    show (putB (parX s K n j k) k (parB s j k)).testBit i = _
    rw [testBit_put, if_neg (by omega)]
    exact parX_high s hj k i (by omega) (by omega)
theorem parX_bits (s : UInt32) {K n j : Nat} (hj : K + j < n) (i : Nat) : (parX s K n j K).testBit i = if i < K then parB s j i else decide (i = K + j) := by
  by_cases h : i < K
  · rw [if_pos h]; exact parX_bit s K n j K i h (Nat.le_refl _)
  · rw [if_neg h]; exact parX_high s hj K i (by omega) (Nat.le_refl _)

/-- No bit from m on. -/
def Low (m : Nat) (x : Nat) : Prop := ∀ i, m ≤ i → x.testBit i = false
theorem Low.zero (m : Nat) : Low m 0 := fun i _ => Nat.zero_testBit i
theorem Low.xor {m a b : Nat} (ha : Low m a) (hb : Low m b) : Low m (a ^^^ b) := fun i hi => by rw [Nat.testBit_xor, ha i hi, hb i hi]; rfl
theorem mnew_in {n x : Nat} (h : inS (mnew n) x) : x = 0 := by
  have : ∀ k, rdx (mnew n) x k = x := by
    intro k
    induction k with
    | zero => rfl
    | succ k ih => unfold rdx; rw [mnew_at]; exact ih
  unfold inS at h
  rw [this] at h; exact h
theorem pmx_low (s : UInt32) (K P d : Nat) : ∀ k, k ≤ P → ∀ x, inS (pmx s K P d k) x → Low (K + k) x
  | 0, _, x, hx => by rw [mnew_in hx]; exact Low.zero _
  | k + 1, hk, x, hx => by
    refine mAdd_sub (pmx_ech s K P d k) (r := ⟨parX s K (K + P) k K, zer d⟩) (parX_lt s (by omega) K (Nat.le_refl _)) (zer_len d) (T := Low (K + (k + 1))) (Low.zero _) (fun _ _ => Low.xor) (fun y hy i hi => pmx_low s K P d k (by omega) y hy i (by omega)) (fun i hi => ?_) x hx
    show (parX s K (K + P) k K).testBit i = false
    rw [parX_bits s (by omega), if_neg (by omega)]
    simp; omega
theorem pmx_new (s : UInt32) (K P d : Nat) {k : Nat} (hk : k < P) : (red (pmx s K P d k) ⟨parX s K (K + P) k K, zer d⟩).x ≠ 0 := fun h => by
  have h1 := pmx_low s K P d k (by omega) _ (red_in.1 h) (K + k) (Nat.le_refl _)
  simp only at h1
  rw [parX_bits s (by omega), if_neg (by omega)] at h1
  simp at h1
theorem pmx_rank (s : UInt32) (K P d : Nat) : ∀ k, k ≤ P → rank (pmx s K P d k) = k
  | 0, _ => mnew_rank _
  | k + 1, hk => by
    show rank (mAdd (K + P) (pmx s K P d k) ⟨parX s K (K + P) k K, zer d⟩) = k + 1
    rw [mAdd_rank1 (pmx_ech s K P d k) (parX_lt s (by omega) K (Nat.le_refl _)) (zer_len d) (pmx_new s K P d (by omega)), pmx_rank s K P d k (by omega)]
theorem pmx_same (s : UInt32) (K P d d' : Nat) : ∀ k, Same (pmx s K P d k) (pmx s K P d' k)
  | 0 => Same.refl _
  | k + 1 => (pmx_same s K P d d' k).mAdd (pmx_ech s K P d k) (pmx_ech s K P d' k) rfl (parX_lt s (by omega) K (Nat.le_refl _)) (zer_len d) (zer_len d')
theorem pmx_in (s : UInt32) (K P d : Nat) : ∀ k j, j < k → inS (pmx s K P d k) (parX s K (K + P) j K)
  | 0, _, h => by omega
  | k + 1, j, h => by
    obtain ⟨a1, a2⟩ := mAdd_in (pmx_ech s K P d k) (r := ⟨parX s K (K + P) k K, zer d⟩) (parX_lt s (by omega) K (Nat.le_refl _)) (zer_len d)
    by_cases e : j = k
    · subst e; exact a2
    · exact a1 _ (pmx_in s K P d k j (by omega))

/-- A row of parity sums to nothing. -/
theorem psum_app {f : Nat → Bool} {z : Nat} {L B : List (List UInt8)} : ∀ k, k ≤ L.length → psum f z (L ++ B) k = psum f z L k
  | 0, _ => rfl
  | k + 1, hk => by
    unfold psum
    rw [psum_app k (by omega), getD_append_left' (by omega)]
theorem xorL_self {a : List UInt8} {z : Nat} (h : a.length = z) : xorL a a = zer z := by
  apply List.ext_getElem
  · simp [xorL, zer, h]
  · intro i h1 h2; simp [xorL, zer]
theorem psum_skip {f : Nat → Bool} {z : Nat} {A : List (List UInt8)} (a : Nat) : ∀ d, (∀ i, a ≤ i → i < a + d → f i = false) → psum f z A (a + d) = psum f z A a
  | 0, _ => rfl
  | d + 1, h => by
    show (if f (a + d) then _ else _) = _
    rw [h (a + d) (by omega) (by omega)]
    simp only [Bool.false_eq_true, if_false]
    exact psum_skip a d (fun i h1 h2 => h i h1 (by omega))
theorem dotP_par (s : UInt32) {z P j : Nat} {L : List (List UInt8)} (hL : ∀ x ∈ L, x.length = z) (hj : j < P) : dotP z (ball s z L P) (parX s L.length (L.length + P) j L.length) = zer z := by
  have hb := parX_bits s (K := L.length) (n := L.length + P) (j := j) (by omega)
  unfold dotP
  rw [ball_len]
  have hlen : L.length + P = (L.length + j + 1) + (P - j - 1) := by omega
  rw [show psum (parX s L.length (L.length + P) j L.length).testBit z (ball s z L P) (L.length + P) = psum (parX s L.length (L.length + P) j L.length).testBit z (ball s z L P) ((L.length + j + 1) + (P - j - 1)) from by rw [← hlen]]
  rw [psum_skip _ _ (fun i h1 h2 => by rw [hb, if_neg (by omega)]; simp; omega)]
  show (if (parX s L.length (L.length + P) j L.length).testBit (L.length + j) then xorL (psum _ z (ball s z L P) (L.length + j)) ((ball s z L P).getD (L.length + j) []) else _) = _
  have hbj : (parX s L.length (L.length + P) j L.length).testBit (L.length + j) = true := by rw [hb, if_neg (by omega)]; simp
  rw [hbj, if_pos rfl]
  rw [psum_skip _ _ (fun i h1 h2 => by rw [hb, if_neg (by omega)]; simp; omega)]
  have h1 : psum (parX s L.length (L.length + P) j L.length).testBit z (ball s z L P) L.length = psum (parB s j) z L L.length := by
    unfold ball
    rw [psum_app _ (Nat.le_refl _)]
    exact psum_congr _ (fun i hi => by rw [hb, if_pos hi])
  have h2 : (ball s z L P).getD (L.length + j) [] = psum (parB s j) z L L.length := by
    unfold ball
    rw [getD_append_right' (by omega), show L.length + j - L.length = j from by omega]
    simp [bpars, List.getD, hj]
  rw [h1, h2]
  exact xorL_self (psum_len hL _ (Nat.le_refl _))
theorem pmx_snd (s : UInt32) {z P : Nat} {L : List (List UInt8)} (hL : ∀ x ∈ L, x.length = z) : ∀ k, k ≤ P → Snd12 z (ball s z L P) (pmx s L.length P z k)
  | 0, _ => fun i q hq => by rw [show (pmx s L.length P z 0) = mnew (L.length + P) from rfl, mnew_at] at hq; cases hq
  | k + 1, hk => mAdd_snd (ball_each hL) (pmx_ech s L.length P z k) (pmx_snd s hL k (by omega)) (r := ⟨parX s L.length (L.length + P) k L.length, zer z⟩) (parX_lt s (by omega) _ (Nat.le_refl _)) (dotP_par s hL (by omega)).symm

/-- A symbol's data is the sum of its row's pieces. -/
theorem psum_fold (f : Nat → Bool) (z : Nat) (A : List (List UInt8)) : ∀ k, psum f z A k = (((List.range k).filter f).map fun i => A.getD i []).foldl xorL (zer z)
  | 0 => rfl
  | k + 1 => by
    rw [List.range_succ, List.filter_append, List.map_append, List.foldl_append, ← psum_fold f z A k]
    show (if f k then xorL (psum f z A k) (A.getD k []) else psum f z A k) = _
    generalize psum f z A k = u
    cases hf : f k <;> simp [hf]
theorem symb_dot (s : UInt32) {K P z : Nat} {img : List UInt8} (h1 : 1 ≤ K) (h2 : K + P ≤ 256) (id : UInt32) : symb s K P z img id = dotP z (pieces s K P z img) (rowN s K P id) := by
  unfold dotP symb bsum
  rw [psum_fold]
  have hl : (pieces s K P z img).length = K + P := by unfold pieces; rw [ball_len, bsplit_len]
  rw [hl]
  have := rowN_bits s K P id h1 h2
  unfold bitsOf at this
  rw [this]

/-- All units of the first K, and the rows of parity: all is said. -/
theorem low_in {n z : Nat} {M : Mtx} (h : Ech n z M) {K : Nat} (hu : ∀ i, i < K → inS M (2 ^ i)) : ∀ k, k ≤ K → ∀ y, y < 2 ^ k → inS M y
  | 0, _, y, hy => by obtain rfl : y = 0 := by simpa using hy
                      exact inS_zero M
  | k + 1, hk, y, hy => by
    by_cases hb : y.testBit k = true
    · have h1 : y ^^^ 2 ^ k < 2 ^ k := by
        apply lt_of_bits
        intro j hj
        rw [Nat.testBit_xor, Nat.testBit_two_pow]
        by_cases e : k = j
        · subst e; rw [hb]; simp
        · rw [bit_ge hy (by omega)]; simp [e]
      have h2 := inS_xor (low_in h hu k (by omega) _ h1) (hu k (by omega))
      rwa [Nat.xor_assoc, Nat.xor_self, Nat.xor_zero] at h2
    · have h1 : y < 2 ^ k := by
        apply lt_of_bits
        intro j hj
        by_cases e : j = k
        · subst e; simpa using hb
        · exact bit_ge hy (by omega)
      exact low_in h hu k (by omega) y h1
theorem enough (s : UInt32) {K P z : Nat} {M : Mtx} (h : Ech (K + P) z M) (hp : ∀ j, j < P → inS M (parX s K (K + P) j K)) (hu : ∀ i, i < K → inS M (2 ^ i)) : rank M = K + P := by
  refine full_of_units h (fun i hi => ?_)
  by_cases h1 : i < K
  · exact hu i h1
  · have hj := hp (i - K) (by omega)
    have h2 : parX s K (K + P) (i - K) K ^^^ 2 ^ i < 2 ^ K := by
      apply lt_of_bits
      intro j hj
      rw [Nat.testBit_xor, Nat.testBit_two_pow, parX_bits s (by omega), if_neg (by omega)]
      by_cases e : i = j
      · subst e; simp; omega
      · simp [e]; omega
    have h3 := inS_xor (low_in h hu K (Nat.le_refl _) _ h2) hj
    rwa [Nat.xor_comm (parX s K (K + P) (i - K) K), Nat.xor_assoc, Nat.xor_self, Nat.xor_zero] at h3
theorem rowN_unit (s : UInt32) {K P : Nat} {id : UInt32} (h : id.toNat < K) : rowN s K P id = 2 ^ id.toNat := by
  unfold rowN
  rw [rowL_first s K P id h]
  apply Nat.eq_of_testBit_eq
  intro i
  rw [putL_one (by omega), Nat.testBit_two_pow]
  by_cases e : i = id.toNat
  · simp [e]
  · have : ¬ id.toNat = i := fun h => e h.symm
    simp [e, this]

/-- Full: nothing says anything new. -/
theorem full_in {n z : Nat} {M : Mtx} (h : Ech n z M) (hf : rank M = n) {x : Nat} (hx : x < 2 ^ n) : inS M x := by
  have h1 := (red_len h (r := ⟨x, zer z⟩) hx (zer_len z)).1
  refine red_in (r := ⟨x, zer z⟩).1 ?_
  apply Nat.eq_of_testBit_eq
  intro i
  rw [Nat.zero_testBit]
  by_cases hi : i < n
  · obtain ⟨q, hq⟩ := full_at (by rw [hf, h.l]) (i := i) (by rw [h.l]; exact hi)
    exact red_clear h _ hq
  · exact bit_ge h1 (by omega)
/-- .. and what is told is the image. -/
theorem full_dats (s : UInt32) {K P z : Nat} {img : List UInt8} (hf : img.length ≤ K * z) {M : Mtx} (h : Ech (K + P) z M) (hs : Snd12 z (pieces s K P z img) M) (hr : rank M = K + P) : dats M (K + P) = pieces s K P z img := by
  have hA : ∀ x ∈ pieces s K P z img, x.length = z := ball_each (bsplit_each hf (Nat.le_refl _))
  have hl : (pieces s K P z img).length = K + P := by unfold pieces; rw [ball_len, bsplit_len]
  apply List.ext_getElem
  · rw [dats_len, hl]
  · intro i h1 h2
    rw [dats_len] at h1
    obtain ⟨q, hq⟩ := full_at (by rw [hr, h.l]) (i := i) (by rw [h.l]; exact h1)
    have h3 := full_tells hA hl h hs hr hq
    simp only [dats, List.getElem_map, List.getElem_range]
    unfold datOf
    rw [hq]
    simp only
    rw [h3, List.getD_eq_getElem?_getD, List.getElem?_eq_getElem h2, Option.getD_some]
theorem full_image (s : UInt32) {K P z : Nat} {img : List UInt8} (hf : img.length ≤ K * z) {M : Mtx} (h : Ech (K + P) z M) (hs : Snd12 z (pieces s K P z img) M) (hr : rank M = K + P) : joinF img.length ((dats M (K + P)).take K) = img := by
  rw [full_dats s hf h hs hr]
  have : (pieces s K P z img).take K = bsplit img K z K := by
    unfold pieces ball
    rw [List.take_append_of_le_length (by rw [bsplit_len]; exact Nat.le_refl _), List.take_of_length_le (by rw [bsplit_len]; exact Nat.le_refl _)]
  rw [this]
  exact join_all hf

end Go.Proofs.YtijhaeapoapgfaaGreatDoor

set_option linter.unusedVariables false
set_option linter.unusedSimpArgs false
namespace Go.Proofs.YtijhaeapoapgfaaGreatDoor
open Go.RowKit

/-- A symbol as a row. -/
def symR (s : UInt32) (nK P z : Nat) (img : List UInt8) (id : UInt32) : Rw := ⟨rowN s nK P id, symb s nK P z img id⟩

/-- A decoder's matrix that has heard symbols of an image. -/
structure Sd (s : UInt32) (nK P z : Nat) (img : List UInt8) (M : Mtx) : Prop where
  e : Ech (nK + P) z M
  d : Snd12 z (pieces s nK P z img) M
  p : ∀ j, j < P → inS M (parX s nK (nK + P) j nK)

theorem symR_lt (s : UInt32) (nK P z : Nat) (img : List UInt8) (id : UInt32) : (symR s nK P z img id).x < 2 ^ (nK + P) := rowN_lt s nK P id
theorem Fits.sym_len {nK P z : Nat} {img : List UInt8} (hF : Fits nK P z img) (s : UInt32) (id : UInt32) : (symb s nK P z img id).length = z := symb_len hF.k1 (by have := hF.k2; have := hF.p2; omega) hF.f
theorem Sd.start {nK P z : Nat} {img : List UInt8} (hF : Fits nK P z img) (s : UInt32) : Sd s nK P z img (pmx s nK P z P) := by
  refine ⟨pmx_ech s nK P z P, ?_, fun j hj => pmx_in s nK P z P j hj⟩
  have h := pmx_snd s (z := z) (P := P) (L := bsplit img nK z nK) (bsplit_each hF.f (Nat.le_refl _)) P (Nat.le_refl _)
  rw [bsplit_len] at h
  exact h
theorem Sd.hear {s : UInt32} {nK P z : Nat} {img : List UInt8} {M : Mtx} (hF : Fits nK P z img) (h : Sd s nK P z img M) (id : UInt32) : Sd s nK P z img (mAdd (nK + P) M (symR s nK P z img id)) := by
  have hA : ∀ x ∈ pieces s nK P z img, x.length = z := ball_each (bsplit_each hF.f (Nat.le_refl _))
  have hlt := symR_lt s nK P z img id
  have hl : (symR s nK P z img id).d.length = z := hF.sym_len s id
  have hd : (symR s nK P z img id).d = dotP z (pieces s nK P z img) (symR s nK P z img id).x := symb_dot s hF.k1 (by have := hF.k2; have := hF.p2; omega) id
  obtain ⟨a1, _⟩ := mAdd_in h.e hlt hl
  exact ⟨mAdd_ech h.e hlt hl, mAdd_snd hA h.e h.d hlt hd, fun j hj => a1 _ (h.p j hj)⟩
theorem Sd.image {s : UInt32} {nK P z : Nat} {img : List UInt8} {M : Mtx} (hF : Fits nK P z img) (h : Sd s nK P z img M) (hr : rank M = nK + P) : joinF img.length ((dats M (nK + P)).take nK) = img :=
  full_image s hF.f h.e h.d hr
theorem Sd.dats16 {s : UInt32} {nK P z : Nat} {img : List UInt8} {M : Mtx} (hF : Fits nK P z img) (h : Sd s nK P z img M) (hr : rank M = nK + P) : ∀ x ∈ dats M (nK + P), x.length ≤ 16 := by
  rw [full_dats s hF.f h.e h.d hr]
  intro x hx
  have := ball_each (bsplit_each hF.f (Nat.le_refl nK)) (s := s) (P := P) x hx
  have := hF.z2
  omega
theorem Sd.rank_le {s : UInt32} {nK P z : Nat} {img : List UInt8} {M : Mtx} (h : Sd s nK P z img M) : rank M ≤ nK + P := by
  have := _root_.Go.Proofs.YtijhaeapoapgfaaGreatDoor.rank_le M
  rw [h.e.l] at this
  exact this
theorem Sd.again {s : UInt32} {nK P z : Nat} {img : List UInt8} {M : Mtx} (hF : Fits nK P z img) (h : Sd s nK P z img M) (id : UInt32) (r : Rw) (hr : r.x = rowN s nK P id) : (red (mAdd (nK + P) M (symR s nK P z img id)) r).x = 0 := by
  rw [red_in, hr]
  exact (mAdd_in h.e (symR_lt s nK P z img id) (hF.sym_len s id)).2

/-- What is heard, one symbol behind another. -/
def hears (s : UInt32) (nK P z : Nat) (img : List UInt8) (M : Mtx) (l : List UInt32) : Mtx := l.foldl (fun M id => mAdd (nK + P) M (symR s nK P z img id)) M
theorem hears_snoc (s : UInt32) (nK P z : Nat) (img : List UInt8) (M : Mtx) (l : List UInt32) (id : UInt32) : hears s nK P z img M (l ++ [id]) = mAdd (nK + P) (hears s nK P z img M l) (symR s nK P z img id) := by unfold hears; rw [List.foldl_append]; rfl
theorem hears_app (s : UInt32) (nK P z : Nat) (img : List UInt8) (M : Mtx) (l l' : List UInt32) : hears s nK P z img M (l ++ l') = hears s nK P z img (hears s nK P z img M l) l' := by unfold hears; rw [List.foldl_append]
theorem Sd.hears {s : UInt32} {nK P z : Nat} {img : List UInt8} (hF : Fits nK P z img) : ∀ (l : List UInt32) {M : Mtx}, Sd s nK P z img M → Sd s nK P z img (hears s nK P z img M l)
  | [], _, h => h
  | id :: l, _, h => Sd.hears hF l (h.hear hF id)
theorem hears_in {s : UInt32} {nK P z : Nat} {img : List UInt8} (hF : Fits nK P z img) : ∀ (l : List UInt32) {M : Mtx}, Sd s nK P z img M → (∀ x, inS M x → inS (hears s nK P z img M l) x) ∧ ∀ id ∈ l, inS (hears s nK P z img M l) (rowN s nK P id)
  | [], _, h => ⟨fun _ hx => hx, fun id hi => by cases hi⟩
  | id :: l, M, h => by
    obtain ⟨b1, b2⟩ := hears_in hF l (h.hear hF id)
    obtain ⟨a1, a2⟩ := mAdd_in h.e (symR_lt s nK P z img id) (hF.sym_len s id)
    refine ⟨fun x hx => b1 x (a1 x hx), fun id' hi => ?_⟩
    rcases List.mem_cons.1 hi with rfl | hi
    · exact b1 _ a2
    · exact b2 id' hi
theorem hears_sub {s : UInt32} {nK P z : Nat} {img : List UInt8} (hF : Fits nK P z img) {T : Nat → Prop} (h0 : T 0) (hx : ∀ a b, T a → T b → T (a ^^^ b)) : ∀ (l : List UInt32) {M : Mtx}, Sd s nK P z img M → (∀ x, inS M x → T x) → (∀ id ∈ l, T (rowN s nK P id)) → ∀ x, inS (hears s nK P z img M l) x → T x
  | [], _, h, hM, _ => hM
  | id :: l, M, h, hM, hl => hears_sub hF h0 hx l (h.hear hF id) (mAdd_sub h.e (symR_lt s nK P z img id) (hF.sym_len s id) h0 hx hM (hl id (by simp))) (fun i hi => hl i (by simp [hi]))
theorem hears_same {s : UInt32} {nK P z : Nat} {img : List UInt8} (hF : Fits nK P z img) {M : Mtx} (h : Sd s nK P z img M) {l l' : List UInt32} (hm : ∀ id, id ∈ l ↔ id ∈ l') : Same (hears s nK P z img M l) (hears s nK P z img M l') := by
  obtain ⟨a1, a2⟩ := hears_in hF l h
  obtain ⟨b1, b2⟩ := hears_in hF l' h
  exact fun x => ⟨hears_sub hF (inS_zero _) (fun _ _ => inS_xor) l h b1 (fun id hi => b2 id ((hm id).1 hi)) x, hears_sub hF (inS_zero _) (fun _ _ => inS_xor) l' h a1 (fun id hi => a2 id ((hm id).2 hi)) x⟩
theorem hears_rank_le {s : UInt32} {nK P z : Nat} {img : List UInt8} (hF : Fits nK P z img) : ∀ (l : List UInt32) {M : Mtx}, Sd s nK P z img M → rank (hears s nK P z img M l) ≤ rank M + l.length
  | [], _, _ => Nat.le_refl _
  | id :: l, M, h => by
    have h1 := hears_rank_le hF l (h.hear hF id)
    have h2 : rank (mAdd (nK + P) M (symR s nK P z img id)) ≤ rank M + 1 := by
      by_cases e : (red M (symR s nK P z img id)).x = 0
      · rw [mAdd_rank0 e]; omega
      · rw [mAdd_rank1 h.e (symR_lt s nK P z img id) (hF.sym_len s id) e]; exact Nat.le_refl _
    show rank (hears s nK P z img (mAdd (nK + P) M (symR s nK P z img id)) l) ≤ rank M + (l.length + 1)
    omega
/-- If each symbol counts, each is new. -/
theorem hears_new {s : UInt32} {nK P z : Nat} {img : List UInt8} (hF : Fits nK P z img) {M : Mtx} (h : Sd s nK P z img M) (l : List UInt32) (id : UInt32) (l' : List UInt32) (hr : rank (hears s nK P z img M (l ++ id :: l')) = rank M + (l ++ id :: l').length) : (red (hears s nK P z img M l) (symR s nK P z img id)).x ≠ 0 ∧ rank (hears s nK P z img M l) = rank M + l.length := by
  have h1 := Sd.hears hF l h
  have h2 := hears_rank_le hF l h
  rw [hears_app] at hr
  have h3 := hears_rank_le hF l' (h1.hear hF id)
  have e : hears s nK P z img (hears s nK P z img M l) (id :: l') = hears s nK P z img (mAdd (nK + P) (hears s nK P z img M l) (symR s nK P z img id)) l' := rfl
  rw [e, List.length_append, List.length_cons] at hr
  refine ⟨fun h0 => ?_, ?_⟩
  · rw [mAdd_rank0 h0] at h3; omega
  · by_cases h0 : (red (hears s nK P z img M l) (symR s nK P z img id)).x = 0
    · rw [mAdd_rank0 h0] at h3; omega
    · rw [mAdd_rank1 h1.e (symR_lt s nK P z img id) (hF.sym_len s id) h0] at h3; omega
/-- The first K tell all. -/
theorem hears_full {s : UInt32} {nK P z : Nat} {img : List UInt8} (hF : Fits nK P z img) {M : Mtx} (h : Sd s nK P z img M) {l : List UInt32} (hl : ∀ i, i < nK → ∃ id ∈ l, id.toNat = i) : rank (hears s nK P z img M l) = nK + P := by
  obtain ⟨a1, a2⟩ := hears_in hF l h
  refine enough s (Sd.hears hF l h).e (fun j hj => a1 _ (h.p j hj)) (fun i hi => ?_)
  obtain ⟨id, hm, rfl⟩ := hl i hi
  have := a2 id hm
  rwa [rowN_unit s hi] at this

end Go.Proofs.YtijhaeapoapgfaaGreatDoor

set_option linter.unusedVariables false
set_option linter.unusedSimpArgs false
namespace Go.Proofs.YtijhaeapoapgfaaGreatDoor
open Go.RowKit

/-- What is done to blocks of other kinds makes no difference to a decoder. -/
theorem De.keepsT {S : List Nat} {w w' : World} {p : Nat} {s : UInt32} {nK P z : Nat} {M : Mtx} {tk : Nat} {Fl : List Nat} (h : De w p s nK P z M tk Fl) (k : Keeps S w w') (hS : ∀ x ∈ S, x ∉ Fl) (hf : ∀ x, x ∈ S → ∃ t cs, Blk w x t cs ∧ 5 ≠ t ∧ 22 ≠ t) : De w' p s nK P z M tk Fl := by
  obtain ⟨pm, Fm, d, v, hb, hm, he, hfl, hn, ho⟩ := h
  subst hfl
  refine ⟨pm, Fm, d, v, hb.keeps k (fun hp => hS p hp (by simp)), hm.keeps k (fun x hx hm => hS x hx (by simp [hm])), he, rfl, hn, ?_⟩
  rcases ho with ho | ⟨h1, h2, h3⟩
  · exact .inl ho
  · exact .inr ⟨h1, h2, h3.keepsP k hf⟩
theorem De.blk {w : World} {p : Nat} {s : UInt32} {nK P z : Nat} {M : Mtx} {tk : Nat} {Fl : List Nat} (h : De w p s nK P z M tk Fl) : p ∈ Fl ∧ ∃ cs, Blk w p 150 cs := by
  obtain ⟨pm, Fm, d, v, hb, hm, he, hfl, hn, ho⟩ := h
  exact ⟨by rw [hfl]; simp, _, hb⟩

theorem Fits.ne {nK P z : Nat} {img : List UInt8} (h : Fits nK P z img) : img ≠ [] := by
  rintro rfl
  have h1 := h.c
  have h2 := h.k1
  simp [bcount] at h1
  omega
theorem RdA.bound {Q : Nat → Prop} {w : World} {u : Value} {x : List UInt8} (h : RdA Q w u x) (hx : x ≠ []) : RdA (fun b => Q b ∧ b < w.heap.size) w u x := by
  refine ⟨h.1, fun a n c e => ⟨h.2 a n c e, ?_⟩⟩
  obtain ⟨a', c', e', h1, h2, h3, h4, h5⟩ := h.1
  rw [e] at e'
  simp only [Value.slice.injEq] at e'
  obtain ⟨cs, hb⟩ := h5 a e'.1.symm hx
  exact hb.lt
theorem PcsA.bound {w : World} {B : Nat} {Q : Nat → Prop} {v : Value} {L : List (List UInt8)} (h : PcsA w B Q v L) (hv : Up Q v) (hL : ∀ x ∈ L, x ≠ []) : PcsA w B (fun b => Q b ∧ b < w.heap.size) v L ∧ Up (fun b => Q b ∧ b < w.heap.size) v := by
  obtain ⟨vs, hO, hl, he⟩ := h
  refine ⟨⟨vs, hO, hl, fun i x hx => ?_⟩, fun a n c e => ⟨hv a n c e, ?_⟩⟩
  · obtain ⟨u, hu, hr⟩ := he i x hx
    exact ⟨u, hu, hr.bound (hL x (List.mem_of_getElem? hx))⟩
  · rcases hO.2 with ⟨rfl, h0⟩ | ⟨g, cap, cur, rfl, hb, hg, _⟩
    · cases e
    · simp only [Value.slice.injEq, Option.some.injEq] at e
      rw [← e.1]
      exact (Array.getElem?_eq_some_iff.1 hg).1
theorem Hd.bound {w : World} {Q : Nat → Prop} {p : Nat} {s : UInt32} {nK P z : Nat} {img : List UInt8} (h : Hd w Q p s nK P z img) : Hd w (fun b => Q b ∧ b < w.heap.size) p s nK P z img := by
  obtain ⟨hf, hq, vi, d, v, hb, hi, hv⟩ := h
  refine ⟨hf, ⟨hq, hb.lt⟩, vi, d, v, hb, hi.bound hf.ne, ?_⟩
  rcases hv with hv | ⟨hd, hv, hu⟩
  · exact .inl hv
  · obtain ⟨a1, a2⟩ := hv.bound hu (fun x hx => by
      have h1 := pieces_each (s := s) (P := P) hf.f x hx
      have h2 := hf.z1
      intro h3
      rw [h3] at h1
      simp at h1
      omega)
    exact .inr ⟨hd, a1, a2⟩
theorem Hd.blk {w : World} {Q : Nat → Prop} {p : Nat} {s : UInt32} {nK P z : Nat} {img : List UInt8} (h : Hd w Q p s nK P z img) : ∃ cs, Blk w p 129 cs := by obtain ⟨_, _, vi, d, v, hb, _⟩ := h; exact ⟨_, hb⟩

theorem RdS.str {w : World} {v : Value} {x : List UInt8} (h : RdS w v x) : (convert 22 9 v).run Tryz.prog w = .ok (.string ⟨x.toArray⟩) w := by
  obtain ⟨a, c, rfl, _, _, r3, r4, _⟩ := h
  exact str_run x.length c r3 rfl (fun h => (r4 h).1)
/-- A head and a decoder, all of whose blocks were made since the world w0. -/
structure Duo (w0 w : World) (ph pd : Nat) (s : UInt32) (nK P z : Nat) (img : List UInt8) (M : Mtx) (tk : Nat) (Q : Nat → Prop) (Fl : List Nat) : Prop where
  k : Keeps [] w0 w
  h : Hd w Q ph s nK P z img
  d : De w pd s nK P z M tk Fl
  q : ∀ x, Q x → w0.heap.size ≤ x ∧ x < w.heap.size
  f : ∀ x ∈ Fl, w0.heap.size ≤ x ∧ ¬ Q x
  sd : Sd s nK P z img M
  t : tk + P = rank M
  tz : TzAt w0

theorem Duo.keepsNil {w0 w w' : World} {ph pd : Nat} {s : UInt32} {nK P z : Nat} {img : List UInt8} {M : Mtx} {tk : Nat} {Q : Nat → Prop} {Fl : List Nat} (h : Duo w0 w ph pd s nK P z img M tk Q Fl) (k : Keeps [] w w') : Duo w0 w' ph pd s nK P z img M tk Q Fl :=
  ⟨h.k.trans k, h.h.keepsNil k, h.d.keepsNil k, fun x hx => ⟨(h.q x hx).1, Nat.lt_of_lt_of_le (h.q x hx).2 k.size⟩, h.f, h.sd, h.t, h.tz⟩
theorem Duo.keeps {S : List Nat} {w0 w w' : World} {ph pd : Nat} {s : UInt32} {nK P z : Nat} {img : List UInt8} {M : Mtx} {tk : Nat} {Q : Nat → Prop} {Fl : List Nat} (h : Duo w0 w ph pd s nK P z img M tk Q Fl) (k : Keeps S w w') (hS : ∀ x ∈ S, w0.heap.size ≤ x ∧ ¬ Q x ∧ x ∉ Fl) (hf : rank M = nK + P → Keeps [] w w') : Duo w0 w' ph pd s nK P z img M tk Q Fl :=
  ⟨h.k.trans' k (fun _ h => .inl h) (fun x hx => .inr (hS x hx).1), h.h.keeps k (fun x hx => (hS x hx).2.1), h.d.keeps k (fun x hx => (hS x hx).2.2) hf, fun x hx => ⟨(h.q x hx).1, Nat.lt_of_lt_of_le (h.q x hx).2 k.size⟩, h.f, h.sd, h.t, h.tz⟩
theorem Duo.tzw {w0 w : World} {ph pd : Nat} {s : UInt32} {nK P z : Nat} {img : List UInt8} {M : Mtx} {tk : Nat} {Q : Nat → Prop} {Fl : List Nat} (h : Duo w0 w ph pd s nK P z img M tk Q Fl) : TzAt w := h.tz.keeps h.k (by simp)
theorem Duo.tk_le {w0 w : World} {ph pd : Nat} {s : UInt32} {nK P z : Nat} {img : List UInt8} {M : Mtx} {tk : Nat} {Q : Nat → Prop} {Fl : List Nat} (h : Duo w0 w ph pd s nK P z img M tk Q Fl) : tk ≤ 1000000 := by
  have h1 := h.sd.rank_le
  have h2 := h.t
  have h3 := h.h.fits.k2
  have h4 := h.h.fits.p2
  omega

def DuoSym (w0 w : World) (ph pd : Nat) (s : UInt32) (nK P z : Nat) (img : List UInt8) (M : Mtx) (tk : Nat) (Q : Nat → Prop) (Fl : List Nat) (id : UInt32) (e : Ending) (w' : World) : Prop :=
  ∃ g Q', e = .returned (.slice (some ⟨g, 0, none⟩) z z) ∧ Rd w' (some ⟨g, 0, none⟩) (symb s nK P z img id) ∧ Blk w' g 5 ((symb s nK P z img id).map B8) ∧ w.heap.size ≤ g ∧ Duo w0 w' ph pd s nK P z img M tk Q' Fl ∧ (∀ x, Q' x → Q x ∨ w.heap.size ≤ x) ∧ Keeps [ph] w w'
theorem Duo.sym_calls {w0 w : World} {ph pd : Nat} {s : UInt32} {nK P z : Nat} {img : List UInt8} {M : Mtx} {tk : Nat} {Q : Nat → Prop} {Fl : List Nat} (h : Duo w0 w ph pd s nK P z img M tk Q Fl) (id : UInt32) :
    Calls Tryz.prog 34 #[P0 ph, B32 id] w (DuoSym w0 w ph pd s nK P z img M tk Q Fl id) := by
  refine (hdsymbol_calls h.h id).mono ?_
  rintro e w' ⟨g, rfl, hg, hb, hH, k⟩
  have hk0 := h.k.size
  have hph : Q ph := h.h.q
  have hdl := h.d.lt
  refine ⟨g, _, rfl, Rd.blk hb 0 _ (fun j u hu => by rw [Nat.zero_add, List.getElem?_map, hu]; rfl), hb, hg, ⟨?_, hH.bound, ?_, fun x hx => ?_, fun x hx => ⟨(h.f x hx).1, ?_⟩, h.sd, h.t, h.tz⟩, fun x hx => hx.1, k⟩
  · exact h.k.trans' k (fun _ h => .inl h) (fun x hx => by simp only [List.mem_singleton] at hx; subst hx; exact .inr (h.q _ hph).1)
  · refine h.d.keepsT k (fun x hx hm => ?_) (fun x hx => ?_)
    · simp only [List.mem_singleton] at hx; subst hx; exact (h.f _ hm).2 hph
    · simp only [List.mem_singleton] at hx; subst hx
      obtain ⟨cs, hb⟩ := h.h.blk
      exact ⟨_, cs, hb, by decide, by decide⟩
  · refine ⟨?_, hx.2⟩
    rcases hx.1 with h1 | h1
    · exact (h.q x h1).1
    · omega
  · rintro ⟨h1 | h1, _⟩
    · exact (h.f x hx).2 h1
    · have := hdl x hx; omega

def DuoTake (w0 w : World) (ph pd : Nat) (s : UInt32) (nK P z : Nat) (img : List UInt8) (M : Mtx) (tk : Nat) (Q : Nat → Prop) (Fl : List Nat) (id : UInt32) (e : Ending) (w' : World) : Prop :=
  ∃ tk' Fl', e = .returned (.bool (decide ((red M (symR s nK P z img id)).x ≠ 0))) ∧ Duo w0 w' ph pd s nK P z img (mAdd (nK + P) M (symR s nK P z img id)) tk' Q Fl' ∧ (∀ x ∈ Fl', x ∈ Fl ∨ w.heap.size ≤ x) ∧ Keeps Fl w w' ∧ (rank M = nK + P → Keeps [] w w')
theorem Duo.take_calls {w0 w : World} {ph pd : Nat} {s : UInt32} {nK P z : Nat} {img : List UInt8} {M : Mtx} {tk : Nat} {Q : Nat → Prop} {Fl : List Nat} (h : Duo w0 w ph pd s nK P z img M tk Q Fl) (id : UInt32) {a : Option Addr} {c : Nat} (hl : Rd w a (symb s nK P z img id)) :
    Calls Tryz.prog 40 #[P0 pd, B32 id, .slice a z c] w (DuoTake w0 w ph pd s nK P z img M tk Q Fl id) := by
  refine (dtake_calls h.d h.h.fits.pm h.tzw h.tk_le id hl (h.h.fits.sym_len s id)).mono ?_
  rintro e w' (⟨h0, rfl, k⟩ | ⟨h0, rfl, F', h1, h2, k, _⟩)
  · refine ⟨tk, Fl, by rw [decide_eq_false (by intro hn; exact hn h0)], ?_, fun x hx => .inl hx, k.nil, fun _ => k⟩
    rw [mAdd_same (r := symR s nK P z img id) h0]
    exact h.keepsNil k
  · have hwk := k.size
    refine ⟨tk + 1, F', by rw [decide_eq_true (show (red M (symR s nK P z img id)).x ≠ 0 from h0)], ⟨?_, h.h.keeps k (fun x hx => (h.f x hx).2), h1, fun x hx => ⟨(h.q x hx).1, by have := (h.q x hx).2; omega⟩, fun x hx => ?_, h.sd.hear h.h.fits id, ?_, h.tz⟩, h2, k, fun hf => ?_⟩
    · exact h.k.trans' k (fun _ h => .inl h) (fun x hx => .inr (h.f x hx).1)
    · rcases h2 x hx with hx | hx
      · exact h.f x hx
      · exact ⟨Nat.le_trans h.k.size hx, fun hq => by have := (h.q x hq).2; omega⟩
    · rw [mAdd_rank1 h.sd.e (symR_lt s nK P z img id) (h.h.fits.sym_len s id) h0, ← h.t]; omega
    · exfalso
      exact h0 (red_in.2 (full_in h.sd.e hf (symR_lt s nK P z img id)))

theorem Duo.start {w0 w1 w1' w2 : World} {ph pd : Nat} {s : UInt32} {nK P z : Nat} {img : List UInt8} {Fl : List Nat} (hH : Hd w1 (w0.heap.size ≤ ·) ph s nK P z img) (k1 : Keeps [] w0 w1) (k1' : Keeps [] w1 w1') (hD : De w2 pd s nK P z (pmx s nK P z P) 0 Fl) (hF : ∀ x ∈ Fl, w1'.heap.size ≤ x) (k2 : Keeps [] w1' w2) (ht : TzAt w0) :
    Duo w0 w2 ph pd s nK P z img (pmx s nK P z P) 0 (fun x => w0.heap.size ≤ x ∧ x < w1.heap.size) Fl := by
  have s1 := k1.size
  have s2 := k1'.size
  have s3 := k2.size
  refine ⟨(k1.trans k1').trans k2, (hH.bound.keepsNil k1').keepsNil k2, hD, fun x hx => by omega, fun x hx => ?_, Sd.start hH.fits s, ?_, ht⟩
  · have := hF x hx
    exact ⟨by omega, fun h => by omega⟩
  · rw [pmx_rank s nK P z P (Nat.le_refl _)]; omega

/-- The first k symbols. -/
def idsTo (k : Nat) : List UInt32 := (List.range k).map UInt32.ofNat
theorem idsTo_succ (k : Nat) : idsTo (k + 1) = idsTo k ++ [UInt32.ofNat k] := by simp [idsTo, List.range_succ]
theorem u32_small {k : Nat} (h : k ≤ 64) : (UInt32.ofNat k).toNat = k := by rw [UInt32.toNat_ofNat']; omega
theorem first_full {nK P z : Nat} {img : List UInt8} (hF : Fits nK P z img) (s : UInt32) : rank (hears s nK P z img (pmx s nK P z P) (idsTo nK)) = nK + P := by
  refine hears_full hF (Sd.start hF s) (fun i hi => ⟨UInt32.ofNat i, ?_, u32_small (by have := hF.k2; omega)⟩)
  exact List.mem_map.2 ⟨i, List.mem_range.2 hi, rfl⟩
theorem first_new {nK P z : Nat} {img : List UInt8} (hF : Fits nK P z img) (s : UInt32) {k : Nat} (hk : k < nK) : (red (hears s nK P z img (pmx s nK P z P) (idsTo k)) (symR s nK P z img (UInt32.ofNat k))).x ≠ 0 := by
  obtain ⟨d, hd⟩ : ∃ d, nK = k + (d + 1) := ⟨nK - k - 1, by omega⟩
  have he : idsTo nK = idsTo k ++ UInt32.ofNat k :: (List.range d).map (fun i => UInt32.ofNat (k + 1 + i)) := by
    unfold idsTo
    rw [hd, List.range_add, List.map_append, List.map_map]
    congr 1
    rw [List.range_succ_eq_map]
    simp [Function.comp_def, Nat.add_assoc, Nat.add_comm 1]
  refine (hears_new hF (Sd.start hF s) (idsTo k) (UInt32.ofNat k) ((List.range d).map (fun i => UInt32.ofNat (k + 1 + i))) ?_).1
  rw [← he, first_full hF s, pmx_rank s nK P z P (Nat.le_refl _)]
  simp [idsTo]
  omega
theorem bcount_more {nK z : Nat} {len : Nat} (h1 : 1 ≤ len) (hz : 1 ≤ z) (hk : 1 ≤ nK) (h : bcount len z = nK) : bcount (len + z) z ≠ nK := by
  unfold bcount at h ⊢
  rw [if_neg (by omega)] at h ⊢
  have e : (len + z + z - 1) / z = (len + z - 1) / z + 1 := by
    rw [show len + z + z - 1 = (len + z - 1) + z from by omega, Nat.add_div_right _ (by omega)]
  rw [e]
  split at h
  · split <;> omega
  · omega

end Go.Proofs.YtijhaeapoapgfaaGreatDoor
