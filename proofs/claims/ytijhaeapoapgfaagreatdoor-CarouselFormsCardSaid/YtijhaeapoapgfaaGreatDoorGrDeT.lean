/-
  GrDeT: the texts DeT, DeU, DeV, Ca1, Ca2, one behind another.
-/
import Derived.Test.YtijhaeapoapgfaaGreatDoorGrDe1
import Derived.Test.YtijhaeapoapgfaaGreatDoorGrCd2
import Derived.Test.YtijhaeapoapgfaaGreatDoorGrMf2
import Derived.Deep.RegionHeld3
import Derived.Deep.DrawnRows
import Derived.Test.YtijhaeapoapgfaaGreatDoorGrRows8
set_option linter.unusedVariables false
set_option linter.unusedSimpArgs false
namespace Go.Proofs.YtijhaeapoapgfaaGreatDoor
open Go.RowKit

theorem mAdd_cases {n z : Nat} {M : Mtx} (h : Ech n z M) {r : Rw} (hr : r.x < 2 ^ n) (hd : r.d.length = z) :
    ((red M r).x = 0 ∧ mAdd n M r = M) ∨ ((red M r).x ≠ 0 ∧ ∃ a, a < n ∧ M.at a = none ∧ mAdd n M r = madd M a (red M r)) := by
  by_cases e : (red M r).x = 0
  · exact .inl ⟨e, mAdd_same e⟩
  · obtain ⟨h1, h2⟩ := red_len h hr hd
    obtain ⟨a, ha, hf, hb1, hb2⟩ := firstB_some h1 e
    refine .inr ⟨e, a, ha, ?_, ?_⟩
    · cases hq : M.at a with
      | none => rfl
      | some p => rw [red_clear h r hq] at hb1; cases hb1
    · unfold mAdd; rw [if_neg e, hf, Int.toNat_natCast]
theorem mAdd_rank0 {n : Nat} {M : Mtx} {r : Rw} (e : (red M r).x = 0) : rank (mAdd n M r) = rank M := by rw [mAdd_same e]
theorem mAdd_rank1 {n z : Nat} {M : Mtx} (h : Ech n z M) {r : Rw} (hr : r.x < 2 ^ n) (hd : r.d.length = z) (e : (red M r).x ≠ 0) : rank (mAdd n M r) = rank M + 1 := by
  rcases mAdd_cases h hr hd with ⟨h0, _⟩ | ⟨_, a, ha, hn, he⟩
  · exact absurd h0 e
  · rw [he]; exact madd_rank (by rw [h.l]; exact ha) hn
theorem red_in {M : Mtx} {r : Rw} : (red M r).x = 0 ↔ inS M r.x := by rw [red_x]; exact Iff.rfl

/-- All that was said is said, and the row. -/
theorem mAdd_in {n z : Nat} {M : Mtx} (h : Ech n z M) {r : Rw} (hr : r.x < 2 ^ n) (hd : r.d.length = z) : (∀ x, inS M x → inS (mAdd n M r) x) ∧ inS (mAdd n M r) r.x := by
  have hE := mAdd_ech h hr hd
  rcases mAdd_cases h hr hd with ⟨h0, e⟩ | ⟨h0, a, ha, hn, e⟩
  · rw [e]; exact ⟨fun _ hx => hx, red_in.1 h0⟩
  · rw [e] at hE ⊢
    obtain ⟨h1, h2⟩ := madd_in h hE ha hn
    refine ⟨h2, ?_⟩
    have h3 := rdx_off (M := M) (T := inS (madd M a (red M r))) (inS_zero _) (fun _ _ => inS_xor) (fun i q hq => h2 _ (row_in h hq)) r.x M.length
    rw [← red_x] at h3
    have h4 := inS_xor h3 h1
    rwa [Nat.xor_assoc, Nat.xor_self, Nat.xor_zero] at h4
/-- Nothing more is said. -/
theorem mAdd_sub {n z : Nat} {M : Mtx} (h : Ech n z M) {r : Rw} (hr : r.x < 2 ^ n) (hd : r.d.length = z) {T : Nat → Prop} (h0 : T 0) (hx : ∀ a b, T a → T b → T (a ^^^ b)) (hM : ∀ x, inS M x → T x) (hT : T r.x) : ∀ x, inS (mAdd n M r) x → T x := by
  rcases mAdd_cases h hr hd with ⟨_, e⟩ | ⟨_, a, ha, hn, e⟩
  · rw [e]; exact hM
  · rw [e]
    intro x hs
    have hl := h.l
    have hrow : ∀ i q, M.at i = some q → T q.x := fun i q hq => hM _ (row_in h hq)
    have hq : T (red M r).x := by
      have h3 := rdx_off (M := M) (T := T) h0 hx hrow r.x M.length
      rw [← red_x] at h3
      have h4 := hx _ _ h3 hT
      rwa [Nat.xor_comm r.x, Nat.xor_assoc, Nat.xor_self, Nat.xor_zero] at h4
    refine inS_sub h0 hx (fun i q he => ?_) hs
    have hi := Mtx.at_lt he
    rw [madd_len] at hi
    rw [madd_at M a _ hi (by omega)] at he
    by_cases ei : i = a
    · rw [if_pos ei] at he
      obtain rfl := Option.some.inj he
      exact hq
    · rw [if_neg ei] at he
      cases e2 : M.at i with
      | none => rw [e2] at he; cases he
      | some p =>
        rw [e2] at he
        simp only at he
        split at he
        · obtain rfl := Option.some.inj he
          exact hx _ _ (hrow i p e2) hq
        · obtain rfl := Option.some.inj he
          exact hrow i p e2
theorem mAdd_snd {n z : Nat} {A : List (List UInt8)} {M : Mtx} (hA : ∀ x ∈ A, x.length = z) (h : Ech n z M) (hs : Snd12 z A M) {r : Rw} (hr : r.x < 2 ^ n) (hd : r.d = dotP z A r.x) : Snd12 z A (mAdd n M r) := by
  rcases mAdd_cases h hr (by rw [hd]; exact dotP_len hA _) with ⟨_, e⟩ | ⟨_, a, ha, hn, e⟩
  · rw [e]; exact hs
  · rw [e]
    refine madd_snd hA hs ?_ (by rw [h.l]; exact ha)
    exact redK_snd hA hs hd _

/-- The same is said. -/
def Same (M M' : Mtx) : Prop := ∀ x, inS M x ↔ inS M' x
theorem Same.refl (M : Mtx) : Same M M := fun _ => Iff.rfl
theorem Same.symm {M M' : Mtx} (h : Same M M') : Same M' M := fun x => (h x).symm
theorem Same.rank {n z z' : Nat} {M M' : Mtx} (hs : Same M M') (h : Ech n z M) (h' : Ech n z' M') : rank M = rank M' := by
  refine rank_congr (by rw [h.l, h'.l]) (fun i => ?_)
  cases e : M.at i with
  | some q =>
    obtain ⟨q', hq'⟩ := pivots_same h h' (fun x hx => (hs x).1 hx) e
    rw [hq']; rfl
  | none =>
    cases e' : M'.at i with
    | none => rfl
    | some q' =>
      obtain ⟨q, hq⟩ := pivots_same h' h (fun x hx => (hs x).2 hx) e'
      rw [hq] at e; cases e
theorem Same.says {M M' : Mtx} (hs : Same M M') {r r' : Rw} (e : r.x = r'.x) : decide ((red M r).x ≠ 0) = decide ((red M' r').x ≠ 0) := by
  have : (red M r).x = 0 ↔ (red M' r').x = 0 := by rw [red_in, red_in, e]; exact hs _
  by_cases h : (red M r).x = 0
  · have h' := this.1 h; simp [h, h']
  · have h' : ¬ (red M' r').x = 0 := fun h2 => h (this.2 h2)
    simp [h, h']
theorem Same.mAdd {n z z' : Nat} {M M' : Mtx} (hs : Same M M') (h : Ech n z M) (h' : Ech n z' M') {r r' : Rw} (e : r.x = r'.x) (hr : r.x < 2 ^ n) (hd : r.d.length = z) (hd' : r'.d.length = z') : Same (mAdd n M r) (mAdd n M' r') := by
  obtain ⟨a1, a2⟩ := mAdd_in h hr hd
  have hr' : r'.x < 2 ^ n := by rw [← e]; exact hr
  obtain ⟨b1, b2⟩ := mAdd_in h' hr' hd'
  exact fun x => ⟨mAdd_sub h hr hd (T := inS (_root_.Go.Proofs.YtijhaeapoapgfaaGreatDoor.mAdd n M' r')) (inS_zero _) (fun _ _ => inS_xor) (fun y hy => b1 y ((hs y).1 hy)) (by rw [e]; exact b2) x,
    mAdd_sub h' hr' hd' (T := inS (_root_.Go.Proofs.YtijhaeapoapgfaaGreatDoor.mAdd n M r)) (inS_zero _) (fun _ _ => inS_xor) (fun y hy => a1 y ((hs y).2 hy)) (by rw [← e]; exact a2) x⟩
theorem Same.mnew (n : Nat) : Same (mnew n) (mnew n) := Same.refl _

/-- The row of parity, bit by bit. -/
theorem putL_one {n a i : Nat} (ha : a < n) : (putL n 0 [a]).testBit i = decide (i = a) := by
  rw [testBit_putL, Nat.zero_testBit, Bool.false_or]
  by_cases e : i = a
  · subst e; simp [ha]
  · simp [e]
theorem parX_high (s : UInt32) {K n j : Nat} (hj : K + j < n) : ∀ k i, k ≤ i → k ≤ K → (parX s K n j k).testBit i = decide (i = K + j)
  | 0, i, _, _ => putL_one hj
  | k + 1, i, h, hk => by
    show (putB (parX s K n j k) k (parB s j k)).testBit i = _
    rw [testBit_put, if_neg (by omega)]
    exact parX_high s hj k i (by omega) (by omega)
theorem parX_bits (s : UInt32) {K n j : Nat} (hj : K + j < n) (i : Nat) : (parX s K n j K).testBit i = if i < K then parB s j i else decide (i = K + j) := by
  by_cases h : i < K
  · rw [if_pos h]; exact parX_bit s K n j K i h (Nat.le_refl _)
  · rw [if_neg h]; exact parX_high s hj K i (by omega) (Nat.le_refl _)

/-- No bit from m on. -/
def Low (m : Nat) (x : Nat) : Prop := ∀ i, m ≤ i → x.testBit i = false
theorem Low.zero (m : Nat) : Low m 0 := fun i _ => Nat.zero_testBit i
theorem Low.xor {m a b : Nat} (ha : Low m a) (hb : Low m b) : Low m (a ^^^ b) := fun i hi => by rw [Nat.testBit_xor, ha i hi, hb i hi]; rfl
theorem mnew_in {n x : Nat} (h : inS (mnew n) x) : x = 0 := by
  have : ∀ k, rdx (mnew n) x k = x := by
    intro k
    induction k with
    | zero => rfl
    | succ k ih => unfold rdx; rw [mnew_at]; exact ih
  unfold inS at h
  rw [this] at h; exact h
theorem pmx_low (s : UInt32) (K P d : Nat) : ∀ k, k ≤ P → ∀ x, inS (pmx s K P d k) x → Low (K + k) x
  | 0, _, x, hx => by rw [mnew_in hx]; exact Low.zero _
  | k + 1, hk, x, hx => by
    refine mAdd_sub (pmx_ech s K P d k) (r := ⟨parX s K (K + P) k K, zer d⟩) (parX_lt s (by omega) K (Nat.le_refl _)) (zer_len d) (T := Low (K + (k + 1))) (Low.zero _) (fun _ _ => Low.xor) (fun y hy i hi => pmx_low s K P d k (by omega) y hy i (by omega)) (fun i hi => ?_) x hx
    show (parX s K (K + P) k K).testBit i = false
    rw [parX_bits s (by omega), if_neg (by omega)]
    simp; omega
theorem pmx_new (s : UInt32) (K P d : Nat) {k : Nat} (hk : k < P) : (red (pmx s K P d k) ⟨parX s K (K + P) k K, zer d⟩).x ≠ 0 := fun h => by
  have h1 := pmx_low s K P d k (by omega) _ (red_in.1 h) (K + k) (Nat.le_refl _)
  simp only at h1
  rw [parX_bits s (by omega), if_neg (by omega)] at h1
  simp at h1
theorem pmx_rank (s : UInt32) (K P d : Nat) : ∀ k, k ≤ P → rank (pmx s K P d k) = k
  | 0, _ => mnew_rank _
  | k + 1, hk => by
    show rank (mAdd (K + P) (pmx s K P d k) ⟨parX s K (K + P) k K, zer d⟩) = k + 1
    rw [mAdd_rank1 (pmx_ech s K P d k) (parX_lt s (by omega) K (Nat.le_refl _)) (zer_len d) (pmx_new s K P d (by omega)), pmx_rank s K P d k (by omega)]
theorem pmx_in (s : UInt32) (K P d : Nat) : ∀ k j, j < k → inS (pmx s K P d k) (parX s K (K + P) j K)
  | 0, _, h => by omega
  | k + 1, j, h => by
    obtain ⟨a1, a2⟩ := mAdd_in (pmx_ech s K P d k) (r := ⟨parX s K (K + P) k K, zer d⟩) (parX_lt s (by omega) K (Nat.le_refl _)) (zer_len d)
    by_cases e : j = k
    · subst e; exact a2
    · exact a1 _ (pmx_in s K P d k j (by omega))

/-- A row of parity sums to nothing. -/
theorem psum_app {f : Nat → Bool} {z : Nat} {L B : List (List UInt8)} : ∀ k, k ≤ L.length → psum f z (L ++ B) k = psum f z L k
  | 0, _ => rfl
  | k + 1, hk => by
    unfold psum
    rw [psum_app k (by omega), getD_append_left' (by omega)]
theorem xorL_self {a : List UInt8} {z : Nat} (h : a.length = z) : xorL a a = zer z := by
  apply List.ext_getElem
  · simp [xorL, zer, h]
  · intro i h1 h2; simp [xorL, zer]
theorem psum_skip {f : Nat → Bool} {z : Nat} {A : List (List UInt8)} (a : Nat) : ∀ d, (∀ i, a ≤ i → i < a + d → f i = false) → psum f z A (a + d) = psum f z A a
  | 0, _ => rfl
  | d + 1, h => by
    show (if f (a + d) then _ else _) = _
    rw [h (a + d) (by omega) (by omega)]
    simp only [Bool.false_eq_true, if_false]
    exact psum_skip a d (fun i h1 h2 => h i h1 (by omega))
theorem dotP_par (s : UInt32) {z P j : Nat} {L : List (List UInt8)} (hL : ∀ x ∈ L, x.length = z) (hj : j < P) : dotP z (ball s z L P) (parX s L.length (L.length + P) j L.length) = zer z := by
  have hb := parX_bits s (K := L.length) (n := L.length + P) (j := j) (by omega)
  unfold dotP
  rw [ball_len]
  have hlen : L.length + P = (L.length + j + 1) + (P - j - 1) := by omega
  rw [show psum (parX s L.length (L.length + P) j L.length).testBit z (ball s z L P) (L.length + P) = psum (parX s L.length (L.length + P) j L.length).testBit z (ball s z L P) ((L.length + j + 1) + (P - j - 1)) from by rw [← hlen]]
  rw [psum_skip _ _ (fun i h1 h2 => by rw [hb, if_neg (by omega)]; simp; omega)]
  show (if (parX s L.length (L.length + P) j L.length).testBit (L.length + j) then xorL (psum _ z (ball s z L P) (L.length + j)) ((ball s z L P).getD (L.length + j) []) else _) = _
  have hbj : (parX s L.length (L.length + P) j L.length).testBit (L.length + j) = true := by rw [hb, if_neg (by omega)]; simp
  rw [hbj, if_pos rfl]
  rw [psum_skip _ _ (fun i h1 h2 => by rw [hb, if_neg (by omega)]; simp; omega)]
  have h1 : psum (parX s L.length (L.length + P) j L.length).testBit z (ball s z L P) L.length = psum (parB s j) z L L.length := by
    unfold ball
    rw [psum_app _ (Nat.le_refl _)]
    exact psum_congr _ (fun i hi => by rw [hb, if_pos hi])
  have h2 : (ball s z L P).getD (L.length + j) [] = psum (parB s j) z L L.length := by
    unfold ball
    rw [getD_append_right' (by omega), show L.length + j - L.length = j from by omega]
    simp [bpars, List.getD, hj]
  rw [h1, h2]
  exact xorL_self (psum_len hL _ (Nat.le_refl _))
theorem pmx_snd (s : UInt32) {z P : Nat} {L : List (List UInt8)} (hL : ∀ x ∈ L, x.length = z) : ∀ k, k ≤ P → Snd12 z (ball s z L P) (pmx s L.length P z k)
  | 0, _ => fun i q hq => by rw [show (pmx s L.length P z 0) = mnew (L.length + P) from rfl, mnew_at] at hq; cases hq
  | k + 1, hk => mAdd_snd (ball_each hL) (pmx_ech s L.length P z k) (pmx_snd s hL k (by omega)) (r := ⟨parX s L.length (L.length + P) k L.length, zer z⟩) (parX_lt s (by omega) _ (Nat.le_refl _)) (dotP_par s hL (by omega)).symm

/-- A symbol's data is the sum of its row's pieces. -/
theorem psum_fold (f : Nat → Bool) (z : Nat) (A : List (List UInt8)) : ∀ k, psum f z A k = (((List.range k).filter f).map fun i => A.getD i []).foldl xorL (zer z)
  | 0 => rfl
  | k + 1 => by
    rw [List.range_succ, List.filter_append, List.map_append, List.foldl_append, ← psum_fold f z A k]
    show (if f k then xorL (psum f z A k) (A.getD k []) else psum f z A k) = _
    generalize psum f z A k = u
    cases hf : f k <;> simp [hf]
theorem symb_dot (s : UInt32) {K P z : Nat} {img : List UInt8} (h1 : 1 ≤ K) (h2 : K + P ≤ 256) (id : UInt32) : symb s K P z img id = dotP z (pieces s K P z img) (rowN s K P id) := by
  unfold dotP symb bsum
  rw [psum_fold]
  have hl : (pieces s K P z img).length = K + P := by unfold pieces; rw [ball_len, bsplit_len]
  rw [hl]
  have := rowN_bits s K P id h1 h2
  unfold bitsOf at this
  rw [this]

/-- All units of the first K, and the rows of parity: all is said. -/
theorem low_in {n z : Nat} {M : Mtx} (h : Ech n z M) {K : Nat} (hu : ∀ i, i < K → inS M (2 ^ i)) : ∀ k, k ≤ K → ∀ y, y < 2 ^ k → inS M y
  | 0, _, y, hy => by obtain rfl : y = 0 := by simpa using hy
                      exact inS_zero M
  | k + 1, hk, y, hy => by
    by_cases hb : y.testBit k = true
    · have h1 : y ^^^ 2 ^ k < 2 ^ k := by
        apply lt_of_bits
        intro j hj
        rw [Nat.testBit_xor, Nat.testBit_two_pow]
        by_cases e : k = j
        · subst e; rw [hb]; simp
        · rw [bit_ge hy (by omega)]; simp [e]
      have h2 := inS_xor (low_in h hu k (by omega) _ h1) (hu k (by omega))
      rwa [Nat.xor_assoc, Nat.xor_self, Nat.xor_zero] at h2
    · have h1 : y < 2 ^ k := by
        apply lt_of_bits
        intro j hj
        by_cases e : j = k
        · subst e; simpa using hb
        · exact bit_ge hy (by omega)
      exact low_in h hu k (by omega) y h1
theorem enough (s : UInt32) {K P z : Nat} {M : Mtx} (h : Ech (K + P) z M) (hp : ∀ j, j < P → inS M (parX s K (K + P) j K)) (hu : ∀ i, i < K → inS M (2 ^ i)) : rank M = K + P := by
  refine full_of_units h (fun i hi => ?_)
  by_cases h1 : i < K
  · exact hu i h1
  · have hj := hp (i - K) (by omega)
    have h2 : parX s K (K + P) (i - K) K ^^^ 2 ^ i < 2 ^ K := by
      apply lt_of_bits
      intro j hj
      rw [Nat.testBit_xor, Nat.testBit_two_pow, parX_bits s (by omega), if_neg (by omega)]
      by_cases e : i = j
      · subst e; simp; omega
      · simp [e]; omega
    have h3 := inS_xor (low_in h hu K (Nat.le_refl _) _ h2) hj
    rwa [Nat.xor_comm (parX s K (K + P) (i - K) K), Nat.xor_assoc, Nat.xor_self, Nat.xor_zero] at h3
theorem rowN_unit (s : UInt32) {K P : Nat} {id : UInt32} (h : id.toNat < K) : rowN s K P id = 2 ^ id.toNat := by
  unfold rowN
  rw [rowL_first s K P id h]
  apply Nat.eq_of_testBit_eq
  intro i
  rw [putL_one (by omega), Nat.testBit_two_pow]
  by_cases e : i = id.toNat
  · simp [e]
  · have : ¬ id.toNat = i := fun h => e h.symm
    simp [e, this]

/-- Full: nothing says anything new. -/
theorem full_in {n z : Nat} {M : Mtx} (h : Ech n z M) (hf : rank M = n) {x : Nat} (hx : x < 2 ^ n) : inS M x := by
  have h1 := (red_len h (r := ⟨x, zer z⟩) hx (zer_len z)).1
  refine red_in (r := ⟨x, zer z⟩).1 ?_
  apply Nat.eq_of_testBit_eq
  intro i
  rw [Nat.zero_testBit]
  by_cases hi : i < n
  · obtain ⟨q, hq⟩ := full_at (by rw [hf, h.l]) (i := i) (by rw [h.l]; exact hi)
    exact red_clear h _ hq
  · exact bit_ge h1 (by omega)
/-- .. and what is told is the image. -/
theorem full_dats (s : UInt32) {K P z : Nat} {img : List UInt8} (hf : img.length ≤ K * z) {M : Mtx} (h : Ech (K + P) z M) (hs : Snd12 z (pieces s K P z img) M) (hr : rank M = K + P) : dats M (K + P) = pieces s K P z img := by
  have hA : ∀ x ∈ pieces s K P z img, x.length = z := ball_each (bsplit_each hf (Nat.le_refl _))
  have hl : (pieces s K P z img).length = K + P := by unfold pieces; rw [ball_len, bsplit_len]
  apply List.ext_getElem
  · rw [dats_len, hl]
  · intro i h1 h2
    rw [dats_len] at h1
    obtain ⟨q, hq⟩ := full_at (by rw [hr, h.l]) (i := i) (by rw [h.l]; exact h1)
    have h3 := full_tells hA hl h hs hr hq
    simp only [dats, List.getElem_map, List.getElem_range]
    unfold datOf
    rw [hq]
    simp only
    rw [h3, List.getD_eq_getElem?_getD, List.getElem?_eq_getElem h2, Option.getD_some]
theorem full_image (s : UInt32) {K P z : Nat} {img : List UInt8} (hf : img.length ≤ K * z) {M : Mtx} (h : Ech (K + P) z M) (hs : Snd12 z (pieces s K P z img) M) (hr : rank M = K + P) : joinF img.length ((dats M (K + P)).take K) = img := by
  rw [full_dats s hf h hs hr]
  have : (pieces s K P z img).take K = bsplit img K z K := by
    unfold pieces ball
    rw [List.take_append_of_le_length (by rw [bsplit_len]; exact Nat.le_refl _), List.take_of_length_le (by rw [bsplit_len]; exact Nat.le_refl _)]
  rw [this]
  exact join_all hf

end Go.Proofs.YtijhaeapoapgfaaGreatDoor

set_option linter.unusedVariables false
set_option linter.unusedSimpArgs false
namespace Go.Proofs.YtijhaeapoapgfaaGreatDoor
open Go.RowKit

/-- A symbol as a row. -/
def symR (s : UInt32) (nK P z : Nat) (img : List UInt8) (id : UInt32) : Rw := ⟨rowN s nK P id, symb s nK P z img id⟩

/-- A decoder's matrix that has heard symbols of an image. -/
structure Sd (s : UInt32) (nK P z : Nat) (img : List UInt8) (M : Mtx) : Prop where
  e : Ech (nK + P) z M
  d : Snd12 z (pieces s nK P z img) M
  p : ∀ j, j < P → inS M (parX s nK (nK + P) j nK)

theorem symR_lt (s : UInt32) (nK P z : Nat) (img : List UInt8) (id : UInt32) : (symR s nK P z img id).x < 2 ^ (nK + P) := rowN_lt s nK P id
theorem Fits.sym_len {nK P z : Nat} {img : List UInt8} (hF : Fits nK P z img) (s : UInt32) (id : UInt32) : (symb s nK P z img id).length = z := symb_len hF.k1 (by have := hF.k2; have := hF.p2; omega) hF.f
theorem Sd.start {nK P z : Nat} {img : List UInt8} (hF : Fits nK P z img) (s : UInt32) : Sd s nK P z img (pmx s nK P z P) := by
  refine ⟨pmx_ech s nK P z P, ?_, fun j hj => pmx_in s nK P z P j hj⟩
  have h := pmx_snd s (z := z) (P := P) (L := bsplit img nK z nK) (bsplit_each hF.f (Nat.le_refl _)) P (Nat.le_refl _)
  rw [bsplit_len] at h
  exact h
theorem Sd.hear {s : UInt32} {nK P z : Nat} {img : List UInt8} {M : Mtx} (hF : Fits nK P z img) (h : Sd s nK P z img M) (id : UInt32) : Sd s nK P z img (mAdd (nK + P) M (symR s nK P z img id)) := by
  have hA : ∀ x ∈ pieces s nK P z img, x.length = z := ball_each (bsplit_each hF.f (Nat.le_refl _))
  have hlt := symR_lt s nK P z img id
  have hl : (symR s nK P z img id).d.length = z := hF.sym_len s id
  have hd : (symR s nK P z img id).d = dotP z (pieces s nK P z img) (symR s nK P z img id).x := symb_dot s hF.k1 (by have := hF.k2; have := hF.p2; omega) id
  obtain ⟨a1, _⟩ := mAdd_in h.e hlt hl
  exact ⟨mAdd_ech h.e hlt hl, mAdd_snd hA h.e h.d hlt hd, fun j hj => a1 _ (h.p j hj)⟩
theorem Sd.image {s : UInt32} {nK P z : Nat} {img : List UInt8} {M : Mtx} (hF : Fits nK P z img) (h : Sd s nK P z img M) (hr : rank M = nK + P) : joinF img.length ((dats M (nK + P)).take nK) = img :=
  full_image s hF.f h.e h.d hr
theorem Sd.rank_le {s : UInt32} {nK P z : Nat} {img : List UInt8} {M : Mtx} (h : Sd s nK P z img M) : rank M ≤ nK + P := by
  have := _root_.Go.Proofs.YtijhaeapoapgfaaGreatDoor.rank_le M
  rw [h.e.l] at this
  exact this
theorem Sd.again {s : UInt32} {nK P z : Nat} {img : List UInt8} {M : Mtx} (hF : Fits nK P z img) (h : Sd s nK P z img M) (id : UInt32) (r : Rw) (hr : r.x = rowN s nK P id) : (red (mAdd (nK + P) M (symR s nK P z img id)) r).x = 0 := by
  rw [red_in, hr]
  exact (mAdd_in h.e (symR_lt s nK P z img id) (hF.sym_len s id)).2

/-- What is heard, one symbol behind another. -/
def hears (s : UInt32) (nK P z : Nat) (img : List UInt8) (M : Mtx) (l : List UInt32) : Mtx := l.foldl (fun M id => mAdd (nK + P) M (symR s nK P z img id)) M
theorem hears_snoc (s : UInt32) (nK P z : Nat) (img : List UInt8) (M : Mtx) (l : List UInt32) (id : UInt32) : hears s nK P z img M (l ++ [id]) = mAdd (nK + P) (hears s nK P z img M l) (symR s nK P z img id) := by unfold hears; rw [List.foldl_append]; rfl
theorem Sd.hears {s : UInt32} {nK P z : Nat} {img : List UInt8} (hF : Fits nK P z img) : ∀ (l : List UInt32) {M : Mtx}, Sd s nK P z img M → Sd s nK P z img (hears s nK P z img M l)
  | [], _, h => h
  | id :: l, _, h => Sd.hears hF l (h.hear hF id)
theorem hears_in {s : UInt32} {nK P z : Nat} {img : List UInt8} (hF : Fits nK P z img) : ∀ (l : List UInt32) {M : Mtx}, Sd s nK P z img M → (∀ x, inS M x → inS (hears s nK P z img M l) x) ∧ ∀ id ∈ l, inS (hears s nK P z img M l) (rowN s nK P id)
  | [], _, h => ⟨fun _ hx => hx, fun id hi => by cases hi⟩
  | id :: l, M, h => by
    obtain ⟨b1, b2⟩ := hears_in hF l (h.hear hF id)
    obtain ⟨a1, a2⟩ := mAdd_in h.e (symR_lt s nK P z img id) (hF.sym_len s id)
    refine ⟨fun x hx => b1 x (a1 x hx), fun id' hi => ?_⟩
    rcases List.mem_cons.1 hi with rfl | hi
    · exact b1 _ a2
    · exact b2 id' hi
theorem hears_rank_le {s : UInt32} {nK P z : Nat} {img : List UInt8} (hF : Fits nK P z img) : ∀ (l : List UInt32) {M : Mtx}, Sd s nK P z img M → rank (hears s nK P z img M l) ≤ rank M + l.length
  | [], _, _ => Nat.le_refl _
  | id :: l, M, h => by
    have h1 := hears_rank_le hF l (h.hear hF id)
    have h2 : rank (mAdd (nK + P) M (symR s nK P z img id)) ≤ rank M + 1 := by
      by_cases e : (red M (symR s nK P z img id)).x = 0
      · rw [mAdd_rank0 e]; omega
      · rw [mAdd_rank1 h.e (symR_lt s nK P z img id) (hF.sym_len s id) e]; exact Nat.le_refl _
    show rank (hears s nK P z img (mAdd (nK + P) M (symR s nK P z img id)) l) ≤ rank M + (l.length + 1)
    omega
/-- The first K tell all. -/
theorem hears_full {s : UInt32} {nK P z : Nat} {img : List UInt8} (hF : Fits nK P z img) {M : Mtx} (h : Sd s nK P z img M) {l : List UInt32} (hl : ∀ i, i < nK → ∃ id ∈ l, id.toNat = i) : rank (hears s nK P z img M l) = nK + P := by
  obtain ⟨a1, a2⟩ := hears_in hF l h
  refine enough s (Sd.hears hF l h).e (fun j hj => a1 _ (h.p j hj)) (fun i hi => ?_)
  obtain ⟨id, hm, rfl⟩ := hl i hi
  have := a2 id hm
  rwa [rowN_unit s hi] at this

end Go.Proofs.YtijhaeapoapgfaaGreatDoor

set_option linter.unusedVariables false
set_option linter.unusedSimpArgs false
namespace Go.Proofs.YtijhaeapoapgfaaGreatDoor
open Go.RowKit

/-- What is done to blocks of other kinds makes no difference to a decoder. -/
theorem De.keepsT {S : List Nat} {w w' : World} {p : Nat} {s : UInt32} {nK P z : Nat} {M : Mtx} {tk : Nat} {Fl : List Nat} (h : De w p s nK P z M tk Fl) (k : Keeps S w w') (hS : ∀ x ∈ S, x ∉ Fl) (hf : ∀ x, x ∈ S → ∃ t cs, Blk w x t cs ∧ 5 ≠ t ∧ 22 ≠ t) : De w' p s nK P z M tk Fl := by
  obtain ⟨pm, Fm, d, v, hb, hm, he, hfl, hn, ho⟩ := h
  subst hfl
  refine ⟨pm, Fm, d, v, hb.keeps k (fun hp => hS p hp (by simp)), hm.keeps k (fun x hx hm => hS x hx (by simp [hm])), he, rfl, hn, ?_⟩
  rcases ho with ho | ⟨h1, h2, h3⟩
  · exact .inl ho
  · exact .inr ⟨h1, h2, h3.keepsP k hf⟩
theorem De.blk {w : World} {p : Nat} {s : UInt32} {nK P z : Nat} {M : Mtx} {tk : Nat} {Fl : List Nat} (h : De w p s nK P z M tk Fl) : p ∈ Fl ∧ ∃ cs, Blk w p 150 cs := by
  obtain ⟨pm, Fm, d, v, hb, hm, he, hfl, hn, ho⟩ := h
  exact ⟨by rw [hfl]; simp, _, hb⟩

theorem Fits.ne {nK P z : Nat} {img : List UInt8} (h : Fits nK P z img) : img ≠ [] := by
  rintro rfl
  have h1 := h.c
  have h2 := h.k1
  simp [bcount] at h1
  omega
theorem RdA.bound {Q : Nat → Prop} {w : World} {u : Value} {x : List UInt8} (h : RdA Q w u x) (hx : x ≠ []) : RdA (fun b => Q b ∧ b < w.heap.size) w u x := by
  refine ⟨h.1, fun a n c e => ⟨h.2 a n c e, ?_⟩⟩
  obtain ⟨a', c', e', h1, h2, h3, h4, h5⟩ := h.1
  rw [e] at e'
  simp only [Value.slice.injEq] at e'
  obtain ⟨cs, hb⟩ := h5 a e'.1.symm hx
  exact hb.lt
theorem PcsA.bound {w : World} {B : Nat} {Q : Nat → Prop} {v : Value} {L : List (List UInt8)} (h : PcsA w B Q v L) (hv : Up Q v) (hL : ∀ x ∈ L, x ≠ []) : PcsA w B (fun b => Q b ∧ b < w.heap.size) v L ∧ Up (fun b => Q b ∧ b < w.heap.size) v := by
  obtain ⟨vs, hO, hl, he⟩ := h
  refine ⟨⟨vs, hO, hl, fun i x hx => ?_⟩, fun a n c e => ⟨hv a n c e, ?_⟩⟩
  · obtain ⟨u, hu, hr⟩ := he i x hx
    exact ⟨u, hu, hr.bound (hL x (List.mem_of_getElem? hx))⟩
  · rcases hO.2 with ⟨rfl, h0⟩ | ⟨g, cap, cur, rfl, hb, hg, _⟩
    · cases e
    · simp only [Value.slice.injEq, Option.some.injEq] at e
      rw [← e.1]
      exact (Array.getElem?_eq_some_iff.1 hg).1
theorem Hd.bound {w : World} {Q : Nat → Prop} {p : Nat} {s : UInt32} {nK P z : Nat} {img : List UInt8} (h : Hd w Q p s nK P z img) : Hd w (fun b => Q b ∧ b < w.heap.size) p s nK P z img := by
  obtain ⟨hf, hq, vi, d, v, hb, hi, hv⟩ := h
  refine ⟨hf, ⟨hq, hb.lt⟩, vi, d, v, hb, hi.bound hf.ne, ?_⟩
  rcases hv with hv | ⟨hd, hv, hu⟩
  · exact .inl hv
  · obtain ⟨a1, a2⟩ := hv.bound hu (fun x hx => by
      have h1 := pieces_each (s := s) (P := P) hf.f x hx
      have h2 := hf.z1
      intro h3
      rw [h3] at h1
      simp at h1
      omega)
    exact .inr ⟨hd, a1, a2⟩
theorem Hd.blk {w : World} {Q : Nat → Prop} {p : Nat} {s : UInt32} {nK P z : Nat} {img : List UInt8} (h : Hd w Q p s nK P z img) : ∃ cs, Blk w p 129 cs := by obtain ⟨_, _, vi, d, v, hb, _⟩ := h; exact ⟨_, hb⟩

theorem RdS.str {w : World} {v : Value} {x : List UInt8} (h : RdS w v x) : (convert 22 9 v).run Tryz.prog w = .ok (.string ⟨x.toArray⟩) w := by
  obtain ⟨a, c, rfl, _, _, r3, r4, _⟩ := h
  exact str_run x.length c r3 rfl (fun h => (r4 h).1)
/-- A head and a decoder, all of whose blocks were made since the world w0. -/
structure Duo (w0 w : World) (ph pd : Nat) (s : UInt32) (nK P z : Nat) (img : List UInt8) (M : Mtx) (tk : Nat) (Q : Nat → Prop) (Fl : List Nat) : Prop where
  k : Keeps [] w0 w
  h : Hd w Q ph s nK P z img
  d : De w pd s nK P z M tk Fl
  q : ∀ x, Q x → w0.heap.size ≤ x ∧ x < w.heap.size
  f : ∀ x ∈ Fl, w0.heap.size ≤ x ∧ ¬ Q x
  sd : Sd s nK P z img M
  t : tk + P = rank M
  tz : TzAt w0

theorem Duo.keepsNil {w0 w w' : World} {ph pd : Nat} {s : UInt32} {nK P z : Nat} {img : List UInt8} {M : Mtx} {tk : Nat} {Q : Nat → Prop} {Fl : List Nat} (h : Duo w0 w ph pd s nK P z img M tk Q Fl) (k : Keeps [] w w') : Duo w0 w' ph pd s nK P z img M tk Q Fl :=
  ⟨h.k.trans k, h.h.keepsNil k, h.d.keepsNil k, fun x hx => ⟨(h.q x hx).1, Nat.lt_of_lt_of_le (h.q x hx).2 k.size⟩, h.f, h.sd, h.t, h.tz⟩
theorem Duo.keeps {S : List Nat} {w0 w w' : World} {ph pd : Nat} {s : UInt32} {nK P z : Nat} {img : List UInt8} {M : Mtx} {tk : Nat} {Q : Nat → Prop} {Fl : List Nat} (h : Duo w0 w ph pd s nK P z img M tk Q Fl) (k : Keeps S w w') (hS : ∀ x ∈ S, w0.heap.size ≤ x ∧ ¬ Q x ∧ x ∉ Fl) (hf : rank M = nK + P → Keeps [] w w') : Duo w0 w' ph pd s nK P z img M tk Q Fl :=
  ⟨h.k.trans' k (fun _ h => .inl h) (fun x hx => .inr (hS x hx).1), h.h.keeps k (fun x hx => (hS x hx).2.1), h.d.keeps k (fun x hx => (hS x hx).2.2) hf, fun x hx => ⟨(h.q x hx).1, Nat.lt_of_lt_of_le (h.q x hx).2 k.size⟩, h.f, h.sd, h.t, h.tz⟩
theorem Duo.tzw {w0 w : World} {ph pd : Nat} {s : UInt32} {nK P z : Nat} {img : List UInt8} {M : Mtx} {tk : Nat} {Q : Nat → Prop} {Fl : List Nat} (h : Duo w0 w ph pd s nK P z img M tk Q Fl) : TzAt w := h.tz.keeps h.k (by simp)
theorem Duo.tk_le {w0 w : World} {ph pd : Nat} {s : UInt32} {nK P z : Nat} {img : List UInt8} {M : Mtx} {tk : Nat} {Q : Nat → Prop} {Fl : List Nat} (h : Duo w0 w ph pd s nK P z img M tk Q Fl) : tk ≤ 1000000 := by
  have h1 := h.sd.rank_le
  have h2 := h.t
  have h3 := h.h.fits.k2
  have h4 := h.h.fits.p2
  omega

def DuoSym (w0 w : World) (ph pd : Nat) (s : UInt32) (nK P z : Nat) (img : List UInt8) (M : Mtx) (tk : Nat) (Q : Nat → Prop) (Fl : List Nat) (id : UInt32) (e : Ending) (w' : World) : Prop :=
  ∃ g Q', e = .returned (.slice (some ⟨g, 0, none⟩) z z) ∧ Rd w' (some ⟨g, 0, none⟩) (symb s nK P z img id) ∧ Blk w' g 5 ((symb s nK P z img id).map B8) ∧ w.heap.size ≤ g ∧ Duo w0 w' ph pd s nK P z img M tk Q' Fl ∧ (∀ x, Q' x → Q x ∨ w.heap.size ≤ x) ∧ Keeps [ph] w w'
theorem Duo.sym_calls {w0 w : World} {ph pd : Nat} {s : UInt32} {nK P z : Nat} {img : List UInt8} {M : Mtx} {tk : Nat} {Q : Nat → Prop} {Fl : List Nat} (h : Duo w0 w ph pd s nK P z img M tk Q Fl) (id : UInt32) :
    Calls Tryz.prog 34 #[P0 ph, B32 id] w (DuoSym w0 w ph pd s nK P z img M tk Q Fl id) := by
  refine (hdsymbol_calls h.h id).mono ?_
  rintro e w' ⟨g, rfl, hg, hb, hH, k⟩
  have hk0 := h.k.size
  have hph : Q ph := h.h.q
  have hdl := h.d.lt
  refine ⟨g, _, rfl, Rd.blk hb 0 _ (fun j u hu => by rw [Nat.zero_add, List.getElem?_map, hu]; rfl), hb, hg, ⟨?_, hH.bound, ?_, fun x hx => ?_, fun x hx => ⟨(h.f x hx).1, ?_⟩, h.sd, h.t, h.tz⟩, fun x hx => hx.1, k⟩
  · exact h.k.trans' k (fun _ h => .inl h) (fun x hx => by simp only [List.mem_singleton] at hx; subst hx; exact .inr (h.q _ hph).1)
  · refine h.d.keepsT k (fun x hx hm => ?_) (fun x hx => ?_)
    · simp only [List.mem_singleton] at hx; subst hx; exact (h.f _ hm).2 hph
    · simp only [List.mem_singleton] at hx; subst hx
      obtain ⟨cs, hb⟩ := h.h.blk
      exact ⟨_, cs, hb, by decide, by decide⟩
  · refine ⟨?_, hx.2⟩
    rcases hx.1 with h1 | h1
    · exact (h.q x h1).1
    · omega
  · rintro ⟨h1 | h1, _⟩
    · exact (h.f x hx).2 h1
    · have := hdl x hx; omega

def DuoTake (w0 w : World) (ph pd : Nat) (s : UInt32) (nK P z : Nat) (img : List UInt8) (M : Mtx) (tk : Nat) (Q : Nat → Prop) (Fl : List Nat) (id : UInt32) (e : Ending) (w' : World) : Prop :=
  ∃ tk' Fl', e = .returned (.bool (decide ((red M (symR s nK P z img id)).x ≠ 0))) ∧ Duo w0 w' ph pd s nK P z img (mAdd (nK + P) M (symR s nK P z img id)) tk' Q Fl' ∧ (∀ x ∈ Fl', x ∈ Fl ∨ w.heap.size ≤ x) ∧ Keeps Fl w w' ∧ (rank M = nK + P → Keeps [] w w')
theorem Duo.take_calls {w0 w : World} {ph pd : Nat} {s : UInt32} {nK P z : Nat} {img : List UInt8} {M : Mtx} {tk : Nat} {Q : Nat → Prop} {Fl : List Nat} (h : Duo w0 w ph pd s nK P z img M tk Q Fl) (id : UInt32) {a : Option Addr} {c : Nat} (hl : Rd w a (symb s nK P z img id)) :
    Calls Tryz.prog 40 #[P0 pd, B32 id, .slice a z c] w (DuoTake w0 w ph pd s nK P z img M tk Q Fl id) := by
  refine (dtake_calls h.d h.h.fits.pm h.tzw h.tk_le id hl (h.h.fits.sym_len s id)).mono ?_
  rintro e w' (⟨h0, rfl, k⟩ | ⟨h0, rfl, F', h1, h2, k, _⟩)
  · refine ⟨tk, Fl, by rw [decide_eq_false (by intro hn; exact hn h0)], ?_, fun x hx => .inl hx, k.nil, fun _ => k⟩
    rw [mAdd_same (r := symR s nK P z img id) h0]
    exact h.keepsNil k
  · have hwk := k.size
    refine ⟨tk + 1, F', by rw [decide_eq_true (show (red M (symR s nK P z img id)).x ≠ 0 from h0)], ⟨?_, h.h.keeps k (fun x hx => (h.f x hx).2), h1, fun x hx => ⟨(h.q x hx).1, by have := (h.q x hx).2; omega⟩, fun x hx => ?_, h.sd.hear h.h.fits id, ?_, h.tz⟩, h2, k, fun hf => ?_⟩
    · exact h.k.trans' k (fun _ h => .inl h) (fun x hx => .inr (h.f x hx).1)
    · rcases h2 x hx with hx | hx
      · exact h.f x hx
      · exact ⟨Nat.le_trans h.k.size hx, fun hq => by have := (h.q x hq).2; omega⟩
    · rw [mAdd_rank1 h.sd.e (symR_lt s nK P z img id) (h.h.fits.sym_len s id) h0, ← h.t]; omega
    · exfalso
      exact h0 (red_in.2 (full_in h.sd.e hf (symR_lt s nK P z img id)))

theorem Duo.start {w0 w1 w1' w2 : World} {ph pd : Nat} {s : UInt32} {nK P z : Nat} {img : List UInt8} {Fl : List Nat} (hH : Hd w1 (w0.heap.size ≤ ·) ph s nK P z img) (k1 : Keeps [] w0 w1) (k1' : Keeps [] w1 w1') (hD : De w2 pd s nK P z (pmx s nK P z P) 0 Fl) (hF : ∀ x ∈ Fl, w1'.heap.size ≤ x) (k2 : Keeps [] w1' w2) (ht : TzAt w0) :
    Duo w0 w2 ph pd s nK P z img (pmx s nK P z P) 0 (fun x => w0.heap.size ≤ x ∧ x < w1.heap.size) Fl := by
  have s1 := k1.size
  have s2 := k1'.size
  have s3 := k2.size
  refine ⟨(k1.trans k1').trans k2, (hH.bound.keepsNil k1').keepsNil k2, hD, fun x hx => by omega, fun x hx => ?_, Sd.start hH.fits s, ?_, ht⟩
  · have := hF x hx
    exact ⟨by omega, fun h => by omega⟩
  · rw [pmx_rank s nK P z P (Nat.le_refl _)]; omega

end Go.Proofs.YtijhaeapoapgfaaGreatDoor

set_option linter.unusedVariables false
set_option linter.unusedSimpArgs false
namespace Go.Proofs.YtijhaeapoapgfaaGreatDoor
open Go.RowKit
attribute [local go_sem ↓] Go.wp_at_zero Go.wp_at_succ

theorem Fits.mf {nK P z n : Nat} {img : List UInt8} (h : Fits nK P z img) (hn : img.length = n) : MfOk n z P nK :=
  ⟨by have := List.length_pos_iff.2 h.ne; omega, by have := h.l; omega, h.k1, h.k2, h.p2, h.z1, h.z2, by rw [← hn]; exact h.c⟩

/-- A head end; all its head's blocks meet Q. -/
structure Car (w0 w : World) (pc ph : Nat) (vk vh : Value) (key : List UInt8) (s v : UInt32) (n nK P z : Nat) (img : List UInt8) (Q : Nat → Prop) : Prop where
  k : Keeps [] w0 w
  b : Blk w pc 75 [vk, B32 s, B32 v, .int .i64 n, .int .i64 z, .int .i64 P, vh, B32 s, .int .i64 nK, .int .i64 P, .int .i64 z, P0 ph]
  kk : RdS w vk key
  hh : RdS w vh (sha img)
  h : Hd w Q ph s nK P z img
  q : ∀ x, Q x → w0.heap.size ≤ x ∧ x < w.heap.size
  p : w0.heap.size ≤ pc ∧ ¬ Q pc
  n : img.length = n

theorem Car.keepsNil {w0 w w' : World} {pc ph : Nat} {vk vh : Value} {key : List UInt8} {s v : UInt32} {n nK P z : Nat} {img : List UInt8} {Q : Nat → Prop} (h : Car w0 w pc ph vk vh key s v n nK P z img Q) (k : Keeps [] w w') : Car w0 w' pc ph vk vh key s v n nK P z img Q :=
  ⟨h.k.trans k, h.b.keeps k (by simp), h.kk.keepsNil k, h.hh.keepsNil k, h.h.keepsNil k, fun x hx => ⟨(h.q x hx).1, Nat.lt_of_lt_of_le (h.q x hx).2 k.size⟩, h.p, h.n⟩
/-- The head has been asked. -/
theorem Car.asked {w0 w w' : World} {pc ph : Nat} {vk vh : Value} {key : List UInt8} {s v : UInt32} {n nK P z : Nat} {img : List UInt8} {Q Q' : Nat → Prop} (h : Car w0 w pc ph vk vh key s v n nK P z img Q) (k : Keeps [ph] w w') (hH : Hd w' Q' ph s nK P z img) (hq : ∀ x, Q' x → (Q x ∨ w.heap.size ≤ x) ∧ x < w'.heap.size) : Car w0 w' pc ph vk vh key s v n nK P z img Q' := by
  have hph := h.h.q
  have hlt := h.b.lt
  have h0 := h.k.size
  have hb : ∀ x, x ∈ [ph] → ∃ t cs, Blk w x t cs ∧ 5 ≠ t := fun x hx => by
    simp only [List.mem_singleton] at hx; subst hx
    obtain ⟨cs, hb⟩ := h.h.blk
    exact ⟨_, cs, hb, by decide⟩
  refine ⟨h.k.trans' k (fun _ h => .inl h) (fun x hx => by simp only [List.mem_singleton] at hx; subst hx; exact .inr (h.q _ hph).1), h.b.keeps k (by simp only [List.mem_singleton]; rintro rfl; exact h.p.2 hph), h.kk.keepsP k hb, h.hh.keepsP k hb, hH, fun x hx => ⟨?_, (hq x hx).2⟩, ⟨h.p.1, fun hp => ?_⟩, h.n⟩
  · rcases (hq x hx).1 with h1 | h1
    · exact (h.q x h1).1
    · omega
  · rcases (hq _ hp).1 with h1 | h1
    · exact h.p.2 h1
    · omega

def CarNew (w : World) (key : List UInt8) (s v : UInt32) (n nK P z : Nat) (img : List UInt8) (e : Ending) (w' : World) : Prop :=
  ∃ pc ph vk vh Q, e = .returned (.tuple #[P0 pc, .int .i64 0]) ∧ Car w w' pc ph vk vh key s v n nK P z img Q

set_option maxRecDepth 100000 in
set_option maxHeartbeats 1600000 in
theorem carnew_calls {w : World} {ak : Option Addr} {nk ck : Nat} {key : List UInt8} (hk : Rd w ak key) (hkn : key.length = nk) (h64 : nk ≤ 64) (hk0 : ak = none → key = []) (s v : UInt32) {ai : Option Addr} {n ci : Nat} {img : List UInt8} (hi : RdS0 w (.slice ai n ci) img) (hn : img.length = n) {nK P z : Nat} (hf : Fits nK P z img) :
    Calls Tryz.prog 8 #[.slice ak nk ck, B32 s, B32 v, .slice ai n ci, .int .i64 z, .int .i64 P] w (CarNew w key s v n nK P z img) := by
  have hm := hf.mf hn
  have hl := hf.l
  obtain ⟨a', c', ea, _, _, r3, r4⟩ := id hi
  simp only [Value.slice.injEq] at ea
  obtain ⟨rfl, hx0, rfl⟩ := ea
  clear hx0
  have HS := Lib.hid (shasum_calls ai n ci img r3 hn (by omega) (fun h => ⟨by rw [← hn, (r4 h).1]; rfl, (r4 h).2⟩))
  have hsl := sha_len img
  obtain ⟨Y, hY⟩ : ∃ Y, Y = sha img := ⟨_, rfl⟩
  rw [← hY] at HS hsl
  have HI := Lib.hid hi
  have HF := Lib.hid hf
  have HM := Lib.hid hm
  have HKy := Lib.hid hk
  have Hsl := Lib.hid hsl
  have HYd := Lib.hid hY
  have HN := Lib.hid hn
  have h64' : (nk : Int) ≤ 64 := by omega
  clear hm hi r3 r4 hf hk hsl hY hl hn
  go_enter Tryz.func8, Tryz.ntmps8
  go_wp2_with fail
  refine HS.out.mono ?_
  rintro e w1 ⟨vh, rfl, hO1, k1⟩
  have hR1 := hO1.rds
  obtain ⟨ah, ch, rfl, _⟩ := id hR1
  rw [Hsl.out] at hR1 ⊢
  have HR1 := Lib.hid hR1
  have hB1 := Blk.newA w1 35 (MfL s v n z P (.slice ah 32 ch)).toArray
  have kA : Keeps [] w1 (w1.alloc (.cells (MfL s v n z P (.slice ah 32 ch)).toArray 35)) := (Keeps.refl [] w1).alloc _
  have HK1 := Lib.hid (k1.trans kA)
  have HKA := Lib.hid kA
  clear hO1 hR1 k1 kA HS
  go_upto_region 2 with (fail)
  generalize w1.alloc (.cells (MfL s v n z P (.slice ah 32 ch)).toArray 35) = w2 at *
  have d0 := hB1.cell' (i := 0) rfl
  have d1 := hB1.cell' (i := 1) rfl
  have d2 := hB1.cell' (i := 2) rfl
  have d3 := hB1.cell' (i := 3) rfl
  have d4 := hB1.cell' (i := 4) rfl
  have d5 := hB1.cell' (i := 5) rfl
  go_wp2_with fail
  refine (mfmay_calls s v ah ch HM.out).mono ?_
  rintro e w3 ⟨rfl, k3⟩
  have hB3 := hB1.keeps k3 (by simp)
  clear d0 d1 d2 d3 d4 d5 hB1
  have d0 := hB3.cell' (i := 0) rfl
  have d1 := hB3.cell' (i := 1) rfl
  have d2 := hB3.cell' (i := 2) rfl
  have d3 := hB3.cell' (i := 3) rfl
  have d4 := hB3.cell' (i := 4) rfl
  have d5 := hB3.cell' (i := 5) rfl
  have HK3 := Lib.hid (HK1.out.trans k3)
  have HKA3 := Lib.hid (HKA.out.trans k3)
  clear k3
  go_wp2_with fail
  refine (of_calls s v (.slice ah 32 ch) HM.out).mono ?_
  rintro e w4 ⟨rfl, k4⟩
  have kB : Keeps [] w4 (w4.alloc (.cells #[B32 s, .int .i64 nK, .int .i64 P, .int .i64 z] 38)) := (Keeps.refl [] w4).alloc _
  have hP := Blk.newA w4 38 #[B32 s, .int .i64 nK, .int .i64 P, .int .i64 z]
  have hB4 := (hB3.keeps k4 (by simp)).keeps kB (by simp)
  have HK4 := Lib.hid ((HK3.out.trans k4).trans kB)
  have HKA4 := Lib.hid ((HKA3.out.trans k4).trans kB)
  clear d0 d1 d2 d3 d4 d5 hB3 k4 kB
  go_upto_region 5 with (fail)
  generalize w4.alloc (.cells #[B32 s, .int .i64 nK, .int .i64 P, .int .i64 z] 38) = w5 at *
  have d0 := hB4.cell' (i := 0) rfl
  have d1 := hB4.cell' (i := 1) rfl
  have d2 := hB4.cell' (i := 2) rfl
  have d3 := hB4.cell' (i := 3) rfl
  have d4 := hB4.cell' (i := 4) rfl
  have d5 := hB4.cell' (i := 5) rfl
  have e0 := hP.cell' (i := 0) rfl
  have e1 := hP.cell' (i := 1) rfl
  have e2 := hP.cell' (i := 2) rfl
  have e3 := hP.cell' (i := 3) rfl
  have hS : ∀ W, Keeps [] w5 W → (W.cell? ⟨w1.heap.size, 0, none⟩ = some (B32 s) ∧ W.cell? ⟨w1.heap.size, 1, none⟩ = some (B32 v) ∧ W.cell? ⟨w1.heap.size, 2, none⟩ = some (.int .i64 n) ∧ W.cell? ⟨w1.heap.size, 3, none⟩ = some (.int .i64 z) ∧ W.cell? ⟨w1.heap.size, 4, none⟩ = some (.int .i64 P) ∧ W.cell? ⟨w1.heap.size, 5, none⟩ = some (.slice ah 32 ch) ∧ W.cell? ⟨w4.heap.size, 0, none⟩ = some (B32 s) ∧ W.cell? ⟨w4.heap.size, 1, none⟩ = some (.int .i64 nK) ∧ W.cell? ⟨w4.heap.size, 2, none⟩ = some (.int .i64 P) ∧ W.cell? ⟨w4.heap.size, 3, none⟩ = some (.int .i64 z)) := fun W k => ⟨k.cell0 d0, k.cell0 d1, k.cell0 d2, k.cell0 d3, k.cell0 d4, k.cell0 d5, k.cell0 e0, k.cell0 e1, k.cell0 e2, k.cell0 e3⟩
  have kd : Keeps [] w5 w5.drew := (Keeps.refl [] w5).drew
  have hCl : ∀ W, Keeps [] w5 W → Calls Tryz.prog 38 #[.slice ak nk ck] W (ClonePost W key) := fun W k => clone_calls ak nk ck key (HKy.out.keepsNil (HK4.out.trans k)) hkn (by omega) hk0
  have hNw : ∀ W, Keeps [] w5 W → Calls Tryz.prog 32 #[.agg #[B32 s, .int .i64 nK, .int .i64 P, .int .i64 z], .slice ai n ci] W (HdNew W s nK P z img) := fun W k => cnew0_calls (HI.out.keepsNil (HK4.out.trans k)) s HF.out
  have HhS := Lib.hid hS
  have HCl := Lib.hid hCl
  have HNw := Lib.hid hNw
  have HR5 := Lib.hid (HR1.out.keepsNil HKA4.out)
  clear hS hCl hNw hB4 hP
  refine wp_region_noPanic ?_
  refine wp_region_held_drew (S := (fun W => W.cell? ⟨w1.heap.size, 0, none⟩ = some (B32 s) ∧ W.cell? ⟨w1.heap.size, 1, none⟩ = some (B32 v) ∧ W.cell? ⟨w1.heap.size, 2, none⟩ = some (.int .i64 n) ∧ W.cell? ⟨w1.heap.size, 3, none⟩ = some (.int .i64 z) ∧ W.cell? ⟨w1.heap.size, 4, none⟩ = some (.int .i64 P) ∧ W.cell? ⟨w1.heap.size, 5, none⟩ = some (.slice ah 32 ch) ∧ W.cell? ⟨w4.heap.size, 0, none⟩ = some (B32 s) ∧ W.cell? ⟨w4.heap.size, 1, none⟩ = some (.int .i64 nK) ∧ W.cell? ⟨w4.heap.size, 2, none⟩ = some (.int .i64 P) ∧ W.cell? ⟨w4.heap.size, 3, none⟩ = some (.int .i64 z))) (by kernel_rfl) (HhS.out _ kd) (fun hHeld => ?_)
  refine wpAnyH_take (i := 0) (v := ?v1_1) rfl (by kernel_rfl) (by kernel_rfl) (by kernel_rfl) (fun _ _ _ h => h) (Or.inl ⟨by rfl, ?y1_1⟩) (by assumption) ?r1_1
  case y1_1 => (intro w hSw; (try dsimp only at hSw); go_simp; try with_reducible rfl)
  (try simp only [Act.put, List.getElem_toArray, List.getElem_cons_zero, List.getElem_cons_succ, List.setIfInBounds_toArray, List.set_cons_zero, List.set_cons_succ])
  refine wpAnyH_take (i := 2) (v := ?v1_2) rfl (by kernel_rfl) (by kernel_rfl) (by kernel_rfl) (fun _ _ _ h => h) (Or.inl ⟨by rfl, ?y1_2⟩) (by assumption) ?r1_2
  case y1_2 => (intro w hSw; (try dsimp only at hSw); go_simp; try with_reducible rfl)
  (try simp only [Act.put, List.getElem_toArray, List.getElem_cons_zero, List.getElem_cons_succ, List.setIfInBounds_toArray, List.set_cons_zero, List.set_cons_succ])
  refine wpAnyH_take (i := 3) (v := ?v1_3) rfl (by kernel_rfl) (by kernel_rfl) (by kernel_rfl) (fun _ _ _ h => h) (Or.inl ⟨by rfl, ?y1_3⟩) (by assumption) ?r1_3
  case y1_3 => (intro w hSw; (try dsimp only at hSw); go_simp; try with_reducible rfl)
  (try simp only [Act.put, List.getElem_toArray, List.getElem_cons_zero, List.getElem_cons_succ, List.setIfInBounds_toArray, List.set_cons_zero, List.set_cons_succ])
  refine wpAnyH_take (i := 4) (v := ?v1_4) rfl (by kernel_rfl) (by kernel_rfl) (by kernel_rfl) (fun _ _ _ h => h) (Or.inl ⟨by rfl, ?y1_4⟩) (by assumption) ?r1_4
  case y1_4 => (intro w hSw; (try dsimp only at hSw); go_simp; try with_reducible rfl)
  (try simp only [Act.put, List.getElem_toArray, List.getElem_cons_zero, List.getElem_cons_succ, List.setIfInBounds_toArray, List.set_cons_zero, List.set_cons_succ])
  refine wpAnyH_take (i := 5) (v := ?v1_5) rfl (by kernel_rfl) (by kernel_rfl) (by kernel_rfl) (fun _ _ _ h => h) (Or.inl ⟨by rfl, ?y1_5⟩) (by assumption) ?r1_5
  case y1_5 => (intro w hSw; (try dsimp only at hSw); go_simp; try with_reducible rfl)
  (try simp only [Act.put, List.getElem_toArray, List.getElem_cons_zero, List.getElem_cons_succ, List.setIfInBounds_toArray, List.set_cons_zero, List.set_cons_succ])
  refine wpAnyH_ready (rs := [1]) (by kernel_rfl) (by simp) ?_
  refine AllReadyH.cons rfl (fun K hK => ?_) AllReadyH.nil
  go_simp
  refine (HCl.out _ kd).mono ?_
  rintro e w6 ⟨v6, rfl, hO6, k6⟩
  replace kd := kd.trans k6
  have hR6 := hO6.rds
  obtain ⟨a6, c6, rfl, _⟩ := id hR6
  rw [hkn] at hR6
  have HR6 := Lib.hid hR6
  clear hR6
  clear hO6
  go_wp2_with fail
  refine hK.out _ _ ?s1_6 (fun hHeld => ?_)
  case s1_6 => ((try dsimp only) <;> (first | exact HhS.out _ kd))
  clear hK K
  (try simp only [Act.put, List.getElem_toArray, List.getElem_cons_zero, List.getElem_cons_succ, List.setIfInBounds_toArray, List.set_cons_zero, List.set_cons_succ])
  refine wpAnyH_ready (rs := [6]) (by kernel_rfl) (by simp) ?_
  refine AllReadyH.cons rfl (fun K hK => ?_) AllReadyH.nil
  go_simp
  refine (HNw.out _ kd).mono ?_
  rintro e w7 ⟨ph, rfl, hph, hH, k7⟩
  replace kd := kd.trans k7
  go_wp2_with fail
  refine hK.out _ _ ?s1_7 (fun hHeld => ?_)
  case s1_7 => ((try dsimp only) <;> (first | exact HhS.out _ kd))
  clear hK K
  (try simp only [Act.put, List.getElem_toArray, List.getElem_cons_zero, List.getElem_cons_succ, List.setIfInBounds_toArray, List.set_cons_zero, List.set_cons_succ])
  refine wpAnyH_take (i := 7) (v := ?v1_8) rfl (by kernel_rfl) (by kernel_rfl) (by kernel_rfl) (fun _ _ _ h => h) (Or.inl ⟨by rfl, ?y1_8⟩) (by assumption) ?r1_8
  case y1_8 => (intro w hSw; (try dsimp only at hSw); go_simp; try with_reducible rfl)
  (try simp only [Act.put, List.getElem_toArray, List.getElem_cons_zero, List.getElem_cons_succ, List.setIfInBounds_toArray, List.set_cons_zero, List.set_cons_succ])
  refine wpAnyH_ready (rs := [8]) (by kernel_rfl) (by simp) ?_
  refine AllReadyH.cons rfl (fun K hK => ?_) AllReadyH.nil
  go_simp
  have kN : Keeps [] w7 (w7.alloc (.cells #[.slice a6 nk c6, B32 s, B32 v, .int .i64 n, .int .i64 z, .int .i64 P, .slice ah 32 ch, B32 s, .int .i64 nK, .int .i64 P, .int .i64 z, P0 ph] 75)) := (Keeps.refl [] w7).alloc _
  refine hK.out _ _ ?s1_9 (fun hHeld => ?_)
  case s1_9 => ((try dsimp only) <;> (first | exact HhS.out _ (kd.trans kN)))
  clear hK K
  (try simp only [Act.put, List.getElem_toArray, List.getElem_cons_zero, List.getElem_cons_succ, List.setIfInBounds_toArray, List.set_cons_zero, List.set_cons_succ])
  refine wpAnyH_take (i := 9) (v := ?v1_10) rfl (by kernel_rfl) (by kernel_rfl) (by kernel_rfl) (fun _ _ _ h => h) (Or.inl ⟨by rfl, ?y1_10⟩) (by assumption) ?r1_10
  case y1_10 => (intro w hSw; (try dsimp only at hSw); go_simp; try with_reducible rfl)
  (try simp only [Act.put, List.getElem_toArray, List.getElem_cons_zero, List.getElem_cons_succ, List.setIfInBounds_toArray, List.set_cons_zero, List.set_cons_succ])
  refine wpAnyH_take (i := 10) (v := ?v1_11) rfl (by kernel_rfl) (by kernel_rfl) (by kernel_rfl) (fun _ _ _ h => h) (Or.inl ⟨by rfl, ?y1_11⟩) (by assumption) ?r1_11
  case y1_11 => (intro w hSw; (try dsimp only at hSw); go_simp; try with_reducible rfl)
  (try simp only [Act.put, List.getElem_toArray, List.getElem_cons_zero, List.getElem_cons_succ, List.setIfInBounds_toArray, List.set_cons_zero, List.set_cons_succ])
  refine wpAnyH_done (by kernel_rfl) ?_ _
  refine NoPanic.normal ?_
  go_wp2_with fail
  go_ret2
  have hs := (HK4.out.trans kd).size
  have hb := Blk.newA w7 75 #[.slice a6 nk c6, B32 s, B32 v, .int .i64 n, .int .i64 z, .int .i64 P, .slice ah 32 ch, B32 s, .int .i64 nK, .int .i64 P, .int .i64 z, P0 ph]
  refine ⟨w7.heap.size, ph, _, _, _, rfl, (HK4.out.trans kd).trans kN, hb, (HR6.out.keepsNil k7).keepsNil kN, ?_, hH.bound.keepsNil kN, fun x hx => ⟨?_, ?_⟩, ⟨hs, fun hx => ?_⟩, HN.out⟩
  · rw [← HYd.out]; exact HR5.out.keepsNil (kd.trans kN)
  · have := hx.1; have h6 := (HK4.out.trans ((Keeps.refl [] w5).drew.trans k6)).size; omega
  · exact Nat.lt_of_lt_of_le hx.2 kN.size
  · have := hx.2; omega

end Go.Proofs.YtijhaeapoapgfaaGreatDoor

set_option linter.unusedVariables false
set_option linter.unusedSimpArgs false
namespace Go.Proofs.YtijhaeapoapgfaaGreatDoor
open Go.RowKit
attribute [local go_sem ↓] Go.wp_at_zero Go.wp_at_succ

set_option maxRecDepth 100000 in
set_option maxHeartbeats 1600000 in
theorem cafirst_calls {w0 w : World} {pc ph : Nat} {vk vh : Value} {key : List UInt8} {s v : UInt32} {n nK P z : Nat} {img : List UInt8} {Q : Nat → Prop} (h : Car w0 w pc ph vk vh key s v n nK P z img Q) (h64 : key.length ≤ 64) :
    Calls Tryz.prog 21 #[P0 pc] w (ClonePost w (wrapM 1 (manM key s v n z P (sha img)))) := by
  have hm := h.h.fits.mf h.n
  have hkk := h.kk
  have hhh := h.hh
  have hsl := sha_len img
  obtain ⟨ah, ch, rfl, _⟩ := id hhh
  rw [hsl] at hhh
  obtain ⟨ak, ck, rfl, _, _, r3, r4, _⟩ := id hkk
  have hb := h.b
  rw [hsl] at hb
  have hB := fun W (k : Keeps [] w W) => (mbytes_calls (r3.keepsNil k) rfl h64 (fun e => r4 e) s v hm (hhh.keepsNil k) hsl : Calls Tryz.prog 60 #[.slice ak key.length ck, MfV s v n z P (.slice ah 32 ch)] W (PlainPost W (manM key s v n z P (sha img))))
  have hml := manM_len (key := key) (s := s) (v := v) (n := n) (z := z) (P := P) hsl
  generalize manM key s v n z P (sha img) = Y at *
  have HB := Lib.hid hB
  have Hml := Lib.hid hml
  have c0 := hb.cell' (i := 0) rfl
  have c1 := hb.cell' (i := 1) rfl
  have c2 := hb.cell' (i := 2) rfl
  have c3 := hb.cell' (i := 3) rfl
  have c4 := hb.cell' (i := 4) rfl
  have c5 := hb.cell' (i := 5) rfl
  have c6 := hb.cell' (i := 6) rfl
  have hS : ∀ W, Keeps [] w W → (W.cell? ⟨pc, 0, none⟩ = some (.slice ak key.length ck) ∧ W.cell? ⟨pc, 1, none⟩ = some (B32 s) ∧ W.cell? ⟨pc, 2, none⟩ = some (B32 v) ∧ W.cell? ⟨pc, 3, none⟩ = some (.int .i64 n) ∧ W.cell? ⟨pc, 4, none⟩ = some (.int .i64 z) ∧ W.cell? ⟨pc, 5, none⟩ = some (.int .i64 P) ∧ W.cell? ⟨pc, 6, none⟩ = some (.slice ah 32 ch)) := fun W k => ⟨k.cell0 c0, k.cell0 c1, k.cell0 c2, k.cell0 c3, k.cell0 c4, k.cell0 c5, k.cell0 c6⟩
  have HhS := Lib.hid hS
  clear hS hB hml hb r3 r4 hkk hhh hm h hsl
  go_enter Tryz.func21, Tryz.ntmps21
  go_upto_region 3 with (fail)
  have kd : Keeps [] w w.drew := (Keeps.refl [] w).drew
  refine wp_region_noPanic ?_
  refine wp_region_held_drew (S := (fun W => W.cell? ⟨pc, 0, none⟩ = some (.slice ak key.length ck) ∧ W.cell? ⟨pc, 1, none⟩ = some (B32 s) ∧ W.cell? ⟨pc, 2, none⟩ = some (B32 v) ∧ W.cell? ⟨pc, 3, none⟩ = some (.int .i64 n) ∧ W.cell? ⟨pc, 4, none⟩ = some (.int .i64 z) ∧ W.cell? ⟨pc, 5, none⟩ = some (.int .i64 P) ∧ W.cell? ⟨pc, 6, none⟩ = some (.slice ah 32 ch))) (by kernel_rfl) (HhS.out _ kd) (fun hHeld => ?_)
  refine wpAnyH_take (i := 0) (v := ?v2_12) rfl (by kernel_rfl) (by kernel_rfl) (by kernel_rfl) (fun _ _ _ h => h) (Or.inl ⟨by rfl, ?y2_12⟩) (by assumption) ?r2_12
  case y2_12 => (intro w hSw; (try dsimp only at hSw); go_simp; try with_reducible rfl)
  (try simp only [Act.put, List.getElem_toArray, List.getElem_cons_zero, List.getElem_cons_succ, List.setIfInBounds_toArray, List.set_cons_zero, List.set_cons_succ])
  refine wpAnyH_take (i := 1) (v := ?v2_13) rfl (by kernel_rfl) (by kernel_rfl) (by kernel_rfl) (fun _ _ _ h => h) (Or.inl ⟨by rfl, ?y2_13⟩) (by assumption) ?r2_13
  case y2_13 => (intro w hSw; (try dsimp only at hSw); go_simp; try with_reducible rfl)
  (try simp only [Act.put, List.getElem_toArray, List.getElem_cons_zero, List.getElem_cons_succ, List.setIfInBounds_toArray, List.set_cons_zero, List.set_cons_succ])
  refine wpAnyH_take (i := 2) (v := ?v2_14) rfl (by kernel_rfl) (by kernel_rfl) (by kernel_rfl) (fun _ _ _ h => h) (Or.inl ⟨by rfl, ?y2_14⟩) (by assumption) ?r2_14
  case y2_14 => (intro w hSw; (try dsimp only at hSw); go_simp; try with_reducible rfl)
  (try simp only [Act.put, List.getElem_toArray, List.getElem_cons_zero, List.getElem_cons_succ, List.setIfInBounds_toArray, List.set_cons_zero, List.set_cons_succ])
  refine wpAnyH_take (i := 3) (v := ?v2_15) rfl (by kernel_rfl) (by kernel_rfl) (by kernel_rfl) (fun _ _ _ h => h) (Or.inl ⟨by rfl, ?y2_15⟩) (by assumption) ?r2_15
  case y2_15 => (intro w hSw; (try dsimp only at hSw); go_simp; try with_reducible rfl)
  (try simp only [Act.put, List.getElem_toArray, List.getElem_cons_zero, List.getElem_cons_succ, List.setIfInBounds_toArray, List.set_cons_zero, List.set_cons_succ])
  refine wpAnyH_take (i := 4) (v := ?v2_16) rfl (by kernel_rfl) (by kernel_rfl) (by kernel_rfl) (fun _ _ _ h => h) (Or.inl ⟨by rfl, ?y2_16⟩) (by assumption) ?r2_16
  case y2_16 => (intro w hSw; (try dsimp only at hSw); go_simp; try with_reducible rfl)
  (try simp only [Act.put, List.getElem_toArray, List.getElem_cons_zero, List.getElem_cons_succ, List.setIfInBounds_toArray, List.set_cons_zero, List.set_cons_succ])
  refine wpAnyH_take (i := 5) (v := ?v2_17) rfl (by kernel_rfl) (by kernel_rfl) (by kernel_rfl) (fun _ _ _ h => h) (Or.inl ⟨by rfl, ?y2_17⟩) (by assumption) ?r2_17
  case y2_17 => (intro w hSw; (try dsimp only at hSw); go_simp; try with_reducible rfl)
  (try simp only [Act.put, List.getElem_toArray, List.getElem_cons_zero, List.getElem_cons_succ, List.setIfInBounds_toArray, List.set_cons_zero, List.set_cons_succ])
  refine wpAnyH_take (i := 6) (v := ?v2_18) rfl (by kernel_rfl) (by kernel_rfl) (by kernel_rfl) (fun _ _ _ h => h) (Or.inl ⟨by rfl, ?y2_18⟩) (by assumption) ?r2_18
  case y2_18 => (intro w hSw; (try dsimp only at hSw); go_simp; try with_reducible rfl)
  (try simp only [Act.put, List.getElem_toArray, List.getElem_cons_zero, List.getElem_cons_succ, List.setIfInBounds_toArray, List.set_cons_zero, List.set_cons_succ])
  refine wpAnyH_take (i := 7) (v := ?v2_19) rfl (by kernel_rfl) (by kernel_rfl) (by kernel_rfl) (fun _ _ _ h => h) (Or.inl ⟨by rfl, ?y2_19⟩) (by assumption) ?r2_19
  case y2_19 => (intro w hSw; (try dsimp only at hSw); go_simp; try with_reducible rfl)
  (try simp only [Act.put, List.getElem_toArray, List.getElem_cons_zero, List.getElem_cons_succ, List.setIfInBounds_toArray, List.set_cons_zero, List.set_cons_succ])
  refine wpAnyH_ready (rs := [8]) (by kernel_rfl) (by simp) ?_
  refine AllReadyH.cons rfl (fun K hK => ?_) AllReadyH.nil
  go_simp
  refine (HB.out _ kd).mono ?_
  rintro e w1 ⟨v1, rfl, hO1, k1⟩
  replace kd := kd.trans k1
  have HO1 := Lib.hid hO1
  clear hO1
  go_wp2_with fail
  refine hK.out _ _ ?s2_20 (fun hHeld => ?_)
  case s2_20 => ((try dsimp only) <;> (first | exact HhS.out _ kd))
  clear hK K
  (try simp only [Act.put, List.getElem_toArray, List.getElem_cons_zero, List.getElem_cons_succ, List.setIfInBounds_toArray, List.set_cons_zero, List.set_cons_succ])
  refine wpAnyH_take (i := 9) (v := ?v2_21) rfl (by kernel_rfl) (by kernel_rfl) (by kernel_rfl) (fun _ _ _ h => h) (Or.inl ⟨by rfl, ?y2_21⟩) (by assumption) ?r2_21
  case y2_21 => (intro w hSw; (try dsimp only at hSw); go_simp; try with_reducible rfl)
  (try simp only [Act.put, List.getElem_toArray, List.getElem_cons_zero, List.getElem_cons_succ, List.setIfInBounds_toArray, List.set_cons_zero, List.set_cons_succ])
  refine wpAnyH_take (i := 10) (v := ?v2_22) rfl (by kernel_rfl) (by kernel_rfl) (by kernel_rfl) (fun _ _ _ h => h) (Or.inl ⟨by rfl, ?y2_22⟩) (by assumption) ?r2_22
  case y2_22 => (intro w hSw; (try dsimp only at hSw); go_simp; try with_reducible rfl)
  (try simp only [Act.put, List.getElem_toArray, List.getElem_cons_zero, List.getElem_cons_succ, List.setIfInBounds_toArray, List.set_cons_zero, List.set_cons_succ])
  refine wpAnyH_take (i := 11) (v := ?v2_23) rfl (by kernel_rfl) (by kernel_rfl) (by kernel_rfl) (fun _ _ _ h => h) (Or.inl ⟨by rfl, ?y2_23⟩) (by assumption) ?r2_23
  case y2_23 => (intro w hSw; (try dsimp only at hSw); go_simp; try with_reducible rfl)
  (try simp only [Act.put, List.getElem_toArray, List.getElem_cons_zero, List.getElem_cons_succ, List.setIfInBounds_toArray, List.set_cons_zero, List.set_cons_succ])
  refine wpAnyH_take (i := 12) (v := ?v2_24) rfl (by kernel_rfl) (by kernel_rfl) (by kernel_rfl) (fun _ _ _ h => h) (Or.inl ⟨by rfl, ?y2_24⟩) (by assumption) ?r2_24
  case y2_24 => (intro w hSw; (try dsimp only at hSw); go_simp; try with_reducible rfl)
  (try simp only [Act.put, List.getElem_toArray, List.getElem_cons_zero, List.getElem_cons_succ, List.setIfInBounds_toArray, List.set_cons_zero, List.set_cons_succ])
  refine wpAnyH_take (i := 13) (v := ?v2_25) rfl (by kernel_rfl) (by kernel_rfl) (by kernel_rfl) (fun _ _ _ h => h) (Or.inl ⟨by rfl, ?y2_25⟩) (by assumption) ?r2_25
  case y2_25 => (intro w hSw; (try dsimp only at hSw); go_simp; try with_reducible rfl)
  (try simp only [Act.put, List.getElem_toArray, List.getElem_cons_zero, List.getElem_cons_succ, List.setIfInBounds_toArray, List.set_cons_zero, List.set_cons_succ])
  refine wpAnyH_done (by kernel_rfl) ?_ _
  refine NoPanic.normal ?_
  clear c0 c1 c2 c3 c4 c5 c6 hHeld HhS
  have hR1 := HO1.out.rds
  obtain ⟨a1, c1, rfl, _⟩ := id hR1
  have hs := kd.size
  rw [Hml.out] at hR1 ⊢
  have HW := Lib.hid (fwrap_calls 1 (by omega) hR1 Hml.out (by omega) : Calls Tryz.prog 61 #[.int .i64 1, .slice a1 76 c1] w1 (PlainPost w1 (wrapM 1 Y)))
  have HK1 := Lib.hid kd
  clear hR1 kd k1
  go_wp2_with fail
  refine HW.out.mono ?_
  rintro e w2 ⟨v2, rfl, hO2, k2⟩
  have HO2 := Lib.hid (hO2.mono hs)
  have HK2 := Lib.hid (HK1.out.trans k2)
  clear hO2 k2 HW
  go_wp2_with fail
  go_ret
  exact ⟨_, rfl, HO2.out, HK2.out⟩

theorem Keeps.cellA {S : List Nat} {w w' : World} {a : Addr} {v : Value} (k : Keeps S w w') (h : w.cell? a = some v) (ha : a.block ∉ S) : w'.cell? a = some v :=
  (World.cell?_of_block (k.block a.block (World.block_lt_of_cell? w _ h) ha)).trans h
/-- Numbers to be read, in another block than p. -/
def IdsN (w : World) (p : Nat) (A : Option Addr) (l : List UInt32) : Prop := ∀ i x, l[i]? = some x → ∃ b o, A = some ⟨b, o, none⟩ ∧ b ≠ p ∧ w.cell? ⟨b, o + i, none⟩ = some (B32 x)
theorem IdsN.keeps {w w' : World} {p : Nat} {A : Option Addr} {l : List UInt32} (h : IdsN w p A l) (k : Keeps [p] w w') : IdsN w' p A l := fun i x hx => by
  obtain ⟨b, o, e, hb, hc⟩ := h i x hx
  exact ⟨b, o, e, hb, k.cellA hc (by simpa using hb)⟩
theorem IdsN.take {w : World} {p : Nat} {A : Option Addr} {l : List UInt32} (h : IdsN w p A l) (k : Nat) : IdsN w p A (l.take k) := fun i x hx => h i x (by
  rw [List.getElem?_take] at hx
  split at hx
  · exact hx
  · cases hx)
theorem IdsN.nil (w : World) (p : Nat) (A : Option Addr) : IdsN w p A [] := fun i x hx => by simp at hx

def enuf (s : UInt32) (nK P z : Nat) (img : List UInt8) (l : List UInt32) : Bool := decide (rank (hears s nK P z img (pmx s nK P z P) l) = nK + P)
def EnPost (w0 w : World) (pc ph : Nat) (vk vh : Value) (key : List UInt8) (s v : UInt32) (n nK P z : Nat) (img : List UInt8) (l : List UInt32) (e : Ending) (w' : World) : Prop :=
  e = .returned (.bool (enuf s nK P z img l)) ∧ Keeps [ph] w w' ∧ ∃ Q, Car w0 w' pc ph vk vh key s v n nK P z img Q

set_option maxRecDepth 100000 in
set_option maxHeartbeats 1600000 in
theorem caenough_calls {w0 w : World} {pc ph : Nat} {vk vh : Value} {key : List UInt8} {s v : UInt32} {n nK P z : Nat} {img : List UInt8} {Q : Nat → Prop} (h : Car w0 w pc ph vk vh key s v n nK P z img Q) (ht : TzAt w0) {A : Option Addr} {m c : Nat} {l : List UInt32} (hl : IdsN w ph A l) (hlm : l.length = m) (hmc : m ≤ c) (hm : m ≤ 1000) :
    Calls Tryz.prog 9 #[P0 pc, .slice A m c] w (EnPost w0 w pc ph vk vh key s v n nK P z img l) := by
  have hf := h.h.fits
  have hN := dnew_calls s nK P z hf.pm (ht.keeps h.k (by simp))
  have c7 := h.b.cell' (i := 7) rfl
  have c8 := h.b.cell' (i := 8) rfl
  have c9 := h.b.cell' (i := 9) rfl
  have c10 := h.b.cell' (i := 10) rfl
  have hmin : min (m : Int) 1000 = (m : Int) := by omega
  have hmi : (m : Int) ≤ (c : Int) := by omega
  have hpp : pc ≠ ph := fun e => h.p.2 (e ▸ h.h.q)
  obtain ⟨M0, hM0⟩ : ∃ M0, M0 = pmx s nK P z P := ⟨_, rfl⟩
  have hSt : Sd s nK P z img M0 := hM0 ▸ Sd.start hf s
  have hrk : rank M0 = P := by rw [hM0]; exact pmx_rank s nK P z P (Nat.le_refl _)
  have hen : ∀ l, enuf s nK P z img l = decide (rank (hears s nK P z img M0 l) = nK + P) := fun l => by rw [hM0]; rfl
  unfold DeNew at hN
  rw [← hM0] at hN
  unfold EnPost
  rw [hen l]
  have HN := Lib.hid hN
  have HC := Lib.hid h
  have HL := Lib.hid hl
  have HF := Lib.hid hf
  have HSt := Lib.hid hSt
  have Hrk := Lib.hid hrk
  have Htz := Lib.hid ht
  clear hN h hl hf hSt hM0 hrk ht hen
  go_enter Tryz.func9, Tryz.ntmps9
  go_wp2_with fail
  refine HN.out.mono ?_
  rintro e w1 ⟨pd, Fl0, rfl, hD, hFl, k1⟩
  have HD0 : Hid (Duo w0 w1 ph pd s nK P z img M0 0 Q Fl0) := Lib.hid ⟨HC.out.k.trans k1, HC.out.h.keepsNil k1, hD, fun x hx => ⟨(HC.out.q x hx).1, Nat.lt_of_lt_of_le (HC.out.q x hx).2 k1.size⟩, fun x hx => ⟨Nat.le_trans HC.out.k.size (hFl x hx), fun hq => by have := (HC.out.q x hq).2; have := hFl x hx; omega⟩, HSt.out, by rw [Hrk.out]; omega, Htz.out⟩
  have HFl := Lib.hid hFl
  have HK1 : Hid (Keeps [ph] w w1) := Lib.hid k1.nil
  clear hD hFl k1 HN c7 c8 c9 c10
  go_wp2_with fail
  go_loopw [21] (fun i wr => ∃ (k tk : Nat) (Q' : Nat → Prop) (Fl : List Nat), k ≤ m ∧ i = .int .i64 k ∧ Duo w0 wr ph pd s nK P z img (hears s nK P z img M0 (l.take k)) tk Q' Fl ∧ (∀ x ∈ Fl, w.heap.size ≤ x) ∧ (∀ x, Q' x → Q x ∨ w.heap.size ≤ x) ∧ Keeps [ph] w wr) (fun i _ => m - (intOf i).toNat)
  case atStart => exact ⟨0, 0, Q, Fl0, Nat.zero_le _, rfl, HD0.out, HFl.out, fun x hx => .inl hx, HK1.out⟩
  case round =>
    clear HD0 HFl HK1
    obtain ⟨k, tk, Q', Fl, hk, rfl, hD, hFl, hQ, hK⟩ := hrel
    by_cases hlt : k < m
    · have hki : (k : Int) < (m : Int) := by omega
      have hkl : k < l.length := by omega
      obtain ⟨b, o, rfl, hb, hc⟩ := (HL.out.keeps hK) k l[k] (List.getElem?_eq_getElem hkl)
      have hsn : hears s nK P z img M0 (l.take (k + 1)) = mAdd (nK + P) (hears s nK P z img M0 (l.take k)) (symR s nK P z img l[k]) := by
        rw [List.take_add_one, List.getElem?_eq_getElem hkl, Option.toList_some, hears_snoc]
      generalize l[k] = id at *
      generalize hears s nK P z img M0 (l.take k) = M at *
      have Hsn := Lib.hid hsn
      have c11 := (HC.out.b.keeps hK (by simpa using hpp)).cell' (i := 11) rfl
      have HS := Lib.hid (hD.sym_calls id)
      have HFl := Lib.hid hFl
      have HQ := Lib.hid hQ
      have HK := Lib.hid hK
      have hwr := hK.size
      clear hsn hD hFl hQ hK
      go_wp2_with fail
      refine HS.out.mono ?_
      rintro e w2 ⟨g, Q2, rfl, hR2, _, _, hD2, hQ2, k2⟩
      have HT := Lib.hid (hD2.take_calls (c := z) id hR2)
      have HQ2 := Lib.hid (show ∀ x, Q2 x → Q x ∨ w.heap.size ≤ x from fun x hx => by
        rcases hQ2 x hx with h1 | h1
        · exact HQ.out x h1
        · exact .inr (Nat.le_trans hwr h1))
      have HK2 := Lib.hid (HK.out.trans' k2 (T := [ph]) (fun _ h => .inl h) (fun x hx => .inl hx))
      clear hR2 hD2 hQ2 k2 HS c11 hc
      go_wp2_with fail
      refine HT.out.mono ?_
      rintro e w3 ⟨tk', Fl', rfl, hD3, hF3, k3, _⟩
      have hw2 := HK2.out.size
      have HF3 := Lib.hid (show ∀ x ∈ Fl', w.heap.size ≤ x from fun x hx => by
        rcases hF3 x hx with h1 | h1
        · exact HFl.out x h1
        · omega)
      have HK3 := Lib.hid (HK2.out.trans' k3 (T := [ph]) (fun _ h => .inl h) (fun x hx => .inr (HFl.out x hx)))
      have HD3 := Lib.hid hD3
      clear hF3 k3 hD3 HT
      go_wp2_with fail
      go_roundw
      case rel => exact ⟨k + 1, tk', Q2, Fl', by omega, by go_num, by rw [Hsn.out]; exact HD3.out, HF3.out, HQ2.out, HK3.out⟩
      case measure => simp [intOf]; omega
    · obtain rfl : k = m := by omega
      have hlt' : l.take k = l := by rw [← hlm]; exact List.take_length
      rw [hlt'] at hD
      have hNd := dneeds_calls hD.d HF.out.pm
      have hle := hD.sd.rank_le
      obtain ⟨M, hMd⟩ : ∃ M, M = hears s nK P z img M0 l := ⟨_, rfl⟩
      rw [← hMd] at hD hNd hle
      have HMd := Lib.hid hMd
      clear hMd
      have HD := Lib.hid hD
      have HQ := Lib.hid hQ
      have HK := Lib.hid hK
      obtain ⟨nd, hnd⟩ : ∃ nd, nd = nK + P - rank M := ⟨_, rfl⟩
      rw [← hnd] at hNd
      have HNd := Lib.hid hNd
      have hpost : ∀ W, Keeps [] wr W → Keeps [ph] w W ∧ ∃ Q, Car w0 W pc ph vk vh key s v n nK P z img Q := fun W k => by
        have k' := HK.out.trans' k (T := [ph]) (fun _ h => .inl h) (by simp)
        have hd := HD.out.keepsNil k
        exact ⟨k', _, HC.out.asked k' hd.h (fun x hx => ⟨HQ.out x hx, (hd.q x hx).2⟩)⟩
      have HP := Lib.hid hpost
      have Hnd := Lib.hid (show (nd = 0) ↔ rank M = nK + P from by omega)
      clear hD hFl hQ hK hNd hpost hlt hlt' hle hnd
      by_cases h0 : nd = 0
      · subst h0
        have Hd := Lib.hid (show decide (rank M = nK + P) = true from decide_eq_true (Hnd.out.1 rfl))
        go_wp2_with fail
        refine HNd.out.mono ?_
        rintro e w2 ⟨rfl, k2⟩
        go_wp2_with fail
        go_ret
        exact ⟨by rw [← HMd.out, Hd.out]; rfl, HP.out _ k2⟩
      · have Hd := Lib.hid (show decide (rank M = nK + P) = false from decide_eq_false (fun e => h0 (Hnd.out.2 e)))
        have h1 : ¬ ((nd : Int) = 0) := by omega
        have h2 : ((nd : Int) == 0) = false := by simp; omega
        go_wp2_with fail
        refine HNd.out.mono ?_
        rintro e w2 ⟨rfl, k2⟩
        go_wp2_with fail
        go_ret
        exact ⟨by rw [← HMd.out, Hd.out]; rfl, HP.out _ k2⟩

end Go.Proofs.YtijhaeapoapgfaaGreatDoor
