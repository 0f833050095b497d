/-
  RefWhP: the reference's wheel in memory; two wheels side by side.
-/
import Derived.Test.YtghgmchgbhdldaaRefWh1
import Derived.Test.YtghgmchgbhdldaaRefWhT
set_option linter.unusedVariables false
set_option linter.unusedSimpArgs false
namespace Go.Proofs.Ytghgmchgbhdldaa
open Go.RowKit

/-- Where the reference says a sector's number: -1, or past the slots. -/
def rReady (r : Int) : Int := if r < 0 then -1 else 6 + r

/-- The reference's wheel in memory: its struct in block u, the row of its records in block g; its flash in blocks p and q. -/
structure RWhAt (w : World) (p q u : Nat) (g : Option Nat) (F : Fla) (V : Whl) : Prop where
  fla : RfAt w p q F
  s1 : 1 ≤ V.size
  s2 : V.size ≤ 16
  pu : p < u
  qu : q < u
  next : V.next ≤ 8 * places V.size
  lens : V.l.length ≤ 144 + V.next
  dat : ∀ d, d ∈ V.l → d.2.length = V.size
  own : ∃ v, v.ownBlock = g ∧ RWhB w p u V.gen V.size v (rReady V.ready) V.next ∧ Recs w (u + 1) v V.l

theorem Recs.keepsM {S : List Nat} {w w' : World} {B : Nat} {v : Value} {l : List Rec} (h : Recs w B v l) (k : Keeps S w w') (hS : ∀ x, x ∈ S → x < B ∨ (v.ownBlock ≠ some x ∧ ¬ ∃ cs, Blk w x 5 cs)) : Recs w' B v l := by
  obtain ⟨vs, h1, h2, h3⟩ := h
  refine ⟨vs, h1, ⟨h2.1, ?_⟩, fun i d x hd hx => ?_⟩
  · rcases h2.2 with hn | ⟨g, cap, cur, rfl, hb, hg, rest⟩
    · exact .inl hn
    · exact .inr ⟨g, cap, cur, rfl, hb, (k.block g (Array.getElem?_eq_some_iff.1 hg).1 (fun hm => by
        rcases hS g hm with h | h
        · omega
        · exact h.1 rfl)).trans hg, rest⟩
  · obtain ⟨a, c, rfl, q1, q2, q3, q4, q5⟩ := h3 i d x hd hx
    have hno : ∀ y, a = some y → d.2 ≠ [] → y.block ∉ S := fun y hy hl hm => by
      have := q5 y hy hl
      rcases hS _ hm with h | h
      · have := this.1.1; omega
      · exact h.2 this.2.2
    exact ⟨a, c, rfl, q1, q2, q3.keeps k hno, q4, fun y hy hl => ⟨(q5 y hy hl).1, Nat.lt_of_lt_of_le (q5 y hy hl).2.1 k.size, by obtain ⟨cs, h⟩ := (q5 y hy hl).2.2; exact ⟨cs, h.keeps k (hno y hy hl)⟩⟩⟩

theorem Recs.rowBlk {w : World} {B : Nat} {v : Value} {l : List Rec} (h : Recs w B v l) : ∀ y, v.ownBlock = some y → B ≤ y ∧ y < w.heap.size ∧ ∃ cs, Blk w y 43 cs := by
  obtain ⟨vs, h1, h2, h3⟩ := h
  intro y hy
  rcases h2.2 with ⟨rfl, _⟩ | ⟨g, cap, cur, rfl, hb, hg, rest⟩
  · simp [Value.ownBlock] at hy
  · simp [Value.ownBlock] at hy
    subst hy
    refine ⟨hb, (Array.getElem?_eq_some_iff.1 hg).1, cur.toList, ?_⟩
    unfold Blk
    rw [hg]

theorem not_bytes {w : World} {x : Nat} {t : TypeId} {vs : List Value} (h : Blk w x t vs) (ht : t ≠ 5) : ¬ ∃ cs, Blk w x 5 cs := by
  rintro ⟨cs, h2⟩
  exact h.ne h2 ht rfl

theorem WhAt.keepsM {S : List Nat} {w w' : World} {p q u : Nat} {g : Option Nat} {F : Fla} {V : Whl} (h : WhAt w p q u g F V) (k : Keeps S w w')
    (hS : ∀ x, x ∈ S → x ≠ p ∧ x ≠ q ∧ x ≠ u ∧ (x < u + 1 ∨ (g ≠ some x ∧ ¬ ∃ cs, Blk w x 5 cs))) : WhAt w' p q u g F V := by
  obtain ⟨v, hv, hW, hR⟩ := h.own
  exact ⟨h.fla.keeps k (fun hm => (hS _ hm).1 rfl) (fun hm => (hS _ hm).2.1 rfl), h.s1, h.s2, h.pu, h.qu, h.next, h.lens, h.dat, v, hv, hW.keeps k (fun hm => (hS _ hm).2.2.1 rfl), hR.keepsM k (fun x hx => by rw [hv]; exact (hS x hx).2.2.2)⟩

theorem RWhAt.keepsM {S : List Nat} {w w' : World} {p q u : Nat} {g : Option Nat} {F : Fla} {V : Whl} (h : RWhAt w p q u g F V) (k : Keeps S w w')
    (hS : ∀ x, x ∈ S → x ≠ p ∧ x ≠ q ∧ x ≠ u ∧ (x < u + 1 ∨ (g ≠ some x ∧ ¬ ∃ cs, Blk w x 5 cs))) : RWhAt w' p q u g F V := by
  obtain ⟨v, hv, hW, hR⟩ := h.own
  exact ⟨h.fla.keeps k (fun hm => (hS _ hm).1 rfl) (fun hm => (hS _ hm).2.1 rfl), h.s1, h.s2, h.pu, h.qu, h.next, h.lens, h.dat, v, hv, hW.keeps k (fun hm => (hS _ hm).2.2.1 rfl), hR.keepsM k (fun x hx => by rw [hv]; exact (hS x hx).2.2.2)⟩

/-- What the reference's place tells. -/
theorem rec_none {F : Fla} (hd : F.down = false) {gen : UInt32} {s k : Nat} (hl : (F.place s k).length = s + 13) (h : crcRight ((F.place s k).take (s + 12)) = none) : F.recAt gen s k = none := by
  unfold Fla.recAt
  rw [if_neg (by simp [hd])]
  unfold recOf
  rw [show (F.place s k).length - 1 = s + 12 from by omega, h]
  split <;> rfl
theorem rec_mark {F : Fla} (hd : F.down = false) {gen : UInt32} {s k : Nat} (hl : (F.place s k).length = s + 13) (h : (F.place s k).getD (s + 12) 0 ≠ 0) : F.recAt gen s k = none := by
  unfold Fla.recAt
  rw [if_neg (by simp [hd])]
  unfold recOf
  rw [show (F.place s k).length - 1 = s + 12 from by omega, if_pos h]
theorem rec_some {F : Fla} (hd : F.down = false) {gen : UInt32} {s k : Nat} (hl : (F.place s k).length = s + 13) {m : List UInt8} (h : crcRight ((F.place s k).take (s + 12)) = some m) (h0 : (F.place s k).getD (s + 12) 0 = 0) :
    F.recAt gen s k = if num4 m = gen then some (num4 (m.drop 4), m.drop 8) else none := by
  unfold Fla.recAt
  rw [if_neg (by simp [hd])]
  unfold recOf
  rw [show (F.place s k).length - 1 = s + 12 from by omega, h, if_neg (by simpa using h0)]

theorem rnum4_fold {S : List UInt8} (h : 4 ≤ S.length) : numFold (S.take 4) = num4 S := by
  match S, h with
  | a :: b :: c :: d :: r, _ =>
    unfold numFold num4 be32
    apply UInt32.toNat_inj.1
    have e := be32_toNat a b c d
    unfold be32 at e
    simp only [List.take_succ_cons, List.take_zero, List.foldl_cons, List.foldl_nil]
    show _ = (a.toUInt32 <<< 24 ||| b.toUInt32 <<< 16 ||| c.toUInt32 <<< 8 ||| d.toUInt32).toNat
    rw [e]
    have ha := a.toNat_lt
    have hb := b.toNat_lt
    have hc := c.toNat_lt
    have hd := d.toNat_lt
    have step (y : UInt32) (x : UInt8) (hy : y.toNat < 16777216) : ((y <<< 8) ||| x.toUInt32).toNat = y.toNat * 256 + x.toNat := by
      have hx := x.toNat_lt
      rw [UInt32.toNat_or, UInt32.toNat_shiftLeft, UInt8.toNat_toUInt32]
      show y.toNat <<< 8 % 4294967296 ||| x.toNat = _
      rw [Nat.mod_eq_of_lt (by rw [Nat.shiftLeft_eq]; omega), or_place _ _ 8 hx]
    have z0 : (0 : UInt32).toNat = 0 := rfl
    have s1 := step 0 a (by rw [z0]; omega)
    have s2 := step _ b (show ((0 : UInt32) <<< 8 ||| a.toUInt32).toNat < 16777216 by rw [s1, z0]; omega)
    have s3 := step _ c (show (((0 : UInt32) <<< 8 ||| a.toUInt32) <<< 8 ||| b.toUInt32).toNat < 16777216 by rw [s2, s1, z0]; omega)
    have s4 := step _ d (show ((((0 : UInt32) <<< 8 ||| a.toUInt32) <<< 8 ||| b.toUInt32) <<< 8 ||| c.toUInt32).toNat < 16777216 by rw [s3, s2, s1, z0]; omega)
    rw [s4, s3, s2, s1, z0]
    omega

/-- A program within flash says OK, or that there is no power. -/
theorem prog_code (l : List UInt8) : ∀ (F : Fla) (a : Nat), (F.prog a l).2 = 0 ∨ (F.prog a l).2 = 11 := by
  induction l with
  | nil => intro F a; exact .inl rfl
  | cons x xs ih =>
    intro F a
    rw [Fla.prog]
    split
    · exact .inr rfl
    · exact ih _ _
theorem program_code {F : Fla} {a : Nat} {l : List UInt8} (h : a + l.length ≤ 3584) : (F.program a l).2 = 0 ∨ (F.program a l).2 = 11 := by
  unfold Fla.program Fla.ready
  by_cases hd : F.down = true
  · simp [hd]
  · rw [if_neg hd, if_neg (by omega)]
    first
      | exact prog_code _ _ _
      | (rw [if_neg (by simp)]; exact prog_code _ _ _)

theorem enters_clear (F : Fla) (ready : Int) (sector : Nat) : F.enters ready sector = if (sector : Int) = ready then (F, 0) else F.clear1 (6 + sector : Nat) := by
  unfold Fla.enters Fla.clear1
  by_cases h : (sector : Int) = ready
  · rw [if_pos (.inl h), if_pos h]
  · rw [if_neg h]
    by_cases hb : F.blank ((6 + sector) * 256 : Nat) 256 = true
    · rw [if_pos (.inr hb)]
      have : F.blank (((6 + sector : Nat) : Int) * 256) 256 = true := by rw [← hb]; rfl
      rw [this]; rfl
    · rw [if_neg (by intro h2; rcases h2 with h2 | h2; exact h h2; exact hb h2)]
      have : F.blank (((6 + sector : Nat) : Int) * 256) 256 = false := by
        have e : F.blank (((6 + sector : Nat) : Int) * 256) 256 = F.blank ((6 + sector) * 256 : Nat) 256 := rfl
        rw [e]; simpa using hb
      rw [this]; rfl

end Go.Proofs.Ytghgmchgbhdldaa
