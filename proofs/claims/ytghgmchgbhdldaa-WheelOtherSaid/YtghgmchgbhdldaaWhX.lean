/-
  WhX: what the laws of the wheel share: where a wheel lies; a record's variable; a row of records beside a wheel.
-/
import Derived.Test.YtghgmchgbhdldaaLaw18
import Derived.Test.YtghgmchgbhdldaaWhN
import Derived.Test.YtghgmchgbhdldaaAppZ
set_option linter.unusedVariables false
namespace Go.Proofs.Ytghgmchgbhdldaa
open Go.RowKit

theorem B32_nat {k : Nat} (h : k ≤ 100000) : B32 (UInt32.ofNat k) = .int .u32 (k : Int) := by
  show Value.int .u32 (((UInt32.ofNat k).toNat : Nat) : Int) = _
  rw [UInt32.toNat_ofNat', Nat.mod_eq_of_lt (by omega)]

theorem WhAt.gap {w : World} {p q u : Nat} {g : Option Nat} {F : Fla} {V : Whl} (h : WhAt w p q u g F V) : ∀ y, g = some y → u < y ∧ y < w.heap.size := by
  obtain ⟨v, hv, _, hR⟩ := h.own
  obtain ⟨av, cv, rfl, _, _, _, hvo⟩ := hR.form
  intro y hy
  have := hvo y (by rw [hv, hy])
  omega

theorem WhAt.ltu {w : World} {p q u : Nat} {g : Option Nat} {F : Fla} {V : Whl} (h : WhAt w p q u g F V) : u < w.heap.size := by
  obtain ⟨v, hv, hB, hR⟩ := h.own
  exact hB.lt

/-- Add of a slice that was just made. -/
theorem add_made {w : World} {p q u : Nat} {g : Option Nat} {F : Fla} {V : Whl} (h : WhAt w p q u g F V) (id : UInt32) (s : Nat) (hs : s ≤ 1000) :
    Calls Try.prog 21 #[.pointer (some ⟨u, 0, none⟩), B32 id, .slice (some ⟨w.heap.size, 0, none⟩) s s] (w.alloc (.cells (zeros s) 5)) (AddPost (w.alloc (.cells (zeros s) 5)) p q u g (V.add F id (List.replicate s 0))) := by
  have hk : Keeps [] w (w.alloc (.cells (zeros s) 5)) := (Keeps.refl [] w).alloc _
  have h1 := h.fla.ltp
  have h2 := h.fla.ltq
  have h3 := h.ltu
  have hA := add_calls (h.keeps hk (by simp)) id (some ⟨w.heap.size, 0, none⟩) s (List.replicate s 0) (zeros_rd w s) (by simp) (by simp) (by omega) (by
    intro x hx _
    simp only [Option.some.injEq] at hx
    subst hx
    refine ⟨by show w.heap.size ≠ p; omega, by show w.heap.size ≠ q; omega, by show w.heap.size ≠ u; omega, fun hg => ?_⟩
    have : w.heap.size < w.heap.size := (h.gap _ hg).2
    omega)
  rwa [List.length_replicate] at hA

/-- What Add keeps, where all of the wheel and its flash is younger than a. -/
theorem Keeps.addTo {a b c : World} {p q u : Nat} {g : Option Nat} (h : Keeps [] a b) (k : Keeps (p :: q :: u :: g.toList) b c) (hp : a.heap.size ≤ p) (hq : a.heap.size ≤ q) (hu : a.heap.size ≤ u) (hg : ∀ y, g = some y → u < y) : Keeps [] a c := by
  refine h.trans' (T := []) k (by simp) (fun x hx => .inr ?_)
  simp only [List.mem_cons] at hx
  rcases hx with rfl | rfl | rfl | hx
  · exact hp
  · exact hq
  · exact hu
  · have := hg x (by simpa using hx)
    omega

/-- What a wheel and its flash do not lie in. -/
def Beside (m p q u : Nat) (g : Option Nat) (b : Nat) : Prop := m ≤ b ∧ b ≠ p ∧ b ≠ q ∧ b ≠ u ∧ g ≠ some b

/-- A record's variable that lies in block rb, beside a slice that grows. -/
structure RAt (w : World) (v : Value) (m rb : Nat) : Prop where
  blk : Blk w rb 43 [.int .u32 0, .slice none 0 0]
  ne : ∀ x, v.ownBlock = some x → x ≠ rb
  ge : m ≤ rb

theorem RAt.grow {w w' : World} {v v' : Value} {m rb : Nat} (h : RAt w v m rb) (hG : w.grownBy w' v.ownBlock) (hB : ∀ x, v'.ownBlock = some x → v.ownBlock = some x ∨ w.heap.size ≤ x) : RAt w' v' m rb := by
  have hk : Keeps v.ownBlock.toList w w' := (Keeps.refl _ w).grown hG (by intro k hk; rw [hk]; simp)
  refine ⟨h.blk.keeps hk (fun hm => h.ne _ (Option.mem_toList.1 hm) rfl), fun x hx => ?_, h.ge⟩
  rcases hB x hx with h1 | h1
  · exact h.ne x h1
  · have := h.blk.lt
    omega

theorem RAt.new {w : World} {B m : Nat} {v : Value} {l : List UInt8} (h : Own w B v l) (hm : m ≤ w.heap.size) : RAt (w.alloc (.cells #[.int .u32 0, .slice none 0 0] 43)) v m w.heap.size := by
  refine ⟨Blk.newA w 43 #[.int .u32 0, .slice none 0 0], fun x hx => ?_, hm⟩
  rcases h.2 with ⟨rfl, _⟩ | ⟨g, cap, cur, rfl, hb, hg, rest⟩
  · simp [Value.ownBlock] at hx
  · simp [Value.ownBlock] at hx
    subst hx
    have := (Array.getElem?_eq_some_iff.1 hg).1
    omega

theorem RAt.two {w : World} {v : Value} {m rb : Nat} (h : RAt w v m rb) (x y : Value) {a : Addr} {u : Value} (ha : w.cell? a = some u) (hm : a.block < m) : ((w.setCell ⟨rb, 0, none⟩ x).setCell ⟨rb, 1, none⟩ y).cell? a = some u := by
  have k : Keeps [rb] w ((w.setCell ⟨rb, 0, none⟩ x).setCell ⟨rb, 1, none⟩ y) := ((Keeps.refl [rb] w).setCell (by simp) x).setCell (by simp) y
  have := h.ge
  exact (World.cell?_of_block (a := a) (k.block a.block (World.block_lt_of_cell? w _ ha) (by simp; omega))).trans ha

theorem Own.weaken {w : World} {B B' : Nat} {v : Value} {l : List UInt8} (h : Own w B v l) (hB : B' ≤ B) : Own w B' v l := by
  refine ⟨h.1, ?_⟩
  rcases h.2 with hn | ⟨g, cap, cur, he, hb, rest⟩
  · exact .inl hn
  · exact .inr ⟨g, cap, cur, he, Nat.le_trans hB hb, rest⟩

/-- The record that is added: its variable in block rb, its bytes in block dg. -/
def RecVar (w : World) (m rb : Nat) (id : UInt32) (d : List UInt8) : Prop :=
  ∃ dg dc, Blk w rb 43 [B32 id, .slice (some ⟨dg, 0, none⟩) d.length dc] ∧ Rd w (some ⟨dg, 0, none⟩) d ∧ d.length ≤ dc ∧ dc ≤ 9223372036854775807 ∧ m ≤ rb ∧ m ≤ dg ∧ dg < w.heap.size ∧ ∃ cs, Blk w dg 5 cs

theorem RAt.var {w : World} {m m' rb g c s n : Nat} {Y : List UInt8} {r : List Value} (h : RAt w (.slice (some ⟨g, 0, none⟩) n c) m rb) (hb : Blk w g 5 (Y.map B8 ++ r)) (hs : s ≤ Y.length) (hl : Y.length ≤ c) (hc : c ≤ 9223372036854775807) (hg : m ≤ g) (hm : m' ≤ m) (id : UInt32) :
    RecVar ((w.setCell ⟨rb, 0, none⟩ (B32 id)).setCell ⟨rb, 1, none⟩ (.slice (some ⟨g, 0, none⟩) s c)) m' rb id (Y.take s) := by
  have k : Keeps [rb] w ((w.setCell ⟨rb, 0, none⟩ (B32 id)).setCell ⟨rb, 1, none⟩ (.slice (some ⟨g, 0, none⟩) s c)) := ((Keeps.refl [rb] w).setCell (by simp) _).setCell (by simp) _
  have hne : g ≠ rb := h.ne g rfl
  have hlt := hb.lt
  have hrd := (hb.keeps k (by simpa using hne)).rdSub 0 s
  rw [List.drop_zero] at hrd
  have hls : (Y.take s).length = s := by rw [List.length_take]; omega
  refine ⟨g, c, ?_, hrd, by omega, hc, Nat.le_trans hm h.ge, by omega, Nat.lt_of_lt_of_le hlt k.size, _, hb.keeps k (by simpa using hne)⟩
  rw [hls]
  exact Blk.set (Blk.set h.blk 0 _) 1 _

theorem RecVar.new {w : World} {m' g c s : Nat} {Y : List UInt8} {r : List Value} (hb : Blk w g 5 (Y.map B8 ++ r)) (hs : s ≤ Y.length) (hl : Y.length ≤ c) (hc : c ≤ 9223372036854775807) (hg : m' ≤ g) (id : UInt32) :
    RecVar (w.alloc (.cells #[B32 id, .slice (some ⟨g, 0, none⟩) s c] 43)) m' w.heap.size id (Y.take s) := by
  have k : Keeps [] w (w.alloc (.cells #[B32 id, .slice (some ⟨g, 0, none⟩) s c] 43)) := (Keeps.refl [] w).alloc _
  have hlt := hb.lt
  have hrd := (hb.keeps k (by simp)).rdSub 0 s
  rw [List.drop_zero] at hrd
  have hls : (Y.take s).length = s := by rw [List.length_take]; omega
  refine ⟨g, c, ?_, hrd, by omega, hc, by omega, by omega, Nat.lt_of_lt_of_le hlt k.size, _, hb.keeps k (by simp)⟩
  rw [hls]
  exact Blk.newA w 43 #[B32 id, .slice (some ⟨g, 0, none⟩) s c]

theorem WhAt.flash {w w' : World} {p q u : Nat} {g : Option Nat} {F F' : Fla} {V : Whl} (h : WhAt w p q u g F V) (k : Keeps [p, q] w w') (hF : FlaAt w' p q F') : WhAt w' p q u g F' V := by
  obtain ⟨v, hv, hW, hR⟩ := h.own
  have h1 := h.pu
  have h2 := h.qu
  exact ⟨hF, h.s1, h.s2, h.pu, h.qu, h.next, h.lens, h.dat, v, hv, hW.keeps k (by simp; omega), hR.keeps k (by simp; omega)⟩

/-- A row of records grows beside a wheel. -/
theorem WhAt.row {w w' : World} {m p q u : Nat} {g : Option Nat} {F : Fla} {V : Whl} {v : Value} {R : List Rec} (h : WhAt w p q u g F V) (hO : RecsN w (Beside m p q u g) v R) (hG : w.grownBy w' v.ownBlock) : WhAt w' p q u g F V := by
  have hk : Keeps v.ownBlock.toList w w' := (Keeps.refl _ w).grown hG (by intro k hk; rw [hk]; simp)
  obtain ⟨vs, h1, h2, h4, h3⟩ := hO
  obtain ⟨v', hv, hW, hR⟩ := h.own
  have hn : ∀ x, x ∈ v.ownBlock.toList → Beside m p q u g x := fun x hx => h4 x (by simpa using hx)
  refine ⟨h.fla.keeps hk (fun hm => (hn _ hm).2.1 rfl) (fun hm => (hn _ hm).2.2.1 rfl), h.s1, h.s2, h.pu, h.qu, h.next, h.lens, h.dat, v', hv, hW.keeps hk (fun hm => (hn _ hm).2.2.2.1 rfl), hR.keepsT hk (fun x hx => ⟨fun hx2 => (hn x hx).2.2.2.2 (by rw [← hv]; exact hx2), ?_⟩)⟩
  rintro ⟨cs, hcs⟩
  rcases h2.2 with ⟨rfl, _⟩ | ⟨g', cap, cur, rfl, _, hg, _⟩
  · simp [Value.ownBlock] at hx
  · simp [Value.ownBlock] at hx
    subst hx
    unfold Blk at hcs
    rw [hg] at hcs
    simp at hcs

theorem beside_not {m p q u : Nat} {g : Option Nat} : ∀ x, x ∈ p :: q :: u :: g.toList → ¬ Beside m p q u g x := by
  intro x hx hb
  obtain ⟨_, h1, h2, h3, h4⟩ := hb
  simp only [List.mem_cons] at hx
  rcases hx with rfl | rfl | rfl | hx
  · exact h1 rfl
  · exact h2 rfl
  · exact h3 rfl
  · exact h4 (by simpa using hx)

/-- What append(want, r) asks. -/
theorem want_next {w : World} {m p q u : Nat} {g : Option Nat} {F : Fla} {V : Whl} {v : Value} {R : List Rec} (hO : RecsN w (Beside m p q u g) v R) (hW : WhAt w p q u g F V) (hm : m ≤ w.heap.size) (id : UInt32) {D : List UInt8} {dg dc : Nat}
    (hrd : Rd w (some ⟨dg, 0, none⟩) D) (hdl : D.length ≤ dc) (hdm : dc ≤ 9223372036854775807) (hdg : Beside m p q u g dg) (hdo : v.ownBlock ≠ some dg) (hdlt : dg < w.heap.size) (hdb : ∃ cs, Blk w dg 5 cs) :
    RecsN (w.alloc (.cells #[B32 id, .slice (some ⟨dg, 0, none⟩) D.length dc] 43)) (Beside m p q u g) v R ∧
    Blk (w.alloc (.cells #[B32 id, .slice (some ⟨dg, 0, none⟩) D.length dc] 43)) w.heap.size 43 [B32 id, .slice (some ⟨dg, 0, none⟩) D.length dc] ∧
    Slx (w.alloc (.cells #[B32 id, .slice (some ⟨dg, 0, none⟩) D.length dc] 43)) (fun k => Beside m p q u g k ∧ v.ownBlock ≠ some k) (.slice (some ⟨dg, 0, none⟩) D.length dc) D ∧
    (∀ g', (v.ownBlock = some g' ∧ Beside m p q u g g' ∨ g' = (w.alloc (.cells #[B32 id, .slice (some ⟨dg, 0, none⟩) D.length dc] 43)).heap.size) → Beside m p q u g g') := by
  have k : Keeps [] w (w.alloc (.cells #[B32 id, .slice (some ⟨dg, 0, none⟩) D.length dc] 43)) := (Keeps.refl [] w).alloc _
  have h1 := hW.fla.ltp
  have h2 := hW.fla.ltq
  have h3 := hW.ltu
  refine ⟨hO.keeps k (by simp) (fun _ h _ => h), Blk.newA w 43 #[B32 id, .slice (some ⟨dg, 0, none⟩) D.length dc], ⟨some ⟨dg, 0, none⟩, dc, rfl, hdl, hdm, hrd.keepsNil k, by simp, ?_⟩, ?_⟩
  · intro x hx _
    simp only [Option.some.injEq] at hx
    subst hx
    obtain ⟨cs, hcs⟩ := hdb
    exact ⟨⟨hdg, hdo⟩, Nat.lt_of_lt_of_le hdlt k.size, cs, hcs.keeps k (by simp)⟩
  · rintro g' (⟨_, h⟩ | rfl)
    · exact h
    · simp only [World.size_alloc]
      refine ⟨by omega, by omega, by omega, by omega, fun hg => ?_⟩
      have := (hW.gap _ hg).2
      omega

end Go.Proofs.Ytghgmchgbhdldaa
