/-
  LawWhP: the walk of WheelPlays.
-/
import Derived.Test.YtghgmchgbhdldaaRefWh2
import Derived.Test.YtghgmchgbhdldaaRefWh3
import Derived.Test.YtghgmchgbhdldaaWhC
import Derived.Test.YtghgmchgbhdldaaSameR
import Derived.Test.YtghgmchgbhdldaaRows18
import Derived.Test.YtghgmchgbhdldaaLaw18
import Derived.Deep.DeepCutAuto
import Derived.Deep.CutBlock
import Derived.Deep.RegionHeld3
import Derived.Deep.RegionWith
import Derived.Deep.DrawnRows
set_option linter.unusedVariables false
set_option linter.unusedSimpArgs false
namespace Go.Proofs.Ytghgmchgbhdldaa
open Go.RowKit
attribute [local go_sem ↓] Go.wp_at_zero Go.wp_at_succ

theorem Keeps.cellAt {S : List Nat} {w w' : World} {a : Addr} {v : Value} (k : Keeps S w w') (h : w.cell? a = some v) (ha : a.block ∉ S) : w'.cell? a = some v :=
  (World.cell?_of_block (a := a) (k.block a.block (World.block_lt_of_cell? w _ h) ha)).trans h

/-- Two wheels, the code's and the reference's, each over its own flash, hold the same; all lies in blocks from B on. -/
structure Two (w : World) (B p q p2 q2 u u2 : Nat) (F : Fla) (V : Whl) : Prop where
  own : ∃ g g2, WhAt w p q u g F V ∧ RWhAt w p2 q2 u2 g2 F V ∧ (∀ y, g = some y → g2 ≠ some y)
  ne : p ≠ p2 ∧ p ≠ q2 ∧ q ≠ p2 ∧ q ≠ q2
  lt : p < u ∧ q < u ∧ p2 < u ∧ q2 < u ∧ p < u2 ∧ q < u2
  ge : B ≤ p ∧ B ≤ q ∧ B ≤ p2 ∧ B ≤ q2

theorem RWhAt.row {w : World} {p q u : Nat} {g : Option Nat} {F : Fla} {V : Whl} (h : RWhAt w p q u g F V) : ∀ y, g = some y → u < y ∧ y < w.heap.size ∧ ∃ cs, Blk w y 43 cs := by
  obtain ⟨v, rfl, _, hR⟩ := h.own
  intro y hy
  have := hR.rowBlk y hy
  exact ⟨by omega, this.2⟩
theorem WhAt.row' {w : World} {p q u : Nat} {g : Option Nat} {F : Fla} {V : Whl} (h : WhAt w p q u g F V) : ∀ y, g = some y → u < y ∧ y < w.heap.size ∧ ∃ cs, Blk w y 43 cs := by
  obtain ⟨v, rfl, _, hR⟩ := h.own
  intro y hy
  have := hR.rowBlk y hy
  exact ⟨by omega, this.2⟩
theorem WhAt.blk {w : World} {p q u : Nat} {g : Option Nat} {F : Fla} {V : Whl} (h : WhAt w p q u g F V) : ∃ cs, Blk w u 101 cs := by
  obtain ⟨v, _, hW, _⟩ := h.own
  exact ⟨_, hW⟩
theorem RWhAt.blk {w : World} {p q u : Nat} {g : Option Nat} {F : Fla} {V : Whl} (h : RWhAt w p q u g F V) : ∃ cs, Blk w u 55 cs := by
  obtain ⟨v, _, hW, _⟩ := h.own
  exact ⟨_, hW⟩

/-- What the reference's wheel may change leaves the code's as it is. -/
theorem Two.leave {w w' : World} {p q p2 q2 u u2 : Nat} {g g2 : Option Nat} {F F2 : Fla} {V V2 : Whl} (h : WhAt w p q u g F V) (h2 : RWhAt w p2 q2 u2 g2 F2 V2) (hg : ∀ y, g = some y → g2 ≠ some y)
    (ne : p ≠ p2 ∧ p ≠ q2 ∧ q ≠ p2 ∧ q ≠ q2) (lt : p < u ∧ q < u ∧ p2 < u ∧ q2 < u ∧ p < u2 ∧ q < u2) (k : Keeps (p2 :: q2 :: u2 :: g2.toList) w w') : WhAt w' p q u g F V := by
  refine h.keepsM k ?_
  obtain ⟨cs, hu⟩ := h.blk
  obtain ⟨cs2, hu2⟩ := h2.blk
  intro x hx
  simp only [List.mem_cons, Option.mem_toList] at hx
  rcases hx with rfl | rfl | rfl | hx
  · exact ⟨fun e => ne.1 e.symm, fun e => ne.2.2.1 e.symm, by omega, .inl (by omega)⟩
  · exact ⟨fun e => ne.2.1 e.symm, fun e => ne.2.2.2 e.symm, by omega, .inl (by omega)⟩
  · refine ⟨by omega, by omega, ?_, .inr ⟨?_, not_bytes hu2 (by decide)⟩⟩
    · exact hu2.ne hu (by decide)
    · intro e
      obtain ⟨_, _, cs3, h3⟩ := h.row' _ e
      exact hu2.ne h3 (by decide) rfl
  · obtain ⟨q1, _, cs3, h3⟩ := h2.row _ hx
    refine ⟨by omega, by omega, h3.ne hu (by decide), .inr ⟨fun e => hg _ e hx, not_bytes h3 (by decide)⟩⟩

theorem Two.leave2 {w w' : World} {p q p2 q2 u u2 : Nat} {g g2 : Option Nat} {F F2 : Fla} {V V2 : Whl} (h : WhAt w p q u g F V) (h2 : RWhAt w p2 q2 u2 g2 F2 V2) (hg : ∀ y, g = some y → g2 ≠ some y)
    (ne : p ≠ p2 ∧ p ≠ q2 ∧ q ≠ p2 ∧ q ≠ q2) (lt : p < u ∧ q < u ∧ p2 < u ∧ q2 < u ∧ p < u2 ∧ q < u2) (k : Keeps (p :: q :: u :: g.toList) w w') : RWhAt w' p2 q2 u2 g2 F2 V2 := by
  refine h2.keepsM k ?_
  obtain ⟨cs, hu⟩ := h.blk
  obtain ⟨cs2, hu2⟩ := h2.blk
  intro x hx
  simp only [List.mem_cons, Option.mem_toList] at hx
  rcases hx with rfl | rfl | rfl | hx
  · exact ⟨ne.1, ne.2.1, by omega, .inl (by omega)⟩
  · exact ⟨ne.2.2.1, ne.2.2.2, by omega, .inl (by omega)⟩
  · refine ⟨by omega, by omega, ?_, .inr ⟨?_, not_bytes hu (by decide)⟩⟩
    · exact hu.ne hu2 (by decide)
    · intro e
      obtain ⟨_, _, cs3, h3⟩ := h2.row _ e
      exact hu.ne h3 (by decide) rfl
  · obtain ⟨q1, _, cs3, h3⟩ := h.row' _ hx
    refine ⟨by omega, by omega, h3.ne hu2 (by decide), .inr ⟨fun e => hg _ hx e, not_bytes h3 (by decide)⟩⟩

theorem RWhAt.flash {w w' : World} {p q u : Nat} {g : Option Nat} {F F' : Fla} {V : Whl} (h : RWhAt w p q u g F V) (k : Keeps [p, q] w w') (hF : RfAt w' p q F') : RWhAt w' p q u g F' V := by
  obtain ⟨v, hv, hW, hR⟩ := h.own
  have hpu := h.pu
  have hqu := h.qu
  exact ⟨hF, h.s1, h.s2, h.pu, h.qu, h.next, h.lens, h.dat, v, hv, hW.keeps k (by simp; omega), hR.keeps k (by simp; omega)⟩
theorem WhAt.flash' {w w' : World} {p q u : Nat} {g : Option Nat} {F F' : Fla} {V : Whl} (h : WhAt w p q u g F V) (k : Keeps [p, q] w w') (hF : FlaAt w' p q F') : WhAt w' p q u g F' V := by
  obtain ⟨v, hv, hW, hR⟩ := h.own
  have hpu := h.pu
  have hqu := h.qu
  exact ⟨hF, h.s1, h.s2, h.pu, h.qu, h.next, h.lens, h.dat, v, hv, hW.keeps k (by simp; omega), hR.keeps k (by simp; omega)⟩

theorem Two.keepsNil {w w' : World} {B p q p2 q2 u u2 : Nat} {F : Fla} {V : Whl} (h : Two w B p q p2 q2 u u2 F V) (k : Keeps [] w w') : Two w' B p q p2 q2 u u2 F V := by
  obtain ⟨⟨g, g2, h1, h2, hg⟩, ne, lt, ge⟩ := h
  exact ⟨⟨g, g2, h1.keepsM k (by simp), h2.keepsM k (by simp), hg⟩, ne, lt, ge⟩

/-- Both flashes done something to. -/
theorem Two.flash1 {w w' : World} {B p q p2 q2 u u2 : Nat} {F F' : Fla} {V : Whl} (h : Two w B p q p2 q2 u u2 F V) (k : Keeps [p, q] w w') (hF : FlaAt w' p q F') :
    ∃ g g2, WhAt w' p q u g F' V ∧ RWhAt w' p2 q2 u2 g2 F V ∧ (∀ y, g = some y → g2 ≠ some y) := by
  obtain ⟨⟨g, g2, h1, h2, hg⟩, ne, lt, ge⟩ := h
  exact ⟨g, g2, h1.flash' k hF, Two.leave2 h1 h2 hg ne lt (k.mono (by simp)), hg⟩
theorem Two.flash2 {w w' : World} {p q p2 q2 u u2 : Nat} {g g2 : Option Nat} {F' F2 : Fla} {V : Whl} (B : Nat) (h1 : WhAt w p q u g F' V) (h2 : RWhAt w p2 q2 u2 g2 F2 V) (hg : ∀ y, g = some y → g2 ≠ some y)
    (ne : p ≠ p2 ∧ p ≠ q2 ∧ q ≠ p2 ∧ q ≠ q2) (lt : p < u ∧ q < u ∧ p2 < u ∧ q2 < u ∧ p < u2 ∧ q < u2) (ge : B ≤ p ∧ B ≤ q ∧ B ≤ p2 ∧ B ≤ q2) (k : Keeps [p2, q2] w w') (hF : RfAt w' p2 q2 F') : Two w' B p q p2 q2 u u2 F' V :=
  ⟨⟨g, g2, Two.leave h1 h2 hg ne lt (k.mono (by simp)), h2.flash k hF, hg⟩, ne, lt, ge⟩

theorem Keeps.new {S : List Nat} {a b c : World} (h : Keeps [] a b) (k : Keeps S b c) (hS : ∀ x, x ∈ S → a.heap.size ≤ x) : Keeps [] a c := h.trans' k (by simp) (fun x hx => .inr (hS x hx))

set_option maxRecDepth 100000 in
set_option maxHeartbeats 10000000 in
theorem wheelPlays_walk {w : World} (wear : Int) (hwear : (Lit.int .i64 wear).wf = true) (sz : Int) (hszw : (Lit.int .i64 sz).wf = true) (gv : Int) (hgv : (Lit.int .u32 gv).wf = true) (A : Option Addr) (c : Nat) (l : List C18) (hm : l.length ≤ maxLen) (hl : Calls18 w A l) :
    Calls Try.prog 8 #[.int .i64 wear, .int .i64 sz, .int .u32 gv, .slice A l.length c] w (TrueKeep w) := by
  rw [u32_back hgv]
  generalize UInt32.ofNat gv.toNat = gen0 at *
  have hfw := few18_calls A c l hl hm
  clear hwear hszw hgv
  cases hfew : fewFrom18 0 l
  · rw [hfew] at hfw
    clear hl hfew
    go_enter Try.func8, Try.ntmps8
    go_wp2_with fail
    refine hfw.mono ?_
    rintro e w1 ⟨rfl, hk1⟩
    go_wp2_with fail
    refine awake18.mono ?_
    rintro e wa ⟨rfl, hKa⟩
    go_wp2_with fail
    go_ret
    exact ⟨rfl, hk1.trans hKa⟩
  rw [hfew] at hfw
  obtain ⟨hl80, hl40⟩ := fewFrom18_len l 0 hfew (by omega)
  have Hl40 := Lib.hid hl40
  clear hfew hl40
  go_enter Try.func8, Try.ntmps8
  go_wp2_with fail
  refine hfw.mono ?_
  rintro e w1 ⟨rfl, hk1⟩
  go_wp2_with fail
  refine (new_calls wear).mono ?_
  rintro e w2 ⟨p, q, rfl, hp, hq, hF, hK2⟩
  go_wp2_with fail
  refine (rnew_calls wear).mono ?_
  rintro e w3 ⟨p2, q2, rfl, hp2, hq2, hR, hK3⟩
  have hF3 := hF.keeps hK3 (by simp) (by simp)
  have hpp := hF.ltp
  have hqq := hF.ltq
  have hs1 := hk1.size
  have hs2 := hK2.size
  have hKw3 := (hk1.trans hK2).trans hK3
  have hne : p ≠ p2 ∧ p ≠ q2 ∧ q ≠ p2 ∧ q ≠ q2 := by refine ⟨?_, ?_, ?_, ?_⟩ <;> omega
  have hge : w.heap.size ≤ p ∧ w.heap.size ≤ q ∧ w.heap.size ≤ p2 ∧ w.heap.size ≤ q2 := by refine ⟨?_, ?_, ?_, ?_⟩ <;> omega
  have Hne := Lib.hid hne
  have Hge := Lib.hid hge
  have hd0 : (Fla.new wear).down = false := rfl
  clear hF hne hge hpp hqq hs1 hs2 hp hq hp2 hq2 hk1 hK2 hK3 hfw
  generalize Fla.new wear = F0 at *
  by_cases hbad : sz < 1 ∨ 16 < sz
  · have ho := open_bad (w := w3) p gen0 sz hbad
    have ho2 := fun w' => ropen_bad (w := w') p2 gen0 sz hbad
    clear hbad hl hd0
    go_wp2_with fail
    refine ho.mono ?_
    rintro e w4 ⟨rfl, hk4⟩
    go_wp2_with fail
    refine (ho2 _).mono ?_
    rintro e w5 ⟨rfl, hk5⟩
    go_wp2_with fail
    refine awake18.mono ?_
    rintro e wa ⟨rfl, hKa⟩
    go_wp2_with fail
    go_ret
    exact ⟨rfl, ((hKw3.trans hk4).trans hk5).trans hKa⟩
  obtain ⟨s0, rfl⟩ : ∃ s0 : Nat, sz = s0 := ⟨sz.toNat, by omega⟩
  have hs01 : 1 ≤ s0 := by omega
  have hs016 : s0 ≤ 16 := by omega
  have hb3 : p < w3.heap.size ∧ q < w3.heap.size ∧ p2 < w3.heap.size ∧ q2 < w3.heap.size := by
    obtain ⟨z, _, hZ⟩ := hR
    exact ⟨hF3.ltp, hF3.ltq, hZ.ltp, hZ.ltq⟩
  have ho := open_ok hF3 hd0 gen0 s0 hs01 hs016
  have HR := Lib.hid hR
  have HK3 := Lib.hid hKw3
  clear hbad hF3 hR hKw3
  go_wp2_with fail
  refine ho.mono ?_
  rintro e w4 ⟨u, g, rfl, hu, hW4, hk4⟩
  have ho2 := ropen_ok (HR.out.keeps hk4 (by simp) (by simp)) hd0 gen0 s0 hs01 hs016
  have HW4 := Lib.hid hW4
  have hs4 := hk4.size
  have Hk4 := Lib.hid hk4
  clear ho hW4 hk4
  go_wp2_with fail
  refine ho2.mono ?_
  rintro e w5 ⟨u2, g2, rfl, hu2, hW5, hk5⟩
  have hTwo : Two w5 w.heap.size p q p2 q2 u u2 F0 (F0.openWh gen0 s0) := by
    have h1 := HW4.out.keepsM hk5 (by simp)
    have hltu := HW4.out.row'
    refine ⟨⟨g, g2, h1, hW5, fun y hy hy2 => ?_⟩, Hne.out, by omega, Hge.out⟩
    have := (hltu y hy).2.1
    have := (hW5.row y hy2).1
    omega
  have hKw5 := (HK3.out.trans Hk4.out).trans hk5
  clear ho2 HR HK3 HW4 Hk4 hW5 hk5 hs4 hu hu2 hb3 hd0
  go_wp2_with fail
  go_loopw [57, 1, 2, 11, 13] (fun i szv gnv wv vv wr => ∃ (k : Nat) (F : Fla) (V : Whl) (u u2 : Nat), k ≤ l.length ∧ i = .int .i64 k ∧ szv = .int .i64 V.size ∧ gnv = B32 V.gen ∧ wv = .pointer (some ⟨u, 0, none⟩) ∧ vv = .pointer (some ⟨u2, 0, none⟩) ∧ Two wr w.heap.size p q p2 q2 u u2 F V ∧ Keeps [] w wr) (fun i _ _ _ _ _ => l.length - (intOf i).toNat)
  case atStart => exact ⟨0, F0, F0.openWh gen0 s0, u, u2, Nat.zero_le _, rfl, rfl, rfl, rfl, rfl, hTwo, hKw5⟩
  case round =>
    clear hTwo hKw5
    obtain ⟨k, F, V, ux, ux2, hk, rfl, rfl, rfl, rfl, rfl, hTwo, hK⟩ := hrel
    by_cases hlt : k < l.length
    · have hx40 := Hl40.out l[k] (List.getElem_mem _)
      have hrdw := (hl k l[k] (by simp [hlt])).1.s.rd
      obtain ⟨hok, b, o, rfl, hc⟩ := (hl.below hK.belowAll (fun c h => h.below hK.belowAll)) k l[k] (by simp [hlt])
      generalize l[k] = x at *
      obtain ⟨xd, xn, xt, xid, ⟨xA, xcap, xb⟩⟩ := x
      dsimp only at *
      have c0 : wr.cell? ⟨b, o + k * 5, none⟩ = some (.int .i64 xd) := hc 0 _ rfl
      have c1 := hc 1 _ rfl
      have c2 := hc 2 _ rfl
      have c3 := hc 3 _ rfl
      have c4 := hc 4 _ rfl
      unfold BS.val at c4
      clear hc
      have hsok := hok.s
      have hxle : xb.length ≤ xcap := hsok.le
      have hxmax : xcap ≤ 9223372036854775807 := hsok.max
      have hxn : xA = none → xb = [] ∧ xcap = 0 := fun h => ⟨hsok.nil h, hsok.nil0 h⟩
      have hrd1 : Rd wr xA xb := hsok.rd
      have hxlt : ∀ y, xA = some y → xb ≠ [] → y.block < w.heap.size := fun y hy hne => (show Rd w xA xb from hrdw).lt y hy hne
      clear hsok hok hrdw
      have hB0 : Blk (wr.alloc (.cells #[.int .i64 xd, .int .i64 xn, .int .i64 xt, B32 xid, .slice xA xb.length xcap] 25)) wr.heap.size 25 [.int .i64 xd, .int .i64 xn, .int .i64 xt, B32 xid, .slice xA xb.length xcap] := Blk.newA wr _ _
      have hkA := (Keeps.refl [] wr).alloc (.cells #[.int .i64 xd, .int .i64 xn, .int .i64 xt, B32 xid, .slice xA xb.length xcap] 25)
      have hs12 : 1 ≤ V.size ∧ V.size ≤ 16 := by obtain ⟨⟨g, g2, h1, _⟩, _⟩ := hTwo; exact ⟨h1.s1, h1.s2⟩
      have hlm : p < wr.heap.size ∧ q < wr.heap.size ∧ p2 < wr.heap.size ∧ q2 < wr.heap.size ∧ ux < wr.heap.size ∧ ux2 < wr.heap.size := by
        obtain ⟨⟨g, g2, h1, h2, _⟩, _, lt, _⟩ := hTwo
        obtain ⟨cs, hb⟩ := h1.blk
        obtain ⟨cs2, hb2⟩ := h2.blk
        have := hb.lt
        have := hb2.lt
        omega
      have Hlm := Lib.hid hlm
      have HTwo := Lib.hid (hTwo.keepsNil hkA)
      have HK := Lib.hid (hK.trans hkA)
      have HB := Lib.hid hB0
      have Hrd := Lib.hid (hrd1.keepsNil hkA)
      have Hxlt := Lib.hid hxlt
      have Hxn := Lib.hid hxn
      have hwm : w.heap.size ≤ wr.heap.size := hK.size
      have Hlt := Lib.hid hlt
      clear hTwo hK hB0 hkA hrd1 hxlt hxn hl hlt hlm
      go_upto_block 2 with (fail)
      clear c0 c1 c2 c3 c4
      generalize wr.alloc (.cells #[.int .i64 xd, .int .i64 xn, .int .i64 xt, B32 xid, .slice xA xb.length xcap] 25) = w1 at *
      generalize wr.heap.size = m at *
      go_cut [17, 1, 2] (fun s17 szv gnv wx => ∃ (an : Bool) (sz' : Nat) (gn' : UInt32) (F' : Fla), s17 = .bool an ∧ szv = .int .i64 sz' ∧ gnv = B32 gn' ∧ 1 ≤ sz' ∧ sz' ≤ 16 ∧ FlaAt wx p q F' ∧ RfAt wx p2 q2 F' ∧ Keeps [] w wx ∧ (an = false → ∃ V', V'.size = sz' ∧ V'.gen = gn' ∧ Two wx w.heap.size p q p2 q2 ux ux2 F' V'))
      case first =>
        have l1 : w1.cell? ⟨m, 1, none⟩ = some (.int .i64 xn) := HB.out.cell' (i := 1) rfl
        have l2 : w1.cell? ⟨m, 2, none⟩ = some (.int .i64 xt) := HB.out.cell' (i := 2) rfl
        have hgn : (((V.gen.toNat : Int) + 1) % (4294967296 : Int)) = ((V.gen + 1).toNat : Int) := by
          rw [UInt32.toNat_add]
          show _ = (((V.gen.toNat + 1) % 4294967296 : Nat) : Int)
          omega
        have Hgn := Lib.hid hgn
        clear hgn
        have hF1 : FlaAt w1 p q F := by obtain ⟨⟨g, g2, h1, h2, _⟩, _⟩ := HTwo.out; exact h1.fla
        have hR1 : RfAt w1 p2 q2 F := by obtain ⟨⟨g, g2, h1, h2, _⟩, _⟩ := HTwo.out; exact h2.fla
        have HF1 := Lib.hid hF1
        have HR1 := Lib.hid hR1
        clear hF1 hR1
        by_cases d0 : xd = 0
        · subst d0
          go_wp2_with fail
          refine (fuse_calls HF1.out xn xt).mono ?_
          rintro e wa ⟨rfl, hFa, hka⟩
          obtain ⟨g, g2, h1, h2, hg⟩ := HTwo.out.flash1 hka hFa
          have n1 := Blk.cell' (i := 1) (HB.out.keeps hka (by have := Hlm.out; simp; omega)) rfl
          have n2 := Blk.cell' (i := 2) (HB.out.keeps hka (by have := Hlm.out; simp; omega)) rfl
          go_wp2_with fail
          refine (rfuse_calls h2.fla xn xt).mono ?_
          rintro e wb ⟨rfl, hRb, hkb⟩
          have hT := Two.flash2 w.heap.size h1 h2 hg HTwo.out.ne HTwo.out.lt HTwo.out.ge hkb hRb
          have hKb : Keeps [] w wb := (HK.out.new hka (by have := Hge.out; intro x hx; simp at hx; omega)).new hkb (by have := Hge.out; intro x hx; simp at hx; omega)
          have hFb : FlaAt wb p q (F.fuse xn xt) := by obtain ⟨⟨g, g2, h1, h2, _⟩, _⟩ := hT; exact h1.fla
          have HT := Lib.hid hT
          have HKb := Lib.hid hKb
          have HFb := Lib.hid hFb
          have HRb := Lib.hid hRb
          clear h1 h2 hg hka hkb hFa hRb hT hKb hFb
          go_wp2_with fail
          go_meet
          case rel => exact ⟨false, V.size, V.gen, F.fuse xn xt, rfl, rfl, rfl, hs12.1, hs12.2, HFb.out, HRb.out, HKb.out, fun _ => ⟨V, rfl, rfl, HT.out⟩⟩
        by_cases d1 : xd = 1
        · subst d1
          go_wp2_with fail
          go_meet
          case rel => exact ⟨true, V.size, V.gen + 1, F, rfl, rfl, by rw [Hgn.out], hs12.1, hs12.2, HF1.out, HR1.out, HK.out, fun h => by cases h⟩
        by_cases d2 : xd = 2
        · subst d2
          go_wp2_with fail
          go_meet
          case rel => exact ⟨true, V.size, V.gen, F, rfl, rfl, rfl, hs12.1, hs12.2, HF1.out, HR1.out, HK.out, fun h => by cases h⟩
        by_cases d3 : xd = 3
        · subst d3
          obtain ⟨nn, hnn, hu1, hu2⟩ := umod xn 16 (by omega) (by omega)
          have m1' : w1.drew.cell? ⟨m, 1, none⟩ = some (.int .i64 xn) := l1
          have hw1 : IntKind.u32.wrap ((V.gen.toNat : Int) + 1) = ((V.gen + 1).toNat : Int) := by rw [IntKind.wrap_u32']; exact Hgn.out
          have hw0 : IntKind.i64.wrap (nn : Int) = (nn : Int) := IntWalk.i64_in _ (by omega)
          have hw2 : IntKind.i64.wrap (1 + (nn : Int)) = ((nn + 1 : Nat) : Int) := by rw [IntWalk.i64_in _ (by omega)]; omega
          generalize hgg : V.gen + 1 = gg at *
          generalize hnn1 : nn + 1 = n1 at *
          go_wp2_with fail
          refine wp_region_noPanic ?_
          refine wp_region_held_drew (S := (fun w' => w'.cell? ⟨m, 1, none⟩ = some (.int .i64 xn))) (by kernel_rfl) m1' (fun hHeld => ?_)
          refine wpAnyH_take (i := 0) (v := ?v1_1) rfl (by kernel_rfl) (by kernel_rfl) (by kernel_rfl) (fun _ _ _ h => h) (Or.inl ⟨by rfl, ?y1_1⟩) (by assumption) ?r1_1
          case y1_1 => (intro w hSw; (try dsimp only at hSw); go_simp; try with_reducible rfl)
          (try simp only [Act.put, List.getElem_toArray, List.getElem_cons_zero, List.getElem_cons_succ, List.setIfInBounds_toArray, List.set_cons_zero, List.set_cons_succ])
          refine wpAnyH_take (i := 1) (v := ?v1_2) rfl (by kernel_rfl) (by kernel_rfl) (by kernel_rfl) (fun _ _ _ h => h) (Or.inl ⟨by rfl, ?y1_2⟩) (by assumption) ?r1_2
          case y1_2 => (intro w hSw; (try dsimp only at hSw); go_simp; try with_reducible rfl)
          (try simp only [Act.put, List.getElem_toArray, List.getElem_cons_zero, List.getElem_cons_succ, List.setIfInBounds_toArray, List.set_cons_zero, List.set_cons_succ])
          refine wpAnyH_take (i := 2) (v := ?v1_3) rfl (by kernel_rfl) (by kernel_rfl) (by kernel_rfl) (fun _ _ _ h => h) (Or.inl ⟨by rfl, ?y1_3⟩) (by assumption) ?r1_3
          case y1_3 => (intro w hSw; (try dsimp only at hSw); go_simp; try with_reducible rfl)
          (try simp only [Act.put, List.getElem_toArray, List.getElem_cons_zero, List.getElem_cons_succ, List.setIfInBounds_toArray, List.set_cons_zero, List.set_cons_succ])
          refine wpAnyH_take (i := 3) (v := ?v1_4) rfl (by kernel_rfl) (by kernel_rfl) (by kernel_rfl) (fun _ _ _ h => h) (Or.inl ⟨by rfl, ?y1_4⟩) (by assumption) ?r1_4
          case y1_4 => (intro w hSw; (try dsimp only at hSw); go_simp; try with_reducible rfl)
          (try simp only [Act.put, List.getElem_toArray, List.getElem_cons_zero, List.getElem_cons_succ, List.setIfInBounds_toArray, List.set_cons_zero, List.set_cons_succ])
          refine wpAnyH_take (i := 4) (v := ?v1_5) rfl (by kernel_rfl) (by kernel_rfl) (by kernel_rfl) (fun _ _ _ h => h) (Or.inl ⟨by rfl, ?y1_5⟩) (by assumption) ?r1_5
          case y1_5 => (intro w hSw; (try dsimp only at hSw); go_simp; try with_reducible rfl)
          (try simp only [Act.put, List.getElem_toArray, List.getElem_cons_zero, List.getElem_cons_succ, List.setIfInBounds_toArray, List.set_cons_zero, List.set_cons_succ])
          refine wpAnyH_take (i := 5) (v := ?v1_6) rfl (by kernel_rfl) (by kernel_rfl) (by kernel_rfl) (fun _ _ _ h => h) (Or.inl ⟨by rfl, ?y1_6⟩) (by assumption) ?r1_6
          case y1_6 => (intro w hSw; (try dsimp only at hSw); go_simp; try with_reducible rfl)
          (try simp only [Act.put, List.getElem_toArray, List.getElem_cons_zero, List.getElem_cons_succ, List.setIfInBounds_toArray, List.set_cons_zero, List.set_cons_succ])
          refine wpAnyH_take (i := 6) (v := ?v1_7) rfl (by kernel_rfl) (by kernel_rfl) (by kernel_rfl) (fun _ _ _ h => h) (Or.inl ⟨by rfl, ?y1_7⟩) (by assumption) ?r1_7
          case y1_7 => (intro w hSw; (try dsimp only at hSw); go_simp; try with_reducible rfl)
          (try simp only [Act.put, List.getElem_toArray, List.getElem_cons_zero, List.getElem_cons_succ, List.setIfInBounds_toArray, List.set_cons_zero, List.set_cons_succ])
          refine wpAnyH_take (i := 7) (v := ?v1_8) rfl (by kernel_rfl) (by kernel_rfl) (by kernel_rfl) (fun _ _ _ h => h) (Or.inl ⟨by rfl, ?y1_8⟩) (by assumption) ?r1_8
          case y1_8 => (intro w hSw; (try dsimp only at hSw); go_simp; try with_reducible rfl)
          (try simp only [Act.put, List.getElem_toArray, List.getElem_cons_zero, List.getElem_cons_succ, List.setIfInBounds_toArray, List.set_cons_zero, List.set_cons_succ])
          refine wpAnyH_take (i := 8) (v := ?v1_9) rfl (by kernel_rfl) (by kernel_rfl) (by kernel_rfl) (fun _ _ _ h => h) (Or.inl ⟨by rfl, ?y1_9⟩) (by assumption) ?r1_9
          case y1_9 => (intro w hSw; (try dsimp only at hSw); go_simp; try with_reducible rfl)
          (try simp only [Act.put, List.getElem_toArray, List.getElem_cons_zero, List.getElem_cons_succ, List.setIfInBounds_toArray, List.set_cons_zero, List.set_cons_succ])
          refine wpAnyH_take (i := 9) (v := ?v1_10) rfl (by kernel_rfl) (by kernel_rfl) (by kernel_rfl) (fun _ _ _ h => h) (Or.inl ⟨by rfl, ?y1_10⟩) (by assumption) ?r1_10
          case y1_10 => (intro w hSw; (try dsimp only at hSw); go_simp; try with_reducible rfl)
          (try simp only [Act.put, List.getElem_toArray, List.getElem_cons_zero, List.getElem_cons_succ, List.setIfInBounds_toArray, List.set_cons_zero, List.set_cons_succ])
          refine wpAnyH_take (i := 10) (v := ?v1_11) rfl (by kernel_rfl) (by kernel_rfl) (by kernel_rfl) (fun _ _ _ h => h) (Or.inl ⟨by rfl, ?y1_11⟩) (by assumption) ?r1_11
          case y1_11 => (intro w hSw; (try dsimp only at hSw); go_simp; try with_reducible rfl)
          (try simp only [Act.put, List.getElem_toArray, List.getElem_cons_zero, List.getElem_cons_succ, List.setIfInBounds_toArray, List.set_cons_zero, List.set_cons_succ])
          refine wpAnyH_done (by kernel_rfl) ?_ _
          refine NoPanic.normal ?_
          have HF1d := Lib.hid HF1.out.drew
          have HR1d := Lib.hid (HR1.out.drewN 1)
          go_wp2_with fail
          go_meet
          case rel => exact ⟨true, n1, gg, F, rfl, by first | rfl | rw [hw0, hw2], rfl, by omega, by omega, HF1.out.drew, HR1.out.keeps (Keeps.refl [] w1).drew (by simp) (by simp), HK.out.drew, fun h => by cases h⟩
        have m3' : w1.drew.cell? ⟨m, 3, none⟩ = some (B32 xid) := HB.out.cell' (i := 3) rfl
        have m4' : w1.drew.cell? ⟨m, 4, none⟩ = some (.slice xA xb.length xcap) := HB.out.cell' (i := 4) rfl
        have hTd := HTwo.out.keepsNil (Keeps.refl [] w1).drew
        obtain ⟨⟨g, g2, h1, h2, hg⟩, ne, lt, ge⟩ := hTd
        have hxg : ∀ y, xA = some y → xb ≠ [] → y.block ≠ p ∧ y.block ≠ q ∧ y.block ≠ ux ∧ g ≠ some y.block := fun y hy hne => by
          have q1 := Hxlt.out y hy hne
          refine ⟨by omega, by omega, by omega, fun e => ?_⟩
          have := (h1.row' _ e).1
          omega
        have hxg2 : ∀ y, xA = some y → xb ≠ [] → y.block ≠ p2 ∧ y.block ≠ q2 ∧ y.block ≠ ux2 ∧ g2 ≠ some y.block := fun y hy hne => by
          have q1 := Hxlt.out y hy hne
          have := h2.pu
          refine ⟨by omega, by omega, by omega, fun e => ?_⟩
          have := (h2.row _ e).1
          omega
        have C1 := Lib.hid (add_calls h1 xid xA xcap xb (Hrd.out.keepsNil (Keeps.refl [] w1).drew) Hxn.out hxle hxmax hxg)
        have C2 := Lib.hid (fun (w2 : World) (h : RWhAt w2 p2 q2 ux2 g2 F V) (h2 : Rd w2 xA xb) => radd_calls h xid xA xcap xb h2 Hxn.out hxle hxmax hxg2)
        have hadd1 := h1
        have Hx1 := Lib.hid h1
        have Hx2 := Lib.hid h2
        have Hg := Lib.hid hg
        have Hne2 := Lib.hid ne
        have Hlt2 := Lib.hid lt
        have Hge2 := Lib.hid ge
        have Hxg := Lib.hid hxg
        have hsz : (V.add F xid xb).2.1.size = V.size ∧ (V.add F xid xb).2.1.gen = V.gen := by
          unfold Whl.add
          split
          · exact ⟨rfl, rfl⟩
          split
          · exact ⟨rfl, rfl⟩
          split
          · exact ⟨rfl, rfl⟩
          split
          · exact ⟨rfl, rfl⟩
          dsimp only
          split
          · exact ⟨rfl, rfl⟩
          · exact ⟨rfl, rfl⟩
        generalize V.add F xid xb = ar at *
        obtain ⟨F', V', z⟩ := ar
        unfold AddPost at C1
        unfold RAddPost at C2
        dsimp only at C1 C2 hsz
        have Hsz := Lib.hid hsz
        clear h1 h2 hg ne lt ge hxg hxg2 hadd1 hsz
        go_wp2_with fail
        refine wp_region_noPanic ?_
        refine wp_region_held_drew (S := (fun w' => w'.cell? ⟨m, 3, none⟩ = some (B32 xid) ∧ w'.cell? ⟨m, 4, none⟩ = some (.slice xA xb.length xcap))) (by kernel_rfl) ⟨m3', m4'⟩ (fun hHeld => ?_)
        refine wpAnyH_take (i := 0) (v := ?v2_12) rfl (by kernel_rfl) (by kernel_rfl) (by kernel_rfl) (fun _ _ _ h => h) (Or.inl ⟨by rfl, ?y2_12⟩) (by assumption) ?r2_12
        case y2_12 => (intro w hSw; (try dsimp only at hSw); go_simp; try with_reducible rfl)
        (try simp only [Act.put, List.getElem_toArray, List.getElem_cons_zero, List.getElem_cons_succ, List.setIfInBounds_toArray, List.set_cons_zero, List.set_cons_succ])
        refine wpAnyH_take (i := 1) (v := ?v2_13) rfl (by kernel_rfl) (by kernel_rfl) (by kernel_rfl) (fun _ _ _ h => h) (Or.inl ⟨by rfl, ?y2_13⟩) (by assumption) ?r2_13
        case y2_13 => (intro w hSw; (try dsimp only at hSw); go_simp; try with_reducible rfl)
        (try simp only [Act.put, List.getElem_toArray, List.getElem_cons_zero, List.getElem_cons_succ, List.setIfInBounds_toArray, List.set_cons_zero, List.set_cons_succ])
        refine wpAnyH_take (i := 2) (v := ?v2_14) rfl (by kernel_rfl) (by kernel_rfl) (by kernel_rfl) (fun _ _ _ h => h) (Or.inl ⟨by rfl, ?y2_14⟩) (by assumption) ?r2_14
        case y2_14 => (intro w hSw; (try dsimp only at hSw); go_simp; try with_reducible rfl)
        (try simp only [Act.put, List.getElem_toArray, List.getElem_cons_zero, List.getElem_cons_succ, List.setIfInBounds_toArray, List.set_cons_zero, List.set_cons_succ])
        refine wpAnyH_take (i := 3) (v := ?v2_15) rfl (by kernel_rfl) (by kernel_rfl) (by kernel_rfl) (fun _ _ _ h => h) (Or.inl ⟨by rfl, ?y2_15⟩) (by assumption) ?r2_15
        case y2_15 => (intro w hSw; (try dsimp only at hSw); go_simp; try with_reducible rfl)
        (try simp only [Act.put, List.getElem_toArray, List.getElem_cons_zero, List.getElem_cons_succ, List.setIfInBounds_toArray, List.set_cons_zero, List.set_cons_succ])
        refine wpAnyH_take (i := 4) (v := ?v2_16) rfl (by kernel_rfl) (by kernel_rfl) (by kernel_rfl) (fun _ _ _ h => h) (Or.inl ⟨by rfl, ?y2_16⟩) (by assumption) ?r2_16
        case y2_16 => (intro w hSw; (try dsimp only at hSw); go_simp; try with_reducible rfl)
        (try simp only [Act.put, List.getElem_toArray, List.getElem_cons_zero, List.getElem_cons_succ, List.setIfInBounds_toArray, List.set_cons_zero, List.set_cons_succ])
        refine wpAnyH_take (i := 6) (v := ?v2_17) rfl (by kernel_rfl) (by kernel_rfl) (by kernel_rfl) (fun _ _ _ h => h) (Or.inl ⟨by rfl, ?y2_17⟩) (by assumption) ?r2_17
        case y2_17 => (intro w hSw; (try dsimp only at hSw); go_simp; try with_reducible rfl)
        (try simp only [Act.put, List.getElem_toArray, List.getElem_cons_zero, List.getElem_cons_succ, List.setIfInBounds_toArray, List.set_cons_zero, List.set_cons_succ])
        refine wpAnyH_take (i := 7) (v := ?v2_18) rfl (by kernel_rfl) (by kernel_rfl) (by kernel_rfl) (fun _ _ _ h => h) (Or.inl ⟨by rfl, ?y2_18⟩) (by assumption) ?r2_18
        case y2_18 => (intro w hSw; (try dsimp only at hSw); go_simp; try with_reducible rfl)
        (try simp only [Act.put, List.getElem_toArray, List.getElem_cons_zero, List.getElem_cons_succ, List.setIfInBounds_toArray, List.set_cons_zero, List.set_cons_succ])
        refine wpAnyH_take (i := 8) (v := ?v2_19) rfl (by kernel_rfl) (by kernel_rfl) (by kernel_rfl) (fun _ _ _ h => h) (Or.inl ⟨by rfl, ?y2_19⟩) (by assumption) ?r2_19
        case y2_19 => (intro w hSw; (try dsimp only at hSw); go_simp; try with_reducible rfl)
        (try simp only [Act.put, List.getElem_toArray, List.getElem_cons_zero, List.getElem_cons_succ, List.setIfInBounds_toArray, List.set_cons_zero, List.set_cons_succ])
        refine wpAnyH_take (i := 9) (v := ?v2_20) rfl (by kernel_rfl) (by kernel_rfl) (by kernel_rfl) (fun _ _ _ h => h) (Or.inl ⟨by rfl, ?y2_20⟩) (by assumption) ?r2_20
        case y2_20 => (intro w hSw; (try dsimp only at hSw); go_simp; try with_reducible rfl)
        (try simp only [Act.put, List.getElem_toArray, List.getElem_cons_zero, List.getElem_cons_succ, List.setIfInBounds_toArray, List.set_cons_zero, List.set_cons_succ])
        refine wpAnyH_take (i := 10) (v := ?v2_21) rfl (by kernel_rfl) (by kernel_rfl) (by kernel_rfl) (fun _ _ _ h => h) (Or.inl ⟨by rfl, ?y2_21⟩) (by assumption) ?r2_21
        case y2_21 => (intro w hSw; (try dsimp only at hSw); go_simp; try with_reducible rfl)
        (try simp only [Act.put, List.getElem_toArray, List.getElem_cons_zero, List.getElem_cons_succ, List.setIfInBounds_toArray, List.set_cons_zero, List.set_cons_succ])
        refine wpAnyH_ready (rs := [5]) (by kernel_rfl) (by simp) ?_
        refine AllReadyH.cons rfl (fun K hK => ?_) AllReadyH.nil
        go_simp
        refine C1.out.mono ?_
        rintro e wa ⟨rfl, g', hWa, hga, hKa⟩
        have hmS : m ∉ p :: q :: ux :: g.toList := by
          have := Hlm.out
          intro hm
          simp only [List.mem_cons, Option.mem_toList] at hm
          rcases hm with h | h | h | h
          · omega
          · omega
          · omega
          · obtain ⟨_, _, cs, hb⟩ := Hx1.out.row' _ h
            exact hb.ne HB.out.drew (by decide) rfl
        have n3 := hKa.cellAt m3' hmS
        have n4 := hKa.cellAt m4' hmS
        have hRa : RWhAt wa p2 q2 ux2 g2 F V := Two.leave2 Hx1.out Hx2.out Hg.out Hne2.out Hlt2.out hKa
        have hra : Rd wa xA xb := (Hrd.out.keepsNil (Keeps.refl [] w1).drew).keeps hKa (fun y hy hne => by
          have := Hxg.out y hy hne
          simp only [List.mem_cons, Option.mem_toList, not_or]
          exact ⟨this.1, this.2.1, this.2.2.1, this.2.2.2⟩)
        have hga2 : ∀ y, g' = some y → g2 ≠ some y := fun y hy e2 => by
          rcases hga with h | ⟨y', h, hy'⟩
          · exact Hg.out y (h ▸ hy) e2
          · have q1 := (Hx2.out.row y e2).2.1
            rw [hy] at h
            simp only [Option.some.injEq] at h
            omega
        have HWa := Lib.hid hWa
        have Hga2 := Lib.hid hga2
        have HRa := Lib.hid hRa
        have hKwa : Keeps [] w wa := HK.out.drew.new hKa (fun y hy => by
          have := Hge2.out
          simp only [List.mem_cons, Option.mem_toList] at hy
          rcases hy with h | h | h | h
          · omega
          · omega
          · have := Hlt2.out; omega
          · have := (Hx1.out.row' _ h).1; have := Hlt2.out; omega)
        have HKwa := Lib.hid hKwa
        clear hga hga2 hWa hKwa hmS
        go_wp2_with fail
        refine hK.out _ _ ?s2_22 (fun hHeld => ?_)
        case s2_22 => ((try dsimp only) <;> (first | exact ⟨n3, n4⟩))
        clear hK K
        (try simp only [Act.put, List.getElem_toArray, List.getElem_cons_zero, List.getElem_cons_succ, List.setIfInBounds_toArray, List.set_cons_zero, List.set_cons_succ])
        refine wpAnyH_ready (rs := [11]) (by kernel_rfl) (by simp) ?_
        refine AllReadyH.cons rfl (fun K hK => ?_) AllReadyH.nil
        go_simp
        refine (C2.out _ hRa hra).mono ?_
        rintro e wb ⟨rfl, hRb, hRWb, hKb⟩
        have hmS2 : m ∉ p2 :: q2 :: ux2 :: g2.toList := by
          have := Hlm.out
          intro hm
          simp only [List.mem_cons, Option.mem_toList] at hm
          rcases hm with h | h | h | h
          · omega
          · omega
          · omega
          · obtain ⟨_, _, cs, hb⟩ := Hx2.out.row _ h
            exact hb.ne HB.out.drew (by decide) rfl
        have o3 := hKb.cellAt n3 hmS2
        have o4 := hKb.cellAt n4 hmS2
        have hWb : WhAt wb p q ux g' F' V' := Two.leave HWa.out HRa.out Hga2.out Hne2.out Hlt2.out hKb
        have hTb : z ≠ 11 → Two wb w.heap.size p q p2 q2 ux ux2 F' V' := fun hz => by
          obtain ⟨g2', hR2, hg2⟩ := hRWb hz
          refine ⟨⟨g', g2', hWb, hR2, fun y hy e2 => ?_⟩, Hne2.out, Hlt2.out, Hge2.out⟩
          rcases hg2 with h | ⟨y', h, hy'⟩
          · exact Hga2.out y hy (h ▸ e2)
          · have q1 := (HWa.out.row' y hy).2.1
            rw [e2] at h
            simp only [Option.some.injEq] at h
            omega
        have hKwb : Keeps [] w wb := HKwa.out.new hKb (fun y hy => by
          have := Hge2.out
          simp only [List.mem_cons, Option.mem_toList] at hy
          rcases hy with h | h | h | h
          · omega
          · omega
          · have := Hlt2.out; omega
          · have := (Hx2.out.row _ h).1; have := Hx2.out.pu; omega)
        have HWb := Lib.hid hWb.fla
        have HRb := Lib.hid hRb
        have HTb := Lib.hid hTb
        have HKwb := Lib.hid hKwb
        clear hmS2 hWb hTb hKwb hRWb hKb hKa hRb hRa hra
        go_wp2_with fail
        refine hK.out _ _ ?s2_23 (fun hHeld => ?_)
        case s2_23 => ((try dsimp only) <;> (first | exact ⟨o3, o4⟩))
        clear hK K
        (try simp only [Act.put, List.getElem_toArray, List.getElem_cons_zero, List.getElem_cons_succ, List.setIfInBounds_toArray, List.set_cons_zero, List.set_cons_succ])
        refine wpAnyH_take (i := 12) (v := ?v2_24) rfl (by kernel_rfl) (by kernel_rfl) (by kernel_rfl) (fun _ _ _ h => h) (Or.inl ⟨by rfl, ?y2_24⟩) (by assumption) ?r2_24
        case y2_24 => (intro w hSw; (try dsimp only at hSw); go_simp; try with_reducible rfl)
        (try simp only [Act.put, List.getElem_toArray, List.getElem_cons_zero, List.getElem_cons_succ, List.setIfInBounds_toArray, List.set_cons_zero, List.set_cons_succ])
        refine wpAnyH_take (i := 13) (v := ?v2_25) rfl (by kernel_rfl) (by kernel_rfl) (by kernel_rfl) (fun _ _ _ h => h) (Or.inl ⟨by rfl, ?y2_25⟩) (by assumption) ?r2_25
        case y2_25 => (intro w hSw; (try dsimp only at hSw); go_simp; try with_reducible rfl)
        (try simp only [Act.put, List.getElem_toArray, List.getElem_cons_zero, List.getElem_cons_succ, List.setIfInBounds_toArray, List.set_cons_zero, List.set_cons_succ])
        refine wpAnyH_done (by kernel_rfl) ?_ _
        refine NoPanic.normal ?_
        go_wp2_with fail
        go_meet
        case rel => exact ⟨z == 11, V.size, V.gen, F', rfl, rfl, rfl, hs12.1, hs12.2, HWb.out, HRb.out, HKwb.out, fun h => ⟨V', Hsz.out.1, Hsz.out.2, HTb.out (by simpa using h)⟩⟩
      case rest =>
        clear HTwo HK HB Hrd
        obtain ⟨an, sz', gn', F', rfl, rfl, rfl, hsa, hsb, hF, hR, hK, hT⟩ := hcut
        cases an with
        | false =>
          obtain ⟨V', rfl, rfl, hTwo⟩ := hT rfl
          have HTwo := Lib.hid hTwo
          have HK := Lib.hid hK
          clear hF hR hK hT hTwo
          obtain ⟨wt, hwt⟩ : ∃ wt, wt = wc := ⟨_, rfl⟩
          subst hwt
          obtain ⟨yu, hyu⟩ : ∃ yu, yu = ux := ⟨_, rfl⟩
          subst hyu
          obtain ⟨yu2, hyu2⟩ : ∃ yu2, yu2 = ux2 := ⟨_, rfl⟩
          subst hyu2
          obtain ⟨⟨g, g2, h1, h2, hg⟩, ne, lt, ge⟩ := HTwo.out
          obtain ⟨v2, hv2, hW2, hRc2⟩ := h2.own
          have hf2 := h2.fla
          have hll : V'.l.length ≤ 1000000 := by have := h1.lens; have := h1.next; have := (places_bounds h1.s1 h1.s2).2; omega
          have hall : ∀ w', Keeps [] wt w' → (w'.cell? ⟨yu2, 3, none⟩ = some v2 ∧ w'.cell? ⟨p2, 0, none⟩ = some (.slice (some ⟨q2, 0, none⟩) 3584 3584) ∧ (convert 23 9 (.slice (some ⟨q2, 0, none⟩) 3584 3584)).run Try.prog w' = .ok (.string ⟨F'.b.toArray⟩) w') := fun w' k => by
            obtain ⟨z, _, hZ⟩ := hf2.keeps k (by simp) (by simp)
            exact ⟨(hW2.keeps k (by simp)).cell' (i := 3) rfl, hZ.c0, str_run (w := w') (a := some ⟨q2, 0, none⟩) 3584 3584 (l := F'.b) (by have := hZ.rd 0 3584; rwa [List.drop_zero, List.take_of_length_le (by rw [hZ.len]; omega)] at this) hZ.len (by simp)⟩
          have h0 := hall _ (Keeps.refl [] wt).drew
          have Hall := Lib.hid hall
          have CR := Lib.hid (records_calls (h1.keepsM (Keeps.refl [] wt).drew (by simp)))
          have CM := Lib.hid (fun (w' : World) (k : Keeps [] wt w') => room_calls (h1.keepsM k (by simp)))
          have hrm : V'.room = 8 * (places V'.size : Int) - V'.next := rfl
          have CN := Lib.hid (fun (w' : World) (k : Keeps [] wt w') => (show Calls Try.prog 36 #[.pointer (some ⟨yu2, 0, none⟩)] w' (fun e w'' => e = .returned (.int .i64 V'.room) ∧ ∃ n, w'' = w'.drewN n) from by rw [hrm]; exact rroom_calls (hW2.keeps k (by simp)) h2.s1 h2.s2 h2.next))
          have CB := Lib.hid (fun (w' : World) (k : Keeps [] wt w') => bytes_calls ((h1.keepsM k (by simp)).fla))
          have HR2 := Lib.hid hRc2.r
          have Hll := Lib.hid hll
          clear h1 h2 hg ne lt ge hv2 hW2 hRc2 hf2 hll hall hrm
          go_wp2_with fail
          refine wp_region_noPanic ?_
          refine wp_region_held_drew (S := (fun w' => w'.cell? ⟨yu2, 3, none⟩ = some v2 ∧ w'.cell? ⟨p2, 0, none⟩ = some (.slice (some ⟨q2, 0, none⟩) 3584 3584) ∧ (convert 23 9 (.slice (some ⟨q2, 0, none⟩) 3584 3584)).run Try.prog w' = .ok (.string ⟨F'.b.toArray⟩) w')) (by kernel_rfl) h0 (fun hHeld => ?_)
          refine wpAnyH_take (i := 0) (v := ?v3_26) rfl (by kernel_rfl) (by kernel_rfl) (by kernel_rfl) (fun _ _ _ h => h) (Or.inl ⟨by rfl, ?y3_26⟩) (by assumption) ?r3_26
          case y3_26 => (intro w hSw; (try dsimp only at hSw); go_simp; try with_reducible rfl)
          (try simp only [Act.put, List.getElem_toArray, List.getElem_cons_zero, List.getElem_cons_succ, List.setIfInBounds_toArray, List.set_cons_zero, List.set_cons_succ])
          refine wpAnyH_take (i := 2) (v := ?v3_27) rfl (by kernel_rfl) (by kernel_rfl) (by kernel_rfl) (fun _ _ _ h => h) (Or.inl ⟨by rfl, ?y3_27⟩) (by assumption) ?r3_27
          case y3_27 => (intro w hSw; (try dsimp only at hSw); go_simp; try with_reducible rfl)
          (try simp only [Act.put, List.getElem_toArray, List.getElem_cons_zero, List.getElem_cons_succ, List.setIfInBounds_toArray, List.set_cons_zero, List.set_cons_succ])
          refine wpAnyH_take (i := 3) (v := ?v3_28) rfl (by kernel_rfl) (by kernel_rfl) (by kernel_rfl) (fun _ _ _ h => h) (Or.inl ⟨by rfl, ?y3_28⟩) (by assumption) ?r3_28
          case y3_28 => (intro w hSw; (try dsimp only at hSw); go_simp; try with_reducible rfl)
          (try simp only [Act.put, List.getElem_toArray, List.getElem_cons_zero, List.getElem_cons_succ, List.setIfInBounds_toArray, List.set_cons_zero, List.set_cons_succ])
          refine wpAnyH_take (i := 4) (v := ?v3_29) rfl (by kernel_rfl) (by kernel_rfl) (by kernel_rfl) (fun _ _ _ h => h) (Or.inl ⟨by rfl, ?y3_29⟩) (by assumption) ?r3_29
          case y3_29 => (intro w hSw; (try dsimp only at hSw); go_simp; try with_reducible rfl)
          (try simp only [Act.put, List.getElem_toArray, List.getElem_cons_zero, List.getElem_cons_succ, List.setIfInBounds_toArray, List.set_cons_zero, List.set_cons_succ])
          refine wpAnyH_take (i := 5) (v := ?v3_30) rfl (by kernel_rfl) (by kernel_rfl) (by kernel_rfl) (fun _ _ _ h => h) (Or.inl ⟨by rfl, ?y3_30⟩) (by assumption) ?r3_30
          case y3_30 => (intro w hSw; (try dsimp only at hSw); go_simp; try with_reducible rfl)
          (try simp only [Act.put, List.getElem_toArray, List.getElem_cons_zero, List.getElem_cons_succ, List.setIfInBounds_toArray, List.set_cons_zero, List.set_cons_succ])
          refine wpAnyH_ready (rs := [1]) (by kernel_rfl) (by simp) ?_
          refine AllReadyH.cons rfl (fun K hK => ?_) AllReadyH.nil
          go_simp
          refine CR.out.mono ?_
          rintro e w6 ⟨v6, rfl, hv6, hk6'⟩
          have hk6 := (Keeps.refl [] wt).drew.trans hk6'
          have q6 := Hall.out _ hk6
          have CS := Lib.hid (same_calls (w := w6) hv6.r (HR2.out.keeps hk6) Hll.out)
          clear hv6 hk6'
          go_wp2_with fail
          refine hK.out _ _ ?s3_31 (fun hHeld => ?_)
          case s3_31 => ((try dsimp only) <;> (first | exact q6))
          clear hK K
          (try simp only [Act.put, List.getElem_toArray, List.getElem_cons_zero, List.getElem_cons_succ, List.setIfInBounds_toArray, List.set_cons_zero, List.set_cons_succ])
          refine wpAnyH_ready (rs := [6]) (by kernel_rfl) (by simp) ?_
          refine AllReadyH.cons rfl (fun K hK => ?_) AllReadyH.nil
          go_simp
          have CS2 : Calls Try.prog 26 #[v6, v2] w6 (BoolPost w6 true) := by
            have h := CS.out
            first
              | exact h
              | (simp only [decide_true] at h; exact h)
              | (rw [decide_eq_true rfl] at h; exact h)
          refine CS2.mono ?_
          rintro e w7 ⟨rfl, hk7'⟩
          have hk7 := hk6.trans hk7'
          have q7 := Hall.out _ hk7
          clear CS2 hk7'
          go_wp2_with fail
          refine hK.out _ _ ?s3_32 (fun hHeld => ?_)
          case s3_32 => ((try dsimp only) <;> (first | exact q7))
          clear hK K
          (try simp only [Act.put, List.getElem_toArray, List.getElem_cons_zero, List.getElem_cons_succ, List.setIfInBounds_toArray, List.set_cons_zero, List.set_cons_succ])
          refine wpAnyH_take (i := 7) (v := ?v3_33) rfl (by kernel_rfl) (by kernel_rfl) (by kernel_rfl) (fun _ _ _ h => h) (Or.inl ⟨by rfl, ?y3_33⟩) (by assumption) ?r3_33
          case y3_33 => (intro w hSw; (try dsimp only at hSw); go_simp; try with_reducible rfl)
          (try simp only [Act.put, List.getElem_toArray, List.getElem_cons_zero, List.getElem_cons_succ, List.setIfInBounds_toArray, List.set_cons_zero, List.set_cons_succ])
          refine wpAnyH_take (i := 8) (v := ?v3_34) rfl (by kernel_rfl) (by kernel_rfl) (by kernel_rfl) (fun _ _ _ h => h) (Or.inl ⟨by rfl, ?y3_34⟩) (by assumption) ?r3_34
          case y3_34 => (intro w hSw; (try dsimp only at hSw); go_simp; try with_reducible rfl)
          (try simp only [Act.put, List.getElem_toArray, List.getElem_cons_zero, List.getElem_cons_succ, List.setIfInBounds_toArray, List.set_cons_zero, List.set_cons_succ])
          refine wpAnyH_take (i := 9) (v := ?v3_35) rfl (by kernel_rfl) (by kernel_rfl) (by kernel_rfl) (fun _ _ _ h => h) (Or.inl ⟨by rfl, ?y3_35⟩) (by assumption) ?r3_35
          case y3_35 => (intro w hSw; (try dsimp only at hSw); go_simp; try with_reducible rfl)
          (try simp only [Act.put, List.getElem_toArray, List.getElem_cons_zero, List.getElem_cons_succ, List.setIfInBounds_toArray, List.set_cons_zero, List.set_cons_succ])
          refine wpAnyH_take (i := 11) (v := ?v3_36) rfl (by kernel_rfl) (by kernel_rfl) (by kernel_rfl) (fun _ _ _ h => h) (Or.inl ⟨by rfl, ?y3_36⟩) (by assumption) ?r3_36
          case y3_36 => (intro w hSw; (try dsimp only at hSw); go_simp; try with_reducible rfl)
          (try simp only [Act.put, List.getElem_toArray, List.getElem_cons_zero, List.getElem_cons_succ, List.setIfInBounds_toArray, List.set_cons_zero, List.set_cons_succ])
          refine wpAnyH_ready (rs := [10]) (by kernel_rfl) (by simp) ?_
          refine AllReadyH.cons rfl (fun K hK => ?_) AllReadyH.nil
          go_simp
          refine (CM.out _ hk7).mono ?_
          rintro e w8 ⟨rfl, n8, hw8⟩
          have hk8 : Keeps [] wt w8 := hk7.trans (hw8 ▸ (Keeps.refl [] w7).drewN n8)
          have q8 := Hall.out _ hk8
          clear hw8
          go_wp2_with fail
          refine hK.out _ _ ?s3_37 (fun hHeld => ?_)
          case s3_37 => ((try dsimp only) <;> (first | exact q8))
          clear hK K
          (try simp only [Act.put, List.getElem_toArray, List.getElem_cons_zero, List.getElem_cons_succ, List.setIfInBounds_toArray, List.set_cons_zero, List.set_cons_succ])
          refine wpAnyH_ready (rs := [12]) (by kernel_rfl) (by simp) ?_
          refine AllReadyH.cons rfl (fun K hK => ?_) AllReadyH.nil
          go_simp
          refine (CN.out _ hk8).mono ?_
          rintro e w9 ⟨rfl, n9, hw9⟩
          have hk9 : Keeps [] wt w9 := hk8.trans (hw9 ▸ (Keeps.refl [] w8).drewN n9)
          have q9 := Hall.out _ hk9
          clear hw9
          go_wp2_with fail
          refine hK.out _ _ ?s3_38 (fun hHeld => ?_)
          case s3_38 => ((try dsimp only) <;> (first | exact q9))
          clear hK K
          (try simp only [Act.put, List.getElem_toArray, List.getElem_cons_zero, List.getElem_cons_succ, List.setIfInBounds_toArray, List.set_cons_zero, List.set_cons_succ])
          refine wpAnyH_take (i := 13) (v := ?v3_39) rfl (by kernel_rfl) (by kernel_rfl) (by kernel_rfl) (fun _ _ _ h => h) (Or.inl ⟨by rfl, ?y3_39⟩) (by assumption) ?r3_39
          case y3_39 => (intro w hSw; (try dsimp only at hSw); go_simp; try with_reducible rfl)
          (try simp only [Act.put, List.getElem_toArray, List.getElem_cons_zero, List.getElem_cons_succ, List.setIfInBounds_toArray, List.set_cons_zero, List.set_cons_succ])
          refine wpAnyH_take (i := 14) (v := ?v3_40) rfl (by kernel_rfl) (by kernel_rfl) (by kernel_rfl) (fun _ _ _ h => h) (Or.inl ⟨by rfl, ?y3_40⟩) (by assumption) ?r3_40
          case y3_40 => (intro w hSw; (try dsimp only at hSw); go_simp; try with_reducible rfl)
          (try simp only [Act.put, List.getElem_toArray, List.getElem_cons_zero, List.getElem_cons_succ, List.setIfInBounds_toArray, List.set_cons_zero, List.set_cons_succ])
          refine wpAnyH_take (i := 15) (v := ?v3_41) rfl (by kernel_rfl) (by kernel_rfl) (by kernel_rfl) (fun _ _ _ h => h) (Or.inl ⟨by rfl, ?y3_41⟩) (by assumption) ?r3_41
          case y3_41 => (intro w hSw; (try dsimp only at hSw); go_simp; try with_reducible rfl)
          (try simp only [Act.put, List.getElem_toArray, List.getElem_cons_zero, List.getElem_cons_succ, List.setIfInBounds_toArray, List.set_cons_zero, List.set_cons_succ])
          refine wpAnyH_take (i := 16) (v := ?v3_42) rfl (by kernel_rfl) (by kernel_rfl) (by kernel_rfl) (fun _ _ _ h => h) (Or.inl ⟨by rfl, ?y3_42⟩) (by assumption) ?r3_42
          case y3_42 => (intro w hSw; (try dsimp only at hSw); go_simp; try with_reducible rfl)
          (try simp only [Act.put, List.getElem_toArray, List.getElem_cons_zero, List.getElem_cons_succ, List.setIfInBounds_toArray, List.set_cons_zero, List.set_cons_succ])
          refine wpAnyH_take (i := 19) (v := ?v3_43) rfl (by kernel_rfl) (by kernel_rfl) (by kernel_rfl) (fun _ _ _ h => h) (Or.inl ⟨by rfl, ?y3_43⟩) (by assumption) ?r3_43
          case y3_43 => (intro w hSw; (try dsimp only at hSw); go_simp; try with_reducible rfl)
          (try simp only [Act.put, List.getElem_toArray, List.getElem_cons_zero, List.getElem_cons_succ, List.setIfInBounds_toArray, List.set_cons_zero, List.set_cons_succ])
          refine wpAnyH_take (i := 20) (v := ?v3_44) rfl (by kernel_rfl) (by kernel_rfl) (by kernel_rfl) (fun _ _ _ h => h) (Or.inl ⟨by rfl, ?y3_44⟩) (by assumption) ?r3_44
          case y3_44 => (intro w hSw; (try dsimp only at hSw); go_simp; try with_reducible rfl)
          (try simp only [Act.put, List.getElem_toArray, List.getElem_cons_zero, List.getElem_cons_succ, List.setIfInBounds_toArray, List.set_cons_zero, List.set_cons_succ])
          refine wpAnyH_take (i := 21) (v := ?v3_45) rfl (by kernel_rfl) (by kernel_rfl) (by kernel_rfl) (fun _ _ _ h => h) (Or.inl ⟨by rfl, ?y3_45⟩) (by assumption) ?r3_45
          case y3_45 => (intro w hSw; (try dsimp only at hSw); go_simp; try with_reducible rfl)
          (try simp only [Act.put, List.getElem_toArray, List.getElem_cons_zero, List.getElem_cons_succ, List.setIfInBounds_toArray, List.set_cons_zero, List.set_cons_succ])
          refine wpAnyH_take (i := 22) (v := ?v3_46) rfl (by kernel_rfl) (by kernel_rfl) (by kernel_rfl) (fun _ _ _ h => h) (Or.inl ⟨by rfl, ?y3_46⟩) (by assumption) ?r3_46
          case y3_46 => (intro w hSw; (try dsimp only at hSw); go_simp; try with_reducible rfl)
          (try simp only [Act.put, List.getElem_toArray, List.getElem_cons_zero, List.getElem_cons_succ, List.setIfInBounds_toArray, List.set_cons_zero, List.set_cons_succ])
          refine wpAnyH_take (i := 23) (v := ?v3_47) rfl (by kernel_rfl) (by kernel_rfl) (by kernel_rfl) (fun _ _ _ h => h) (Or.inl ⟨by rfl, ?y3_47⟩) (by assumption) ?r3_47
          case y3_47 => (intro w hSw; (try dsimp only at hSw); go_simp; try with_reducible rfl)
          (try simp only [Act.put, List.getElem_toArray, List.getElem_cons_zero, List.getElem_cons_succ, List.setIfInBounds_toArray, List.set_cons_zero, List.set_cons_succ])
          refine wpAnyH_ready (rs := [17]) (by kernel_rfl) (by simp) ?_
          refine AllReadyH.cons rfl (fun K hK => ?_) AllReadyH.nil
          go_simp
          refine (CB.out _ hk9).mono ?_
          rintro e w10 ⟨v10, rfl, hv10, hk10'⟩
          have hk10 := hk9.trans hk10'
          have q10 := Hall.out _ hk10
          have hst10 : (convert 23 9 v10).run Try.prog w10 = .ok (.string ⟨F'.b.toArray⟩) w10 := (by obtain ⟨a1, k1, rfl, _, hrd1, _, _, hn1⟩ := hv10.rd; exact str_run F'.b.length k1 hrd1 rfl hn1)
          clear hv10 hk10'
          go_wp2_with fail
          refine hK.out _ _ ?s3_48 (fun hHeld => ?_)
          case s3_48 => ((try dsimp only) <;> (first | exact q10))
          clear hK K
          (try simp only [Act.put, List.getElem_toArray, List.getElem_cons_zero, List.getElem_cons_succ, List.setIfInBounds_toArray, List.set_cons_zero, List.set_cons_succ])
          refine wpAnyH_ready (rs := [18]) (by kernel_rfl) (by simp) ?_
          refine AllReadyH.cons rfl (fun K hK => ?_) AllReadyH.nil
          go_simp
          refine hK.out _ _ ?s3_49 (fun hHeld => ?_)
          case s3_49 => ((try dsimp only) <;> (first | exact q10))
          clear hK K
          (try simp only [Act.put, List.getElem_toArray, List.getElem_cons_zero, List.getElem_cons_succ, List.setIfInBounds_toArray, List.set_cons_zero, List.set_cons_succ])
          refine wpAnyH_take (i := 24) (v := ?v3_50) rfl (by kernel_rfl) (by kernel_rfl) (by kernel_rfl) (fun _ _ _ h => h) (Or.inl ⟨by rfl, ?y3_50⟩) (by assumption) ?r3_50
          case y3_50 => (intro w hSw; (try dsimp only at hSw); go_simp; try with_reducible rfl)
          (try simp only [Act.put, List.getElem_toArray, List.getElem_cons_zero, List.getElem_cons_succ, List.setIfInBounds_toArray, List.set_cons_zero, List.set_cons_succ])
          refine wpAnyH_take (i := 25) (v := ?v3_51) rfl (by kernel_rfl) (by kernel_rfl) (by kernel_rfl) (fun _ _ _ h => h) (Or.inl ⟨by rfl, ?y3_51⟩) (by assumption) ?r3_51
          case y3_51 => (intro w hSw; (try dsimp only at hSw); go_simp; try with_reducible rfl)
          (try simp only [Act.put, List.getElem_toArray, List.getElem_cons_zero, List.getElem_cons_succ, List.setIfInBounds_toArray, List.set_cons_zero, List.set_cons_succ])
          refine wpAnyH_done (by kernel_rfl) ?_ _
          refine NoPanic.normal ?_
          have hlt := Hlt.out
          have HTf := Lib.hid (HTwo.out.keepsNil hk10)
          have HKf := Lib.hid (HK.out.trans hk10)
          clear hk6 hk7 hk8 hk9 hk10 HTwo HK
          go_wp2_with fail
          go_roundw
          case rel =>
            first
              | exact ⟨k + 1, F', V', yu, yu2, by omega, by go_num, rfl, rfl, rfl, rfl, HTf.out, HKf.out⟩
              | ((repeat apply Exists.intro); refine ⟨?_, rfl⟩; exact ⟨k + 1, F', V', yu, yu2, by omega, by go_num, rfl, rfl, rfl, rfl, HTf.out, HKf.out⟩)
          case measure => (simp [intOf]; omega)
        | true =>
          clear hT
          have HF := Lib.hid hF
          have HR := Lib.hid hR
          have HK0 := Lib.hid hK
          have hnd : F'.start.down = false := rfl
          have hb0 : p < wc.heap.size ∧ q < wc.heap.size ∧ p2 < wc.heap.size ∧ q2 < wc.heap.size := by
            obtain ⟨z, _, hZ⟩ := hR
            exact ⟨hF.ltp, hF.ltq, hZ.ltp, hZ.ltq⟩
          have Hb0 := Lib.hid hb0
          clear hF hR hK hb0
          go_wp2_with fail
          refine (start_calls HF.out).mono ?_
          rintro e wa ⟨rfl, hFa, hka⟩
          have hRa := HR.out.keeps hka (by have := Hne.out; simp; omega) (by have := Hne.out; simp; omega)
          have HFa := Lib.hid hFa
          have hKa : Keeps [] w wa := HK0.out.new hka (by have := Hge.out; intro x hx; simp at hx; omega)
          have hsa' := hka.size
          clear hFa hka
          go_wp2_with fail
          refine (rstart_calls hRa).mono ?_
          rintro e wb ⟨rfl, hRb, hkb⟩
          have hFb := HFa.out.keeps hkb (by have := Hne.out; simp; omega) (by have := Hne.out; simp; omega)
          have hKb : Keeps [] w wb := hKa.new hkb (by have := Hge.out; intro x hx; simp at hx; omega)
          have hsb' := hkb.size
          generalize F'.start = Fs at *
          have ho := open_ok hFb hnd gn' sz' hsa hsb
          have HRb := Lib.hid hRb
          have HKb := Lib.hid hKb
          clear hRa hRb hFb hKa hKb hkb HFa
          go_wp2_with fail
          refine ho.mono ?_
          rintro e we ⟨yu, yg, rfl, hyu, hWe, hke⟩
          have hse := hke.size
          have ho2 := ropen_ok (HRb.out.keeps hke (by simp) (by simp)) hnd gn' sz' hsa hsb
          have HWe := Lib.hid hWe
          have HKe := Lib.hid (HKb.out.trans hke)
          clear ho hWe hke
          go_wp2_with fail
          refine ho2.mono ?_
          rintro e wt ⟨yu2, yg2, rfl, hyu2, hWt, hkt⟩
          have hTwo : Two wt w.heap.size p q p2 q2 yu yu2 Fs (Fs.openWh gn' sz') := by
            have h1 := HWe.out.keepsM hkt (by simp)
            have hltu := HWe.out.row'
            have hb := Hb0.out
            refine ⟨⟨yg, yg2, h1, hWt, fun y hy hy2 => ?_⟩, Hne.out, by omega, Hge.out⟩
            have := (hltu y hy).2.1
            have := (hWt.row y hy2).1
            omega
          have HTwo := Lib.hid hTwo
          have HK := Lib.hid (HKe.out.trans hkt)
          clear ho2 HRb HWe hWt hkt hTwo HKb HKe HF HR HK0 hyu hyu2 hse hnd
          have hVs : (Fs.openWh gn' sz').size = sz' := rfl
          have hVg : (Fs.openWh gn' sz').gen = gn' := rfl
          generalize Fs.openWh gn' sz' = V' at *
          subst hVs hVg
          obtain ⟨F', hF'⟩ : ∃ F', F' = Fs := ⟨_, rfl⟩
          subst hF'
          obtain ⟨⟨g, g2, h1, h2, hg⟩, ne, lt, ge⟩ := HTwo.out
          obtain ⟨v2, hv2, hW2, hRc2⟩ := h2.own
          have hf2 := h2.fla
          have hll : V'.l.length ≤ 1000000 := by have := h1.lens; have := h1.next; have := (places_bounds h1.s1 h1.s2).2; omega
          have hall : ∀ w', Keeps [] wt w' → (w'.cell? ⟨yu2, 3, none⟩ = some v2 ∧ w'.cell? ⟨p2, 0, none⟩ = some (.slice (some ⟨q2, 0, none⟩) 3584 3584) ∧ (convert 23 9 (.slice (some ⟨q2, 0, none⟩) 3584 3584)).run Try.prog w' = .ok (.string ⟨F'.b.toArray⟩) w') := fun w' k => by
            obtain ⟨z, _, hZ⟩ := hf2.keeps k (by simp) (by simp)
            exact ⟨(hW2.keeps k (by simp)).cell' (i := 3) rfl, hZ.c0, str_run (w := w') (a := some ⟨q2, 0, none⟩) 3584 3584 (l := F'.b) (by have := hZ.rd 0 3584; rwa [List.drop_zero, List.take_of_length_le (by rw [hZ.len]; omega)] at this) hZ.len (by simp)⟩
          have h0 := hall _ (Keeps.refl [] wt).drew
          have Hall := Lib.hid hall
          have CR := Lib.hid (records_calls (h1.keepsM (Keeps.refl [] wt).drew (by simp)))
          have CM := Lib.hid (fun (w' : World) (k : Keeps [] wt w') => room_calls (h1.keepsM k (by simp)))
          have hrm : V'.room = 8 * (places V'.size : Int) - V'.next := rfl
          have CN := Lib.hid (fun (w' : World) (k : Keeps [] wt w') => (show Calls Try.prog 36 #[.pointer (some ⟨yu2, 0, none⟩)] w' (fun e w'' => e = .returned (.int .i64 V'.room) ∧ ∃ n, w'' = w'.drewN n) from by rw [hrm]; exact rroom_calls (hW2.keeps k (by simp)) h2.s1 h2.s2 h2.next))
          have CB := Lib.hid (fun (w' : World) (k : Keeps [] wt w') => bytes_calls ((h1.keepsM k (by simp)).fla))
          have HR2 := Lib.hid hRc2.r
          have Hll := Lib.hid hll
          clear h1 h2 hg ne lt ge hv2 hW2 hRc2 hf2 hll hall hrm
          go_wp2_with fail
          refine wp_region_noPanic ?_
          refine wp_region_held_drew (S := (fun w' => w'.cell? ⟨yu2, 3, none⟩ = some v2 ∧ w'.cell? ⟨p2, 0, none⟩ = some (.slice (some ⟨q2, 0, none⟩) 3584 3584) ∧ (convert 23 9 (.slice (some ⟨q2, 0, none⟩) 3584 3584)).run Try.prog w' = .ok (.string ⟨F'.b.toArray⟩) w')) (by kernel_rfl) h0 (fun hHeld => ?_)
          refine wpAnyH_take (i := 0) (v := ?v4_52) rfl (by kernel_rfl) (by kernel_rfl) (by kernel_rfl) (fun _ _ _ h => h) (Or.inl ⟨by rfl, ?y4_52⟩) (by assumption) ?r4_52
          case y4_52 => (intro w hSw; (try dsimp only at hSw); go_simp; try with_reducible rfl)
          (try simp only [Act.put, List.getElem_toArray, List.getElem_cons_zero, List.getElem_cons_succ, List.setIfInBounds_toArray, List.set_cons_zero, List.set_cons_succ])
          refine wpAnyH_take (i := 2) (v := ?v4_53) rfl (by kernel_rfl) (by kernel_rfl) (by kernel_rfl) (fun _ _ _ h => h) (Or.inl ⟨by rfl, ?y4_53⟩) (by assumption) ?r4_53
          case y4_53 => (intro w hSw; (try dsimp only at hSw); go_simp; try with_reducible rfl)
          (try simp only [Act.put, List.getElem_toArray, List.getElem_cons_zero, List.getElem_cons_succ, List.setIfInBounds_toArray, List.set_cons_zero, List.set_cons_succ])
          refine wpAnyH_take (i := 3) (v := ?v4_54) rfl (by kernel_rfl) (by kernel_rfl) (by kernel_rfl) (fun _ _ _ h => h) (Or.inl ⟨by rfl, ?y4_54⟩) (by assumption) ?r4_54
          case y4_54 => (intro w hSw; (try dsimp only at hSw); go_simp; try with_reducible rfl)
          (try simp only [Act.put, List.getElem_toArray, List.getElem_cons_zero, List.getElem_cons_succ, List.setIfInBounds_toArray, List.set_cons_zero, List.set_cons_succ])
          refine wpAnyH_take (i := 4) (v := ?v4_55) rfl (by kernel_rfl) (by kernel_rfl) (by kernel_rfl) (fun _ _ _ h => h) (Or.inl ⟨by rfl, ?y4_55⟩) (by assumption) ?r4_55
          case y4_55 => (intro w hSw; (try dsimp only at hSw); go_simp; try with_reducible rfl)
          (try simp only [Act.put, List.getElem_toArray, List.getElem_cons_zero, List.getElem_cons_succ, List.setIfInBounds_toArray, List.set_cons_zero, List.set_cons_succ])
          refine wpAnyH_take (i := 5) (v := ?v4_56) rfl (by kernel_rfl) (by kernel_rfl) (by kernel_rfl) (fun _ _ _ h => h) (Or.inl ⟨by rfl, ?y4_56⟩) (by assumption) ?r4_56
          case y4_56 => (intro w hSw; (try dsimp only at hSw); go_simp; try with_reducible rfl)
          (try simp only [Act.put, List.getElem_toArray, List.getElem_cons_zero, List.getElem_cons_succ, List.setIfInBounds_toArray, List.set_cons_zero, List.set_cons_succ])
          refine wpAnyH_ready (rs := [1]) (by kernel_rfl) (by simp) ?_
          refine AllReadyH.cons rfl (fun K hK => ?_) AllReadyH.nil
          go_simp
          refine CR.out.mono ?_
          rintro e w6 ⟨v6, rfl, hv6, hk6'⟩
          have hk6 := (Keeps.refl [] wt).drew.trans hk6'
          have q6 := Hall.out _ hk6
          have CS := Lib.hid (same_calls (w := w6) hv6.r (HR2.out.keeps hk6) Hll.out)
          clear hv6 hk6'
          go_wp2_with fail
          refine hK.out _ _ ?s4_57 (fun hHeld => ?_)
          case s4_57 => ((try dsimp only) <;> (first | exact q6))
          clear hK K
          (try simp only [Act.put, List.getElem_toArray, List.getElem_cons_zero, List.getElem_cons_succ, List.setIfInBounds_toArray, List.set_cons_zero, List.set_cons_succ])
          refine wpAnyH_ready (rs := [6]) (by kernel_rfl) (by simp) ?_
          refine AllReadyH.cons rfl (fun K hK => ?_) AllReadyH.nil
          go_simp
          have CS2 : Calls Try.prog 26 #[v6, v2] w6 (BoolPost w6 true) := by
            have h := CS.out
            first
              | exact h
              | (simp only [decide_true] at h; exact h)
              | (rw [decide_eq_true rfl] at h; exact h)
          refine CS2.mono ?_
          rintro e w7 ⟨rfl, hk7'⟩
          have hk7 := hk6.trans hk7'
          have q7 := Hall.out _ hk7
          clear CS2 hk7'
          go_wp2_with fail
          refine hK.out _ _ ?s4_58 (fun hHeld => ?_)
          case s4_58 => ((try dsimp only) <;> (first | exact q7))
          clear hK K
          (try simp only [Act.put, List.getElem_toArray, List.getElem_cons_zero, List.getElem_cons_succ, List.setIfInBounds_toArray, List.set_cons_zero, List.set_cons_succ])
          refine wpAnyH_take (i := 7) (v := ?v4_59) rfl (by kernel_rfl) (by kernel_rfl) (by kernel_rfl) (fun _ _ _ h => h) (Or.inl ⟨by rfl, ?y4_59⟩) (by assumption) ?r4_59
          case y4_59 => (intro w hSw; (try dsimp only at hSw); go_simp; try with_reducible rfl)
          (try simp only [Act.put, List.getElem_toArray, List.getElem_cons_zero, List.getElem_cons_succ, List.setIfInBounds_toArray, List.set_cons_zero, List.set_cons_succ])
          refine wpAnyH_take (i := 8) (v := ?v4_60) rfl (by kernel_rfl) (by kernel_rfl) (by kernel_rfl) (fun _ _ _ h => h) (Or.inl ⟨by rfl, ?y4_60⟩) (by assumption) ?r4_60
          case y4_60 => (intro w hSw; (try dsimp only at hSw); go_simp; try with_reducible rfl)
          (try simp only [Act.put, List.getElem_toArray, List.getElem_cons_zero, List.getElem_cons_succ, List.setIfInBounds_toArray, List.set_cons_zero, List.set_cons_succ])
          refine wpAnyH_take (i := 9) (v := ?v4_61) rfl (by kernel_rfl) (by kernel_rfl) (by kernel_rfl) (fun _ _ _ h => h) (Or.inl ⟨by rfl, ?y4_61⟩) (by assumption) ?r4_61
          case y4_61 => (intro w hSw; (try dsimp only at hSw); go_simp; try with_reducible rfl)
          (try simp only [Act.put, List.getElem_toArray, List.getElem_cons_zero, List.getElem_cons_succ, List.setIfInBounds_toArray, List.set_cons_zero, List.set_cons_succ])
          refine wpAnyH_take (i := 11) (v := ?v4_62) rfl (by kernel_rfl) (by kernel_rfl) (by kernel_rfl) (fun _ _ _ h => h) (Or.inl ⟨by rfl, ?y4_62⟩) (by assumption) ?r4_62
          case y4_62 => (intro w hSw; (try dsimp only at hSw); go_simp; try with_reducible rfl)
          (try simp only [Act.put, List.getElem_toArray, List.getElem_cons_zero, List.getElem_cons_succ, List.setIfInBounds_toArray, List.set_cons_zero, List.set_cons_succ])
          refine wpAnyH_ready (rs := [10]) (by kernel_rfl) (by simp) ?_
          refine AllReadyH.cons rfl (fun K hK => ?_) AllReadyH.nil
          go_simp
          refine (CM.out _ hk7).mono ?_
          rintro e w8 ⟨rfl, n8, hw8⟩
          have hk8 : Keeps [] wt w8 := hk7.trans (hw8 ▸ (Keeps.refl [] w7).drewN n8)
          have q8 := Hall.out _ hk8
          clear hw8
          go_wp2_with fail
          refine hK.out _ _ ?s4_63 (fun hHeld => ?_)
          case s4_63 => ((try dsimp only) <;> (first | exact q8))
          clear hK K
          (try simp only [Act.put, List.getElem_toArray, List.getElem_cons_zero, List.getElem_cons_succ, List.setIfInBounds_toArray, List.set_cons_zero, List.set_cons_succ])
          refine wpAnyH_ready (rs := [12]) (by kernel_rfl) (by simp) ?_
          refine AllReadyH.cons rfl (fun K hK => ?_) AllReadyH.nil
          go_simp
          refine (CN.out _ hk8).mono ?_
          rintro e w9 ⟨rfl, n9, hw9⟩
          have hk9 : Keeps [] wt w9 := hk8.trans (hw9 ▸ (Keeps.refl [] w8).drewN n9)
          have q9 := Hall.out _ hk9
          clear hw9
          go_wp2_with fail
          refine hK.out _ _ ?s4_64 (fun hHeld => ?_)
          case s4_64 => ((try dsimp only) <;> (first | exact q9))
          clear hK K
          (try simp only [Act.put, List.getElem_toArray, List.getElem_cons_zero, List.getElem_cons_succ, List.setIfInBounds_toArray, List.set_cons_zero, List.set_cons_succ])
          refine wpAnyH_take (i := 13) (v := ?v4_65) rfl (by kernel_rfl) (by kernel_rfl) (by kernel_rfl) (fun _ _ _ h => h) (Or.inl ⟨by rfl, ?y4_65⟩) (by assumption) ?r4_65
          case y4_65 => (intro w hSw; (try dsimp only at hSw); go_simp; try with_reducible rfl)
          (try simp only [Act.put, List.getElem_toArray, List.getElem_cons_zero, List.getElem_cons_succ, List.setIfInBounds_toArray, List.set_cons_zero, List.set_cons_succ])
          refine wpAnyH_take (i := 14) (v := ?v4_66) rfl (by kernel_rfl) (by kernel_rfl) (by kernel_rfl) (fun _ _ _ h => h) (Or.inl ⟨by rfl, ?y4_66⟩) (by assumption) ?r4_66
          case y4_66 => (intro w hSw; (try dsimp only at hSw); go_simp; try with_reducible rfl)
          (try simp only [Act.put, List.getElem_toArray, List.getElem_cons_zero, List.getElem_cons_succ, List.setIfInBounds_toArray, List.set_cons_zero, List.set_cons_succ])
          refine wpAnyH_take (i := 15) (v := ?v4_67) rfl (by kernel_rfl) (by kernel_rfl) (by kernel_rfl) (fun _ _ _ h => h) (Or.inl ⟨by rfl, ?y4_67⟩) (by assumption) ?r4_67
          case y4_67 => (intro w hSw; (try dsimp only at hSw); go_simp; try with_reducible rfl)
          (try simp only [Act.put, List.getElem_toArray, List.getElem_cons_zero, List.getElem_cons_succ, List.setIfInBounds_toArray, List.set_cons_zero, List.set_cons_succ])
          refine wpAnyH_take (i := 16) (v := ?v4_68) rfl (by kernel_rfl) (by kernel_rfl) (by kernel_rfl) (fun _ _ _ h => h) (Or.inl ⟨by rfl, ?y4_68⟩) (by assumption) ?r4_68
          case y4_68 => (intro w hSw; (try dsimp only at hSw); go_simp; try with_reducible rfl)
          (try simp only [Act.put, List.getElem_toArray, List.getElem_cons_zero, List.getElem_cons_succ, List.setIfInBounds_toArray, List.set_cons_zero, List.set_cons_succ])
          refine wpAnyH_take (i := 19) (v := ?v4_69) rfl (by kernel_rfl) (by kernel_rfl) (by kernel_rfl) (fun _ _ _ h => h) (Or.inl ⟨by rfl, ?y4_69⟩) (by assumption) ?r4_69
          case y4_69 => (intro w hSw; (try dsimp only at hSw); go_simp; try with_reducible rfl)
          (try simp only [Act.put, List.getElem_toArray, List.getElem_cons_zero, List.getElem_cons_succ, List.setIfInBounds_toArray, List.set_cons_zero, List.set_cons_succ])
          refine wpAnyH_take (i := 20) (v := ?v4_70) rfl (by kernel_rfl) (by kernel_rfl) (by kernel_rfl) (fun _ _ _ h => h) (Or.inl ⟨by rfl, ?y4_70⟩) (by assumption) ?r4_70
          case y4_70 => (intro w hSw; (try dsimp only at hSw); go_simp; try with_reducible rfl)
          (try simp only [Act.put, List.getElem_toArray, List.getElem_cons_zero, List.getElem_cons_succ, List.setIfInBounds_toArray, List.set_cons_zero, List.set_cons_succ])
          refine wpAnyH_take (i := 21) (v := ?v4_71) rfl (by kernel_rfl) (by kernel_rfl) (by kernel_rfl) (fun _ _ _ h => h) (Or.inl ⟨by rfl, ?y4_71⟩) (by assumption) ?r4_71
          case y4_71 => (intro w hSw; (try dsimp only at hSw); go_simp; try with_reducible rfl)
          (try simp only [Act.put, List.getElem_toArray, List.getElem_cons_zero, List.getElem_cons_succ, List.setIfInBounds_toArray, List.set_cons_zero, List.set_cons_succ])
          refine wpAnyH_take (i := 22) (v := ?v4_72) rfl (by kernel_rfl) (by kernel_rfl) (by kernel_rfl) (fun _ _ _ h => h) (Or.inl ⟨by rfl, ?y4_72⟩) (by assumption) ?r4_72
          case y4_72 => (intro w hSw; (try dsimp only at hSw); go_simp; try with_reducible rfl)
          (try simp only [Act.put, List.getElem_toArray, List.getElem_cons_zero, List.getElem_cons_succ, List.setIfInBounds_toArray, List.set_cons_zero, List.set_cons_succ])
          refine wpAnyH_take (i := 23) (v := ?v4_73) rfl (by kernel_rfl) (by kernel_rfl) (by kernel_rfl) (fun _ _ _ h => h) (Or.inl ⟨by rfl, ?y4_73⟩) (by assumption) ?r4_73
          case y4_73 => (intro w hSw; (try dsimp only at hSw); go_simp; try with_reducible rfl)
          (try simp only [Act.put, List.getElem_toArray, List.getElem_cons_zero, List.getElem_cons_succ, List.setIfInBounds_toArray, List.set_cons_zero, List.set_cons_succ])
          refine wpAnyH_ready (rs := [17]) (by kernel_rfl) (by simp) ?_
          refine AllReadyH.cons rfl (fun K hK => ?_) AllReadyH.nil
          go_simp
          refine (CB.out _ hk9).mono ?_
          rintro e w10 ⟨v10, rfl, hv10, hk10'⟩
          have hk10 := hk9.trans hk10'
          have q10 := Hall.out _ hk10
          have hst10 : (convert 23 9 v10).run Try.prog w10 = .ok (.string ⟨F'.b.toArray⟩) w10 := (by obtain ⟨a1, k1, rfl, _, hrd1, _, _, hn1⟩ := hv10.rd; exact str_run F'.b.length k1 hrd1 rfl hn1)
          clear hv10 hk10'
          go_wp2_with fail
          refine hK.out _ _ ?s4_74 (fun hHeld => ?_)
          case s4_74 => ((try dsimp only) <;> (first | exact q10))
          clear hK K
          (try simp only [Act.put, List.getElem_toArray, List.getElem_cons_zero, List.getElem_cons_succ, List.setIfInBounds_toArray, List.set_cons_zero, List.set_cons_succ])
          refine wpAnyH_ready (rs := [18]) (by kernel_rfl) (by simp) ?_
          refine AllReadyH.cons rfl (fun K hK => ?_) AllReadyH.nil
          go_simp
          refine hK.out _ _ ?s4_75 (fun hHeld => ?_)
          case s4_75 => ((try dsimp only) <;> (first | exact q10))
          clear hK K
          (try simp only [Act.put, List.getElem_toArray, List.getElem_cons_zero, List.getElem_cons_succ, List.setIfInBounds_toArray, List.set_cons_zero, List.set_cons_succ])
          refine wpAnyH_take (i := 24) (v := ?v4_76) rfl (by kernel_rfl) (by kernel_rfl) (by kernel_rfl) (fun _ _ _ h => h) (Or.inl ⟨by rfl, ?y4_76⟩) (by assumption) ?r4_76
          case y4_76 => (intro w hSw; (try dsimp only at hSw); go_simp; try with_reducible rfl)
          (try simp only [Act.put, List.getElem_toArray, List.getElem_cons_zero, List.getElem_cons_succ, List.setIfInBounds_toArray, List.set_cons_zero, List.set_cons_succ])
          refine wpAnyH_take (i := 25) (v := ?v4_77) rfl (by kernel_rfl) (by kernel_rfl) (by kernel_rfl) (fun _ _ _ h => h) (Or.inl ⟨by rfl, ?y4_77⟩) (by assumption) ?r4_77
          case y4_77 => (intro w hSw; (try dsimp only at hSw); go_simp; try with_reducible rfl)
          (try simp only [Act.put, List.getElem_toArray, List.getElem_cons_zero, List.getElem_cons_succ, List.setIfInBounds_toArray, List.set_cons_zero, List.set_cons_succ])
          refine wpAnyH_done (by kernel_rfl) ?_ _
          refine NoPanic.normal ?_
          have hlt := Hlt.out
          have HTf := Lib.hid (HTwo.out.keepsNil hk10)
          have HKf := Lib.hid (HK.out.trans hk10)
          clear hk6 hk7 hk8 hk9 hk10 HTwo HK
          go_wp2_with fail
          go_roundw
          case rel =>
            first
              | exact ⟨k + 1, F', V', yu, yu2, by omega, by go_num, rfl, rfl, rfl, rfl, HTf.out, HKf.out⟩
              | ((repeat apply Exists.intro); refine ⟨?_, rfl⟩; exact ⟨k + 1, F', V', yu, yu2, by omega, by go_num, rfl, rfl, rfl, rfl, HTf.out, HKf.out⟩)
          case measure => (simp [intOf]; omega)
    · have hkl : k = l.length := by omega
      subst hkl
      clear hl hTwo
      go_wp2_with fail
      refine awake18.mono ?_
      rintro e wa ⟨rfl, hKa⟩
      go_wp2_with fail
      go_ret
      exact ⟨rfl, hK.trans hKa⟩

end Go.Proofs.Ytghgmchgbhdldaa
