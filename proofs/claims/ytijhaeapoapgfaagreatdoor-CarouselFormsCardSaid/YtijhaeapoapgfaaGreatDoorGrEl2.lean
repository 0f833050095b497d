/-
  GrEl2: the texts El2, El3, El4, El5, one behind another.
-/
import Derived.Test.YtijhaeapoapgfaaGreatDoorGrCd2
import Derived.Test.YtijhaeapoapgfaaGreatDoorGrElM
import Derived.Deep.DeepCutAuto
import Derived.Deep.CutBlock
import Derived.Deep.RegionHeld3
import Derived.Deep.DrawnRows
set_option linter.unusedVariables false
set_option linter.unusedSimpArgs false
namespace Go.Proofs.YtijhaeapoapgfaaGreatDoor
open Go.RowKit
attribute [local go_sem ↓] Go.wp_at_zero Go.wp_at_succ

/-- The pointers of a matrix's rows. -/
def ptrOf (L : Nat → Loc) (i : Nat) : Option Rw → Value
  | some _ => P0 (L i).r
  | none => .pointer none
def ptrs (M : Mtx) (L : Nat → Loc) : List Value := (List.range M.length).map fun i => ptrOf L i (M.at i)

structure Mx (w : World) (pm pb n z : Nat) (M : Mtx) (L : Nat → Loc) : Prop where
  l : M.length = n
  n1 : 1 ≤ n
  n2 : n ≤ 256
  z1 : 1 ≤ z
  z2 : z ≤ 16
  b : Blk w pm 194 [.int .i64 n, .int .i64 z, .slice (some ⟨pb, 0, none⟩) n n, .int .i64 (rank M)]
  r : Blk w pb 196 (ptrs M L)
  row : ∀ i q, M.at i = some q → RwAt w (L i) n z q
  dis : ∀ i j p q, M.at i = some p → M.at j = some q → i ≠ j → (L i).g ≠ (L j).g ∧ (L i).d ≠ (L j).d

theorem ptrs_at {M : Mtx} {L : Nat → Loc} {i : Nat} (hi : i < M.length) : (ptrs M L)[i]? = some (ptrOf L i (M.at i)) := by
  simp [ptrs, hi]
theorem Mx.ptr {w : World} {pm pb n z : Nat} {M : Mtx} {L : Nat → Loc} (h : Mx w pm pb n z M L) {i : Nat} (hi : i < n) : w.cell? ⟨pb, i, none⟩ = some (ptrOf L i (M.at i)) :=
  h.r.cell' (ptrs_at (by rw [h.l]; exact hi))
theorem Mx.keepsNil {w w' : World} {pm pb n z : Nat} {M : Mtx} {L : Nat → Loc} (h : Mx w pm pb n z M L) (k : Keeps [] w w') : Mx w' pm pb n z M L :=
  ⟨h.l, h.n1, h.n2, h.z1, h.z2, h.b.keeps k (by simp), h.r.keeps k (by simp), fun i q hq => (h.row i q hq).keepsNil k, h.dis⟩

/-- A matrix with all its blocks in Fl. -/
def MxF (w : World) (pm n z : Nat) (M : Mtx) (Fl : List Nat) : Prop :=
  ∃ pb L, Mx w pm pb n z M L ∧ pm ∈ Fl ∧ pb ∈ Fl ∧ (∀ i q, M.at i = some q → (L i).r ∈ Fl ∧ (L i).v ∈ Fl ∧ (L i).g ∈ Fl ∧ (L i).d ∈ Fl) ∧ (∀ x ∈ Fl, x < w.heap.size)
theorem MxF.keeps {S : List Nat} {w w' : World} {pm n z : Nat} {M : Mtx} {Fl : List Nat} (h : MxF w pm n z M Fl) (k : Keeps S w w') (hS : ∀ x ∈ S, x ∉ Fl) : MxF w' pm n z M Fl := by
  obtain ⟨pb, L, hm, h1, h2, h3, h4⟩ := h
  have hn : ∀ x, x ∈ Fl → x ∉ S := fun x hx hs => hS x hs hx
  exact ⟨pb, L, ⟨hm.l, hm.n1, hm.n2, hm.z1, hm.z2, hm.b.keeps k (hn _ h1), hm.r.keeps k (hn _ h2), fun i q hq => by
    obtain ⟨f1, f2, f3, f4⟩ := h3 i q hq
    exact (hm.row i q hq).keeps k (hn _ f1) (hn _ f2) (hn _ f3) (hn _ f4), hm.dis⟩, h1, h2, h3, fun x hx => Nat.lt_of_lt_of_le (h4 x hx) k.size⟩
theorem MxF.keepsNil {w w' : World} {pm n z : Nat} {M : Mtx} {Fl : List Nat} (h : MxF w pm n z M Fl) (k : Keeps [] w w') : MxF w' pm n z M Fl := h.keeps k (by simp)

theorem Tryz.info_rowp : (Tryz.prog.info? 196).map (fun i => (i.zero, i.size, i.bytes)) = some (some (.pointer none), 1, 8) := by kernel_rfl
theorem made_rowp (n : Nat) : madeCells #[.pointer none] n = Array.replicate n (.pointer none) := by
  apply Array.ext
  · simp [madeCells]
  · intro i h1 h2
    simp [madeCells, Nat.mod_one]
theorem make_rowp (n : Nat) (hc : n ≤ 100000) (w : World) :
    (Instr.makeSlice 192 (.int .i64 (n : Int)) (.int .i64 (n : Int))).run Tryz.prog w = .ok (.slice (some ⟨w.heap.size, 0, none⟩) n n) (w.alloc (.cells (Array.replicate n (.pointer none)) 196)) := by
  obtain ⟨i0, hi, hz0, hz1, hz2⟩ := info_parts Tryz.info_rowp
  have hr := run_make (P := Tryz.prog) w 192 196 i0 _ Tryz.underlying192 hi hz0 .i64 .i64 n n (by omega) (by omega) (by rw [hz2]; omega) (by omega)
  rw [hz1] at hr
  simp only [Int.toNat_natCast, Nat.mul_one] at hr
  rw [hr, ← made_rowp]
  rfl

/-- No rows. -/
def mnew (n : Nat) : Mtx := List.replicate n none
theorem mnew_at (n i : Nat) : (mnew n).at i = none := by
  unfold Mtx.at mnew
  rw [List.getD_eq_getElem?_getD, List.getElem?_replicate]
  split <;> rfl
theorem mnew_rank (n : Nat) : rank (mnew n) = 0 := by
  unfold rank mnew
  rw [List.countP_replicate]; rfl
theorem mnew_ech (n z : Nat) : Ech n z (mnew n) := by
  have h : ∀ i q, (mnew n).at i ≠ some q := fun i q hq => by rw [mnew_at] at hq; cases hq
  exact ⟨by simp [mnew], fun i q hq => absurd hq (h i q), fun i q hq => absurd hq (h i q), fun i q hq => absurd hq (h i q), fun i q hq => absurd hq (h i q), fun i q hq => absurd hq (h i q)⟩

def MxNew (w : World) (n z : Nat) (e : Ending) (w' : World) : Prop := ∃ pm Fl, e = .returned (P0 pm) ∧ MxF w' pm n z (mnew n) Fl ∧ (∀ x ∈ Fl, w.heap.size ≤ x) ∧ Keeps [] w w'

set_option maxRecDepth 100000 in
set_option maxHeartbeats 1600000 in
theorem enew_calls {w : World} (n z : Nat) (h1 : 1 ≤ n) (h2 : n ≤ 256) (h3 : 1 ≤ z) (h4 : z ≤ 16) : Calls Tryz.prog 80 #[.int .i64 n, .int .i64 z] w (MxNew w n z) := by
  have hmk := fun w => make_rowp n (by omega) w
  go_enter Tryz.func80, Tryz.ntmps80
  go_wp2_with fail
  go_ret
  have hB := Blk.newA w 196 (Array.replicate n (.pointer none))
  have hp : (Array.replicate n (Value.pointer none)).toList = ptrs (mnew n) (fun _ => ⟨0, 0, 0, 0⟩) := by
    apply List.ext_getElem
    · simp [ptrs, mnew]
    · intro i h1 h2
      simp [ptrs, mnew_at, ptrOf]
  rw [hp] at hB
  have kA : Keeps [] w (w.alloc (.cells (Array.replicate n (.pointer none)) 196)) := (Keeps.refl [] w).alloc _
  have hN : ∀ i q, (mnew n).at i ≠ some q := fun i q hq => by rw [mnew_at] at hq; cases hq
  refine ⟨_, [w.heap.size, w.heap.size + 1], rfl, ⟨w.heap.size, fun _ => ⟨0, 0, 0, 0⟩, ⟨by simp [mnew], h1, h2, h3, h4, ?_, hB.alloc _, fun i q hq => absurd hq (hN i q), fun i j p q hp => absurd hp (hN i p)⟩, by simp, by simp, fun i q hq => absurd hq (hN i q), by simp; omega⟩, by simp, kA.alloc _⟩
  rw [mnew_rank]
  have hsz : (w.alloc (.cells (Array.replicate n (.pointer none)) 196)).heap.size = w.heap.size + 1 := by simp
  rw [← hsz]
  exact Blk.newA (w.alloc (.cells (Array.replicate n (.pointer none)) 196)) 194 #[.int .i64 n, .int .i64 z, .slice (some ⟨w.heap.size, 0, none⟩) n n, .int .i64 0]

theorem vclen_calls {w : World} {p g n X c : Nat} {t : List Value} (h : VcAt w p g n X c t) :
    Calls Tryz.prog 129 #[P0 p] w fun e w' => e = .returned (.int .i64 n) ∧ w = w' := by
  have c0 := h.b.cell' (i := 0) rfl
  go_enter Tryz.func129, Tryz.ntmps129
  go_wp2_with fail
  go_ret
  exact ⟨rfl, rfl⟩

/-- Data that are taken over: all of it, or none. -/
def DataIs (z : Nat) (a : Option Addr) (m c : Nat) (l D : List UInt8) : Prop := (D = l ∧ l.length = z ∧ m = z) ∨ (a = none ∧ m = 0 ∧ c = 0 ∧ D = zer z)
theorem DataIs.len {z m c : Nat} {a : Option Addr} {l D : List UInt8} (h : DataIs z a m c l D) : D.length = z := by
  rcases h with ⟨rfl, h, _⟩ | ⟨_, _, _, rfl⟩
  · exact h
  · exact zer_len z
theorem data_copy {w : World} {g z m c : Nat} {a : Option Addr} {l D : List UInt8} (hz : 1 ≤ z) (hg : Blk w g 5 (zeros z).toList) (hr : Rd w a l) (h : DataIs z a m c l D) :
    ∃ W', (Builtin.copy_ #[22, 22] 3 #[.slice (some ⟨g, 0, none⟩) z z, .slice a m c]).run Tryz.prog w = .ok (.int .i64 m) W' ∧ Blk W' g 5 (D.map B8) ∧ Keeps [g] w W' := by
  rcases h with ⟨rfl, hl, rfl⟩ | ⟨rfl, rfl, rfl, rfl⟩
  · cases a with
    | none =>
      exfalso
      obtain ⟨x, t, rfl⟩ : ∃ x t, D = x :: t := by
        cases D with
        | nil => simp at hl; omega
        | cons x t => exact ⟨x, t, rfl⟩
      obtain ⟨b, o, h, _⟩ := hr 0 x rfl
      cases h
    | some x =>
      obtain ⟨W', e1, e2, e3⟩ := copy_run (w := w) (g := g) (o := 0) (dLen := m) (dCap := m) (x := x) (sLen := m) (sCap := c) hg D (by rw [hl]; exact (Nat.min_self m).symm) hr.news (by simp [zeros]; omega)
      refine ⟨W', by rw [e1, hl], ?_, e3⟩
      simpa [zeros, hl] using e2
  · refine ⟨w, run_copy_nil (P := Tryz.prog) w 22 22 3 5 _ z z Tryz.underlying22 (by rw [Tryz.size_u8]; rfl), ?_, Keeps.refl _ _⟩
    simpa [zeros, zer, B8] using hg

def RedPost (w : World) (n z : Nat) (q : Rw) (e : Ending) (w' : World) : Prop :=
  ∃ L : Loc, e = .returned (P0 L.r) ∧ w.heap.size ≤ L.r ∧ w.heap.size ≤ L.v ∧ w.heap.size ≤ L.g ∧ w.heap.size ≤ L.d ∧ RwAt w' L n z q ∧ Keeps [] w w'

/-- A row just made: a copy of a vector, and zeros. -/
def FreshRw (w : World) (n X z : Nat) (s7 : Value) (wx : World) : Prop :=
  ∃ r2 p2 g2 d2 cc2 t2, s7 = P0 r2 ∧ w.heap.size ≤ r2 ∧ w.heap.size ≤ p2 ∧ w.heap.size ≤ g2 ∧ w.heap.size ≤ d2 ∧ Blk wx r2 199 [P0 p2, .slice (some ⟨d2, 0, none⟩) z z] ∧ VcAt wx p2 g2 n X cc2 t2 ∧ Blk wx d2 5 (zeros z).toList ∧ Keeps [] w wx
theorem fresh_rowA {w w2 : World} {p2 g2 cc2 n X z : Nat} {t2 : List Value} (nk : Keeps [] w w2) (hV : VcAt w2 p2 g2 n X cc2 t2) (hp : w.heap.size ≤ p2) (hg : w.heap.size ≤ g2) :
    FreshRw w n X z (P0 (w2.heap.size + 1)) ((w2.alloc (.cells (zeros z) 5)).alloc (.cells #[P0 p2, .slice (some ⟨w2.heap.size, 0, none⟩) z z] 199)) := by
  have k1 : Keeps [] w2 (w2.alloc (.cells (zeros z) 5)) := (Keeps.refl [] w2).alloc _
  have k2 := k1.alloc (.cells #[P0 p2, .slice (some ⟨w2.heap.size, 0, none⟩) z z] 199)
  have hrw := Blk.newA (w2.alloc (.cells (zeros z) 5)) 199 #[P0 p2, .slice (some ⟨w2.heap.size, 0, none⟩) z z]
  have hs1 : (w2.alloc (.cells (zeros z) 5)).heap.size = w2.heap.size + 1 := by simp
  rw [hs1] at hrw
  have hs := nk.size
  exact ⟨_, p2, g2, w2.heap.size, cc2, t2, rfl, by omega, hp, hg, hs, hrw, hV.keeps k2 (by simp) (by simp), (Blk.newA w2 5 (zeros z)).alloc _, nk.trans k2⟩
theorem fresh_rowB {w w1 w2 : World} {p2 g2 cc2 n X z d : Nat} {t2 : List Value} (nk : Keeps [] w w1) (k2 : Keeps [] (w1.alloc (.cells (zeros z) 5)) w2) (hV : VcAt w2 p2 g2 n X cc2 t2) (hp : (w1.alloc (.cells (zeros z) 5)).heap.size ≤ p2) (hg : (w1.alloc (.cells (zeros z) 5)).heap.size ≤ g2) (hd : d = w1.heap.size) :
    FreshRw w n X z (P0 w2.heap.size) (w2.alloc (.cells #[P0 p2, .slice (some ⟨d, 0, none⟩) z z] 199)) := by
  subst hd
  have k3 : Keeps [] w2 (w2.alloc (.cells #[P0 p2, .slice (some ⟨w1.heap.size, 0, none⟩) z z] 199)) := (Keeps.refl [] w2).alloc _
  have ka : Keeps [] w (w1.alloc (.cells (zeros z) 5)) := nk.alloc _
  have hs := nk.size
  have hs2 := ka.size
  have hs3 := k2.size
  exact ⟨_, p2, g2, w1.heap.size, cc2, t2, rfl, by omega, by omega, by omega, hs, Blk.newA w2 199 #[P0 p2, .slice (some ⟨w1.heap.size, 0, none⟩) z z], hV.keeps k3 (by simp) (by simp), ((Blk.newA w1 5 (zeros z)).keeps k2 (by simp)).keeps k3 (by simp), (ka.trans k2).trans k3⟩

set_option maxRecDepth 100000 in
set_option maxHeartbeats 2000000 in
theorem mred_calls {w : World} {pm pb n z : Nat} {M : Mtx} {L : Nat → Loc} (h : Mx w pm pb n z M L) {pv gv X cv : Nat} {tv : List Value} (hv : VcAt w pv gv n X cv tv) {a : Option Addr} {m c : Nat} {l D : List UInt8} (hl : Rd w a l) (hD : DataIs z a m c l D) :
    Calls Tryz.prog 135 #[P0 pm, P0 pv, .slice a m c] w (RedPost w n z (red M ⟨X, D⟩)) := by
  have c0 := h.b.cell' (i := 0) rfl
  have c1 := h.b.cell' (i := 1) rfl
  have c2 := h.b.cell' (i := 2) rfl
  have hz1 := h.z1
  have hz2 := h.z2
  have hmk := fun w => make_u8 z z (Nat.le_refl _) (by omega) w
  have HL := Lib.hid (fun (w' : World) (k : Keeps [] w w') => vclen_calls (hv.keeps k (by simp) (by simp)))
  have HC := Lib.hid (fun (w' : World) (k : Keeps [] w w') => vcopy_calls (hv.keeps k (by simp) (by simp)))
  have HM := Lib.hid h
  have Hl := Lib.hid hl
  have HD := Lib.hid hD
  have HX := Lib.hid hv.lt
  have hml := h.l
  have hn1 := h.n1
  have hn2 := h.n2
  clear hv hl hD h
  go_enter Tryz.func135, Tryz.ntmps135
  go_wp2_with fail
  refine wp_region_noPanic ?_
  refine wp_region_held_drew (S := (fun w' => w'.cell? ⟨pm, 0, none⟩ = some (.int .i64 n))) (by kernel_rfl) c0 (fun hHeld => ?_)
  have kd : Keeps [] w w.drew := (Keeps.refl [] w).drew
  refine wpAnyH_take (i := 0) (v := ?v1_1) rfl (by kernel_rfl) (by kernel_rfl) (by kernel_rfl) (fun _ _ _ h => h) (Or.inl ⟨by rfl, ?y1_1⟩) (by assumption) ?r1_1
  case y1_1 => (intro w hSw; (try dsimp only at hSw); go_simp; try with_reducible rfl)
  (try simp only [Act.put, List.getElem_toArray, List.getElem_cons_zero, List.getElem_cons_succ, List.setIfInBounds_toArray, List.set_cons_zero, List.set_cons_succ])
  refine wpAnyH_take (i := 1) (v := ?v1_2) rfl (by kernel_rfl) (by kernel_rfl) (by kernel_rfl) (fun _ _ _ h => h) (Or.inl ⟨by rfl, ?y1_2⟩) (by assumption) ?r1_2
  case y1_2 => (intro w hSw; (try dsimp only at hSw); go_simp; try with_reducible rfl)
  (try simp only [Act.put, List.getElem_toArray, List.getElem_cons_zero, List.getElem_cons_succ, List.setIfInBounds_toArray, List.set_cons_zero, List.set_cons_succ])
  refine wpAnyH_take (i := 2) (v := ?v1_3) rfl (by kernel_rfl) (by kernel_rfl) (by kernel_rfl) (fun _ _ _ h => h) (Or.inl ⟨by rfl, ?y1_3⟩) (by assumption) ?r1_3
  case y1_3 => (intro w hSw; (try dsimp only at hSw); go_simp; try with_reducible rfl)
  (try simp only [Act.put, List.getElem_toArray, List.getElem_cons_zero, List.getElem_cons_succ, List.setIfInBounds_toArray, List.set_cons_zero, List.set_cons_succ])
  refine wpAnyH_take (i := 3) (v := ?v1_4) rfl (by kernel_rfl) (by kernel_rfl) (by kernel_rfl) (fun _ _ _ h => h) (Or.inl ⟨by rfl, ?y1_4⟩) (by assumption) ?r1_4
  case y1_4 => (intro w hSw; (try dsimp only at hSw); go_simp; try with_reducible rfl)
  (try simp only [Act.put, List.getElem_toArray, List.getElem_cons_zero, List.getElem_cons_succ, List.setIfInBounds_toArray, List.set_cons_zero, List.set_cons_succ])
  refine wpAnyH_take (i := 5) (v := ?v1_5) rfl (by kernel_rfl) (by kernel_rfl) (by kernel_rfl) (fun _ _ _ h => h) (Or.inl ⟨by rfl, ?y1_5⟩) (by assumption) ?r1_5
  case y1_5 => (intro w hSw; (try dsimp only at hSw); go_simp; try with_reducible rfl)
  (try simp only [Act.put, List.getElem_toArray, List.getElem_cons_zero, List.getElem_cons_succ, List.setIfInBounds_toArray, List.set_cons_zero, List.set_cons_succ])
  refine wpAnyH_take (i := 6) (v := ?v1_6) rfl (by kernel_rfl) (by kernel_rfl) (by kernel_rfl) (fun _ _ _ h => h) (Or.inl ⟨by rfl, ?y1_6⟩) (by assumption) ?r1_6
  case y1_6 => (intro w hSw; (try dsimp only at hSw); go_simp; try with_reducible rfl)
  (try simp only [Act.put, List.getElem_toArray, List.getElem_cons_zero, List.getElem_cons_succ, List.setIfInBounds_toArray, List.set_cons_zero, List.set_cons_succ])
  refine wpAnyH_take (i := 7) (v := ?v1_7) rfl (by kernel_rfl) (by kernel_rfl) (by kernel_rfl) (fun _ _ _ h => h) (Or.inl ⟨by rfl, ?y1_7⟩) (by assumption) ?r1_7
  case y1_7 => (intro w hSw; (try dsimp only at hSw); go_simp; try with_reducible rfl)
  (try simp only [Act.put, List.getElem_toArray, List.getElem_cons_zero, List.getElem_cons_succ, List.setIfInBounds_toArray, List.set_cons_zero, List.set_cons_succ])
  refine wpAnyH_take (i := 8) (v := ?v1_8) rfl (by kernel_rfl) (by kernel_rfl) (by kernel_rfl) (fun _ _ _ h => h) (Or.inl ⟨by rfl, ?y1_8⟩) (by assumption) ?r1_8
  case y1_8 => (intro w hSw; (try dsimp only at hSw); go_simp; try with_reducible rfl)
  (try simp only [Act.put, List.getElem_toArray, List.getElem_cons_zero, List.getElem_cons_succ, List.setIfInBounds_toArray, List.set_cons_zero, List.set_cons_succ])
  refine wpAnyH_ready (rs := [4]) (by kernel_rfl) (by simp) ?_
  refine AllReadyH.cons rfl (fun K hK => ?_) AllReadyH.nil
  go_simp
  refine (HL.out _ kd).mono ?_
  rintro e w' ⟨rfl, rfl⟩
  go_wp2_with fail
  refine hK.out _ _ ?s1_9 (fun hHeld => ?_)
  case s1_9 => ((try dsimp only) <;> (first | exact c0))
  clear hK K
  (try simp only [Act.put, List.getElem_toArray, List.getElem_cons_zero, List.getElem_cons_succ, List.setIfInBounds_toArray, List.set_cons_zero, List.set_cons_succ])
  refine wpAnyH_take (i := 9) (v := ?v1_10) rfl (by kernel_rfl) (by kernel_rfl) (by kernel_rfl) (fun _ _ _ h => h) (Or.inl ⟨by rfl, ?y1_10⟩) (by assumption) ?r1_10
  case y1_10 => (intro w hSw; (try dsimp only at hSw); go_simp; try with_reducible rfl)
  (try simp only [Act.put, List.getElem_toArray, List.getElem_cons_zero, List.getElem_cons_succ, List.setIfInBounds_toArray, List.set_cons_zero, List.set_cons_succ])
  refine wpAnyH_take (i := 10) (v := ?v1_11) rfl (by kernel_rfl) (by kernel_rfl) (by kernel_rfl) (fun _ _ _ h => h) (Or.inl ⟨by rfl, ?y1_11⟩) (by assumption) ?r1_11
  case y1_11 => (intro w hSw; (try dsimp only at hSw); go_simp; try with_reducible rfl)
  (try simp only [Act.put, List.getElem_toArray, List.getElem_cons_zero, List.getElem_cons_succ, List.setIfInBounds_toArray, List.set_cons_zero, List.set_cons_succ])
  refine wpAnyH_done (by kernel_rfl) ?_ _
  refine NoPanic.normal ?_
  go_upto_region 3 with (fail)
  have hal : ∀ (W : World) (o : Obj), (W.cell? ⟨pm, 1, none⟩ = some (.int .i64 z) ∧ Keeps [] w W) → ((W.alloc o).cell? ⟨pm, 1, none⟩ = some (.int .i64 z) ∧ Keeps [] w (W.alloc o)) := fun W o h => ⟨(Keeps.alloc (Keeps.refl [] W) o).cell0 h.1, h.2.alloc o⟩
  go_cut [7] (fun s7 wx => FreshRw w n X z s7 wx)
  case first =>
    go_region_held3 (fun w' => w'.cell? ⟨pm, 1, none⟩ = some (.int .i64 z) ∧ Keeps [] w w')
      (first | exact ⟨c1, kd.drew⟩ | exact ⟨c1, kd⟩ | exact ⟨n1, nk⟩ | exact hal _ _ (by assumption))
      (first
        | (go_at_call 174; obtain ⟨s1, sk⟩ : _ ∧ Keeps [] w _ := (by assumption); refine (HC.out _ sk).mono ?_; rintro e w2 ⟨p2, g2, cc2, t2, rfl, hp2, hg2, hV2, k2⟩; have n1 := k2.cell0 s1; have nk := sk.trans k2; have hsk := sk.size))
    all_goals go_wp2_with fail
    all_goals go_meet
    all_goals first
      | exact fresh_rowA nk hV2 (Nat.le_trans hsk hp2) (Nat.le_trans hsk hg2)
      | exact fresh_rowB kd.drew k2 hV2 hp2 hg2 rfl
  case rest =>
  obtain ⟨r2, p2, g2, d2, cc2, t2, rfl, hr2w, hp2w, hg2w, hd2w, hrw, hV5, hz5, kd5⟩ := hcut
  have n1 : r2 ≠ d2 := hrw.ne hz5 (by decide)
  have n2 : p2 ≠ d2 := hV5.b.ne hz5 (by decide)
  have n3 : g2 ≠ d2 := hV5.r.ne hz5 (by decide)
  have HV5 := Lib.hid hV5
  obtain ⟨w4, hcp, hd4, k4⟩ := data_copy hz1 hz5 (Hl.out.keepsNil kd5) HD.out
  have r0 := hrw.cell' (i := 0) rfl
  have r1 := hrw.cell' (i := 1) rfl
  have hrw4 := hrw.keeps k4 (by simpa using n1)
  have HV4 := Lib.hid (HV5.out.keeps k4 (by simpa using n2) (by simpa using n3))
  have kd6 : Keeps [] w w4 := kd5.trans' k4 (by simp) (fun x hx => .inr (by simp at hx; omega))
  have e2 := kd6.cell0 c2
  have e0 := kd6.cell0 c0
  have HR0 := Lib.hid (show RwAt w4 ⟨r2, p2, g2, d2⟩ n z (redK M ⟨X, D⟩ 0) from ⟨cc2, t2, hrw4, HV4.out, hd4, HD.out.len⟩)
  have HK6 := Lib.hid kd6
  have hcp1 := Lib.hid hcp
  clear hrw hz5 hrw4 HV4 HV5 hV5 hd4 k4 kd5 kd6 kd hcp c0 c1 c2 hal
  have hcp := hcp1.out
  go_wp2_with fail
  clear hcp hcp1 r0 r1
  clear e0 e2
  have HLt := Lib.hid (show w.heap.size ≤ r2 ∧ w.heap.size ≤ d2 from ⟨hr2w, hd2w⟩)
  clear hr2w hd2w HC HL HD Hl hmk
  go_loopw [41] (fun i wr => ∃ k : Nat, k ≤ n ∧ i = .int .i64 k ∧ RwAt wr ⟨r2, p2, g2, d2⟩ n z (redK M ⟨X, D⟩ k) ∧ Keeps [] w wr) (fun i _ => n - (intOf i).toNat)
  case atStart => exact ⟨0, Nat.zero_le _, rfl, HR0.out, HK6.out⟩
  case round =>
    clear HR0 HK6
    obtain ⟨k, hk, rfl, hR, hK⟩ := hrel
    by_cases hlt : k < n
    · have hMr := HM.out.keepsNil hK
      have hpk := hMr.ptr hlt
      have hkn : (k : Int) < (n : Int) := by omega
      have hst : redK M ⟨X, D⟩ (k + 1) = match M.at k with
        | some q => if (redK M ⟨X, D⟩ k).x.testBit k then rxor (redK M ⟨X, D⟩ k) q else redK M ⟨X, D⟩ k
        | none => redK M ⟨X, D⟩ k := rfl
      cases hak : M.at k with
      | none =>
        rw [hak] at hpk hst
        simp only [ptrOf] at hpk hst
        have HR := Lib.hid hR
        have HK := Lib.hid hK
        have Hst := Lib.hid hst
        clear hR hK hst hMr hak
        go_wp2_with fail
        go_roundw
        case rel => exact ⟨k + 1, by omega, by go_num, by rw [Hst.out]; exact HR.out, HK.out⟩
        case measure => simp [intOf]; omega
      | some q =>
        rw [hak] at hpk hst
        simp only [ptrOf] at hpk hst
        have hq := hMr.row k q hak
        have hql := (HM.out.row k q hak).lt
        generalize redK M ⟨X, D⟩ k = Q at *
        obtain ⟨cx, tx, hb, hvx, hdx, hlx⟩ := id hR
        have r0 := hb.cell' (i := 0) rfl
        have hH := vchas_calls hvx k hlt
        have hXr := rwxor_calls hR hq (by show g2 ≠ (L k).g; omega) (by show d2 ≠ (L k).d; have := HLt.out; omega) hz2
        have HR := Lib.hid hR
        have HK := Lib.hid hK
        have HH := Lib.hid hH
        have HXr := Lib.hid hXr
        clear hR hK hH hMr hak hq hb hvx hdx hXr hql
        cases htb : Q.x.testBit k with
        | false =>
          rw [htb] at hst HH
          have Hst := Lib.hid (show redK M ⟨X, D⟩ (k + 1) = Q from by simpa using hst)
          clear hst htb
          go_wp2_with fail
          refine HH.out.mono ?_
          rintro e w' ⟨rfl, rfl⟩
          go_wp2_with fail
          go_roundw
          case rel => exact ⟨k + 1, by omega, by go_num, by rw [Hst.out]; exact HR.out, HK.out⟩
          case measure => simp [intOf]; omega
        | true =>
          rw [htb] at hst HH
          have Hst := Lib.hid (show redK M ⟨X, D⟩ (k + 1) = rxor Q q from by simpa using hst)
          clear hst htb
          go_wp2_with fail
          refine HH.out.mono ?_
          rintro e w' ⟨rfl, rfl⟩
          go_wp2_with fail
          refine HXr.out.mono ?_
          rintro e w5 ⟨rfl, hR5, k5⟩
          have HR5 := Lib.hid hR5
          have HK5 := Lib.hid (HK.out.trans' k5 (fun _ h => .inl h) (fun x hx => .inr (by simp at hx; have := HLt.out; omega)))
          clear hR5 k5
          go_wp2_with fail
          go_roundw
          case rel => exact ⟨k + 1, by omega, by go_num, by rw [Hst.out]; exact HR5.out, HK5.out⟩
          case measure => simp [intOf]; omega
    · obtain rfl : k = n := by omega
      have hrd : redK M ⟨X, D⟩ k = red M ⟨X, D⟩ := by unfold red; rw [hml]
      rw [hrd] at hR
      have HR := Lib.hid hR
      have HK := Lib.hid hK
      clear hR hK hrd
      go_wp2_with fail
      go_ret
      exact ⟨_, rfl, HLt.out.1, hp2w, hg2w, HLt.out.2, HR.out, HK.out⟩

end Go.Proofs.YtijhaeapoapgfaaGreatDoor

set_option linter.unusedVariables false
set_option linter.unusedSimpArgs false
namespace Go.Proofs.YtijhaeapoapgfaaGreatDoor
open Go.RowKit
attribute [local go_sem ↓] Go.wp_at_zero Go.wp_at_succ

theorem least_bit {p : Nat → Bool} : ∀ r, p r = true → ∃ a, a ≤ r ∧ p a = true ∧ ∀ j, j < a → p j = false := by
  intro r
  induction r using Nat.strongRecOn with
  | ind r ih =>
    intro hr
    by_cases h : ∃ j, j < r ∧ p j = true
    · obtain ⟨j, hj, hp⟩ := h
      obtain ⟨a, h1, h2, h3⟩ := ih j hj hp
      exact ⟨a, by omega, h2, h3⟩
    · refine ⟨r, Nat.le_refl _, hr, fun j hj => ?_⟩
      cases e : p j with
      | false => rfl
      | true => exact absurd ⟨j, hj, e⟩ h
theorem firstB_some {n X : Nat} (hX : X < 2 ^ n) (h0 : X ≠ 0) : ∃ a : Nat, a < n ∧ firstB n X = (a : Int) ∧ X.testBit a = true ∧ ∀ j, j < a → X.testBit j = false := by
  obtain ⟨r, hr⟩ := Nat.exists_testBit_of_ne_zero h0
  obtain ⟨a, _, h2, h3⟩ := least_bit (p := X.testBit) r hr
  have ha : a < n := by
    rcases Nat.lt_or_ge a n with h | h
    · exact h
    · rw [Nat.testBit_lt_two_pow (Nat.lt_of_lt_of_le hX (Nat.pow_le_pow_right (by omega) h))] at h2; cases h2
  exact ⟨a, ha, firstB_at ha h2 h3, h2, h3⟩
theorem firstB_zero (n : Nat) : firstB n 0 = -1 := firstB_none (fun j _ => Nat.zero_testBit j)

/-- A row more, if it says something new. -/
def mAdd (n : Nat) (M : Mtx) (r : Rw) : Mtx := if (red M r).x = 0 then M else madd M (firstB n (red M r).x).toNat (red M r)

theorem rank_congr {M M' : Mtx} (hl : M'.length = M.length) (h : ∀ i, (M'.at i).isSome = (M.at i).isSome) : rank M' = rank M := by
  have e : M'.map Option.isSome = M.map Option.isSome := by
    apply List.ext_getElem
    · simp [hl]
    · intro i h1 h2
      have h1' : i < M'.length := by simpa using h1
      have h2' : i < M.length := by simpa using h2
      have := h i
      simp only [Mtx.at, List.getD_eq_getElem?_getD, List.getElem?_eq_getElem h1', List.getElem?_eq_getElem h2', Option.getD_some] at this
      simpa using this
  have e2 : ∀ N : Mtx, rank N = (N.map Option.isSome).countP id := fun N => by unfold rank; rw [List.countP_map]; rfl
  rw [e2, e2, e]
theorem ptrs_congr {M M' : Mtx} {L : Nat → Loc} (hl : M'.length = M.length) (h : ∀ i, (M'.at i).isSome = (M.at i).isSome) : ptrs M' L = ptrs M L := by
  unfold ptrs
  rw [hl]
  apply List.map_congr_left
  intro i _
  have := h i
  cases e : M.at i <;> cases e' : M'.at i <;> rw [e, e'] at this <;> simp_all [ptrOf]

/-- One row of a matrix has changed. -/
theorem Mx.upd {w w' : World} {pm pb n z k : Nat} {M M' : Mtx} {L : Nat → Loc} {q q' : Rw} (h : Mx w pm pb n z M L) (hl : M'.length = M.length) (ho : ∀ i, i ≠ k → M'.at i = M.at i) (hq : M.at k = some q) (hq' : M'.at k = some q')
    (hr : RwAt w' (L k) n z q') (kp : Keeps [(L k).g, (L k).d] w w') : Mx w' pm pb n z M' L := by
  have hs : ∀ i, (M'.at i).isSome = (M.at i).isSome := fun i => by
    by_cases e : i = k
    · subst e; rw [hq, hq']; rfl
    · rw [ho i e]
  have hk := h.row k q hq
  obtain ⟨ck, tk, hbk, hvk, hdk, hlk⟩ := id hk
  refine ⟨by rw [hl, h.l], h.n1, h.n2, h.z1, h.z2, ?_, ?_, fun i p hp => ?_, fun i j p p' hp hp' hij => ?_⟩
  · rw [rank_congr hl hs]
    exact h.b.keeps kp (by simp only [List.mem_cons, List.not_mem_nil, or_false, not_or]; exact ⟨h.b.ne hvk.r (by decide), h.b.ne hdk (by decide)⟩)
  · rw [ptrs_congr hl hs]
    exact h.r.keeps kp (by simp only [List.mem_cons, List.not_mem_nil, or_false, not_or]; exact ⟨h.r.ne hvk.r (by decide), h.r.ne hdk (by decide)⟩)
  · by_cases e : i = k
    · subst e
      rw [hq'] at hp
      obtain rfl := Option.some.inj hp
      exact hr
    · rw [ho i e] at hp
      obtain ⟨d1, d2⟩ := h.dis i k p q hp hq e
      exact (h.row i p hp).other hk d1 d2 kp
  · have g1 : ∃ u, M.at i = some u := by
      have := hs i; rw [hp] at this; exact Option.isSome_iff_exists.1 this.symm
    have g2 : ∃ u, M.at j = some u := by
      have := hs j; rw [hp'] at this; exact Option.isSome_iff_exists.1 this.symm
    obtain ⟨u, hu⟩ := g1
    obtain ⟨v, hv⟩ := g2
    exact h.dis i j u v hu hv hij

theorem addTo_step_none {M : Mtx} {a k : Nat} {r : Rw} (h : M.at k = none) : addTo M a r (k + 1) = addTo M a r k := by
  unfold addTo
  apply List.map_congr_left
  intro i _
  by_cases e : i = k
  · subst e; rw [if_pos (by omega), if_neg (by omega), h]
  · by_cases e2 : i < k
    · rw [if_pos (by omega), if_pos e2]
    · rw [if_neg (by omega), if_neg e2]
theorem addTo_step_keep {M : Mtx} {a k : Nat} {r q : Rw} (h : M.at k = some q) (hb : q.x.testBit a = false) : addTo M a r (k + 1) = addTo M a r k := by
  unfold addTo
  apply List.map_congr_left
  intro i _
  by_cases e : i = k
  · subst e; rw [if_pos (by omega), if_neg (by omega), h]; simp [hb]
  · by_cases e2 : i < k
    · rw [if_pos (by omega), if_pos e2]
    · rw [if_neg (by omega), if_neg e2]
theorem Mtx.at_ge {M : Mtx} {i : Nat} (h : M.length ≤ i) : M.at i = none := by
  unfold Mtx.at
  rw [List.getD_eq_getElem?_getD, List.getElem?_eq_none h]; rfl
theorem addTo_other {M : Mtx} {a k i : Nat} {r : Rw} (h : i ≠ k) : (addTo M a r (k + 1)).at i = (addTo M a r k).at i := by
  rcases Nat.lt_or_ge i M.length with hi | hi
  · rw [addTo_at M a r _ i hi, addTo_at M a r _ i hi]
    by_cases e2 : i < k
    · rw [if_pos (by omega), if_pos e2]
    · rw [if_neg (by omega), if_neg e2]
  · rw [Mtx.at_ge (by rw [addTo_len]; exact hi), Mtx.at_ge (by rw [addTo_len]; exact hi)]
theorem addTo_here {M : Mtx} {a k : Nat} {r : Rw} (hk : k < M.length) : (addTo M a r k).at k = M.at k := by
  rw [addTo_at M a r k k hk, if_neg (by omega)]
theorem addTo_next {M : Mtx} {a k : Nat} {r q : Rw} (hk : k < M.length) (h : M.at k = some q) (hb : q.x.testBit a = true) : (addTo M a r (k + 1)).at k = some (rxor q r) := by
  rw [addTo_at M a r (k + 1) k hk, if_pos (by omega), h]; simp [hb]
/-- The new row in its place. -/
theorem Mx.put {w wa wb : World} {pm pb n z a : Nat} {M : Mtx} {L : Nat → Loc} {r : Rw} {Lf : Loc} (h : Mx w pm pb n z (addTo M a r n) L) (hl : M.length = n) (hn : M.at a = none) (ha : a < n) (hr : RwAt w Lf n z r)
    (hfr : ∀ i q, M.at i = some q → (L i).g ≠ Lf.g ∧ (L i).d ≠ Lf.d) (hka : wa = w.setCell ⟨pb, a, none⟩ (P0 Lf.r)) (hkb : wb = wa.setCell ⟨pm, 3, none⟩ (.int .i64 (rank M + 1 : Nat))) :
    Mx wb pm pb n z (madd M a r) (fun i => if i = a then Lf else L i) := by
  have kw : Keeps [pb, pm] w wb := by
    subst hkb hka
    exact ((Keeps.refl [pb, pm] w).setCell (by simp) _).setCell (by simp) _
  have hpne : pm ≠ pb := h.b.ne h.r (by decide)
  have hrw : ∀ {Lx : Loc} {q : Rw}, RwAt w Lx n z q → RwAt wb Lx n z q := fun {Lx q} hx => by
    obtain ⟨c, t, hb, hv, hd, _⟩ := id hx
    refine hx.keeps kw ?_ ?_ ?_ ?_ <;> simp only [List.mem_cons, List.not_mem_nil, or_false, not_or]
    · exact ⟨hb.ne h.r (by decide), hb.ne h.b (by decide)⟩
    · exact ⟨hv.b.ne h.r (by decide), hv.b.ne h.b (by decide)⟩
    · exact ⟨hv.r.ne h.r (by decide), hv.r.ne h.b (by decide)⟩
    · exact ⟨hd.ne h.r (by decide), hd.ne h.b (by decide)⟩
  have hat : ∀ i q, (madd M a r).at i = some q → (i = a ∧ q = r) ∨ (i ≠ a ∧ (addTo M a r n).at i = some q ∧ ∃ q0, M.at i = some q0) := fun i q hq => by
    have hi := Mtx.at_lt hq
    rw [madd_len] at hi
    have e := hq
    rw [madd_at M a r hi (by omega)] at hq
    by_cases hia : i = a
    · rw [if_pos hia] at hq; exact .inl ⟨hia, (Option.some.inj hq).symm⟩
    · rw [if_neg hia] at hq
      refine .inr ⟨hia, ?_, ?_⟩
      · rw [addTo_at M a r n i hi, if_pos (by omega)]; exact hq
      · cases e2 : M.at i with
        | none => rw [e2] at hq; cases hq
        | some q0 => exact ⟨q0, rfl⟩
  refine ⟨by rw [madd_len, hl], h.n1, h.n2, h.z1, h.z2, ?_, ?_, fun i q hq => ?_, fun i j p q hp hq hij => ?_⟩
  · rw [madd_rank (by omega) hn]
    have hb1 := h.b
    subst hkb hka
    exact (h.b.setOther (a := ⟨pb, a, none⟩) (P0 Lf.r) hpne).set 3 (.int .i64 (rank M + 1 : Nat))
  · have hr1 : Blk wb pb 196 ((ptrs (addTo M a r n) L).set a (P0 Lf.r)) := by
      subst hkb hka
      exact (h.r.set a (P0 Lf.r)).setOther (a := ⟨pm, 3, none⟩) _ (fun e => hpne e.symm)
    have he : (ptrs (addTo M a r n) L).set a (P0 Lf.r) = ptrs (madd M a r) (fun i => if i = a then Lf else L i) := by
      apply List.ext_getElem
      · simp [ptrs, addTo_len, madd_len]
      · intro i h1 h2
        have hi : i < M.length := by simpa [ptrs, addTo_len] using h1
        rw [List.getElem_set]
        simp only [ptrs, List.getElem_map, List.getElem_range]
        by_cases e : a = i
        · subst e
          rw [if_pos rfl, madd_at M a r hi (by omega), if_pos rfl]
          simp [ptrOf]
        · rw [if_neg e, addTo_at M a r n i hi, if_pos (by omega), madd_at M a r hi (by omega), if_neg (fun h => e h.symm)]
          cases M.at i with
          | none => rfl
          | some q =>
            have hia : ¬ i = a := fun h => e h.symm
            simp only; split <;> (simp only [ptrOf]; rw [if_neg hia])
    rw [← he]
    exact hr1
  · rcases hat i q hq with ⟨rfl, rfl⟩ | ⟨hia, h1, _⟩
    · simp only [if_pos]; exact hrw hr
    · simp only [if_neg hia]; exact hrw (h.row i q h1)
  · rcases hat i p hp with ⟨rfl, rfl⟩ | ⟨hia, h1, q1, hq1⟩
    · rcases hat j q hq with ⟨rfl, _⟩ | ⟨hja, h2, q2, hq2⟩
      · exact absurd rfl hij
      · simp only [if_neg hja, if_pos]
        have := hfr j q2 hq2
        exact ⟨fun e => this.1 e.symm, fun e => this.2 e.symm⟩
    · rcases hat j q hq with ⟨rfl, rfl⟩ | ⟨hja, h2, q2, hq2⟩
      · simp only [if_neg hia, if_pos]
        exact hfr i q1 hq1
      · simp only [if_neg hia, if_neg hja]
        exact h.dis i j p q h1 h2 hij

set_option maxRecDepth 100000 in
theorem iadd_calls {w : World} {p i : Nat} (t : TypeId) (l : List Value) (h : Blk w p t l) (x : Nat) (hx : l[i]? = some (.int .i64 x)) (hb : x ≤ 1000000000) :
    Calls Tryz.prog 84 #[.pointer (some ⟨p, i, none⟩), .int .i64 1] w fun e w' => e = .returned (.int .i64 (x + 1 : Nat)) ∧ w' = w.setCell ⟨p, i, none⟩ (.int .i64 (x + 1 : Nat)) := by
  have hc := h.cell' hx
  have hz := h.frozen i
  have hadd := run_call_add (P := Tryz.prog) Tryz.func138 (by kernel_rfl) (by kernel_rfl) (by kernel_rfl) .i64 (by kernel_rfl) (y := 1) (s := (x + 1 : Nat)) hc hz (by simp [go_sem]; rw [IntKind.wrap_i64]; omega)
  clear hc hz
  go_enter Tryz.func84, Tryz.ntmps84
  go_wp2
  go_ret
  exact ⟨rfl, rfl⟩

set_option maxRecDepth 100000 in
theorem iload_calls {w : World} {a : Addr} (x : Int) (h : w.cell? a = some (.int .i64 x)) :
    Calls Tryz.prog 117 #[.pointer (some a)] w fun e w' => e = .returned (.int .i64 x) ∧ w = w' := by
  have hl := run_call_load (P := Tryz.prog) Tryz.func156 (by kernel_rfl) (by kernel_rfl) (by kernel_rfl) .i64 (by kernel_rfl) h
  go_enter Tryz.func117, Tryz.ntmps117
  go_wp2
  go_ret
  exact ⟨rfl, rfl⟩

end Go.Proofs.YtijhaeapoapgfaaGreatDoor

set_option linter.unusedVariables false
set_option linter.unusedSimpArgs false
namespace Go.Proofs.YtijhaeapoapgfaaGreatDoor
open Go.RowKit
attribute [local go_sem ↓] Go.wp_at_zero Go.wp_at_succ

/-- What Add leaves. -/
def AddPost (w : World) (pm n z : Nat) (M : Mtx) (q : Rw) (Fl : List Nat) (e : Ending) (w' : World) : Prop :=
  ((red M q).x = 0 ∧ e = .returned (.bool false) ∧ Keeps [] w w') ∨
  ((red M q).x ≠ 0 ∧ e = .returned (.bool true) ∧ ∃ Fl', MxF w' pm n z (mAdd n M q) Fl' ∧ (∀ x ∈ Fl', x ∈ Fl ∨ w.heap.size ≤ x) ∧ Keeps Fl w w')

set_option maxRecDepth 100000 in
set_option maxHeartbeats 2000000 in
theorem madd_calls {w : World} {pm n z : Nat} {M : Mtx} {Fl : List Nat} (h : MxF w pm n z M Fl) (he : Ech n z M) (ht : TzAt w) {pv gv X cv : Nat} {tv : List Value} (hv : VcAt w pv gv n X cv tv) {a : Option Addr} {c : Nat} {l : List UInt8} (hl : Rd w a l) (hlz : l.length = z) :
    Calls Tryz.prog 83 #[P0 pm, P0 pv, .slice a z c] w (AddPost w pm n z M ⟨X, l⟩ Fl) := by
  unfold AddPost
  obtain ⟨pb, L, hM, hF1, hF2, hF3, hF4⟩ := h
  have c1 := hM.b.cell' (i := 1) rfl
  have hn2 := hM.n2
  have hz2 := hM.z2
  have hml := hM.l
  have HR := Lib.hid (mred_calls (c := c) hM hv hl (.inl ⟨rfl, hlz, rfl⟩))
  obtain ⟨hqx, hqd⟩ := red_len he (r := ⟨X, l⟩) hv.lt hlz
  have hadd : mAdd n M ⟨X, l⟩ = if (red M ⟨X, l⟩).x = 0 then M else madd M (firstB n (red M ⟨X, l⟩).x).toNat (red M ⟨X, l⟩) := rfl
  have hclr : ∀ i p, M.at i = some p → (red M ⟨X, l⟩).x.testBit i = false := fun i p hp => red_clear he ⟨X, l⟩ hp
  generalize red M ⟨X, l⟩ = q at *
  generalize mAdd n M ⟨X, l⟩ = M2 at *
  have HM := Lib.hid hM
  have HF := Lib.hid (And.intro hF1 (And.intro hF2 (And.intro hF3 hF4)))
  have Hqd := Lib.hid hqd
  have HC := Lib.hid hclr
  have HA := Lib.hid hadd
  have Hlz := Lib.hid hlz
  clear hM hF1 hF2 hF3 hF4 hqd hclr hadd hv hl he hlz
  by_cases hq0 : q.x = 0
  · have hf := firstB_zero n
    rw [← hq0] at hf
    have Hq0 := Lib.hid hq0
    clear HA hq0
    go_enter Tryz.func83, Tryz.ntmps83
    go_wp2_with fail
    refine HR.out.mono ?_
    rintro e w1 ⟨Lf, rfl, g1, g2, g3, g4, hRw, k1⟩
    obtain ⟨cx, tx, hb, hvx, hdx, hlx⟩ := id hRw
    have r0 := hb.cell' (i := 0) rfl
    have hFi := vcfirst_calls hvx (ht.keeps k1 (by simp))
    rw [hf] at hFi
    have HFi := Lib.hid hFi
    have HK1 := Lib.hid k1
    clear hFi hb hvx hdx hRw k1
    go_wp2_with fail
    refine HFi.out.mono ?_
    rintro e w' ⟨rfl, rfl⟩
    go_wp2_with fail
    go_ret
    exact .inl ⟨Hq0.out, rfl, HK1.out⟩
  · obtain ⟨ab, hab, hf, hb1, hb2⟩ := firstB_some hqx hq0
    have hA := HA.out
    rw [if_neg hq0, hf, Int.toNat_natCast] at hA
    have Hq0 := Lib.hid hq0
    have HA2 := Lib.hid hA
    have hna : M.at ab = none := by
      cases e : M.at ab with
      | none => rfl
      | some p => rw [HC.out ab p e] at hb1; cases hb1
    have Hna := Lib.hid hna
    clear HA hA hq0 hb2 hna HC hqx
    go_enter Tryz.func83, Tryz.ntmps83
    go_wp2_with fail
    refine HR.out.mono ?_
    rintro e w1 ⟨Lf, rfl, g1, g2, g3, g4, hRw, k1⟩
    obtain ⟨cx, tx, hb, hvx, hdx, hlx⟩ := id hRw
    have r0 := hb.cell' (i := 0) rfl
    have hFi := vcfirst_calls hvx (ht.keeps k1 (by simp))
    rw [hf] at hFi
    have HFi := Lib.hid hFi
    have HM1 := Lib.hid (HM.out.keepsNil k1)
    have c2 := HM1.out.b.cell' (i := 2) rfl
    have HK1 := Lib.hid k1
    have HRw := Lib.hid hRw
    have hab' : ¬ ((ab : Int) < 0) := by omega
    clear hFi hb hvx hdx hRw k1 hf hb1
    go_wp2_with fail
    refine HFi.out.mono ?_
    rintro e w' ⟨rfl, rfl⟩
    go_wp2_with fail
    refine HFi.out.mono ?_
    rintro e w' ⟨rfl, rfl⟩
    go_wp2_with fail
    clear r0 c1 c2 HR HFi
    have hqb : ∀ i p, M.at i = some p → (L i).g ≠ Lf.g ∧ (L i).d ≠ Lf.d := fun i p hp => by
      have := (HM.out.row i p hp).lt
      omega
    have Hqb := Lib.hid hqb
    have Hg := Lib.hid (show w.heap.size ≤ Lf.r ∧ w.heap.size ≤ Lf.v ∧ w.heap.size ≤ Lf.g ∧ w.heap.size ≤ Lf.d from ⟨g1, g2, g3, g4⟩)
    have HM0 := Lib.hid (show Mx w1 pm pb n z (addTo M ab q 0) L from by rw [addTo_zero]; exact HM1.out)
    clear hqb g1 g2 g3 g4 HM1
    obtain ⟨w1b, hw1b⟩ : ∃ w1b, w1b = w1 := ⟨_, rfl⟩
    go_loopw [46] (fun i wr => ∃ k : Nat, k ≤ n ∧ i = .int .i64 k ∧ Mx wr pm pb n z (addTo M ab q k) L ∧ RwAt wr Lf n z q ∧ Keeps Fl w wr) (fun i _ => n - (intOf i).toNat)
    case atStart => exact ⟨0, Nat.zero_le _, rfl, HM0.out, HRw.out, HK1.out.nil⟩
    case round =>
      clear HM0 HRw HK1
      obtain ⟨k, hk, rfl, hMr, hRr, hKr⟩ := hrel
      by_cases hlt : k < n
      · have hpk := hMr.ptr hlt
        have hat : (addTo M ab q k).at k = M.at k := addTo_here (by rw [hml]; exact hlt)
        rw [hat] at hpk
        have hkn : (k : Int) < (n : Int) := by omega
        cases hak : M.at k with
        | none =>
          rw [hak] at hpk
          simp only [ptrOf] at hpk
          have Hst := Lib.hid (addTo_step_none (a := ab) (r := q) hak)
          have HMr := Lib.hid hMr
          have HRr := Lib.hid hRr
          have HKr := Lib.hid hKr
          clear hMr hRr hKr hak hat
          go_wp2_with fail
          go_roundw
          case rel => exact ⟨k + 1, by omega, by go_num, by rw [Hst.out]; exact HMr.out, HRr.out, HKr.out⟩
          case measure => simp [intOf]; omega
        | some p =>
          rw [hak] at hpk hat
          simp only [ptrOf] at hpk
          have hRp := hMr.row k p hat
          obtain ⟨cx, tx, hb, hvx, hdx, hlx⟩ := id hRp
          have r0 := hb.cell' (i := 0) rfl
          have hH := vchas_calls hvx ab hab
          obtain ⟨q1, q2⟩ := Hqb.out k p hak
          have hXr := rwxor_calls hRp hRr q1 q2 hz2
          have HMr := Lib.hid hMr
          have HRr := Lib.hid hRr
          have HKr := Lib.hid hKr
          have HH := Lib.hid hH
          have HXr := Lib.hid hXr
          have HRp := Lib.hid hRp
          have Hat := Lib.hid hat
          have Hak := Lib.hid hak
          clear hMr hRr hKr hH hXr hb hvx hdx hRp hat hak hlx
          cases htb : p.x.testBit ab with
          | false =>
            rw [htb] at HH
            have Hst := Lib.hid (addTo_step_keep (r := q) Hak.out htb)
            clear htb
            go_wp2_with fail
            refine HH.out.mono ?_
            rintro e w' ⟨rfl, rfl⟩
            go_wp2_with fail
            go_roundw
            case rel => exact ⟨k + 1, by omega, by go_num, by rw [Hst.out]; exact HMr.out, HRr.out, HKr.out⟩
            case measure => simp [intOf]; omega
          | true =>
            rw [htb] at HH
            have Hst := Lib.hid (addTo_next (r := q) (by rw [hml]; exact hlt) Hak.out htb)
            clear htb
            go_wp2_with fail
            refine HH.out.mono ?_
            rintro e w' ⟨rfl, rfl⟩
            go_wp2_with fail
            refine HXr.out.mono ?_
            rintro e w5 ⟨rfl, hR5, k5⟩
            have HR5 := Lib.hid hR5
            have Hk5 := Lib.hid k5
            clear hR5 k5
            go_wp2_with fail
            go_roundw
            case rel =>
              refine ⟨k + 1, by omega, by go_num, HMr.out.upd (by rw [addTo_len, addTo_len]) (fun i hi => addTo_other hi) Hat.out Hst.out HR5.out Hk5.out, HRr.out.other HRp.out (fun e => q1 e.symm) (fun e => q2 e.symm) Hk5.out, ?_⟩
              refine HKr.out.trans' Hk5.out (fun _ h => .inl h) (fun x hx => .inl ?_)
              obtain ⟨_, _, f3, f4⟩ := HF.out.2.2.1 k p Hak.out
              simp only [List.mem_cons, List.not_mem_nil, or_false] at hx
              rcases hx with rfl | rfl
              · exact f3
              · exact f4
            case measure => simp [intOf]; omega
      · obtain rfl : k = n := by omega
        have e2 := hMr.b.cell' (i := 2) rfl
        have hpa := hMr.ptr hab
        have fr := hMr.r.frozen ab
        have hki : (ab : Int) < (k : Int) := by omega
        have hb2 := hMr.b.setOther (a := ⟨pb, ab, none⟩) (P0 Lf.r) (hMr.b.ne hMr.r (by decide))
        have hrk : rank (addTo M ab q k) = rank M := addTo_rank _ _ _ _
        rw [hrk] at hb2
        have hrl := rank_le M
        have HA3 := Lib.hid (iadd_calls (i := 3) _ _ hb2 (rank M) rfl (by omega))
        have HMr := Lib.hid hMr
        have HRr := Lib.hid hRr
        have HKr := Lib.hid hKr
        clear hMr hRr hKr hb2 hrk
        go_wp2_with fail
        refine HA3.out.mono ?_
        rintro e w6 ⟨rfl, hw6⟩
        have Hw6 := Lib.hid hw6
        clear hw6
        go_wp2_with fail
        go_ret
        have hw6 := Hw6.out
        obtain ⟨f1, f2, f3, f4⟩ := HF.out
        have hput := HMr.out.put hml Hna.out hab HRr.out Hqb.out rfl hw6
        have hk7 : Keeps Fl w w6 := by
          rw [hw6]
          exact (HKr.out.setCell (.inl f2) _).setCell (.inl f1) _
        have hlt6 := HRr.out.lt
        have hsz : wr.heap.size ≤ w6.heap.size := by rw [hw6]; simp [World.setCell]
        obtain ⟨G1, G2, G3, G4⟩ := Hg.out
        refine .inr ⟨Hq0.out, rfl, Lf.r :: Lf.v :: Lf.g :: Lf.d :: Fl, ⟨pb, _, by rw [HA2.out]; exact hput, by simp [f1], by simp [f2], fun i p hp => ?_, fun x hx => ?_⟩, fun x hx => ?_, hk7⟩
        · rw [HA2.out] at hp
          by_cases hia : i = ab
          · subst hia; simp
          · have hi := Mtx.at_lt hp
            rw [madd_len] at hi
            rw [madd_at M ab q hi (by omega), if_neg hia] at hp
            simp only [if_neg hia]
            cases e2 : M.at i with
            | none => rw [e2] at hp; cases hp
            | some p0 =>
              obtain ⟨h1, h2, h3, h4⟩ := f3 i p0 e2
              simp [h1, h2, h3, h4]
        · simp only [List.mem_cons] at hx
          rcases hx with rfl | rfl | rfl | rfl | hx
          · omega
          · omega
          · omega
          · omega
          · have := f4 x hx; have := hk7.size; omega
        · simp only [List.mem_cons] at hx
          rcases hx with rfl | rfl | rfl | rfl | hx
          · exact .inr G1
          · exact .inr G2
          · exact .inr G3
          · exact .inr G4
          · exact .inl hx

end Go.Proofs.YtijhaeapoapgfaaGreatDoor

set_option linter.unusedVariables false
set_option linter.unusedSimpArgs false
namespace Go.Proofs.YtijhaeapoapgfaaGreatDoor
open Go.RowKit
attribute [local go_sem ↓] Go.wp_at_zero Go.wp_at_succ

set_option maxRecDepth 100000 in
theorem mrank_calls {w : World} {pm pb n z : Nat} {M : Mtx} {L : Nat → Loc} (h : Mx w pm pb n z M L) :
    Calls Tryz.prog 85 #[P0 pm] w fun e w' => e = .returned (.int .i64 (rank M)) ∧ w = w' := by
  have hL := iload_calls _ (h.b.cell' (i := 3) rfl)
  have HL := Lib.hid hL
  clear hL
  go_enter Tryz.func85, Tryz.ntmps85
  go_wp2_with fail
  refine HL.out.mono ?_
  rintro e w' ⟨rfl, rfl⟩
  go_wp2_with fail
  go_ret
  exact ⟨rfl, rfl⟩
theorem MxF.rank_calls {w : World} {pm n z : Nat} {M : Mtx} {Fl : List Nat} (h : MxF w pm n z M Fl) :
    Calls Tryz.prog 85 #[P0 pm] w fun e w' => e = .returned (.int .i64 (rank M)) ∧ w = w' := by
  obtain ⟨pb, L, hM, _⟩ := h
  exact mrank_calls hM

/-- The data of all rows. -/
def datOf (M : Mtx) (i : Nat) : List UInt8 := match M.at i with | some q => q.d | none => []
def dats (M : Mtx) (k : Nat) : List (List UInt8) := (List.range k).map (datOf M)
theorem dats_len (M : Mtx) (k : Nat) : (dats M k).length = k := by simp [dats]

end Go.Proofs.YtijhaeapoapgfaaGreatDoor
