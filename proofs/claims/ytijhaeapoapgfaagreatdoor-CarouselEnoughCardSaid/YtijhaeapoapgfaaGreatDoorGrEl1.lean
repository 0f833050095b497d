/-
  GrEl1: the texts El1, El2, one behind another.
-/
import Derived.Test.YtijhaeapoapgfaaGreatDoorVecX
import Derived.Test.YtijhaeapoapgfaaGreatDoorGrBk
import Derived.Test.YtijhaeapoapgfaaGreatDoorPlain
import Derived.Deep.DeepCutAuto
import Derived.Deep.CutBlock
import Derived.Deep.RegionHeld3
import Derived.Deep.DrawnRows
set_option linter.unusedVariables false
set_option linter.unusedSimpArgs false
namespace Go.Proofs.YtijhaeapoapgfaaGreatDoor
open Go.RowKit
attribute [local go_sem ↓] Go.wp_at_zero Go.wp_at_succ

/-- Where a row lies: its struct, its vector, the vector's words, its data. -/
structure Loc where
  r : Nat
  v : Nat
  g : Nat
  d : Nat
abbrev P0 (b : Nat) : Value := .pointer (some ⟨b, 0, none⟩)

def RwAt (w : World) (L : Loc) (n z : Nat) (q : Rw) : Prop :=
  ∃ c t, Blk w L.r 199 [P0 L.v, .slice (some ⟨L.d, 0, none⟩) z z] ∧ VcAt w L.v L.g n q.x c t ∧ Blk w L.d 5 (q.d.map B8) ∧ q.d.length = z

theorem RwAt.keeps {S : List Nat} {w w' : World} {L : Loc} {n z : Nat} {q : Rw} (h : RwAt w L n z q) (k : Keeps S w w') (h1 : L.r ∉ S) (h2 : L.v ∉ S) (h3 : L.g ∉ S) (h4 : L.d ∉ S) : RwAt w' L n z q := by
  obtain ⟨c, t, hb, hv, hd, hl⟩ := h
  exact ⟨c, t, hb.keeps k h1, hv.keeps k h2 h3, hd.keeps k h4, hl⟩
theorem RwAt.keepsNil {w w' : World} {L : Loc} {n z : Nat} {q : Rw} (h : RwAt w L n z q) (k : Keeps [] w w') : RwAt w' L n z q := h.keeps k (by simp) (by simp) (by simp) (by simp)
theorem RwAt.lt {w : World} {L : Loc} {n z : Nat} {q : Rw} (h : RwAt w L n z q) : L.r < w.heap.size ∧ L.v < w.heap.size ∧ L.g < w.heap.size ∧ L.d < w.heap.size := by
  obtain ⟨c, t, hb, hv, hd, hl⟩ := h
  exact ⟨hb.lt, hv.b.lt, hv.r.lt, hd.lt⟩
/-- What is done to the words and the data of another row makes no difference. -/
theorem RwAt.other {w w' : World} {L L' : Loc} {n z : Nat} {q q' : Rw} (h : RwAt w L n z q) (h' : RwAt w L' n z q') (hg : L.g ≠ L'.g) (hd : L.d ≠ L'.d) (k : Keeps [L'.g, L'.d] w w') : RwAt w' L n z q := by
  have h0 := h
  obtain ⟨c, t, hb, hv, hdd, hl⟩ := h
  obtain ⟨c', t', hb', hv', hd', hl'⟩ := h'
  refine h0.keeps k ?_ ?_ ?_ ?_
  · simp only [List.mem_cons, List.not_mem_nil, or_false, not_or]; exact ⟨hb.ne hv'.r (by decide), hb.ne hd' (by decide)⟩
  · simp only [List.mem_cons, List.not_mem_nil, or_false, not_or]; exact ⟨hv.b.ne hv'.r (by decide), hv.b.ne hd' (by decide)⟩
  · simp only [List.mem_cons, List.not_mem_nil, or_false, not_or]; exact ⟨hg, hv.r.ne hd' (by decide)⟩
  · simp only [List.mem_cons, List.not_mem_nil, or_false, not_or]; exact ⟨hdd.ne hv'.r (by decide), hd⟩

def RwPost (w : World) (L : Loc) (n z : Nat) (q : Rw) (e : Ending) (w' : World) : Prop := e = .returned (.tuple #[]) ∧ RwAt w' L n z q ∧ Keeps [L.g, L.d] w w'

set_option maxRecDepth 100000 in
set_option maxHeartbeats 1600000 in
theorem rwxor_calls {w : World} {L L' : Loc} {n z : Nat} {a b : Rw} (h : RwAt w L n z a) (h' : RwAt w L' n z b) (hg : L.g ≠ L'.g) (hd : L.d ≠ L'.d) (hz : z ≤ 16) :
    Calls Tryz.prog 137 #[P0 L.r, P0 L'.r] w (RwPost w L n z (rxor a b)) := by
  obtain ⟨c, t, hb, hv, hdd, hl⟩ := h
  obtain ⟨c', t', hb', hv', hdd', hl'⟩ := h'
  have c0 := hb.cell' (i := 0) rfl
  have c1 := hb.cell' (i := 1) rfl
  have d0 := hb'.cell' (i := 0) rfl
  have d1 := hb'.cell' (i := 1) rfl
  have HX := Lib.hid (vcxor_calls (hv.keeps (Keeps.refl [] w).drew (by simp) (by simp)) (hv'.keeps (Keeps.refl [] w).drew (by simp) (by simp)) (hv'.b.ne hv.r (by decide)) (fun e => hg e.symm))
  have n1 : L.r ∉ [L.g] := by simpa using hb.ne hv.r (by decide)
  have n2 : L'.r ∉ [L.g] := by simpa using hb'.ne hv.r (by decide)
  have n3 : L.d ∉ [L.g] := by simpa using hdd.ne hv.r (by decide)
  have n4 : L'.d ∉ [L.g] := by simpa using hdd'.ne hv.r (by decide)
  have m1 : L.r ≠ L.d := hb.ne hdd (by decide)
  have m2 : L'.r ≠ L.d := hb'.ne hdd (by decide)
  have m3 : L.v ≠ L.d := hv.b.ne hdd (by decide)
  have m4 : L.g ≠ L.d := hv.r.ne hdd (by decide)
  have HB := Lib.hid hb
  have HB' := Lib.hid hb'
  have HD := Lib.hid hdd
  have HD' := Lib.hid hdd'
  clear hb hb' hdd hdd' hv hv'
  obtain ⟨x, A⟩ := a
  obtain ⟨y, B⟩ := b
  simp only at *
  have Hl := Lib.hid hl
  have Hl' := Lib.hid hl'
  clear hl hl'
  go_enter Tryz.func137, Tryz.ntmps137
  go_wp2_with fail
  refine wp_region_noPanic ?_
  refine wp_region_held_drew (S := (fun w' => w'.cell? ⟨L.r, 0, none⟩ = some (P0 L.v) ∧ w'.cell? ⟨L'.r, 0, none⟩ = some (P0 L'.v))) (by kernel_rfl) ⟨c0, d0⟩ (fun hHeld => ?_)
  refine wpAnyH_take (i := 0) (v := ?v1_1) rfl (by kernel_rfl) (by kernel_rfl) (by kernel_rfl) (fun _ _ _ h => h) (Or.inl ⟨by rfl, ?y1_1⟩) (by assumption) ?r1_1
  case y1_1 => (intro w hSw; (try dsimp only at hSw); go_simp; try with_reducible rfl)
  (try simp only [Act.put, List.getElem_toArray, List.getElem_cons_zero, List.getElem_cons_succ, List.setIfInBounds_toArray, List.set_cons_zero, List.set_cons_succ])
  refine wpAnyH_take (i := 1) (v := ?v1_2) rfl (by kernel_rfl) (by kernel_rfl) (by kernel_rfl) (fun _ _ _ h => h) (Or.inl ⟨by rfl, ?y1_2⟩) (by assumption) ?r1_2
  case y1_2 => (intro w hSw; (try dsimp only at hSw); go_simp; try with_reducible rfl)
  (try simp only [Act.put, List.getElem_toArray, List.getElem_cons_zero, List.getElem_cons_succ, List.setIfInBounds_toArray, List.set_cons_zero, List.set_cons_succ])
  refine wpAnyH_take (i := 2) (v := ?v1_3) rfl (by kernel_rfl) (by kernel_rfl) (by kernel_rfl) (fun _ _ _ h => h) (Or.inl ⟨by rfl, ?y1_3⟩) (by assumption) ?r1_3
  case y1_3 => (intro w hSw; (try dsimp only at hSw); go_simp; try with_reducible rfl)
  (try simp only [Act.put, List.getElem_toArray, List.getElem_cons_zero, List.getElem_cons_succ, List.setIfInBounds_toArray, List.set_cons_zero, List.set_cons_succ])
  refine wpAnyH_take (i := 3) (v := ?v1_4) rfl (by kernel_rfl) (by kernel_rfl) (by kernel_rfl) (fun _ _ _ h => h) (Or.inl ⟨by rfl, ?y1_4⟩) (by assumption) ?r1_4
  case y1_4 => (intro w hSw; (try dsimp only at hSw); go_simp; try with_reducible rfl)
  (try simp only [Act.put, List.getElem_toArray, List.getElem_cons_zero, List.getElem_cons_succ, List.setIfInBounds_toArray, List.set_cons_zero, List.set_cons_succ])
  refine wpAnyH_take (i := 4) (v := ?v1_5) rfl (by kernel_rfl) (by kernel_rfl) (by kernel_rfl) (fun _ _ _ h => h) (Or.inl ⟨by rfl, ?y1_5⟩) (by assumption) ?r1_5
  case y1_5 => (intro w hSw; (try dsimp only at hSw); go_simp; try with_reducible rfl)
  (try simp only [Act.put, List.getElem_toArray, List.getElem_cons_zero, List.getElem_cons_succ, List.setIfInBounds_toArray, List.set_cons_zero, List.set_cons_succ])
  refine wpAnyH_take (i := 5) (v := ?v1_6) rfl (by kernel_rfl) (by kernel_rfl) (by kernel_rfl) (fun _ _ _ h => h) (Or.inl ⟨by rfl, ?y1_6⟩) (by assumption) ?r1_6
  case y1_6 => (intro w hSw; (try dsimp only at hSw); go_simp; try with_reducible rfl)
  (try simp only [Act.put, List.getElem_toArray, List.getElem_cons_zero, List.getElem_cons_succ, List.setIfInBounds_toArray, List.set_cons_zero, List.set_cons_succ])
  refine wpAnyH_take (i := 6) (v := ?v1_7) rfl (by kernel_rfl) (by kernel_rfl) (by kernel_rfl) (fun _ _ _ h => h) (Or.inl ⟨by rfl, ?y1_7⟩) (by assumption) ?r1_7
  case y1_7 => (intro w hSw; (try dsimp only at hSw); go_simp; try with_reducible rfl)
  (try simp only [Act.put, List.getElem_toArray, List.getElem_cons_zero, List.getElem_cons_succ, List.setIfInBounds_toArray, List.set_cons_zero, List.set_cons_succ])
  refine wpAnyH_take (i := 7) (v := ?v1_8) rfl (by kernel_rfl) (by kernel_rfl) (by kernel_rfl) (fun _ _ _ h => h) (Or.inl ⟨by rfl, ?y1_8⟩) (by assumption) ?r1_8
  case y1_8 => (intro w hSw; (try dsimp only at hSw); go_simp; try with_reducible rfl)
  (try simp only [Act.put, List.getElem_toArray, List.getElem_cons_zero, List.getElem_cons_succ, List.setIfInBounds_toArray, List.set_cons_zero, List.set_cons_succ])
  refine wpAnyH_ready (rs := [8]) (by kernel_rfl) (by simp) ?_
  refine AllReadyH.cons rfl (fun K hK => ?_) AllReadyH.nil
  go_simp
  refine HX.out.mono ?_
  rintro e w1 ⟨rfl, hV1, k1⟩
  have b1 := HB.out.drew.keeps k1 n1
  have b1' := HB'.out.drew.keeps k1 n2
  have HV1 := Lib.hid hV1
  have HK1 := Lib.hid k1
  clear hV1 k1
  go_wp2_with fail
  refine hK.out _ _ ?s1_9 (fun hHeld => ?_)
  case s1_9 => ((try dsimp only) <;> (first | exact ⟨b1.cell' (i := 0) rfl, b1'.cell' (i := 0) rfl⟩))
  clear hK K
  (try simp only [Act.put, List.getElem_toArray, List.getElem_cons_zero, List.getElem_cons_succ, List.setIfInBounds_toArray, List.set_cons_zero, List.set_cons_succ])
  refine wpAnyH_done (by kernel_rfl) ?_ _
  refine NoPanic.normal ?_
  have k1d : Keeps [L.g] w w1 := (Keeps.refl [L.g] w).drew.trans HK1.out
  have d1' := b1'.cell' (i := 1) rfl
  have HG0 := Lib.hid (show Blk w1 L.d 5 ((xorTo A B 0).map B8) from by rw [xorTo_zero]; exact HD.out.keeps k1d n3)
  have HDB := Lib.hid (HD'.out.keeps k1d n4)
  have HK := Lib.hid k1d
  have HBa := Lib.hid b1
  have HBb := Lib.hid b1'
  clear b1 b1' c0 c1 d0 d1 HD HD' HB HB' HX HK1 k1d n1 n2 n3 n4
  go_wp2_with fail
  go_loopw [20] (fun i wx => ∃ j : Nat, j ≤ z ∧ i = .int .i64 j ∧ Blk wx L.d 5 ((xorTo A B j).map B8) ∧ Keeps [L.d] w1 wx) (fun i _ => z - (intOf i).toNat)
  case atStart => exact ⟨0, Nat.zero_le _, rfl, HG0.out, Keeps.refl _ _⟩
  case round =>
    clear HG0 d1'
    obtain ⟨j, hj, rfl, hG, hKj⟩ := hrel
    by_cases hjl : j < z
    · have e1 := Hl.out
      have e2 := Hl'.out
      have hB := HDB.out.keeps hKj (by simpa using fun e => hd e.symm)
      have hA := HBa.out.keeps hKj (by simpa using m1)
      have cb : wr.cell? ⟨L'.d, j, none⟩ = some (B8 (B.getD j 0)) := hB.cell' (by rw [List.getElem?_map, List.getD_eq_getElem?_getD, List.getElem?_eq_getElem (by omega)]; rfl)
      have a1 := hA.cell' (i := 1) rfl
      have hgt := xorTo_getD (a := A) (b := B) (by omega) (k := j) (by omega)
      have hset := xorTo_set (a := A) (b := B) (by omega) (k := j) (by omega)
      rw [hgt] at hset
      have cg : wr.cell? ⟨L.d, j, none⟩ = some (B8 (A.getD j 0)) := hG.cell' (by
        rw [List.getElem?_map, List.getElem?_eq_getElem (by rw [xorTo_len (by omega)]; omega)]
        rw [List.getD_eq_getElem?_getD, List.getElem?_eq_getElem (by rw [xorTo_len (by omega)]; omega)] at hgt
        rw [← hgt]; rfl)
      have fr := hG.frozen j
      have hS := hG.set j (B8 (A.getD j 0 ^^^ B.getD j 0))
      rw [map_set8, hset] at hS
      have hx8 := xor_byte (A.getD j 0) (B.getD j 0)
      have HS := Lib.hid hS
      have HKj := Lib.hid (hKj.setCell (p := ⟨L.d, j, none⟩) (.inl (by simp)) (B8 (A.getD j 0 ^^^ B.getD j 0)))
      have hji : (j : Int) < (z : Int) := by omega
      clear hgt hset hS hG hKj e1 e2 hB hA
      generalize A.getD j 0 = ax at *
      generalize B.getD j 0 = bx at *
      go_wp2_with fail
      go_roundw
      case rel => exact ⟨j + 1, by omega, by go_num, HS.out, HKj.out⟩
      case measure => simp [intOf]; omega
    · obtain rfl : j = z := by omega
      have e1 := Hl.out
      have e2 := Hl'.out
      have hxa := xorTo_all (a := A) (b := B) (by omega)
      rw [show xorTo A B A.length = xorTo A B j from by rw [e1]] at hxa
      rw [hxa] at hG
      have HG := Lib.hid hG
      have HKj := Lib.hid hKj
      clear hG hKj e1 e2 hxa
      go_wp2_with fail
      go_end0
      have hl1 := Hl.out
      have hl2 := Hl'.out
      refine ⟨rfl, ⟨c, t, HBa.out.keeps HKj.out (by simpa using m1), HV1.out.keeps HKj.out (by simpa using m3) (by simpa using m4), HG.out, xorL_len hl1 hl2⟩, HK.out.trans' HKj.out (fun x hx => .inl (by simp at hx; simp [hx])) (fun x hx => .inl (by simp at hx; simp [hx]))⟩

end Go.Proofs.YtijhaeapoapgfaaGreatDoor

set_option linter.unusedVariables false
set_option linter.unusedSimpArgs false
namespace Go.Proofs.YtijhaeapoapgfaaGreatDoor
open Go.RowKit
attribute [local go_sem ↓] Go.wp_at_zero Go.wp_at_succ

/-- The pointers of a matrix's rows. -/
def ptrOf (L : Nat → Loc) (i : Nat) : Option Rw → Value
  | some _ => P0 (L i).r
  | none => .pointer none
def ptrs (M : Mtx) (L : Nat → Loc) : List Value := (List.range M.length).map fun i => ptrOf L i (M.at i)

structure Mx (w : World) (pm pb n z : Nat) (M : Mtx) (L : Nat → Loc) : Prop where
  l : M.length = n
  n1 : 1 ≤ n
  n2 : n ≤ 256
  z1 : 1 ≤ z
  z2 : z ≤ 16
  b : Blk w pm 194 [.int .i64 n, .int .i64 z, .slice (some ⟨pb, 0, none⟩) n n, .int .i64 (rank M)]
  r : Blk w pb 196 (ptrs M L)
  row : ∀ i q, M.at i = some q → RwAt w (L i) n z q
  dis : ∀ i j p q, M.at i = some p → M.at j = some q → i ≠ j → (L i).g ≠ (L j).g ∧ (L i).d ≠ (L j).d

theorem ptrs_at {M : Mtx} {L : Nat → Loc} {i : Nat} (hi : i < M.length) : (ptrs M L)[i]? = some (ptrOf L i (M.at i)) := by
  simp [ptrs, hi]
theorem Mx.ptr {w : World} {pm pb n z : Nat} {M : Mtx} {L : Nat → Loc} (h : Mx w pm pb n z M L) {i : Nat} (hi : i < n) : w.cell? ⟨pb, i, none⟩ = some (ptrOf L i (M.at i)) :=
  h.r.cell' (ptrs_at (by rw [h.l]; exact hi))
theorem Mx.keepsNil {w w' : World} {pm pb n z : Nat} {M : Mtx} {L : Nat → Loc} (h : Mx w pm pb n z M L) (k : Keeps [] w w') : Mx w' pm pb n z M L :=
  ⟨h.l, h.n1, h.n2, h.z1, h.z2, h.b.keeps k (by simp), h.r.keeps k (by simp), fun i q hq => (h.row i q hq).keepsNil k, h.dis⟩

/-- A matrix with all its blocks in Fl. -/
def MxF (w : World) (pm n z : Nat) (M : Mtx) (Fl : List Nat) : Prop :=
  ∃ pb L, Mx w pm pb n z M L ∧ pm ∈ Fl ∧ pb ∈ Fl ∧ (∀ i q, M.at i = some q → (L i).r ∈ Fl ∧ (L i).v ∈ Fl ∧ (L i).g ∈ Fl ∧ (L i).d ∈ Fl) ∧ (∀ x ∈ Fl, x < w.heap.size)
theorem MxF.keeps {S : List Nat} {w w' : World} {pm n z : Nat} {M : Mtx} {Fl : List Nat} (h : MxF w pm n z M Fl) (k : Keeps S w w') (hS : ∀ x ∈ S, x ∉ Fl) : MxF w' pm n z M Fl := by
  obtain ⟨pb, L, hm, h1, h2, h3, h4⟩ := h
  have hn : ∀ x, x ∈ Fl → x ∉ S := fun x hx hs => hS x hs hx
  exact ⟨pb, L, ⟨hm.l, hm.n1, hm.n2, hm.z1, hm.z2, hm.b.keeps k (hn _ h1), hm.r.keeps k (hn _ h2), fun i q hq => by
    obtain ⟨f1, f2, f3, f4⟩ := h3 i q hq
    exact (hm.row i q hq).keeps k (hn _ f1) (hn _ f2) (hn _ f3) (hn _ f4), hm.dis⟩, h1, h2, h3, fun x hx => Nat.lt_of_lt_of_le (h4 x hx) k.size⟩
theorem MxF.keepsNil {w w' : World} {pm n z : Nat} {M : Mtx} {Fl : List Nat} (h : MxF w pm n z M Fl) (k : Keeps [] w w') : MxF w' pm n z M Fl := h.keeps k (by simp)

theorem Tryz.info_rowp : (Tryz.prog.info? 196).map (fun i => (i.zero, i.size, i.bytes)) = some (some (.pointer none), 1, 8) := by kernel_rfl
theorem made_rowp (n : Nat) : madeCells #[.pointer none] n = Array.replicate n (.pointer none) := by
  apply Array.ext
  · simp [madeCells]
  · intro i h1 h2
    simp [madeCells, Nat.mod_one]
theorem make_rowp (n : Nat) (hc : n ≤ 100000) (w : World) :
    (Instr.makeSlice 192 (.int .i64 (n : Int)) (.int .i64 (n : Int))).run Tryz.prog w = .ok (.slice (some ⟨w.heap.size, 0, none⟩) n n) (w.alloc (.cells (Array.replicate n (.pointer none)) 196)) := by
  obtain ⟨i0, hi, hz0, hz1, hz2⟩ := info_parts Tryz.info_rowp
  have hr := run_make (P := Tryz.prog) w 192 196 i0 _ Tryz.underlying192 hi hz0 .i64 .i64 n n (by omega) (by omega) (by rw [hz2]; omega) (by omega)
  rw [hz1] at hr
  simp only [Int.toNat_natCast, Nat.mul_one] at hr
  rw [hr, ← made_rowp]
  rfl

/-- No rows. -/
def mnew (n : Nat) : Mtx := List.replicate n none
theorem mnew_at (n i : Nat) : (mnew n).at i = none := by
  unfold Mtx.at mnew
  rw [List.getD_eq_getElem?_getD, List.getElem?_replicate]
  split <;> rfl
theorem mnew_rank (n : Nat) : rank (mnew n) = 0 := by
  unfold rank mnew
  rw [List.countP_replicate]; rfl
theorem mnew_ech (n z : Nat) : Ech n z (mnew n) := by
  have h : ∀ i q, (mnew n).at i ≠ some q := fun i q hq => by rw [mnew_at] at hq; cases hq
  exact ⟨by simp [mnew], fun i q hq => absurd hq (h i q), fun i q hq => absurd hq (h i q), fun i q hq => absurd hq (h i q), fun i q hq => absurd hq (h i q), fun i q hq => absurd hq (h i q)⟩

def MxNew (w : World) (n z : Nat) (e : Ending) (w' : World) : Prop := ∃ pm Fl, e = .returned (P0 pm) ∧ MxF w' pm n z (mnew n) Fl ∧ (∀ x ∈ Fl, w.heap.size ≤ x) ∧ Keeps [] w w'

set_option maxRecDepth 100000 in
set_option maxHeartbeats 1600000 in
theorem enew_calls {w : World} (n z : Nat) (h1 : 1 ≤ n) (h2 : n ≤ 256) (h3 : 1 ≤ z) (h4 : z ≤ 16) : Calls Tryz.prog 80 #[.int .i64 n, .int .i64 z] w (MxNew w n z) := by
  have hmk := fun w => make_rowp n (by omega) w
  go_enter Tryz.func80, Tryz.ntmps80
  go_wp2_with fail
  go_ret
  have hB := Blk.newA w 196 (Array.replicate n (.pointer none))
  have hp : (Array.replicate n (Value.pointer none)).toList = ptrs (mnew n) (fun _ => ⟨0, 0, 0, 0⟩) := by
    apply List.ext_getElem
    · simp [ptrs, mnew]
    · intro i h1 h2
      simp [ptrs, mnew_at, ptrOf]
  rw [hp] at hB
  have kA : Keeps [] w (w.alloc (.cells (Array.replicate n (.pointer none)) 196)) := (Keeps.refl [] w).alloc _
  have hN : ∀ i q, (mnew n).at i ≠ some q := fun i q hq => by rw [mnew_at] at hq; cases hq
  refine ⟨_, [w.heap.size, w.heap.size + 1], rfl, ⟨w.heap.size, fun _ => ⟨0, 0, 0, 0⟩, ⟨by simp [mnew], h1, h2, h3, h4, ?_, hB.alloc _, fun i q hq => absurd hq (hN i q), fun i j p q hp => absurd hp (hN i p)⟩, by simp, by simp, fun i q hq => absurd hq (hN i q), by simp; omega⟩, by simp, kA.alloc _⟩
  rw [mnew_rank]
  have hsz : (w.alloc (.cells (Array.replicate n (.pointer none)) 196)).heap.size = w.heap.size + 1 := by simp
  rw [← hsz]
  exact Blk.newA (w.alloc (.cells (Array.replicate n (.pointer none)) 196)) 194 #[.int .i64 n, .int .i64 z, .slice (some ⟨w.heap.size, 0, none⟩) n n, .int .i64 0]

theorem vclen_calls {w : World} {p g n X c : Nat} {t : List Value} (h : VcAt w p g n X c t) :
    Calls Tryz.prog 129 #[P0 p] w fun e w' => e = .returned (.int .i64 n) ∧ w = w' := by
  have c0 := h.b.cell' (i := 0) rfl
  go_enter Tryz.func129, Tryz.ntmps129
  go_wp2_with fail
  go_ret
  exact ⟨rfl, rfl⟩

/-- Data that are taken over: all of it, or none. -/
def DataIs (z : Nat) (a : Option Addr) (m c : Nat) (l D : List UInt8) : Prop := (D = l ∧ l.length = z ∧ m = z) ∨ (a = none ∧ m = 0 ∧ c = 0 ∧ D = zer z)
theorem DataIs.len {z m c : Nat} {a : Option Addr} {l D : List UInt8} (h : DataIs z a m c l D) : D.length = z := by
  rcases h with ⟨rfl, h, _⟩ | ⟨_, _, _, rfl⟩
  · exact h
  · exact zer_len z
theorem data_copy {w : World} {g z m c : Nat} {a : Option Addr} {l D : List UInt8} (hz : 1 ≤ z) (hg : Blk w g 5 (zeros z).toList) (hr : Rd w a l) (h : DataIs z a m c l D) :
    ∃ W', (Builtin.copy_ #[22, 22] 3 #[.slice (some ⟨g, 0, none⟩) z z, .slice a m c]).run Tryz.prog w = .ok (.int .i64 m) W' ∧ Blk W' g 5 (D.map B8) ∧ Keeps [g] w W' := by
  rcases h with ⟨rfl, hl, rfl⟩ | ⟨rfl, rfl, rfl, rfl⟩
  · cases a with
    | none =>
      exfalso
      obtain ⟨x, t, rfl⟩ : ∃ x t, D = x :: t := by
        cases D with
        | nil => simp at hl; omega
        | cons x t => exact ⟨x, t, rfl⟩
      obtain ⟨b, o, h, _⟩ := hr 0 x rfl
      cases h
    | some x =>
      obtain ⟨W', e1, e2, e3⟩ := copy_run (w := w) (g := g) (o := 0) (dLen := m) (dCap := m) (x := x) (sLen := m) (sCap := c) hg D (by rw [hl]; exact (Nat.min_self m).symm) hr.news (by simp [zeros]; omega)
      refine ⟨W', by rw [e1, hl], ?_, e3⟩
      simpa [zeros, hl] using e2
  · refine ⟨w, run_copy_nil (P := Tryz.prog) w 22 22 3 5 _ z z Tryz.underlying22 (by rw [Tryz.size_u8]; rfl), ?_, Keeps.refl _ _⟩
    simpa [zeros, zer, B8] using hg

def RedPost (w : World) (n z : Nat) (q : Rw) (e : Ending) (w' : World) : Prop :=
  ∃ L : Loc, e = .returned (P0 L.r) ∧ w.heap.size ≤ L.r ∧ w.heap.size ≤ L.v ∧ w.heap.size ≤ L.g ∧ w.heap.size ≤ L.d ∧ RwAt w' L n z q ∧ Keeps [] w w'

/-- A row just made: a copy of a vector, and zeros. -/
def FreshRw (w : World) (n X z : Nat) (s7 : Value) (wx : World) : Prop :=
  ∃ r2 p2 g2 d2 cc2 t2, s7 = P0 r2 ∧ w.heap.size ≤ r2 ∧ w.heap.size ≤ p2 ∧ w.heap.size ≤ g2 ∧ w.heap.size ≤ d2 ∧ Blk wx r2 199 [P0 p2, .slice (some ⟨d2, 0, none⟩) z z] ∧ VcAt wx p2 g2 n X cc2 t2 ∧ Blk wx d2 5 (zeros z).toList ∧ Keeps [] w wx
theorem fresh_rowA {w w2 : World} {p2 g2 cc2 n X z : Nat} {t2 : List Value} (nk : Keeps [] w w2) (hV : VcAt w2 p2 g2 n X cc2 t2) (hp : w.heap.size ≤ p2) (hg : w.heap.size ≤ g2) :
    FreshRw w n X z (P0 (w2.heap.size + 1)) ((w2.alloc (.cells (zeros z) 5)).alloc (.cells #[P0 p2, .slice (some ⟨w2.heap.size, 0, none⟩) z z] 199)) := by
  have k1 : Keeps [] w2 (w2.alloc (.cells (zeros z) 5)) := (Keeps.refl [] w2).alloc _
  have k2 := k1.alloc (.cells #[P0 p2, .slice (some ⟨w2.heap.size, 0, none⟩) z z] 199)
  have hrw := Blk.newA (w2.alloc (.cells (zeros z) 5)) 199 #[P0 p2, .slice (some ⟨w2.heap.size, 0, none⟩) z z]
  have hs1 : (w2.alloc (.cells (zeros z) 5)).heap.size = w2.heap.size + 1 := by simp
  rw [hs1] at hrw
  have hs := nk.size
  exact ⟨_, p2, g2, w2.heap.size, cc2, t2, rfl, by omega, hp, hg, hs, hrw, hV.keeps k2 (by simp) (by simp), (Blk.newA w2 5 (zeros z)).alloc _, nk.trans k2⟩
theorem fresh_rowB {w w1 w2 : World} {p2 g2 cc2 n X z d : Nat} {t2 : List Value} (nk : Keeps [] w w1) (k2 : Keeps [] (w1.alloc (.cells (zeros z) 5)) w2) (hV : VcAt w2 p2 g2 n X cc2 t2) (hp : (w1.alloc (.cells (zeros z) 5)).heap.size ≤ p2) (hg : (w1.alloc (.cells (zeros z) 5)).heap.size ≤ g2) (hd : d = w1.heap.size) :
    FreshRw w n X z (P0 w2.heap.size) (w2.alloc (.cells #[P0 p2, .slice (some ⟨d, 0, none⟩) z z] 199)) := by
  subst hd
  have k3 : Keeps [] w2 (w2.alloc (.cells #[P0 p2, .slice (some ⟨w1.heap.size, 0, none⟩) z z] 199)) := (Keeps.refl [] w2).alloc _
  have ka : Keeps [] w (w1.alloc (.cells (zeros z) 5)) := nk.alloc _
  have hs := nk.size
  have hs2 := ka.size
  have hs3 := k2.size
  exact ⟨_, p2, g2, w1.heap.size, cc2, t2, rfl, by omega, by omega, by omega, hs, Blk.newA w2 199 #[P0 p2, .slice (some ⟨w1.heap.size, 0, none⟩) z z], hV.keeps k3 (by simp) (by simp), ((Blk.newA w1 5 (zeros z)).keeps k2 (by simp)).keeps k3 (by simp), (ka.trans k2).trans k3⟩

set_option maxRecDepth 100000 in
set_option maxHeartbeats 2000000 in
theorem mred_calls {w : World} {pm pb n z : Nat} {M : Mtx} {L : Nat → Loc} (h : Mx w pm pb n z M L) {pv gv X cv : Nat} {tv : List Value} (hv : VcAt w pv gv n X cv tv) {a : Option Addr} {m c : Nat} {l D : List UInt8} (hl : Rd w a l) (hD : DataIs z a m c l D) :
    Calls Tryz.prog 135 #[P0 pm, P0 pv, .slice a m c] w (RedPost w n z (red M ⟨X, D⟩)) := by
  have c0 := h.b.cell' (i := 0) rfl
  have c1 := h.b.cell' (i := 1) rfl
  have c2 := h.b.cell' (i := 2) rfl
  have hz1 := h.z1
  have hz2 := h.z2
  have hmk := fun w => make_u8 z z (Nat.le_refl _) (by omega) w
  have HL := Lib.hid (fun (w' : World) (k : Keeps [] w w') => vclen_calls (hv.keeps k (by simp) (by simp)))
  have HC := Lib.hid (fun (w' : World) (k : Keeps [] w w') => vcopy_calls (hv.keeps k (by simp) (by simp)))
  have HM := Lib.hid h
  have Hl := Lib.hid hl
  have HD := Lib.hid hD
  have HX := Lib.hid hv.lt
  have hml := h.l
  have hn1 := h.n1
  have hn2 := h.n2
  clear hv hl hD h
  go_enter Tryz.func135, Tryz.ntmps135
  go_wp2_with fail
  refine wp_region_noPanic ?_
  refine wp_region_held_drew (S := (fun w' => w'.cell? ⟨pm, 0, none⟩ = some (.int .i64 n))) (by kernel_rfl) c0 (fun hHeld => ?_)
  have kd : Keeps [] w w.drew := (Keeps.refl [] w).drew
  refine wpAnyH_take (i := 0) (v := ?v2_10) rfl (by kernel_rfl) (by kernel_rfl) (by kernel_rfl) (fun _ _ _ h => h) (Or.inl ⟨by rfl, ?y2_10⟩) (by assumption) ?r2_10
  case y2_10 => (intro w hSw; (try dsimp only at hSw); go_simp; try with_reducible rfl)
  (try simp only [Act.put, List.getElem_toArray, List.getElem_cons_zero, List.getElem_cons_succ, List.setIfInBounds_toArray, List.set_cons_zero, List.set_cons_succ])
  refine wpAnyH_take (i := 1) (v := ?v2_11) rfl (by kernel_rfl) (by kernel_rfl) (by kernel_rfl) (fun _ _ _ h => h) (Or.inl ⟨by rfl, ?y2_11⟩) (by assumption) ?r2_11
  case y2_11 => (intro w hSw; (try dsimp only at hSw); go_simp; try with_reducible rfl)
  (try simp only [Act.put, List.getElem_toArray, List.getElem_cons_zero, List.getElem_cons_succ, List.setIfInBounds_toArray, List.set_cons_zero, List.set_cons_succ])
  refine wpAnyH_take (i := 2) (v := ?v2_12) rfl (by kernel_rfl) (by kernel_rfl) (by kernel_rfl) (fun _ _ _ h => h) (Or.inl ⟨by rfl, ?y2_12⟩) (by assumption) ?r2_12
  case y2_12 => (intro w hSw; (try dsimp only at hSw); go_simp; try with_reducible rfl)
  (try simp only [Act.put, List.getElem_toArray, List.getElem_cons_zero, List.getElem_cons_succ, List.setIfInBounds_toArray, List.set_cons_zero, List.set_cons_succ])
  refine wpAnyH_take (i := 3) (v := ?v2_13) rfl (by kernel_rfl) (by kernel_rfl) (by kernel_rfl) (fun _ _ _ h => h) (Or.inl ⟨by rfl, ?y2_13⟩) (by assumption) ?r2_13
  case y2_13 => (intro w hSw; (try dsimp only at hSw); go_simp; try with_reducible rfl)
  (try simp only [Act.put, List.getElem_toArray, List.getElem_cons_zero, List.getElem_cons_succ, List.setIfInBounds_toArray, List.set_cons_zero, List.set_cons_succ])
  refine wpAnyH_take (i := 5) (v := ?v2_14) rfl (by kernel_rfl) (by kernel_rfl) (by kernel_rfl) (fun _ _ _ h => h) (Or.inl ⟨by rfl, ?y2_14⟩) (by assumption) ?r2_14
  case y2_14 => (intro w hSw; (try dsimp only at hSw); go_simp; try with_reducible rfl)
  (try simp only [Act.put, List.getElem_toArray, List.getElem_cons_zero, List.getElem_cons_succ, List.setIfInBounds_toArray, List.set_cons_zero, List.set_cons_succ])
  refine wpAnyH_take (i := 6) (v := ?v2_15) rfl (by kernel_rfl) (by kernel_rfl) (by kernel_rfl) (fun _ _ _ h => h) (Or.inl ⟨by rfl, ?y2_15⟩) (by assumption) ?r2_15
  case y2_15 => (intro w hSw; (try dsimp only at hSw); go_simp; try with_reducible rfl)
  (try simp only [Act.put, List.getElem_toArray, List.getElem_cons_zero, List.getElem_cons_succ, List.setIfInBounds_toArray, List.set_cons_zero, List.set_cons_succ])
  refine wpAnyH_take (i := 7) (v := ?v2_16) rfl (by kernel_rfl) (by kernel_rfl) (by kernel_rfl) (fun _ _ _ h => h) (Or.inl ⟨by rfl, ?y2_16⟩) (by assumption) ?r2_16
  case y2_16 => (intro w hSw; (try dsimp only at hSw); go_simp; try with_reducible rfl)
  (try simp only [Act.put, List.getElem_toArray, List.getElem_cons_zero, List.getElem_cons_succ, List.setIfInBounds_toArray, List.set_cons_zero, List.set_cons_succ])
  refine wpAnyH_take (i := 8) (v := ?v2_17) rfl (by kernel_rfl) (by kernel_rfl) (by kernel_rfl) (fun _ _ _ h => h) (Or.inl ⟨by rfl, ?y2_17⟩) (by assumption) ?r2_17
  case y2_17 => (intro w hSw; (try dsimp only at hSw); go_simp; try with_reducible rfl)
  (try simp only [Act.put, List.getElem_toArray, List.getElem_cons_zero, List.getElem_cons_succ, List.setIfInBounds_toArray, List.set_cons_zero, List.set_cons_succ])
  refine wpAnyH_ready (rs := [4]) (by kernel_rfl) (by simp) ?_
  refine AllReadyH.cons rfl (fun K hK => ?_) AllReadyH.nil
  go_simp
  refine (HL.out _ kd).mono ?_
  rintro e w' ⟨rfl, rfl⟩
  go_wp2_with fail
  refine hK.out _ _ ?s2_18 (fun hHeld => ?_)
  case s2_18 => ((try dsimp only) <;> (first | exact c0))
  clear hK K
  (try simp only [Act.put, List.getElem_toArray, List.getElem_cons_zero, List.getElem_cons_succ, List.setIfInBounds_toArray, List.set_cons_zero, List.set_cons_succ])
  refine wpAnyH_take (i := 9) (v := ?v2_19) rfl (by kernel_rfl) (by kernel_rfl) (by kernel_rfl) (fun _ _ _ h => h) (Or.inl ⟨by rfl, ?y2_19⟩) (by assumption) ?r2_19
  case y2_19 => (intro w hSw; (try dsimp only at hSw); go_simp; try with_reducible rfl)
  (try simp only [Act.put, List.getElem_toArray, List.getElem_cons_zero, List.getElem_cons_succ, List.setIfInBounds_toArray, List.set_cons_zero, List.set_cons_succ])
  refine wpAnyH_take (i := 10) (v := ?v2_20) rfl (by kernel_rfl) (by kernel_rfl) (by kernel_rfl) (fun _ _ _ h => h) (Or.inl ⟨by rfl, ?y2_20⟩) (by assumption) ?r2_20
  case y2_20 => (intro w hSw; (try dsimp only at hSw); go_simp; try with_reducible rfl)
  (try simp only [Act.put, List.getElem_toArray, List.getElem_cons_zero, List.getElem_cons_succ, List.setIfInBounds_toArray, List.set_cons_zero, List.set_cons_succ])
  refine wpAnyH_done (by kernel_rfl) ?_ _
  refine NoPanic.normal ?_
  go_upto_region 3 with (fail)
  have hal : ∀ (W : World) (o : Obj), (W.cell? ⟨pm, 1, none⟩ = some (.int .i64 z) ∧ Keeps [] w W) → ((W.alloc o).cell? ⟨pm, 1, none⟩ = some (.int .i64 z) ∧ Keeps [] w (W.alloc o)) := fun W o h => ⟨(Keeps.alloc (Keeps.refl [] W) o).cell0 h.1, h.2.alloc o⟩
  go_cut [7] (fun s7 wx => FreshRw w n X z s7 wx)
  case first =>
    go_region_held3 (fun w' => w'.cell? ⟨pm, 1, none⟩ = some (.int .i64 z) ∧ Keeps [] w w')
      (first | exact ⟨c1, kd.drew⟩ | exact ⟨c1, kd⟩ | exact ⟨n1, nk⟩ | exact hal _ _ (by assumption))
      (first
        | (go_at_call 174; obtain ⟨s1, sk⟩ : _ ∧ Keeps [] w _ := (by assumption); refine (HC.out _ sk).mono ?_; rintro e w2 ⟨p2, g2, cc2, t2, rfl, hp2, hg2, hV2, k2⟩; have n1 := k2.cell0 s1; have nk := sk.trans k2; have hsk := sk.size))
    all_goals go_wp2_with fail
    all_goals go_meet
    all_goals first
      | exact fresh_rowA nk hV2 (Nat.le_trans hsk hp2) (Nat.le_trans hsk hg2)
      | exact fresh_rowB kd.drew k2 hV2 hp2 hg2 rfl
  case rest =>
  obtain ⟨r2, p2, g2, d2, cc2, t2, rfl, hr2w, hp2w, hg2w, hd2w, hrw, hV5, hz5, kd5⟩ := hcut
  have n1 : r2 ≠ d2 := hrw.ne hz5 (by decide)
  have n2 : p2 ≠ d2 := hV5.b.ne hz5 (by decide)
  have n3 : g2 ≠ d2 := hV5.r.ne hz5 (by decide)
  have HV5 := Lib.hid hV5
  obtain ⟨w4, hcp, hd4, k4⟩ := data_copy hz1 hz5 (Hl.out.keepsNil kd5) HD.out
  have r0 := hrw.cell' (i := 0) rfl
  have r1 := hrw.cell' (i := 1) rfl
  have hrw4 := hrw.keeps k4 (by simpa using n1)
  have HV4 := Lib.hid (HV5.out.keeps k4 (by simpa using n2) (by simpa using n3))
  have kd6 : Keeps [] w w4 := kd5.trans' k4 (by simp) (fun x hx => .inr (by simp at hx; omega))
  have e2 := kd6.cell0 c2
  have e0 := kd6.cell0 c0
  have HR0 := Lib.hid (show RwAt w4 ⟨r2, p2, g2, d2⟩ n z (redK M ⟨X, D⟩ 0) from ⟨cc2, t2, hrw4, HV4.out, hd4, HD.out.len⟩)
  have HK6 := Lib.hid kd6
  have hcp1 := Lib.hid hcp
  clear hrw hz5 hrw4 HV4 HV5 hV5 hd4 k4 kd5 kd6 kd hcp c0 c1 c2 hal
  have hcp := hcp1.out
  go_wp2_with fail
  clear hcp hcp1 r0 r1
  clear e0 e2
  have HLt := Lib.hid (show w.heap.size ≤ r2 ∧ w.heap.size ≤ d2 from ⟨hr2w, hd2w⟩)
  clear hr2w hd2w HC HL HD Hl hmk
  go_loopw [41] (fun i wr => ∃ k : Nat, k ≤ n ∧ i = .int .i64 k ∧ RwAt wr ⟨r2, p2, g2, d2⟩ n z (redK M ⟨X, D⟩ k) ∧ Keeps [] w wr) (fun i _ => n - (intOf i).toNat)
  case atStart => exact ⟨0, Nat.zero_le _, rfl, HR0.out, HK6.out⟩
  case round =>
    clear HR0 HK6
    obtain ⟨k, hk, rfl, hR, hK⟩ := hrel
    by_cases hlt : k < n
    · have hMr := HM.out.keepsNil hK
      have hpk := hMr.ptr hlt
      have hkn : (k : Int) < (n : Int) := by omega
      have hst : redK M ⟨X, D⟩ (k + 1) = match M.at k with
        | some q => if (redK M ⟨X, D⟩ k).x.testBit k then rxor (redK M ⟨X, D⟩ k) q else redK M ⟨X, D⟩ k
        | none => redK M ⟨X, D⟩ k := rfl
      cases hak : M.at k with
      | none =>
        rw [hak] at hpk hst
        simp only [ptrOf] at hpk hst
        have HR := Lib.hid hR
        have HK := Lib.hid hK
        have Hst := Lib.hid hst
        clear hR hK hst hMr hak
        go_wp2_with fail
        go_roundw
        case rel => exact ⟨k + 1, by omega, by go_num, by rw [Hst.out]; exact HR.out, HK.out⟩
        case measure => simp [intOf]; omega
      | some q =>
        rw [hak] at hpk hst
        simp only [ptrOf] at hpk hst
        have hq := hMr.row k q hak
        have hql := (HM.out.row k q hak).lt
        generalize redK M ⟨X, D⟩ k = Q at *
        obtain ⟨cx, tx, hb, hvx, hdx, hlx⟩ := id hR
        have r0 := hb.cell' (i := 0) rfl
        have hH := vchas_calls hvx k hlt
        have hXr := rwxor_calls hR hq (by show g2 ≠ (L k).g; omega) (by show d2 ≠ (L k).d; have := HLt.out; omega) hz2
        have HR := Lib.hid hR
        have HK := Lib.hid hK
        have HH := Lib.hid hH
        have HXr := Lib.hid hXr
        clear hR hK hH hMr hak hq hb hvx hdx hXr hql
        cases htb : Q.x.testBit k with
        | false =>
          rw [htb] at hst HH
          have Hst := Lib.hid (show redK M ⟨X, D⟩ (k + 1) = Q from by simpa using hst)
          clear hst htb
          go_wp2_with fail
          refine HH.out.mono ?_
          rintro e w' ⟨rfl, rfl⟩
          go_wp2_with fail
          go_roundw
          case rel => exact ⟨k + 1, by omega, by go_num, by rw [Hst.out]; exact HR.out, HK.out⟩
          case measure => simp [intOf]; omega
        | true =>
          rw [htb] at hst HH
          have Hst := Lib.hid (show redK M ⟨X, D⟩ (k + 1) = rxor Q q from by simpa using hst)
          clear hst htb
          go_wp2_with fail
          refine HH.out.mono ?_
          rintro e w' ⟨rfl, rfl⟩
          go_wp2_with fail
          refine HXr.out.mono ?_
          rintro e w5 ⟨rfl, hR5, k5⟩
          have HR5 := Lib.hid hR5
          have HK5 := Lib.hid (HK.out.trans' k5 (fun _ h => .inl h) (fun x hx => .inr (by simp at hx; have := HLt.out; omega)))
          clear hR5 k5
          go_wp2_with fail
          go_roundw
          case rel => exact ⟨k + 1, by omega, by go_num, by rw [Hst.out]; exact HR5.out, HK5.out⟩
          case measure => simp [intOf]; omega
    · obtain rfl : k = n := by omega
      have hrd : redK M ⟨X, D⟩ k = red M ⟨X, D⟩ := by unfold red; rw [hml]
      rw [hrd] at hR
      have HR := Lib.hid hR
      have HK := Lib.hid hK
      clear hR hK hrd
      go_wp2_with fail
      go_ret
      exact ⟨_, rfl, HLt.out.1, hp2w, hg2w, HLt.out.2, HR.out, HK.out⟩

end Go.Proofs.YtijhaeapoapgfaaGreatDoor
