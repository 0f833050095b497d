/-
  El1: package elim: a row in memory; xor, walked.
-/
import Derived.Test.YtghgmchgbhdldaaGreatDoorVecX
import Derived.Test.YtghgmchgbhdldaaGreatDoorBk2
import Derived.Test.YtghgmchgbhdldaaGreatDoorPlain
set_option linter.unusedVariables false
set_option linter.unusedSimpArgs false
namespace Go.Proofs.YtghgmchgbhdldaaGreatDoor
open Go.RowKit
attribute [local go_sem ↓] Go.wp_at_zero Go.wp_at_succ

/-- Where a row lies: its struct, its vector, the vector's words, its data. -/
structure Loc where
  r : Nat
  v : Nat
  g : Nat
  d : Nat
abbrev P0 (b : Nat) : Value := .pointer (some ⟨b, 0, none⟩)

def RwAt (w : World) (L : Loc) (n z : Nat) (q : Rw) : Prop :=
  ∃ c t, Blk w L.r 100 [P0 L.v, .slice (some ⟨L.d, 0, none⟩) z z] ∧ VcAt w L.v L.g n q.x c t ∧ Blk w L.d 5 (q.d.map B8) ∧ q.d.length = z

theorem RwAt.keeps {S : List Nat} {w w' : World} {L : Loc} {n z : Nat} {q : Rw} (h : RwAt w L n z q) (k : Keeps S w w') (h1 : L.r ∉ S) (h2 : L.v ∉ S) (h3 : L.g ∉ S) (h4 : L.d ∉ S) : RwAt w' L n z q := by
  obtain ⟨c, t, hb, hv, hd, hl⟩ := h
  exact ⟨c, t, hb.keeps k h1, hv.keeps k h2 h3, hd.keeps k h4, hl⟩
theorem RwAt.keepsNil {w w' : World} {L : Loc} {n z : Nat} {q : Rw} (h : RwAt w L n z q) (k : Keeps [] w w') : RwAt w' L n z q := h.keeps k (by simp) (by simp) (by simp) (by simp)
theorem RwAt.lt {w : World} {L : Loc} {n z : Nat} {q : Rw} (h : RwAt w L n z q) : L.r < w.heap.size ∧ L.v < w.heap.size ∧ L.g < w.heap.size ∧ L.d < w.heap.size := by
  obtain ⟨c, t, hb, hv, hd, hl⟩ := h
  exact ⟨hb.lt, hv.b.lt, hv.r.lt, hd.lt⟩
/-- What is done to the words and the data of another row makes no difference. -/
theorem RwAt.other {w w' : World} {L L' : Loc} {n z : Nat} {q q' : Rw} (h : RwAt w L n z q) (h' : RwAt w L' n z q') (hg : L.g ≠ L'.g) (hd : L.d ≠ L'.d) (k : Keeps [L'.g, L'.d] w w') : RwAt w' L n z q := by
  have h0 := h
  obtain ⟨c, t, hb, hv, hdd, hl⟩ := h
  obtain ⟨c', t', hb', hv', hd', hl'⟩ := h'
  refine h0.keeps k ?_ ?_ ?_ ?_
  · simp only [List.mem_cons, List.not_mem_nil, or_false, not_or]; exact ⟨hb.ne hv'.r (by decide), hb.ne hd' (by decide)⟩
  · simp only [List.mem_cons, List.not_mem_nil, or_false, not_or]; exact ⟨hv.b.ne hv'.r (by decide), hv.b.ne hd' (by decide)⟩
  · simp only [List.mem_cons, List.not_mem_nil, or_false, not_or]; exact ⟨hg, hv.r.ne hd' (by decide)⟩
  · simp only [List.mem_cons, List.not_mem_nil, or_false, not_or]; exact ⟨hdd.ne hv'.r (by decide), hd⟩

def RwPost (w : World) (L : Loc) (n z : Nat) (q : Rw) (e : Ending) (w' : World) : Prop := e = .returned (.tuple #[]) ∧ RwAt w' L n z q ∧ Keeps [L.g, L.d] w w'

set_option maxRecDepth 100000 in
set_option maxHeartbeats 1600000 in
theorem rwxor_calls {w : World} {L L' : Loc} {n z : Nat} {a b : Rw} (h : RwAt w L n z a) (h' : RwAt w L' n z b) (hg : L.g ≠ L'.g) (hd : L.d ≠ L'.d) (hz : z ≤ 16) :
    Calls Tryz.prog 46 #[P0 L.r, P0 L'.r] w (RwPost w L n z (rxor a b)) := by
  obtain ⟨c, t, hb, hv, hdd, hl⟩ := h
  obtain ⟨c', t', hb', hv', hdd', hl'⟩ := h'
  have c0 := hb.cell' (i := 0) rfl
  have c1 := hb.cell' (i := 1) rfl
  have d0 := hb'.cell' (i := 0) rfl
  have d1 := hb'.cell' (i := 1) rfl
  have HX := Lib.hid (vcxor_calls (hv.keeps (Keeps.refl [] w).drew (by simp) (by simp)) (hv'.keeps (Keeps.refl [] w).drew (by simp) (by simp)) (hv'.b.ne hv.r (by decide)) (fun e => hg e.symm))
  have n1 : L.r ∉ [L.g] := by simpa using hb.ne hv.r (by decide)
  have n2 : L'.r ∉ [L.g] := by simpa using hb'.ne hv.r (by decide)
  have n3 : L.d ∉ [L.g] := by simpa using hdd.ne hv.r (by decide)
  have n4 : L'.d ∉ [L.g] := by simpa using hdd'.ne hv.r (by decide)
  have m1 : L.r ≠ L.d := hb.ne hdd (by decide)
  have m2 : L'.r ≠ L.d := hb'.ne hdd (by decide)
  have m3 : L.v ≠ L.d := hv.b.ne hdd (by decide)
  have m4 : L.g ≠ L.d := hv.r.ne hdd (by decide)
  have HB := Lib.hid hb
  have HB' := Lib.hid hb'
  have HD := Lib.hid hdd
  have HD' := Lib.hid hdd'
  clear hb hb' hdd hdd' hv hv'
  obtain ⟨x, A⟩ := a
  obtain ⟨y, B⟩ := b
  simp only at *
  have Hl := Lib.hid hl
  have Hl' := Lib.hid hl'
  clear hl hl'
  go_enter Tryz.func46, Tryz.ntmps46
  go_wp2_with fail
  refine wp_region_noPanic ?_
  refine wp_region_held_drew (S := (fun w' => w'.cell? ⟨L.r, 0, none⟩ = some (P0 L.v) ∧ w'.cell? ⟨L'.r, 0, none⟩ = some (P0 L'.v))) (by kernel_rfl) ⟨c0, d0⟩ (fun hHeld => ?_)
  refine wpAnyH_take (i := 0) (v := ?v1_1) rfl (by kernel_rfl) (by kernel_rfl) (by kernel_rfl) (fun _ _ _ h => h) (Or.inl ⟨by rfl, ?y1_1⟩) (by assumption) ?r1_1
  case y1_1 => (intro w hSw; (try dsimp only at hSw); go_simp; try with_reducible rfl)
  (try simp only [Act.put, List.getElem_toArray, List.getElem_cons_zero, List.getElem_cons_succ, List.setIfInBounds_toArray, List.set_cons_zero, List.set_cons_succ])
  refine wpAnyH_take (i := 1) (v := ?v1_2) rfl (by kernel_rfl) (by kernel_rfl) (by kernel_rfl) (fun _ _ _ h => h) (Or.inl ⟨by rfl, ?y1_2⟩) (by assumption) ?r1_2
  case y1_2 => (intro w hSw; (try dsimp only at hSw); go_simp; try with_reducible rfl)
  (try simp only [Act.put, List.getElem_toArray, List.getElem_cons_zero, List.getElem_cons_succ, List.setIfInBounds_toArray, List.set_cons_zero, List.set_cons_succ])
  refine wpAnyH_take (i := 2) (v := ?v1_3) rfl (by kernel_rfl) (by kernel_rfl) (by kernel_rfl) (fun _ _ _ h => h) (Or.inl ⟨by rfl, ?y1_3⟩) (by assumption) ?r1_3
  case y1_3 => (intro w hSw; (try dsimp only at hSw); go_simp; try with_reducible rfl)
  (try simp only [Act.put, List.getElem_toArray, List.getElem_cons_zero, List.getElem_cons_succ, List.setIfInBounds_toArray, List.set_cons_zero, List.set_cons_succ])
  refine wpAnyH_take (i := 3) (v := ?v1_4) rfl (by kernel_rfl) (by kernel_rfl) (by kernel_rfl) (fun _ _ _ h => h) (Or.inl ⟨by rfl, ?y1_4⟩) (by assumption) ?r1_4
  case y1_4 => (intro w hSw; (try dsimp only at hSw); go_simp; try with_reducible rfl)
  (try simp only [Act.put, List.getElem_toArray, List.getElem_cons_zero, List.getElem_cons_succ, List.setIfInBounds_toArray, List.set_cons_zero, List.set_cons_succ])
  refine wpAnyH_take (i := 4) (v := ?v1_5) rfl (by kernel_rfl) (by kernel_rfl) (by kernel_rfl) (fun _ _ _ h => h) (Or.inl ⟨by rfl, ?y1_5⟩) (by assumption) ?r1_5
  case y1_5 => (intro w hSw; (try dsimp only at hSw); go_simp; try with_reducible rfl)
  (try simp only [Act.put, List.getElem_toArray, List.getElem_cons_zero, List.getElem_cons_succ, List.setIfInBounds_toArray, List.set_cons_zero, List.set_cons_succ])
  refine wpAnyH_take (i := 5) (v := ?v1_6) rfl (by kernel_rfl) (by kernel_rfl) (by kernel_rfl) (fun _ _ _ h => h) (Or.inl ⟨by rfl, ?y1_6⟩) (by assumption) ?r1_6
  case y1_6 => (intro w hSw; (try dsimp only at hSw); go_simp; try with_reducible rfl)
  (try simp only [Act.put, List.getElem_toArray, List.getElem_cons_zero, List.getElem_cons_succ, List.setIfInBounds_toArray, List.set_cons_zero, List.set_cons_succ])
  refine wpAnyH_take (i := 6) (v := ?v1_7) rfl (by kernel_rfl) (by kernel_rfl) (by kernel_rfl) (fun _ _ _ h => h) (Or.inl ⟨by rfl, ?y1_7⟩) (by assumption) ?r1_7
  case y1_7 => (intro w hSw; (try dsimp only at hSw); go_simp; try with_reducible rfl)
  (try simp only [Act.put, List.getElem_toArray, List.getElem_cons_zero, List.getElem_cons_succ, List.setIfInBounds_toArray, List.set_cons_zero, List.set_cons_succ])
  refine wpAnyH_take (i := 7) (v := ?v1_8) rfl (by kernel_rfl) (by kernel_rfl) (by kernel_rfl) (fun _ _ _ h => h) (Or.inl ⟨by rfl, ?y1_8⟩) (by assumption) ?r1_8
  case y1_8 => (intro w hSw; (try dsimp only at hSw); go_simp; try with_reducible rfl)
  (try simp only [Act.put, List.getElem_toArray, List.getElem_cons_zero, List.getElem_cons_succ, List.setIfInBounds_toArray, List.set_cons_zero, List.set_cons_succ])
  refine wpAnyH_ready (rs := [8]) (by kernel_rfl) (by simp) ?_
  refine AllReadyH.cons rfl (fun K hK => ?_) AllReadyH.nil
  go_simp
  refine HX.out.mono ?_
  rintro e w1 ⟨rfl, hV1, k1⟩
  have b1 := HB.out.drew.keeps k1 n1
  have b1' := HB'.out.drew.keeps k1 n2
  have HV1 := Lib.hid hV1
  have HK1 := Lib.hid k1
  clear hV1 k1
  go_wp2_with fail
  refine hK.out _ _ ?s1_9 (fun hHeld => ?_)
  case s1_9 => ((try dsimp only) <;> (first | exact ⟨b1.cell' (i := 0) rfl, b1'.cell' (i := 0) rfl⟩))
  clear hK K
  (try simp only [Act.put, List.getElem_toArray, List.getElem_cons_zero, List.getElem_cons_succ, List.setIfInBounds_toArray, List.set_cons_zero, List.set_cons_succ])
  refine wpAnyH_done (by kernel_rfl) ?_ _
  refine NoPanic.normal ?_
  have k1d : Keeps [L.g] w w1 := (Keeps.refl [L.g] w).drew.trans HK1.out
  have d1' := b1'.cell' (i := 1) rfl
  have HG0 := Lib.hid (show Blk w1 L.d 5 ((xorTo A B 0).map B8) from by rw [xorTo_zero]; exact HD.out.keeps k1d n3)
  have HDB := Lib.hid (HD'.out.keeps k1d n4)
  have HK := Lib.hid k1d
  have HBa := Lib.hid b1
  have HBb := Lib.hid b1'
  clear b1 b1' c0 c1 d0 d1 HD HD' HB HB' HX HK1 k1d n1 n2 n3 n4
  go_wp2_with fail
  go_loopw [20] (fun i wx => ∃ j : Nat, j ≤ z ∧ i = .int .i64 j ∧ Blk wx L.d 5 ((xorTo A B j).map B8) ∧ Keeps [L.d] w1 wx) (fun i _ => z - (intOf i).toNat)
  case atStart => exact ⟨0, Nat.zero_le _, rfl, HG0.out, Keeps.refl _ _⟩
  case round =>
    clear HG0 d1'
    obtain ⟨j, hj, rfl, hG, hKj⟩ := hrel
    by_cases hjl : j < z
    · have e1 := Hl.out
      have e2 := Hl'.out
      have hB := HDB.out.keeps hKj (by simpa using fun e => hd e.symm)
      have hA := HBa.out.keeps hKj (by simpa using m1)
      have cb : wr.cell? ⟨L'.d, j, none⟩ = some (B8 (B.getD j 0)) := hB.cell' (by rw [List.getElem?_map, List.getD_eq_getElem?_getD, List.getElem?_eq_getElem (by omega)]; rfl)
      have a1 := hA.cell' (i := 1) rfl
      have hgt := xorTo_getD (a := A) (b := B) (by omega) (k := j) (by omega)
      have hset := xorTo_set (a := A) (b := B) (by omega) (k := j) (by omega)
      rw [hgt] at hset
      have cg : wr.cell? ⟨L.d, j, none⟩ = some (B8 (A.getD j 0)) := hG.cell' (by
        rw [List.getElem?_map, List.getElem?_eq_getElem (by rw [xorTo_len (by omega)]; omega)]
        rw [List.getD_eq_getElem?_getD, List.getElem?_eq_getElem (by rw [xorTo_len (by omega)]; omega)] at hgt
        rw [← hgt]; rfl)
      have fr := hG.frozen j
      have hS := hG.set j (B8 (A.getD j 0 ^^^ B.getD j 0))
      rw [map_set8, hset] at hS
      have hx8 := xor_byte (A.getD j 0) (B.getD j 0)
      have HS := Lib.hid hS
      have HKj := Lib.hid (hKj.setCell (p := ⟨L.d, j, none⟩) (.inl (by simp)) (B8 (A.getD j 0 ^^^ B.getD j 0)))
      have hji : (j : Int) < (z : Int) := by omega
      clear hgt hset hS hG hKj e1 e2 hB hA
      generalize A.getD j 0 = ax at *
      generalize B.getD j 0 = bx at *
      go_wp2_with fail
      go_roundw
      case rel => exact ⟨j + 1, by omega, by go_num, HS.out, HKj.out⟩
      case measure => simp [intOf]; omega
    · obtain rfl : j = z := by omega
      have e1 := Hl.out
      have e2 := Hl'.out
      have hxa := xorTo_all (a := A) (b := B) (by omega)
      rw [show xorTo A B A.length = xorTo A B j from by rw [e1]] at hxa
      rw [hxa] at hG
      have HG := Lib.hid hG
      have HKj := Lib.hid hKj
      clear hG hKj e1 e2 hxa
      go_wp2_with fail
      go_end0
      have hl1 := Hl.out
      have hl2 := Hl'.out
      refine ⟨rfl, ⟨c, t, HBa.out.keeps HKj.out (by simpa using m1), HV1.out.keeps HKj.out (by simpa using m3) (by simpa using m4), HG.out, xorL_len hl1 hl2⟩, HK.out.trans' HKj.out (fun x hx => .inl (by simp at hx; simp [hx])) (fun x hx => .inl (by simp at hx; simp [hx]))⟩

end Go.Proofs.YtghgmchgbhdldaaGreatDoor
