/-
  Cell: package cell, walked.
-/
import Derived.Test.YthjojkkjdaoocaaFlashN
import Derived.Test.YthjojkkjdaoocaaCrc
import Derived.Test.YthjojkkjdaoocaaCellM
import Derived.Test.YthjojkkjdaoocaaSl
import Derived.Test.YthjojkkjdaoocaaNumB
set_option linter.unusedVariables false
namespace Go.Proofs.Ythjojkkjdaoocaa
open Go.RowKit
attribute [local go_sem ↓] Go.wp_at_zero Go.wp_at_succ

set_option maxRecDepth 100000 in
theorem cellat_calls {w : World} (s : Int) (h0 : 0 ≤ s) (hs : s < 14) : Calls Try.prog 71 #[.int .i64 s] w fun e w' => e = .returned (.int .i64 (s * 256)) ∧ w = w' := by
  go_enter Try.func71, Try.ntmps71
  go_wp2_with fail
  go_ret
  exact ⟨rfl, rfl⟩

def CopyPost (w : World) (r : Option (UInt32 × List UInt8)) (e : Ending) (w' : World) : Prop :=
  ∃ v, e = .returned (.tuple #[.agg #[B32 ((r.map (·.1)).getD 0), v], .bool r.isSome]) ∧ Sl w' w.heap.size v ((r.map (·.2)).getD []) ∧ Keeps [] w w'

set_option maxRecDepth 100000 in
set_option maxHeartbeats 1000000 in
theorem cellwhole_calls {w : World} {p q : Nat} {F : Fla} (h : FlaAt w p q F) (s : Int) (h0 : 0 ≤ s) (hs : s < 14) :
    Calls Try.prog 93 #[.pointer (some ⟨p, 0, none⟩), .int .i64 s] w (CopyPost w (F.whole s.toNat)) := by
  by_cases hd : F.down = true
  · have er : F.read (s * 256) 256 = ([], 11) := by simp [Fla.read, Fla.ready, hd]
    have ew : F.whole s.toNat = none := by simp [Fla.whole, hd]
    rw [ew]
    have hR := read_calls (h.alloc (.cells #[.int .u32 0, .slice none 0 0] 97)) (s * 256) 256
    rw [er] at hR
    clear h hd er ew
    go_enter Try.func93, Try.ntmps93
    go_wp2_with fail
    refine (cellat_calls s h0 (by omega)).mono ?_
    rintro e w' ⟨rfl, rfl⟩
    go_wp2_with fail
    refine hR.mono ?_
    rintro e w1 ⟨v, rfl, hv, hk⟩
    have hb := ((Blk.newA w 97 #[.int .u32 0, .slice none 0 0]).keeps hk (by simp))
    have c0 := hb.cell' (i := 0) rfl
    have c1 := hb.cell' (i := 1) rfl
    have f0 := hb.frozen 0
    have f1 := hb.frozen 1
    have hsz := hk.size
    simp only [World.size_alloc] at hsz
    go_wp2_with fail
    refine bodyPost_ret (v := .tuple #[.agg #[.int .u32 0, .slice none 0 0], .bool false]) (by simp [results, Try.results93, go_sem, c0, c1]) rfl ⟨_, rfl, Sl.nil _ _, ((((Keeps.refl [] w).alloc _).trans hk).setCell (by simp) _).setCell (by simp) _⟩
  have hd' : F.down = false := by simpa using hd
  obtain ⟨k, rfl⟩ : ∃ k : Nat, s = k := ⟨s.toNat, by omega⟩
  have hlen : (F.sec k).length = 256 := by unfold Fla.sec; rw [List.length_take, List.length_drop, h.len]; omega
  have er : F.read ((k : Int) * 256) 256 = (F.sec k, 0) := by
    have hr : F.ready ((k : Int) * 256) 256 = 0 := by unfold Fla.ready; rw [if_neg hd, if_neg (by omega)]
    unfold Fla.read Fla.sec
    rw [if_neg (by simp [hr]), show ((k : Int) * 256).toNat = k * 256 from by omega]
    rfl
  have hR := read_calls (h.alloc (.cells #[.int .u32 0, .slice none 0 0] 97)) ((k : Int) * 256) 256
  rw [er] at hR
  have hW : F.whole k = cellCopy (F.sec k) := by simp [Fla.whole, hd']
  rw [show ((k : Int)).toNat = k from by omega, hW]
  clear h hd er hW
  generalize F.sec k = L at *
  go_enter Try.func93, Try.ntmps93
  go_wp2_with fail
  refine (cellat_calls k h0 (by omega)).mono ?_
  rintro e w' ⟨rfl, rfl⟩
  go_wp2_with fail
  refine hR.mono ?_
  rintro e w1 ⟨v, rfl, hv, hk⟩
  clear hR
  dsimp only at hv ⊢
  have hb := ((Blk.newA w 97 #[.int .u32 0, .slice none 0 0]).keeps hk (by simp))
  have hsz := hk.size
  simp only [World.size_alloc] at hsz
  obtain ⟨g, c, r, rfl, hc, hcm, hg1, hg2, hB⟩ := hv.rowc (by rintro rfl; simp at hlen)
  have x4 := hB.byteAt (i := 4) (by omega)
  have x5 := hB.byteAt (i := 5) (by omega)
  have hn : cpLen L = (L.getD 4 0).toNat * 256 + (L.getD 5 0).toNat := rfl
  generalize L.getD 4 0 = b4 at *
  generalize L.getD 5 0 = b5 at *
  rw [hlen]
  have Hlen := Lib.hid hlen
  have Hn := Lib.hid hn
  rw [hlen] at hc
  clear hlen hn hv
  go_wp2_with fail
  go_quiet (fail)
  rw [or_len b4 b5, ← Hn.out]
  clear x4 x5 Hn
  have hcc : cellCopy L = if cpLen L > 245 then none else if L.getD (10 + cpLen L) 0 ≠ 0 then none else (crcRight (L.take (10 + cpLen L))).map fun x => (num4 L, x.drop 6) := rfl
  generalize cpLen L = n at *
  rw [show 10 + n = 6 + n + 4 from by omega] at hcc
  have Hcc := Lib.hid hcc
  clear hcc
  have hkn := hk.drewN nq
  replace hb := hb.drewN nq
  replace hB := hB.drewN nq
  generalize w1.drewN nq = w2 at *
  by_cases hn : 245 < n
  · have E := Lib.hid (show cellCopy L = none from by rw [Hcc.out, if_pos hn])
    clear Hcc
    have c0 := hb.cell' (i := 0) rfl
    have c1 := hb.cell' (i := 1) rfl
    have f0 := hb.frozen 0
    have f1 := hb.frozen 1
    have hsz := hb.lt
    go_wp2_with fail
    refine bodyPost_ret (v := .tuple #[.agg #[.int .u32 0, .slice none 0 0], .bool false]) (by simp [results, Try.results93, go_sem, c0, c1]) rfl ⟨_, by rw [E.out]; rfl, by rw [E.out]; exact Sl.nil _ _, ((((Keeps.refl [] w).alloc _).trans hkn).setCell (by simp) _).setCell (by simp) _⟩
  have xm := hB.byteAt (i := 6 + n + 4) (by have := Hlen.out; omega)
  generalize hm : L.getD (6 + n + 4) 0 = m at *
  clear hm
  by_cases hm : m = 0
  · subst hm
    have hl := Hlen.out
    have hlt : (L.take (6 + n + 4)).length = 6 + n + 4 := by rw [List.length_take]; omega
    have hR := crcright_calls (w := w2) (some ⟨g, 0, none⟩) (6 + n + 4) c (L.take (6 + n + 4)) (hB.rdSub 0 _) hlt (by omega) (by omega) (by omega) (by simp)
    have x0 := hB.byteAt (i := 0) (by omega)
    have x1 := hB.byteAt (i := 1) (by omega)
    have x2 := hB.byteAt (i := 2) (by omega)
    have x3 := hB.byteAt (i := 3) (by omega)
    cases hcr : crcRight (L.take (6 + n + 4)) with
    | none =>
      have E := Lib.hid (show cellCopy L = none from by rw [Hcc.out, if_neg hn, if_neg (by simp), hcr]; rfl)
      unfold RightPost at hR
      rw [hcr] at hR
      clear Hcc hl hlt hcr
      go_wp2_with fail
      refine hR.mono ?_
      rintro e w3 ⟨v3, rfl, hv3, hk3⟩
      have hkk := hkn.trans hk3
      replace hb := hb.keeps hk3 (by simp)
      have c0 := hb.cell' (i := 0) rfl
      have c1 := hb.cell' (i := 1) rfl
      have f0 := hb.frozen 0
      have f1 := hb.frozen 1
      have hsz := hb.lt
      go_wp2_with fail
      refine bodyPost_ret (v := .tuple #[.agg #[.int .u32 0, .slice none 0 0], .bool false]) (by simp [results, Try.results93, go_sem, c0, c1]) rfl ⟨_, by rw [E.out]; rfl, by rw [E.out]; exact Sl.nil _ _, ((((Keeps.refl [] w).alloc _).trans hkk).setCell (by simp) _).setCell (by simp) _⟩
    | some m =>
      have e : cellCopy L = some (be32 (L.getD 0 0) (L.getD 1 0) (L.getD 2 0) (L.getD 3 0), m.drop 6) := by rw [Hcc.out, if_neg hn, if_neg (by simp), hcr]; rfl
      generalize L.getD 0 0 = b0 at *
      generalize L.getD 1 0 = b1 at *
      generalize L.getD 2 0 = b2 at *
      generalize L.getD 3 0 = b3 at *
      have E := Lib.hid e
      clear e
      have hml : m.length = n + 6 := by
        have := (crcRight_some hcr).1
        have := congrArg List.length this
        rw [hlt, crcPut_len] at this
        omega
      unfold RightPost at hR
      rw [hcr] at hR
      clear Hcc hl hlt hcr
      go_wp2_with fail
      refine hR.mono ?_
      rintro e w3 ⟨v3, rfl, hv3, hk3⟩
      dsimp only [Option.getD_some] at hv3
      have hkk := hkn.trans hk3
      replace hb := hb.keeps hk3 (by simp)
      replace x0 := hk3.cell x0
      replace x1 := hk3.cell x1
      replace x2 := hk3.cell x2
      replace x3 := hk3.cell x3
      obtain ⟨g3, c3, r3, rfl, hc3, hcm3, hg31, hg32, hB3⟩ := hv3.rowc (by rintro rfl; simp at hml)
      rw [hml] at hc3 ⊢
      clear hR hB xm
      go_wp2_with fail
      go_quiet (fail)
      rw [num_bits b0 b1 b2 b3]
      generalize be32 b0 b1 b2 b3 = num at *
      clear x0 x1 x2 x3
      replace hb := hb.drewN nq
      replace hB3 := hB3.drewN nq
      replace hkk := hkk.drewN nq
      generalize w3.drewN nq = w4 at *
      have c0 := hb.cell' (i := 0) rfl
      have c1 := hb.cell' (i := 1) rfl
      have f0 := hb.frozen 0
      have f1 := hb.frozen 1
      have hsz := hb.lt
      have hS : ∀ a, (a = some ⟨g3, 6, none⟩ ∨ (a = some ⟨g3, 0, none⟩ ∧ c3 = 6)) → Sl w4 (w.heap.size + 1) (.slice a n (c3 - 6)) (m.drop 6) := by
        intro a ha
        have hdl : (m.drop 6).length = n := by rw [List.length_drop]; omega
        have hgg : w.heap.size + 1 ≤ g3 := by
          have := hk3.size
          have := hkn.size
          simp only [World.size_alloc] at *
          omega
        refine ⟨a, c3 - 6, by rw [hdl], by omega, by omega, ?_, by rintro rfl; simp at ha, ?_⟩
        · rcases ha with rfl | ⟨rfl, h6⟩
          · refine Rd.blk hB3 6 _ ?_
            intro i u hu
            rw [List.getElem?_drop] at hu
            rw [List.getElem?_append_left (by rw [List.length_map]; exact (List.getElem?_eq_some_iff.1 hu).1), List.getElem?_map, hu]
            rfl
          · have : m.drop 6 = [] := List.length_eq_zero_iff.1 (by omega)
            rw [this]; exact Rd.nil _ _
        · intro x hx _
          rcases ha with rfl | ⟨rfl, h6⟩ <;> simp only [Option.some.injEq] at hx <;> subst hx <;> exact ⟨hgg, hB3.lt⟩
      have hkx := (Keeps.refl [] w).alloc (.cells #[.int .u32 0, .slice none 0 0] 97) |>.trans hkk
      by_cases h6 : c3 = 6
      · go_wp2_with fail
        refine bodyPost_ret (v := .tuple #[.agg #[.int .u32 num.toNat, .slice (some ⟨g3, 0, none⟩) n 0], .bool true]) (by simp [results, Try.results93, go_sem, c0, c1]) rfl ⟨_, by rw [E.out]; rfl, ?_, (hkx.setCell (by simp) _).setCell (by simp) _⟩
        rw [E.out]
        have := hS _ (.inr ⟨rfl, h6⟩)
        rw [h6] at this
        exact (this.keeps (S := [w.heap.size]) (((Keeps.refl _ w4).setCell (by simp) _).setCell (by simp) _) (by simp)).mono (by omega)
      · go_wp2_with fail
        refine bodyPost_ret (v := .tuple #[.agg #[.int .u32 num.toNat, .slice (some ⟨g3, 6, none⟩) n (c3 - 6)], .bool true]) (by simp [results, Try.results93, go_sem, c0, c1]) rfl ⟨_, by rw [E.out]; rfl, ?_, (hkx.setCell (by simp) _).setCell (by simp) _⟩
        rw [E.out]
        exact ((hS _ (.inl rfl)).keeps (S := [w.heap.size]) (((Keeps.refl _ w4).setCell (by simp) _).setCell (by simp) _) (by simp)).mono (by omega)
  · have hm1 : ((m.toNat : Int) == 0) = false := by
      rw [beq_eq_false_iff_ne]; intro h; exact hm (UInt8.toNat_inj.1 (by simpa using h))
    have hm' : ((m.toNat : Int) != 0) = true := by rw [bne, hm1]; rfl
    clear hm1
    have E := Lib.hid (show cellCopy L = none from by rw [Hcc.out, if_neg hn, if_pos hm])
    clear Hcc
    have c0 := hb.cell' (i := 0) rfl
    have c1 := hb.cell' (i := 1) rfl
    have f0 := hb.frozen 0
    have f1 := hb.frozen 1
    have hsz := hb.lt
    clear hm
    go_wp2_with fail
    refine bodyPost_ret (v := .tuple #[.agg #[.int .u32 0, .slice none 0 0], .bool false]) (by simp [results, Try.results93, go_sem, c0, c1]) rfl ⟨_, by rw [E.out]; rfl, by rw [E.out]; exact Sl.nil _ _, ((((Keeps.refl [] w).alloc _).trans hkn).setCell (by simp) _).setCell (by simp) _⟩

end Go.Proofs.Ythjojkkjdaoocaa
