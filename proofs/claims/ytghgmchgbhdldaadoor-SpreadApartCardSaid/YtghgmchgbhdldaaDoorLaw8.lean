/-
  Law8: downpourlaw8.sound, awake, walked.
-/
import Derived.Test.YtghgmchgbhdldaaDoorSpr
set_option linter.unusedVariables false
set_option linter.unusedSimpArgs false
namespace Go.Proofs.YtghgmchgbhdldaaDoor
open Go.RowKit
attribute [local go_sem ↓] Go.wp_at_zero Go.wp_at_succ

theorem Blk.put4 {w : World} {p : Nat} {t : TypeId} {a0 b0 c0 d0 : Value} (h : Blk w p t [a0, b0, c0, d0]) (a b c d : Value) :
    Blk ((((w.setCell ⟨p, 0, none⟩ a).setCell ⟨p, 1, none⟩ b).setCell ⟨p, 2, none⟩ c).setCell ⟨p, 3, none⟩ d) p t [a, b, c, d] := (((h.set 0 a).set 1 b).set 2 c).set 3 d
theorem Keeps.put4 {S : List Nat} {w' w : World} {p : Nat} (k : Keeps S w' w) (hp : p ∈ S ∨ w'.heap.size ≤ p) (a b c d : Value) :
    Keeps S w' ((((w.setCell ⟨p, 0, none⟩ a).setCell ⟨p, 1, none⟩ b).setCell ⟨p, 2, none⟩ c).setCell ⟨p, 3, none⟩ d) := (((k.setCell hp _).setCell hp _).setCell hp _).setCell hp _

/-- Numbers that may be. -/
structure Snd (K P Z : Nat) : Prop where
  k1 : 1 ≤ K
  k2 : K ≤ 64
  p2 : P ≤ 16
  z1 : 1 ≤ Z
  z2 : Z ≤ 16

theorem rowS_calls {w : World} (s : UInt32) {K P Z : Nat} (h : Snd K P Z) (id : UInt32) :
    Calls Tryd.prog 8 #[.agg #[B32 s, .int .i64 K, .int .i64 P, .int .i64 Z], B32 id] w (VecNew w (K + P) (rowN s K P id)) := row_calls s K P Z h.k1 h.k2 h.p2 h.z1 h.z2 id
theorem Snd.ok {K P Z : Nat} (h : Snd K P Z) : PmOk (K : Int) (P : Int) (Z : Int) = true := by
  obtain ⟨h1, h2, h3, h4, h5⟩ := h
  simp [PmOk]; omega

def SoundPost (w : World) (s : UInt32) (e : Ending) (w' : World) : Prop :=
  ∃ K P Z : Nat, e = .returned (.agg #[B32 s, .int .i64 K, .int .i64 P, .int .i64 Z]) ∧ Snd K P Z ∧ Keeps [] w w'

set_option maxRecDepth 100000 in
set_option maxHeartbeats 1000000 in
theorem sound_calls {w : World} (s : UInt32) (k p z : Int) :
    Calls Tryd.prog 7 #[.agg #[B32 s, .int .i64 k, .int .i64 p, .int .i64 z]] w (SoundPost w s) := by
  obtain ⟨a, ha, ea, ea'⟩ := umod k 64 (by omega) (by omega)
  obtain ⟨b, hb, eb, eb'⟩ := umod p 17 (by omega) (by omega)
  obtain ⟨c, hc, ec, ec'⟩ := umod z 16 (by omega) (by omega)
  go_enter Tryd.func7, Tryd.ntmps7
  go_wp2_with fail
  have hB := Blk.newA (w.alloc (.cells #[B32 s, .int .i64 k, .int .i64 p, .int .i64 z] 24)) 24 #[B32 s, .int .i64 (1 + a), .int .i64 b, .int .i64 (1 + c)]
  have kk : Keeps [] w ((w.alloc (.cells #[B32 s, .int .i64 k, .int .i64 p, .int .i64 z] 24)).alloc (.cells #[B32 s, .int .i64 (1 + a), .int .i64 b, .int .i64 (1 + c)] 24)) := ((Keeps.refl [] w).alloc _).alloc _
  rw [show (w.alloc (.cells #[B32 s, .int .i64 k, .int .i64 p, .int .i64 z] 24)).heap.size = w.heap.size + 1 from by simp] at hB
  have c0 := hB.cell' (i := 0) rfl
  have c1 := hB.cell' (i := 1) rfl
  have c2 := hB.cell' (i := 2) rfl
  have c3 := hB.cell' (i := 3) rfl
  refine bodyPost_ret (v := .agg #[B32 s, .int .i64 (1 + a), .int .i64 b, .int .i64 (1 + c)]) (by simp [results, Tryd.results7, go_sem, c0, c1, c2, c3]) rfl ?_
  refine ⟨1 + a, b, 1 + c, by rw [Int.natCast_add, Int.natCast_add]; rfl, ⟨by omega, by omega, by omega, by omega, by omega⟩, kk⟩


set_option maxRecDepth 100000 in
set_option maxHeartbeats 1000000 in
theorem awake8_calls {w : World} (ht : TzAt w) : Calls Tryd.prog 13 #[] w fun e w' => e = .returned (.bool true) ∧ Keeps [] w w' := by
  have hR : ∀ w, Calls Tryd.prog 8 #[.agg #[.int .u32 1, .int .i64 4, .int .i64 2, .int .i64 1], .int .u32 3] w (VecNew w 6 (rowN 1 4 2 3)) := fun w => row_calls (w := w) 1 4 2 1 (by omega) (by omega) (by omega) (by omega) (by omega) 3
  have hP : ∀ w, Calls Tryd.prog 15 #[.agg #[.int .u32 1, .int .i64 4, .int .i64 2, .int .i64 1]] w fun e w' => e = .returned (.int .i64 6) ∧ Keeps [] w w' := fun w => pieces_calls (w := w) 1 4 2 1
  obtain ⟨hf, hl⟩ := rowN_first 1 4 2 3 (by omega) (by omega) (by decide)
  rw [show 4 + 2 = 6 from rfl] at hf hl
  rw [show (((3 : UInt32).toNat : Nat) : Int) = 3 from rfl] at hf
  generalize rowN 1 4 2 3 = X at *
  have kA : Keeps [] w (w.alloc (.cells #[.int .u32 1, .int .i64 4, .int .i64 2, .int .i64 1] 24)) := (Keeps.refl [] w).alloc _
  have hB := Blk.newA w 24 #[.int .u32 1, .int .i64 4, .int .i64 2, .int .i64 1]
  go_enter Tryd.func13, Tryd.ntmps13
  go_wp2_with fail
  generalize w.alloc (.cells #[.int .u32 1, .int .i64 4, .int .i64 2, .int .i64 1] 24) = w0 at *
  refine (hR w0).mono ?_
  rintro e w1 ⟨p, g, rfl, hp, hg, hV, k1⟩
  have ht1 := (ht.keeps kA (by simp)).keeps k1 (by simp)
  have hB1 := hB.keeps k1 (by simp)
  have c0 := hB1.cell' (i := 0) rfl
  have c1 := hB1.cell' (i := 1) rfl
  have c2 := hB1.cell' (i := 2) rfl
  have c3 := hB1.cell' (i := 3) rfl
  have hfi := vfirst_calls hV ht1
  have hco := vcount_calls hV
  have hle := vlen_calls hV
  rw [hf] at hfi
  rw [hl] at hco
  clear hf hl hR ht ht1
  go_wp2_with fail
  refine hle.mono ?_
  rintro e w' ⟨rfl, rfl⟩
  go_wp2_with fail
  refine hfi.mono ?_
  rintro e w' ⟨rfl, rfl⟩
  go_wp2_with fail
  refine hco.mono ?_
  rintro e w' ⟨rfl, rfl⟩
  go_wp2_with fail
  refine (hP _).mono ?_
  rintro e w2 ⟨rfl, k2⟩
  go_wp2_with fail
  go_ret
  exact ⟨rfl, (kA.trans k1).trans k2⟩

end Go.Proofs.YtghgmchgbhdldaaDoor
