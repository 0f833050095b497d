/-
  LawRand0: what the laws of package rand share: 'same', a row that every program must know.
-/
import Derived.Test.YtghgmchgbhdldaaRandS
set_option linter.unusedVariables false
set_option linter.unusedSimpArgs false
namespace Go.Proofs.Ytghgmchgbhdldaa
open Go.RowKit

theorem u32_of {a : Int} (h : (Lit.int .u32 a).wf = true) : ∃ x : UInt32, a = (x.toNat : Int) := by
  have hb : 0 ≤ a ∧ a ≤ 4294967295 := by simpa [Lit.wf, IntKind.has, IntKind.min, IntKind.max, IntKind.signed, IntKind.bits] using h
  refine ⟨UInt32.ofNat a.toNat, ?_⟩
  rw [UInt32.toNat_ofNat']
  show a = ((a.toNat % 4294967296 : Nat) : Int)
  omega

theorem take_eq_succ {l m : List Nat} {k : Nat} (h : l.take k = m.take k) (hl : k < l.length) (hm : k < m.length) (he : l.getD k 0 = m.getD k 0) : l.take (k + 1) = m.take (k + 1) := by
  rw [List.take_add_one, List.take_add_one, h, List.getElem?_eq_getElem hl, List.getElem?_eq_getElem hm]
  rw [List.getD, List.getD, List.getElem?_eq_getElem hl, List.getElem?_eq_getElem hm] at he
  simp only [Option.getD_some] at he
  rw [he]

set_option maxRecDepth 100000 in
set_option maxHeartbeats 1000000 in
theorem same_calls {w : World} {B1 B2 : Nat} {v1 v2 : Value} {l1 l2 : List Nat} (h1 : IsInts w B1 v1 l1) (h2 : IsInts w B2 v2 l2) (hm : l1.length ≤ 100000) (hm2 : l2.length ≤ 100000) :
    Calls Try.prog 43 #[v1, v2] w fun e w' => e = .returned (.bool (l1 == l2)) ∧ Keeps [] w w' := by
  obtain ⟨a1, c1, rfl, hc1, hcm1, hr1⟩ := h1
  obtain ⟨a2, c2, rfl, hc2, hcm2, hr2⟩ := h2
  by_cases hlen : l1.length = l2.length
  · have hlb : ((l1.length : Int) != (l2.length : Int)) = false := by rw [hlen]; simp
    have Hlen := Lib.hid hlen
    have hle1 : l1.length ≤ l2.length := by omega
    have hle2 : l2.length ≤ l1.length := by omega
    clear hlen
    go_enter Try.func43, Try.ntmps43
    go_wp2_with fail
    go_loopw [13] (fun i wr => ∃ k : Nat, k ≤ l1.length ∧ i = .int .i64 k ∧ l1.take k = l2.take k ∧ Keeps [] w wr) (fun i _ => l1.length - (intOf i).toNat)
    case atStart => exact ⟨0, Nat.zero_le _, rfl, rfl, Keeps.refl _ _⟩
    case round =>
      obtain ⟨k, hk, rfl, ht, hK⟩ := hrel
      have Ht := Lib.hid ht
      clear ht
      by_cases hlt : k < l1.length
      · have hlt2 : k < l2.length := by omega
        obtain ⟨g1, rfl, _, hx1⟩ := hr1 k hlt
        obtain ⟨g2, rfl, _, hx2⟩ := hr2 k hlt2
        have cx1 : wr.cell? ⟨g1, k, none⟩ = some (I64 (l1.getD k 0)) := (World.cell?_of_block (a := ⟨g1, k, none⟩) (hK.block g1 (World.block_lt_of_cell? w _ hx1) (by simp))).trans hx1
        have cx2 : wr.cell? ⟨g2, k, none⟩ = some (I64 (l2.getD k 0)) := (World.cell?_of_block (a := ⟨g2, k, none⟩) (hK.block g2 (World.block_lt_of_cell? w _ hx2) (by simp))).trans hx2
        clear hr1 hr2 hx1 hx2
        have HK := Lib.hid hK
        clear hK
        have i0 : (0 : Int) ≤ (k : Int) := by omega
        have i1 : (k : Int) < (l1.length : Int) := by omega
        have i2 : (k : Int) < (l2.length : Int) := by omega
        by_cases he : l1.getD k 0 = l2.getD k 0
        · have hts := Lib.hid (take_eq_succ Ht.out hlt hlt2 he)
          rw [← he] at cx2
          generalize l1.getD k 0 = x at *
          clear he
          go_wp2_with fail
          go_quiet (fail)
          go_wp2_with fail
          go_roundw
          case rel => exact ⟨k + 1, by omega, by go_num, hts.out, HK.out.drewN _⟩
          case measure => simp [intOf]; omega
        · have hne : (l1 == l2) = false := by
            rw [beq_eq_false_iff_ne]; intro e; exact he (by rw [e])
          have hb : (((l1.getD k 0 : Nat) : Int) != ((l2.getD k 0 : Nat) : Int)) = true := by
            rw [bne_iff_ne]; intro e; exact he (by omega)
          have Hne := Lib.hid hne
          clear hne
          generalize l1.getD k 0 = x at *
          generalize l2.getD k 0 = y at *
          clear he
          go_wp2_with fail
          go_quiet (fail)
          go_wp2_with fail
          go_ret
          exact ⟨by rw [Hne.out]; rfl, HK.out.drewN _⟩
      · have : k = l1.length := by omega
        subst this
        have ht := Ht.out
        rw [List.take_length, Hlen.out, List.take_length] at ht
        have E := Lib.hid (show (l1 == l2) = true from by simpa using ht)
        clear ht hr1 hr2
        go_wp2_with fail
        go_ret
        exact ⟨by rw [E.out]; rfl, hK⟩
  · have hlb : ((l1.length : Int) != (l2.length : Int)) = true := by rw [bne_iff_ne]; omega
    have E := Lib.hid (show (l1 == l2) = false from by rw [beq_eq_false_iff_ne]; intro e; exact hlen (by rw [e]))
    clear hlen hr1 hr2
    go_enter Try.func43, Try.ntmps43
    go_wp2_with fail
    go_ret
    exact ⟨by rw [E.out]; rfl, Keeps.refl _ _⟩

set_option maxRecDepth 100000 in
set_option maxHeartbeats 1000000 in
theorem awake4 {w : World} : Calls Try.prog 41 #[] w (TrueKeep w) := by
  have hN := fun w => randnew_calls (w := w) 1 2
  have hR := fun w => refnew_calls (w := w) 1 2
  have hall := fun s => some_all s 5 (by omega) (by omega)
  generalize rseed 1 2 = S at *
  have HN := Lib.hid hN
  have HR := Lib.hid hR
  have HA := Lib.hid hall
  clear hN hR hall
  go_enter Try.func41, Try.ntmps41
  go_wp2_with fail
  refine (HN.out _).mono ?_
  rintro e w1 ⟨p, rfl, hp, hS, hk1⟩
  go_wp2_with fail
  refine (next_calls hS).mono ?_
  rintro e w2 ⟨rfl, hS2, hk2⟩
  go_wp2_with fail
  refine (HR.out _).mono ?_
  rintro e w3 ⟨p2, rfl, hp2, hR3, hk3⟩
  have hS3 := hS2.keeps hk3 (by simp)
  have hpl := hS2.ltp
  go_wp2_with fail
  refine (refnext_calls hR3).mono ?_
  rintro e w4 ⟨rfl, hR4, hk4⟩
  have hS4 := hS3.keeps hk4 (by simp; omega)
  go_wp2_with fail
  refine (some_any hS4 5 5).mono ?_
  rintro e w5 ⟨v5, rfl, hI5, hS5, hk5⟩
  rw [HA.out] at hI5
  have hs5 := hk5.size
  have hI6 := hI5.keeps ((Keeps.refl [] w5).alloc (.cells #[.int .i64 0, .int .i64 1, .int .i64 2, .int .i64 3, .int .i64 4] 3)) (by simp)
  have hL : IsInts (w5.alloc (.cells #[.int .i64 0, .int .i64 1, .int .i64 2, .int .i64 3, .int .i64 4] 3)) 0 (.slice (some ⟨w5.heap.size, 0, none⟩) 5 5) [0, 1, 2, 3, 4] := by
    have hB := Blk.newA w5 3 #[.int .i64 0, .int .i64 1, .int .i64 2, .int .i64 3, .int .i64 4]
    refine ⟨_, 5, rfl, by simp, by omega, fun i hi => ⟨_, rfl, by omega, ?_⟩⟩
    simp only [List.length_cons, List.length_nil] at hi
    match i, hi with
    | 0, _ => exact hB.cell' rfl
    | 1, _ => exact hB.cell' rfl
    | 2, _ => exact hB.cell' rfl
    | 3, _ => exact hB.cell' rfl
    | 4, _ => exact hB.cell' rfl
  have hkk := ((((hk1.nil (S := [p, p2])).trans (hk2.mono (T := [p, p2]) (by intro x hx; simp at hx ⊢; omega))).trans hk3.nil).trans (hk4.mono (T := [p, p2]) (by intro x hx; simp at hx ⊢; omega))).trans (hk5.mono (T := [p, p2]) (by intro x hx; simp at hx ⊢; omega))
  have hs1 := hk1.size
  have hs2 := hk2.size
  clear hI5 hS hS2 hS3 hS4 hR3 hR4 hk1 hk2 hk3 hk4 hk5
  obtain ⟨a5, c5, rfl, hI6'⟩ := hI6
  have HI : Hid (IsInts (w5.alloc (.cells #[.int .i64 0, .int .i64 1, .int .i64 2, .int .i64 3, .int .i64 4] 3)) w4.heap.size (.slice a5 (List.range (5 : Int).toNat).length c5) (List.range (5 : Int).toNat)) := Lib.hid ⟨a5, c5, rfl, hI6'⟩
  clear hI6'
  go_wp2_with fail
  refine (same_calls HI.out hL (by decide) (by simp)).mono ?_
  rintro e w6 ⟨rfl, hk6⟩
  rw [show (List.range (5 : Int).toNat == [0, 1, 2, 3, 4]) = true from by decide]
  go_wp2_with fail
  go_ret
  exact ⟨rfl, ((hkk.alloc _).mono (by simp; omega)).trans hk6⟩

end Go.Proofs.Ytghgmchgbhdldaa
