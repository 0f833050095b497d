/-
  Bk1: package block: Count, Split, walked.
-/
import Derived.Test.YtghgmchgbhdldaaGreatDoorBkV
set_option linter.unusedVariables false
set_option linter.unusedSimpArgs false
namespace Go.Proofs.YtghgmchgbhdldaaGreatDoor
open Go.RowKit
attribute [local go_sem ↓] Go.wp_at_zero Go.wp_at_succ

set_option maxRecDepth 100000 in
theorem bcount_calls {w : World} (len size : Nat) (hl : len ≤ 512) (h1 : 1 ≤ size) (h2 : size ≤ 16) :
    Calls Tryz.prog 29 #[.int .i64 len, .int .i64 size] w fun e w' => e = .returned (.int .i64 (bcount len size)) ∧ w = w' := by
  by_cases h0 : len = 0
  · subst h0
    go_enter Tryz.func29, Tryz.ntmps29
    go_wp2_with fail
    go_ret
    exact ⟨rfl, rfl⟩
  · have hE : bcount len size = if (len + size - 1) / size ≤ 64 then (len + size - 1) / size else 0 := by unfold bcount; rw [if_neg h0]
    have hq : ((len : Int) + (size : Int) - 1) / (size : Int) = (((len + size - 1) / size : Nat) : Int) := by
      rw [show (len : Int) + (size : Int) - 1 = ((len + size - 1 : Nat) : Int) from by omega, Int.natCast_ediv]
    have hqb : (len + size - 1) / size ≤ len + size - 1 := Nat.div_le_self _ _
    generalize (len + size - 1) / size = q at *
    by_cases h64 : q ≤ 64
    · rw [if_pos h64] at hE
      have HE := Lib.hid hE
      clear hE
      go_enter Tryz.func29, Tryz.ntmps29
      go_wp2_with fail
      go_ret
      exact ⟨by rw [HE.out, ← hq]; rfl, rfl⟩
    · rw [if_neg h64] at hE
      have HE := Lib.hid hE
      clear hE
      go_enter Tryz.func29, Tryz.ntmps29
      go_wp2_with fail
      go_ret
      exact ⟨by rw [HE.out]; rfl, rfl⟩

def PcsPost (w : World) (L : List (List UInt8)) (e : Ending) (w' : World) : Prop := ∃ v, e = .returned v ∧ Pcs w' w.heap.size v L ∧ Keeps [] w w'

set_option maxRecDepth 100000 in
set_option maxHeartbeats 1000000 in
theorem bsplit_calls {w : World} {vi : Value} {img : List UInt8} (hi : RdS w vi img) (K size : Nat) (hl : img.length ≤ 512) (h1 : 1 ≤ size) (h2 : size ≤ 16) (hK : bcount img.length size = K) (hK1 : 1 ≤ K) (hK2 : K ≤ 64) (hfit : img.length ≤ K * size) :
    Calls Tryz.prog 56 #[vi, .int .i64 size] w (PcsPost w (bsplit img K size K)) := by
  obtain ⟨a, c, rfl, _, _, hrd, hn0, _⟩ := hi
  have hC := bcount_calls (w := w) img.length size hl h1 h2
  rw [hK] at hC
  have hn : (K : Int) * (size : Int) = ((K * size : Nat) : Int) := by simp
  have hnb : K * size ≤ 64 * 16 := Nat.mul_le_mul hK2 h2
  have hn1 : 1 ≤ K * size := Nat.mul_pos (by omega) (by omega)
  have hmx : max (size : Int) 0 = size := by omega
  have hpl : ∀ i, i < K → (bpiece img K size i).length = size := fun i hi => bpiece_len hfit hi
  have hbs := bsplit_succ img K size
  have hbl := bsplit_len img K size
  have hpd : ∀ i, bpiece img K size i = ((bfull img (K * size)).drop (i * size)).take size := fun i => rfl
  have hip : ∀ i, i < K → (i + 1) * size ≤ K * size := fun i hi => Nat.mul_le_mul_right _ hi
  have hfl := bfull_len hfit
  have hfd : bfull img (K * size) = img ++ zer (K * size - img.length) := rfl
  have hb0 : bsplit img K size 0 = [] := rfl
  generalize bsplit img K size = bs at *
  generalize bpiece img K size = bp at *
  generalize bfull img (K * size) = D at *
  generalize K * size = n at *
  have hmk := fun w => make_u8 n n (Nat.le_refl _) (by omega) w
  go_enter Tryz.func56, Tryz.ntmps56
  go_wp2_with fail
  refine hC.mono ?_
  rintro e w' ⟨rfl, rfl⟩
  have hbl0 := Blk.newA w 5 (zeros n)
  obtain ⟨w1, hcp, hb1, hk1⟩ : ∃ W', (Builtin.copy_ #[28, 28] 3 #[.slice (some ⟨w.heap.size, 0, none⟩) n n, .slice a img.length c]).run Tryz.prog (w.alloc (.cells (zeros n) 5)) = .ok (.int .i64 img.length) W' ∧
      Blk W' w.heap.size 5 (D.map B8) ∧ Keeps [] w W' := by
    cases a with
    | none =>
      exfalso
      have := (hn0 rfl).1
      subst this
      have : bcount 0 size = 0 := rfl
      simp only [List.length_nil] at hK
      omega
    | some x =>
      obtain ⟨W', e1, e2, e3⟩ := copy_run (w := w.alloc (.cells (zeros n) 5)) (g := w.heap.size) (o := 0) (dLen := n) (dCap := n) (x := x) (sLen := img.length) (sCap := c) hbl0 img (by show img.length = min img.length n; omega) ((hrd.keeps ((Keeps.refl [] w).alloc _) (by simp)).news) (by simp [zeros]; omega)
      refine ⟨W', e1, ?_, ((Keeps.refl [] w).alloc _).trans' e3 (fun _ h => .inl h) (by simp)⟩
      rw [hfd, List.map_append]
      simpa [zeros, zer] using e2
  have HD := Lib.hid hb1
  have hk1' := Lib.hid hk1
  have hgl := hb1.lt
  have hP0 := Pcs.nil w1 w1.heap.size
  rw [← hb0] at hP0
  have Hbs := Lib.hid hbs
  have Hbl := Lib.hid hbl
  have Hpl := Lib.hid hpl
  have Hpd := Lib.hid hpd
  have Hip := Lib.hid hip
  have Hfl := Lib.hid hfl
  clear hb1 hk1 hb0 hbs hbl hpl hpd hip hfl hfd hbl0 hK hC hn0 hrd
  go_wp2_with fail
  go_loopw [7, 22] (fun v i wr => ∃ k : Nat, k ≤ K ∧ i = .int .i64 k ∧ Pcs wr w1.heap.size v (bs k) ∧ Keeps [] w1 wr) (fun _ i _ => K - (intOf i).toNat)
  case atStart => exact ⟨0, Nat.zero_le _, rfl, hP0, Keeps.refl _ _⟩
  case round =>
    obtain ⟨k, hk, rfl, hP, hK⟩ := hrel
    by_cases hlt : k < K
    · have hlo : (k : Int) * (size : Int) = ((k * size : Nat) : Int) := by simp
      have hhi : ((k : Int) + 1) * (size : Int) = (((k + 1) * size : Nat) : Int) := by simp
      have hpk := Hpd.out k
      have hlk := Hpl.out k hlt
      have hi2 := Hip.out k hlt
      have hst : (k + 1) * size = k * size + size := by rw [Nat.add_mul, Nat.one_mul]
      have hb := Hbs.out k
      have hbl := Hbl.out k
      have hDr := HD.out.keeps hK (by simp)
      have hrd : Rd wr (some ⟨w.heap.size, k * size, none⟩) (bp k) := by
        rw [hpk]
        have := Blk.rdSub (r := []) (l := D) (by rw [List.append_nil]; exact hDr) (k * size) size
        exact this
      generalize k * size = lo at *
      generalize (k + 1) * size = hi at *
      have hsz := hK.size
      have hC := fun c => clone_calls (w := wr) (some ⟨w.heap.size, lo, none⟩) size c (bp k) hrd hlk (by omega) (by simp)
      obtain ⟨vs, hO, hvl, hve⟩ := hP
      have i1 : (lo : Int) ≤ (hi : Int) := by omega
      have i2 : (hi : Int) ≤ (n : Int) := by omega
      have HC := Lib.hid hC
      have HO := Lib.hid hO
      have Hve := Lib.hid hve
      have Hb := Lib.hid hb
      have HKr := Lib.hid hK
      have e3 : hi - lo = size := by omega
      clear hrd hDr hC hO hve hb hpk hK
      go_wp2_with fail
      refine (HC.out (n - lo)).mono ?_
      rintro e w2 ⟨v2, rfl, hO2, k2⟩
      obtain ⟨a2, c2, rfl, r1, r2, r3, r4, r5⟩ := hO2.rds
      rw [hlk] at r1 ⊢
      have kB : Keeps [] w2 (w2.alloc (.cells #[.slice a2 size c2] 28)) := (Keeps.refl [] w2).alloc _
      have HU := Lib.hid (show RdS (w2.alloc (.cells #[.slice a2 size c2] 28)) (.slice a2 size c2) (bp k) from (show RdS w2 (.slice a2 size c2) (bp k) from ⟨a2, c2, by rw [hlk], by omega, r2, r3, r4, r5⟩).keepsNil kB)
      have HOw := Lib.hid (HO.out.keeps (k2.trans kB) (by simp))
      have Hve2 := Lib.hid (fun (i : Nat) (x : List UInt8) (hx : (bs k)[i]? = some x) => by obtain ⟨u, hu, hr⟩ := Hve.out i x hx; exact (⟨u, hu, hr.keepsNil (k2.trans kB)⟩ : ∃ u, vs[i]? = some u ∧ RdS (w2.alloc (.cells #[.slice a2 size c2] 28)) u x))
      have HX := Lib.hid (show (w2.alloc (.cells #[.slice a2 size c2] 28)).cell? ⟨w2.heap.size, 0, none⟩ = some (.slice a2 size c2) from (Blk.newA w2 28 #[.slice a2 size c2]).cell' rfl)
      have hs2 := k2.size
      have hB : w1.heap.size ≤ (w2.alloc (.cells #[.slice a2 size c2] 28)).heap.size := by simp; omega
      have hvl6 : vs.length ≤ 1000000 := by omega
      have HK2 := Lib.hid ((HKr.out.trans k2).trans kB)
      clear r3 r4 r5 hO2 kB k2
      go_wp2_with (at_builtin; (refine wpList_append_bs rfl (.tmp 25) (.tmp 36) rfl HOw.out rfl (.slice a2 size c2) rfl _ 0 1 rfl HX.out hvl6 hB ?_); intro v3 w3 g1 g2 g3)
      go_roundw
      case rel =>
        refine ⟨k + 1, by omega, by go_num, ?_, HK2.out.grown g2 (fun x hx => .inr (HOw.out.block hx).1)⟩
        rw [Hb.out]
        exact Pcs.snoc HOw.out hvl Hve2.out HU.out g1 g2
      case measure => simp [intOf]; omega
    · obtain rfl : k = K := by omega
      have HP := Lib.hid hP
      have HKr := Lib.hid hK
      have hsz := hk1'.out.size
      clear hP hK
      go_wp2_with fail
      go_ret
      exact ⟨_, rfl, HP.out.mono hsz, hk1'.out.trans HKr.out⟩

end Go.Proofs.YtghgmchgbhdldaaGreatDoor
