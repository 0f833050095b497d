/-
  LawFuse: the walk of FlashFuse.
-/
import Derived.Test.YthjojkkjdaoocaaLaw16
import Derived.Test.YthjojkkjdaoocaaFlashT
namespace Go.Proofs.Ythjojkkjdaoocaa
open Go.RowKit

theorem blank_getD (j : Nat) (h : j < 3584) : blankAll.getD j 0 = 255 := by
  unfold blankAll
  rw [List.getD, List.getElem?_replicate, if_pos h]
  rfl

theorem and_255 (x : UInt8) : (255 : UInt8) &&& x = x := by
  apply UInt8.toNat_inj.1
  rw [UInt8.toNat_and]
  have := x.toNat_lt
  show 255 &&& x.toNat = x.toNat
  rw [Nat.and_comm, show (255 : Nat) = 2 ^ 8 - 1 from rfl, Nat.and_two_pow_sub_one_eq_mod]
  omega

/-- The flash of FlashFuse, its fuse set. -/
def fused5 (n t : Int) : Fla := (Fla.new 5).fuse n t

theorem fused5_len (n t : Int) : (fused5 n t).b = blankAll := rfl

theorem fuse_all {n t : Int} {l : List UInt8} (h0 : 0 ≤ n) (hn : (l.length : Int) ≤ n) (hn2 : n < 250) :
    ∃ G, (fused5 n t).program 300 l = (G, 0) ∧ G.down = false ∧ G.steps = l.length ∧ (G.b.drop 300).take l.length = l ∧ (∀ G', G' = G.start → True) := by
  have hr : (fused5 n t).ready 300 l.length = 0 := by unfold Fla.ready; rw [if_neg (by simp [fused5, Fla.fuse, Fla.new]), if_neg (by omega)]
  have e : (fused5 n t).program 300 l = (fused5 n t).prog 300 l := by unfold Fla.program; rw [if_neg (by simp [hr])]; rfl
  have hp := Fla.prog_whole l (fused5 n t) 300 rfl (fun _ => hn) (by show n ≤ _; omega) (by show _ ≤ n; omega) (by show (0 : Int) ≤ _; omega) (by show _ ≤ (0 : Int); omega)
  refine ⟨_, by rw [e, hp], rfl, ?_, ?_, fun _ _ => trivial⟩
  · show wrap64 ((0 : Int) + l.length) = l.length
    rw [IntWalk.wrap64_in _ (by omega)]; omega
  · show ((andAt blankAll 300 l).drop 300).take l.length = l
    apply List.ext_getElem
    · rw [List.length_take, List.length_drop, andAt_len, blankAll_len]; omega
    · intro i h1 h2
      have hg := andAt_getD l blankAll 300 (300 + i) (by rw [blankAll_len]; omega)
      rw [if_pos (by omega), blank_getD _ (by omega), and_255, show 300 + i - 300 = i from by omega] at hg
      rw [List.getElem_take, List.getElem_drop]
      rw [List.getD, List.getElem?_eq_getElem (by rw [andAt_len, blankAll_len]; omega), List.getD, List.getElem?_eq_getElem h2] at hg
      exact hg

theorem fuse_torn {n : Nat} {t : Int} {l : List UInt8} (hn : n < l.length) (hl : l.length ≤ 200) :
    ∃ G, (fused5 n t).program 300 l = (G, 11) ∧ G.down = true ∧ G.steps = (n : Int) + 1 ∧ G.b.length = 3584 ∧
      (∀ i, i < l.length → G.b.getD (300 + i) 0 = if i < n then l.getD i 0 else if i = n then l.getD i 0 ||| UInt8.ofNat (t % 256).toNat else 255) ∧ (G.start.program 0 l).2 = 0 ∧ G.start.down = false := by
  have hr : (fused5 n t).ready 300 l.length = 0 := by unfold Fla.ready; rw [if_neg (by simp [fused5, Fla.fuse, Fla.new]), if_neg (by omega)]
  have e : (fused5 n t).program 300 l = (fused5 n t).prog 300 l := by unfold Fla.program; rw [if_neg (by simp [hr])]; rfl
  have hp := Fla.prog_torn l (fused5 n t) 300 n rfl (by show decide (0 ≤ (n : Int)) = true; simp) rfl hn (by omega)
  refine ⟨_, by rw [e, hp], rfl, ?_, ?_, ?_, ?_, rfl⟩
  · show wrap64 ((0 : Int) + (n + 1)) = n + 1
    rw [IntWalk.wrap64_in _ (by omega)]; omega
  · show (List.set _ _ _).length = 3584
    rw [List.length_set, andAt_len]; exact blankAll_len
  · intro i hi
    show (List.set _ _ _).getD (300 + i) 0 = _
    have hlen : (l.take n).length = n := by rw [List.length_take]; omega
    have hb : (fused5 n t).b = blankAll := rfl
    rw [getD_set, hb, andAt_len, blankAll_len, andAt_getD _ _ _ _ (by rw [hlen, blankAll_len]; omega), andAt_getD _ _ _ _ (by rw [hlen, blankAll_len]; omega), hlen]
    by_cases h1 : i < n
    · rw [if_neg (by omega), if_pos (by omega), if_pos h1, blank_getD _ (by omega), and_255, show 300 + i - 300 = i from by omega]
      rw [List.getD, List.getD, List.getElem?_take_of_lt h1]
    · by_cases h2 : i = n
      · subst h2
        rw [if_pos ⟨rfl, by omega⟩, if_neg (by omega), if_neg (by omega), if_pos rfl, blank_getD _ (by omega), and_255]
        rfl
      · rw [if_neg (by omega), if_neg (by omega), if_neg h1, if_neg h2, blank_getD _ (by omega)]
  · generalize hB : (andAt (fused5 n t).b 300 (l.take n)).set _ _ = B
    have hr2 : (Fla.start { fused5 n t with b := B, steps := wrap64 ((fused5 n t).steps + (n + 1)), left := -1, down := true }).ready 0 l.length = 0 := by
      unfold Fla.ready; rw [if_neg (by simp [Fla.start]), if_neg (by omega)]
    unfold Fla.program
    rw [if_neg (by simp [hr2]), Fla.prog_whole]
    · rfl
    · intro h
      have : (decide ((0 : Int) ≤ -1)) = true := by
        have := h; simp only [Fla.start, Bool.and_eq_true] at this; exact this.2
      simp at this
    · show (-1 : Int) ≤ _; omega
    · show _ ≤ (-1 : Int); omega
    · show wrap64 _ ≤ _; unfold wrap64; omega
    · show _ ≤ wrap64 _; unfold wrap64; omega

set_option maxRecDepth 100000 in
set_option maxHeartbeats 1000000 in
theorem flashFuse_walk {w : World} (n0 : Int) (_ : (Lit.int .i64 n0).wf = true) (t : Int) (_ : (Lit.int .i64 t).wf = true)
    (A : Option Addr) (c : Nat) (l : List UInt8) (hm : l.length ≤ maxLen) (hl : Rd w A l) (h0 : A = none → l = []) :
    Calls Try.prog 3 #[.int .i64 n0, .int .i64 t, .slice A l.length c] w (TrueKeep w) := by
  unfold maxLen at hm
  by_cases hlo : (l.length : Int) < 1
  · go_enter Try.func3, Try.ntmps3
    go_wp2_with fail
    refine awake16.mono ?_
    rintro e wa ⟨rfl, hKa⟩
    go_wp2_with fail
    go_ret
    exact ⟨rfl, hKa⟩
  by_cases hhi : 200 < (l.length : Int)
  · go_enter Try.func3, Try.ntmps3
    go_wp2_with fail
    refine awake16.mono ?_
    rintro e wa ⟨rfl, hKa⟩
    go_wp2_with fail
    go_ret
    exact ⟨rfl, hKa⟩
  obtain ⟨n, hn, e1, e2⟩ := umod n0 250 (by omega) (by omega)
  obtain ⟨x0, hx0, hx0b⟩ : ∃ x, A = some x ∧ x.block < w.heap.size := by
    cases A with
    | none => have := h0 rfl; subst this; simp at hlo
    | some x => exact ⟨x, rfl, hl.lt x rfl (by rintro rfl; simp at hlo)⟩
  subst hx0
  have hft : ∀ w1 p q, FlaAt w1 p q ((Fla.new 5).fuse n t) → FlaAt w1 p q (fused5 n t) := fun _ _ _ h => h
  by_cases hnl : (l.length : Int) ≤ n
  · obtain ⟨G, hG, hGd, hGs, hGb, -⟩ := fuse_all (n := n) (t := t) (l := l) (by omega) hnl (by omega)
    go_enter Try.func3, Try.ntmps3
    go_wp2_with fail
    refine (new_calls 5).mono ?_
    rintro e w1 ⟨p, q, rfl, hp, hq, hF, hK⟩
    go_wp2_with fail
    refine (fuse_calls hF n t).mono ?_
    rintro e w2 ⟨rfl, hF2, hK2⟩
    replace hF2 := hft _ _ _ hF2
    have hk2 : Keeps [p, q] w w2 := hK.nil.trans hK2
    have hl2 := hl.keeps hk2 (by rintro x hx _; simp at hx; subst hx; simp; omega)
    clear hF hK hK2
    go_wp2_with fail
    refine (program_calls hF2 300 (some x0) c l hl2 (by rintro x hx _; simp at hx; subst hx; simp; omega)).mono ?_
    rw [hG]
    rintro e w3 ⟨rfl, hF3, hK3⟩
    have hk3 := hk2.trans hK3
    clear hF2 hk2 hK3 hl2
    go_wp2_with fail
    refine (bytes_calls hF3).mono ?_
    rintro e w4 ⟨v, rfl, hv, hK4⟩
    have hF4 := hF3.keeps hK4 (by simp) (by simp)
    have hk4 := hk3.trans hK4.nil
    have hl4 := hl.keeps hk4 (by rintro x hx _; simp at hx; subst hx; simp; omega)
    have hlen := hF3.len
    obtain ⟨g, c4, r, rfl, hc4, hg1, hg2, hblk⟩ := hv.row (by intro h; rw [h] at hlen; simp at hlen)
    have hstr := str_run l.length c hl4 rfl h0
    have hstr2 := fun c => str_run (a := some ⟨g, 300, none⟩) l.length c (by rw [← hGb]; exact hblk.rdSub 300 l.length) rfl (by simp)
    have hc5 : 3584 ≤ c4 := by omega
    rw [hlen]
    clear hF3 hk3 hK4 hv hG hGb hlen hc4 hblk
    go_wp2_with fail
    refine (down_calls hF4).mono ?_
    rintro e w' ⟨rfl, rfl⟩
    rw [hGd]
    go_wp2_with fail
    refine (steps_calls hF4).mono ?_
    rintro e w' ⟨rfl, rfl⟩
    rw [hGs]
    go_wp2_with fail
    refine awake16.mono ?_
    rintro e wa ⟨rfl, hKa⟩
    have hka := hk4.trans hKa.nil
    go_wp2_with fail
    go_ret
    exact ⟨rfl, hka.mono (by simp [hp, hq])⟩
  · have hnL : n < l.length := by omega
    obtain ⟨G, hG, hGd, hGs, hlen, hGb, hGp, hGsd⟩ := fuse_torn (n := n) (t := t) (l := l) hnL (by omega)
    go_enter Try.func3, Try.ntmps3
    go_wp2_with fail
    refine (new_calls 5).mono ?_
    rintro e w1 ⟨p, q, rfl, hp, hq, hF, hK⟩
    go_wp2_with fail
    refine (fuse_calls hF n t).mono ?_
    rintro e w2 ⟨rfl, hF2, hK2⟩
    replace hF2 := hft _ _ _ hF2
    have hk2 : Keeps [p, q] w w2 := hK.nil.trans hK2
    have hl2 := hl.keeps hk2 (by rintro x hx _; simp at hx; subst hx; simp; omega)
    clear hF hK hK2
    go_wp2_with fail
    refine (program_calls hF2 300 (some x0) c l hl2 (by rintro x hx _; simp at hx; subst hx; simp; omega)).mono ?_
    rw [hG]
    rintro e w3 ⟨rfl, hF3, hK3⟩
    have hk3 := hk2.trans hK3
    clear hF2 hk2 hK3 hl2
    go_wp2_with fail
    refine (bytes_calls hF3).mono ?_
    rintro e w4 ⟨v, rfl, hv, hK4⟩
    have hF4 := hF3.keeps hK4 (by simp) (by simp)
    have hk4 := hk3.trans hK4.nil
    have hl4 := hl.keeps hk4 (by rintro x hx _; simp at hx; subst hx; simp; omega)
    obtain ⟨g, c4, r, rfl, hc4, hg1, hg2, hblk⟩ := hv.row (by intro h; rw [h] at hlen; simp at hlen)
    have hc5 : 3584 ≤ c4 := by omega
    have hcell : ∀ k, k < l.length → w4.cell? ⟨g, 300 + k, none⟩ = some (B8 (G.b.getD (300 + k) 0)) := fun k hk => hblk.byteAt (by omega)
    rw [hlen]
    have Hlen := Lib.hid hlen
    have Hcell := Lib.hid hcell
    have HGb := Lib.hid hGb
    clear hF3 hk3 hK4 hv hG hGb hlen hc4 hblk hcell
    go_wp2_with fail
    go_loop [74] (fun i => ∃ k : Nat, k ≤ l.length ∧ i = .int .i64 k) (fun i => l.length - (intOf i).toNat)
    case atStart => exact ⟨0, Nat.zero_le _, rfl⟩
    case round =>
      obtain ⟨k, hk, rfl⟩ := hrel
      by_cases hlt : k < l.length
      · have hcb := Hcell.out k hlt
        rw [HGb.out k hlt] at hcb
        obtain ⟨b0, o0, hx0, hc0⟩ := hl4 k (l.getD k 0) (by rw [List.getD, List.getElem?_eq_getElem hlt]; rfl)
        simp only [Option.some.injEq] at hx0
        subst hx0
        generalize l.getD k 0 = y at *
        obtain ⟨z, hz, hor⟩ : ∃ z : UInt8, y ||| UInt8.ofNat (t % 256).toNat = z ∧ ((z.toNat : Int) != bits .or .u8 (y.toNat : Int) (t % 256)) = false := by
          refine ⟨_, rfl, ?_⟩
          rw [show bits .or .u8 (y.toNat : Int) (t % 256) = ((y ||| UInt8.ofNat (t % 256).toNat).toNat : Int) from by rw [← or_byte, ← torn_byte]]
          simp
        rw [hz] at hcb
        clear hz
        by_cases h1 : k < n
        · rw [if_pos h1] at hcb
          go_wp2_with fail
          go_round
          case rel => exact ⟨k + 1, by omega, by go_num⟩
          case measure => simp [intOf]; omega
        · rw [if_neg h1] at hcb
          by_cases h2 : k = n
          · rw [if_pos h2] at hcb
            have hkn : ((k : Int) == (n : Int)) = true := by simp [h2]
            have h3 : n ≤ k := by omega
            clear h2
            go_wp2_with fail
            go_round
            case rel => exact ⟨k + 1, by omega, by go_num⟩
            case measure => simp [intOf]; omega
          · rw [if_neg h2] at hcb
            have h3 : n < k := by omega
            go_wp2_with fail
            go_round
            case rel => exact ⟨k + 1, by omega, by go_num⟩
            case measure => simp [intOf]; omega
      · obtain rfl : k = l.length := by omega
        clear hl
        go_wp2_with fail
        refine (start_calls hF4).mono ?_
        rintro e w5 ⟨rfl, hF5, hK5⟩
        have hl5 := hl4.keeps hK5 (by rintro x hx _; simp at hx; subst hx; simp; omega)
        have hk5 := hk4.trans hK5
        have hst : G.start.steps = (n : Int) + 1 := hGs
        clear hF4 hl4 hk4 hK5
        go_wp2_with fail
        refine (steps_calls hF5).mono ?_
        rintro e w' ⟨rfl, rfl⟩
        rw [hst]
        go_wp2_with fail
        refine (program_calls hF5 0 (some x0) c l hl5 (by rintro x hx _; simp at hx; subst hx; simp; omega)).mono ?_
        rw [hGp]
        rintro e w6 ⟨rfl, hF6, hK6⟩
        have hk6 := hk5.trans hK6
        go_wp2_with fail
        refine awake16.mono ?_
        rintro e wa ⟨rfl, hKa⟩
        have hka := hk6.trans hKa.nil
        go_wp2_with fail
        go_ret
        exact ⟨rfl, hka.mono (by simp [hp, hq])⟩

end Go.Proofs.Ythjojkkjdaoocaa
