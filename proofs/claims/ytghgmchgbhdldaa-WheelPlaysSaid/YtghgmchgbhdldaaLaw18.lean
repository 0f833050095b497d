/-
  Law18: a wheel that every program must know.
-/
import Derived.Test.YtghgmchgbhdldaaWhT2
import Derived.Test.YtghgmchgbhdldaaWhAd2
import Derived.Test.YtghgmchgbhdldaaWhC
import Derived.Test.YtghgmchgbhdldaaFlashN
import Derived.Test.YtghgmchgbhdldaaMakeB
set_option linter.unusedVariables false
namespace Go.Proofs.Ytghgmchgbhdldaa
open Go.RowKit
attribute [local go_sem ↓] Go.wp_at_zero Go.wp_at_succ

theorem pl_blankAll {s k : Nat} (hs : s ≤ 16) (hk : k < 8 * places s) : pl blankAll s k = blankW s := by
  have hp := places_pos hs
  have hk8 : k / places s < 8 := (Nat.div_lt_iff_lt_mul hp).2 hk
  rw [pl_eq hs, secOf_blank (by omega), plOf_blank (Nat.mod_lt _ hp)]

/-- Nothing was written yet. -/
theorem wlog_blank (gen : UInt32) {s : Nat} (h1 : 1 ≤ s) (hs : s ≤ 16) (mk : Prop) : WLog blankAll gen s [] mk := by
  have hp := places_pos hs
  refine ⟨blankAll_len, h1, hs, by simp, by simp, by simp, by simp, fun c hc _ => ?_⟩
  rw [pl_blankAll hs (Nat.mul_lt_mul_of_pos_right hc hp)]
  refine ⟨recOf_blank, fun _ => ?_⟩
  unfold blankW
  rw [replicate_getD _ _ (by unfold wide; omega)]
  decide

/-- The first record of a new flash. -/
theorem first_add (wear : Int) (hw : 1 ≤ wear) (gen : UInt32) {s : Nat} (h1 : 1 ≤ s) (hs : s ≤ 16) (id : UInt32) (d : List UInt8) (hd : d.length = s) :
    ∃ G, (logWh gen s []).add (Fla.new wear) id d = (G, logWh gen s [some (id, d)], 0) ∧ Good G ∧ G.down = false ∧ WLog G.b gen s [some (id, d)] True := by
  have hp := places_pos hs
  obtain ⟨G, V, e, ha, _, hc⟩ := add_log (new_good wear) (wlog_blank gen h1 hs True) (by simp; omega) (by
    show (List.replicate 14 (0 : Int)).getD (6 + 0 / places s) 0 < max 1 (min wear 10000)
    rw [Nat.zero_div]
    show (0 : Int) < _
    omega) (fun h => trivial) id d hd
  rcases hc with ⟨rfl, hg, rfl, hl⟩ | ⟨_, _, hf, _⟩
  · exact ⟨G, ha, hg, hg.down, hl⟩
  · cases hf

theorem new_open (wear : Int) (gen : UInt32) {s : Nat} (h1 : 1 ≤ s) (hs : s ≤ 16) : (Fla.new wear).openWh gen s = logWh gen s [] := (wlog_blank (mk := True) gen h1 hs).open rfl

theorem open_log {w : World} {p q : Nat} {F : Fla} (h : FlaAt w p q F) (hd : F.down = false) {gen : UInt32} {s : Nat} {L : List (Option Rec)} {mk : Prop} (hL : WLog F.b gen s L mk) :
    Calls Try.prog 20 #[.pointer (some ⟨p, 0, none⟩), B32 gen, .int .i64 s] w fun e w' =>
      ∃ u g, e = .returned (.tuple #[.pointer (some ⟨u, 0, none⟩), .int .i64 0]) ∧ w.heap.size ≤ u ∧ WhAt w' p q u g F (logWh gen s L) ∧ Keeps [] w w' := by
  have := open_ok h hd gen s hL.s1 hL.s16
  unfold OpenPost at this
  rw [hL.open hd] at this
  exact this

theorem room_log (gen : UInt32) (s : Nat) (L : List (Option Rec)) : (logWh gen s L).room = 8 * (places s : Int) - L.length := rfl

set_option maxRecDepth 100000 in
set_option maxHeartbeats 2000000 in
theorem awake18 {w : World} : Calls Try.prog 24 #[] w (TrueKeep w) := by
  obtain ⟨G, ha, hG, hd, hL⟩ := first_add 10 (by omega) 1 (s := 16) (by omega) (by omega) 7 (List.replicate 16 0) (by simp)
  have hL0 := wlog_blank 1 (s := 16) (by omega) (by omega) True
  have hr : (logWh 1 16 [some ((7 : UInt32), List.replicate 16 (0 : UInt8))]).room = 63 := by rw [room_log]; decide
  have hl : (logWh 1 16 [some ((7 : UInt32), List.replicate 16 (0 : UInt8))]).l = [((7 : UInt32), List.replicate 16 (0 : UInt8))] := rfl
  have hz : (List.replicate 16 (0 : UInt8)).length = 16 := by simp
  generalize hzz : List.replicate 16 (0 : UInt8) = z at *
  have HA := Lib.hid ha
  have HL := Lib.hid hL
  have HR := Lib.hid hr
  have HLL := Lib.hid hl
  have HZ := Lib.hid hz
  have HZZ := Lib.hid hzz
  have HL0 := Lib.hid hL0
  clear ha hL hr hl hz hzz hL0
  have hmk : ∀ w, (Instr.makeSlice 23 (.int .i64 16) (.int .i64 16)).run Try.prog w = .ok (.slice (some ⟨w.heap.size, 0, none⟩) 16 16) (w.alloc (.cells (zeros 16) 5)) := make_u8 16 16 (by omega) (by omega)
  go_enter Try.func24, Try.ntmps24
  go_wp2_with fail
  refine (new_calls 10).mono ?_
  rintro e w1 ⟨p, q, rfl, hp, hq, hF, hK⟩
  go_wp2_with fail
  refine (open_log hF rfl HL0.out).mono ?_
  rintro e w2 ⟨u, g, rfl, hu, hW, hk2⟩
  have hsz := hK.size
  have hup := hW.pu
  have hlu : ∀ y, g = some y → u < y := by
    obtain ⟨v, hv, _, hR⟩ := hW.own
    obtain ⟨av, cv, rfl, _, _, _, hvo⟩ := hR.form
    intro y hy
    have := hvo y (by rw [hv, hy])
    omega
  have hug : ∀ y, g = some y → y < w2.heap.size := by
    obtain ⟨v, hv, _, hR⟩ := hW.own
    obtain ⟨av, cv, rfl, _, _, _, hvo⟩ := hR.form
    intro y hy
    have := hvo y (by rw [hv, hy])
    omega
  have huq := hW.qu
  have hus : u < w2.heap.size := by
    obtain ⟨v, hv, hB, hR⟩ := hW.own
    exact hB.lt
  go_wp2_with fail
  have hk3 : Keeps [] w2 (w2.alloc (.cells (zeros 16) 5)) := (Keeps.refl [] w2).alloc _
  have hAd := add_calls (hW.keeps hk3 (by simp)) 7 (some ⟨w2.heap.size, 0, none⟩) 16 z (by rw [← HZZ.out]; exact zeros_rd w2 16) (by simp) (by rw [HZ.out]; omega) (by omega) (by
    intro x hx _
    simp only [Option.some.injEq] at hx
    subst hx
    refine ⟨by show w2.heap.size ≠ p; omega, by show w2.heap.size ≠ q; omega, by show w2.heap.size ≠ u; omega, fun hg => ?_⟩
    have : w2.heap.size < w2.heap.size := hug _ hg
    omega)
  rw [HZ.out, HA.out] at hAd
  refine hAd.mono ?_
  rintro e w4 ⟨rfl, g', hW4, hg', hk4⟩
  clear hAd
  dsimp only at hW4
  go_wp2_with fail
  refine (open_log hW4.fla hd HL.out).mono ?_
  rintro e w5 ⟨u2, g2, rfl, hu2, hX, hk5⟩
  have hW5 := hW4.keeps hk5 (by simp)
  have hRc := fun w h => records_calls (w := w) (p := p) (q := q) (u := u2) (gg := g2) (F := G) (V := logWh 1 16 [some (7, z)]) h
  rw [HLL.out] at hRc
  have hRm := fun (w : World) (u : Nat) (g : Option Nat) h => room_calls (w := w) (p := p) (q := q) (u := u) (g := g) (F := G) (V := logWh 1 16 [some (7, z)]) h
  rw [HR.out] at hRm
  go_wp2_with fail
  refine (hRc _ hX).mono ?_
  rintro e w6 ⟨v6, rfl, hv6, hk6⟩
  obtain ⟨a6, c6, rfl, _⟩ := hv6.form
  go_wp2_with fail
  refine (hRm _ _ _ (hX.keeps hk6 (by simp))).mono ?_
  rintro e w7 ⟨rfl, n7, hw7⟩
  have hk7 : Keeps [] w6 w7 := hw7 ▸ (Keeps.refl [] w6).drewN n7
  clear hw7
  go_wp2_with fail
  refine (hRm _ _ _ (hW5.keeps (hk6.trans hk7) (by simp))).mono ?_
  rintro e w8 ⟨rfl, n8, hw8⟩
  have hk8 : Keeps [] w7 w8 := hw8 ▸ (Keeps.refl [] w7).drewN n8
  clear hw8
  go_wp2_with fail
  go_ret
  have k1 := (hK.trans hk2).trans hk3
  have k2 := hk5.trans (hk6.trans (hk7.trans hk8))
  have hsz2 := hk2.size
  refine ⟨rfl, (k1.trans' (T := []) hk4 (by simp) ?_).trans k2⟩
  intro x hx
  right
  simp only [List.mem_cons] at hx
  rcases hx with rfl | rfl | rfl | hx
  · exact hp
  · exact hq
  · omega
  · have := hlu x (by simpa using hx)
    omega

end Go.Proofs.Ytghgmchgbhdldaa
