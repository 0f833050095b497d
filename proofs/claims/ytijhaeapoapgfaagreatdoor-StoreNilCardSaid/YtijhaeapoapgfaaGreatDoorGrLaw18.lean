/-
  GrLaw18: the texts Law18, one behind another.
-/
import Derived.Test.YtijhaeapoapgfaaGreatDoorGrWhT2
import Derived.Test.YtijhaeapoapgfaaGreatDoorGrWhAd2
import Derived.Test.YtijhaeapoapgfaaGreatDoorGrWhO
import Derived.Test.YtijhaeapoapgfaaGreatDoorGrFlashN
import Derived.Test.YtijhaeapoapgfaaGreatDoorGrBytes
set_option linter.unusedVariables false
namespace Go.Proofs.YtijhaeapoapgfaaGreatDoor
open Go.RowKit
attribute [local go_sem ↓] Go.wp_at_zero Go.wp_at_succ

theorem pl_blankAll {s k : Nat} (hs : s ≤ 16) (hk : k < 8 * places s) : pl blankAll s k = blankW s := by
  have hp := places_pos hs
  have hk8 : k / places s < 8 := (Nat.div_lt_iff_lt_mul hp).2 hk
  rw [pl_eq hs, secOf_blank (by omega), plOf_blank (Nat.mod_lt _ hp)]

/-- Nothing was written yet. -/
theorem wlog_blank (gen : UInt32) {s : Nat} (h1 : 1 ≤ s) (hs : s ≤ 16) (mk : Prop) : WLog blankAll gen s [] mk := by
  have hp := places_pos hs
  refine ⟨blankAll_len, h1, hs, by simp, by simp, by simp, by simp, fun c hc _ => ?_⟩
  rw [pl_blankAll hs (Nat.mul_lt_mul_of_pos_right hc hp)]
  refine ⟨recOf_blank, fun _ => ?_⟩
  unfold blankW
  rw [replicate_getD _ _ (by unfold wide; omega)]
  decide

/-- The first record of a new flash. -/
theorem first_add (wear : Int) (hw : 1 ≤ wear) (gen : UInt32) {s : Nat} (h1 : 1 ≤ s) (hs : s ≤ 16) (id : UInt32) (d : List UInt8) (hd : d.length = s) :
    ∃ G, (logWh gen s []).add (Fla.new wear) id d = (G, logWh gen s [some (id, d)], 0) ∧ Good G ∧ G.down = false ∧ WLog G.b gen s [some (id, d)] True := by
  have hp := places_pos hs
  obtain ⟨G, V, e, ha, _, hc⟩ := add_log (new_good wear) (wlog_blank gen h1 hs True) (by simp; omega) (by
    show (List.replicate 14 (0 : Int)).getD (6 + 0 / places s) 0 < max 1 (min wear 10000)
    rw [Nat.zero_div]
    show (0 : Int) < _
    omega) (fun h => trivial) id d hd
  rcases hc with ⟨rfl, hg, rfl, hl⟩ | ⟨_, _, hf, _⟩
  · exact ⟨G, ha, hg, hg.down, hl⟩
  · cases hf

theorem new_open (wear : Int) (gen : UInt32) {s : Nat} (h1 : 1 ≤ s) (hs : s ≤ 16) : (Fla.new wear).openWh gen s = logWh gen s [] := (wlog_blank (mk := True) gen h1 hs).open rfl

theorem open_log {w : World} {p q : Nat} {F : Fla} (h : FlaAt w p q F) (hd : F.down = false) {gen : UInt32} {s : Nat} {L : List (Option Rec)} {mk : Prop} (hL : WLog F.b gen s L mk) :
    Calls Tryz.prog 64 #[.pointer (some ⟨p, 0, none⟩), B32 gen, .int .i64 s] w fun e w' =>
      ∃ u g, e = .returned (.tuple #[.pointer (some ⟨u, 0, none⟩), .int .i64 0]) ∧ w.heap.size ≤ u ∧ WhAt w' p q u g F (logWh gen s L) ∧ Keeps [] w w' := by
  have := open_ok h hd gen s hL.s1 hL.s16
  unfold OpenPost at this
  rw [hL.open hd] at this
  exact this

theorem room_log (gen : UInt32) (s : Nat) (L : List (Option Rec)) : (logWh gen s L).room = 8 * (places s : Int) - L.length := rfl


end Go.Proofs.YtijhaeapoapgfaaGreatDoor
