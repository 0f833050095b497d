/-
  FlashR: the walks of Read, Bytes, Erase.
-/
import Derived.Test.YtghgmchgbhdldaaFlashP
import Derived.Test.YtghgmchgbhdldaaBytes
namespace Go.Proofs.Ytghgmchgbhdldaa
open Go.RowKit

def ReadPost (w : World) (r : List UInt8 × Int) (e : Ending) (w' : World) : Prop := ∃ v, e = .returned (.tuple #[v, .int .i64 r.2]) ∧ Own w' w.heap.size v r.1 ∧ Keeps [] w w'

theorem FlaAt.rd {w : World} {p q : Nat} {F : Fla} (h : FlaAt w p q F) (o n : Nat) : Rd w (some ⟨q, o, none⟩) ((F.b.drop o).take n) := by
  obtain ⟨r, hr⟩ := h.bytes
  refine Rd.blk hr o _ ?_
  intro i u hu
  rw [List.getElem?_take] at hu
  split at hu
  · rw [List.getElem?_drop] at hu
    rw [List.getElem?_append_left (by rw [List.length_map]; exact (List.getElem?_eq_some_iff.1 hu).1), List.getElem?_map, hu]
    rfl
  · simp at hu

set_option maxRecDepth 100000 in
set_option maxHeartbeats 400000 in
theorem read_calls {w : World} {p q : Nat} {F : Fla} (h : FlaAt w p q F) (at_ n : Int) :
    Calls Try.prog 54 #[.pointer (some ⟨p, 0, none⟩), .int .i64 at_, .int .i64 n] w (ReadPost w (F.read at_ n)) := by
  by_cases hr : F.ready at_ n = 0
  · obtain ⟨_, h1, h2, h3, h4⟩ := Fla.ready_zero hr
    obtain ⟨a, rfl⟩ : ∃ a : Nat, at_ = a := ⟨at_.toNat, by omega⟩
    obtain ⟨m, rfl⟩ : ∃ m : Nat, n = m := ⟨n.toNat, by omega⟩
    have e : F.read a m = ((F.b.drop a).take m, 0) := by unfold Fla.read; rw [if_neg (by simp [hr])]; rfl
    rw [e]
    have c0 := h.c0
    have hc := ready_calls h a m
    have hlen : ((F.b.drop a).take m).length = m := by rw [List.length_take, List.length_drop, h.len]; omega
    rw [hr] at hc
    have hcl : ∀ A c, (A = some ⟨q, a, none⟩ ∨ (A = some ⟨q, 0, none⟩ ∧ a = 3584)) → Calls Try.prog 66 #[.slice A m c] w (ClonePost w ((F.b.drop a).take m)) := by
      intro A c hA
      refine clone_calls A m c _ ?_ hlen (by omega) (by rintro rfl; rcases hA with hA | ⟨hA, _⟩ <;> simp at hA)
      rcases hA with rfl | ⟨rfl, rfl⟩
      · exact h.rd a m
      · have : (F.b.drop 3584).take m = [] := by rw [List.drop_of_length_le (by rw [h.len]; omega)]; simp
        rw [this]; exact Rd.nil _ _
    clear hr e hlen h3
    by_cases ha : a = 3584
    · subst ha
      obtain rfl : m = 0 := by omega
      go_enter Try.func54, Try.ntmps54
      go_wp2_with (first | (go_at_call 97; refine hc.mono ?_; rintro e w' ⟨rfl, rfl⟩) | (go_at_call 66; refine (hcl _ _ (by simp)).mono ?_; rintro e w1 ⟨v, rfl, hv, hk⟩))
      go_ret2
      exact ⟨v, rfl, hv, hk⟩
    · go_enter Try.func54, Try.ntmps54
      go_wp2_with (first | (go_at_call 97; refine hc.mono ?_; rintro e w' ⟨rfl, rfl⟩) | (go_at_call 66; refine (hcl _ _ (by simp)).mono ?_; rintro e w1 ⟨v, rfl, hv, hk⟩))
      go_ret2
      exact ⟨v, rfl, hv, hk⟩
  · have e : F.read at_ n = ([], F.ready at_ n) := by unfold Fla.read; rw [if_pos hr]
    rw [e]
    have hc := ready_calls h at_ n
    generalize F.ready at_ n = z at *
    have hz : (z == 0) = false := by simpa using hr
    clear e hr
    go_enter Try.func54, Try.ntmps54
    go_wp2_with (go_at_call 97; refine hc.mono ?_; rintro e w' ⟨rfl, rfl⟩)
    go_ret2
    exact ⟨_, rfl, Own.nil _ _, Keeps.refl _ _⟩

set_option maxRecDepth 100000 in
set_option maxHeartbeats 400000 in
theorem bytes_calls {w : World} {p q : Nat} {F : Fla} (h : FlaAt w p q F) :
    Calls Try.prog 37 #[.pointer (some ⟨p, 0, none⟩)] w (ClonePost w F.b) := by
  have c0 := h.c0
  have hr : Rd w (some ⟨q, 0, none⟩) F.b := by
    have := h.rd 0 3584
    rwa [List.drop_zero, List.take_of_length_le (by rw [h.len]; omega)] at this
  have hcl := clone_calls (some ⟨q, 0, none⟩) 3584 3584 F.b hr h.len (by rw [h.len]; omega) (by simp)
  clear h hr
  go_enter Try.func37, Try.ntmps37
  go_wp2_with (go_at_call 66; refine hcl.mono ?_; rintro e w1 ⟨v, rfl, hv, hk⟩)
  go_ret
  exact ⟨v, rfl, hv, hk⟩

end Go.Proofs.Ytghgmchgbhdldaa
