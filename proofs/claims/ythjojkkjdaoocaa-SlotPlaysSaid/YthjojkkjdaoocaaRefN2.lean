/-
  RefN2: the walk of the reference's NewFlash.
-/
import Derived.Test.YthjojkkjdaoocaaRefN
import Derived.Test.YthjojkkjdaoocaaMakeB
import Derived.Laws.MakeOwn
namespace Go.Proofs.Ythjojkkjdaoocaa
open Go.RowKit

/-- Bytes made: all zero. -/
def RNewPost (w : World) (wear : Int) (e : Ending) (w' : World) : Prop :=
  ∃ p q, e = .returned (.pointer (some ⟨p, 0, none⟩)) ∧ w.heap.size ≤ p ∧ w.heap.size ≤ q ∧ RfAt w' p q (Fla.new wear) ∧ Keeps [] w w'

def rstart (wear : Int) (k : Nat) : Fla := { Fla.new wear with b := List.replicate k 255 ++ List.replicate (3584 - k) 0 }

theorem rstart_succ (wear : Int) (k : Nat) (h : k < 3584) : (rstart wear k).setB k 255 = rstart wear (k + 1) := by
  unfold rstart Fla.setB
  simp only [Fla.mk.injEq, and_true]
  rw [List.set_append_right _ _ (by simp), List.length_replicate, Nat.sub_self, show 3584 - k = (3584 - (k + 1)) + 1 from by omega, List.replicate_succ, List.set_cons_zero, List.replicate_succ', List.append_assoc]
  rfl

theorem rstart_last (wear : Int) : rstart wear 3584 = Fla.new wear := by
  show ({ Fla.new wear with b := List.replicate 3584 255 ++ List.replicate (3584 - 3584) 0 } : Fla) = _
  rw [Nat.sub_self, List.replicate_zero, List.append_nil]
  rfl

def rzero : List Value := [.int .i64 0, .int .i64 0, .int .i64 0, .int .i64 0, .int .i64 0, .int .i64 0, .int .i64 0, .int .i64 0, .int .i64 0, .int .i64 0, .int .i64 0, .int .i64 0, .int .i64 0, .int .i64 0, .bool false, .int .i64 0, .bool false, .int .i64 0, .int .i64 0]

theorem rstart_mk {w : World} {wear x : Int} (hx : x = max 1 (min wear 10000)) :
    RfZ ((w.alloc (.cells (zeros 3584) 5)).alloc (.cells ((.slice (some ⟨w.heap.size, 0, none⟩) 3584 3584) :: .int .i64 x :: rzero).toArray 47)) (w.heap.size + 1) w.heap.size (rstart wear 0) 0 := by
  refine ⟨rfl, by unfold rstart; rw [List.length_append, List.length_replicate, List.length_replicate], ?_, ⟨[], ?_⟩⟩
  · subst hx
    have := Blk.new (w.alloc (.cells (zeros 3584) 5)) 47 ((rstart wear 0).rcells w.heap.size 0)
    rw [World.size_alloc] at this
    exact this
  · have := (Blk.newA w 5 (zeros 3584)).alloc (.cells ((.slice (some ⟨w.heap.size, 0, none⟩) 3584 3584) :: .int .i64 x :: rzero).toArray 47)
    have e : (rstart wear 0).b.map B8 = (zeros 3584).toList := by unfold rstart zeros; simp only [List.replicate_zero, List.nil_append, Nat.sub_zero]
    rw [List.append_nil, e]
    exact this

set_option maxRecDepth 100000 in
set_option maxHeartbeats 1000000 in
theorem rnew_calls {w : World} (wear : Int) :
    Calls Try.prog 34 #[.int .i64 wear] w (RNewPost w wear) := by
  have hmk : ∀ w, (Instr.makeSlice 22 (.int .i64 3584) (.int .i64 3584)).run Try.prog w = .ok (.slice (some ⟨w.heap.size, 0, none⟩) 3584 3584) (w.alloc (.cells (zeros 3584) 5)) := make_u8 3584 3584 (by omega) (by omega)
  have hS := fun x hx => rstart_mk (w := w) (wear := wear) (x := x) hx
  unfold rzero at hS
  go_enter Try.func34, Try.ntmps34
  go_wp2_with fail
  · replace hS := hS 10000 (by omega)
    have hKS := ((Keeps.refl [] w).alloc (.cells (zeros 3584) 5)).alloc (.cells (((.slice (some ⟨w.heap.size, 0, none⟩) 3584 3584) :: .int .i64 10000 :: rzero).toArray) 47)
    unfold rzero at hKS
    go_loopw [16] (fun i wr => ∃ k : Nat, k ≤ 3584 ∧ i = .int .i64 k ∧ RfZ wr (w.heap.size + 1) w.heap.size (rstart wear k) 0 ∧ Keeps [] w wr) (fun i _ => 3584 - (intOf i).toNat)
    case atStart => exact ⟨0, Nat.zero_le _, rfl, hS, hKS⟩
    case round =>
      obtain ⟨k, hk, rfl, hF, hK⟩ := hrel
      clear hS hKS
      have c0 := hF.c0
      by_cases hlt : k < 3584
      · have cb := hF.byte (i := k) hlt
        have fb := hF.frzq k
        go_wp2_with fail
        go_roundw
        case rel => exact ⟨k + 1, by omega, by go_num, by rw [← rstart_succ wear k hlt]; exact hF.setByte hlt 255, hK.setCell (.inr (Nat.le_refl _)) _⟩
        case measure => simp [intOf]; omega
      · have hkl : k = 3584 := by omega
        subst hkl
        rw [rstart_last] at hF
        go_wp2_with fail
        go_ret
        exact ⟨_, _, rfl, by omega, by omega, ⟨0, by simp [Fla.new], hF⟩, hK⟩
  · replace hS := hS wear (by omega)
    have hKS := ((Keeps.refl [] w).alloc (.cells (zeros 3584) 5)).alloc (.cells (((.slice (some ⟨w.heap.size, 0, none⟩) 3584 3584) :: .int .i64 wear :: rzero).toArray) 47)
    unfold rzero at hKS
    go_loopw [16] (fun i wr => ∃ k : Nat, k ≤ 3584 ∧ i = .int .i64 k ∧ RfZ wr (w.heap.size + 1) w.heap.size (rstart wear k) 0 ∧ Keeps [] w wr) (fun i _ => 3584 - (intOf i).toNat)
    case atStart => exact ⟨0, Nat.zero_le _, rfl, hS, hKS⟩
    case round =>
      obtain ⟨k, hk, rfl, hF, hK⟩ := hrel
      clear hS hKS
      have c0 := hF.c0
      by_cases hlt : k < 3584
      · have cb := hF.byte (i := k) hlt
        have fb := hF.frzq k
        go_wp2_with fail
        go_roundw
        case rel => exact ⟨k + 1, by omega, by go_num, by rw [← rstart_succ wear k hlt]; exact hF.setByte hlt 255, hK.setCell (.inr (Nat.le_refl _)) _⟩
        case measure => simp [intOf]; omega
      · have hkl : k = 3584 := by omega
        subst hkl
        rw [rstart_last] at hF
        go_wp2_with fail
        go_ret
        exact ⟨_, _, rfl, by omega, by omega, ⟨0, by simp [Fla.new], hF⟩, hK⟩
  · replace hS := hS 1 (by omega)
    have hKS := ((Keeps.refl [] w).alloc (.cells (zeros 3584) 5)).alloc (.cells (((.slice (some ⟨w.heap.size, 0, none⟩) 3584 3584) :: .int .i64 1 :: rzero).toArray) 47)
    unfold rzero at hKS
    go_loopw [16] (fun i wr => ∃ k : Nat, k ≤ 3584 ∧ i = .int .i64 k ∧ RfZ wr (w.heap.size + 1) w.heap.size (rstart wear k) 0 ∧ Keeps [] w wr) (fun i _ => 3584 - (intOf i).toNat)
    case atStart => exact ⟨0, Nat.zero_le _, rfl, hS, hKS⟩
    case round =>
      obtain ⟨k, hk, rfl, hF, hK⟩ := hrel
      clear hS hKS
      have c0 := hF.c0
      by_cases hlt : k < 3584
      · have cb := hF.byte (i := k) hlt
        have fb := hF.frzq k
        go_wp2_with fail
        go_roundw
        case rel => exact ⟨k + 1, by omega, by go_num, by rw [← rstart_succ wear k hlt]; exact hF.setByte hlt 255, hK.setCell (.inr (Nat.le_refl _)) _⟩
        case measure => simp [intOf]; omega
      · have hkl : k = 3584 := by omega
        subst hkl
        rw [rstart_last] at hF
        go_wp2_with fail
        go_ret
        exact ⟨_, _, rfl, by omega, by omega, ⟨0, by simp [Fla.new], hF⟩, hK⟩

end Go.Proofs.Ythjojkkjdaoocaa
