/-
  GrFlashN: the texts FlashN, one behind another.
-/
import Derived.Test.YtijhaeapoapgfaaGreatDoorGrFlashB
import Derived.Lib.MakeNoZero
namespace Go.Proofs.YtijhaeapoapgfaaGreatDoor
open Go.RowKit

theorem mz_run (w : World) (n : Nat) (hn : n ≤ 281474976710656) :
    ∃ cs : Array Value, (callFunc 119 #[.int .i64 n]).run Tryz.prog w = .ok (.value (.slice (some ⟨w.heap.size, 0, none⟩) n cs.size)) (w.drew.drew.alloc (.cells cs 5)) ∧ n ≤ cs.size ∧ (n ≤ maxLen → cs.size ≤ maxLen) := by
  obtain ⟨cs, h1, h2, h3⟩ := Lib.run_makeNoZero (P := Tryz.prog) w #[3] 22 5 Tryz.underlying22 n hn
  refine ⟨cs, ?_, h2, h3⟩
  rw [run_callFunc_extern (P := Tryz.prog) Tryz.func119 (by kernel_rfl) (by kernel_rfl) (by kernel_rfl) (e := Extern.BytealgMakeNoZero.makeNoZero #[3] #[22]) (by kernel_rfl), h1]
  rfl

def RepPost (w : World) (e : Ending) (w' : World) : Prop :=
  ∃ q r, e = .returned (.slice (some ⟨q, 0, none⟩) 3584 3584) ∧ w.heap.size ≤ q ∧ Blk w' q 5 (List.map B8 blankAll ++ r) ∧ Keeps [] w w'

set_option maxRecDepth 100000 in
set_option maxHeartbeats 1000000 in
theorem mul_calls {w : World} : Calls Tryz.prog 118 #[.int .u64 1, .int .u64 3584] w fun e w' => e = .returned (.tuple #[.int .u64 0, .int .u64 3584]) ∧ w = w' := by
  go_enter Tryz.func118, Tryz.ntmps118
  go_wp2
  go_ret2
  exact ⟨by rfl, rfl⟩

set_option maxRecDepth 100000 in
set_option maxHeartbeats 1000000 in
theorem repeat_calls {w : World} {g : Nat} (hg : w.cell? ⟨g, 0, none⟩ = some (B8 255)) :
    Calls Tryz.prog 71 #[.slice (some ⟨g, 0, none⟩) 1 1, .int .i64 3584] w (RepPost w) := by
  obtain ⟨cs, hmz0, hcs, hcm⟩ := mz_run w 3584 (by omega)
  have hmz : (callFunc 119 #[.int .i64 3584]).run Tryz.prog w = .ok (.value (.slice (some ⟨w.heap.size, 0, none⟩) 3584 cs.size)) (w.drew.drew.alloc (.cells cs 5)) := hmz0
  clear hmz0
  have hgl := World.block_lt_of_cell? w _ hg
  go_enter Tryz.func71, Tryz.ntmps71
  have hsrc : ((w.alloc (.cells cs 5)).drew.drew).cell? ⟨g, 0, none⟩ = some (B8 255) := (World.cell?_alloc_lt w _ ⟨g, 0, none⟩ hgl).trans hg
  obtain ⟨w1, hcp, hb1, hk1⟩ := copy_run (w := (w.alloc (.cells cs 5)).drew.drew) (g := w.heap.size) (o := 0) (dLen := 3584) (dCap := 3584) (x := ⟨g, 0, none⟩) (sLen := 1) (sCap := 1) (cur := cs.toList) (Blk.newA w 5 cs) [255] (by decide)
    (by intro j v hv; match j, hv with | 0, hv => (simp at hv; subst hv; rw [Addr.add_lit]; exact hsrc)) (by simp; omega)
  have hkw : Keeps [] w w1 := (((Keeps.refl [] w).alloc _).drew.drew).trans' hk1 (by simp) (by simp)
  have hcp' : (Builtin.copy_ #[22, 22] 3 #[.slice (some ⟨w.heap.size, 0, none⟩) 3584 3584, .slice (some ⟨g, 0, none⟩) 1 1]).run Tryz.prog ((w.alloc (.cells cs 5)).drew.drew) = .ok (.int .i64 1) w1 := hcp
  clear hcp hsrc hg
  go_wp2_with (go_at_call 118; refine mul_calls.mono ?_; rintro e w' ⟨rfl, rfl⟩)
  clear hcp' hmz
  go_loopw [10] (fun v wr => ∃ k : Nat, 1 ≤ k ∧ k ≤ 3584 ∧ v = .int .i64 k ∧ (∃ r, k + r.length = cs.size ∧ Blk wr w.heap.size 5 (List.replicate k (B8 255) ++ r)) ∧ Keeps [] w wr) (fun v _ => 3584 - (intOf v).toNat)
  case atStart =>
    refine ⟨1, by omega, by omega, rfl, ⟨cs.toList.drop 1, by simp; omega, ?_⟩, hkw⟩
    simpa using hb1
  case round =>
    obtain ⟨k, hk1, hk2, rfl, ⟨r, hr, hblk⟩, hBr⟩ := hrel
    by_cases hlt : k < 3584
    · obtain ⟨m, hm⟩ : ∃ m, m = min k (3584 - k) := ⟨_, rfl⟩
      obtain ⟨W', hcp, hb, hkc⟩ := copy_run (w := wr.drew) (g := w.heap.size) (o := k) (dLen := 3584 - k) (dCap := 3584 - k) (x := ⟨w.heap.size, 0, none⟩) (sLen := k) (sCap := 3584) hblk.drew (List.replicate m 255)
        (by rw [List.length_replicate]; exact hm)
        (by
          intro j v hv
          rw [Addr.add_lit]
          have hj : j < m := by
            have := (List.getElem?_eq_some_iff.1 hv).1
            simpa using this
          refine hblk.drew.cell' ?_
          rw [Nat.zero_add, List.getElem?_append_left (by simp; omega)]
          simp only [List.map_replicate, List.getElem?_replicate] at hv ⊢
          rw [if_pos hj] at hv
          rw [if_pos (by omega)]
          exact hv)
        (by simp; omega)
      rw [List.length_replicate] at hcp
      have hmin : min (k : Int) (3584 - k) = m := by omega
      have hb2 : Blk W' w.heap.size 5 (List.replicate (k + m) (B8 255) ++ r.drop m) := by
        rw [List.length_replicate, List.take_append_of_le_length (by simp), List.take_of_length_le (by simp), List.map_replicate, List.drop_append, List.length_replicate, List.drop_of_length_le (by simp), List.nil_append, show k + m - k = m from by omega] at hb
        rw [← List.replicate_append_replicate]
        exact hb
      have hkW : Keeps [] w W' := hBr.drew.trans' hkc (by simp) (by simp)
      have hmk : 1 ≤ m ∧ k + m ≤ 3584 := by omega
      have hml : m ≤ r.length := by omega
      clear hb hkc hm
      go_wp2
      go_region
      go_wp2
      go_roundw
      case rel => exact ⟨k + m, by omega, by omega, by go_num, ⟨r.drop m, by simp; omega, hb2⟩, hkW⟩
      case measure => simp [intOf]; omega
    · obtain rfl : k = 3584 := by omega
      go_wp2
      go_ret
      exact ⟨_, r, rfl, Nat.le_refl _, by unfold blankAll; rw [List.map_replicate]; exact hblk, hBr⟩


def NewPost (w : World) (wear : Int) (e : Ending) (w' : World) : Prop :=
  ∃ p q, e = .returned (.pointer (some ⟨p, 0, none⟩)) ∧ w.heap.size ≤ p ∧ w.heap.size ≤ q ∧ FlaAt w' p q (Fla.new wear) ∧ Keeps [] w w'

theorem new_mk {w w1 : World} {q : Nat} {r : List Value} {wear x : Int} (o : Obj) (hq : (w.alloc o).heap.size ≤ q) (hb : Blk w1 q 5 (List.map B8 blankAll ++ r))
    (hk : Keeps [] (w.alloc o) w1) (hx : x = max 1 (min wear 10000)) :
    NewPost w wear (.returned (.pointer (some ⟨w1.heap.size, 0, none⟩))) (w1.alloc (.cells ((Fla.new wear).cells q |>.set 15 (.int .i64 x)).toArray 136)) := by
  have hs := hk.size
  simp only [World.size_alloc] at hq hs
  have hk' : Keeps [] w w1 := ((Keeps.refl [] w).alloc o).trans hk
  refine ⟨w1.heap.size, q, rfl, by omega, by omega, ⟨rfl, blankAll_len, ?_, ?_⟩, hk'.alloc _⟩
  · rw [hx]
    exact Blk.new w1 _ ((Fla.new wear).cells q)
  · refine ⟨r, ?_⟩
    exact hb.alloc _

set_option maxRecDepth 100000 in
set_option maxHeartbeats 1000000 in
theorem new_calls {w : World} (wear : Int) :
    Calls Tryz.prog 33 #[.int .i64 wear] w (NewPost w wear) := by
  go_enter Tryz.func33, Tryz.ntmps33
  go_wp2_with (go_at_call 71; refine (repeat_calls (by simp)).mono ?_; rintro e w1 ⟨q, r, rfl, hq, hb, hk⟩)
  · go_ret
    exact new_mk (wear := wear) (x := 10000) _ hq hb hk (by omega)
  · go_ret
    exact new_mk (wear := wear) (x := wear) _ hq hb hk (by omega)
  · go_ret
    exact new_mk (wear := wear) (x := 1) _ hq hb hk (by omega)

end Go.Proofs.YtijhaeapoapgfaaGreatDoor
