/-
  GrFlashP: the texts FlashP, FlashR, one behind another.
-/
import Derived.Test.YtijhaeapoapgfaaGreatDoorGrBytes
import Derived.StillTailTactics
namespace Go.Proofs.YtijhaeapoapgfaaGreatDoor
open Go.RowKit

def ProgInv (w : World) (p q : Nat) (F : Fla) (at_ : Nat) (l : List UInt8) (i : Value) (wr : World) : Prop :=
  ∃ k : Nat, k ≤ l.length ∧ i = .int .i64 k ∧ ∃ G, FlaAt wr p q G ∧ Keeps [p, q] w wr ∧ G.prog (at_ + k) (l.drop k) = F.prog at_ l

theorem and_byte (a b : UInt8) : bits .and .u8 (a.toNat : Int) (b.toNat : Int) = ((a &&& b).toNat : Int) := by
  rw [u8_and_nat _ _ a.toNat_lt b.toNat_lt, UInt8.toNat_and]
theorem or_byte (a b : UInt8) : bits .or .u8 (a.toNat : Int) (b.toNat : Int) = ((a ||| b).toNat : Int) := by
  rw [u8_or_nat _ _ a.toNat_lt b.toNat_lt, UInt8.toNat_or]
theorem torn_byte (t : Int) : t % 256 = ((UInt8.ofNat (t % 256).toNat).toNat : Int) := by
  rw [UInt8.toNat_ofNat']
  omega

set_option maxRecDepth 100000 in
set_option maxHeartbeats 1000000 in
theorem program_in {w : World} {p q : Nat} {F : Fla} (h : FlaAt w p q F) (at_ : Nat) (a : Option Addr) (c : Nat) (l : List UInt8) (hl : Rd w a l) (ha : ∀ x, a = some x → l ≠ [] → x.block ∉ [p, q])
    (hr : F.ready at_ l.length = 0) :
    Calls Tryz.prog 116 #[.pointer (some ⟨p, 0, none⟩), .int .i64 at_, .slice a l.length c] w (fun e w' => FPost w p q (F.prog at_ l).1 (.int .i64 (F.prog at_ l).2) e w') := by
  have hn : at_ + l.length ≤ 3584 := by
    unfold Fla.ready at hr
    split at hr
    · simp at hr
    · split at hr
      · simp at hr
      · omega
  have Hr := Lib.hid hr
  clear hr
  go_enter Tryz.func116, Tryz.ntmps116
  go_wp2_with (go_at_call 149; refine (ready_calls h _ _).mono ?_; rintro e w' ⟨rfl, rfl⟩; rw [Hr.out])
  go_loopw [20] (fun i wr => ProgInv w p q F at_ l i wr) (fun i _ => l.length - (intOf i).toNat)
  case atStart => exact ⟨0, Nat.zero_le _, rfl, F, h, Keeps.refl _ _, by simp⟩
  case round =>
    obtain ⟨k, hk, rfl, G, hG, hKw, hGp⟩ := hrel
    by_cases hlt : k < l.length
    · obtain ⟨b0, o0, rfl, hc0⟩ := hl k l[k] (by simp [hlt])
      have hnm := ha _ rfl (by rintro rfl; simp at hlt)
      have hcx : wr.cell? ⟨b0, o0 + k, none⟩ = some (B8 l[k]) := (World.cell?_of_block (a := ⟨b0, o0 + k, none⟩) (hKw.block b0 (World.block_lt_of_cell? w _ hc0) hnm)).trans hc0
      rw [List.drop_eq_getElem_cons hlt, Fla.prog] at hGp
      generalize l[k] = x at hcx hGp
      cases hd : G.step.down
      · rw [hd] at hGp
        simp only [Bool.false_eq_true, ↓reduceIte] at hGp
        have Hp := Lib.hid hGp
        have Hd := Lib.hid hd
        clear hGp hd hc0 hl ha hnm
        go_wp2_with (go_at_call 155; refine (step_calls hG).mono ?_; rintro e w1 ⟨rfl, hG1, hK1⟩; rw [Hd.out]; have c0 := hG1.c0; have cb := hG1.byte (i := at_ + k) (by omega); have fb := hG1.frzq (at_ + k))
        go_roundw
        case rel =>
          refine ⟨k + 1, by omega, by go_num, G.step.setB (at_ + k) (G.at_ (at_ + k) &&& x), ?_, ?_, ?_⟩
          · rw [and_byte (G.step.at_ (at_ + k)) x]
            exact hG1.setByte (by omega) _
          · exact (hKw.trans hK1).setCell (by simp) _
          · exact Hp.out
        case measure => simp [intOf]; omega
      · rw [hd] at hGp
        simp only [↓reduceIte] at hGp
        have Hp := Lib.hid hGp
        have Hd := Lib.hid hd
        clear hGp hd hc0 hl ha hnm
        go_wp2_with (go_at_call 155; refine (step_calls hG).mono ?_; rintro e w1 ⟨rfl, hG1, hK1⟩; rw [Hd.out]; have c0 := hG1.c0; have cb := hG1.byte (i := at_ + k) (by omega); have fb := hG1.frzq (at_ + k); have ct := hG1.torn)
        have et : IntKind.u8.wrap G.step.torn = (G.tornB.toNat : Int) := by rw [IntKind.wrap_u8']; exact torn_byte _
        have ew : IntKind.i64.wrap ((at_ : Int) + (k : Int)) = (at_ : Int) + (k : Int) := IntWalk.i64_in _ (by omega)
        have e0 : (0 : Int) ≤ (at_ : Int) + (k : Int) := by omega
        have e1 : ((at_ : Int) + (k : Int)).toNat = at_ + k := by omega
        have e2 : (at_ : Int) + (k : Int) < 3584 := by omega
        go_still_tail 18, (by kernel_rfl)
        change wpList _ _ _ _ _ w1.drew
        have fb' : w1.drew.frozen? ⟨q, at_ + k, none⟩ = false := fb
        have cb' : w1.drew.cell? ⟨q, at_ + k, none⟩ = some (B8 (G.step.at_ (at_ + k))) := cb
        go_wp2
        go_ret
        rw [← Hp.out]
        refine ⟨rfl, ?_, ?_⟩
        · rw [or_byte, and_byte]
          exact (hG1.setByte (by omega) _).drew
        · exact ((hKw.trans hK1).drew).setCell (by simp) _
    · have hkl : k = l.length := by omega
      subst hkl
      rw [List.drop_length, Fla.prog] at hGp
      clear hl ha
      have Hp := Lib.hid hGp
      clear hGp
      go_wp2
      go_ret
      rw [← Hp.out]
      exact ⟨rfl, hG, hKw⟩

theorem Fla.ready_zero {F : Fla} {a n : Int} (h : F.ready a n = 0) : F.down = false ∧ 0 ≤ n ∧ n ≤ 3584 ∧ 0 ≤ a ∧ a + n ≤ 3584 := by
  unfold Fla.ready at h
  split at h
  · simp at h
  · split at h
    · simp at h
    · exact ⟨by simpa using ‹¬ F.down = true›, by omega, by omega, by omega, by omega⟩

set_option maxRecDepth 100000 in
set_option maxHeartbeats 1000000 in
theorem program_calls {w : World} {p q : Nat} {F : Fla} (h : FlaAt w p q F) (at_ : Int) (a : Option Addr) (c : Nat) (l : List UInt8) (hl : Rd w a l) (ha : ∀ x, a = some x → l ≠ [] → x.block ∉ [p, q]) :
    Calls Tryz.prog 116 #[.pointer (some ⟨p, 0, none⟩), .int .i64 at_, .slice a l.length c] w (FPost w p q (F.program at_ l).1 (.int .i64 (F.program at_ l).2)) := by
  by_cases hr : F.ready at_ l.length = 0
  · obtain ⟨n, rfl⟩ : ∃ n : Nat, at_ = n := ⟨at_.toNat, by have := Fla.ready_zero hr; omega⟩
    have e : F.program n l = F.prog n l := by unfold Fla.program; rw [if_neg (by simp [hr])]; rfl
    rw [e]
    exact program_in h n a c l hl ha hr
  · have e : F.program at_ l = (F, F.ready at_ l.length) := by unfold Fla.program; rw [if_pos hr]
    rw [e]
    have hc := ready_calls h at_ l.length
    generalize F.ready at_ l.length = z at *
    have hz : (z == 0) = false := by simpa using hr
    clear e hl ha hr
    go_enter Tryz.func116, Tryz.ntmps116
    go_wp2_with (go_at_call 149; refine hc.mono ?_; rintro e w' ⟨rfl, rfl⟩)
    go_ret
    exact ⟨rfl, h, Keeps.refl _ _⟩

theorem program_calls_n {w : World} {p q : Nat} {F : Fla} (h : FlaAt w p q F) (at_ : Int) (a : Option Addr) (n c : Nat) (l : List UInt8) (hl : Rd w a l) (hn : l.length = n) (ha : ∀ x, a = some x → l ≠ [] → x.block ∉ [p, q]) :
    Calls Tryz.prog 116 #[.pointer (some ⟨p, 0, none⟩), .int .i64 at_, .slice a n c] w (FPost w p q (F.program at_ l).1 (.int .i64 (F.program at_ l).2)) := by
  subst hn
  exact program_calls h at_ a c l hl ha

end Go.Proofs.YtijhaeapoapgfaaGreatDoor

namespace Go.Proofs.YtijhaeapoapgfaaGreatDoor
open Go.RowKit

def ReadPost (w : World) (r : List UInt8 × Int) (e : Ending) (w' : World) : Prop := ∃ v, e = .returned (.tuple #[v, .int .i64 r.2]) ∧ Own w' w.heap.size v r.1 ∧ Keeps [] w w'

theorem FlaAt.rd {w : World} {p q : Nat} {F : Fla} (h : FlaAt w p q F) (o n : Nat) : Rd w (some ⟨q, o, none⟩) ((F.b.drop o).take n) := by
  obtain ⟨r, hr⟩ := h.bytes
  refine Rd.blk hr o _ ?_
  intro i u hu
  rw [List.getElem?_take] at hu
  split at hu
  · rw [List.getElem?_drop] at hu
    rw [List.getElem?_append_left (by rw [List.length_map]; exact (List.getElem?_eq_some_iff.1 hu).1), List.getElem?_map, hu]
    rfl
  · simp at hu

set_option maxRecDepth 100000 in
set_option maxHeartbeats 400000 in
theorem read_calls {w : World} {p q : Nat} {F : Fla} (h : FlaAt w p q F) (at_ n : Int) :
    Calls Tryz.prog 104 #[.pointer (some ⟨p, 0, none⟩), .int .i64 at_, .int .i64 n] w (ReadPost w (F.read at_ n)) := by
  by_cases hr : F.ready at_ n = 0
  · obtain ⟨_, h1, h2, h3, h4⟩ := Fla.ready_zero hr
    obtain ⟨a, rfl⟩ : ∃ a : Nat, at_ = a := ⟨at_.toNat, by omega⟩
    obtain ⟨m, rfl⟩ : ∃ m : Nat, n = m := ⟨n.toNat, by omega⟩
    have e : F.read a m = ((F.b.drop a).take m, 0) := by unfold Fla.read; rw [if_neg (by simp [hr])]; rfl
    rw [e]
    have c0 := h.c0
    have hc := ready_calls h a m
    have hlen : ((F.b.drop a).take m).length = m := by rw [List.length_take, List.length_drop, h.len]; omega
    rw [hr] at hc
    have hcl : ∀ A c, (A = some ⟨q, a, none⟩ ∨ (A = some ⟨q, 0, none⟩ ∧ a = 3584)) → Calls Tryz.prog 38 #[.slice A m c] w (ClonePost w ((F.b.drop a).take m)) := by
      intro A c hA
      refine clone_calls A m c _ ?_ hlen (by omega) (by rintro rfl; rcases hA with hA | ⟨hA, _⟩ <;> simp at hA)
      rcases hA with rfl | ⟨rfl, rfl⟩
      · exact h.rd a m
      · have : (F.b.drop 3584).take m = [] := by rw [List.drop_of_length_le (by rw [h.len]; omega)]; simp
        rw [this]; exact Rd.nil _ _
    clear hr e hlen h3
    by_cases ha : a = 3584
    · subst ha
      obtain rfl : m = 0 := by omega
      go_enter Tryz.func104, Tryz.ntmps104
      go_wp2_with (first | (go_at_call 149; refine hc.mono ?_; rintro e w' ⟨rfl, rfl⟩) | (go_at_call 38; refine (hcl _ _ (by simp)).mono ?_; rintro e w1 ⟨v, rfl, hv, hk⟩))
      go_ret2
      exact ⟨v, rfl, hv, hk⟩
    · go_enter Tryz.func104, Tryz.ntmps104
      go_wp2_with (first | (go_at_call 149; refine hc.mono ?_; rintro e w' ⟨rfl, rfl⟩) | (go_at_call 38; refine (hcl _ _ (by simp)).mono ?_; rintro e w1 ⟨v, rfl, hv, hk⟩))
      go_ret2
      exact ⟨v, rfl, hv, hk⟩
  · have e : F.read at_ n = ([], F.ready at_ n) := by unfold Fla.read; rw [if_pos hr]
    rw [e]
    have hc := ready_calls h at_ n
    generalize F.ready at_ n = z at *
    have hz : (z == 0) = false := by simpa using hr
    clear e hr
    go_enter Tryz.func104, Tryz.ntmps104
    go_wp2_with (go_at_call 149; refine hc.mono ?_; rintro e w' ⟨rfl, rfl⟩)
    go_ret2
    exact ⟨_, rfl, Own.nil _ _, Keeps.refl _ _⟩

end Go.Proofs.YtijhaeapoapgfaaGreatDoor
