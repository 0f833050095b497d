/-
  RefE: the walks of the reference's Join, Read, Blank, Erase.
-/
import Derived.Test.YtghgmchgbhdldaaRefP
namespace Go.Proofs.Ytghgmchgbhdldaa
open Go.RowKit

/-- A slice of slices of bytes reads as these. -/
def RdS (w : World) (a : Option Addr) (ls : List (List UInt8)) : Prop :=
  ∀ i l, ls[i]? = some l → ∃ b o x c, a = some ⟨b, o, none⟩ ∧ w.cell? ⟨b, o + i, none⟩ = some (.slice x l.length c) ∧ Rd w x l ∧ (x = none → c = 0)

theorem Rd.none_nil {w : World} {l : List UInt8} (h : Rd w none l) : l = [] := by
  cases l with
  | nil => rfl
  | cons x xs => obtain ⟨_, _, h, _⟩ := h 0 x rfl; simp at h

theorem RdS.keepsNil {w w' : World} {a : Option Addr} {ls : List (List UInt8)} (h : RdS w a ls) (k : Keeps [] w w') : RdS w' a ls := by
  intro i l hl
  obtain ⟨b, o, x, c, rfl, hc, hr, hn⟩ := h i l hl
  exact ⟨b, o, x, c, rfl, (World.cell?_of_block (a := ⟨b, o + i, none⟩) (k.block b (World.block_lt_of_cell? w _ hc) (by simp))).trans hc, hr.keepsNil k, hn⟩

theorem flat_take (ls : List (List UInt8)) (k : Nat) (h : k < ls.length) : (ls.take (k + 1)).flatten = (ls.take k).flatten ++ ls[k] := by
  rw [List.take_add_one, List.getElem?_eq_getElem h, Option.toList_some, List.flatten_append]
  simp

theorem flat_le (ls : List (List UInt8)) (k : Nat) (h : k < ls.length) : (ls.take k).flatten.length + ls[k].length ≤ ls.flatten.length := by
  have e : ls.flatten = (ls.take (k + 1)).flatten ++ (ls.drop (k + 1)).flatten := by rw [← List.flatten_append, List.take_append_drop]
  rw [e, flat_take ls k h]
  simp

set_option maxRecDepth 100000 in
set_option maxHeartbeats 400000 in
theorem join_calls {w : World} (a : Option Addr) (n c : Nat) (ls : List (List UInt8)) (hl : RdS w a ls) (hn : ls.length = n) (hm : ls.length ≤ 140737488351232) (hf : ls.flatten.length ≤ 140737488351232) :
    Calls Try.prog 75 #[.slice a n c] w (ClonePost w ls.flatten) := by
  subst hn
  go_enter Try.func75, Try.ntmps75
  go_wp2_with fail
  go_loopw [8, 3] (fun i v wr => ∃ k : Nat, k ≤ ls.length ∧ i = .int .i64 k ∧ Own wr w.heap.size v (ls.take k).flatten ∧ Keeps [] w wr) (fun i _ _ => ls.length - (intOf i).toNat)
  case atStart => exact ⟨0, Nat.zero_le _, rfl, by simpa using Own.nil _ _, Keeps.refl _ _⟩
  case round =>
    obtain ⟨k, hk, rfl, hv, hK⟩ := hrel
    by_cases hlt : k < ls.length
    · obtain ⟨b, o, x, cx, rfl, hc, hrd, hxn⟩ := (hl.keepsNil hK) k ls[k] (by simp [hlt])
      have hft := flat_take ls k hlt
      have hfl := flat_le ls k hlt
      generalize ls[k] = m at *
      have hl2 := hK.size
      go_wp2_with (at_builtin; refine wpList_append_bytes rfl _ _ rfl hv rfl x m.length cx rfl hrd rfl (fun hx => ⟨by subst hx; rw [hrd.none_nil]; rfl, hxn hx⟩) (by omega) hl2 ?_; intro v' w' hO hG hB)
      have hK' : Keeps [] w w' := hK.grown hG (fun y hy => .inr (by
        rcases hv.2 with ⟨rfl, _⟩ | ⟨g, cap, cur, rfl, hb, _⟩
        · simp [Value.ownBlock] at hy
        · simp [Value.ownBlock] at hy; omega))
      rw [← hft] at hO
      clear hft hfl hrd hl hxn hf hB hG hv
      go_roundw
      case rel => exact ⟨k + 1, by omega, by go_num, hO, hK'⟩
      case measure => simp [intOf]; omega
    · have hkl : k = ls.length := by omega
      subst hkl
      rw [List.take_length] at hv
      clear hl hf
      go_wp2_with fail
      go_ret
      exact ⟨_, rfl, hv, hK⟩

theorem RdS.one {w : World} (t : TypeId) {x : Option Addr} {l : List UInt8} {n c : Nat} (h : Rd w x l) (hn : l.length = n) (hx : x = none → c = 0) : RdS (w.alloc (.cells #[.slice x n c] t)) (some ⟨w.heap.size, 0, none⟩) [l] := by
  subst hn
  intro i m hm
  match i, hm with
  | 0, hm =>
    simp at hm
    subst hm
    exact ⟨w.heap.size, 0, x, c, rfl, (Blk.newA w t #[.slice x l.length c]).cell' rfl, h.keepsNil ((Keeps.refl [] w).alloc _), hx⟩

set_option maxRecDepth 100000 in
set_option maxHeartbeats 400000 in
theorem rread_calls {w : World} {p q : Nat} {F : Fla} (h : RfAt w p q F) (at_ n : Int) :
    Calls Try.prog 107 #[.pointer (some ⟨p, 0, none⟩), .int .i64 at_, .int .i64 n] w (ReadPost w (F.read at_ n)) := by
  obtain ⟨z, hz, h⟩ := h
  clear hz
  have c16 := h.down
  cases hd : F.down
  · rw [hd] at c16
    have hb := thereB_ready F hd at_ n
    cases ht : thereB at_ n
    · rw [ht] at hb
      have hb' : F.ready at_ n = 1 := hb
      have e : F.read at_ n = ([], 1) := by unfold Fla.read; rw [hb', if_pos (by decide)]
      rw [e]
      have Ht := Lib.hid ht
      clear e hb hb' ht hd h
      go_enter Try.func107, Try.ntmps107
      go_wp2_with (go_at_call 109; refine (there_calls _ _).mono ?_; rintro e w' ⟨rfl, rfl⟩; rw [Ht.out])
      go_ret2
      exact ⟨_, rfl, Own.nil _ _, Keeps.refl _ _⟩
    · rw [ht] at hb
      have hb' : F.ready at_ n = 0 := hb
      obtain ⟨_, h1, h2, h3, h4⟩ := Fla.ready_zero hb'
      obtain ⟨a, rfl⟩ : ∃ a : Nat, at_ = a := ⟨at_.toNat, by omega⟩
      obtain ⟨m, rfl⟩ : ∃ m : Nat, n = m := ⟨n.toNat, by omega⟩
      have e : F.read a m = ((F.b.drop a).take m, 0) := by unfold Fla.read; rw [if_neg (by simp [hb'])]; rfl
      rw [e]
      have c0 := h.c0
      have hlen : ((F.b.drop a).take m).length = m := by rw [List.length_take, List.length_drop, h.len]; omega
      have hrd : ∀ A, (A = some ⟨q, a, none⟩ ∨ (A = some ⟨q, 0, none⟩ ∧ a = 3584)) → Rd w A ((F.b.drop a).take m) := by
        intro A hA
        rcases hA with rfl | ⟨rfl, rfl⟩
        · exact h.rd a m
        · have : (F.b.drop 3584).take m = [] := by rw [List.drop_of_length_le (by rw [h.len]; omega)]; simp
          rw [this]; exact Rd.nil _ _
      generalize (F.b.drop a).take m = L at *
      have hj : ∀ A c, (A = some ⟨q, a, none⟩ ∨ (A = some ⟨q, 0, none⟩ ∧ a = 3584)) → Calls Try.prog 75 #[.slice (some ⟨w.heap.size, 0, none⟩) 1 1] (w.alloc (.cells #[.slice A m c] 23)) (ClonePost (w.alloc (.cells #[.slice A m c] 23)) L) := by
        intro A c hA
        have := join_calls (some ⟨w.heap.size, 0, none⟩) 1 1 [L] (RdS.one 23 (n := m) (c := c) (hrd A hA) hlen (by rintro rfl; rcases hA with hA | ⟨hA, _⟩ <;> simp at hA)) rfl (by simp) (by simp; omega)
        simpa using this
      have Ht := Lib.hid ht
      clear e hb hb' ht hd h hlen h3
      by_cases ha : a = 3584
      · subst ha
        obtain rfl : m = 0 := by omega
        go_enter Try.func107, Try.ntmps107
        go_wp2_with (go_at_call 109; refine (there_calls _ _).mono ?_; rintro e w' ⟨rfl, rfl⟩; rw [show thereB 3584 0 = true from by decide])
        refine (hj _ _ (by simp)).mono ?_
        rintro e w1 ⟨v, rfl, hv, hk⟩
        go_wp2_with fail
        go_ret2
        exact ⟨v, rfl, hv.mono (by simp), ((Keeps.refl [] w).alloc _).trans hk⟩
      · go_enter Try.func107, Try.ntmps107
        go_wp2_with (go_at_call 109; refine (there_calls _ _).mono ?_; rintro e w' ⟨rfl, rfl⟩; rw [Ht.out])
        refine (hj _ _ (by simp)).mono ?_
        rintro e w1 ⟨v, rfl, hv, hk⟩
        go_wp2_with fail
        go_ret2
        exact ⟨v, rfl, hv.mono (by simp), ((Keeps.refl [] w).alloc _).trans hk⟩
  · rw [hd] at c16
    have hb : F.ready at_ n = 11 := by unfold Fla.ready; rw [if_pos hd]
    have e : F.read at_ n = ([], 11) := by unfold Fla.read; rw [hb, if_pos (by decide)]
    rw [e]
    clear e hb hd h
    go_enter Try.func107, Try.ntmps107
    go_wp2_with fail
    go_ret2
    exact ⟨_, rfl, Own.nil _ _, Keeps.refl _ _⟩

set_option maxRecDepth 100000 in
set_option maxHeartbeats 400000 in
theorem rblank_calls {w : World} {p q : Nat} {F : Fla} (h : RfAt w p q F) (at_ n : Int) :
    Calls Try.prog 72 #[.pointer (some ⟨p, 0, none⟩), .int .i64 at_, .int .i64 n] w (BoolPost w (F.blank at_ n)) := by
  have hc := rread_calls h at_ n
  have hl : (F.read at_ n).1.length ≤ 3584 := by obtain ⟨z, _, h⟩ := h; exact F.read_len at_ n h.len
  have hb : F.blank at_ n = ((F.read at_ n).2 == 0 && (F.read at_ n).1.all (· == 255)) := rfl
  have hnn : (F.read at_ n).2 ≠ 0 → (F.read at_ n).1 = [] := by
    unfold Fla.read
    split <;> simp
  rw [hb]
  generalize F.read at_ n = r at *
  obtain ⟨l, z⟩ := r
  dsimp only at *
  clear h hb
  go_enter Try.func72, Try.ntmps72
  go_wp2_with fail
  refine hc.mono ?_
  rintro e w1 ⟨v, rfl, hv, hk⟩
  obtain ⟨a, c, rfl, hac, hrd, hnb⟩ := hv.rd
  clear hc hv hac hnb
  go_wp2_with fail
  go_loop [20] (fun i => ∃ k : Nat, k ≤ l.length ∧ i = .int .i64 k ∧ (l.drop k).all (· == 255) = l.all (· == 255)) (fun i => l.length - (intOf i).toNat)
  case atStart => exact ⟨0, Nat.zero_le _, rfl, by simp⟩
  case round =>
    obtain ⟨k, hk1, rfl, hu⟩ := hrel
    by_cases hlt : k < l.length
    · obtain ⟨b0, o0, rfl, hc0⟩ := hrd k l[k] (by simp [hlt])
      have hne : l ≠ [] := by rintro rfl; simp at hlt
      rw [List.drop_eq_getElem_cons hlt, List.all_cons] at hu
      generalize l[k] = x at hc0 hu
      have hbx := bne_byte x 255
      cases hx : (x == 255)
      · rw [hx] at hu hbx
        have Hu := Lib.hid hu
        have hz' : (z == 0) = true := by
          by_cases hz : z = 0
          · simp [hz]
          · exact absurd (hnn hz) hne
        have Hz := Lib.hid hz'
        have hbx' : ((x.toNat : Int) != 255) = true := hbx
        have hne2 : ¬ (x.toNat : Int) = 255 := by simpa using hbx'
        clear hu hx hz' hnn hbx hbx' hrd hne
        go_wp2_with fail
        go_ret
        exact ⟨by rw [Hz.out, ← Hu.out]; rfl, hk⟩
      · rw [hx] at hu hbx
        have Hu := Lib.hid hu
        have hbx' : ((x.toNat : Int) != 255) = false := hbx
        have hne2 : (x.toNat : Int) = 255 := by simpa using hbx'
        clear hu hx hnn hbx hbx' hrd hne
        rw [show B8 x = .int .u8 255 from by rw [B8, hne2]] at hc0
        clear hne2
        go_wp2_with fail
        go_round
        case rel => exact ⟨k + 1, by omega, by go_num, by rw [← Hu.out]; simp⟩
        case measure => simp [intOf]; omega
    · have hkl : k = l.length := by omega
      subst hkl
      have hall : l.all (· == 255) = true := by rw [← hu]; simp
      have Ha := Lib.hid hall
      clear hu hall hrd hnn
      go_wp2_with fail
      go_ret
      exact ⟨by rw [Ha.out]; simp, hk⟩

end Go.Proofs.Ytghgmchgbhdldaa
