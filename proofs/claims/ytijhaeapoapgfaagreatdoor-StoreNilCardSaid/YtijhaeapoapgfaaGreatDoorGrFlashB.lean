/-
  GrFlashB: the texts FlashB, one behind another.
-/
import Derived.Test.YtijhaeapoapgfaaGreatDoorGrFlashP
import Derived.Deep.QuietTactic
import Derived.BigQuiet
namespace Go.Proofs.YtijhaeapoapgfaaGreatDoor
open Go.RowKit

/-- Where the first byte is that is not blank, counted from k on; -1: nowhere. -/
def unb : Nat → List UInt8 → Int
  | _, [] => -1
  | k, x :: xs => if x = 255 then unb (k + 1) xs else k

theorem unb_neg (l : List UInt8) : ∀ k, decide (0 ≤ unb k l) = !(l.all (· == 255)) := by
  induction l with
  | nil => intro k; rfl
  | cons x xs ih =>
    intro k
    unfold unb
    by_cases hx : x = 255
    · rw [if_pos hx, ih]; simp [hx]
    · rw [if_neg hx]; simp [hx]

theorem bne_byte (x y : UInt8) : ((x.toNat : Int) != (y.toNat : Int)) = !(x == y) := by
  have : ((x.toNat : Int) == (y.toNat : Int)) = (x == y) := by
    rw [Bool.eq_iff_iff, beq_iff_eq, beq_iff_eq, Int.natCast_inj, UInt8.toNat_inj]
  rw [bne, this]

theorem blankf_calls {w : World} (x : UInt8) :
    Calls Tryz.prog 152 #[B8 x] w fun e w' => e = .returned (.bool (!(x == 255))) ∧ w = w' := by
  go_enter Tryz.func152, Tryz.ntmps152
  go_wp2
  go_ret
  exact ⟨congrArg (fun b => Ending.returned (.bool b)) (bne_byte x 255), rfl⟩

set_option maxRecDepth 100000 in
set_option maxHeartbeats 400000 in
theorem indexf_calls {w : World} (a : Option Addr) (c : Nat) (l : List UInt8) (hl : Rd w a l) (hn : l.length ≤ 140737488351232) :
    Calls Tryz.prog 185 #[.slice a l.length c, .func (.func 152) #[] #[]] w fun e w' => e = .returned (.int .i64 (unb 0 l)) ∧ w = w' := by
  go_enter Tryz.func185, Tryz.ntmps185
  go_wp2
  go_loop [8] (fun i => ∃ k : Nat, k ≤ l.length ∧ i = .int .i64 k ∧ unb k (l.drop k) = unb 0 l) (fun i => l.length - (intOf i).toNat)
  case atStart => exact ⟨0, Nat.zero_le _, rfl, by simp⟩
  case round =>
    obtain ⟨k, hk, rfl, hu⟩ := hrel
    by_cases hlt : k < l.length
    · obtain ⟨b0, o0, rfl, hc0⟩ := hl k l[k] (by simp [hlt])
      rw [List.drop_eq_getElem_cons hlt, unb] at hu
      generalize l[k] = x at hc0 hu
      by_cases hx : x = 255
      · rw [if_pos hx] at hu
        have hx' : (!(x == 255)) = false := by simpa using hx
        have Hu := Lib.hid hu
        clear hu hl hx
        go_wp2_with (go_at_call 152; refine (blankf_calls _).mono ?_; rintro e w' ⟨rfl, rfl⟩; rw [hx'])
        go_round
        case rel => exact ⟨k + 1, by omega, by go_num, Hu.out⟩
        case measure => simp [intOf]; omega
      · rw [if_neg hx] at hu
        have hx' : (!(x == 255)) = true := by simpa using hx
        have Hu := Lib.hid hu
        clear hu hl hx
        go_wp2_with (go_at_call 152; refine (blankf_calls _).mono ?_; rintro e w' ⟨rfl, rfl⟩; rw [hx'])
        go_ret
        exact ⟨by rw [← Hu.out]; rfl, rfl⟩
    · have hkl : k = l.length := by omega
      subst hkl
      rw [List.drop_length, unb] at hu
      have Hu := Lib.hid hu
      clear hu hl
      go_wp2
      go_ret
      exact ⟨by rw [← Hu.out]; rfl, rfl⟩

set_option maxRecDepth 100000 in
set_option maxHeartbeats 400000 in
theorem containsf_calls {w : World} (a : Option Addr) (c : Nat) (l : List UInt8) (hl : Rd w a l) (hn : l.length ≤ 140737488351232) :
    Calls Tryz.prog 151 #[.slice a l.length c, .func (.func 152) #[] #[]] w fun e w' => e = .returned (.bool (!(l.all (· == 255)))) ∧ w = w' := by
  have hc := indexf_calls a c l hl hn
  have hu := unb_neg l 0
  generalize unb 0 l = z at *
  generalize l.all (· == 255) = y at *
  have Hu := Lib.hid hu
  clear hu hl
  go_enter Tryz.func151, Tryz.ntmps151
  go_wp2_with (go_at_call 185; refine hc.mono ?_; rintro e w' ⟨rfl, rfl⟩)
  go_ret
  exact ⟨by rw [← Hu.out]; rfl, rfl⟩

def BoolPost (w : World) (r : Bool) (e : Ending) (w' : World) : Prop := e = .returned (.bool r) ∧ Keeps [] w w'

theorem Fla.read_len (F : Fla) (a n : Int) (hF : F.b.length = 3584) : (F.read a n).1.length ≤ 3584 := by
  unfold Fla.read
  split
  · simp
  · simp [hF]; omega

set_option maxRecDepth 100000 in
set_option maxHeartbeats 400000 in
theorem blank_calls {w : World} {p q : Nat} {F : Fla} (h : FlaAt w p q F) (at_ n : Int) :
    Calls Tryz.prog 107 #[.pointer (some ⟨p, 0, none⟩), .int .i64 at_, .int .i64 n] w (BoolPost w (F.blank at_ n)) := by
  have hc := read_calls h at_ n
  have hl := F.read_len at_ n h.len
  have hb : F.blank at_ n = ((F.read at_ n).2 == 0 && (F.read at_ n).1.all (· == 255)) := rfl
  rw [hb]
  generalize F.read at_ n = r at *
  obtain ⟨l, z⟩ := r
  dsimp only at *
  clear h hb
  by_cases hz : z = 0
  · subst hz
    go_enter Tryz.func107, Tryz.ntmps107
    go_wp2_with (first | (go_at_call 104; refine hc.mono ?_; rintro e w1 ⟨v, rfl, hv, hk⟩; obtain ⟨a, c, rfl, hac, hrd, hnb⟩ := hv.rd) | (go_at_call 151; refine (containsf_calls _ _ l (by assumption) (by omega)).mono ?_; rintro e w' ⟨rfl, rfl⟩))
    go_ret
    exact ⟨by show Ending.returned (.bool (l.all _)) = _; simp, hk⟩
  · have hz' : (z == 0) = false := by simpa using hz
    go_enter Tryz.func107, Tryz.ntmps107
    go_wp2_with (first | (go_at_call 104; refine hc.mono ?_; rintro e w1 ⟨v, rfl, hv, hk⟩))
    go_ret
    refine ⟨?_, hk⟩
    rw [hz']; rfl

theorem fill_one (b : List UInt8) (o n : Nat) (h : o + n < b.length) :
    (b.take o ++ List.replicate n 255 ++ b.drop (o + n)).set (o + n) 255 = b.take o ++ List.replicate (n + 1) 255 ++ b.drop (o + (n + 1)) := by
  have ht : (b.take o).length = o := by rw [List.length_take]; omega
  rw [List.append_assoc, List.set_append_right _ _ (by omega), ht, List.set_append_right _ _ (by simp), List.length_replicate, show o + n - o - n = 0 from by omega,
    List.drop_eq_getElem_cons h, List.set_cons_zero, List.append_assoc, List.replicate_succ', List.append_assoc]
  rfl

theorem Fla.fill_succ (F : Fla) (o n : Nat) (h : o + n < F.b.length) : (F.fill o n).setB (o + n) 255 = F.fill o (n + 1) := by
  unfold Fla.fill Fla.setB
  simp only
  rw [fill_one _ _ _ h]

theorem Fla.fill_zero (F : Fla) (o : Nat) : F.fill o 0 = F := by
  unfold Fla.fill
  simp

/-- Erase, past the checks: the flash after the step and the count. -/
def Fla.eraseG (F : Fla) (s : Nat) : Fla := { F.step with er := F.er.set s (wrap64 (F.er.getD s 0 + 1)) }

set_option maxRecDepth 100000 in
set_option maxHeartbeats 1000000 in
theorem erase_calls {w : World} {p q : Nat} {F : Fla} (h : FlaAt w p q F) (s : Int) :
    Calls Tryz.prog 153 #[.pointer (some ⟨p, 0, none⟩), .int .i64 s] w (FPost w p q (F.erase s).1 (.int .i64 (F.erase s).2)) := by
  have c16 := h.down
  cases hd : F.down
  · rw [hd] at c16
    by_cases h1 : s < 0
    · have e : F.erase s = (F, 1) := by unfold Fla.erase; rw [if_neg (by simp [hd]), if_pos (.inl h1)]
      rw [e]
      have Hh := Lib.hid h
      clear h hd e
      go_enter Tryz.func153, Tryz.ntmps153
      go_wp2
      go_ret
      exact ⟨rfl, Hh.out, Keeps.refl _ _⟩
    · by_cases h2 : 14 ≤ s
      · have e : F.erase s = (F, 1) := by unfold Fla.erase; rw [if_neg (by simp [hd]), if_pos (.inr h2)]
        rw [e]
        have Hh := Lib.hid h
        clear h hd e
        go_enter Tryz.func153, Tryz.ntmps153
        go_wp2
        go_ret
        exact ⟨rfl, Hh.out, Keeps.refl _ _⟩
      · obtain ⟨n, rfl⟩ : ∃ n : Nat, s = n := ⟨s.toNat, by omega⟩
        have hn : n < 14 := by omega
        have cw := h.wear
        have ce := h.erC hn
        by_cases h3 : F.er.getD n 0 ≥ F.wear
        · have e : F.erase n = (F, 10) := by unfold Fla.erase; rw [if_neg (by simp [hd]), if_neg (by omega), if_pos (by simpa using h3)]
          rw [e]
          have Hh := Lib.hid h
          have hdd : decide (F.er.getD n 0 ≥ F.wear) = true := by simpa using h3
          clear h hd e
          generalize F.er.getD n 0 = x at *
          generalize F.wear = y at *
          have h3' : y ≤ x := h3
          go_enter Tryz.func153, Tryz.ntmps153
          go_wp2
          go_quiet (fail)
          go_wp2
          go_ret
          exact ⟨rfl, Hh.out.drewN _, (Keeps.refl _ _).drewN _⟩
        · have hG : F.erase n = (if F.step.down then ((F.eraseG n).fill (n * 256) ((max 0 F.torn) % 257).toNat, 11) else ((F.eraseG n).fill (n * 256) 256, 0)) := by
            unfold Fla.erase; rw [if_neg (by simp [hd]), if_neg (by omega), if_neg (by simpa using h3)]; rfl
          rw [hG]
          clear hG
          have h3' : F.er.getD n 0 < F.wear := by omega
          have heC : ∀ w1, FlaAt w1 p q F.step → w1.cell? ⟨p, 1 + n, none⟩ = some (.int .i64 (F.er.getD n 0)) := fun w1 h1 => h1.erC hn
          generalize hx : F.er.getD n 0 = x at *
          have Hx := Lib.hid hx
          clear hx hd h3
          generalize F.wear = y at *
          cases hsd : F.step.down
          · have Hsd := Lib.hid hsd
            clear hsd
            simp only [Bool.false_eq_true, ↓reduceIte]
            go_enter Tryz.func153, Tryz.ntmps153
            go_wp2_with fail
            go_quiet (fail)
            have hw := h.drewN nq
            have ew : IntKind.i64.wrap (x + 1) = wrap64 (x + 1) := IntWalk.i64_left _
            go_wp2_with (go_at_call 155; refine (step_calls hw).mono ?_; rintro e w1 ⟨rfl, hG1, hK1⟩; rw [Hsd.out]; have ce1 := heC _ hG1; have fe1 := hG1.frz (1 + n))
            go_still_tail 10, (by kernel_rfl)
            have hE : FlaAt (w1.setCell ⟨p, 1 + n, none⟩ (.int .i64 (wrap64 (x + 1)))).drew p q (F.eraseG n) := by
              have := (hG1.setEr hn (wrap64 (x + 1))).drew
              rw [← Hx.out] at this
              rw [← Hx.out]
              exact this
            have hKE : Keeps [p, q] w (w1.setCell ⟨p, 1 + n, none⟩ (.int .i64 (wrap64 (x + 1)))).drew := ((((Keeps.refl _ _).drewN nq).trans hK1).setCell (by simp) _).drew
            have fe' : w1.drew.frozen? ⟨p, 1 + n, none⟩ = false := fe1
            have ce' : w1.drew.cell? ⟨p, 1 + n, none⟩ = some (.int .i64 x) := ce1
            change wpList _ _ _ _ _ w1.drew
            go_wp2
            go_loopw [56] (fun i wr => ∃ k : Nat, k ≤ 256 ∧ i = .int .i64 k ∧ FlaAt wr p q ((F.eraseG n).fill (n * 256) k) ∧ Keeps [p, q] w wr) (fun i _ => 256 - (intOf i).toNat)
            case atStart => exact ⟨0, Nat.zero_le _, rfl, by rw [Fla.fill_zero]; exact hE, hKE⟩
            case round =>
              obtain ⟨k, hk, rfl, hF, hK⟩ := hrel
              have c0 := hF.c0
              by_cases hlt : k < 256
              · have cb := hF.byte (i := n * 256 + k) (by omega)
                have fb := hF.frzq (n * 256 + k)
                go_wp2
                go_roundw
                case rel =>
                  refine ⟨k + 1, by omega, by go_num, ?_, hK.setCell (by simp) _⟩
                  rw [← Fla.fill_succ _ _ _ (by show n * 256 + k < (F.eraseG n).b.length; rw [show (F.eraseG n).b.length = F.b.length from rfl, h.len]; omega)]
                  exact hF.setByte (by omega) 255
                case measure => simp [intOf]; omega
              · have hkl : k = 256 := by omega
                subst hkl
                go_wp2
                go_ret
                exact ⟨rfl, hF, hK⟩
          · have Hsd := Lib.hid hsd
            clear hsd
            simp only [↓reduceIte]
            have ct : ∀ w1, FlaAt w1 p q F.step → w1.cell? ⟨p, 19, none⟩ = some (.int .i64 F.torn) := fun w1 h1 => h1.torn
            generalize F.torn = t at *
            by_cases ht : t ≤ 0
            · have e0 : ((max 0 t) % 257).toNat = 0 := by rw [Int.max_eq_left (by omega)]; rfl
              rw [e0]
              clear e0
              go_enter Tryz.func153, Tryz.ntmps153
              go_wp2_with fail
              go_quiet (fail)
              have hw := h.drewN nq
              have ew : IntKind.i64.wrap (x + 1) = wrap64 (x + 1) := IntWalk.i64_left _
              go_wp2_with (go_at_call 155; refine (step_calls hw).mono ?_; rintro e w1 ⟨rfl, hG1, hK1⟩; rw [Hsd.out]; have ce1 := heC _ hG1; have fe1 := hG1.frz (1 + n); have ct1 := ct _ hG1)
              go_still_tail 10, (by kernel_rfl)
              have hE : FlaAt (w1.setCell ⟨p, 1 + n, none⟩ (.int .i64 (wrap64 (x + 1)))).drew p q (F.eraseG n) := by
                have := (hG1.setEr hn (wrap64 (x + 1))).drew
                rw [← Hx.out] at this
                rw [← Hx.out]
                exact this
              have hKE : Keeps [p, q] w (w1.setCell ⟨p, 1 + n, none⟩ (.int .i64 (wrap64 (x + 1)))).drew := ((((Keeps.refl _ _).drewN nq).trans hK1).setCell (by simp) _).drew
              have fe' : w1.drew.frozen? ⟨p, 1 + n, none⟩ = false := fe1
              have ce' : w1.drew.cell? ⟨p, 1 + n, none⟩ = some (.int .i64 x) := ce1
              change wpList _ _ _ _ _ w1.drew
              go_wp2
              go_loopw [56] (fun i wr => ∃ k : Nat, k ≤ 0 ∧ i = .int .i64 k ∧ FlaAt wr p q ((F.eraseG n).fill (n * 256) k) ∧ Keeps [p, q] w wr) (fun i _ => 0 - (intOf i).toNat)
              case atStart => exact ⟨0, Nat.zero_le _, rfl, by rw [Fla.fill_zero]; exact hE, hKE⟩
              case round =>
                obtain ⟨k, hk, rfl, hF, hK⟩ := hrel
                have hkl : k = 0 := by omega
                subst hkl
                go_wp2
                go_ret
                exact ⟨rfl, hF, hK⟩
            · obtain ⟨N, hN, hN2⟩ : ∃ N : Nat, t % 257 = (N : Int) ∧ N < 257 := ⟨(t % 257).toNat, by omega, by omega⟩
              have e0 : ((max 0 t) % 257).toNat = N := by rw [Int.max_eq_right (by omega), hN]; rfl
              rw [e0]
              clear e0
              go_enter Tryz.func153, Tryz.ntmps153
              go_wp2_with fail
              go_quiet (fail)
              have hw := h.drewN nq
              have ew : IntKind.i64.wrap (x + 1) = wrap64 (x + 1) := IntWalk.i64_left _
              go_wp2_with (go_at_call 155; refine (step_calls hw).mono ?_; rintro e w1 ⟨rfl, hG1, hK1⟩; rw [Hsd.out]; have ce1 := heC _ hG1; have fe1 := hG1.frz (1 + n); have ct1 := ct _ hG1)
              go_still_tail 10, (by kernel_rfl)
              have hE : FlaAt (w1.setCell ⟨p, 1 + n, none⟩ (.int .i64 (wrap64 (x + 1)))).drew p q (F.eraseG n) := by
                have := (hG1.setEr hn (wrap64 (x + 1))).drew
                rw [← Hx.out] at this
                rw [← Hx.out]
                exact this
              have hKE : Keeps [p, q] w (w1.setCell ⟨p, 1 + n, none⟩ (.int .i64 (wrap64 (x + 1)))).drew := ((((Keeps.refl _ _).drewN nq).trans hK1).setCell (by simp) _).drew
              have fe' : w1.drew.frozen? ⟨p, 1 + n, none⟩ = false := fe1
              have ce' : w1.drew.cell? ⟨p, 1 + n, none⟩ = some (.int .i64 x) := ce1
              change wpList _ _ _ _ _ w1.drew
              go_wp2
              go_loopw [56] (fun i wr => ∃ k : Nat, k ≤ N ∧ i = .int .i64 k ∧ FlaAt wr p q ((F.eraseG n).fill (n * 256) k) ∧ Keeps [p, q] w wr) (fun i _ => N - (intOf i).toNat)
              case atStart => exact ⟨0, Nat.zero_le _, rfl, by rw [Fla.fill_zero]; exact hE, hKE⟩
              case round =>
                obtain ⟨k, hk, rfl, hF, hK⟩ := hrel
                have c0 := hF.c0
                by_cases hlt : k < N
                · have cb := hF.byte (i := n * 256 + k) (by omega)
                  have fb := hF.frzq (n * 256 + k)
                  go_wp2
                  go_roundw
                  case rel =>
                    refine ⟨k + 1, by omega, by go_num, ?_, hK.setCell (by simp) _⟩
                    rw [← Fla.fill_succ _ _ _ (by show n * 256 + k < (F.eraseG n).b.length; rw [show (F.eraseG n).b.length = F.b.length from rfl, h.len]; omega)]
                    exact hF.setByte (by omega) 255
                  case measure => simp [intOf]; omega
                · have hkl : k = N := by omega
                  subst hkl
                  go_wp2
                  go_ret
                  exact ⟨rfl, hF, hK⟩
  · have e : F.erase s = (F, 11) := by unfold Fla.erase; rw [if_pos hd]
    rw [e]
    rw [hd] at c16
    have Hh := Lib.hid h
    clear h hd e
    go_enter Tryz.func153, Tryz.ntmps153
    go_wp2
    go_ret
    exact ⟨rfl, Hh.out, Keeps.refl _ _⟩

end Go.Proofs.YtijhaeapoapgfaaGreatDoor
