/-
  RefP: the walks of the reference's Program, Join, Read, Blank.
-/
import Derived.Test.YtghgmchgbhdldaaRefW
import Derived.Lib.SmallJoins
namespace Go.Proofs.Ytghgmchgbhdldaa
open Go.RowKit

def RProgInv (w : World) (p q : Nat) (F : Fla) (at_ : Nat) (l : List UInt8) (i : Value) (wr : World) : Prop :=
  ∃ k : Nat, k ≤ l.length ∧ i = .int .i64 k ∧ ∃ G, RfAt wr p q G ∧ G.down = false ∧ Keeps [p, q] w wr ∧ G.prog (at_ + k) (l.drop k) = F.prog at_ l

set_option maxRecDepth 100000 in
set_option maxHeartbeats 1000000 in
theorem rprogram_in {w : World} {p q : Nat} {F : Fla} (h : RfAt w p q F) (at_ : Nat) (a : Option Addr) (c : Nat) (l : List UInt8) (hl : Rd w a l) (ha : ∀ x, a = some x → l ≠ [] → x.block ∉ [p, q])
    (hr : F.ready at_ l.length = 0) :
    Calls Try.prog 77 #[.pointer (some ⟨p, 0, none⟩), .int .i64 at_, .slice a l.length c] w (fun e w' => RPost w p q (F.prog at_ l).1 (.int .i64 (F.prog at_ l).2) e w') := by
  obtain ⟨hdn, -, -, -, hn⟩ := Fla.ready_zero hr
  have ht : thereB at_ l.length = true := by
    have := thereB_ready F hdn at_ l.length
    rw [hr] at this
    revert this
    cases thereB at_ l.length <;> simp
  have Hr := Lib.hid ht
  have c16 : w.cell? ⟨p, 16, none⟩ = some (.bool false) := by obtain ⟨z, _, h⟩ := h; rw [← hdn]; exact h.down
  clear hr ht
  go_enter Try.func77, Try.ntmps77
  go_wp2_with (go_at_call 109; refine (there_calls _ _).mono ?_; rintro e w' ⟨rfl, rfl⟩; rw [Hr.out])
  go_loopw [20] (fun i wr => RProgInv w p q F at_ l i wr) (fun i _ => l.length - (intOf i).toNat)
  case atStart => exact ⟨0, Nat.zero_le _, rfl, F, h, hdn, Keeps.refl _ _, by simp⟩
  case round =>
    obtain ⟨k, hk, rfl, G, hG, hGd, hKw, hGp⟩ := hrel
    have HGd := Lib.hid hGd
    clear hGd hdn
    by_cases hlt : k < l.length
    · obtain ⟨b0, o0, rfl, hc0⟩ := hl k l[k] (by simp [hlt])
      have hnm := ha _ rfl (by rintro rfl; simp at hlt)
      have hcx : wr.cell? ⟨b0, o0 + k, none⟩ = some (B8 l[k]) := (World.cell?_of_block (a := ⟨b0, o0 + k, none⟩) (hKw.block b0 (World.block_lt_of_cell? w _ hc0) hnm)).trans hc0
      rw [List.drop_eq_getElem_cons hlt, Fla.prog] at hGp
      generalize l[k] = x at hcx hGp
      cases hd : G.step.down
      · rw [hd] at hGp
        simp only [Bool.false_eq_true, ↓reduceIte] at hGp
        have Hp := Lib.hid hGp
        have Hd := Lib.hid hd
        clear hGp hd hc0 hl ha hnm
        go_wp2_with fail
        refine (rstep_calls hG HGd.out).mono ?_
        rintro e w1 ⟨rfl, ⟨z, hz, hG1⟩, hK1⟩
        rw [Hd.out]
        have c0 := hG1.c0
        have cb := hG1.byte (i := at_ + k) (by omega)
        have fb := hG1.frzq (at_ + k)
        have Hz := Lib.hid hz
        clear hz
        go_wp2_with fail
        go_roundw
        case rel =>
          refine ⟨k + 1, by omega, by go_num, G.step.setB (at_ + k) (G.at_ (at_ + k) &&& x), ⟨z, Hz.out, ?_⟩, Hd.out, ?_, ?_⟩
          · rw [and_byte (G.step.at_ (at_ + k)) x]
            exact hG1.setByte (by omega) _
          · exact (hKw.trans hK1).setCell (by simp) _
          · exact Hp.out
        case measure => simp [intOf]; omega
      · rw [hd] at hGp
        simp only [↓reduceIte] at hGp
        have Hp := Lib.hid hGp
        have Hd := Lib.hid hd
        clear hGp hd hc0 hl ha hnm
        go_wp2_with fail
        refine (rstep_calls hG HGd.out).mono ?_
        rintro e w1 ⟨rfl, ⟨z, hz, hG1⟩, hK1⟩
        rw [Hd.out]
        have c0 := hG1.c0
        have cb := hG1.byte (i := at_ + k) (by omega)
        have fb := hG1.frzq (at_ + k)
        have ct := hG1.torn
        have Hz := Lib.hid hz
        clear hz
        go_wp2_with fail
        have et : IntKind.u8.wrap G.step.torn = (G.tornB.toNat : Int) := by rw [IntKind.wrap_u8']; exact torn_byte _
        have ew : IntKind.i64.wrap ((at_ : Int) + (k : Int)) = (at_ : Int) + (k : Int) := IntWalk.i64_in _ (by omega)
        have e0 : (0 : Int) ≤ (at_ : Int) + (k : Int) := by omega
        have e1 : ((at_ : Int) + (k : Int)).toNat = at_ + k := by omega
        have e2 : (at_ : Int) + (k : Int) < 3584 := by omega
        go_still_tail 18, (by kernel_rfl)
        change wpList _ _ _ _ _ w1.drew
        have fb' : w1.drew.frozen? ⟨q, at_ + k, none⟩ = false := fb
        have cb' : w1.drew.cell? ⟨q, at_ + k, none⟩ = some (B8 (G.step.at_ (at_ + k))) := cb
        go_wp2_with fail
        go_ret
        rw [← Hp.out]
        refine ⟨rfl, ⟨z, Hz.out, ?_⟩, ?_⟩
        · rw [or_byte, and_byte]
          exact (hG1.setByte (by omega) _).drew
        · exact ((hKw.trans hK1).drew).setCell (by simp) _
    · have hkl : k = l.length := by omega
      subst hkl
      rw [List.drop_length, Fla.prog] at hGp
      clear hl ha
      have Hp := Lib.hid hGp
      clear hGp
      go_wp2_with fail
      go_ret
      rw [← Hp.out]
      exact ⟨rfl, hG, hKw⟩

set_option maxRecDepth 100000 in
set_option maxHeartbeats 1000000 in
theorem rprogram_calls {w : World} {p q : Nat} {F : Fla} (h : RfAt w p q F) (at_ : Int) (a : Option Addr) (c : Nat) (l : List UInt8) (hl : Rd w a l) (ha : ∀ x, a = some x → l ≠ [] → x.block ∉ [p, q]) :
    Calls Try.prog 77 #[.pointer (some ⟨p, 0, none⟩), .int .i64 at_, .slice a l.length c] w (RPost w p q (F.program at_ l).1 (.int .i64 (F.program at_ l).2)) := by
  by_cases hr : F.ready at_ l.length = 0
  · obtain ⟨n, rfl⟩ : ∃ n : Nat, at_ = n := ⟨at_.toNat, by have := Fla.ready_zero hr; omega⟩
    have e : F.program n l = F.prog n l := by unfold Fla.program; rw [if_neg (by simp [hr])]; rfl
    rw [e]
    exact rprogram_in h n a c l hl ha hr
  · have e : F.program at_ l = (F, F.ready at_ l.length) := by unfold Fla.program; rw [if_pos hr]
    rw [e]
    have c16 : w.cell? ⟨p, 16, none⟩ = some (.bool F.down) := by obtain ⟨z, _, h⟩ := h; exact h.down
    cases hd : F.down
    · rw [hd] at c16
      have hb := thereB_ready F hd at_ l.length
      have ht : thereB at_ l.length = false := by
        cases hx : thereB at_ l.length
        · rfl
        · rw [hx] at hb; exact absurd hb hr
      rw [ht] at hb
      rw [hb]
      have Ht := Lib.hid ht
      have Hh := Lib.hid h
      clear h
      clear e hl ha hr hd hb ht
      go_enter Try.func77, Try.ntmps77
      go_wp2_with (go_at_call 109; refine (there_calls _ _).mono ?_; rintro e w' ⟨rfl, rfl⟩; rw [Ht.out])
      go_ret
      exact ⟨rfl, Hh.out, Keeps.refl _ _⟩
    · rw [hd] at c16
      have hb : F.ready at_ l.length = 11 := by unfold Fla.ready; rw [if_pos hd]
      rw [hb]
      have Hh := Lib.hid h
      clear e hl ha hr hd hb h
      go_enter Try.func77, Try.ntmps77
      go_wp2_with fail
      go_ret
      exact ⟨rfl, Hh.out, Keeps.refl _ _⟩

end Go.Proofs.Ytghgmchgbhdldaa
