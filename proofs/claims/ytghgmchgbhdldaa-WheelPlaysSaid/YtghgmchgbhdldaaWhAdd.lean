/-
  WhAdd: Add of package wheel, walked: where nothing is done.
-/
import Derived.Test.YtghgmchgbhdldaaWhA
import Derived.Test.YtghgmchgbhdldaaConcatB
set_option linter.unusedVariables false
namespace Go.Proofs.Ytghgmchgbhdldaa
open Go.RowKit
attribute [local go_sem ↓] Go.wp_at_zero Go.wp_at_succ

set_option maxRecDepth 100000 in
theorem add_nil {w : World} (id : UInt32) (A : Option Addr) (n c : Nat) :
    Calls Try.prog 21 #[.pointer none, B32 id, .slice A n c] w fun e w' => e = .returned (.int .i64 1) ∧ w = w' := by
  go_enter Try.func21, Try.ntmps21
  go_wp2_with fail
  go_ret
  exact ⟨rfl, rfl⟩

def AddPost (w : World) (p q u : Nat) (g : Option Nat) (r : Fla × Whl × Int) (e : Ending) (w' : World) : Prop :=
  e = .returned (.int .i64 r.2.2) ∧ ∃ g', WhAt w' p q u g' r.1 r.2.1 ∧ (g' = g ∨ ∃ y, g' = some y ∧ w.heap.size ≤ y) ∧ Keeps (p :: q :: u :: g.toList) w w'

theorem WhAt.keeps {S : List Nat} {w w' : World} {p q u : Nat} {g : Option Nat} {F : Fla} {V : Whl} (h : WhAt w p q u g F V) (k : Keeps S w w') (hS : ∀ x, x ∈ S → x ≠ p ∧ x ≠ q ∧ x < u) : WhAt w' p q u g F V := by
  obtain ⟨v, hv, hW, hR⟩ := h.own
  exact ⟨h.fla.keeps k (fun hm => (hS _ hm).1 rfl) (fun hm => (hS _ hm).2.1 rfl), h.s1, h.s2, h.pu, h.qu, h.next, h.lens, h.dat, v, hv, hW.keeps k (fun hm => by have := (hS _ hm).2.2; omega), hR.keeps k (fun x hx => by have := (hS x hx).2.2; omega)⟩

set_option maxRecDepth 100000 in
set_option maxHeartbeats 1000000 in
theorem add_none {w : World} {p q u : Nat} {g : Option Nat} {F : Fla} {V : Whl} (h : WhAt w p q u g F V) (id : UInt32) (A : Option Addr) (c : Nat) (d : List UInt8) (hn : d.length ≠ V.size ∨ V.room = 0 ∨ F.down = true) :
    Calls Try.prog 21 #[.pointer (some ⟨u, 0, none⟩), B32 id, .slice A d.length c] w (AddPost w p q u g (V.add F id d)) := by
  obtain ⟨v, hv, hW, hR⟩ := h.own
  have c2 := hW.cell' (i := 2) rfl
  have c0 := hW.cell' (i := 0) rfl
  by_cases hl : d.length = V.size
  · have hRm := room_calls h
    by_cases hr : V.room = 0
    · have e : V.add F id d = (F, V, 9) := by unfold Whl.add; rw [if_neg (by simp [hl]), if_pos hr]
      rw [e]
      rw [hr] at hRm
      have H := Lib.hid h
      have hb : ((d.length : Int) == (V.size : Int)) = true := by rw [hl]; simp
      rw [hl]
      clear e hr hn hR hW h hl hb
      generalize V.size = s at *
      go_enter Try.func21, Try.ntmps21
      go_wp2_with fail
      refine hRm.mono ?_
      rintro e w1 ⟨rfl, n, rfl⟩
      go_wp2_with fail
      go_ret
      exact ⟨rfl, g, H.out.keeps ((Keeps.refl [] w).drewN n) (by simp), .inl rfl, (Keeps.refl _ w).drewN n⟩
    · have hd : F.down = true := by simpa [hl, hr] using hn
      have e : V.add F id d = (F, V, 11) := by unfold Whl.add; rw [if_neg (by simp [hl]), if_neg hr, if_pos hd]
      rw [e]
      have hDn := fun (w : World) (h : FlaAt w p q F) => down_calls h
      rw [hd] at hDn
      have H := Lib.hid h
      have hrb : (V.room == 0) = false := by simpa using hr
      rw [hl]
      clear e hr hn hR hW h hl hd
      generalize V.room = z at *
      generalize V.size = s at *
      go_enter Try.func21, Try.ntmps21
      go_wp2_with fail
      refine hRm.mono ?_
      rintro e w1 ⟨rfl, n, hw1⟩
      have hk1 : Keeps [] w w1 := hw1 ▸ (Keeps.refl [] w).drewN n
      have c0' := hk1.cell c0
      clear hw1
      go_wp2_with fail
      refine (hDn _ (H.out.fla.keeps hk1 (by simp) (by simp))).mono ?_
      rintro e w2 ⟨rfl, rfl⟩
      go_wp2_with fail
      go_ret
      exact ⟨rfl, g, H.out.keeps hk1 (by simp), .inl rfl, hk1.nil⟩
  · have e : V.add F id d = (F, V, 1) := by unfold Whl.add; rw [if_pos hl]
    rw [e]
    have hb : ((d.length : Int) == (V.size : Int)) = false := by rw [beq_eq_false_iff_ne]; intro h; exact hl (by omega)
    have hb2 : ((d.length : Int) != (V.size : Int)) = true := by rw [bne, hb]; rfl
    have H := Lib.hid h
    clear e hn hR hW h hl hb
    generalize d.length = m at *
    generalize V.size = s at *
    go_enter Try.func21, Try.ntmps21
    go_wp2_with fail
    go_ret
    exact ⟨rfl, g, H.out, .inl rfl, Keeps.refl _ w⟩

end Go.Proofs.Ytghgmchgbhdldaa
