/-
  Cd2: package code, walked: pieces (made once), New, Pieces, Symbol.
-/
import Derived.Test.YtghgmchgbhdldaaGreatDoorCd1
set_option linter.unusedVariables false
set_option linter.unusedSimpArgs false
namespace Go.Proofs.YtghgmchgbhdldaaGreatDoor
open Go.RowKit
attribute [local go_sem ↓] Go.wp_at_zero Go.wp_at_succ

def HdPost (w : World) (p : Nat) (s : UInt32) (nK P z : Nat) (vi : Value) (img : List UInt8) (e : Ending) (w' : World) : Prop :=
  ∃ v, e = .returned (.tuple #[]) ∧ Blk w' p 85 [B32 s, .int .i64 nK, .int .i64 P, .int .i64 z, vi, .int .u32 1, .int .i32 0, .int .u32 0, v] ∧ PcsA w' w.heap.size (w.heap.size ≤ ·) v (pieces s nK P z img) ∧ Keeps [p] w w'

set_option maxRecDepth 100000 in
set_option maxHeartbeats 1600000 in
theorem hdslow_calls {w : World} {p bx : Nat} {s : UInt32} {nK P z : Nat} {vi : Value} {img : List UInt8} (hb : Blk w p 85 [B32 s, .int .i64 nK, .int .i64 P, .int .i64 z, vi, .int .u32 0, .int .i32 0, .int .u32 0, .slice none 0 0]) (hi : RdS w vi img) (hf : Fits nK P z img)
    (hbx : w.cell? ⟨bx, 0, none⟩ = some (.pointer (some ⟨p, 0, none⟩))) (hne : bx ≠ p) :
    Calls Tryz.prog 53 #[.pointer (some ⟨p, 5, none⟩), .func (.func 54) #[] #[.pointer (some ⟨bx, 0, none⟩)]] w (HdPost w p s nK P z vi img) := by
  have hb1 := hb.set 6 (.int .i32 1)
  have kp : Keeps [p] w (w.setCell ⟨p, 6, none⟩ (.int .i32 1)) := (Keeps.refl [p] w).setCell (by simp) _
  have hS : ∀ x, x ∈ [p] → ∃ t cs, Blk w x t cs ∧ 5 ≠ t := fun x hx => by simp only [List.mem_singleton] at hx; subst hx; exact ⟨_, _, hb, by decide⟩
  have hbx1 := World.cell?_setCell_other w ⟨p, 6, none⟩ ⟨bx, 0, none⟩ (.int .i32 1) (fun h => hne (congrArg Addr.block h).symm)
  have hF := hdfn_calls hb1 (hi.keepsP kp hS) hf (hbx1.trans hbx) hne
  have hsz : (w.setCell ⟨p, 6, none⟩ (.int .i32 1)).heap.size = w.heap.size := by simp [World.setCell]
  have hpl := hb.lt
  have hl := run_call_load (P := Tryz.prog) Tryz.func73 (by kernel_rfl) (by kernel_rfl) (by kernel_rfl) .u32 (by kernel_rfl) (w := w.setCell ⟨p, 6, none⟩ (.int .i32 1)) (a := ⟨p, 5, none⟩) (x := 0) (hb1.cell' (i := 5) rfl)
  have hnot : ∀ (x : Bool) (w : World), (Op.unary .not (.bool x)).run Tryz.prog w = .ok (.bool (!x)) w := fun _ _ => rfl
  have c2 := hb.cell' (i := 6) rfl
  have f2 := hb.frozen 6
  clear hbx hbx1 hi
  go_enter_defers Tryz.func53, Tryz.ntmps53
  go_wp2_with (first | (go_at_call 74; refine (lock_free ⟨p, 6, none⟩ _ c2 f2).mono ?_; rintro e w' ⟨rfl, rfl⟩) | (go_at_call 52; go_in) | (go_at_call 54; refine hF.mono ?_; rintro e w2 ⟨v, rfl, hb2, hO, hK⟩))
  have b3 := hb2.drew.set 5 (.int .u32 1)
  have b4 := b3.set 6 (.int .i32 0)
  have k3 : Keeps [p] w2 (w2.drew.setCell ⟨p, 5, none⟩ (.int .u32 1)) := ((Keeps.refl [p] w2).drew).setCell (by simp) _
  have k4 : Keeps [p] w2 ((w2.drew.setCell ⟨p, 5, none⟩ (.int .u32 1)).setCell ⟨p, 6, none⟩ (.int .i32 0)) := k3.setCell (by simp) _
  have o4 := hO.keepsP k4 (fun x hx => by simp only [List.mem_singleton] at hx; subst hx; exact ⟨_, _, hb2, by decide, by decide⟩)
  go_wp2
  refine leaves_cons (f := 76) (args := #[.pointer (some ⟨p, 5, none⟩), .bool true]) (by simp) (by simp [go_sem]) ?_
  refine (store_deferred ⟨p, 5, none⟩ (.int .u32 0) .returning _ (hb2.cell' (i := 5) rfl) (hb2.frozen 5)).mono ?_
  rintro e u' w'' ⟨rfl, rfl, rfl⟩
  refine leaves_cons (f := 75) (args := #[.pointer (some ⟨p, 6, none⟩)]) (by simp [settle]) (by simp [go_sem]) ?_
  refine (unlock_deferred ⟨p, 6, none⟩ _ _ (b3.cell' (i := 6) rfl) (b3.frozen 6)).mono ?_
  rintro e u' w'' ⟨rfl, rfl, rfl⟩
  simp [Leaves, settle, results, Tryz.results53]
  exact ⟨v, rfl, b4, o4.mono (by omega) (fun x hx => by omega), (kp.trans hK).trans k4⟩

set_option maxRecDepth 100000 in
set_option maxHeartbeats 1600000 in
theorem hdonce_calls {w : World} {p bx : Nat} {s : UInt32} {nK P z : Nat} {vi : Value} {img : List UInt8} (hb : Blk w p 85 [B32 s, .int .i64 nK, .int .i64 P, .int .i64 z, vi, .int .u32 0, .int .i32 0, .int .u32 0, .slice none 0 0]) (hi : RdS w vi img) (hf : Fits nK P z img)
    (hbx : w.cell? ⟨bx, 0, none⟩ = some (.pointer (some ⟨p, 0, none⟩))) (hne : bx ≠ p) :
    Calls Tryz.prog 30 #[.pointer (some ⟨p, 5, none⟩), .func (.func 54) #[] #[.pointer (some ⟨bx, 0, none⟩)]] w (HdPost w p s nK P z vi img) := by
  have hS := hdslow_calls hb hi hf hbx hne
  have c1 := hb.cell' (i := 5) rfl
  have hl := run_call_load (P := Tryz.prog) Tryz.func73 (by kernel_rfl) (by kernel_rfl) (by kernel_rfl) .u32 (by kernel_rfl) c1
  have hnot : ∀ (x : Bool) (w : World), (Op.unary .not (.bool x)).run Tryz.prog w = .ok (.bool (!x)) w := fun _ _ => rfl
  clear hi hbx
  go_enter Tryz.func30, Tryz.ntmps30
  go_wp2_with (first | (go_at_call 53; refine hS.mono ?_; rintro e w2 ⟨v, rfl, hb2, hO, hK⟩) | (go_at_call 52; go_in))
  go_end0
  exact ⟨v, rfl, hb2, hO, hK⟩

theorem oncedone_calls (a : Addr) (fv : Value) (w : World) (h0 : w.cell? a = some (.int .u32 1)) :
    Calls Tryz.prog 30 #[.pointer (some a), fv] w fun e w' => e = .returned (.tuple #[]) ∧ w' = w := by
  have hl := run_call_load (P := Tryz.prog) Tryz.func73 (by kernel_rfl) (by kernel_rfl) (by kernel_rfl) .u32 (by kernel_rfl) h0
  have hnot : ∀ (x : Bool) (w : World), (Op.unary .not (.bool x)).run Tryz.prog w = .ok (.bool (!x)) w := fun _ _ => rfl
  go_enter Tryz.func30, Tryz.ntmps30
  go_wp2_with (go_at_call 52; go_in)
  go_end0
  exact ⟨rfl, rfl⟩

/-- A head of an image: its pieces made, or not yet; all its blocks meet Q. -/
structure Hd (w : World) (Q : Nat → Prop) (p : Nat) (s : UInt32) (nK P z : Nat) (img : List UInt8) : Prop where
  fits : Fits nK P z img
  q : Q p
  b : ∃ vi d v, Blk w p 85 [B32 s, .int .i64 nK, .int .i64 P, .int .i64 z, vi, .int .u32 d, .int .i32 0, .int .u32 0, v] ∧ RdA Q w vi img ∧ ((d = 0 ∧ v = .slice none 0 0) ∨ (d = 1 ∧ PcsA w 0 Q v (pieces s nK P z img) ∧ Up Q v))

theorem Hd.keeps {S : List Nat} {w w' : World} {Q : Nat → Prop} {p : Nat} {s : UInt32} {nK P z : Nat} {img : List UInt8} (h : Hd w Q p s nK P z img) (k : Keeps S w w') (hS : ∀ x, x ∈ S → ¬ Q x) : Hd w' Q p s nK P z img := by
  obtain ⟨hf, hq, vi, d, v, hb, hi, hv⟩ := h
  refine ⟨hf, hq, vi, d, v, hb.keeps k (fun hp => hS p hp hq), ⟨hi.1.keepsQ hi.2 k hS, hi.2⟩, ?_⟩
  rcases hv with hv | ⟨hd, hv, hu⟩
  · exact .inl hv
  · exact .inr ⟨hd, hv.keepsQ hu k hS, hu⟩
theorem Hd.keepsNil {w w' : World} {Q : Nat → Prop} {p : Nat} {s : UInt32} {nK P z : Nat} {img : List UInt8} (h : Hd w Q p s nK P z img) (k : Keeps [] w w') : Hd w' Q p s nK P z img := h.keeps k (by simp)
theorem Hd.mono {w : World} {Q Q' : Nat → Prop} {p : Nat} {s : UInt32} {nK P z : Nat} {img : List UInt8} (h : Hd w Q p s nK P z img) (hQ : ∀ x, Q x → Q' x) : Hd w Q' p s nK P z img := by
  obtain ⟨hf, hq, vi, d, v, hb, hi, hv⟩ := h
  refine ⟨hf, hQ _ hq, vi, d, v, hb, ⟨hi.1, fun a n c e => hQ _ (hi.2 a n c e)⟩, ?_⟩
  rcases hv with hv | ⟨hd, hv, hu⟩
  · exact .inl hv
  · exact .inr ⟨hd, hv.mono (Nat.le_refl _) hQ, fun a n c e => hQ _ (hu a n c e)⟩

/-- All pieces of a head are read; they are made now. -/
def GotPost (w : World) (Q : Nat → Prop) (p : Nat) (s : UInt32) (nK P z : Nat) (img : List UInt8) (e : Ending) (w' : World) : Prop :=
  ∃ v, e = .returned v ∧ RdL w' v (pieces s nK P z img) ∧ Hd w' (fun x => Q x ∨ w.heap.size ≤ x) p s nK P z img ∧ Keeps [p] w w' ∧ ∃ b, w'.cell? ⟨p, 0, none⟩ = some b

set_option maxRecDepth 100000 in
set_option maxHeartbeats 1600000 in
theorem hdpieces_calls {w : World} {p : Nat} {s : UInt32} {nK P z : Nat} {img : List UInt8} {Q : Nat → Prop} (h : Hd w Q p s nK P z img) :
    Calls Tryz.prog 36 #[.pointer (some ⟨p, 0, none⟩)] w (GotPost w Q p s nK P z img) := by
  obtain ⟨hf, hq, vi, d, v, hb, hi, hv⟩ := h
  have hmf : ∀ (fn : Fn) (first cap : Array Value) (w : World), (Instr.makeFunc fn first cap).run Tryz.prog w = .ok (.func fn first cap) w := fun _ _ _ _ => rfl
  have kA : Keeps [] w (w.alloc (.cells #[.pointer (some ⟨p, 0, none⟩)] 44)) := (Keeps.refl [] w).alloc _
  have t0 : (w.alloc (.cells #[.pointer (some ⟨p, 0, none⟩)] 44)).cell? ⟨w.heap.size, 0, none⟩ = some (.pointer (some ⟨p, 0, none⟩)) := (Blk.newA w _ _).cell' rfl
  have hpl := hb.lt
  have hbA := hb.keeps kA (by simp)
  have hiA := hi.keepsNil kA
  have hne : w.heap.size ≠ p := by omega
  have hsA : (w.alloc (.cells #[.pointer (some ⟨p, 0, none⟩)] 44)).heap.size = w.heap.size + 1 := by simp
  rcases hv with ⟨rfl, rfl⟩ | ⟨rfl, hP, hU⟩
  · have hO := hdonce_calls hbA hiA.1 hf t0 hne
    have Hi := Lib.hid hiA
    clear hi hiA hb
    go_enter Tryz.func36, Tryz.ntmps36
    go_wp2_with fail
    generalize w.alloc (.cells #[.pointer (some ⟨p, 0, none⟩)] 44) = w0 at *
    refine hO.mono ?_
    rintro e w1 ⟨v, rfl, hb1, hP1, k1⟩
    have hS : ∀ x, x ∈ [p] → ∃ t cs, Blk w0 x t cs ∧ 5 ≠ t := fun x hx => by simp only [List.mem_singleton] at hx; subst hx; exact ⟨_, _, hbA, by decide⟩
    have t1 : w1.cell? ⟨w.heap.size, 0, none⟩ = some (.pointer (some ⟨p, 0, none⟩)) := (World.cell?_of_block (a := ⟨w.heap.size, 0, none⟩) (k1.block w.heap.size (by show w.heap.size < w0.heap.size; omega) (by simp; omega))).trans t0
    have HI1 := Lib.hid (show RdA Q w1 vi img from ⟨Hi.out.1.keepsP k1 hS, Hi.out.2⟩)
    have HP1 := Lib.hid hP1
    have HR1 := Lib.hid hP1.rdl
    obtain ⟨av, bv, rfl, _⟩ := hP1.rdl
    have c8 := hb1.cell' (i := 8) rfl
    have c0 := hb1.cell' (i := 0) rfl
    have Hb1 := Lib.hid hb1
    clear hP1 hb1
    go_wp2_with fail
    go_ret
    have hwq : ∀ x, w0.heap.size ≤ x → Q x ∨ w.heap.size ≤ x := fun x hx => .inr (by omega)
    exact ⟨_, rfl, HR1.out, ⟨hf, .inl hq, vi, 1, _, Hb1.out, ⟨HI1.out.1, fun a n c e => .inl (HI1.out.2 a n c e)⟩, .inr ⟨rfl, HP1.out.mono (Nat.zero_le _) hwq, fun a n c e => hwq _ (HP1.out.up a n c e)⟩⟩, kA.nil.trans k1, _, c0⟩
  · have hPA := hP.keepsNil kA
    have hO := oncedone_calls ⟨p, 5, none⟩ (.func (.func 54) #[] #[.pointer (some ⟨w.heap.size, 0, none⟩)]) _ (hbA.cell' (i := 5) rfl)
    have Hi := Lib.hid hiA
    have HPA := Lib.hid hPA
    have HRA := Lib.hid hPA.rdl
    obtain ⟨av, bv, rfl, _⟩ := hPA.rdl
    have c8 := hbA.cell' (i := 8) rfl
    have c0 := hbA.cell' (i := 0) rfl
    have HbA := Lib.hid hbA
    clear hi hiA hb hP hPA hbA
    go_enter Tryz.func36, Tryz.ntmps36
    go_wp2_with fail
    generalize w.alloc (.cells #[.pointer (some ⟨p, 0, none⟩)] 44) = w0 at *
    refine hO.mono ?_
    rintro e w1 ⟨rfl, rfl⟩
    go_wp2_with fail
    go_ret
    exact ⟨_, rfl, HRA.out, Hd.mono ⟨hf, hq, vi, 1, _, HbA.out, Hi.out, .inr ⟨rfl, HPA.out, hU⟩⟩ (fun x hx => .inl hx), kA.nil, _, c0⟩

end Go.Proofs.YtghgmchgbhdldaaGreatDoor
