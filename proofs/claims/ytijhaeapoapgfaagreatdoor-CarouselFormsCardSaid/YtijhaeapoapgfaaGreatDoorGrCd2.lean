/-
  GrCd2: the texts Cd2, Put4, VecX, El1, Bk3, ApDeg, one behind another.
-/
import Derived.Test.YtijhaeapoapgfaaGreatDoorGrPre1
import Derived.Test.YtijhaeapoapgfaaGreatDoorGrVecL
import Derived.RegionTactic
import Derived.Laws.Bits128
import Derived.Test.YtijhaeapoapgfaaGreatDoorGrElM
import Derived.Test.YtijhaeapoapgfaaGreatDoorGrSol2
set_option linter.unusedVariables false
set_option linter.unusedSimpArgs false
namespace Go.Proofs.YtijhaeapoapgfaaGreatDoor
open Go.RowKit
attribute [local go_sem ↓] Go.wp_at_zero Go.wp_at_succ

def HdPost (w : World) (p : Nat) (s : UInt32) (nK P z : Nat) (vi : Value) (img : List UInt8) (e : Ending) (w' : World) : Prop :=
  ∃ v, e = .returned (.tuple #[]) ∧ Blk w' p 129 [B32 s, .int .i64 nK, .int .i64 P, .int .i64 z, vi, .int .u32 1, .int .i32 0, .int .u32 0, v] ∧ PcsA w' w.heap.size (w.heap.size ≤ ·) v (pieces s nK P z img) ∧ Keeps [p] w w'

set_option maxRecDepth 100000 in
set_option maxHeartbeats 1600000 in
theorem hdslow_calls {w : World} {p bx : Nat} {s : UInt32} {nK P z : Nat} {vi : Value} {img : List UInt8} (hb : Blk w p 129 [B32 s, .int .i64 nK, .int .i64 P, .int .i64 z, vi, .int .u32 0, .int .i32 0, .int .u32 0, .slice none 0 0]) (hi : RdS w vi img) (hf : Fits nK P z img)
    (hbx : w.cell? ⟨bx, 0, none⟩ = some (.pointer (some ⟨p, 0, none⟩))) (hne : bx ≠ p) :
    Calls Tryz.prog 147 #[.pointer (some ⟨p, 5, none⟩), .func (.func 120) #[] #[.pointer (some ⟨bx, 0, none⟩)]] w (HdPost w p s nK P z vi img) := by
  have hb1 := hb.set 6 (.int .i32 1)
  have kp : Keeps [p] w (w.setCell ⟨p, 6, none⟩ (.int .i32 1)) := (Keeps.refl [p] w).setCell (by simp) _
  have hS : ∀ x, x ∈ [p] → ∃ t cs, Blk w x t cs ∧ 5 ≠ t := fun x hx => by simp only [List.mem_singleton] at hx; subst hx; exact ⟨_, _, hb, by decide⟩
  have hbx1 := World.cell?_setCell_other w ⟨p, 6, none⟩ ⟨bx, 0, none⟩ (.int .i32 1) (fun h => hne (congrArg Addr.block h).symm)
  have hF := hdfn_calls hb1 (hi.keepsP kp hS) hf (hbx1.trans hbx) hne
  have hsz : (w.setCell ⟨p, 6, none⟩ (.int .i32 1)).heap.size = w.heap.size := by simp [World.setCell]
  have hpl := hb.lt
  have hl := run_call_load (P := Tryz.prog) Tryz.func179 (by kernel_rfl) (by kernel_rfl) (by kernel_rfl) .u32 (by kernel_rfl) (w := w.setCell ⟨p, 6, none⟩ (.int .i32 1)) (a := ⟨p, 5, none⟩) (x := 0) (hb1.cell' (i := 5) rfl)
  have hnot : ∀ (x : Bool) (w : World), (Op.unary .not (.bool x)).run Tryz.prog w = .ok (.bool (!x)) w := fun _ _ => rfl
  have c2 := hb.cell' (i := 6) rfl
  have f2 := hb.frozen 6
  clear hbx hbx1 hi
  go_enter_defers Tryz.func147, Tryz.ntmps147
  go_wp2_with (first | (go_at_call 180; refine (lock_free ⟨p, 6, none⟩ _ c2 f2).mono ?_; rintro e w' ⟨rfl, rfl⟩) | (go_at_call 146; go_in) | (go_at_call 120; refine hF.mono ?_; rintro e w2 ⟨v, rfl, hb2, hO, hK⟩))
  have b3 := hb2.drew.set 5 (.int .u32 1)
  have b4 := b3.set 6 (.int .i32 0)
  have k3 : Keeps [p] w2 (w2.drew.setCell ⟨p, 5, none⟩ (.int .u32 1)) := ((Keeps.refl [p] w2).drew).setCell (by simp) _
  have k4 : Keeps [p] w2 ((w2.drew.setCell ⟨p, 5, none⟩ (.int .u32 1)).setCell ⟨p, 6, none⟩ (.int .i32 0)) := k3.setCell (by simp) _
  have o4 := hO.keepsP k4 (fun x hx => by simp only [List.mem_singleton] at hx; subst hx; exact ⟨_, _, hb2, by decide, by decide⟩)
  go_wp2
  refine leaves_cons (f := 182) (args := #[.pointer (some ⟨p, 5, none⟩), .bool true]) (by simp) (by simp [go_sem]) ?_
  refine (store_deferred ⟨p, 5, none⟩ (.int .u32 0) .returning _ (hb2.cell' (i := 5) rfl) (hb2.frozen 5)).mono ?_
  rintro e u' w'' ⟨rfl, rfl, rfl⟩
  refine leaves_cons (f := 181) (args := #[.pointer (some ⟨p, 6, none⟩)]) (by simp [settle]) (by simp [go_sem]) ?_
  refine (unlock_deferred ⟨p, 6, none⟩ _ _ (b3.cell' (i := 6) rfl) (b3.frozen 6)).mono ?_
  rintro e u' w'' ⟨rfl, rfl, rfl⟩
  simp [Leaves, settle, results, Tryz.results147]
  exact ⟨v, rfl, b4, o4.mono (by omega) (fun x hx => by omega), (kp.trans hK).trans k4⟩

set_option maxRecDepth 100000 in
set_option maxHeartbeats 1600000 in
theorem hdonce_calls {w : World} {p bx : Nat} {s : UInt32} {nK P z : Nat} {vi : Value} {img : List UInt8} (hb : Blk w p 129 [B32 s, .int .i64 nK, .int .i64 P, .int .i64 z, vi, .int .u32 0, .int .i32 0, .int .u32 0, .slice none 0 0]) (hi : RdS w vi img) (hf : Fits nK P z img)
    (hbx : w.cell? ⟨bx, 0, none⟩ = some (.pointer (some ⟨p, 0, none⟩))) (hne : bx ≠ p) :
    Calls Tryz.prog 100 #[.pointer (some ⟨p, 5, none⟩), .func (.func 120) #[] #[.pointer (some ⟨bx, 0, none⟩)]] w (HdPost w p s nK P z vi img) := by
  have hS := hdslow_calls hb hi hf hbx hne
  have c1 := hb.cell' (i := 5) rfl
  have hl := run_call_load (P := Tryz.prog) Tryz.func179 (by kernel_rfl) (by kernel_rfl) (by kernel_rfl) .u32 (by kernel_rfl) c1
  have hnot : ∀ (x : Bool) (w : World), (Op.unary .not (.bool x)).run Tryz.prog w = .ok (.bool (!x)) w := fun _ _ => rfl
  clear hi hbx
  go_enter Tryz.func100, Tryz.ntmps100
  go_wp2_with (first | (go_at_call 147; refine hS.mono ?_; rintro e w2 ⟨v, rfl, hb2, hO, hK⟩) | (go_at_call 146; go_in))
  go_end0
  exact ⟨v, rfl, hb2, hO, hK⟩

theorem oncedone_calls (a : Addr) (fv : Value) (w : World) (h0 : w.cell? a = some (.int .u32 1)) :
    Calls Tryz.prog 100 #[.pointer (some a), fv] w fun e w' => e = .returned (.tuple #[]) ∧ w' = w := by
  have hl := run_call_load (P := Tryz.prog) Tryz.func179 (by kernel_rfl) (by kernel_rfl) (by kernel_rfl) .u32 (by kernel_rfl) h0
  have hnot : ∀ (x : Bool) (w : World), (Op.unary .not (.bool x)).run Tryz.prog w = .ok (.bool (!x)) w := fun _ _ => rfl
  go_enter Tryz.func100, Tryz.ntmps100
  go_wp2_with (go_at_call 146; go_in)
  go_end0
  exact ⟨rfl, rfl⟩

/-- A head of an image: its pieces made, or not yet; all its blocks meet Q. -/
structure Hd (w : World) (Q : Nat → Prop) (p : Nat) (s : UInt32) (nK P z : Nat) (img : List UInt8) : Prop where
  fits : Fits nK P z img
  q : Q p
  b : ∃ vi d v, Blk w p 129 [B32 s, .int .i64 nK, .int .i64 P, .int .i64 z, vi, .int .u32 d, .int .i32 0, .int .u32 0, v] ∧ RdA Q w vi img ∧ ((d = 0 ∧ v = .slice none 0 0) ∨ (d = 1 ∧ PcsA w 0 Q v (pieces s nK P z img) ∧ Up Q v))

theorem Hd.keeps {S : List Nat} {w w' : World} {Q : Nat → Prop} {p : Nat} {s : UInt32} {nK P z : Nat} {img : List UInt8} (h : Hd w Q p s nK P z img) (k : Keeps S w w') (hS : ∀ x, x ∈ S → ¬ Q x) : Hd w' Q p s nK P z img := by
  obtain ⟨hf, hq, vi, d, v, hb, hi, hv⟩ := h
  refine ⟨hf, hq, vi, d, v, hb.keeps k (fun hp => hS p hp hq), ⟨hi.1.keepsQ hi.2 k hS, hi.2⟩, ?_⟩
  rcases hv with hv | ⟨hd, hv, hu⟩
  · exact .inl hv
  · exact .inr ⟨hd, hv.keepsQ hu k hS, hu⟩
theorem Hd.keepsNil {w w' : World} {Q : Nat → Prop} {p : Nat} {s : UInt32} {nK P z : Nat} {img : List UInt8} (h : Hd w Q p s nK P z img) (k : Keeps [] w w') : Hd w' Q p s nK P z img := h.keeps k (by simp)
theorem Hd.mono {w : World} {Q Q' : Nat → Prop} {p : Nat} {s : UInt32} {nK P z : Nat} {img : List UInt8} (h : Hd w Q p s nK P z img) (hQ : ∀ x, Q x → Q' x) : Hd w Q' p s nK P z img := by
  obtain ⟨hf, hq, vi, d, v, hb, hi, hv⟩ := h
  refine ⟨hf, hQ _ hq, vi, d, v, hb, ⟨hi.1, fun a n c e => hQ _ (hi.2 a n c e)⟩, ?_⟩
  rcases hv with hv | ⟨hd, hv, hu⟩
  · exact .inl hv
  · exact .inr ⟨hd, hv.mono (Nat.le_refl _) hQ, fun a n c e => hQ _ (hu a n c e)⟩

/-- All pieces of a head are read; they are made now. -/
def GotPost (w : World) (Q : Nat → Prop) (p : Nat) (s : UInt32) (nK P z : Nat) (img : List UInt8) (e : Ending) (w' : World) : Prop :=
  ∃ v, e = .returned v ∧ RdL w' v (pieces s nK P z img) ∧ Hd w' (fun x => Q x ∨ w.heap.size ≤ x) p s nK P z img ∧ Keeps [p] w w' ∧ ∃ b, w'.cell? ⟨p, 0, none⟩ = some b

set_option maxRecDepth 100000 in
set_option maxHeartbeats 1600000 in
theorem hdpieces_calls {w : World} {p : Nat} {s : UInt32} {nK P z : Nat} {img : List UInt8} {Q : Nat → Prop} (h : Hd w Q p s nK P z img) :
    Calls Tryz.prog 72 #[.pointer (some ⟨p, 0, none⟩)] w (GotPost w Q p s nK P z img) := by
  obtain ⟨hf, hq, vi, d, v, hb, hi, hv⟩ := h
  have hmf : ∀ (fn : Fn) (first cap : Array Value) (w : World), (Instr.makeFunc fn first cap).run Tryz.prog w = .ok (.func fn first cap) w := fun _ _ _ _ => rfl
  have kA : Keeps [] w (w.alloc (.cells #[.pointer (some ⟨p, 0, none⟩)] 67)) := (Keeps.refl [] w).alloc _
  have t0 : (w.alloc (.cells #[.pointer (some ⟨p, 0, none⟩)] 67)).cell? ⟨w.heap.size, 0, none⟩ = some (.pointer (some ⟨p, 0, none⟩)) := (Blk.newA w _ _).cell' rfl
  have hpl := hb.lt
  have hbA := hb.keeps kA (by simp)
  have hiA := hi.keepsNil kA
  have hne : w.heap.size ≠ p := by omega
  have hsA : (w.alloc (.cells #[.pointer (some ⟨p, 0, none⟩)] 67)).heap.size = w.heap.size + 1 := by simp
  rcases hv with ⟨rfl, rfl⟩ | ⟨rfl, hP, hU⟩
  · have hO := hdonce_calls hbA hiA.1 hf t0 hne
    have Hi := Lib.hid hiA
    clear hi hiA hb
    go_enter Tryz.func72, Tryz.ntmps72
    go_wp2_with fail
    generalize w.alloc (.cells #[.pointer (some ⟨p, 0, none⟩)] 67) = w0 at *
    refine hO.mono ?_
    rintro e w1 ⟨v, rfl, hb1, hP1, k1⟩
    have hS : ∀ x, x ∈ [p] → ∃ t cs, Blk w0 x t cs ∧ 5 ≠ t := fun x hx => by simp only [List.mem_singleton] at hx; subst hx; exact ⟨_, _, hbA, by decide⟩
    have t1 : w1.cell? ⟨w.heap.size, 0, none⟩ = some (.pointer (some ⟨p, 0, none⟩)) := (World.cell?_of_block (a := ⟨w.heap.size, 0, none⟩) (k1.block w.heap.size (by show w.heap.size < w0.heap.size; omega) (by simp; omega))).trans t0
    have HI1 := Lib.hid (show RdA Q w1 vi img from ⟨Hi.out.1.keepsP k1 hS, Hi.out.2⟩)
    have HP1 := Lib.hid hP1
    have HR1 := Lib.hid hP1.rdl
    obtain ⟨av, bv, rfl, _⟩ := hP1.rdl
    have c8 := hb1.cell' (i := 8) rfl
    have c0 := hb1.cell' (i := 0) rfl
    have Hb1 := Lib.hid hb1
    clear hP1 hb1
    go_wp2_with fail
    go_ret
    have hwq : ∀ x, w0.heap.size ≤ x → Q x ∨ w.heap.size ≤ x := fun x hx => .inr (by omega)
    exact ⟨_, rfl, HR1.out, ⟨hf, .inl hq, vi, 1, _, Hb1.out, ⟨HI1.out.1, fun a n c e => .inl (HI1.out.2 a n c e)⟩, .inr ⟨rfl, HP1.out.mono (Nat.zero_le _) hwq, fun a n c e => hwq _ (HP1.out.up a n c e)⟩⟩, kA.nil.trans k1, _, c0⟩
  · have hPA := hP.keepsNil kA
    have hO := oncedone_calls ⟨p, 5, none⟩ (.func (.func 120) #[] #[.pointer (some ⟨w.heap.size, 0, none⟩)]) _ (hbA.cell' (i := 5) rfl)
    have Hi := Lib.hid hiA
    have HPA := Lib.hid hPA
    have HRA := Lib.hid hPA.rdl
    obtain ⟨av, bv, rfl, _⟩ := hPA.rdl
    have c8 := hbA.cell' (i := 8) rfl
    have c0 := hbA.cell' (i := 0) rfl
    have HbA := Lib.hid hbA
    clear hi hiA hb hP hPA hbA
    go_enter Tryz.func72, Tryz.ntmps72
    go_wp2_with fail
    generalize w.alloc (.cells #[.pointer (some ⟨p, 0, none⟩)] 67) = w0 at *
    refine hO.mono ?_
    rintro e w1 ⟨rfl, rfl⟩
    go_wp2_with fail
    go_ret
    exact ⟨_, rfl, HRA.out, Hd.mono ⟨hf, hq, vi, 1, _, HbA.out, Hi.out, .inr ⟨rfl, HPA.out, hU⟩⟩ (fun x hx => .inl hx), kA.nil, _, c0⟩

end Go.Proofs.YtijhaeapoapgfaaGreatDoor

set_option linter.unusedVariables false
namespace Go.Proofs.YtijhaeapoapgfaaGreatDoor
open Go.RowKit

theorem Own.lit8 (w : World) (c : Array Value) (l : List UInt8) (n : Nat) (hc : c.toList = l.map B8) (hn : l.length = n) (hm : n ≤ 1000000) :
    Own (w.alloc (.cells c 5)) w.heap.size (.slice (some ⟨w.heap.size, 0, none⟩) n n) l := by
  have hcs : c.size = n := by rw [← Array.length_toList, hc, List.length_map, hn]
  have hg : (w.alloc (.cells c 5)).heap[w.heap.size]? = some (.cells c 5 (0, 0)) := by
    show (w.heap.push _)[w.heap.size]? = _
    simp
  refine ⟨by simp, .inr ⟨w.heap.size, n, c, by rw [hn], Nat.le_refl _, hg, by omega, by unfold maxLen; omega, by omega, ?_⟩⟩
  rw [hc, List.take_of_length_le (by rw [List.length_map]; omega)]
theorem Own.ge8 {w : World} {B : Nat} {v : Value} {l : List UInt8} (h : Own w B v l) : ∀ y, v.ownBlock = some y → B ≤ y := by
  intro y hy
  rcases h.2 with ⟨rfl, _⟩ | ⟨g, cap, cur, rfl, hb, _⟩
  · simp [Value.ownBlock] at hy
  · simp [Value.ownBlock] at hy; omega

theorem Blk.put4 {w : World} {p : Nat} {t : TypeId} {a0 b0 c0 d0 : Value} (h : Blk w p t [a0, b0, c0, d0]) (a b c d : Value) :
    Blk ((((w.setCell ⟨p, 0, none⟩ a).setCell ⟨p, 1, none⟩ b).setCell ⟨p, 2, none⟩ c).setCell ⟨p, 3, none⟩ d) p t [a, b, c, d] := (((h.set 0 a).set 1 b).set 2 c).set 3 d
theorem Keeps.put4 {S : List Nat} {w' w : World} {p : Nat} (k : Keeps S w' w) (hp : p ∈ S ∨ w'.heap.size ≤ p) (a b c d : Value) :
    Keeps S w' ((((w.setCell ⟨p, 0, none⟩ a).setCell ⟨p, 1, none⟩ b).setCell ⟨p, 2, none⟩ c).setCell ⟨p, 3, none⟩ d) := (((k.setCell hp _).setCell hp _).setCell hp _).setCell hp _

end Go.Proofs.YtijhaeapoapgfaaGreatDoor

set_option linter.unusedVariables false
set_option linter.unusedSimpArgs false
namespace Go.Proofs.YtijhaeapoapgfaaGreatDoor
open Go.RowKit
attribute [local go_sem ↓] Go.wp_at_zero Go.wp_at_succ

/-- The library's table lies there. -/
def TzAt (w : World) : Prop := ∀ k, k < 64 → w.cell? ⟨1, k, none⟩ = some (.int .u8 (tzTab.getD k 0 : Nat))
theorem TzAt.keeps {S : List Nat} {w w' : World} (h : TzAt w) (k : Keeps S w w') (hS : 1 ∉ S) : TzAt w' := fun i hi =>
  (World.cell?_of_block (a := ⟨1, i, none⟩) (k.block 1 (World.block_lt_of_cell? w _ (h i hi)) hS)).trans (h i hi)

theorem tz_val (x k : Nat) (hx : x < 18446744073709551616) (hk : k < 64) (h0 : x ≠ 0) (he : x &&& (18446744073709551616 - x) = 2 ^ k) :
    IntKind.u64.wrap (bits .and .u64 (x : Int) (IntKind.u64.wrap (-(x : Int))) * 285870213051353865) / 288230376151711744 = ((2 ^ k * 285870213051353865 % 18446744073709551616 / 288230376151711744 : Nat) : Int) := by
  have h1 : IntKind.u64.wrap (-(x : Int)) = ((18446744073709551616 - x : Nat) : Int) := by rw [IntKind.wrap_u64]; omega
  rw [h1, u64_and_nat _ _ hx (by omega), he, IntKind.wrap_u64]
  generalize 2 ^ k = v
  omega

set_option maxRecDepth 100000 in
theorem tz_calls {w : World} (ht : TzAt w) (x k : Nat) (hx : x < 18446744073709551616) (h0 : x ≠ 0) (hk : k < 64) (he : x &&& (18446744073709551616 - x) = 2 ^ k) :
    Calls Tryz.prog 175 #[U64 x] w fun e w' => e = .returned (.int .i64 k) ∧ w = w' := by
  have hE := tz_val x k hx hk h0 he
  have hc : w.cell? ⟨1, (IntKind.u64.wrap (bits .and .u64 (x : Int) (IntKind.u64.wrap (-(x : Int))) * 285870213051353865) / 288230376151711744).toNat, none⟩ = some (.int .u8 k) := by
    rw [hE, Int.toNat_natCast, ht _ (by omega), tzTab_at ⟨k, hk⟩]
  have hb : 0 ≤ IntKind.u64.wrap (bits .and .u64 (x : Int) (IntKind.u64.wrap (-(x : Int))) * 285870213051353865) / 288230376151711744 ∧ IntKind.u64.wrap (bits .and .u64 (x : Int) (IntKind.u64.wrap (-(x : Int))) * 285870213051353865) / 288230376151711744 < 64 := by
    rw [hE]; omega
  have h0' : ((x : Int) == 0) = false := by simp; omega
  have HE := Lib.hid hE
  clear hE he
  go_enter Tryz.func175, Tryz.ntmps175
  go_wp2_with fail
  go_ret
  exact ⟨rfl, rfl⟩


/-- A row that was copied: there may be room behind its words. -/
structure VcAt (w : World) (p g n X c : Nat) (t : List Value) : Prop where
  b : Blk w p 235 [.int .i64 n, .slice (some ⟨g, 0, none⟩) (nw n) c]
  r : Blk w g 25 ((words n X).map U64 ++ t)
  lt : X < 2 ^ n
  le : n ≤ 256
  hc : nw n ≤ c

theorem VecAt.vc {w : World} {p g n X : Nat} (h : VecAt w p g n X) : VcAt w p g n X (nw n) [] := ⟨h.b, by rw [List.append_nil]; exact h.r, h.lt, h.le, Nat.le_refl _⟩
theorem VcAt.ne {w : World} {p g n X c : Nat} {t : List Value} (h : VcAt w p g n X c t) : p ≠ g := h.b.ne h.r (by decide)
theorem VcAt.keeps {S : List Nat} {w w' : World} {p g n X c : Nat} {t : List Value} (h : VcAt w p g n X c t) (k : Keeps S w w') (hp : p ∉ S) (hg : g ∉ S) : VcAt w' p g n X c t := ⟨h.b.keeps k hp, h.r.keeps k hg, h.lt, h.le, h.hc⟩
theorem VcAt.wd {w : World} {p g n X c k : Nat} {t : List Value} (h : VcAt w p g n X c t) (hk : k < nw n) : w.cell? ⟨g, k, none⟩ = some (U64 (word X k)) := by
  rw [← words_at n X hk]
  have hl : k < (words n X).length := by rw [words_len]; exact hk
  refine h.r.cell' ?_
  rw [List.getElem?_append_left (by simpa using hl), List.getElem?_map, List.getD, List.getElem?_eq_getElem hl]
  rfl
theorem VcAt.set {w : World} {p g n X Y c k v : Nat} {t : List Value} (h : VcAt w p g n X c t) (hk : k < nw n) (hY : (words n X).set k v = words n Y) (hl : Y < 2 ^ n) : VcAt (w.setCell ⟨g, k, none⟩ (U64 v)) p g n Y c t := by
  have hkl : k < ((words n X).map U64).length := by rw [List.length_map, words_len]; exact hk
  refine ⟨h.b.setOther _ h.ne, ?_, hl, h.le, h.hc⟩
  rw [← hY, ← map_setU, ← List.set_append_left _ _ hkl]
  exact h.r.set _ _

set_option maxRecDepth 100000 in
theorem vcwithin_calls {w : World} {p g n X c : Nat} {t : List Value} (h : VcAt w p g n X c t) (i : Nat) (hi : i < n) :
    Calls Tryz.prog 172 #[.pointer (some ⟨p, 0, none⟩), .int .i64 i] w fun e w' => e = .returned (.bool true) ∧ w = w' := by
  have c0 := h.b.cell' (i := 0) rfl
  go_enter Tryz.func172, Tryz.ntmps172
  go_wp2_with fail
  go_ret
  exact ⟨rfl, rfl⟩

set_option maxRecDepth 100000 in
theorem vchas_calls {w : World} {p g n X c : Nat} {t : List Value} (h : VcAt w p g n X c t) (i : Nat) (hi : i < n) :
    Calls Tryz.prog 130 #[.pointer (some ⟨p, 0, none⟩), .int .i64 i] w fun e w' => e = .returned (.bool (X.testBit i)) ∧ w = w' := by
  have hw := vcwithin_calls h i hi
  have hN : nw n = (n + 63) / 64 := rfl
  have hk0 : i < 256 := by have := h.le; omega
  have c1 := h.b.cell' (i := 1) rfl
  have cw := h.wd (k := i / 64) (by unfold nw; omega)
  go_enter Tryz.func130, Tryz.ntmps130
  go_wp2_with fail
  refine hw.mono ?_
  rintro e w' ⟨rfl, rfl⟩
  go_wp2_with fail
  go_ret
  exact ⟨by rw [has_val]; rfl, rfl⟩

set_option maxRecDepth 100000 in
theorem vcfirst_calls {w : World} {p g n X c : Nat} {tl : List Value} (h : VcAt w p g n X c tl) (ht : TzAt w) :
    Calls Tryz.prog 136 #[.pointer (some ⟨p, 0, none⟩)] w fun e w' => e = .returned (.int .i64 (firstB n X)) ∧ w = w' := by
  have c1 := h.b.cell' (i := 1) rfl
  have hN : nw n ≤ 4 := by have := h.le; unfold nw; omega
  have hfs := fun k t hz h1 h2 h3 => first_word (n := n) (X := X) (k := k) (t := t) h.lt hz h1 h2 h3
  have hfn := first_none (n := n) (X := X)
  have hcw := fun k (hk : k < nw n) => h.wd hk
  have Hcw := Lib.hid hcw
  have Hfs := Lib.hid hfs
  have Hfn := Lib.hid hfn
  clear hcw hfs hfn
  generalize nw n = N at *
  go_enter Tryz.func136, Tryz.ntmps136
  go_wp2_with fail
  go_loopw [12] (fun i wr => ∃ k : Nat, k ≤ N ∧ i = .int .i64 k ∧ (∀ j, j < k → word X j = 0) ∧ wr = w) (fun i _ => N - (intOf i).toNat)
  case atStart => exact ⟨0, Nat.zero_le _, rfl, fun j hj => absurd hj (Nat.not_lt_zero _), rfl⟩
  case round =>
    obtain ⟨k, hk, rfl, hz, rfl⟩ := hrel
    by_cases hlt : k < N
    · have cw := Hcw.out k hlt
      by_cases h0 : word X k = 0
      · rw [h0] at cw
        have Hz := Lib.hid hz
        have H0 := Lib.hid h0
        clear hz h0
        go_wp2_with fail
        go_roundw
        case rel =>
          refine ⟨k + 1, by omega, by go_num, fun j hj => ?_, trivial⟩
          by_cases hjk : j = k
          · subst hjk; exact H0.out
          · exact Hz.out j (by omega)
        case measure => simp [intOf]; omega
      · have hwl := word_lt X k
        obtain ⟨t, ht64, he, ht1, ht2⟩ := word_low hwl h0
        have hT := tz_calls ht (word X k) t hwl h0 ht64 he
        have hF := Hfs.out k t hz ht64 ht1 ht2
        have hne : ((word X k : Int) == 0) = false := by simp; omega
        have HF := Lib.hid hF
        clear hF he ht1 ht2 hz
        generalize word X k = x at *
        go_wp2_with fail
        refine hT.mono ?_
        rintro e w' ⟨rfl, rfl⟩
        go_wp2_with fail
        go_ret
        exact ⟨by rw [HF.out]; simp; omega, rfl⟩
    · obtain rfl : N = k := by omega
      have HF := Lib.hid (Hfn.out hz)
      clear hz
      go_wp2_with fail
      go_ret
      exact ⟨by rw [HF.out]; rfl, rfl⟩

/-- The first k words of a sum. -/
def xorK (X Y k : Nat) : Nat := X ^^^ (Y % 2 ^ (64 * k))
theorem xorK_word (n X Y k : Nat) (hk : k < nw n) : (words n (xorK X Y k)).set k (word (xorK X Y k) k ^^^ word Y k) = words n (xorK X Y (k + 1)) := by
  have hm : ∀ a j, word (Y % 2 ^ (64 * a)) j = if j < a then word Y j else 0 := fun a j => by
    apply Nat.eq_of_testBit_eq
    intro t
    rw [word_testBit, Nat.testBit_mod_two_pow]
    split
    · next h =>
      rw [word_testBit]
      by_cases ht : t < 64
      · have : 64 * j + t < 64 * a := by omega
        simp [ht, this]
      · simp [ht]
    · next h =>
      by_cases ht : t < 64
      · have : ¬ 64 * j + t < 64 * a := by omega
        simp [this]
      · simp [ht]
  refine words_ext (by rw [List.length_set, words_len]) (fun j hj => ?_)
  rw [getD_set _ _ _ _ (by rw [words_len]; exact hk)]
  unfold xorK
  rw [word_xor, word_xor, hm, hm]
  split
  · next h => subst h; rw [if_neg (by omega), if_pos (by omega), Nat.xor_zero]
  · next h =>
    rw [words_at _ _ hj, word_xor, hm]
    by_cases h2 : j < k
    · rw [if_pos h2, if_pos (by omega)]
    · rw [if_neg h2, if_neg (by omega)]
theorem xorK_all {n X Y : Nat} (hY : Y < 2 ^ n) : xorK X Y (nw n) = X ^^^ Y := by
  unfold xorK
  rw [Nat.mod_eq_of_lt (Nat.lt_of_lt_of_le hY (Nat.pow_le_pow_right (by omega) (by unfold nw; omega)))]
theorem xorK_lt {n X Y k : Nat} (hX : X < 2 ^ n) (hY : Y < 2 ^ n) : xorK X Y k < 2 ^ n := xor_lt hX (Nat.lt_of_le_of_lt (Nat.mod_le _ _) hY)

def VcPost (w : World) (p g n X c : Nat) (t : List Value) (v : Value) (e : Ending) (w' : World) : Prop := e = .returned v ∧ VcAt w' p g n X c t ∧ Keeps [g] w w'

set_option maxRecDepth 100000 in
set_option maxHeartbeats 1000000 in
theorem vcxor_calls {w : World} {p g n X q r Y c c' : Nat} {t t' : List Value} (h : VcAt w p g n X c t) (h' : VcAt w q r n Y c' t') (hqg : q ≠ g) (hrg : r ≠ g) :
    Calls Tryz.prog 176 #[.pointer (some ⟨p, 0, none⟩), .pointer (some ⟨q, 0, none⟩)] w (VcPost w p g n (X ^^^ Y) c t (.bool true)) := by
  have c0 := h.b.cell' (i := 0) rfl
  have c1 := h.b.cell' (i := 1) rfl
  have d0 := h'.b.cell' (i := 0) rfl
  have hN : nw n ≤ 4 := by have := h.le; unfold nw; omega
  have hpg := h.ne
  have hXl := h.lt
  have hYl := h'.lt
  have hle := h.le
  go_enter Tryz.func176, Tryz.ntmps176
  go_wp2_with fail
  go_quiet (fail)
  go_wp2_with fail
  have hd : ∀ wr : World, Keeps [g] w wr → VcAt wr q r n Y c' t' := fun wr k => h'.keeps k (by simpa using hqg) (by simpa using hrg)
  have Hd := Lib.hid hd
  have h0 : xorK X Y 0 = X := by unfold xorK; rw [Nat.mul_zero, Nat.pow_zero, Nat.mod_one, Nat.xor_zero]
  have HV0 := Lib.hid (show VcAt (w.drewN _) p g n (xorK X Y 0) c t from by rw [h0]; exact h.keeps ((Keeps.refl [] w).drewN nq) (by simp) (by simp))
  clear hd h0
  go_loopw [28] (fun i wr => ∃ k : Nat, k ≤ nw n ∧ i = .int .i64 k ∧ VcAt wr p g n (xorK X Y k) c t ∧ Keeps [g] w wr) (fun i _ => nw n - (intOf i).toNat)
  case atStart => exact ⟨0, Nat.zero_le _, rfl, HV0.out, (Keeps.refl _ _).drewN nq⟩
  case round =>
    clear HV0 c0 c1 d0 h h'
    obtain ⟨k, hk, rfl, hV, hK⟩ := hrel
    by_cases hlt : k < nw n
    · have hQ := Hd.out wr hK
      have a1 := hV.b.cell' (i := 1) rfl
      have b1 := hQ.b.cell' (i := 1) rfl
      have aw := hV.wd hlt
      have bw := hQ.wd hlt
      have fr := hV.r.frozen k
      have hkn : (k : Int) < (nw n : Int) := by omega
      have hx := xorK_word n X Y k hlt
      have HV := Lib.hid (hV.set hlt hx (xorK_lt hXl hYl))
      have HK := Lib.hid (hK.setCell (p := ⟨g, k, none⟩) (.inl (by simp)) (U64 (word (xorK X Y k) k ^^^ word Y k)))
      have hxv := u64_xor_nat (word (xorK X Y k) k) (word Y k) (word_lt _ _) (word_lt _ _)
      clear hx hV hQ hK
      generalize word (xorK X Y k) k = x at *
      generalize word Y k = y at *
      go_wp2_with fail
      go_region
      go_wp2_with fail
      go_roundw
      case rel => exact ⟨k + 1, by omega, by go_num, HV.out.keeps ((Keeps.refl [] _).drew) (by simp) (by simp), HK.out.drew⟩
      case measure => simp [intOf]; omega
    · obtain rfl : k = nw n := by omega
      rw [xorK_all hYl] at hV
      have HV := Lib.hid hV
      have HK := Lib.hid hK
      clear hV hK
      go_wp2_with fail
      go_ret
      exact ⟨rfl, HV.out, HK.out⟩



/-- A copy of a row, in new memory. -/
def VcNew (w : World) (n X : Nat) (e : Ending) (w' : World) : Prop :=
  ∃ p g c t, e = .returned (.pointer (some ⟨p, 0, none⟩)) ∧ w.heap.size ≤ p ∧ w.heap.size ≤ g ∧ VcAt w' p g n X c t ∧ Keeps [] w w'

theorem vclone_calls {w : World} {g n X c : Nat} (hr : ∀ k, k < nw n → w.cell? ⟨g, k, none⟩ = some (U64 (word X k))) (hn : n ≤ 256) :
    Calls Tryz.prog 192 #[.slice (some ⟨g, 0, none⟩) (nw n) c] w fun e w' => ∃ g' c' t, e = .returned (.slice (some ⟨g', 0, none⟩) (nw n) c') ∧ nw n ≤ c' ∧ w.heap.size ≤ g' ∧ Blk w' g' 25 ((words n X).map U64 ++ t) ∧ Keeps [] w w' := by
  obtain ⟨i0, hi, hz0, hz1, hz2⟩ := info_parts Tryz.info_uint64
  have hN : nw n ≤ 4 := by unfold nw; omega
  refine (Tryz.slices_Clone_u64 i0 _ _ _ hi hz0 hz1 hz2 rfl (by decide) Tryz.sizeOf25 g 0 (nw n) c ((words n X).map U64) w (by rw [List.length_map, words_len]; omega) (by unfold maxLen; omega) (by omega) (fun j u hu => ?_) (fun u hu => ?_)).mono ?_
  · rw [List.getElem?_map] at hu
    have hj : j < nw n := by
      rcases Nat.lt_or_ge j (nw n) with h | h
      · exact h
      · rw [List.getElem?_eq_none (by rw [words_len]; exact h)] at hu; cases hu
    have hw := words_at n X hj
    rw [List.getElem?_eq_getElem (by rw [words_len]; exact hj)] at hu
    rw [List.getD_eq_getElem?_getD, List.getElem?_eq_getElem (by rw [words_len]; exact hj)] at hw
    simp only [Option.map_some, Option.some.injEq, Option.getD_some] at hu hw
    subst hu
    rw [hw, Nat.zero_add]
    exact hr j hj
  · obtain ⟨x, _, rfl⟩ := List.mem_map.1 hu
    rfl
  · rintro e w' ⟨v', rfl, ho, hne, hb⟩
    rcases ho.2 with ⟨rfl, h0⟩ | ⟨g', cap, cur, rfl, hbs, hg, hn', hm, hs, ht⟩
    · exact absurd rfl hne
    · refine ⟨g', cap, cur.toList.drop (nw n), rfl, hn', hbs, ?_, Keeps.of_below hb⟩
      unfold Blk
      rw [hg, ← ht, Nat.mul_one, List.take_append_drop]

set_option maxRecDepth 100000 in
theorem vcopy_calls {w : World} {p g n X c : Nat} {t : List Value} (h : VcAt w p g n X c t) :
    Calls Tryz.prog 174 #[.pointer (some ⟨p, 0, none⟩)] w (VcNew w n X) := by
  have c0 := h.b.cell' (i := 0) rfl
  have c1 := h.b.cell' (i := 1) rfl
  have hC := fun (w' : World) (k : Keeps [] w w') => vclone_calls (w := w') (g := g) (n := n) (X := X) (c := c) (fun i hi => (h.keeps k (by simp) (by simp)).wd hi) h.le
  have hlt := h.lt
  have hle := h.le
  have HC := Lib.hid hC
  clear hC h
  go_enter Tryz.func174, Tryz.ntmps174
  go_wp2_with fail
  refine wp_region_noPanic ?_
  refine wp_region_held_drew (S := (fun w' => w'.cell? ⟨p, 0, none⟩ = some (.int .i64 n) ∧ w'.cell? ⟨p, 1, none⟩ = some (.slice (some ⟨g, 0, none⟩) (nw n) c))) (by kernel_rfl) ⟨c0, c1⟩ (fun hHeld => ?_)
  have kd : Keeps [] w w.drew := (Keeps.refl [] w).drew
  refine wpAnyH_take (i := 0) (v := ?v1_1) rfl (by kernel_rfl) (by kernel_rfl) (by kernel_rfl) (fun _ _ _ h => h) (Or.inl ⟨by rfl, ?y1_1⟩) (by assumption) ?r1_1
  case y1_1 => (intro w hSw; (try dsimp only at hSw); go_simp; try with_reducible rfl)
  (try simp only [Act.put, List.getElem_toArray, List.getElem_cons_zero, List.getElem_cons_succ, List.setIfInBounds_toArray, List.set_cons_zero, List.set_cons_succ])
  refine wpAnyH_take (i := 1) (v := ?v1_2) rfl (by kernel_rfl) (by kernel_rfl) (by kernel_rfl) (fun _ _ _ h => h) (Or.inl ⟨by rfl, ?y1_2⟩) (by assumption) ?r1_2
  case y1_2 => (intro w hSw; (try dsimp only at hSw); go_simp; try with_reducible rfl)
  (try simp only [Act.put, List.getElem_toArray, List.getElem_cons_zero, List.getElem_cons_succ, List.setIfInBounds_toArray, List.set_cons_zero, List.set_cons_succ])
  refine wpAnyH_take (i := 2) (v := ?v1_3) rfl (by kernel_rfl) (by kernel_rfl) (by kernel_rfl) (fun _ _ _ h => h) (Or.inl ⟨by rfl, ?y1_3⟩) (by assumption) ?r1_3
  case y1_3 => (intro w hSw; (try dsimp only at hSw); go_simp; try with_reducible rfl)
  (try simp only [Act.put, List.getElem_toArray, List.getElem_cons_zero, List.getElem_cons_succ, List.setIfInBounds_toArray, List.set_cons_zero, List.set_cons_succ])
  refine wpAnyH_take (i := 3) (v := ?v1_4) rfl (by kernel_rfl) (by kernel_rfl) (by kernel_rfl) (fun _ _ _ h => h) (Or.inl ⟨by rfl, ?y1_4⟩) (by assumption) ?r1_4
  case y1_4 => (intro w hSw; (try dsimp only at hSw); go_simp; try with_reducible rfl)
  (try simp only [Act.put, List.getElem_toArray, List.getElem_cons_zero, List.getElem_cons_succ, List.setIfInBounds_toArray, List.set_cons_zero, List.set_cons_succ])
  refine wpAnyH_take (i := 4) (v := ?v1_5) rfl (by kernel_rfl) (by kernel_rfl) (by kernel_rfl) (fun _ _ _ h => h) (Or.inl ⟨by rfl, ?y1_5⟩) (by assumption) ?r1_5
  case y1_5 => (intro w hSw; (try dsimp only at hSw); go_simp; try with_reducible rfl)
  (try simp only [Act.put, List.getElem_toArray, List.getElem_cons_zero, List.getElem_cons_succ, List.setIfInBounds_toArray, List.set_cons_zero, List.set_cons_succ])
  refine wpAnyH_take (i := 5) (v := ?v1_6) rfl (by kernel_rfl) (by kernel_rfl) (by kernel_rfl) (fun _ _ _ h => h) (Or.inl ⟨by rfl, ?y1_6⟩) (by assumption) ?r1_6
  case y1_6 => (intro w hSw; (try dsimp only at hSw); go_simp; try with_reducible rfl)
  (try simp only [Act.put, List.getElem_toArray, List.getElem_cons_zero, List.getElem_cons_succ, List.setIfInBounds_toArray, List.set_cons_zero, List.set_cons_succ])
  refine wpAnyH_take (i := 6) (v := ?v1_7) rfl (by kernel_rfl) (by kernel_rfl) (by kernel_rfl) (fun _ _ _ h => h) (Or.inl ⟨by rfl, ?y1_7⟩) (by assumption) ?r1_7
  case y1_7 => (intro w hSw; (try dsimp only at hSw); go_simp; try with_reducible rfl)
  (try simp only [Act.put, List.getElem_toArray, List.getElem_cons_zero, List.getElem_cons_succ, List.setIfInBounds_toArray, List.set_cons_zero, List.set_cons_succ])
  refine wpAnyH_take (i := 7) (v := ?v1_8) rfl (by kernel_rfl) (by kernel_rfl) (by kernel_rfl) (fun _ _ _ h => h) (Or.inl ⟨by rfl, ?y1_8⟩) (by assumption) ?r1_8
  case y1_8 => (intro w hSw; (try dsimp only at hSw); go_simp; try with_reducible rfl)
  (try simp only [Act.put, List.getElem_toArray, List.getElem_cons_zero, List.getElem_cons_succ, List.setIfInBounds_toArray, List.set_cons_zero, List.set_cons_succ])
  refine wpAnyH_ready (rs := [8]) (by kernel_rfl) (by simp) ?_
  refine AllReadyH.cons rfl (fun K hK => ?_) AllReadyH.nil
  go_simp
  refine (HC.out _ kd).mono ?_
  rintro e w1 ⟨g', c', t', rfl, hc', hg', hB', k1⟩
  have hs1 := kd.size
  replace kd := kd.trans k1
  have HB' := Lib.hid hB'
  clear hB' k1
  go_wp2_with fail
  refine hK.out _ _ ?s1_9 (fun hHeld => ?_)
  case s1_9 => ((try dsimp only) <;> (first | exact ⟨kd.cell0 c0, kd.cell0 c1⟩))
  clear hK K
  (try simp only [Act.put, List.getElem_toArray, List.getElem_cons_zero, List.getElem_cons_succ, List.setIfInBounds_toArray, List.set_cons_zero, List.set_cons_succ])
  refine wpAnyH_take (i := 9) (v := ?v1_10) rfl (by kernel_rfl) (by kernel_rfl) (by kernel_rfl) (fun _ _ _ h => h) (Or.inl ⟨by rfl, ?y1_10⟩) (by assumption) ?r1_10
  case y1_10 => (intro w hSw; (try dsimp only at hSw); go_simp; try with_reducible rfl)
  (try simp only [Act.put, List.getElem_toArray, List.getElem_cons_zero, List.getElem_cons_succ, List.setIfInBounds_toArray, List.set_cons_zero, List.set_cons_succ])
  refine wpAnyH_ready (rs := [10]) (by kernel_rfl) (by simp) ?_
  refine AllReadyH.cons rfl (fun K hK => ?_) AllReadyH.nil
  go_simp
  refine hK.out _ _ ?s1_11 (fun hHeld => ?_)
  case s1_11 => ((try dsimp only) <;> (first | exact ⟨(kd.alloc _).cell0 c0, (kd.alloc _).cell0 c1⟩))
  clear hK K
  (try simp only [Act.put, List.getElem_toArray, List.getElem_cons_zero, List.getElem_cons_succ, List.setIfInBounds_toArray, List.set_cons_zero, List.set_cons_succ])
  refine wpAnyH_take (i := 11) (v := ?v1_12) rfl (by kernel_rfl) (by kernel_rfl) (by kernel_rfl) (fun _ _ _ h => h) (Or.inl ⟨by rfl, ?y1_12⟩) (by assumption) ?r1_12
  case y1_12 => (intro w hSw; (try dsimp only at hSw); go_simp; try with_reducible rfl)
  (try simp only [Act.put, List.getElem_toArray, List.getElem_cons_zero, List.getElem_cons_succ, List.setIfInBounds_toArray, List.set_cons_zero, List.set_cons_succ])
  refine wpAnyH_done (by kernel_rfl) ?_ _
  refine NoPanic.normal ?_
  go_wp2_with fail
  go_ret
  refine ⟨_, g', c', t', rfl, kd.size, Nat.le_trans hs1 hg', ⟨Blk.newA w1 _ _, HB'.out.alloc _, hlt, hle, hc'⟩, kd.alloc _⟩

end Go.Proofs.YtijhaeapoapgfaaGreatDoor

set_option linter.unusedVariables false
set_option linter.unusedSimpArgs false
namespace Go.Proofs.YtijhaeapoapgfaaGreatDoor
open Go.RowKit
attribute [local go_sem ↓] Go.wp_at_zero Go.wp_at_succ

/-- Where a row lies: its struct, its vector, the vector's words, its data. -/
structure Loc where
  r : Nat
  v : Nat
  g : Nat
  d : Nat
abbrev P0 (b : Nat) : Value := .pointer (some ⟨b, 0, none⟩)

def RwAt (w : World) (L : Loc) (n z : Nat) (q : Rw) : Prop :=
  ∃ c t, Blk w L.r 199 [P0 L.v, .slice (some ⟨L.d, 0, none⟩) z z] ∧ VcAt w L.v L.g n q.x c t ∧ Blk w L.d 5 (q.d.map B8) ∧ q.d.length = z

theorem RwAt.keeps {S : List Nat} {w w' : World} {L : Loc} {n z : Nat} {q : Rw} (h : RwAt w L n z q) (k : Keeps S w w') (h1 : L.r ∉ S) (h2 : L.v ∉ S) (h3 : L.g ∉ S) (h4 : L.d ∉ S) : RwAt w' L n z q := by
  obtain ⟨c, t, hb, hv, hd, hl⟩ := h
  exact ⟨c, t, hb.keeps k h1, hv.keeps k h2 h3, hd.keeps k h4, hl⟩
theorem RwAt.keepsNil {w w' : World} {L : Loc} {n z : Nat} {q : Rw} (h : RwAt w L n z q) (k : Keeps [] w w') : RwAt w' L n z q := h.keeps k (by simp) (by simp) (by simp) (by simp)
theorem RwAt.lt {w : World} {L : Loc} {n z : Nat} {q : Rw} (h : RwAt w L n z q) : L.r < w.heap.size ∧ L.v < w.heap.size ∧ L.g < w.heap.size ∧ L.d < w.heap.size := by
  obtain ⟨c, t, hb, hv, hd, hl⟩ := h
  exact ⟨hb.lt, hv.b.lt, hv.r.lt, hd.lt⟩
/-- What is done to the words and the data of another row makes no difference. -/
theorem RwAt.other {w w' : World} {L L' : Loc} {n z : Nat} {q q' : Rw} (h : RwAt w L n z q) (h' : RwAt w L' n z q') (hg : L.g ≠ L'.g) (hd : L.d ≠ L'.d) (k : Keeps [L'.g, L'.d] w w') : RwAt w' L n z q := by
  have h0 := h
  obtain ⟨c, t, hb, hv, hdd, hl⟩ := h
  obtain ⟨c', t', hb', hv', hd', hl'⟩ := h'
  refine h0.keeps k ?_ ?_ ?_ ?_
  · simp only [List.mem_cons, List.not_mem_nil, or_false, not_or]; exact ⟨hb.ne hv'.r (by decide), hb.ne hd' (by decide)⟩
  · simp only [List.mem_cons, List.not_mem_nil, or_false, not_or]; exact ⟨hv.b.ne hv'.r (by decide), hv.b.ne hd' (by decide)⟩
  · simp only [List.mem_cons, List.not_mem_nil, or_false, not_or]; exact ⟨hg, hv.r.ne hd' (by decide)⟩
  · simp only [List.mem_cons, List.not_mem_nil, or_false, not_or]; exact ⟨hdd.ne hv'.r (by decide), hd⟩

def RwPost (w : World) (L : Loc) (n z : Nat) (q : Rw) (e : Ending) (w' : World) : Prop := e = .returned (.tuple #[]) ∧ RwAt w' L n z q ∧ Keeps [L.g, L.d] w w'

set_option maxRecDepth 100000 in
set_option maxHeartbeats 1600000 in
theorem rwxor_calls {w : World} {L L' : Loc} {n z : Nat} {a b : Rw} (h : RwAt w L n z a) (h' : RwAt w L' n z b) (hg : L.g ≠ L'.g) (hd : L.d ≠ L'.d) (hz : z ≤ 16) :
    Calls Tryz.prog 137 #[P0 L.r, P0 L'.r] w (RwPost w L n z (rxor a b)) := by
  obtain ⟨c, t, hb, hv, hdd, hl⟩ := h
  obtain ⟨c', t', hb', hv', hdd', hl'⟩ := h'
  have c0 := hb.cell' (i := 0) rfl
  have c1 := hb.cell' (i := 1) rfl
  have d0 := hb'.cell' (i := 0) rfl
  have d1 := hb'.cell' (i := 1) rfl
  have HX := Lib.hid (vcxor_calls (hv.keeps (Keeps.refl [] w).drew (by simp) (by simp)) (hv'.keeps (Keeps.refl [] w).drew (by simp) (by simp)) (hv'.b.ne hv.r (by decide)) (fun e => hg e.symm))
  have n1 : L.r ∉ [L.g] := by simpa using hb.ne hv.r (by decide)
  have n2 : L'.r ∉ [L.g] := by simpa using hb'.ne hv.r (by decide)
  have n3 : L.d ∉ [L.g] := by simpa using hdd.ne hv.r (by decide)
  have n4 : L'.d ∉ [L.g] := by simpa using hdd'.ne hv.r (by decide)
  have m1 : L.r ≠ L.d := hb.ne hdd (by decide)
  have m2 : L'.r ≠ L.d := hb'.ne hdd (by decide)
  have m3 : L.v ≠ L.d := hv.b.ne hdd (by decide)
  have m4 : L.g ≠ L.d := hv.r.ne hdd (by decide)
  have HB := Lib.hid hb
  have HB' := Lib.hid hb'
  have HD := Lib.hid hdd
  have HD' := Lib.hid hdd'
  clear hb hb' hdd hdd' hv hv'
  obtain ⟨x, A⟩ := a
  obtain ⟨y, B⟩ := b
  simp only at *
  have Hl := Lib.hid hl
  have Hl' := Lib.hid hl'
  clear hl hl'
  go_enter Tryz.func137, Tryz.ntmps137
  go_wp2_with fail
  refine wp_region_noPanic ?_
  refine wp_region_held_drew (S := (fun w' => w'.cell? ⟨L.r, 0, none⟩ = some (P0 L.v) ∧ w'.cell? ⟨L'.r, 0, none⟩ = some (P0 L'.v))) (by kernel_rfl) ⟨c0, d0⟩ (fun hHeld => ?_)
  refine wpAnyH_take (i := 0) (v := ?v2_13) rfl (by kernel_rfl) (by kernel_rfl) (by kernel_rfl) (fun _ _ _ h => h) (Or.inl ⟨by rfl, ?y2_13⟩) (by assumption) ?r2_13
  case y2_13 => (intro w hSw; (try dsimp only at hSw); go_simp; try with_reducible rfl)
  (try simp only [Act.put, List.getElem_toArray, List.getElem_cons_zero, List.getElem_cons_succ, List.setIfInBounds_toArray, List.set_cons_zero, List.set_cons_succ])
  refine wpAnyH_take (i := 1) (v := ?v2_14) rfl (by kernel_rfl) (by kernel_rfl) (by kernel_rfl) (fun _ _ _ h => h) (Or.inl ⟨by rfl, ?y2_14⟩) (by assumption) ?r2_14
  case y2_14 => (intro w hSw; (try dsimp only at hSw); go_simp; try with_reducible rfl)
  (try simp only [Act.put, List.getElem_toArray, List.getElem_cons_zero, List.getElem_cons_succ, List.setIfInBounds_toArray, List.set_cons_zero, List.set_cons_succ])
  refine wpAnyH_take (i := 2) (v := ?v2_15) rfl (by kernel_rfl) (by kernel_rfl) (by kernel_rfl) (fun _ _ _ h => h) (Or.inl ⟨by rfl, ?y2_15⟩) (by assumption) ?r2_15
  case y2_15 => (intro w hSw; (try dsimp only at hSw); go_simp; try with_reducible rfl)
  (try simp only [Act.put, List.getElem_toArray, List.getElem_cons_zero, List.getElem_cons_succ, List.setIfInBounds_toArray, List.set_cons_zero, List.set_cons_succ])
  refine wpAnyH_take (i := 3) (v := ?v2_16) rfl (by kernel_rfl) (by kernel_rfl) (by kernel_rfl) (fun _ _ _ h => h) (Or.inl ⟨by rfl, ?y2_16⟩) (by assumption) ?r2_16
  case y2_16 => (intro w hSw; (try dsimp only at hSw); go_simp; try with_reducible rfl)
  (try simp only [Act.put, List.getElem_toArray, List.getElem_cons_zero, List.getElem_cons_succ, List.setIfInBounds_toArray, List.set_cons_zero, List.set_cons_succ])
  refine wpAnyH_take (i := 4) (v := ?v2_17) rfl (by kernel_rfl) (by kernel_rfl) (by kernel_rfl) (fun _ _ _ h => h) (Or.inl ⟨by rfl, ?y2_17⟩) (by assumption) ?r2_17
  case y2_17 => (intro w hSw; (try dsimp only at hSw); go_simp; try with_reducible rfl)
  (try simp only [Act.put, List.getElem_toArray, List.getElem_cons_zero, List.getElem_cons_succ, List.setIfInBounds_toArray, List.set_cons_zero, List.set_cons_succ])
  refine wpAnyH_take (i := 5) (v := ?v2_18) rfl (by kernel_rfl) (by kernel_rfl) (by kernel_rfl) (fun _ _ _ h => h) (Or.inl ⟨by rfl, ?y2_18⟩) (by assumption) ?r2_18
  case y2_18 => (intro w hSw; (try dsimp only at hSw); go_simp; try with_reducible rfl)
  (try simp only [Act.put, List.getElem_toArray, List.getElem_cons_zero, List.getElem_cons_succ, List.setIfInBounds_toArray, List.set_cons_zero, List.set_cons_succ])
  refine wpAnyH_take (i := 6) (v := ?v2_19) rfl (by kernel_rfl) (by kernel_rfl) (by kernel_rfl) (fun _ _ _ h => h) (Or.inl ⟨by rfl, ?y2_19⟩) (by assumption) ?r2_19
  case y2_19 => (intro w hSw; (try dsimp only at hSw); go_simp; try with_reducible rfl)
  (try simp only [Act.put, List.getElem_toArray, List.getElem_cons_zero, List.getElem_cons_succ, List.setIfInBounds_toArray, List.set_cons_zero, List.set_cons_succ])
  refine wpAnyH_take (i := 7) (v := ?v2_20) rfl (by kernel_rfl) (by kernel_rfl) (by kernel_rfl) (fun _ _ _ h => h) (Or.inl ⟨by rfl, ?y2_20⟩) (by assumption) ?r2_20
  case y2_20 => (intro w hSw; (try dsimp only at hSw); go_simp; try with_reducible rfl)
  (try simp only [Act.put, List.getElem_toArray, List.getElem_cons_zero, List.getElem_cons_succ, List.setIfInBounds_toArray, List.set_cons_zero, List.set_cons_succ])
  refine wpAnyH_ready (rs := [8]) (by kernel_rfl) (by simp) ?_
  refine AllReadyH.cons rfl (fun K hK => ?_) AllReadyH.nil
  go_simp
  refine HX.out.mono ?_
  rintro e w1 ⟨rfl, hV1, k1⟩
  have b1 := HB.out.drew.keeps k1 n1
  have b1' := HB'.out.drew.keeps k1 n2
  have HV1 := Lib.hid hV1
  have HK1 := Lib.hid k1
  clear hV1 k1
  go_wp2_with fail
  refine hK.out _ _ ?s2_21 (fun hHeld => ?_)
  case s2_21 => ((try dsimp only) <;> (first | exact ⟨b1.cell' (i := 0) rfl, b1'.cell' (i := 0) rfl⟩))
  clear hK K
  (try simp only [Act.put, List.getElem_toArray, List.getElem_cons_zero, List.getElem_cons_succ, List.setIfInBounds_toArray, List.set_cons_zero, List.set_cons_succ])
  refine wpAnyH_done (by kernel_rfl) ?_ _
  refine NoPanic.normal ?_
  have k1d : Keeps [L.g] w w1 := (Keeps.refl [L.g] w).drew.trans HK1.out
  have d1' := b1'.cell' (i := 1) rfl
  have HG0 := Lib.hid (show Blk w1 L.d 5 ((xorTo A B 0).map B8) from by rw [xorTo_zero]; exact HD.out.keeps k1d n3)
  have HDB := Lib.hid (HD'.out.keeps k1d n4)
  have HK := Lib.hid k1d
  have HBa := Lib.hid b1
  have HBb := Lib.hid b1'
  clear b1 b1' c0 c1 d0 d1 HD HD' HB HB' HX HK1 k1d n1 n2 n3 n4
  go_wp2_with fail
  go_loopw [20] (fun i wx => ∃ j : Nat, j ≤ z ∧ i = .int .i64 j ∧ Blk wx L.d 5 ((xorTo A B j).map B8) ∧ Keeps [L.d] w1 wx) (fun i _ => z - (intOf i).toNat)
  case atStart => exact ⟨0, Nat.zero_le _, rfl, HG0.out, Keeps.refl _ _⟩
  case round =>
    clear HG0 d1'
    obtain ⟨j, hj, rfl, hG, hKj⟩ := hrel
    by_cases hjl : j < z
    · have e1 := Hl.out
      have e2 := Hl'.out
      have hB := HDB.out.keeps hKj (by simpa using fun e => hd e.symm)
      have hA := HBa.out.keeps hKj (by simpa using m1)
      have cb : wr.cell? ⟨L'.d, j, none⟩ = some (B8 (B.getD j 0)) := hB.cell' (by rw [List.getElem?_map, List.getD_eq_getElem?_getD, List.getElem?_eq_getElem (by omega)]; rfl)
      have a1 := hA.cell' (i := 1) rfl
      have hgt := xorTo_getD (a := A) (b := B) (by omega) (k := j) (by omega)
      have hset := xorTo_set (a := A) (b := B) (by omega) (k := j) (by omega)
      rw [hgt] at hset
      have cg : wr.cell? ⟨L.d, j, none⟩ = some (B8 (A.getD j 0)) := hG.cell' (by
        rw [List.getElem?_map, List.getElem?_eq_getElem (by rw [xorTo_len (by omega)]; omega)]
        rw [List.getD_eq_getElem?_getD, List.getElem?_eq_getElem (by rw [xorTo_len (by omega)]; omega)] at hgt
        rw [← hgt]; rfl)
      have fr := hG.frozen j
      have hS := hG.set j (B8 (A.getD j 0 ^^^ B.getD j 0))
      rw [map_set8, hset] at hS
      have hx8 := xor_byte (A.getD j 0) (B.getD j 0)
      have HS := Lib.hid hS
      have HKj := Lib.hid (hKj.setCell (p := ⟨L.d, j, none⟩) (.inl (by simp)) (B8 (A.getD j 0 ^^^ B.getD j 0)))
      have hji : (j : Int) < (z : Int) := by omega
      clear hgt hset hS hG hKj e1 e2 hB hA
      generalize A.getD j 0 = ax at *
      generalize B.getD j 0 = bx at *
      go_wp2_with fail
      go_roundw
      case rel => exact ⟨j + 1, by omega, by go_num, HS.out, HKj.out⟩
      case measure => simp [intOf]; omega
    · obtain rfl : j = z := by omega
      have e1 := Hl.out
      have e2 := Hl'.out
      have hxa := xorTo_all (a := A) (b := B) (by omega)
      rw [show xorTo A B A.length = xorTo A B j from by rw [e1]] at hxa
      rw [hxa] at hG
      have HG := Lib.hid hG
      have HKj := Lib.hid hKj
      clear hG hKj e1 e2 hxa
      go_wp2_with fail
      go_end0
      have hl1 := Hl.out
      have hl2 := Hl'.out
      refine ⟨rfl, ⟨c, t, HBa.out.keeps HKj.out (by simpa using m1), HV1.out.keeps HKj.out (by simpa using m3) (by simpa using m4), HG.out, xorL_len hl1 hl2⟩, HK.out.trans' HKj.out (fun x hx => .inl (by simp at hx; simp [hx])) (fun x hx => .inl (by simp at hx; simp [hx]))⟩

end Go.Proofs.YtijhaeapoapgfaaGreatDoor

set_option linter.unusedVariables false
set_option linter.unusedSimpArgs false
namespace Go.Proofs.YtijhaeapoapgfaaGreatDoor
open Go.RowKit
attribute [local go_sem ↓] Go.wp_at_zero Go.wp_at_succ

def joinS (len : Nat) (out b : List UInt8) : List UInt8 := out ++ b.take (len - out.length)
def joinF (len : Nat) (L : List (List UInt8)) : List UInt8 := L.foldl (joinS len) []
theorem joinF_snoc (len : Nat) (L : List (List UInt8)) (x : List UInt8) : joinF len (L ++ [x]) = joinS len (joinF len L) x := by unfold joinF; rw [List.foldl_append]; rfl
/-- The pieces of an image, put together, are the image. -/
theorem join_split {img : List UInt8} {K z : Nat} (hf : img.length ≤ K * z) : ∀ k, k ≤ K → joinF img.length (bsplit img K z k) = img.take (k * z)
  | 0, _ => by simp [bsplit, joinF]
  | k + 1, hk => by
    rw [bsplit_succ, joinF_snoc, join_split hf k (by omega)]
    have hst : (k + 1) * z = k * z + z := by rw [Nat.add_mul, Nat.one_mul]
    unfold joinS bpiece
    rw [hst]
    have hlt : (img.take (k * z)).length = min (k * z) img.length := List.length_take
    rw [hlt]
    by_cases h : k * z ≤ img.length
    · rw [Nat.min_eq_left h, List.take_add]
      congr 1
      have hd : (bfull img (K * z)).drop (k * z) = img.drop (k * z) ++ zer (K * z - img.length) := by unfold bfull; rw [List.drop_append_of_le_length h]
      rw [hd, List.take_take]
      by_cases h2 : z ≤ img.length - k * z
      · rw [Nat.min_eq_right h2, List.take_append_of_le_length (by rw [List.length_drop]; exact h2)]
      · rw [Nat.min_eq_left (by omega), List.take_append_of_le_length (by rw [List.length_drop]; omega), List.take_of_length_le (by rw [List.length_drop]; omega), List.take_of_length_le (by rw [List.length_drop]; omega)]
    · rw [Nat.min_eq_right (by omega), Nat.sub_self, List.take_zero, List.append_nil, List.take_of_length_le (by omega), List.take_of_length_le (by omega)]
theorem join_all {img : List UInt8} {K z : Nat} (hf : img.length ≤ K * z) : joinF img.length (bsplit img K z K) = img := by
  rw [join_split hf K (Nat.le_refl _), List.take_of_length_le hf]

end Go.Proofs.YtijhaeapoapgfaaGreatDoor

set_option linter.unusedVariables false
set_option linter.unusedSimpArgs false
namespace Go.Proofs.YtijhaeapoapgfaaGreatDoor
open Go.RowKit
attribute [local go_sem ↓] Go.wp_at_zero Go.wp_at_succ

set_option maxRecDepth 100000 in
theorem rroot_calls {w : World} (n : Nat) (h1 : 1 ≤ n) (h2 : n ≤ 80) : Calls Tryz.prog 177 #[.int .i64 n] w fun e w' => e = .returned (.int .i64 (rootN n)) ∧ w = w' := by
  go_enter Tryz.func177, Tryz.ntmps177
  go_wp2_with fail
  go_loopw [3, 4] (fun a b wr => ∃ lo hi : Nat, a = .int .i64 lo ∧ b = .int .i64 hi ∧ lo ≤ hi ∧ hi ≤ 3037000499 ∧ Hid (lo * lo ≤ n ∧ n < (hi + 1) * (hi + 1)) ∧ wr = w) (fun a b _ => (intOf b).toNat - (intOf a).toNat)
  case atStart => exact ⟨0, 3037000499, rfl, rfl, Nat.zero_le _, Nat.le_refl _, Lib.hid ⟨by omega, by omega⟩, rfl⟩
  case round =>
    obtain ⟨lo, hi, rfl, rfl, hlh, hhi, hI, rfl⟩ := hrel
    by_cases hlt : lo < hi
    · have hm : ∃ m : Nat, (lo : Int) + ((hi : Int) - (lo : Int) + 1) / 2 = m ∧ lo < m ∧ m ≤ hi := ⟨lo + (hi - lo + 1) / 2, by omega, by omega, by omega⟩
      obtain ⟨m, hm, hm1, hm2⟩ := hm
      have hqd := Nat.le_div_iff_mul_le (x := m) (y := n) (show 0 < m by omega)
      have hq : (n : Int) / (m : Int) = ((n / m : Nat) : Int) := by simp
      have hqb : n / m ≤ n := Nat.div_le_self _ _
      generalize n / m = q at *
      by_cases hmq : m ≤ q
      · have hm2q := Lib.hid (hqd.1 hmq)
        clear hqd
        go_wp2_with fail
        go_roundw
        case rel => exact ⟨m, hi, rfl, rfl, by omega, by omega, Lib.hid ⟨hm2q.out, hI.out.2⟩, trivial⟩
        case measure => simp [intOf]; omega
      · have hm2q := Lib.hid (show ¬ m * m ≤ n from fun h => hmq (hqd.2 h))
        clear hqd
        go_wp2_with fail
        go_roundw
        case rel => exact ⟨lo, m - 1, rfl, by congr 1; omega, by omega, by omega, Lib.hid ⟨hI.out.1, by rw [show m - 1 + 1 = m from by omega]; have := hm2q.out; omega⟩, trivial⟩
        case measure => simp [intOf]; omega
    · obtain rfl : hi = lo := by omega
      have HR := Lib.hid (rootN_uniq hI.out.1 hI.out.2)
      go_wp2_with fail
      go_ret
      exact ⟨by rw [HR.out]; rfl, rfl⟩

set_option maxRecDepth 100000 in
set_option maxHeartbeats 2000000 in
theorem rweights_calls {w : World} (n : Nat) (h1 : 1 ≤ n) (h2 : n ≤ 80) :
    Calls Tryz.prog 140 #[.int .i64 n] w (WListPost w (wgts n n)) := by
  have hr := rroot_calls (w := w) n h1 h2
  have hr1 := rootN_pos h1
  have hr2 := rootN_le n
  have hB0 := OwnW.nil w w.heap.size
  have hw : ∀ d, wgt n d = if d < n / rootN n then wbase n d + 262144 * rootN n / (d * n) else if d = n / rootN n then wbase n d + 524288 * rootN n / n else wbase n d := fun d => rfl
  have hs : ∀ d, 1 ≤ d → 262144 * rootN n / (d * n) ≤ 262144 := fun d hd => share_le (n := n) hd
  have hp := spike_le n
  have hbv : ∀ d, (1 < d → wbase n d = 1048576 / (d * (d - 1))) ∧ (¬ 1 < d → wbase n d = 1048576 / n) := by intro d; unfold wbase; constructor <;> intro h <;> simp [h]
  have hbl := wbase_le n
  generalize rootN n = r at *
  go_enter Tryz.func140, Tryz.ntmps140
  go_wp2_with fail
  refine hr.mono ?_
  rintro e w' ⟨rfl, rfl⟩
  have htop : (n : Int) / (r : Int) = ((n / r : Nat) : Int) := by simp
  have htb : n / r ≤ n := Nat.div_le_self _ _
  generalize n / r = top at *
  have hpv : 524288 * (r : Int) / (n : Int) = ((524288 * r / n : Nat) : Int) := by simp
  generalize 524288 * r / n = sp at *
  have hz : (1048576 : Int) / (n : Int) = ((1048576 / n : Nat) : Int) := by simp
  have hzb : 1048576 / n ≤ 1048576 := Nat.div_le_self _ _
  have Hw := Lib.hid hw
  have Hs := Lib.hid hs
  have Hbv := Lib.hid hbv
  have Hbl := Lib.hid hbl
  clear hw hs hbv hbl
  generalize hz0 : 1048576 / n = z0 at *
  have Hz0 := Lib.hid hz0
  clear hz0 hr
  go_wp2_with fail
  go_loopw [5, 6] (fun v i wr => ∃ d : Nat, 1 ≤ d ∧ d ≤ n + 1 ∧ i = .int .i64 d ∧ OwnW wr w.heap.size v (wgts n (d - 1)) ∧ Keeps [] w wr) (fun _ i _ => n + 1 - (intOf i).toNat)
  case atStart => exact ⟨1, by omega, by omega, rfl, hB0, Keeps.refl _ _⟩
  case round =>
    clear hB0
    obtain ⟨d, hd1, hd2, rfl, hO, hK⟩ := hrel
    by_cases hlt : d ≤ n
    · have hsu := wgts_succ n (d - 1)
      rw [show d - 1 + 1 = d from by omega] at hsu
      have hlen := wgts_len n (d - 1)
      have hsz := hK.size
      have hwd := Hw.out d
      have hsd := Hs.out d hd1
      obtain ⟨hb1, hb2⟩ := Hbv.out d
      have hbd := Hbl.out d
      generalize wbase n d = wb at *
      have hdn : (d : Int) * (n : Int) = ((d * n : Nat) : Int) := by simp
      have hdn1 : 1 ≤ d * n := Nat.mul_pos (by omega) (by omega)
      have hdn2 : d * n ≤ 6400 := Nat.mul_le_mul (show d ≤ 80 by omega) h2
      have hsv : 262144 * (r : Int) / ((d * n : Nat) : Int) = ((262144 * r / (d * n) : Nat) : Int) := by simp
      generalize 262144 * r / (d * n) = sh at *
      generalize d * n = dn at *
      generalize wgt n d = x at *
      generalize wgts n (d - 1) = L at *
      have Hs := Lib.hid hsu
      have HO := Lib.hid (hO.keeps ((Keeps.refl [] wr).alloc (.cells #[V32 x] 30)) (by simp))
      have HK := Lib.hid hK
      have HX := Lib.hid (show (wr.alloc (.cells #[V32 x] 30)).cell? ⟨wr.heap.size, 0, none⟩ = some (V32 x) from (Blk.newA wr 30 #[V32 x]).cell' rfl)
      have hB : w.heap.size ≤ (wr.alloc (.cells #[V32 x] 30)).heap.size := by simp; omega
      have hL6 : L.length ≤ 1000000 := by omega
      clear hsu hO hK
      by_cases hd : 1 < d
      · have hb := hb1 hd
        have hdd : (d : Int) * ((d : Int) - 1) = ((d * (d - 1) : Nat) : Int) := by rw [Int.natCast_mul]; congr 1; omega
        have hdd1 : 1 ≤ d * (d - 1) := Nat.mul_pos (by omega) (by omega)
        have hdd2 : d * (d - 1) ≤ 6400 := Nat.mul_le_mul (show d ≤ 80 by omega) (show d - 1 ≤ 80 by omega)
        have hbz : (1048576 : Int) / ((d * (d - 1) : Nat) : Int) = (wb : Int) := by rw [hb]; simp
        generalize d * (d - 1) = dd at *
        clear hb hb1 hb2
        by_cases ht : d < top
        · rw [if_pos ht] at hwd
          have hxe : (wb : Int) + (sh : Int) = (x : Int) := by omega
          have hxb : x ≤ 2097152 := by omega
          have hne : ¬ ((d : Int) = (top : Int)) := by omega
          clear hwd
          go_wp2_with (at_builtin; (refine wpList_append_u32 rfl (.tmp 53) (.tmp 56) rfl HO.out rfl x _ 0 1 rfl HX.out hL6 hB ?_); intro v2 w2 g1 g2 g3)
          go_roundw
          case rel =>
            refine ⟨d + 1, by omega, by omega, by go_num, by rw [show d + 1 - 1 = d from by omega, Hs.out]; exact g1, (HK.out.alloc _).grown g2 (fun x hx => .inr ?_)⟩
            exact (HO.out.block hx).1
          case measure => simp [intOf]; omega
        · rw [if_neg ht] at hwd
          by_cases ht2 : d = top
          · rw [if_pos ht2] at hwd
            subst ht2
            have hxe : (wb : Int) + (sp : Int) = (x : Int) := by omega
            have hxb : x ≤ 2097152 := by omega
            clear hwd
            go_wp2_with (at_builtin; (refine wpList_append_u32 rfl (.tmp 53) (.tmp 56) rfl HO.out rfl x _ 0 1 rfl HX.out hL6 hB ?_); intro v2 w2 g1 g2 g3)
            go_roundw
            case rel =>
              refine ⟨d + 1, by omega, by omega, by go_num, by rw [show d + 1 - 1 = d from by omega, Hs.out]; exact g1, (HK.out.alloc _).grown g2 (fun x hx => .inr ?_)⟩
              exact (HO.out.block hx).1
            case measure => simp [intOf]; omega
          · rw [if_neg ht2] at hwd
            subst hwd
            have hne : ¬ ((d : Int) = (top : Int)) := by omega
            go_wp2_with (at_builtin; (refine wpList_append_u32 rfl (.tmp 53) (.tmp 56) rfl HO.out rfl x _ 0 1 rfl HX.out hL6 hB ?_); intro v2 w2 g1 g2 g3)
            go_roundw
            case rel =>
              refine ⟨d + 1, by omega, by omega, by go_num, by rw [show d + 1 - 1 = d from by omega, Hs.out]; exact g1, (HK.out.alloc _).grown g2 (fun x hx => .inr ?_)⟩
              exact (HO.out.block hx).1
            case measure => simp [intOf]; omega
      · have hb := hb2 hd
        subst hb
        clear hb1 hb2
        by_cases ht : d < top
        · rw [if_pos ht] at hwd
          have hxe : (wb : Int) + (sh : Int) = (x : Int) := by omega
          have hxb : x ≤ 2097152 := by omega
          have hne : ¬ ((d : Int) = (top : Int)) := by omega
          clear hwd
          go_wp2_with (at_builtin; (refine wpList_append_u32 rfl (.tmp 53) (.tmp 56) rfl HO.out rfl x _ 0 1 rfl HX.out hL6 hB ?_); intro v2 w2 g1 g2 g3)
          go_roundw
          case rel =>
            refine ⟨d + 1, by omega, by omega, by go_num, by rw [show d + 1 - 1 = d from by omega, Hs.out]; exact g1, (HK.out.alloc _).grown g2 (fun x hx => .inr ?_)⟩
            exact (HO.out.block hx).1
          case measure => simp [intOf]; omega
        · rw [if_neg ht] at hwd
          by_cases ht2 : d = top
          · rw [if_pos ht2] at hwd
            subst ht2
            have hxe : (wb : Int) + (sp : Int) = (x : Int) := by omega
            have hxb : x ≤ 2097152 := by omega
            clear hwd
            go_wp2_with (at_builtin; (refine wpList_append_u32 rfl (.tmp 53) (.tmp 56) rfl HO.out rfl x _ 0 1 rfl HX.out hL6 hB ?_); intro v2 w2 g1 g2 g3)
            go_roundw
            case rel =>
              refine ⟨d + 1, by omega, by omega, by go_num, by rw [show d + 1 - 1 = d from by omega, Hs.out]; exact g1, (HK.out.alloc _).grown g2 (fun x hx => .inr ?_)⟩
              exact (HO.out.block hx).1
            case measure => simp [intOf]; omega
          · rw [if_neg ht2] at hwd
            subst hwd
            have hne : ¬ ((d : Int) = (top : Int)) := by omega
            go_wp2_with (at_builtin; (refine wpList_append_u32 rfl (.tmp 53) (.tmp 56) rfl HO.out rfl x _ 0 1 rfl HX.out hL6 hB ?_); intro v2 w2 g1 g2 g3)
            go_roundw
            case rel =>
              refine ⟨d + 1, by omega, by omega, by go_num, by rw [show d + 1 - 1 = d from by omega, Hs.out]; exact g1, (HK.out.alloc _).grown g2 (fun x hx => .inr ?_)⟩
              exact (HO.out.block hx).1
            case measure => simp [intOf]; omega
    · obtain rfl : d = n + 1 := by omega
      have HO := Lib.hid hO
      have HK := Lib.hid hK
      clear hO hK
      go_wp2_with fail
      go_ret
      exact ⟨_, rfl, HO.out, HK.out⟩

end Go.Proofs.YtijhaeapoapgfaaGreatDoor
