/-
  GrOnce: the texts Once, SolS, one behind another.
-/
import Derived.Test.YtijhaeapoapgfaaGreatDoorGrSol
import Derived.Tactics
import Derived.Tactics2
import Derived.Defers
import Derived.Laws.Pointers
import Derived.Laws.LoneSync
import Derived.RegionTactic
import Derived.RegionCalls
import Derived.ChangeAlike
import Derived.BigQuiet
set_option linter.unusedVariables false
set_option linter.unusedSimpArgs false
namespace Go.Proofs.YtijhaeapoapgfaaGreatDoor
open Go.RowKit
attribute [local go_sem ↓] Go.wp_at_zero Go.wp_at_succ

theorem lz_disable (w : World) : (callFunc 208 #[]).run Tryz.prog w = .ok (.value (.tuple #[])) w := run_call_mark0 Tryz.func208 (by kernel_rfl) (by kernel_rfl) (by kernel_rfl) .disable (by kernel_rfl) w
theorem lz_enable (w : World) : (callFunc 210 #[]).run Tryz.prog w = .ok (.value (.tuple #[])) w := run_call_mark0 Tryz.func210 (by kernel_rfl) (by kernel_rfl) (by kernel_rfl) .enable (by kernel_rfl) w
theorem lz_acquire (a : Addr) (w : World) : (callFunc 211 #[.pointer (some a)]).run Tryz.prog w = .ok (.value (.tuple #[])) w := run_call_marked Tryz.func211 (by kernel_rfl) (by kernel_rfl) (by kernel_rfl) .acquire (by kernel_rfl) a w
theorem lz_releaseMerge (a : Addr) (w : World) : (callFunc 213 #[.pointer (some a)]).run Tryz.prog w = .ok (.value (.tuple #[])) w := run_call_marked Tryz.func213 (by kernel_rfl) (by kernel_rfl) (by kernel_rfl) .releaseMerge (by kernel_rfl) a w

/-- '(*sync/atomic.Bool).Store(true)', ENTERED AS A DEFERRED CALL: the cell holds 1. -/
theorem store_deferred (a : Addr) (x : Value) (u : FrameMode) (w : World) (hc : w.cell? a = some x) (hz : w.frozen? a = false) :
    CallsD Tryz.prog 182 #[.pointer (some a), .bool true] u w fun e u' w' => u' = u ∧ (e = .returned (.tuple #[]) ∧ w' = w.drew.setCell a (.int .u32 1)) := by
  have hc' : w.drew.cell? a = some x := by go_simp
  have hz' : w.drew.frozen? a = false := by go_simp
  have hst := run_call_store (P := Tryz.prog) Tryz.func187 (by kernel_rfl) (by kernel_rfl) (by kernel_rfl) (by kernel_rfl) (k := .u32) (y := 1) hc' hz'
  go_enter_d Tryz.func182, Tryz.ntmps182
  go_wp2
  go_region_calls
  all_goals (go_end0; exact ⟨rfl, rfl⟩)

set_option maxRecDepth 100000 in
/-- '(*sync.Mutex).Unlock', ENTERED AS A DEFERRED CALL, the lock held and nobody waiting (state 1): state 0. -/
theorem unlock_deferred (a : Addr) (u : FrameMode) (w : World) (hc : w.cell? a = some (.int .i32 1)) (hz : w.frozen? a = false) :
    CallsD Tryz.prog 181 #[.pointer (some a)] u w fun e u' w' => u' = u ∧ (e = .returned (.tuple #[]) ∧ w' = w.setCell a (.int .i32 0)) := by
  have hd := lz_disable
  have he := lz_enable
  have hr := lz_releaseMerge
  have hadd := run_call_add (P := Tryz.prog) Tryz.func214 (by kernel_rfl) (by kernel_rfl) (by kernel_rfl) .i32 (by kernel_rfl) (y := -1) (s := 0) hc hz (by simp [go_sem]; rfl)
  have hcv := run_convert_to_unsafe (P := Tryz.prog) (src := 265) (dst := 269) Tryz.underlying265 Tryz.underlying269 (by kernel_rfl) hc
  go_enter_d Tryz.func181, Tryz.ntmps181
  go_wp2
  go_end0
  go_wp2
  go_end0
  exact ⟨rfl, rfl⟩

set_option maxRecDepth 100000 in
/-- '(*sync.Mutex).Lock', the lock free (state 0): state 1. -/
theorem lock_free (a : Addr) (w : World) (hc : w.cell? a = some (.int .i32 0)) (hz : w.frozen? a = false) :
    Calls Tryz.prog 180 #[.pointer (some a)] w fun e w' => e = .returned (.tuple #[]) ∧ w' = w.setCell a (.int .i32 1) := by
  have hd := lz_disable
  have he := lz_enable
  have ha := lz_acquire
  have hcas := run_call_cas_hit (P := Tryz.prog) Tryz.func209 (by kernel_rfl) (by kernel_rfl) (by kernel_rfl) .i32 (by kernel_rfl) (y := 1) hc hz
  have hc' : (w.setCell a (.int .i32 1)).cell? a = some (.int .i32 1) := World.cell?_setCell_same w a _ hc
  have hcv := run_convert_to_unsafe (P := Tryz.prog) (src := 265) (dst := 269) Tryz.underlying265 Tryz.underlying269 (by kernel_rfl) hc'
  go_enter Tryz.func180, Tryz.ntmps180
  go_wp2
  first | go_end0 | (simp only [Exit.inBlock, Exit.then]; refine bodyPost_ret (results_none rfl _ _ _) rfl ?_) | refine bodyPost_ret (results_none rfl _ _ _) rfl ?_
  go_wp2
  go_end0
  exact ⟨rfl, rfl⟩

set_option maxRecDepth 100000 in
set_option maxHeartbeats 1600000 in
theorem slow_calls {w : World} {p n : Nat} (hb : Blk w p 231 [.int .i64 n, .int .u32 0, .int .i32 0, .int .u32 0, .slice none 0 0]) (h1 : 1 ≤ n) (h2 : n ≤ 80) :
    Calls Tryz.prog 147 #[.pointer (some ⟨p, 1, none⟩), .func (.func 167) #[.pointer (some ⟨p, 0, none⟩)] #[]] w (FillPost w p n (.int .u32 1) (.int .i32 0) (.int .u32 0)) := by
  have hb1 := hb.set 2 (.int .i32 1)
  have kp : Keeps [p] w (w.setCell ⟨p, 2, none⟩ (.int .i32 1)) := (Keeps.refl [p] w).setCell (by simp) _
  have hF := fill_calls hb1 h1 h2
  have hsz : (w.setCell ⟨p, 2, none⟩ (.int .i32 1)).heap.size = w.heap.size := by simp [World.setCell]
  have hpl := hb.lt
  have hl := run_call_load (P := Tryz.prog) Tryz.func179 (by kernel_rfl) (by kernel_rfl) (by kernel_rfl) .u32 (by kernel_rfl) (w := w.setCell ⟨p, 2, none⟩ (.int .i32 1)) (a := ⟨p, 1, none⟩) (x := 0) (hb1.cell' (i := 1) rfl)
  have hnot : ∀ (x : Bool) (w : World), (Op.unary .not (.bool x)).run Tryz.prog w = .ok (.bool (!x)) w := fun _ _ => rfl
  have c2 := hb.cell' (i := 2) rfl
  have f2 := hb.frozen 2
  go_enter_defers Tryz.func147, Tryz.ntmps147
  go_wp2_with (first | (go_at_call 180; refine (lock_free ⟨p, 2, none⟩ _ c2 f2).mono ?_; rintro e w' ⟨rfl, rfl⟩) | (go_at_call 146; go_in) | (go_at_call 167; refine hF.mono ?_; rintro e w2 ⟨v, rfl, hb2, hO, hK⟩))
  have b3 := hb2.drew.set 1 (.int .u32 1)
  have b4 := b3.set 2 (.int .i32 0)
  have k3 : Keeps [p] w2 (w2.drew.setCell ⟨p, 1, none⟩ (.int .u32 1)) := ((Keeps.refl [p] w2).drew).setCell (by simp) _
  have k4 : Keeps [p] w2 ((w2.drew.setCell ⟨p, 1, none⟩ (.int .u32 1)).setCell ⟨p, 2, none⟩ (.int .i32 0)) := k3.setCell (by simp) _
  have o4 := hO.keeps k4 (by simp; omega)
  go_wp2
  refine leaves_cons (f := 182) (args := #[.pointer (some ⟨p, 1, none⟩), .bool true]) (by simp) (by simp [go_sem]) ?_
  refine (store_deferred ⟨p, 1, none⟩ (.int .u32 0) .returning _ (hb2.cell' (i := 1) rfl) (hb2.frozen 1)).mono ?_
  rintro e u' w'' ⟨rfl, rfl, rfl⟩
  refine leaves_cons (f := 181) (args := #[.pointer (some ⟨p, 2, none⟩)]) (by simp [settle]) (by simp [go_sem]) ?_
  refine (unlock_deferred ⟨p, 2, none⟩ _ _ (b3.cell' (i := 2) rfl) (b3.frozen 2)).mono ?_
  rintro e u' w'' ⟨rfl, rfl, rfl⟩
  simp [Leaves, settle, results, Tryz.results147]
  exact ⟨v, rfl, b4, o4.mono (by omega), (kp.trans hK).trans k4⟩

set_option maxRecDepth 100000 in
set_option maxHeartbeats 1600000 in
/-- '(*sync.Once).Do', not yet done, the lock free. -/
theorem once_calls {w : World} {p n : Nat} (hb : Blk w p 231 [.int .i64 n, .int .u32 0, .int .i32 0, .int .u32 0, .slice none 0 0]) (h1 : 1 ≤ n) (h2 : n ≤ 80) :
    Calls Tryz.prog 100 #[.pointer (some ⟨p, 1, none⟩), .func (.func 167) #[.pointer (some ⟨p, 0, none⟩)] #[]] w (FillPost w p n (.int .u32 1) (.int .i32 0) (.int .u32 0)) := by
  have hS := slow_calls hb h1 h2
  have c1 := hb.cell' (i := 1) rfl
  have hl := run_call_load (P := Tryz.prog) Tryz.func179 (by kernel_rfl) (by kernel_rfl) (by kernel_rfl) .u32 (by kernel_rfl) c1
  have hnot : ∀ (x : Bool) (w : World), (Op.unary .not (.bool x)).run Tryz.prog w = .ok (.bool (!x)) w := fun _ _ => rfl
  go_enter Tryz.func100, Tryz.ntmps100
  go_wp2_with (first | (go_at_call 147; refine hS.mono ?_; rintro e w2 ⟨v, rfl, hb2, hO, hK⟩) | (go_at_call 146; go_in))
  go_end0
  exact ⟨v, rfl, hb2, hO, hK⟩

end Go.Proofs.YtijhaeapoapgfaaGreatDoor

set_option linter.unusedVariables false
set_option linter.unusedSimpArgs false
namespace Go.Proofs.YtijhaeapoapgfaaGreatDoor
open Go.RowKit
attribute [local go_sem ↓] Go.wp_at_zero Go.wp_at_succ

theorem cnt_full {f : Nat → Bool} {n : Nat} (h : ∀ i, i < n → f i = true) : cnt f n = n := by
  induction n with
  | zero => rfl
  | succ n ih => rw [cnt_succ, ih (fun i hi => h i (by omega)), h n (by omega)]; simp
theorem cnt_edge {p : Nat → Bool} {n m : Nat} (hm : m ≤ n) (h1 : ∀ t, t < m → p t = false) (h2 : ∀ t, m ≤ t → t < n → p t = true) : cnt (fun i => !p i) n = m := by
  rw [show n = m + (n - m) from by omega, cnt_add, cnt_full (n := m) (fun i hi => by rw [h1 i hi]; rfl), cnt_none (n := n - m) (fun i hi => by rw [h2 (m + i) (by omega) (by omega)]; rfl), Nat.add_zero]

set_option maxRecDepth 100000 in
set_option maxHeartbeats 1000000 in
theorem search_calls {w : World} (cb : Array Value) (n : Nat) (p : Nat → Bool) (hsz : n ≤ 1000000)
    (hf : ∀ (wr : World) (i : Nat), Keeps [] w wr → i < n → Calls Tryz.prog 169 (#[.int .i64 i] ++ cb) wr fun e w' => e = .returned (.bool (p i)) ∧ Keeps [] w w')
    (hmono : ∀ a b, a ≤ b → b < n → p a = true → p b = true) :
    Calls Tryz.prog 168 #[.int .i64 n, .func (.func 169) #[] cb] w fun e w' => e = .returned (.int .i64 (cnt (fun i => !p i) n)) ∧ Keeps [] w w' := by
  have HF := Lib.hid hf
  have M := Lib.hid hmono
  clear hf hmono
  generalize hcnt : cnt (fun i => !p i) n = c
  have CN := Lib.hid hcnt
  clear hcnt
  go_enter Tryz.func168, Tryz.ntmps168
  go_wp2_with fail
  go_loopw [5, 6] (fun s5 s6 wr => ∃ lo hi : Nat, s5 = .int .i64 lo ∧ s6 = .int .i64 hi ∧ lo ≤ hi ∧ hi ≤ n ∧ Keeps [] w wr ∧
    Hid ((∀ t, t < lo → p t = false) ∧ (∀ t, hi ≤ t → t < n → p t = true))) (fun s5 s6 _ => (intOf s6).toNat - (intOf s5).toNat)
  case atStart => exact ⟨0, n, rfl, rfl, Nat.zero_le _, Nat.le_refl _, Keeps.refl _ _, Lib.hid ⟨fun t ht => absurd ht (Nat.not_lt_zero _), fun t h1 h2 => by omega⟩⟩
  case round =>
    obtain ⟨lo, hi, rfl, rfl, hlh, hin, hK, I⟩ := hrel
    by_cases hlt : lo < hi
    · have hc := HF.out wr ((lo + hi) / 2) hK (by omega)
      rw [show (((lo + hi) / 2 : Nat) : Int) = ((lo : Int) + (hi : Int)) / 2 by omega] at hc
      cases hp : p ((lo + hi) / 2) <;> rw [hp] at hc
      · have HP := Lib.hid hp
        clear hp
        go_wp2_with (go_at_call 169; refine hc.mono ?_; rintro e w' ⟨rfl, hk⟩)
        go_roundw
        case rel =>
          exact ⟨(lo + hi) / 2 + 1, hi, by rw [show ((lo : Int) + (hi : Int)) / 2 + 1 = (((lo + hi) / 2 + 1 : Nat) : Int) by omega], rfl, by omega, hin, hk, Lib.hid ⟨fun t ht => (by
            cases h : p t with
            | false => rfl
            | true => have := M.out t ((lo + hi) / 2) (by omega) (by omega) h; rw [HP.out] at this; cases this), I.out.2⟩⟩
        case measure => simp [intOf]; omega
      · have HP := Lib.hid hp
        clear hp
        go_wp2_with (go_at_call 169; refine hc.mono ?_; rintro e w' ⟨rfl, hk⟩)
        go_roundw
        case rel =>
          exact ⟨lo, (lo + hi) / 2, rfl, by rw [show ((lo : Int) + (hi : Int)) / 2 = (((lo + hi) / 2 : Nat) : Int) by omega], by omega, by omega, hk, Lib.hid ⟨I.out.1, fun t ht htn => M.out ((lo + hi) / 2) t ht htn HP.out⟩⟩
        case measure => simp [intOf]; omega
    · obtain rfl : hi = lo := by omega
      have ec : c = hi := by rw [← CN.out]; exact cnt_edge hin I.out.1 I.out.2
      subst ec
      go_wp2_with fail
      go_ret
      exact ⟨rfl, hK⟩

/-- The closure of Degree: is the sum of the weights up to i beyond what chance points at? -/
theorem degfn_calls {w : World} {p n bt ba : Nat} {v : Value} {B y : Nat} (hb : Blk w p 231 [.int .i64 n, .int .u32 1, .int .i32 0, .int .u32 0, v]) (hO : IsS w B v (sums n n))
    (ht : w.cell? ⟨bt, 0, none⟩ = some (.pointer (some ⟨p, 0, none⟩))) (ha : w.cell? ⟨ba, 0, none⟩ = some (U64 y)) (i : Nat) (hi : i < n) :
    Calls Tryz.prog 169 (#[.int .i64 i] ++ #[.pointer (some ⟨bt, 0, none⟩), .pointer (some ⟨ba, 0, none⟩)]) w fun e w' => e = .returned (.bool (decide (y < sumTo n (i + 1)))) ∧ Keeps [] w w' := by
  obtain ⟨a, c, rfl, hc1, hc2, hc3⟩ := hO
  have hl := sums_len n n
  obtain ⟨g, rfl, hg, hc⟩ := hc3 i (by omega)
  rw [sums_at n hi] at hc
  rw [hl] at *
  have c4 := hb.cell' (i := 4) rfl
  generalize hx : sumTo n (i + 1) = x at *
  have hin : (i : Int) < (n : Int) := by omega
  clear hc3 hl hx
  go_enter Tryz.func169, Tryz.ntmps169
  go_wp2_with fail
  go_quiet (fail)
  go_wp2_with fail
  go_ret
  exact ⟨rfl, (Keeps.refl _ _).drewN nq⟩

def SolNew (w : World) (n : Nat) (e : Ending) (w' : World) : Prop :=
  ∃ p, e = .returned (.pointer (some ⟨p, 0, none⟩)) ∧ w.heap.size ≤ p ∧ Blk w' p 231 [.int .i64 n, .int .u32 0, .int .i32 0, .int .u32 0, .slice none 0 0] ∧ Keeps [] w w'

set_option maxRecDepth 100000 in
theorem solnew_calls {w : World} (n : Nat) (h1 : 1 ≤ n) (h2 : n ≤ 80) : Calls Tryz.prog 126 #[.int .i64 n] w (SolNew w n) := by
  go_enter Tryz.func126, Tryz.ntmps126
  go_wp2_with fail
  go_ret
  exact ⟨_, rfl, Nat.le_refl _, Blk.newA w _ _, (Keeps.refl _ _).alloc _⟩


theorem aim_val (n : Nat) (x : UInt32) (s : Nat) (hs : s ≤ 167772160) : IntKind.u64.wrap ((x.toNat : Int) * (s : Int)) = ((x.toNat * s : Nat) : Int) := by
  have hx := x.toNat_lt
  have h : x.toNat * s ≤ 4294967295 * 167772160 := Nat.mul_le_mul (by omega) hs
  rw [← Int.natCast_mul]
  generalize x.toNat * s = y at *
  exact wrap_u64_small (by omega)

set_option maxRecDepth 100000 in
set_option maxHeartbeats 1600000 in
theorem degree_calls {w : World} {p n : Nat} (hb : Blk w p 231 [.int .i64 n, .int .u32 0, .int .i32 0, .int .u32 0, .slice none 0 0]) (h1 : 1 ≤ n) (h2 : n ≤ 80) (x : UInt32) :
    Calls Tryz.prog 127 #[.pointer (some ⟨p, 0, none⟩), B32 x] w fun e w' => e = .returned (.int .i64 (degree n x)) ∧ Keeps [p] w w' := by
  have hpl := hb.lt
  have hmf : ∀ (fn : Fn) (first cap : Array Value) (w : World), (Instr.makeFunc fn first cap).run Tryz.prog w = .ok (.func fn first cap) w := fun _ _ _ _ => rfl
  have hb1 := hb.alloc (.cells #[.pointer (some ⟨p, 0, none⟩)] 186)
  have t0 : (w.alloc (.cells #[.pointer (some ⟨p, 0, none⟩)] 186)).cell? ⟨w.heap.size, 0, none⟩ = some (.pointer (some ⟨p, 0, none⟩)) := (Blk.newA w _ _).cell' rfl
  have k0 : Keeps [p] w (w.alloc (.cells #[.pointer (some ⟨p, 0, none⟩)] 186)) := (Keeps.refl _ _).alloc _
  have hsz0 : (w.alloc (.cells #[.pointer (some ⟨p, 0, none⟩)] 186)).heap.size = w.heap.size + 1 := by simp
  go_enter Tryz.func127, Tryz.ntmps127
  go_wp2_with fail
  generalize w.alloc (.cells #[.pointer (some ⟨p, 0, none⟩)] 186) = w0 at *
  have hO1 := once_calls (w := w0.drew) hb1.drew h1 h2
  refine wp_region_noPanic ?_
  refine wp_region_held_drew (S := (fun w' => w'.cell? ⟨w.heap.size, 0, none⟩ = some (.pointer (some ⟨p, 0, none⟩)))) (by kernel_rfl) t0 (fun hHeld => ?_)
  refine wpAnyH_take (i := 0) (v := ?v1_1) rfl (by kernel_rfl) (by kernel_rfl) (by kernel_rfl) (fun _ _ _ h => h) (Or.inl ⟨by rfl, ?y1_1⟩) (by assumption) ?r1_1
  case y1_1 => (intro w hSw; (try dsimp only at hSw); go_simp; try with_reducible rfl)
  (try simp only [Act.put, List.getElem_toArray, List.getElem_cons_zero, List.getElem_cons_succ, List.setIfInBounds_toArray, List.set_cons_zero, List.set_cons_succ])
  refine wpAnyH_take (i := 1) (v := ?v1_2) rfl (by kernel_rfl) (by kernel_rfl) (by kernel_rfl) (fun _ _ _ h => h) (Or.inl ⟨by rfl, ?y1_2⟩) (by assumption) ?r1_2
  case y1_2 => (intro w hSw; (try dsimp only at hSw); go_simp; try with_reducible rfl)
  (try simp only [Act.put, List.getElem_toArray, List.getElem_cons_zero, List.getElem_cons_succ, List.setIfInBounds_toArray, List.set_cons_zero, List.set_cons_succ])
  refine wpAnyH_take (i := 2) (v := ?v1_3) rfl (by kernel_rfl) (by kernel_rfl) (by kernel_rfl) (fun _ _ _ h => h) (Or.inl ⟨by rfl, ?y1_3⟩) (by assumption) ?r1_3
  case y1_3 => (intro w hSw; (try dsimp only at hSw); go_simp; try with_reducible rfl)
  (try simp only [Act.put, List.getElem_toArray, List.getElem_cons_zero, List.getElem_cons_succ, List.setIfInBounds_toArray, List.set_cons_zero, List.set_cons_succ])
  refine wpAnyH_take (i := 3) (v := ?v1_4) rfl (by kernel_rfl) (by kernel_rfl) (by kernel_rfl) (fun _ _ _ h => h) (Or.inl ⟨by rfl, ?y1_4⟩) (by assumption) ?r1_4
  case y1_4 => (intro w hSw; (try dsimp only at hSw); go_simp; try with_reducible rfl)
  (try simp only [Act.put, List.getElem_toArray, List.getElem_cons_zero, List.getElem_cons_succ, List.setIfInBounds_toArray, List.set_cons_zero, List.set_cons_succ])
  refine wpAnyH_take (i := 4) (v := ?v1_5) rfl (by kernel_rfl) (by kernel_rfl) (by kernel_rfl) (fun _ _ _ h => h) (Or.inl ⟨by rfl, ?y1_5⟩) (by assumption) ?r1_5
  case y1_5 => (intro w hSw; (try dsimp only at hSw); go_simp; try with_reducible rfl)
  (try simp only [Act.put, List.getElem_toArray, List.getElem_cons_zero, List.getElem_cons_succ, List.setIfInBounds_toArray, List.set_cons_zero, List.set_cons_succ])
  refine wpAnyH_ready (rs := [5]) (by kernel_rfl) (by simp) ?_
  refine AllReadyH.cons rfl (fun K hK => ?_) AllReadyH.nil
  go_simp
  refine hO1.mono ?_
  rintro e w1 ⟨v, rfl, hb2, hS, kO⟩
  have t1 : w1.cell? ⟨w.heap.size, 0, none⟩ = some (.pointer (some ⟨p, 0, none⟩)) := (World.cell?_of_block (a := ⟨w.heap.size, 0, none⟩) (kO.block w.heap.size (by show w.heap.size < w0.heap.size; omega) (by simp; omega))).trans t0
  have k1 : Keeps [p] w w1 := k0.drew.trans kO
  go_wp2_with fail
  refine hK.out _ _ ?s1_6 (fun hHeld => ?_)
  case s1_6 => ((try dsimp only) <;> (first | exact t1))
  clear hK K
  (try simp only [Act.put, List.getElem_toArray, List.getElem_cons_zero, List.getElem_cons_succ, List.setIfInBounds_toArray, List.set_cons_zero, List.set_cons_succ])
  refine wpAnyH_done (by kernel_rfl) ?_ _
  refine NoPanic.normal ?_
  obtain ⟨a, c, rfl, hc1, hc2, hc3⟩ := hS.ints
  have HI := Lib.hid hS.ints
  have hl := sums_len n n
  obtain ⟨g, rfl, hg, hc⟩ := hc3 (n - 1) (by omega)
  rw [sums_at n (by omega), show n - 1 + 1 = n from by omega] at hc
  rw [hl] at *
  have hm : (n : Int) - 1 = ((n - 1 : Nat) : Int) := by omega
  have hmn : n - 1 < n := by omega
  generalize n - 1 = m at *
  have c0 := hb2.cell' (i := 0) rfl
  have c4 := hb2.cell' (i := 4) rfl
  have hss := sumTo_le n n
  have hq := aim_val n x (sumTo n n) (by omega)
  have hy : ((x.toNat * sumTo n n : Nat) : Int) / 4294967296 = (aim n x : Int) := by unfold aim; simp
  have hdeg : degree n x = 1 + cnt (fun i => !decide (aim n x < sumTo n (i + 1))) n := rfl
  have HD := Lib.hid hdeg
  clear hdeg
  generalize aim n x = y at *
  generalize hSn : sumTo n n = Sn at *
  generalize x.toNat * Sn = q at *
  clear hSn hss hc3
  go_wp2_with fail
  have hwx : IntKind.u64.wrap (x.toNat : Int) = (x.toNat : Int) := wrap_u64_small (by have := x.toNat_lt; omega)
  have hwm : IntKind.i64.wrap (m : Int) = (m : Int) := IntWalk.i64_in _ (by omega)
  have kA : Keeps [] w1 (w1.drew.alloc (.cells #[U64 0] 25)) := (Keeps.refl [] w1).drew.alloc _
  have kB : Keeps [] w1 (w1.alloc (.cells #[U64 y] 25)).drew := ((Keeps.refl [] w1).alloc _).drew
  refine wp_region_noPanic ?_
  refine wp_region_held_drew (S := (fun w' => w'.cell? ⟨w.heap.size, 0, none⟩ = some (.pointer (some ⟨p, 0, none⟩)) ∧ w'.cell? ⟨p, 0, none⟩ = some (.int .i64 n) ∧ w'.cell? ⟨p, 4, none⟩ = some (.slice (some ⟨g, 0, none⟩) n c) ∧ w'.cell? ⟨g, m, none⟩ = some (U64 Sn))) (by kernel_rfl) ⟨t1, c0, c4, hc⟩ (fun hHeld => ?_)
  refine wpAnyH_take (i := 0) (v := ?v2_7) rfl (by kernel_rfl) (by kernel_rfl) (by kernel_rfl) (fun _ _ _ h => h) (Or.inl ⟨by rfl, ?y2_7⟩) (by assumption) ?r2_7
  case y2_7 => (intro w hSw; (try dsimp only at hSw); go_simp; try with_reducible rfl)
  (try simp only [Act.put, List.getElem_toArray, List.getElem_cons_zero, List.getElem_cons_succ, List.setIfInBounds_toArray, List.set_cons_zero, List.set_cons_succ])
  refine wpAnyH_take (i := 1) (v := ?v2_8) rfl (by kernel_rfl) (by kernel_rfl) (by kernel_rfl) (fun _ _ _ h => h) (Or.inl ⟨by rfl, ?y2_8⟩) (by assumption) ?r2_8
  case y2_8 => (intro w hSw; (try dsimp only at hSw); go_simp; try with_reducible rfl)
  (try simp only [Act.put, List.getElem_toArray, List.getElem_cons_zero, List.getElem_cons_succ, List.setIfInBounds_toArray, List.set_cons_zero, List.set_cons_succ])
  refine wpAnyH_take (i := 2) (v := ?v2_9) rfl (by kernel_rfl) (by kernel_rfl) (by kernel_rfl) (fun _ _ _ h => h) (Or.inl ⟨by rfl, ?y2_9⟩) (by assumption) ?r2_9
  case y2_9 => (intro w hSw; (try dsimp only at hSw); go_simp; try with_reducible rfl)
  (try simp only [Act.put, List.getElem_toArray, List.getElem_cons_zero, List.getElem_cons_succ, List.setIfInBounds_toArray, List.set_cons_zero, List.set_cons_succ])
  refine wpAnyH_take (i := 3) (v := ?v2_10) rfl (by kernel_rfl) (by kernel_rfl) (by kernel_rfl) (fun _ _ _ h => h) (Or.inl ⟨by rfl, ?y2_10⟩) (by assumption) ?r2_10
  case y2_10 => (intro w hSw; (try dsimp only at hSw); go_simp; try with_reducible rfl)
  (try simp only [Act.put, List.getElem_toArray, List.getElem_cons_zero, List.getElem_cons_succ, List.setIfInBounds_toArray, List.set_cons_zero, List.set_cons_succ])
  refine wpAnyH_take (i := 4) (v := ?v2_11) rfl (by kernel_rfl) (by kernel_rfl) (by kernel_rfl) (fun _ _ _ h => h) (Or.inl ⟨by rfl, ?y2_11⟩) (by assumption) ?r2_11
  case y2_11 => (intro w hSw; (try dsimp only at hSw); go_simp; try with_reducible rfl)
  (try simp only [Act.put, List.getElem_toArray, List.getElem_cons_zero, List.getElem_cons_succ, List.setIfInBounds_toArray, List.set_cons_zero, List.set_cons_succ])
  refine wpAnyH_take (i := 5) (v := ?v2_12) rfl (by kernel_rfl) (by kernel_rfl) (by kernel_rfl) (fun _ _ _ h => h) (Or.inl ⟨by rfl, ?y2_12⟩) (by assumption) ?r2_12
  case y2_12 => (intro w hSw; (try dsimp only at hSw); go_simp; try with_reducible rfl)
  (try simp only [Act.put, List.getElem_toArray, List.getElem_cons_zero, List.getElem_cons_succ, List.setIfInBounds_toArray, List.set_cons_zero, List.set_cons_succ])
  refine wpAnyH_take (i := 6) (v := ?v2_13) rfl (by kernel_rfl) (by kernel_rfl) (by kernel_rfl) (fun _ _ _ h => h) (Or.inl ⟨by rfl, ?y2_13⟩) (by assumption) ?r2_13
  case y2_13 => (intro w hSw; (try dsimp only at hSw); go_simp; try with_reducible rfl)
  (try simp only [Act.put, List.getElem_toArray, List.getElem_cons_zero, List.getElem_cons_succ, List.setIfInBounds_toArray, List.set_cons_zero, List.set_cons_succ])
  refine wpAnyH_take (i := 7) (v := ?v2_14) rfl (by kernel_rfl) (by kernel_rfl) (by kernel_rfl) (fun _ _ _ h => h) (Or.inl ⟨by rfl, ?y2_14⟩) (by assumption) ?r2_14
  case y2_14 => (intro w hSw; (try dsimp only at hSw); go_simp; try with_reducible rfl)
  (try simp only [Act.put, List.getElem_toArray, List.getElem_cons_zero, List.getElem_cons_succ, List.setIfInBounds_toArray, List.set_cons_zero, List.set_cons_succ])
  refine wpAnyH_take (i := 8) (v := ?v2_15) rfl (by kernel_rfl) (by kernel_rfl) (by kernel_rfl) (fun _ _ _ h => h) (Or.inl ⟨by rfl, ?y2_15⟩) (by assumption) ?r2_15
  case y2_15 => (intro w hSw; (try dsimp only at hSw); go_simp; try with_reducible rfl)
  (try simp only [Act.put, List.getElem_toArray, List.getElem_cons_zero, List.getElem_cons_succ, List.setIfInBounds_toArray, List.set_cons_zero, List.set_cons_succ])
  refine wpAnyH_take (i := 9) (v := ?v2_16) rfl (by kernel_rfl) (by kernel_rfl) (by kernel_rfl) (fun _ _ _ h => h) (Or.inl ⟨by rfl, ?y2_16⟩) (by assumption) ?r2_16
  case y2_16 => (intro w hSw; (try dsimp only at hSw); go_simp; try with_reducible rfl)
  (try simp only [Act.put, List.getElem_toArray, List.getElem_cons_zero, List.getElem_cons_succ, List.setIfInBounds_toArray, List.set_cons_zero, List.set_cons_succ])
  refine wpAnyH_take (i := 10) (v := ?v2_17) rfl (by kernel_rfl) (by kernel_rfl) (by kernel_rfl) (fun _ _ _ h => h) (Or.inl ⟨by rfl, ?y2_17⟩) (by assumption) ?r2_17
  case y2_17 => (intro w hSw; (try dsimp only at hSw); go_simp; try with_reducible rfl)
  (try simp only [Act.put, List.getElem_toArray, List.getElem_cons_zero, List.getElem_cons_succ, List.setIfInBounds_toArray, List.set_cons_zero, List.set_cons_succ])
  refine wpAnyH_take (i := 11) (v := ?v2_18) rfl (by kernel_rfl) (by kernel_rfl) (by kernel_rfl) (fun _ _ _ h => h) (Or.inl ⟨by rfl, ?y2_18⟩) (by assumption) ?r2_18
  case y2_18 => (intro w hSw; (try dsimp only at hSw); go_simp; try with_reducible rfl)
  (try simp only [Act.put, List.getElem_toArray, List.getElem_cons_zero, List.getElem_cons_succ, List.setIfInBounds_toArray, List.set_cons_zero, List.set_cons_succ])
  refine wpAnyH_take (i := 12) (v := ?v2_19) rfl (by kernel_rfl) (by kernel_rfl) (by kernel_rfl) (fun _ _ _ h => h) (Or.inl ⟨by rfl, ?y2_19⟩) (by assumption) ?r2_19
  case y2_19 => (intro w hSw; (try dsimp only at hSw); go_simp; try with_reducible rfl)
  (try simp only [Act.put, List.getElem_toArray, List.getElem_cons_zero, List.getElem_cons_succ, List.setIfInBounds_toArray, List.set_cons_zero, List.set_cons_succ])
  refine wpAnyH_take (i := 13) (v := ?v2_20) rfl (by kernel_rfl) (by kernel_rfl) (by kernel_rfl) (fun _ _ _ h => h) (Or.inl ⟨by rfl, ?y2_20⟩) (by assumption) ?r2_20
  case y2_20 => (intro w hSw; (try dsimp only at hSw); go_simp; try with_reducible rfl)
  (try simp only [Act.put, List.getElem_toArray, List.getElem_cons_zero, List.getElem_cons_succ, List.setIfInBounds_toArray, List.set_cons_zero, List.set_cons_succ])
  refine wpAnyH_take (i := 14) (v := ?v2_21) rfl (by kernel_rfl) (by kernel_rfl) (by kernel_rfl) (fun _ _ _ h => h) (Or.inl ⟨by rfl, ?y2_21⟩) (by assumption) ?r2_21
  case y2_21 => (intro w hSw; (try dsimp only at hSw); go_simp; try with_reducible rfl)
  (try simp only [Act.put, List.getElem_toArray, List.getElem_cons_zero, List.getElem_cons_succ, List.setIfInBounds_toArray, List.set_cons_zero, List.set_cons_succ])
  refine wpAnyH_ready (rs := [15]) (by kernel_rfl) (by simp) ?_
  refine AllReadyH.cons rfl (fun K hK => ?_) AllReadyH.nil
  go_simp
  refine hK.out _ _ ?s2_22 (fun hHeld => ?_)
  case s2_22 => ((try dsimp only) <;> (first | exact ⟨kA.cell0 t1, kA.cell0 c0, kA.cell0 c4, kA.cell0 hc⟩))
  clear hK K
  (try simp only [Act.put, List.getElem_toArray, List.getElem_cons_zero, List.getElem_cons_succ, List.setIfInBounds_toArray, List.set_cons_zero, List.set_cons_succ])
  refine wpAnyH_ready (rs := [16]) (by kernel_rfl) (by simp) ?_
  refine AllReadyH.cons rfl (fun K hK => ?_) AllReadyH.nil
  go_simp
  refine hK.out _ _ ?s2_23 (fun hHeld => ?_)
  case s2_23 => ((try dsimp only) <;> (first | exact ⟨kB.cell0 t1, kB.cell0 c0, kB.cell0 c4, kB.cell0 hc⟩))
  clear hK K
  (try simp only [Act.put, List.getElem_toArray, List.getElem_cons_zero, List.getElem_cons_succ, List.setIfInBounds_toArray, List.set_cons_zero, List.set_cons_succ])
  refine wpAnyH_done (by kernel_rfl) ?_ _
  refine NoPanic.normal ?_
  have hbB := hb2.keeps kB (by simp)
  have HB := Lib.hid (HI.out.keeps kB (by simp))
  have d1 := kB.cell0 t1
  have ca : (w1.alloc (.cells #[U64 y] 25)).drew.cell? ⟨w1.heap.size, 0, none⟩ = some (U64 y) := (Blk.newA w1 25 #[U64 y]).cell' (i := 0) rfl
  have kw := k1.trans' kB (fun _ h => .inl h) (by simp)
  clear HI
  go_wp2_with fail
  generalize (w1.alloc (.cells #[U64 y] 25)).drew = w2 at *
  refine (search_calls #[.pointer (some ⟨w.heap.size, 0, none⟩), .pointer (some ⟨w1.heap.size, 0, none⟩)] n (fun i => decide (y < sumTo n (i + 1))) (by omega) (fun wr i hk hi => ?_) ?_).mono ?_
  · have := degfn_calls (hbB.keeps hk (by simp)) (HB.out.keeps hk (by simp)) (hk.cell0 d1) (hk.cell0 ca) i hi
    exact this.mono fun e w' ⟨h1, h2⟩ => ⟨h1, hk.trans h2⟩
  · intro a b hab hbn ha
    have := sumTo_mono n (show a + 1 ≤ b + 1 by omega)
    simp at ha ⊢
    omega
  rintro e w3 ⟨rfl, k3⟩
  have hcl := cnt_le (fun i => !decide (y < sumTo n (i + 1))) n
  have HD' := Lib.hid (show degree n x = 1 + cnt (fun i => !decide (y < sumTo n (i + 1))) n from HD.out)
  clear HD
  generalize cnt (fun i => !decide (y < sumTo n (i + 1))) n = cc at *
  go_wp2_with fail
  go_ret
  exact ⟨by rw [HD'.out, Int.natCast_add]; rfl, kw.trans' k3 (fun _ h => .inl h) (by simp)⟩

end Go.Proofs.YtijhaeapoapgfaaGreatDoor
