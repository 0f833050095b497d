/-
  GrMf2: the texts Mf2, Mf3, one behind another.
-/
import Derived.Test.YtijhaeapoapgfaaGreatDoorGrMac
import Derived.Test.YtijhaeapoapgfaaGreatDoorGrCd2
set_option linter.unusedVariables false
set_option linter.unusedSimpArgs false
namespace Go.Proofs.YtijhaeapoapgfaaGreatDoor
open Go.RowKit
attribute [local go_sem ↓] Go.wp_at_zero Go.wp_at_succ

def FourPost (w : World) (l : List UInt8) (k : Nat) (e : Ending) (w' : World) : Prop := ∃ a c, e = .returned (.slice a k c) ∧ RdS w' (.slice a k c) l ∧ Keeps [] w w'
theorem four2_calls {w : World} (M : UInt32) : Calls Tryz.prog 43 #[B32 M] w (FourPost w (be4 M) 4) := by
  refine (four_calls M).mono ?_
  rintro e w' ⟨v, rfl, hO, k⟩
  have hR := hO.rds
  obtain ⟨a, c, rfl, _⟩ := id hR
  exact ⟨a, c, rfl, hR, k⟩
set_option maxRecDepth 100000 in
theorem mwide_calls {w : World} (M : UInt32) : Calls Tryz.prog 142 #[B32 M] w (FourPost w (be4 M) 4) := by
  have hM := M.toNat_lt
  go_enter Tryz.func142, Tryz.ntmps142
  go_wp2_with fail
  go_ret
  exact ⟨_, _, rfl, (Own.lit' w _ (be4 M) 4 (rfour_bytes M _ _ _ _ (by omega) (by omega) (by omega) (by omega)) rfl (by omega)).rds, (Keeps.refl [] w).alloc _⟩

/-- A number in two bytes. -/
def be2 (n : Nat) : List UInt8 := [UInt8.ofNat (n / 256), UInt8.ofNat n]
def plainM (s v : UInt32) (n z P : Nat) (h : List UInt8) : List UInt8 := be4 s ++ (be4 v ++ (be2 n ++ (UInt8.ofNat z :: UInt8.ofNat P :: h)))

theorem u8w (k : Nat) : Value.int .u8 (IntKind.u8.wrap (k : Int)) = B8 (UInt8.ofNat k) := by
  show Value.int .u8 _ = .int .u8 (((UInt8.ofNat k).toNat : Nat) : Int)
  rw [UInt8.toNat_ofNat']
  simp [IntKind.wrap, IntKind.bits, IntKind.signed]
theorem u8w2 (k : Nat) : Value.int .u8 (IntKind.u8.wrap ((k : Int) / 256)) = B8 (UInt8.ofNat (k / 256)) := by
  rw [← u8w]; congr 1
set_option maxRecDepth 100000 in
theorem two_calls {w : World} (n : Nat) (hn : n ≤ 65535) : Calls Tryz.prog 51 #[.int .i64 n] w (FourPost w (be2 n) 2) := by
  go_enter Tryz.func51, Tryz.ntmps51
  go_wp2_with fail
  go_ret
  have e1 : Value.int .u8 ((n : Int) / 256) = B8 (UInt8.ofNat (n / 256)) := by show Value.int .u8 _ = .int .u8 _; rw [UInt8.toNat_ofNat']; congr 1; omega
  have e2 : Value.int .u8 ((n : Int) % 256) = B8 (UInt8.ofNat n) := by show Value.int .u8 _ = .int .u8 _; rw [UInt8.toNat_ofNat']; congr 1
  exact ⟨_, _, rfl, (Own.lit8 w _ (be2 n) 2 (by simp only [e1, e2]; rfl) rfl (by omega)).rds, (Keeps.refl [] w).alloc _⟩

def PlainPost (w : World) (l : List UInt8) (e : Ending) (w' : World) : Prop := ∃ v', e = .returned (.tuple #[v', .int .i64 0]) ∧ Own w' w.heap.size v' l ∧ Keeps [] w w'

set_option maxRecDepth 100000 in
set_option maxHeartbeats 3200000 in
theorem plain_calls {w : World} (s v : UInt32) {n z P nK : Nat} (hm : MfOk n z P nK) {a : Option Addr} {c : Nat} {h : List UInt8} (hh : RdS w (.slice a 32 c) h) (hl : h.length = 32) :
    Calls Tryz.prog 97 #[MfV s v n z P (.slice a 32 c)] w (PlainPost w (plainM s v n z P h)) := by
  have HMy := Lib.hid (fun w => mfmay_calls (w := w) s v a c hm)
  have hB0 := Blk.newA w 35 (MfL s v n z P (.slice a 32 c)).toArray
  have kA : Keeps [] w (w.alloc (.cells (MfL s v n z P (.slice a 32 c)).toArray 35)) := (Keeps.refl [] w).alloc _
  have HW1 := Lib.hid (fun w => mwide_calls (w := w) s)
  have HW2 := Lib.hid (fun w => mwide_calls (w := w) v)
  have HLit : Hid (∀ W : World, RdS (W.alloc (.cells #[.int .u8 (IntKind.u8.wrap ((n : Int) / 256)), .int .u8 (IntKind.u8.wrap (n : Int)), .int .u8 (IntKind.u8.wrap (z : Int)), .int .u8 (IntKind.u8.wrap (P : Int))] 5)) (.slice (some ⟨W.heap.size, 0, none⟩) 4 4) [UInt8.ofNat (n / 256), UInt8.ofNat n, UInt8.ofNat z, UInt8.ofNat P]) := Lib.hid (fun W => (Own.lit8 W #[.int .u8 (IntKind.u8.wrap ((n : Int) / 256)), .int .u8 (IntKind.u8.wrap (n : Int)), .int .u8 (IntKind.u8.wrap (z : Int)), .int .u8 (IntKind.u8.wrap (P : Int))] [UInt8.ofNat (n / 256), UInt8.ofNat n, UInt8.ofNat z, UInt8.ofNat P] 4 (by simp only [u8w, u8w2]; rfl) rfl (by omega)).rds)
  have HfF := Lib.hid (show ([be4 s, be4 v, [UInt8.ofNat (n / 256), UInt8.ofNat n, UInt8.ofNat z, UInt8.ofNat P], h]).flatten = plainM s v n z P h from by simp [plainM, be2])
  have HfL := Lib.hid (show ([be4 s, be4 v, [UInt8.ofNat (n / 256), UInt8.ofNat n, UInt8.ofNat z, UInt8.ofNat P], h]).flatten.length = 44 from by simp [be4, be2, hl])
  unfold PlainPost
  generalize plainM s v n z P h = T at *
  clear hm
  go_enter Tryz.func97, Tryz.ntmps97
  have d0 := hB0.cell' (i := 0) rfl
  have d1 := hB0.cell' (i := 1) rfl
  have d2 := hB0.cell' (i := 2) rfl
  have d3 := hB0.cell' (i := 3) rfl
  have d4 := hB0.cell' (i := 4) rfl
  have d5 := hB0.cell' (i := 5) rfl
  go_wp2_with fail
  generalize w.alloc (.cells (MfL s v n z P (.slice a 32 c)).toArray 35) = w0 at *
  refine (HMy.out _).mono ?_
  rintro e w1 ⟨rfl, k1⟩
  have c0 := k1.cell0 d0
  have c1 := k1.cell0 d1
  have c2 := k1.cell0 d2
  have c3 := k1.cell0 d3
  have c4 := k1.cell0 d4
  have c5 := k1.cell0 d5
  have HK1 := Lib.hid (kA.trans k1)
  have HH := Lib.hid (hh.keepsNil (kA.trans k1))
  clear d0 d1 d2 d3 d4 d5 hB0 kA k1 hh HMy
  go_wp2_with fail
  refine wp_region_noPanic ?_
  refine wp_region_held_drew (S := (fun w' => w'.cell? ⟨w.heap.size, 0, none⟩ = some (B32 s) ∧ w'.cell? ⟨w.heap.size, 1, none⟩ = some (B32 v) ∧ w'.cell? ⟨w.heap.size, 2, none⟩ = some (.int .i64 n) ∧ w'.cell? ⟨w.heap.size, 3, none⟩ = some (.int .i64 z) ∧ w'.cell? ⟨w.heap.size, 4, none⟩ = some (.int .i64 P) ∧ w'.cell? ⟨w.heap.size, 5, none⟩ = some (.slice a 32 c))) (by kernel_rfl) ⟨c0, c1, c2, c3, c4, c5⟩ (fun hHeld => ?_)
  have kd : Keeps [] w1 w1.drew := (Keeps.refl [] w1).drew
  refine wpAnyH_take (i := 0) (v := ?v1_1) rfl (by kernel_rfl) (by kernel_rfl) (by kernel_rfl) (fun _ _ _ h => h) (Or.inl ⟨by rfl, ?y1_1⟩) (by assumption) ?r1_1
  case y1_1 => (intro w hSw; (try dsimp only at hSw); go_simp; try with_reducible rfl)
  (try simp only [Act.put, List.getElem_toArray, List.getElem_cons_zero, List.getElem_cons_succ, List.setIfInBounds_toArray, List.set_cons_zero, List.set_cons_succ])
  refine wpAnyH_take (i := 1) (v := ?v1_2) rfl (by kernel_rfl) (by kernel_rfl) (by kernel_rfl) (fun _ _ _ h => h) (Or.inl ⟨by rfl, ?y1_2⟩) (by assumption) ?r1_2
  case y1_2 => (intro w hSw; (try dsimp only at hSw); go_simp; try with_reducible rfl)
  (try simp only [Act.put, List.getElem_toArray, List.getElem_cons_zero, List.getElem_cons_succ, List.setIfInBounds_toArray, List.set_cons_zero, List.set_cons_succ])
  refine wpAnyH_take (i := 3) (v := ?v1_3) rfl (by kernel_rfl) (by kernel_rfl) (by kernel_rfl) (fun _ _ _ h => h) (Or.inl ⟨by rfl, ?y1_3⟩) (by assumption) ?r1_3
  case y1_3 => (intro w hSw; (try dsimp only at hSw); go_simp; try with_reducible rfl)
  (try simp only [Act.put, List.getElem_toArray, List.getElem_cons_zero, List.getElem_cons_succ, List.setIfInBounds_toArray, List.set_cons_zero, List.set_cons_succ])
  refine wpAnyH_take (i := 4) (v := ?v1_4) rfl (by kernel_rfl) (by kernel_rfl) (by kernel_rfl) (fun _ _ _ h => h) (Or.inl ⟨by rfl, ?y1_4⟩) (by assumption) ?r1_4
  case y1_4 => (intro w hSw; (try dsimp only at hSw); go_simp; try with_reducible rfl)
  (try simp only [Act.put, List.getElem_toArray, List.getElem_cons_zero, List.getElem_cons_succ, List.setIfInBounds_toArray, List.set_cons_zero, List.set_cons_succ])
  refine wpAnyH_take (i := 6) (v := ?v1_5) rfl (by kernel_rfl) (by kernel_rfl) (by kernel_rfl) (fun _ _ _ h => h) (Or.inl ⟨by rfl, ?y1_5⟩) (by assumption) ?r1_5
  case y1_5 => (intro w hSw; (try dsimp only at hSw); go_simp; try with_reducible rfl)
  (try simp only [Act.put, List.getElem_toArray, List.getElem_cons_zero, List.getElem_cons_succ, List.setIfInBounds_toArray, List.set_cons_zero, List.set_cons_succ])
  refine wpAnyH_take (i := 7) (v := ?v1_6) rfl (by kernel_rfl) (by kernel_rfl) (by kernel_rfl) (fun _ _ _ h => h) (Or.inl ⟨by rfl, ?y1_6⟩) (by assumption) ?r1_6
  case y1_6 => (intro w hSw; (try dsimp only at hSw); go_simp; try with_reducible rfl)
  (try simp only [Act.put, List.getElem_toArray, List.getElem_cons_zero, List.getElem_cons_succ, List.setIfInBounds_toArray, List.set_cons_zero, List.set_cons_succ])
  refine wpAnyH_take (i := 8) (v := ?v1_7) rfl (by kernel_rfl) (by kernel_rfl) (by kernel_rfl) (fun _ _ _ h => h) (Or.inl ⟨by rfl, ?y1_7⟩) (by assumption) ?r1_7
  case y1_7 => (intro w hSw; (try dsimp only at hSw); go_simp; try with_reducible rfl)
  (try simp only [Act.put, List.getElem_toArray, List.getElem_cons_zero, List.getElem_cons_succ, List.setIfInBounds_toArray, List.set_cons_zero, List.set_cons_succ])
  refine wpAnyH_take (i := 9) (v := ?v1_8) rfl (by kernel_rfl) (by kernel_rfl) (by kernel_rfl) (fun _ _ _ h => h) (Or.inl ⟨by rfl, ?y1_8⟩) (by assumption) ?r1_8
  case y1_8 => (intro w hSw; (try dsimp only at hSw); go_simp; try with_reducible rfl)
  (try simp only [Act.put, List.getElem_toArray, List.getElem_cons_zero, List.getElem_cons_succ, List.setIfInBounds_toArray, List.set_cons_zero, List.set_cons_succ])
  refine wpAnyH_take (i := 10) (v := ?v1_9) rfl (by kernel_rfl) (by kernel_rfl) (by kernel_rfl) (fun _ _ _ h => h) (Or.inl ⟨by rfl, ?y1_9⟩) (by assumption) ?r1_9
  case y1_9 => (intro w hSw; (try dsimp only at hSw); go_simp; try with_reducible rfl)
  (try simp only [Act.put, List.getElem_toArray, List.getElem_cons_zero, List.getElem_cons_succ, List.setIfInBounds_toArray, List.set_cons_zero, List.set_cons_succ])
  refine wpAnyH_take (i := 11) (v := ?v1_10) rfl (by kernel_rfl) (by kernel_rfl) (by kernel_rfl) (fun _ _ _ h => h) (Or.inl ⟨by rfl, ?y1_10⟩) (by assumption) ?r1_10
  case y1_10 => (intro w hSw; (try dsimp only at hSw); go_simp; try with_reducible rfl)
  (try simp only [Act.put, List.getElem_toArray, List.getElem_cons_zero, List.getElem_cons_succ, List.setIfInBounds_toArray, List.set_cons_zero, List.set_cons_succ])
  refine wpAnyH_take (i := 12) (v := ?v1_11) rfl (by kernel_rfl) (by kernel_rfl) (by kernel_rfl) (fun _ _ _ h => h) (Or.inl ⟨by rfl, ?y1_11⟩) (by assumption) ?r1_11
  case y1_11 => (intro w hSw; (try dsimp only at hSw); go_simp; try with_reducible rfl)
  (try simp only [Act.put, List.getElem_toArray, List.getElem_cons_zero, List.getElem_cons_succ, List.setIfInBounds_toArray, List.set_cons_zero, List.set_cons_succ])
  refine wpAnyH_take (i := 13) (v := ?v1_12) rfl (by kernel_rfl) (by kernel_rfl) (by kernel_rfl) (fun _ _ _ h => h) (Or.inl ⟨by rfl, ?y1_12⟩) (by assumption) ?r1_12
  case y1_12 => (intro w hSw; (try dsimp only at hSw); go_simp; try with_reducible rfl)
  (try simp only [Act.put, List.getElem_toArray, List.getElem_cons_zero, List.getElem_cons_succ, List.setIfInBounds_toArray, List.set_cons_zero, List.set_cons_succ])
  refine wpAnyH_take (i := 14) (v := ?v1_13) rfl (by kernel_rfl) (by kernel_rfl) (by kernel_rfl) (fun _ _ _ h => h) (Or.inl ⟨by rfl, ?y1_13⟩) (by assumption) ?r1_13
  case y1_13 => (intro w hSw; (try dsimp only at hSw); go_simp; try with_reducible rfl)
  (try simp only [Act.put, List.getElem_toArray, List.getElem_cons_zero, List.getElem_cons_succ, List.setIfInBounds_toArray, List.set_cons_zero, List.set_cons_succ])
  refine wpAnyH_take (i := 15) (v := ?v1_14) rfl (by kernel_rfl) (by kernel_rfl) (by kernel_rfl) (fun _ _ _ h => h) (Or.inl ⟨by rfl, ?y1_14⟩) (by assumption) ?r1_14
  case y1_14 => (intro w hSw; (try dsimp only at hSw); go_simp; try with_reducible rfl)
  (try simp only [Act.put, List.getElem_toArray, List.getElem_cons_zero, List.getElem_cons_succ, List.setIfInBounds_toArray, List.set_cons_zero, List.set_cons_succ])
  refine wpAnyH_take (i := 16) (v := ?v1_15) rfl (by kernel_rfl) (by kernel_rfl) (by kernel_rfl) (fun _ _ _ h => h) (Or.inl ⟨by rfl, ?y1_15⟩) (by assumption) ?r1_15
  case y1_15 => (intro w hSw; (try dsimp only at hSw); go_simp; try with_reducible rfl)
  (try simp only [Act.put, List.getElem_toArray, List.getElem_cons_zero, List.getElem_cons_succ, List.setIfInBounds_toArray, List.set_cons_zero, List.set_cons_succ])
  refine wpAnyH_take (i := 17) (v := ?v1_16) rfl (by kernel_rfl) (by kernel_rfl) (by kernel_rfl) (fun _ _ _ h => h) (Or.inl ⟨by rfl, ?y1_16⟩) (by assumption) ?r1_16
  case y1_16 => (intro w hSw; (try dsimp only at hSw); go_simp; try with_reducible rfl)
  (try simp only [Act.put, List.getElem_toArray, List.getElem_cons_zero, List.getElem_cons_succ, List.setIfInBounds_toArray, List.set_cons_zero, List.set_cons_succ])
  refine wpAnyH_take (i := 18) (v := ?v1_17) rfl (by kernel_rfl) (by kernel_rfl) (by kernel_rfl) (fun _ _ _ h => h) (Or.inl ⟨by rfl, ?y1_17⟩) (by assumption) ?r1_17
  case y1_17 => (intro w hSw; (try dsimp only at hSw); go_simp; try with_reducible rfl)
  (try simp only [Act.put, List.getElem_toArray, List.getElem_cons_zero, List.getElem_cons_succ, List.setIfInBounds_toArray, List.set_cons_zero, List.set_cons_succ])
  refine wpAnyH_take (i := 20) (v := ?v1_18) rfl (by kernel_rfl) (by kernel_rfl) (by kernel_rfl) (fun _ _ _ h => h) (Or.inl ⟨by rfl, ?y1_18⟩) (by assumption) ?r1_18
  case y1_18 => (intro w hSw; (try dsimp only at hSw); go_simp; try with_reducible rfl)
  (try simp only [Act.put, List.getElem_toArray, List.getElem_cons_zero, List.getElem_cons_succ, List.setIfInBounds_toArray, List.set_cons_zero, List.set_cons_succ])
  refine wpAnyH_take (i := 21) (v := ?v1_19) rfl (by kernel_rfl) (by kernel_rfl) (by kernel_rfl) (fun _ _ _ h => h) (Or.inl ⟨by rfl, ?y1_19⟩) (by assumption) ?r1_19
  case y1_19 => (intro w hSw; (try dsimp only at hSw); go_simp; try with_reducible rfl)
  (try simp only [Act.put, List.getElem_toArray, List.getElem_cons_zero, List.getElem_cons_succ, List.setIfInBounds_toArray, List.set_cons_zero, List.set_cons_succ])
  refine wpAnyH_ready (rs := [2, 19]) (by kernel_rfl) (by simp) ?_
  refine AllReadyH.cons rfl (fun K hK => ?ba1) (AllReadyH.cons rfl (fun K hK => ?bb1) AllReadyH.nil)
  case ba1 =>
    go_simp
    refine (HW1.out _).mono ?_
    rintro e w12 ⟨a2, q2, rfl, R2, k2⟩
    replace kd := kd.trans k2
    clear k2
    go_wp2_with fail
    refine hK.out _ _ ?s1_20 (fun hHeld => ?_)
    case s1_20 => ((try dsimp only) <;> (first | exact ⟨kd.cell0 c0, kd.cell0 c1, kd.cell0 c2, kd.cell0 c3, kd.cell0 c4, kd.cell0 c5⟩))
    clear hK K
    (try simp only [Act.put, List.getElem_toArray, List.getElem_cons_zero, List.getElem_cons_succ, List.setIfInBounds_toArray, List.set_cons_zero, List.set_cons_succ])
    refine wpAnyH_ready (rs := [5, 19]) (by kernel_rfl) (by simp) ?_
    refine AllReadyH.cons rfl (fun K hK => ?ba2) (AllReadyH.cons rfl (fun K hK => ?bb2) AllReadyH.nil)
    case ba2 =>
      go_simp
      refine (HW2.out _).mono ?_
      rintro e w15 ⟨a5, q5, rfl, R5, k5⟩
      replace R2 := R2.keepsNil k5
      replace kd := kd.trans k5
      clear k5
      go_wp2_with fail
      refine hK.out _ _ ?s1_21 (fun hHeld => ?_)
      case s1_21 => ((try dsimp only) <;> (first | exact ⟨kd.cell0 c0, kd.cell0 c1, kd.cell0 c2, kd.cell0 c3, kd.cell0 c4, kd.cell0 c5⟩))
      clear hK K
      (try simp only [Act.put, List.getElem_toArray, List.getElem_cons_zero, List.getElem_cons_succ, List.setIfInBounds_toArray, List.set_cons_zero, List.set_cons_succ])
      refine wpAnyH_ready (rs := [19]) (by kernel_rfl) (by simp) ?_
      refine AllReadyH.cons rfl (fun K hK => ?_) AllReadyH.nil
      go_simp
      have kL : Keeps [] w15 (w15.alloc (.cells #[.int .u8 (IntKind.u8.wrap ((n : Int) / 256)), .int .u8 (IntKind.u8.wrap (n : Int)), .int .u8 (IntKind.u8.wrap (z : Int)), .int .u8 (IntKind.u8.wrap (P : Int))] 5)) := (Keeps.refl [] w15).alloc _
      have RL := HLit.out w15
      replace R2 := R2.keepsNil kL
      replace R5 := R5.keepsNil kL
      replace kd := kd.trans kL
      clear kL
      refine hK.out _ _ ?s1_22 (fun hHeld => ?_)
      case s1_22 => ((try dsimp only) <;> (first | exact ⟨kd.cell0 c0, kd.cell0 c1, kd.cell0 c2, kd.cell0 c3, kd.cell0 c4, kd.cell0 c5⟩))
      clear hK K
      (try simp only [Act.put, List.getElem_toArray, List.getElem_cons_zero, List.getElem_cons_succ, List.setIfInBounds_toArray, List.set_cons_zero, List.set_cons_succ])
      generalize w15.alloc (.cells #[.int .u8 (IntKind.u8.wrap ((n : Int) / 256)), .int .u8 (IntKind.u8.wrap (n : Int)), .int .u8 (IntKind.u8.wrap (z : Int)), .int .u8 (IntKind.u8.wrap (P : Int))] 5) = wl at *
      have kM : Keeps [] wl (wl.alloc (.cells #[.slice a2 4 q2, .slice a5 4 q5, .slice (some ⟨w15.heap.size, 0, none⟩) 4 4, .slice a 32 c] 22)) := (Keeps.refl [] wl).alloc _
      have RH := HH.out.keepsNil kd
      have hC := concat_calls (w := wl.alloc (.cells #[.slice a2 4 q2, .slice a5 4 q5, .slice (some ⟨w15.heap.size, 0, none⟩) 4 4, .slice a 32 c] 22)) (RdL.four (Blk.newA wl 22 #[.slice a2 4 q2, .slice a5 4 q5, .slice (some ⟨w15.heap.size, 0, none⟩) 4 4, .slice a 32 c]) (R2.keepsNil kM) (R5.keepsNil kM) (RL.keepsNil kM) (RH.keepsNil kM)) (by simp) (by rw [HfL.out]; omega) (by rw [HfL.out]; omega)
      rw [HfF.out] at hC
      have HC := Lib.hid hC
      clear hC
      refine wpAnyH_ready (rs := [22]) (by kernel_rfl) (by simp) ?_
      refine AllReadyH.cons rfl (fun K hK => ?_) AllReadyH.nil
      go_simp
      replace kd := kd.trans kM
      refine hK.out _ _ ?s1_23 (fun hHeld => ?_)
      case s1_23 => ((try dsimp only) <;> (first | exact ⟨kd.cell0 c0, kd.cell0 c1, kd.cell0 c2, kd.cell0 c3, kd.cell0 c4, kd.cell0 c5⟩))
      clear hK K
      (try simp only [Act.put, List.getElem_toArray, List.getElem_cons_zero, List.getElem_cons_succ, List.setIfInBounds_toArray, List.set_cons_zero, List.set_cons_succ])
      refine wpAnyH_ready (rs := [23]) (by kernel_rfl) (by simp) ?_
      refine AllReadyH.cons rfl (fun K hK => ?_) AllReadyH.nil
      go_simp
      refine HC.out.mono ?_
      rintro e w99 ⟨v99, rfl, hO, k99⟩
      have hs := kd.size
      replace kd := kd.trans k99
      have HO := Lib.hid (hO.mono (Nat.le_trans HK1.out.size hs))
      clear hO k99 HC kM
      go_wp2_with fail
      refine hK.out _ _ ?s1_24 (fun hHeld => ?_)
      case s1_24 => ((try dsimp only) <;> (first | exact ⟨kd.cell0 c0, kd.cell0 c1, kd.cell0 c2, kd.cell0 c3, kd.cell0 c4, kd.cell0 c5⟩))
      clear hK K
      (try simp only [Act.put, List.getElem_toArray, List.getElem_cons_zero, List.getElem_cons_succ, List.setIfInBounds_toArray, List.set_cons_zero, List.set_cons_succ])
      refine wpAnyH_take (i := 24) (v := ?v1_25) rfl (by kernel_rfl) (by kernel_rfl) (by kernel_rfl) (fun _ _ _ h => h) (Or.inl ⟨by rfl, ?y1_25⟩) (by assumption) ?r1_25
      case y1_25 => (intro w hSw; (try dsimp only at hSw); go_simp; try with_reducible rfl)
      (try simp only [Act.put, List.getElem_toArray, List.getElem_cons_zero, List.getElem_cons_succ, List.setIfInBounds_toArray, List.set_cons_zero, List.set_cons_succ])
      refine wpAnyH_take (i := 25) (v := ?v1_26) rfl (by kernel_rfl) (by kernel_rfl) (by kernel_rfl) (fun _ _ _ h => h) (Or.inl ⟨by rfl, ?y1_26⟩) (by assumption) ?r1_26
      case y1_26 => (intro w hSw; (try dsimp only at hSw); go_simp; try with_reducible rfl)
      (try simp only [Act.put, List.getElem_toArray, List.getElem_cons_zero, List.getElem_cons_succ, List.setIfInBounds_toArray, List.set_cons_zero, List.set_cons_succ])
      refine wpAnyH_done (by kernel_rfl) ?_ _
      refine NoPanic.normal ?_
      go_wp2_with fail
      go_ret2
      exact ⟨_, rfl, HO.out, HK1.out.trans kd⟩
    case bb2 =>
      go_simp
      have kL : Keeps [] w12 (w12.alloc (.cells #[.int .u8 (IntKind.u8.wrap ((n : Int) / 256)), .int .u8 (IntKind.u8.wrap (n : Int)), .int .u8 (IntKind.u8.wrap (z : Int)), .int .u8 (IntKind.u8.wrap (P : Int))] 5)) := (Keeps.refl [] w12).alloc _
      have RL := HLit.out w12
      replace R2 := R2.keepsNil kL
      replace kd := kd.trans kL
      clear kL
      refine hK.out _ _ ?s1_27 (fun hHeld => ?_)
      case s1_27 => ((try dsimp only) <;> (first | exact ⟨kd.cell0 c0, kd.cell0 c1, kd.cell0 c2, kd.cell0 c3, kd.cell0 c4, kd.cell0 c5⟩))
      clear hK K
      (try simp only [Act.put, List.getElem_toArray, List.getElem_cons_zero, List.getElem_cons_succ, List.setIfInBounds_toArray, List.set_cons_zero, List.set_cons_succ])
      generalize w12.alloc (.cells #[.int .u8 (IntKind.u8.wrap ((n : Int) / 256)), .int .u8 (IntKind.u8.wrap (n : Int)), .int .u8 (IntKind.u8.wrap (z : Int)), .int .u8 (IntKind.u8.wrap (P : Int))] 5) = wl at *
      refine wpAnyH_ready (rs := [5]) (by kernel_rfl) (by simp) ?_
      refine AllReadyH.cons rfl (fun K hK => ?_) AllReadyH.nil
      go_simp
      refine (HW2.out _).mono ?_
      rintro e w15 ⟨a5, q5, rfl, R5, k5⟩
      replace R2 := R2.keepsNil k5
      replace RL := RL.keepsNil k5
      replace kd := kd.trans k5
      clear k5
      go_wp2_with fail
      refine hK.out _ _ ?s1_28 (fun hHeld => ?_)
      case s1_28 => ((try dsimp only) <;> (first | exact ⟨kd.cell0 c0, kd.cell0 c1, kd.cell0 c2, kd.cell0 c3, kd.cell0 c4, kd.cell0 c5⟩))
      clear hK K
      (try simp only [Act.put, List.getElem_toArray, List.getElem_cons_zero, List.getElem_cons_succ, List.setIfInBounds_toArray, List.set_cons_zero, List.set_cons_succ])
      have kM : Keeps [] w15 (w15.alloc (.cells #[.slice a2 4 q2, .slice a5 4 q5, .slice (some ⟨w12.heap.size, 0, none⟩) 4 4, .slice a 32 c] 22)) := (Keeps.refl [] w15).alloc _
      have RH := HH.out.keepsNil kd
      have hC := concat_calls (w := w15.alloc (.cells #[.slice a2 4 q2, .slice a5 4 q5, .slice (some ⟨w12.heap.size, 0, none⟩) 4 4, .slice a 32 c] 22)) (RdL.four (Blk.newA w15 22 #[.slice a2 4 q2, .slice a5 4 q5, .slice (some ⟨w12.heap.size, 0, none⟩) 4 4, .slice a 32 c]) (R2.keepsNil kM) (R5.keepsNil kM) (RL.keepsNil kM) (RH.keepsNil kM)) (by simp) (by rw [HfL.out]; omega) (by rw [HfL.out]; omega)
      rw [HfF.out] at hC
      have HC := Lib.hid hC
      clear hC
      refine wpAnyH_ready (rs := [22]) (by kernel_rfl) (by simp) ?_
      refine AllReadyH.cons rfl (fun K hK => ?_) AllReadyH.nil
      go_simp
      replace kd := kd.trans kM
      refine hK.out _ _ ?s1_29 (fun hHeld => ?_)
      case s1_29 => ((try dsimp only) <;> (first | exact ⟨kd.cell0 c0, kd.cell0 c1, kd.cell0 c2, kd.cell0 c3, kd.cell0 c4, kd.cell0 c5⟩))
      clear hK K
      (try simp only [Act.put, List.getElem_toArray, List.getElem_cons_zero, List.getElem_cons_succ, List.setIfInBounds_toArray, List.set_cons_zero, List.set_cons_succ])
      refine wpAnyH_ready (rs := [23]) (by kernel_rfl) (by simp) ?_
      refine AllReadyH.cons rfl (fun K hK => ?_) AllReadyH.nil
      go_simp
      refine HC.out.mono ?_
      rintro e w99 ⟨v99, rfl, hO, k99⟩
      have hs := kd.size
      replace kd := kd.trans k99
      have HO := Lib.hid (hO.mono (Nat.le_trans HK1.out.size hs))
      clear hO k99 HC kM
      go_wp2_with fail
      refine hK.out _ _ ?s1_30 (fun hHeld => ?_)
      case s1_30 => ((try dsimp only) <;> (first | exact ⟨kd.cell0 c0, kd.cell0 c1, kd.cell0 c2, kd.cell0 c3, kd.cell0 c4, kd.cell0 c5⟩))
      clear hK K
      (try simp only [Act.put, List.getElem_toArray, List.getElem_cons_zero, List.getElem_cons_succ, List.setIfInBounds_toArray, List.set_cons_zero, List.set_cons_succ])
      refine wpAnyH_take (i := 24) (v := ?v1_31) rfl (by kernel_rfl) (by kernel_rfl) (by kernel_rfl) (fun _ _ _ h => h) (Or.inl ⟨by rfl, ?y1_31⟩) (by assumption) ?r1_31
      case y1_31 => (intro w hSw; (try dsimp only at hSw); go_simp; try with_reducible rfl)
      (try simp only [Act.put, List.getElem_toArray, List.getElem_cons_zero, List.getElem_cons_succ, List.setIfInBounds_toArray, List.set_cons_zero, List.set_cons_succ])
      refine wpAnyH_take (i := 25) (v := ?v1_32) rfl (by kernel_rfl) (by kernel_rfl) (by kernel_rfl) (fun _ _ _ h => h) (Or.inl ⟨by rfl, ?y1_32⟩) (by assumption) ?r1_32
      case y1_32 => (intro w hSw; (try dsimp only at hSw); go_simp; try with_reducible rfl)
      (try simp only [Act.put, List.getElem_toArray, List.getElem_cons_zero, List.getElem_cons_succ, List.setIfInBounds_toArray, List.set_cons_zero, List.set_cons_succ])
      refine wpAnyH_done (by kernel_rfl) ?_ _
      refine NoPanic.normal ?_
      go_wp2_with fail
      go_ret2
      exact ⟨_, rfl, HO.out, HK1.out.trans kd⟩
  case bb1 =>
    go_simp
    replace kd : Keeps [] w1 ((w1.alloc (.cells #[.int .u8 (IntKind.u8.wrap ((n : Int) / 256)), .int .u8 (IntKind.u8.wrap (n : Int)), .int .u8 (IntKind.u8.wrap (z : Int)), .int .u8 (IntKind.u8.wrap (P : Int))] 5)).drew) := ((Keeps.refl [] w1).alloc _).drew
    have RL := (HLit.out w1).keepsNil (Keeps.refl [] (w1.alloc (.cells #[.int .u8 (IntKind.u8.wrap ((n : Int) / 256)), .int .u8 (IntKind.u8.wrap (n : Int)), .int .u8 (IntKind.u8.wrap (z : Int)), .int .u8 (IntKind.u8.wrap (P : Int))] 5))).drew
    refine hK.out _ _ ?s1_33 (fun hHeld => ?_)
    case s1_33 => ((try dsimp only) <;> (first | exact ⟨kd.cell0 c0, kd.cell0 c1, kd.cell0 c2, kd.cell0 c3, kd.cell0 c4, kd.cell0 c5⟩))
    clear hK K
    (try simp only [Act.put, List.getElem_toArray, List.getElem_cons_zero, List.getElem_cons_succ, List.setIfInBounds_toArray, List.set_cons_zero, List.set_cons_succ])
    generalize (w1.alloc (.cells #[.int .u8 (IntKind.u8.wrap ((n : Int) / 256)), .int .u8 (IntKind.u8.wrap (n : Int)), .int .u8 (IntKind.u8.wrap (z : Int)), .int .u8 (IntKind.u8.wrap (P : Int))] 5)).drew = wl at *
    refine wpAnyH_ready (rs := [2]) (by kernel_rfl) (by simp) ?_
    refine AllReadyH.cons rfl (fun K hK => ?_) AllReadyH.nil
    go_simp
    refine (HW1.out _).mono ?_
    rintro e w12 ⟨a2, q2, rfl, R2, k2⟩
    replace RL := RL.keepsNil k2
    replace kd := kd.trans k2
    clear k2
    go_wp2_with fail
    refine hK.out _ _ ?s1_34 (fun hHeld => ?_)
    case s1_34 => ((try dsimp only) <;> (first | exact ⟨kd.cell0 c0, kd.cell0 c1, kd.cell0 c2, kd.cell0 c3, kd.cell0 c4, kd.cell0 c5⟩))
    clear hK K
    (try simp only [Act.put, List.getElem_toArray, List.getElem_cons_zero, List.getElem_cons_succ, List.setIfInBounds_toArray, List.set_cons_zero, List.set_cons_succ])
    refine wpAnyH_ready (rs := [5]) (by kernel_rfl) (by simp) ?_
    refine AllReadyH.cons rfl (fun K hK => ?_) AllReadyH.nil
    go_simp
    refine (HW2.out _).mono ?_
    rintro e w15 ⟨a5, q5, rfl, R5, k5⟩
    replace RL := RL.keepsNil k5
    replace R2 := R2.keepsNil k5
    replace kd := kd.trans k5
    clear k5
    go_wp2_with fail
    refine hK.out _ _ ?s1_35 (fun hHeld => ?_)
    case s1_35 => ((try dsimp only) <;> (first | exact ⟨kd.cell0 c0, kd.cell0 c1, kd.cell0 c2, kd.cell0 c3, kd.cell0 c4, kd.cell0 c5⟩))
    clear hK K
    (try simp only [Act.put, List.getElem_toArray, List.getElem_cons_zero, List.getElem_cons_succ, List.setIfInBounds_toArray, List.set_cons_zero, List.set_cons_succ])
    have kM : Keeps [] w15 (w15.alloc (.cells #[.slice a2 4 q2, .slice a5 4 q5, .slice (some ⟨w1.heap.size, 0, none⟩) 4 4, .slice a 32 c] 22)) := (Keeps.refl [] w15).alloc _
    have RH := HH.out.keepsNil kd
    have hC := concat_calls (w := w15.alloc (.cells #[.slice a2 4 q2, .slice a5 4 q5, .slice (some ⟨w1.heap.size, 0, none⟩) 4 4, .slice a 32 c] 22)) (RdL.four (Blk.newA w15 22 #[.slice a2 4 q2, .slice a5 4 q5, .slice (some ⟨w1.heap.size, 0, none⟩) 4 4, .slice a 32 c]) (R2.keepsNil kM) (R5.keepsNil kM) (RL.keepsNil kM) (RH.keepsNil kM)) (by simp) (by rw [HfL.out]; omega) (by rw [HfL.out]; omega)
    rw [HfF.out] at hC
    have HC := Lib.hid hC
    clear hC
    refine wpAnyH_ready (rs := [22]) (by kernel_rfl) (by simp) ?_
    refine AllReadyH.cons rfl (fun K hK => ?_) AllReadyH.nil
    go_simp
    replace kd := kd.trans kM
    refine hK.out _ _ ?s1_36 (fun hHeld => ?_)
    case s1_36 => ((try dsimp only) <;> (first | exact ⟨kd.cell0 c0, kd.cell0 c1, kd.cell0 c2, kd.cell0 c3, kd.cell0 c4, kd.cell0 c5⟩))
    clear hK K
    (try simp only [Act.put, List.getElem_toArray, List.getElem_cons_zero, List.getElem_cons_succ, List.setIfInBounds_toArray, List.set_cons_zero, List.set_cons_succ])
    refine wpAnyH_ready (rs := [23]) (by kernel_rfl) (by simp) ?_
    refine AllReadyH.cons rfl (fun K hK => ?_) AllReadyH.nil
    go_simp
    refine HC.out.mono ?_
    rintro e w99 ⟨v99, rfl, hO, k99⟩
    have hs := kd.size
    replace kd := kd.trans k99
    have HO := Lib.hid (hO.mono (Nat.le_trans HK1.out.size hs))
    clear hO k99 HC kM
    go_wp2_with fail
    refine hK.out _ _ ?s1_37 (fun hHeld => ?_)
    case s1_37 => ((try dsimp only) <;> (first | exact ⟨kd.cell0 c0, kd.cell0 c1, kd.cell0 c2, kd.cell0 c3, kd.cell0 c4, kd.cell0 c5⟩))
    clear hK K
    (try simp only [Act.put, List.getElem_toArray, List.getElem_cons_zero, List.getElem_cons_succ, List.setIfInBounds_toArray, List.set_cons_zero, List.set_cons_succ])
    refine wpAnyH_take (i := 24) (v := ?v1_38) rfl (by kernel_rfl) (by kernel_rfl) (by kernel_rfl) (fun _ _ _ h => h) (Or.inl ⟨by rfl, ?y1_38⟩) (by assumption) ?r1_38
    case y1_38 => (intro w hSw; (try dsimp only at hSw); go_simp; try with_reducible rfl)
    (try simp only [Act.put, List.getElem_toArray, List.getElem_cons_zero, List.getElem_cons_succ, List.setIfInBounds_toArray, List.set_cons_zero, List.set_cons_succ])
    refine wpAnyH_take (i := 25) (v := ?v1_39) rfl (by kernel_rfl) (by kernel_rfl) (by kernel_rfl) (fun _ _ _ h => h) (Or.inl ⟨by rfl, ?y1_39⟩) (by assumption) ?r1_39
    case y1_39 => (intro w hSw; (try dsimp only at hSw); go_simp; try with_reducible rfl)
    (try simp only [Act.put, List.getElem_toArray, List.getElem_cons_zero, List.getElem_cons_succ, List.setIfInBounds_toArray, List.set_cons_zero, List.set_cons_succ])
    refine wpAnyH_done (by kernel_rfl) ?_ _
    refine NoPanic.normal ?_
    go_wp2_with fail
    go_ret2
    exact ⟨_, rfl, HO.out, HK1.out.trans kd⟩
set_option maxRecDepth 100000 in
set_option maxHeartbeats 3200000 in
theorem rplain_calls {w : World} (s v : UInt32) {n z P nK : Nat} (hm : MfOk n z P nK) {a : Option Addr} {c : Nat} {h : List UInt8} (hh : RdS w (.slice a 32 c) h) (hl : h.length = 32) :
    Calls Tryz.prog 48 #[MfV s v n z P (.slice a 32 c)] w (PlainPost w (plainM s v n z P h)) := by
  have HMy := Lib.hid (fun w => rmfmay_calls (w := w) s v a c hm)
  have hB0 := Blk.newA w 35 (MfL s v n z P (.slice a 32 c)).toArray
  have kA : Keeps [] w (w.alloc (.cells (MfL s v n z P (.slice a 32 c)).toArray 35)) := (Keeps.refl [] w).alloc _
  have HW1 := Lib.hid (fun w => four2_calls (w := w) s)
  have HW2 := Lib.hid (fun w => four2_calls (w := w) v)
  have HW3 := Lib.hid (fun w => two_calls (w := w) n (by have := hm.n2; omega))
  have HLit : Hid (∀ W : World, RdS (W.alloc (.cells #[.int .u8 (IntKind.u8.wrap (z : Int)), .int .u8 (IntKind.u8.wrap (P : Int))] 5)) (.slice (some ⟨W.heap.size, 0, none⟩) 2 2) [UInt8.ofNat z, UInt8.ofNat P]) := Lib.hid (fun W => (Own.lit8 W #[.int .u8 (IntKind.u8.wrap (z : Int)), .int .u8 (IntKind.u8.wrap (P : Int))] [UInt8.ofNat z, UInt8.ofNat P] 2 (by simp only [u8w, u8w2]; rfl) rfl (by omega)).rds)
  have HfF := Lib.hid (show ([be4 s, be4 v, be2 n, [UInt8.ofNat z, UInt8.ofNat P], h]).flatten = plainM s v n z P h from by simp [plainM, be2])
  have HfL := Lib.hid (show ([be4 s, be4 v, be2 n, [UInt8.ofNat z, UInt8.ofNat P], h]).flatten.length = 44 from by simp [be4, be2, hl])
  unfold PlainPost
  generalize plainM s v n z P h = T at *
  clear hm
  go_enter Tryz.func48, Tryz.ntmps48
  have d0 := hB0.cell' (i := 0) rfl
  have d1 := hB0.cell' (i := 1) rfl
  have d2 := hB0.cell' (i := 2) rfl
  have d3 := hB0.cell' (i := 3) rfl
  have d4 := hB0.cell' (i := 4) rfl
  have d5 := hB0.cell' (i := 5) rfl
  go_wp2_with fail
  generalize w.alloc (.cells (MfL s v n z P (.slice a 32 c)).toArray 35) = w0 at *
  refine (HMy.out _).mono ?_
  rintro e w1 ⟨rfl, k1⟩
  have c0 := k1.cell0 d0
  have c1 := k1.cell0 d1
  have c2 := k1.cell0 d2
  have c3 := k1.cell0 d3
  have c4 := k1.cell0 d4
  have c5 := k1.cell0 d5
  have HK1 := Lib.hid (kA.trans k1)
  have HH := Lib.hid (hh.keepsNil (kA.trans k1))
  clear d0 d1 d2 d3 d4 d5 hB0 kA k1 hh HMy
  go_wp2_with fail
  refine wp_region_noPanic ?_
  refine wp_region_held_drew (S := (fun w' => w'.cell? ⟨w.heap.size, 0, none⟩ = some (B32 s) ∧ w'.cell? ⟨w.heap.size, 1, none⟩ = some (B32 v) ∧ w'.cell? ⟨w.heap.size, 2, none⟩ = some (.int .i64 n) ∧ w'.cell? ⟨w.heap.size, 3, none⟩ = some (.int .i64 z) ∧ w'.cell? ⟨w.heap.size, 4, none⟩ = some (.int .i64 P) ∧ w'.cell? ⟨w.heap.size, 5, none⟩ = some (.slice a 32 c))) (by kernel_rfl) ⟨c0, c1, c2, c3, c4, c5⟩ (fun hHeld => ?_)
  have kd : Keeps [] w1 w1.drew := (Keeps.refl [] w1).drew
  refine wpAnyH_take (i := 0) (v := ?v2_40) rfl (by kernel_rfl) (by kernel_rfl) (by kernel_rfl) (fun _ _ _ h => h) (Or.inl ⟨by rfl, ?y2_40⟩) (by assumption) ?r2_40
  case y2_40 => (intro w hSw; (try dsimp only at hSw); go_simp; try with_reducible rfl)
  (try simp only [Act.put, List.getElem_toArray, List.getElem_cons_zero, List.getElem_cons_succ, List.setIfInBounds_toArray, List.set_cons_zero, List.set_cons_succ])
  refine wpAnyH_take (i := 1) (v := ?v2_41) rfl (by kernel_rfl) (by kernel_rfl) (by kernel_rfl) (fun _ _ _ h => h) (Or.inl ⟨by rfl, ?y2_41⟩) (by assumption) ?r2_41
  case y2_41 => (intro w hSw; (try dsimp only at hSw); go_simp; try with_reducible rfl)
  (try simp only [Act.put, List.getElem_toArray, List.getElem_cons_zero, List.getElem_cons_succ, List.setIfInBounds_toArray, List.set_cons_zero, List.set_cons_succ])
  refine wpAnyH_take (i := 3) (v := ?v2_42) rfl (by kernel_rfl) (by kernel_rfl) (by kernel_rfl) (fun _ _ _ h => h) (Or.inl ⟨by rfl, ?y2_42⟩) (by assumption) ?r2_42
  case y2_42 => (intro w hSw; (try dsimp only at hSw); go_simp; try with_reducible rfl)
  (try simp only [Act.put, List.getElem_toArray, List.getElem_cons_zero, List.getElem_cons_succ, List.setIfInBounds_toArray, List.set_cons_zero, List.set_cons_succ])
  refine wpAnyH_take (i := 4) (v := ?v2_43) rfl (by kernel_rfl) (by kernel_rfl) (by kernel_rfl) (fun _ _ _ h => h) (Or.inl ⟨by rfl, ?y2_43⟩) (by assumption) ?r2_43
  case y2_43 => (intro w hSw; (try dsimp only at hSw); go_simp; try with_reducible rfl)
  (try simp only [Act.put, List.getElem_toArray, List.getElem_cons_zero, List.getElem_cons_succ, List.setIfInBounds_toArray, List.set_cons_zero, List.set_cons_succ])
  refine wpAnyH_take (i := 6) (v := ?v2_44) rfl (by kernel_rfl) (by kernel_rfl) (by kernel_rfl) (fun _ _ _ h => h) (Or.inl ⟨by rfl, ?y2_44⟩) (by assumption) ?r2_44
  case y2_44 => (intro w hSw; (try dsimp only at hSw); go_simp; try with_reducible rfl)
  (try simp only [Act.put, List.getElem_toArray, List.getElem_cons_zero, List.getElem_cons_succ, List.setIfInBounds_toArray, List.set_cons_zero, List.set_cons_succ])
  refine wpAnyH_take (i := 7) (v := ?v2_45) rfl (by kernel_rfl) (by kernel_rfl) (by kernel_rfl) (fun _ _ _ h => h) (Or.inl ⟨by rfl, ?y2_45⟩) (by assumption) ?r2_45
  case y2_45 => (intro w hSw; (try dsimp only at hSw); go_simp; try with_reducible rfl)
  (try simp only [Act.put, List.getElem_toArray, List.getElem_cons_zero, List.getElem_cons_succ, List.setIfInBounds_toArray, List.set_cons_zero, List.set_cons_succ])
  refine wpAnyH_take (i := 9) (v := ?v2_46) rfl (by kernel_rfl) (by kernel_rfl) (by kernel_rfl) (fun _ _ _ h => h) (Or.inl ⟨by rfl, ?y2_46⟩) (by assumption) ?r2_46
  case y2_46 => (intro w hSw; (try dsimp only at hSw); go_simp; try with_reducible rfl)
  (try simp only [Act.put, List.getElem_toArray, List.getElem_cons_zero, List.getElem_cons_succ, List.setIfInBounds_toArray, List.set_cons_zero, List.set_cons_succ])
  refine wpAnyH_take (i := 10) (v := ?v2_47) rfl (by kernel_rfl) (by kernel_rfl) (by kernel_rfl) (fun _ _ _ h => h) (Or.inl ⟨by rfl, ?y2_47⟩) (by assumption) ?r2_47
  case y2_47 => (intro w hSw; (try dsimp only at hSw); go_simp; try with_reducible rfl)
  (try simp only [Act.put, List.getElem_toArray, List.getElem_cons_zero, List.getElem_cons_succ, List.setIfInBounds_toArray, List.set_cons_zero, List.set_cons_succ])
  refine wpAnyH_take (i := 11) (v := ?v2_48) rfl (by kernel_rfl) (by kernel_rfl) (by kernel_rfl) (fun _ _ _ h => h) (Or.inl ⟨by rfl, ?y2_48⟩) (by assumption) ?r2_48
  case y2_48 => (intro w hSw; (try dsimp only at hSw); go_simp; try with_reducible rfl)
  (try simp only [Act.put, List.getElem_toArray, List.getElem_cons_zero, List.getElem_cons_succ, List.setIfInBounds_toArray, List.set_cons_zero, List.set_cons_succ])
  refine wpAnyH_take (i := 12) (v := ?v2_49) rfl (by kernel_rfl) (by kernel_rfl) (by kernel_rfl) (fun _ _ _ h => h) (Or.inl ⟨by rfl, ?y2_49⟩) (by assumption) ?r2_49
  case y2_49 => (intro w hSw; (try dsimp only at hSw); go_simp; try with_reducible rfl)
  (try simp only [Act.put, List.getElem_toArray, List.getElem_cons_zero, List.getElem_cons_succ, List.setIfInBounds_toArray, List.set_cons_zero, List.set_cons_succ])
  refine wpAnyH_take (i := 13) (v := ?v2_50) rfl (by kernel_rfl) (by kernel_rfl) (by kernel_rfl) (fun _ _ _ h => h) (Or.inl ⟨by rfl, ?y2_50⟩) (by assumption) ?r2_50
  case y2_50 => (intro w hSw; (try dsimp only at hSw); go_simp; try with_reducible rfl)
  (try simp only [Act.put, List.getElem_toArray, List.getElem_cons_zero, List.getElem_cons_succ, List.setIfInBounds_toArray, List.set_cons_zero, List.set_cons_succ])
  refine wpAnyH_take (i := 14) (v := ?v2_51) rfl (by kernel_rfl) (by kernel_rfl) (by kernel_rfl) (fun _ _ _ h => h) (Or.inl ⟨by rfl, ?y2_51⟩) (by assumption) ?r2_51
  case y2_51 => (intro w hSw; (try dsimp only at hSw); go_simp; try with_reducible rfl)
  (try simp only [Act.put, List.getElem_toArray, List.getElem_cons_zero, List.getElem_cons_succ, List.setIfInBounds_toArray, List.set_cons_zero, List.set_cons_succ])
  refine wpAnyH_take (i := 16) (v := ?v2_52) rfl (by kernel_rfl) (by kernel_rfl) (by kernel_rfl) (fun _ _ _ h => h) (Or.inl ⟨by rfl, ?y2_52⟩) (by assumption) ?r2_52
  case y2_52 => (intro w hSw; (try dsimp only at hSw); go_simp; try with_reducible rfl)
  (try simp only [Act.put, List.getElem_toArray, List.getElem_cons_zero, List.getElem_cons_succ, List.setIfInBounds_toArray, List.set_cons_zero, List.set_cons_succ])
  refine wpAnyH_take (i := 17) (v := ?v2_53) rfl (by kernel_rfl) (by kernel_rfl) (by kernel_rfl) (fun _ _ _ h => h) (Or.inl ⟨by rfl, ?y2_53⟩) (by assumption) ?r2_53
  case y2_53 => (intro w hSw; (try dsimp only at hSw); go_simp; try with_reducible rfl)
  (try simp only [Act.put, List.getElem_toArray, List.getElem_cons_zero, List.getElem_cons_succ, List.setIfInBounds_toArray, List.set_cons_zero, List.set_cons_succ])
  refine wpAnyH_ready (rs := [2, 15]) (by kernel_rfl) (by simp) ?_
  refine AllReadyH.cons rfl (fun K hK => ?ba3) (AllReadyH.cons rfl (fun K hK => ?bb3) AllReadyH.nil)
  case ba3 =>
    go_simp
    refine (HW1.out _).mono ?_
    rintro e w12 ⟨a2, q2, rfl, R2, k2⟩
    replace kd := kd.trans k2
    clear k2
    go_wp2_with fail
    refine hK.out _ _ ?s2_54 (fun hHeld => ?_)
    case s2_54 => ((try dsimp only) <;> (first | exact ⟨kd.cell0 c0, kd.cell0 c1, kd.cell0 c2, kd.cell0 c3, kd.cell0 c4, kd.cell0 c5⟩))
    clear hK K
    (try simp only [Act.put, List.getElem_toArray, List.getElem_cons_zero, List.getElem_cons_succ, List.setIfInBounds_toArray, List.set_cons_zero, List.set_cons_succ])
    refine wpAnyH_ready (rs := [5, 15]) (by kernel_rfl) (by simp) ?_
    refine AllReadyH.cons rfl (fun K hK => ?ba4) (AllReadyH.cons rfl (fun K hK => ?bb4) AllReadyH.nil)
    case ba4 =>
      go_simp
      refine (HW2.out _).mono ?_
      rintro e w15 ⟨a5, q5, rfl, R5, k5⟩
      replace R2 := R2.keepsNil k5
      replace kd := kd.trans k5
      clear k5
      go_wp2_with fail
      refine hK.out _ _ ?s2_55 (fun hHeld => ?_)
      case s2_55 => ((try dsimp only) <;> (first | exact ⟨kd.cell0 c0, kd.cell0 c1, kd.cell0 c2, kd.cell0 c3, kd.cell0 c4, kd.cell0 c5⟩))
      clear hK K
      (try simp only [Act.put, List.getElem_toArray, List.getElem_cons_zero, List.getElem_cons_succ, List.setIfInBounds_toArray, List.set_cons_zero, List.set_cons_succ])
      refine wpAnyH_ready (rs := [8, 15]) (by kernel_rfl) (by simp) ?_
      refine AllReadyH.cons rfl (fun K hK => ?ba5) (AllReadyH.cons rfl (fun K hK => ?bb5) AllReadyH.nil)
      case ba5 =>
        go_simp
        refine (HW3.out _).mono ?_
        rintro e w18 ⟨a8, q8, rfl, R8, k8⟩
        replace R2 := R2.keepsNil k8
        replace R5 := R5.keepsNil k8
        replace kd := kd.trans k8
        clear k8
        go_wp2_with fail
        refine hK.out _ _ ?s2_56 (fun hHeld => ?_)
        case s2_56 => ((try dsimp only) <;> (first | exact ⟨kd.cell0 c0, kd.cell0 c1, kd.cell0 c2, kd.cell0 c3, kd.cell0 c4, kd.cell0 c5⟩))
        clear hK K
        (try simp only [Act.put, List.getElem_toArray, List.getElem_cons_zero, List.getElem_cons_succ, List.setIfInBounds_toArray, List.set_cons_zero, List.set_cons_succ])
        refine wpAnyH_ready (rs := [15]) (by kernel_rfl) (by simp) ?_
        refine AllReadyH.cons rfl (fun K hK => ?_) AllReadyH.nil
        go_simp
        have kL : Keeps [] w18 (w18.alloc (.cells #[.int .u8 (IntKind.u8.wrap (z : Int)), .int .u8 (IntKind.u8.wrap (P : Int))] 5)) := (Keeps.refl [] w18).alloc _
        have RL := HLit.out w18
        replace R2 := R2.keepsNil kL
        replace R5 := R5.keepsNil kL
        replace R8 := R8.keepsNil kL
        replace kd := kd.trans kL
        clear kL
        refine hK.out _ _ ?s2_57 (fun hHeld => ?_)
        case s2_57 => ((try dsimp only) <;> (first | exact ⟨kd.cell0 c0, kd.cell0 c1, kd.cell0 c2, kd.cell0 c3, kd.cell0 c4, kd.cell0 c5⟩))
        clear hK K
        (try simp only [Act.put, List.getElem_toArray, List.getElem_cons_zero, List.getElem_cons_succ, List.setIfInBounds_toArray, List.set_cons_zero, List.set_cons_succ])
        generalize w18.alloc (.cells #[.int .u8 (IntKind.u8.wrap (z : Int)), .int .u8 (IntKind.u8.wrap (P : Int))] 5) = wl at *
        have kM : Keeps [] wl (wl.alloc (.cells #[.slice a2 4 q2, .slice a5 4 q5, .slice a8 2 q8, .slice (some ⟨w18.heap.size, 0, none⟩) 2 2, .slice a 32 c] 22)) := (Keeps.refl [] wl).alloc _
        have RH := HH.out.keepsNil kd
        have hC := rjoin_calls (w := wl.alloc (.cells #[.slice a2 4 q2, .slice a5 4 q5, .slice a8 2 q8, .slice (some ⟨w18.heap.size, 0, none⟩) 2 2, .slice a 32 c] 22)) (RdL.five (Blk.newA wl 22 #[.slice a2 4 q2, .slice a5 4 q5, .slice a8 2 q8, .slice (some ⟨w18.heap.size, 0, none⟩) 2 2, .slice a 32 c]) (R2.keepsNil kM) (R5.keepsNil kM) (R8.keepsNil kM) (RL.keepsNil kM) (RH.keepsNil kM)) (by simp) (by rw [HfL.out]; omega)
        rw [HfF.out] at hC
        have HC := Lib.hid hC
        clear hC
        refine wpAnyH_ready (rs := [18]) (by kernel_rfl) (by simp) ?_
        refine AllReadyH.cons rfl (fun K hK => ?_) AllReadyH.nil
        go_simp
        replace kd := kd.trans kM
        refine hK.out _ _ ?s2_58 (fun hHeld => ?_)
        case s2_58 => ((try dsimp only) <;> (first | exact ⟨kd.cell0 c0, kd.cell0 c1, kd.cell0 c2, kd.cell0 c3, kd.cell0 c4, kd.cell0 c5⟩))
        clear hK K
        (try simp only [Act.put, List.getElem_toArray, List.getElem_cons_zero, List.getElem_cons_succ, List.setIfInBounds_toArray, List.set_cons_zero, List.set_cons_succ])
        refine wpAnyH_ready (rs := [19]) (by kernel_rfl) (by simp) ?_
        refine AllReadyH.cons rfl (fun K hK => ?_) AllReadyH.nil
        go_simp
        refine HC.out.mono ?_
        rintro e w99 ⟨v99, rfl, hO, k99⟩
        have hs := kd.size
        replace kd := kd.trans k99
        have HO := Lib.hid (hO.mono (Nat.le_trans HK1.out.size hs))
        clear hO k99 HC kM
        go_wp2_with fail
        refine hK.out _ _ ?s2_59 (fun hHeld => ?_)
        case s2_59 => ((try dsimp only) <;> (first | exact ⟨kd.cell0 c0, kd.cell0 c1, kd.cell0 c2, kd.cell0 c3, kd.cell0 c4, kd.cell0 c5⟩))
        clear hK K
        (try simp only [Act.put, List.getElem_toArray, List.getElem_cons_zero, List.getElem_cons_succ, List.setIfInBounds_toArray, List.set_cons_zero, List.set_cons_succ])
        refine wpAnyH_take (i := 20) (v := ?v2_60) rfl (by kernel_rfl) (by kernel_rfl) (by kernel_rfl) (fun _ _ _ h => h) (Or.inl ⟨by rfl, ?y2_60⟩) (by assumption) ?r2_60
        case y2_60 => (intro w hSw; (try dsimp only at hSw); go_simp; try with_reducible rfl)
        (try simp only [Act.put, List.getElem_toArray, List.getElem_cons_zero, List.getElem_cons_succ, List.setIfInBounds_toArray, List.set_cons_zero, List.set_cons_succ])
        refine wpAnyH_take (i := 21) (v := ?v2_61) rfl (by kernel_rfl) (by kernel_rfl) (by kernel_rfl) (fun _ _ _ h => h) (Or.inl ⟨by rfl, ?y2_61⟩) (by assumption) ?r2_61
        case y2_61 => (intro w hSw; (try dsimp only at hSw); go_simp; try with_reducible rfl)
        (try simp only [Act.put, List.getElem_toArray, List.getElem_cons_zero, List.getElem_cons_succ, List.setIfInBounds_toArray, List.set_cons_zero, List.set_cons_succ])
        refine wpAnyH_done (by kernel_rfl) ?_ _
        refine NoPanic.normal ?_
        go_wp2_with fail
        go_ret2
        exact ⟨_, rfl, HO.out, HK1.out.trans kd⟩
      case bb5 =>
        go_simp
        have kL : Keeps [] w15 (w15.alloc (.cells #[.int .u8 (IntKind.u8.wrap (z : Int)), .int .u8 (IntKind.u8.wrap (P : Int))] 5)) := (Keeps.refl [] w15).alloc _
        have RL := HLit.out w15
        replace R2 := R2.keepsNil kL
        replace R5 := R5.keepsNil kL
        replace kd := kd.trans kL
        clear kL
        refine hK.out _ _ ?s2_62 (fun hHeld => ?_)
        case s2_62 => ((try dsimp only) <;> (first | exact ⟨kd.cell0 c0, kd.cell0 c1, kd.cell0 c2, kd.cell0 c3, kd.cell0 c4, kd.cell0 c5⟩))
        clear hK K
        (try simp only [Act.put, List.getElem_toArray, List.getElem_cons_zero, List.getElem_cons_succ, List.setIfInBounds_toArray, List.set_cons_zero, List.set_cons_succ])
        generalize w15.alloc (.cells #[.int .u8 (IntKind.u8.wrap (z : Int)), .int .u8 (IntKind.u8.wrap (P : Int))] 5) = wl at *
        refine wpAnyH_ready (rs := [8]) (by kernel_rfl) (by simp) ?_
        refine AllReadyH.cons rfl (fun K hK => ?_) AllReadyH.nil
        go_simp
        refine (HW3.out _).mono ?_
        rintro e w18 ⟨a8, q8, rfl, R8, k8⟩
        replace R2 := R2.keepsNil k8
        replace R5 := R5.keepsNil k8
        replace RL := RL.keepsNil k8
        replace kd := kd.trans k8
        clear k8
        go_wp2_with fail
        refine hK.out _ _ ?s2_63 (fun hHeld => ?_)
        case s2_63 => ((try dsimp only) <;> (first | exact ⟨kd.cell0 c0, kd.cell0 c1, kd.cell0 c2, kd.cell0 c3, kd.cell0 c4, kd.cell0 c5⟩))
        clear hK K
        (try simp only [Act.put, List.getElem_toArray, List.getElem_cons_zero, List.getElem_cons_succ, List.setIfInBounds_toArray, List.set_cons_zero, List.set_cons_succ])
        have kM : Keeps [] w18 (w18.alloc (.cells #[.slice a2 4 q2, .slice a5 4 q5, .slice a8 2 q8, .slice (some ⟨w15.heap.size, 0, none⟩) 2 2, .slice a 32 c] 22)) := (Keeps.refl [] w18).alloc _
        have RH := HH.out.keepsNil kd
        have hC := rjoin_calls (w := w18.alloc (.cells #[.slice a2 4 q2, .slice a5 4 q5, .slice a8 2 q8, .slice (some ⟨w15.heap.size, 0, none⟩) 2 2, .slice a 32 c] 22)) (RdL.five (Blk.newA w18 22 #[.slice a2 4 q2, .slice a5 4 q5, .slice a8 2 q8, .slice (some ⟨w15.heap.size, 0, none⟩) 2 2, .slice a 32 c]) (R2.keepsNil kM) (R5.keepsNil kM) (R8.keepsNil kM) (RL.keepsNil kM) (RH.keepsNil kM)) (by simp) (by rw [HfL.out]; omega)
        rw [HfF.out] at hC
        have HC := Lib.hid hC
        clear hC
        refine wpAnyH_ready (rs := [18]) (by kernel_rfl) (by simp) ?_
        refine AllReadyH.cons rfl (fun K hK => ?_) AllReadyH.nil
        go_simp
        replace kd := kd.trans kM
        refine hK.out _ _ ?s2_64 (fun hHeld => ?_)
        case s2_64 => ((try dsimp only) <;> (first | exact ⟨kd.cell0 c0, kd.cell0 c1, kd.cell0 c2, kd.cell0 c3, kd.cell0 c4, kd.cell0 c5⟩))
        clear hK K
        (try simp only [Act.put, List.getElem_toArray, List.getElem_cons_zero, List.getElem_cons_succ, List.setIfInBounds_toArray, List.set_cons_zero, List.set_cons_succ])
        refine wpAnyH_ready (rs := [19]) (by kernel_rfl) (by simp) ?_
        refine AllReadyH.cons rfl (fun K hK => ?_) AllReadyH.nil
        go_simp
        refine HC.out.mono ?_
        rintro e w99 ⟨v99, rfl, hO, k99⟩
        have hs := kd.size
        replace kd := kd.trans k99
        have HO := Lib.hid (hO.mono (Nat.le_trans HK1.out.size hs))
        clear hO k99 HC kM
        go_wp2_with fail
        refine hK.out _ _ ?s2_65 (fun hHeld => ?_)
        case s2_65 => ((try dsimp only) <;> (first | exact ⟨kd.cell0 c0, kd.cell0 c1, kd.cell0 c2, kd.cell0 c3, kd.cell0 c4, kd.cell0 c5⟩))
        clear hK K
        (try simp only [Act.put, List.getElem_toArray, List.getElem_cons_zero, List.getElem_cons_succ, List.setIfInBounds_toArray, List.set_cons_zero, List.set_cons_succ])
        refine wpAnyH_take (i := 20) (v := ?v2_66) rfl (by kernel_rfl) (by kernel_rfl) (by kernel_rfl) (fun _ _ _ h => h) (Or.inl ⟨by rfl, ?y2_66⟩) (by assumption) ?r2_66
        case y2_66 => (intro w hSw; (try dsimp only at hSw); go_simp; try with_reducible rfl)
        (try simp only [Act.put, List.getElem_toArray, List.getElem_cons_zero, List.getElem_cons_succ, List.setIfInBounds_toArray, List.set_cons_zero, List.set_cons_succ])
        refine wpAnyH_take (i := 21) (v := ?v2_67) rfl (by kernel_rfl) (by kernel_rfl) (by kernel_rfl) (fun _ _ _ h => h) (Or.inl ⟨by rfl, ?y2_67⟩) (by assumption) ?r2_67
        case y2_67 => (intro w hSw; (try dsimp only at hSw); go_simp; try with_reducible rfl)
        (try simp only [Act.put, List.getElem_toArray, List.getElem_cons_zero, List.getElem_cons_succ, List.setIfInBounds_toArray, List.set_cons_zero, List.set_cons_succ])
        refine wpAnyH_done (by kernel_rfl) ?_ _
        refine NoPanic.normal ?_
        go_wp2_with fail
        go_ret2
        exact ⟨_, rfl, HO.out, HK1.out.trans kd⟩
    case bb4 =>
      go_simp
      have kL : Keeps [] w12 (w12.alloc (.cells #[.int .u8 (IntKind.u8.wrap (z : Int)), .int .u8 (IntKind.u8.wrap (P : Int))] 5)) := (Keeps.refl [] w12).alloc _
      have RL := HLit.out w12
      replace R2 := R2.keepsNil kL
      replace kd := kd.trans kL
      clear kL
      refine hK.out _ _ ?s2_68 (fun hHeld => ?_)
      case s2_68 => ((try dsimp only) <;> (first | exact ⟨kd.cell0 c0, kd.cell0 c1, kd.cell0 c2, kd.cell0 c3, kd.cell0 c4, kd.cell0 c5⟩))
      clear hK K
      (try simp only [Act.put, List.getElem_toArray, List.getElem_cons_zero, List.getElem_cons_succ, List.setIfInBounds_toArray, List.set_cons_zero, List.set_cons_succ])
      generalize w12.alloc (.cells #[.int .u8 (IntKind.u8.wrap (z : Int)), .int .u8 (IntKind.u8.wrap (P : Int))] 5) = wl at *
      refine wpAnyH_ready (rs := [5]) (by kernel_rfl) (by simp) ?_
      refine AllReadyH.cons rfl (fun K hK => ?_) AllReadyH.nil
      go_simp
      refine (HW2.out _).mono ?_
      rintro e w15 ⟨a5, q5, rfl, R5, k5⟩
      replace R2 := R2.keepsNil k5
      replace RL := RL.keepsNil k5
      replace kd := kd.trans k5
      clear k5
      go_wp2_with fail
      refine hK.out _ _ ?s2_69 (fun hHeld => ?_)
      case s2_69 => ((try dsimp only) <;> (first | exact ⟨kd.cell0 c0, kd.cell0 c1, kd.cell0 c2, kd.cell0 c3, kd.cell0 c4, kd.cell0 c5⟩))
      clear hK K
      (try simp only [Act.put, List.getElem_toArray, List.getElem_cons_zero, List.getElem_cons_succ, List.setIfInBounds_toArray, List.set_cons_zero, List.set_cons_succ])
      refine wpAnyH_ready (rs := [8]) (by kernel_rfl) (by simp) ?_
      refine AllReadyH.cons rfl (fun K hK => ?_) AllReadyH.nil
      go_simp
      refine (HW3.out _).mono ?_
      rintro e w18 ⟨a8, q8, rfl, R8, k8⟩
      replace R2 := R2.keepsNil k8
      replace RL := RL.keepsNil k8
      replace R5 := R5.keepsNil k8
      replace kd := kd.trans k8
      clear k8
      go_wp2_with fail
      refine hK.out _ _ ?s2_70 (fun hHeld => ?_)
      case s2_70 => ((try dsimp only) <;> (first | exact ⟨kd.cell0 c0, kd.cell0 c1, kd.cell0 c2, kd.cell0 c3, kd.cell0 c4, kd.cell0 c5⟩))
      clear hK K
      (try simp only [Act.put, List.getElem_toArray, List.getElem_cons_zero, List.getElem_cons_succ, List.setIfInBounds_toArray, List.set_cons_zero, List.set_cons_succ])
      have kM : Keeps [] w18 (w18.alloc (.cells #[.slice a2 4 q2, .slice a5 4 q5, .slice a8 2 q8, .slice (some ⟨w12.heap.size, 0, none⟩) 2 2, .slice a 32 c] 22)) := (Keeps.refl [] w18).alloc _
      have RH := HH.out.keepsNil kd
      have hC := rjoin_calls (w := w18.alloc (.cells #[.slice a2 4 q2, .slice a5 4 q5, .slice a8 2 q8, .slice (some ⟨w12.heap.size, 0, none⟩) 2 2, .slice a 32 c] 22)) (RdL.five (Blk.newA w18 22 #[.slice a2 4 q2, .slice a5 4 q5, .slice a8 2 q8, .slice (some ⟨w12.heap.size, 0, none⟩) 2 2, .slice a 32 c]) (R2.keepsNil kM) (R5.keepsNil kM) (R8.keepsNil kM) (RL.keepsNil kM) (RH.keepsNil kM)) (by simp) (by rw [HfL.out]; omega)
      rw [HfF.out] at hC
      have HC := Lib.hid hC
      clear hC
      refine wpAnyH_ready (rs := [18]) (by kernel_rfl) (by simp) ?_
      refine AllReadyH.cons rfl (fun K hK => ?_) AllReadyH.nil
      go_simp
      replace kd := kd.trans kM
      refine hK.out _ _ ?s2_71 (fun hHeld => ?_)
      case s2_71 => ((try dsimp only) <;> (first | exact ⟨kd.cell0 c0, kd.cell0 c1, kd.cell0 c2, kd.cell0 c3, kd.cell0 c4, kd.cell0 c5⟩))
      clear hK K
      (try simp only [Act.put, List.getElem_toArray, List.getElem_cons_zero, List.getElem_cons_succ, List.setIfInBounds_toArray, List.set_cons_zero, List.set_cons_succ])
      refine wpAnyH_ready (rs := [19]) (by kernel_rfl) (by simp) ?_
      refine AllReadyH.cons rfl (fun K hK => ?_) AllReadyH.nil
      go_simp
      refine HC.out.mono ?_
      rintro e w99 ⟨v99, rfl, hO, k99⟩
      have hs := kd.size
      replace kd := kd.trans k99
      have HO := Lib.hid (hO.mono (Nat.le_trans HK1.out.size hs))
      clear hO k99 HC kM
      go_wp2_with fail
      refine hK.out _ _ ?s2_72 (fun hHeld => ?_)
      case s2_72 => ((try dsimp only) <;> (first | exact ⟨kd.cell0 c0, kd.cell0 c1, kd.cell0 c2, kd.cell0 c3, kd.cell0 c4, kd.cell0 c5⟩))
      clear hK K
      (try simp only [Act.put, List.getElem_toArray, List.getElem_cons_zero, List.getElem_cons_succ, List.setIfInBounds_toArray, List.set_cons_zero, List.set_cons_succ])
      refine wpAnyH_take (i := 20) (v := ?v2_73) rfl (by kernel_rfl) (by kernel_rfl) (by kernel_rfl) (fun _ _ _ h => h) (Or.inl ⟨by rfl, ?y2_73⟩) (by assumption) ?r2_73
      case y2_73 => (intro w hSw; (try dsimp only at hSw); go_simp; try with_reducible rfl)
      (try simp only [Act.put, List.getElem_toArray, List.getElem_cons_zero, List.getElem_cons_succ, List.setIfInBounds_toArray, List.set_cons_zero, List.set_cons_succ])
      refine wpAnyH_take (i := 21) (v := ?v2_74) rfl (by kernel_rfl) (by kernel_rfl) (by kernel_rfl) (fun _ _ _ h => h) (Or.inl ⟨by rfl, ?y2_74⟩) (by assumption) ?r2_74
      case y2_74 => (intro w hSw; (try dsimp only at hSw); go_simp; try with_reducible rfl)
      (try simp only [Act.put, List.getElem_toArray, List.getElem_cons_zero, List.getElem_cons_succ, List.setIfInBounds_toArray, List.set_cons_zero, List.set_cons_succ])
      refine wpAnyH_done (by kernel_rfl) ?_ _
      refine NoPanic.normal ?_
      go_wp2_with fail
      go_ret2
      exact ⟨_, rfl, HO.out, HK1.out.trans kd⟩
  case bb3 =>
    go_simp
    replace kd : Keeps [] w1 ((w1.alloc (.cells #[.int .u8 (IntKind.u8.wrap (z : Int)), .int .u8 (IntKind.u8.wrap (P : Int))] 5)).drew) := ((Keeps.refl [] w1).alloc _).drew
    have RL := (HLit.out w1).keepsNil (Keeps.refl [] (w1.alloc (.cells #[.int .u8 (IntKind.u8.wrap (z : Int)), .int .u8 (IntKind.u8.wrap (P : Int))] 5))).drew
    refine hK.out _ _ ?s2_75 (fun hHeld => ?_)
    case s2_75 => ((try dsimp only) <;> (first | exact ⟨kd.cell0 c0, kd.cell0 c1, kd.cell0 c2, kd.cell0 c3, kd.cell0 c4, kd.cell0 c5⟩))
    clear hK K
    (try simp only [Act.put, List.getElem_toArray, List.getElem_cons_zero, List.getElem_cons_succ, List.setIfInBounds_toArray, List.set_cons_zero, List.set_cons_succ])
    generalize (w1.alloc (.cells #[.int .u8 (IntKind.u8.wrap (z : Int)), .int .u8 (IntKind.u8.wrap (P : Int))] 5)).drew = wl at *
    refine wpAnyH_ready (rs := [2]) (by kernel_rfl) (by simp) ?_
    refine AllReadyH.cons rfl (fun K hK => ?_) AllReadyH.nil
    go_simp
    refine (HW1.out _).mono ?_
    rintro e w12 ⟨a2, q2, rfl, R2, k2⟩
    replace RL := RL.keepsNil k2
    replace kd := kd.trans k2
    clear k2
    go_wp2_with fail
    refine hK.out _ _ ?s2_76 (fun hHeld => ?_)
    case s2_76 => ((try dsimp only) <;> (first | exact ⟨kd.cell0 c0, kd.cell0 c1, kd.cell0 c2, kd.cell0 c3, kd.cell0 c4, kd.cell0 c5⟩))
    clear hK K
    (try simp only [Act.put, List.getElem_toArray, List.getElem_cons_zero, List.getElem_cons_succ, List.setIfInBounds_toArray, List.set_cons_zero, List.set_cons_succ])
    refine wpAnyH_ready (rs := [5]) (by kernel_rfl) (by simp) ?_
    refine AllReadyH.cons rfl (fun K hK => ?_) AllReadyH.nil
    go_simp
    refine (HW2.out _).mono ?_
    rintro e w15 ⟨a5, q5, rfl, R5, k5⟩
    replace RL := RL.keepsNil k5
    replace R2 := R2.keepsNil k5
    replace kd := kd.trans k5
    clear k5
    go_wp2_with fail
    refine hK.out _ _ ?s2_77 (fun hHeld => ?_)
    case s2_77 => ((try dsimp only) <;> (first | exact ⟨kd.cell0 c0, kd.cell0 c1, kd.cell0 c2, kd.cell0 c3, kd.cell0 c4, kd.cell0 c5⟩))
    clear hK K
    (try simp only [Act.put, List.getElem_toArray, List.getElem_cons_zero, List.getElem_cons_succ, List.setIfInBounds_toArray, List.set_cons_zero, List.set_cons_succ])
    refine wpAnyH_ready (rs := [8]) (by kernel_rfl) (by simp) ?_
    refine AllReadyH.cons rfl (fun K hK => ?_) AllReadyH.nil
    go_simp
    refine (HW3.out _).mono ?_
    rintro e w18 ⟨a8, q8, rfl, R8, k8⟩
    replace RL := RL.keepsNil k8
    replace R2 := R2.keepsNil k8
    replace R5 := R5.keepsNil k8
    replace kd := kd.trans k8
    clear k8
    go_wp2_with fail
    refine hK.out _ _ ?s2_78 (fun hHeld => ?_)
    case s2_78 => ((try dsimp only) <;> (first | exact ⟨kd.cell0 c0, kd.cell0 c1, kd.cell0 c2, kd.cell0 c3, kd.cell0 c4, kd.cell0 c5⟩))
    clear hK K
    (try simp only [Act.put, List.getElem_toArray, List.getElem_cons_zero, List.getElem_cons_succ, List.setIfInBounds_toArray, List.set_cons_zero, List.set_cons_succ])
    have kM : Keeps [] w18 (w18.alloc (.cells #[.slice a2 4 q2, .slice a5 4 q5, .slice a8 2 q8, .slice (some ⟨w1.heap.size, 0, none⟩) 2 2, .slice a 32 c] 22)) := (Keeps.refl [] w18).alloc _
    have RH := HH.out.keepsNil kd
    have hC := rjoin_calls (w := w18.alloc (.cells #[.slice a2 4 q2, .slice a5 4 q5, .slice a8 2 q8, .slice (some ⟨w1.heap.size, 0, none⟩) 2 2, .slice a 32 c] 22)) (RdL.five (Blk.newA w18 22 #[.slice a2 4 q2, .slice a5 4 q5, .slice a8 2 q8, .slice (some ⟨w1.heap.size, 0, none⟩) 2 2, .slice a 32 c]) (R2.keepsNil kM) (R5.keepsNil kM) (R8.keepsNil kM) (RL.keepsNil kM) (RH.keepsNil kM)) (by simp) (by rw [HfL.out]; omega)
    rw [HfF.out] at hC
    have HC := Lib.hid hC
    clear hC
    refine wpAnyH_ready (rs := [18]) (by kernel_rfl) (by simp) ?_
    refine AllReadyH.cons rfl (fun K hK => ?_) AllReadyH.nil
    go_simp
    replace kd := kd.trans kM
    refine hK.out _ _ ?s2_79 (fun hHeld => ?_)
    case s2_79 => ((try dsimp only) <;> (first | exact ⟨kd.cell0 c0, kd.cell0 c1, kd.cell0 c2, kd.cell0 c3, kd.cell0 c4, kd.cell0 c5⟩))
    clear hK K
    (try simp only [Act.put, List.getElem_toArray, List.getElem_cons_zero, List.getElem_cons_succ, List.setIfInBounds_toArray, List.set_cons_zero, List.set_cons_succ])
    refine wpAnyH_ready (rs := [19]) (by kernel_rfl) (by simp) ?_
    refine AllReadyH.cons rfl (fun K hK => ?_) AllReadyH.nil
    go_simp
    refine HC.out.mono ?_
    rintro e w99 ⟨v99, rfl, hO, k99⟩
    have hs := kd.size
    replace kd := kd.trans k99
    have HO := Lib.hid (hO.mono (Nat.le_trans HK1.out.size hs))
    clear hO k99 HC kM
    go_wp2_with fail
    refine hK.out _ _ ?s2_80 (fun hHeld => ?_)
    case s2_80 => ((try dsimp only) <;> (first | exact ⟨kd.cell0 c0, kd.cell0 c1, kd.cell0 c2, kd.cell0 c3, kd.cell0 c4, kd.cell0 c5⟩))
    clear hK K
    (try simp only [Act.put, List.getElem_toArray, List.getElem_cons_zero, List.getElem_cons_succ, List.setIfInBounds_toArray, List.set_cons_zero, List.set_cons_succ])
    refine wpAnyH_take (i := 20) (v := ?v2_81) rfl (by kernel_rfl) (by kernel_rfl) (by kernel_rfl) (fun _ _ _ h => h) (Or.inl ⟨by rfl, ?y2_81⟩) (by assumption) ?r2_81
    case y2_81 => (intro w hSw; (try dsimp only at hSw); go_simp; try with_reducible rfl)
    (try simp only [Act.put, List.getElem_toArray, List.getElem_cons_zero, List.getElem_cons_succ, List.setIfInBounds_toArray, List.set_cons_zero, List.set_cons_succ])
    refine wpAnyH_take (i := 21) (v := ?v2_82) rfl (by kernel_rfl) (by kernel_rfl) (by kernel_rfl) (fun _ _ _ h => h) (Or.inl ⟨by rfl, ?y2_82⟩) (by assumption) ?r2_82
    case y2_82 => (intro w hSw; (try dsimp only at hSw); go_simp; try with_reducible rfl)
    (try simp only [Act.put, List.getElem_toArray, List.getElem_cons_zero, List.getElem_cons_succ, List.setIfInBounds_toArray, List.set_cons_zero, List.set_cons_succ])
    refine wpAnyH_done (by kernel_rfl) ?_ _
    refine NoPanic.normal ?_
    go_wp2_with fail
    go_ret2
    exact ⟨_, rfl, HO.out, HK1.out.trans kd⟩
end Go.Proofs.YtijhaeapoapgfaaGreatDoor

set_option linter.unusedVariables false
set_option linter.unusedSimpArgs false
namespace Go.Proofs.YtijhaeapoapgfaaGreatDoor
open Go.RowKit
attribute [local go_sem ↓] Go.wp_at_zero Go.wp_at_succ

theorem plainM_len {s v : UInt32} {n z P : Nat} {h : List UInt8} (hl : h.length = 32) : (plainM s v n z P h).length = 44 := by simp [plainM, be4, be2, hl]
/-- A manifest's bytes, and their tag. -/
def manM (key : List UInt8) (s v : UInt32) (n z P : Nat) (h : List UInt8) : List UInt8 := plainM s v n z P h ++ tagM key (plainM s v n z P h)
theorem manM_len {key : List UInt8} {s v : UInt32} {n z P : Nat} {h : List UInt8} (hl : h.length = 32) : (manM key s v n z P h).length = 76 := by unfold manM; rw [List.length_append, plainM_len hl, tagM_len]

set_option maxRecDepth 100000 in
set_option maxHeartbeats 1600000 in
theorem mbytes_calls {w : World} {ak : Option Addr} {nk ck : Nat} {key : List UInt8} (hk : Rd w ak key) (hkn : key.length = nk) (h64 : nk ≤ 64) (hk0 : ak = none → key = [] ∧ ck = 0) (s v : UInt32) {n z P nK : Nat} (hm : MfOk n z P nK) {a : Option Addr} {c : Nat} {h : List UInt8} (hh : RdS w (.slice a 32 c) h) (hl : h.length = 32) :
    Calls Tryz.prog 60 #[.slice ak nk ck, MfV s v n z P (.slice a 32 c)] w (PlainPost w (manM key s v n z P h)) := by
  have kA : Keeps [] w (w.alloc (.cells (MfL s v n z P (.slice a 32 c)).toArray 35)) := (Keeps.refl [] w).alloc _
  have hB0 := Blk.newA w 35 (MfL s v n z P (.slice a 32 c)).toArray
  have hP := plain_calls s v hm (hh.keepsNil kA) hl
  have hpl := plainM_len (s := s) (v := v) (n := n) (z := z) (P := P) hl
  have hmd : manM key s v n z P h = plainM s v n z P h ++ tagM key (plainM s v n z P h) := rfl
  unfold PlainPost at hP ⊢
  generalize manM key s v n z P h = T at *
  generalize plainM s v n z P h = Y at *
  have HP := Lib.hid hP
  have HT := Lib.hid hmd
  have Hl := Lib.hid hpl
  have HKy := Lib.hid hk
  clear hP hm hh hl hmd hpl hk
  go_enter Tryz.func60, Tryz.ntmps60
  have d0 := hB0.cell' (i := 0) rfl
  have d1 := hB0.cell' (i := 1) rfl
  have d2 := hB0.cell' (i := 2) rfl
  have d3 := hB0.cell' (i := 3) rfl
  have d4 := hB0.cell' (i := 4) rfl
  have d5 := hB0.cell' (i := 5) rfl
  go_wp2_with fail
  generalize w.alloc (.cells (MfL s v n z P (.slice a 32 c)).toArray 35) = w0 at *
  refine HP.out.mono ?_
  rintro e w1 ⟨v1, rfl, hO1, k1⟩
  have hR1 := hO1.rds
  obtain ⟨a1, c1, rfl, _⟩ := id hR1
  have k01 := kA.trans k1
  have hsz := kA.size
  have HO1 := Lib.hid (hO1.mono hsz)
  have HG := Lib.hid (tag_calls (HKy.out.keepsNil k01) hkn h64 hk0 hR1 (by rw [Hl.out]; omega))
  have HK1 := Lib.hid k01
  clear hO1 hR1 k1 k01 hk0 d0 d1 d2 d3 d4 d5 hB0 HP
  rw [Hl.out] at HG ⊢
  go_wp2_with fail
  refine HG.out.mono ?_
  rintro e w2 ⟨v2, rfl, hO2, k2⟩
  have hR2 := hO2.rds
  have hl2 := tagM_len key Y
  obtain ⟨a2, c2, rfl, _, _, r3, r4, _⟩ := hR2
  rw [hl2]
  have HO1' := Lib.hid (HO1.out.keeps k2 (by simp))
  rw [Hl.out] at HO1'
  have HR2 := Lib.hid r3
  have H2 := Lib.hid (show a2 = none → 32 = 0 ∧ c2 = 0 from fun h => by have := (r4 h).1; rw [this] at hl2; simp at hl2)
  have hB2 : w.heap.size ≤ w2.heap.size := (HK1.out.trans k2).size
  have HK2 := Lib.hid (HK1.out.trans k2)
  have hl1 : Y.length + 32 ≤ 140737488351232 := by rw [Hl.out]; omega
  have Hl2 := Lib.hid hl2
  clear hO2 r3 r4 k2 HG hl2
  go_wp2_with (at_builtin; (refine wpList_append_bytes rfl (.tmp 16) (.tmp 19) rfl HO1'.out rfl a2 32 c2 rfl HR2.out Hl2.out H2.out hl1 hB2 ?_); intro v3 w3 g1 g2 g3)
  go_ret2
  exact ⟨_, rfl, by rw [HT.out]; exact g1, HK2.out.grown g2 (fun y hy => .inr (HO1'.out.ge8 y hy))⟩

set_option maxRecDepth 100000 in
set_option maxHeartbeats 1600000 in
theorem rmbytes_calls {w : World} {ak : Option Addr} {nk ck : Nat} {key : List UInt8} (hk : Rd w ak key) (hkn : key.length = nk) (h64 : nk ≤ 64) (s v : UInt32) {n z P nK : Nat} (hm : MfOk n z P nK) {a : Option Addr} {c : Nat} {h : List UInt8} (hh : RdS w (.slice a 32 c) h) (hl : h.length = 32) :
    Calls Tryz.prog 13 #[.slice ak nk ck, MfV s v n z P (.slice a 32 c)] w (PlainPost w (manM key s v n z P h)) := by
  have kA : Keeps [] w (w.alloc (.cells (MfL s v n z P (.slice a 32 c)).toArray 35)) := (Keeps.refl [] w).alloc _
  have hB0 := Blk.newA w 35 (MfL s v n z P (.slice a 32 c)).toArray
  have hP := rplain_calls s v hm (hh.keepsNil kA) hl
  have hpl := plainM_len (s := s) (v := v) (n := n) (z := z) (P := P) hl
  have hmd : manM key s v n z P h = plainM s v n z P h ++ tagM key (plainM s v n z P h) := rfl
  unfold PlainPost at hP ⊢
  generalize manM key s v n z P h = T at *
  generalize plainM s v n z P h = Y at *
  have HP := Lib.hid hP
  have HT := Lib.hid hmd
  have Hl := Lib.hid hpl
  have HKy := Lib.hid hk
  clear hP hm hh hl hmd hpl hk
  go_enter Tryz.func13, Tryz.ntmps13
  have d0 := hB0.cell' (i := 0) rfl
  have d1 := hB0.cell' (i := 1) rfl
  have d2 := hB0.cell' (i := 2) rfl
  have d3 := hB0.cell' (i := 3) rfl
  have d4 := hB0.cell' (i := 4) rfl
  have d5 := hB0.cell' (i := 5) rfl
  go_wp2_with fail
  generalize w.alloc (.cells (MfL s v n z P (.slice a 32 c)).toArray 35) = w0 at *
  refine HP.out.mono ?_
  rintro e w1 ⟨v1, rfl, hO1, k1⟩
  have hR1 := hO1.rds
  obtain ⟨a1, c1, rfl, _⟩ := id hR1
  have k01 := kA.trans k1
  have HR1 := Lib.hid hR1
  have HG := Lib.hid (rtag_calls (c := ck) (HKy.out.keepsNil k01) hkn h64 hR1 (by rw [Hl.out]; omega))
  have HK1 := Lib.hid k01
  clear hO1 hR1 k1 k01 d0 d1 d2 d3 d4 d5 hB0 HP
  rw [Hl.out] at HG HR1 ⊢
  go_wp2_with fail
  refine HG.out.mono ?_
  rintro e w2 ⟨v2, rfl, hO2, k2⟩
  have hR2 := hO2.rds
  have hl2 := tagM_len key Y
  obtain ⟨a2, c2, rfl, _⟩ := id hR2
  rw [hl2] at hR2 ⊢
  have kB : Keeps [] w2 (w2.alloc (.cells #[.slice a1 44 c1, .slice a2 32 c2] 22)) := (Keeps.refl [] w2).alloc _
  have hJ := rjoin_calls (RdL.two (Blk.newA w2 22 #[.slice a1 44 c1, .slice a2 32 c2]) ((HR1.out.keepsNil k2).keepsNil kB) (hR2.keepsNil kB)) (by simp) (by simp [Hl.out, hl2])
  have hfl : [Y, tagM key Y].flatten = T := by rw [HT.out]; simp
  rw [hfl] at hJ
  have HJ := Lib.hid hJ
  have HK2 := Lib.hid ((HK1.out.trans k2).trans kB)
  clear hO2 hR2 k2 kB hJ HG HR1 hl2 hfl
  go_wp2_with fail
  generalize w2.alloc (.cells #[.slice a1 44 c1, .slice a2 32 c2] 22) = wb at *
  refine HJ.out.mono ?_
  rintro e w3 ⟨v3, rfl, hO3, k3⟩
  have HO3 := Lib.hid (hO3.mono HK2.out.size)
  have HK3 := Lib.hid (HK2.out.trans k3)
  clear hO3 k3 HJ
  go_wp2_with fail
  go_ret2
  exact ⟨_, rfl, HO3.out, HK3.out⟩

/-- A frame. -/
def bodyM (k : Nat) (b : List UInt8) : List UInt8 := [UInt8.ofNat k, UInt8.ofNat (b.length / 256), UInt8.ofNat b.length] ++ b
def wrapM (k : Nat) (b : List UInt8) : List UInt8 := [68, 80] ++ crcPut (bodyM k b)

theorem bodyM_len (k : Nat) (b : List UInt8) : (bodyM k b).length = b.length + 3 := by simp [bodyM]
theorem bodyM_eq (k : Nat) (b : List UInt8) : bodyM k b = [UInt8.ofNat k, UInt8.ofNat (b.length / 256), UInt8.ofNat b.length] ++ b := rfl
set_option maxRecDepth 100000 in
set_option maxHeartbeats 1600000 in
theorem fwrap_calls {w : World} (k : Nat) (hk : k ≤ 255) {a : Option Addr} {n c : Nat} {b : List UInt8} (hb : RdS w (.slice a n c) b) (hn : b.length = n) (hm : n ≤ 291) :
    Calls Tryz.prog 61 #[.int .i64 k, .slice a n c] w (PlainPost w (wrapM k b)) := by
  unfold PlainPost
  obtain ⟨a', c', ea, _, _, r3, r4, _⟩ := id hb
  simp only [Value.slice.injEq] at ea
  obtain ⟨rfl, hx0, rfl⟩ := ea
  clear hx0
  have h0 : ¬ ((k : Int) < 0) := by omega
  have h1 : ¬ ((255 : Int) < (k : Int)) := by omega
  have h2 : ¬ ((291 : Int) < (n : Int)) := by omega
  have hki : (k : Int) ≤ 255 := by omega
  have hwd : wrapM k b = [68, 80] ++ crcPut (bodyM k b) := rfl
  have hbl := bodyM_len k b
  have hcl := crcPut_len (bodyM k b)
  have hbe : bodyM k b = [UInt8.ofNat k, UInt8.ofNat (n / 256), UInt8.ofNat n] ++ b := by rw [bodyM_eq, hn]
  generalize wrapM k b = T at *
  generalize bodyM k b = Y at *
  have HR := Lib.hid r3
  have Hn0 := Lib.hid (show a = none → n = 0 ∧ c = 0 from fun h => ⟨by rw [← hn, (r4 h).1]; rfl, (r4 h).2⟩)
  have HT := Lib.hid hwd
  have HY := Lib.hid hbe
  have Hbl := Lib.hid hbl
  have Hcl := Lib.hid hcl
  have Hn := Lib.hid hn
  clear hb r3 r4 hwd hbe hbl hcl hn
  go_enter Tryz.func61, Tryz.ntmps61
  have e1 : Value.int .u8 (k : Int) = B8 (UInt8.ofNat k) := by show Value.int .u8 _ = .int .u8 _; rw [UInt8.toNat_ofNat']; congr 1; omega
  have e2 : Value.int .u8 ((n : Int) / 256) = B8 (UInt8.ofNat (n / 256)) := by show Value.int .u8 _ = .int .u8 _; rw [UInt8.toNat_ofNat']; congr 1; omega
  have e3 : Value.int .u8 ((n : Int) % 256) = B8 (UInt8.ofNat n) := by show Value.int .u8 _ = .int .u8 _; rw [UInt8.toNat_ofNat']; congr 1
  have HL := Lib.hid (Own.lit8 w #[.int .u8 (k : Int), .int .u8 ((n : Int) / 256), .int .u8 ((n : Int) % 256)] [UInt8.ofNat k, UInt8.ofNat (n / 256), UInt8.ofNat n] 3 (by rw [e1, e2, e3]; rfl) rfl (by omega))
  have kL : Keeps [] w (w.alloc (.cells #[.int .u8 (k : Int), .int .u8 ((n : Int) / 256), .int .u8 ((n : Int) % 256)] 5)) := (Keeps.refl [] w).alloc _
  have HRL := Lib.hid (HR.out.keepsNil kL)
  have HkL := Lib.hid kL
  have hl1 : ([UInt8.ofNat k, UInt8.ofNat (n / 256), UInt8.ofNat n] : List UInt8).length + n ≤ 140737488351232 := by simp; omega
  have hb1 : w.heap.size ≤ (w.alloc (.cells #[.int .u8 (k : Int), .int .u8 ((n : Int) / 256), .int .u8 ((n : Int) % 256)] 5)).heap.size := by simp
  clear e1 e2 e3 kL
  go_upto_region 4 with (first | (at_builtin; (refine wpList_append_bytes rfl (.tmp 27) (.tmp 28) rfl HL.out rfl a n c rfl HRL.out Hn.out Hn0.out hl1 hb1 ?_); intro v2 w2 g1 g2 g3; have HO2 := Lib.hid g1; have HK2 := Lib.hid (HkL.out.grown g2 (fun y hy => .inr (HL.out.ge8 y hy))); clear g1 g2 g3))
  have hO2 := HO2.out
  rw [← HY.out] at hO2
  obtain ⟨a2, c2, rfl, _, _, r5, r6, _⟩ := hO2.rds
  have kC : Keeps [] w2 (w2.alloc (.cells #[.int .u8 68, .int .u8 80] 5 (2, 3))) := (Keeps.refl [] w2).alloc _
  have hcv := lit_conv w2 #[.int .u8 68, .int .u8 80] 2 2
  have HRc := Lib.hid (lit_rd w2 #[.int .u8 68, .int .u8 80] (2, 3) [68, 80] rfl)
  have HPut := Lib.hid (crcput_calls a2 Y.length c2 Y (r5.keepsNil kC) rfl (by rw [Hbl.out, Hn.out]; omega) (fun h => ⟨by rw [(r6 h).1]; rfl, (r6 h).2⟩))
  have HKc := Lib.hid (HK2.out.trans kC)
  have hs2 := HK2.out.size
  clear hO2 r5 r6 kC HL HRL hl1 hb1
  go_wp2_with fail
  generalize w2.alloc (.cells #[.int .u8 68, .int .u8 80] 5 (2, 3)) = wc at *
  refine HPut.out.mono ?_
  rintro e w3 ⟨v3, rfl, hO3, k3⟩
  have HRc3 := Lib.hid (HRc.out.keepsNil k3)
  have HZ0 := Lib.hid (show 0 < (crcPut Y).length by rw [Hcl.out]; omega)
  obtain ⟨a3, c3, rfl, _, _, r7, r8, _⟩ := hO3.rds
  cases a3 with
  | none => exact absurd (by rw [(r8 rfl).1]; rfl) (Nat.ne_of_gt HZ0.out)
  | some a3 => ?_
  have HR3 := Lib.hid r7
  have hg3 : 2 < 2 + (crcPut Y).length := by have := HZ0.out; omega
  have hl3 : 2 + (crcPut Y).length ≤ 100000 := by rw [Hcl.out, Hbl.out, Hn.out]; omega
  have HK3 := Lib.hid (HKc.out.trans k3)
  have hs3 := HK3.out.size
  clear hO3 r7 r8 k3 HPut
  generalize crcPut Y = Z at *
  go_wp2_with (at_builtin; (refine wpList_append_full rfl (.tmp 31) (.tmp 33) rfl HRc3.out rfl rfl (by simp) HR3.out rfl rfl hg3 hl3 ?_); intro v4 w4 g1 g2)
  go_ret2
  exact ⟨_, rfl, by rw [HT.out]; exact g1.mono hs3, HK3.out.grown g2 (fun y hy => by simp at hy)⟩

set_option maxRecDepth 100000 in
set_option maxHeartbeats 1600000 in
theorem rwrap_calls {w : World} (k : Nat) (hk : k ≤ 255) {a : Option Addr} {n c : Nat} {b : List UInt8} (hb : RdS w (.slice a n c) b) (hn : b.length = n) (hm : n ≤ 291) :
    Calls Tryz.prog 14 #[.int .i64 k, .slice a n c] w (PlainPost w (wrapM k b)) := by
  unfold PlainPost
  have h0 : ¬ ((k : Int) < 0) := by omega
  have h1 : ¬ ((255 : Int) < (k : Int)) := by omega
  have h2 : ¬ ((291 : Int) < (n : Int)) := by omega
  have hki : (k : Int) ≤ 255 := by omega
  have hwd : wrapM k b = [68, 80] ++ crcPut (bodyM k b) := rfl
  have hbl := bodyM_len k b
  have hcl := crcPut_len (bodyM k b)
  have hbe : [[UInt8.ofNat k], be2 n, b].flatten = bodyM k b := by rw [bodyM_eq, hn]; simp [be2]
  generalize wrapM k b = T at *
  generalize bodyM k b = Y at *
  have HB := Lib.hid hb
  have HT := Lib.hid hwd
  have HY := Lib.hid hbe
  have Hbl := Lib.hid hbl
  have Hcl := Lib.hid hcl
  have Hn := Lib.hid hn
  clear hb hwd hbe hbl hcl hn
  go_enter Tryz.func14, Tryz.ntmps14
  go_upto_region 3 with (fail)
  have e1 : Value.int .u8 (k : Int) = B8 (UInt8.ofNat k) := by show Value.int .u8 _ = .int .u8 _; rw [UInt8.toNat_ofNat']; congr 1; omega
  have kL : Keeps [] w (w.alloc (.cells #[.int .u8 (k : Int)] 5)) := (Keeps.refl [] w).alloc _
  have HL := Lib.hid ((Own.lit8 w #[.int .u8 (k : Int)] [UInt8.ofNat k] 1 (by rw [e1]; rfl) rfl (by omega)).rds)
  have H2 := Lib.hid (two_calls (w := w.alloc (.cells #[.int .u8 (k : Int)] 5)) n (by omega))
  have HkL := Lib.hid kL
  clear e1 kL
  go_wp2_with fail
  generalize w.alloc (.cells #[.int .u8 (k : Int)] 5) = wa at *
  refine H2.out.mono ?_
  rintro e w2 ⟨a2, c2, rfl, hR2, k2⟩
  have kM : Keeps [] w2 (w2.alloc (.cells #[.slice (some ⟨w.heap.size, 0, none⟩) 1 1, .slice a2 2 c2, .slice a n c] 22)) := (Keeps.refl [] w2).alloc _
  have hJ := rjoin_calls (RdL.three (Blk.newA w2 22 #[.slice (some ⟨w.heap.size, 0, none⟩) 1 1, .slice a2 2 c2, .slice a n c]) ((HL.out.keepsNil k2).keepsNil kM) (hR2.keepsNil kM) ((HB.out.keepsNil (HkL.out.trans k2)).keepsNil kM)) (by simp) (by rw [HY.out, Hbl.out, Hn.out]; omega)
  rw [HY.out] at hJ
  have HJ := Lib.hid hJ
  have HK2 := Lib.hid ((HkL.out.trans k2).trans kM)
  clear hR2 k2 kM hJ H2 HL
  go_wp2_with fail
  generalize w2.alloc (.cells #[.slice (some ⟨w.heap.size, 0, none⟩) 1 1, .slice a2 2 c2, .slice a n c] 22) = wb at *
  refine HJ.out.mono ?_
  rintro e w3 ⟨v3, rfl, hO3, k3⟩
  obtain ⟨a3, c3, rfl, _, _, r5, r6, _⟩ := hO3.rds
  have kC : Keeps [] w3 (w3.alloc (.cells #[.int .u8 68, .int .u8 80] 5 (2, 3))) := (Keeps.refl [] w3).alloc _
  have hcv := lit_conv w3 #[.int .u8 68, .int .u8 80] 2 2
  have HLc := Lib.hid (lit_rds w3 #[.int .u8 68, .int .u8 80] (2, 3) [68, 80] 2 rfl rfl (by omega))
  have HPut := Lib.hid (rput_calls a3 Y.length c3 Y (r5.keepsNil kC) rfl (by rw [Hbl.out, Hn.out]; omega) (fun h => ⟨by rw [(r6 h).1]; rfl, (r6 h).2⟩))
  have HK3 := Lib.hid ((HK2.out.trans k3).trans kC)
  clear hO3 r5 r6 k3 kC HJ
  go_wp2_with fail
  generalize w3.alloc (.cells #[.int .u8 68, .int .u8 80] 5 (2, 3)) = wc at *
  refine HPut.out.mono ?_
  rintro e w4 ⟨v4, rfl, hO4, k4⟩
  have hR4 := hO4.rds
  obtain ⟨a4, c4, rfl, _⟩ := id hR4
  have kD : Keeps [] w4 (w4.alloc (.cells #[.slice (some ⟨w3.heap.size, 0, none⟩) 2 2, .slice a4 (crcPut Y).length c4] 22)) := (Keeps.refl [] w4).alloc _
  have hJ := rjoin0_calls (RdL0.two (Blk.newA w4 22 #[.slice (some ⟨w3.heap.size, 0, none⟩) 2 2, .slice a4 (crcPut Y).length c4]) ((HLc.out.keepsNil k4).keepsNil kD) (hR4.keepsNil kD).z) (by simp) (by simp only [List.flatten_cons, List.flatten_nil, List.length_append, List.append_nil]; rw [Hcl.out, Hbl.out, Hn.out]; simp; omega)
  have hfl : [[68, 80], crcPut Y].flatten = T := by rw [HT.out]; simp
  rw [hfl] at hJ
  have HJ2 := Lib.hid hJ
  have HK4 := Lib.hid ((HK3.out.trans k4).trans kD)
  clear hO4 hR4 k4 kD hJ hfl HPut HLc
  generalize crcPut Y = Z at *
  go_wp2_with fail
  generalize w4.alloc (.cells #[.slice (some ⟨w3.heap.size, 0, none⟩) 2 2, .slice a4 Z.length c4] 22) = wd at *
  refine HJ2.out.mono ?_
  rintro e w5 ⟨v5, rfl, hO5, k5⟩
  have HO5 := Lib.hid (hO5.mono HK4.out.size)
  have HK5 := Lib.hid (HK4.out.trans k5)
  clear hO5 k5 HJ2
  go_wp2_with fail
  go_ret2
  exact ⟨_, rfl, HO5.out, HK5.out⟩

end Go.Proofs.YtijhaeapoapgfaaGreatDoor
