/-
  RefN: the walks of the reference's Erase and NewFlash.
-/
import Derived.Test.YtghgmchgbhdldaaRefE
import Derived.Test.YtghgmchgbhdldaaMakeB
import Derived.Laws.MakeOwn
namespace Go.Proofs.Ytghgmchgbhdldaa
open Go.RowKit

theorem Fla.eraseG_step (F : Fla) (s : Nat) : ({ F with er := F.er.set s (wrap64 (F.er.getD s 0 + 1)) } : Fla).step = F.eraseG s := rfl

set_option maxRecDepth 100000 in
set_option maxHeartbeats 1000000 in
theorem rerase_calls {w : World} {p q : Nat} {F : Fla} (h : RfAt w p q F) (s : Int) :
    Calls Try.prog 108 #[.pointer (some ⟨p, 0, none⟩), .int .i64 s] w (RPost w p q (F.erase s).1 (.int .i64 (F.erase s).2)) := by
  obtain ⟨z, hz, h⟩ := h
  have c16 := h.down
  have hR : RfAt w p q F := ⟨z, hz, h⟩
  have HR := Lib.hid hR
  clear hR
  cases hd : F.down
  · rw [hd] at c16
    by_cases h1 : s < 0
    · have e : F.erase s = (F, 1) := by unfold Fla.erase; rw [if_neg (by simp [hd]), if_pos (.inl h1)]
      rw [e]
      clear h hz hd e
      go_enter Try.func108, Try.ntmps108
      go_wp2_with fail
      go_ret
      exact ⟨rfl, HR.out, Keeps.refl _ _⟩
    · by_cases h2 : 14 ≤ s
      · have e : F.erase s = (F, 1) := by unfold Fla.erase; rw [if_neg (by simp [hd]), if_pos (.inr h2)]
        rw [e]
        clear h hz hd e
        go_enter Try.func108, Try.ntmps108
        go_wp2_with fail
        go_ret
        exact ⟨rfl, HR.out, Keeps.refl _ _⟩
      · obtain ⟨n, rfl⟩ : ∃ n : Nat, s = n := ⟨s.toNat, by omega⟩
        have hn : n < 14 := by omega
        have cw := h.wear
        have ce := h.erC hn
        by_cases h3 : F.er.getD n 0 ≥ F.wear
        · have e : F.erase n = (F, 10) := by unfold Fla.erase; rw [if_neg (by simp [hd]), if_neg (by omega), if_pos (by simpa using h3)]
          rw [e]
          have hdd : decide (F.er.getD n 0 ≥ F.wear) = true := by simpa using h3
          clear h hz hd e
          generalize F.er.getD n 0 = x at *
          generalize F.wear = y at *
          have h3' : y ≤ x := h3
          go_enter Try.func108, Try.ntmps108
          go_wp2_with fail
          go_quiet (fail)
          go_wp2_with fail
          go_ret
          exact ⟨rfl, HR.out.drewN _, (Keeps.refl _ _).drewN _⟩
        · have hG : F.erase n = (if F.step.down then ((F.eraseG n).fill (n * 256) ((max 0 F.torn) % 257).toNat, 11) else ((F.eraseG n).fill (n * 256) 256, 0)) := by
            unfold Fla.erase; rw [if_neg (by simp [hd]), if_neg (by omega), if_neg (by simpa using h3)]; rfl
          rw [hG]
          clear hG
          have h3' : F.er.getD n 0 < F.wear := by omega
          have fe := h.frz (2 + n)
          have hS : ∀ w1, RfAt w1 p q { F with er := F.er.set n (wrap64 (F.er.getD n 0 + 1)) } → Calls Try.prog 110 #[.pointer (some ⟨p, 0, none⟩)] w1 (RPost w1 p q (F.eraseG n) (.bool (!F.step.down))) :=
            fun w1 hw1 => rstep_calls hw1 hd
          have hE0 : ∀ w', RfZ w' p q F z → RfZ (w'.setCell ⟨p, 2 + n, none⟩ (.int .i64 (wrap64 (F.er.getD n 0 + 1)))) p q { F with er := F.er.set n (wrap64 (F.er.getD n 0 + 1)) } z := fun w' h' => h'.setEr hn _
          have hzE : ({ F with er := F.er.set n (wrap64 (F.er.getD n 0 + 1)) } : Fla).fused = true → z = ({ F with er := F.er.set n (wrap64 (F.er.getD n 0 + 1)) } : Fla).left := hz
          have Hlen : Hid ((F.eraseG n).b.length = 3584) := Lib.hid h.len
          have ht0 : (F.eraseG n).torn = F.torn := rfl
          generalize hx : F.er.getD n 0 = x at *
          generalize { F with er := F.er.set n (wrap64 (x + 1)) } = E at *
          generalize hg : F.eraseG n = G at *
          have Hz := Lib.hid hzE
          clear hg hx hd h3 hz hzE
          generalize F.wear = y at *
          cases hsd : F.step.down
          · have Hsd := Lib.hid hsd
            clear hsd
            simp only [Bool.false_eq_true, ↓reduceIte]
            go_enter Try.func108, Try.ntmps108
            go_wp2_with fail
            go_quiet (fail)
            have hw := h.drewN nq
            have ew : IntKind.i64.wrap (x + 1) = wrap64 (x + 1) := IntWalk.i64_left _
            have fe' : (w.drewN nq).drew.frozen? ⟨p, 2 + n, none⟩ = false := fe
            have ce' : (w.drewN nq).drew.cell? ⟨p, 2 + n, none⟩ = some (.int .i64 x) := ce
            have ce2 : (w.drewN nq).cell? ⟨p, 2 + n, none⟩ = some (.int .i64 x) := ce
            have hKw : Keeps [p, q] w (w.drewN nq) := (Keeps.refl _ _).drewN nq
            generalize w.drewN nq = w2 at *
            go_wp2_with fail
            go_still_tail 10, (by kernel_rfl)
            change wpList _ _ _ _ _ w2.drew
            have hE := hE0 _ hw.drew
            have hKE : Keeps [p, q] w (w2.drew.setCell ⟨p, 2 + n, none⟩ (.int .i64 (wrap64 (x + 1)))) := hKw.drew.setCell (by simp) _
            go_wp2_with fail
            refine (hS _ ⟨z, Hz.out, hE⟩).mono ?_
            rintro e w1 ⟨rfl, hG1, hK1⟩
            rw [Hsd.out]
            go_wp2_with fail
            go_loopw [49] (fun i wr => ∃ k : Nat, k ≤ 256 ∧ i = .int .i64 k ∧ RfAt wr p q (G.fill (n * 256) k) ∧ Keeps [p, q] w wr) (fun i _ => 256 - (intOf i).toNat)
            case atStart => exact ⟨0, Nat.zero_le _, rfl, by rw [Fla.fill_zero]; exact hG1, hKE.trans hK1⟩
            case round =>
              obtain ⟨k, hk, rfl, ⟨y', hy', hF⟩, hK⟩ := hrel
              have Hy := Lib.hid hy'
              clear hy'
              have c0 := hF.c0
              by_cases hlt : k < 256
              · have cb := hF.byte (i := n * 256 + k) (by omega)
                have fb := hF.frzq (n * 256 + k)
                go_wp2_with fail
                go_roundw
                case rel =>
                  refine ⟨k + 1, by omega, by go_num, ⟨y', Hy.out, ?_⟩, hK.setCell (by simp) _⟩
                  rw [← Fla.fill_succ _ _ _ (by rw [Hlen.out]; omega)]
                  exact hF.setByte (by omega) 255
                case measure => simp [intOf]; omega
              · have hkl : k = 256 := by omega
                subst hkl
                go_wp2_with fail
                go_ret
                exact ⟨rfl, ⟨y', Hy.out, hF⟩, hK⟩
          · have Hsd := Lib.hid hsd
            clear hsd
            simp only [↓reduceIte]
            generalize F.torn = t at *
            by_cases ht : t ≤ 0
            · have e0 : ((max 0 t) % 257).toNat = 0 := by rw [Int.max_eq_left (by omega)]; rfl
              rw [e0]
              clear e0
              go_enter Try.func108, Try.ntmps108
              go_wp2_with fail
              go_quiet (fail)
              have hw := h.drewN nq
              have ew : IntKind.i64.wrap (x + 1) = wrap64 (x + 1) := IntWalk.i64_left _
              have fe' : (w.drewN nq).drew.frozen? ⟨p, 2 + n, none⟩ = false := fe
              have ce' : (w.drewN nq).drew.cell? ⟨p, 2 + n, none⟩ = some (.int .i64 x) := ce
              have ce2 : (w.drewN nq).cell? ⟨p, 2 + n, none⟩ = some (.int .i64 x) := ce
              have hKw : Keeps [p, q] w (w.drewN nq) := (Keeps.refl _ _).drewN nq
              generalize w.drewN nq = w2 at *
              go_wp2_with fail
              go_still_tail 10, (by kernel_rfl)
              change wpList _ _ _ _ _ w2.drew
              have hE := hE0 _ hw.drew
              have hKE : Keeps [p, q] w (w2.drew.setCell ⟨p, 2 + n, none⟩ (.int .i64 (wrap64 (x + 1)))) := hKw.drew.setCell (by simp) _
              go_wp2_with fail
              refine (hS _ ⟨z, Hz.out, hE⟩).mono ?_
              rintro e w1 ⟨rfl, hG1, hK1⟩
              rw [Hsd.out]
              have ct : w1.cell? ⟨p, 20, none⟩ = some (.int .i64 t) := by obtain ⟨y', _, hF⟩ := hG1; rw [← ht0]; exact hF.torn
              clear ht0
              go_wp2_with fail
              go_loopw [49] (fun i wr => ∃ k : Nat, k ≤ 0 ∧ i = .int .i64 k ∧ RfAt wr p q (G.fill (n * 256) k) ∧ Keeps [p, q] w wr) (fun i _ => 0 - (intOf i).toNat)
              case atStart => exact ⟨0, Nat.zero_le _, rfl, by rw [Fla.fill_zero]; exact hG1, hKE.trans hK1⟩
              case round =>
                obtain ⟨k, hk, rfl, hF, hK⟩ := hrel
                have hkl : k = 0 := by omega
                subst hkl
                go_wp2_with fail
                go_ret
                exact ⟨rfl, hF, hK⟩
            · obtain ⟨N, hN, hN2⟩ : ∃ N : Nat, t % 257 = (N : Int) ∧ N < 257 := ⟨(t % 257).toNat, by omega, by omega⟩
              have e0 : ((max 0 t) % 257).toNat = N := by rw [Int.max_eq_right (by omega), hN]; rfl
              rw [e0]
              clear e0
              go_enter Try.func108, Try.ntmps108
              go_wp2_with fail
              go_quiet (fail)
              have hw := h.drewN nq
              have ew : IntKind.i64.wrap (x + 1) = wrap64 (x + 1) := IntWalk.i64_left _
              have fe' : (w.drewN nq).drew.frozen? ⟨p, 2 + n, none⟩ = false := fe
              have ce' : (w.drewN nq).drew.cell? ⟨p, 2 + n, none⟩ = some (.int .i64 x) := ce
              have ce2 : (w.drewN nq).cell? ⟨p, 2 + n, none⟩ = some (.int .i64 x) := ce
              have hKw : Keeps [p, q] w (w.drewN nq) := (Keeps.refl _ _).drewN nq
              generalize w.drewN nq = w2 at *
              go_wp2_with fail
              go_still_tail 10, (by kernel_rfl)
              change wpList _ _ _ _ _ w2.drew
              have hE := hE0 _ hw.drew
              have hKE : Keeps [p, q] w (w2.drew.setCell ⟨p, 2 + n, none⟩ (.int .i64 (wrap64 (x + 1)))) := hKw.drew.setCell (by simp) _
              go_wp2_with fail
              refine (hS _ ⟨z, Hz.out, hE⟩).mono ?_
              rintro e w1 ⟨rfl, hG1, hK1⟩
              rw [Hsd.out]
              have ct : w1.cell? ⟨p, 20, none⟩ = some (.int .i64 t) := by obtain ⟨y', _, hF⟩ := hG1; rw [← ht0]; exact hF.torn
              clear ht0
              go_wp2_with fail
              go_loopw [49] (fun i wr => ∃ k : Nat, k ≤ N ∧ i = .int .i64 k ∧ RfAt wr p q (G.fill (n * 256) k) ∧ Keeps [p, q] w wr) (fun i _ => N - (intOf i).toNat)
              case atStart => exact ⟨0, Nat.zero_le _, rfl, by rw [Fla.fill_zero]; exact hG1, hKE.trans hK1⟩
              case round =>
                obtain ⟨k, hk, rfl, ⟨y', hy', hF⟩, hK⟩ := hrel
                have Hy := Lib.hid hy'
                clear hy'
                have c0 := hF.c0
                by_cases hlt : k < N
                · have cb := hF.byte (i := n * 256 + k) (by omega)
                  have fb := hF.frzq (n * 256 + k)
                  go_wp2_with fail
                  go_roundw
                  case rel =>
                    refine ⟨k + 1, by omega, by go_num, ⟨y', Hy.out, ?_⟩, hK.setCell (by simp) _⟩
                    rw [← Fla.fill_succ _ _ _ (by rw [Hlen.out]; omega)]
                    exact hF.setByte (by omega) 255
                  case measure => simp [intOf]; omega
                · have hkl : k = N := by omega
                  subst hkl
                  go_wp2_with fail
                  go_ret
                  exact ⟨rfl, ⟨y', Hy.out, hF⟩, hK⟩
  · rw [hd] at c16
    have e : F.erase s = (F, 11) := by unfold Fla.erase; rw [if_pos hd]
    rw [e]
    clear h hz hd e
    go_enter Try.func108, Try.ntmps108
    go_wp2_with fail
    go_ret
    exact ⟨rfl, HR.out, Keeps.refl _ _⟩

end Go.Proofs.Ytghgmchgbhdldaa

/-
  RefN2: the walk of the reference's NewFlash.
-/
namespace Go.Proofs.Ytghgmchgbhdldaa
open Go.RowKit

/-- Bytes made: all zero. -/
def RNewPost (w : World) (wear : Int) (e : Ending) (w' : World) : Prop :=
  ∃ p q, e = .returned (.pointer (some ⟨p, 0, none⟩)) ∧ w.heap.size ≤ p ∧ w.heap.size ≤ q ∧ RfAt w' p q (Fla.new wear) ∧ Keeps [] w w'

def rstart (wear : Int) (k : Nat) : Fla := { Fla.new wear with b := List.replicate k 255 ++ List.replicate (3584 - k) 0 }

theorem rstart_succ (wear : Int) (k : Nat) (h : k < 3584) : (rstart wear k).setB k 255 = rstart wear (k + 1) := by
  unfold rstart Fla.setB
  simp only [Fla.mk.injEq, and_true]
  rw [List.set_append_right _ _ (by simp), List.length_replicate, Nat.sub_self, show 3584 - k = (3584 - (k + 1)) + 1 from by omega, List.replicate_succ, List.set_cons_zero, List.replicate_succ', List.append_assoc]
  rfl

theorem rstart_last (wear : Int) : rstart wear 3584 = Fla.new wear := by
  show ({ Fla.new wear with b := List.replicate 3584 255 ++ List.replicate (3584 - 3584) 0 } : Fla) = _
  rw [Nat.sub_self, List.replicate_zero, List.append_nil]
  rfl

def rzero : List Value := [.int .i64 0, .int .i64 0, .int .i64 0, .int .i64 0, .int .i64 0, .int .i64 0, .int .i64 0, .int .i64 0, .int .i64 0, .int .i64 0, .int .i64 0, .int .i64 0, .int .i64 0, .int .i64 0, .bool false, .int .i64 0, .bool false, .int .i64 0, .int .i64 0]

theorem rstart_mk {w : World} {wear x : Int} (hx : x = max 1 (min wear 10000)) :
    RfZ ((w.alloc (.cells (zeros 3584) 5)).alloc (.cells ((.slice (some ⟨w.heap.size, 0, none⟩) 3584 3584) :: .int .i64 x :: rzero).toArray 59)) (w.heap.size + 1) w.heap.size (rstart wear 0) 0 := by
  refine ⟨rfl, by unfold rstart; rw [List.length_append, List.length_replicate, List.length_replicate], ?_, ⟨[], ?_⟩⟩
  · subst hx
    have := Blk.new (w.alloc (.cells (zeros 3584) 5)) 59 ((rstart wear 0).rcells w.heap.size 0)
    rw [World.size_alloc] at this
    exact this
  · have := (Blk.newA w 5 (zeros 3584)).alloc (.cells ((.slice (some ⟨w.heap.size, 0, none⟩) 3584 3584) :: .int .i64 x :: rzero).toArray 59)
    have e : (rstart wear 0).b.map B8 = (zeros 3584).toList := by unfold rstart zeros; simp only [List.replicate_zero, List.nil_append, Nat.sub_zero]
    rw [List.append_nil, e]
    exact this

set_option maxRecDepth 100000 in
set_option maxHeartbeats 1000000 in
theorem rnew_calls {w : World} (wear : Int) :
    Calls Try.prog 31 #[.int .i64 wear] w (RNewPost w wear) := by
  have hmk : ∀ w, (Instr.makeSlice 23 (.int .i64 3584) (.int .i64 3584)).run Try.prog w = .ok (.slice (some ⟨w.heap.size, 0, none⟩) 3584 3584) (w.alloc (.cells (zeros 3584) 5)) := make_u8 3584 3584 (by omega) (by omega)
  have hS := fun x hx => rstart_mk (w := w) (wear := wear) (x := x) hx
  unfold rzero at hS
  go_enter Try.func31, Try.ntmps31
  go_wp2_with fail
  · replace hS := hS 10000 (by omega)
    have hKS := ((Keeps.refl [] w).alloc (.cells (zeros 3584) 5)).alloc (.cells (((.slice (some ⟨w.heap.size, 0, none⟩) 3584 3584) :: .int .i64 10000 :: rzero).toArray) 59)
    unfold rzero at hKS
    go_loopw [16] (fun i wr => ∃ k : Nat, k ≤ 3584 ∧ i = .int .i64 k ∧ RfZ wr (w.heap.size + 1) w.heap.size (rstart wear k) 0 ∧ Keeps [] w wr) (fun i _ => 3584 - (intOf i).toNat)
    case atStart => exact ⟨0, Nat.zero_le _, rfl, hS, hKS⟩
    case round =>
      obtain ⟨k, hk, rfl, hF, hK⟩ := hrel
      clear hS hKS
      have c0 := hF.c0
      by_cases hlt : k < 3584
      · have cb := hF.byte (i := k) hlt
        have fb := hF.frzq k
        go_wp2_with fail
        go_roundw
        case rel => exact ⟨k + 1, by omega, by go_num, by rw [← rstart_succ wear k hlt]; exact hF.setByte hlt 255, hK.setCell (.inr (Nat.le_refl _)) _⟩
        case measure => simp [intOf]; omega
      · have hkl : k = 3584 := by omega
        subst hkl
        rw [rstart_last] at hF
        go_wp2_with fail
        go_ret
        exact ⟨_, _, rfl, by omega, by omega, ⟨0, by simp [Fla.new], hF⟩, hK⟩
  · replace hS := hS wear (by omega)
    have hKS := ((Keeps.refl [] w).alloc (.cells (zeros 3584) 5)).alloc (.cells (((.slice (some ⟨w.heap.size, 0, none⟩) 3584 3584) :: .int .i64 wear :: rzero).toArray) 59)
    unfold rzero at hKS
    go_loopw [16] (fun i wr => ∃ k : Nat, k ≤ 3584 ∧ i = .int .i64 k ∧ RfZ wr (w.heap.size + 1) w.heap.size (rstart wear k) 0 ∧ Keeps [] w wr) (fun i _ => 3584 - (intOf i).toNat)
    case atStart => exact ⟨0, Nat.zero_le _, rfl, hS, hKS⟩
    case round =>
      obtain ⟨k, hk, rfl, hF, hK⟩ := hrel
      clear hS hKS
      have c0 := hF.c0
      by_cases hlt : k < 3584
      · have cb := hF.byte (i := k) hlt
        have fb := hF.frzq k
        go_wp2_with fail
        go_roundw
        case rel => exact ⟨k + 1, by omega, by go_num, by rw [← rstart_succ wear k hlt]; exact hF.setByte hlt 255, hK.setCell (.inr (Nat.le_refl _)) _⟩
        case measure => simp [intOf]; omega
      · have hkl : k = 3584 := by omega
        subst hkl
        rw [rstart_last] at hF
        go_wp2_with fail
        go_ret
        exact ⟨_, _, rfl, by omega, by omega, ⟨0, by simp [Fla.new], hF⟩, hK⟩
  · replace hS := hS 1 (by omega)
    have hKS := ((Keeps.refl [] w).alloc (.cells (zeros 3584) 5)).alloc (.cells (((.slice (some ⟨w.heap.size, 0, none⟩) 3584 3584) :: .int .i64 1 :: rzero).toArray) 59)
    unfold rzero at hKS
    go_loopw [16] (fun i wr => ∃ k : Nat, k ≤ 3584 ∧ i = .int .i64 k ∧ RfZ wr (w.heap.size + 1) w.heap.size (rstart wear k) 0 ∧ Keeps [] w wr) (fun i _ => 3584 - (intOf i).toNat)
    case atStart => exact ⟨0, Nat.zero_le _, rfl, hS, hKS⟩
    case round =>
      obtain ⟨k, hk, rfl, hF, hK⟩ := hrel
      clear hS hKS
      have c0 := hF.c0
      by_cases hlt : k < 3584
      · have cb := hF.byte (i := k) hlt
        have fb := hF.frzq k
        go_wp2_with fail
        go_roundw
        case rel => exact ⟨k + 1, by omega, by go_num, by rw [← rstart_succ wear k hlt]; exact hF.setByte hlt 255, hK.setCell (.inr (Nat.le_refl _)) _⟩
        case measure => simp [intOf]; omega
      · have hkl : k = 3584 := by omega
        subst hkl
        rw [rstart_last] at hF
        go_wp2_with fail
        go_ret
        exact ⟨_, _, rfl, by omega, by omega, ⟨0, by simp [Fla.new], hF⟩, hK⟩

end Go.Proofs.Ytghgmchgbhdldaa
