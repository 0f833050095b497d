/-
  LawSame: the walk of CellSame.
-/
import Derived.Test.YthjojkkjdaoocaaLawTurns
import Derived.Test.YthjojkkjdaoocaaRows17
import Derived.Deep.QuietTactic
import Derived.BigQuiet
set_option linter.unusedVariables false
set_option linter.unusedSimpArgs false
namespace Go.Proofs.Ythjojkkjdaoocaa
open Go.RowKit
attribute [local go_sem ↓] Go.wp_at_zero Go.wp_at_succ

theorem drop_eq_secs {a b : List UInt8} (ha : a.length = 3584) (hb : b.length = 3584) (h : ∀ j, j < 14 → 2 ≤ j → secOf a j = secOf b j) : a.drop 512 = b.drop 512 := by
  apply ext_getD
  · rw [List.length_drop, List.length_drop, ha, hb]
  · intro i hi
    rw [List.length_drop, ha] at hi
    have h1 := congrArg (fun s => s.getD (i % 256) 0) (h ((512 + i) / 256) (by omega) (by omega))
    simp only [secOf_getD (Nat.mod_lt i (show 256 > 0 by omega))] at h1
    rw [show (512 + i) / 256 * 256 + i % 256 = 512 + i from by omega] at h1
    simpa [List.getD, List.getElem?_drop] using h1

/-- A cell that was written cur times. -/
def CellN (F : Fla) (cur : Nat) : Prop := (cur = 0 ∧ Dead (secOf F.b 0) ∧ Dead (secOf F.b 1)) ∨ (∃ C was, CellIs F C (UInt32.ofNat cur) was)

structure SameSt (F0 : Fla) (k : Nat) (F : Fla) : Prop where
  good : Good F
  fused : F.fused = false
  wear : F.wear = 100
  er0 : F.er.getD 0 0 ≤ k ∧ 0 ≤ F.er.getD 0 0
  er1 : F.er.getD 1 0 ≤ k ∧ 0 ≤ F.er.getD 1 0
  secs : ∀ j, j < 14 → 2 ≤ j → secOf F.b j = secOf F0.b j
  st : CellN F k

theorem getD_setI (l : List Int) (i j : Nat) (x : Int) (hi : i < l.length) : (l.set i x).getD j 0 = if i = j then x else l.getD j 0 := by
  by_cases h : i = j
  · subst h; rw [if_pos rfl, List.getD, List.getElem?_set_self hi]; rfl
  · rw [if_neg h, List.getD, List.getD, List.getElem?_set_ne h]

theorem same_step {F0 F : Fla} {k : Nat} (h : SameSt F0 k F) (hk : k < 60) {b : List UInt8} (hb : b.length ≤ 245) :
    ∃ G, F.cellWrite b = (G, 0) ∧ SameSt F0 (k + 1) G ∧ G.cellRead = (b, 0) := by
  have key : ∃ G T, T < 2 ∧ F.cellWrite b = (G, 0) ∧ Rest F G T ∧ Good G ∧ CellIs G T (UInt32.ofNat (k + 1)) b := by
    rcases h.st with ⟨rfl, h0, h1⟩ | ⟨C, was, hc⟩
    · obtain ⟨G, k1, k2, k3, k4, _⟩ := cell_first h.good h0 h1 (by rw [h.wear]; have := h.er0; omega) h.fused b hb
      exact ⟨G, 0, by omega, k1, k2, k3, k4⟩
    · have hC := hc.C2
      have hw : F.er.getD (1 - C) 0 < F.wear := by
        rw [h.wear]
        have := h.er0
        have := h.er1
        have : 1 - C = 0 ∨ 1 - C = 1 := by omega
        rcases this with e | e <;> rw [e] <;> omega
      obtain ⟨G, k1, k2, k3, k4, _⟩ := hc.writeCalm h.good h.fused hw b hb (by rw [ofNat32 (by omega)]; omega)
      rw [ofNat32_succ (by omega)] at k4
      exact ⟨G, 1 - C, by omega, k1, k2, k3, k4⟩
  obtain ⟨G, T, hT, k1, k2, k3, k4⟩ := key
  have hl := h.good.er
  have e0 := h.er0
  have e1 := h.er1
  have hT01 : T = 0 ∨ T = 1 := by omega
  refine ⟨G, k1, ⟨k3, k2.fused.trans h.fused, k2.wear.trans h.wear, ?_, ?_, fun j hj h2 => (k2.secs j hj (by omega)).trans (h.secs j hj h2), .inr ⟨T, b, k4⟩⟩, k4.read k3.down⟩
  · rw [k2.er, getD_setI _ _ _ _ (by omega)]
    rcases hT01 with rfl | rfl
    · rw [if_pos rfl, IntWalk.wrap64_in _ (by omega)]; omega
    · rw [if_neg (by omega)]; omega
  · rw [k2.er, getD_setI _ _ _ _ (by omega)]
    rcases hT01 with rfl | rfl
    · rw [if_neg (by omega)]; omega
    · rw [if_pos rfl, IntWalk.wrap64_in _ (by omega)]; omega

theorem same_first : ∃ G, (Fla.new 100).program 512 [1, 2, 3] = (G, 0) ∧ SameSt G 0 G := by
  have hG := new_good 100
  have hp : (Fla.new 100).program (512 : Nat) [1, 2, 3] = _ := hG.prog (a := 512) (l := [1, 2, 3]) (by simp) (by intro h; exact Bool.noConfusion h)
  have hl : (andAt (Fla.new 100).b 512 [1, 2, 3]).length = 3584 := by rw [andAt_len]; exact blankAll_len
  have hs := fun j hj hne => secOf_andAt_other (b := (Fla.new 100).b) blankAll_len (k := 2) (j := j) (by omega) hj hne 0 [1, 2, 3] (by simp)
  refine ⟨_, hp, hG.step1 3 (by intro h; exact Bool.noConfusion h) (by omega) _ _ hl rfl, rfl, by decide, ⟨by decide, by decide⟩, ⟨by decide, by decide⟩, fun _ _ _ => rfl, .inl ⟨rfl, ?_, ?_⟩⟩
  · show Dead (secOf (andAt (Fla.new 100).b (2 * 256 + 0) [1, 2, 3]) 0)
    rw [hs 0 (by omega) (by omega)]; exact new_dead 100 (by omega)
  · show Dead (secOf (andAt (Fla.new 100).b (2 * 256 + 0) [1, 2, 3]) 1)
    rw [hs 1 (by omega) (by omega)]; exact new_dead 100 (by omega)

set_option maxRecDepth 100000 in
set_option maxHeartbeats 2000000 in
theorem cellSame_walk {w : World} (A : Option Addr) (c : Nat) (l : List BS) (hm : l.length ≤ maxLen) (hl : RowsB w A l) :
    Calls Try.prog 11 #[.slice A l.length c] w (TrueKeep w) := by
  unfold maxLen at hm
  obtain ⟨F0, hP0, hS0⟩ := same_first
  have HP := Lib.hid hP0
  clear hP0
  go_enter Try.func11, Try.ntmps11
  go_wp2_with fail
  refine (new_calls 100).mono ?_
  rintro e w1 ⟨p, q, rfl, hp, hq, hF, hK⟩
  have hp1 := hF.ltp
  have hq1 := hF.ltq
  go_wp2_with fail
  refine (program_calls_n (hF.alloc _) 512 _ 3 3 [1, 2, 3] (Rd.lit w1 _ _ [1, 2, 3] rfl) rfl (by simp; omega)).mono ?_
  rw [HP.out]
  rintro e w2 ⟨rfl, hF2, hk2⟩
  go_wp2_with fail
  refine (bytes_calls hF2).mono ?_
  rintro e w3 ⟨v3, rfl, hv3, hk3⟩
  have hlen0 := hF2.len
  have hp2 := hF2.ltp
  have hq2 := hF2.ltq
  obtain ⟨g0, c0, r0, rfl, hc0, hcm0, hg1, hg2, hB0⟩ := hv3.rowc (by rintro h; rw [h] at hlen0; simp at hlen0)
  have hF3 := hF2.keeps hk3 (by simp) (by simp)
  have hK3 : Keeps [p, q] w w3 := ((hK.nil.alloc _).trans hk2).trans hk3.nil
  rw [hlen0] at hc0 ⊢
  clear hF hF2 hv3 hK hk2 hk3
  go_wp2_with fail
  go_loopw [19] (fun i wr => ∃ (k : Nat) (F : Fla), k ≤ l.length ∧ k ≤ 30 ∧ i = .int .i64 k ∧ FlaAt wr p q F ∧ SameSt F0 k F ∧ Blk wr g0 5 (F0.b.map B8 ++ r0) ∧ Keeps [p, q] w wr) (fun i _ => l.length - (intOf i).toNat)
  case atStart => exact ⟨0, F0, Nat.zero_le _, by omega, rfl, hF3, hS0, hB0, hK3⟩
  case round =>
    clear hF3 hS0 hB0 hK3
    obtain ⟨k, F, hk, hk30, rfl, hF, hT, hB0, hK⟩ := hrel
    by_cases hlt : k < l.length
    · obtain ⟨hok, b, o, rfl, hcc⟩ := hl k l[k] (by simp [hlt])
      generalize l[k] = x at *
      have hok1 := hok.le
      have hok2 := hok.max
      have hok3 := hok.rd
      have hok4 : x.A = none → x.b = [] ∧ x.cap = 0 := fun h => ⟨hok.nil h, hok.nil0 h⟩
      have hpg : ∀ y : Addr, y.block < w.heap.size → y.block ∉ [p, q] := fun y hy => by simp; omega
      have hxa : ∀ y, x.A = some y → x.b ≠ [] → y.block ∉ [p, q] := fun y hy hne => hpg y (hok3.lt y hy hne)
      have hxr := hok3.keeps hK hxa
      have hcell0 : w.cell? ⟨b, o + k, none⟩ = some (.slice x.A x.b.length x.cap) := by have := hcc 0 _ rfl; simpa [BS.val] using this
      have hcell : wr.cell? ⟨b, o + k, none⟩ = some (.slice x.A x.b.length x.cap) := (World.cell?_of_block (a := ⟨b, o + k, none⟩) (hK.block b (World.block_lt_of_cell? w _ hcell0) (hpg ⟨b, o + k, none⟩ (World.block_lt_of_cell? w _ hcell0)))).trans hcell0
      clear hcc hcell0 hok
      unfold maxLen at hok2
      obtain ⟨xA, xc, xb⟩ := x
      dsimp only at *
      by_cases h30 : 30 ≤ k
      · have h30' : (30 : Int) ≤ (k : Int) := by omega
        go_wp2_with fail
        refine awake17.mono ?_
        rintro e w4 ⟨rfl, hk4⟩
        go_wp2_with fail
        go_ret
        exact ⟨rfl, (hK.mono (by simp [hp, hq])).trans hk4⟩
      by_cases h245 : 245 < xb.length
      · have h30' : (k : Int) < 30 := by omega
        go_wp2_with fail
        refine awake17.mono ?_
        rintro e w4 ⟨rfl, hk4⟩
        go_wp2_with fail
        go_ret
        exact ⟨rfl, (hK.mono (by simp [hp, hq])).trans hk4⟩
      have h30' : (k : Int) < 30 := by omega
      obtain ⟨G, hW, hT2, hR⟩ := same_step hT (by omega) (show xb.length ≤ 245 by omega)
      have HW := Lib.hid hW
      have HR := Lib.hid hR
      have HT := Lib.hid hT2
      clear hW hR hT2 hT
      go_wp2_with fail
      refine (cellwrite_calls hF xA xc xb hxr (by omega) hok1 (by omega) hok4 hxa).mono ?_
      rw [HW.out]
      rintro e w4 ⟨rfl, hF4, hk4⟩
      have hxr4 := hxr.keeps hk4 hxa
      have hB4 := hB0.keeps hk4 (by simp; omega)
      have hp4 := hF4.ltp
      have hq4 := hF4.ltq
      clear hF hxr hB0
      go_wp2_with fail
      refine (cellread_calls hF4).mono ?_
      rw [HR.out]
      rintro e w5 ⟨v5, rfl, hv5, hk5⟩
      obtain ⟨a5, c5, rfl, hv5'⟩ := hv5
      have HV : Hid (Sl w5 w4.heap.size (.slice a5 xb.length c5) xb) := Lib.hid ⟨a5, c5, rfl, hv5'⟩
      have hF5 := hF4.keeps hk5 (by simp) (by simp)
      clear hv5' hF4
      go_wp2_with fail
      refine (bytes_calls hF5).mono ?_
      rintro e w6 ⟨v6, rfl, hv6, hk6⟩
      have hlen := hF5.len
      obtain ⟨g6, c6, r6, rfl, hc6, hcm6, hg61, hg62, hB6⟩ := hv6.rowc (by rintro h; rw [h] at hlen; simp at hlen)
      have hF6 := hF5.keeps hk6 (by simp) (by simp)
      have hB06 := (hB4.keeps hk5 (by simp)).keeps hk6 (by simp)
      have hxr6 := (hxr4.keepsNil hk5).keepsNil hk6
      have hK6 := ((hK.trans hk4).trans hk5.nil).trans hk6.nil
      rw [hlen] at hc6 ⊢
      have hdrop : G.b.drop 512 = F0.b.drop 512 := drop_eq_secs hlen hlen0 HT.out.secs
      have s1 : ∀ n, (convert 22 9 (.slice a5 xb.length c5)).run Try.prog (w6.drewN n) = .ok (.string ⟨xb.toArray⟩) (w6.drewN n) := fun n => ((HV.out.keeps hk6 (by simp)).keeps ((Keeps.refl [] w6).drewN n) (by simp)).str
      have s2 := fun n => str_run (w := w6.drewN n) (a := xA) xb.length xc (hxr6.keepsNil ((Keeps.refl [] w6).drewN n)) rfl (fun h => (hok4 h).1)
      have s3 := fun n => str_run (w := w6.drewN n) (a := some ⟨g6, 512, none⟩) 3072 (c6 - 512) (l := G.b.drop 512) (by have := (hB6.drewN n).rdSub 512 3584; rwa [List.take_of_length_le (by rw [List.length_drop, hlen]; omega)] at this) (by rw [List.length_drop, hlen]) (by simp)
      have s4 := fun n => str_run (w := w6.drewN n) (a := some ⟨g0, 512, none⟩) 3072 (c0 - 512) (l := F0.b.drop 512) (by have := (hB06.drewN n).rdSub 512 3584; rwa [List.take_of_length_le (by rw [List.length_drop, hlen0]; omega)] at this) (by rw [List.length_drop, hlen0]) (by simp)
      rw [hdrop] at s3
      generalize F0.b.drop 512 = D at s3 s4
      have i6 : (3584 : Int) ≤ (c6 : Int) := by omega
      have i0 : (3584 : Int) ≤ (c0 : Int) := by omega
      have HB06 := Lib.hid hB06
      have HF6 := Lib.hid hF6
      have HK6 := Lib.hid hK6
      clear hv6 hB6 hB06 hF5 hF6 hK6 hxr6 hxr4 hK hB4 hk4 hk5 hk6 hdrop hcell hxa hpg hok3 hl hok4 hlen
      go_wp2_with fail
      go_quiet (fail)
      go_wp2_with fail
      go_roundw
      case rel => exact ⟨k + 1, G, by omega, by omega, by go_num, HF6.out.drewN _, HT.out, HB06.out.drewN _, HK6.out.drewN _⟩
      case measure => simp [intOf]; omega
    · have hkl : k = l.length := by omega
      subst hkl
      clear hT hF hB0
      go_wp2_with fail
      refine awake17.mono ?_
      rintro e w4 ⟨rfl, hk4⟩
      go_wp2_with fail
      go_ret
      exact ⟨rfl, (hK.mono (by simp [hp, hq])).trans hk4⟩

end Go.Proofs.Ythjojkkjdaoocaa
