/-
  CellW: ready, Read, Write of package cell, walked.
-/
import Derived.Test.YthjojkkjdaoocaaCellF
set_option linter.unusedVariables false
namespace Go.Proofs.Ythjojkkjdaoocaa
open Go.RowKit
attribute [local go_sem ↓] Go.wp_at_zero Go.wp_at_succ

set_option maxRecDepth 100000 in
theorem cellready_calls {w : World} {p q : Nat} {F : Fla} (h : FlaAt w p q F) :
    Calls Try.prog 68 #[.pointer (some ⟨p, 0, none⟩)] w fun e w' => e = .returned (.int .i64 (if F.down then 11 else 0)) ∧ Keeps [] w w' := by
  have hR := read_calls h 0 0
  have hr : (F.read 0 0).2 = if F.down then 11 else 0 := by
    unfold Fla.read Fla.ready
    cases F.down <;> simp
  unfold ReadPost at hR
  rw [hr] at hR
  generalize (if F.down = true then (11 : Int) else 0) = z at *
  clear h hr
  go_enter Try.func68, Try.ntmps68
  go_wp2_with fail
  refine hR.mono ?_
  rintro e w1 ⟨v, rfl, hv, hk⟩
  obtain ⟨a, c, rfl, _⟩ := hv.sl
  go_wp2_with fail
  go_ret
  exact ⟨rfl, hk⟩

def SlPost (w : World) (r : List UInt8 × Int) (e : Ending) (w' : World) : Prop := ∃ v, e = .returned (.tuple #[v, .int .i64 r.2]) ∧ Sl w' w.heap.size v r.1 ∧ Keeps [] w w'

set_option maxRecDepth 100000 in
theorem cellread_calls {w : World} {p q : Nat} {F : Fla} (h : FlaAt w p q F) :
    Calls Try.prog 44 #[.pointer (some ⟨p, 0, none⟩)] w (SlPost w F.cellRead) := by
  have hR := cellready_calls h
  cases hd : F.down
  · rw [hd] at hR
    simp only [Bool.false_eq_true, ↓reduceIte] at hR
    have hf := fun (w1 : World) (h1 : FlaAt w1 p q F) => found_calls h1
    by_cases hs : Fla.stAt F.found < 0
    · have e : F.cellRead = ([], 14) := by unfold Fla.cellRead; rw [if_neg (by simp [hd]), if_pos hs]
      rw [e]
      generalize F.found = st at *
      clear e
      go_enter Try.func44, Try.ntmps44
      go_wp2_with fail
      refine hR.mono ?_
      rintro e w1 ⟨rfl, hk⟩
      have h1 := h.keeps hk (by simp) (by simp)
      go_wp2_with fail
      refine (hf _ h1).mono ?_
      rintro e w2 ⟨v, rfl, hv, hk2⟩
      obtain ⟨a, c, rfl, _⟩ := hv
      go_wp2_with fail
      go_ret2
      exact ⟨_, rfl, Sl.nil _ _, (hk.trans hk2).alloc _⟩
    · have e : F.cellRead = (Fla.stB F.found, 0) := by unfold Fla.cellRead; rw [if_neg (by simp [hd]), if_neg hs]
      rw [e]
      generalize F.found = st at *
      clear e
      go_enter Try.func44, Try.ntmps44
      go_wp2_with fail
      refine hR.mono ?_
      rintro e w1 ⟨rfl, hk⟩
      have h1 := h.keeps hk (by simp) (by simp)
      go_wp2_with fail
      refine (hf _ h1).mono ?_
      rintro e w2 ⟨v, rfl, hv, hk2⟩
      obtain ⟨a, c, rfl, hv'⟩ := hv
      have Hv : Hid (Sl w2 w1.heap.size (.slice a (Fla.stB st).length c) (Fla.stB st)) := Lib.hid ⟨a, c, rfl, hv'⟩
      clear hv'
      have hsz := hk.size
      go_wp2_with fail
      go_ret2
      exact ⟨_, rfl, (Hv.out.mono hsz).keeps ((Keeps.refl [] w2).alloc _) (by simp), (hk.trans hk2).alloc _⟩
  · rw [hd] at hR
    simp only [↓reduceIte] at hR
    have e : F.cellRead = ([], 11) := by unfold Fla.cellRead; rw [if_pos hd]
    rw [e]
    clear h hd e
    go_enter Try.func44, Try.ntmps44
    go_wp2_with fail
    refine hR.mono ?_
    rintro e w1 ⟨rfl, hk⟩
    go_wp2_with fail
    go_ret2
    exact ⟨_, rfl, Sl.nil _ _, hk⟩

theorem six_bytes (M : UInt32) (n : Nat) (hn : n ≤ 245) (x0 x1 x2 x3 x4 x5 : Int) (h0 : x0 = (M.toNat : Int) / (16777216 : Int) % (256 : Int)) (h1 : x1 = (M.toNat : Int) / (65536 : Int) % (256 : Int)) (h2 : x2 = (M.toNat : Int) / (256 : Int) % (256 : Int)) (h3 : x3 = (M.toNat : Int) % (256 : Int)) (h4 : x4 = (n : Int) / 256) (h5 : x5 = n) :
    [Value.int .u8 x0, .int .u8 x1, .int .u8 x2, .int .u8 x3, .int .u8 x4, .int .u8 x5] = List.map B8 (be4 M ++ [UInt8.ofNat (n / 256), UInt8.ofNat n]) := by
  have e4 : x4 = ((UInt8.ofNat (n / 256)).toNat : Int) := by rw [UInt8.toNat_ofNat']; omega
  have e5 : x5 = ((UInt8.ofNat n).toNat : Int) := by rw [UInt8.toNat_ofNat']; omega
  have g0 := be4_24 M
  have g1 := be4_16 M
  have g2 := be4_8 M
  have g3 := be4_0 M
  have e0 : x0 = (((M >>> 24).toUInt8).toNat : Int) := by rw [h0, ← g0]; rfl
  have e1 : x1 = (((M >>> 16).toUInt8).toNat : Int) := by rw [h1, ← g1]; rfl
  have e2 : x2 = (((M >>> 8).toUInt8).toNat : Int) := by rw [h2, ← g2]; rfl
  have e3 : x3 = ((M.toUInt8).toNat : Int) := by rw [h3, ← g3]
  rw [e0, e1, e2, e3, e4, e5]
  rfl

theorem out_eq (M : UInt32) (b : List UInt8) : crcPut ((be4 M ++ [UInt8.ofNat (b.length / 256), UInt8.ofNat b.length]) ++ b) = Fla.cellOut M b := rfl

set_option maxRecDepth 100000 in
set_option maxHeartbeats 1000000 in
theorem cellwrite_calls {w : World} {p q : Nat} {F : Fla} (h : FlaAt w p q F) (A : Option Addr) (c : Nat) (b : List UInt8) (hb : Rd w A b) (hbn : b.length ≤ 140737488351232) (hc : b.length ≤ c) (hcm : c ≤ 9223372036854775807) (h0 : A = none → b = [] ∧ c = 0) (ha : ∀ x, A = some x → b ≠ [] → x.block ∉ [p, q]) :
    Calls Try.prog 43 #[.pointer (some ⟨p, 0, none⟩), .slice A b.length c] w (FPost w p q (F.cellWrite b).1 (.int .i64 (F.cellWrite b).2)) := by
  by_cases hl : 245 < b.length
  · have e : F.cellWrite b = (F, 1) := by unfold Fla.cellWrite; rw [if_pos hl]
    rw [e]
    clear e hb ha h0
    go_enter Try.func43, Try.ntmps43
    go_wp2_with fail
    go_ret
    exact ⟨rfl, h, Keeps.refl _ _⟩
  have hR := cellready_calls h
  by_cases hd : F.down = true
  · have e : F.cellWrite b = (F, 11) := by unfold Fla.cellWrite; rw [if_neg hl, if_pos hd]
    rw [e]
    rw [hd] at hR
    simp only [↓reduceIte] at hR
    clear e hb ha h0 hd
    go_enter Try.func43, Try.ntmps43
    go_wp2_with fail
    refine hR.mono ?_
    rintro e w1 ⟨rfl, hk⟩
    go_wp2_with fail
    go_ret
    exact ⟨rfl, h.keeps hk (by simp) (by simp), hk.nil⟩
  rw [if_neg hd] at hR
  have hf := fun (w1 : World) (h1 : FlaAt w1 p q F) => found_calls h1
  have hE1 := fun (w1 : World) (h1 : FlaAt w1 p q F) => erase_calls h1 1
  have hE0 := fun (w1 : World) (h1 : FlaAt w1 p q F) => erase_calls h1 0
  have hW : F.cellWrite b = if Fla.stNum F.found = 4294967295 then (F, 9)
      else if Fla.stAt F.found = 0 then F.cellPut 1 256 (Fla.cellOut (Fla.stNum F.found + 1) b)
      else F.cellPut 0 0 (Fla.cellOut (Fla.stNum F.found + 1) b) := by unfold Fla.cellWrite; rw [if_neg hl, if_neg hd]
  clear hd
  generalize F.found = st at *
  by_cases hmax : Fla.stNum st = 4294967295
  · rw [if_pos hmax] at hW
    have HW := Lib.hid hW
    clear hW hE1 hE0 hb h0 ha
    unfold FoundPost at hf
    rw [hmax] at hf
    clear hmax
    go_enter Try.func43, Try.ntmps43
    go_wp2_with fail
    refine hR.mono ?_
    rintro e w1 ⟨rfl, hk⟩
    have h1 := h.keeps hk (by simp) (by simp)
    go_wp2_with fail
    refine (hf _ h1).mono ?_
    rintro e w2 ⟨v, rfl, hv, hk2⟩
    obtain ⟨a, c2, rfl, hv'⟩ := hv
    clear hv'
    go_wp2_with fail
    go_ret
    rw [HW.out]
    exact ⟨rfl, (h1.keeps hk2 (by simp) (by simp)).alloc _, ((hk.trans hk2).alloc _).nil⟩
  rw [if_neg hmax] at hW
  have hmax1 : (((Fla.stNum st).toNat : Int) == 4294967295) = false := by
    rw [beq_eq_false_iff_ne]; intro h'; exact hmax (UInt32.toNat_inj.1 (by show _ = 4294967295; omega))
  have hnx : ((Fla.stNum st).toNat : Int) + 1 = ((Fla.stNum st + 1).toNat : Int) := by
    have := (Fla.stNum st).toNat_lt
    have h2 : (Fla.stNum st).toNat ≠ 4294967295 := fun h' => hmax (UInt32.toNat_inj.1 (by show _ = 4294967295; exact h'))
    rw [UInt32.toNat_add]
    show _ = ((((Fla.stNum st).toNat + 1) % 4294967296 : Nat) : Int)
    omega
  have hlt : (Fla.stNum st).toNat < 4294967295 := by
    have := (Fla.stNum st).toNat_lt
    have h2 : (Fla.stNum st).toNat ≠ 4294967295 := fun h' => hmax (UInt32.toNat_inj.1 (by show _ = 4294967295; exact h'))
    omega
  clear hmax
  unfold FoundPost at hf
  generalize Fla.stNum st = N at *
  generalize N + 1 = M at *
  by_cases ht : Fla.stAt st = 0
  · rw [if_pos ht] at hW
    rw [ht] at hf
    clear ht
    have hP : F.cellPut 1 256 (Fla.cellOut M b) = if (F.erase 1).2 ≠ 0 then F.erase 1
      else if ((F.erase 1).1.program 256 (Fla.cellOut M b)).2 ≠ 0 then (F.erase 1).1.program 256 (Fla.cellOut M b)
      else ((F.erase 1).1.program 256 (Fla.cellOut M b)).1.program (256 + (Fla.cellOut M b).length) [0] := rfl
    rw [← hW] at hP
    clear hW hE0
    generalize F.erase 1 = r at *
    obtain ⟨G, z⟩ := r
    dsimp only at hP hE1
    by_cases hz : z = 0
    · subst hz
      rw [if_neg (by simp)] at hP
      have HP := Lib.hid hP
      clear hP
      go_enter Try.func43, Try.ntmps43
      go_wp2_with fail
      refine hR.mono ?_
      rintro e w1 ⟨rfl, hk⟩
      have h1 := h.keeps hk (by simp) (by simp)
      go_wp2_with fail
      refine (hf _ h1).mono ?_
      rintro e w2 ⟨v, rfl, hv, hk2⟩
      obtain ⟨a, c2, rfl, hv'⟩ := hv
      clear hv'
      have h2 := h1.keeps hk2 (by simp) (by simp)
      clear hf hR
      go_wp2_with fail
      refine (hE1 _ (h2.alloc _)).mono ?_
      rintro e w3 ⟨rfl, hF3, hk3⟩
      have hM := M.toNat_lt
      have hb3 : Rd w3 A b := ((hb.keepsNil (hk.trans hk2)).keepsNil ((Keeps.refl [] w2).alloc _)).keeps hk3 ha
      have ha3 : ∀ x, A = some x → b ≠ [] → x.block < w3.heap.size := fun x hx hne => hb3.lt x hx hne
      go_wp2_with (at_builtin; (refine wpList_append_bytes rfl _ _ rfl (Own.lit w3 _ (be4 M ++ [UInt8.ofNat (b.length / 256), UInt8.ofNat b.length]) 6 (six_bytes M b.length (by omega) _ _ _ _ _ _ (by omega) (by omega) (by omega) (by omega) (by omega) (by omega)) rfl (by omega)) rfl A b.length c rfl (hb3.keepsNil ((Keeps.refl [] w3).alloc _)) rfl (fun hA => ⟨by rw [(h0 hA).1]; rfl, (h0 hA).2⟩) (by simp [be4]; omega) (by simp) ?_); intro v4 w4 hO4 hG4 hB4)
      have hk4 : Keeps [] w3 w4 := ((Keeps.refl [] w3).alloc _).grown hG4 (by intro y hy; simp [Value.ownBlock] at hy; right; omega)
      obtain ⟨a4, c4, rfl, _, _, hrd4, hn4, _⟩ := hO4.sl
      have hF4 := hF3.keeps hk4 (by simp) (by simp)
      refine (crcput_calls a4 _ c4 _ hrd4 rfl (by simp [be4]; omega) (fun hA => ⟨by rw [(hn4 hA).1]; rfl, (hn4 hA).2⟩)).mono ?_
      rw [out_eq]
      rintro e w5 ⟨v5, rfl, hO5, hk5⟩
      have hF5 := hF4.keeps hk5 (by simp) (by simp)
      have hpl := hF4.ltp
      have hql := hF4.ltq
      have hk35 := hk4.trans hk5
      have hkw : Keeps [p, q] w w5 := (((hk.trans hk2).alloc _).nil.trans hk3).trans hk35.nil
      obtain ⟨a5, c5, rfl, _, hcm5, hrd5, hn5, hb5⟩ := hO5.sl
      clear hO4 hG4 hB4 hrd4 hn4 hO5 hb3 hb ha hk hk2 hk3 hk35 h1 h2 hF3 hF4 h0 ha3
      have hout : (Fla.cellOut M b).length ≤ 300 := by unfold Fla.cellOut; rw [crcPut_len]; simp [be4]; omega
      generalize Fla.cellOut M b = out at *
      have hP1 := program_calls hF5 256 a5 c5 out hrd5 (fun x hx hne => by have := (hb5 x hx hne).1; simp; omega)
      generalize hpr : G.program 256 out = r2 at *
      obtain ⟨G2, z2⟩ := r2
      dsimp only at HP hP1
      clear hpr
      go_wp2_with fail
      refine (cellat_calls 1 (by omega) (by omega)).mono ?_
      rintro e w' ⟨rfl, rfl⟩
      go_wp2_with fail
      refine hP1.mono ?_
      rintro e w6 ⟨rfl, hF6, hk6⟩
      by_cases hz2 : z2 = 0
      · subst hz2
        have HP2 := Lib.hid HP.out
        rw [if_neg (by simp)] at HP2
        clear HP hP1
        generalize hpr : G2.program (256 + (out.length : Int)) [0] = r3 at *
        obtain ⟨G3, z3⟩ := r3
        have Hpr := Lib.hid hpr
        clear hpr
        go_wp2_with fail
        refine (cellat_calls 1 (by omega) (by omega)).mono ?_
        rintro e w' ⟨rfl, rfl⟩
        go_wp2_with fail
        refine (program_calls_n (hF6.alloc _) _ _ 1 1 [0] (Rd.lit w6 _ _ [0] rfl) rfl (by have := hF6.ltp; have := hF6.ltq; simp; omega)).mono ?_
        rw [Hpr.out]
        rintro e w7 ⟨rfl, hF7, hk7⟩
        go_wp2_with fail
        go_ret
        rw [HP2.out]
        exact ⟨rfl, hF7, ((hkw.trans hk6).alloc _).trans hk7⟩
      · have hzb : (z2 == 0) = false := by simpa using hz2
        have HP2 := Lib.hid HP.out
        rw [if_pos hz2] at HP2
        clear HP hP1
        go_wp2_with fail
        go_ret
        rw [HP2.out]
        exact ⟨rfl, hF6, hkw.trans hk6⟩
    · rw [if_pos hz] at hP
      have hzb : (z == 0) = false := by simpa using hz
      have HP := Lib.hid hP
      clear hP hz hnx
      go_enter Try.func43, Try.ntmps43
      go_wp2_with fail
      refine hR.mono ?_
      rintro e w1 ⟨rfl, hk⟩
      have h1 := h.keeps hk (by simp) (by simp)
      go_wp2_with fail
      refine (hf _ h1).mono ?_
      rintro e w2 ⟨v, rfl, hv, hk2⟩
      obtain ⟨a, c2, rfl, hv'⟩ := hv
      clear hv'
      have h2 := h1.keeps hk2 (by simp) (by simp)
      clear hf hR
      go_wp2_with fail
      refine (hE1 _ (h2.alloc _)).mono ?_
      rintro e w3 ⟨rfl, hF3, hk3⟩
      go_wp2_with fail
      go_ret
      rw [HP.out]
      exact ⟨rfl, hF3, ((hk.trans hk2).alloc _).nil.trans hk3⟩
  · rw [if_neg ht] at hW
    have htb : (Fla.stAt st == 0) = false := by simpa using ht
    clear ht
    have hP : F.cellPut 0 0 (Fla.cellOut M b) = if (F.erase 0).2 ≠ 0 then F.erase 0
      else if ((F.erase 0).1.program 0 (Fla.cellOut M b)).2 ≠ 0 then (F.erase 0).1.program 0 (Fla.cellOut M b)
      else ((F.erase 0).1.program 0 (Fla.cellOut M b)).1.program (0 + (Fla.cellOut M b).length) [0] := rfl
    rw [← hW] at hP
    clear hW hE1
    generalize F.erase 0 = r at *
    obtain ⟨G, z⟩ := r
    dsimp only at hP hE0
    by_cases hz : z = 0
    · subst hz
      rw [if_neg (by simp)] at hP
      have HP := Lib.hid hP
      clear hP
      go_enter Try.func43, Try.ntmps43
      go_wp2_with fail
      refine hR.mono ?_
      rintro e w1 ⟨rfl, hk⟩
      have h1 := h.keeps hk (by simp) (by simp)
      go_wp2_with fail
      refine (hf _ h1).mono ?_
      rintro e w2 ⟨v, rfl, hv, hk2⟩
      obtain ⟨a, c2, rfl, hv'⟩ := hv
      clear hv'
      have h2 := h1.keeps hk2 (by simp) (by simp)
      clear hf hR
      go_wp2_with fail
      refine (hE0 _ (h2.alloc _)).mono ?_
      rintro e w3 ⟨rfl, hF3, hk3⟩
      have hM := M.toNat_lt
      have hb3 : Rd w3 A b := ((hb.keepsNil (hk.trans hk2)).keepsNil ((Keeps.refl [] w2).alloc _)).keeps hk3 ha
      have ha3 : ∀ x, A = some x → b ≠ [] → x.block < w3.heap.size := fun x hx hne => hb3.lt x hx hne
      go_wp2_with (at_builtin; (refine wpList_append_bytes rfl _ _ rfl (Own.lit w3 _ (be4 M ++ [UInt8.ofNat (b.length / 256), UInt8.ofNat b.length]) 6 (six_bytes M b.length (by omega) _ _ _ _ _ _ (by omega) (by omega) (by omega) (by omega) (by omega) (by omega)) rfl (by omega)) rfl A b.length c rfl (hb3.keepsNil ((Keeps.refl [] w3).alloc _)) rfl (fun hA => ⟨by rw [(h0 hA).1]; rfl, (h0 hA).2⟩) (by simp [be4]; omega) (by simp) ?_); intro v4 w4 hO4 hG4 hB4)
      have hk4 : Keeps [] w3 w4 := ((Keeps.refl [] w3).alloc _).grown hG4 (by intro y hy; simp [Value.ownBlock] at hy; right; omega)
      obtain ⟨a4, c4, rfl, _, _, hrd4, hn4, _⟩ := hO4.sl
      have hF4 := hF3.keeps hk4 (by simp) (by simp)
      refine (crcput_calls a4 _ c4 _ hrd4 rfl (by simp [be4]; omega) (fun hA => ⟨by rw [(hn4 hA).1]; rfl, (hn4 hA).2⟩)).mono ?_
      rw [out_eq]
      rintro e w5 ⟨v5, rfl, hO5, hk5⟩
      have hF5 := hF4.keeps hk5 (by simp) (by simp)
      have hpl := hF4.ltp
      have hql := hF4.ltq
      have hk35 := hk4.trans hk5
      have hkw : Keeps [p, q] w w5 := (((hk.trans hk2).alloc _).nil.trans hk3).trans hk35.nil
      obtain ⟨a5, c5, rfl, _, hcm5, hrd5, hn5, hb5⟩ := hO5.sl
      clear hO4 hG4 hB4 hrd4 hn4 hO5 hb3 hb ha hk hk2 hk3 hk35 h1 h2 hF3 hF4 h0 ha3
      have hout : (Fla.cellOut M b).length ≤ 300 := by unfold Fla.cellOut; rw [crcPut_len]; simp [be4]; omega
      generalize Fla.cellOut M b = out at *
      have hP1 := program_calls hF5 0 a5 c5 out hrd5 (fun x hx hne => by have := (hb5 x hx hne).1; simp; omega)
      generalize hpr : G.program 0 out = r2 at *
      obtain ⟨G2, z2⟩ := r2
      dsimp only at HP hP1
      clear hpr
      go_wp2_with fail
      refine (cellat_calls 0 (by omega) (by omega)).mono ?_
      rintro e w' ⟨rfl, rfl⟩
      go_wp2_with fail
      refine hP1.mono ?_
      rintro e w6 ⟨rfl, hF6, hk6⟩
      by_cases hz2 : z2 = 0
      · subst hz2
        have HP2 := Lib.hid HP.out
        rw [if_neg (by simp)] at HP2
        clear HP hP1
        rw [Int.zero_add] at HP2
        generalize hpr : G2.program (out.length : Int) [0] = r3 at *
        obtain ⟨G3, z3⟩ := r3
        have Hpr := Lib.hid hpr
        clear hpr
        go_wp2_with fail
        refine (cellat_calls 0 (by omega) (by omega)).mono ?_
        rintro e w' ⟨rfl, rfl⟩
        go_wp2_with fail
        refine (program_calls_n (hF6.alloc _) _ _ 1 1 [0] (Rd.lit w6 _ _ [0] rfl) rfl (by have := hF6.ltp; have := hF6.ltq; simp; omega)).mono ?_
        rw [Hpr.out]
        rintro e w7 ⟨rfl, hF7, hk7⟩
        go_wp2_with fail
        go_ret
        rw [HP2.out]
        exact ⟨rfl, hF7, ((hkw.trans hk6).alloc _).trans hk7⟩
      · have hzb : (z2 == 0) = false := by simpa using hz2
        have HP2 := Lib.hid HP.out
        rw [if_pos hz2] at HP2
        clear HP hP1
        go_wp2_with fail
        go_ret
        rw [HP2.out]
        exact ⟨rfl, hF6, hkw.trans hk6⟩
    · rw [if_pos hz] at hP
      have hzb : (z == 0) = false := by simpa using hz
      have HP := Lib.hid hP
      clear hP hz hnx
      go_enter Try.func43, Try.ntmps43
      go_wp2_with fail
      refine hR.mono ?_
      rintro e w1 ⟨rfl, hk⟩
      have h1 := h.keeps hk (by simp) (by simp)
      go_wp2_with fail
      refine (hf _ h1).mono ?_
      rintro e w2 ⟨v, rfl, hv, hk2⟩
      obtain ⟨a, c2, rfl, hv'⟩ := hv
      clear hv'
      have h2 := h1.keeps hk2 (by simp) (by simp)
      clear hf hR
      go_wp2_with fail
      refine (hE0 _ (h2.alloc _)).mono ?_
      rintro e w3 ⟨rfl, hF3, hk3⟩
      go_wp2_with fail
      go_ret
      rw [HP.out]
      exact ⟨rfl, hF3, ((hk.trans hk2).alloc _).nil.trans hk3⟩

end Go.Proofs.Ythjojkkjdaoocaa
