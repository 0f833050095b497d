/-
  RefWh2: the reference's OpenWheel, walked.
-/
import Derived.Test.YtghgmchgbhdldaaRefWhP
import Derived.Deep.DeepCutAuto
import Derived.Deep.CutBlock
import Derived.Deep.RegionLaw
set_option linter.unusedVariables false
set_option linter.unusedSimpArgs false
namespace Go.Proofs.Ytghgmchgbhdldaa
open Go.RowKit
attribute [local go_sem ↓] Go.wp_at_zero Go.wp_at_succ

def RNilPost (w : World) (z : Int) (e : Ending) (w' : World) : Prop := e = .returned (.tuple #[.pointer none, .int .i64 z]) ∧ Keeps [] w w'

set_option maxRecDepth 100000 in
theorem ropen_bad {w : World} (p : Nat) (gen : UInt32) (s : Int) (hs : s < 1 ∨ 16 < s) : Calls Try.prog 32 #[.pointer (some ⟨p, 0, none⟩), B32 gen, .int .i64 s] w (RNilPost w 1) := by
  by_cases h1 : s < 1
  · clear hs
    go_enter Try.func32, Try.ntmps32
    go_wp2_with fail
    go_ret2
    exact ⟨rfl, Keeps.refl _ _⟩
  · have h2 : 16 < s := by omega
    clear hs
    go_enter Try.func32, Try.ntmps32
    go_wp2_with fail
    go_ret2
    exact ⟨rfl, Keeps.refl _ _⟩

set_option maxRecDepth 100000 in
theorem ropen_down {w : World} {p q : Nat} {F : Fla} (h : RfAt w p q F) (hd : F.down = true) (gen : UInt32) (s : Nat) (h1 : 1 ≤ s) (hs : s ≤ 16) :
    Calls Try.prog 32 #[.pointer (some ⟨p, 0, none⟩), B32 gen, .int .i64 s] w (RNilPost w 11) := by
  obtain ⟨z, _, h⟩ := h
  have c16 := h.down
  rw [hd] at c16
  clear h hd
  go_enter Try.func32, Try.ntmps32
  go_wp2_with fail
  go_ret2
  exact ⟨rfl, Keeps.refl _ _⟩

def ROpenPost (w : World) (p q : Nat) (F : Fla) (gen : UInt32) (s : Nat) (e : Ending) (w' : World) : Prop :=
  ∃ u g, e = .returned (.tuple #[.pointer (some ⟨u, 0, none⟩), .int .i64 0]) ∧ w.heap.size ≤ u ∧ RWhAt w' p q u g F (F.openWh gen s) ∧ Keeps [] w w'

theorem Slb.cut {w : World} {B : Nat} {a : Option Addr} {n c : Nat} {l : List UInt8} (h : Slb w B (.slice a n c) l) (k : Nat) (hk : k < l.length) : Slb w B (.slice (a.map fun x => x.add k) (n - k) (c - k)) (l.drop k) := by
  obtain ⟨a', c', he, h1, h2, h3, h4, h5⟩ := h
  simp only [Value.slice.injEq] at he
  obtain ⟨rfl, rfl, rfl⟩ := he
  refine ⟨_, _, by rw [List.length_drop], by rw [List.length_drop]; omega, by omega, h3.dropAdd k, ?_, ?_⟩
  · intro h
    have ha : a = none := by simpa using h
    have := (h4 ha).1
    subst this
    simp at hk
  · intro x hx hne
    obtain ⟨y, hy, rfl⟩ := Option.map_eq_some_iff.1 hx
    have := h5 y hy (by rintro rfl; simp at hk)
    have e : (y.add k).block = y.block := by unfold Addr.add; split <;> rfl
    show B ≤ (y.add k).block ∧ (y.add k).block < w.heap.size ∧ ∃ cs, Blk w (y.add k).block 5 cs
    rw [e]; exact this

theorem rTo_succ (F : Fla) (gen : UInt32) (s p : Nat) : rTo F gen s (p + 1) = rStep F gen s (rTo F gen s p) p := rfl

set_option maxRecDepth 100000 in
set_option maxHeartbeats 8000000 in
theorem ropen_ok {w : World} {p q : Nat} {F : Fla} (h : RfAt w p q F) (hd : F.down = false) (gen : UInt32) (s : Nat) (h1 : 1 ≤ s) (hs : s ≤ 16) :
    Calls Try.prog 32 #[.pointer (some ⟨p, 0, none⟩), B32 gen, .int .i64 s] w (ROpenPost w p q F gen s) := by
  have hp := places_bounds h1 hs
  have hrf := h
  obtain ⟨z, hz, hZ⟩ := h
  have c16 := hZ.down
  rw [hd] at c16
  have hlp := hZ.ltp
  have hlq := hZ.ltq
  have hblen := hZ.len
  have hlen := open_len F gen s h1 hs
  have hnx := open_next F gen s
  have hop : F.openWh gen s = ⟨gen, s, (F.readTo gen s 8).1, (F.readTo gen s 8).2, F.nextOf s (F.readTo gen s 8).2⟩ := rfl
  have hrd := readTo_ready F gen s 8
  have hrl := fun k => readTo_len F gen s k
  obtain ⟨bF, hfin⟩ := rTo_sector (F := F) (gen := gen) hs 8
  have Hop := Lib.hid hop
  have Hlen := Lib.hid hlen
  have Hnx := Lib.hid hnx
  have Hrf := Lib.hid hrf
  have Hfin := Lib.hid hfin
  have Hdat := Lib.hid (show ∀ d, d ∈ (F.openWh gen s).l → d.2.length = s from fun d hd => readTo_dat hblen h1 hs 8 (Nat.le_refl _) d hd)
  have Hrl := Lib.hid (show ∀ k, k ≤ 8 * places s → (rTo F gen s k).1.length ≤ k from fun k => by
    induction k with
    | zero => intro _; simp [rTo]
    | succ k ih =>
      intro hk
      have := ih (by omega)
      have e : (rStep F gen s (rTo F gen s k) k).1 = (rTo F gen s k).1 ∨ ∃ d, (rStep F gen s (rTo F gen s k) k).1 = (rTo F gen s k).1 ++ [d] := by
        unfold rStep
        cases F.recAt gen s k with
        | none => exact .inl rfl
        | some d =>
          dsimp only
          generalize (if k % places s = 0 then (some d).isSome else (rTo F gen s k).2.2) = cc
          cases cc
          · exact .inl rfl
          · exact .inr ⟨d, rfl⟩
      rw [rTo_succ]
      rcases e with e | ⟨d, e⟩
      · rw [e]; omega
      · rw [e]; simp; omega)
  clear hop hlen hnx hrf hz hZ hrl hfin
  go_enter Try.func32, Try.ntmps32
  go_wp2_with fail
  have hW0 : RWhB (w.alloc (.cells #[.pointer (some ⟨p, 0, none⟩), .int .u32 gen.toNat, .int .i64 s, .slice none 0 0, .int .i64 (-1), .int .i64 0] 55)) p w.heap.size gen s (.slice none 0 0) (-1) 0 := Blk.newA w _ _
  have hRf1 := Hrf.out.keeps ((Keeps.refl [] w).alloc (.cells #[.pointer (some ⟨p, 0, none⟩), .int .u32 gen.toNat, .int .i64 s, .slice none 0 0, .int .i64 (-1), .int .i64 0] 55)) (by simp) (by simp)
  have hK1 := (Keeps.refl [] w).alloc (.cells #[.pointer (some ⟨p, 0, none⟩), .int .u32 gen.toNat, .int .i64 s, .slice none 0 0, .int .i64 (-1), .int .i64 0] 55)
  generalize w.alloc (.cells #[.pointer (some ⟨p, 0, none⟩), .int .u32 gen.toNat, .int .i64 s, .slice none 0 0, .int .i64 (-1), .int .i64 0] 55) = w1 at *
  obtain ⟨U, hU⟩ : ∃ U, w.heap.size = U := ⟨_, rfl⟩
  rw [hU] at hlp hlq
  rw [hU] at hW0 ⊢
  have HU := Lib.hid hU
  clear hU c16
  refine (rplaces_calls (hW0.cell' (i := 2) rfl) hs).mono ?_
  rintro e w2 ⟨rfl, rfl⟩
  go_wp2_with fail
  go_loopw [39, 10] (fun i cn wr => ∃ k : Nat, k ≤ 8 * places s ∧ i = .int .i64 k ∧ cn = .bool (rTo F gen s k).2.2 ∧ ∃ v, RWhB wr p U gen s v (rReady (rTo F gen s k).2.1) 0 ∧ Recs wr (U + 1) v (rTo F gen s k).1 ∧ RfAt wr p q F ∧ Keeps [] w wr) (fun i _ _ => 8 * places s - (intOf i).toNat)
  case atStart => exact ⟨0, by omega, rfl, rfl, .slice none 0 0, hW0, Recs.nil _ _, hRf1, hK1⟩
  case round =>
    clear hW0 hRf1 hK1
    obtain ⟨k, hk, rfl, rfl, v, hW, hR, hF, hK⟩ := hrel
    by_cases hlt : k < 8 * places s
    · have hstep := rTo_succ F gen s k
      have hll := Hrl.out k hk
      have htop := whAt_top h1 hs hlt
      have hwd : wide s = s + 13 := rfl
      have hpl : (F.place s k).length = s + 13 := by unfold Fla.place; rw [List.length_take, List.length_drop, hblen]; omega
      have hpr : ∀ wx, RfAt wx p q F → Rd wx (some ⟨q, whAt s k, none⟩) (F.place s k) := fun wx hx => by
        obtain ⟨z, _, hZ⟩ := hx
        exact hZ.rd _ _
      generalize rTo F gen s k = st at *
      obtain ⟨R, rd, cn⟩ := st
      dsimp only at hstep hll hW hR ⊢
      have hAt := rat_calls (w := wr) (hW.cell' (i := 2) rfl) h1 hs k (by omega)
      have hn1 := rec_none (F := F) (gen := gen) hd hpl
      have hn2 := rec_mark (F := F) (gen := gen) hd hpl
      have hn3 := fun m => rec_some (F := F) (gen := gen) hd hpl (m := m)
      have hrk : (8 * places s : Nat) = places s * 8 := by omega
      have hlt8 : (k : Int) < (places s : Int) * 8 := by omega
      obtain ⟨SC, hSC⟩ : ∃ SC, 6 + k / places s = SC := ⟨_, rfl⟩
      have h6 : 6 ≤ SC := by rw [← hSC]; exact Nat.le_add_right _ _
      have hsc8 : k / places s < 8 := (Nat.div_lt_iff_lt_mul (by omega)).2 hlt
      rw [hSC] at hAt
      generalize F.place s k = PB at *
      generalize hT : whAt s k = T at *
      have t0 : (0 : Int) ≤ (T : Int) := by omega
      have t1 : (T : Int) ≤ (T : Int) + (s : Int) + 13 := by omega
      have t2 : (T : Int) + (s : Int) + 13 ≤ 3584 := by omega
      have HAt := Lib.hid hAt
      have HW := Lib.hid hW
      have HR := Lib.hid hR
      have HF := Lib.hid hF
      have HK := Lib.hid hK
      have Hstep := Lib.hid hstep
      have Hpr := Lib.hid hpr
      have Hn1 := Lib.hid hn1
      have Hn2 := Lib.hid hn2
      have Hn3 := Lib.hid hn3
      have HSC := Lib.hid hSC
      have Hlt := Lib.hid hlt
      have Hpl := Lib.hid hpl
      clear hAt hW hR hF hK hstep hpr hn1 hn2 hn3 hSC hrk hlt hpl hd
      go_wp2_with fail
      refine HAt.out.mono ?_
      rintro e w3 ⟨rfl, n3, hw3⟩
      have hk3 : Keeps [] wr w3 := hw3 ▸ (Keeps.refl [] wr).drewN n3
      have hF3 := HF.out.keeps hk3 (by simp) (by simp)
      have c00 : w3.cell? ⟨p, 0, none⟩ = some (.slice (some ⟨q, 0, none⟩) 3584 3584) := by obtain ⟨z, _, hZ⟩ := hF3; exact hZ.c0
      have Hk3 := Lib.hid hk3
      have HF3 := Lib.hid hF3
      clear hw3 hk3 hF3
      have hRg := rright_calls (w := w3) (some ⟨q, T, none⟩) (s + 12) (3584 - T) (PB.take (s + 12)) ((Hpr.out _ HF3.out).take _) (by rw [List.length_take, Hpl.out]; omega) (by omega) (by omega) (by omega) (by simp)
      have HRg := Lib.hid hRg
      have hmk : w3.cell? ⟨q, T + (s + 12), none⟩ = some (B8 (PB.getD (s + 12) 0)) := by
        obtain ⟨b0, o0, he, hc⟩ := (Hpr.out _ HF3.out) (s + 12) (PB.getD (s + 12) 0) (by rw [List.getD, List.getElem?_eq_getElem (by rw [Hpl.out]; omega)]; rfl)
        simp only [Option.some.injEq, Addr.mk.injEq] at he
        obtain ⟨rfl, rfl, _⟩ := he
        exact hc
      have Hmk := Lib.hid hmk
      clear hRg hmk
      go_wp2_with fail
      rw [show T + s + 13 - T = s + 13 from by omega]
      refine HRg.out.mono ?_
      rintro e w4 ⟨v4, rfl, hv4, hk4⟩
      have hmk4 := hk4.cell Hmk.out
      have Hk4 := Lib.hid (Hk3.out.trans hk4)
      have hs4 : wr.heap.size ≤ w4.heap.size := Hk4.out.size
      have hlv : wr.heap.size ≤ w3.heap.size := Hk3.out.size
      have hv4s := hv4.slb
      obtain ⟨a4, c4, rfl, hl4, hm4, hr4, hn4, hb4⟩ := hv4.slb
      have HV4 := Lib.hid hv4s
      clear HRg Hmk hv4 hk4 hv4s c00 Hk3 HAt
      go_upto_region 14 with (fail)
      have hml : ∀ m, crcRight (PB.take (s + 12)) = some m → m.length = s + 8 := fun m h => by
        rw [crcRight_iff _ (s + 8) (by rw [List.length_take, Hpl.out]; omega)] at h
        split at h
        · simp only [Option.some.injEq] at h
          rw [← h, List.length_take, List.length_take, Hpl.out]; omega
        · cases h
      generalize crcRight (PB.take (s + 12)) = cr at *
      generalize PB.getD (s + 12) 0 = mk at *
      have Hml := Lib.hid hml
      clear hml
      obtain ⟨cs, hcs⟩ : ∃ cs, cr.isSome = cs := ⟨_, rfl⟩
      rw [hcs]
      generalize hN4 : (cr.getD []).length = N4 at *
      go_cut [16] (fun s16 wx => s16 = .bool (F.recAt gen s k).isSome ∧ w4 = wx)
      case first =>
        have i12 : (s : Int) + 12 < (s : Int) + 13 := by omega
        cases cr with
        | none =>
          have he := Lib.hid (Hn1.out rfl)
          obtain rfl : cs = false := hcs.symm
          clear hcs
          go_wp2_with fail
          go_meet
          case rel => exact ⟨by rw [he.out]; rfl, rfl⟩
        | some m =>
          have hm8 := Hml.out m rfl
          obtain rfl : cs = true := hcs.symm
          have hmN : m.length = N4 := hN4
          clear hcs hN4
          by_cases hm0 : mk = 0
          · subst hm0
            have he := Hn3.out m rfl rfl
            have hnc := number_calls (w := w4) a4 4 c4 (m.take 4) (hr4.take 4) (by rw [List.length_take]; omega) (by omega)
            rw [rnum4_fold (by omega)] at hnc
            have HNc := Lib.hid hnc
            have hl4' : (8 : Int) ≤ (c4 : Int) := by
              have : N4 ≤ c4 := hl4
              omega
            clear hnc
            by_cases hg : num4 m = gen
            · rw [if_pos hg] at he
              have He := Lib.hid he
              subst hg
              clear he
              go_wp2_with fail
              refine HNc.out.mono ?_
              rintro e w5 ⟨rfl, rfl⟩
              go_wp2_with fail
              go_meet
              case rel => exact ⟨by rw [He.out]; simp, rfl⟩
            · rw [if_neg hg] at he
              have He := Lib.hid he
              have hgb : (((num4 m).toNat : Int) == (gen.toNat : Int)) = false := by
                rw [beq_eq_false_iff_ne]; intro h; exact hg (UInt32.toNat_inj.1 (by omega))
              clear he hg
              go_wp2_with fail
              refine HNc.out.mono ?_
              rintro e w5 ⟨rfl, rfl⟩
              go_wp2_with fail
              go_meet
              case rel => exact ⟨by rw [He.out]; simp, rfl⟩
          · have he := Lib.hid (Hn2.out hm0)
            have hmb : ((mk.toNat : Int) == 0) = false := by
              rw [beq_eq_false_iff_ne]; intro h; exact hm0 (UInt8.toNat_inj.1 (by show mk.toNat = 0; omega))
            go_wp2_with fail
            go_meet
            case rel => exact ⟨by rw [he.out]; rfl, rfl⟩
      case rest =>
        obtain ⟨rfl, rfl⟩ := hcut
        have hst := Hstep.out
        unfold rStep at hst
        dsimp only at hst
        have hkd : ((k / places s : Nat) : Int) = (SC : Int) - 6 := by have := HSC.out; omega
        rw [hkd] at hst
        have hdm : ∀ d, F.recAt gen s k = some d → ∃ m, cr = some m ∧ d = (num4 (m.drop 4), m.drop 8) := fun d hd => by
          cases cr with
          | none => rw [Hn1.out rfl] at hd; cases hd
          | some m =>
            by_cases hm0 : mk = 0
            · have := Hn3.out m rfl hm0
              rw [this] at hd
              split at hd
              · simp only [Option.some.injEq] at hd
                exact ⟨m, rfl, hd.symm⟩
              · cases hd
            · rw [Hn2.out hm0] at hd; cases hd
        have Hdm := Lib.hid hdm
        clear Hn1 Hn2 Hn3 Hpr Hstep hkd hdm
        by_cases h0 : k % places s = 0
        · have hmb : ((k : Int) % (places s : Int) == 0) = true := by rw [beq_iff_eq]; omega
          simp only [if_pos h0] at hst
          cases hr : F.recAt gen s k with
          | none =>
            rw [hr] at hst
            dsimp only [Option.isSome_none] at hst
            have Hst := Lib.hid hst
            clear hst hr h0
            go_wp2_with fail
            go_roundw
            case rel =>
              have hlt := Hlt.out
              have R1 := Lib.hid (HW.out.keeps Hk4.out (by simp))
              have R2 := Lib.hid (HR.out.keeps Hk4.out (by simp))
              have R3 := Lib.hid (HF.out.keeps Hk4.out (by simp) (by simp))
              have R4 := Lib.hid (HK.out.trans Hk4.out)
              first
                | exact ⟨k + 1, by omega, by go_num, by rw [Hst.out], v, by rw [Hst.out]; exact R1.out, by rw [Hst.out]; exact R2.out, R3.out, R4.out⟩
                | ((repeat apply Exists.intro); refine ⟨?_, rfl⟩; exact ⟨k + 1, by omega, by go_num, by rw [Hst.out], v, by rw [Hst.out]; exact R1.out, by rw [Hst.out]; exact R2.out, R3.out, R4.out⟩)
            case measure => (have hlt := Hlt.out; simp [intOf]; omega)
          | some d =>
            rw [hr] at hst
            dsimp only [Option.isSome_some] at hst
            rw [if_pos rfl] at hst
            obtain ⟨m, hcm', rfl⟩ := Hdm.out d hr
            subst hcm'
            have hm8 := Hml.out m rfl
            have hmN : m.length = N4 := hN4
            have Hst := Lib.hid hst
            obtain ⟨av, cv, rfl, hlc, hcm, _, hvo⟩ := HR.out.form
            have hnm := number_calls (w := w4.drew) (a4.map fun x => x.add 4) 4 (c4 - 4) ((m.drop 4).take 4) (((hr4.keepsNil (Keeps.refl [] w4).drew).dropAdd 4).take 4) (by rw [List.length_take, List.length_drop]; omega) (by omega)
            rw [rnum4_fold (S := m.drop 4) (by rw [List.length_drop]; omega)] at hnm
            have HNm := Lib.hid hnm
            have hcut8 : Slb w4 w3.heap.size (.slice (a4.map fun x => x.add 8) (N4 - 8) (c4 - 8)) (m.drop 8) := HV4.out.cut 8 (show 8 < m.length by omega)
            have hls8 : (m.drop 8).length = N4 - 8 := by rw [List.length_drop]; omega
            generalize hidd : num4 (m.drop 4) = idd at *
            generalize hdat : m.drop 8 = dat at *
            have hW4 := HW.out.keeps Hk4.out (by simp)
            have c3' := hW4.cell' (i := 3) rfl
            have f3' := hW4.frozen 3
            have hul := hW4.lt
            have hkA : Keeps [] w4 (w4.drew.alloc (.cells #[.int .u32 idd.toNat, .slice (a4.map fun x => x.add 8) (N4 - 8) (c4 - 8)] 43)) := (Keeps.refl [] w4).drew.alloc _
            have HR5 := Lib.hid ((HR.out.keeps Hk4.out (by simp)).keeps hkA (by simp))
            have HW5 := Lib.hid (hW4.keeps hkA (by simp))
            have hx5 := (hcut8.slx (N := fun y => U + 1 ≤ y ∧ Value.ownBlock (.slice av R.length cv) ≠ some y) (fun y q1 q2 => ⟨by have := HW.out.lt; omega, fun hc => by have := hvo y hc; omega⟩)).keeps hkA (by simp) (fun _ h _ => h)
            have HX5 := Lib.hid hx5
            have hb5 := Blk.newA w4.drew 43 #[.int .u32 idd.toNat, .slice (a4.map fun x => x.add 8) (N4 - 8) (c4 - 8)]
            have HB5 := Lib.hid hb5
            have hB5s : U + 1 ≤ (w4.drew.alloc (.cells #[.int .u32 idd.toNat, .slice (a4.map fun x => x.add 8) (N4 - 8) (c4 - 8)] 43)).heap.size := by have := hkA.size; omega
            have HB5s := Lib.hid hB5s
            have HNu := Lib.hid (show U ∉ Option.toList (Value.ownBlock (.slice av R.length cv)) from by intro hm; have := hvo U (by simpa using hm); omega)
            have HNB := Lib.hid (show ∀ x, x ∈ Option.toList (Value.ownBlock (.slice av R.length cv)) → U + 1 ≤ x from by intro x hm; have := hvo x (by simpa using hm); omega)
            have HkA := Lib.hid hkA
            have Hl8 := Lib.hid hls8
            have j0 : (4 : Int) ≤ 8 := by omega
            have j1 : (8 : Int) ≤ (c4 : Int) := by have : N4 ≤ c4 := hl4; omega
            have j2 : (8 : Int) ≤ (N4 : Int) := by omega
            have j3 : (N4 : Int) ≤ (c4 : Int) := by have : N4 ≤ c4 := hl4; omega
            have j4 : ¬ c4 = 8 := by have : N4 ≤ c4 := hl4; omega
            have j5 : ¬ c4 = 4 := by omega
            have Hll := Lib.hid (show R.length ≤ 100000 by omega)
            clear hst hr hnm hcut8 hls8 hW4 hx5 hb5 hB5s hkA hvo hidd hdat hm8 hmN hn4 hb4 hr4 HR
            go_wp2_with fail
            go_region_law (first
              | (go_simp; go_at_call 71; refine HNm.out.mono ?_; rintro e w' ⟨rfl, rfl⟩)
              | (refine step_append_rec rfl (.tmp 95) (.tmp 102) rfl HR5.out rfl _ 1 rfl idd _ dat HB5.out HX5.out Hll.out HB5s.out ?_; intro g6 cap6 w6 hR6 hG6 hg6 hl6; have hk6 := (Keeps.refl _ _).grown (S := Option.toList (Value.ownBlock (.slice av R.length cv))) hG6 (by intro y hy; left; rw [hy]; simp); have hW6 := HW5.out.keeps hk6 HNu.out; have c6 := hW6.cell' (i := 3) rfl; have f6 := hW6.frozen 3; have hW7 := RWhB.setL hW6 (.slice (some ⟨g6, 0, none⟩) (R.length + 1) cap6); have c7 := hW7.cell' (i := 4) rfl; have f7 := hW7.frozen 4; have hul6 := hW6.lt))
            all_goals
              have hW8 := Lib.hid (hW7.setR SC)
              have hKs := Lib.hid (show Keeps [U] w6 ((w6.setCell ⟨U, 3, none⟩ (.slice (some ⟨g6, 0, none⟩) (R.length + 1) cap6)).setCell ⟨U, 4, none⟩ (.int .i64 SC)) from ((Keeps.refl [U] w6).setCell (by simp) _).setCell (by simp) _)
              clear hW6 hW7
              go_wp2_with fail
              go_roundw
              case rel =>
                have hlt := Hlt.out
                have hu := HU.out
                have hNB := HNB.out
                have hrr : rReady ((SC : Int) - 6) = (SC : Int) := by have := h6; unfold rReady; rw [if_neg (by omega)]; omega
                have K1 : Keeps [] w w6 := ((HK.out.trans Hk4.out).trans HkA.out).trans' hk6 (by simp) (fun x hx => .inr (by have := hNB x hx; omega))
                have R1 : RWhB ((w6.setCell ⟨U, 3, none⟩ (.slice (some ⟨g6, 0, none⟩) (R.length + 1) cap6)).setCell ⟨U, 4, none⟩ (.int .i64 SC)) p U gen s (.slice (some ⟨g6, 0, none⟩) (R.length + 1) cap6) (rReady ((SC : Int) - 6)) 0 := by rw [hrr]; exact hW8.out
                have R2 := hR6.keeps hKs.out (by simp)
                have R3 := (((HF.out.keeps Hk4.out (by simp) (by simp)).keeps HkA.out (by simp) (by simp)).keeps hk6 (fun hm => by have := hNB _ hm; omega) (fun hm => by have := hNB _ hm; omega)).keeps hKs.out (by simp; omega) (by simp; omega)
                have R4 : Keeps [] w ((w6.setCell ⟨U, 3, none⟩ (.slice (some ⟨g6, 0, none⟩) (R.length + 1) cap6)).setCell ⟨U, 4, none⟩ (.int .i64 SC)) := K1.trans' hKs.out (by simp) (fun x hx => .inr (by simp at hx; omega))
                first
                  | exact ⟨k + 1, by omega, by go_num, by rw [Hst.out], _, by rw [Hst.out]; exact R1, by rw [Hst.out]; exact R2, R3, R4⟩
                  | ((repeat apply Exists.intro); refine ⟨?_, rfl⟩; exact ⟨k + 1, by omega, by go_num, by rw [Hst.out], _, by rw [Hst.out]; exact R1, by rw [Hst.out]; exact R2, R3, R4⟩)
              case measure => (have hlt := Hlt.out; simp [intOf]; omega)
        · have hmb : ((k : Int) % (places s : Int) == 0) = false := by rw [beq_eq_false_iff_ne]; omega
          simp only [if_neg h0] at hst
          cases hr : F.recAt gen s k with
          | none =>
            rw [hr] at hst
            dsimp only at hst
            have Hst := Lib.hid hst
            clear hst hr h0
            go_wp2_with fail
            go_roundw
            case rel =>
              have hlt := Hlt.out
              have R1 := Lib.hid (HW.out.keeps Hk4.out (by simp))
              have R2 := Lib.hid (HR.out.keeps Hk4.out (by simp))
              have R3 := Lib.hid (HF.out.keeps Hk4.out (by simp) (by simp))
              have R4 := Lib.hid (HK.out.trans Hk4.out)
              first
                | exact ⟨k + 1, by omega, by go_num, by rw [Hst.out], v, by rw [Hst.out]; exact R1.out, by rw [Hst.out]; exact R2.out, R3.out, R4.out⟩
                | ((repeat apply Exists.intro); refine ⟨?_, rfl⟩; exact ⟨k + 1, by omega, by go_num, by rw [Hst.out], v, by rw [Hst.out]; exact R1.out, by rw [Hst.out]; exact R2.out, R3.out, R4.out⟩)
            case measure => (have hlt := Hlt.out; simp [intOf]; omega)
          | some d =>
            rw [hr] at hst
            dsimp only at hst
            cases cn with
            | true =>
              rw [if_pos rfl] at hst
              obtain ⟨m, hcm', rfl⟩ := Hdm.out d hr
              subst hcm'
              have hm8 := Hml.out m rfl
              have hmN : m.length = N4 := hN4
              have Hst := Lib.hid hst
              obtain ⟨av, cv, rfl, hlc, hcm, _, hvo⟩ := HR.out.form
              have hnm := number_calls (w := w4.drew) (a4.map fun x => x.add 4) 4 (c4 - 4) ((m.drop 4).take 4) (((hr4.keepsNil (Keeps.refl [] w4).drew).dropAdd 4).take 4) (by rw [List.length_take, List.length_drop]; omega) (by omega)
              rw [rnum4_fold (S := m.drop 4) (by rw [List.length_drop]; omega)] at hnm
              have HNm := Lib.hid hnm
              have hcut8 : Slb w4 w3.heap.size (.slice (a4.map fun x => x.add 8) (N4 - 8) (c4 - 8)) (m.drop 8) := HV4.out.cut 8 (show 8 < m.length by omega)
              have hls8 : (m.drop 8).length = N4 - 8 := by rw [List.length_drop]; omega
              generalize hidd : num4 (m.drop 4) = idd at *
              generalize hdat : m.drop 8 = dat at *
              have hW4 := HW.out.keeps Hk4.out (by simp)
              have c3' := hW4.cell' (i := 3) rfl
              have f3' := hW4.frozen 3
              have hul := hW4.lt
              have hkA : Keeps [] w4 (w4.drew.alloc (.cells #[.int .u32 idd.toNat, .slice (a4.map fun x => x.add 8) (N4 - 8) (c4 - 8)] 43)) := (Keeps.refl [] w4).drew.alloc _
              have HR5 := Lib.hid ((HR.out.keeps Hk4.out (by simp)).keeps hkA (by simp))
              have HW5 := Lib.hid (hW4.keeps hkA (by simp))
              have hx5 := (hcut8.slx (N := fun y => U + 1 ≤ y ∧ Value.ownBlock (.slice av R.length cv) ≠ some y) (fun y q1 q2 => ⟨by have := HW.out.lt; omega, fun hc => by have := hvo y hc; omega⟩)).keeps hkA (by simp) (fun _ h _ => h)
              have HX5 := Lib.hid hx5
              have hb5 := Blk.newA w4.drew 43 #[.int .u32 idd.toNat, .slice (a4.map fun x => x.add 8) (N4 - 8) (c4 - 8)]
              have HB5 := Lib.hid hb5
              have hB5s : U + 1 ≤ (w4.drew.alloc (.cells #[.int .u32 idd.toNat, .slice (a4.map fun x => x.add 8) (N4 - 8) (c4 - 8)] 43)).heap.size := by have := hkA.size; omega
              have HB5s := Lib.hid hB5s
              have HNu := Lib.hid (show U ∉ Option.toList (Value.ownBlock (.slice av R.length cv)) from by intro hm; have := hvo U (by simpa using hm); omega)
              have HNB := Lib.hid (show ∀ x, x ∈ Option.toList (Value.ownBlock (.slice av R.length cv)) → U + 1 ≤ x from by intro x hm; have := hvo x (by simpa using hm); omega)
              have HkA := Lib.hid hkA
              have Hl8 := Lib.hid hls8
              have j0 : (4 : Int) ≤ 8 := by omega
              have j1 : (8 : Int) ≤ (c4 : Int) := by have : N4 ≤ c4 := hl4; omega
              have j2 : (8 : Int) ≤ (N4 : Int) := by omega
              have j3 : (N4 : Int) ≤ (c4 : Int) := by have : N4 ≤ c4 := hl4; omega
              have j4 : ¬ c4 = 8 := by have : N4 ≤ c4 := hl4; omega
              have j5 : ¬ c4 = 4 := by omega
              have Hll := Lib.hid (show R.length ≤ 100000 by omega)
              clear hst hr hnm hcut8 hls8 hW4 hx5 hb5 hB5s hkA hvo hidd hdat hm8 hmN hn4 hb4 hr4 HR
              go_wp2_with fail
              go_region_law (first
                | (go_simp; go_at_call 71; refine HNm.out.mono ?_; rintro e w' ⟨rfl, rfl⟩)
                | (refine step_append_rec rfl (.tmp 95) (.tmp 102) rfl HR5.out rfl _ 1 rfl idd _ dat HB5.out HX5.out Hll.out HB5s.out ?_; intro g6 cap6 w6 hR6 hG6 hg6 hl6; have hk6 := (Keeps.refl _ _).grown (S := Option.toList (Value.ownBlock (.slice av R.length cv))) hG6 (by intro y hy; left; rw [hy]; simp); have hW6 := HW5.out.keeps hk6 HNu.out; have c6 := hW6.cell' (i := 3) rfl; have f6 := hW6.frozen 3; have hW7 := RWhB.setL hW6 (.slice (some ⟨g6, 0, none⟩) (R.length + 1) cap6); have c7 := hW7.cell' (i := 4) rfl; have f7 := hW7.frozen 4; have hul6 := hW6.lt))
              all_goals
                have hW8 := Lib.hid (hW7.setR SC)
                have hKs := Lib.hid (show Keeps [U] w6 ((w6.setCell ⟨U, 3, none⟩ (.slice (some ⟨g6, 0, none⟩) (R.length + 1) cap6)).setCell ⟨U, 4, none⟩ (.int .i64 SC)) from ((Keeps.refl [U] w6).setCell (by simp) _).setCell (by simp) _)
                clear hW6 hW7
                go_wp2_with fail
                go_roundw
                case rel =>
                  have hlt := Hlt.out
                  have hu := HU.out
                  have hNB := HNB.out
                  have hrr : rReady ((SC : Int) - 6) = (SC : Int) := by have := h6; unfold rReady; rw [if_neg (by omega)]; omega
                  have K1 : Keeps [] w w6 := ((HK.out.trans Hk4.out).trans HkA.out).trans' hk6 (by simp) (fun x hx => .inr (by have := hNB x hx; omega))
                  have R1 : RWhB ((w6.setCell ⟨U, 3, none⟩ (.slice (some ⟨g6, 0, none⟩) (R.length + 1) cap6)).setCell ⟨U, 4, none⟩ (.int .i64 SC)) p U gen s (.slice (some ⟨g6, 0, none⟩) (R.length + 1) cap6) (rReady ((SC : Int) - 6)) 0 := by rw [hrr]; exact hW8.out
                  have R2 := hR6.keeps hKs.out (by simp)
                  have R3 := (((HF.out.keeps Hk4.out (by simp) (by simp)).keeps HkA.out (by simp) (by simp)).keeps hk6 (fun hm => by have := hNB _ hm; omega) (fun hm => by have := hNB _ hm; omega)).keeps hKs.out (by simp; omega) (by simp; omega)
                  have R4 : Keeps [] w ((w6.setCell ⟨U, 3, none⟩ (.slice (some ⟨g6, 0, none⟩) (R.length + 1) cap6)).setCell ⟨U, 4, none⟩ (.int .i64 SC)) := K1.trans' hKs.out (by simp) (fun x hx => .inr (by simp at hx; omega))
                  first
                    | exact ⟨k + 1, by omega, by go_num, by rw [Hst.out], _, by rw [Hst.out]; exact R1, by rw [Hst.out]; exact R2, R3, R4⟩
                    | ((repeat apply Exists.intro); refine ⟨?_, rfl⟩; exact ⟨k + 1, by omega, by go_num, by rw [Hst.out], _, by rw [Hst.out]; exact R1, by rw [Hst.out]; exact R2, R3, R4⟩)
                case measure => (have hlt := Hlt.out; simp [intOf]; omega)
            | false =>
              rw [if_neg (by simp)] at hst
              have Hst := Lib.hid hst
              clear hst hr h0
              go_wp2_with fail
              go_roundw
              case rel =>
                have hlt := Hlt.out
                have R1 := Lib.hid (HW.out.keeps Hk4.out (by simp))
                have R2 := Lib.hid (HR.out.keeps Hk4.out (by simp))
                have R3 := Lib.hid (HF.out.keeps Hk4.out (by simp) (by simp))
                have R4 := Lib.hid (HK.out.trans Hk4.out)
                first
                  | exact ⟨k + 1, by omega, by go_num, by rw [Hst.out], v, by rw [Hst.out]; exact R1.out, by rw [Hst.out]; exact R2.out, R3.out, R4.out⟩
                  | ((repeat apply Exists.intro); refine ⟨?_, rfl⟩; exact ⟨k + 1, by omega, by go_num, by rw [Hst.out], v, by rw [Hst.out]; exact R1.out, by rw [Hst.out]; exact R2.out, R3.out, R4.out⟩)
              case measure => (have hlt := Hlt.out; simp [intOf]; omega)
    · obtain rfl : k = 8 * places s := by omega
      rw [Hfin.out] at hW hR ⊢
      dsimp only at hW hR ⊢
      generalize hrd' : (F.readTo gen s 8).2 = rd at *
      generalize (F.readTo gen s 8).1 = LL at *
      have c4 := hW.cell' (i := 4) rfl
      have HW := Lib.hid hW
      have HR := Lib.hid hR
      have HF := Lib.hid hF
      have HK := Lib.hid hK
      clear hW hR hF hK hlt hrd'
      by_cases hneg : rd < 0
      · have hn0 : F.nextOf s rd = 0 := by unfold Fla.nextOf; rw [if_pos hneg]
        have Hn0 := Lib.hid hn0
        have hrr : rReady rd = -1 := by unfold rReady; rw [if_pos hneg]
        rw [hrr] at c4
        clear hn0
        go_wp2_with fail
        go_ret2
        refine ⟨U, _, rfl, Nat.le_of_eq HU.out, ⟨HF.out, h1, hs, by omega, by omega, Hnx.out, by have := Hlen.out; omega, Hdat.out, v, rfl, ?_, ?_⟩, HK.out⟩
        · rw [Hop.out, Hn0.out]; exact HW.out
        · rw [Hop.out]; exact HR.out
      · obtain ⟨kk, rfl⟩ : ∃ kk : Nat, rd = kk := ⟨rd.toNat, by omega⟩
        have hk8 : kk < 8 := by omega
        have hle : kk * places s + places s ≤ 8 * places s := by
          have := Nat.mul_le_mul_right (places s) (show kk + 1 ≤ 8 by omega)
          rw [Nat.add_mul] at this
          omega
        have hrr : rReady (kk : Int) = 6 + (kk : Int) := by unfold rReady; rw [if_neg (by omega)]
        have hn0 : F.nextOf s (kk : Int) = kk * places s + F.trim s (kk * places s) (places s) := by unfold Fla.nextOf; rw [if_neg hneg]; rfl
        have hT : ∀ j, F.trim s (kk * places s) (j + 1) = if F.blank (whAt s (kk * places s + j)) (wide s) then F.trim s (kk * places s) j else j + 1 := fun j => rfl
        have hTl := trim_le F s (kk * places s)
        have hT0 : F.trim s (kk * places s) 0 = 0 := rfl
        have hAt := fun (w : World) (h : w.cell? ⟨U, 2, none⟩ = some (.int .i64 s)) (i : Nat) (hi : i ≤ 200) => rat_calls h h1 hs i hi
        have hwd : ((wide s : Nat) : Int) = (s : Int) + 13 := rfl
        have hBl := fun (w : World) (h : RfAt w p q F) (i : Nat) => (show Calls Try.prog 72 #[.pointer (some ⟨p, 0, none⟩), .int .i64 (whAt s i), .int .i64 ((s : Int) + 13)] w (BoolPost w (F.blank (whAt s i) (wide s))) from rblank_calls h (whAt s i) (wide s))
        have hwt := fun i (hi : i < 8 * places s) => whAt_top h1 hs (k := i) hi
        rw [hrr] at c4
        have Hn0 := Lib.hid hn0
        clear hn0 hneg
        have c2 := HW.out.cell' (i := 2) rfl
        have c5 := HW.out.cell' (i := 5) rfl
        have f5 := HW.out.frozen 5
        have hW1 := HW.out
        rw [hrr] at hW1
        have HW1 := Lib.hid hW1
        have hul := HW.out.lt
        have HAt := Lib.hid hAt
        have HBl := Lib.hid hBl
        have HT := Lib.hid hT
        have Hwt := Lib.hid hwt
        have HTl := Lib.hid hTl
        have HT0 := Lib.hid hT0
        clear hAt hBl hT hwt hTl hT0 hW1 HW hrr hwd
        have hAi : (kk : Int) * (places s : Int) = ((kk * places s : Nat) : Int) := (Int.natCast_mul _ _).symm
        have hAi2 : ((kk : Int) + 1) * (places s : Int) = ((kk * places s + places s : Nat) : Int) := by rw [Int.add_mul, Int.one_mul, hAi]; omega
        have hk0 : 6 + (kk : Int) - 6 = (kk : Int) := by omega
        generalize hP : places s = P at *
        generalize hA : kk * P = A at *
        have hA2 : A + P ≤ 144 := by omega
        generalize hAP : A + P = AP at *
        go_wp2_with fail
        have Hhk := Lib.hid hAi
        clear hAi c4 c5 f5 c2
        go_loopw [17] (fun i wx => ∃ (j N : Nat), j ≤ P ∧ A + j = N ∧ i = .int .i64 (N : Int) ∧ RWhB wx p U gen s v (6 + (kk : Int)) ((A + F.trim s A j : Nat) : Int) ∧ Recs wx (U + 1) v LL ∧ RfAt wx p q F ∧ Keeps [] w wx) (fun i _ => AP - (intOf i).toNat)
        case atStart => exact ⟨0, A, by omega, by omega, rfl, by rw [HT0.out, Nat.add_zero]; exact HW1.out.setN _, HR.out.keeps (S := [U]) ((Keeps.refl _ _).setCell (by simp) _) (by simp), HF.out.keeps (S := [U]) ((Keeps.refl _ _).setCell (by simp) _) (by simp; omega) (by simp; omega), HK.out.setCell (.inr (Nat.le_of_eq HU.out)) _⟩
        case round =>
          obtain ⟨j, N, hj, hN, rfl, hW, hRc, hF, hK⟩ := hrel
          have c2 := hW.cell' (i := 2) rfl
          have c4 := hW.cell' (i := 4) rfl
          have c5 := hW.cell' (i := 5) rfl
          have f5 := hW.frozen 5
          have hulr := hW.lt
          by_cases hlt : N < AP
          · have htr := HT.out j
            have hat := HAt.out _ c2 N (by omega)
            have hbl := fun w h => HBl.out w h N
            have hwt := Hwt.out N (by omega)
            rw [hN] at htr
            generalize whAt s N = T at *
            have HTr := Lib.hid htr
            have Hat := Lib.hid hat
            have HW2 := Lib.hid hW
            have HR2 := Lib.hid hRc
            have HF2 := Lib.hid hF
            have HK2 := Lib.hid hK
            have HNn := Lib.hid hN
            have Hj := Lib.hid (show j < P by omega)
            clear htr hat hW hRc hF hK hN hj
            cases hb : F.blank T (wide s)
            · rw [hb] at HTr hbl
              have Hbl := Lib.hid hbl
              have htr2 : F.trim s A (j + 1) = j + 1 := HTr.out.trans (if_neg (by simp))
              have Htr2 := Lib.hid htr2
              clear hb hbl htr2 HTr
              go_wp2_with fail
              refine Hat.out.mono ?_
              rintro e w5 ⟨rfl, n5, hw5⟩
              have hk5 : Keeps [] wr w5 := hw5 ▸ (Keeps.refl [] wr).drewN n5
              clear hw5
              go_wp2_with fail
              refine (Hbl.out _ (HF2.out.keeps hk5 (by simp) (by simp))).mono ?_
              rintro e w6 ⟨rfl, hk6⟩
              have hk56 := hk5.trans hk6
              have hW6 := HW2.out.keeps hk56 (by simp)
              have f5' := hW6.frozen 5
              have c5' := hW6.cell' (i := 5) rfl
              have hul6 := hW6.lt
              go_wp2_with fail
              go_roundw
              case rel =>
                have hj := Hj.out
                have hN := HNn.out
                have hu := HU.out
                have R1 : RWhB (w6.setCell ⟨U, 5, none⟩ (.int .i64 ((N : Int) + 1))) p U gen s v (6 + (kk : Int)) ((A + F.trim s A (j + 1) : Nat) : Int) := by
                  rw [Htr2.out, show A + (j + 1) = N + 1 from by omega]
                  exact hW6.setN _
                have R2 := (HR2.out.keeps hk56 (by simp)).keeps (show Keeps [U] w6 (w6.setCell ⟨U, 5, none⟩ (.int .i64 ((N : Int) + 1))) from (Keeps.refl [U] w6).setCell (by simp) _) (by simp)
                have R3 := (HF2.out.keeps hk56 (by simp) (by simp)).keeps (show Keeps [U] w6 (w6.setCell ⟨U, 5, none⟩ (.int .i64 ((N : Int) + 1))) from (Keeps.refl [U] w6).setCell (by simp) _) (by simp; omega) (by simp; omega)
                have R4 : Keeps [] w (w6.setCell ⟨U, 5, none⟩ (.int .i64 ((N : Int) + 1))) := (HK2.out.trans hk56).setCell (.inr (Nat.le_of_eq HU.out)) _
                first
                  | exact ⟨j + 1, N + 1, by omega, by omega, by go_num, R1, R2, R3, R4⟩
                  | ((repeat apply Exists.intro); refine ⟨?_, rfl⟩; exact ⟨j + 1, N + 1, by omega, by omega, by go_num, R1, R2, R3, R4⟩)
              case measure => (simp [intOf]; omega)
            · rw [hb] at HTr hbl
              have Hbl := Lib.hid hbl
              have htr2 : F.trim s A (j + 1) = F.trim s A j := HTr.out.trans (if_pos rfl)
              have Htr2 := Lib.hid htr2
              clear hb hbl htr2 HTr
              go_wp2_with fail
              refine Hat.out.mono ?_
              rintro e w5 ⟨rfl, n5, hw5⟩
              have hk5 : Keeps [] wr w5 := hw5 ▸ (Keeps.refl [] wr).drewN n5
              clear hw5
              go_wp2_with fail
              refine (Hbl.out _ (HF2.out.keeps hk5 (by simp) (by simp))).mono ?_
              rintro e w6 ⟨rfl, hk6⟩
              have hk56 := hk5.trans hk6
              go_wp2_with fail
              go_roundw
              case rel =>
                have hj := Hj.out
                have hN := HNn.out
                have R1 : RWhB w6 p U gen s v (6 + (kk : Int)) ((A + F.trim s A (j + 1) : Nat) : Int) := by
                  rw [Htr2.out]
                  exact HW2.out.keeps hk56 (by simp)
                have R2 := HR2.out.keeps hk56 (by simp)
                have R3 := HF2.out.keeps hk56 (by simp) (by simp)
                have R4 := HK2.out.trans hk56
                first
                  | exact ⟨j + 1, N + 1, by omega, by omega, by go_num, R1, R2, R3, R4⟩
                  | ((repeat apply Exists.intro); refine ⟨?_, rfl⟩; exact ⟨j + 1, N + 1, by omega, by omega, by go_num, R1, R2, R3, R4⟩)
              case measure => (simp [intOf]; omega)
          · obtain rfl : j = P := by omega
            have HW2 := Lib.hid hW
            have HR2 := Lib.hid hRc
            have HF2 := Lib.hid hF
            have HK2 := Lib.hid hK
            clear hW hRc hF hK c5 f5
            go_wp2_with fail
            go_ret2
            refine ⟨U, _, rfl, Nat.le_of_eq HU.out, ⟨HF2.out, h1, hs, by omega, by omega, by rw [show (F.openWh gen s).size = s from rfl, hP]; exact Hnx.out, by have := Hlen.out; omega, Hdat.out, v, rfl, ?_, ?_⟩, HK2.out⟩
            · rw [Hop.out]
              show RWhB _ p U gen s v (rReady (kk : Int)) ((F.nextOf s (kk : Int) : Nat) : Int)
              rw [Hn0.out, show rReady (kk : Int) = 6 + (kk : Int) from by unfold rReady; rw [if_neg (by omega)]]
              exact HW2.out
            · rw [Hop.out]; exact HR2.out

end Go.Proofs.Ytghgmchgbhdldaa
