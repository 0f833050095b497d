/-
  El4: package elim: Add, walked.
-/
import Derived.Test.YtghgmchgbhdldaaGreatDoorEl3
set_option linter.unusedVariables false
set_option linter.unusedSimpArgs false
namespace Go.Proofs.YtghgmchgbhdldaaGreatDoor
open Go.RowKit
attribute [local go_sem ↓] Go.wp_at_zero Go.wp_at_succ

/-- What Add leaves. -/
def AddPost (w : World) (pm n z : Nat) (M : Mtx) (q : Rw) (Fl : List Nat) (e : Ending) (w' : World) : Prop :=
  ((red M q).x = 0 ∧ e = .returned (.bool false) ∧ Keeps [] w w') ∨
  ((red M q).x ≠ 0 ∧ e = .returned (.bool true) ∧ ∃ Fl', MxF w' pm n z (mAdd n M q) Fl' ∧ (∀ x ∈ Fl', x ∈ Fl ∨ w.heap.size ≤ x) ∧ Keeps Fl w w')

set_option maxRecDepth 100000 in
theorem maddbad_calls {w : World} {pm n z : Nat} {M : Mtx} {Fl : List Nat} (h : MxF w pm n z M Fl) (v : Value) (a : Option Addr) (m c : Nat) (hm : m ≠ z) :
    Calls Tryz.prog 21 #[P0 pm, v, .slice a m c] w fun e w' => e = .returned (.bool false) ∧ w = w' := by
  obtain ⟨pb, L, hM, _⟩ := h
  have c1 := hM.b.cell' (i := 1) rfl
  have hd : ((m : Int) != (z : Int)) = true := by simp; omega
  clear hM hm
  go_enter Tryz.func21, Tryz.ntmps21
  go_wp2_with fail
  go_ret
  exact ⟨rfl, rfl⟩

set_option maxRecDepth 100000 in
set_option maxHeartbeats 2000000 in
theorem madd_calls {w : World} {pm n z : Nat} {M : Mtx} {Fl : List Nat} (h : MxF w pm n z M Fl) (he : Ech n z M) (ht : TzAt w) {pv gv X cv : Nat} {tv : List Value} (hv : VcAt w pv gv n X cv tv) {a : Option Addr} {c : Nat} {l : List UInt8} (hl : Rd w a l) (hlz : l.length = z) :
    Calls Tryz.prog 21 #[P0 pm, P0 pv, .slice a z c] w (AddPost w pm n z M ⟨X, l⟩ Fl) := by
  unfold AddPost
  obtain ⟨pb, L, hM, hF1, hF2, hF3, hF4⟩ := h
  have c1 := hM.b.cell' (i := 1) rfl
  have hn2 := hM.n2
  have hz2 := hM.z2
  have hml := hM.l
  have HR := Lib.hid (mred_calls (c := c) hM hv hl (.inl ⟨rfl, hlz, rfl⟩))
  obtain ⟨hqx, hqd⟩ := red_len he (r := ⟨X, l⟩) hv.lt hlz
  have hadd : mAdd n M ⟨X, l⟩ = if (red M ⟨X, l⟩).x = 0 then M else madd M (firstB n (red M ⟨X, l⟩).x).toNat (red M ⟨X, l⟩) := rfl
  have hclr : ∀ i p, M.at i = some p → (red M ⟨X, l⟩).x.testBit i = false := fun i p hp => red_clear he ⟨X, l⟩ hp
  generalize red M ⟨X, l⟩ = q at *
  generalize mAdd n M ⟨X, l⟩ = M2 at *
  have HM := Lib.hid hM
  have HF := Lib.hid (And.intro hF1 (And.intro hF2 (And.intro hF3 hF4)))
  have Hqd := Lib.hid hqd
  have HC := Lib.hid hclr
  have HA := Lib.hid hadd
  have Hlz := Lib.hid hlz
  clear hM hF1 hF2 hF3 hF4 hqd hclr hadd hv hl he hlz
  by_cases hq0 : q.x = 0
  · have hf := firstB_zero n
    rw [← hq0] at hf
    have Hq0 := Lib.hid hq0
    clear HA hq0
    go_enter Tryz.func21, Tryz.ntmps21
    go_wp2_with fail
    refine HR.out.mono ?_
    rintro e w1 ⟨Lf, rfl, g1, g2, g3, g4, hRw, k1⟩
    obtain ⟨cx, tx, hb, hvx, hdx, hlx⟩ := id hRw
    have r0 := hb.cell' (i := 0) rfl
    have hFi := vcfirst_calls hvx (ht.keeps k1 (by simp))
    rw [hf] at hFi
    have HFi := Lib.hid hFi
    have HK1 := Lib.hid k1
    clear hFi hb hvx hdx hRw k1
    go_wp2_with fail
    refine HFi.out.mono ?_
    rintro e w' ⟨rfl, rfl⟩
    go_wp2_with fail
    go_ret
    exact .inl ⟨Hq0.out, rfl, HK1.out⟩
  · obtain ⟨ab, hab, hf, hb1, hb2⟩ := firstB_some hqx hq0
    have hA := HA.out
    rw [if_neg hq0, hf, Int.toNat_natCast] at hA
    have Hq0 := Lib.hid hq0
    have HA2 := Lib.hid hA
    have hna : M.at ab = none := by
      cases e : M.at ab with
      | none => rfl
      | some p => rw [HC.out ab p e] at hb1; cases hb1
    have Hna := Lib.hid hna
    clear HA hA hq0 hb2 hna HC hqx
    go_enter Tryz.func21, Tryz.ntmps21
    go_wp2_with fail
    refine HR.out.mono ?_
    rintro e w1 ⟨Lf, rfl, g1, g2, g3, g4, hRw, k1⟩
    obtain ⟨cx, tx, hb, hvx, hdx, hlx⟩ := id hRw
    have r0 := hb.cell' (i := 0) rfl
    have hFi := vcfirst_calls hvx (ht.keeps k1 (by simp))
    rw [hf] at hFi
    have HFi := Lib.hid hFi
    have HM1 := Lib.hid (HM.out.keepsNil k1)
    have c2 := HM1.out.b.cell' (i := 2) rfl
    have HK1 := Lib.hid k1
    have HRw := Lib.hid hRw
    have hab' : ¬ ((ab : Int) < 0) := by omega
    clear hFi hb hvx hdx hRw k1 hf hb1
    go_wp2_with fail
    refine HFi.out.mono ?_
    rintro e w' ⟨rfl, rfl⟩
    go_wp2_with fail
    refine HFi.out.mono ?_
    rintro e w' ⟨rfl, rfl⟩
    go_wp2_with fail
    clear r0 c1 c2 HR HFi
    have hqb : ∀ i p, M.at i = some p → (L i).g ≠ Lf.g ∧ (L i).d ≠ Lf.d := fun i p hp => by
      have := (HM.out.row i p hp).lt
      omega
    have Hqb := Lib.hid hqb
    have Hg := Lib.hid (show w.heap.size ≤ Lf.r ∧ w.heap.size ≤ Lf.v ∧ w.heap.size ≤ Lf.g ∧ w.heap.size ≤ Lf.d from ⟨g1, g2, g3, g4⟩)
    have HM0 := Lib.hid (show Mx w1 pm pb n z (addTo M ab q 0) L from by rw [addTo_zero]; exact HM1.out)
    clear hqb g1 g2 g3 g4 HM1
    obtain ⟨w1b, hw1b⟩ : ∃ w1b, w1b = w1 := ⟨_, rfl⟩
    go_loopw [46] (fun i wr => ∃ k : Nat, k ≤ n ∧ i = .int .i64 k ∧ Mx wr pm pb n z (addTo M ab q k) L ∧ RwAt wr Lf n z q ∧ Keeps Fl w wr) (fun i _ => n - (intOf i).toNat)
    case atStart => exact ⟨0, Nat.zero_le _, rfl, HM0.out, HRw.out, HK1.out.nil⟩
    case round =>
      clear HM0 HRw HK1
      obtain ⟨k, hk, rfl, hMr, hRr, hKr⟩ := hrel
      by_cases hlt : k < n
      · have hpk := hMr.ptr hlt
        have hat : (addTo M ab q k).at k = M.at k := addTo_here (by rw [hml]; exact hlt)
        rw [hat] at hpk
        have hkn : (k : Int) < (n : Int) := by omega
        cases hak : M.at k with
        | none =>
          rw [hak] at hpk
          simp only [ptrOf] at hpk
          have Hst := Lib.hid (addTo_step_none (a := ab) (r := q) hak)
          have HMr := Lib.hid hMr
          have HRr := Lib.hid hRr
          have HKr := Lib.hid hKr
          clear hMr hRr hKr hak hat
          go_wp2_with fail
          go_roundw
          case rel => exact ⟨k + 1, by omega, by go_num, by rw [Hst.out]; exact HMr.out, HRr.out, HKr.out⟩
          case measure => simp [intOf]; omega
        | some p =>
          rw [hak] at hpk hat
          simp only [ptrOf] at hpk
          have hRp := hMr.row k p hat
          obtain ⟨cx, tx, hb, hvx, hdx, hlx⟩ := id hRp
          have r0 := hb.cell' (i := 0) rfl
          have hH := vchas_calls hvx ab hab
          obtain ⟨q1, q2⟩ := Hqb.out k p hak
          have hXr := rwxor_calls hRp hRr q1 q2 hz2
          have HMr := Lib.hid hMr
          have HRr := Lib.hid hRr
          have HKr := Lib.hid hKr
          have HH := Lib.hid hH
          have HXr := Lib.hid hXr
          have HRp := Lib.hid hRp
          have Hat := Lib.hid hat
          have Hak := Lib.hid hak
          clear hMr hRr hKr hH hXr hb hvx hdx hRp hat hak hlx
          cases htb : p.x.testBit ab with
          | false =>
            rw [htb] at HH
            have Hst := Lib.hid (addTo_step_keep (r := q) Hak.out htb)
            clear htb
            go_wp2_with fail
            refine HH.out.mono ?_
            rintro e w' ⟨rfl, rfl⟩
            go_wp2_with fail
            go_roundw
            case rel => exact ⟨k + 1, by omega, by go_num, by rw [Hst.out]; exact HMr.out, HRr.out, HKr.out⟩
            case measure => simp [intOf]; omega
          | true =>
            rw [htb] at HH
            have Hst := Lib.hid (addTo_next (r := q) (by rw [hml]; exact hlt) Hak.out htb)
            clear htb
            go_wp2_with fail
            refine HH.out.mono ?_
            rintro e w' ⟨rfl, rfl⟩
            go_wp2_with fail
            refine HXr.out.mono ?_
            rintro e w5 ⟨rfl, hR5, k5⟩
            have HR5 := Lib.hid hR5
            have Hk5 := Lib.hid k5
            clear hR5 k5
            go_wp2_with fail
            go_roundw
            case rel =>
              refine ⟨k + 1, by omega, by go_num, HMr.out.upd (by rw [addTo_len, addTo_len]) (fun i hi => addTo_other hi) Hat.out Hst.out HR5.out Hk5.out, HRr.out.other HRp.out (fun e => q1 e.symm) (fun e => q2 e.symm) Hk5.out, ?_⟩
              refine HKr.out.trans' Hk5.out (fun _ h => .inl h) (fun x hx => .inl ?_)
              obtain ⟨_, _, f3, f4⟩ := HF.out.2.2.1 k p Hak.out
              simp only [List.mem_cons, List.not_mem_nil, or_false] at hx
              rcases hx with rfl | rfl
              · exact f3
              · exact f4
            case measure => simp [intOf]; omega
      · obtain rfl : k = n := by omega
        have e2 := hMr.b.cell' (i := 2) rfl
        have hpa := hMr.ptr hab
        have fr := hMr.r.frozen ab
        have hki : (ab : Int) < (k : Int) := by omega
        have hb2 := hMr.b.setOther (a := ⟨pb, ab, none⟩) (P0 Lf.r) (hMr.b.ne hMr.r (by decide))
        have hrk : rank (addTo M ab q k) = rank M := addTo_rank _ _ _ _
        rw [hrk] at hb2
        have hrl := rank_le M
        have HA3 := Lib.hid (iadd_calls (i := 3) _ _ hb2 (rank M) rfl (by omega))
        have HMr := Lib.hid hMr
        have HRr := Lib.hid hRr
        have HKr := Lib.hid hKr
        clear hMr hRr hKr hb2 hrk
        go_wp2_with fail
        refine HA3.out.mono ?_
        rintro e w6 ⟨rfl, hw6⟩
        have Hw6 := Lib.hid hw6
        clear hw6
        go_wp2_with fail
        go_ret
        have hw6 := Hw6.out
        obtain ⟨f1, f2, f3, f4⟩ := HF.out
        have hput := HMr.out.put hml Hna.out hab HRr.out Hqb.out rfl hw6
        have hk7 : Keeps Fl w w6 := by
          rw [hw6]
          exact (HKr.out.setCell (.inl f2) _).setCell (.inl f1) _
        have hlt6 := HRr.out.lt
        have hsz : wr.heap.size ≤ w6.heap.size := by rw [hw6]; simp [World.setCell]
        obtain ⟨G1, G2, G3, G4⟩ := Hg.out
        refine .inr ⟨Hq0.out, rfl, Lf.r :: Lf.v :: Lf.g :: Lf.d :: Fl, ⟨pb, _, by rw [HA2.out]; exact hput, by simp [f1], by simp [f2], fun i p hp => ?_, fun x hx => ?_⟩, fun x hx => ?_, hk7⟩
        · rw [HA2.out] at hp
          by_cases hia : i = ab
          · subst hia; simp
          · have hi := Mtx.at_lt hp
            rw [madd_len] at hi
            rw [madd_at M ab q hi (by omega), if_neg hia] at hp
            simp only [if_neg hia]
            cases e2 : M.at i with
            | none => rw [e2] at hp; cases hp
            | some p0 =>
              obtain ⟨h1, h2, h3, h4⟩ := f3 i p0 e2
              simp [h1, h2, h3, h4]
        · simp only [List.mem_cons] at hx
          rcases hx with rfl | rfl | rfl | rfl | hx
          · omega
          · omega
          · omega
          · omega
          · have := f4 x hx; have := hk7.size; omega
        · simp only [List.mem_cons] at hx
          rcases hx with rfl | rfl | rfl | rfl | hx
          · exact .inr G1
          · exact .inr G2
          · exact .inr G3
          · exact .inr G4
          · exact .inl hx

end Go.Proofs.YtghgmchgbhdldaaGreatDoor
