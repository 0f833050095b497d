/-
  WhOp: Open and Room of package wheel, walked.
-/
import Derived.Test.YtghgmchgbhdldaaWhO
set_option linter.unusedVariables false
namespace Go.Proofs.Ytghgmchgbhdldaa
open Go.RowKit
attribute [local go_sem ↓] Go.wp_at_zero Go.wp_at_succ

/-- A wheel in memory: its struct in block u, the row of its records in block g; its flash in blocks p and q. -/
structure WhAt (w : World) (p q u : Nat) (g : Option Nat) (F : Fla) (V : Whl) : Prop where
  fla : FlaAt w p q F
  s1 : 1 ≤ V.size
  s2 : V.size ≤ 16
  pu : p < u
  qu : q < u
  next : V.next ≤ 8 * places V.size
  lens : V.l.length ≤ 144 + V.next
  dat : ∀ d, d ∈ V.l → d.2.length = V.size
  own : ∃ v, v.ownBlock = g ∧ WhB w p u V.gen V.size v V.ready V.next ∧ Recs w (u + 1) v V.l

theorem recsAt_len (F : Fla) (gen : UInt32) (s k : Nat) : ∀ n, (F.recsAt gen s k n).length ≤ n
  | 0 => by simp [Fla.recsAt]
  | n + 1 => by
    have := recsAt_len F gen s k n
    rw [Fla.recsAt, List.length_append]
    cases F.recAt gen s (k + n) <;> simp <;> omega

theorem readTo_len (F : Fla) (gen : UInt32) (s : Nat) : ∀ n, (F.readTo gen s n).1.length ≤ n * places s
  | 0 => by simp [Fla.readTo]
  | n + 1 => by
    have := readTo_len F gen s n
    have h2 := recsAt_len F gen s (n * places s) (places s)
    rw [Fla.readTo, Fla.readSec, Nat.add_mul]
    split
    · omega
    · rw [List.length_append]; omega

theorem readTo_ready (F : Fla) (gen : UInt32) (s : Nat) : ∀ n, -1 ≤ (F.readTo gen s n).2 ∧ (F.readTo gen s n).2 < n
  | 0 => by simp [Fla.readTo]
  | n + 1 => by
    have := readTo_ready F gen s n
    rw [Fla.readTo, Fla.readSec]
    split <;> omega

theorem trim_le (F : Fla) (s first : Nat) : ∀ n, F.trim s first n ≤ n
  | 0 => by simp [Fla.trim]
  | n + 1 => by
    have := trim_le F s first n
    rw [Fla.trim]
    split <;> omega

theorem recAt_dat {F : Fla} (hb : F.b.length = 3584) {gen : UInt32} {s k : Nat} (h1 : 1 ≤ s) (hs : s ≤ 16) (hk : k < 8 * places s) {r : Rec} (h : F.recAt gen s k = some r) : r.2.length = s := by
  have htop := whAt_top h1 hs hk
  have hl : (F.place s k).length = s + 13 := by unfold Fla.place wide; unfold wide at htop; rw [List.length_take, List.length_drop, hb]; omega
  unfold Fla.recAt at h
  split at h
  · simp at h
  · unfold recOf at h
    split at h
    · simp at h
    · split at h
      · simp at h
      · rename_i m hm
        split at h
        · simp only [Option.some.injEq] at h
          subst h
          have := congrArg List.length (crcRight_some hm).1
          rw [crcPut_len, List.length_take, hl] at this
          show (m.drop 8).length = s
          rw [List.length_drop]
          omega
        · simp at h

theorem recsAt_dat {F : Fla} (hb : F.b.length = 3584) {gen : UInt32} {s k : Nat} (h1 : 1 ≤ s) (hs : s ≤ 16) : ∀ n, k + n ≤ 8 * places s → ∀ d, d ∈ F.recsAt gen s k n → d.2.length = s
  | 0, _, d, hd => by simp [Fla.recsAt] at hd
  | n + 1, hk, d, hd => by
    rw [Fla.recsAt, List.mem_append] at hd
    rcases hd with hd | hd
    · exact recsAt_dat hb h1 hs n (by omega) d hd
    · exact recAt_dat hb h1 hs (k := k + n) (by omega) (by simpa using hd)

theorem readTo_dat {F : Fla} (hb : F.b.length = 3584) {gen : UInt32} {s : Nat} (h1 : 1 ≤ s) (hs : s ≤ 16) : ∀ n, n ≤ 8 → ∀ d, d ∈ (F.readTo gen s n).1 → d.2.length = s
  | 0, _, d, hd => by simp [Fla.readTo] at hd
  | n + 1, hn, d, hd => by
    rw [Fla.readTo, Fla.readSec] at hd
    split at hd
    · exact readTo_dat hb h1 hs n (by omega) d hd
    · rcases List.mem_append.1 hd with hd | hd
      · exact readTo_dat hb h1 hs n (by omega) d hd
      · have := Nat.mul_le_mul_right (places s) (show n + 1 ≤ 8 by omega)
        rw [Nat.add_mul] at this
        exact recsAt_dat hb h1 hs _ (by omega) d hd

theorem open_next (F : Fla) (gen : UInt32) (s : Nat) : (F.openWh gen s).next ≤ 8 * places s := by
  have h1 := readTo_ready F gen s 8
  show F.nextOf s (F.readTo gen s 8).2 ≤ _
  unfold Fla.nextOf
  split
  · omega
  · have h2 := trim_le F s ((F.readTo gen s 8).2.toNat * places s) (places s)
    have h3 : ((F.readTo gen s 8).2.toNat + 1) * places s ≤ 8 * places s := Nat.mul_le_mul_right _ (by omega)
    rw [Nat.add_mul] at h3
    omega

theorem open_len (F : Fla) (gen : UInt32) (s : Nat) (h1 : 1 ≤ s) (hs : s ≤ 16) : (F.openWh gen s).l.length ≤ 144 := by
  have h := readTo_len F gen s 8
  have hp := places_bounds h1 hs
  show (F.readTo gen s 8).1.length ≤ 144
  omega

set_option maxRecDepth 100000 in
theorem room_calls {w : World} {p q u : Nat} {g : Option Nat} {F : Fla} {V : Whl} (h : WhAt w p q u g F V) :
    Calls Try.prog 23 #[.pointer (some ⟨u, 0, none⟩)] w fun e w' => e = .returned (.int .i64 V.room) ∧ ∃ n, w' = w.drewN n := by
  obtain ⟨v, _, hW, _⟩ := h.own
  have hp := places_bounds h.s1 h.s2
  have hn := h.next
  have hP := fun n => (places_calls (w := w.drewN n) (u := u) (s := V.size) (hW.cell' (i := 2) rfl) h.s2).mono (fun _ _ h => (⟨h.1, h.2.symm⟩ : _ ∧ _ = w.drewN n))
  have c5 := hW.cell' (i := 5) rfl
  have hr : V.room = 8 * (places V.size : Int) - V.next := rfl
  rw [hr]
  clear hW h hr
  generalize places V.size = P at *
  generalize V.next = N at *
  go_enter Try.func23, Try.ntmps23
  go_wp2_with fail
  go_quiet (first | (go_at_call 56; exact Calls.quiet_of_same (hP _)))
  go_wp2_with fail
  go_ret
  exact ⟨rfl, nq, rfl⟩

set_option maxRecDepth 100000 in
theorem room_nil {w : World} : Calls Try.prog 23 #[.pointer none] w fun e w' => e = .returned (.int .i64 0) ∧ w = w' := by
  go_enter Try.func23, Try.ntmps23
  go_wp2_with fail
  go_ret
  exact ⟨rfl, rfl⟩

def NilPost (w : World) (z : Int) (e : Ending) (w' : World) : Prop := e = .returned (.tuple #[.pointer none, .int .i64 z]) ∧ Keeps [] w w'

set_option maxRecDepth 100000 in
theorem open_nil {w : World} (gen : UInt32) (s : Int) : Calls Try.prog 20 #[.pointer none, B32 gen, .int .i64 s] w (NilPost w 1) := by
  go_enter Try.func20, Try.ntmps20
  go_wp2_with fail
  go_ret2
  exact ⟨rfl, Keeps.refl _ _⟩

set_option maxRecDepth 100000 in
theorem open_bad {w : World} (p : Nat) (gen : UInt32) (s : Int) (hs : s < 1 ∨ 16 < s) : Calls Try.prog 20 #[.pointer (some ⟨p, 0, none⟩), B32 gen, .int .i64 s] w (NilPost w 1) := by
  by_cases h1 : s < 1
  · go_enter Try.func20, Try.ntmps20
    go_wp2_with fail
    go_ret2
    exact ⟨rfl, Keeps.refl _ _⟩
  · have h2 : 16 < s := by omega
    go_enter Try.func20, Try.ntmps20
    go_wp2_with fail
    go_ret2
    exact ⟨rfl, Keeps.refl _ _⟩

set_option maxRecDepth 100000 in
theorem open_down {w : World} {p q : Nat} {F : Fla} (h : FlaAt w p q F) (hd : F.down = true) (gen : UInt32) (s : Nat) (h1 : 1 ≤ s) (hs : s ≤ 16) :
    Calls Try.prog 20 #[.pointer (some ⟨p, 0, none⟩), B32 gen, .int .i64 s] w (NilPost w 11) := by
  have hR := read_calls h 0 0
  have hr : F.read 0 0 = ([], 11) := by simp [Fla.read, Fla.ready, hd]
  unfold ReadPost at hR
  rw [hr] at hR
  clear h hd hr
  go_enter Try.func20, Try.ntmps20
  go_wp2_with fail
  refine hR.mono ?_
  rintro e w1 ⟨v, rfl, hv, hk⟩
  obtain ⟨a, c, rfl, _⟩ := hv.sl
  go_wp2_with fail
  go_ret2
  exact ⟨rfl, hk⟩

def nextI : Option Value → Nat
  | some (.int _ n) => n.toNat
  | _ => 0

def OpenPost (w : World) (p q : Nat) (F : Fla) (gen : UInt32) (s : Nat) (e : Ending) (w' : World) : Prop :=
  ∃ u g, e = .returned (.tuple #[.pointer (some ⟨u, 0, none⟩), .int .i64 0]) ∧ w.heap.size ≤ u ∧ WhAt w' p q u g F (F.openWh gen s) ∧ Keeps [] w w'

set_option maxRecDepth 100000 in
set_option maxHeartbeats 2000000 in
theorem open_ok {w : World} {p q : Nat} {F : Fla} (h : FlaAt w p q F) (hd : F.down = false) (gen : UInt32) (s : Nat) (h1 : 1 ≤ s) (hs : s ≤ 16) :
    Calls Try.prog 20 #[.pointer (some ⟨p, 0, none⟩), B32 gen, .int .i64 s] w (OpenPost w p q F gen s) := by
  have hR := read_calls h 0 0
  have hr : F.read 0 0 = ([], 0) := by simp [Fla.read, Fla.ready, hd]
  unfold ReadPost at hR
  rw [hr] at hR
  clear hd hr
  have hp := places_bounds h1 hs
  have hlp := h.ltp
  have hlq := h.ltq
  have hlen := open_len F gen s h1 hs
  have hnx := open_next F gen s
  have hop : F.openWh gen s = ⟨gen, s, (F.readTo gen s 8).1, (F.readTo gen s 8).2, F.nextOf s (F.readTo gen s 8).2⟩ := rfl
  have hrd := readTo_ready F gen s 8
  have Hop := Lib.hid hop
  have Hlen := Lib.hid hlen
  have Hnx := Lib.hid hnx
  have Hdat := Lib.hid (show ∀ d, d ∈ (F.openWh gen s).l → d.2.length = s from fun d hd => readTo_dat h.len h1 hs 8 (Nat.le_refl _) d hd)
  clear hop hlen hnx
  go_enter Try.func20, Try.ntmps20
  go_wp2_with fail
  refine hR.mono ?_
  rintro e w1 ⟨v, rfl, hv, hk⟩
  obtain ⟨a, c, rfl, _⟩ := hv.sl
  have hsz := hk.size
  have hF1 := Lib.hid (h.keeps hk (by simp) (by simp))
  have Hk := Lib.hid hk
  clear hR hv hk
  go_wp2_with fail
  go_loopw [36] (fun i wr => ∃ (k : Nat) (v : Value), k ≤ 8 ∧ i = .int .i64 k ∧ WhB wr p w1.heap.size gen s v (F.readTo gen s k).2 0 ∧ Recs wr (w1.heap.size + 1) v (F.readTo gen s k).1 ∧ FlaAt wr p q F ∧ Keeps [] w1 wr) (fun i _ => 8 - (intOf i).toNat)
  case atStart => exact ⟨0, .slice none 0 0, by omega, rfl, Blk.newA w1 _ _, Recs.nil _ _, hF1.out.alloc _, (Keeps.refl [] w1).alloc _⟩
  case round =>
    obtain ⟨k, v, hk8, rfl, hW, hRc, hF, hK⟩ := hrel
    by_cases hlt : k < 8
    · have hl := readTo_len F gen s k
      have hC := reads_calls hF h1 hs (u := w1.heap.size) (B := w1.heap.size + 1) (by omega) (by omega) (by omega) hW.lt hW hRc (by have : k * places s ≤ 8 * 18 := Nat.mul_le_mul (by omega) hp.2; omega) k hlt
      clear hW hRc hl
      go_wp2_with fail
      refine hC.mono ?_
      rintro e w2 ⟨rfl, v2, hW2, hR2, hK2⟩
      go_wp2_with fail
      go_roundw
      case rel =>
        refine ⟨k + 1, v2, by omega, by go_num, hW2, hR2, hK2.fla hF (by omega) (by omega), ?_⟩
        obtain ⟨S, hS, hk2⟩ := hK2
        exact hK.trans' hk2 (by simp) (fun x hx => .inr (hS x hx))
      case measure => simp [intOf]; omega
    · obtain rfl : k = 8 := by omega
      have hst : F.readTo gen s 8 = ((F.readTo gen s 8).1, (F.readTo gen s 8).2) := rfl
      generalize (F.readTo gen s 8).2 = R at *
      generalize (F.readTo gen s 8).1 = L at *
      clear hst
      have c4 := hW.cell' (i := 4) rfl
      have HW := Lib.hid hW
      have HR := Lib.hid hRc
      have HK := Lib.hid hK
      have HF := Lib.hid hF
      clear hW hRc hK hF
      by_cases hneg : R < 0
      · have hn0 : F.nextOf s R = 0 := by unfold Fla.nextOf; rw [if_pos hneg]
        have Hn0 := Lib.hid hn0
        clear hn0
        go_wp2_with fail
        go_ret2
        refine ⟨w1.heap.size, _, rfl, hsz, ⟨HF.out, h1, hs, by omega, by omega, Hnx.out, by have := Hlen.out; omega, Hdat.out, v, rfl, ?_, ?_⟩, Hk.out.trans HK.out⟩
        · rw [Hop.out, Hn0.out]; exact HW.out
        · rw [Hop.out]; exact HR.out
      · obtain ⟨k, rfl⟩ : ∃ k : Nat, R = k := ⟨R.toNat, by omega⟩
        have hk8 : k < 8 := by omega
        have hle : k * places s + places s ≤ 8 * places s := by
          have := Nat.mul_le_mul_right (places s) (show k + 1 ≤ 8 by omega)
          rw [Nat.add_mul] at this
          omega
        have hn0 : F.nextOf s (k : Int) = k * places s + F.trim s (k * places s) (places s) := by unfold Fla.nextOf; rw [if_neg hneg]; rfl
        have hT : ∀ j, F.trim s (k * places s) (j + 1) = if F.blank (whAt s (k * places s + j)) (wide s) then F.trim s (k * places s) j else j + 1 := fun j => rfl
        have hT0 : F.trim s (k * places s) 0 = 0 := rfl
        have hPl := fun (w : World) (h : w.cell? ⟨w1.heap.size, 2, none⟩ = some (.int .i64 s)) => places_calls h hs
        have hWd := fun (w : World) (h : w.cell? ⟨w1.heap.size, 2, none⟩ = some (.int .i64 s)) => wide_calls h hs
        have hAt := fun (w : World) (h : w.cell? ⟨w1.heap.size, 2, none⟩ = some (.int .i64 s)) (i : Nat) (hi : i ≤ 200) => whAtK_calls h h1 hs i hi
        have hBl := fun (w : World) (h : FlaAt w p q F) (i : Nat) => blank_calls h (whAt s i) (wide s)
        have Hn0 := Lib.hid hn0
        clear hn0
        generalize hP : places s = P at *
        generalize hA : k * P = A at *
        have hAi : (k : Int) * (P : Int) = (A : Int) := by rw [← Int.natCast_mul, hA]
        have hA2 : A ≤ 200 := by omega
        have c2 := HW.out.cell' (i := 2) rfl
        have c5 := HW.out.cell' (i := 5) rfl
        have f5 := HW.out.frozen 5
        have hul := HW.out.lt
        have hPq := fun n => (hPl (wr.drewN n) c2).mono (fun _ _ h => (⟨h.1, h.2.symm⟩ : _ ∧ _ = wr.drewN n))
        go_wp2_with fail
        go_quiet (first | (go_at_call 56; exact Calls.quiet_of_same (hPq _)))
        have hPq0 := (hPq nq).mono (fun _ _ h => (⟨h.1, h.2.symm⟩ : _ ∧ wr.drewN nq = _))
        have HW2 := Lib.hid (HW.out.drewN nq)
        have HR2 := Lib.hid (HR.out.keeps ((Keeps.refl [] wr).drewN nq) (by simp))
        have HF2 := Lib.hid (HF.out.drewN nq)
        have HK2 := Lib.hid (HK.out.drewN nq)
        have c5' : (wr.drewN nq).cell? ⟨w1.heap.size, 5, none⟩ = _ := c5
        have f5' : (wr.drewN nq).frozen? ⟨w1.heap.size, 5, none⟩ = _ := f5
        clear hPq c2 c4 c5 f5 hul HW HR HF HK
        generalize wr.drewN nq = w3 at *
        go_wp2_with fail
        refine hPq0.mono ?_
        rintro e w4 ⟨rfl, rfl⟩
        go_wp2_with fail
        have Hhk := Lib.hid hAi
        clear hAi hPq0 c5' f5' hPl
        go_loopw [] (fun wx => ∃ j : Nat, j ≤ P ∧ WhB wx p w1.heap.size gen s v k ((A + j : Nat) : Int) ∧ Recs wx (w1.heap.size + 1) v L ∧ FlaAt wx p q F ∧ Keeps [] w1 wx ∧ F.trim s A j = F.trim s A P) (fun wx => nextI (wx.cell? ⟨w1.heap.size, 5, none⟩))
        case atStart => exact ⟨P, Nat.le_refl _, HW2.out.setN _, HR2.out.keeps (S := [w1.heap.size]) ((Keeps.refl _ _).setCell (by simp) _) (by simp), HF2.out.keeps (S := [w1.heap.size]) ((Keeps.refl _ _).setCell (by simp) _) (by simp; omega) (by simp; omega), HK2.out.setCell (by simp) _, rfl⟩
        case round =>
          obtain ⟨j, hj, hW, hRc, hF, hK, hTr⟩ := hrel
          have c5 := hW.cell' (i := 5) rfl
          have f5 := hW.frozen 5
          have c2 := hW.cell' (i := 2) rfl
          have HW := Lib.hid hW
          have HRc := Lib.hid hRc
          have HF := Lib.hid hF
          have HK := Lib.hid hK
          have hul := hW.lt
          clear hW hRc hF hK
          cases j with
          | zero =>
            rw [hT0] at hTr
            have HTr := Lib.hid hTr
            clear hTr hT hT0 hBl hWd hAt
            rw [Nat.add_zero] at c5
            go_wp2_with fail
            go_ret2
            refine ⟨w1.heap.size, _, rfl, hsz, ⟨HF.out, h1, hs, by omega, by omega, by rw [show (F.openWh gen s).size = s from rfl, hP]; exact Hnx.out, by have := Hlen.out; omega, Hdat.out, v, rfl, ?_, ?_⟩, Hk.out.trans HK.out⟩
            · rw [Hop.out, Hn0.out, ← HTr.out]; exact HW.out
            · rw [Hop.out]; exact HRc.out
          | succ i =>
            rw [hT i] at hTr
            have hAtN := fun (w : World) (h : w.cell? ⟨w1.heap.size, 2, none⟩ = some (.int .i64 s)) => hAt w h (A + i) (by omega)
            have hBlN := fun (w : World) (h : FlaAt w p q F) => hBl w h (A + i)
            have e1 : ((A + (i + 1) : Nat) : Int) = ((A + i : Nat) : Int) + 1 := by omega
            rw [e1] at c5
            have hlt1 : (A : Int) < ((A + i : Nat) : Int) + 1 := by omega
            have hN3 : A + i ≤ 300 := by omega
            have hW1 := HW.out
            rw [e1] at hW1
            have HW1 := Lib.hid hW1
            have hNi := Lib.hid (rfl : A + i = A + i)
            clear hT hBl hAt e1 hW1
            generalize whAt s (A + i) = T at *
            generalize hN : A + i = N at *
            have HN := Lib.hid hN
            clear hN
            by_cases hb : F.blank T (wide s) = true
            · rw [if_pos hb] at hTr
              have HTr := Lib.hid hTr
              simp only [hb] at hBlN
              clear hTr hT0 hb
              go_wp2_with fail
              refine (hAtN _ c2).mono ?_
              rintro e w5 ⟨rfl, hk5⟩
              have c2' := hk5.cell c2
              go_wp2_with fail
              refine (hWd _ c2').mono ?_
              rintro e w6 ⟨rfl, rfl⟩
              go_wp2_with fail
              refine (hBlN _ (HF.out.keeps hk5 (by simp) (by simp))).mono ?_
              rintro e w6 ⟨rfl, hk6⟩
              have hk56 := hk5.trans hk6
              have c5' := hk56.cell c5
              have hW6 := HW1.out.keeps hk56 (by simp)
              have f5' := hW6.frozen 5
              go_wp2_with fail
              refine ⟨⟨i, by omega, ?_, ?_, ?_, (HK.out.trans hk56).setCell (by simp) _, HTr.out⟩, ?_⟩
              · rw [HN.out]; exact WhB.setN hW6 _
              · exact (HRc.out.keeps hk56 (by simp)).keeps (S := [w1.heap.size]) ((Keeps.refl _ _).setCell (by simp) _) (by simp)
              · exact (HF.out.keeps hk56 (by simp) (by simp)).keeps (S := [w1.heap.size]) ((Keeps.refl _ _).setCell (by simp) _) (by simp; omega) (by simp; omega)
              · rw [c5, (WhB.setN hW6 (N : Int)).cell' (i := 5) rfl]
                simp only [nextI]
                omega
            · rw [if_neg hb] at hTr
              have HTr := Lib.hid hTr
              have hb' : F.blank T (wide s) = false := by simpa using hb
              simp only [hb'] at hBlN
              clear hTr hT0 hb hb'
              go_wp2_with fail
              refine (hAtN _ c2).mono ?_
              rintro e w5 ⟨rfl, hk5⟩
              have c2' := hk5.cell c2
              go_wp2_with fail
              refine (hWd _ c2').mono ?_
              rintro e w6 ⟨rfl, rfl⟩
              go_wp2_with fail
              refine (hBlN _ (HF.out.keeps hk5 (by simp) (by simp))).mono ?_
              rintro e w6 ⟨rfl, hk6⟩
              have hk56 := hk5.trans hk6
              go_wp2_with fail
              go_ret2
              refine ⟨w1.heap.size, _, rfl, hsz, ⟨HF.out.keeps hk56 (by simp) (by simp), h1, hs, by omega, by omega, by rw [show (F.openWh gen s).size = s from rfl, hP]; exact Hnx.out, by have := Hlen.out; omega, Hdat.out, v, rfl, ?_, ?_⟩, Hk.out.trans (HK.out.trans hk56)⟩
              · rw [Hop.out, Hn0.out, ← HTr.out, ← Nat.add_assoc, HN.out]; exact HW1.out.keeps hk56 (by simp)
              · rw [Hop.out]; exact HRc.out.keeps hk56 (by simp)

end Go.Proofs.Ytghgmchgbhdldaa
