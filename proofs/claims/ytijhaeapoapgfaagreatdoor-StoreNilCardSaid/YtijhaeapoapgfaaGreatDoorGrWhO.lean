/-
  GrWhO: the texts WhO, WhOp, WhC, WhA, WhAdd, one behind another.
-/
import Derived.Test.YtijhaeapoapgfaaGreatDoorGrWhR
import Derived.Deep.RegionLaw
import Derived.Deep.DeepMust
import Derived.Test.YtijhaeapoapgfaaGreatDoorGrBytes
import Derived.Test.YtijhaeapoapgfaaGreatDoorGrNumB
set_option linter.unusedVariables false
namespace Go.Proofs.YtijhaeapoapgfaaGreatDoor
open Go.RowKit
attribute [local go_sem ↓] Go.wp_at_zero Go.wp_at_succ

/-- A wheel's own struct, in block u. -/
def WhB (w : World) (p u : Nat) (gen : UInt32) (s : Nat) (v : Value) (ready next : Int) : Prop :=
  Blk w u 173 [.pointer (some ⟨p, 0, none⟩), B32 gen, .int .i64 s, v, .int .i64 ready, .int .i64 next]

/-- What lies below block u is as it was. -/
def Kab (u : Nat) (w w' : World) : Prop := ∃ S : List Nat, (∀ x, x ∈ S → u ≤ x) ∧ Keeps S w w'

theorem Kab.refl (u : Nat) (w : World) : Kab u w w := ⟨[], by simp, Keeps.refl [] w⟩
theorem Kab.trans {u : Nat} {a b c : World} (h : Kab u a b) (k : Kab u b c) : Kab u a c := by
  obtain ⟨S, h1, h2⟩ := h
  obtain ⟨T, k1, k2⟩ := k
  exact ⟨S ++ T, fun x hx => by rcases List.mem_append.1 hx with h | h <;> first | exact h1 x h | exact k1 x h, h2.trans' k2 (fun x hx => .inl (List.mem_append_left _ hx)) (fun x hx => .inl (List.mem_append_right _ hx))⟩
theorem Keeps.kab {u : Nat} {S : List Nat} {a b : World} (h : Keeps S a b) (hS : ∀ x, x ∈ S → u ≤ x) : Kab u a b := ⟨S, hS, h⟩
theorem Kab.fla {u p q : Nat} {F : Fla} {a b : World} (h : Kab u a b) (hF : FlaAt a p q F) (hp : p < u) (hq : q < u) : FlaAt b p q F := by
  obtain ⟨S, h1, h2⟩ := h
  exact hF.keeps h2 (fun hm => by have := h1 _ hm; omega) (fun hm => by have := h1 _ hm; omega)
theorem Kab.size {u : Nat} {a b : World} (h : Kab u a b) : a.heap.size ≤ b.heap.size := by
  obtain ⟨S, h1, h2⟩ := h
  exact h2.size

theorem WhB.setL {w : World} {p u s : Nat} {gen : UInt32} {v : Value} {r n : Int} (h : WhB w p u gen s v r n) (v' : Value) : WhB (w.setCell ⟨u, 3, none⟩ v') p u gen s v' r n := Blk.set h 3 v'
theorem WhB.setR {w : World} {p u s : Nat} {gen : UInt32} {v : Value} {r n : Int} (h : WhB w p u gen s v r n) (r' : Int) : WhB (w.setCell ⟨u, 4, none⟩ (.int .i64 r')) p u gen s v r' n := Blk.set h 4 _
theorem WhB.setN {w : World} {p u s : Nat} {gen : UInt32} {v : Value} {r n : Int} (h : WhB w p u gen s v r n) (n' : Int) : WhB (w.setCell ⟨u, 5, none⟩ (.int .i64 n')) p u gen s v r n' := Blk.set h 5 _

theorem WhB.keeps {S : List Nat} {w w' : World} {p u s : Nat} {gen : UInt32} {v : Value} {r n : Int} (h : WhB w p u gen s v r n) (k : Keeps S w w') (hu : u ∉ S) : WhB w' p u gen s v r n := Blk.keeps h k hu
theorem WhB.alloc {w : World} {p u s : Nat} {gen : UInt32} {v : Value} {r n : Int} (h : WhB w p u gen s v r n) (o : Obj) : WhB (w.alloc o) p u gen s v r n := Blk.alloc h o
theorem WhB.drew {w : World} {p u s : Nat} {gen : UInt32} {v : Value} {r n : Int} (h : WhB w p u gen s v r n) : WhB w.drew p u gen s v r n := h

theorem WhB.drewN {w : World} {p u s : Nat} {gen : UInt32} {v : Value} {r n : Int} (h : WhB w p u gen s v r n) (k : Nat) : WhB (w.drewN k) p u gen s v r n := h

def ReadsPost (w : World) (p u B : Nat) (gen : UInt32) (s : Nat) (next : Int) (st : List Rec × Int) (e : Ending) (w' : World) : Prop :=
  e = .returned (.tuple #[]) ∧ ∃ v, WhB w' p u gen s v st.2 next ∧ Recs w' B v st.1 ∧ Kab u w w'

set_option maxRecDepth 100000 in
set_option maxHeartbeats 2000000 in
theorem reads_calls {w : World} {p q u B : Nat} {F : Fla} (h : FlaAt w p q F) {gen : UInt32} {s : Nat} (h1 : 1 ≤ s) (hs : s ≤ 16) (hpu : p < u) (hqu : q < u) (huB : u < B) (hBs : B ≤ w.heap.size)
    {v : Value} {ready next : Int} {l : List Rec} (hW : WhB w p u gen s v ready next) (hR : Recs w B v l) (hl : l.length ≤ 1000) (k : Nat) (hk : k < 8) :
    Calls Tryz.prog 105 #[.pointer (some ⟨u, 0, none⟩), .int .i64 k] w (ReadsPost w p u B gen s next (F.readSec gen s (l, ready) k)) := by
  have hp := places_bounds h1 hs
  have hPl := fun (w : World) (h : w.cell? ⟨u, 2, none⟩ = some (.int .i64 s)) => places_calls h hs
  have hWh := fun (w : World) (h : FlaAt w p q F) {v : Value} {ready : Int} (hW : WhB w p u gen s v ready next) (i : Nat) (hi : i < places s) => whwhole_calls h h1 hs (hW.cell' (i := 0) rfl) (hW.cell' (i := 1) rfl) (hW.cell' (i := 2) rfl) (k * places s + i) (by
    have : (k + 1) * places s ≤ 8 * places s := Nat.mul_le_mul_right _ hk
    rw [Nat.add_mul] at this
    omega)
  have hsec : F.readSec gen s (l, ready) k = if (F.recAt gen s (k * places s)).isNone then (l, ready) else (l ++ F.recsAt gen s (k * places s) (places s), (k : Int)) := rfl
  have hst : ∀ n, F.recsAt gen s (k * places s) (n + 1) = F.recsAt gen s (k * places s) n ++ (F.recAt gen s (k * places s + n)).toList := fun n => rfl
  have hs0 : F.recsAt gen s (k * places s) 0 = [] := rfl
  have hfirst : k * places s ≤ 200 := Nat.le_trans (Nat.mul_le_mul (show k ≤ 8 by omega) hp.2) (by omega)
  have hc2 := hW.cell' (i := 2) rfl
  have hf0 := hWh w h hW 0 (by omega)
  rw [Nat.add_zero] at hf0
  generalize hP : places s = P at *
  generalize hA : k * P = A at *
  have hAi : (k : Int) * (P : Int) = (A : Int) := by rw [← Int.natCast_mul, hA]
  cases h0 : F.recAt gen s A with
  | none =>
    have E := Lib.hid (show F.readSec gen s (l, ready) k = (l, ready) by rw [hsec, h0]; rfl)
    unfold RecPost at hf0
    rw [h0] at hf0
    have HW := Lib.hid hW
    have HR := Lib.hid hR
    clear hsec hst hs0 h0 hWh hW hR
    go_enter Tryz.func105, Tryz.ntmps105
    go_wp2_with fail
    refine (hPl _ hc2).mono ?_
    rintro e w1 ⟨rfl, rfl⟩
    go_wp2_with fail
    refine hf0.mono ?_
    rintro e w1 ⟨v1, rfl, hv1, hk1⟩
    obtain ⟨a1, c1, rfl, _⟩ := hv1
    go_wp2_with fail
    go_end0
    refine ⟨rfl, v, ?_, ?_, ((hk1.alloc _).kab (by simp))⟩
    · rw [E.out]; exact HW.out.keeps (hk1.alloc _) (by simp)
    · rw [E.out]; exact HR.out.keeps (hk1.alloc _) (by simp)
  | some r0 =>
    have E := Lib.hid (show F.readSec gen s (l, ready) k = (l ++ F.recsAt gen s A P, (k : Int)) by rw [hsec, h0]; rfl)
    unfold RecPost at hf0
    rw [h0] at hf0
    obtain ⟨av, cv, rfl, _, _, _, hvo⟩ := hR.form
    have HW := Lib.hid hW
    have HR := Lib.hid hR
    have f4 := hW.frozen 4
    have c4 := hW.cell' (i := 4) rfl
    have hult := hW.lt
    clear hsec h0 hW hR
    go_enter Tryz.func105, Tryz.ntmps105
    go_wp2_with fail
    refine (hPl _ hc2).mono ?_
    rintro e w1 ⟨rfl, rfl⟩
    go_wp2_with fail
    refine hf0.mono ?_
    rintro e w1 ⟨v1, rfl, hv1, hk1⟩
    obtain ⟨a1, c1, rfl, _⟩ := hv1
    have hW1 := HW.out.keeps hk1 (by simp)
    have c4 := hW1.cell' (i := 4) rfl
    have f4 := hW1.frozen 4
    have hl1 := hW1.lt
    have hW2 := (hW1.setR (k : Int)).alloc (.cells #[.int .u32 r0.fst.toNat, .slice a1 r0.snd.length c1] 115)
    have hK2 : Kab u w ((w1.setCell ⟨u, 4, none⟩ (.int .i64 k)).alloc (.cells #[.int .u32 r0.fst.toNat, .slice a1 r0.snd.length c1] 115)) := (((hk1.nil (S := [u])).setCell (by simp) _).alloc _).kab (by simp)
    have hR2 : Hid (Recs ((w1.setCell ⟨u, 4, none⟩ (.int .i64 k)).alloc (.cells #[.int .u32 r0.fst.toNat, .slice a1 r0.snd.length c1] 115)) B (.slice av l.length cv) l) := Lib.hid (HR.out.keeps (((hk1.nil (S := [u])).setCell (by simp) _).alloc _) (by simp; omega))
    have hc2' := hW2.cell' (i := 2) rfl
    go_wp2_with fail
    refine (hPl _ hc2').mono ?_
    rintro e w2 ⟨rfl, rfl⟩
    generalize ((w1.setCell ⟨u, 4, none⟩ (.int .i64 k)).alloc (.cells #[.int .u32 r0.fst.toNat, .slice a1 r0.snd.length c1] 115)) = w2 at *
    clear hc2 hc2' c4 f4 hult hl1 hk1 hf0 hW1
    go_wp2_with fail
    go_loopw [28] (fun i wr => ∃ (n : Nat) (v : Value), n ≤ P ∧ i = .int .i64 n ∧ WhB wr p u gen s v k next ∧ Recs wr B v (l ++ F.recsAt gen s A n) ∧ (l ++ F.recsAt gen s A n).length ≤ l.length + n ∧ Kab u w wr) (fun i _ => P - (intOf i).toNat)
    case atStart => exact ⟨0, _, Nat.zero_le _, rfl, hW2, by rw [hs0, List.append_nil]; exact hR2.out, by rw [hs0, List.append_nil]; omega, hK2⟩
    case round =>
      clear hW2 hR2 hK2
      obtain ⟨n, v, hn, rfl, hW, hR, hL, hK⟩ := hrel
      have hst' := hst n
      by_cases hnP : n < P
      · have hw := hWh wr (hK.fla h hpu hqu) hW n hnP
        unfold RecPost at hw
        rw [Int.natCast_add] at hw
        have hi1 : (n : Int) < (P : Int) := by omega
        have hBw : B ≤ wr.heap.size := by have := hK.size; omega
        obtain ⟨av, cv, rfl, hlc, hcm, _, hvo⟩ := hR.form
        have HR := Lib.hid hR
        have HW := Lib.hid hW
        have HK := Lib.hid hK
        have HL := Lib.hid hL
        clear hR hK
        cases hr : F.recAt gen s (A + n) with
        | none =>
          rw [hr] at hw hst'
          have Hst := Lib.hid hst'
          clear hst' hr hst hs0 hW hL hlc hcm hvo hWh
          go_wp2_with fail
          refine hw.mono ?_
          rintro e w3 ⟨v3, rfl, hv3, hk3⟩
          obtain ⟨a3, c3, rfl, _⟩ := hv3
          go_wp2_with fail
          go_roundw
          case rel =>
            refine ⟨n + 1, _, by omega, by go_num, HW.out.keeps (hk3.alloc _) (by simp), ?_, ?_, HK.out.trans ((hk3.alloc _).kab (by simp))⟩
            · rw [Hst.out]
              have := HR.out.keeps (hk3.alloc (.cells #[.int .u32 0, .slice a3 0 c3] 115)) (by simp)
              simpa using this
            · rw [Hst.out]; have := HL.out; simp at this ⊢; omega
          case measure => simp [intOf]; omega
        | some r =>
          obtain ⟨id, d⟩ := r
          rw [hr] at hw hst'
          have Hst := Lib.hid hst'
          clear hst' hr hst hs0 hL hWh
          go_wp2_with fail
          refine hw.mono ?_
          rintro e w3 ⟨v3, rfl, hv3, hk3⟩
          dsimp only [Option.map_some, Option.getD_some] at hv3
          have hv3c := hv3
          obtain ⟨a3, c3, rfl, _⟩ := hv3c
          have hs3 := hk3.size
          have hW4 := (HW.out.keeps hk3 (by simp)).alloc (.cells #[.int .u32 id.toNat, .slice a3 d.length c3] 115)
          have hk5 : Keeps [] w3 ((w3.alloc (.cells #[.int .u32 id.toNat, .slice a3 d.length c3] 115)).alloc (.cells #[.int .u32 id.toNat, .slice a3 d.length c3] 115)).drew := (((Keeps.refl [] w3).alloc _).alloc _).drew
          have hB5 : B ≤ ((w3.alloc (.cells #[.int .u32 id.toNat, .slice a3 d.length c3] 115)).alloc (.cells #[.int .u32 id.toNat, .slice a3 d.length c3] 115)).drew.heap.size := by simp; omega
          have HR5 := Lib.hid ((HR.out.keeps hk3 (by simp)).keeps hk5 (by simp))
          have HW5 := Lib.hid ((HW.out.keeps hk3 (by simp)).keeps hk5 (by simp))
          have hx5 := (hv3.slx (N := fun k => B ≤ k ∧ Value.ownBlock (.slice av (l ++ F.recsAt gen s A n).length cv) ≠ some k) (fun k h1 h2 => ⟨by omega, fun hc => by have := hvo k hc; omega⟩)).keeps hk5 (by simp) (fun _ h _ => h)
          have HX5 := Lib.hid hx5
          have HNu := Lib.hid (show u ∉ Option.toList (Value.ownBlock (.slice av (l ++ F.recsAt gen s A n).length cv)) from by intro hm; have := hvo u (by simpa using hm); omega)
          have HNB := Lib.hid (show ∀ x, x ∈ Option.toList (Value.ownBlock (.slice av (l ++ F.recsAt gen s A n).length cv)) → B ≤ x from by intro x hm; have := hvo x (by simpa using hm); omega)
          have HB5s := Lib.hid hB5
          clear hB5
          have hb5 := Blk.newA (w3.alloc (.cells #[.int .u32 id.toNat, .slice a3 d.length c3] 115)) 115 #[.int .u32 id.toNat, .slice a3 d.length c3]
          rw [show (w3.alloc (.cells #[.int .u32 id.toNat, .slice a3 d.length c3] 115)).heap.size = w3.heap.size + 1 from by simp] at hb5
          replace hb5 := hb5.drew
          have HB5 := Lib.hid hb5
          clear hb5
          have c3' := hW4.cell' (i := 3) rfl
          have f3' := hW4.frozen 3
          have hul := hW4.lt
          have hul3 : u < w3.heap.size := by have := hW.lt; omega
          have hul4 : u < w3.heap.size + 1 := by omega
          have H3 := Lib.hid hk3
          clear hx5 hk5 hv3 hvo hW hw hk3
          generalize hM : l ++ F.recsAt gen s A n = M at *
          have hml : M.length ≤ 2000 := by have := HL.out; omega
          have HM := Lib.hid hM
          clear hM
          go_wp2_with fail
          go_region_law (first | (refine step_append_rec rfl (.tmp 44) (.tmp 46) rfl HR5.out rfl _ 1 rfl id _ d HB5.out HX5.out (by omega) HB5s.out ?_; intro g cap w6 hR6 hG6 hg6 hl6; have hk6 := (Keeps.refl _ _).grown (S := Option.toList (Value.ownBlock (.slice av M.length cv))) hG6 (by intro k hk; left; rw [hk]; simp); have hW6 := HW5.out.keeps hk6 HNu.out; have c6 := hW6.cell' (i := 3) rfl; have f6 := hW6.frozen 3))
          all_goals go_wp2_with fail
          all_goals refine ⟨⟨n + 1, _, by omega, by go_num, WhB.setL hW6 _, ?_, ?_, ?_⟩, ?_⟩
          all_goals first
            | (rw [Hst.out]
               show Recs _ B _ (l ++ (F.recsAt gen s A n ++ [(id, d)]))
               rw [← List.append_assoc, HM.out]
               exact hR6.keeps (S := [u]) ((Keeps.refl _ _).setCell (by simp) _) (by simp; omega))
            | (rw [Hst.out]
               show (l ++ (F.recsAt gen s A n ++ [(id, d)])).length ≤ _
               rw [← List.append_assoc, HM.out]
               have := HL.out
               simp
               omega)
            | exact (HK.out.trans (H3.out.kab (by simp))).trans (((Keeps.kab (S := []) (((Keeps.refl [] w3).alloc _).alloc _).drew (by simp)).trans (hk6.kab fun x hx => by have := HNB.out x hx; omega)).trans (Keeps.kab (S := [u]) ((Keeps.refl _ _).setCell (by simp) _) (by simp)))
            | (simp [intOf]; omega)
      · obtain rfl : n = P := by omega
        have HR := Lib.hid hR
        have HK := Lib.hid hK
        have HW := Lib.hid hW
        clear hst' hR hK hW hWh hst hs0
        go_wp2_with fail
        go_end0
        refine ⟨rfl, v, ?_, ?_, HK.out⟩
        · rw [E.out]; exact HW.out
        · rw [E.out]; exact HR.out

end Go.Proofs.YtijhaeapoapgfaaGreatDoor

set_option linter.unusedVariables false
namespace Go.Proofs.YtijhaeapoapgfaaGreatDoor
open Go.RowKit
attribute [local go_sem ↓] Go.wp_at_zero Go.wp_at_succ

/-- A wheel in memory: its struct in block u, the row of its records in block g; its flash in blocks p and q. -/
structure WhAt (w : World) (p q u : Nat) (g : Option Nat) (F : Fla) (V : Whl) : Prop where
  fla : FlaAt w p q F
  s1 : 1 ≤ V.size
  s2 : V.size ≤ 16
  pu : p < u
  qu : q < u
  next : V.next ≤ 8 * places V.size
  lens : V.l.length ≤ 144 + V.next
  dat : ∀ d, d ∈ V.l → d.2.length = V.size
  own : ∃ v, v.ownBlock = g ∧ WhB w p u V.gen V.size v V.ready V.next ∧ Recs w (u + 1) v V.l

theorem recsAt_len (F : Fla) (gen : UInt32) (s k : Nat) : ∀ n, (F.recsAt gen s k n).length ≤ n
  | 0 => by simp [Fla.recsAt]
  | n + 1 => by
    have := recsAt_len F gen s k n
    rw [Fla.recsAt, List.length_append]
    cases F.recAt gen s (k + n) <;> simp <;> omega

theorem readTo_len (F : Fla) (gen : UInt32) (s : Nat) : ∀ n, (F.readTo gen s n).1.length ≤ n * places s
  | 0 => by simp [Fla.readTo]
  | n + 1 => by
    have := readTo_len F gen s n
    have h2 := recsAt_len F gen s (n * places s) (places s)
    rw [Fla.readTo, Fla.readSec, Nat.add_mul]
    split
    · omega
    · rw [List.length_append]; omega

theorem readTo_ready (F : Fla) (gen : UInt32) (s : Nat) : ∀ n, -1 ≤ (F.readTo gen s n).2 ∧ (F.readTo gen s n).2 < n
  | 0 => by simp [Fla.readTo]
  | n + 1 => by
    have := readTo_ready F gen s n
    rw [Fla.readTo, Fla.readSec]
    split <;> omega

theorem trim_le (F : Fla) (s first : Nat) : ∀ n, F.trim s first n ≤ n
  | 0 => by simp [Fla.trim]
  | n + 1 => by
    have := trim_le F s first n
    rw [Fla.trim]
    split <;> omega

theorem recAt_dat {F : Fla} (hb : F.b.length = 3584) {gen : UInt32} {s k : Nat} (h1 : 1 ≤ s) (hs : s ≤ 16) (hk : k < 8 * places s) {r : Rec} (h : F.recAt gen s k = some r) : r.2.length = s := by
  have htop := whAt_top h1 hs hk
  have hl : (F.place s k).length = s + 13 := by unfold Fla.place wide; unfold wide at htop; rw [List.length_take, List.length_drop, hb]; omega
  unfold Fla.recAt at h
  split at h
  · simp at h
  · unfold recOf at h
    split at h
    · simp at h
    · split at h
      · simp at h
      · rename_i m hm
        split at h
        · simp only [Option.some.injEq] at h
          subst h
          have := congrArg List.length (crcRight_some hm).1
          rw [crcPut_len, List.length_take, hl] at this
          show (m.drop 8).length = s
          rw [List.length_drop]
          omega
        · simp at h

theorem recsAt_dat {F : Fla} (hb : F.b.length = 3584) {gen : UInt32} {s k : Nat} (h1 : 1 ≤ s) (hs : s ≤ 16) : ∀ n, k + n ≤ 8 * places s → ∀ d, d ∈ F.recsAt gen s k n → d.2.length = s
  | 0, _, d, hd => by simp [Fla.recsAt] at hd
  | n + 1, hk, d, hd => by
    rw [Fla.recsAt, List.mem_append] at hd
    rcases hd with hd | hd
    · exact recsAt_dat hb h1 hs n (by omega) d hd
    · exact recAt_dat hb h1 hs (k := k + n) (by omega) (by simpa using hd)

theorem readTo_dat {F : Fla} (hb : F.b.length = 3584) {gen : UInt32} {s : Nat} (h1 : 1 ≤ s) (hs : s ≤ 16) : ∀ n, n ≤ 8 → ∀ d, d ∈ (F.readTo gen s n).1 → d.2.length = s
  | 0, _, d, hd => by simp [Fla.readTo] at hd
  | n + 1, hn, d, hd => by
    rw [Fla.readTo, Fla.readSec] at hd
    split at hd
    · exact readTo_dat hb h1 hs n (by omega) d hd
    · rcases List.mem_append.1 hd with hd | hd
      · exact readTo_dat hb h1 hs n (by omega) d hd
      · have := Nat.mul_le_mul_right (places s) (show n + 1 ≤ 8 by omega)
        rw [Nat.add_mul] at this
        exact recsAt_dat hb h1 hs _ (by omega) d hd

theorem open_next (F : Fla) (gen : UInt32) (s : Nat) : (F.openWh gen s).next ≤ 8 * places s := by
  have h1 := readTo_ready F gen s 8
  show F.nextOf s (F.readTo gen s 8).2 ≤ _
  unfold Fla.nextOf
  split
  · omega
  · have h2 := trim_le F s ((F.readTo gen s 8).2.toNat * places s) (places s)
    have h3 : ((F.readTo gen s 8).2.toNat + 1) * places s ≤ 8 * places s := Nat.mul_le_mul_right _ (by omega)
    rw [Nat.add_mul] at h3
    omega

theorem open_len (F : Fla) (gen : UInt32) (s : Nat) (h1 : 1 ≤ s) (hs : s ≤ 16) : (F.openWh gen s).l.length ≤ 144 := by
  have h := readTo_len F gen s 8
  have hp := places_bounds h1 hs
  show (F.readTo gen s 8).1.length ≤ 144
  omega

set_option maxRecDepth 100000 in
theorem room_calls {w : World} {p q u : Nat} {g : Option Nat} {F : Fla} {V : Whl} (h : WhAt w p q u g F V) :
    Calls Tryz.prog 111 #[.pointer (some ⟨u, 0, none⟩)] w fun e w' => e = .returned (.int .i64 V.room) ∧ ∃ n, w' = w.drewN n := by
  obtain ⟨v, _, hW, _⟩ := h.own
  have hp := places_bounds h.s1 h.s2
  have hn := h.next
  have hP := fun n => (places_calls (w := w.drewN n) (u := u) (s := V.size) (hW.cell' (i := 2) rfl) h.s2).mono (fun _ _ h => (⟨h.1, h.2.symm⟩ : _ ∧ _ = w.drewN n))
  have c5 := hW.cell' (i := 5) rfl
  have hr : V.room = 8 * (places V.size : Int) - V.next := rfl
  rw [hr]
  clear hW h hr
  generalize places V.size = P at *
  generalize V.next = N at *
  go_enter Tryz.func111, Tryz.ntmps111
  go_wp2_with fail
  go_quiet (first | (go_at_call 106; exact Calls.quiet_of_same (hP _)))
  go_wp2_with fail
  go_ret
  exact ⟨rfl, nq, rfl⟩

set_option maxRecDepth 100000 in
theorem room_nil {w : World} : Calls Tryz.prog 111 #[.pointer none] w fun e w' => e = .returned (.int .i64 0) ∧ w = w' := by
  go_enter Tryz.func111, Tryz.ntmps111
  go_wp2_with fail
  go_ret
  exact ⟨rfl, rfl⟩

def NilPost (w : World) (z : Int) (e : Ending) (w' : World) : Prop := e = .returned (.tuple #[.pointer none, .int .i64 z]) ∧ Keeps [] w w'

set_option maxRecDepth 100000 in
theorem open_nil {w : World} (gen : UInt32) (s : Int) : Calls Tryz.prog 64 #[.pointer none, B32 gen, .int .i64 s] w (NilPost w 1) := by
  go_enter Tryz.func64, Tryz.ntmps64
  go_wp2_with fail
  go_ret2
  exact ⟨rfl, Keeps.refl _ _⟩

set_option maxRecDepth 100000 in
theorem open_bad {w : World} (p : Nat) (gen : UInt32) (s : Int) (hs : s < 1 ∨ 16 < s) : Calls Tryz.prog 64 #[.pointer (some ⟨p, 0, none⟩), B32 gen, .int .i64 s] w (NilPost w 1) := by
  by_cases h1 : s < 1
  · go_enter Tryz.func64, Tryz.ntmps64
    go_wp2_with fail
    go_ret2
    exact ⟨rfl, Keeps.refl _ _⟩
  · have h2 : 16 < s := by omega
    go_enter Tryz.func64, Tryz.ntmps64
    go_wp2_with fail
    go_ret2
    exact ⟨rfl, Keeps.refl _ _⟩

set_option maxRecDepth 100000 in
theorem open_down {w : World} {p q : Nat} {F : Fla} (h : FlaAt w p q F) (hd : F.down = true) (gen : UInt32) (s : Nat) (h1 : 1 ≤ s) (hs : s ≤ 16) :
    Calls Tryz.prog 64 #[.pointer (some ⟨p, 0, none⟩), B32 gen, .int .i64 s] w (NilPost w 11) := by
  have hR := read_calls h 0 0
  have hr : F.read 0 0 = ([], 11) := by simp [Fla.read, Fla.ready, hd]
  unfold ReadPost at hR
  rw [hr] at hR
  clear h hd hr
  go_enter Tryz.func64, Tryz.ntmps64
  go_wp2_with fail
  refine hR.mono ?_
  rintro e w1 ⟨v, rfl, hv, hk⟩
  obtain ⟨a, c, rfl, _⟩ := hv.sl
  go_wp2_with fail
  go_ret2
  exact ⟨rfl, hk⟩

def nextI : Option Value → Nat
  | some (.int _ n) => n.toNat
  | _ => 0

def OpenPost (w : World) (p q : Nat) (F : Fla) (gen : UInt32) (s : Nat) (e : Ending) (w' : World) : Prop :=
  ∃ u g, e = .returned (.tuple #[.pointer (some ⟨u, 0, none⟩), .int .i64 0]) ∧ w.heap.size ≤ u ∧ WhAt w' p q u g F (F.openWh gen s) ∧ Keeps [] w w'

set_option maxRecDepth 100000 in
set_option maxHeartbeats 2000000 in
theorem open_ok {w : World} {p q : Nat} {F : Fla} (h : FlaAt w p q F) (hd : F.down = false) (gen : UInt32) (s : Nat) (h1 : 1 ≤ s) (hs : s ≤ 16) :
    Calls Tryz.prog 64 #[.pointer (some ⟨p, 0, none⟩), B32 gen, .int .i64 s] w (OpenPost w p q F gen s) := by
  have hR := read_calls h 0 0
  have hr : F.read 0 0 = ([], 0) := by simp [Fla.read, Fla.ready, hd]
  unfold ReadPost at hR
  rw [hr] at hR
  clear hd hr
  have hp := places_bounds h1 hs
  have hlp := h.ltp
  have hlq := h.ltq
  have hlen := open_len F gen s h1 hs
  have hnx := open_next F gen s
  have hop : F.openWh gen s = ⟨gen, s, (F.readTo gen s 8).1, (F.readTo gen s 8).2, F.nextOf s (F.readTo gen s 8).2⟩ := rfl
  have hrd := readTo_ready F gen s 8
  have Hop := Lib.hid hop
  have Hlen := Lib.hid hlen
  have Hnx := Lib.hid hnx
  have Hdat := Lib.hid (show ∀ d, d ∈ (F.openWh gen s).l → d.2.length = s from fun d hd => readTo_dat h.len h1 hs 8 (Nat.le_refl _) d hd)
  clear hop hlen hnx
  go_enter Tryz.func64, Tryz.ntmps64
  go_wp2_with fail
  refine hR.mono ?_
  rintro e w1 ⟨v, rfl, hv, hk⟩
  obtain ⟨a, c, rfl, _⟩ := hv.sl
  have hsz := hk.size
  have hF1 := Lib.hid (h.keeps hk (by simp) (by simp))
  have Hk := Lib.hid hk
  clear hR hv hk
  go_wp2_with fail
  go_loopw [36] (fun i wr => ∃ (k : Nat) (v : Value), k ≤ 8 ∧ i = .int .i64 k ∧ WhB wr p w1.heap.size gen s v (F.readTo gen s k).2 0 ∧ Recs wr (w1.heap.size + 1) v (F.readTo gen s k).1 ∧ FlaAt wr p q F ∧ Keeps [] w1 wr) (fun i _ => 8 - (intOf i).toNat)
  case atStart => exact ⟨0, .slice none 0 0, by omega, rfl, Blk.newA w1 _ _, Recs.nil _ _, hF1.out.alloc _, (Keeps.refl [] w1).alloc _⟩
  case round =>
    obtain ⟨k, v, hk8, rfl, hW, hRc, hF, hK⟩ := hrel
    by_cases hlt : k < 8
    · have hl := readTo_len F gen s k
      have hC := reads_calls hF h1 hs (u := w1.heap.size) (B := w1.heap.size + 1) (by omega) (by omega) (by omega) hW.lt hW hRc (by have : k * places s ≤ 8 * 18 := Nat.mul_le_mul (by omega) hp.2; omega) k hlt
      clear hW hRc hl
      go_wp2_with fail
      refine hC.mono ?_
      rintro e w2 ⟨rfl, v2, hW2, hR2, hK2⟩
      go_wp2_with fail
      go_roundw
      case rel =>
        refine ⟨k + 1, v2, by omega, by go_num, hW2, hR2, hK2.fla hF (by omega) (by omega), ?_⟩
        obtain ⟨S, hS, hk2⟩ := hK2
        exact hK.trans' hk2 (by simp) (fun x hx => .inr (hS x hx))
      case measure => simp [intOf]; omega
    · obtain rfl : k = 8 := by omega
      have hst : F.readTo gen s 8 = ((F.readTo gen s 8).1, (F.readTo gen s 8).2) := rfl
      generalize (F.readTo gen s 8).2 = R at *
      generalize (F.readTo gen s 8).1 = L at *
      clear hst
      have c4 := hW.cell' (i := 4) rfl
      have HW := Lib.hid hW
      have HR := Lib.hid hRc
      have HK := Lib.hid hK
      have HF := Lib.hid hF
      clear hW hRc hK hF
      by_cases hneg : R < 0
      · have hn0 : F.nextOf s R = 0 := by unfold Fla.nextOf; rw [if_pos hneg]
        have Hn0 := Lib.hid hn0
        clear hn0
        go_wp2_with fail
        go_ret2
        refine ⟨w1.heap.size, _, rfl, hsz, ⟨HF.out, h1, hs, by omega, by omega, Hnx.out, by have := Hlen.out; omega, Hdat.out, v, rfl, ?_, ?_⟩, Hk.out.trans HK.out⟩
        · rw [Hop.out, Hn0.out]; exact HW.out
        · rw [Hop.out]; exact HR.out
      · obtain ⟨k, rfl⟩ : ∃ k : Nat, R = k := ⟨R.toNat, by omega⟩
        have hk8 : k < 8 := by omega
        have hle : k * places s + places s ≤ 8 * places s := by
          have := Nat.mul_le_mul_right (places s) (show k + 1 ≤ 8 by omega)
          rw [Nat.add_mul] at this
          omega
        have hn0 : F.nextOf s (k : Int) = k * places s + F.trim s (k * places s) (places s) := by unfold Fla.nextOf; rw [if_neg hneg]; rfl
        have hT : ∀ j, F.trim s (k * places s) (j + 1) = if F.blank (whAt s (k * places s + j)) (wide s) then F.trim s (k * places s) j else j + 1 := fun j => rfl
        have hT0 : F.trim s (k * places s) 0 = 0 := rfl
        have hPl := fun (w : World) (h : w.cell? ⟨w1.heap.size, 2, none⟩ = some (.int .i64 s)) => places_calls h hs
        have hWd := fun (w : World) (h : w.cell? ⟨w1.heap.size, 2, none⟩ = some (.int .i64 s)) => wide_calls h hs
        have hAt := fun (w : World) (h : w.cell? ⟨w1.heap.size, 2, none⟩ = some (.int .i64 s)) (i : Nat) (hi : i ≤ 200) => whAtK_calls h h1 hs i hi
        have hBl := fun (w : World) (h : FlaAt w p q F) (i : Nat) => blank_calls h (whAt s i) (wide s)
        have Hn0 := Lib.hid hn0
        clear hn0
        generalize hP : places s = P at *
        generalize hA : k * P = A at *
        have hAi : (k : Int) * (P : Int) = (A : Int) := by rw [← Int.natCast_mul, hA]
        have hA2 : A ≤ 200 := by omega
        have c2 := HW.out.cell' (i := 2) rfl
        have c5 := HW.out.cell' (i := 5) rfl
        have f5 := HW.out.frozen 5
        have hul := HW.out.lt
        have hPq := fun n => (hPl (wr.drewN n) c2).mono (fun _ _ h => (⟨h.1, h.2.symm⟩ : _ ∧ _ = wr.drewN n))
        go_wp2_with fail
        go_quiet (first | (go_at_call 106; exact Calls.quiet_of_same (hPq _)))
        have hPq0 := (hPq nq).mono (fun _ _ h => (⟨h.1, h.2.symm⟩ : _ ∧ wr.drewN nq = _))
        have HW2 := Lib.hid (HW.out.drewN nq)
        have HR2 := Lib.hid (HR.out.keeps ((Keeps.refl [] wr).drewN nq) (by simp))
        have HF2 := Lib.hid (HF.out.drewN nq)
        have HK2 := Lib.hid (HK.out.drewN nq)
        have c5' : (wr.drewN nq).cell? ⟨w1.heap.size, 5, none⟩ = _ := c5
        have f5' : (wr.drewN nq).frozen? ⟨w1.heap.size, 5, none⟩ = _ := f5
        clear hPq c2 c4 c5 f5 hul HW HR HF HK
        generalize wr.drewN nq = w3 at *
        go_wp2_with fail
        refine hPq0.mono ?_
        rintro e w4 ⟨rfl, rfl⟩
        go_wp2_with fail
        have Hhk := Lib.hid hAi
        clear hAi hPq0 c5' f5' hPl
        go_loopw [] (fun wx => ∃ j : Nat, j ≤ P ∧ WhB wx p w1.heap.size gen s v k ((A + j : Nat) : Int) ∧ Recs wx (w1.heap.size + 1) v L ∧ FlaAt wx p q F ∧ Keeps [] w1 wx ∧ F.trim s A j = F.trim s A P) (fun wx => nextI (wx.cell? ⟨w1.heap.size, 5, none⟩))
        case atStart => exact ⟨P, Nat.le_refl _, HW2.out.setN _, HR2.out.keeps (S := [w1.heap.size]) ((Keeps.refl _ _).setCell (by simp) _) (by simp), HF2.out.keeps (S := [w1.heap.size]) ((Keeps.refl _ _).setCell (by simp) _) (by simp; omega) (by simp; omega), HK2.out.setCell (by simp) _, rfl⟩
        case round =>
          obtain ⟨j, hj, hW, hRc, hF, hK, hTr⟩ := hrel
          have c5 := hW.cell' (i := 5) rfl
          have f5 := hW.frozen 5
          have c2 := hW.cell' (i := 2) rfl
          have HW := Lib.hid hW
          have HRc := Lib.hid hRc
          have HF := Lib.hid hF
          have HK := Lib.hid hK
          have hul := hW.lt
          clear hW hRc hF hK
          cases j with
          | zero =>
            rw [hT0] at hTr
            have HTr := Lib.hid hTr
            clear hTr hT hT0 hBl hWd hAt
            rw [Nat.add_zero] at c5
            go_wp2_with fail
            go_ret2
            refine ⟨w1.heap.size, _, rfl, hsz, ⟨HF.out, h1, hs, by omega, by omega, by rw [show (F.openWh gen s).size = s from rfl, hP]; exact Hnx.out, by have := Hlen.out; omega, Hdat.out, v, rfl, ?_, ?_⟩, Hk.out.trans HK.out⟩
            · rw [Hop.out, Hn0.out, ← HTr.out]; exact HW.out
            · rw [Hop.out]; exact HRc.out
          | succ i =>
            rw [hT i] at hTr
            have hAtN := fun (w : World) (h : w.cell? ⟨w1.heap.size, 2, none⟩ = some (.int .i64 s)) => hAt w h (A + i) (by omega)
            have hBlN := fun (w : World) (h : FlaAt w p q F) => hBl w h (A + i)
            have e1 : ((A + (i + 1) : Nat) : Int) = ((A + i : Nat) : Int) + 1 := by omega
            rw [e1] at c5
            have hlt1 : (A : Int) < ((A + i : Nat) : Int) + 1 := by omega
            have hN3 : A + i ≤ 300 := by omega
            have hW1 := HW.out
            rw [e1] at hW1
            have HW1 := Lib.hid hW1
            have hNi := Lib.hid (rfl : A + i = A + i)
            clear hT hBl hAt e1 hW1
            generalize whAt s (A + i) = T at *
            generalize hN : A + i = N at *
            have HN := Lib.hid hN
            clear hN
            by_cases hb : F.blank T (wide s) = true
            · rw [if_pos hb] at hTr
              have HTr := Lib.hid hTr
              simp only [hb] at hBlN
              clear hTr hT0 hb
              go_wp2_with fail
              refine (hAtN _ c2).mono ?_
              rintro e w5 ⟨rfl, hk5⟩
              have c2' := hk5.cell c2
              go_wp2_with fail
              refine (hWd _ c2').mono ?_
              rintro e w6 ⟨rfl, rfl⟩
              go_wp2_with fail
              refine (hBlN _ (HF.out.keeps hk5 (by simp) (by simp))).mono ?_
              rintro e w6 ⟨rfl, hk6⟩
              have hk56 := hk5.trans hk6
              have c5' := hk56.cell c5
              have hW6 := HW1.out.keeps hk56 (by simp)
              have f5' := hW6.frozen 5
              go_wp2_with fail
              refine ⟨⟨i, by omega, ?_, ?_, ?_, (HK.out.trans hk56).setCell (by simp) _, HTr.out⟩, ?_⟩
              · rw [HN.out]; exact WhB.setN hW6 _
              · exact (HRc.out.keeps hk56 (by simp)).keeps (S := [w1.heap.size]) ((Keeps.refl _ _).setCell (by simp) _) (by simp)
              · exact (HF.out.keeps hk56 (by simp) (by simp)).keeps (S := [w1.heap.size]) ((Keeps.refl _ _).setCell (by simp) _) (by simp; omega) (by simp; omega)
              · rw [c5, (WhB.setN hW6 (N : Int)).cell' (i := 5) rfl]
                simp only [nextI]
                omega
            · rw [if_neg hb] at hTr
              have HTr := Lib.hid hTr
              have hb' : F.blank T (wide s) = false := by simpa using hb
              simp only [hb'] at hBlN
              clear hTr hT0 hb hb'
              go_wp2_with fail
              refine (hAtN _ c2).mono ?_
              rintro e w5 ⟨rfl, hk5⟩
              have c2' := hk5.cell c2
              go_wp2_with fail
              refine (hWd _ c2').mono ?_
              rintro e w6 ⟨rfl, rfl⟩
              go_wp2_with fail
              refine (hBlN _ (HF.out.keeps hk5 (by simp) (by simp))).mono ?_
              rintro e w6 ⟨rfl, hk6⟩
              have hk56 := hk5.trans hk6
              go_wp2_with fail
              go_ret2
              refine ⟨w1.heap.size, _, rfl, hsz, ⟨HF.out.keeps hk56 (by simp) (by simp), h1, hs, by omega, by omega, by rw [show (F.openWh gen s).size = s from rfl, hP]; exact Hnx.out, by have := Hlen.out; omega, Hdat.out, v, rfl, ?_, ?_⟩, Hk.out.trans (HK.out.trans hk56)⟩
              · rw [Hop.out, Hn0.out, ← HTr.out, ← Nat.add_assoc, HN.out]; exact HW1.out.keeps hk56 (by simp)
              · rw [Hop.out]; exact HRc.out.keeps hk56 (by simp)

end Go.Proofs.YtijhaeapoapgfaaGreatDoor

set_option linter.unusedVariables false
namespace Go.Proofs.YtijhaeapoapgfaaGreatDoor
open Go.RowKit
attribute [local go_sem ↓] Go.wp_at_zero Go.wp_at_succ

def RecsPost (w : World) (l : List Rec) (e : Ending) (w' : World) : Prop := ∃ v, e = .returned v ∧ Recs w' w.heap.size v l ∧ Keeps [] w w'

set_option maxRecDepth 100000 in
theorem records_nil {w : World} : Calls Tryz.prog 65 #[.pointer none] w (RecsPost w []) := by
  go_enter Tryz.func65, Tryz.ntmps65
  go_wp2_with fail
  go_ret
  exact ⟨_, rfl, Recs.nil _ _, Keeps.refl _ _⟩

set_option maxRecDepth 100000 in
set_option maxHeartbeats 2000000 in
theorem records_calls {w : World} {p q u : Nat} {gg : Option Nat} {F : Fla} {V : Whl} (h : WhAt w p q u gg F V) :
    Calls Tryz.prog 65 #[.pointer (some ⟨u, 0, none⟩)] w (RecsPost w V.l) := by
  obtain ⟨v, _, hW, hR⟩ := h.own
  have hp := places_bounds h.s1 h.s2
  have hlen : V.l.length ≤ 1000 := by have := h.lens; have := h.next; omega
  have c3 := hW.cell' (i := 3) rfl
  have hds : ∀ i, i < V.l.length → ∃ d, V.l[i]? = some d := fun i hi => ⟨V.l[i], by simp [hi]⟩
  have htk : ∀ i d, V.l[i]? = some d → V.l.take (i + 1) = V.l.take i ++ [d] := by
    intro i d hd
    rw [List.take_add_one, hd]
    rfl
  have htl : ∀ i, i ≤ V.l.length → (V.l.take i).length = i := fun i hi => by rw [List.length_take]; omega
  have hall : V.l.take V.l.length = V.l := List.take_length
  have hdat := h.dat
  have hs16 := h.s2
  clear hW h
  generalize V.l = l at *
  generalize V.size = s at *
  obtain ⟨av, cv, rfl, hlc, hcm, hn0, hvo⟩ := hR.form
  have HR := Lib.hid hR
  generalize hN : l.length = N at *
  have HN := Lib.hid hN
  have Htk := Lib.hid htk
  have Htl := Lib.hid htl
  have Hall := Lib.hid hall
  have Hds := Lib.hid hds
  have Hdat := Lib.hid hdat
  clear hR hN htk htl hall hds hn0 hvo hdat
  go_enter Tryz.func65, Tryz.ntmps65
  go_wp2_with fail
  go_loopw [3, 13] (fun o i wr => ∃ k : Nat, k ≤ N ∧ i = .int .i64 k ∧ Recs wr w.heap.size o (l.take k) ∧ Keeps [] w wr) (fun _ i _ => N - (intOf i).toNat)
  case atStart => exact ⟨0, Nat.zero_le _, rfl, by rw [List.take_zero]; exact Recs.nil _ _, Keeps.refl _ _⟩
  case round =>
    obtain ⟨k, hk, rfl, hO, hK⟩ := hrel
    by_cases hlt : k < N
    · obtain ⟨d, hd⟩ := Hds.out k hlt
      obtain ⟨g, x, rfl, e0, e1, hx⟩ := HR.out.at hd
      have e0' := hK.cell e0
      have e1' := hK.cell e1
      rw [Nat.mul_comm] at e0' e1'
      have i1 : (k : Int) < (N : Int) := by omega
      obtain ⟨id, d⟩ := d
      obtain ⟨ax, cx, rfl, hxc, hxm, hxr, hx0, hxb⟩ := hx
      dsimp only at e0' e1' hxc hxr hx0 hxb
      obtain ⟨ao, co, rfl, hoc, hom, ho0, hob⟩ := hO.form
      have htl := Htl.out k hk
      rw [htl] at hO hob hoc
      have hdl : d.length ≤ 140737488351232 := by have := Hdat.out _ (List.mem_of_getElem? hd); dsimp only at this; omega
      have hk3 : Keeps [] wr (wr.alloc (.cells #[.int .u32 id.toNat, .slice ax d.length cx] 115)).drew := ((Keeps.refl [] wr).alloc _).drew
      have hB := Blk.newA wr 115 #[.int .u32 id.toNat, .slice ax d.length cx]
      have b0 := (Blk.drew hB).cell' (i := 0) rfl
      have b1 := (Blk.drew hB).cell' (i := 1) rfl
      have hC := clone_calls ax d.length cx d ((hxr.keeps hK (by simp)).keepsNil hk3) rfl hdl (fun h => (hx0 h).1)
      have HC := Lib.hid hC
      have HO := Lib.hid hO
      have Hds2 := Lib.hid hd
      have hws := hK.size
      have HNy := Lib.hid (show ∀ y, (wr.alloc (.cells #[.int .u32 id.toNat, .slice ax d.length cx] 115)).drew.heap.size ≤ y → w.heap.size ≤ y ∧ Value.ownBlock (.slice ao k co) ≠ some y from fun y hy => by
        simp only [World.size_drew, World.size_alloc] at hy
        exact ⟨by omega, fun hc => by have := hob y hc; omega⟩)
      have Hlk := Lib.hid (show (List.take k l).length ≤ 100000 by rw [htl]; omega)
      have Hnr := Lib.hid (show wr.heap.size ∉ Option.toList (Value.ownBlock (.slice ao k co)) from fun hm => by have := hob _ (by simpa using hm); omega)
      have Hob := Lib.hid (show ∀ y, y ∈ Option.toList (Value.ownBlock (.slice ao k co)) → w.heap.size ≤ y from fun y hm => (hob y (by simpa using hm)).1)
      have HBr := Lib.hid (Blk.drew hB)
      clear hC hxr hx0 hxb ho0 hd hB hO hob
      go_wp2_with fail
      go_region_held3 (fun w' => w'.cell? ⟨wr.heap.size, 0, none⟩ = some (.int .u32 id.toNat) ∧ w'.cell? ⟨wr.heap.size, 1, none⟩ = some (.slice ax d.length cx))
        (first | exact ⟨b0, b1⟩ | exact ⟨n0, n1⟩ | exact ⟨n2, n3⟩ | exact ⟨n4, n5⟩)
        (first
          | (go_at_call 38; refine HC.out.mono ?_; rintro e w5 ⟨v5, rfl, hO5, hk5⟩; obtain ⟨a5, c5, rfl, hrest⟩ := hO5.sl; have n0 := hk5.cell b0; have n1 := hk5.cell b1; have n2 := (Keeps.alloc (Keeps.refl [] w5) (.cells #[.int .u32 id.toNat, .slice a5 d.length c5] 115)).cell n0; have n3 := (Keeps.alloc (Keeps.refl [] w5) (.cells #[.int .u32 id.toNat, .slice a5 d.length c5] 115)).cell n1; have HO6 := Lib.hid ((((HO.out.keeps hk3 (by simp)).keeps hk5 (by simp))).keeps (Keeps.alloc (Keeps.refl [] w5) (.cells #[.int .u32 id.toNat, .slice a5 d.length c5] 115)) (by simp)); have HB6 := Lib.hid (Blk.newA w5 115 #[.int .u32 id.toNat, .slice a5 d.length c5]); have HX6 := Lib.hid ((hO5.slb.slx (N := fun z => w.heap.size ≤ z ∧ Value.ownBlock (.slice ao k co) ≠ some z) (fun y h1 h2 => HNy.out y h1)).keeps (Keeps.alloc (Keeps.refl [] w5) (.cells #[.int .u32 id.toNat, .slice a5 d.length c5] 115)) (by simp) (fun _ h _ => h)); have HK6 := Lib.hid (hk3.trans (hk5.alloc (.cells #[.int .u32 id.toNat, .slice a5 d.length c5] 115))); have HB5s := Lib.hid (show w.heap.size ≤ (w5.alloc (.cells #[.int .u32 id.toNat, .slice a5 d.length c5] 115)).heap.size from Nat.le_trans hws HK6.out.size); have HBr6 := Lib.hid (HBr.out.keeps (hk5.alloc (.cells #[.int .u32 id.toNat, .slice a5 d.length c5] 115)) (by simp)))
          | (refine step_append_rec rfl (.tmp 17) (.tmp 24) rfl HO6.out rfl _ 1 rfl id _ d HB6.out HX6.out Hlk.out HB5s.out ?_; intro g6 cap6 w7 hR7 hG7 hg7 hl7; have hk7 := (Keeps.refl _ _).grown (S := Option.toList (Value.ownBlock (.slice ao k co))) hG7 (fun z hz => Or.inl (by rw [hz]; exact List.mem_singleton.2 rfl)); have hBr7 := HBr6.out.keeps hk7 Hnr.out; have n4 := hBr7.cell' (i := 0) rfl; have n5 := hBr7.cell' (i := 1) rfl))
      go_wp2_with fail
      go_roundw
      case rel =>
        refine ⟨k + 1, by omega, by go_num, ?_, ?_⟩
        · rw [Htk.out k _ Hds2.out]
          have := hR7
          rwa [htl] at this
        · exact (hK.trans HK6.out).trans' hk7 (by simp) (fun y hy => .inr (Hob.out y hy))
      case measure => simp [intOf]; omega
    · obtain rfl : k = N := by omega
      have hall := Hall.out
      have hO' : Recs wr w.heap.size u3 l := by
        have := hO
        rwa [hall] at this
      have HO := Lib.hid hO'
      have HK := Lib.hid hK
      clear hall hO hO' hK
      go_wp2_with fail
      go_ret
      exact ⟨_, rfl, HO.out, HK.out⟩

end Go.Proofs.YtijhaeapoapgfaaGreatDoor

set_option linter.unusedVariables false
namespace Go.Proofs.YtijhaeapoapgfaaGreatDoor
open Go.RowKit
attribute [local go_sem ↓] Go.wp_at_zero Go.wp_at_succ

set_option maxRecDepth 100000 in
set_option maxHeartbeats 1000000 in
theorem enters_calls {w : World} {p q u s : Nat} {F : Fla} {gen : UInt32} {v : Value} {ready next : Int} (h : FlaAt w p q F) (hW : WhB w p u gen s v ready next) (hu : u ∉ [p, q]) (k : Nat) (hk : k < 8) :
    Calls Tryz.prog 113 #[.pointer (some ⟨u, 0, none⟩), .int .i64 k] w (FPost w p q (F.enters ready k).1 (.int .i64 (F.enters ready k).2)) := by
  have hBl := blank_calls h ((6 + k) * 256 : Nat) 256
  have hEr := fun (w : World) (h : FlaAt w p q F) => erase_calls h (6 + k : Nat)
  have c0 := hW.cell' (i := 0) rfl
  have c4 := hW.cell' (i := 4) rfl
  have hen : F.enters ready k = if (k : Int) = ready ∨ F.blank ((6 + k) * 256 : Nat) 256 = true then (F, 0) else F.erase (6 + k : Nat) := rfl
  have e1 : (((6 + k) * 256 : Nat) : Int) = (6 + (k : Int)) * 256 := by omega
  have e2 : ((6 + k : Nat) : Int) = 6 + (k : Int) := by omega
  rw [e1] at hBl hen
  rw [e2] at hEr hen
  by_cases hr : (k : Int) = ready
  · subst hr
    rw [if_pos (.inl rfl)] at hen
    rw [hen]
    clear hBl hEr hen hW
    go_enter Tryz.func113, Tryz.ntmps113
    go_wp2_with fail
    go_ret
    exact ⟨rfl, h, Keeps.refl _ _⟩
  · have hb1 : ((k : Int) == ready) = false := by simpa using hr
    cases hb : F.blank ((6 + (k : Int)) * 256) 256
    · rw [if_neg (by simp [hr, hb])] at hen
      rw [hb] at hBl
      have Hen := Lib.hid hen
      clear hen hb hr e1 e2
      go_enter Tryz.func113, Tryz.ntmps113
      go_wp2_with fail
      refine hBl.mono ?_
      rintro e w1 ⟨rfl, hk1⟩
      have c0' := hk1.cell c0
      go_wp2_with fail
      refine (hEr _ (h.keeps hk1 (by simp) (by simp))).mono ?_
      rintro e w2 ⟨rfl, hF2, hk2⟩
      go_wp2_with fail
      go_ret
      rw [Hen.out]
      exact ⟨rfl, hF2, hk1.nil.trans hk2⟩
    · rw [if_pos (.inr hb)] at hen
      rw [hb] at hBl
      have Hen := Lib.hid hen
      clear hen hb hr e1 e2 hEr
      go_enter Tryz.func113, Tryz.ntmps113
      go_wp2_with fail
      refine hBl.mono ?_
      rintro e w1 ⟨rfl, hk1⟩
      go_wp2_with fail
      go_ret
      rw [Hen.out]
      exact ⟨rfl, h.keeps hk1 (by simp) (by simp), hk1.nil⟩

end Go.Proofs.YtijhaeapoapgfaaGreatDoor

set_option linter.unusedVariables false
namespace Go.Proofs.YtijhaeapoapgfaaGreatDoor
open Go.RowKit
attribute [local go_sem ↓] Go.wp_at_zero Go.wp_at_succ

set_option maxRecDepth 100000 in
theorem add_nil {w : World} (id : UInt32) (A : Option Addr) (n c : Nat) :
    Calls Tryz.prog 67 #[.pointer none, B32 id, .slice A n c] w fun e w' => e = .returned (.int .i64 1) ∧ w = w' := by
  go_enter Tryz.func67, Tryz.ntmps67
  go_wp2_with fail
  go_ret
  exact ⟨rfl, rfl⟩

def WadPost (w : World) (p q u : Nat) (g : Option Nat) (r : Fla × Whl × Int) (e : Ending) (w' : World) : Prop :=
  e = .returned (.int .i64 r.2.2) ∧ ∃ g', WhAt w' p q u g' r.1 r.2.1 ∧ (g' = g ∨ ∃ y, g' = some y ∧ w.heap.size ≤ y) ∧ Keeps (p :: q :: u :: g.toList) w w'

theorem WhAt.keeps {S : List Nat} {w w' : World} {p q u : Nat} {g : Option Nat} {F : Fla} {V : Whl} (h : WhAt w p q u g F V) (k : Keeps S w w') (hS : ∀ x, x ∈ S → x ≠ p ∧ x ≠ q ∧ x < u) : WhAt w' p q u g F V := by
  obtain ⟨v, hv, hW, hR⟩ := h.own
  exact ⟨h.fla.keeps k (fun hm => (hS _ hm).1 rfl) (fun hm => (hS _ hm).2.1 rfl), h.s1, h.s2, h.pu, h.qu, h.next, h.lens, h.dat, v, hv, hW.keeps k (fun hm => by have := (hS _ hm).2.2; omega), hR.keeps k (fun x hx => by have := (hS x hx).2.2; omega)⟩

set_option maxRecDepth 100000 in
set_option maxHeartbeats 1000000 in
theorem add_none {w : World} {p q u : Nat} {g : Option Nat} {F : Fla} {V : Whl} (h : WhAt w p q u g F V) (id : UInt32) (A : Option Addr) (c : Nat) (d : List UInt8) (hn : d.length ≠ V.size ∨ V.room = 0 ∨ F.down = true) :
    Calls Tryz.prog 67 #[.pointer (some ⟨u, 0, none⟩), B32 id, .slice A d.length c] w (WadPost w p q u g (V.add F id d)) := by
  obtain ⟨v, hv, hW, hR⟩ := h.own
  have c2 := hW.cell' (i := 2) rfl
  have c0 := hW.cell' (i := 0) rfl
  by_cases hl : d.length = V.size
  · have hRm := room_calls h
    by_cases hr : V.room = 0
    · have e : V.add F id d = (F, V, 9) := by unfold Whl.add; rw [if_neg (by simp [hl]), if_pos hr]
      rw [e]
      rw [hr] at hRm
      have H := Lib.hid h
      have hb : ((d.length : Int) == (V.size : Int)) = true := by rw [hl]; simp
      rw [hl]
      clear e hr hn hR hW h hl hb
      generalize V.size = s at *
      go_enter Tryz.func67, Tryz.ntmps67
      go_wp2_with fail
      refine hRm.mono ?_
      rintro e w1 ⟨rfl, n, rfl⟩
      go_wp2_with fail
      go_ret
      exact ⟨rfl, g, H.out.keeps ((Keeps.refl [] w).drewN n) (by simp), .inl rfl, (Keeps.refl _ w).drewN n⟩
    · have hd : F.down = true := by simpa [hl, hr] using hn
      have e : V.add F id d = (F, V, 11) := by unfold Whl.add; rw [if_neg (by simp [hl]), if_neg hr, if_pos hd]
      rw [e]
      have hDn := fun (w : World) (h : FlaAt w p q F) => down_calls h
      rw [hd] at hDn
      have H := Lib.hid h
      have hrb : (V.room == 0) = false := by simpa using hr
      rw [hl]
      clear e hr hn hR hW h hl hd
      generalize V.room = z at *
      generalize V.size = s at *
      go_enter Tryz.func67, Tryz.ntmps67
      go_wp2_with fail
      refine hRm.mono ?_
      rintro e w1 ⟨rfl, n, hw1⟩
      have hk1 : Keeps [] w w1 := hw1 ▸ (Keeps.refl [] w).drewN n
      have c0' := hk1.cell c0
      clear hw1
      go_wp2_with fail
      refine (hDn _ (H.out.fla.keeps hk1 (by simp) (by simp))).mono ?_
      rintro e w2 ⟨rfl, rfl⟩
      go_wp2_with fail
      go_ret
      exact ⟨rfl, g, H.out.keeps hk1 (by simp), .inl rfl, hk1.nil⟩
  · have e : V.add F id d = (F, V, 1) := by unfold Whl.add; rw [if_pos hl]
    rw [e]
    have hb : ((d.length : Int) == (V.size : Int)) = false := by rw [beq_eq_false_iff_ne]; intro h; exact hl (by omega)
    have hb2 : ((d.length : Int) != (V.size : Int)) = true := by rw [bne, hb]; rfl
    have H := Lib.hid h
    clear e hn hR hW h hl hb
    generalize d.length = m at *
    generalize V.size = s at *
    go_enter Tryz.func67, Tryz.ntmps67
    go_wp2_with fail
    go_ret
    exact ⟨rfl, g, H.out, .inl rfl, Keeps.refl _ w⟩

end Go.Proofs.YtijhaeapoapgfaaGreatDoor
