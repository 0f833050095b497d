/-
  WhO: reads of package wheel, walked.
-/
import Derived.Test.YtghgmchgbhdldaaWhR
import Derived.Deep.RegionLaw
import Derived.Deep.DeepMust
set_option linter.unusedVariables false
namespace Go.Proofs.Ytghgmchgbhdldaa
open Go.RowKit
attribute [local go_sem ↓] Go.wp_at_zero Go.wp_at_succ

/-- A wheel's own struct, in block u. -/
def WhB (w : World) (p u : Nat) (gen : UInt32) (s : Nat) (v : Value) (ready next : Int) : Prop :=
  Blk w u 101 [.pointer (some ⟨p, 0, none⟩), B32 gen, .int .i64 s, v, .int .i64 ready, .int .i64 next]

/-- What lies below block u is as it was. -/
def Kab (u : Nat) (w w' : World) : Prop := ∃ S : List Nat, (∀ x, x ∈ S → u ≤ x) ∧ Keeps S w w'

theorem Kab.refl (u : Nat) (w : World) : Kab u w w := ⟨[], by simp, Keeps.refl [] w⟩
theorem Kab.trans {u : Nat} {a b c : World} (h : Kab u a b) (k : Kab u b c) : Kab u a c := by
  obtain ⟨S, h1, h2⟩ := h
  obtain ⟨T, k1, k2⟩ := k
  exact ⟨S ++ T, fun x hx => by rcases List.mem_append.1 hx with h | h <;> first | exact h1 x h | exact k1 x h, h2.trans' k2 (fun x hx => .inl (List.mem_append_left _ hx)) (fun x hx => .inl (List.mem_append_right _ hx))⟩
theorem Keeps.kab {u : Nat} {S : List Nat} {a b : World} (h : Keeps S a b) (hS : ∀ x, x ∈ S → u ≤ x) : Kab u a b := ⟨S, hS, h⟩
theorem Kab.fla {u p q : Nat} {F : Fla} {a b : World} (h : Kab u a b) (hF : FlaAt a p q F) (hp : p < u) (hq : q < u) : FlaAt b p q F := by
  obtain ⟨S, h1, h2⟩ := h
  exact hF.keeps h2 (fun hm => by have := h1 _ hm; omega) (fun hm => by have := h1 _ hm; omega)
theorem Kab.size {u : Nat} {a b : World} (h : Kab u a b) : a.heap.size ≤ b.heap.size := by
  obtain ⟨S, h1, h2⟩ := h
  exact h2.size

theorem WhB.setL {w : World} {p u s : Nat} {gen : UInt32} {v : Value} {r n : Int} (h : WhB w p u gen s v r n) (v' : Value) : WhB (w.setCell ⟨u, 3, none⟩ v') p u gen s v' r n := Blk.set h 3 v'
theorem WhB.setR {w : World} {p u s : Nat} {gen : UInt32} {v : Value} {r n : Int} (h : WhB w p u gen s v r n) (r' : Int) : WhB (w.setCell ⟨u, 4, none⟩ (.int .i64 r')) p u gen s v r' n := Blk.set h 4 _
theorem WhB.setN {w : World} {p u s : Nat} {gen : UInt32} {v : Value} {r n : Int} (h : WhB w p u gen s v r n) (n' : Int) : WhB (w.setCell ⟨u, 5, none⟩ (.int .i64 n')) p u gen s v r n' := Blk.set h 5 _

theorem WhB.keeps {S : List Nat} {w w' : World} {p u s : Nat} {gen : UInt32} {v : Value} {r n : Int} (h : WhB w p u gen s v r n) (k : Keeps S w w') (hu : u ∉ S) : WhB w' p u gen s v r n := Blk.keeps h k hu
theorem WhB.alloc {w : World} {p u s : Nat} {gen : UInt32} {v : Value} {r n : Int} (h : WhB w p u gen s v r n) (o : Obj) : WhB (w.alloc o) p u gen s v r n := Blk.alloc h o
theorem WhB.drew {w : World} {p u s : Nat} {gen : UInt32} {v : Value} {r n : Int} (h : WhB w p u gen s v r n) : WhB w.drew p u gen s v r n := h

theorem WhB.drewN {w : World} {p u s : Nat} {gen : UInt32} {v : Value} {r n : Int} (h : WhB w p u gen s v r n) (k : Nat) : WhB (w.drewN k) p u gen s v r n := h

def ReadsPost (w : World) (p u B : Nat) (gen : UInt32) (s : Nat) (next : Int) (st : List Rec × Int) (e : Ending) (w' : World) : Prop :=
  e = .returned (.tuple #[]) ∧ ∃ v, WhB w' p u gen s v st.2 next ∧ Recs w' B v st.1 ∧ Kab u w w'

set_option maxRecDepth 100000 in
set_option maxHeartbeats 2000000 in
theorem reads_calls {w : World} {p q u B : Nat} {F : Fla} (h : FlaAt w p q F) {gen : UInt32} {s : Nat} (h1 : 1 ≤ s) (hs : s ≤ 16) (hpu : p < u) (hqu : q < u) (huB : u < B) (hBs : B ≤ w.heap.size)
    {v : Value} {ready next : Int} {l : List Rec} (hW : WhB w p u gen s v ready next) (hR : Recs w B v l) (hl : l.length ≤ 1000) (k : Nat) (hk : k < 8) :
    Calls Try.prog 55 #[.pointer (some ⟨u, 0, none⟩), .int .i64 k] w (ReadsPost w p u B gen s next (F.readSec gen s (l, ready) k)) := by
  have hp := places_bounds h1 hs
  have hPl := fun (w : World) (h : w.cell? ⟨u, 2, none⟩ = some (.int .i64 s)) => places_calls h hs
  have hWh := fun (w : World) (h : FlaAt w p q F) {v : Value} {ready : Int} (hW : WhB w p u gen s v ready next) (i : Nat) (hi : i < places s) => whwhole_calls h h1 hs (hW.cell' (i := 0) rfl) (hW.cell' (i := 1) rfl) (hW.cell' (i := 2) rfl) (k * places s + i) (by
    have : (k + 1) * places s ≤ 8 * places s := Nat.mul_le_mul_right _ hk
    rw [Nat.add_mul] at this
    omega)
  have hsec : F.readSec gen s (l, ready) k = if (F.recAt gen s (k * places s)).isNone then (l, ready) else (l ++ F.recsAt gen s (k * places s) (places s), (k : Int)) := rfl
  have hst : ∀ n, F.recsAt gen s (k * places s) (n + 1) = F.recsAt gen s (k * places s) n ++ (F.recAt gen s (k * places s + n)).toList := fun n => rfl
  have hs0 : F.recsAt gen s (k * places s) 0 = [] := rfl
  have hfirst : k * places s ≤ 200 := Nat.le_trans (Nat.mul_le_mul (show k ≤ 8 by omega) hp.2) (by omega)
  have hc2 := hW.cell' (i := 2) rfl
  have hf0 := hWh w h hW 0 (by omega)
  rw [Nat.add_zero] at hf0
  generalize hP : places s = P at *
  generalize hA : k * P = A at *
  have hAi : (k : Int) * (P : Int) = (A : Int) := by rw [← Int.natCast_mul, hA]
  cases h0 : F.recAt gen s A with
  | none =>
    have E := Lib.hid (show F.readSec gen s (l, ready) k = (l, ready) by rw [hsec, h0]; rfl)
    unfold RecPost at hf0
    rw [h0] at hf0
    have HW := Lib.hid hW
    have HR := Lib.hid hR
    clear hsec hst hs0 h0 hWh hW hR
    go_enter Try.func55, Try.ntmps55
    go_wp2_with fail
    refine (hPl _ hc2).mono ?_
    rintro e w1 ⟨rfl, rfl⟩
    go_wp2_with fail
    refine hf0.mono ?_
    rintro e w1 ⟨v1, rfl, hv1, hk1⟩
    obtain ⟨a1, c1, rfl, _⟩ := hv1
    go_wp2_with fail
    go_end0
    refine ⟨rfl, v, ?_, ?_, ((hk1.alloc _).kab (by simp))⟩
    · rw [E.out]; exact HW.out.keeps (hk1.alloc _) (by simp)
    · rw [E.out]; exact HR.out.keeps (hk1.alloc _) (by simp)
  | some r0 =>
    have E := Lib.hid (show F.readSec gen s (l, ready) k = (l ++ F.recsAt gen s A P, (k : Int)) by rw [hsec, h0]; rfl)
    unfold RecPost at hf0
    rw [h0] at hf0
    obtain ⟨av, cv, rfl, _, _, _, hvo⟩ := hR.form
    have HW := Lib.hid hW
    have HR := Lib.hid hR
    have f4 := hW.frozen 4
    have c4 := hW.cell' (i := 4) rfl
    have hult := hW.lt
    clear hsec h0 hW hR
    go_enter Try.func55, Try.ntmps55
    go_wp2_with fail
    refine (hPl _ hc2).mono ?_
    rintro e w1 ⟨rfl, rfl⟩
    go_wp2_with fail
    refine hf0.mono ?_
    rintro e w1 ⟨v1, rfl, hv1, hk1⟩
    obtain ⟨a1, c1, rfl, _⟩ := hv1
    have hW1 := HW.out.keeps hk1 (by simp)
    have c4 := hW1.cell' (i := 4) rfl
    have f4 := hW1.frozen 4
    have hl1 := hW1.lt
    have hW2 := (hW1.setR (k : Int)).alloc (.cells #[.int .u32 r0.fst.toNat, .slice a1 r0.snd.length c1] 43)
    have hK2 : Kab u w ((w1.setCell ⟨u, 4, none⟩ (.int .i64 k)).alloc (.cells #[.int .u32 r0.fst.toNat, .slice a1 r0.snd.length c1] 43)) := (((hk1.nil (S := [u])).setCell (by simp) _).alloc _).kab (by simp)
    have hR2 : Hid (Recs ((w1.setCell ⟨u, 4, none⟩ (.int .i64 k)).alloc (.cells #[.int .u32 r0.fst.toNat, .slice a1 r0.snd.length c1] 43)) B (.slice av l.length cv) l) := Lib.hid (HR.out.keeps (((hk1.nil (S := [u])).setCell (by simp) _).alloc _) (by simp; omega))
    have hc2' := hW2.cell' (i := 2) rfl
    go_wp2_with fail
    refine (hPl _ hc2').mono ?_
    rintro e w2 ⟨rfl, rfl⟩
    generalize ((w1.setCell ⟨u, 4, none⟩ (.int .i64 k)).alloc (.cells #[.int .u32 r0.fst.toNat, .slice a1 r0.snd.length c1] 43)) = w2 at *
    clear hc2 hc2' c4 f4 hult hl1 hk1 hf0 hW1
    go_wp2_with fail
    go_loopw [28] (fun i wr => ∃ (n : Nat) (v : Value), n ≤ P ∧ i = .int .i64 n ∧ WhB wr p u gen s v k next ∧ Recs wr B v (l ++ F.recsAt gen s A n) ∧ (l ++ F.recsAt gen s A n).length ≤ l.length + n ∧ Kab u w wr) (fun i _ => P - (intOf i).toNat)
    case atStart => exact ⟨0, _, Nat.zero_le _, rfl, hW2, by rw [hs0, List.append_nil]; exact hR2.out, by rw [hs0, List.append_nil]; omega, hK2⟩
    case round =>
      clear hW2 hR2 hK2
      obtain ⟨n, v, hn, rfl, hW, hR, hL, hK⟩ := hrel
      have hst' := hst n
      by_cases hnP : n < P
      · have hw := hWh wr (hK.fla h hpu hqu) hW n hnP
        unfold RecPost at hw
        rw [Int.natCast_add] at hw
        have hi1 : (n : Int) < (P : Int) := by omega
        have hBw : B ≤ wr.heap.size := by have := hK.size; omega
        obtain ⟨av, cv, rfl, hlc, hcm, _, hvo⟩ := hR.form
        have HR := Lib.hid hR
        have HW := Lib.hid hW
        have HK := Lib.hid hK
        have HL := Lib.hid hL
        clear hR hK
        cases hr : F.recAt gen s (A + n) with
        | none =>
          rw [hr] at hw hst'
          have Hst := Lib.hid hst'
          clear hst' hr hst hs0 hW hL hlc hcm hvo hWh
          go_wp2_with fail
          refine hw.mono ?_
          rintro e w3 ⟨v3, rfl, hv3, hk3⟩
          obtain ⟨a3, c3, rfl, _⟩ := hv3
          go_wp2_with fail
          go_roundw
          case rel =>
            refine ⟨n + 1, _, by omega, by go_num, HW.out.keeps (hk3.alloc _) (by simp), ?_, ?_, HK.out.trans ((hk3.alloc _).kab (by simp))⟩
            · rw [Hst.out]
              have := HR.out.keeps (hk3.alloc (.cells #[.int .u32 0, .slice a3 0 c3] 43)) (by simp)
              simpa using this
            · rw [Hst.out]; have := HL.out; simp at this ⊢; omega
          case measure => simp [intOf]; omega
        | some r =>
          obtain ⟨id, d⟩ := r
          rw [hr] at hw hst'
          have Hst := Lib.hid hst'
          clear hst' hr hst hs0 hL hWh
          go_wp2_with fail
          refine hw.mono ?_
          rintro e w3 ⟨v3, rfl, hv3, hk3⟩
          dsimp only [Option.map_some, Option.getD_some] at hv3
          have hv3c := hv3
          obtain ⟨a3, c3, rfl, _⟩ := hv3c
          have hs3 := hk3.size
          have hW4 := (HW.out.keeps hk3 (by simp)).alloc (.cells #[.int .u32 id.toNat, .slice a3 d.length c3] 43)
          have hk5 : Keeps [] w3 ((w3.alloc (.cells #[.int .u32 id.toNat, .slice a3 d.length c3] 43)).alloc (.cells #[.int .u32 id.toNat, .slice a3 d.length c3] 43)).drew := (((Keeps.refl [] w3).alloc _).alloc _).drew
          have hB5 : B ≤ ((w3.alloc (.cells #[.int .u32 id.toNat, .slice a3 d.length c3] 43)).alloc (.cells #[.int .u32 id.toNat, .slice a3 d.length c3] 43)).drew.heap.size := by simp; omega
          have HR5 := Lib.hid ((HR.out.keeps hk3 (by simp)).keeps hk5 (by simp))
          have HW5 := Lib.hid ((HW.out.keeps hk3 (by simp)).keeps hk5 (by simp))
          have hx5 := (hv3.slx (N := fun k => B ≤ k ∧ Value.ownBlock (.slice av (l ++ F.recsAt gen s A n).length cv) ≠ some k) (fun k h1 h2 => ⟨by omega, fun hc => by have := hvo k hc; omega⟩)).keeps hk5 (by simp) (fun _ h _ => h)
          have HX5 := Lib.hid hx5
          have HNu := Lib.hid (show u ∉ Option.toList (Value.ownBlock (.slice av (l ++ F.recsAt gen s A n).length cv)) from by intro hm; have := hvo u (by simpa using hm); omega)
          have HNB := Lib.hid (show ∀ x, x ∈ Option.toList (Value.ownBlock (.slice av (l ++ F.recsAt gen s A n).length cv)) → B ≤ x from by intro x hm; have := hvo x (by simpa using hm); omega)
          have HB5s := Lib.hid hB5
          clear hB5
          have hb5 := Blk.newA (w3.alloc (.cells #[.int .u32 id.toNat, .slice a3 d.length c3] 43)) 43 #[.int .u32 id.toNat, .slice a3 d.length c3]
          rw [show (w3.alloc (.cells #[.int .u32 id.toNat, .slice a3 d.length c3] 43)).heap.size = w3.heap.size + 1 from by simp] at hb5
          replace hb5 := hb5.drew
          have HB5 := Lib.hid hb5
          clear hb5
          have c3' := hW4.cell' (i := 3) rfl
          have f3' := hW4.frozen 3
          have hul := hW4.lt
          have hul3 : u < w3.heap.size := by have := hW.lt; omega
          have hul4 : u < w3.heap.size + 1 := by omega
          have H3 := Lib.hid hk3
          clear hx5 hk5 hv3 hvo hW hw hk3
          generalize hM : l ++ F.recsAt gen s A n = M at *
          have hml : M.length ≤ 2000 := by have := HL.out; omega
          have HM := Lib.hid hM
          clear hM
          go_wp2_with fail
          go_region_law (first | (refine step_append_rec rfl (.tmp 44) (.tmp 46) rfl HR5.out rfl _ 1 rfl id _ d HB5.out HX5.out (by omega) HB5s.out ?_; intro g cap w6 hR6 hG6 hg6 hl6; have hk6 := (Keeps.refl _ _).grown (S := Option.toList (Value.ownBlock (.slice av M.length cv))) hG6 (by intro k hk; left; rw [hk]; simp); have hW6 := HW5.out.keeps hk6 HNu.out; have c6 := hW6.cell' (i := 3) rfl; have f6 := hW6.frozen 3))
          all_goals go_wp2_with fail
          all_goals refine ⟨⟨n + 1, _, by omega, by go_num, WhB.setL hW6 _, ?_, ?_, ?_⟩, ?_⟩
          all_goals first
            | (rw [Hst.out]
               show Recs _ B _ (l ++ (F.recsAt gen s A n ++ [(id, d)]))
               rw [← List.append_assoc, HM.out]
               exact hR6.keeps (S := [u]) ((Keeps.refl _ _).setCell (by simp) _) (by simp; omega))
            | (rw [Hst.out]
               show (l ++ (F.recsAt gen s A n ++ [(id, d)])).length ≤ _
               rw [← List.append_assoc, HM.out]
               have := HL.out
               simp
               omega)
            | exact (HK.out.trans (H3.out.kab (by simp))).trans (((Keeps.kab (S := []) (((Keeps.refl [] w3).alloc _).alloc _).drew (by simp)).trans (hk6.kab fun x hx => by have := HNB.out x hx; omega)).trans (Keeps.kab (S := [u]) ((Keeps.refl _ _).setCell (by simp) _) (by simp)))
            | (simp [intOf]; omega)
      · obtain rfl : n = P := by omega
        have HR := Lib.hid hR
        have HK := Lib.hid hK
        have HW := Lib.hid hW
        clear hst' hR hK hW hWh hst hs0
        go_wp2_with fail
        go_end0
        refine ⟨rfl, v, ?_, ?_, HK.out⟩
        · rw [E.out]; exact HW.out
        · rw [E.out]; exact HR.out

end Go.Proofs.Ytghgmchgbhdldaa
