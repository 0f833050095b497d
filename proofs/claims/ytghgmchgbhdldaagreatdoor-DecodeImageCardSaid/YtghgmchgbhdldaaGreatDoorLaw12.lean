/-
  Law12: downpourlaw12.sound, walked.
-/
import Derived.Test.YtghgmchgbhdldaaGreatDoorDe4
import Derived.Test.YtghgmchgbhdldaaGreatDoorDeT
import Derived.Deep.Cut
import Derived.Deep.RegionHeld3
import Derived.Deep.DrawnRows
set_option linter.unusedVariables false
set_option linter.unusedSimpArgs false
namespace Go.Proofs.YtghgmchgbhdldaaGreatDoor
open Go.RowKit
attribute [local go_sem ↓] Go.wp_at_zero Go.wp_at_succ

theorem Own.lit8 (w : World) (c : Array Value) (l : List UInt8) (n : Nat) (hc : c.toList = l.map B8) (hn : l.length = n) (hm : n ≤ 1000000) :
    Own (w.alloc (.cells c 5)) w.heap.size (.slice (some ⟨w.heap.size, 0, none⟩) n n) l := by
  have hcs : c.size = n := by rw [← Array.length_toList, hc, List.length_map, hn]
  have hg : (w.alloc (.cells c 5)).heap[w.heap.size]? = some (.cells c 5 (0, 0)) := by
    show (w.heap.push _)[w.heap.size]? = _
    simp
  refine ⟨by simp, .inr ⟨w.heap.size, n, c, by rw [hn], Nat.le_refl _, hg, by omega, by unfold maxLen; omega, by omega, ?_⟩⟩
  rw [hc, List.take_of_length_le (by rw [List.length_map]; omega)]
theorem Own.ge8 {w : World} {B : Nat} {v : Value} {l : List UInt8} (h : Own w B v l) : ∀ y, v.ownBlock = some y → B ≤ y := by
  intro y hy
  rcases h.2 with ⟨rfl, _⟩ | ⟨g, cap, cur, rfl, hb, _⟩
  · simp [Value.ownBlock] at hy
  · simp [Value.ownBlock] at hy; omega

theorem Blk.put4 {w : World} {p : Nat} {t : TypeId} {a0 b0 c0 d0 : Value} (h : Blk w p t [a0, b0, c0, d0]) (a b c d : Value) :
    Blk ((((w.setCell ⟨p, 0, none⟩ a).setCell ⟨p, 1, none⟩ b).setCell ⟨p, 2, none⟩ c).setCell ⟨p, 3, none⟩ d) p t [a, b, c, d] := (((h.set 0 a).set 1 b).set 2 c).set 3 d
theorem Keeps.put4 {S : List Nat} {w' w : World} {p : Nat} (k : Keeps S w' w) (hp : p ∈ S ∨ w'.heap.size ≤ p) (a b c d : Value) :
    Keeps S w' ((((w.setCell ⟨p, 0, none⟩ a).setCell ⟨p, 1, none⟩ b).setCell ⟨p, 2, none⟩ c).setCell ⟨p, 3, none⟩ d) := (((k.setCell hp _).setCell hp _).setCell hp _).setCell hp _

def Sound12Post (w : World) (s : UInt32) (e : Ending) (w' : World) : Prop :=
  ∃ (nK P z : Nat) (img : List UInt8) (vi : Value), e = .returned (.tuple #[.agg #[B32 s, .int .i64 nK, .int .i64 P, .int .i64 z], vi]) ∧ Fits nK P z img ∧ img.length ≤ 201 ∧ 1 ≤ img.length ∧ RdS w' vi img ∧ Keeps [] w w'

theorem fits_of {img : List UInt8} {q P z : Nat} (h1 : 1 ≤ img.length) (h2 : img.length ≤ 201) (hz1 : (img.length + 63) / 64 ≤ z) (hz0 : 1 ≤ z) (hz2 : z ≤ 16) (hP : P ≤ 16) : Fits ((img.length + z - 1) / z) P z img := by
  have hz : 0 < z := by omega
  have hle : (img.length + z - 1) / z ≤ 64 := by
    rw [Nat.div_le_iff_le_mul hz]
    have : img.length ≤ 64 * z := by omega
    omega
  have hge : 1 ≤ (img.length + z - 1) / z := by rw [Nat.le_div_iff_mul_le hz]; omega
  have hfit : img.length ≤ (img.length + z - 1) / z * z := by
    have := Nat.div_add_mod (img.length + z - 1) z
    have hm := Nat.mod_lt (img.length + z - 1) hz
    rw [Nat.mul_comm] at this
    omega
  refine ⟨hge, hle, hP, hz0, hz2, by omega, ?_, hfit⟩
  unfold bcount
  rw [if_neg (by omega), if_pos hle]

set_option maxRecDepth 100000 in
set_option maxHeartbeats 1600000 in
theorem sound12_calls {w : World} (s : UInt32) (k p z0 : Int) (a : Option Addr) (n c : Nat) (l : List UInt8) (hl : Rd w a l) (hn : l.length = n) (hnc : n ≤ c) (hc : c ≤ maxLen) (h0 : a = none → l = [] ∧ c = 0) :
    Calls Tryz.prog 10 #[.agg #[B32 s, .int .i64 k, .int .i64 p, .int .i64 z0], .slice a n c] w (Sound12Post w s) := by
  obtain ⟨q, hq, eq1, eq2⟩ := umod z0 16 (by omega) (by omega)
  obtain ⟨P, hP, eP1, eP2⟩ := umod p 17 (by omega) (by omega)
  obtain ⟨m, hm, hm1, hm2⟩ : ∃ m : Nat, min (n : Int) 200 = (m : Int) ∧ m ≤ n ∧ m ≤ 200 := ⟨min n 200, by omega, by omega, by omega⟩
  have hmi : (m : Int) ≤ (c : Int) := by omega
  obtain ⟨img, himg⟩ : ∃ img, img = ([] ++ l.take m) ++ [7] := ⟨_, rfl⟩
  have hL : img.length = m + 1 := by rw [himg, List.nil_append, List.length_append, List.length_take]; simp; omega
  obtain ⟨z, hz, hz1, hz2, hz3⟩ : ∃ z : Nat, max (1 + (q : Int)) (((m : Int) + 1 + 64 - 1) / 64) = (z : Int) ∧ 1 ≤ z ∧ z ≤ 16 ∧ (m + 1 + 63) / 64 ≤ z := ⟨max (1 + q) ((m + 1 + 63) / 64), by omega, by omega, by omega, by omega⟩
  have hFits := fits_of (img := img) (q := q) (P := P) (z := z) (by omega) (by omega) (by rw [hL]; exact hz3) hz1 hz2 (by omega)
  obtain ⟨K, hK, hKb⟩ : ∃ K : Nat, K = (img.length + z - 1) / z ∧ ((m : Int) + 1 + (z : Int) - 1) / (z : Int) = (K : Int) := ⟨_, rfl, by rw [hL, show (m : Int) + 1 + (z : Int) - 1 = ((m + 1 + z - 1 : Nat) : Int) from by omega, Int.natCast_ediv]⟩
  rw [← hK] at hFits
  go_enter Tryz.func10, Tryz.ntmps10
  go_upto_region 1 with (fail)
  have hBp := (Blk.newA w 24 #[B32 s, .int .i64 k, .int .i64 p, .int .i64 z0]).alloc (.cells #[.int .u32 0, .int .i64 0, .int .i64 0, .int .i64 0] 24)
  have hBz := Blk.newA (w.alloc (.cells #[B32 s, .int .i64 k, .int .i64 p, .int .i64 z0] 24)) 24 #[.int .u32 0, .int .i64 0, .int .i64 0, .int .i64 0]
  rw [World.size_alloc] at hBz
  have kA : Keeps [] w ((w.alloc (.cells #[B32 s, .int .i64 k, .int .i64 p, .int .i64 z0] 24)).alloc (.cells #[.int .u32 0, .int .i64 0, .int .i64 0, .int .i64 0] 24)) := ((Keeps.refl [] w).alloc _).alloc _
  have hsA : ((w.alloc (.cells #[B32 s, .int .i64 k, .int .i64 p, .int .i64 z0] 24)).alloc (.cells #[.int .u32 0, .int .i64 0, .int .i64 0, .int .i64 0] 24)).heap.size = w.heap.size + 1 + 1 := by simp
  generalize (w.alloc (.cells #[B32 s, .int .i64 k, .int .i64 p, .int .i64 z0] 24)).alloc (.cells #[.int .u32 0, .int .i64 0, .int .i64 0, .int .i64 0] 24) = W at *
  have H1 := Own.lit8 W #[] [] 0 rfl rfl (by omega)
  have HO1 := Lib.hid H1
  have kW : Keeps [] W (W.alloc (.cells #[] 5)) := (Keeps.refl [] W).alloc _
  have HR1 := Lib.hid ((hl.keepsNil (kA.trans kW)).take m)
  have Htl := Lib.hid (show (l.take m).length = m from by rw [List.length_take]; omega)
  have Hm0 := Lib.hid (show a = none → m = 0 ∧ c = 0 from fun h => by have := h0 h; rw [this.1] at hn; simp at hn; exact ⟨by omega, this.2⟩)
  have hb1 : W.heap.size ≤ (W.alloc (.cells #[] 5)).heap.size := by simp
  have hlen1 : ([] : List UInt8).length + m ≤ 140737488351232 := by simp; omega
  have Himg := Lib.hid himg
  have HFits := Lib.hid hFits
  have HBp := Lib.hid hBp
  have HBz := Lib.hid hBz
  have HL := Lib.hid hL
  have HkA := Lib.hid kA
  have HkW := Lib.hid kW
  clear H1 hl h0 himg hFits hBp hBz kA kW hsA hK hL
  go_wp2_with (first | (at_builtin; refine wpList_append_bytes rfl (.tmp 7) (.tmp 12) rfl HO1.out rfl a m c rfl HR1.out Htl.out Hm0.out hlen1 hb1 ?_; intro v13 w13 g1 g2 g3; have HO2 := Lib.hid (g1.keeps ((Keeps.refl [] w13).alloc (.cells #[.int .u8 7] 5)) (by simp)); have HR2 := Lib.hid (Rd.lit w13 5 #[.int .u8 7] [7] rfl); have k13 : Keeps [] W w13 := HkW.out.grown g2 (fun x hx => .inr (HO1.out.ge8 x hx)); have hb2 : W.heap.size ≤ (w13.alloc (.cells #[.int .u8 7] 5)).heap.size := (Nat.le_trans k13.size (by simp)); have hlen2 : ([] ++ l.take m).length + 1 ≤ 140737488351232 := (by rw [List.nil_append, Htl.out]; omega); have Hk13 := Lib.hid (k13.alloc (.cells #[.int .u8 7] 5)); clear g1 g2 g3 k13) | (at_builtin; (refine wpList_append_bytes rfl (.tmp 13) (.tmp 14) rfl HO2.out rfl (some ⟨w13.heap.size, 0, none⟩) 1 1 rfl HR2.out rfl (by simp) hlen2 hb2 ?_); intro v15 w15 g4 g5 g6; have k15 : Keeps [] W w15 := Hk13.out.grown g5 (fun x hx => .inr (HO2.out.ge8 x hx)); rw [← Himg.out] at g4; have hBp := HBp.out.keeps k15 (by simp); have hBz := HBz.out.keeps k15 (by simp); have c0 := hBp.cell' (i := 0) rfl; have c2 := hBp.cell' (i := 2) rfl; have c3 := hBp.cell' (i := 3) rfl; have HBz15 := Lib.hid hBz; have Hk15 := Lib.hid k15; have HR15 := Lib.hid g4.rds; obtain ⟨a15, c15, rfl, _⟩ := g4.rds; rw [HL.out]; clear g4 g5 g6 k15 hBp hBz))
  have d0 := HBz15.out.cell' (i := 0) rfl
  have d1 := HBz15.out.cell' (i := 1) rfl
  have d2 := HBz15.out.cell' (i := 2) rfl
  have d3 := HBz15.out.cell' (i := 3) rfl
  have f0 := HBz15.out.frozen 0
  have f1 := HBz15.out.frozen 1
  have f2 := HBz15.out.frozen 2
  have f3 := HBz15.out.frozen 3
  go_region
  have hB4 := (HBz15.out.put4 (B32 s) (.int .i64 K) (.int .i64 P) (.int .i64 z)).drew
  have hk := ((HkA.out.trans Hk15.out).put4 (p := w.heap.size + 1) (.inr (by omega)) (B32 s) (.int .i64 K) (.int .i64 P) (.int .i64 z)).drew
  have k4 := ((Keeps.refl [w.heap.size + 1] w15).put4 (p := w.heap.size + 1) (.inl (by simp)) (B32 s) (.int .i64 K) (.int .i64 P) (.int .i64 z)).drew
  have HR := Lib.hid (HR15.out.keepsP k4 (fun x hx => by simp only [List.mem_singleton] at hx; subst hx; exact ⟨_, _, HBz15.out, by decide⟩))
  clear d0 d1 d2 d3 f0 f1 f2 f3 c0 c2 c3
  have e0 := hB4.cell' (i := 0) rfl
  have e1 := hB4.cell' (i := 1) rfl
  have e2 := hB4.cell' (i := 2) rfl
  have e3 := hB4.cell' (i := 3) rfl
  generalize ((((w15.setCell ⟨w.heap.size + 1, 0, none⟩ (B32 s)).setCell ⟨w.heap.size + 1, 1, none⟩ (.int .i64 K)).setCell ⟨w.heap.size + 1, 2, none⟩ (.int .i64 P)).setCell ⟨w.heap.size + 1, 3, none⟩ (.int .i64 z)).drew = w16 at *
  go_wp2_with fail
  refine bodyPost_ret (v := .tuple #[.agg #[B32 s, .int .i64 K, .int .i64 P, .int .i64 z], .slice a15 (m + 1) c15]) (by simp [results, Tryz.results10, go_sem, e0, e1, e2, e3]) rfl ?_
  have hL := HL.out
  exact ⟨K, P, z, img, _, rfl, HFits.out, by omega, by omega, by rw [← hL]; exact HR.out, hk⟩

end Go.Proofs.YtghgmchgbhdldaaGreatDoor
