/-
  WhC: Records of package wheel, walked.
-/
import Derived.Test.YtghgmchgbhdldaaWhOp
set_option linter.unusedVariables false
namespace Go.Proofs.Ytghgmchgbhdldaa
open Go.RowKit
attribute [local go_sem ↓] Go.wp_at_zero Go.wp_at_succ

def RecsPost (w : World) (l : List Rec) (e : Ending) (w' : World) : Prop := ∃ v, e = .returned v ∧ Recs w' w.heap.size v l ∧ Keeps [] w w'

set_option maxRecDepth 100000 in
theorem records_nil {w : World} : Calls Try.prog 22 #[.pointer none] w (RecsPost w []) := by
  go_enter Try.func22, Try.ntmps22
  go_wp2_with fail
  go_ret
  exact ⟨_, rfl, Recs.nil _ _, Keeps.refl _ _⟩

set_option maxRecDepth 100000 in
set_option maxHeartbeats 2000000 in
theorem records_calls {w : World} {p q u : Nat} {gg : Option Nat} {F : Fla} {V : Whl} (h : WhAt w p q u gg F V) :
    Calls Try.prog 22 #[.pointer (some ⟨u, 0, none⟩)] w (RecsPost w V.l) := by
  obtain ⟨v, _, hW, hR⟩ := h.own
  have hp := places_bounds h.s1 h.s2
  have hlen : V.l.length ≤ 1000 := by have := h.lens; have := h.next; omega
  have c3 := hW.cell' (i := 3) rfl
  have hds : ∀ i, i < V.l.length → ∃ d, V.l[i]? = some d := fun i hi => ⟨V.l[i], by simp [hi]⟩
  have htk : ∀ i d, V.l[i]? = some d → V.l.take (i + 1) = V.l.take i ++ [d] := by
    intro i d hd
    rw [List.take_add_one, hd]
    rfl
  have htl : ∀ i, i ≤ V.l.length → (V.l.take i).length = i := fun i hi => by rw [List.length_take]; omega
  have hall : V.l.take V.l.length = V.l := List.take_length
  have hdat := h.dat
  have hs16 := h.s2
  clear hW h
  generalize V.l = l at *
  generalize V.size = s at *
  obtain ⟨av, cv, rfl, hlc, hcm, hn0, hvo⟩ := hR.form
  have HR := Lib.hid hR
  generalize hN : l.length = N at *
  have HN := Lib.hid hN
  have Htk := Lib.hid htk
  have Htl := Lib.hid htl
  have Hall := Lib.hid hall
  have Hds := Lib.hid hds
  have Hdat := Lib.hid hdat
  clear hR hN htk htl hall hds hn0 hvo hdat
  go_enter Try.func22, Try.ntmps22
  go_wp2_with fail
  go_loopw [3, 13] (fun o i wr => ∃ k : Nat, k ≤ N ∧ i = .int .i64 k ∧ Recs wr w.heap.size o (l.take k) ∧ Keeps [] w wr) (fun _ i _ => N - (intOf i).toNat)
  case atStart => exact ⟨0, Nat.zero_le _, rfl, by rw [List.take_zero]; exact Recs.nil _ _, Keeps.refl _ _⟩
  case round =>
    obtain ⟨k, hk, rfl, hO, hK⟩ := hrel
    by_cases hlt : k < N
    · obtain ⟨d, hd⟩ := Hds.out k hlt
      obtain ⟨g, x, rfl, e0, e1, hx⟩ := HR.out.at hd
      have e0' := hK.cell e0
      have e1' := hK.cell e1
      rw [Nat.mul_comm] at e0' e1'
      have i1 : (k : Int) < (N : Int) := by omega
      obtain ⟨id, d⟩ := d
      obtain ⟨ax, cx, rfl, hxc, hxm, hxr, hx0, hxb⟩ := hx
      dsimp only at e0' e1' hxc hxr hx0 hxb
      obtain ⟨ao, co, rfl, hoc, hom, ho0, hob⟩ := hO.form
      have htl := Htl.out k hk
      rw [htl] at hO hob hoc
      have hdl : d.length ≤ 140737488351232 := by have := Hdat.out _ (List.mem_of_getElem? hd); dsimp only at this; omega
      have hk3 : Keeps [] wr (wr.alloc (.cells #[.int .u32 id.toNat, .slice ax d.length cx] 43)).drew := ((Keeps.refl [] wr).alloc _).drew
      have hB := Blk.newA wr 43 #[.int .u32 id.toNat, .slice ax d.length cx]
      have b0 := (Blk.drew hB).cell' (i := 0) rfl
      have b1 := (Blk.drew hB).cell' (i := 1) rfl
      have hC := clone_calls ax d.length cx d ((hxr.keeps hK (by simp)).keepsNil hk3) rfl hdl (fun h => (hx0 h).1)
      have HC := Lib.hid hC
      have HO := Lib.hid hO
      have Hds2 := Lib.hid hd
      have hws := hK.size
      have HNy := Lib.hid (show ∀ y, (wr.alloc (.cells #[.int .u32 id.toNat, .slice ax d.length cx] 43)).drew.heap.size ≤ y → w.heap.size ≤ y ∧ Value.ownBlock (.slice ao k co) ≠ some y from fun y hy => by
        simp only [World.size_drew, World.size_alloc] at hy
        exact ⟨by omega, fun hc => by have := hob y hc; omega⟩)
      have Hlk := Lib.hid (show (List.take k l).length ≤ 100000 by rw [htl]; omega)
      have Hnr := Lib.hid (show wr.heap.size ∉ Option.toList (Value.ownBlock (.slice ao k co)) from fun hm => by have := hob _ (by simpa using hm); omega)
      have Hob := Lib.hid (show ∀ y, y ∈ Option.toList (Value.ownBlock (.slice ao k co)) → w.heap.size ≤ y from fun y hm => (hob y (by simpa using hm)).1)
      have HBr := Lib.hid (Blk.drew hB)
      clear hC hxr hx0 hxb ho0 hd hB hO hob
      go_wp2_with fail
      go_region_held3 (fun w' => w'.cell? ⟨wr.heap.size, 0, none⟩ = some (.int .u32 id.toNat) ∧ w'.cell? ⟨wr.heap.size, 1, none⟩ = some (.slice ax d.length cx))
        (first | exact ⟨b0, b1⟩ | exact ⟨n0, n1⟩ | exact ⟨n2, n3⟩ | exact ⟨n4, n5⟩)
        (first
          | (go_at_call 66; refine HC.out.mono ?_; rintro e w5 ⟨v5, rfl, hO5, hk5⟩; obtain ⟨a5, c5, rfl, hrest⟩ := hO5.sl; have n0 := hk5.cell b0; have n1 := hk5.cell b1; have n2 := (Keeps.alloc (Keeps.refl [] w5) (.cells #[.int .u32 id.toNat, .slice a5 d.length c5] 43)).cell n0; have n3 := (Keeps.alloc (Keeps.refl [] w5) (.cells #[.int .u32 id.toNat, .slice a5 d.length c5] 43)).cell n1; have HO6 := Lib.hid ((((HO.out.keeps hk3 (by simp)).keeps hk5 (by simp))).keeps (Keeps.alloc (Keeps.refl [] w5) (.cells #[.int .u32 id.toNat, .slice a5 d.length c5] 43)) (by simp)); have HB6 := Lib.hid (Blk.newA w5 43 #[.int .u32 id.toNat, .slice a5 d.length c5]); have HX6 := Lib.hid ((hO5.slb.slx (N := fun z => w.heap.size ≤ z ∧ Value.ownBlock (.slice ao k co) ≠ some z) (fun y h1 h2 => HNy.out y h1)).keeps (Keeps.alloc (Keeps.refl [] w5) (.cells #[.int .u32 id.toNat, .slice a5 d.length c5] 43)) (by simp) (fun _ h _ => h)); have HK6 := Lib.hid (hk3.trans (hk5.alloc (.cells #[.int .u32 id.toNat, .slice a5 d.length c5] 43))); have HB5s := Lib.hid (show w.heap.size ≤ (w5.alloc (.cells #[.int .u32 id.toNat, .slice a5 d.length c5] 43)).heap.size from Nat.le_trans hws HK6.out.size); have HBr6 := Lib.hid (HBr.out.keeps (hk5.alloc (.cells #[.int .u32 id.toNat, .slice a5 d.length c5] 43)) (by simp)))
          | (refine step_append_rec rfl (.tmp 17) (.tmp 24) rfl HO6.out rfl _ 1 rfl id _ d HB6.out HX6.out Hlk.out HB5s.out ?_; intro g6 cap6 w7 hR7 hG7 hg7 hl7; have hk7 := (Keeps.refl _ _).grown (S := Option.toList (Value.ownBlock (.slice ao k co))) hG7 (fun z hz => Or.inl (by rw [hz]; exact List.mem_singleton.2 rfl)); have hBr7 := HBr6.out.keeps hk7 Hnr.out; have n4 := hBr7.cell' (i := 0) rfl; have n5 := hBr7.cell' (i := 1) rfl))
      go_wp2_with fail
      go_roundw
      case rel =>
        refine ⟨k + 1, by omega, by go_num, ?_, ?_⟩
        · rw [Htk.out k _ Hds2.out]
          have := hR7
          rwa [htl] at this
        · exact (hK.trans HK6.out).trans' hk7 (by simp) (fun y hy => .inr (Hob.out y hy))
      case measure => simp [intOf]; omega
    · obtain rfl : k = N := by omega
      have hall := Hall.out
      have hO' : Recs wr w.heap.size u3 l := by
        have := hO
        rwa [hall] at this
      have HO := Lib.hid hO'
      have HK := Lib.hid hK
      clear hall hO hO' hK
      go_wp2_with fail
      go_ret
      exact ⟨_, rfl, HO.out, HK.out⟩

end Go.Proofs.Ytghgmchgbhdldaa
