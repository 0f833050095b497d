/-
  GrHm: the texts Hm, one behind another.
-/
import Derived.Test.YtijhaeapoapgfaaGreatDoorGrRDig
import Derived.Test.YtijhaeapoapgfaaGreatDoorGrVecL
import Derived.Test.YtijhaeapoapgfaaGreatDoorGrBytes
import Derived.Test.YtijhaeapoapgfaaGreatDoorGrRdZ
set_option linter.unusedVariables false
set_option linter.unusedSimpArgs false
namespace Go.Proofs.YtijhaeapoapgfaaGreatDoor
open Go.RowKit
attribute [local go_sem ↓] Go.wp_at_zero Go.wp_at_succ

theorem flat_take (ls : List (List UInt8)) (k : Nat) (h : k < ls.length) : (ls.take (k + 1)).flatten = (ls.take k).flatten ++ ls[k] := by
  rw [List.take_add_one, List.getElem?_eq_getElem h, Option.toList_some, List.flatten_append]
  simp
theorem flat_le (ls : List (List UInt8)) (k : Nat) (h : k < ls.length) : (ls.take k).flatten.length + ls[k].length ≤ ls.flatten.length := by
  have e : ls.flatten = (ls.take (k + 1)).flatten ++ (ls.drop (k + 1)).flatten := by rw [← List.flatten_append, List.take_append_drop]
  rw [e, flat_take ls k h]
  simp
theorem flat_take_len (ls : List (List UInt8)) (k : Nat) (h : k < ls.length) : ((ls.take (k + 1)).flatten).length = ((ls.take k).flatten).length + ls[k].length := by rw [flat_take ls k h, List.length_append]

/-- A literal slice of slices of bytes. -/
theorem RdL.blk {w : World} {g : Nat} {vs : List Value} {L : List (List UInt8)} (hb : Blk w g 22 vs) (hl : vs.length = L.length) (hm : L.length ≤ 1000) (he : ∀ (i : Nat) (x : List UInt8), L[i]? = some x → ∃ u, vs[i]? = some u ∧ RdS w u x) : RdL w (.slice (some ⟨g, 0, none⟩) L.length L.length) L :=
  ⟨_, _, rfl, Nat.le_refl _, by omega, fun i x hx => by obtain ⟨u, hu, hr⟩ := he i x hx; exact ⟨g, u, rfl, hb.cell' hu, hr⟩, by simp⟩
theorem RdS.blk {w : World} {g n : Nat} {l : List UInt8} (hb : Blk w g 5 (l.map B8)) (hn : l.length = n) (hm : n ≤ 1000000) : RdS w (.slice (some ⟨g, 0, none⟩) n n) l := by
  subst hn
  exact ⟨_, _, rfl, Nat.le_refl _, by omega, Rd.blk hb 0 l (fun i u hu => by rw [Nat.zero_add, List.getElem?_map, hu]; rfl), by simp, fun x hx _ => by simp only [Option.some.injEq] at hx; subst hx; exact ⟨_, hb⟩⟩
theorem RdL.two {w : World} {g : Nat} {a b : Value} {x y : List UInt8} (hb : Blk w g 22 [a, b]) (ha : RdS w a x) (hb2 : RdS w b y) : RdL w (.slice (some ⟨g, 0, none⟩) 2 2) [x, y] :=
  RdL.blk (L := [x, y]) hb rfl (by simp) (fun i u hu => by
    match i, hu with
    | 0, hu => exact ⟨a, rfl, by obtain rfl := Option.some.inj hu; exact ha⟩
    | 1, hu => exact ⟨b, rfl, by obtain rfl := Option.some.inj hu; exact hb2⟩)
theorem RdL.three {w : World} {g : Nat} {a b c : Value} {x y z : List UInt8} (hb : Blk w g 22 [a, b, c]) (h1 : RdS w a x) (h2 : RdS w b y) (h3 : RdS w c z) : RdL w (.slice (some ⟨g, 0, none⟩) 3 3) [x, y, z] :=
  RdL.blk (L := [x, y, z]) hb rfl (by simp) (fun i u hu => by
    match i, hu with
    | 0, hu => exact ⟨a, rfl, by obtain rfl := Option.some.inj hu; exact h1⟩
    | 1, hu => exact ⟨b, rfl, by obtain rfl := Option.some.inj hu; exact h2⟩
    | 2, hu => exact ⟨c, rfl, by obtain rfl := Option.some.inj hu; exact h3⟩)
theorem RdL.four {w : World} {g : Nat} {a b c d : Value} {x y z u : List UInt8} (hb : Blk w g 22 [a, b, c, d]) (h1 : RdS w a x) (h2 : RdS w b y) (h3 : RdS w c z) (h4 : RdS w d u) : RdL w (.slice (some ⟨g, 0, none⟩) 4 4) [x, y, z, u] :=
  RdL.blk (L := [x, y, z, u]) hb rfl (by simp) (fun i v hu => by
    match i, hu with
    | 0, hu => exact ⟨a, rfl, by obtain rfl := Option.some.inj hu; exact h1⟩
    | 1, hu => exact ⟨b, rfl, by obtain rfl := Option.some.inj hu; exact h2⟩
    | 2, hu => exact ⟨c, rfl, by obtain rfl := Option.some.inj hu; exact h3⟩
    | 3, hu => exact ⟨d, rfl, by obtain rfl := Option.some.inj hu; exact h4⟩)
theorem RdL.five {w : World} {g : Nat} {a b c d e : Value} {x y z u t : List UInt8} (hb : Blk w g 22 [a, b, c, d, e]) (h1 : RdS w a x) (h2 : RdS w b y) (h3 : RdS w c z) (h4 : RdS w d u) (h5 : RdS w e t) : RdL w (.slice (some ⟨g, 0, none⟩) 5 5) [x, y, z, u, t] :=
  RdL.blk (L := [x, y, z, u, t]) hb rfl (by simp) (fun i v hu => by
    match i, hu with
    | 0, hu => exact ⟨a, rfl, by obtain rfl := Option.some.inj hu; exact h1⟩
    | 1, hu => exact ⟨b, rfl, by obtain rfl := Option.some.inj hu; exact h2⟩
    | 2, hu => exact ⟨c, rfl, by obtain rfl := Option.some.inj hu; exact h3⟩
    | 3, hu => exact ⟨d, rfl, by obtain rfl := Option.some.inj hu; exact h4⟩
    | 4, hu => exact ⟨e, rfl, by obtain rfl := Option.some.inj hu; exact h5⟩)

set_option maxRecDepth 100000 in
set_option maxHeartbeats 1000000 in
theorem rjoin0_calls {w : World} {v : Value} {L : List (List UInt8)} (hv : RdL0 w v L) (hL2 : L.length ≤ 1000) (hf : L.flatten.length ≤ 100000) :
    Calls Tryz.prog 49 #[v] w (ClonePost w L.flatten) := by
  obtain ⟨a, c, rfl, _⟩ := id hv
  have HV := Lib.hid hv
  clear hv
  go_enter Tryz.func49, Tryz.ntmps49
  go_wp2_with fail
  go_loopw [3, 8] (fun o i wr => ∃ k : Nat, k ≤ L.length ∧ i = .int .i64 k ∧ Own wr w.heap.size o (L.take k).flatten ∧ Keeps [] w wr) (fun _ i _ => L.length - (intOf i).toNat)
  case atStart => exact ⟨0, Nat.zero_le _, rfl, by simpa using Own.nil _ _, Keeps.refl _ _⟩
  case round =>
    obtain ⟨k, hk, rfl, hO, hK⟩ := hrel
    by_cases hlt : k < L.length
    · obtain ⟨a', c', ea, hrd⟩ := HV.out.keepsNil hK
      simp only [Value.slice.injEq] at ea
      obtain ⟨rfl, _, rfl⟩ := ea
      obtain ⟨g0, u, rfl, hc0, hru⟩ := hrd k L[k] (List.getElem?_eq_getElem hlt)
      have hft := flat_take L k hlt
      have hfl := flat_le L k hlt
      generalize L[k] = m at *
      generalize (L.take k).flatten = X at *
      obtain ⟨ab, cb, rfl, b1, b2, b3, b4⟩ := hru
      have hs := hK.size
      have hkn : (k : Int) < (L.length : Int) := by omega
      have HO := Lib.hid hO
      have HR := Lib.hid b3
      have H4 := Lib.hid (show ab = none → m.length = 0 ∧ cb = 0 from fun h => ⟨by rw [(b4 h).1]; rfl, (b4 h).2⟩)
      have hl1 : X.length + m.length ≤ 140737488351232 := by omega
      have Hft := Lib.hid hft
      have HK := Lib.hid hK
      clear hO b3 b4 hft hrd hK hf
      go_wp2_with (at_builtin; (refine wpList_append_bytes rfl (.tmp 12) (.tmp 13) rfl HO.out rfl ab m.length cb rfl HR.out rfl H4.out hl1 hs ?_); intro v2 w2 g1 g2 g3)
      go_roundw
      case rel => exact ⟨k + 1, by omega, by go_num, by rw [Hft.out]; exact g1, HK.out.grown g2 (fun y hy => .inr (HO.out.ge y hy))⟩
      case measure => simp [intOf]; omega
    · obtain rfl : k = L.length := by omega
      rw [List.take_length] at hO
      have HO := Lib.hid hO
      have HK := Lib.hid hK
      clear hO hK
      go_wp2_with fail
      go_ret
      exact ⟨_, rfl, HO.out, HK.out⟩

theorem rjoin_calls {w : World} {v : Value} {L : List (List UInt8)} (hv : RdL w v L) (hL2 : L.length ≤ 1000) (hf : L.flatten.length ≤ 100000) :
    Calls Tryz.prog 49 #[v] w (ClonePost w L.flatten) := rjoin0_calls hv.z hL2 hf

set_option maxRecDepth 100000 in
set_option maxHeartbeats 1000000 in
theorem drows_calls {w : World} {v : Value} {L : List (List UInt8)} (hv : RdL w v L) (hL2 : L.length ≤ 1000) (hf : L.flatten.length ≤ 100000) :
    Calls Tryz.prog 143 #[v] w (ClonePost w (sha L.flatten)) := by
  obtain ⟨a, c, rfl, _⟩ := id hv
  have HV := Lib.hid hv
  clear hv
  go_enter Tryz.func143, Tryz.ntmps143
  go_wp2_with fail
  go_loopw [3, 8] (fun o i wr => ∃ k : Nat, k ≤ L.length ∧ i = .int .i64 k ∧ Own wr w.heap.size o (L.take k).flatten ∧ Keeps [] w wr) (fun _ i _ => L.length - (intOf i).toNat)
  case atStart => exact ⟨0, Nat.zero_le _, rfl, by simpa using Own.nil _ _, Keeps.refl _ _⟩
  case round =>
    obtain ⟨k, hk, rfl, hO, hK⟩ := hrel
    by_cases hlt : k < L.length
    · obtain ⟨a', c', ea, _, _, hrd, _⟩ := HV.out.keepsNil hK
      simp only [Value.slice.injEq] at ea
      obtain ⟨rfl, _, rfl⟩ := ea
      obtain ⟨g0, u, rfl, hc0, hru⟩ := hrd k L[k] (List.getElem?_eq_getElem hlt)
      have hft := flat_take L k hlt
      have hfl := flat_le L k hlt
      generalize L[k] = m at *
      generalize (L.take k).flatten = X at *
      obtain ⟨ab, cb, rfl, b1, b2, b3, b4, _⟩ := hru
      have hs := hK.size
      have hkn : (k : Int) < (L.length : Int) := by omega
      have HO := Lib.hid hO
      have HR := Lib.hid b3
      have H4 := Lib.hid (show ab = none → m.length = 0 ∧ cb = 0 from fun h => ⟨by rw [(b4 h).1]; rfl, (b4 h).2⟩)
      have hl1 : X.length + m.length ≤ 140737488351232 := by omega
      have Hft := Lib.hid hft
      have HK := Lib.hid hK
      clear hO b3 b4 hft hrd hK hf
      go_wp2_with (at_builtin; (refine wpList_append_bytes rfl (.tmp 12) (.tmp 13) rfl HO.out rfl ab m.length cb rfl HR.out rfl H4.out hl1 hs ?_); intro v2 w2 g1 g2 g3)
      go_roundw
      case rel => exact ⟨k + 1, by omega, by go_num, by rw [Hft.out]; exact g1, HK.out.grown g2 (fun y hy => .inr (HO.out.ge y hy))⟩
      case measure => simp [intOf]; omega
    · obtain rfl : k = L.length := by omega
      rw [List.take_length] at hO
      have HK := Lib.hid hK
      have hs := hK.size
      obtain ⟨a2, c2, rfl, r1, r2, r3, r4, _⟩ := hO.rds
      have HS := Lib.hid (shasum_calls a2 L.flatten.length c2 L.flatten r3 rfl (by omega) (fun h => ⟨by rw [(r4 h).1]; rfl, (r4 h).2⟩))
      clear hO hK r3 r4 hf
      generalize L.flatten = X at *
      go_wp2_with fail
      refine HS.out.mono ?_
      rintro e w2 ⟨v2, rfl, hO2, k2⟩
      have HO2 := Lib.hid hO2
      have HK2 := Lib.hid k2
      clear hO2 k2
      go_wp2_with fail
      go_ret
      exact ⟨_, rfl, HO2.out.mono hs, HK.out.trans HK2.out⟩

set_option maxRecDepth 100000 in
set_option maxHeartbeats 1600000 in
theorem concat_calls {w : World} {v : Value} {L : List (List UInt8)} (hv : RdL w v L) (hL2 : L.length ≤ 1000) (hf : L.flatten.length ≤ 100000) (h0 : 0 < L.flatten.length) :
    Calls Tryz.prog 114 #[v] w (ClonePost w L.flatten) := by
  obtain ⟨a, c, rfl, _⟩ := id hv
  have HV := Lib.hid hv
  clear hv
  go_enter Tryz.func114, Tryz.ntmps114
  go_wp2_with fail
  go_loopw [3, 11] (fun s i wr => ∃ k : Nat, k ≤ L.length ∧ i = .int .i64 k ∧ s = .int .i64 ((L.take k).flatten.length : Nat) ∧ wr = w) (fun _ i _ => L.length - (intOf i).toNat)
  case atStart => exact ⟨0, Nat.zero_le _, rfl, rfl, rfl⟩
  case round =>
    obtain ⟨k, hk, rfl, rfl, rfl⟩ := hrel
    by_cases hlt : k < L.length
    · obtain ⟨a', c', ea, _, _, hrd, _⟩ := HV.out
      simp only [Value.slice.injEq] at ea
      obtain ⟨rfl, _, rfl⟩ := ea
      obtain ⟨g0, u, rfl, hc0, hru⟩ := hrd k L[k] (List.getElem?_eq_getElem hlt)
      have hft := flat_take_len L k hlt
      have hfl := flat_le L k hlt
      generalize L[k] = m at *
      generalize (L.take k).flatten.length = X at *
      obtain ⟨ab, cb, rfl, b1, b2, b3, b4, _⟩ := hru
      have hkn : (k : Int) < (L.length : Int) := by omega
      have Hft := Lib.hid hft
      have hb : (X : Int) + (m.length : Int) ≤ 100000 := by omega
      have hng : ¬ ((X : Int) + (m.length : Int) < 0) := by omega
      clear b3 b4 hft hrd hf h0 hfl
      go_wp2_with fail
      go_roundw
      case rel => exact ⟨k + 1, by omega, by go_num, by rw [Hft.out]; go_num, by simp⟩
      case measure => simp [intOf]; omega
    · obtain rfl : k = L.length := by omega
      rw [List.take_length]
      obtain ⟨N, hN⟩ : ∃ N, N = L.flatten.length := ⟨_, rfl⟩
      rw [← hN] at hf h0 ⊢
      have HN := Lib.hid hN
      have HG := Lib.hid (grow_calls (w := wr) N h0 (by omega))
      clear h0 hN
      go_wp2_with fail
      refine HG.out.mono ?_
      rintro e w1 ⟨c1, rfl, hO1, hK1⟩
      go_wp2_with fail
      obtain ⟨wo, hwo⟩ : ∃ wo, wo = wr := ⟨_, rfl⟩
      subst hwo
      clear HG
      go_loopw [6, 27] (fun o i wr => ∃ k : Nat, k ≤ L.length ∧ i = .int .i64 k ∧ Own wr wo.heap.size o (L.take k).flatten ∧ Keeps [] wo wr) (fun _ i _ => L.length - (intOf i).toNat)
      case atStart => exact ⟨0, Nat.zero_le _, rfl, by simpa using hO1, hK1⟩
      case round =>
        clear hO1 hK1
        obtain ⟨k, hk, rfl, hO, hK⟩ := hrel
        by_cases hlt : k < L.length
        · obtain ⟨a', c', ea, _, _, hrd, _⟩ := HV.out.keepsNil hK
          simp only [Value.slice.injEq] at ea
          obtain ⟨rfl, _, rfl⟩ := ea
          obtain ⟨g0, u, rfl, hc0, hru⟩ := hrd k L[k] (List.getElem?_eq_getElem hlt)
          have hft := flat_take L k hlt
          have hfl := flat_le L k hlt
          rw [← HN.out] at hfl
          generalize L[k] = m at *
          generalize (L.take k).flatten = X at *
          obtain ⟨ab, cb, rfl, b1, b2, b3, b4, _⟩ := hru
          have hs := hK.size
          have hkn : (k : Int) < (L.length : Int) := by omega
          have HO := Lib.hid hO
          have HR := Lib.hid b3
          have H4 := Lib.hid (show ab = none → m.length = 0 ∧ cb = 0 from fun h => ⟨by rw [(b4 h).1]; rfl, (b4 h).2⟩)
          have hl1 : X.length + m.length ≤ 140737488351232 := by omega
          have Hft := Lib.hid hft
          have HK := Lib.hid hK
          clear hO b3 b4 hft hrd hK hf
          go_wp2_with (at_builtin; (refine wpList_append_bytes rfl (.tmp 31) (.tmp 32) rfl HO.out rfl ab m.length cb rfl HR.out rfl H4.out hl1 hs ?_); intro v2 w2 g1 g2 g3)
          go_roundw
          case rel => exact ⟨k + 1, by omega, by go_num, by rw [Hft.out]; exact g1, HK.out.grown g2 (fun y hy => .inr (HO.out.ge y hy))⟩
          case measure => simp [intOf]; omega
        · obtain rfl : k = L.length := by omega
          rw [List.take_length] at hO
          have HO := Lib.hid hO
          have HK := Lib.hid hK
          clear hO hK
          go_wp2_with fail
          go_ret
          exact ⟨_, rfl, HO.out, HK.out⟩

end Go.Proofs.YtijhaeapoapgfaaGreatDoor
