/-
  GrMac: the texts Hm, Mac, Mac2, one behind another.
-/
import Derived.Test.YtijhaeapoapgfaaGreatDoorRDig
import Derived.Test.YtijhaeapoapgfaaGreatDoorGrBk
import Derived.Test.YtijhaeapoapgfaaGreatDoorPlain
import Derived.Deep.DeepCutAuto
import Derived.Deep.CutBlock
set_option linter.unusedVariables false
set_option linter.unusedSimpArgs false
namespace Go.Proofs.YtijhaeapoapgfaaGreatDoor
open Go.RowKit
attribute [local go_sem ↓] Go.wp_at_zero Go.wp_at_succ

theorem flat_take (ls : List (List UInt8)) (k : Nat) (h : k < ls.length) : (ls.take (k + 1)).flatten = (ls.take k).flatten ++ ls[k] := by
  rw [List.take_add_one, List.getElem?_eq_getElem h, Option.toList_some, List.flatten_append]
  simp
theorem flat_le (ls : List (List UInt8)) (k : Nat) (h : k < ls.length) : (ls.take k).flatten.length + ls[k].length ≤ ls.flatten.length := by
  have e : ls.flatten = (ls.take (k + 1)).flatten ++ (ls.drop (k + 1)).flatten := by rw [← List.flatten_append, List.take_append_drop]
  rw [e, flat_take ls k h]
  simp
theorem flat_take_len (ls : List (List UInt8)) (k : Nat) (h : k < ls.length) : ((ls.take (k + 1)).flatten).length = ((ls.take k).flatten).length + ls[k].length := by rw [flat_take ls k h, List.length_append]

/-- A literal slice of slices of bytes. -/
theorem RdL.blk {w : World} {g : Nat} {vs : List Value} {L : List (List UInt8)} (hb : Blk w g 22 vs) (hl : vs.length = L.length) (hm : L.length ≤ 1000) (he : ∀ (i : Nat) (x : List UInt8), L[i]? = some x → ∃ u, vs[i]? = some u ∧ RdS w u x) : RdL w (.slice (some ⟨g, 0, none⟩) L.length L.length) L :=
  ⟨_, _, rfl, Nat.le_refl _, by omega, fun i x hx => by obtain ⟨u, hu, hr⟩ := he i x hx; exact ⟨g, u, rfl, hb.cell' hu, hr⟩, by simp⟩
theorem RdS.blk {w : World} {g n : Nat} {l : List UInt8} (hb : Blk w g 5 (l.map B8)) (hn : l.length = n) (hm : n ≤ 1000000) : RdS w (.slice (some ⟨g, 0, none⟩) n n) l := by
  subst hn
  exact ⟨_, _, rfl, Nat.le_refl _, by omega, Rd.blk hb 0 l (fun i u hu => by rw [Nat.zero_add, List.getElem?_map, hu]; rfl), by simp, fun x hx _ => by simp only [Option.some.injEq] at hx; subst hx; exact ⟨_, hb⟩⟩
theorem RdL.two {w : World} {g : Nat} {a b : Value} {x y : List UInt8} (hb : Blk w g 22 [a, b]) (ha : RdS w a x) (hb2 : RdS w b y) : RdL w (.slice (some ⟨g, 0, none⟩) 2 2) [x, y] :=
  RdL.blk (L := [x, y]) hb rfl (by simp) (fun i u hu => by
    match i, hu with
    | 0, hu => exact ⟨a, rfl, by obtain rfl := Option.some.inj hu; exact ha⟩
    | 1, hu => exact ⟨b, rfl, by obtain rfl := Option.some.inj hu; exact hb2⟩)
theorem RdL.three {w : World} {g : Nat} {a b c : Value} {x y z : List UInt8} (hb : Blk w g 22 [a, b, c]) (h1 : RdS w a x) (h2 : RdS w b y) (h3 : RdS w c z) : RdL w (.slice (some ⟨g, 0, none⟩) 3 3) [x, y, z] :=
  RdL.blk (L := [x, y, z]) hb rfl (by simp) (fun i u hu => by
    match i, hu with
    | 0, hu => exact ⟨a, rfl, by obtain rfl := Option.some.inj hu; exact h1⟩
    | 1, hu => exact ⟨b, rfl, by obtain rfl := Option.some.inj hu; exact h2⟩
    | 2, hu => exact ⟨c, rfl, by obtain rfl := Option.some.inj hu; exact h3⟩)
theorem RdL.four {w : World} {g : Nat} {a b c d : Value} {x y z u : List UInt8} (hb : Blk w g 22 [a, b, c, d]) (h1 : RdS w a x) (h2 : RdS w b y) (h3 : RdS w c z) (h4 : RdS w d u) : RdL w (.slice (some ⟨g, 0, none⟩) 4 4) [x, y, z, u] :=
  RdL.blk (L := [x, y, z, u]) hb rfl (by simp) (fun i v hu => by
    match i, hu with
    | 0, hu => exact ⟨a, rfl, by obtain rfl := Option.some.inj hu; exact h1⟩
    | 1, hu => exact ⟨b, rfl, by obtain rfl := Option.some.inj hu; exact h2⟩
    | 2, hu => exact ⟨c, rfl, by obtain rfl := Option.some.inj hu; exact h3⟩
    | 3, hu => exact ⟨d, rfl, by obtain rfl := Option.some.inj hu; exact h4⟩)
theorem RdL.five {w : World} {g : Nat} {a b c d e : Value} {x y z u t : List UInt8} (hb : Blk w g 22 [a, b, c, d, e]) (h1 : RdS w a x) (h2 : RdS w b y) (h3 : RdS w c z) (h4 : RdS w d u) (h5 : RdS w e t) : RdL w (.slice (some ⟨g, 0, none⟩) 5 5) [x, y, z, u, t] :=
  RdL.blk (L := [x, y, z, u, t]) hb rfl (by simp) (fun i v hu => by
    match i, hu with
    | 0, hu => exact ⟨a, rfl, by obtain rfl := Option.some.inj hu; exact h1⟩
    | 1, hu => exact ⟨b, rfl, by obtain rfl := Option.some.inj hu; exact h2⟩
    | 2, hu => exact ⟨c, rfl, by obtain rfl := Option.some.inj hu; exact h3⟩
    | 3, hu => exact ⟨d, rfl, by obtain rfl := Option.some.inj hu; exact h4⟩
    | 4, hu => exact ⟨e, rfl, by obtain rfl := Option.some.inj hu; exact h5⟩)

set_option maxRecDepth 100000 in
set_option maxHeartbeats 1000000 in
theorem rjoin0_calls {w : World} {v : Value} {L : List (List UInt8)} (hv : RdL0 w v L) (hL2 : L.length ≤ 1000) (hf : L.flatten.length ≤ 100000) :
    Calls Tryz.prog 49 #[v] w (ClonePost w L.flatten) := by
  obtain ⟨a, c, rfl, _⟩ := id hv
  have HV := Lib.hid hv
  clear hv
  go_enter Tryz.func49, Tryz.ntmps49
  go_wp2_with fail
  go_loopw [3, 8] (fun o i wr => ∃ k : Nat, k ≤ L.length ∧ i = .int .i64 k ∧ Own wr w.heap.size o (L.take k).flatten ∧ Keeps [] w wr) (fun _ i _ => L.length - (intOf i).toNat)
  case atStart => exact ⟨0, Nat.zero_le _, rfl, by simpa using Own.nil _ _, Keeps.refl _ _⟩
  case round =>
    obtain ⟨k, hk, rfl, hO, hK⟩ := hrel
    by_cases hlt : k < L.length
    · obtain ⟨a', c', ea, hrd⟩ := HV.out.keepsNil hK
      simp only [Value.slice.injEq] at ea
      obtain ⟨rfl, _, rfl⟩ := ea
      obtain ⟨g0, u, rfl, hc0, hru⟩ := hrd k L[k] (List.getElem?_eq_getElem hlt)
      have hft := flat_take L k hlt
      have hfl := flat_le L k hlt
      generalize L[k] = m at *
      generalize (L.take k).flatten = X at *
      obtain ⟨ab, cb, rfl, b1, b2, b3, b4⟩ := hru
      have hs := hK.size
      have hkn : (k : Int) < (L.length : Int) := by omega
      have HO := Lib.hid hO
      have HR := Lib.hid b3
      have H4 := Lib.hid (show ab = none → m.length = 0 ∧ cb = 0 from fun h => ⟨by rw [(b4 h).1]; rfl, (b4 h).2⟩)
      have hl1 : X.length + m.length ≤ 140737488351232 := by omega
      have Hft := Lib.hid hft
      have HK := Lib.hid hK
      clear hO b3 b4 hft hrd hK hf
      go_wp2_with (at_builtin; (refine wpList_append_bytes rfl (.tmp 12) (.tmp 13) rfl HO.out rfl ab m.length cb rfl HR.out rfl H4.out hl1 hs ?_); intro v2 w2 g1 g2 g3)
      go_roundw
      case rel => exact ⟨k + 1, by omega, by go_num, by rw [Hft.out]; exact g1, HK.out.grown g2 (fun y hy => .inr (HO.out.ge y hy))⟩
      case measure => simp [intOf]; omega
    · obtain rfl : k = L.length := by omega
      rw [List.take_length] at hO
      have HO := Lib.hid hO
      have HK := Lib.hid hK
      clear hO hK
      go_wp2_with fail
      go_ret
      exact ⟨_, rfl, HO.out, HK.out⟩

theorem rjoin_calls {w : World} {v : Value} {L : List (List UInt8)} (hv : RdL w v L) (hL2 : L.length ≤ 1000) (hf : L.flatten.length ≤ 100000) :
    Calls Tryz.prog 49 #[v] w (ClonePost w L.flatten) := rjoin0_calls hv.z hL2 hf

set_option maxRecDepth 100000 in
set_option maxHeartbeats 1000000 in
theorem drows_calls {w : World} {v : Value} {L : List (List UInt8)} (hv : RdL w v L) (hL2 : L.length ≤ 1000) (hf : L.flatten.length ≤ 100000) :
    Calls Tryz.prog 143 #[v] w (ClonePost w (sha L.flatten)) := by
  obtain ⟨a, c, rfl, _⟩ := id hv
  have HV := Lib.hid hv
  clear hv
  go_enter Tryz.func143, Tryz.ntmps143
  go_wp2_with fail
  go_loopw [3, 8] (fun o i wr => ∃ k : Nat, k ≤ L.length ∧ i = .int .i64 k ∧ Own wr w.heap.size o (L.take k).flatten ∧ Keeps [] w wr) (fun _ i _ => L.length - (intOf i).toNat)
  case atStart => exact ⟨0, Nat.zero_le _, rfl, by simpa using Own.nil _ _, Keeps.refl _ _⟩
  case round =>
    obtain ⟨k, hk, rfl, hO, hK⟩ := hrel
    by_cases hlt : k < L.length
    · obtain ⟨a', c', ea, _, _, hrd, _⟩ := HV.out.keepsNil hK
      simp only [Value.slice.injEq] at ea
      obtain ⟨rfl, _, rfl⟩ := ea
      obtain ⟨g0, u, rfl, hc0, hru⟩ := hrd k L[k] (List.getElem?_eq_getElem hlt)
      have hft := flat_take L k hlt
      have hfl := flat_le L k hlt
      generalize L[k] = m at *
      generalize (L.take k).flatten = X at *
      obtain ⟨ab, cb, rfl, b1, b2, b3, b4, _⟩ := hru
      have hs := hK.size
      have hkn : (k : Int) < (L.length : Int) := by omega
      have HO := Lib.hid hO
      have HR := Lib.hid b3
      have H4 := Lib.hid (show ab = none → m.length = 0 ∧ cb = 0 from fun h => ⟨by rw [(b4 h).1]; rfl, (b4 h).2⟩)
      have hl1 : X.length + m.length ≤ 140737488351232 := by omega
      have Hft := Lib.hid hft
      have HK := Lib.hid hK
      clear hO b3 b4 hft hrd hK hf
      go_wp2_with (at_builtin; (refine wpList_append_bytes rfl (.tmp 12) (.tmp 13) rfl HO.out rfl ab m.length cb rfl HR.out rfl H4.out hl1 hs ?_); intro v2 w2 g1 g2 g3)
      go_roundw
      case rel => exact ⟨k + 1, by omega, by go_num, by rw [Hft.out]; exact g1, HK.out.grown g2 (fun y hy => .inr (HO.out.ge y hy))⟩
      case measure => simp [intOf]; omega
    · obtain rfl : k = L.length := by omega
      rw [List.take_length] at hO
      have HK := Lib.hid hK
      have hs := hK.size
      obtain ⟨a2, c2, rfl, r1, r2, r3, r4, _⟩ := hO.rds
      have HS := Lib.hid (shasum_calls a2 L.flatten.length c2 L.flatten r3 rfl (by omega) (fun h => ⟨by rw [(r4 h).1]; rfl, (r4 h).2⟩))
      clear hO hK r3 r4 hf
      generalize L.flatten = X at *
      go_wp2_with fail
      refine HS.out.mono ?_
      rintro e w2 ⟨v2, rfl, hO2, k2⟩
      have HO2 := Lib.hid hO2
      have HK2 := Lib.hid k2
      clear hO2 k2
      go_wp2_with fail
      go_ret
      exact ⟨_, rfl, HO2.out.mono hs, HK.out.trans HK2.out⟩

set_option maxRecDepth 100000 in
set_option maxHeartbeats 1600000 in
theorem concat_calls {w : World} {v : Value} {L : List (List UInt8)} (hv : RdL w v L) (hL2 : L.length ≤ 1000) (hf : L.flatten.length ≤ 100000) (h0 : 0 < L.flatten.length) :
    Calls Tryz.prog 114 #[v] w (ClonePost w L.flatten) := by
  obtain ⟨a, c, rfl, _⟩ := id hv
  have HV := Lib.hid hv
  clear hv
  go_enter Tryz.func114, Tryz.ntmps114
  go_wp2_with fail
  go_loopw [3, 11] (fun s i wr => ∃ k : Nat, k ≤ L.length ∧ i = .int .i64 k ∧ s = .int .i64 ((L.take k).flatten.length : Nat) ∧ wr = w) (fun _ i _ => L.length - (intOf i).toNat)
  case atStart => exact ⟨0, Nat.zero_le _, rfl, rfl, rfl⟩
  case round =>
    obtain ⟨k, hk, rfl, rfl, rfl⟩ := hrel
    by_cases hlt : k < L.length
    · obtain ⟨a', c', ea, _, _, hrd, _⟩ := HV.out
      simp only [Value.slice.injEq] at ea
      obtain ⟨rfl, _, rfl⟩ := ea
      obtain ⟨g0, u, rfl, hc0, hru⟩ := hrd k L[k] (List.getElem?_eq_getElem hlt)
      have hft := flat_take_len L k hlt
      have hfl := flat_le L k hlt
      generalize L[k] = m at *
      generalize (L.take k).flatten.length = X at *
      obtain ⟨ab, cb, rfl, b1, b2, b3, b4, _⟩ := hru
      have hkn : (k : Int) < (L.length : Int) := by omega
      have Hft := Lib.hid hft
      have hb : (X : Int) + (m.length : Int) ≤ 100000 := by omega
      have hng : ¬ ((X : Int) + (m.length : Int) < 0) := by omega
      clear b3 b4 hft hrd hf h0 hfl
      go_wp2_with fail
      go_roundw
      case rel => exact ⟨k + 1, by omega, by go_num, by rw [Hft.out]; go_num, by simp⟩
      case measure => simp [intOf]; omega
    · obtain rfl : k = L.length := by omega
      rw [List.take_length]
      obtain ⟨N, hN⟩ : ∃ N, N = L.flatten.length := ⟨_, rfl⟩
      rw [← hN] at hf h0 ⊢
      have HN := Lib.hid hN
      have HG := Lib.hid (grow_calls (w := wr) N h0 (by omega))
      clear h0 hN
      go_wp2_with fail
      refine HG.out.mono ?_
      rintro e w1 ⟨c1, rfl, hO1, hK1⟩
      go_wp2_with fail
      obtain ⟨wo, hwo⟩ : ∃ wo, wo = wr := ⟨_, rfl⟩
      subst hwo
      clear HG
      go_loopw [6, 27] (fun o i wr => ∃ k : Nat, k ≤ L.length ∧ i = .int .i64 k ∧ Own wr wo.heap.size o (L.take k).flatten ∧ Keeps [] wo wr) (fun _ i _ => L.length - (intOf i).toNat)
      case atStart => exact ⟨0, Nat.zero_le _, rfl, by simpa using hO1, hK1⟩
      case round =>
        clear hO1 hK1
        obtain ⟨k, hk, rfl, hO, hK⟩ := hrel
        by_cases hlt : k < L.length
        · obtain ⟨a', c', ea, _, _, hrd, _⟩ := HV.out.keepsNil hK
          simp only [Value.slice.injEq] at ea
          obtain ⟨rfl, _, rfl⟩ := ea
          obtain ⟨g0, u, rfl, hc0, hru⟩ := hrd k L[k] (List.getElem?_eq_getElem hlt)
          have hft := flat_take L k hlt
          have hfl := flat_le L k hlt
          rw [← HN.out] at hfl
          generalize L[k] = m at *
          generalize (L.take k).flatten = X at *
          obtain ⟨ab, cb, rfl, b1, b2, b3, b4, _⟩ := hru
          have hs := hK.size
          have hkn : (k : Int) < (L.length : Int) := by omega
          have HO := Lib.hid hO
          have HR := Lib.hid b3
          have H4 := Lib.hid (show ab = none → m.length = 0 ∧ cb = 0 from fun h => ⟨by rw [(b4 h).1]; rfl, (b4 h).2⟩)
          have hl1 : X.length + m.length ≤ 140737488351232 := by omega
          have Hft := Lib.hid hft
          have HK := Lib.hid hK
          clear hO b3 b4 hft hrd hK hf
          go_wp2_with (at_builtin; (refine wpList_append_bytes rfl (.tmp 31) (.tmp 32) rfl HO.out rfl ab m.length cb rfl HR.out rfl H4.out hl1 hs ?_); intro v2 w2 g1 g2 g3)
          go_roundw
          case rel => exact ⟨k + 1, by omega, by go_num, by rw [Hft.out]; exact g1, HK.out.grown g2 (fun y hy => .inr (HO.out.ge y hy))⟩
          case measure => simp [intOf]; omega
        · obtain rfl : k = L.length := by omega
          rw [List.take_length] at hO
          have HO := Lib.hid hO
          have HK := Lib.hid hK
          clear hO hK
          go_wp2_with fail
          go_ret
          exact ⟨_, rfl, HO.out, HK.out⟩

end Go.Proofs.YtijhaeapoapgfaaGreatDoor

set_option linter.unusedVariables false
set_option linter.unusedSimpArgs false
namespace Go.Proofs.YtijhaeapoapgfaaGreatDoor
open Go.RowKit
attribute [local go_sem ↓] Go.wp_at_zero Go.wp_at_succ

/-- A key's block. -/
def padK (key : List UInt8) : List UInt8 := key ++ zer (64 - key.length)
def maskB (key : List UInt8) (b : UInt8) : List UInt8 := (padK key).map (· ^^^ b)
def tagM (key b : List UInt8) : List UInt8 := sha (maskB key 92 ++ sha (maskB key 54 ++ b))
theorem padK_len {key : List UInt8} (h : key.length ≤ 64) : (padK key).length = 64 := by simp [padK, zer]; omega
theorem maskB_len {key : List UInt8} (h : key.length ≤ 64) (b : UInt8) : (maskB key b).length = 64 := by unfold maskB; rw [List.length_map, padK_len h]
theorem tagM_len (key b : List UInt8) : (tagM key b).length = 32 := sha_len _

/-- The first k bytes changed. -/
def mkTo (D : List UInt8) (b : UInt8) (k : Nat) : List UInt8 := (D.take k).map (· ^^^ b) ++ D.drop k
theorem mkTo_zero (D : List UInt8) (b : UInt8) : mkTo D b 0 = D := by simp [mkTo]
theorem mkTo_all (D : List UInt8) (b : UInt8) : mkTo D b D.length = D.map (· ^^^ b) := by simp [mkTo]
theorem mkTo_len (D : List UInt8) (b : UInt8) (k : Nat) : (mkTo D b k).length = D.length := by simp [mkTo]; omega
theorem mkTo_at {D : List UInt8} {b : UInt8} {k : Nat} (hk : k < D.length) : (mkTo D b k)[k]? = some D[k] := by
  unfold mkTo
  rw [List.getElem?_append_right (by simp; omega)]
  simp [hk, Nat.min_eq_left (Nat.le_of_lt hk)]
theorem mkTo_set {D : List UInt8} {b : UInt8} {k : Nat} (hk : k < D.length) : (mkTo D b k).set k (D[k] ^^^ b) = mkTo D b (k + 1) := by
  unfold mkTo
  have hl : ((D.take k).map (· ^^^ b)).length = k := by simp; omega
  rw [List.drop_eq_getElem_cons hk, List.set_append_right _ _ (by rw [hl]; exact Nat.le_refl _), hl, Nat.sub_self, List.set_cons_zero, List.take_add_one, List.getElem?_eq_getElem hk, Option.toList_some, List.map_append, List.append_assoc]
  rfl

theorem zeros_drop (N k : Nat) : (zeros N).toList.drop k = List.replicate (N - k) (B8 0) := by simp [zeros, B8]
theorem zer_map (m : Nat) : (zer m).map B8 = List.replicate m (B8 0) := by simp [zer]
def MaskPost (w : World) (key : List UInt8) (b : UInt8) (e : Ending) (w' : World) : Prop :=
  ∃ g, e = .returned (.slice (some ⟨g, 0, none⟩) 64 64) ∧ w.heap.size ≤ g ∧ Blk w' g 5 ((maskB key b).map B8) ∧ Keeps [] w w'

set_option maxRecDepth 100000 in
set_option maxHeartbeats 1600000 in
theorem masked_calls {w : World} {a : Option Addr} {n c : Nat} {key : List UInt8} (hk : Rd w a key) (hn : key.length = n) (h64 : n ≤ 64) (h0 : a = none → key = [] ∧ c = 0) (b : UInt8) :
    Calls Tryz.prog 144 #[.slice a n c, B8 b] w (MaskPost w key b) := by
  have hmk : ∀ w : World, (Instr.makeSlice 22 (.int .i64 64) (.int .i64 64)).run Tryz.prog w = .ok (.slice (some ⟨w.heap.size, 0, none⟩) 64 64) (w.alloc (.cells (zeros 64) 5)) := fun w => make_u8 64 64 (Nat.le_refl _) (by omega) w
  have hg := Blk.newA w 5 (zeros 64)
  have kA : Keeps [] w (w.alloc (.cells (zeros 64) 5)) := (Keeps.refl [] w).alloc _
  obtain ⟨W1, hcp, hb1, k1⟩ : ∃ W', (Builtin.copy_ #[22, 22] 3 #[.slice (some ⟨w.heap.size, 0, none⟩) 64 64, .slice a n c]).run Tryz.prog (w.alloc (.cells (zeros 64) 5)) = .ok (.int .i64 n) W' ∧ Blk W' w.heap.size 5 ((padK key).map B8) ∧ Keeps [w.heap.size] (w.alloc (.cells (zeros 64) 5)) W' := by
    cases a with
    | none =>
      obtain ⟨rfl, rfl⟩ := h0 rfl
      simp only [List.length_nil] at hn
      subst hn
      refine ⟨_, run_copy_nil (P := Tryz.prog) _ 22 22 3 5 _ 64 64 Tryz.underlying22 (by rw [Tryz.size_u8]; rfl), ?_, Keeps.refl _ _⟩
      have he : (padK []).map B8 = (zeros 64).toList := rfl
      rw [he]
      exact hg
    | some x =>
      obtain ⟨W', e1, e2, e3⟩ := copy_run (w := w.alloc (.cells (zeros 64) 5)) (g := w.heap.size) (o := 0) (dLen := 64) (dCap := 64) (x := x) (sLen := n) (sCap := c) hg key (by show key.length = min n 64; omega) ((hk.keepsNil kA).news) (by simp [zeros]; omega)
      refine ⟨W', by rw [e1, hn], ?_, e3⟩
      have he : (padK key).map B8 = (zeros 64).toList.take 0 ++ key.map B8 ++ (zeros 64).toList.drop (0 + key.length) := by
        unfold padK
        rw [List.map_append, List.take_zero, List.nil_append, Nat.zero_add]
        rw [zeros_drop, zer_map]
      rw [he]
      exact e2
  have hD := padK_len (key := key) (by omega)
  have hM : maskB key b = mkTo (padK key) b 64 := by rw [← hD, mkTo_all]; rfl
  have hkW : Keeps [] w W1 := kA.trans' k1 (by simp) (fun x hx => .inr (by simp only [List.mem_singleton] at hx; omega))
  have hni : (n : Int) ≤ 64 := by omega
  have HB := Lib.hid hb1
  have HD := Lib.hid hD
  have HM := Lib.hid hM
  have HK := Lib.hid hkW
  clear hk h0 hg kA hb1 k1 hkW hM hD
  unfold MaskPost
  generalize padK key = D at *
  obtain ⟨g, hgd⟩ : ∃ g, g = w.heap.size := ⟨_, rfl⟩
  go_enter Tryz.func144, Tryz.ntmps144
  go_wp2_with fail
  rw [← hgd] at HB ⊢
  have Hg := Lib.hid hgd
  clear hgd hcp
  go_loopw [18] (fun i wr => ∃ k : Nat, k ≤ 64 ∧ i = .int .i64 k ∧ Blk wr g 5 ((mkTo D b k).map B8) ∧ Keeps [] w wr) (fun i _ => 64 - (intOf i).toNat)
  case atStart => exact ⟨0, Nat.zero_le _, rfl, by rw [mkTo_zero]; exact HB.out, HK.out⟩
  case round =>
    clear HB HK
    obtain ⟨k, hk, rfl, hG, hK⟩ := hrel
    by_cases hlt : k < 64
    · have hkD : k < D.length := by rw [HD.out]; exact hlt
      have cg : wr.cell? ⟨g, k, none⟩ = some (B8 D[k]) := hG.cell' (by rw [List.getElem?_map, mkTo_at hkD]; rfl)
      have fr := hG.frozen k
      have hS := hG.set k (B8 (D[k] ^^^ b))
      rw [map_set8, mkTo_set hkD] at hS
      have hx8 := xor_byte D[k] b
      have HS := Lib.hid hS
      have HK2 := Lib.hid (hK.setCell (p := ⟨g, k, none⟩) (.inr (by rw [Hg.out]; exact Nat.le_refl _)) (B8 (D[k] ^^^ b)))
      have hki : (k : Int) < 64 := by omega
      clear hG hS hK
      generalize D[k] = x at *
      go_wp2_with fail
      go_roundw
      case rel => exact ⟨k + 1, by omega, by go_num, HS.out, HK2.out⟩
      case measure => simp [intOf]; omega
    · obtain rfl : k = 64 := by omega
      have HG := Lib.hid hG
      have HK := Lib.hid hK
      clear hG hK
      go_wp2_with fail
      go_ret
      exact ⟨g, rfl, by rw [Hg.out]; exact Nat.le_refl _, by rw [HM.out]; exact HG.out, HK.out⟩

set_option maxRecDepth 100000 in
set_option maxHeartbeats 1600000 in
theorem tag_calls {w : World} {a : Option Addr} {n c : Nat} {key : List UInt8} (hk : Rd w a key) (hn : key.length = n) (h64 : n ≤ 64) (h0 : a = none → key = [] ∧ c = 0) {v : Value} {b : List UInt8} (hb : RdS w v b) (hbl : b.length ≤ 1000) :
    Calls Tryz.prog 98 #[.slice a n c, v] w (ClonePost w (tagM key b)) := by
  have HM1 : Hid (Calls Tryz.prog 144 #[.slice a n c, .int .u8 92] w (MaskPost w key 92)) := Lib.hid (masked_calls hk hn h64 h0 92)
  have HM2 := fun (W : World) (k : Keeps [] w W) => (masked_calls (hk.keepsNil k) hn h64 h0 54 : Calls Tryz.prog 144 #[.slice a n c, .int .u8 54] W (MaskPost W key 54))
  have l1 := maskB_len (key := key) (by omega) 92
  have l2 := maskB_len (key := key) (by omega) 54
  have HM2' := Lib.hid HM2
  have HB := Lib.hid hb
  have htd : tagM key b = sha (maskB key 92 ++ sha (maskB key 54 ++ b)) := rfl
  unfold MaskPost at HM1 HM2'
  generalize tagM key b = T at *
  generalize maskB key 92 = K1 at *
  generalize maskB key 54 = K2 at *
  have L1 := Lib.hid l1
  have L2 := Lib.hid l2
  have HT := Lib.hid htd
  obtain ⟨ab, cb, rfl, _⟩ := id hb
  clear hk h0 HM2 hb l1 l2 htd
  go_enter Tryz.func98, Tryz.ntmps98
  go_wp2_with fail
  refine HM1.out.mono ?_
  rintro e w1 ⟨g1, rfl, hg1, hb1, k1⟩
  have HB1 := Lib.hid hb1
  have HK1 := Lib.hid k1
  clear hb1 k1 HM1
  go_wp2_with fail
  refine (HM2'.out _ HK1.out).mono ?_
  rintro e w2 ⟨g2, rfl, hg2, hb2, k2⟩
  have kB : Keeps [] w2 (w2.alloc (.cells #[.slice (some ⟨g2, 0, none⟩) 64 64, .slice ab b.length cb] 22)) := (Keeps.refl [] w2).alloc _
  have hR := drows_calls (RdL.two (Blk.newA w2 22 #[.slice (some ⟨g2, 0, none⟩) 64 64, .slice ab b.length cb]) (RdS.blk (hb2.keeps kB (by simp)) L2.out (by omega)) ((HB.out.keepsNil (HK1.out.trans k2)).keepsNil kB)) (by simp) (by simp [L2.out]; omega)
  have HR := Lib.hid hR
  have HB12 := Lib.hid ((HB1.out.keeps k2 (by simp)).keeps kB (by simp))
  have HK2 := Lib.hid ((HK1.out.trans k2).trans kB)
  clear hb2 k2 kB hR HM2' HB1
  go_wp2_with fail
  generalize w2.alloc (.cells #[.slice (some ⟨g2, 0, none⟩) 64 64, .slice ab b.length cb] 22) = wb at *
  refine HR.out.mono ?_
  rintro e w3 ⟨v3, rfl, hO3, k3⟩
  have hS3 := hO3.rds
  obtain ⟨a3, c3, rfl, _⟩ := id hS3
  have hl3 : (sha [K2, b].flatten).length = 32 := sha_len _
  rw [hl3]
  have kC : Keeps [] w3 (w3.alloc (.cells #[.slice (some ⟨g1, 0, none⟩) 64 64, .slice a3 32 c3] 22)) := (Keeps.refl [] w3).alloc _
  have hS3' := hS3.keepsNil kC
  rw [hl3] at hS3'
  have hR2 := drows_calls (RdL.two (Blk.newA w3 22 #[.slice (some ⟨g1, 0, none⟩) 64 64, .slice a3 32 c3]) (RdS.blk ((HB12.out.keeps k3 (by simp)).keeps kC (by simp)) L1.out (by omega)) hS3') (by simp) (by simp [L1.out, sha_len])
  have HR2 := Lib.hid hR2
  have HK3 := Lib.hid ((HK2.out.trans k3).trans kC)
  clear hO3 k3 hS3 hS3' kC hR2 HR hl3
  go_wp2_with fail
  generalize w3.alloc (.cells #[.slice (some ⟨g1, 0, none⟩) 64 64, .slice a3 32 c3] 22) = wc at *
  refine HR2.out.mono ?_
  rintro e w4 ⟨v4, rfl, hO4, k4⟩
  have hs := HK3.out.size
  have HO4 := Lib.hid hO4
  have HK4 := Lib.hid k4
  clear hO4 k4 HR2
  go_wp2_with fail
  go_ret
  have hO := HO4.out
  simp only [List.flatten_cons, List.flatten_nil, List.append_nil] at hO
  exact ⟨_, rfl, by rw [HT.out]; exact hO.mono hs, HK3.out.trans HK4.out⟩

end Go.Proofs.YtijhaeapoapgfaaGreatDoor

set_option linter.unusedVariables false
set_option linter.unusedSimpArgs false
namespace Go.Proofs.YtijhaeapoapgfaaGreatDoor
open Go.RowKit
attribute [local go_sem ↓] Go.wp_at_zero Go.wp_at_succ

theorem zeros_eq (N : Nat) : (zeros N).toList = (zer N).map B8 := by simp [zeros, zer, B8]
theorem padK_at (key : List UInt8) (k : Nat) : (padK key).getD k 0 = if k < key.length then key.getD k 0 else 0 := by
  unfold padK
  rw [List.getD_eq_getElem?_getD]
  by_cases h1 : k < key.length
  · rw [if_pos h1, List.getElem?_append_left h1, List.getD_eq_getElem?_getD]
  · rw [if_neg h1, List.getElem?_append_right (by omega)]
    unfold zer
    rw [List.getElem?_replicate]
    split <;> rfl
theorem maskB_at {key : List UInt8} {b : UInt8} {k : Nat} (h : key.length ≤ 64) (hk : k < 64) : (maskB key b).getD k 0 = (if k < key.length then key.getD k 0 else 0) ^^^ b := by
  have hl : k < (padK key).length := by rw [padK_len h]; exact hk
  rw [← padK_at]
  unfold maskB
  rw [List.getD_eq_getElem?_getD, List.getElem?_map, List.getD_eq_getElem?_getD, List.getElem?_eq_getElem hl]
  rfl

set_option maxRecDepth 100000 in
set_option maxHeartbeats 1600000 in
theorem rtag_calls {w : World} {a : Option Addr} {n c : Nat} {key : List UInt8} (hk : Rd w a key) (hn : key.length = n) (h64 : n ≤ 64) {v : Value} {b : List UInt8} (hb : RdS w v b) (hbl : b.length ≤ 1000) :
    Calls Tryz.prog 50 #[.slice a n c, v] w (ClonePost w (tagM key b)) := by
  have hmk : ∀ w : World, (Instr.makeSlice 22 (.int .i64 64) (.int .i64 64)).run Tryz.prog w = .ok (.slice (some ⟨w.heap.size, 0, none⟩) 64 64) (w.alloc (.cells (zeros 64) 5)) := fun w => make_u8 64 64 (Nat.le_refl _) (by omega) w
  have l1 := maskB_len (key := key) (by omega) 92
  have l2 := maskB_len (key := key) (by omega) 54
  have m1 : ∀ k, k < 64 → (maskB key 92).getD k 0 = (if k < n then key.getD k 0 else 0) ^^^ 92 := fun k hk => by rw [← hn]; exact maskB_at (by omega) hk
  have m2 : ∀ k, k < 64 → (maskB key 54).getD k 0 = (if k < n then key.getD k 0 else 0) ^^^ 54 := fun k hk => by rw [← hn]; exact maskB_at (by omega) hk
  have htd : tagM key b = sha (maskB key 92 ++ sha (maskB key 54 ++ b)) := rfl
  generalize tagM key b = T at *
  generalize maskB key 92 = K1 at *
  generalize maskB key 54 = K2 at *
  have L1 := Lib.hid l1
  have L2 := Lib.hid l2
  have M1 := Lib.hid m1
  have M2 := Lib.hid m2
  have HT := Lib.hid htd
  have HB := Lib.hid hb
  have HKy := Lib.hid hk
  have Hn := Lib.hid hn
  have hni : (n : Int) ≤ 64 := by omega
  obtain ⟨ab, cb, rfl, _⟩ := id hb
  clear hk hb l1 l2 htd m1 m2
  go_enter Tryz.func50, Tryz.ntmps50
  go_upto_region 3 with (fail)
  go_cut [5, 6] (fun s5 s6 wx => ∃ g h, s5 = .slice (some ⟨g, 0, none⟩) 64 64 ∧ s6 = .slice (some ⟨h, 0, none⟩) 64 64 ∧ g ≠ h ∧ w.heap.size ≤ g ∧ w.heap.size ≤ h ∧ Blk wx g 5 (zeros 64).toList ∧ Blk wx h 5 (zeros 64).toList ∧ Keeps [] w wx)
  case first =>
    go_region
    all_goals go_wp2_with fail
    all_goals go_meet
    all_goals
      have hz0 := Blk.newA w 5 (zeros 64)
      have hz1 := Blk.newA (w.alloc (.cells (zeros 64) 5)) 5 (zeros 64)
      have hs1 : (w.alloc (.cells (zeros 64) 5)).heap.size = w.heap.size + 1 := by simp
      rw [hs1] at hz1
      have hz0' := hz0.alloc (.cells (zeros 64) 5)
      have kk : Keeps [] w ((w.alloc (.cells (zeros 64) 5)).alloc (.cells (zeros 64) 5)) := ((Keeps.refl [] w).alloc _).alloc _
    · first
        | exact ⟨_, _, rfl, rfl, by omega, by omega, by omega, hz0', hz1, kk⟩
        | exact ⟨_, _, rfl, rfl, by omega, by omega, by omega, hz0'.drew, hz1.drew, kk.drew⟩
    · first
        | exact ⟨_, _, rfl, rfl, by omega, by omega, by omega, hz1, hz0', kk⟩
        | exact ⟨_, _, rfl, rfl, by omega, by omega, by omega, hz1.drew, hz0'.drew, kk.drew⟩
  case rest =>
  obtain ⟨g, h, rfl, rfl, hgh, hgw, hhw, hbg, hbh, kc⟩ := hcut
  rw [zeros_eq] at hbg hbh
  have hz1 : half K2 0 = zer 64 := by rw [half_zero, L2.out]
  have hz2 : half K1 0 = zer 64 := by rw [half_zero, L1.out]
  rw [← hz1] at hbg
  rw [← hz2] at hbh
  have HG := Lib.hid hbg
  have HH := Lib.hid hbh
  have HK := Lib.hid kc
  clear hz1 hz2 hbg hbh kc hmk
  go_wp2_with fail
  go_loopw [16] (fun i wr => ∃ k : Nat, k ≤ 64 ∧ i = .int .i64 k ∧ Blk wr g 5 ((half K2 k).map B8) ∧ Blk wr h 5 ((half K1 k).map B8) ∧ Keeps [] w wr) (fun i _ => 64 - (intOf i).toNat)
  case atStart => exact ⟨0, Nat.zero_le _, rfl, HG.out, HH.out, HK.out⟩
  case round =>
    clear HG HH HK
    obtain ⟨k, hk, rfl, hG, hH, hK⟩ := hrel
    by_cases hlt : k < 64
    · have e2 := M2.out k hlt
      have e1 := M1.out k hlt
      have s2 := half_set K2 (k := k) (by rw [L2.out]; exact hlt)
      have s1 := half_set K1 (k := k) (by rw [L1.out]; exact hlt)
      have fr2 := hG.frozen k
      have fr1 := hH.frozen k
      have hki : (k : Int) < 64 := by omega
      have cG : ∃ y, wr.cell? ⟨g, k, none⟩ = some y := ⟨_, hG.cell' (List.getElem?_eq_getElem (by rw [List.length_map, half_len _ (by rw [L2.out]; omega), L2.out]; exact hlt))⟩
      have cH : ∃ y, wr.cell? ⟨h, k, none⟩ = some y := ⟨_, hH.cell' (List.getElem?_eq_getElem (by rw [List.length_map, half_len _ (by rw [L1.out]; omega), L1.out]; exact hlt))⟩
      obtain ⟨yG, cG⟩ := cG
      obtain ⟨yH, cH⟩ := cH
      obtain ⟨x, hx⟩ : ∃ x : UInt8, x = if k < n then key.getD k 0 else 0 := ⟨_, rfl⟩
      rw [← hx] at e1 e2
      rw [e2] at s2
      rw [e1] at s1
      have hA := hG.set k (B8 (x ^^^ 54))
      rw [map_set8, s2] at hA
      have kA := (Keeps.refl [g] wr).setCell (p := ⟨g, k, none⟩) (.inl (by simp)) (B8 (x ^^^ 54))
      have hH' := hH.keeps kA (by simpa using fun e => hgh e.symm)
      have fr1' := hH'.frozen k
      have hBk := hH'.set k (B8 (x ^^^ 92))
      rw [map_set8, s1] at hBk
      have kB := (Keeps.refl [h] (wr.setCell ⟨g, k, none⟩ (B8 (x ^^^ 54)))).setCell (p := ⟨h, k, none⟩) (.inl (by simp)) (B8 (x ^^^ 92))
      have hA' := hA.keeps kB (by simpa using hgh)
      have hK2 := (hK.setCell (p := ⟨g, k, none⟩) (.inr hgw) (B8 (x ^^^ 54))).setCell (p := ⟨h, k, none⟩) (.inr hhw) (B8 (x ^^^ 92))
      have hx1 : bits .xor .u8 (x.toNat : Int) 54 = ((x ^^^ 54).toNat : Int) := xor_byte x 54
      have hx2 : bits .xor .u8 (x.toNat : Int) 92 = ((x ^^^ 92).toNat : Int) := xor_byte x 92
      have HA := Lib.hid hA'
      have HBk := Lib.hid hBk
      have HK2 := Lib.hid hK2
      by_cases hkn : k < n
      · rw [if_pos hkn] at hx
        obtain ⟨b0, o0, rfl, ck⟩ := (HKy.out.keepsNil hK) k (key[k]'(by rw [Hn.out]; exact hkn)) (List.getElem?_eq_getElem _)
        have hx' : key[k]'(by rw [Hn.out]; exact hkn) = x := by rw [hx, List.getD_eq_getElem?_getD, List.getElem?_eq_getElem (by rw [Hn.out]; exact hkn)]; rfl
        rw [hx'] at ck
        have hkni : (k : Int) < (n : Int) := by omega
        clear hG hH hK e1 e2 s1 s2 hA kA hH' hBk kB hA' hK2 hx hx'
        go_wp2_with fail
        go_roundw
        case rel => exact ⟨k + 1, by omega, by go_num, HA.out, HBk.out, HK2.out⟩
        case measure => simp [intOf]; omega
      · rw [if_neg hkn] at hx
        subst hx
        have hkni : ¬ (k : Int) < (n : Int) := by omega
        clear hG hH hK e1 e2 s1 s2 hA kA hH' hBk kB hA' hK2
        go_wp2_with fail
        go_roundw
        case rel => exact ⟨k + 1, by omega, by go_num, HA.out, HBk.out, HK2.out⟩
        case measure => simp [intOf]; omega
    · obtain rfl : k = 64 := by omega
      have hf2 : half K2 64 = K2 := by rw [← L2.out, half_all]
      have hf1 : half K1 64 = K1 := by rw [← L1.out, half_all]
      rw [hf2] at hG
      rw [hf1] at hH
      have kB : Keeps [] wr (wr.alloc (.cells #[.slice (some ⟨g, 0, none⟩) 64 64, .slice ab b.length cb] 22)) := (Keeps.refl [] wr).alloc _
      have HJ := Lib.hid (rjoin_calls (RdL.two (Blk.newA wr 22 #[.slice (some ⟨g, 0, none⟩) 64 64, .slice ab b.length cb]) (RdS.blk (hG.keeps kB (by simp)) L2.out (by omega)) ((HB.out.keepsNil hK).keepsNil kB)) (by simp) (by simp [L2.out]; omega))
      have HH := Lib.hid (hH.keeps kB (by simp))
      have HKb := Lib.hid (hK.trans kB)
      clear hG hH hK kB hf1 hf2
      go_wp2_with fail
      generalize wr.alloc (.cells #[.slice (some ⟨g, 0, none⟩) 64 64, .slice ab b.length cb] 22) = wb at *
      refine HJ.out.mono ?_
      rintro e w3 ⟨v3, rfl, hO3, k3⟩
      have hfl : [K2, b].flatten = K2 ++ b := by simp
      rw [hfl] at hO3
      have hl3 : (K2 ++ b).length = 64 + b.length := by rw [List.length_append, L2.out]
      obtain ⟨a3, c3, rfl, _, _, r3, r4, _⟩ := hO3.rds
      have HD := Lib.hid (rdigest_calls a3 (K2 ++ b).length c3 (K2 ++ b) r3 rfl (by omega) (fun h => ⟨by rw [(r4 h).1]; rfl, (r4 h).2⟩))
      have HH3 := Lib.hid (HH.out.keeps k3 (by simp))
      have HK3 := Lib.hid (HKb.out.trans k3)
      clear hO3 r3 r4 k3 HJ HH HKb hfl hl3
      generalize K2 ++ b = C at *
      go_wp2_with fail
      refine HD.out.mono ?_
      rintro e w4 ⟨v4, rfl, hO4, k4⟩
      have hS4 := hO4.rds
      obtain ⟨a4, c4, rfl, _⟩ := id hS4
      have hl4 : (sha C).length = 32 := sha_len _
      rw [hl4]
      have kC : Keeps [] w4 (w4.alloc (.cells #[.slice (some ⟨h, 0, none⟩) 64 64, .slice a4 32 c4] 22)) := (Keeps.refl [] w4).alloc _
      have hS4' := hS4.keepsNil kC
      rw [hl4] at hS4'
      have HJ2 := Lib.hid (rjoin_calls (RdL.two (Blk.newA w4 22 #[.slice (some ⟨h, 0, none⟩) 64 64, .slice a4 32 c4]) (RdS.blk ((HH3.out.keeps k4 (by simp)).keeps kC (by simp)) L1.out (by omega)) hS4') (by simp) (by simp [L1.out, sha_len]))
      have HK4 := Lib.hid ((HK3.out.trans k4).trans kC)
      clear hO4 hS4 hS4' k4 kC HH3 HK3 HD hl4
      go_wp2_with fail
      generalize w4.alloc (.cells #[.slice (some ⟨h, 0, none⟩) 64 64, .slice a4 32 c4] 22) = wc at *
      refine HJ2.out.mono ?_
      rintro e w5 ⟨v5, rfl, hO5, k5⟩
      have hfl : [K1, sha C].flatten = K1 ++ sha C := by simp
      rw [hfl] at hO5
      have hl5 : (K1 ++ sha C).length = 96 := by rw [List.length_append, L1.out, sha_len]
      obtain ⟨a5, c5, rfl, _, _, r5, r6, _⟩ := hO5.rds
      have HD2 := Lib.hid (rdigest_calls a5 (K1 ++ sha C).length c5 (K1 ++ sha C) r5 rfl (by omega) (fun h => ⟨by rw [(r6 h).1]; rfl, (r6 h).2⟩))
      have HK5 := Lib.hid (HK4.out.trans k5)
      clear hO5 r5 r6 k5 HJ2 HK4 hfl hl5
      generalize K1 ++ sha C = E at *
      go_wp2_with fail
      refine HD2.out.mono ?_
      rintro e w6 ⟨v6, rfl, hO6, k6⟩
      have HO6 := Lib.hid hO6
      have HK6 := Lib.hid k6
      clear hO6 k6 HD2
      go_wp2_with fail
      go_ret
      exact ⟨_, rfl, by rw [HT.out]; exact HO6.out.mono HK5.out.size, HK5.out.trans HK6.out⟩

end Go.Proofs.YtijhaeapoapgfaaGreatDoor
