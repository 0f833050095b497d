/-
  ApPack: vec's Xor and Bytes; the reference's Pack; same; walked.
-/
import Derived.Test.YtghgmchgbhdldaaDoorApBits
import Derived.RegionTactic
set_option linter.unusedVariables false
set_option linter.unusedSimpArgs false
namespace Go.Proofs.YtghgmchgbhdldaaDoor
open Go.RowKit
attribute [local go_sem ↓] Go.wp_at_zero Go.wp_at_succ

theorem Tryd.info_u8 : (Tryd.prog.info? 5).map (fun i => (i.zero, i.size, i.bytes)) = some (some (.int .u8 0), 1, 1) := by kernel_rfl

theorem made_zeros8 (n : Nat) : madeCells #[.int .u8 0] n = Array.replicate n (.int .u8 0) := by
  apply Array.ext
  · simp [madeCells]
  · intro i h1 h2
    simp [madeCells, Nat.mod_one]

theorem make_u8s (n : Nat) (hc : n ≤ 100000) (w : World) :
    (Instr.makeSlice 62 (.int .i64 (n : Int)) (.int .i64 (n : Int))).run Tryd.prog w = .ok (.slice (some ⟨w.heap.size, 0, none⟩) n n) (w.alloc (.cells (Array.replicate n (.int .u8 0)) 5)) := by
  obtain ⟨i0, hi, hz0, hz1, hz2⟩ := info_parts Tryd.info_u8
  have hr := run_make (P := Tryd.prog) w 62 5 i0 _ Tryd.underlying62 hi hz0 .i64 .i64 n n (by omega) (by omega) (by rw [hz2]; omega) (by omega)
  rw [hz1] at hr
  simp only [Int.toNat_natCast, Nat.mul_one] at hr
  rw [hr, ← made_zeros8]
  rfl

theorem or_byte8 (a b : UInt8) : bits .or .u8 (a.toNat : Int) (b.toNat : Int) = ((a ||| b).toNat : Int) := by
  rw [u8_or_nat _ _ a.toNat_lt b.toNat_lt, UInt8.toNat_or]

/-- Bytes, in new memory. -/
def BytesNew (w : World) (m : Nat) (l : List UInt8) (e : Ending) (w' : World) : Prop :=
  ∃ g, e = .returned (.slice (some ⟨g, 0, none⟩) m m) ∧ w.heap.size ≤ g ∧ Blk w' g 5 (l.map B8) ∧ Keeps [] w w'

theorem bit8_val (k : Nat) : (2 : Int) ^ (k % 8) % 256 = ((UInt8.ofNat (2 ^ (k % 8))).toNat : Int) := by
  rw [UInt8.toNat_ofNat']; simp
theorem map_set8 (l : List UInt8) (i : Nat) (x : UInt8) : (l.map B8).set i (B8 x) = (l.set i x).map B8 := by rw [List.map_set]

theorem bytesB_zero (n : Nat) : bytesB n 0 = List.replicate ((n + 7) / 8) 0 := by
  apply List.ext_getElem
  · simp [bytesB]
  · intro i h1 h2; simp [bytesB]

set_option maxRecDepth 100000 in
set_option maxHeartbeats 1000000 in
theorem rpack_calls {w : World} {g n X : Nat} (h : BlAt w g (bl n X)) (hn : n ≤ 256) (hX : X < 2 ^ n) (c : Nat) (hc : n ≤ c) (hc2 : c ≤ 1000000) :
    Calls Tryd.prog 37 #[.slice (some ⟨g, 0, none⟩) n c] w (BytesNew w ((n + 7) / 8) (bytesB n X)) := by
  have hmk := fun w => make_u8s ((n + 7) / 8) (by omega) w
  have hgl := h.b.lt
  have hq : ((n : Int) + 7) / 8 = (((n + 7) / 8 : Nat) : Int) := by omega
  have hV0 : Blk (w.alloc (.cells (Array.replicate ((n + 7) / 8) (.int .u8 0)) 5)) w.heap.size 5 ((bytesB n (X % 2 ^ 0)).map B8) := by
    have := Blk.newA w 5 (Array.replicate ((n + 7) / 8) (.int .u8 0))
    rw [show X % 2 ^ 0 = 0 from by simp [Nat.mod_one], bytesB_zero, List.map_replicate, show B8 0 = .int .u8 0 from rfl]
    simpa using this
  have hK0 := (Keeps.refl [] w).alloc (.cells (Array.replicate ((n + 7) / 8) (.int .u8 0)) 5)
  have hm1 : ∀ k, k < n → k / 8 < (n + 7) / 8 := fun k hk => by omega
  have hml : (n + 7) / 8 ≤ 32 := by omega
  have hbl := fun Y => bytesB_len n Y
  have hba := fun Y j => bytesB_at n Y (j := j)
  generalize (n + 7) / 8 = m at *
  go_enter Tryd.func37, Tryd.ntmps37
  go_wp2_with fail
  generalize w.alloc (.cells (Array.replicate m (.int .u8 0)) 5) = w1 at *
  have Hbl := Lib.hid hbl
  have Hba := Lib.hid hba
  have Hm1 := Lib.hid hm1
  have HX := Lib.hid hX
  clear hbl hba hm1 hX hmk hq
  go_loopw [13] (fun i wr => ∃ k : Nat, k ≤ n ∧ i = .int .i64 k ∧ Blk wr w.heap.size 5 ((bytesB n (X % 2 ^ k)).map B8) ∧ Keeps [] w wr) (fun i _ => n - (intOf i).toNat)
  case atStart => exact ⟨0, Nat.zero_le _, rfl, hV0, hK0⟩
  case round =>
    clear hV0 hK0
    obtain ⟨k, hk, rfl, hV, hK⟩ := hrel
    by_cases hlt : k < n
    · have cb := (h.keeps hK (by simp)).bit hlt
      have hkn : (k : Int) < (n : Int) := by omega
      have hls := low_succ X k
      cases hb : X.testBit k
      · rw [hb] at cb hls
        simp only [Bool.false_eq_true, if_false] at hls
        have Hls := Lib.hid hls
        have HV := Lib.hid hV
        have HK := Lib.hid hK
        clear hls hb hV hK
        go_wp2_with fail
        go_roundw
        case rel => exact ⟨k + 1, by omega, by go_num, by rw [Hls.out]; exact HV.out, HK.out⟩
        case measure => simp [intOf]; omega
      · rw [hb] at cb hls
        simp only [if_true] at hls
        have hst := bytesB_set n (X % 2 ^ k) hlt
        have hkm := Hm1.out k hlt
        have hkm' : (k : Int) / 8 < (m : Int) := by omega
        have hbat := Hba.out (X % 2 ^ k) (k / 8) hkm
        generalize hY : X % 2 ^ k = Y at *
        have cy : wr.cell? ⟨w.heap.size, k / 8, none⟩ = some (B8 (UInt8.ofNat (Y / 2 ^ (8 * (k / 8))))) := hV.cell' (by rw [List.getElem?_map, hbat]; rfl)
        have fr := hV.frozen (k / 8)
        have hor := or_byte8 (UInt8.ofNat (Y / 2 ^ (8 * (k / 8)))) (UInt8.ofNat (2 ^ (k % 8)))
        rw [← bit8_val] at hor
        have hsv := hV.set (k / 8) (B8 (UInt8.ofNat (Y / 2 ^ (8 * (k / 8))) ||| UInt8.ofNat (2 ^ (k % 8))))
        rw [map_set8, hst, ← hls] at hsv
        have HS := Lib.hid hsv
        have Hor := Lib.hid hor
        have HK := Lib.hid (hK.setCell (p := ⟨w.heap.size, k / 8, none⟩) (.inr (Nat.le_refl _)) (B8 (UInt8.ofNat (Y / 2 ^ (8 * (k / 8))) ||| UInt8.ofNat (2 ^ (k % 8)))))
        clear hsv hor hst
        generalize UInt8.ofNat (Y / 2 ^ (8 * (k / 8))) = o at *
        clear hls hb hV hK hbat
        go_wp2_with fail
        go_roundw
        case rel => rw [Hor.out]; exact ⟨k + 1, by omega, by go_num, HS.out, HK.out⟩
        case measure => simp [intOf]; omega
    · obtain rfl : n = k := by omega
      rw [Nat.mod_eq_of_lt HX.out] at hV
      have HV := Lib.hid hV
      have HK := Lib.hid hK
      clear hV hK
      go_wp2_with fail
      go_ret
      exact ⟨_, rfl, Nat.le_refl _, HV.out, HK.out⟩

theorem u64_xor_nat' (a b : Nat) (ha : a < 18446744073709551616) (hb : b < 18446744073709551616) : bits .xor .u64 (a : Int) (b : Int) = ((a ^^^ b : Nat) : Int) := u64_xor_nat a b ha hb

/-- The first k words of a sum. -/
def xorK (X Y k : Nat) : Nat := X ^^^ (Y % 2 ^ (64 * k))
theorem xorK_word (n X Y k : Nat) (hk : k < nw n) : (words n (xorK X Y k)).set k (word (xorK X Y k) k ^^^ word Y k) = words n (xorK X Y (k + 1)) := by
  have hm : ∀ a j, word (Y % 2 ^ (64 * a)) j = if j < a then word Y j else 0 := fun a j => by
    apply Nat.eq_of_testBit_eq
    intro t
    rw [word_testBit, Nat.testBit_mod_two_pow]
    split
    · next h =>
      rw [word_testBit]
      by_cases ht : t < 64
      · have : 64 * j + t < 64 * a := by omega
        simp [ht, this]
      · simp [ht]
    · next h =>
      by_cases ht : t < 64
      · have : ¬ 64 * j + t < 64 * a := by omega
        simp [this]
      · simp [ht]
  refine words_ext (by rw [List.length_set, words_len]) (fun j hj => ?_)
  rw [getD_set _ _ _ _ (by rw [words_len]; exact hk)]
  unfold xorK
  rw [word_xor, word_xor, hm, hm]
  split
  · next h => subst h; rw [if_neg (by omega), if_pos (by omega), Nat.xor_zero]
  · next h =>
    rw [words_at _ _ hj, word_xor, hm]
    by_cases h2 : j < k
    · rw [if_pos h2, if_pos (by omega)]
    · rw [if_neg h2, if_neg (by omega)]
theorem xorK_at (X Y k : Nat) : word (xorK X Y k) k = word X k := by
  unfold xorK
  rw [word_xor]
  have : word (Y % 2 ^ (64 * k)) k = 0 := by
    apply Nat.eq_of_testBit_eq
    intro t
    rw [word_testBit, Nat.testBit_mod_two_pow, Nat.zero_testBit]
    have : ¬ 64 * k + t < 64 * k := by omega
    simp [this]
  rw [this, Nat.xor_zero]
theorem xorK_all {n X Y : Nat} (hY : Y < 2 ^ n) : xorK X Y (nw n) = X ^^^ Y := by
  unfold xorK
  rw [Nat.mod_eq_of_lt (Nat.lt_of_lt_of_le hY (Nat.pow_le_pow_right (by omega) (by unfold nw; omega)))]
theorem xorK_lt {n X Y k : Nat} (hX : X < 2 ^ n) (hY : Y < 2 ^ n) : xorK X Y k < 2 ^ n := xor_lt hX (Nat.lt_of_le_of_lt (Nat.mod_le _ _) hY)

set_option maxRecDepth 100000 in
set_option maxHeartbeats 1000000 in
theorem vxor_calls {w : World} {p g n X q r Y : Nat} (h : VecAt w p g n X) (h' : VecAt w q r n Y) (hqg : q ≠ g) (hrg : r ≠ g) :
    Calls Tryd.prog 20 #[.pointer (some ⟨p, 0, none⟩), .pointer (some ⟨q, 0, none⟩)] w (VecPost w p g n (X ^^^ Y) (.bool true)) := by
  have c0 := h.b.cell' (i := 0) rfl
  have c1 := h.b.cell' (i := 1) rfl
  have d0 := h'.b.cell' (i := 0) rfl
  have hN : nw n ≤ 4 := by have := h.le; unfold nw; omega
  have hpg := h.ne
  have hXl := h.lt
  have hYl := h'.lt
  have hle := h.le
  go_enter Tryd.func20, Tryd.ntmps20
  go_wp2_with fail
  go_quiet (fail)
  go_wp2_with fail
  have hd : ∀ wr : World, Keeps [g] w wr → VecAt wr q r n Y := fun wr k => h'.keeps k (by simpa using hqg) (by simpa using hrg)
  have Hd := Lib.hid hd
  have h0 : xorK X Y 0 = X := by unfold xorK; rw [Nat.mul_zero, Nat.pow_zero, Nat.mod_one, Nat.xor_zero]
  have HV0 := Lib.hid (show VecAt (w.drewN _) p g n (xorK X Y 0) from by rw [h0]; exact h.keeps ((Keeps.refl [] w).drewN nq) (by simp) (by simp))
  clear hd h0
  go_loopw [28] (fun i wr => ∃ k : Nat, k ≤ nw n ∧ i = .int .i64 k ∧ VecAt wr p g n (xorK X Y k) ∧ Keeps [g] w wr) (fun i _ => nw n - (intOf i).toNat)
  case atStart => exact ⟨0, Nat.zero_le _, rfl, HV0.out, (Keeps.refl _ _).drewN nq⟩
  case round =>
    clear HV0 c0 c1 d0 h h'
    obtain ⟨k, hk, rfl, hV, hK⟩ := hrel
    by_cases hlt : k < nw n
    · have hQ := Hd.out wr hK
      have a1 := hV.b.cell' (i := 1) rfl
      have b1 := hQ.b.cell' (i := 1) rfl
      have aw := hV.wd hlt
      have bw := hQ.wd hlt
      have fr := hV.r.frozen k
      have hkn : (k : Int) < (nw n : Int) := by omega
      have hx := xorK_word n X Y k hlt
      have hst := hV.r.set k (U64 (word (xorK X Y k) k ^^^ word Y k))
      rw [map_setU, hx] at hst
      have hb2 := hV.b.setOther (a := ⟨g, k, none⟩) (U64 (word (xorK X Y k) k ^^^ word Y k)) hpg
      have HV := Lib.hid (show VecAt _ p g n (xorK X Y (k + 1)) from ⟨hb2, hst, xorK_lt hXl hYl, hle⟩)
      have HK := Lib.hid (hK.setCell (p := ⟨g, k, none⟩) (.inl (by simp)) (U64 (word (xorK X Y k) k ^^^ word Y k)))
      have hxv := u64_xor_nat (word (xorK X Y k) k) (word Y k) (word_lt _ _) (word_lt _ _)
      clear hx hst hb2 hV hQ hK
      generalize word (xorK X Y k) k = x at *
      generalize word Y k = y at *
      go_wp2_with fail
      go_region
      go_wp2_with fail
      go_roundw
      case rel => exact ⟨k + 1, by omega, by go_num, HV.out.keeps ((Keeps.refl [] _).drew) (by simp) (by simp), HK.out.drew⟩
      case measure => simp [intOf]; omega
    · obtain rfl : k = nw n := by omega
      rw [xorK_all hYl] at hV
      have HV := Lib.hid hV
      have HK := Lib.hid hK
      clear hV hK
      go_wp2_with fail
      go_ret
      exact ⟨rfl, HV.out, HK.out⟩


theorem byte_word (X k : Nat) : word X (8 * k / 64) / 2 ^ (8 * k % 64) % 256 = X / 2 ^ (8 * k) % 256 := by
  apply Nat.eq_of_testBit_eq
  intro t
  rw [show (256 : Nat) = 2 ^ 8 from rfl, Nat.testBit_mod_two_pow, Nat.testBit_mod_two_pow, Nat.testBit_div_two_pow, Nat.testBit_div_two_pow, word_testBit]
  by_cases ht : t < 8
  · have h1 : t + 8 * k % 64 < 64 := by omega
    rw [show 64 * (8 * k / 64) + (t + 8 * k % 64) = t + 8 * k from by omega]
    simp [ht, h1]
  · simp [ht]
theorem byte_word_val (X k m : Nat) (hm : m = 8 * k) : ((word X (m / 64) : Int) / 2 ^ (m % 64)) % 256 = ((UInt8.ofNat (X / 2 ^ (8 * k))).toNat : Int) := by
  subst hm
  rw [UInt8.toNat_ofNat', ← byte_word]
  simp

def halfB (l : List UInt8) (k : Nat) : List UInt8 := l.take k ++ List.replicate (l.length - k) 0
theorem halfB_zero (l : List UInt8) : halfB l 0 = List.replicate l.length 0 := by simp [halfB]
theorem halfB_all (l : List UInt8) : halfB l l.length = l := by simp [halfB]
theorem halfB_set (l : List UInt8) {k : Nat} (hk : k < l.length) : (halfB l k).set k l[k] = halfB l (k + 1) := by
  apply List.ext_getElem
  · simp [halfB]; omega
  · intro j h1 h2
    simp only [halfB, List.getElem_set, List.getElem_append, List.length_take, List.getElem_take, List.getElem_replicate]
    by_cases hj : k = j
    · subst hj
      have : k < min (k + 1) l.length := by omega
      simp [this]
    · by_cases h3 : j < k
      · have a1 : j < min k l.length := by omega
        have a2 : j < min (k + 1) l.length := by omega
        simp [hj, a1, a2]
      · have a1 : ¬ j < min k l.length := by omega
        have a2 : ¬ j < min (k + 1) l.length := by omega
        simp [hj, a1, a2]

set_option maxRecDepth 100000 in
set_option maxHeartbeats 1000000 in
theorem vbytes_calls {w : World} {p g n X : Nat} (h : VecAt w p g n X) :
    Calls Tryd.prog 36 #[.pointer (some ⟨p, 0, none⟩)] w (BytesNew w ((n + 7) / 8) (bytesB n X)) := by
  have hn := h.le
  have hmk := fun w => make_u8s ((n + 7) / 8) (by omega) w
  have c0 := h.b.cell' (i := 0) rfl
  have hq : ((n : Int) + 7) / 8 = (((n + 7) / 8 : Nat) : Int) := by omega
  have hV0 : Blk (w.alloc (.cells (Array.replicate ((n + 7) / 8) (.int .u8 0)) 5)) w.heap.size 5 ((halfB (bytesB n X) 0).map B8) := by
    have := Blk.newA w 5 (Array.replicate ((n + 7) / 8) (.int .u8 0))
    rw [halfB_zero, bytesB_len, List.map_replicate, show B8 0 = .int .u8 0 from rfl]
    simpa using this
  have hK0 := (Keeps.refl [] w).alloc (.cells (Array.replicate ((n + 7) / 8) (.int .u8 0)) 5)
  have hml : (n + 7) / 8 ≤ 32 := by omega
  have hnw : ∀ k, k < (n + 7) / 8 → 8 * k / 64 < nw n := fun k hk => by unfold nw; omega
  have hN4 : nw n ≤ 4 := by unfold nw; omega
  have hbl := bytesB_len n X
  have hba := fun j => bytesB_at n X (j := j)
  generalize (n + 7) / 8 = m at *
  have hst : ∀ k, k < m → (halfB (bytesB n X) k).set k (UInt8.ofNat (X / 2 ^ (8 * k))) = halfB (bytesB n X) (k + 1) := fun k hk => by
    have hk' : k < (bytesB n X).length := by omega
    have e := hba k hk
    rw [List.getElem?_eq_getElem hk', Option.some.injEq] at e
    rw [← e]
    exact halfB_set _ hk'
  have hend : halfB (bytesB n X) m = bytesB n X := by rw [← hbl, halfB_all]
  generalize bytesB n X = L at *
  have hfr : ∀ (wr : World), Keeps [] w wr → VecAt wr p g n X := fun wr k => h.keeps k (by simp) (by simp)
  go_enter Tryd.func36, Tryd.ntmps36
  go_wp2_with fail
  generalize w.alloc (.cells (Array.replicate m (.int .u8 0)) 5) = w1 at *
  have Hst := Lib.hid hst
  have Hend := Lib.hid hend
  have Hnw := Lib.hid hnw
  have Hfr := Lib.hid hfr
  have Hbl := Lib.hid hbl
  clear hst hend hnw hfr hmk hq hba hbl c0 h
  go_loopw [16] (fun i wr => ∃ k : Nat, k ≤ m ∧ i = .int .i64 k ∧ Blk wr w.heap.size 5 ((halfB L k).map B8) ∧ Keeps [] w wr) (fun i _ => m - (intOf i).toNat)
  case atStart => exact ⟨0, Nat.zero_le _, rfl, hV0, hK0⟩
  case round =>
    clear hV0 hK0
    obtain ⟨k, hk, rfl, hV, hK⟩ := hrel
    by_cases hlt : k < m
    · have hVr := Hfr.out wr hK
      have hkn := Hnw.out k hlt
      have c1 := hVr.b.cell' (i := 1) rfl
      have cw := hVr.wd hkn
      have fr := hV.frozen k
      obtain ⟨m8, hm8, hm8'⟩ : ∃ m8 : Nat, (k : Int) * 8 = (m8 : Int) ∧ m8 = 8 * k := ⟨8 * k, by omega, rfl⟩
      have hval := byte_word_val X k m8 hm8'
      have hl : ∃ u, ((halfB L k).map B8)[k]? = some u := by
        have : k < ((halfB L k).map B8).length := by have := Hbl.out; simp [halfB]; omega
        exact ⟨_, List.getElem?_eq_getElem this⟩
      obtain ⟨u, hu⟩ := hl
      have co := hV.cell' hu
      have hset := hV.set k (B8 (UInt8.ofNat (X / 2 ^ (8 * k))))
      rw [map_set8, Hst.out k hlt] at hset
      have HS := Lib.hid hset
      have HK := Lib.hid (hK.setCell (p := ⟨w.heap.size, k, none⟩) (.inr (Nat.le_refl _)) (B8 (UInt8.ofNat (X / 2 ^ (8 * k)))))
      have Hval := Lib.hid hval
      have hmb : m8 / 64 < nw n := by rw [hm8']; exact hkn
      rw [← hm8'] at cw
      have hm9 : m8 ≤ 256 := by omega
      have hkm : (k : Int) < (m : Int) := by omega
      clear hset hV hK hVr hval hu hkn hm8'
      generalize nw n = N at *
      go_wp2_with fail
      go_roundw
      case rel => rw [Hval.out]; exact ⟨k + 1, by omega, by go_num, HS.out, HK.out⟩
      case measure => simp [intOf]; omega
    · obtain rfl : m = k := by omega
      rw [Hend.out] at hV
      have HV := Lib.hid hV
      have HK := Lib.hid hK
      clear hV hK
      go_wp2_with fail
      go_ret
      exact ⟨_, rfl, Nat.le_refl _, HV.out, HK.out⟩


set_option maxRecDepth 100000 in
set_option maxHeartbeats 1000000 in
/-- same, of two slices that read alike. -/
theorem same5_calls {w : World} {B B' : Nat} (a : Option Addr) (c : Nat) (b : Option Addr) (d : Nat) {l : List Nat} (h : IsInts w B (.slice a l.length c) l) (h' : IsInts w B' (.slice b l.length d) l) (hlen : l.length ≤ 1000000) :
    Calls Tryd.prog 35 #[.slice a l.length c, .slice b l.length d] w fun e w' => e = .returned (.bool true) ∧ Keeps [] w w' := by
  obtain ⟨a', c', e1, _, _, h3⟩ := h
  obtain ⟨b', d', e2, _, _, h4⟩ := h'
  simp only [Value.slice.injEq] at e1 e2
  obtain ⟨rfl, _, rfl⟩ := e1
  obtain ⟨rfl, _, rfl⟩ := e2
  have Ha := Lib.hid h3
  have Hb := Lib.hid h4
  clear h3 h4
  go_enter Tryd.func35, Tryd.ntmps35
  go_wp2_with fail
  go_loopw [13] (fun i wr => ∃ k : Nat, k ≤ l.length ∧ i = .int .i64 k ∧ Keeps [] w wr) (fun i _ => l.length - (intOf i).toNat)
  case atStart => exact ⟨0, Nat.zero_le _, rfl, Keeps.refl _ _⟩
  case round =>
    obtain ⟨k, hk, rfl, hK⟩ := hrel
    by_cases hlt : k < l.length
    · obtain ⟨g, rfl, _, ca⟩ := Ha.out k hlt
      obtain ⟨r, rfl, _, cb⟩ := Hb.out k hlt
      have ca' := hK.cell0 ca
      have cb' := hK.cell0 cb
      have hkn : (k : Int) < (l.length : Int) := by omega
      have HK := Lib.hid hK
      clear ca cb hK
      generalize l.getD k 0 = x at *
      go_wp2_with fail
      refine wp_region_noPanic ?_
      refine wp_region_held_drew (S := (fun w' => w'.cell? ⟨g, k, none⟩ = some (I64 x) ∧ w'.cell? ⟨r, k, none⟩ = some (I64 x))) (by kernel_rfl) ⟨ca', cb'⟩ (fun hHeld => ?_)
      refine wpAnyH_take (i := 0) (v := ?v1_1) rfl (by kernel_rfl) (by kernel_rfl) (by kernel_rfl) (fun _ _ _ h => h) (Or.inl ⟨by rfl, ?y1_1⟩) (by assumption) ?r1_1
      case y1_1 => (intro w hSw; (try dsimp only at hSw); go_simp; try with_reducible rfl)
      (try simp only [Act.put, List.getElem_toArray, List.getElem_cons_zero, List.getElem_cons_succ, List.setIfInBounds_toArray, List.set_cons_zero, List.set_cons_succ])
      refine wpAnyH_take (i := 1) (v := ?v1_2) rfl (by kernel_rfl) (by kernel_rfl) (by kernel_rfl) (fun _ _ _ h => h) (Or.inl ⟨by rfl, ?y1_2⟩) (by assumption) ?r1_2
      case y1_2 => (intro w hSw; (try dsimp only at hSw); go_simp; try with_reducible rfl)
      (try simp only [Act.put, List.getElem_toArray, List.getElem_cons_zero, List.getElem_cons_succ, List.setIfInBounds_toArray, List.set_cons_zero, List.set_cons_succ])
      refine wpAnyH_take (i := 2) (v := ?v1_3) rfl (by kernel_rfl) (by kernel_rfl) (by kernel_rfl) (fun _ _ _ h => h) (Or.inl ⟨by rfl, ?y1_3⟩) (by assumption) ?r1_3
      case y1_3 => (intro w hSw; (try dsimp only at hSw); go_simp; try with_reducible rfl)
      (try simp only [Act.put, List.getElem_toArray, List.getElem_cons_zero, List.getElem_cons_succ, List.setIfInBounds_toArray, List.set_cons_zero, List.set_cons_succ])
      refine wpAnyH_take (i := 3) (v := ?v1_4) rfl (by kernel_rfl) (by kernel_rfl) (by kernel_rfl) (fun _ _ _ h => h) (Or.inl ⟨by rfl, ?y1_4⟩) (by assumption) ?r1_4
      case y1_4 => (intro w hSw; (try dsimp only at hSw); go_simp; try with_reducible rfl)
      (try simp only [Act.put, List.getElem_toArray, List.getElem_cons_zero, List.getElem_cons_succ, List.setIfInBounds_toArray, List.set_cons_zero, List.set_cons_succ])
      refine wpAnyH_take (i := 4) (v := ?v1_5) rfl (by kernel_rfl) (by kernel_rfl) (by kernel_rfl) (fun _ _ _ h => h) (Or.inl ⟨by rfl, ?y1_5⟩) (by assumption) ?r1_5
      case y1_5 => (intro w hSw; (try dsimp only at hSw); go_simp; try with_reducible rfl)
      (try simp only [Act.put, List.getElem_toArray, List.getElem_cons_zero, List.getElem_cons_succ, List.setIfInBounds_toArray, List.set_cons_zero, List.set_cons_succ])
      refine wpAnyH_take (i := 5) (v := ?v1_6) rfl (by kernel_rfl) (by kernel_rfl) (by kernel_rfl) (fun _ _ _ h => h) (Or.inl ⟨by rfl, ?y1_6⟩) (by assumption) ?r1_6
      case y1_6 => (intro w hSw; (try dsimp only at hSw); go_simp; try with_reducible rfl)
      (try simp only [Act.put, List.getElem_toArray, List.getElem_cons_zero, List.getElem_cons_succ, List.setIfInBounds_toArray, List.set_cons_zero, List.set_cons_succ])
      refine wpAnyH_take (i := 6) (v := ?v1_7) rfl (by kernel_rfl) (by kernel_rfl) (by kernel_rfl) (fun _ _ _ h => h) (Or.inl ⟨by rfl, ?y1_7⟩) (by assumption) ?r1_7
      case y1_7 => (intro w hSw; (try dsimp only at hSw); go_simp; try with_reducible rfl)
      (try simp only [Act.put, List.getElem_toArray, List.getElem_cons_zero, List.getElem_cons_succ, List.setIfInBounds_toArray, List.set_cons_zero, List.set_cons_succ])
      refine wpAnyH_take (i := 7) (v := ?v1_8) rfl (by kernel_rfl) (by kernel_rfl) (by kernel_rfl) (fun _ _ _ h => h) (Or.inl ⟨by rfl, ?y1_8⟩) (by assumption) ?r1_8
      case y1_8 => (intro w hSw; (try dsimp only at hSw); go_simp; try with_reducible rfl)
      (try simp only [Act.put, List.getElem_toArray, List.getElem_cons_zero, List.getElem_cons_succ, List.setIfInBounds_toArray, List.set_cons_zero, List.set_cons_succ])
      refine wpAnyH_take (i := 8) (v := ?v1_9) rfl (by kernel_rfl) (by kernel_rfl) (by kernel_rfl) (fun _ _ _ h => h) (Or.inl ⟨by rfl, ?y1_9⟩) (by assumption) ?r1_9
      case y1_9 => (intro w hSw; (try dsimp only at hSw); go_simp; try with_reducible rfl)
      (try simp only [Act.put, List.getElem_toArray, List.getElem_cons_zero, List.getElem_cons_succ, List.setIfInBounds_toArray, List.set_cons_zero, List.set_cons_succ])
      refine wpAnyH_done (by kernel_rfl) ?_ _
      refine NoPanic.normal ?_
      go_wp2_with fail
      go_roundw
      case rel => exact ⟨k + 1, by omega, by go_num, HK.out.drew⟩
      case measure => simp [intOf]; omega
    · obtain rfl : k = l.length := by omega
      go_wp2_with fail
      go_ret
      exact ⟨rfl, hK⟩

end Go.Proofs.YtghgmchgbhdldaaDoor
