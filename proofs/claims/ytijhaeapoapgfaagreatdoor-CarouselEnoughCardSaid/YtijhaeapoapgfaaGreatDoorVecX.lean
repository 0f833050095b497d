/-
  VecX: package vec, walked: First, Xor, Copy; rows that Copy has made (there may be room behind their words).
-/
import Derived.Test.YtijhaeapoapgfaaGreatDoorGrVec
import Derived.RegionTactic
import Derived.Laws.Bits128
set_option linter.unusedVariables false
set_option linter.unusedSimpArgs false
namespace Go.Proofs.YtijhaeapoapgfaaGreatDoor
open Go.RowKit
attribute [local go_sem ↓] Go.wp_at_zero Go.wp_at_succ

/-- The library's table lies there. -/
def TzAt (w : World) : Prop := ∀ k, k < 64 → w.cell? ⟨1, k, none⟩ = some (.int .u8 (tzTab.getD k 0 : Nat))
theorem TzAt.keeps {S : List Nat} {w w' : World} (h : TzAt w) (k : Keeps S w w') (hS : 1 ∉ S) : TzAt w' := fun i hi =>
  (World.cell?_of_block (a := ⟨1, i, none⟩) (k.block 1 (World.block_lt_of_cell? w _ (h i hi)) hS)).trans (h i hi)

theorem tz_val (x k : Nat) (hx : x < 18446744073709551616) (hk : k < 64) (h0 : x ≠ 0) (he : x &&& (18446744073709551616 - x) = 2 ^ k) :
    IntKind.u64.wrap (bits .and .u64 (x : Int) (IntKind.u64.wrap (-(x : Int))) * 285870213051353865) / 288230376151711744 = ((2 ^ k * 285870213051353865 % 18446744073709551616 / 288230376151711744 : Nat) : Int) := by
  have h1 : IntKind.u64.wrap (-(x : Int)) = ((18446744073709551616 - x : Nat) : Int) := by rw [IntKind.wrap_u64]; omega
  rw [h1, u64_and_nat _ _ hx (by omega), he, IntKind.wrap_u64]
  generalize 2 ^ k = v
  omega

set_option maxRecDepth 100000 in
theorem tz_calls {w : World} (ht : TzAt w) (x k : Nat) (hx : x < 18446744073709551616) (h0 : x ≠ 0) (hk : k < 64) (he : x &&& (18446744073709551616 - x) = 2 ^ k) :
    Calls Tryz.prog 175 #[U64 x] w fun e w' => e = .returned (.int .i64 k) ∧ w = w' := by
  have hE := tz_val x k hx hk h0 he
  have hc : w.cell? ⟨1, (IntKind.u64.wrap (bits .and .u64 (x : Int) (IntKind.u64.wrap (-(x : Int))) * 285870213051353865) / 288230376151711744).toNat, none⟩ = some (.int .u8 k) := by
    rw [hE, Int.toNat_natCast, ht _ (by omega), tzTab_at ⟨k, hk⟩]
  have hb : 0 ≤ IntKind.u64.wrap (bits .and .u64 (x : Int) (IntKind.u64.wrap (-(x : Int))) * 285870213051353865) / 288230376151711744 ∧ IntKind.u64.wrap (bits .and .u64 (x : Int) (IntKind.u64.wrap (-(x : Int))) * 285870213051353865) / 288230376151711744 < 64 := by
    rw [hE]; omega
  have h0' : ((x : Int) == 0) = false := by simp; omega
  have HE := Lib.hid hE
  clear hE he
  go_enter Tryz.func175, Tryz.ntmps175
  go_wp2_with fail
  go_ret
  exact ⟨rfl, rfl⟩


/-- A row that was copied: there may be room behind its words. -/
structure VcAt (w : World) (p g n X c : Nat) (t : List Value) : Prop where
  b : Blk w p 235 [.int .i64 n, .slice (some ⟨g, 0, none⟩) (nw n) c]
  r : Blk w g 25 ((words n X).map U64 ++ t)
  lt : X < 2 ^ n
  le : n ≤ 256
  hc : nw n ≤ c

theorem VecAt.vc {w : World} {p g n X : Nat} (h : VecAt w p g n X) : VcAt w p g n X (nw n) [] := ⟨h.b, by rw [List.append_nil]; exact h.r, h.lt, h.le, Nat.le_refl _⟩
theorem VcAt.ne {w : World} {p g n X c : Nat} {t : List Value} (h : VcAt w p g n X c t) : p ≠ g := h.b.ne h.r (by decide)
theorem VcAt.keeps {S : List Nat} {w w' : World} {p g n X c : Nat} {t : List Value} (h : VcAt w p g n X c t) (k : Keeps S w w') (hp : p ∉ S) (hg : g ∉ S) : VcAt w' p g n X c t := ⟨h.b.keeps k hp, h.r.keeps k hg, h.lt, h.le, h.hc⟩
theorem VcAt.wd {w : World} {p g n X c k : Nat} {t : List Value} (h : VcAt w p g n X c t) (hk : k < nw n) : w.cell? ⟨g, k, none⟩ = some (U64 (word X k)) := by
  rw [← words_at n X hk]
  have hl : k < (words n X).length := by rw [words_len]; exact hk
  refine h.r.cell' ?_
  rw [List.getElem?_append_left (by simpa using hl), List.getElem?_map, List.getD, List.getElem?_eq_getElem hl]
  rfl
theorem VcAt.set {w : World} {p g n X Y c k v : Nat} {t : List Value} (h : VcAt w p g n X c t) (hk : k < nw n) (hY : (words n X).set k v = words n Y) (hl : Y < 2 ^ n) : VcAt (w.setCell ⟨g, k, none⟩ (U64 v)) p g n Y c t := by
  have hkl : k < ((words n X).map U64).length := by rw [List.length_map, words_len]; exact hk
  refine ⟨h.b.setOther _ h.ne, ?_, hl, h.le, h.hc⟩
  rw [← hY, ← map_setU, ← List.set_append_left _ _ hkl]
  exact h.r.set _ _

set_option maxRecDepth 100000 in
theorem vcwithin_calls {w : World} {p g n X c : Nat} {t : List Value} (h : VcAt w p g n X c t) (i : Nat) (hi : i < n) :
    Calls Tryz.prog 172 #[.pointer (some ⟨p, 0, none⟩), .int .i64 i] w fun e w' => e = .returned (.bool true) ∧ w = w' := by
  have c0 := h.b.cell' (i := 0) rfl
  go_enter Tryz.func172, Tryz.ntmps172
  go_wp2_with fail
  go_ret
  exact ⟨rfl, rfl⟩

set_option maxRecDepth 100000 in
theorem vchas_calls {w : World} {p g n X c : Nat} {t : List Value} (h : VcAt w p g n X c t) (i : Nat) (hi : i < n) :
    Calls Tryz.prog 130 #[.pointer (some ⟨p, 0, none⟩), .int .i64 i] w fun e w' => e = .returned (.bool (X.testBit i)) ∧ w = w' := by
  have hw := vcwithin_calls h i hi
  have hN : nw n = (n + 63) / 64 := rfl
  have hk0 : i < 256 := by have := h.le; omega
  have c1 := h.b.cell' (i := 1) rfl
  have cw := h.wd (k := i / 64) (by unfold nw; omega)
  go_enter Tryz.func130, Tryz.ntmps130
  go_wp2_with fail
  refine hw.mono ?_
  rintro e w' ⟨rfl, rfl⟩
  go_wp2_with fail
  go_ret
  exact ⟨by rw [has_val]; rfl, rfl⟩

set_option maxRecDepth 100000 in
theorem vcfirst_calls {w : World} {p g n X c : Nat} {tl : List Value} (h : VcAt w p g n X c tl) (ht : TzAt w) :
    Calls Tryz.prog 136 #[.pointer (some ⟨p, 0, none⟩)] w fun e w' => e = .returned (.int .i64 (firstB n X)) ∧ w = w' := by
  have c1 := h.b.cell' (i := 1) rfl
  have hN : nw n ≤ 4 := by have := h.le; unfold nw; omega
  have hfs := fun k t hz h1 h2 h3 => first_word (n := n) (X := X) (k := k) (t := t) h.lt hz h1 h2 h3
  have hfn := first_none (n := n) (X := X)
  have hcw := fun k (hk : k < nw n) => h.wd hk
  have Hcw := Lib.hid hcw
  have Hfs := Lib.hid hfs
  have Hfn := Lib.hid hfn
  clear hcw hfs hfn
  generalize nw n = N at *
  go_enter Tryz.func136, Tryz.ntmps136
  go_wp2_with fail
  go_loopw [12] (fun i wr => ∃ k : Nat, k ≤ N ∧ i = .int .i64 k ∧ (∀ j, j < k → word X j = 0) ∧ wr = w) (fun i _ => N - (intOf i).toNat)
  case atStart => exact ⟨0, Nat.zero_le _, rfl, fun j hj => absurd hj (Nat.not_lt_zero _), rfl⟩
  case round =>
    obtain ⟨k, hk, rfl, hz, rfl⟩ := hrel
    by_cases hlt : k < N
    · have cw := Hcw.out k hlt
      by_cases h0 : word X k = 0
      · rw [h0] at cw
        have Hz := Lib.hid hz
        have H0 := Lib.hid h0
        clear hz h0
        go_wp2_with fail
        go_roundw
        case rel =>
          refine ⟨k + 1, by omega, by go_num, fun j hj => ?_, trivial⟩
          by_cases hjk : j = k
          · subst hjk; exact H0.out
          · exact Hz.out j (by omega)
        case measure => simp [intOf]; omega
      · have hwl := word_lt X k
        obtain ⟨t, ht64, he, ht1, ht2⟩ := word_low hwl h0
        have hT := tz_calls ht (word X k) t hwl h0 ht64 he
        have hF := Hfs.out k t hz ht64 ht1 ht2
        have hne : ((word X k : Int) == 0) = false := by simp; omega
        have HF := Lib.hid hF
        clear hF he ht1 ht2 hz
        generalize word X k = x at *
        go_wp2_with fail
        refine hT.mono ?_
        rintro e w' ⟨rfl, rfl⟩
        go_wp2_with fail
        go_ret
        exact ⟨by rw [HF.out]; simp; omega, rfl⟩
    · obtain rfl : N = k := by omega
      have HF := Lib.hid (Hfn.out hz)
      clear hz
      go_wp2_with fail
      go_ret
      exact ⟨by rw [HF.out]; rfl, rfl⟩

theorem u64_xor_nat' (a b : Nat) (ha : a < 18446744073709551616) (hb : b < 18446744073709551616) : bits .xor .u64 (a : Int) (b : Int) = ((a ^^^ b : Nat) : Int) := u64_xor_nat a b ha hb

/-- The first k words of a sum. -/
def xorK (X Y k : Nat) : Nat := X ^^^ (Y % 2 ^ (64 * k))
theorem xorK_word (n X Y k : Nat) (hk : k < nw n) : (words n (xorK X Y k)).set k (word (xorK X Y k) k ^^^ word Y k) = words n (xorK X Y (k + 1)) := by
  have hm : ∀ a j, word (Y % 2 ^ (64 * a)) j = if j < a then word Y j else 0 := fun a j => by
    apply Nat.eq_of_testBit_eq
    intro t
    rw [word_testBit, Nat.testBit_mod_two_pow]
    split
    · next h =>
      rw [word_testBit]
      by_cases ht : t < 64
      · have : 64 * j + t < 64 * a := by omega
        simp [ht, this]
      · simp [ht]
    · next h =>
      by_cases ht : t < 64
      · have : ¬ 64 * j + t < 64 * a := by omega
        simp [this]
      · simp [ht]
  refine words_ext (by rw [List.length_set, words_len]) (fun j hj => ?_)
  rw [getD_set _ _ _ _ (by rw [words_len]; exact hk)]
  unfold xorK
  rw [word_xor, word_xor, hm, hm]
  split
  · next h => subst h; rw [if_neg (by omega), if_pos (by omega), Nat.xor_zero]
  · next h =>
    rw [words_at _ _ hj, word_xor, hm]
    by_cases h2 : j < k
    · rw [if_pos h2, if_pos (by omega)]
    · rw [if_neg h2, if_neg (by omega)]
theorem xorK_at (X Y k : Nat) : word (xorK X Y k) k = word X k := by
  unfold xorK
  rw [word_xor]
  have : word (Y % 2 ^ (64 * k)) k = 0 := by
    apply Nat.eq_of_testBit_eq
    intro t
    rw [word_testBit, Nat.testBit_mod_two_pow, Nat.zero_testBit]
    have : ¬ 64 * k + t < 64 * k := by omega
    simp [this]
  rw [this, Nat.xor_zero]
theorem xorK_all {n X Y : Nat} (hY : Y < 2 ^ n) : xorK X Y (nw n) = X ^^^ Y := by
  unfold xorK
  rw [Nat.mod_eq_of_lt (Nat.lt_of_lt_of_le hY (Nat.pow_le_pow_right (by omega) (by unfold nw; omega)))]
theorem xorK_lt {n X Y k : Nat} (hX : X < 2 ^ n) (hY : Y < 2 ^ n) : xorK X Y k < 2 ^ n := xor_lt hX (Nat.lt_of_le_of_lt (Nat.mod_le _ _) hY)

def VcPost (w : World) (p g n X c : Nat) (t : List Value) (v : Value) (e : Ending) (w' : World) : Prop := e = .returned v ∧ VcAt w' p g n X c t ∧ Keeps [g] w w'

set_option maxRecDepth 100000 in
set_option maxHeartbeats 1000000 in
theorem vcxor_calls {w : World} {p g n X q r Y c c' : Nat} {t t' : List Value} (h : VcAt w p g n X c t) (h' : VcAt w q r n Y c' t') (hqg : q ≠ g) (hrg : r ≠ g) :
    Calls Tryz.prog 176 #[.pointer (some ⟨p, 0, none⟩), .pointer (some ⟨q, 0, none⟩)] w (VcPost w p g n (X ^^^ Y) c t (.bool true)) := by
  have c0 := h.b.cell' (i := 0) rfl
  have c1 := h.b.cell' (i := 1) rfl
  have d0 := h'.b.cell' (i := 0) rfl
  have hN : nw n ≤ 4 := by have := h.le; unfold nw; omega
  have hpg := h.ne
  have hXl := h.lt
  have hYl := h'.lt
  have hle := h.le
  go_enter Tryz.func176, Tryz.ntmps176
  go_wp2_with fail
  go_quiet (fail)
  go_wp2_with fail
  have hd : ∀ wr : World, Keeps [g] w wr → VcAt wr q r n Y c' t' := fun wr k => h'.keeps k (by simpa using hqg) (by simpa using hrg)
  have Hd := Lib.hid hd
  have h0 : xorK X Y 0 = X := by unfold xorK; rw [Nat.mul_zero, Nat.pow_zero, Nat.mod_one, Nat.xor_zero]
  have HV0 := Lib.hid (show VcAt (w.drewN _) p g n (xorK X Y 0) c t from by rw [h0]; exact h.keeps ((Keeps.refl [] w).drewN nq) (by simp) (by simp))
  clear hd h0
  go_loopw [28] (fun i wr => ∃ k : Nat, k ≤ nw n ∧ i = .int .i64 k ∧ VcAt wr p g n (xorK X Y k) c t ∧ Keeps [g] w wr) (fun i _ => nw n - (intOf i).toNat)
  case atStart => exact ⟨0, Nat.zero_le _, rfl, HV0.out, (Keeps.refl _ _).drewN nq⟩
  case round =>
    clear HV0 c0 c1 d0 h h'
    obtain ⟨k, hk, rfl, hV, hK⟩ := hrel
    by_cases hlt : k < nw n
    · have hQ := Hd.out wr hK
      have a1 := hV.b.cell' (i := 1) rfl
      have b1 := hQ.b.cell' (i := 1) rfl
      have aw := hV.wd hlt
      have bw := hQ.wd hlt
      have fr := hV.r.frozen k
      have hkn : (k : Int) < (nw n : Int) := by omega
      have hx := xorK_word n X Y k hlt
      have HV := Lib.hid (hV.set hlt hx (xorK_lt hXl hYl))
      have HK := Lib.hid (hK.setCell (p := ⟨g, k, none⟩) (.inl (by simp)) (U64 (word (xorK X Y k) k ^^^ word Y k)))
      have hxv := u64_xor_nat (word (xorK X Y k) k) (word Y k) (word_lt _ _) (word_lt _ _)
      clear hx hV hQ hK
      generalize word (xorK X Y k) k = x at *
      generalize word Y k = y at *
      go_wp2_with fail
      go_region
      go_wp2_with fail
      go_roundw
      case rel => exact ⟨k + 1, by omega, by go_num, HV.out.keeps ((Keeps.refl [] _).drew) (by simp) (by simp), HK.out.drew⟩
      case measure => simp [intOf]; omega
    · obtain rfl : k = nw n := by omega
      rw [xorK_all hYl] at hV
      have HV := Lib.hid hV
      have HK := Lib.hid hK
      clear hV hK
      go_wp2_with fail
      go_ret
      exact ⟨rfl, HV.out, HK.out⟩



/-- A copy of a row, in new memory. -/
def VcNew (w : World) (n X : Nat) (e : Ending) (w' : World) : Prop :=
  ∃ p g c t, e = .returned (.pointer (some ⟨p, 0, none⟩)) ∧ w.heap.size ≤ p ∧ w.heap.size ≤ g ∧ VcAt w' p g n X c t ∧ Keeps [] w w'

theorem vclone_calls {w : World} {g n X c : Nat} (hr : ∀ k, k < nw n → w.cell? ⟨g, k, none⟩ = some (U64 (word X k))) (hn : n ≤ 256) :
    Calls Tryz.prog 192 #[.slice (some ⟨g, 0, none⟩) (nw n) c] w fun e w' => ∃ g' c' t, e = .returned (.slice (some ⟨g', 0, none⟩) (nw n) c') ∧ nw n ≤ c' ∧ w.heap.size ≤ g' ∧ Blk w' g' 25 ((words n X).map U64 ++ t) ∧ Keeps [] w w' := by
  obtain ⟨i0, hi, hz0, hz1, hz2⟩ := info_parts Tryz.info_uint64
  have hN : nw n ≤ 4 := by unfold nw; omega
  refine (Tryz.slices_Clone_u64 i0 _ _ _ hi hz0 hz1 hz2 rfl (by decide) Tryz.sizeOf25 g 0 (nw n) c ((words n X).map U64) w (by rw [List.length_map, words_len]; omega) (by unfold maxLen; omega) (by omega) (fun j u hu => ?_) (fun u hu => ?_)).mono ?_
  · rw [List.getElem?_map] at hu
    have hj : j < nw n := by
      rcases Nat.lt_or_ge j (nw n) with h | h
      · exact h
      · rw [List.getElem?_eq_none (by rw [words_len]; exact h)] at hu; cases hu
    have hw := words_at n X hj
    rw [List.getElem?_eq_getElem (by rw [words_len]; exact hj)] at hu
    rw [List.getD_eq_getElem?_getD, List.getElem?_eq_getElem (by rw [words_len]; exact hj)] at hw
    simp only [Option.map_some, Option.some.injEq, Option.getD_some] at hu hw
    subst hu
    rw [hw, Nat.zero_add]
    exact hr j hj
  · obtain ⟨x, _, rfl⟩ := List.mem_map.1 hu
    rfl
  · rintro e w' ⟨v', rfl, ho, hne, hb⟩
    rcases ho.2 with ⟨rfl, h0⟩ | ⟨g', cap, cur, rfl, hbs, hg, hn', hm, hs, ht⟩
    · exact absurd rfl hne
    · refine ⟨g', cap, cur.toList.drop (nw n), rfl, hn', hbs, ?_, Keeps.of_below hb⟩
      unfold Blk
      rw [hg, ← ht, Nat.mul_one, List.take_append_drop]

set_option maxRecDepth 100000 in
theorem vcopy_calls {w : World} {p g n X c : Nat} {t : List Value} (h : VcAt w p g n X c t) :
    Calls Tryz.prog 174 #[.pointer (some ⟨p, 0, none⟩)] w (VcNew w n X) := by
  have c0 := h.b.cell' (i := 0) rfl
  have c1 := h.b.cell' (i := 1) rfl
  have hC := fun (w' : World) (k : Keeps [] w w') => vclone_calls (w := w') (g := g) (n := n) (X := X) (c := c) (fun i hi => (h.keeps k (by simp) (by simp)).wd hi) h.le
  have hlt := h.lt
  have hle := h.le
  have HC := Lib.hid hC
  clear hC h
  go_enter Tryz.func174, Tryz.ntmps174
  go_wp2_with fail
  refine wp_region_noPanic ?_
  refine wp_region_held_drew (S := (fun w' => w'.cell? ⟨p, 0, none⟩ = some (.int .i64 n) ∧ w'.cell? ⟨p, 1, none⟩ = some (.slice (some ⟨g, 0, none⟩) (nw n) c))) (by kernel_rfl) ⟨c0, c1⟩ (fun hHeld => ?_)
  have kd : Keeps [] w w.drew := (Keeps.refl [] w).drew
  refine wpAnyH_take (i := 0) (v := ?v1_1) rfl (by kernel_rfl) (by kernel_rfl) (by kernel_rfl) (fun _ _ _ h => h) (Or.inl ⟨by rfl, ?y1_1⟩) (by assumption) ?r1_1
  case y1_1 => (intro w hSw; (try dsimp only at hSw); go_simp; try with_reducible rfl)
  (try simp only [Act.put, List.getElem_toArray, List.getElem_cons_zero, List.getElem_cons_succ, List.setIfInBounds_toArray, List.set_cons_zero, List.set_cons_succ])
  refine wpAnyH_take (i := 1) (v := ?v1_2) rfl (by kernel_rfl) (by kernel_rfl) (by kernel_rfl) (fun _ _ _ h => h) (Or.inl ⟨by rfl, ?y1_2⟩) (by assumption) ?r1_2
  case y1_2 => (intro w hSw; (try dsimp only at hSw); go_simp; try with_reducible rfl)
  (try simp only [Act.put, List.getElem_toArray, List.getElem_cons_zero, List.getElem_cons_succ, List.setIfInBounds_toArray, List.set_cons_zero, List.set_cons_succ])
  refine wpAnyH_take (i := 2) (v := ?v1_3) rfl (by kernel_rfl) (by kernel_rfl) (by kernel_rfl) (fun _ _ _ h => h) (Or.inl ⟨by rfl, ?y1_3⟩) (by assumption) ?r1_3
  case y1_3 => (intro w hSw; (try dsimp only at hSw); go_simp; try with_reducible rfl)
  (try simp only [Act.put, List.getElem_toArray, List.getElem_cons_zero, List.getElem_cons_succ, List.setIfInBounds_toArray, List.set_cons_zero, List.set_cons_succ])
  refine wpAnyH_take (i := 3) (v := ?v1_4) rfl (by kernel_rfl) (by kernel_rfl) (by kernel_rfl) (fun _ _ _ h => h) (Or.inl ⟨by rfl, ?y1_4⟩) (by assumption) ?r1_4
  case y1_4 => (intro w hSw; (try dsimp only at hSw); go_simp; try with_reducible rfl)
  (try simp only [Act.put, List.getElem_toArray, List.getElem_cons_zero, List.getElem_cons_succ, List.setIfInBounds_toArray, List.set_cons_zero, List.set_cons_succ])
  refine wpAnyH_take (i := 4) (v := ?v1_5) rfl (by kernel_rfl) (by kernel_rfl) (by kernel_rfl) (fun _ _ _ h => h) (Or.inl ⟨by rfl, ?y1_5⟩) (by assumption) ?r1_5
  case y1_5 => (intro w hSw; (try dsimp only at hSw); go_simp; try with_reducible rfl)
  (try simp only [Act.put, List.getElem_toArray, List.getElem_cons_zero, List.getElem_cons_succ, List.setIfInBounds_toArray, List.set_cons_zero, List.set_cons_succ])
  refine wpAnyH_take (i := 5) (v := ?v1_6) rfl (by kernel_rfl) (by kernel_rfl) (by kernel_rfl) (fun _ _ _ h => h) (Or.inl ⟨by rfl, ?y1_6⟩) (by assumption) ?r1_6
  case y1_6 => (intro w hSw; (try dsimp only at hSw); go_simp; try with_reducible rfl)
  (try simp only [Act.put, List.getElem_toArray, List.getElem_cons_zero, List.getElem_cons_succ, List.setIfInBounds_toArray, List.set_cons_zero, List.set_cons_succ])
  refine wpAnyH_take (i := 6) (v := ?v1_7) rfl (by kernel_rfl) (by kernel_rfl) (by kernel_rfl) (fun _ _ _ h => h) (Or.inl ⟨by rfl, ?y1_7⟩) (by assumption) ?r1_7
  case y1_7 => (intro w hSw; (try dsimp only at hSw); go_simp; try with_reducible rfl)
  (try simp only [Act.put, List.getElem_toArray, List.getElem_cons_zero, List.getElem_cons_succ, List.setIfInBounds_toArray, List.set_cons_zero, List.set_cons_succ])
  refine wpAnyH_take (i := 7) (v := ?v1_8) rfl (by kernel_rfl) (by kernel_rfl) (by kernel_rfl) (fun _ _ _ h => h) (Or.inl ⟨by rfl, ?y1_8⟩) (by assumption) ?r1_8
  case y1_8 => (intro w hSw; (try dsimp only at hSw); go_simp; try with_reducible rfl)
  (try simp only [Act.put, List.getElem_toArray, List.getElem_cons_zero, List.getElem_cons_succ, List.setIfInBounds_toArray, List.set_cons_zero, List.set_cons_succ])
  refine wpAnyH_ready (rs := [8]) (by kernel_rfl) (by simp) ?_
  refine AllReadyH.cons rfl (fun K hK => ?_) AllReadyH.nil
  go_simp
  refine (HC.out _ kd).mono ?_
  rintro e w1 ⟨g', c', t', rfl, hc', hg', hB', k1⟩
  have hs1 := kd.size
  replace kd := kd.trans k1
  have HB' := Lib.hid hB'
  clear hB' k1
  go_wp2_with fail
  refine hK.out _ _ ?s1_9 (fun hHeld => ?_)
  case s1_9 => ((try dsimp only) <;> (first | exact ⟨kd.cell0 c0, kd.cell0 c1⟩))
  clear hK K
  (try simp only [Act.put, List.getElem_toArray, List.getElem_cons_zero, List.getElem_cons_succ, List.setIfInBounds_toArray, List.set_cons_zero, List.set_cons_succ])
  refine wpAnyH_take (i := 9) (v := ?v1_10) rfl (by kernel_rfl) (by kernel_rfl) (by kernel_rfl) (fun _ _ _ h => h) (Or.inl ⟨by rfl, ?y1_10⟩) (by assumption) ?r1_10
  case y1_10 => (intro w hSw; (try dsimp only at hSw); go_simp; try with_reducible rfl)
  (try simp only [Act.put, List.getElem_toArray, List.getElem_cons_zero, List.getElem_cons_succ, List.setIfInBounds_toArray, List.set_cons_zero, List.set_cons_succ])
  refine wpAnyH_ready (rs := [10]) (by kernel_rfl) (by simp) ?_
  refine AllReadyH.cons rfl (fun K hK => ?_) AllReadyH.nil
  go_simp
  refine hK.out _ _ ?s1_11 (fun hHeld => ?_)
  case s1_11 => ((try dsimp only) <;> (first | exact ⟨(kd.alloc _).cell0 c0, (kd.alloc _).cell0 c1⟩))
  clear hK K
  (try simp only [Act.put, List.getElem_toArray, List.getElem_cons_zero, List.getElem_cons_succ, List.setIfInBounds_toArray, List.set_cons_zero, List.set_cons_succ])
  refine wpAnyH_take (i := 11) (v := ?v1_12) rfl (by kernel_rfl) (by kernel_rfl) (by kernel_rfl) (fun _ _ _ h => h) (Or.inl ⟨by rfl, ?y1_12⟩) (by assumption) ?r1_12
  case y1_12 => (intro w hSw; (try dsimp only at hSw); go_simp; try with_reducible rfl)
  (try simp only [Act.put, List.getElem_toArray, List.getElem_cons_zero, List.getElem_cons_succ, List.setIfInBounds_toArray, List.set_cons_zero, List.set_cons_succ])
  refine wpAnyH_done (by kernel_rfl) ?_ _
  refine NoPanic.normal ?_
  go_wp2_with fail
  go_ret
  refine ⟨_, g', c', t', rfl, kd.size, Nat.le_trans hs1 hg', ⟨Blk.newA w1 _ _, HB'.out.alloc _, hlt, hle, hc'⟩, kd.alloc _⟩

end Go.Proofs.YtijhaeapoapgfaaGreatDoor
