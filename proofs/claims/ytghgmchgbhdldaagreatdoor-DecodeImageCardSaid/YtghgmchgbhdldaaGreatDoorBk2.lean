/-
  Bk2: block.Sum of pieces of one length, walked (printed by bk2.py).
-/
import Derived.Test.YtghgmchgbhdldaaGreatDoorBk1
set_option linter.unusedVariables false
set_option linter.unusedSimpArgs false
namespace Go.Proofs.YtghgmchgbhdldaaGreatDoor
open Go.RowKit
attribute [local go_sem ↓] Go.wp_at_zero Go.wp_at_succ

theorem xor_byte (a b : UInt8) : bits .xor .u8 (a.toNat : Int) (b.toNat : Int) = ((a ^^^ b).toNat : Int) := by
  rw [u8_xor_nat _ _ a.toNat_lt b.toNat_lt, UInt8.toNat_xor]
theorem map_set8 (l : List UInt8) (i : Nat) (x : UInt8) : (l.map B8).set i (B8 x) = (l.set i x).map B8 := by rw [List.map_set]

/-- Bytes in a block of their own. -/
def BNew (w : World) (l : List UInt8) (e : Ending) (w' : World) : Prop := ∃ g, e = .returned (.slice (some ⟨g, 0, none⟩) l.length l.length) ∧ w.heap.size ≤ g ∧ Blk w' g 5 (l.map B8) ∧ Keeps [] w w'

set_option maxRecDepth 100000 in
set_option maxHeartbeats 2000000 in
theorem bsum_calls {w : World} {v : Value} {L : List (List UInt8)} (hv : RdL w v L) (size : Nat) (hsz : size ≤ 16) (hs1 : 1 ≤ size) (hL : ∀ x ∈ L, x.length = size) (hL1 : 1 ≤ L.length) (hL2 : L.length ≤ 1000000) :
    Calls Tryz.prog 38 #[v] w (BNew w (bsum size L)) := by
  obtain ⟨a, c, rfl, _, _, hrd, _⟩ := hv
  have hmk := fun w => make_u8 size size (Nat.le_refl _) (by omega) w
  have Hrd := Lib.hid hrd
  have HL := Lib.hid hL
  clear hrd hL
  go_enter Tryz.func38, Tryz.ntmps38
  go_wp2_with fail
  go_loopw [3, 10] (fun o i wr => ∃ k : Nat, k ≤ L.length ∧ i = .int .i64 k ∧ (if k = 0 then o = .slice none 0 0 else ∃ g, o = .slice (some ⟨g, 0, none⟩) size size ∧ w.heap.size ≤ g ∧ Blk wr g 5 ((bsum size (L.take k)).map B8)) ∧ Keeps [] w wr) (fun _ i _ => L.length - (intOf i).toNat)
  case atStart => exact ⟨0, Nat.zero_le _, rfl, rfl, Keeps.refl _ _⟩
  case round =>
    obtain ⟨k, hk, rfl, ho, hK⟩ := hrel
    by_cases hlt : k < L.length
    · obtain ⟨g0, u, rfl, hc0, hru⟩ := Hrd.out k L[k] (List.getElem?_eq_getElem hlt)
      have hbl := HL.out L[k] (List.getElem_mem hlt)
      have hcr := hK.cell0 hc0
      have hsn : bsum size (L.take (k + 1)) = xorL (bsum size (L.take k)) L[k] := by rw [List.take_add_one, List.getElem?_eq_getElem hlt]; exact bsum_snoc _ _ _
      have hAl : (bsum size (L.take k)).length = size := bsum_len (zer_len _) (fun x hx => HL.out x (List.mem_of_mem_take hx))
      have hA0 : k = 0 → bsum size (L.take k) = zer size := fun h => by subst h; rfl
      generalize L[k] = b at *
      generalize hA : bsum size (L.take k) = A at *
      obtain ⟨ab, cb, rfl, b1, b2, b3, _, _⟩ := hru
      rw [hbl] at b1 hcr
      have HRd := Lib.hid b3
      have Hsn := Lib.hid hsn
      have HA := Lib.hid hAl
      have hkn : (k : Int) < (L.length : Int) := by omega
      clear hc0 b3 hsn hA
      by_cases hk0 : k = 0
      · rw [if_pos hk0] at ho
        subst ho
        have hAz := hA0 hk0
        clear hA0
        have HG := Lib.hid (show Blk (wr.alloc (.cells (zeros size) 5)) wr.heap.size 5 ((xorTo A b 0).map B8) from by
          have := Blk.newA wr 5 (zeros size)
          rw [xorTo_zero, hAz]
          simpa [zeros, zer] using this)
        have HKK := Lib.hid (hK.alloc (.cells (zeros size) 5))
        have HGb := Lib.hid hK.size
        clear hK hAz
        obtain ⟨wg, hwg⟩ : ∃ wg, wg = wr.heap.size := ⟨_, rfl⟩
        rw [← hwg] at HG HGb
        subst hk0
        go_wp2_with fail
        rw [← hwg]
        generalize wr.alloc (.cells (zeros size) 5) = wr1 at *
        clear hwg
        go_loopw [27] (fun i wx => ∃ j : Nat, j ≤ size ∧ i = .int .i64 j ∧ Blk wx wg 5 ((xorTo A b j).map B8) ∧ Keeps [] w wx) (fun i _ => size - (intOf i).toNat)
        case atStart => exact ⟨0, Nat.zero_le _, rfl, HG.out, HKK.out⟩
        case round =>
          clear HG HKK
          obtain ⟨j, hj, rfl, hG, hKj⟩ := hrel
          by_cases hjl : j < size
          · obtain ⟨bb, oo, rfl, cb⟩ := (HRd.out.keepsNil hKj) j (b.getD j 0) (by rw [List.getD_eq_getElem?_getD, List.getElem?_eq_getElem (by omega)]; rfl)
            have hgt := xorTo_getD (a := A) (b := b) (by omega) (k := j) (by omega)
            have hset := xorTo_set (a := A) (b := b) (by omega) (k := j) (by omega)
            rw [hgt] at hset
            have cg : wr.cell? ⟨wg, j, none⟩ = some (B8 (A.getD j 0)) := hG.cell' (by
              rw [List.getElem?_map, List.getElem?_eq_getElem (by rw [xorTo_len (by omega)]; omega)]
              rw [List.getD_eq_getElem?_getD, List.getElem?_eq_getElem (by rw [xorTo_len (by omega)]; omega)] at hgt
              rw [← hgt]; rfl)
            have fr := hG.frozen j
            have hS := hG.set j (B8 (A.getD j 0 ^^^ b.getD j 0))
            rw [map_set8, hset] at hS
            have hx8 := xor_byte (A.getD j 0) (b.getD j 0)
            have HS := Lib.hid hS
            have HKj := Lib.hid (hKj.setCell (p := ⟨wg, j, none⟩) (.inr HGb.out) (B8 (A.getD j 0 ^^^ b.getD j 0)))
            have hji : (j : Int) < (size : Int) := by omega
            clear hgt hset hS hG hKj
            generalize A.getD j 0 = x at *
            generalize b.getD j 0 = y at *
            go_wp2_with fail
            go_roundw
            case rel => exact ⟨j + 1, by omega, by go_num, HS.out, HKj.out⟩
            case measure => simp [intOf]; omega
          · obtain rfl : j = size := by omega
            rw [show xorTo A b j = xorL A b from by have := xorTo_all (a := A) (b := b) (by omega); rwa [HA.out] at this] at hG
            have HG := Lib.hid hG
            have HKj := Lib.hid hKj
            clear hG hKj
            go_wp2_with fail
            go_roundw
            case rel => exact ⟨0 + 1, by omega, by go_num, by rw [if_neg (by omega)]; exact ⟨wg, rfl, HGb.out, by rw [Hsn.out]; exact HG.out⟩, HKj.out⟩
            case measure => simp [intOf]; omega
      · rw [if_neg hk0] at ho
        obtain ⟨wg, rfl, hgb, hGb⟩ := ho
        have HG := Lib.hid (show Blk wr wg 5 ((xorTo A b 0).map B8) from by rw [xorTo_zero]; exact hGb)
        have HKK := Lib.hid hK
        have HGb := Lib.hid hgb
        have hkz : ¬ (k : Int) = 0 := by omega
        clear hK hGb hA0 hgb
        go_wp2_with fail
        go_loopw [27] (fun i wx => ∃ j : Nat, j ≤ size ∧ i = .int .i64 j ∧ Blk wx wg 5 ((xorTo A b j).map B8) ∧ Keeps [] w wx) (fun i _ => size - (intOf i).toNat)
        case atStart => exact ⟨0, Nat.zero_le _, rfl, HG.out, HKK.out⟩
        case round =>
          clear HG HKK
          obtain ⟨j, hj, rfl, hG, hKj⟩ := hrel
          by_cases hjl : j < size
          · obtain ⟨bb, oo, rfl, cb⟩ := (HRd.out.keepsNil hKj) j (b.getD j 0) (by rw [List.getD_eq_getElem?_getD, List.getElem?_eq_getElem (by omega)]; rfl)
            have hgt := xorTo_getD (a := A) (b := b) (by omega) (k := j) (by omega)
            have hset := xorTo_set (a := A) (b := b) (by omega) (k := j) (by omega)
            rw [hgt] at hset
            have cg : wr.cell? ⟨wg, j, none⟩ = some (B8 (A.getD j 0)) := hG.cell' (by
              rw [List.getElem?_map, List.getElem?_eq_getElem (by rw [xorTo_len (by omega)]; omega)]
              rw [List.getD_eq_getElem?_getD, List.getElem?_eq_getElem (by rw [xorTo_len (by omega)]; omega)] at hgt
              rw [← hgt]; rfl)
            have fr := hG.frozen j
            have hS := hG.set j (B8 (A.getD j 0 ^^^ b.getD j 0))
            rw [map_set8, hset] at hS
            have hx8 := xor_byte (A.getD j 0) (b.getD j 0)
            have HS := Lib.hid hS
            have HKj := Lib.hid (hKj.setCell (p := ⟨wg, j, none⟩) (.inr HGb.out) (B8 (A.getD j 0 ^^^ b.getD j 0)))
            have hji : (j : Int) < (size : Int) := by omega
            clear hgt hset hS hG hKj
            generalize A.getD j 0 = x at *
            generalize b.getD j 0 = y at *
            go_wp2_with fail
            go_roundw
            case rel => exact ⟨j + 1, by omega, by go_num, HS.out, HKj.out⟩
            case measure => simp [intOf]; omega
          · obtain rfl : j = size := by omega
            rw [show xorTo A b j = xorL A b from by have := xorTo_all (a := A) (b := b) (by omega); rwa [HA.out] at this] at hG
            have HG := Lib.hid hG
            have HKj := Lib.hid hKj
            clear hG hKj
            go_wp2_with fail
            go_roundw
            case rel => exact ⟨k + 1, by omega, by go_num, by rw [if_neg (by omega)]; exact ⟨wg, rfl, HGb.out, by rw [Hsn.out]; exact HG.out⟩, HKj.out⟩
            case measure => simp [intOf]; omega
    · obtain rfl : k = L.length := by omega
      rw [if_neg (by omega), List.take_length] at ho
      obtain ⟨g, rfl, hg, hG⟩ := ho
      have hlen : (bsum size L).length = size := bsum_len (zer_len _) HL.out
      have HK := Lib.hid hK
      have HG := Lib.hid hG
      have Hlen := Lib.hid hlen
      clear hK hG hlen
      go_wp2_with fail
      go_ret
      exact ⟨g, by rw [Hlen.out]; rfl, hg, HG.out, HK.out⟩

end Go.Proofs.YtghgmchgbhdldaaGreatDoor
