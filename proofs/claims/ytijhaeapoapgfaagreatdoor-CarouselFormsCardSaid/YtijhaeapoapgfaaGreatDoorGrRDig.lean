/-
  GrRDig: the texts RDig, one behind another.
-/
import Derived.Test.YtijhaeapoapgfaaGreatDoorGrSha2
import Derived.Test.YtijhaeapoapgfaaGreatDoorGrSha4
import Derived.Test.YtijhaeapoapgfaaGreatDoorGrFrameV
set_option linter.unusedVariables false
set_option linter.unusedSimpArgs false
namespace Go.Proofs.YtijhaeapoapgfaaGreatDoor
open Go.RowKit
attribute [local go_sem ↓] Go.wp_at_zero Go.wp_at_succ

theorem fv_turn (vs : Array Value) (w : World) : Sem.run Tryz.prog (callFunc 45 vs) w = .ok (.enter 45 vs) w := by
  go_simp

theorem rch_int (e f g : UInt32) : bits .xor .u32 (bits .and .u32 (e.toNat : Int) (f.toNat : Int)) (bits .and .u32 (bits .xor .u32 IntKind.u32.max (e.toNat : Int)) (g.toNat : Int)) = (((e &&& f) ||| (~~~ e &&& g)).toNat : Int) := by
  rw [not32, and32, and32, xor32, ch_xor]
theorem rmj_int (a b c : UInt32) : bits .xor .u32 (bits .xor .u32 (bits .and .u32 (a.toNat : Int) (b.toNat : Int)) (bits .and .u32 (a.toNat : Int) (c.toNat : Int))) (bits .and .u32 (b.toNat : Int) (c.toNat : Int)) = ((((a &&& b) ||| (a &&& c)) ||| (b &&& c)).toNat : Int) := by
  rw [and32, and32, and32, xor32, xor32, mj_xor]

theorem rturnL {w : World} (x : UInt32) (n : Nat) (hn : n ∈ rotArgs) (z : Int) (hz : z = (n : Int)) :
    Calls Tryz.prog 45 #[B32 x, .int .u64 z] w fun e w' => e = .returned (B32 (rotr n x)) ∧ w = w' := by
  subst hz; exact rturn_calls x n hn

theorem rnew_int (x2 x7 x15 x16 : UInt32) : (((((x16.toNat : Int) + bits .xor .u32 (bits .xor .u32 ((rotr 7 x15).toNat : Int) ((rotr 18 x15).toNat : Int)) ((x15.toNat : Int) / (8 : Int))) % (4294967296 : Int) + (x7.toNat : Int)) % (4294967296 : Int) + bits .xor .u32 (bits .xor .u32 ((rotr 17 x2).toNat : Int) ((rotr 19 x2).toNat : Int)) ((x2.toNat : Int) / (1024 : Int))) % (4294967296 : Int)) = ((x16 + sgB x15 + x7 + sgA x2).toNat : Int) := by
  rw [shr10, shr3, xor32, xor32, xor32, xor32, add32, add32, add32]
  rfl

set_option maxRecDepth 100000 in
set_option maxHeartbeats 8000000 in
theorem rdigest_calls {w : World} (a : Option Addr) (n c : Nat) (l : List UInt8) (hl : Rd w a l) (hn : l.length = n) (hm : n ≤ 70368744177664) (h0 : a = none → n = 0 ∧ c = 0) :
    Calls Tryz.prog 10 #[.slice a n c] w (ClonePost w (sha l)) := by
  subst hn
  have hszS : (Tryz.prog.info? 78).map (·.size) = some 8 := by kernel_rfl
  have HsS := Lib.hid hszS
  have hszW : (Tryz.prog.info? 79).map (·.size) = some 64 := by kernel_rfl
  have HsW := Lib.hid hszW
  clear hszS hszW
  have HF := Lib.hid (show filled l = l ++ 128 :: List.replicate (padN l.length) 0 ++ bits8 l.length from rfl)
  have hp64 : padN l.length < 64 := by unfold padN; omega
  have Hl := Lib.hid hl
  have H0 := Lib.hid h0
  clear hl h0
  go_enter Tryz.func10, Tryz.ntmps10
  go_upto_region 1 with (fail)
  apply wp_region_lit
  iterate 6 go_step
  have hX : Blk (w.alloc (.cells #[.int .u32 0, .int .u32 0, .int .u32 0, .int .u32 0, .int .u32 0, .int .u32 0, .int .u32 0, .int .u32 0] 78)) w.heap.size 78 ((List.replicate 8 (0 : UInt32)).map B32) := Blk.newA w 78 #[.int .u32 0, .int .u32 0, .int .u32 0, .int .u32 0, .int .u32 0, .int .u32 0, .int .u32 0, .int .u32 0]
  refine wpList_store_mid rfl 78 (.tmp 3) (.tmp 20) rfl w.heap.size 0 St.first.cells.toArray (by rfl) (by rfl) (hX.there _ rfl) HsS.out (all_oneCell_toArray (all_one _)) ?_
  simp only [Act.put]
  have hX2 := hX.setCells (cs := St.first.cells) rfl
  have hKX : Keeps [] w ((w.alloc (.cells #[.int .u32 0, .int .u32 0, .int .u32 0, .int .u32 0, .int .u32 0, .int .u32 0, .int .u32 0, .int .u32 0] 78)).setCells w.heap.size 0 St.first.cells) := Keeps.setCellsNew (S := []) (b := w.heap.size) (Nat.le_refl _) St.first.cells 0 _ ((Keeps.refl [] w).alloc _)
  generalize ((w.alloc (.cells #[.int .u32 0, .int .u32 0, .int .u32 0, .int .u32 0, .int .u32 0, .int .u32 0, .int .u32 0, .int .u32 0] 78)).setCells w.heap.size 0 St.first.cells) = w2 at *
  generalize hXX : w.heap.size = X at *
  have HXX := Lib.hid hXX
  clear hX hXX
  go_wp2_with fail
  refine rtable_calls.mono ?_
  rintro e w3 ⟨rfl, hk3⟩
  replace hX2 := hX2.keeps hk3 (by simp)
  have hK3 := hKX.trans hk3
  have hlx := hX2.lt
  clear hKX hk3
  dsimp only
  go_step
  go_step
  go_step
  go_step
  have hT : Blk (w3.alloc (.cells #[.int .u32 0, .int .u32 0, .int .u32 0, .int .u32 0, .int .u32 0, .int .u32 0, .int .u32 0, .int .u32 0, .int .u32 0, .int .u32 0, .int .u32 0, .int .u32 0, .int .u32 0, .int .u32 0, .int .u32 0, .int .u32 0, .int .u32 0, .int .u32 0, .int .u32 0, .int .u32 0, .int .u32 0, .int .u32 0, .int .u32 0, .int .u32 0, .int .u32 0, .int .u32 0, .int .u32 0, .int .u32 0, .int .u32 0, .int .u32 0, .int .u32 0, .int .u32 0, .int .u32 0, .int .u32 0, .int .u32 0, .int .u32 0, .int .u32 0, .int .u32 0, .int .u32 0, .int .u32 0, .int .u32 0, .int .u32 0, .int .u32 0, .int .u32 0, .int .u32 0, .int .u32 0, .int .u32 0, .int .u32 0, .int .u32 0, .int .u32 0, .int .u32 0, .int .u32 0, .int .u32 0, .int .u32 0, .int .u32 0, .int .u32 0, .int .u32 0, .int .u32 0, .int .u32 0, .int .u32 0, .int .u32 0, .int .u32 0, .int .u32 0, .int .u32 0] 79)) w3.heap.size 79 ((List.replicate 64 (0 : UInt32)).map B32) := Blk.newA w3 79 #[.int .u32 0, .int .u32 0, .int .u32 0, .int .u32 0, .int .u32 0, .int .u32 0, .int .u32 0, .int .u32 0, .int .u32 0, .int .u32 0, .int .u32 0, .int .u32 0, .int .u32 0, .int .u32 0, .int .u32 0, .int .u32 0, .int .u32 0, .int .u32 0, .int .u32 0, .int .u32 0, .int .u32 0, .int .u32 0, .int .u32 0, .int .u32 0, .int .u32 0, .int .u32 0, .int .u32 0, .int .u32 0, .int .u32 0, .int .u32 0, .int .u32 0, .int .u32 0, .int .u32 0, .int .u32 0, .int .u32 0, .int .u32 0, .int .u32 0, .int .u32 0, .int .u32 0, .int .u32 0, .int .u32 0, .int .u32 0, .int .u32 0, .int .u32 0, .int .u32 0, .int .u32 0, .int .u32 0, .int .u32 0, .int .u32 0, .int .u32 0, .int .u32 0, .int .u32 0, .int .u32 0, .int .u32 0, .int .u32 0, .int .u32 0, .int .u32 0, .int .u32 0, .int .u32 0, .int .u32 0, .int .u32 0, .int .u32 0, .int .u32 0, .int .u32 0]
  have hKl : (shaK.map B32).length = 64 := by rw [List.length_map]; exact shaK_len
  refine wpList_store_mid rfl 79 (.tmp 4) (.tmp 21) rfl w3.heap.size 0 (shaK.map B32).toArray (by rfl) (by rfl) (hT.there _ (by rw [List.size_toArray, hKl]; rfl)) (by rw [List.size_toArray, hKl]; exact HsW.out) (all_oneCell_toArray (all_one _)) ?_
  simp only [Act.put]
  have hT2 := hT.setCells (cs := shaK.map B32) (by rw [hKl]; rfl)
  have hKT : Keeps [] w3 ((w3.alloc (.cells #[.int .u32 0, .int .u32 0, .int .u32 0, .int .u32 0, .int .u32 0, .int .u32 0, .int .u32 0, .int .u32 0, .int .u32 0, .int .u32 0, .int .u32 0, .int .u32 0, .int .u32 0, .int .u32 0, .int .u32 0, .int .u32 0, .int .u32 0, .int .u32 0, .int .u32 0, .int .u32 0, .int .u32 0, .int .u32 0, .int .u32 0, .int .u32 0, .int .u32 0, .int .u32 0, .int .u32 0, .int .u32 0, .int .u32 0, .int .u32 0, .int .u32 0, .int .u32 0, .int .u32 0, .int .u32 0, .int .u32 0, .int .u32 0, .int .u32 0, .int .u32 0, .int .u32 0, .int .u32 0, .int .u32 0, .int .u32 0, .int .u32 0, .int .u32 0, .int .u32 0, .int .u32 0, .int .u32 0, .int .u32 0, .int .u32 0, .int .u32 0, .int .u32 0, .int .u32 0, .int .u32 0, .int .u32 0, .int .u32 0, .int .u32 0, .int .u32 0, .int .u32 0, .int .u32 0, .int .u32 0, .int .u32 0, .int .u32 0, .int .u32 0, .int .u32 0] 79)).setCells w3.heap.size 0 (shaK.map B32)) := Keeps.setCellsNew (S := []) (b := w3.heap.size) (Nat.le_refl _) (shaK.map B32) 0 _ ((Keeps.refl [] w3).alloc _)
  generalize ((w3.alloc (.cells #[.int .u32 0, .int .u32 0, .int .u32 0, .int .u32 0, .int .u32 0, .int .u32 0, .int .u32 0, .int .u32 0, .int .u32 0, .int .u32 0, .int .u32 0, .int .u32 0, .int .u32 0, .int .u32 0, .int .u32 0, .int .u32 0, .int .u32 0, .int .u32 0, .int .u32 0, .int .u32 0, .int .u32 0, .int .u32 0, .int .u32 0, .int .u32 0, .int .u32 0, .int .u32 0, .int .u32 0, .int .u32 0, .int .u32 0, .int .u32 0, .int .u32 0, .int .u32 0, .int .u32 0, .int .u32 0, .int .u32 0, .int .u32 0, .int .u32 0, .int .u32 0, .int .u32 0, .int .u32 0, .int .u32 0, .int .u32 0, .int .u32 0, .int .u32 0, .int .u32 0, .int .u32 0, .int .u32 0, .int .u32 0, .int .u32 0, .int .u32 0, .int .u32 0, .int .u32 0, .int .u32 0, .int .u32 0, .int .u32 0, .int .u32 0, .int .u32 0, .int .u32 0, .int .u32 0, .int .u32 0, .int .u32 0, .int .u32 0, .int .u32 0, .int .u32 0] 79)).setCells w3.heap.size 0 (shaK.map B32)) = w4 at *
  replace hX2 := hX2.keeps hKT (by simp)
  have hK4 := hK3.trans hKT
  generalize w3.heap.size = T at *
  have hT4 := hT2.lt
  clear hT hKT hK3
  have HX2 := Lib.hid hX2
  have HT2 := Lib.hid hT2
  have HK4 := Lib.hid hK4
  clear hX2 hT2 hK4
  go_wp2_with (at_builtin; first | (refine wpList_append_bytes rfl _ _ rfl (Own.nil w4 w4.heap.size) rfl a l.length c rfl (Hl.out.keepsNil HK4.out) rfl H0.out (by simp; omega) (Nat.le_refl _) ?_; intro v1 w1 hO1 hG1 hB1; have hK1 : Keeps [] w4 w1 := (Keeps.refl [] w4).grown hG1 (by simp [Value.ownBlock]); have hs1 := hK1.size) | ((refine wpList_append_bytes rfl _ _ rfl (hO1.keeps ((Keeps.refl [] w1).alloc _) (by simp)) rfl _ 1 1 rfl (Rd.lit w1 _ _ [128] rfl) rfl (by simp) (by simp; omega) (by simp; omega) ?_); intro v2 w5 hO2 hG2 hB2))
  have hK2 : Keeps [] w4 w5 := (hK1.alloc _).grown hG2 (fun y hy => .inr (hO1.ne_lt y hy))
  simp only [List.nil_append] at hO2
  clear hO1 hG1 hB1 hK1 hG2 hB2
  go_loopw [6] (fun v wr => ∃ j : Nat, j ≤ padN l.length ∧ Own wr w4.heap.size v (l ++ 128 :: List.replicate j 0) ∧ Keeps [] w4 wr) (fun v _ => l.length + 100 - slLen v)
  case atStart => exact ⟨0, Nat.zero_le _, hO2, hK2⟩
  case round =>
    clear hO2 hK2
    obtain ⟨j, hj, hO, hK⟩ := hrel
    have hs := hK.size
    have hlen : (l ++ 128 :: List.replicate j (0 : UInt8)).length = l.length + 1 + j := by simp; omega
    have hO' := hO
    obtain ⟨a3, c3, rfl, _⟩ := hO'.cap
    rw [hlen] at hO ⊢
    by_cases hlt : j < padN l.length
    · have hne : ¬ ((l.length + 1 + j) % 64 = 56) := fun h => by have := padN_least l.length j h (by omega); omega
      have hd : (((l.length + 1 + j : Nat) : Int) % 64 == 56) = false := by rw [beq_eq_false_iff_ne]; omega
      have hl2 : l.length + 1 + j ≤ 140737488355000 := by omega
      have hnx : l ++ 128 :: List.replicate (j + 1) (0 : UInt8) = (l ++ 128 :: List.replicate j 0) ++ [0] := by rw [List.replicate_succ']; simp
      have hlt1 : (l ++ 128 :: List.replicate j (0 : UInt8)).length + 1 ≤ 140737488351232 := by rw [hlen]; omega
      have HO := Lib.hid hO
      generalize hM : l.length + 1 + j = M at *
      clear hO hO' hne
      go_wp2_with (at_builtin; (refine wpList_append_bytes rfl _ _ rfl (HO.out.keeps ((Keeps.refl [] wr).alloc _) (by simp)) rfl _ 1 1 rfl (Rd.lit wr _ _ [0] rfl) rfl (by simp) hlt1 (by simp; omega) ?_); intro v2 w5 hO2 hG2 hB2)
      rw [← hnx] at hO2
      have hK2 : Keeps [] w4 w5 := (hK.alloc _).grown hG2 (fun y hy => .inr (HO.out.ne_lt y hy))
      have hO2' := hO2
      obtain ⟨a4, c4, rfl, _⟩ := hO2'.cap
      go_roundw
      case rel => exact ⟨j + 1, by omega, hO2, hK2⟩
      case measure =>
        show l.length + 100 - (l ++ 128 :: List.replicate (j + 1) (0 : UInt8)).length < l.length + 100 - M
        simp
        omega
    · obtain rfl : j = padN l.length := by omega
      have hmod := padN_mod l.length
      have hd : (((l.length + 1 + padN l.length : Nat) : Int) % 64 == 56) = true := by rw [beq_iff_eq]; omega
      have HO := Lib.hid hO
      generalize hLL : l ++ 128 :: List.replicate (padN l.length) (0 : UInt8) = L0 at *
      have hL2 : L0.length ≤ 70368744180000 := by rw [hlen]; omega
      have hL0 : L0.length = l.length + 1 + padN l.length := hlen
      have HL0 := Lib.hid hL0
      generalize hMM : l.length + 1 + padN l.length = M at *
      have HK := Lib.hid hK
      have hsT : T < w4.heap.size := hT4
      generalize hB4 : w4.heap.size = B4 at *
      have HB4 := Lib.hid hB4
      clear hO hO' hmod hMM hlen hK hL0 hB4
      go_wp2_with fail
      rw [size_hi l.length hm _ rfl]
      refine (four_calls _).mono ?_
      rintro e w6 ⟨v6, rfl, hO6, hk6⟩
      generalize hMH : UInt32.ofNat (l.length * 8 / 4294967296) = MH at *
      have HMH := Lib.hid hMH
      clear hMH
      have HO6 := Lib.hid (HO.out.keeps hk6 (by simp))
      have HK6 := Lib.hid (HK.out.trans hk6)
      have hs6 : B4 ≤ w6.heap.size := by have := HK6.out.size; have := HB4.out; omega
      obtain ⟨a6, c6, rfl, q61, q62, q63, q64, q65⟩ := hO6.sl
      have hb6 : (be4 MH).length = 4 := rfl
      rw [hb6] at q61
      clear hO6 hk6 hb6
      go_wp2_with (at_builtin; (refine wpList_append_bytes rfl _ _ rfl HO6.out rfl a6 4 c6 rfl q63 rfl (fun h => ⟨by have := (q64 h).1; simp [be4] at this, (q64 h).2⟩) (by simp [be4]; omega) (by omega) ?_); intro v7 w7 hO7 hG7 hB7)
      have HK7 := Lib.hid (HK6.out.grown hG7 (fun y hy => .inr (by have := HO6.out.ne_lt y hy; have := HB4.out; omega)))
      have HO7 := Lib.hid hO7
      clear hO7 hG7 hB7 q61 q62 q63 q64 q65
      rw [size_lo l.length _ rfl]
      refine (four_calls _).mono ?_
      rintro e w8 ⟨v8, rfl, hO8, hk8⟩
      generalize hML : UInt32.ofNat (l.length * 8) = ML at *
      have HML := Lib.hid hML
      clear hML
      have HO8 := Lib.hid (HO7.out.keeps hk8 (by simp))
      have HK8 := Lib.hid (HK7.out.trans hk8)
      have hs8 : B4 ≤ w8.heap.size := by have := HK8.out.size; have := HB4.out; omega
      obtain ⟨a8, c8, rfl, q81, q82, q83, q84, q85⟩ := hO8.sl
      have hb8 : (be4 ML).length = 4 := rfl
      rw [hb8] at q81
      clear hO8 hk8 hb8
      go_wp2_with (at_builtin; (refine wpList_append_bytes rfl _ _ rfl HO8.out rfl a8 4 c8 rfl q83 rfl (fun h => ⟨by have := (q84 h).1; simp [be4] at this, (q84 h).2⟩) (by simp [be4]; omega) (by omega) ?_); intro v9 w9 hO9 hG9 hB9)
      have hK9 := HK8.out.grown hG9 (fun y hy => .inr (by have := HO8.out.ne_lt y hy; have := HB4.out; omega))
      have hfil : filled l = L0 ++ be4 MH ++ be4 ML := by rw [HF.out, ← HMH.out, ← HML.out, bits8_four, List.append_assoc]
      rw [← hfil] at hO9
      have hX9 := HX2.out.keeps hK9 (by simp)
      have hT9 := HT2.out.keeps hK9 (by simp)
      have hKw := HK4.out.trans hK9
      have hmod := filled_mod l
      have hle := filled_le l
      have hsha : sha l = (stBlocks (filled l) ((filled l).length / 64)).bytes := rfl
      have hz : stBlocks (filled l) 0 = St.first := rfl
      generalize filled l = L at *
      have Hsha := Lib.hid hsha
      have hS9 := hO9.sl.mono (B' := T + 1) (by omega)
      obtain ⟨a9, c9, rfl, _⟩ := hO9.cap
      obtain ⟨y9, y9', hy9, hcl9, hcm9, _⟩ := hO9.cap
      simp only [Value.slice.injEq] at hy9
      obtain ⟨rfl, _, rfl⟩ := hy9
      have HS9 := Lib.hid hS9
      have hXT : X < T := hlx
      clear hO9 hG9 hB9 q81 q82 q83 q84 q85 hsha hfil hS9 HO8 HO7 HO6 HK8 HK7 HK6 HMH HML hK9 hd hp64 hL2 hj HO HK hs HF HX2 HT2 HK4
      go_wp2_with fail
      go_loopw [7] (fun i wr => ∃ k : Nat, 64 * k ≤ L.length ∧ i = .int .i64 ((64 * k : Nat) : Int) ∧ Sl wr (T + 1) (.slice a9 L.length c9) L ∧ Blk wr X 78 (stBlocks L k).cells ∧ Blk wr T 79 (shaK.map B32) ∧ Keeps [] w wr) (fun i _ => L.length - (intOf i).toNat)
      case atStart => exact ⟨0, by omega, rfl, HS9.out, by rw [hz]; exact hX9, hT9, hKw⟩
      case round =>
        clear hX9 hT9 hKw HS9 hz
        obtain ⟨k, hk, rfl, hS, hX, hT, hK⟩ := hrel
        by_cases hlt : 64 * k < L.length
        · have hk64 : 64 * k + 64 ≤ L.length := by omega
          have hst := stBlocks_succ L k
          have hDl : ((L.drop (64 * k)).take 64).length = 64 := by rw [List.length_take, List.length_drop]; omega
          have hD4 : ∀ i, i < 16 → (((L.drop (64 * k)).take 64).drop (4 * i)).take 4 = (L.drop (64 * k + 4 * i)).take 4 := fun i hi => by
            rw [List.drop_take, List.take_take, List.drop_drop, Nat.min_eq_left (by omega)]
          generalize hDD : (L.drop (64 * k)).take 64 = D at *
          generalize stBlocks L k = s at *
          have Hst := Lib.hid hst
          have HD4 := Lib.hid hD4
          have HDl := Lib.hid hDl
          have HS := Lib.hid hS
          have HX := Lib.hid hX
          have HT := Lib.hid hT
          have HK := Lib.hid hK
          have hlxr := hX.lt
          have hltr := hT.lt
          clear hst hD4 hDl hS hX hT hK hDD Hsha
          go_wp2_with fail
          have hdk : decide ((64 : Int) * (k : Int) < (L.length : Int)) = true := by rw [decide_eq_true_iff]; omega
          rw [hdk]
          clear hdk
          have hW0 : Blk (wr.alloc (.cells #[.int .u32 0, .int .u32 0, .int .u32 0, .int .u32 0, .int .u32 0, .int .u32 0, .int .u32 0, .int .u32 0, .int .u32 0, .int .u32 0, .int .u32 0, .int .u32 0, .int .u32 0, .int .u32 0, .int .u32 0, .int .u32 0, .int .u32 0, .int .u32 0, .int .u32 0, .int .u32 0, .int .u32 0, .int .u32 0, .int .u32 0, .int .u32 0, .int .u32 0, .int .u32 0, .int .u32 0, .int .u32 0, .int .u32 0, .int .u32 0, .int .u32 0, .int .u32 0, .int .u32 0, .int .u32 0, .int .u32 0, .int .u32 0, .int .u32 0, .int .u32 0, .int .u32 0, .int .u32 0, .int .u32 0, .int .u32 0, .int .u32 0, .int .u32 0, .int .u32 0, .int .u32 0, .int .u32 0, .int .u32 0, .int .u32 0, .int .u32 0, .int .u32 0, .int .u32 0, .int .u32 0, .int .u32 0, .int .u32 0, .int .u32 0, .int .u32 0, .int .u32 0, .int .u32 0, .int .u32 0, .int .u32 0, .int .u32 0, .int .u32 0, .int .u32 0] 79)) wr.heap.size 79 ((rW D 0).map B32) := by rw [rW_zero]; exact Blk.newA wr 79 #[.int .u32 0, .int .u32 0, .int .u32 0, .int .u32 0, .int .u32 0, .int .u32 0, .int .u32 0, .int .u32 0, .int .u32 0, .int .u32 0, .int .u32 0, .int .u32 0, .int .u32 0, .int .u32 0, .int .u32 0, .int .u32 0, .int .u32 0, .int .u32 0, .int .u32 0, .int .u32 0, .int .u32 0, .int .u32 0, .int .u32 0, .int .u32 0, .int .u32 0, .int .u32 0, .int .u32 0, .int .u32 0, .int .u32 0, .int .u32 0, .int .u32 0, .int .u32 0, .int .u32 0, .int .u32 0, .int .u32 0, .int .u32 0, .int .u32 0, .int .u32 0, .int .u32 0, .int .u32 0, .int .u32 0, .int .u32 0, .int .u32 0, .int .u32 0, .int .u32 0, .int .u32 0, .int .u32 0, .int .u32 0, .int .u32 0, .int .u32 0, .int .u32 0, .int .u32 0, .int .u32 0, .int .u32 0, .int .u32 0, .int .u32 0, .int .u32 0, .int .u32 0, .int .u32 0, .int .u32 0, .int .u32 0, .int .u32 0, .int .u32 0, .int .u32 0]
          have hK0 := (Keeps.refl [] wr).alloc (.cells #[.int .u32 0, .int .u32 0, .int .u32 0, .int .u32 0, .int .u32 0, .int .u32 0, .int .u32 0, .int .u32 0, .int .u32 0, .int .u32 0, .int .u32 0, .int .u32 0, .int .u32 0, .int .u32 0, .int .u32 0, .int .u32 0, .int .u32 0, .int .u32 0, .int .u32 0, .int .u32 0, .int .u32 0, .int .u32 0, .int .u32 0, .int .u32 0, .int .u32 0, .int .u32 0, .int .u32 0, .int .u32 0, .int .u32 0, .int .u32 0, .int .u32 0, .int .u32 0, .int .u32 0, .int .u32 0, .int .u32 0, .int .u32 0, .int .u32 0, .int .u32 0, .int .u32 0, .int .u32 0, .int .u32 0, .int .u32 0, .int .u32 0, .int .u32 0, .int .u32 0, .int .u32 0, .int .u32 0, .int .u32 0, .int .u32 0, .int .u32 0, .int .u32 0, .int .u32 0, .int .u32 0, .int .u32 0, .int .u32 0, .int .u32 0, .int .u32 0, .int .u32 0, .int .u32 0, .int .u32 0, .int .u32 0, .int .u32 0, .int .u32 0, .int .u32 0] 79)
          generalize wr.alloc (.cells #[.int .u32 0, .int .u32 0, .int .u32 0, .int .u32 0, .int .u32 0, .int .u32 0, .int .u32 0, .int .u32 0, .int .u32 0, .int .u32 0, .int .u32 0, .int .u32 0, .int .u32 0, .int .u32 0, .int .u32 0, .int .u32 0, .int .u32 0, .int .u32 0, .int .u32 0, .int .u32 0, .int .u32 0, .int .u32 0, .int .u32 0, .int .u32 0, .int .u32 0, .int .u32 0, .int .u32 0, .int .u32 0, .int .u32 0, .int .u32 0, .int .u32 0, .int .u32 0, .int .u32 0, .int .u32 0, .int .u32 0, .int .u32 0, .int .u32 0, .int .u32 0, .int .u32 0, .int .u32 0, .int .u32 0, .int .u32 0, .int .u32 0, .int .u32 0, .int .u32 0, .int .u32 0, .int .u32 0, .int .u32 0, .int .u32 0, .int .u32 0, .int .u32 0, .int .u32 0, .int .u32 0, .int .u32 0, .int .u32 0, .int .u32 0, .int .u32 0, .int .u32 0, .int .u32 0, .int .u32 0, .int .u32 0, .int .u32 0, .int .u32 0, .int .u32 0] 79) = wa at *
          obtain ⟨wo, rfl⟩ : ∃ wo, wo = wr := ⟨wr, rfl⟩
          generalize hWW : wo.heap.size = W at *
          have HWW := Lib.hid hWW
          generalize hKK : 64 * k = KK at *
          have HKK := Lib.hid hKK
          clear hWW hKK
          go_loopw [53] (fun i wz => ∃ n : Nat, n ≤ 64 ∧ i = .int .i64 n ∧ Blk wz W 79 ((rW D n).map B32) ∧ Keeps [] wo wz) (fun i _ => 64 - (intOf i).toNat)
          case atStart => exact ⟨0, by omega, rfl, hW0, hK0⟩
          case round =>
            clear hW0 hK0
            obtain ⟨n, hn, rfl, hW, hKz⟩ := hrel
            by_cases h64 : n < 64
            · have hWl := rW_len D n
              by_cases h16 : n < 16
              · --L3L
                have hstep := rW_low D HDl.out n h16
                rw [HD4.out n h16] at hstep
                obtain ⟨m, hm⟩ : ∃ m, KK + 4 * n = m := ⟨_, rfl⟩
                rw [hm] at hstep
                have hSz := HS.out.keeps hKz (by simp)
                obtain ⟨a9', c9', he9, hs1, hs2, hs3, hs4, hs5⟩ := hSz
                simp only [Value.slice.injEq] at he9
                obtain ⟨rfl, _, rfl⟩ := he9
                have hnum := number_calls (w := wr) (a9.map fun x => x.add m) 4 (c9 - m) ((L.drop m).take 4) ((hs3.dropAdd m).take 4) (by rw [List.length_take, List.length_drop]; omega) (by omega)
                generalize numFold ((L.drop m).take 4) = x at *
                generalize rW D n = V at *
                have i0 : (KK : Int) + 4 * (n : Int) = (m : Int) := by omega
                have i1 : (0 : Int) ≤ (m : Int) := by omega
                have i2 : (m : Int) ≤ (m : Int) + 4 := by omega
                have i3 : (m : Int) + 4 ≤ (c9 : Int) := by omega
                have fW : wr.frozen? ⟨W, n, none⟩ = false := hW.frozen _
                have cW : wr.cell? ⟨W, n, none⟩ = some (B32 (V.getD n 0)) := hW.cell' (by rw [List.getElem?_map, List.getD, List.getElem?_eq_getElem (by omega)]; rfl)
                generalize V.getD n 0 = y at *
                have HN := Lib.hid hnum
                have HW := Lib.hid hW
                have HKz := Lib.hid hKz
                have Hstep := Lib.hid hstep
                clear hnum hW hKz hstep hm hs1 hs2 hs3 hs4 hs5 hWl hn
                go_wp2_with fail
                refine HN.out.mono ?_
                rintro e w' ⟨rfl, rfl⟩
                go_wp2_with fail
                go_roundw
                case rel =>
                  have R1 := Lib.hid (show Blk (wr.setCell ⟨W, n, none⟩ (B32 x)) W 79 ((rW D (n + 1)).map B32) from by rw [Hstep.out, List.map_set]; exact HW.out.set n _)
                  have R2 := Lib.hid (show Keeps [] wo (wr.setCell ⟨W, n, none⟩ (B32 x)) from HKz.out.setCell (.inr (Nat.le_of_eq HWW.out)) _)
                  first
                    | exact ⟨n + 1, by omega, by go_num, R1.out, R2.out⟩
                    | ((repeat apply Exists.intro); refine ⟨?_, rfl⟩; exact ⟨n + 1, by omega, by go_num, R1.out, R2.out⟩)
                case measure => simp [intOf]; omega
              --L3LE
              · --L3H
                have hstep := rW_high D n (by omega)
                rw [← wNew_ref] at hstep
                generalize rW D n = V at *
                have hcell : ∀ (wz : World), Blk wz W 79 (V.map B32) → ∀ m, m < 64 → wz.cell? ⟨W, m, none⟩ = some (B32 (V.getD m 0)) := fun wz hz m hm => by
                  refine hz.cell' ?_
                  rw [List.getElem?_map, List.getD, List.getElem?_eq_getElem (by omega)]; rfl
                obtain ⟨a2, ha2⟩ : ∃ a, n - 2 = a := ⟨_, rfl⟩
                obtain ⟨a7, ha7⟩ : ∃ a, n - 7 = a := ⟨_, rfl⟩
                obtain ⟨a15, ha15⟩ : ∃ a, n - 15 = a := ⟨_, rfl⟩
                obtain ⟨a16, ha16⟩ : ∃ a, n - 16 = a := ⟨_, rfl⟩
                rw [ha2, ha7, ha15, ha16] at hstep
                have k2 : (n : Int) - 2 = (a2 : Int) := by omega
                have k7 : (n : Int) - 7 = (a7 : Int) := by omega
                have k15 : (n : Int) - 15 = (a15 : Int) := by omega
                have k16 : (n : Int) - 16 = (a16 : Int) := by omega
                have b2 : (a2 : Int) < 64 := by omega
                have b7 : (a7 : Int) < 64 := by omega
                have b15 : (a15 : Int) < 64 := by omega
                have b16 : (a16 : Int) < 64 := by omega
                have bn : (n : Int) < 64 := by omega
                have wi : ∀ a : Nat, (a : Int) < 64 → IntKind.i64.wrap (a : Int) = (a : Int) := fun a ha => by rw [IntWalk.i64_left, IntWalk.wrap64_in _ (by omega)]
                have w2' := wi a2 b2
                have w7' := wi a7 b7
                have w15' := wi a15 b15
                have w16' := wi a16 b16
                clear wi
                have bn2 : (16 : Int) ≤ (n : Int) := by omega
                have c2 := hcell _ hW.drew a2 (by omega)
                have c15 := hcell _ hW.drew a15 (by omega)
                have c7 := hcell _ hW.drew.drew a7 (by omega)
                have c16 := hcell _ hW.drew.drew a16 (by omega)
                have hcn := hcell _ hW.drew.drew n (by omega)
                have hfn : wr.drew.drew.frozen? ⟨W, n, none⟩ = false := hW.drew.drew.frozen _
                have hne7 : a7 ≠ n := by omega
                have hne16 : a16 ≠ n := by omega
                generalize V.getD a2 0 = x2 at *
                generalize V.getD a7 0 = x7 at *
                generalize V.getD a15 0 = x15 at *
                generalize V.getD a16 0 = x16 at *
                generalize V.getD n 0 = xn at *
                have HS' := Lib.hid hstep
                have HW := Lib.hid hW
                have HKz := Lib.hid hKz
                have Hne7 := Lib.hid hne7
                have Hne16 := Lib.hid hne16
                have Hn := Lib.hid (show 16 ≤ n ∧ n < 64 from ⟨by omega, h64⟩)
                clear hstep hW hKz hcell ha2 ha7 ha15 ha16 hne7 hne16 hWl hn
                go_wp2_with fail
                refine wp_frame ?_
                intro A hA
                have hAz : A.tmps.size = 221 := by rw [hA]; rfl
                have hA8 : A.eval (.tmp 8) = (.pointer (some ⟨W, 0, none⟩)) := by rw [hA]; rfl
                have hA9 : A.eval (.tmp 9) = (.int .i64 (n : Int)) := by rw [hA]; rfl
                have HAA := Lib.hid hA
                clear hA
                refine wp_region_noPanic ?_
                refine wp_region_held_drew (S := (fun w' => w'.cell? ⟨W, a2, none⟩ = some (B32 x2) ∧ w'.cell? ⟨W, a15, none⟩ = some (B32 x15))) (by kernel_rfl) ⟨c2, c15⟩ (fun hHeld => ?_)
                refine wpAnyH_take (i := 0) (v := ?v1_1) rfl (by kernel_rfl) (by kernel_rfl) (by kernel_rfl) (fun _ _ _ h => h) (Or.inl ⟨by rfl, ?y1_1⟩) (by assumption) ?r1_1
                case y1_1 => (intro w hSw; (try dsimp only at hSw); (dsimp only [List.getElem_toArray, List.getElem_cons_zero, List.getElem_cons_succ]); (simp only [execOp, fv_const, fv_eq, fv_ne, fv_size, hAz, Nat.reduceLT, ne_eq, Nat.reduceEqDiff, not_false_eq_true, hA8, hA9]); go_simp; try with_reducible rfl)
                dsimp only [List.getElem_toArray, List.getElem_cons_zero, List.getElem_cons_succ]
                refine wpAnyH_take (i := 1) (v := ?v1_2) rfl (by kernel_rfl) (by kernel_rfl) (by kernel_rfl) (fun _ _ _ h => h) (Or.inl ⟨by rfl, ?y1_2⟩) (by assumption) ?r1_2
                case y1_2 => (intro w hSw; (try dsimp only at hSw); (dsimp only [List.getElem_toArray, List.getElem_cons_zero, List.getElem_cons_succ]); (simp only [execOp, fv_const, fv_eq, fv_ne, fv_size, hAz, Nat.reduceLT, ne_eq, Nat.reduceEqDiff, not_false_eq_true, hA8, hA9]); go_simp; try with_reducible rfl)
                dsimp only [List.getElem_toArray, List.getElem_cons_zero, List.getElem_cons_succ]
                refine wpAnyH_take (i := 2) (v := ?v1_3) rfl (by kernel_rfl) (by kernel_rfl) (by kernel_rfl) (fun _ _ _ h => h) (Or.inl ⟨by rfl, ?y1_3⟩) (by assumption) ?r1_3
                case y1_3 => (intro w hSw; (try dsimp only at hSw); (dsimp only [List.getElem_toArray, List.getElem_cons_zero, List.getElem_cons_succ]); (simp only [execOp, fv_const, fv_eq, fv_ne, fv_size, hAz, Nat.reduceLT, ne_eq, Nat.reduceEqDiff, not_false_eq_true, hA8, hA9]); go_simp; try with_reducible rfl)
                dsimp only [List.getElem_toArray, List.getElem_cons_zero, List.getElem_cons_succ]
                refine wpAnyH_take (i := 3) (v := ?v1_4) rfl (by kernel_rfl) (by kernel_rfl) (by kernel_rfl) (fun _ _ _ h => h) (Or.inl ⟨by rfl, ?y1_4⟩) (by assumption) ?r1_4
                case y1_4 => (intro w hSw; (try dsimp only at hSw); (dsimp only [List.getElem_toArray, List.getElem_cons_zero, List.getElem_cons_succ]); (simp only [execOp, fv_const, fv_eq, fv_ne, fv_size, hAz, Nat.reduceLT, ne_eq, Nat.reduceEqDiff, not_false_eq_true, hA8, hA9]); go_simp; try with_reducible rfl)
                dsimp only [List.getElem_toArray, List.getElem_cons_zero, List.getElem_cons_succ]
                refine wpAnyH_take (i := 4) (v := ?v1_5) rfl (by kernel_rfl) (by kernel_rfl) (by kernel_rfl) (fun _ _ _ h => h) (Or.inl ⟨by rfl, ?y1_5⟩) (by assumption) ?r1_5
                case y1_5 => (intro w hSw; (try dsimp only at hSw); (dsimp only [List.getElem_toArray, List.getElem_cons_zero, List.getElem_cons_succ]); (simp only [execOp, fv_const, fv_eq, fv_ne, fv_size, hAz, Nat.reduceLT, ne_eq, Nat.reduceEqDiff, not_false_eq_true, hA8, hA9]); go_simp; try with_reducible rfl)
                dsimp only [List.getElem_toArray, List.getElem_cons_zero, List.getElem_cons_succ]
                refine wpAnyH_take (i := 5) (v := ?v1_6) rfl (by kernel_rfl) (by kernel_rfl) (by kernel_rfl) (fun _ _ _ h => h) (Or.inl ⟨by rfl, ?y1_6⟩) (by assumption) ?r1_6
                case y1_6 => (intro w hSw; (try dsimp only at hSw); (dsimp only [List.getElem_toArray, List.getElem_cons_zero, List.getElem_cons_succ]); (simp only [execOp, fv_const, fv_eq, fv_ne, fv_size, hAz, Nat.reduceLT, ne_eq, Nat.reduceEqDiff, not_false_eq_true, hA8, hA9]); go_simp; try with_reducible rfl)
                dsimp only [List.getElem_toArray, List.getElem_cons_zero, List.getElem_cons_succ]
                refine wpAnyH_take (i := 6) (v := ?v1_7) rfl (by kernel_rfl) (by kernel_rfl) (by kernel_rfl) (fun _ _ _ h => h) (Or.inl ⟨by rfl, ?y1_7⟩) (by assumption) ?r1_7
                case y1_7 => (intro w hSw; (try dsimp only at hSw); (dsimp only [List.getElem_toArray, List.getElem_cons_zero, List.getElem_cons_succ]); (simp only [execOp, fv_const, fv_eq, fv_ne, fv_size, hAz, Nat.reduceLT, ne_eq, Nat.reduceEqDiff, not_false_eq_true, hA8, hA9]); go_simp; try with_reducible rfl)
                dsimp only [List.getElem_toArray, List.getElem_cons_zero, List.getElem_cons_succ]
                refine wpAnyH_take (i := 7) (v := ?v1_8) rfl (by kernel_rfl) (by kernel_rfl) (by kernel_rfl) (fun _ _ _ h => h) (Or.inl ⟨by rfl, ?y1_8⟩) (by assumption) ?r1_8
                case y1_8 => (intro w hSw; (try dsimp only at hSw); (dsimp only [List.getElem_toArray, List.getElem_cons_zero, List.getElem_cons_succ]); (simp only [execOp, fv_const, fv_eq, fv_ne, fv_size, hAz, Nat.reduceLT, ne_eq, Nat.reduceEqDiff, not_false_eq_true, hA8, hA9]); go_simp; try with_reducible rfl)
                dsimp only [List.getElem_toArray, List.getElem_cons_zero, List.getElem_cons_succ]
                refine wpAnyH_take (i := 8) (v := ?v1_9) rfl (by kernel_rfl) (by kernel_rfl) (by kernel_rfl) (fun _ _ _ h => h) (Or.inl ⟨by rfl, ?y1_9⟩) (by assumption) ?r1_9
                case y1_9 => (intro w hSw; (try dsimp only at hSw); (dsimp only [List.getElem_toArray, List.getElem_cons_zero, List.getElem_cons_succ]); (simp only [execOp, fv_const, fv_eq, fv_ne, fv_size, hAz, Nat.reduceLT, ne_eq, Nat.reduceEqDiff, not_false_eq_true, hA8, hA9]); go_simp; try with_reducible rfl)
                dsimp only [List.getElem_toArray, List.getElem_cons_zero, List.getElem_cons_succ]
                refine wpAnyH_take (i := 9) (v := ?v1_10) rfl (by kernel_rfl) (by kernel_rfl) (by kernel_rfl) (fun _ _ _ h => h) (Or.inl ⟨by rfl, ?y1_10⟩) (by assumption) ?r1_10
                case y1_10 => (intro w hSw; (try dsimp only at hSw); (dsimp only [List.getElem_toArray, List.getElem_cons_zero, List.getElem_cons_succ]); (simp only [execOp, fv_const, fv_eq, fv_ne, fv_size, hAz, Nat.reduceLT, ne_eq, Nat.reduceEqDiff, not_false_eq_true, hA8, hA9]); go_simp; try with_reducible rfl)
                dsimp only [List.getElem_toArray, List.getElem_cons_zero, List.getElem_cons_succ]
                rw [HAA.out]
                simp only [fv_lit, fv_none]
                dsimp only [List.set_cons_zero, List.set_cons_succ]
                refine wpAnyH_done (by kernel_rfl) ?_ _
                refine NoPanic.normal ?_
                clear hAz hA8 hA9
                go_wp2_with fail
                refine wp_frame ?_
                intro A hA
                have hAz : A.tmps.size = 221 := by rw [hA]; rfl
                have hA8 : A.eval (.tmp 8) = (.pointer (some ⟨W, 0, none⟩)) := by rw [hA]; rfl
                have hA9 : A.eval (.tmp 9) = (.int .i64 (n : Int)) := by rw [hA]; rfl
                have hA10 : A.eval (.tmp 10) = (B32 x15) := by rw [hA]; rfl
                have hA11 : A.eval (.tmp 11) = (B32 x2) := by rw [hA]; rfl
                have HAA := Lib.hid hA
                clear hA
                refine wp_region_noPanic ?_
                refine wp_region_held_drew (S := (fun w' => w'.cell? ⟨W, a7, none⟩ = some (B32 x7) ∧ w'.cell? ⟨W, a16, none⟩ = some (B32 x16))) (by kernel_rfl) ⟨c7, c16⟩ (fun hHeld => ?_)
                refine wpAnyH_take (i := 0) (v := ?v2_11) rfl (by kernel_rfl) (by kernel_rfl) (by kernel_rfl) (fun _ _ _ h => h) (Or.inl ⟨by rfl, ?y2_11⟩) (by assumption) ?r2_11
                case y2_11 => (intro w hSw; (try dsimp only at hSw); (dsimp only [List.getElem_toArray, List.getElem_cons_zero, List.getElem_cons_succ]); (simp only [execOp, fv_const, fv_eq, fv_ne, fv_size, hAz, Nat.reduceLT, ne_eq, Nat.reduceEqDiff, not_false_eq_true, hA8, hA9, hA10, hA11]); go_simp; try with_reducible rfl)
                dsimp only [List.getElem_toArray, List.getElem_cons_zero, List.getElem_cons_succ]
                refine wpAnyH_take (i := 1) (v := ?v2_12) rfl (by kernel_rfl) (by kernel_rfl) (by kernel_rfl) (fun _ _ _ h => h) (Or.inl ⟨by rfl, ?y2_12⟩) (by assumption) ?r2_12
                case y2_12 => (intro w hSw; (try dsimp only at hSw); (dsimp only [List.getElem_toArray, List.getElem_cons_zero, List.getElem_cons_succ]); (simp only [execOp, fv_const, fv_eq, fv_ne, fv_size, hAz, Nat.reduceLT, ne_eq, Nat.reduceEqDiff, not_false_eq_true, hA8, hA9, hA10, hA11]); go_simp; try with_reducible rfl)
                dsimp only [List.getElem_toArray, List.getElem_cons_zero, List.getElem_cons_succ]
                refine wpAnyH_take (i := 2) (v := ?v2_13) rfl (by kernel_rfl) (by kernel_rfl) (by kernel_rfl) (fun _ _ _ h => h) (Or.inl ⟨by rfl, ?y2_13⟩) (by assumption) ?r2_13
                case y2_13 => (intro w hSw; (try dsimp only at hSw); (dsimp only [List.getElem_toArray, List.getElem_cons_zero, List.getElem_cons_succ]); (simp only [execOp, fv_const, fv_eq, fv_ne, fv_size, hAz, Nat.reduceLT, ne_eq, Nat.reduceEqDiff, not_false_eq_true, hA8, hA9, hA10, hA11]); go_simp; try with_reducible rfl)
                dsimp only [List.getElem_toArray, List.getElem_cons_zero, List.getElem_cons_succ]
                refine wpAnyH_take (i := 3) (v := ?v2_14) rfl (by kernel_rfl) (by kernel_rfl) (by kernel_rfl) (fun _ _ _ h => h) (Or.inl ⟨by rfl, ?y2_14⟩) (by assumption) ?r2_14
                case y2_14 => (intro w hSw; (try dsimp only at hSw); (dsimp only [List.getElem_toArray, List.getElem_cons_zero, List.getElem_cons_succ]); (simp only [execOp, fv_const, fv_eq, fv_ne, fv_size, hAz, Nat.reduceLT, ne_eq, Nat.reduceEqDiff, not_false_eq_true, hA8, hA9, hA10, hA11]); go_simp; try with_reducible rfl)
                dsimp only [List.getElem_toArray, List.getElem_cons_zero, List.getElem_cons_succ]
                refine wpAnyH_take (i := 4) (v := ?v2_15) rfl (by kernel_rfl) (by kernel_rfl) (by kernel_rfl) (fun _ _ _ h => h) (Or.inl ⟨by rfl, ?y2_15⟩) (by assumption) ?r2_15
                case y2_15 => (intro w hSw; (try dsimp only at hSw); (dsimp only [List.getElem_toArray, List.getElem_cons_zero, List.getElem_cons_succ]); (simp only [execOp, fv_const, fv_eq, fv_ne, fv_size, hAz, Nat.reduceLT, ne_eq, Nat.reduceEqDiff, not_false_eq_true, hA8, hA9, hA10, hA11]); go_simp; try with_reducible rfl)
                dsimp only [List.getElem_toArray, List.getElem_cons_zero, List.getElem_cons_succ]
                refine wpAnyH_take (i := 5) (v := ?v2_16) rfl (by kernel_rfl) (by kernel_rfl) (by kernel_rfl) (fun _ _ _ h => h) (Or.inl ⟨by rfl, ?y2_16⟩) (by assumption) ?r2_16
                case y2_16 => (intro w hSw; (try dsimp only at hSw); (dsimp only [List.getElem_toArray, List.getElem_cons_zero, List.getElem_cons_succ]); (simp only [execOp, fv_const, fv_eq, fv_ne, fv_size, hAz, Nat.reduceLT, ne_eq, Nat.reduceEqDiff, not_false_eq_true, hA8, hA9, hA10, hA11]); go_simp; try with_reducible rfl)
                dsimp only [List.getElem_toArray, List.getElem_cons_zero, List.getElem_cons_succ]
                refine wpAnyH_take (i := 7) (v := ?v2_17) rfl (by kernel_rfl) (by kernel_rfl) (by kernel_rfl) (fun _ _ _ h => h) (Or.inl ⟨by rfl, ?y2_17⟩) (by assumption) ?r2_17
                case y2_17 => (intro w hSw; (try dsimp only at hSw); (dsimp only [List.getElem_toArray, List.getElem_cons_zero, List.getElem_cons_succ]); (simp only [execOp, fv_const, fv_eq, fv_ne, fv_size, hAz, Nat.reduceLT, ne_eq, Nat.reduceEqDiff, not_false_eq_true, hA8, hA9, hA10, hA11]); go_simp; try with_reducible rfl)
                dsimp only [List.getElem_toArray, List.getElem_cons_zero, List.getElem_cons_succ]
                refine wpAnyH_take (i := 10) (v := ?v2_18) rfl (by kernel_rfl) (by kernel_rfl) (by kernel_rfl) (fun _ _ _ h => h) (Or.inl ⟨by rfl, ?y2_18⟩) (by assumption) ?r2_18
                case y2_18 => (intro w hSw; (try dsimp only at hSw); (dsimp only [List.getElem_toArray, List.getElem_cons_zero, List.getElem_cons_succ]); (simp only [execOp, fv_const, fv_eq, fv_ne, fv_size, hAz, Nat.reduceLT, ne_eq, Nat.reduceEqDiff, not_false_eq_true, hA8, hA9, hA10, hA11]); go_simp; try with_reducible rfl)
                dsimp only [List.getElem_toArray, List.getElem_cons_zero, List.getElem_cons_succ]
                refine wpAnyH_take (i := 11) (v := ?v2_19) rfl (by kernel_rfl) (by kernel_rfl) (by kernel_rfl) (fun _ _ _ h => h) (Or.inl ⟨by rfl, ?y2_19⟩) (by assumption) ?r2_19
                case y2_19 => (intro w hSw; (try dsimp only at hSw); (dsimp only [List.getElem_toArray, List.getElem_cons_zero, List.getElem_cons_succ]); (simp only [execOp, fv_const, fv_eq, fv_ne, fv_size, hAz, Nat.reduceLT, ne_eq, Nat.reduceEqDiff, not_false_eq_true, hA8, hA9, hA10, hA11]); go_simp; try with_reducible rfl)
                dsimp only [List.getElem_toArray, List.getElem_cons_zero, List.getElem_cons_succ]
                refine wpAnyH_take (i := 14) (v := ?v2_20) rfl (by kernel_rfl) (by kernel_rfl) (by kernel_rfl) (fun _ _ _ h => h) (Or.inl ⟨by rfl, ?y2_20⟩) (by assumption) ?r2_20
                case y2_20 => (intro w hSw; (try dsimp only at hSw); (dsimp only [List.getElem_toArray, List.getElem_cons_zero, List.getElem_cons_succ]); (simp only [execOp, fv_const, fv_eq, fv_ne, fv_size, hAz, Nat.reduceLT, ne_eq, Nat.reduceEqDiff, not_false_eq_true, hA8, hA9, hA10, hA11]); go_simp; try with_reducible rfl)
                dsimp only [List.getElem_toArray, List.getElem_cons_zero, List.getElem_cons_succ]
                refine wpAnyH_take (i := 15) (v := ?v2_21) rfl (by kernel_rfl) (by kernel_rfl) (by kernel_rfl) (fun _ _ _ h => h) (Or.inl ⟨by rfl, ?y2_21⟩) (by assumption) ?r2_21
                case y2_21 => (intro w hSw; (try dsimp only at hSw); (dsimp only [List.getElem_toArray, List.getElem_cons_zero, List.getElem_cons_succ]); (simp only [execOp, fv_const, fv_eq, fv_ne, fv_size, hAz, Nat.reduceLT, ne_eq, Nat.reduceEqDiff, not_false_eq_true, hA8, hA9, hA10, hA11]); go_simp; try with_reducible rfl)
                dsimp only [List.getElem_toArray, List.getElem_cons_zero, List.getElem_cons_succ]
                refine wpAnyH_take (i := 16) (v := ?v2_22) rfl (by kernel_rfl) (by kernel_rfl) (by kernel_rfl) (fun _ _ _ h => h) (Or.inl ⟨by rfl, ?y2_22⟩) (by assumption) ?r2_22
                case y2_22 => (intro w hSw; (try dsimp only at hSw); (dsimp only [List.getElem_toArray, List.getElem_cons_zero, List.getElem_cons_succ]); (simp only [execOp, fv_const, fv_eq, fv_ne, fv_size, hAz, Nat.reduceLT, ne_eq, Nat.reduceEqDiff, not_false_eq_true, hA8, hA9, hA10, hA11]); go_simp; try with_reducible rfl)
                dsimp only [List.getElem_toArray, List.getElem_cons_zero, List.getElem_cons_succ]
                refine wpAnyH_take (i := 17) (v := ?v2_23) rfl (by kernel_rfl) (by kernel_rfl) (by kernel_rfl) (fun _ _ _ h => h) (Or.inl ⟨by rfl, ?y2_23⟩) (by assumption) ?r2_23
                case y2_23 => (intro w hSw; (try dsimp only at hSw); (dsimp only [List.getElem_toArray, List.getElem_cons_zero, List.getElem_cons_succ]); (simp only [execOp, fv_const, fv_eq, fv_ne, fv_size, hAz, Nat.reduceLT, ne_eq, Nat.reduceEqDiff, not_false_eq_true, hA8, hA9, hA10, hA11]); go_simp; try with_reducible rfl)
                dsimp only [List.getElem_toArray, List.getElem_cons_zero, List.getElem_cons_succ]
                refine wpAnyH_take (i := 19) (v := ?v2_24) rfl (by kernel_rfl) (by kernel_rfl) (by kernel_rfl) (fun _ _ _ h => h) (Or.inl ⟨by rfl, ?y2_24⟩) (by assumption) ?r2_24
                case y2_24 => (intro w hSw; (try dsimp only at hSw); (dsimp only [List.getElem_toArray, List.getElem_cons_zero, List.getElem_cons_succ]); (simp only [execOp, fv_const, fv_eq, fv_ne, fv_size, hAz, Nat.reduceLT, ne_eq, Nat.reduceEqDiff, not_false_eq_true, hA8, hA9, hA10, hA11]); go_simp; try with_reducible rfl)
                dsimp only [List.getElem_toArray, List.getElem_cons_zero, List.getElem_cons_succ]
                refine wpAnyH_take (i := 21) (v := ?v2_25) rfl (by kernel_rfl) (by kernel_rfl) (by kernel_rfl) (fun _ _ _ h => h) (Or.inl ⟨by rfl, ?y2_25⟩) (by assumption) ?r2_25
                case y2_25 => (intro w hSw; (try dsimp only at hSw); (dsimp only [List.getElem_toArray, List.getElem_cons_zero, List.getElem_cons_succ]); (simp only [execOp, fv_const, fv_eq, fv_ne, fv_size, hAz, Nat.reduceLT, ne_eq, Nat.reduceEqDiff, not_false_eq_true, hA8, hA9, hA10, hA11]); go_simp; try with_reducible rfl)
                dsimp only [List.getElem_toArray, List.getElem_cons_zero, List.getElem_cons_succ]
                refine wpAnyH_take (i := 24) (v := ?v2_26) rfl (by kernel_rfl) (by kernel_rfl) (by kernel_rfl) (fun _ _ _ h => h) (Or.inl ⟨by rfl, ?y2_26⟩) (by assumption) ?r2_26
                case y2_26 => (intro w hSw; (try dsimp only at hSw); (dsimp only [List.getElem_toArray, List.getElem_cons_zero, List.getElem_cons_succ]); (simp only [execOp, fv_const, fv_eq, fv_ne, fv_size, hAz, Nat.reduceLT, ne_eq, Nat.reduceEqDiff, not_false_eq_true, hA8, hA9, hA10, hA11]); go_simp; try with_reducible rfl)
                dsimp only [List.getElem_toArray, List.getElem_cons_zero, List.getElem_cons_succ]
                refine wpAnyH_take (i := 25) (v := ?v2_27) rfl (by kernel_rfl) (by kernel_rfl) (by kernel_rfl) (fun _ _ _ h => h) (Or.inl ⟨by rfl, ?y2_27⟩) (by assumption) ?r2_27
                case y2_27 => (intro w hSw; (try dsimp only at hSw); (dsimp only [List.getElem_toArray, List.getElem_cons_zero, List.getElem_cons_succ]); (simp only [execOp, fv_const, fv_eq, fv_ne, fv_size, hAz, Nat.reduceLT, ne_eq, Nat.reduceEqDiff, not_false_eq_true, hA8, hA9, hA10, hA11]); go_simp; try with_reducible rfl)
                dsimp only [List.getElem_toArray, List.getElem_cons_zero, List.getElem_cons_succ]
                refine wpAnyH_ready (rs := [6]) (by kernel_rfl) (by simp) ?_
                refine AllReadyH.cons rfl (fun K hK => ?_) AllReadyH.nil
                rw [if_pos (by rfl)]
                dsimp only [List.getElem_toArray, List.getElem_cons_zero, List.getElem_cons_succ]
                refine oper_call_same rfl (rturnL x15 7 (by decide) 7 rfl) (fv_turn _ _) (by simp only [List.map_toArray, List.map_cons, List.map_nil, fv_const, fv_eq, fv_ne, fv_size, hAz, Nat.reduceLT, ne_eq, Nat.reduceEqDiff, not_false_eq_true, hA8, hA9, hA10, hA11]) ?_
                refine hK.out _ _ (⟨c7, c16⟩) (fun hHeld => ?_)
                clear hK K
                refine wpAnyH_ready (rs := [8]) (by kernel_rfl) (by simp) ?_
                refine AllReadyH.cons rfl (fun K hK => ?_) AllReadyH.nil
                rw [if_pos (by rfl)]
                dsimp only [List.getElem_toArray, List.getElem_cons_zero, List.getElem_cons_succ]
                refine oper_call_same rfl (rturnL x15 18 (by decide) 18 rfl) (fv_turn _ _) (by simp only [List.map_toArray, List.map_cons, List.map_nil, fv_const, fv_eq, fv_ne, fv_size, hAz, Nat.reduceLT, ne_eq, Nat.reduceEqDiff, not_false_eq_true, hA8, hA9, hA10, hA11]) ?_
                refine hK.out _ _ (⟨c7, c16⟩) (fun hHeld => ?_)
                clear hK K
                refine wpAnyH_take (i := 9) (v := ?v2_30) rfl (by kernel_rfl) (by kernel_rfl) (by kernel_rfl) (fun _ _ _ h => h) (Or.inl ⟨by rfl, ?y2_30⟩) (by assumption) ?r2_30
                case y2_30 => (intro w hSw; (try dsimp only at hSw); (dsimp only [List.getElem_toArray, List.getElem_cons_zero, List.getElem_cons_succ]); (simp only [execOp, fv_const, fv_eq, fv_ne, fv_size, hAz, Nat.reduceLT, ne_eq, Nat.reduceEqDiff, not_false_eq_true, hA8, hA9, hA10, hA11]); go_simp; try with_reducible rfl)
                dsimp only [List.getElem_toArray, List.getElem_cons_zero, List.getElem_cons_succ]
                refine wpAnyH_take (i := 12) (v := ?v2_31) rfl (by kernel_rfl) (by kernel_rfl) (by kernel_rfl) (fun _ _ _ h => h) (Or.inl ⟨by rfl, ?y2_31⟩) (by assumption) ?r2_31
                case y2_31 => (intro w hSw; (try dsimp only at hSw); (dsimp only [List.getElem_toArray, List.getElem_cons_zero, List.getElem_cons_succ]); (simp only [execOp, fv_const, fv_eq, fv_ne, fv_size, hAz, Nat.reduceLT, ne_eq, Nat.reduceEqDiff, not_false_eq_true, hA8, hA9, hA10, hA11]); go_simp; try with_reducible rfl)
                dsimp only [List.getElem_toArray, List.getElem_cons_zero, List.getElem_cons_succ]
                refine wpAnyH_take (i := 13) (v := ?v2_32) rfl (by kernel_rfl) (by kernel_rfl) (by kernel_rfl) (fun _ _ _ h => h) (Or.inl ⟨by rfl, ?y2_32⟩) (by assumption) ?r2_32
                case y2_32 => (intro w hSw; (try dsimp only at hSw); (dsimp only [List.getElem_toArray, List.getElem_cons_zero, List.getElem_cons_succ]); (simp only [execOp, fv_const, fv_eq, fv_ne, fv_size, hAz, Nat.reduceLT, ne_eq, Nat.reduceEqDiff, not_false_eq_true, hA8, hA9, hA10, hA11]); go_simp; try with_reducible rfl)
                dsimp only [List.getElem_toArray, List.getElem_cons_zero, List.getElem_cons_succ]
                refine wpAnyH_take (i := 18) (v := ?v2_33) rfl (by kernel_rfl) (by kernel_rfl) (by kernel_rfl) (fun _ _ _ h => h) (Or.inl ⟨by rfl, ?y2_33⟩) (by assumption) ?r2_33
                case y2_33 => (intro w hSw; (try dsimp only at hSw); (dsimp only [List.getElem_toArray, List.getElem_cons_zero, List.getElem_cons_succ]); (simp only [execOp, fv_const, fv_eq, fv_ne, fv_size, hAz, Nat.reduceLT, ne_eq, Nat.reduceEqDiff, not_false_eq_true, hA8, hA9, hA10, hA11]); go_simp; try with_reducible rfl)
                dsimp only [List.getElem_toArray, List.getElem_cons_zero, List.getElem_cons_succ]
                refine wpAnyH_ready (rs := [20]) (by kernel_rfl) (by simp) ?_
                refine AllReadyH.cons rfl (fun K hK => ?_) AllReadyH.nil
                rw [if_pos (by rfl)]
                dsimp only [List.getElem_toArray, List.getElem_cons_zero, List.getElem_cons_succ]
                refine oper_call_same rfl (rturnL x2 17 (by decide) 17 rfl) (fv_turn _ _) (by simp only [List.map_toArray, List.map_cons, List.map_nil, fv_const, fv_eq, fv_ne, fv_size, hAz, Nat.reduceLT, ne_eq, Nat.reduceEqDiff, not_false_eq_true, hA8, hA9, hA10, hA11]) ?_
                refine hK.out _ _ (⟨c7, c16⟩) (fun hHeld => ?_)
                clear hK K
                refine wpAnyH_ready (rs := [22]) (by kernel_rfl) (by simp) ?_
                refine AllReadyH.cons rfl (fun K hK => ?_) AllReadyH.nil
                rw [if_pos (by rfl)]
                dsimp only [List.getElem_toArray, List.getElem_cons_zero, List.getElem_cons_succ]
                refine oper_call_same rfl (rturnL x2 19 (by decide) 19 rfl) (fv_turn _ _) (by simp only [List.map_toArray, List.map_cons, List.map_nil, fv_const, fv_eq, fv_ne, fv_size, hAz, Nat.reduceLT, ne_eq, Nat.reduceEqDiff, not_false_eq_true, hA8, hA9, hA10, hA11]) ?_
                refine hK.out _ _ (⟨c7, c16⟩) (fun hHeld => ?_)
                clear hK K
                refine wpAnyH_take (i := 23) (v := ?v2_36) rfl (by kernel_rfl) (by kernel_rfl) (by kernel_rfl) (fun _ _ _ h => h) (Or.inl ⟨by rfl, ?y2_36⟩) (by assumption) ?r2_36
                case y2_36 => (intro w hSw; (try dsimp only at hSw); (dsimp only [List.getElem_toArray, List.getElem_cons_zero, List.getElem_cons_succ]); (simp only [execOp, fv_const, fv_eq, fv_ne, fv_size, hAz, Nat.reduceLT, ne_eq, Nat.reduceEqDiff, not_false_eq_true, hA8, hA9, hA10, hA11]); go_simp; try with_reducible rfl)
                dsimp only [List.getElem_toArray, List.getElem_cons_zero, List.getElem_cons_succ]
                refine wpAnyH_take (i := 26) (v := ?v2_37) rfl (by kernel_rfl) (by kernel_rfl) (by kernel_rfl) (fun _ _ _ h => h) (Or.inl ⟨by rfl, ?y2_37⟩) (by assumption) ?r2_37
                case y2_37 => (intro w hSw; (try dsimp only at hSw); (dsimp only [List.getElem_toArray, List.getElem_cons_zero, List.getElem_cons_succ]); (simp only [execOp, fv_const, fv_eq, fv_ne, fv_size, hAz, Nat.reduceLT, ne_eq, Nat.reduceEqDiff, not_false_eq_true, hA8, hA9, hA10, hA11]); go_simp; try with_reducible rfl)
                dsimp only [List.getElem_toArray, List.getElem_cons_zero, List.getElem_cons_succ]
                refine wpAnyH_take (i := 27) (v := ?v2_38) rfl (by kernel_rfl) (by kernel_rfl) (by kernel_rfl) (fun _ _ _ h => h) (Or.inl ⟨by rfl, ?y2_38⟩) (by assumption) ?r2_38
                case y2_38 => (intro w hSw; (try dsimp only at hSw); (dsimp only [List.getElem_toArray, List.getElem_cons_zero, List.getElem_cons_succ]); (simp only [execOp, fv_const, fv_eq, fv_ne, fv_size, hAz, Nat.reduceLT, ne_eq, Nat.reduceEqDiff, not_false_eq_true, hA8, hA9, hA10, hA11]); go_simp; try with_reducible rfl)
                dsimp only [List.getElem_toArray, List.getElem_cons_zero, List.getElem_cons_succ]
                refine wpAnyH_take (i := 28) (v := ?v2_39) rfl (by kernel_rfl) (by kernel_rfl) (by kernel_rfl) (fun _ _ _ h => h) (Or.inl ⟨by rfl, ?y2_39⟩) (by assumption) ?r2_39
                case y2_39 => (intro w hSw; (try dsimp only at hSw); (dsimp only [List.getElem_toArray, List.getElem_cons_zero, List.getElem_cons_succ]); (simp only [execOp, fv_const, fv_eq, fv_ne, fv_size, hAz, Nat.reduceLT, ne_eq, Nat.reduceEqDiff, not_false_eq_true, hA8, hA9, hA10, hA11]); go_simp; try with_reducible rfl)
                dsimp only [List.getElem_toArray, List.getElem_cons_zero, List.getElem_cons_succ]
                rw [HAA.out]
                simp only [fv_lit, fv_none]
                dsimp only [List.set_cons_zero, List.set_cons_succ]
                clear hAz hA8 hA9 hA10 hA11
                refine wpAnyH_ready (rs := [29]) (by kernel_rfl) (by simp) ?_
                refine AllReadyH.cons rfl (fun K hK => ?_) AllReadyH.nil
                go_simp
                refine hK.out _ _ ?s2_40 (fun hHeld => ?_)
                case s2_40 => ((try dsimp only) <;> (first | exact ⟨(World.cell?_setCell_other _ ⟨W, n, none⟩ ⟨W, a7, none⟩ _ (fun h => Hne7.out (congrArg Addr.off h).symm)).trans c7, (World.cell?_setCell_other _ ⟨W, n, none⟩ ⟨W, a16, none⟩ _ (fun h => Hne16.out (congrArg Addr.off h).symm)).trans c16⟩))
                clear hK K
                (try simp only [Act.put, List.getElem_toArray, List.getElem_cons_zero, List.getElem_cons_succ, List.setIfInBounds_toArray, List.set_cons_zero, List.set_cons_succ])
                refine wpAnyH_done (by kernel_rfl) ?_ _
                refine NoPanic.normal ?_
                go_wp2_with fail
                go_roundw
                case rel =>
                  have hn := Hn.out
                  have R1 := Lib.hid (show Blk (wr.drew.drew.setCell ⟨W, n, none⟩ (B32 (x16 + sgB x15 + x7 + sgA x2))) W 79 ((rW D (n + 1)).map B32) from by rw [HS'.out, List.map_set]; exact HW.out.drew.drew.set n _)
                  have R2 := Lib.hid (show Keeps [] wo (wr.drew.drew.setCell ⟨W, n, none⟩ (B32 (x16 + sgB x15 + x7 + sgA x2))) from HKz.out.drew.drew.setCell (.inr (Nat.le_of_eq HWW.out)) _)
                  rw [rnew_int]
                  first
                    | exact ⟨n + 1, by omega, by go_num, R1.out, R2.out⟩
                    | ((repeat apply Exists.intro); refine ⟨?_, rfl⟩; exact ⟨n + 1, by omega, by go_num, R1.out, R2.out⟩)
                case measure => simp [intOf]; omega
            --L3E
            · obtain rfl : n = 64 := by omega
              rw [rW_all D HDl.out] at hW
              have hVl := wAll_len D
              generalize hVV : wAll D = V at *
              have HVV := Lib.hid hVV
              obtain ⟨wz, rfl⟩ : ∃ wz, wz = wr := ⟨wr, rfl⟩
              have hXz := HX.out.keeps hKz (by simp)
              have hTz := HT.out.keeps hKz (by simp)
              have hSz := HS.out.keeps hKz (by simp)
              have hKw := HK.out.trans hKz
              have hlW := hW.lt
              have hoW : W ≤ wz.heap.size ∧ X < W ∧ T < W := by have := HWW.out; omega
              have HSz := Lib.hid hSz
              have HKw := Lib.hid hKw
              clear hVV hn h64 HS HK HX HT hKz hSz hKw HD4
              go_upto_region 20 with (fail)
              apply wp_region_lit
              refine wpList_load_mid rfl 78 (.tmp 3) rfl X 0 (by rfl) s.cells _ hXz.range Tryz.underlying78 rfl HsS.out ?_
              simp only [Act.put, List.setIfInBounds_toArray, List.set_cons_zero, List.set_cons_succ]
              go_step
              go_step
              go_step
              have hY : Blk (wz.alloc (.cells #[.int .u32 0, .int .u32 0, .int .u32 0, .int .u32 0, .int .u32 0, .int .u32 0, .int .u32 0, .int .u32 0] 78)) wz.heap.size 78 ((List.replicate 8 (0 : UInt32)).map B32) := Blk.newA wz 78 #[.int .u32 0, .int .u32 0, .int .u32 0, .int .u32 0, .int .u32 0, .int .u32 0, .int .u32 0, .int .u32 0]
              refine wpList_store_mid rfl 78 (.tmp 12) (.tmp 110) rfl wz.heap.size 0 s.cells.toArray (by rfl) (by rfl) (hY.there _ rfl) HsS.out (all_oneCell_toArray (all_one _)) ?_
              simp only [Act.put]
              have hY2 := hY.setCells (cs := s.cells) rfl
              have hKY : Keeps [] wz ((wz.alloc (.cells #[.int .u32 0, .int .u32 0, .int .u32 0, .int .u32 0, .int .u32 0, .int .u32 0, .int .u32 0, .int .u32 0] 78)).setCells wz.heap.size 0 s.cells) := Keeps.setCellsNew (S := []) (b := wz.heap.size) (Nat.le_refl _) s.cells 0 _ ((Keeps.refl [] wz).alloc _)
              generalize ((wz.alloc (.cells #[.int .u32 0, .int .u32 0, .int .u32 0, .int .u32 0, .int .u32 0, .int .u32 0, .int .u32 0, .int .u32 0] 78)).setCells wz.heap.size 0 s.cells) = wy at *
              generalize hYY : wz.heap.size = Y at *
              have HYY := Lib.hid (show X < W ∧ T < W ∧ W < Y ∧ X < T ∧ w.heap.size ≤ X by have := HXX.out; omega)
              have HYz := Lib.hid hYY
              have HXz := Lib.hid hXz
              have HTz := Lib.hid hTz
              have HWz := Lib.hid hW
              clear hY hYY hXz hTz hW
              go_wp2_with fail
              go_loopw [111] (fun i wr => ∃ n : Nat, n ≤ 64 ∧ i = .int .i64 n ∧ Blk wr Y 78 (s.rounds V n).cells ∧ Keeps [] wz wr) (fun i _ => 64 - (intOf i).toNat)
              case atStart => exact ⟨0, by omega, rfl, hY2, hKY⟩
              case round =>
                clear hY2 hKY
                obtain ⟨n, hn, rfl, hY, hK⟩ := hrel
                by_cases hlt : n < 64
                · --L4
                  have hst' : s.rounds V (n + 1) = (s.rounds V n).round (shaK.getD n 0) (V.getD n 0) := rfl
                  generalize s.rounds V n = x at *
                  obtain ⟨xa, xb, xc, xd, xe, xf, xg, xh⟩ := x
                  have hX := HXz.out.keeps hK (by simp)
                  have hT := HTz.out.keeps hK (by simp)
                  have hW := HWz.out.keeps hK (by simp)
                  have HY := Lib.hid hY
                  have HK := Lib.hid hK
                  have x0 : wr.cell? ⟨Y, 0, none⟩ = some (B32 xa) := hY.cell' rfl
                  have x1 : wr.cell? ⟨Y, 1, none⟩ = some (B32 xb) := hY.cell' rfl
                  have x2 : wr.cell? ⟨Y, 2, none⟩ = some (B32 xc) := hY.cell' rfl
                  have x3 : wr.cell? ⟨Y, 3, none⟩ = some (B32 xd) := hY.cell' rfl
                  have x4 : wr.cell? ⟨Y, 4, none⟩ = some (B32 xe) := hY.cell' rfl
                  have x5 : wr.cell? ⟨Y, 5, none⟩ = some (B32 xf) := hY.cell' rfl
                  have x6 : wr.cell? ⟨Y, 6, none⟩ = some (B32 xg) := hY.cell' rfl
                  have x7 : wr.cell? ⟨Y, 7, none⟩ = some (B32 xh) := hY.cell' rfl
                  have ck : wr.cell? ⟨T, n, none⟩ = some (B32 (shaK.getD n 0)) := hT.cell' (by rw [List.getElem?_map, List.getD, List.getElem?_eq_getElem (by rw [shaK_len]; exact hlt)]; rfl)
                  have cw : wr.cell? ⟨W, n, none⟩ = some (B32 (V.getD n 0)) := hW.cell' (by rw [List.getElem?_map, List.getD, List.getElem?_eq_getElem (by omega)]; rfl)
                  generalize shaK.getD n 0 = kk at *
                  generalize V.getD n 0 = ww at *
                  have Hst' := Lib.hid hst'
                  have hk0 : (n : Int) < 64 := by omega
                  have wk : IntKind.i64.wrap (n : Int) = (n : Int) := by rw [IntWalk.i64_left, IntWalk.wrap64_in _ (by omega)]
                  clear hst' hY hW hX hT hK
                  go_wp2_with fail
                  refine wp_frame ?_
                  intro A hA
                  have hAz : A.tmps.size = 221 := by rw [hA]; rfl
                  have hA4 : A.eval (.tmp 4) = (.pointer (some ⟨T, 0, none⟩)) := by rw [hA]; rfl
                  have hA8 : A.eval (.tmp 8) = (.pointer (some ⟨W, 0, none⟩)) := by rw [hA]; rfl
                  have hA12 : A.eval (.tmp 12) = (.pointer (some ⟨Y, 0, none⟩)) := by rw [hA]; rfl
                  have hA13 : A.eval (.tmp 13) = (.int .i64 (n : Int)) := by rw [hA]; rfl
                  have HAA := Lib.hid hA
                  clear hA
                  refine wp_region_noPanic ?_
                  refine wp_region_held_drew (S := (fun w' => w'.cell? ⟨Y, 4, none⟩ = some (B32 xe) ∧ w'.cell? ⟨Y, 5, none⟩ = some (B32 xf) ∧ w'.cell? ⟨Y, 6, none⟩ = some (B32 xg) ∧ w'.cell? ⟨Y, 7, none⟩ = some (B32 xh) ∧ w'.cell? ⟨T, n, none⟩ = some (B32 kk) ∧ w'.cell? ⟨W, n, none⟩ = some (B32 ww))) (by kernel_rfl) ⟨x4, x5, x6, x7, ck, cw⟩ (fun hHeld => ?_)
                  refine wpAnyH_take (i := 0) (v := ?v3_41) rfl (by kernel_rfl) (by kernel_rfl) (by kernel_rfl) (fun _ _ _ h => h) (Or.inl ⟨by rfl, ?y3_41⟩) (by assumption) ?r3_41
                  case y3_41 => (intro w hSw; (try dsimp only at hSw); (dsimp only [List.getElem_toArray, List.getElem_cons_zero, List.getElem_cons_succ]); (simp only [execOp, fv_const, fv_eq, fv_ne, fv_size, hAz, Nat.reduceLT, ne_eq, Nat.reduceEqDiff, not_false_eq_true, hA4, hA8, hA12, hA13]); go_simp; try with_reducible rfl)
                  dsimp only [List.getElem_toArray, List.getElem_cons_zero, List.getElem_cons_succ]
                  refine wpAnyH_take (i := 1) (v := ?v3_42) rfl (by kernel_rfl) (by kernel_rfl) (by kernel_rfl) (fun _ _ _ h => h) (Or.inl ⟨by rfl, ?y3_42⟩) (by assumption) ?r3_42
                  case y3_42 => (intro w hSw; (try dsimp only at hSw); (dsimp only [List.getElem_toArray, List.getElem_cons_zero, List.getElem_cons_succ]); (simp only [execOp, fv_const, fv_eq, fv_ne, fv_size, hAz, Nat.reduceLT, ne_eq, Nat.reduceEqDiff, not_false_eq_true, hA4, hA8, hA12, hA13]); go_simp; try with_reducible rfl)
                  dsimp only [List.getElem_toArray, List.getElem_cons_zero, List.getElem_cons_succ]
                  refine wpAnyH_take (i := 2) (v := ?v3_43) rfl (by kernel_rfl) (by kernel_rfl) (by kernel_rfl) (fun _ _ _ h => h) (Or.inl ⟨by rfl, ?y3_43⟩) (by assumption) ?r3_43
                  case y3_43 => (intro w hSw; (try dsimp only at hSw); (dsimp only [List.getElem_toArray, List.getElem_cons_zero, List.getElem_cons_succ]); (simp only [execOp, fv_const, fv_eq, fv_ne, fv_size, hAz, Nat.reduceLT, ne_eq, Nat.reduceEqDiff, not_false_eq_true, hA4, hA8, hA12, hA13]); go_simp; try with_reducible rfl)
                  dsimp only [List.getElem_toArray, List.getElem_cons_zero, List.getElem_cons_succ]
                  refine wpAnyH_take (i := 3) (v := ?v3_44) rfl (by kernel_rfl) (by kernel_rfl) (by kernel_rfl) (fun _ _ _ h => h) (Or.inl ⟨by rfl, ?y3_44⟩) (by assumption) ?r3_44
                  case y3_44 => (intro w hSw; (try dsimp only at hSw); (dsimp only [List.getElem_toArray, List.getElem_cons_zero, List.getElem_cons_succ]); (simp only [execOp, fv_const, fv_eq, fv_ne, fv_size, hAz, Nat.reduceLT, ne_eq, Nat.reduceEqDiff, not_false_eq_true, hA4, hA8, hA12, hA13]); go_simp; try with_reducible rfl)
                  dsimp only [List.getElem_toArray, List.getElem_cons_zero, List.getElem_cons_succ]
                  refine wpAnyH_take (i := 5) (v := ?v3_45) rfl (by kernel_rfl) (by kernel_rfl) (by kernel_rfl) (fun _ _ _ h => h) (Or.inl ⟨by rfl, ?y3_45⟩) (by assumption) ?r3_45
                  case y3_45 => (intro w hSw; (try dsimp only at hSw); (dsimp only [List.getElem_toArray, List.getElem_cons_zero, List.getElem_cons_succ]); (simp only [execOp, fv_const, fv_eq, fv_ne, fv_size, hAz, Nat.reduceLT, ne_eq, Nat.reduceEqDiff, not_false_eq_true, hA4, hA8, hA12, hA13]); go_simp; try with_reducible rfl)
                  dsimp only [List.getElem_toArray, List.getElem_cons_zero, List.getElem_cons_succ]
                  refine wpAnyH_take (i := 6) (v := ?v3_46) rfl (by kernel_rfl) (by kernel_rfl) (by kernel_rfl) (fun _ _ _ h => h) (Or.inl ⟨by rfl, ?y3_46⟩) (by assumption) ?r3_46
                  case y3_46 => (intro w hSw; (try dsimp only at hSw); (dsimp only [List.getElem_toArray, List.getElem_cons_zero, List.getElem_cons_succ]); (simp only [execOp, fv_const, fv_eq, fv_ne, fv_size, hAz, Nat.reduceLT, ne_eq, Nat.reduceEqDiff, not_false_eq_true, hA4, hA8, hA12, hA13]); go_simp; try with_reducible rfl)
                  dsimp only [List.getElem_toArray, List.getElem_cons_zero, List.getElem_cons_succ]
                  refine wpAnyH_take (i := 9) (v := ?v3_47) rfl (by kernel_rfl) (by kernel_rfl) (by kernel_rfl) (fun _ _ _ h => h) (Or.inl ⟨by rfl, ?y3_47⟩) (by assumption) ?r3_47
                  case y3_47 => (intro w hSw; (try dsimp only at hSw); (dsimp only [List.getElem_toArray, List.getElem_cons_zero, List.getElem_cons_succ]); (simp only [execOp, fv_const, fv_eq, fv_ne, fv_size, hAz, Nat.reduceLT, ne_eq, Nat.reduceEqDiff, not_false_eq_true, hA4, hA8, hA12, hA13]); go_simp; try with_reducible rfl)
                  dsimp only [List.getElem_toArray, List.getElem_cons_zero, List.getElem_cons_succ]
                  refine wpAnyH_take (i := 10) (v := ?v3_48) rfl (by kernel_rfl) (by kernel_rfl) (by kernel_rfl) (fun _ _ _ h => h) (Or.inl ⟨by rfl, ?y3_48⟩) (by assumption) ?r3_48
                  case y3_48 => (intro w hSw; (try dsimp only at hSw); (dsimp only [List.getElem_toArray, List.getElem_cons_zero, List.getElem_cons_succ]); (simp only [execOp, fv_const, fv_eq, fv_ne, fv_size, hAz, Nat.reduceLT, ne_eq, Nat.reduceEqDiff, not_false_eq_true, hA4, hA8, hA12, hA13]); go_simp; try with_reducible rfl)
                  dsimp only [List.getElem_toArray, List.getElem_cons_zero, List.getElem_cons_succ]
                  refine wpAnyH_take (i := 14) (v := ?v3_49) rfl (by kernel_rfl) (by kernel_rfl) (by kernel_rfl) (fun _ _ _ h => h) (Or.inl ⟨by rfl, ?y3_49⟩) (by assumption) ?r3_49
                  case y3_49 => (intro w hSw; (try dsimp only at hSw); (dsimp only [List.getElem_toArray, List.getElem_cons_zero, List.getElem_cons_succ]); (simp only [execOp, fv_const, fv_eq, fv_ne, fv_size, hAz, Nat.reduceLT, ne_eq, Nat.reduceEqDiff, not_false_eq_true, hA4, hA8, hA12, hA13]); go_simp; try with_reducible rfl)
                  dsimp only [List.getElem_toArray, List.getElem_cons_zero, List.getElem_cons_succ]
                  refine wpAnyH_take (i := 15) (v := ?v3_50) rfl (by kernel_rfl) (by kernel_rfl) (by kernel_rfl) (fun _ _ _ h => h) (Or.inl ⟨by rfl, ?y3_50⟩) (by assumption) ?r3_50
                  case y3_50 => (intro w hSw; (try dsimp only at hSw); (dsimp only [List.getElem_toArray, List.getElem_cons_zero, List.getElem_cons_succ]); (simp only [execOp, fv_const, fv_eq, fv_ne, fv_size, hAz, Nat.reduceLT, ne_eq, Nat.reduceEqDiff, not_false_eq_true, hA4, hA8, hA12, hA13]); go_simp; try with_reducible rfl)
                  dsimp only [List.getElem_toArray, List.getElem_cons_zero, List.getElem_cons_succ]
                  refine wpAnyH_take (i := 16) (v := ?v3_51) rfl (by kernel_rfl) (by kernel_rfl) (by kernel_rfl) (fun _ _ _ h => h) (Or.inl ⟨by rfl, ?y3_51⟩) (by assumption) ?r3_51
                  case y3_51 => (intro w hSw; (try dsimp only at hSw); (dsimp only [List.getElem_toArray, List.getElem_cons_zero, List.getElem_cons_succ]); (simp only [execOp, fv_const, fv_eq, fv_ne, fv_size, hAz, Nat.reduceLT, ne_eq, Nat.reduceEqDiff, not_false_eq_true, hA4, hA8, hA12, hA13]); go_simp; try with_reducible rfl)
                  dsimp only [List.getElem_toArray, List.getElem_cons_zero, List.getElem_cons_succ]
                  refine wpAnyH_take (i := 17) (v := ?v3_52) rfl (by kernel_rfl) (by kernel_rfl) (by kernel_rfl) (fun _ _ _ h => h) (Or.inl ⟨by rfl, ?y3_52⟩) (by assumption) ?r3_52
                  case y3_52 => (intro w hSw; (try dsimp only at hSw); (dsimp only [List.getElem_toArray, List.getElem_cons_zero, List.getElem_cons_succ]); (simp only [execOp, fv_const, fv_eq, fv_ne, fv_size, hAz, Nat.reduceLT, ne_eq, Nat.reduceEqDiff, not_false_eq_true, hA4, hA8, hA12, hA13]); go_simp; try with_reducible rfl)
                  dsimp only [List.getElem_toArray, List.getElem_cons_zero, List.getElem_cons_succ]
                  refine wpAnyH_take (i := 18) (v := ?v3_53) rfl (by kernel_rfl) (by kernel_rfl) (by kernel_rfl) (fun _ _ _ h => h) (Or.inl ⟨by rfl, ?y3_53⟩) (by assumption) ?r3_53
                  case y3_53 => (intro w hSw; (try dsimp only at hSw); (dsimp only [List.getElem_toArray, List.getElem_cons_zero, List.getElem_cons_succ]); (simp only [execOp, fv_const, fv_eq, fv_ne, fv_size, hAz, Nat.reduceLT, ne_eq, Nat.reduceEqDiff, not_false_eq_true, hA4, hA8, hA12, hA13]); go_simp; try with_reducible rfl)
                  dsimp only [List.getElem_toArray, List.getElem_cons_zero, List.getElem_cons_succ]
                  refine wpAnyH_take (i := 19) (v := ?v3_54) rfl (by kernel_rfl) (by kernel_rfl) (by kernel_rfl) (fun _ _ _ h => h) (Or.inl ⟨by rfl, ?y3_54⟩) (by assumption) ?r3_54
                  case y3_54 => (intro w hSw; (try dsimp only at hSw); (dsimp only [List.getElem_toArray, List.getElem_cons_zero, List.getElem_cons_succ]); (simp only [execOp, fv_const, fv_eq, fv_ne, fv_size, hAz, Nat.reduceLT, ne_eq, Nat.reduceEqDiff, not_false_eq_true, hA4, hA8, hA12, hA13]); go_simp; try with_reducible rfl)
                  dsimp only [List.getElem_toArray, List.getElem_cons_zero, List.getElem_cons_succ]
                  refine wpAnyH_take (i := 20) (v := ?v3_55) rfl (by kernel_rfl) (by kernel_rfl) (by kernel_rfl) (fun _ _ _ h => h) (Or.inl ⟨by rfl, ?y3_55⟩) (by assumption) ?r3_55
                  case y3_55 => (intro w hSw; (try dsimp only at hSw); (dsimp only [List.getElem_toArray, List.getElem_cons_zero, List.getElem_cons_succ]); (simp only [execOp, fv_const, fv_eq, fv_ne, fv_size, hAz, Nat.reduceLT, ne_eq, Nat.reduceEqDiff, not_false_eq_true, hA4, hA8, hA12, hA13]); go_simp; try with_reducible rfl)
                  dsimp only [List.getElem_toArray, List.getElem_cons_zero, List.getElem_cons_succ]
                  refine wpAnyH_take (i := 21) (v := ?v3_56) rfl (by kernel_rfl) (by kernel_rfl) (by kernel_rfl) (fun _ _ _ h => h) (Or.inl ⟨by rfl, ?y3_56⟩) (by assumption) ?r3_56
                  case y3_56 => (intro w hSw; (try dsimp only at hSw); (dsimp only [List.getElem_toArray, List.getElem_cons_zero, List.getElem_cons_succ]); (simp only [execOp, fv_const, fv_eq, fv_ne, fv_size, hAz, Nat.reduceLT, ne_eq, Nat.reduceEqDiff, not_false_eq_true, hA4, hA8, hA12, hA13]); go_simp; try with_reducible rfl)
                  dsimp only [List.getElem_toArray, List.getElem_cons_zero, List.getElem_cons_succ]
                  refine wpAnyH_take (i := 22) (v := ?v3_57) rfl (by kernel_rfl) (by kernel_rfl) (by kernel_rfl) (fun _ _ _ h => h) (Or.inl ⟨by rfl, ?y3_57⟩) (by assumption) ?r3_57
                  case y3_57 => (intro w hSw; (try dsimp only at hSw); (dsimp only [List.getElem_toArray, List.getElem_cons_zero, List.getElem_cons_succ]); (simp only [execOp, fv_const, fv_eq, fv_ne, fv_size, hAz, Nat.reduceLT, ne_eq, Nat.reduceEqDiff, not_false_eq_true, hA4, hA8, hA12, hA13]); go_simp; try with_reducible rfl)
                  dsimp only [List.getElem_toArray, List.getElem_cons_zero, List.getElem_cons_succ]
                  refine wpAnyH_take (i := 23) (v := ?v3_58) rfl (by kernel_rfl) (by kernel_rfl) (by kernel_rfl) (fun _ _ _ h => h) (Or.inl ⟨by rfl, ?y3_58⟩) (by assumption) ?r3_58
                  case y3_58 => (intro w hSw; (try dsimp only at hSw); (dsimp only [List.getElem_toArray, List.getElem_cons_zero, List.getElem_cons_succ]); (simp only [execOp, fv_const, fv_eq, fv_ne, fv_size, hAz, Nat.reduceLT, ne_eq, Nat.reduceEqDiff, not_false_eq_true, hA4, hA8, hA12, hA13]); go_simp; try with_reducible rfl)
                  dsimp only [List.getElem_toArray, List.getElem_cons_zero, List.getElem_cons_succ]
                  refine wpAnyH_take (i := 24) (v := ?v3_59) rfl (by kernel_rfl) (by kernel_rfl) (by kernel_rfl) (fun _ _ _ h => h) (Or.inl ⟨by rfl, ?y3_59⟩) (by assumption) ?r3_59
                  case y3_59 => (intro w hSw; (try dsimp only at hSw); (dsimp only [List.getElem_toArray, List.getElem_cons_zero, List.getElem_cons_succ]); (simp only [execOp, fv_const, fv_eq, fv_ne, fv_size, hAz, Nat.reduceLT, ne_eq, Nat.reduceEqDiff, not_false_eq_true, hA4, hA8, hA12, hA13]); go_simp; try with_reducible rfl)
                  dsimp only [List.getElem_toArray, List.getElem_cons_zero, List.getElem_cons_succ]
                  refine wpAnyH_take (i := 25) (v := ?v3_60) rfl (by kernel_rfl) (by kernel_rfl) (by kernel_rfl) (fun _ _ _ h => h) (Or.inl ⟨by rfl, ?y3_60⟩) (by assumption) ?r3_60
                  case y3_60 => (intro w hSw; (try dsimp only at hSw); (dsimp only [List.getElem_toArray, List.getElem_cons_zero, List.getElem_cons_succ]); (simp only [execOp, fv_const, fv_eq, fv_ne, fv_size, hAz, Nat.reduceLT, ne_eq, Nat.reduceEqDiff, not_false_eq_true, hA4, hA8, hA12, hA13]); go_simp; try with_reducible rfl)
                  dsimp only [List.getElem_toArray, List.getElem_cons_zero, List.getElem_cons_succ]
                  refine wpAnyH_take (i := 27) (v := ?v3_61) rfl (by kernel_rfl) (by kernel_rfl) (by kernel_rfl) (fun _ _ _ h => h) (Or.inl ⟨by rfl, ?y3_61⟩) (by assumption) ?r3_61
                  case y3_61 => (intro w hSw; (try dsimp only at hSw); (dsimp only [List.getElem_toArray, List.getElem_cons_zero, List.getElem_cons_succ]); (simp only [execOp, fv_const, fv_eq, fv_ne, fv_size, hAz, Nat.reduceLT, ne_eq, Nat.reduceEqDiff, not_false_eq_true, hA4, hA8, hA12, hA13]); go_simp; try with_reducible rfl)
                  dsimp only [List.getElem_toArray, List.getElem_cons_zero, List.getElem_cons_succ]
                  refine wpAnyH_take (i := 28) (v := ?v3_62) rfl (by kernel_rfl) (by kernel_rfl) (by kernel_rfl) (fun _ _ _ h => h) (Or.inl ⟨by rfl, ?y3_62⟩) (by assumption) ?r3_62
                  case y3_62 => (intro w hSw; (try dsimp only at hSw); (dsimp only [List.getElem_toArray, List.getElem_cons_zero, List.getElem_cons_succ]); (simp only [execOp, fv_const, fv_eq, fv_ne, fv_size, hAz, Nat.reduceLT, ne_eq, Nat.reduceEqDiff, not_false_eq_true, hA4, hA8, hA12, hA13]); go_simp; try with_reducible rfl)
                  dsimp only [List.getElem_toArray, List.getElem_cons_zero, List.getElem_cons_succ]
                  refine wpAnyH_take (i := 29) (v := ?v3_63) rfl (by kernel_rfl) (by kernel_rfl) (by kernel_rfl) (fun _ _ _ h => h) (Or.inl ⟨by rfl, ?y3_63⟩) (by assumption) ?r3_63
                  case y3_63 => (intro w hSw; (try dsimp only at hSw); (dsimp only [List.getElem_toArray, List.getElem_cons_zero, List.getElem_cons_succ]); (simp only [execOp, fv_const, fv_eq, fv_ne, fv_size, hAz, Nat.reduceLT, ne_eq, Nat.reduceEqDiff, not_false_eq_true, hA4, hA8, hA12, hA13]); go_simp; try with_reducible rfl)
                  dsimp only [List.getElem_toArray, List.getElem_cons_zero, List.getElem_cons_succ]
                  refine wpAnyH_take (i := 31) (v := ?v3_64) rfl (by kernel_rfl) (by kernel_rfl) (by kernel_rfl) (fun _ _ _ h => h) (Or.inl ⟨by rfl, ?y3_64⟩) (by assumption) ?r3_64
                  case y3_64 => (intro w hSw; (try dsimp only at hSw); (dsimp only [List.getElem_toArray, List.getElem_cons_zero, List.getElem_cons_succ]); (simp only [execOp, fv_const, fv_eq, fv_ne, fv_size, hAz, Nat.reduceLT, ne_eq, Nat.reduceEqDiff, not_false_eq_true, hA4, hA8, hA12, hA13]); go_simp; try with_reducible rfl)
                  dsimp only [List.getElem_toArray, List.getElem_cons_zero, List.getElem_cons_succ]
                  refine wpAnyH_take (i := 32) (v := ?v3_65) rfl (by kernel_rfl) (by kernel_rfl) (by kernel_rfl) (fun _ _ _ h => h) (Or.inl ⟨by rfl, ?y3_65⟩) (by assumption) ?r3_65
                  case y3_65 => (intro w hSw; (try dsimp only at hSw); (dsimp only [List.getElem_toArray, List.getElem_cons_zero, List.getElem_cons_succ]); (simp only [execOp, fv_const, fv_eq, fv_ne, fv_size, hAz, Nat.reduceLT, ne_eq, Nat.reduceEqDiff, not_false_eq_true, hA4, hA8, hA12, hA13]); go_simp; try with_reducible rfl)
                  dsimp only [List.getElem_toArray, List.getElem_cons_zero, List.getElem_cons_succ]
                  refine wpAnyH_take (i := 33) (v := ?v3_66) rfl (by kernel_rfl) (by kernel_rfl) (by kernel_rfl) (fun _ _ _ h => h) (Or.inl ⟨by rfl, ?y3_66⟩) (by assumption) ?r3_66
                  case y3_66 => (intro w hSw; (try dsimp only at hSw); (dsimp only [List.getElem_toArray, List.getElem_cons_zero, List.getElem_cons_succ]); (simp only [execOp, fv_const, fv_eq, fv_ne, fv_size, hAz, Nat.reduceLT, ne_eq, Nat.reduceEqDiff, not_false_eq_true, hA4, hA8, hA12, hA13]); go_simp; try with_reducible rfl)
                  dsimp only [List.getElem_toArray, List.getElem_cons_zero, List.getElem_cons_succ]
                  refine wpAnyH_ready (rs := [4]) (by kernel_rfl) (by simp) ?_
                  refine AllReadyH.cons rfl (fun K hK => ?_) AllReadyH.nil
                  rw [if_pos (by rfl)]
                  dsimp only [List.getElem_toArray, List.getElem_cons_zero, List.getElem_cons_succ]
                  refine oper_call_same rfl (rturnL xe 6 (by decide) 6 rfl) (fv_turn _ _) (by simp only [List.map_toArray, List.map_cons, List.map_nil, fv_const, fv_eq, fv_ne, fv_size, hAz, Nat.reduceLT, ne_eq, Nat.reduceEqDiff, not_false_eq_true, hA4, hA8, hA12, hA13]) ?_
                  refine hK.out _ _ (⟨x4, x5, x6, x7, ck, cw⟩) (fun hHeld => ?_)
                  clear hK K
                  refine wpAnyH_ready (rs := [7]) (by kernel_rfl) (by simp) ?_
                  refine AllReadyH.cons rfl (fun K hK => ?_) AllReadyH.nil
                  rw [if_pos (by rfl)]
                  dsimp only [List.getElem_toArray, List.getElem_cons_zero, List.getElem_cons_succ]
                  refine oper_call_same rfl (rturnL xe 11 (by decide) 11 rfl) (fv_turn _ _) (by simp only [List.map_toArray, List.map_cons, List.map_nil, fv_const, fv_eq, fv_ne, fv_size, hAz, Nat.reduceLT, ne_eq, Nat.reduceEqDiff, not_false_eq_true, hA4, hA8, hA12, hA13]) ?_
                  refine hK.out _ _ (⟨x4, x5, x6, x7, ck, cw⟩) (fun hHeld => ?_)
                  clear hK K
                  refine wpAnyH_take (i := 8) (v := ?v3_69) rfl (by kernel_rfl) (by kernel_rfl) (by kernel_rfl) (fun _ _ _ h => h) (Or.inl ⟨by rfl, ?y3_69⟩) (by assumption) ?r3_69
                  case y3_69 => (intro w hSw; (try dsimp only at hSw); (dsimp only [List.getElem_toArray, List.getElem_cons_zero, List.getElem_cons_succ]); (simp only [execOp, fv_const, fv_eq, fv_ne, fv_size, hAz, Nat.reduceLT, ne_eq, Nat.reduceEqDiff, not_false_eq_true, hA4, hA8, hA12, hA13]); go_simp; try with_reducible rfl)
                  dsimp only [List.getElem_toArray, List.getElem_cons_zero, List.getElem_cons_succ]
                  refine wpAnyH_ready (rs := [11]) (by kernel_rfl) (by simp) ?_
                  refine AllReadyH.cons rfl (fun K hK => ?_) AllReadyH.nil
                  rw [if_pos (by rfl)]
                  dsimp only [List.getElem_toArray, List.getElem_cons_zero, List.getElem_cons_succ]
                  refine oper_call_same rfl (rturnL xe 25 (by decide) 25 rfl) (fv_turn _ _) (by simp only [List.map_toArray, List.map_cons, List.map_nil, fv_const, fv_eq, fv_ne, fv_size, hAz, Nat.reduceLT, ne_eq, Nat.reduceEqDiff, not_false_eq_true, hA4, hA8, hA12, hA13]) ?_
                  refine hK.out _ _ (⟨x4, x5, x6, x7, ck, cw⟩) (fun hHeld => ?_)
                  clear hK K
                  refine wpAnyH_take (i := 12) (v := ?v3_71) rfl (by kernel_rfl) (by kernel_rfl) (by kernel_rfl) (fun _ _ _ h => h) (Or.inl ⟨by rfl, ?y3_71⟩) (by assumption) ?r3_71
                  case y3_71 => (intro w hSw; (try dsimp only at hSw); (dsimp only [List.getElem_toArray, List.getElem_cons_zero, List.getElem_cons_succ]); (simp only [execOp, fv_const, fv_eq, fv_ne, fv_size, hAz, Nat.reduceLT, ne_eq, Nat.reduceEqDiff, not_false_eq_true, hA4, hA8, hA12, hA13]); go_simp; try with_reducible rfl)
                  dsimp only [List.getElem_toArray, List.getElem_cons_zero, List.getElem_cons_succ]
                  refine wpAnyH_take (i := 13) (v := ?v3_72) rfl (by kernel_rfl) (by kernel_rfl) (by kernel_rfl) (fun _ _ _ h => h) (Or.inl ⟨by rfl, ?y3_72⟩) (by assumption) ?r3_72
                  case y3_72 => (intro w hSw; (try dsimp only at hSw); (dsimp only [List.getElem_toArray, List.getElem_cons_zero, List.getElem_cons_succ]); (simp only [execOp, fv_const, fv_eq, fv_ne, fv_size, hAz, Nat.reduceLT, ne_eq, Nat.reduceEqDiff, not_false_eq_true, hA4, hA8, hA12, hA13]); go_simp; try with_reducible rfl)
                  dsimp only [List.getElem_toArray, List.getElem_cons_zero, List.getElem_cons_succ]
                  refine wpAnyH_take (i := 26) (v := ?v3_73) rfl (by kernel_rfl) (by kernel_rfl) (by kernel_rfl) (fun _ _ _ h => h) (Or.inl ⟨by rfl, ?y3_73⟩) (by assumption) ?r3_73
                  case y3_73 => (intro w hSw; (try dsimp only at hSw); (dsimp only [List.getElem_toArray, List.getElem_cons_zero, List.getElem_cons_succ]); (simp only [execOp, fv_const, fv_eq, fv_ne, fv_size, hAz, Nat.reduceLT, ne_eq, Nat.reduceEqDiff, not_false_eq_true, hA4, hA8, hA12, hA13]); go_simp; try with_reducible rfl)
                  dsimp only [List.getElem_toArray, List.getElem_cons_zero, List.getElem_cons_succ]
                  refine wpAnyH_take (i := 30) (v := ?v3_74) rfl (by kernel_rfl) (by kernel_rfl) (by kernel_rfl) (fun _ _ _ h => h) (Or.inl ⟨by rfl, ?y3_74⟩) (by assumption) ?r3_74
                  case y3_74 => (intro w hSw; (try dsimp only at hSw); (dsimp only [List.getElem_toArray, List.getElem_cons_zero, List.getElem_cons_succ]); (simp only [execOp, fv_const, fv_eq, fv_ne, fv_size, hAz, Nat.reduceLT, ne_eq, Nat.reduceEqDiff, not_false_eq_true, hA4, hA8, hA12, hA13]); go_simp; try with_reducible rfl)
                  dsimp only [List.getElem_toArray, List.getElem_cons_zero, List.getElem_cons_succ]
                  refine wpAnyH_take (i := 34) (v := ?v3_75) rfl (by kernel_rfl) (by kernel_rfl) (by kernel_rfl) (fun _ _ _ h => h) (Or.inl ⟨by rfl, ?y3_75⟩) (by assumption) ?r3_75
                  case y3_75 => (intro w hSw; (try dsimp only at hSw); (dsimp only [List.getElem_toArray, List.getElem_cons_zero, List.getElem_cons_succ]); (simp only [execOp, fv_const, fv_eq, fv_ne, fv_size, hAz, Nat.reduceLT, ne_eq, Nat.reduceEqDiff, not_false_eq_true, hA4, hA8, hA12, hA13]); go_simp; try with_reducible rfl)
                  dsimp only [List.getElem_toArray, List.getElem_cons_zero, List.getElem_cons_succ]
                  refine wpAnyH_take (i := 35) (v := ?v3_76) rfl (by kernel_rfl) (by kernel_rfl) (by kernel_rfl) (fun _ _ _ h => h) (Or.inl ⟨by rfl, ?y3_76⟩) (by assumption) ?r3_76
                  case y3_76 => (intro w hSw; (try dsimp only at hSw); (dsimp only [List.getElem_toArray, List.getElem_cons_zero, List.getElem_cons_succ]); (simp only [execOp, fv_const, fv_eq, fv_ne, fv_size, hAz, Nat.reduceLT, ne_eq, Nat.reduceEqDiff, not_false_eq_true, hA4, hA8, hA12, hA13]); go_simp; try with_reducible rfl)
                  dsimp only [List.getElem_toArray, List.getElem_cons_zero, List.getElem_cons_succ]
                  rw [HAA.out]
                  simp only [fv_lit, fv_none]
                  dsimp only [List.set_cons_zero, List.set_cons_succ]
                  refine wpAnyH_done (by kernel_rfl) ?_ _
                  refine NoPanic.normal ?_
                  rw [show (if IntKind.u32.signed = true then (-1 : Int) else IntKind.u32.max) = IntKind.u32.max from rfl, rch_int, xor32, xor32, wadd32, wadd32, wadd32, wadd32]
                  have hone : ∀ s : St, s = ⟨xa, xb, xc, xd, xe, xf, xg, xh⟩ → xh + (rotr 6 xe ^^^ rotr 11 xe ^^^ rotr 25 xe) + ((xe &&& xf) ||| (~~~ xe &&& xg)) + kk + ww = s.one kk ww := by rintro _ rfl; rfl
                  have htwo : ∀ s : St, s = ⟨xa, xb, xc, xd, xe, xf, xg, xh⟩ → (rotr 2 xa ^^^ rotr 13 xa ^^^ rotr 22 xa) + (((xa &&& xb) ||| (xa &&& xc)) ||| (xb &&& xc)) = s.two := by rintro _ rfl; rfl
                  rw [hone _ rfl]
                  generalize ho : St.one _ kk ww = one at *
                  have HO := Lib.hid ho
                  have H2 := Lib.hid (htwo _ rfl)
                  clear ho hone htwo hAz hA4 hA8 hA12 hA13
                  go_wp2_with fail
                  refine wp_frame ?_
                  intro A hA
                  have hAz : A.tmps.size = 221 := by rw [hA]; rfl
                  have hA12 : A.eval (.tmp 12) = (.pointer (some ⟨Y, 0, none⟩)) := by rw [hA]; rfl
                  have HAA := Lib.hid hA
                  clear hA
                  refine wp_region_noPanic ?_
                  refine wp_region_held_drew (S := (fun w' => w'.cell? ⟨Y, 0, none⟩ = some (B32 xa) ∧ w'.cell? ⟨Y, 1, none⟩ = some (B32 xb) ∧ w'.cell? ⟨Y, 2, none⟩ = some (B32 xc))) (by kernel_rfl) ⟨x0, x1, x2⟩ (fun hHeld => ?_)
                  refine wpAnyH_take (i := 0) (v := ?v4_77) rfl (by kernel_rfl) (by kernel_rfl) (by kernel_rfl) (fun _ _ _ h => h) (Or.inl ⟨by rfl, ?y4_77⟩) (by assumption) ?r4_77
                  case y4_77 => (intro w hSw; (try dsimp only at hSw); (dsimp only [List.getElem_toArray, List.getElem_cons_zero, List.getElem_cons_succ]); (simp only [execOp, fv_const, fv_eq, fv_ne, fv_size, hAz, Nat.reduceLT, ne_eq, Nat.reduceEqDiff, not_false_eq_true, hA12]); go_simp; try with_reducible rfl)
                  dsimp only [List.getElem_toArray, List.getElem_cons_zero, List.getElem_cons_succ]
                  refine wpAnyH_take (i := 1) (v := ?v4_78) rfl (by kernel_rfl) (by kernel_rfl) (by kernel_rfl) (fun _ _ _ h => h) (Or.inl ⟨by rfl, ?y4_78⟩) (by assumption) ?r4_78
                  case y4_78 => (intro w hSw; (try dsimp only at hSw); (dsimp only [List.getElem_toArray, List.getElem_cons_zero, List.getElem_cons_succ]); (simp only [execOp, fv_const, fv_eq, fv_ne, fv_size, hAz, Nat.reduceLT, ne_eq, Nat.reduceEqDiff, not_false_eq_true, hA12]); go_simp; try with_reducible rfl)
                  dsimp only [List.getElem_toArray, List.getElem_cons_zero, List.getElem_cons_succ]
                  refine wpAnyH_take (i := 3) (v := ?v4_79) rfl (by kernel_rfl) (by kernel_rfl) (by kernel_rfl) (fun _ _ _ h => h) (Or.inl ⟨by rfl, ?y4_79⟩) (by assumption) ?r4_79
                  case y4_79 => (intro w hSw; (try dsimp only at hSw); (dsimp only [List.getElem_toArray, List.getElem_cons_zero, List.getElem_cons_succ]); (simp only [execOp, fv_const, fv_eq, fv_ne, fv_size, hAz, Nat.reduceLT, ne_eq, Nat.reduceEqDiff, not_false_eq_true, hA12]); go_simp; try with_reducible rfl)
                  dsimp only [List.getElem_toArray, List.getElem_cons_zero, List.getElem_cons_succ]
                  refine wpAnyH_take (i := 4) (v := ?v4_80) rfl (by kernel_rfl) (by kernel_rfl) (by kernel_rfl) (fun _ _ _ h => h) (Or.inl ⟨by rfl, ?y4_80⟩) (by assumption) ?r4_80
                  case y4_80 => (intro w hSw; (try dsimp only at hSw); (dsimp only [List.getElem_toArray, List.getElem_cons_zero, List.getElem_cons_succ]); (simp only [execOp, fv_const, fv_eq, fv_ne, fv_size, hAz, Nat.reduceLT, ne_eq, Nat.reduceEqDiff, not_false_eq_true, hA12]); go_simp; try with_reducible rfl)
                  dsimp only [List.getElem_toArray, List.getElem_cons_zero, List.getElem_cons_succ]
                  refine wpAnyH_take (i := 7) (v := ?v4_81) rfl (by kernel_rfl) (by kernel_rfl) (by kernel_rfl) (fun _ _ _ h => h) (Or.inl ⟨by rfl, ?y4_81⟩) (by assumption) ?r4_81
                  case y4_81 => (intro w hSw; (try dsimp only at hSw); (dsimp only [List.getElem_toArray, List.getElem_cons_zero, List.getElem_cons_succ]); (simp only [execOp, fv_const, fv_eq, fv_ne, fv_size, hAz, Nat.reduceLT, ne_eq, Nat.reduceEqDiff, not_false_eq_true, hA12]); go_simp; try with_reducible rfl)
                  dsimp only [List.getElem_toArray, List.getElem_cons_zero, List.getElem_cons_succ]
                  refine wpAnyH_take (i := 8) (v := ?v4_82) rfl (by kernel_rfl) (by kernel_rfl) (by kernel_rfl) (fun _ _ _ h => h) (Or.inl ⟨by rfl, ?y4_82⟩) (by assumption) ?r4_82
                  case y4_82 => (intro w hSw; (try dsimp only at hSw); (dsimp only [List.getElem_toArray, List.getElem_cons_zero, List.getElem_cons_succ]); (simp only [execOp, fv_const, fv_eq, fv_ne, fv_size, hAz, Nat.reduceLT, ne_eq, Nat.reduceEqDiff, not_false_eq_true, hA12]); go_simp; try with_reducible rfl)
                  dsimp only [List.getElem_toArray, List.getElem_cons_zero, List.getElem_cons_succ]
                  refine wpAnyH_take (i := 11) (v := ?v4_83) rfl (by kernel_rfl) (by kernel_rfl) (by kernel_rfl) (fun _ _ _ h => h) (Or.inl ⟨by rfl, ?y4_83⟩) (by assumption) ?r4_83
                  case y4_83 => (intro w hSw; (try dsimp only at hSw); (dsimp only [List.getElem_toArray, List.getElem_cons_zero, List.getElem_cons_succ]); (simp only [execOp, fv_const, fv_eq, fv_ne, fv_size, hAz, Nat.reduceLT, ne_eq, Nat.reduceEqDiff, not_false_eq_true, hA12]); go_simp; try with_reducible rfl)
                  dsimp only [List.getElem_toArray, List.getElem_cons_zero, List.getElem_cons_succ]
                  refine wpAnyH_take (i := 12) (v := ?v4_84) rfl (by kernel_rfl) (by kernel_rfl) (by kernel_rfl) (fun _ _ _ h => h) (Or.inl ⟨by rfl, ?y4_84⟩) (by assumption) ?r4_84
                  case y4_84 => (intro w hSw; (try dsimp only at hSw); (dsimp only [List.getElem_toArray, List.getElem_cons_zero, List.getElem_cons_succ]); (simp only [execOp, fv_const, fv_eq, fv_ne, fv_size, hAz, Nat.reduceLT, ne_eq, Nat.reduceEqDiff, not_false_eq_true, hA12]); go_simp; try with_reducible rfl)
                  dsimp only [List.getElem_toArray, List.getElem_cons_zero, List.getElem_cons_succ]
                  refine wpAnyH_take (i := 13) (v := ?v4_85) rfl (by kernel_rfl) (by kernel_rfl) (by kernel_rfl) (fun _ _ _ h => h) (Or.inl ⟨by rfl, ?y4_85⟩) (by assumption) ?r4_85
                  case y4_85 => (intro w hSw; (try dsimp only at hSw); (dsimp only [List.getElem_toArray, List.getElem_cons_zero, List.getElem_cons_succ]); (simp only [execOp, fv_const, fv_eq, fv_ne, fv_size, hAz, Nat.reduceLT, ne_eq, Nat.reduceEqDiff, not_false_eq_true, hA12]); go_simp; try with_reducible rfl)
                  dsimp only [List.getElem_toArray, List.getElem_cons_zero, List.getElem_cons_succ]
                  refine wpAnyH_take (i := 14) (v := ?v4_86) rfl (by kernel_rfl) (by kernel_rfl) (by kernel_rfl) (fun _ _ _ h => h) (Or.inl ⟨by rfl, ?y4_86⟩) (by assumption) ?r4_86
                  case y4_86 => (intro w hSw; (try dsimp only at hSw); (dsimp only [List.getElem_toArray, List.getElem_cons_zero, List.getElem_cons_succ]); (simp only [execOp, fv_const, fv_eq, fv_ne, fv_size, hAz, Nat.reduceLT, ne_eq, Nat.reduceEqDiff, not_false_eq_true, hA12]); go_simp; try with_reducible rfl)
                  dsimp only [List.getElem_toArray, List.getElem_cons_zero, List.getElem_cons_succ]
                  refine wpAnyH_take (i := 15) (v := ?v4_87) rfl (by kernel_rfl) (by kernel_rfl) (by kernel_rfl) (fun _ _ _ h => h) (Or.inl ⟨by rfl, ?y4_87⟩) (by assumption) ?r4_87
                  case y4_87 => (intro w hSw; (try dsimp only at hSw); (dsimp only [List.getElem_toArray, List.getElem_cons_zero, List.getElem_cons_succ]); (simp only [execOp, fv_const, fv_eq, fv_ne, fv_size, hAz, Nat.reduceLT, ne_eq, Nat.reduceEqDiff, not_false_eq_true, hA12]); go_simp; try with_reducible rfl)
                  dsimp only [List.getElem_toArray, List.getElem_cons_zero, List.getElem_cons_succ]
                  refine wpAnyH_take (i := 16) (v := ?v4_88) rfl (by kernel_rfl) (by kernel_rfl) (by kernel_rfl) (fun _ _ _ h => h) (Or.inl ⟨by rfl, ?y4_88⟩) (by assumption) ?r4_88
                  case y4_88 => (intro w hSw; (try dsimp only at hSw); (dsimp only [List.getElem_toArray, List.getElem_cons_zero, List.getElem_cons_succ]); (simp only [execOp, fv_const, fv_eq, fv_ne, fv_size, hAz, Nat.reduceLT, ne_eq, Nat.reduceEqDiff, not_false_eq_true, hA12]); go_simp; try with_reducible rfl)
                  dsimp only [List.getElem_toArray, List.getElem_cons_zero, List.getElem_cons_succ]
                  refine wpAnyH_take (i := 17) (v := ?v4_89) rfl (by kernel_rfl) (by kernel_rfl) (by kernel_rfl) (fun _ _ _ h => h) (Or.inl ⟨by rfl, ?y4_89⟩) (by assumption) ?r4_89
                  case y4_89 => (intro w hSw; (try dsimp only at hSw); (dsimp only [List.getElem_toArray, List.getElem_cons_zero, List.getElem_cons_succ]); (simp only [execOp, fv_const, fv_eq, fv_ne, fv_size, hAz, Nat.reduceLT, ne_eq, Nat.reduceEqDiff, not_false_eq_true, hA12]); go_simp; try with_reducible rfl)
                  dsimp only [List.getElem_toArray, List.getElem_cons_zero, List.getElem_cons_succ]
                  refine wpAnyH_take (i := 18) (v := ?v4_90) rfl (by kernel_rfl) (by kernel_rfl) (by kernel_rfl) (fun _ _ _ h => h) (Or.inl ⟨by rfl, ?y4_90⟩) (by assumption) ?r4_90
                  case y4_90 => (intro w hSw; (try dsimp only at hSw); (dsimp only [List.getElem_toArray, List.getElem_cons_zero, List.getElem_cons_succ]); (simp only [execOp, fv_const, fv_eq, fv_ne, fv_size, hAz, Nat.reduceLT, ne_eq, Nat.reduceEqDiff, not_false_eq_true, hA12]); go_simp; try with_reducible rfl)
                  dsimp only [List.getElem_toArray, List.getElem_cons_zero, List.getElem_cons_succ]
                  refine wpAnyH_take (i := 19) (v := ?v4_91) rfl (by kernel_rfl) (by kernel_rfl) (by kernel_rfl) (fun _ _ _ h => h) (Or.inl ⟨by rfl, ?y4_91⟩) (by assumption) ?r4_91
                  case y4_91 => (intro w hSw; (try dsimp only at hSw); (dsimp only [List.getElem_toArray, List.getElem_cons_zero, List.getElem_cons_succ]); (simp only [execOp, fv_const, fv_eq, fv_ne, fv_size, hAz, Nat.reduceLT, ne_eq, Nat.reduceEqDiff, not_false_eq_true, hA12]); go_simp; try with_reducible rfl)
                  dsimp only [List.getElem_toArray, List.getElem_cons_zero, List.getElem_cons_succ]
                  refine wpAnyH_take (i := 20) (v := ?v4_92) rfl (by kernel_rfl) (by kernel_rfl) (by kernel_rfl) (fun _ _ _ h => h) (Or.inl ⟨by rfl, ?y4_92⟩) (by assumption) ?r4_92
                  case y4_92 => (intro w hSw; (try dsimp only at hSw); (dsimp only [List.getElem_toArray, List.getElem_cons_zero, List.getElem_cons_succ]); (simp only [execOp, fv_const, fv_eq, fv_ne, fv_size, hAz, Nat.reduceLT, ne_eq, Nat.reduceEqDiff, not_false_eq_true, hA12]); go_simp; try with_reducible rfl)
                  dsimp only [List.getElem_toArray, List.getElem_cons_zero, List.getElem_cons_succ]
                  refine wpAnyH_take (i := 21) (v := ?v4_93) rfl (by kernel_rfl) (by kernel_rfl) (by kernel_rfl) (fun _ _ _ h => h) (Or.inl ⟨by rfl, ?y4_93⟩) (by assumption) ?r4_93
                  case y4_93 => (intro w hSw; (try dsimp only at hSw); (dsimp only [List.getElem_toArray, List.getElem_cons_zero, List.getElem_cons_succ]); (simp only [execOp, fv_const, fv_eq, fv_ne, fv_size, hAz, Nat.reduceLT, ne_eq, Nat.reduceEqDiff, not_false_eq_true, hA12]); go_simp; try with_reducible rfl)
                  dsimp only [List.getElem_toArray, List.getElem_cons_zero, List.getElem_cons_succ]
                  refine wpAnyH_take (i := 22) (v := ?v4_94) rfl (by kernel_rfl) (by kernel_rfl) (by kernel_rfl) (fun _ _ _ h => h) (Or.inl ⟨by rfl, ?y4_94⟩) (by assumption) ?r4_94
                  case y4_94 => (intro w hSw; (try dsimp only at hSw); (dsimp only [List.getElem_toArray, List.getElem_cons_zero, List.getElem_cons_succ]); (simp only [execOp, fv_const, fv_eq, fv_ne, fv_size, hAz, Nat.reduceLT, ne_eq, Nat.reduceEqDiff, not_false_eq_true, hA12]); go_simp; try with_reducible rfl)
                  dsimp only [List.getElem_toArray, List.getElem_cons_zero, List.getElem_cons_succ]
                  refine wpAnyH_take (i := 23) (v := ?v4_95) rfl (by kernel_rfl) (by kernel_rfl) (by kernel_rfl) (fun _ _ _ h => h) (Or.inl ⟨by rfl, ?y4_95⟩) (by assumption) ?r4_95
                  case y4_95 => (intro w hSw; (try dsimp only at hSw); (dsimp only [List.getElem_toArray, List.getElem_cons_zero, List.getElem_cons_succ]); (simp only [execOp, fv_const, fv_eq, fv_ne, fv_size, hAz, Nat.reduceLT, ne_eq, Nat.reduceEqDiff, not_false_eq_true, hA12]); go_simp; try with_reducible rfl)
                  dsimp only [List.getElem_toArray, List.getElem_cons_zero, List.getElem_cons_succ]
                  refine wpAnyH_take (i := 24) (v := ?v4_96) rfl (by kernel_rfl) (by kernel_rfl) (by kernel_rfl) (fun _ _ _ h => h) (Or.inl ⟨by rfl, ?y4_96⟩) (by assumption) ?r4_96
                  case y4_96 => (intro w hSw; (try dsimp only at hSw); (dsimp only [List.getElem_toArray, List.getElem_cons_zero, List.getElem_cons_succ]); (simp only [execOp, fv_const, fv_eq, fv_ne, fv_size, hAz, Nat.reduceLT, ne_eq, Nat.reduceEqDiff, not_false_eq_true, hA12]); go_simp; try with_reducible rfl)
                  dsimp only [List.getElem_toArray, List.getElem_cons_zero, List.getElem_cons_succ]
                  refine wpAnyH_take (i := 25) (v := ?v4_97) rfl (by kernel_rfl) (by kernel_rfl) (by kernel_rfl) (fun _ _ _ h => h) (Or.inl ⟨by rfl, ?y4_97⟩) (by assumption) ?r4_97
                  case y4_97 => (intro w hSw; (try dsimp only at hSw); (dsimp only [List.getElem_toArray, List.getElem_cons_zero, List.getElem_cons_succ]); (simp only [execOp, fv_const, fv_eq, fv_ne, fv_size, hAz, Nat.reduceLT, ne_eq, Nat.reduceEqDiff, not_false_eq_true, hA12]); go_simp; try with_reducible rfl)
                  dsimp only [List.getElem_toArray, List.getElem_cons_zero, List.getElem_cons_succ]
                  refine wpAnyH_take (i := 26) (v := ?v4_98) rfl (by kernel_rfl) (by kernel_rfl) (by kernel_rfl) (fun _ _ _ h => h) (Or.inl ⟨by rfl, ?y4_98⟩) (by assumption) ?r4_98
                  case y4_98 => (intro w hSw; (try dsimp only at hSw); (dsimp only [List.getElem_toArray, List.getElem_cons_zero, List.getElem_cons_succ]); (simp only [execOp, fv_const, fv_eq, fv_ne, fv_size, hAz, Nat.reduceLT, ne_eq, Nat.reduceEqDiff, not_false_eq_true, hA12]); go_simp; try with_reducible rfl)
                  dsimp only [List.getElem_toArray, List.getElem_cons_zero, List.getElem_cons_succ]
                  refine wpAnyH_take (i := 27) (v := ?v4_99) rfl (by kernel_rfl) (by kernel_rfl) (by kernel_rfl) (fun _ _ _ h => h) (Or.inl ⟨by rfl, ?y4_99⟩) (by assumption) ?r4_99
                  case y4_99 => (intro w hSw; (try dsimp only at hSw); (dsimp only [List.getElem_toArray, List.getElem_cons_zero, List.getElem_cons_succ]); (simp only [execOp, fv_const, fv_eq, fv_ne, fv_size, hAz, Nat.reduceLT, ne_eq, Nat.reduceEqDiff, not_false_eq_true, hA12]); go_simp; try with_reducible rfl)
                  dsimp only [List.getElem_toArray, List.getElem_cons_zero, List.getElem_cons_succ]
                  refine wpAnyH_ready (rs := [2]) (by kernel_rfl) (by simp) ?_
                  refine AllReadyH.cons rfl (fun K hK => ?_) AllReadyH.nil
                  rw [if_pos (by rfl)]
                  dsimp only [List.getElem_toArray, List.getElem_cons_zero, List.getElem_cons_succ]
                  refine oper_call_same rfl (rturnL xa 2 (by decide) 2 rfl) (fv_turn _ _) (by simp only [List.map_toArray, List.map_cons, List.map_nil, fv_const, fv_eq, fv_ne, fv_size, hAz, Nat.reduceLT, ne_eq, Nat.reduceEqDiff, not_false_eq_true, hA12]) ?_
                  refine hK.out _ _ (⟨x0, x1, x2⟩) (fun hHeld => ?_)
                  clear hK K
                  refine wpAnyH_ready (rs := [5]) (by kernel_rfl) (by simp) ?_
                  refine AllReadyH.cons rfl (fun K hK => ?_) AllReadyH.nil
                  rw [if_pos (by rfl)]
                  dsimp only [List.getElem_toArray, List.getElem_cons_zero, List.getElem_cons_succ]
                  refine oper_call_same rfl (rturnL xa 13 (by decide) 13 rfl) (fv_turn _ _) (by simp only [List.map_toArray, List.map_cons, List.map_nil, fv_const, fv_eq, fv_ne, fv_size, hAz, Nat.reduceLT, ne_eq, Nat.reduceEqDiff, not_false_eq_true, hA12]) ?_
                  refine hK.out _ _ (⟨x0, x1, x2⟩) (fun hHeld => ?_)
                  clear hK K
                  refine wpAnyH_take (i := 6) (v := ?v4_102) rfl (by kernel_rfl) (by kernel_rfl) (by kernel_rfl) (fun _ _ _ h => h) (Or.inl ⟨by rfl, ?y4_102⟩) (by assumption) ?r4_102
                  case y4_102 => (intro w hSw; (try dsimp only at hSw); (dsimp only [List.getElem_toArray, List.getElem_cons_zero, List.getElem_cons_succ]); (simp only [execOp, fv_const, fv_eq, fv_ne, fv_size, hAz, Nat.reduceLT, ne_eq, Nat.reduceEqDiff, not_false_eq_true, hA12]); go_simp; try with_reducible rfl)
                  dsimp only [List.getElem_toArray, List.getElem_cons_zero, List.getElem_cons_succ]
                  refine wpAnyH_ready (rs := [9]) (by kernel_rfl) (by simp) ?_
                  refine AllReadyH.cons rfl (fun K hK => ?_) AllReadyH.nil
                  rw [if_pos (by rfl)]
                  dsimp only [List.getElem_toArray, List.getElem_cons_zero, List.getElem_cons_succ]
                  refine oper_call_same rfl (rturnL xa 22 (by decide) 22 rfl) (fv_turn _ _) (by simp only [List.map_toArray, List.map_cons, List.map_nil, fv_const, fv_eq, fv_ne, fv_size, hAz, Nat.reduceLT, ne_eq, Nat.reduceEqDiff, not_false_eq_true, hA12]) ?_
                  refine hK.out _ _ (⟨x0, x1, x2⟩) (fun hHeld => ?_)
                  clear hK K
                  refine wpAnyH_take (i := 10) (v := ?v4_104) rfl (by kernel_rfl) (by kernel_rfl) (by kernel_rfl) (fun _ _ _ h => h) (Or.inl ⟨by rfl, ?y4_104⟩) (by assumption) ?r4_104
                  case y4_104 => (intro w hSw; (try dsimp only at hSw); (dsimp only [List.getElem_toArray, List.getElem_cons_zero, List.getElem_cons_succ]); (simp only [execOp, fv_const, fv_eq, fv_ne, fv_size, hAz, Nat.reduceLT, ne_eq, Nat.reduceEqDiff, not_false_eq_true, hA12]); go_simp; try with_reducible rfl)
                  dsimp only [List.getElem_toArray, List.getElem_cons_zero, List.getElem_cons_succ]
                  refine wpAnyH_take (i := 28) (v := ?v4_105) rfl (by kernel_rfl) (by kernel_rfl) (by kernel_rfl) (fun _ _ _ h => h) (Or.inl ⟨by rfl, ?y4_105⟩) (by assumption) ?r4_105
                  case y4_105 => (intro w hSw; (try dsimp only at hSw); (dsimp only [List.getElem_toArray, List.getElem_cons_zero, List.getElem_cons_succ]); (simp only [execOp, fv_const, fv_eq, fv_ne, fv_size, hAz, Nat.reduceLT, ne_eq, Nat.reduceEqDiff, not_false_eq_true, hA12]); go_simp; try with_reducible rfl)
                  dsimp only [List.getElem_toArray, List.getElem_cons_zero, List.getElem_cons_succ]
                  refine wpAnyH_take (i := 29) (v := ?v4_106) rfl (by kernel_rfl) (by kernel_rfl) (by kernel_rfl) (fun _ _ _ h => h) (Or.inl ⟨by rfl, ?y4_106⟩) (by assumption) ?r4_106
                  case y4_106 => (intro w hSw; (try dsimp only at hSw); (dsimp only [List.getElem_toArray, List.getElem_cons_zero, List.getElem_cons_succ]); (simp only [execOp, fv_const, fv_eq, fv_ne, fv_size, hAz, Nat.reduceLT, ne_eq, Nat.reduceEqDiff, not_false_eq_true, hA12]); go_simp; try with_reducible rfl)
                  dsimp only [List.getElem_toArray, List.getElem_cons_zero, List.getElem_cons_succ]
                  rw [HAA.out]
                  simp only [fv_lit, fv_none]
                  dsimp only [List.set_cons_zero, List.set_cons_succ]
                  refine wpAnyH_done (by kernel_rfl) ?_ _
                  refine NoPanic.normal ?_
                  rw [rmj_int, xor32, xor32, wadd32, H2.out]
                  generalize hw2 : St.two _ = two at *
                  have HTw := Lib.hid hw2
                  clear hw2 hAz hA12 ck cw H2
                  have hYd : Blk wr.drew.drew Y 78 (St.mk xa xb xc xd xe xf xg xh).cells := HY.out
                  have hTh : wr.drew.drew.there Y 0 8 := hYd.there 8 rfl
                  have hB := hYd.setCells (cs := (St.mk (one + two) xa xb xc (xd + one) xe xf xg).cells) rfl
                  have hK1 := Keeps.setCells (S := [Y]) (b := Y) (by simp) (St.mk (one + two) xa xb xc (xd + one) xe xf xg).cells 0 wr wr.drew.drew ((Keeps.refl [Y] wr).drew.drew)
                  have HTh := Lib.hid hTh
                  have HB := Lib.hid hB
                  have HK1 := Lib.hid hK1
                  clear hTh hB hK1 hYd
                  go_upto_region 26 with (fail)
                  apply wp_region_lit
                  iterate 60 go_step
                  rw [add32, add32]
                  refine wpList_store_mid rfl 78 (.tmp 12) (.tmp 197) rfl Y 0 (St.mk (one + two) xa xb xc (xd + one) xe xf xg).cells.toArray (by rfl) (by rfl) HTh.out HsS.out (all_oneCell_toArray (all_one _)) ?_
                  simp only [Act.put]
                  generalize wr.drew.drew.setCells Y 0 _ = wn at *
                  go_wp2_with fail
                  go_roundw
                  case rel =>
                    have hyz := HYz.out
                    have R := Lib.hid (show Blk wn Y 78 (s.rounds V (n + 1)).cells from by rw [Hst'.out]; unfold St.round; rw [HO.out, HTw.out]; exact HB.out)
                    have R2 := Lib.hid (show Keeps [] wz wn from HK.out.trans' HK1.out (by simp) (by simp; omega))
                    first
                      | exact ⟨n + 1, by omega, by go_num, R.out, R2.out⟩
                      | ((repeat apply Exists.intro); refine ⟨?_, rfl⟩; exact ⟨n + 1, by omega, by go_num, R.out, R2.out⟩)
                  case measure => simp [intOf]; omega
                --L4E
                · --L5
                  obtain rfl : n = 64 := by omega
                  have htk : s.takes D = s.add (s.rounds V 64) := by rw [← HVV.out]; unfold St.takes; rfl
                  have hAl := plusTo_len s.list (s.rounds V 64).list
                  have hA8 := plusTo_all s (s.rounds V 64)
                  have hz0 : s.cells = (plusTo s.list (s.rounds V 64).list 0).map B32 := rfl
                  generalize s.rounds V 64 = x at *
                  have HTK := Lib.hid htk
                  have HA8 := Lib.hid hA8
                  have hX := HXz.out.keeps hK (by simp)
                  rw [hz0] at hX
                  clear htk hA8 hz0 hlt hn
                  go_wp2_with fail
                  go_loopw [199] (fun i wr => ∃ j : Nat, j ≤ 8 ∧ i = .int .i64 j ∧ Blk wr X 78 ((plusTo s.list x.list j).map B32) ∧ Blk wr Y 78 x.cells ∧ Keeps [X] wz wr) (fun i _ => 8 - (intOf i).toNat)
                  case atStart => exact ⟨0, by omega, rfl, hX, hY, hK.nil⟩
                  case round =>
                    clear hX hY hK
                    obtain ⟨j, hj, rfl, hX, hY, hK⟩ := hrel
                    have hAj := hAl j
                    by_cases hlt : j < 8
                    · have hstep := plusTo_succ s.list x.list j
                      have hx8 := St.list_len x
                      have ca : wr.cell? ⟨X, j, none⟩ = some (B32 ((plusTo s.list x.list j).getD j 0)) := hX.cell' (by rw [List.getElem?_map, List.getD, List.getElem?_eq_getElem (by rw [hAj]; exact hlt)]; rfl)
                      have cx : wr.cell? ⟨Y, j, none⟩ = some (B32 (x.list.getD j 0)) := hY.cell' (by rw [St.cells, List.getElem?_map, List.getD, List.getElem?_eq_getElem (Nat.lt_of_lt_of_eq hlt (St.list_len x).symm)]; rfl)
                      have fa : wr.frozen? ⟨X, j, none⟩ = false := hX.frozen _
                      generalize plusTo s.list x.list j = A at *
                      generalize A.getD j 0 = y at *
                      generalize x.list.getD j 0 = z at *
                      have hk0 : (j : Int) < 8 := by omega
                      have wk : IntKind.i64.wrap (j : Int) = (j : Int) := by rw [IntWalk.i64_left, IntWalk.wrap64_in _ (by omega)]
                      have Hstep := Lib.hid hstep
                      have HX := Lib.hid hX
                      have HY := Lib.hid hY
                      have HK := Lib.hid hK
                      clear hstep hX hY hK hAj hAl hx8
                      go_wp2_with fail
                      go_still_tail 8, (by kernel_rfl)
                      change wpList _ _ _ _ _ wr.drew
                      have fa' : wr.drew.frozen? ⟨X, j, none⟩ = false := fa
                      have ca' : wr.drew.cell? ⟨X, j, none⟩ = some (B32 y) := ca
                      go_wp2_with fail
                      first | rw [wadd32] | rw [add32]
                      go_roundw
                      case rel =>
                        have hyy := HYY.out
                        have hyz := HYz.out
                        have R1 := Lib.hid (show Blk (wr.drew.setCell ⟨X, j, none⟩ (B32 (y + z))) X 78 ((plusTo s.list x.list (j + 1)).map B32) from by rw [Hstep.out, List.map_set]; exact HX.out.drew.set j _)
                        have R2 := Lib.hid (show Blk (wr.drew.setCell ⟨X, j, none⟩ (B32 (y + z))) Y 78 x.cells from HY.out.drew.setOther _ (by simp; omega))
                        have R3 := Lib.hid (show Keeps [X] wz (wr.drew.setCell ⟨X, j, none⟩ (B32 (y + z))) from HK.out.drew.setCell (by simp) _)
                        first
                          | exact ⟨j + 1, by omega, by go_num, R1.out, R2.out, R3.out⟩
                          | ((repeat apply Exists.intro); refine ⟨?_, rfl⟩; exact ⟨j + 1, by omega, by go_num, R1.out, R2.out, R3.out⟩)
                      case measure => simp [intOf]; omega
                    · obtain rfl : j = 8 := by omega
                      rw [HA8.out, ← HTK.out] at hX
                      have hyy := HYY.out
                      have hxx := HXX.out
                      have hT := HTz.out.keeps hK (by simp; omega)
                      have hS := HSz.out.keeps hK (by simp; omega)
                      have hKw : Keeps [] w wr := HKw.out.trans' hK (by simp) (by simp; omega)
                      have HX := Lib.hid (show Blk wr X 78 (stBlocks L (k + 1)).cells from by rw [Hst.out]; exact hX)
                      have HT := Lib.hid hT
                      have HS := Lib.hid hS
                      have HKw := Lib.hid hKw
                      clear hX hY hK hT hS hKw hyy hxx hAj hAl hlt hj
                      go_wp2_with fail
                      go_roundw
                      case rel =>
                        have hkk := HKK.out
                        have R := Lib.hid (show ((KK : Int) + 64) = ((64 * (k + 1) : Nat) : Int) by omega)
                        first
                          | exact ⟨k + 1, by omega, by rw [← R.out], HS.out, HX.out, HT.out, HKw.out⟩
                          | ((repeat apply Exists.intro); refine ⟨?_, rfl⟩; exact ⟨k + 1, by omega, by rw [← R.out], HS.out, HX.out, HT.out, HKw.out⟩)
                      case measure => (have hkk := HKK.out; simp [intOf]; omega)
        · --L6
          have hkk : L.length / 64 = k := by omega
          rw [hkk] at Hsha
          generalize stBlocks L k = s at *
          have HX := Lib.hid hX
          have HK := Lib.hid hK
          clear hX hK hS hT hkk
          obtain ⟨xa, xb, xc, xd, xe, xf, xg, xh⟩ := s
          have hby : (St.mk xa xb xc xd xe xf xg xh).bytes = be4 xa ++ be4 xb ++ be4 xc ++ be4 xd ++ be4 xe ++ be4 xf ++ be4 xg ++ be4 xh := rfl
          have Hby := Lib.hid hby
          clear hby
          go_upto_region 34 with (fail)
          apply wp_region_lit
          refine wpList_load_mid rfl 78 (.tmp 3) rfl X 0 (by rfl) (St.mk xa xb xc xd xe xf xg xh).cells _ HX.out.range Tryz.underlying78 rfl (by rw [St.cells_len]; exact HsS.out) ?_
          simp only [Act.put, List.setIfInBounds_toArray, List.set_cons_zero, List.set_cons_succ]
          rw [show (St.mk xa xb xc xd xe xf xg xh).cells = [B32 xa, B32 xb, B32 xc, B32 xd, B32 xe, B32 xf, B32 xg, B32 xh] from rfl]
          go_wp2_with fail
          go_loopw [212, 17] (fun i v wr => ∃ j : Nat, j ≤ 8 ∧ i = .int .i64 j ∧ Own wr w.heap.size v (([xa, xb, xc, xd, xe, xf, xg, xh].take j).flatMap be4) ∧ Keeps [] w wr) (fun i _ _ => 8 - (intOf i).toNat)
          case atStart => exact ⟨0, by omega, rfl, Own.nil _ _, HK.out⟩
          case round =>
            obtain ⟨j, hj, rfl, hO, hK⟩ := hrel
            have hs := hK.size
            match j, hj with
            | 0, _ =>
              go_upto_region 36 with (fail)
              apply wp_region_lit
              refine wpList_indexA rfl (.tmp 211) (.tmp 212) rfl #[B32 xa, B32 xb, B32 xc, B32 xd, B32 xe, B32 xf, B32 xg, B32 xh] (by rfl) 0 (by omega) (by rfl) (B32 xa) (by rfl) ?_
              simp only [Act.put, List.setIfInBounds_toArray, List.set_cons_zero, List.set_cons_succ]
              go_wp2_with fail
              refine (four_calls xa).mono ?_
              rintro e w6 ⟨v6, rfl, hO6, hk6⟩
              have hOk := hO.keeps hk6 (by simp)
              have hKk := hK.trans hk6
              have hsk := hKk.size
              obtain ⟨a6, c6, rfl, q61, q62, q63, q64, q65⟩ := hO6.sl
              have hb6 : (be4 xa).length = 4 := rfl
              rw [hb6] at q61
              clear hO6 hk6 hb6
              go_wp2_with (at_builtin; (refine wpList_append_bytes rfl _ _ rfl hOk rfl a6 4 c6 rfl q63 rfl (fun h => ⟨by have := (q64 h).1; simp [be4] at this, (q64 h).2⟩) (by simp [be4]) (by omega) ?_); intro v7 w7 hO7 hG7 hB7)
              have R1 := Lib.hid (show Own w7 w.heap.size v7 (([xa, xb, xc, xd, xe, xf, xg, xh].take (0 + 1)).flatMap be4) from by simpa using hO7)
              have R2 := Lib.hid (hKk.grown hG7 (fun y hy => .inr (hOk.ne_lt y hy)))
              clear hO7 hG7 hB7
              go_roundw
              case rel =>
                first
                  | exact ⟨0 + 1, by omega, rfl, R1.out, R2.out⟩
                  | ((repeat apply Exists.intro); refine ⟨?_, rfl⟩; exact ⟨0 + 1, by omega, rfl, R1.out, R2.out⟩)
              case measure => simp [intOf]
            | 1, _ =>
              go_upto_region 36 with (fail)
              apply wp_region_lit
              refine wpList_indexA rfl (.tmp 211) (.tmp 212) rfl #[B32 xa, B32 xb, B32 xc, B32 xd, B32 xe, B32 xf, B32 xg, B32 xh] (by rfl) 1 (by omega) (by rfl) (B32 xb) (by rfl) ?_
              simp only [Act.put, List.setIfInBounds_toArray, List.set_cons_zero, List.set_cons_succ]
              go_wp2_with fail
              refine (four_calls xb).mono ?_
              rintro e w6 ⟨v6, rfl, hO6, hk6⟩
              have hOk := hO.keeps hk6 (by simp)
              have hKk := hK.trans hk6
              have hsk := hKk.size
              obtain ⟨a6, c6, rfl, q61, q62, q63, q64, q65⟩ := hO6.sl
              have hb6 : (be4 xb).length = 4 := rfl
              rw [hb6] at q61
              clear hO6 hk6 hb6
              go_wp2_with (at_builtin; (refine wpList_append_bytes rfl _ _ rfl hOk rfl a6 4 c6 rfl q63 rfl (fun h => ⟨by have := (q64 h).1; simp [be4] at this, (q64 h).2⟩) (by simp [be4]) (by omega) ?_); intro v7 w7 hO7 hG7 hB7)
              have R1 := Lib.hid (show Own w7 w.heap.size v7 (([xa, xb, xc, xd, xe, xf, xg, xh].take (1 + 1)).flatMap be4) from by simpa using hO7)
              have R2 := Lib.hid (hKk.grown hG7 (fun y hy => .inr (hOk.ne_lt y hy)))
              clear hO7 hG7 hB7
              go_roundw
              case rel =>
                first
                  | exact ⟨1 + 1, by omega, rfl, R1.out, R2.out⟩
                  | ((repeat apply Exists.intro); refine ⟨?_, rfl⟩; exact ⟨1 + 1, by omega, rfl, R1.out, R2.out⟩)
              case measure => simp [intOf]
            | 2, _ =>
              go_upto_region 36 with (fail)
              apply wp_region_lit
              refine wpList_indexA rfl (.tmp 211) (.tmp 212) rfl #[B32 xa, B32 xb, B32 xc, B32 xd, B32 xe, B32 xf, B32 xg, B32 xh] (by rfl) 2 (by omega) (by rfl) (B32 xc) (by rfl) ?_
              simp only [Act.put, List.setIfInBounds_toArray, List.set_cons_zero, List.set_cons_succ]
              go_wp2_with fail
              refine (four_calls xc).mono ?_
              rintro e w6 ⟨v6, rfl, hO6, hk6⟩
              have hOk := hO.keeps hk6 (by simp)
              have hKk := hK.trans hk6
              have hsk := hKk.size
              obtain ⟨a6, c6, rfl, q61, q62, q63, q64, q65⟩ := hO6.sl
              have hb6 : (be4 xc).length = 4 := rfl
              rw [hb6] at q61
              clear hO6 hk6 hb6
              go_wp2_with (at_builtin; (refine wpList_append_bytes rfl _ _ rfl hOk rfl a6 4 c6 rfl q63 rfl (fun h => ⟨by have := (q64 h).1; simp [be4] at this, (q64 h).2⟩) (by simp [be4]) (by omega) ?_); intro v7 w7 hO7 hG7 hB7)
              have R1 := Lib.hid (show Own w7 w.heap.size v7 (([xa, xb, xc, xd, xe, xf, xg, xh].take (2 + 1)).flatMap be4) from by simpa using hO7)
              have R2 := Lib.hid (hKk.grown hG7 (fun y hy => .inr (hOk.ne_lt y hy)))
              clear hO7 hG7 hB7
              go_roundw
              case rel =>
                first
                  | exact ⟨2 + 1, by omega, rfl, R1.out, R2.out⟩
                  | ((repeat apply Exists.intro); refine ⟨?_, rfl⟩; exact ⟨2 + 1, by omega, rfl, R1.out, R2.out⟩)
              case measure => simp [intOf]
            | 3, _ =>
              go_upto_region 36 with (fail)
              apply wp_region_lit
              refine wpList_indexA rfl (.tmp 211) (.tmp 212) rfl #[B32 xa, B32 xb, B32 xc, B32 xd, B32 xe, B32 xf, B32 xg, B32 xh] (by rfl) 3 (by omega) (by rfl) (B32 xd) (by rfl) ?_
              simp only [Act.put, List.setIfInBounds_toArray, List.set_cons_zero, List.set_cons_succ]
              go_wp2_with fail
              refine (four_calls xd).mono ?_
              rintro e w6 ⟨v6, rfl, hO6, hk6⟩
              have hOk := hO.keeps hk6 (by simp)
              have hKk := hK.trans hk6
              have hsk := hKk.size
              obtain ⟨a6, c6, rfl, q61, q62, q63, q64, q65⟩ := hO6.sl
              have hb6 : (be4 xd).length = 4 := rfl
              rw [hb6] at q61
              clear hO6 hk6 hb6
              go_wp2_with (at_builtin; (refine wpList_append_bytes rfl _ _ rfl hOk rfl a6 4 c6 rfl q63 rfl (fun h => ⟨by have := (q64 h).1; simp [be4] at this, (q64 h).2⟩) (by simp [be4]) (by omega) ?_); intro v7 w7 hO7 hG7 hB7)
              have R1 := Lib.hid (show Own w7 w.heap.size v7 (([xa, xb, xc, xd, xe, xf, xg, xh].take (3 + 1)).flatMap be4) from by simpa using hO7)
              have R2 := Lib.hid (hKk.grown hG7 (fun y hy => .inr (hOk.ne_lt y hy)))
              clear hO7 hG7 hB7
              go_roundw
              case rel =>
                first
                  | exact ⟨3 + 1, by omega, rfl, R1.out, R2.out⟩
                  | ((repeat apply Exists.intro); refine ⟨?_, rfl⟩; exact ⟨3 + 1, by omega, rfl, R1.out, R2.out⟩)
              case measure => simp [intOf]
            | 4, _ =>
              go_upto_region 36 with (fail)
              apply wp_region_lit
              refine wpList_indexA rfl (.tmp 211) (.tmp 212) rfl #[B32 xa, B32 xb, B32 xc, B32 xd, B32 xe, B32 xf, B32 xg, B32 xh] (by rfl) 4 (by omega) (by rfl) (B32 xe) (by rfl) ?_
              simp only [Act.put, List.setIfInBounds_toArray, List.set_cons_zero, List.set_cons_succ]
              go_wp2_with fail
              refine (four_calls xe).mono ?_
              rintro e w6 ⟨v6, rfl, hO6, hk6⟩
              have hOk := hO.keeps hk6 (by simp)
              have hKk := hK.trans hk6
              have hsk := hKk.size
              obtain ⟨a6, c6, rfl, q61, q62, q63, q64, q65⟩ := hO6.sl
              have hb6 : (be4 xe).length = 4 := rfl
              rw [hb6] at q61
              clear hO6 hk6 hb6
              go_wp2_with (at_builtin; (refine wpList_append_bytes rfl _ _ rfl hOk rfl a6 4 c6 rfl q63 rfl (fun h => ⟨by have := (q64 h).1; simp [be4] at this, (q64 h).2⟩) (by simp [be4]) (by omega) ?_); intro v7 w7 hO7 hG7 hB7)
              have R1 := Lib.hid (show Own w7 w.heap.size v7 (([xa, xb, xc, xd, xe, xf, xg, xh].take (4 + 1)).flatMap be4) from by simpa using hO7)
              have R2 := Lib.hid (hKk.grown hG7 (fun y hy => .inr (hOk.ne_lt y hy)))
              clear hO7 hG7 hB7
              go_roundw
              case rel =>
                first
                  | exact ⟨4 + 1, by omega, rfl, R1.out, R2.out⟩
                  | ((repeat apply Exists.intro); refine ⟨?_, rfl⟩; exact ⟨4 + 1, by omega, rfl, R1.out, R2.out⟩)
              case measure => simp [intOf]
            | 5, _ =>
              go_upto_region 36 with (fail)
              apply wp_region_lit
              refine wpList_indexA rfl (.tmp 211) (.tmp 212) rfl #[B32 xa, B32 xb, B32 xc, B32 xd, B32 xe, B32 xf, B32 xg, B32 xh] (by rfl) 5 (by omega) (by rfl) (B32 xf) (by rfl) ?_
              simp only [Act.put, List.setIfInBounds_toArray, List.set_cons_zero, List.set_cons_succ]
              go_wp2_with fail
              refine (four_calls xf).mono ?_
              rintro e w6 ⟨v6, rfl, hO6, hk6⟩
              have hOk := hO.keeps hk6 (by simp)
              have hKk := hK.trans hk6
              have hsk := hKk.size
              obtain ⟨a6, c6, rfl, q61, q62, q63, q64, q65⟩ := hO6.sl
              have hb6 : (be4 xf).length = 4 := rfl
              rw [hb6] at q61
              clear hO6 hk6 hb6
              go_wp2_with (at_builtin; (refine wpList_append_bytes rfl _ _ rfl hOk rfl a6 4 c6 rfl q63 rfl (fun h => ⟨by have := (q64 h).1; simp [be4] at this, (q64 h).2⟩) (by simp [be4]) (by omega) ?_); intro v7 w7 hO7 hG7 hB7)
              have R1 := Lib.hid (show Own w7 w.heap.size v7 (([xa, xb, xc, xd, xe, xf, xg, xh].take (5 + 1)).flatMap be4) from by simpa using hO7)
              have R2 := Lib.hid (hKk.grown hG7 (fun y hy => .inr (hOk.ne_lt y hy)))
              clear hO7 hG7 hB7
              go_roundw
              case rel =>
                first
                  | exact ⟨5 + 1, by omega, rfl, R1.out, R2.out⟩
                  | ((repeat apply Exists.intro); refine ⟨?_, rfl⟩; exact ⟨5 + 1, by omega, rfl, R1.out, R2.out⟩)
              case measure => simp [intOf]
            | 6, _ =>
              go_upto_region 36 with (fail)
              apply wp_region_lit
              refine wpList_indexA rfl (.tmp 211) (.tmp 212) rfl #[B32 xa, B32 xb, B32 xc, B32 xd, B32 xe, B32 xf, B32 xg, B32 xh] (by rfl) 6 (by omega) (by rfl) (B32 xg) (by rfl) ?_
              simp only [Act.put, List.setIfInBounds_toArray, List.set_cons_zero, List.set_cons_succ]
              go_wp2_with fail
              refine (four_calls xg).mono ?_
              rintro e w6 ⟨v6, rfl, hO6, hk6⟩
              have hOk := hO.keeps hk6 (by simp)
              have hKk := hK.trans hk6
              have hsk := hKk.size
              obtain ⟨a6, c6, rfl, q61, q62, q63, q64, q65⟩ := hO6.sl
              have hb6 : (be4 xg).length = 4 := rfl
              rw [hb6] at q61
              clear hO6 hk6 hb6
              go_wp2_with (at_builtin; (refine wpList_append_bytes rfl _ _ rfl hOk rfl a6 4 c6 rfl q63 rfl (fun h => ⟨by have := (q64 h).1; simp [be4] at this, (q64 h).2⟩) (by simp [be4]) (by omega) ?_); intro v7 w7 hO7 hG7 hB7)
              have R1 := Lib.hid (show Own w7 w.heap.size v7 (([xa, xb, xc, xd, xe, xf, xg, xh].take (6 + 1)).flatMap be4) from by simpa using hO7)
              have R2 := Lib.hid (hKk.grown hG7 (fun y hy => .inr (hOk.ne_lt y hy)))
              clear hO7 hG7 hB7
              go_roundw
              case rel =>
                first
                  | exact ⟨6 + 1, by omega, rfl, R1.out, R2.out⟩
                  | ((repeat apply Exists.intro); refine ⟨?_, rfl⟩; exact ⟨6 + 1, by omega, rfl, R1.out, R2.out⟩)
              case measure => simp [intOf]
            | 7, _ =>
              go_upto_region 36 with (fail)
              apply wp_region_lit
              refine wpList_indexA rfl (.tmp 211) (.tmp 212) rfl #[B32 xa, B32 xb, B32 xc, B32 xd, B32 xe, B32 xf, B32 xg, B32 xh] (by rfl) 7 (by omega) (by rfl) (B32 xh) (by rfl) ?_
              simp only [Act.put, List.setIfInBounds_toArray, List.set_cons_zero, List.set_cons_succ]
              go_wp2_with fail
              refine (four_calls xh).mono ?_
              rintro e w6 ⟨v6, rfl, hO6, hk6⟩
              have hOk := hO.keeps hk6 (by simp)
              have hKk := hK.trans hk6
              have hsk := hKk.size
              obtain ⟨a6, c6, rfl, q61, q62, q63, q64, q65⟩ := hO6.sl
              have hb6 : (be4 xh).length = 4 := rfl
              rw [hb6] at q61
              clear hO6 hk6 hb6
              go_wp2_with (at_builtin; (refine wpList_append_bytes rfl _ _ rfl hOk rfl a6 4 c6 rfl q63 rfl (fun h => ⟨by have := (q64 h).1; simp [be4] at this, (q64 h).2⟩) (by simp [be4]) (by omega) ?_); intro v7 w7 hO7 hG7 hB7)
              have R1 := Lib.hid (show Own w7 w.heap.size v7 (([xa, xb, xc, xd, xe, xf, xg, xh].take (7 + 1)).flatMap be4) from by simpa using hO7)
              have R2 := Lib.hid (hKk.grown hG7 (fun y hy => .inr (hOk.ne_lt y hy)))
              clear hO7 hG7 hB7
              go_roundw
              case rel =>
                first
                  | exact ⟨7 + 1, by omega, rfl, R1.out, R2.out⟩
                  | ((repeat apply Exists.intro); refine ⟨?_, rfl⟩; exact ⟨7 + 1, by omega, rfl, R1.out, R2.out⟩)
              case measure => simp [intOf]
            | 8, _ =>
              go_wp2_with fail
              go_ret
              exact ⟨_, rfl, by rw [Hsha.out, Hby.out]; simpa using hO, hK⟩
end Go.Proofs.YtijhaeapoapgfaaGreatDoor
