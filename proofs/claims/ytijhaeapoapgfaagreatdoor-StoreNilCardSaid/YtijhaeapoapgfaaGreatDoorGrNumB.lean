/-
  GrNumB: the texts NumB, Wh, ConcatT, one behind another.
-/
import Derived.Test.YtijhaeapoapgfaaGreatDoorGrFlashN
import Derived.Test.YtijhaeapoapgfaaGreatDoorGrRand
import Derived.Test.YtijhaeapoapgfaaGreatDoorGrBase
import Derived.Test.YtijhaeapoapgfaaGreatDoorGrBytes
import Derived.Test.YtijhaeapoapgfaaGreatDoorGrElM
import Derived.BigQuiet
set_option linter.unusedVariables false
namespace Go.Proofs.YtijhaeapoapgfaaGreatDoor
open Go.RowKit

theorem i64_or_nat (a b : Nat) (ha : a < 4294967296) (hb : b < 4294967296) : bits .or .i64 (a : Int) (b : Int) = ((a ||| b : Nat) : Int) := by
  have hx : a ||| b < 2 ^ 32 := Nat.or_lt_two_pow (by omega) (by omega)
  show IntKind.i64.wrap ((BitVec.ofInt 64 (a : Int) ||| BitVec.ofInt 64 (b : Int)).toNat : Int) = _
  have t : ∀ a : Nat, a < 4294967296 → (BitVec.ofInt 64 (a : Int)).toNat = a := fun a ha => by
    rw [BitVec.ofInt_natCast, BitVec.toNat_ofNat]; exact Nat.mod_eq_of_lt (by omega)
  rw [BitVec.toNat_or, t a ha, t b hb]
  exact IntWalk.i64_in _ (by omega)

theorem or_len (x y : UInt8) : bits .or .i64 (wrap64 (wrap64 (x.toNat : Int) * 256)) (wrap64 (y.toNat : Int)) = ((x.toNat * 256 + y.toNat : Nat) : Int) := by
  have hx := x.toNat_lt
  have hy := y.toNat_lt
  rw [IntWalk.wrap64_in (x.toNat : Int) (by omega), IntWalk.wrap64_in (y.toNat : Int) (by omega), IntWalk.wrap64_in _ (by omega)]
  have e : (x.toNat : Int) * 256 = ((x.toNat * 256 : Nat) : Int) := by omega
  rw [e, i64_or_nat _ _ (by omega) (by omega)]
  have := Nat.shiftLeft_add_eq_or_of_lt (i := 8) (b := y.toNat) hy x.toNat
  rw [Nat.shiftLeft_eq] at this
  rw [← this]

theorem shl32 (x : UInt8) (k : Nat) (hk : k = 24 ∨ k = 16 ∨ k = 8) : (x.toNat : Int) % 4294967296 * (2 ^ k : Nat) % 4294967296 = ((x.toUInt32 <<< (UInt32.ofNat k)).toNat : Int) := by
  have hx := x.toNat_lt
  rw [UInt32.toNat_shiftLeft, UInt8.toNat_toUInt32]
  rcases hk with rfl | rfl | rfl
  · show _ = ((x.toNat <<< 24 % 4294967296 : Nat) : Int)
    rw [Nat.shiftLeft_eq]; omega
  · show _ = ((x.toNat <<< 16 % 4294967296 : Nat) : Int)
    rw [Nat.shiftLeft_eq]; omega
  · show _ = ((x.toNat <<< 8 % 4294967296 : Nat) : Int)
    rw [Nat.shiftLeft_eq]; omega

theorem num_bits (a b c d : UInt8) :
    bits .or .u32 (bits .or .u32 (bits .or .u32 ((a.toNat : Int) % 4294967296 * 16777216 % 4294967296) ((b.toNat : Int) % 4294967296 * 65536 % 4294967296)) ((c.toNat : Int) % 4294967296 * 256 % 4294967296)) ((d.toNat : Int) % 4294967296) = ((be32 a b c d).toNat : Int) := by
  have e1 := shl32 a 24 (.inl rfl)
  have e2 := shl32 b 16 (.inr (.inl rfl))
  have e3 := shl32 c 8 (.inr (.inr rfl))
  have e4 : (d.toNat : Int) % 4294967296 = (d.toUInt32.toNat : Int) := byte32 d
  have e1' : (a.toNat : Int) % 4294967296 * 16777216 % 4294967296 = ((a.toUInt32 <<< (24 : UInt32)).toNat : Int) := e1
  have e2' : (b.toNat : Int) % 4294967296 * 65536 % 4294967296 = ((b.toUInt32 <<< (16 : UInt32)).toNat : Int) := e2
  have e3' : (c.toNat : Int) % 4294967296 * 256 % 4294967296 = ((c.toUInt32 <<< (8 : UInt32)).toNat : Int) := e3
  rw [e1', e2', e3', e4, or32, or32, or32]
  rfl

theorem Keeps.cell {w w' : World} {a : Addr} {v : Value} (k : Keeps [] w w') (h : w.cell? a = some v) : w'.cell? a = some v :=
  (World.cell?_of_block (a := a) (k.block a.block (World.block_lt_of_cell? w _ h) (by simp))).trans h

theorem Own.lit (w : World) (c : Array Value) (l : List UInt8) (n : Nat) (hc : c.toList = l.map B8) (hn : l.length = n) (hm : n ≤ 1000000) :
    Own (w.alloc (.cells c 5)) w.heap.size (.slice (some ⟨w.heap.size, 0, none⟩) n n) l := by
  have hcs : c.size = n := by rw [← Array.length_toList, hc, List.length_map, hn]
  have hg : (w.alloc (.cells c 5)).heap[w.heap.size]? = some (.cells c 5 (0, 0)) := by
    show (w.heap.push _)[w.heap.size]? = _
    simp
  refine ⟨by simp, .inr ⟨w.heap.size, n, c, by rw [hn], Nat.le_refl _, hg, by omega, by unfold maxLen; omega, by omega, ?_⟩⟩
  rw [hc, List.take_of_length_le (by rw [List.length_map]; omega)]

end Go.Proofs.YtijhaeapoapgfaaGreatDoor

set_option linter.unusedVariables false
namespace Go.Proofs.YtijhaeapoapgfaaGreatDoor
open Go.RowKit
attribute [local go_sem ↓] Go.wp_at_zero Go.wp_at_succ

set_option maxRecDepth 100000 in
theorem wide_calls {w : World} {u s : Nat} (h : w.cell? ⟨u, 2, none⟩ = some (.int .i64 s)) (hs : s ≤ 16) :
    Calls Tryz.prog 109 #[.pointer (some ⟨u, 0, none⟩)] w fun e w' => e = .returned (.int .i64 (wide s)) ∧ w = w' := by
  go_enter Tryz.func109, Tryz.ntmps109
  go_wp2_with fail
  go_ret
  exact ⟨rfl, rfl⟩

set_option maxRecDepth 100000 in
theorem places_calls {w : World} {u s : Nat} (h : w.cell? ⟨u, 2, none⟩ = some (.int .i64 s)) (hs : s ≤ 16) :
    Calls Tryz.prog 106 #[.pointer (some ⟨u, 0, none⟩)] w fun e w' => e = .returned (.int .i64 (places s)) ∧ w = w' := by
  have hC := wide_calls h hs
  have hw : 1 ≤ wide s ∧ wide s ≤ 29 := ⟨by unfold wide; omega, by unfold wide; omega⟩
  have hp : places s = 256 / wide s := rfl
  rw [hp]
  generalize wide s = W at *
  clear hp h hs
  go_enter Tryz.func106, Tryz.ntmps106
  go_wp2_with fail
  refine hC.mono ?_
  rintro e w' ⟨rfl, rfl⟩
  go_wp2_with fail
  go_ret
  exact ⟨rfl, rfl⟩

set_option maxRecDepth 100000 in
set_option maxHeartbeats 1000000 in
theorem whAt_calls {w : World} {u s : Nat} (h : w.cell? ⟨u, 2, none⟩ = some (.int .i64 s)) (h1 : 1 ≤ s) (hs : s ≤ 16) (k : Nat) (hk : k ≤ 200) :
    Calls Tryz.prog 108 #[.pointer (some ⟨u, 0, none⟩), .int .i64 k] w fun e w' => e = .returned (.int .i64 (whAt s k)) ∧ ∃ n, w' = w.drewN n := by
  have hP := fun n => (places_calls (w := w.drewN n) h hs).mono (fun _ _ h => (⟨h.1, h.2.symm⟩ : _ ∧ _ = w.drewN n))
  have hW := fun n => (wide_calls (w := w.drewN n) h hs).mono (fun _ _ h => (⟨h.1, h.2.symm⟩ : _ ∧ _ = w.drewN n))
  have hw : 14 ≤ wide s ∧ wide s ≤ 29 := ⟨by unfold wide; omega, by unfold wide; omega⟩
  have hp := places_bounds h1 hs
  have e : whAt s k = (6 + k / places s) * 256 + k % places s * wide s := rfl
  rw [e]
  have hpp : 0 < places s := by omega
  have hr := Nat.mod_lt k hpp
  have hm : k % places s * wide s ≤ 18 * 29 := Nat.mul_le_mul (by omega) (by omega)
  have hd : k / places s ≤ k := Nat.div_le_self _ _
  generalize wide s = W at *
  generalize places s = P at *
  have x1 : (0 : Int) ≤ (k : Int) / (P : Int) := by rw [← Int.natCast_ediv]; exact Int.natCast_nonneg _
  have x2 : (k : Int) / (P : Int) ≤ 200 := by rw [← Int.natCast_ediv]; omega
  have x3 : (0 : Int) ≤ (k : Int) % (P : Int) := by rw [← Int.natCast_emod]; omega
  have x4 : (k : Int) % (P : Int) ≤ 18 := by rw [← Int.natCast_emod]; omega
  have x5 : (0 : Int) ≤ (k : Int) % (P : Int) * (W : Int) := by rw [← Int.natCast_emod, ← Int.natCast_mul]; omega
  have x6 : (k : Int) % (P : Int) * (W : Int) ≤ 1000 := by rw [← Int.natCast_emod, ← Int.natCast_mul]; omega
  clear hr hm hd e h
  go_enter Tryz.func108, Tryz.ntmps108
  go_wp2_with fail
  go_quiet (first
    | (go_at_call 106; exact Calls.quiet_of_same (hP _))
    | (go_at_call 109; exact Calls.quiet_of_same (hW _)))
  go_wp2_with fail
  go_ret
  exact ⟨by rw [Int.natCast_add, Int.natCast_mul, Int.natCast_add, Int.natCast_mul, Int.natCast_ediv, Int.natCast_emod]; rfl, nq, rfl⟩

theorem whAtK_calls {w : World} {u s : Nat} (h : w.cell? ⟨u, 2, none⟩ = some (.int .i64 s)) (h1 : 1 ≤ s) (hs : s ≤ 16) (k : Nat) (hk : k ≤ 200) :
    Calls Tryz.prog 108 #[.pointer (some ⟨u, 0, none⟩), .int .i64 k] w fun e w' => e = .returned (.int .i64 (whAt s k)) ∧ Keeps [] w w' :=
  (whAt_calls h h1 hs k hk).mono fun _ _ ⟨he, n, hn⟩ => ⟨he, hn ▸ (Keeps.refl [] w).drewN n⟩

theorem four_bytes (M : UInt32) (x0 x1 x2 x3 : Int) (h0 : x0 = (M.toNat : Int) / (16777216 : Int) % (256 : Int)) (h1 : x1 = (M.toNat : Int) / (65536 : Int) % (256 : Int)) (h2 : x2 = (M.toNat : Int) / (256 : Int) % (256 : Int)) (h3 : x3 = (M.toNat : Int) % (256 : Int)) :
    [Value.int .u8 x0, .int .u8 x1, .int .u8 x2, .int .u8 x3] = List.map B8 (be4 M) := by
  have g0 := be4_24 M
  have g1 := be4_16 M
  have g2 := be4_8 M
  have g3 := be4_0 M
  have e0 : x0 = (((M >>> 24).toUInt8).toNat : Int) := by rw [h0, ← g0]; rfl
  have e1 : x1 = (((M >>> 16).toUInt8).toNat : Int) := by rw [h1, ← g1]; rfl
  have e2 : x2 = (((M >>> 8).toUInt8).toNat : Int) := by rw [h2, ← g2]; rfl
  have e3 : x3 = ((M.toUInt8).toNat : Int) := by rw [h3, ← g3]
  rw [e0, e1, e2, e3]
  rfl

set_option maxRecDepth 100000 in
theorem word_calls {w : World} (n : UInt32) :
    Calls Tryz.prog 115 #[.int .u32 n.toNat] w fun e w' => e = .returned (.slice (some ⟨w.heap.size, 0, none⟩) 4 4) ∧ Own w' w.heap.size (.slice (some ⟨w.heap.size, 0, none⟩) 4 4) (be4 n) ∧ Keeps [] w w' ∧ w'.heap.size = w.heap.size + 1 := by
  have hM := n.toNat_lt
  go_enter Tryz.func115, Tryz.ntmps115
  go_wp2_with fail
  go_ret
  exact ⟨rfl, Own.lit w _ (be4 n) 4 (four_bytes n _ _ _ _ (by omega) (by omega) (by omega) (by omega)) rfl (by omega), (Keeps.refl [] w).alloc _, by simp⟩

set_option maxRecDepth 100000 in
theorem number_calls' {w : World} {g o n c : Nat} (l : List UInt8) (hl : Rd w (some ⟨g, o, none⟩) l) (h4 : 4 ≤ l.length) (hn : n = l.length) :
    Calls Tryz.prog 184 #[.slice (some ⟨g, o, none⟩) n c] w fun e w' => e = .returned (B32 (num4 l)) ∧ ∃ n, w' = w.drewN n := by
  have x : ∀ i, i < 4 → w.cell? ⟨g, o + i, none⟩ = some (B8 (l.getD i 0)) := by
    intro i hi
    obtain ⟨b, o', he, hc⟩ := hl i (l.getD i 0) (by rw [List.getD, List.getElem?_eq_getElem (by omega)]; rfl)
    simp only [Option.some.injEq, Addr.mk.injEq] at he
    obtain ⟨rfl, rfl, _⟩ := he
    exact hc
  have x0 : w.cell? ⟨g, o, none⟩ = _ := x 0 (by omega)
  have x1 := x 1 (by omega)
  have x2 := x 2 (by omega)
  have x3 := x 3 (by omega)
  have e : num4 l = be32 (l.getD 0 0) (l.getD 1 0) (l.getD 2 0) (l.getD 3 0) := rfl
  rw [e]
  generalize l.getD 0 0 = b0 at *
  generalize l.getD 1 0 = b1 at *
  generalize l.getD 2 0 = b2 at *
  generalize l.getD 3 0 = b3 at *
  generalize hnum : be32 b0 b1 b2 b3 = num at *
  have Hn := Lib.hid hnum
  clear hnum
  have h4' : (4 : Int) ≤ (n : Int) := by omega
  have i0 : (0 : Int) < (n : Int) := by omega
  have i1 : (1 : Int) < (n : Int) := by omega
  have i2 : (2 : Int) < (n : Int) := by omega
  have i3 : (3 : Int) < (n : Int) := by omega
  clear x e hl h4 hn
  go_enter Tryz.func184, Tryz.ntmps184
  go_wp2_with fail
  go_quiet (fail)
  rw [num_bits b0 b1 b2 b3, Hn.out]
  go_wp2_with fail
  go_ret
  exact ⟨rfl, nq, rfl⟩

end Go.Proofs.YtijhaeapoapgfaaGreatDoor

set_option linter.unusedVariables false
set_option linter.unusedSimpArgs false
namespace Go.Proofs.YtijhaeapoapgfaaGreatDoor
open Go.RowKit

/-- Three slices of bytes, in a block of their own. -/
def Tri (w : World) (b : Nat) (x y z : Value) : Prop := Blk w b 22 [x, y, z]

set_option maxRecDepth 100000 in
set_option maxHeartbeats 1000000 in
theorem concat3_calls {w : World} {b : Nat} {a1 a2 a3 : Option Addr} {c1 c2 c3 : Nat} {l1 l2 l3 : List UInt8} (hb : Tri w b (.slice a1 l1.length c1) (.slice a2 l2.length c2) (.slice a3 l3.length c3))
    (h1 : Rd w a1 l1) (h2 : Rd w a2 l2) (h3 : Rd w a3 l3) (n1 : a1 = none → l1 = [] ∧ c1 = 0) (n2 : a2 = none → l2 = [] ∧ c2 = 0) (n3 : a3 = none → l3 = [] ∧ c3 = 0)
    (m1 : l1.length ≤ 1000) (m2 : l2.length ≤ 1000) (m3 : l3.length ≤ 1000) (h0 : 0 < l1.length) :
    Calls Tryz.prog 114 #[.slice (some ⟨b, 0, none⟩) 3 3] w fun e w' => ∃ v, e = .returned v ∧ Own w' w.heap.size v (l1 ++ l2 ++ l3) ∧ Keeps [] w w' := by
  have e0 := hb.cell' (i := 0) rfl
  have e1 := hb.cell' (i := 1) rfl
  have e2 := hb.cell' (i := 2) rfl
  go_enter Tryz.func114, Tryz.ntmps114
  go_wp2_with fail
  go_loopw [3, 11] (fun s i wr => wr = w ∧ ((i = .int .i64 0 ∧ s = .int .i64 0) ∨ (i = .int .i64 1 ∧ s = .int .i64 l1.length) ∨ (i = .int .i64 2 ∧ s = .int .i64 (l1.length + l2.length : Nat)) ∨ (i = .int .i64 3 ∧ s = .int .i64 (l1.length + l2.length + l3.length : Nat)))) (fun _ i _ => 3 - (intOf i).toNat)
  case atStart => exact ⟨rfl, .inl ⟨rfl, rfl⟩⟩
  case round =>
    obtain ⟨rfl, ⟨rfl, rfl⟩ | ⟨rfl, rfl⟩ | ⟨rfl, rfl⟩ | ⟨rfl, rfl⟩⟩ := hrel
    · go_wp2_with fail
      go_roundw
      case rel => simp
      case measure => simp [intOf]
    · go_wp2_with fail
      go_roundw
      case rel => simp
      case measure => simp [intOf]
    · go_wp2_with fail
      go_roundw
      case rel => simp
      case measure => simp [intOf]
    · have hG := grow_calls (w := wr) (l1.length + l2.length + l3.length) (by omega) (by omega)
      go_wp2_with fail
      refine hG.mono ?_
      rintro e w1 ⟨c, rfl, hO, hK⟩
      go_wp2_with fail
      clear hG e0 e1 e2
      have e0 := hb.cell' (i := 0) rfl
      have e1 := hb.cell' (i := 1) rfl
      have e2 := hb.cell' (i := 2) rfl
      go_loopw [6, 27] (fun o i wx => Keeps [] wr wx ∧ ((i = .int .i64 0 ∧ Own wx wr.heap.size o []) ∨ (i = .int .i64 1 ∧ Own wx wr.heap.size o l1) ∨ (i = .int .i64 2 ∧ Own wx wr.heap.size o (l1 ++ l2)) ∨ (i = .int .i64 3 ∧ Own wx wr.heap.size o (l1 ++ l2 ++ l3)))) (fun _ i _ => 3 - (intOf i).toNat)
      case atStart => exact ⟨hK, .inl ⟨rfl, hO⟩⟩
      case round =>
        obtain ⟨hK3, ⟨rfl, hO3⟩ | ⟨rfl, hO3⟩ | ⟨rfl, hO3⟩ | ⟨rfl, hO3⟩⟩ := hrel
        · have hs3 := hK3.size
          have f0 := hK3.cell e0
          go_wp2_with (at_builtin; (refine wpList_append_bytes rfl _ _ rfl hO3 rfl a1 l1.length c1 rfl (h1.keepsNil hK3) rfl (fun h => ⟨by rw [(n1 h).1]; rfl, (n1 h).2⟩) (by first | omega | (simp; omega)) hs3 ?_); intro v4 w4 hO4 hG4 hB4)
          have hK4 := hK3.grown hG4 (fun y hy => .inr (hO3.ge y hy))
          go_wp2_with fail
          go_roundw
          case rel => exact ⟨hK4, .inr (.inl ⟨rfl, hO4⟩)⟩
          case measure => simp [intOf]
        · have hs3 := hK3.size
          have f0 := hK3.cell e1
          go_wp2_with (at_builtin; (refine wpList_append_bytes rfl _ _ rfl hO3 rfl a2 l2.length c2 rfl (h2.keepsNil hK3) rfl (fun h => ⟨by rw [(n2 h).1]; rfl, (n2 h).2⟩) (by first | omega | (simp; omega)) hs3 ?_); intro v4 w4 hO4 hG4 hB4)
          have hK4 := hK3.grown hG4 (fun y hy => .inr (hO3.ge y hy))
          go_wp2_with fail
          go_roundw
          case rel => exact ⟨hK4, .inr (.inr (.inl ⟨rfl, hO4⟩))⟩
          case measure => simp [intOf]
        · have hs3 := hK3.size
          have f0 := hK3.cell e2
          go_wp2_with (at_builtin; (refine wpList_append_bytes rfl _ _ rfl hO3 rfl a3 l3.length c3 rfl (h3.keepsNil hK3) rfl (fun h => ⟨by rw [(n3 h).1]; rfl, (n3 h).2⟩) (by first | omega | (simp; omega)) hs3 ?_); intro v4 w4 hO4 hG4 hB4)
          have hK4 := hK3.grown hG4 (fun y hy => .inr (hO3.ge y hy))
          go_wp2_with fail
          go_roundw
          case rel => exact ⟨hK4, .inr (.inr (.inr ⟨rfl, hO4⟩))⟩
          case measure => simp [intOf]
        · go_wp2_with fail
          go_ret
          exact ⟨_, rfl, hO3, hK3⟩

end Go.Proofs.YtijhaeapoapgfaaGreatDoor
