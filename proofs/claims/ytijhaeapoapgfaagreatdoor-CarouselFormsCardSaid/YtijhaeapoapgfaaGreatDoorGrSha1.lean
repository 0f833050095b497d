/-
  GrSha1: the texts Sha1, ShaC, one behind another.
-/
import Derived.Test.YtijhaeapoapgfaaGreatDoorGrBase
import Derived.Test.YtijhaeapoapgfaaGreatDoorGrRand
import Derived.Deep.MidRow
import Derived.Deep.CutBlock
import Derived.Deep.RegionHeld3
set_option linter.unusedVariables false
set_option linter.unusedSimpArgs false
namespace Go.Proofs.YtijhaeapoapgfaaGreatDoor
open Go.RowKit
attribute [local go_sem ↓] Go.wp_at_zero Go.wp_at_succ

theorem rot_int (x : UInt32) (n : Nat) (P Q : Int) (h0 : 0 < n) (hn : n < 32) (hP : P = ((2 ^ (32 - n) : Nat) : Int)) (hQ : Q = ((2 ^ n : Nat) : Int)) :
    bits .or .u32 ((x.toNat : Int) * P % (4294967296 : Int)) ((x.toNat : Int) / Q) = ((rotr n x).toNat : Int) := by
  have e1 : (x.toNat : Int) * P % (4294967296 : Int) = ((x <<< UInt32.ofNat (32 - n)).toNat : Int) := by
    rw [hP, UInt32.toNat_shiftLeft, UInt32.toNat_ofNat', Nat.shiftLeft_eq, Nat.mod_eq_of_lt (a := 32 - n) (b := 2 ^ 32) (by omega), Nat.mod_eq_of_lt (a := 32 - n) (b := 32) (by omega)]
    rw [Int.natCast_emod, Int.natCast_mul]
    rfl
  have e2 : (x.toNat : Int) / Q = ((x >>> UInt32.ofNat n).toNat : Int) := by
    rw [hQ, UInt32.toNat_shiftRight, UInt32.toNat_ofNat', Nat.shiftRight_eq_div_pow, Nat.mod_eq_of_lt (a := n) (b := 2 ^ 32) (by omega), Nat.mod_eq_of_lt (a := n) (b := 32) (by omega)]
    rw [Int.natCast_ediv]
  rw [e1, e2, or32]
  rfl

def rotArgs : List Nat := [2, 6, 7, 11, 13, 17, 18, 19, 22, 25]

set_option maxRecDepth 100000 in
theorem rotl_calls {w : World} (x : UInt32) (n : Nat) (hn : n ∈ rotArgs) :
    Calls Tryz.prog 173 #[B32 x, .int .i64 (-(n : Int))] w fun e w' => e = .returned (B32 (rotr n x)) ∧ w = w' := by
  simp only [rotArgs, List.mem_cons, List.not_mem_nil, or_false] at hn
  rcases hn with rfl | rfl | rfl | rfl | rfl | rfl | rfl | rfl | rfl | rfl
  · have hb : bits .and .u64 (IntKind.u64.wrap (-2)) 31 = 30 := by decide
    go_enter Tryz.func173, Tryz.ntmps173
    go_wp2_with fail
    go_ret
    exact ⟨congrArg (fun z => Ending.returned (.int .u32 z)) (rot_int x 2 _ _ (by decide) (by decide) (by decide) (by decide)), rfl⟩
  · have hb : bits .and .u64 (IntKind.u64.wrap (-6)) 31 = 26 := by decide
    go_enter Tryz.func173, Tryz.ntmps173
    go_wp2_with fail
    go_ret
    exact ⟨congrArg (fun z => Ending.returned (.int .u32 z)) (rot_int x 6 _ _ (by decide) (by decide) (by decide) (by decide)), rfl⟩
  · have hb : bits .and .u64 (IntKind.u64.wrap (-7)) 31 = 25 := by decide
    go_enter Tryz.func173, Tryz.ntmps173
    go_wp2_with fail
    go_ret
    exact ⟨congrArg (fun z => Ending.returned (.int .u32 z)) (rot_int x 7 _ _ (by decide) (by decide) (by decide) (by decide)), rfl⟩
  · have hb : bits .and .u64 (IntKind.u64.wrap (-11)) 31 = 21 := by decide
    go_enter Tryz.func173, Tryz.ntmps173
    go_wp2_with fail
    go_ret
    exact ⟨congrArg (fun z => Ending.returned (.int .u32 z)) (rot_int x 11 _ _ (by decide) (by decide) (by decide) (by decide)), rfl⟩
  · have hb : bits .and .u64 (IntKind.u64.wrap (-13)) 31 = 19 := by decide
    go_enter Tryz.func173, Tryz.ntmps173
    go_wp2_with fail
    go_ret
    exact ⟨congrArg (fun z => Ending.returned (.int .u32 z)) (rot_int x 13 _ _ (by decide) (by decide) (by decide) (by decide)), rfl⟩
  · have hb : bits .and .u64 (IntKind.u64.wrap (-17)) 31 = 15 := by decide
    go_enter Tryz.func173, Tryz.ntmps173
    go_wp2_with fail
    go_ret
    exact ⟨congrArg (fun z => Ending.returned (.int .u32 z)) (rot_int x 17 _ _ (by decide) (by decide) (by decide) (by decide)), rfl⟩
  · have hb : bits .and .u64 (IntKind.u64.wrap (-18)) 31 = 14 := by decide
    go_enter Tryz.func173, Tryz.ntmps173
    go_wp2_with fail
    go_ret
    exact ⟨congrArg (fun z => Ending.returned (.int .u32 z)) (rot_int x 18 _ _ (by decide) (by decide) (by decide) (by decide)), rfl⟩
  · have hb : bits .and .u64 (IntKind.u64.wrap (-19)) 31 = 13 := by decide
    go_enter Tryz.func173, Tryz.ntmps173
    go_wp2_with fail
    go_ret
    exact ⟨congrArg (fun z => Ending.returned (.int .u32 z)) (rot_int x 19 _ _ (by decide) (by decide) (by decide) (by decide)), rfl⟩
  · have hb : bits .and .u64 (IntKind.u64.wrap (-22)) 31 = 10 := by decide
    go_enter Tryz.func173, Tryz.ntmps173
    go_wp2_with fail
    go_ret
    exact ⟨congrArg (fun z => Ending.returned (.int .u32 z)) (rot_int x 22 _ _ (by decide) (by decide) (by decide) (by decide)), rfl⟩
  · have hb : bits .and .u64 (IntKind.u64.wrap (-25)) 31 = 7 := by decide
    go_enter Tryz.func173, Tryz.ntmps173
    go_wp2_with fail
    go_ret
    exact ⟨congrArg (fun z => Ending.returned (.int .u32 z)) (rot_int x 25 _ _ (by decide) (by decide) (by decide) (by decide)), rfl⟩

set_option maxRecDepth 100000 in
theorem turned_calls {w : World} (x : UInt32) (n : Nat) (hn : n ∈ rotArgs) :
    Calls Tryz.prog 133 #[B32 x, .int .i64 (n : Int)] w fun e w' => e = .returned (B32 (rotr n x)) ∧ w = w' := by
  have hr := rotl_calls (w := w) x n hn
  have hb : (n : Int) ≤ 25 := by
    simp only [rotArgs, List.mem_cons, List.not_mem_nil, or_false] at hn; omega
  clear hn
  go_enter Tryz.func133, Tryz.ntmps133
  go_wp2_with fail
  refine hr.mono ?_
  rintro e w' ⟨rfl, rfl⟩
  go_wp2_with fail
  go_ret
  exact ⟨rfl, rfl⟩

theorem Blk.range {w : World} {p : Nat} {t : TypeId} {l : List Value} (h : Blk w p t l) : w.rangeAt p 0 l := fun j v hv => by
  rw [Nat.zero_add]; exact h.cell' hv
theorem Blk.there {w : World} {p : Nat} {t : TypeId} {l : List Value} (h : Blk w p t l) (n : Nat) (hn : n = l.length) : w.there p 0 n := fun j hj => by
  rw [Nat.zero_add]
  exact ⟨by rw [h.cell j, List.getElem?_eq_getElem (by omega)]; rfl, h.frozen j⟩
theorem Blk.setCellsAt {b : Nat} {t : TypeId} : ∀ (cs old pre : List Value) (w : World), Blk w b t (pre ++ old) → old.length = cs.length → Blk (w.setCells b pre.length cs) b t (pre ++ cs)
  | [], old, pre, w, h, hl => by
    have : old = [] := List.length_eq_zero_iff.1 hl
    subst this; exact h
  | c :: cs, o :: old, pre, w, h, hl => by
    have h1 := h.set pre.length c
    rw [List.set_append_right _ _ (Nat.le_refl _), Nat.sub_self, List.set_cons_zero] at h1
    have h2 := Blk.setCellsAt cs old (pre ++ [c]) (w.setCell ⟨b, pre.length, none⟩ c) (by simpa using h1) (by simpa using hl)
    simpa [World.setCells] using h2
theorem Blk.setCells {w : World} {b : Nat} {t : TypeId} {old cs : List Value} (h : Blk w b t old) (hl : old.length = cs.length) : Blk (w.setCells b 0 cs) b t cs := by
  have := Blk.setCellsAt cs old [] w h hl
  simpa using this
theorem Keeps.setCells {S : List Nat} {b : Nat} (hb : b ∈ S) : ∀ (cs : List Value) (o : Nat) (a w : World), Keeps S a w → Keeps S a (w.setCells b o cs)
  | [], _, _, _, h => h
  | c :: cs, o, a, w, h => Keeps.setCells hb cs (o + 1) a _ (h.setCell (.inl hb) c)
theorem Keeps.setCellsNew {S : List Nat} {b : Nat} {a : World} (hb : a.heap.size ≤ b) : ∀ (cs : List Value) (o : Nat) (w : World), Keeps S a w → Keeps S a (w.setCells b o cs)
  | [], _, _, h => h
  | c :: cs, o, w, h => Keeps.setCellsNew hb cs (o + 1) _ (h.setCell (.inr hb) c)

theorem shl8s (y : UInt32) : (y.toNat : Int) * (256 : Int) % (4294967296 : Int) = ((y <<< 8).toNat : Int) := by
  rw [UInt32.toNat_shiftLeft]
  show _ = ((y.toNat <<< 8 % 4294967296 : Nat) : Int)
  rw [Nat.shiftLeft_eq]; omega

theorem add32 (a b : UInt32) : ((a.toNat : Int) + (b.toNat : Int)) % (4294967296 : Int) = ((a + b).toNat : Int) := by
  rw [UInt32.toNat_add]
  show _ = (((a.toNat + b.toNat) % 4294967296 : Nat) : Int)
  omega
theorem shr10 (x : UInt32) : (x.toNat : Int) / (1024 : Int) = ((x >>> 10).toNat : Int) := by
  rw [UInt32.toNat_shiftRight]
  show _ = ((x.toNat >>> 10 : Nat) : Int)
  rw [Nat.shiftRight_eq_div_pow]; omega
theorem shr3 (x : UInt32) : (x.toNat : Int) / (8 : Int) = ((x >>> 3).toNat : Int) := by
  rw [UInt32.toNat_shiftRight]
  show _ = ((x.toNat >>> 3 : Nat) : Int)
  rw [Nat.shiftRight_eq_div_pow]; omega

theorem wnew_int (x2 x7 x15 x16 : UInt32) : ((((bits .xor .u32 (bits .xor .u32 ((rotr 17 x2).toNat : Int) ((rotr 19 x2).toNat : Int)) ((x2.toNat : Int) / (1024 : Int)) + (x7.toNat : Int)) % (4294967296 : Int) + bits .xor .u32 (bits .xor .u32 ((rotr 7 x15).toNat : Int) ((rotr 18 x15).toNat : Int)) ((x15.toNat : Int) / (8 : Int))) % (4294967296 : Int) + (x16.toNat : Int)) % (4294967296 : Int)) = ((sgA x2 + x7 + sgB x15 + x16).toNat : Int) := by
  rw [shr10, shr3, xor32, xor32, xor32, xor32, add32, add32, add32]
  rfl

set_option maxRecDepth 100000 in
set_option maxHeartbeats 1000000 in
theorem words64_calls {w : World} (a : Option Addr) (c : Nat) (l : List UInt8) (hl : Rd w a l) (hn : l.length ≤ 256) :
    Calls Tryz.prog 131 #[.slice a l.length c] w fun e w' => e = .returned (.agg ((wAll l).map B32).toArray) ∧ Keeps [] w w' := by
  go_enter Tryz.func131, Tryz.ntmps131
  go_wp2_with fail
  have z64 : List.map B32 (List.replicate 64 (0 : UInt32)) = [.int .u32 0, .int .u32 0, .int .u32 0, .int .u32 0, .int .u32 0, .int .u32 0, .int .u32 0, .int .u32 0, .int .u32 0, .int .u32 0, .int .u32 0, .int .u32 0, .int .u32 0, .int .u32 0, .int .u32 0, .int .u32 0, .int .u32 0, .int .u32 0, .int .u32 0, .int .u32 0, .int .u32 0, .int .u32 0, .int .u32 0, .int .u32 0, .int .u32 0, .int .u32 0, .int .u32 0, .int .u32 0, .int .u32 0, .int .u32 0, .int .u32 0, .int .u32 0, .int .u32 0, .int .u32 0, .int .u32 0, .int .u32 0, .int .u32 0, .int .u32 0, .int .u32 0, .int .u32 0, .int .u32 0, .int .u32 0, .int .u32 0, .int .u32 0, .int .u32 0, .int .u32 0, .int .u32 0, .int .u32 0, .int .u32 0, .int .u32 0, .int .u32 0, .int .u32 0, .int .u32 0, .int .u32 0, .int .u32 0, .int .u32 0, .int .u32 0, .int .u32 0, .int .u32 0, .int .u32 0, .int .u32 0, .int .u32 0, .int .u32 0, .int .u32 0] := rfl
  have hB1 : Blk ((w.alloc (.cells #[.int .u32 0, .int .u32 0, .int .u32 0, .int .u32 0, .int .u32 0, .int .u32 0, .int .u32 0, .int .u32 0, .int .u32 0, .int .u32 0, .int .u32 0, .int .u32 0, .int .u32 0, .int .u32 0, .int .u32 0, .int .u32 0, .int .u32 0, .int .u32 0, .int .u32 0, .int .u32 0, .int .u32 0, .int .u32 0, .int .u32 0, .int .u32 0, .int .u32 0, .int .u32 0, .int .u32 0, .int .u32 0, .int .u32 0, .int .u32 0, .int .u32 0, .int .u32 0, .int .u32 0, .int .u32 0, .int .u32 0, .int .u32 0, .int .u32 0, .int .u32 0, .int .u32 0, .int .u32 0, .int .u32 0, .int .u32 0, .int .u32 0, .int .u32 0, .int .u32 0, .int .u32 0, .int .u32 0, .int .u32 0, .int .u32 0, .int .u32 0, .int .u32 0, .int .u32 0, .int .u32 0, .int .u32 0, .int .u32 0, .int .u32 0, .int .u32 0, .int .u32 0, .int .u32 0, .int .u32 0, .int .u32 0, .int .u32 0, .int .u32 0, .int .u32 0] 79)).alloc (.cells #[.int .u32 0, .int .u32 0, .int .u32 0, .int .u32 0, .int .u32 0, .int .u32 0, .int .u32 0, .int .u32 0, .int .u32 0, .int .u32 0, .int .u32 0, .int .u32 0, .int .u32 0, .int .u32 0, .int .u32 0, .int .u32 0, .int .u32 0, .int .u32 0, .int .u32 0, .int .u32 0, .int .u32 0, .int .u32 0, .int .u32 0, .int .u32 0, .int .u32 0, .int .u32 0, .int .u32 0, .int .u32 0, .int .u32 0, .int .u32 0, .int .u32 0, .int .u32 0, .int .u32 0, .int .u32 0, .int .u32 0, .int .u32 0, .int .u32 0, .int .u32 0, .int .u32 0, .int .u32 0, .int .u32 0, .int .u32 0, .int .u32 0, .int .u32 0, .int .u32 0, .int .u32 0, .int .u32 0, .int .u32 0, .int .u32 0, .int .u32 0, .int .u32 0, .int .u32 0, .int .u32 0, .int .u32 0, .int .u32 0, .int .u32 0, .int .u32 0, .int .u32 0, .int .u32 0, .int .u32 0, .int .u32 0, .int .u32 0, .int .u32 0, .int .u32 0] 79)) (w.heap.size + 1) 79 ((wBytes l 0).map B32) := by
    have := Blk.newA (w.alloc (.cells #[.int .u32 0, .int .u32 0, .int .u32 0, .int .u32 0, .int .u32 0, .int .u32 0, .int .u32 0, .int .u32 0, .int .u32 0, .int .u32 0, .int .u32 0, .int .u32 0, .int .u32 0, .int .u32 0, .int .u32 0, .int .u32 0, .int .u32 0, .int .u32 0, .int .u32 0, .int .u32 0, .int .u32 0, .int .u32 0, .int .u32 0, .int .u32 0, .int .u32 0, .int .u32 0, .int .u32 0, .int .u32 0, .int .u32 0, .int .u32 0, .int .u32 0, .int .u32 0, .int .u32 0, .int .u32 0, .int .u32 0, .int .u32 0, .int .u32 0, .int .u32 0, .int .u32 0, .int .u32 0, .int .u32 0, .int .u32 0, .int .u32 0, .int .u32 0, .int .u32 0, .int .u32 0, .int .u32 0, .int .u32 0, .int .u32 0, .int .u32 0, .int .u32 0, .int .u32 0, .int .u32 0, .int .u32 0, .int .u32 0, .int .u32 0, .int .u32 0, .int .u32 0, .int .u32 0, .int .u32 0, .int .u32 0, .int .u32 0, .int .u32 0, .int .u32 0] 79)) 79 #[.int .u32 0, .int .u32 0, .int .u32 0, .int .u32 0, .int .u32 0, .int .u32 0, .int .u32 0, .int .u32 0, .int .u32 0, .int .u32 0, .int .u32 0, .int .u32 0, .int .u32 0, .int .u32 0, .int .u32 0, .int .u32 0, .int .u32 0, .int .u32 0, .int .u32 0, .int .u32 0, .int .u32 0, .int .u32 0, .int .u32 0, .int .u32 0, .int .u32 0, .int .u32 0, .int .u32 0, .int .u32 0, .int .u32 0, .int .u32 0, .int .u32 0, .int .u32 0, .int .u32 0, .int .u32 0, .int .u32 0, .int .u32 0, .int .u32 0, .int .u32 0, .int .u32 0, .int .u32 0, .int .u32 0, .int .u32 0, .int .u32 0, .int .u32 0, .int .u32 0, .int .u32 0, .int .u32 0, .int .u32 0, .int .u32 0, .int .u32 0, .int .u32 0, .int .u32 0, .int .u32 0, .int .u32 0, .int .u32 0, .int .u32 0, .int .u32 0, .int .u32 0, .int .u32 0, .int .u32 0, .int .u32 0, .int .u32 0, .int .u32 0, .int .u32 0]
    rw [World.size_alloc] at this
    exact this
  have hB0 : Blk ((w.alloc (.cells #[.int .u32 0, .int .u32 0, .int .u32 0, .int .u32 0, .int .u32 0, .int .u32 0, .int .u32 0, .int .u32 0, .int .u32 0, .int .u32 0, .int .u32 0, .int .u32 0, .int .u32 0, .int .u32 0, .int .u32 0, .int .u32 0, .int .u32 0, .int .u32 0, .int .u32 0, .int .u32 0, .int .u32 0, .int .u32 0, .int .u32 0, .int .u32 0, .int .u32 0, .int .u32 0, .int .u32 0, .int .u32 0, .int .u32 0, .int .u32 0, .int .u32 0, .int .u32 0, .int .u32 0, .int .u32 0, .int .u32 0, .int .u32 0, .int .u32 0, .int .u32 0, .int .u32 0, .int .u32 0, .int .u32 0, .int .u32 0, .int .u32 0, .int .u32 0, .int .u32 0, .int .u32 0, .int .u32 0, .int .u32 0, .int .u32 0, .int .u32 0, .int .u32 0, .int .u32 0, .int .u32 0, .int .u32 0, .int .u32 0, .int .u32 0, .int .u32 0, .int .u32 0, .int .u32 0, .int .u32 0, .int .u32 0, .int .u32 0, .int .u32 0, .int .u32 0] 79)).alloc (.cells #[.int .u32 0, .int .u32 0, .int .u32 0, .int .u32 0, .int .u32 0, .int .u32 0, .int .u32 0, .int .u32 0, .int .u32 0, .int .u32 0, .int .u32 0, .int .u32 0, .int .u32 0, .int .u32 0, .int .u32 0, .int .u32 0, .int .u32 0, .int .u32 0, .int .u32 0, .int .u32 0, .int .u32 0, .int .u32 0, .int .u32 0, .int .u32 0, .int .u32 0, .int .u32 0, .int .u32 0, .int .u32 0, .int .u32 0, .int .u32 0, .int .u32 0, .int .u32 0, .int .u32 0, .int .u32 0, .int .u32 0, .int .u32 0, .int .u32 0, .int .u32 0, .int .u32 0, .int .u32 0, .int .u32 0, .int .u32 0, .int .u32 0, .int .u32 0, .int .u32 0, .int .u32 0, .int .u32 0, .int .u32 0, .int .u32 0, .int .u32 0, .int .u32 0, .int .u32 0, .int .u32 0, .int .u32 0, .int .u32 0, .int .u32 0, .int .u32 0, .int .u32 0, .int .u32 0, .int .u32 0, .int .u32 0, .int .u32 0, .int .u32 0, .int .u32 0] 79)) w.heap.size 79 ((List.replicate 64 (0 : UInt32)).map B32) :=
    (Blk.newA w 79 #[.int .u32 0, .int .u32 0, .int .u32 0, .int .u32 0, .int .u32 0, .int .u32 0, .int .u32 0, .int .u32 0, .int .u32 0, .int .u32 0, .int .u32 0, .int .u32 0, .int .u32 0, .int .u32 0, .int .u32 0, .int .u32 0, .int .u32 0, .int .u32 0, .int .u32 0, .int .u32 0, .int .u32 0, .int .u32 0, .int .u32 0, .int .u32 0, .int .u32 0, .int .u32 0, .int .u32 0, .int .u32 0, .int .u32 0, .int .u32 0, .int .u32 0, .int .u32 0, .int .u32 0, .int .u32 0, .int .u32 0, .int .u32 0, .int .u32 0, .int .u32 0, .int .u32 0, .int .u32 0, .int .u32 0, .int .u32 0, .int .u32 0, .int .u32 0, .int .u32 0, .int .u32 0, .int .u32 0, .int .u32 0, .int .u32 0, .int .u32 0, .int .u32 0, .int .u32 0, .int .u32 0, .int .u32 0, .int .u32 0, .int .u32 0, .int .u32 0, .int .u32 0, .int .u32 0, .int .u32 0, .int .u32 0, .int .u32 0, .int .u32 0, .int .u32 0]).alloc _
  clear z64
  go_loopw [11] (fun i wr => ∃ k : Nat, k ≤ l.length ∧ i = .int .i64 k ∧ Blk wr (w.heap.size + 1) 79 ((wBytes l k).map B32) ∧ Blk wr w.heap.size 79 ((List.replicate 64 (0 : UInt32)).map B32) ∧ Keeps [] w wr) (fun i _ => l.length - (intOf i).toNat)
  case atStart => exact ⟨0, Nat.zero_le _, rfl, hB1, hB0, ((Keeps.refl [] w).alloc _).alloc _⟩
  case round =>
    clear hB1 hB0
    obtain ⟨k, hk, rfl, hB1, hB0, hK⟩ := hrel
    by_cases hlt : k < l.length
    · obtain ⟨b0, o0, rfl, hc0⟩ := (hl.keepsNil hK) k l[k] (by simp [hlt])
      have hstep : wBytes l (k + 1) = wPut (wBytes l k) k (l.getD k 0) := rfl
      have hg : l.getD k 0 = l[k] := by rw [List.getD, List.getElem?_eq_getElem hlt]; rfl
      rw [hg] at hstep
      have hlen := wBytes_len l k
      have hq : k / 4 < 64 := by omega
      have hcw : wr.cell? ⟨w.heap.size + 1, k / 4, none⟩ = some (B32 ((wBytes l k).getD (k / 4) 0)) := by
        refine hB1.cell' ?_
        rw [List.getElem?_map, List.getD, List.getElem?_eq_getElem (by omega)]; rfl
      have hfw : wr.frozen? ⟨w.heap.size + 1, k / 4, none⟩ = false := hB1.frozen _
      unfold wPut at hstep
      generalize wBytes l k = W at *
      generalize l[k] = x at *
      generalize W.getD (k / 4) 0 = y at *
      have HS := Lib.hid hstep
      have HB1 := Lib.hid hB1
      have HB0 := Lib.hid hB0
      have HK := Lib.hid hK
      have Hl := Lib.hid hl
      clear hstep hB1 hB0 hK hl hg hlen
      go_wp2_with fail
      go_roundw
      case rel =>
        refine ⟨k + 1, by omega, by go_num, ?_, HB0.out.setOther _ (by simp), HK.out.setCell (by simp) _⟩
        rw [HS.out]
        rw [shl8s, byte32, or32, List.map_set]
        exact HB1.out.set _ _
      case measure => simp [intOf]; omega
    · have hkl : k = l.length := by omega
      subst hkl
      clear hl hlt hk
      have hwl : (wBytes l l.length).length = 64 := wBytes_len l _
      have hE : wAll l = wExt (wBytes l l.length) 48 := rfl
      generalize wBytes l l.length = W0 at *
      have HE := Lib.hid hE
      have HW := Lib.hid hwl
      clear hE hwl
      go_wp2_with fail
      go_loopw [6] (fun i wz => ∃ n : Nat, 16 ≤ n ∧ n ≤ 64 ∧ i = .int .i64 n ∧ Blk wz (w.heap.size + 1) 79 ((wExt W0 (n - 16)).map B32) ∧ Blk wz w.heap.size 79 ((List.replicate 64 (0 : UInt32)).map B32) ∧ Keeps [] w wz) (fun i _ => 64 - (intOf i).toNat)
      case atStart => exact ⟨16, by omega, by omega, rfl, hB1, hB0, hK⟩
      case round =>
        clear hB1 hB0 hK
        obtain ⟨n, hn16, hn64, rfl, hB1, hB0, hK⟩ := hrel
        by_cases hlt : n < 64
        · have hstep : wExt W0 (n + 1 - 16) = (wExt W0 (n - 16)).set n (wNew (wExt W0 (n - 16)) n) := by
            obtain ⟨j, rfl⟩ : ∃ j, n = 16 + j := ⟨n - 16, by omega⟩
            rw [show 16 + j + 1 - 16 = j + 1 from by omega, show 16 + j - 16 = j from by omega]
            rfl
          have hlen := wExt_len W0 HW.out (n - 16)
          have hnew : wNew (wExt W0 (n - 16)) n = sgA ((wExt W0 (n - 16)).getD (n - 2) 0) + (wExt W0 (n - 16)).getD (n - 7) 0 + sgB ((wExt W0 (n - 16)).getD (n - 15) 0) + (wExt W0 (n - 16)).getD (n - 16) 0 := rfl
          generalize wExt W0 (n - 16) = W at *
          have hcell : ∀ (wz : World), Blk wz (w.heap.size + 1) 79 (W.map B32) → ∀ m, m < 64 → wz.cell? ⟨w.heap.size + 1, m, none⟩ = some (B32 (W.getD m 0)) := fun wz hz m hm => by
            refine hz.cell' ?_
            rw [List.getElem?_map, List.getD, List.getElem?_eq_getElem (by omega)]; rfl
          obtain ⟨a2, ha2⟩ : ∃ a, n - 2 = a := ⟨_, rfl⟩
          obtain ⟨a7, ha7⟩ : ∃ a, n - 7 = a := ⟨_, rfl⟩
          obtain ⟨a15, ha15⟩ : ∃ a, n - 15 = a := ⟨_, rfl⟩
          obtain ⟨a16, ha16⟩ : ∃ a, n - 16 = a := ⟨_, rfl⟩
          rw [ha2, ha7, ha15, ha16] at hnew
          have k2 : (n : Int) - 2 = (a2 : Int) := by omega
          have k7 : (n : Int) - 7 = (a7 : Int) := by omega
          have k15 : (n : Int) - 15 = (a15 : Int) := by omega
          have k16 : (n : Int) - 16 = (a16 : Int) := by omega
          have b2 : (a2 : Int) < 64 := by omega
          have b7 : (a7 : Int) < 64 := by omega
          have b15 : (a15 : Int) < 64 := by omega
          have b16 : (a16 : Int) < 64 := by omega
          have bn : (n : Int) < 64 := by omega
          have wi : ∀ a : Nat, (a : Int) < 64 → IntKind.i64.wrap (a : Int) = (a : Int) := fun a ha => by rw [IntWalk.i64_left, IntWalk.wrap64_in _ (by omega)]
          have w2 := wi a2 b2
          have w7 := wi a7 b7
          have w15 := wi a15 b15
          have w16 := wi a16 b16
          clear wi
          have bn2 : (16 : Int) ≤ (n : Int) := by omega
          have c2 := hcell _ hB1.drew a2 (by omega)
          have c15 := hcell _ hB1.drew a15 (by omega)
          have c7 := hcell _ hB1.drew.drew a7 (by omega)
          have c16 := hcell _ hB1.drew.drew a16 (by omega)
          have hcn := hcell _ hB1.drew.drew n (by omega)
          have hfn : wr.drew.drew.frozen? ⟨w.heap.size + 1, n, none⟩ = false := hB1.drew.drew.frozen _
          have hne7 : a7 ≠ n := by omega
          have hne16 : a16 ≠ n := by omega
          generalize W.getD a2 0 = x2 at *
          generalize W.getD a7 0 = x7 at *
          generalize W.getD a15 0 = x15 at *
          generalize W.getD a16 0 = x16 at *
          generalize W.getD n 0 = xn at *
          have HS := Lib.hid hstep
          have HN := Lib.hid hnew
          have HB1 := Lib.hid hB1
          have HB0 := Lib.hid hB0
          have HK := Lib.hid hK
          have Hne7 := Lib.hid hne7
          have Hne16 := Lib.hid hne16
          have Hn := Lib.hid (show 16 ≤ n ∧ n < 64 from ⟨hn16, hlt⟩)
          clear hstep hnew hB1 hB0 hK hcell ha2 ha7 ha15 ha16 hne7 hne16 hn16 hn64 hlen
          go_wp2_with fail
          refine wp_region_noPanic ?_
          refine wp_region_held_drew (S := (fun w' => w'.cell? ⟨w.heap.size + 1, a2, none⟩ = some (B32 x2) ∧ w'.cell? ⟨w.heap.size + 1, a15, none⟩ = some (B32 x15))) (by kernel_rfl) ⟨c2, c15⟩ (fun hHeld => ?_)
          refine wpAnyH_take (i := 0) (v := ?v1_1) rfl (by kernel_rfl) (by kernel_rfl) (by kernel_rfl) (fun _ _ _ h => h) (Or.inl ⟨by rfl, ?y1_1⟩) (by assumption) ?r1_1
          case y1_1 => (intro w hSw; (try dsimp only at hSw); go_simp; try with_reducible rfl)
          (try simp only [Act.put, List.getElem_toArray, List.getElem_cons_zero, List.getElem_cons_succ, List.setIfInBounds_toArray, List.set_cons_zero, List.set_cons_succ])
          refine wpAnyH_take (i := 1) (v := ?v1_2) rfl (by kernel_rfl) (by kernel_rfl) (by kernel_rfl) (fun _ _ _ h => h) (Or.inl ⟨by rfl, ?y1_2⟩) (by assumption) ?r1_2
          case y1_2 => (intro w hSw; (try dsimp only at hSw); go_simp; try with_reducible rfl)
          (try simp only [Act.put, List.getElem_toArray, List.getElem_cons_zero, List.getElem_cons_succ, List.setIfInBounds_toArray, List.set_cons_zero, List.set_cons_succ])
          refine wpAnyH_take (i := 2) (v := ?v1_3) rfl (by kernel_rfl) (by kernel_rfl) (by kernel_rfl) (fun _ _ _ h => h) (Or.inl ⟨by rfl, ?y1_3⟩) (by assumption) ?r1_3
          case y1_3 => (intro w hSw; (try dsimp only at hSw); go_simp; try with_reducible rfl)
          (try simp only [Act.put, List.getElem_toArray, List.getElem_cons_zero, List.getElem_cons_succ, List.setIfInBounds_toArray, List.set_cons_zero, List.set_cons_succ])
          refine wpAnyH_take (i := 3) (v := ?v1_4) rfl (by kernel_rfl) (by kernel_rfl) (by kernel_rfl) (fun _ _ _ h => h) (Or.inl ⟨by rfl, ?y1_4⟩) (by assumption) ?r1_4
          case y1_4 => (intro w hSw; (try dsimp only at hSw); go_simp; try with_reducible rfl)
          (try simp only [Act.put, List.getElem_toArray, List.getElem_cons_zero, List.getElem_cons_succ, List.setIfInBounds_toArray, List.set_cons_zero, List.set_cons_succ])
          refine wpAnyH_take (i := 4) (v := ?v1_5) rfl (by kernel_rfl) (by kernel_rfl) (by kernel_rfl) (fun _ _ _ h => h) (Or.inl ⟨by rfl, ?y1_5⟩) (by assumption) ?r1_5
          case y1_5 => (intro w hSw; (try dsimp only at hSw); go_simp; try with_reducible rfl)
          (try simp only [Act.put, List.getElem_toArray, List.getElem_cons_zero, List.getElem_cons_succ, List.setIfInBounds_toArray, List.set_cons_zero, List.set_cons_succ])
          refine wpAnyH_take (i := 5) (v := ?v1_6) rfl (by kernel_rfl) (by kernel_rfl) (by kernel_rfl) (fun _ _ _ h => h) (Or.inl ⟨by rfl, ?y1_6⟩) (by assumption) ?r1_6
          case y1_6 => (intro w hSw; (try dsimp only at hSw); go_simp; try with_reducible rfl)
          (try simp only [Act.put, List.getElem_toArray, List.getElem_cons_zero, List.getElem_cons_succ, List.setIfInBounds_toArray, List.set_cons_zero, List.set_cons_succ])
          refine wpAnyH_take (i := 6) (v := ?v1_7) rfl (by kernel_rfl) (by kernel_rfl) (by kernel_rfl) (fun _ _ _ h => h) (Or.inl ⟨by rfl, ?y1_7⟩) (by assumption) ?r1_7
          case y1_7 => (intro w hSw; (try dsimp only at hSw); go_simp; try with_reducible rfl)
          (try simp only [Act.put, List.getElem_toArray, List.getElem_cons_zero, List.getElem_cons_succ, List.setIfInBounds_toArray, List.set_cons_zero, List.set_cons_succ])
          refine wpAnyH_take (i := 7) (v := ?v1_8) rfl (by kernel_rfl) (by kernel_rfl) (by kernel_rfl) (fun _ _ _ h => h) (Or.inl ⟨by rfl, ?y1_8⟩) (by assumption) ?r1_8
          case y1_8 => (intro w hSw; (try dsimp only at hSw); go_simp; try with_reducible rfl)
          (try simp only [Act.put, List.getElem_toArray, List.getElem_cons_zero, List.getElem_cons_succ, List.setIfInBounds_toArray, List.set_cons_zero, List.set_cons_succ])
          refine wpAnyH_take (i := 8) (v := ?v1_9) rfl (by kernel_rfl) (by kernel_rfl) (by kernel_rfl) (fun _ _ _ h => h) (Or.inl ⟨by rfl, ?y1_9⟩) (by assumption) ?r1_9
          case y1_9 => (intro w hSw; (try dsimp only at hSw); go_simp; try with_reducible rfl)
          (try simp only [Act.put, List.getElem_toArray, List.getElem_cons_zero, List.getElem_cons_succ, List.setIfInBounds_toArray, List.set_cons_zero, List.set_cons_succ])
          refine wpAnyH_take (i := 9) (v := ?v1_10) rfl (by kernel_rfl) (by kernel_rfl) (by kernel_rfl) (fun _ _ _ h => h) (Or.inl ⟨by rfl, ?y1_10⟩) (by assumption) ?r1_10
          case y1_10 => (intro w hSw; (try dsimp only at hSw); go_simp; try with_reducible rfl)
          (try simp only [Act.put, List.getElem_toArray, List.getElem_cons_zero, List.getElem_cons_succ, List.setIfInBounds_toArray, List.set_cons_zero, List.set_cons_succ])
          refine wpAnyH_done (by kernel_rfl) ?_ _
          refine NoPanic.normal ?_
          go_wp2_with fail
          refine wp_region_noPanic ?_
          refine wp_region_held_drew (S := (fun w' => w'.cell? ⟨w.heap.size + 1, a7, none⟩ = some (B32 x7) ∧ w'.cell? ⟨w.heap.size + 1, a16, none⟩ = some (B32 x16))) (by kernel_rfl) ⟨c7, c16⟩ (fun hHeld => ?_)
          refine wpAnyH_take (i := 0) (v := ?v2_11) rfl (by kernel_rfl) (by kernel_rfl) (by kernel_rfl) (fun _ _ _ h => h) (Or.inl ⟨by rfl, ?y2_11⟩) (by assumption) ?r2_11
          case y2_11 => (intro w hSw; (try dsimp only at hSw); go_simp; try with_reducible rfl)
          (try simp only [Act.put, List.getElem_toArray, List.getElem_cons_zero, List.getElem_cons_succ, List.setIfInBounds_toArray, List.set_cons_zero, List.set_cons_succ])
          refine wpAnyH_take (i := 1) (v := ?v2_12) rfl (by kernel_rfl) (by kernel_rfl) (by kernel_rfl) (fun _ _ _ h => h) (Or.inl ⟨by rfl, ?y2_12⟩) (by assumption) ?r2_12
          case y2_12 => (intro w hSw; (try dsimp only at hSw); go_simp; try with_reducible rfl)
          (try simp only [Act.put, List.getElem_toArray, List.getElem_cons_zero, List.getElem_cons_succ, List.setIfInBounds_toArray, List.set_cons_zero, List.set_cons_succ])
          refine wpAnyH_take (i := 3) (v := ?v2_13) rfl (by kernel_rfl) (by kernel_rfl) (by kernel_rfl) (fun _ _ _ h => h) (Or.inl ⟨by rfl, ?y2_13⟩) (by assumption) ?r2_13
          case y2_13 => (intro w hSw; (try dsimp only at hSw); go_simp; try with_reducible rfl)
          (try simp only [Act.put, List.getElem_toArray, List.getElem_cons_zero, List.getElem_cons_succ, List.setIfInBounds_toArray, List.set_cons_zero, List.set_cons_succ])
          refine wpAnyH_take (i := 6) (v := ?v2_14) rfl (by kernel_rfl) (by kernel_rfl) (by kernel_rfl) (fun _ _ _ h => h) (Or.inl ⟨by rfl, ?y2_14⟩) (by assumption) ?r2_14
          case y2_14 => (intro w hSw; (try dsimp only at hSw); go_simp; try with_reducible rfl)
          (try simp only [Act.put, List.getElem_toArray, List.getElem_cons_zero, List.getElem_cons_succ, List.setIfInBounds_toArray, List.set_cons_zero, List.set_cons_succ])
          refine wpAnyH_take (i := 7) (v := ?v2_15) rfl (by kernel_rfl) (by kernel_rfl) (by kernel_rfl) (fun _ _ _ h => h) (Or.inl ⟨by rfl, ?y2_15⟩) (by assumption) ?r2_15
          case y2_15 => (intro w hSw; (try dsimp only at hSw); go_simp; try with_reducible rfl)
          (try simp only [Act.put, List.getElem_toArray, List.getElem_cons_zero, List.getElem_cons_succ, List.setIfInBounds_toArray, List.set_cons_zero, List.set_cons_succ])
          refine wpAnyH_take (i := 9) (v := ?v2_16) rfl (by kernel_rfl) (by kernel_rfl) (by kernel_rfl) (fun _ _ _ h => h) (Or.inl ⟨by rfl, ?y2_16⟩) (by assumption) ?r2_16
          case y2_16 => (intro w hSw; (try dsimp only at hSw); go_simp; try with_reducible rfl)
          (try simp only [Act.put, List.getElem_toArray, List.getElem_cons_zero, List.getElem_cons_succ, List.setIfInBounds_toArray, List.set_cons_zero, List.set_cons_succ])
          refine wpAnyH_take (i := 10) (v := ?v2_17) rfl (by kernel_rfl) (by kernel_rfl) (by kernel_rfl) (fun _ _ _ h => h) (Or.inl ⟨by rfl, ?y2_17⟩) (by assumption) ?r2_17
          case y2_17 => (intro w hSw; (try dsimp only at hSw); go_simp; try with_reducible rfl)
          (try simp only [Act.put, List.getElem_toArray, List.getElem_cons_zero, List.getElem_cons_succ, List.setIfInBounds_toArray, List.set_cons_zero, List.set_cons_succ])
          refine wpAnyH_take (i := 11) (v := ?v2_18) rfl (by kernel_rfl) (by kernel_rfl) (by kernel_rfl) (fun _ _ _ h => h) (Or.inl ⟨by rfl, ?y2_18⟩) (by assumption) ?r2_18
          case y2_18 => (intro w hSw; (try dsimp only at hSw); go_simp; try with_reducible rfl)
          (try simp only [Act.put, List.getElem_toArray, List.getElem_cons_zero, List.getElem_cons_succ, List.setIfInBounds_toArray, List.set_cons_zero, List.set_cons_succ])
          refine wpAnyH_take (i := 12) (v := ?v2_19) rfl (by kernel_rfl) (by kernel_rfl) (by kernel_rfl) (fun _ _ _ h => h) (Or.inl ⟨by rfl, ?y2_19⟩) (by assumption) ?r2_19
          case y2_19 => (intro w hSw; (try dsimp only at hSw); go_simp; try with_reducible rfl)
          (try simp only [Act.put, List.getElem_toArray, List.getElem_cons_zero, List.getElem_cons_succ, List.setIfInBounds_toArray, List.set_cons_zero, List.set_cons_succ])
          refine wpAnyH_take (i := 14) (v := ?v2_20) rfl (by kernel_rfl) (by kernel_rfl) (by kernel_rfl) (fun _ _ _ h => h) (Or.inl ⟨by rfl, ?y2_20⟩) (by assumption) ?r2_20
          case y2_20 => (intro w hSw; (try dsimp only at hSw); go_simp; try with_reducible rfl)
          (try simp only [Act.put, List.getElem_toArray, List.getElem_cons_zero, List.getElem_cons_succ, List.setIfInBounds_toArray, List.set_cons_zero, List.set_cons_succ])
          refine wpAnyH_take (i := 16) (v := ?v2_21) rfl (by kernel_rfl) (by kernel_rfl) (by kernel_rfl) (fun _ _ _ h => h) (Or.inl ⟨by rfl, ?y2_21⟩) (by assumption) ?r2_21
          case y2_21 => (intro w hSw; (try dsimp only at hSw); go_simp; try with_reducible rfl)
          (try simp only [Act.put, List.getElem_toArray, List.getElem_cons_zero, List.getElem_cons_succ, List.setIfInBounds_toArray, List.set_cons_zero, List.set_cons_succ])
          refine wpAnyH_take (i := 19) (v := ?v2_22) rfl (by kernel_rfl) (by kernel_rfl) (by kernel_rfl) (fun _ _ _ h => h) (Or.inl ⟨by rfl, ?y2_22⟩) (by assumption) ?r2_22
          case y2_22 => (intro w hSw; (try dsimp only at hSw); go_simp; try with_reducible rfl)
          (try simp only [Act.put, List.getElem_toArray, List.getElem_cons_zero, List.getElem_cons_succ, List.setIfInBounds_toArray, List.set_cons_zero, List.set_cons_succ])
          refine wpAnyH_take (i := 20) (v := ?v2_23) rfl (by kernel_rfl) (by kernel_rfl) (by kernel_rfl) (fun _ _ _ h => h) (Or.inl ⟨by rfl, ?y2_23⟩) (by assumption) ?r2_23
          case y2_23 => (intro w hSw; (try dsimp only at hSw); go_simp; try with_reducible rfl)
          (try simp only [Act.put, List.getElem_toArray, List.getElem_cons_zero, List.getElem_cons_succ, List.setIfInBounds_toArray, List.set_cons_zero, List.set_cons_succ])
          refine wpAnyH_take (i := 23) (v := ?v2_24) rfl (by kernel_rfl) (by kernel_rfl) (by kernel_rfl) (fun _ _ _ h => h) (Or.inl ⟨by rfl, ?y2_24⟩) (by assumption) ?r2_24
          case y2_24 => (intro w hSw; (try dsimp only at hSw); go_simp; try with_reducible rfl)
          (try simp only [Act.put, List.getElem_toArray, List.getElem_cons_zero, List.getElem_cons_succ, List.setIfInBounds_toArray, List.set_cons_zero, List.set_cons_succ])
          refine wpAnyH_take (i := 24) (v := ?v2_25) rfl (by kernel_rfl) (by kernel_rfl) (by kernel_rfl) (fun _ _ _ h => h) (Or.inl ⟨by rfl, ?y2_25⟩) (by assumption) ?r2_25
          case y2_25 => (intro w hSw; (try dsimp only at hSw); go_simp; try with_reducible rfl)
          (try simp only [Act.put, List.getElem_toArray, List.getElem_cons_zero, List.getElem_cons_succ, List.setIfInBounds_toArray, List.set_cons_zero, List.set_cons_succ])
          refine wpAnyH_take (i := 25) (v := ?v2_26) rfl (by kernel_rfl) (by kernel_rfl) (by kernel_rfl) (fun _ _ _ h => h) (Or.inl ⟨by rfl, ?y2_26⟩) (by assumption) ?r2_26
          case y2_26 => (intro w hSw; (try dsimp only at hSw); go_simp; try with_reducible rfl)
          (try simp only [Act.put, List.getElem_toArray, List.getElem_cons_zero, List.getElem_cons_succ, List.setIfInBounds_toArray, List.set_cons_zero, List.set_cons_succ])
          refine wpAnyH_take (i := 26) (v := ?v2_27) rfl (by kernel_rfl) (by kernel_rfl) (by kernel_rfl) (fun _ _ _ h => h) (Or.inl ⟨by rfl, ?y2_27⟩) (by assumption) ?r2_27
          case y2_27 => (intro w hSw; (try dsimp only at hSw); go_simp; try with_reducible rfl)
          (try simp only [Act.put, List.getElem_toArray, List.getElem_cons_zero, List.getElem_cons_succ, List.setIfInBounds_toArray, List.set_cons_zero, List.set_cons_succ])
          refine wpAnyH_ready (rs := [2]) (by kernel_rfl) (by simp) ?_
          refine AllReadyH.cons rfl (fun K hK => ?_) AllReadyH.nil
          go_simp
          refine (turned_calls x2 17 (by decide)).mono ?_
          rintro e w' ⟨rfl, rfl⟩
          go_wp2_with fail
          refine hK.out _ _ ?s2_28 (fun hHeld => ?_)
          case s2_28 => ((try dsimp only) <;> (first | exact ⟨c7, c16⟩))
          clear hK K
          (try simp only [Act.put, List.getElem_toArray, List.getElem_cons_zero, List.getElem_cons_succ, List.setIfInBounds_toArray, List.set_cons_zero, List.set_cons_succ])
          refine wpAnyH_ready (rs := [4]) (by kernel_rfl) (by simp) ?_
          refine AllReadyH.cons rfl (fun K hK => ?_) AllReadyH.nil
          go_simp
          refine (turned_calls x2 19 (by decide)).mono ?_
          rintro e w' ⟨rfl, rfl⟩
          go_wp2_with fail
          refine hK.out _ _ ?s2_29 (fun hHeld => ?_)
          case s2_29 => ((try dsimp only) <;> (first | exact ⟨c7, c16⟩))
          clear hK K
          (try simp only [Act.put, List.getElem_toArray, List.getElem_cons_zero, List.getElem_cons_succ, List.setIfInBounds_toArray, List.set_cons_zero, List.set_cons_succ])
          refine wpAnyH_take (i := 5) (v := ?v2_30) rfl (by kernel_rfl) (by kernel_rfl) (by kernel_rfl) (fun _ _ _ h => h) (Or.inl ⟨by rfl, ?y2_30⟩) (by assumption) ?r2_30
          case y2_30 => (intro w hSw; (try dsimp only at hSw); go_simp; try with_reducible rfl)
          (try simp only [Act.put, List.getElem_toArray, List.getElem_cons_zero, List.getElem_cons_succ, List.setIfInBounds_toArray, List.set_cons_zero, List.set_cons_succ])
          refine wpAnyH_take (i := 8) (v := ?v2_31) rfl (by kernel_rfl) (by kernel_rfl) (by kernel_rfl) (fun _ _ _ h => h) (Or.inl ⟨by rfl, ?y2_31⟩) (by assumption) ?r2_31
          case y2_31 => (intro w hSw; (try dsimp only at hSw); go_simp; try with_reducible rfl)
          (try simp only [Act.put, List.getElem_toArray, List.getElem_cons_zero, List.getElem_cons_succ, List.setIfInBounds_toArray, List.set_cons_zero, List.set_cons_succ])
          refine wpAnyH_take (i := 13) (v := ?v2_32) rfl (by kernel_rfl) (by kernel_rfl) (by kernel_rfl) (fun _ _ _ h => h) (Or.inl ⟨by rfl, ?y2_32⟩) (by assumption) ?r2_32
          case y2_32 => (intro w hSw; (try dsimp only at hSw); go_simp; try with_reducible rfl)
          (try simp only [Act.put, List.getElem_toArray, List.getElem_cons_zero, List.getElem_cons_succ, List.setIfInBounds_toArray, List.set_cons_zero, List.set_cons_succ])
          refine wpAnyH_ready (rs := [15]) (by kernel_rfl) (by simp) ?_
          refine AllReadyH.cons rfl (fun K hK => ?_) AllReadyH.nil
          go_simp
          refine (turned_calls x15 7 (by decide)).mono ?_
          rintro e w' ⟨rfl, rfl⟩
          go_wp2_with fail
          refine hK.out _ _ ?s2_33 (fun hHeld => ?_)
          case s2_33 => ((try dsimp only) <;> (first | exact ⟨c7, c16⟩))
          clear hK K
          (try simp only [Act.put, List.getElem_toArray, List.getElem_cons_zero, List.getElem_cons_succ, List.setIfInBounds_toArray, List.set_cons_zero, List.set_cons_succ])
          refine wpAnyH_ready (rs := [17]) (by kernel_rfl) (by simp) ?_
          refine AllReadyH.cons rfl (fun K hK => ?_) AllReadyH.nil
          go_simp
          refine (turned_calls x15 18 (by decide)).mono ?_
          rintro e w' ⟨rfl, rfl⟩
          go_wp2_with fail
          refine hK.out _ _ ?s2_34 (fun hHeld => ?_)
          case s2_34 => ((try dsimp only) <;> (first | exact ⟨c7, c16⟩))
          clear hK K
          (try simp only [Act.put, List.getElem_toArray, List.getElem_cons_zero, List.getElem_cons_succ, List.setIfInBounds_toArray, List.set_cons_zero, List.set_cons_succ])
          refine wpAnyH_take (i := 18) (v := ?v2_35) rfl (by kernel_rfl) (by kernel_rfl) (by kernel_rfl) (fun _ _ _ h => h) (Or.inl ⟨by rfl, ?y2_35⟩) (by assumption) ?r2_35
          case y2_35 => (intro w hSw; (try dsimp only at hSw); go_simp; try with_reducible rfl)
          (try simp only [Act.put, List.getElem_toArray, List.getElem_cons_zero, List.getElem_cons_succ, List.setIfInBounds_toArray, List.set_cons_zero, List.set_cons_succ])
          refine wpAnyH_take (i := 21) (v := ?v2_36) rfl (by kernel_rfl) (by kernel_rfl) (by kernel_rfl) (fun _ _ _ h => h) (Or.inl ⟨by rfl, ?y2_36⟩) (by assumption) ?r2_36
          case y2_36 => (intro w hSw; (try dsimp only at hSw); go_simp; try with_reducible rfl)
          (try simp only [Act.put, List.getElem_toArray, List.getElem_cons_zero, List.getElem_cons_succ, List.setIfInBounds_toArray, List.set_cons_zero, List.set_cons_succ])
          refine wpAnyH_take (i := 22) (v := ?v2_37) rfl (by kernel_rfl) (by kernel_rfl) (by kernel_rfl) (fun _ _ _ h => h) (Or.inl ⟨by rfl, ?y2_37⟩) (by assumption) ?r2_37
          case y2_37 => (intro w hSw; (try dsimp only at hSw); go_simp; try with_reducible rfl)
          (try simp only [Act.put, List.getElem_toArray, List.getElem_cons_zero, List.getElem_cons_succ, List.setIfInBounds_toArray, List.set_cons_zero, List.set_cons_succ])
          refine wpAnyH_take (i := 27) (v := ?v2_38) rfl (by kernel_rfl) (by kernel_rfl) (by kernel_rfl) (fun _ _ _ h => h) (Or.inl ⟨by rfl, ?y2_38⟩) (by assumption) ?r2_38
          case y2_38 => (intro w hSw; (try dsimp only at hSw); go_simp; try with_reducible rfl)
          (try simp only [Act.put, List.getElem_toArray, List.getElem_cons_zero, List.getElem_cons_succ, List.setIfInBounds_toArray, List.set_cons_zero, List.set_cons_succ])
          refine wpAnyH_take (i := 28) (v := ?v2_39) rfl (by kernel_rfl) (by kernel_rfl) (by kernel_rfl) (fun _ _ _ h => h) (Or.inl ⟨by rfl, ?y2_39⟩) (by assumption) ?r2_39
          case y2_39 => (intro w hSw; (try dsimp only at hSw); go_simp; try with_reducible rfl)
          (try simp only [Act.put, List.getElem_toArray, List.getElem_cons_zero, List.getElem_cons_succ, List.setIfInBounds_toArray, List.set_cons_zero, List.set_cons_succ])
          refine wpAnyH_ready (rs := [29]) (by kernel_rfl) (by simp) ?_
          refine AllReadyH.cons rfl (fun K hK => ?_) AllReadyH.nil
          go_simp
          refine hK.out _ _ ?s2_40 (fun hHeld => ?_)
          case s2_40 => ((try dsimp only) <;> (first | exact ⟨(World.cell?_setCell_other _ ⟨w.heap.size + 1, n, none⟩ ⟨w.heap.size + 1, a7, none⟩ _ (fun h => Hne7.out (congrArg Addr.off h).symm)).trans c7, (World.cell?_setCell_other _ ⟨w.heap.size + 1, n, none⟩ ⟨w.heap.size + 1, a16, none⟩ _ (fun h => Hne16.out (congrArg Addr.off h).symm)).trans c16⟩))
          clear hK K
          (try simp only [Act.put, List.getElem_toArray, List.getElem_cons_zero, List.getElem_cons_succ, List.setIfInBounds_toArray, List.set_cons_zero, List.set_cons_succ])
          refine wpAnyH_done (by kernel_rfl) ?_ _
          refine NoPanic.normal ?_
          go_wp2_with fail
          go_roundw
          case rel =>
            have hn := Hn.out
            refine ⟨n + 1, by omega, by omega, by go_num, ?_, HB0.out.drew.drew.setOther _ (by simp), HK.out.drew.drew.setCell (by simp) _⟩
            rw [HS.out, HN.out, List.map_set, wnew_int]
            exact HB1.out.set n _
          case measure => simp [intOf]; omega
        · obtain rfl : n = 64 := by omega
          rw [show (64 : Nat) - 16 = 48 from rfl, ← HE.out] at hB1
          have hlen : ((wAll l).map B32).length = 64 := by rw [List.length_map]; exact wAll_len l
          have hsz : (Tryz.prog.info? 79).map (·.size) = some ((wAll l).map B32).length := by rw [hlen]; kernel_rfl
          have hone : ∀ v ∈ (wAll l).map B32, v.oneCell' = true := by intro v hv; obtain ⟨x, _, rfl⟩ := List.mem_map.1 hv; rfl
          have hB2 : Blk (wr.setCells w.heap.size 0 ((wAll l).map B32)) w.heap.size 79 ((wAll l).map B32) := hB0.setCells (by rw [hlen]; rfl)
          have hL2 := run_loadVar_mid (P := Tryz.prog) (wr.setCells w.heap.size 0 ((wAll l).map B32)) w.heap.size 0 79 ((wAll l).map B32) _ hB2.range Tryz.underlying79 rfl hsz
          have hK2 := Keeps.setCellsNew (S := []) (b := w.heap.size) (Nat.le_refl _) ((wAll l).map B32) 0 wr hK
          generalize hV : (wAll l).map B32 = V at *
          have HV := Lib.hid hV
          clear hV
          have HK2 := Lib.hid hK2
          have HB2 := Lib.hid hB2
          have HS := Lib.hid hsz
          have HO := Lib.hid hone
          have HB1 := Lib.hid hB1
          have HT := Lib.hid (hB0.there V.toArray.size (by rw [List.size_toArray, hlen]; rfl))
          clear hB0 hB1 hK hB2 hlen hlt hn16 hn64 hK2 hL2 hsz hone
          go_upto_region 12 with (fail)
          apply wp_region_lit
          refine wpList_load_mid rfl 79 (.tmp 3) rfl (w.heap.size + 1) 0 rfl V _ HB1.out.range Tryz.underlying79 rfl HS.out ?_
          simp only [Act.put, List.setIfInBounds_toArray, List.set_cons_zero, List.set_cons_succ]
          refine wpList_store_mid rfl 79 (.tmp 2) (.tmp 69) rfl w.heap.size 0 V.toArray rfl rfl HT.out (by rw [List.size_toArray]; exact HS.out) (all_oneCell_toArray HO.out) ?_
          simp only [Act.put]
          go_wp2_with fail
          refine bodyPost_ret (v := .agg V.toArray) (results_cell_row Tryz.results131 _ _ _ _ _ _ _ (by rfl) HB2.out Tryz.underlying79 rfl (by rw [List.size_toArray]; exact HS.out)) rfl ⟨by rw [HV.out], HK2.out⟩

end Go.Proofs.YtijhaeapoapgfaaGreatDoor

set_option linter.unusedVariables false
set_option linter.unusedSimpArgs false
namespace Go.Proofs.YtijhaeapoapgfaaGreatDoor
open Go.RowKit
attribute [local go_sem ↓] Go.wp_at_zero Go.wp_at_succ

theorem all_one (l : List UInt32) : ∀ v ∈ l.map B32, v.oneCell' = true := by intro v hv; obtain ⟨x, _, rfl⟩ := List.mem_map.1 hv; rfl

set_option maxRecDepth 100000 in
set_option maxHeartbeats 1000000 in
theorem constants_calls {w : World} :
    Calls Tryz.prog 132 #[] w fun e w' => e = .returned (.agg (shaK.map B32).toArray) ∧ Keeps [] w w' := by
  go_enter Tryz.func132, Tryz.ntmps132
  go_upto_region 1 with (fail)
  apply wp_region_lit
  go_step
  go_step
  go_step
  have hB0 : Blk (w.alloc (.cells #[.int .u32 0, .int .u32 0, .int .u32 0, .int .u32 0, .int .u32 0, .int .u32 0, .int .u32 0, .int .u32 0, .int .u32 0, .int .u32 0, .int .u32 0, .int .u32 0, .int .u32 0, .int .u32 0, .int .u32 0, .int .u32 0, .int .u32 0, .int .u32 0, .int .u32 0, .int .u32 0, .int .u32 0, .int .u32 0, .int .u32 0, .int .u32 0, .int .u32 0, .int .u32 0, .int .u32 0, .int .u32 0, .int .u32 0, .int .u32 0, .int .u32 0, .int .u32 0, .int .u32 0, .int .u32 0, .int .u32 0, .int .u32 0, .int .u32 0, .int .u32 0, .int .u32 0, .int .u32 0, .int .u32 0, .int .u32 0, .int .u32 0, .int .u32 0, .int .u32 0, .int .u32 0, .int .u32 0, .int .u32 0, .int .u32 0, .int .u32 0, .int .u32 0, .int .u32 0, .int .u32 0, .int .u32 0, .int .u32 0, .int .u32 0, .int .u32 0, .int .u32 0, .int .u32 0, .int .u32 0, .int .u32 0, .int .u32 0, .int .u32 0, .int .u32 0] 79)) w.heap.size 79 ((List.replicate 64 (0 : UInt32)).map B32) := Blk.newA w 79 #[.int .u32 0, .int .u32 0, .int .u32 0, .int .u32 0, .int .u32 0, .int .u32 0, .int .u32 0, .int .u32 0, .int .u32 0, .int .u32 0, .int .u32 0, .int .u32 0, .int .u32 0, .int .u32 0, .int .u32 0, .int .u32 0, .int .u32 0, .int .u32 0, .int .u32 0, .int .u32 0, .int .u32 0, .int .u32 0, .int .u32 0, .int .u32 0, .int .u32 0, .int .u32 0, .int .u32 0, .int .u32 0, .int .u32 0, .int .u32 0, .int .u32 0, .int .u32 0, .int .u32 0, .int .u32 0, .int .u32 0, .int .u32 0, .int .u32 0, .int .u32 0, .int .u32 0, .int .u32 0, .int .u32 0, .int .u32 0, .int .u32 0, .int .u32 0, .int .u32 0, .int .u32 0, .int .u32 0, .int .u32 0, .int .u32 0, .int .u32 0, .int .u32 0, .int .u32 0, .int .u32 0, .int .u32 0, .int .u32 0, .int .u32 0, .int .u32 0, .int .u32 0, .int .u32 0, .int .u32 0, .int .u32 0, .int .u32 0, .int .u32 0, .int .u32 0]
  have hlen : (shaK.map B32).length = 64 := by rw [List.length_map]; exact shaK_len
  have hsz : (Tryz.prog.info? 79).map (·.size) = some (shaK.map B32).length := by rw [hlen]; kernel_rfl
  have hB2 := hB0.setCells (cs := shaK.map B32) (by rw [hlen]; rfl)
  have hK2 := Keeps.setCellsNew (S := []) (b := w.heap.size) (Nat.le_refl _) (shaK.map B32) 0 _ ((Keeps.refl [] w).alloc (.cells #[.int .u32 0, .int .u32 0, .int .u32 0, .int .u32 0, .int .u32 0, .int .u32 0, .int .u32 0, .int .u32 0, .int .u32 0, .int .u32 0, .int .u32 0, .int .u32 0, .int .u32 0, .int .u32 0, .int .u32 0, .int .u32 0, .int .u32 0, .int .u32 0, .int .u32 0, .int .u32 0, .int .u32 0, .int .u32 0, .int .u32 0, .int .u32 0, .int .u32 0, .int .u32 0, .int .u32 0, .int .u32 0, .int .u32 0, .int .u32 0, .int .u32 0, .int .u32 0, .int .u32 0, .int .u32 0, .int .u32 0, .int .u32 0, .int .u32 0, .int .u32 0, .int .u32 0, .int .u32 0, .int .u32 0, .int .u32 0, .int .u32 0, .int .u32 0, .int .u32 0, .int .u32 0, .int .u32 0, .int .u32 0, .int .u32 0, .int .u32 0, .int .u32 0, .int .u32 0, .int .u32 0, .int .u32 0, .int .u32 0, .int .u32 0, .int .u32 0, .int .u32 0, .int .u32 0, .int .u32 0, .int .u32 0, .int .u32 0, .int .u32 0, .int .u32 0] 79))
  have hT := hB0.there (shaK.map B32).toArray.size (by rw [List.size_toArray, hlen]; rfl)
  refine wpList_store_mid rfl 79 (.tmp 0) (.tmp 1) rfl w.heap.size 0 (shaK.map B32).toArray (by rfl) (by rfl) hT (by rw [List.size_toArray]; exact hsz) (all_oneCell_toArray (all_one _)) ?_
  simp only [Act.put]
  go_wp2_with fail
  exact bodyPost_ret (v := .agg (shaK.map B32).toArray) (results_cell_row Tryz.results132 _ _ _ _ _ _ _ (by rfl) hB2 Tryz.underlying79 rfl (by rw [List.size_toArray]; exact hsz)) rfl ⟨rfl, hK2⟩

end Go.Proofs.YtijhaeapoapgfaaGreatDoor
