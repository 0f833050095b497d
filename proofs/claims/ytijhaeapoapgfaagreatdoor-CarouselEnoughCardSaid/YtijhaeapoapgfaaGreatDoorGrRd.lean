/-
  GrRd: the texts RShaT, RDig0, one behind another.
-/
import Derived.Test.YtijhaeapoapgfaaGreatDoorPlain
import Derived.Test.YtijhaeapoapgfaaGreatDoorGrCrc
import Derived.Test.YtijhaeapoapgfaaGreatDoorSha2
set_option linter.unusedVariables false
set_option linter.unusedSimpArgs false
namespace Go.Proofs.YtijhaeapoapgfaaGreatDoor
open Go.RowKit

theorem rturn_eq (n : Nat) (x : UInt32) : (x >>> UInt32.ofNat n) ||| (x <<< UInt32.ofNat (32 - n)) = rotr n x := UInt32.or_comm _ _

theorem ch_xor (e f g : UInt32) : (e &&& f) ^^^ (~~~ e &&& g) = (e &&& f) ||| (~~~ e &&& g) := by
  apply UInt32.toBitVec_inj.1
  simp only [UInt32.toBitVec_xor, UInt32.toBitVec_and, UInt32.toBitVec_or, UInt32.toBitVec_not]
  ext i hi
  simp only [BitVec.getElem_xor, BitVec.getElem_and, BitVec.getElem_or, BitVec.getElem_not]
  cases e.toBitVec[i] <;> cases f.toBitVec[i] <;> cases g.toBitVec[i] <;> rfl

theorem mj_xor (a b c : UInt32) : ((a &&& b) ^^^ (a &&& c)) ^^^ (b &&& c) = ((a &&& b) ||| (a &&& c)) ||| (b &&& c) := by
  apply UInt32.toBitVec_inj.1
  simp only [UInt32.toBitVec_xor, UInt32.toBitVec_and, UInt32.toBitVec_or]
  ext i hi
  simp only [BitVec.getElem_xor, BitVec.getElem_and, BitVec.getElem_or]
  cases a.toBitVec[i] <;> cases b.toBitVec[i] <;> cases c.toBitVec[i] <;> rfl

theorem wNew_ref (W : List UInt32) (i : Nat) : W.getD (i - 16) 0 + sgB (W.getD (i - 15) 0) + W.getD (i - 7) 0 + sgA (W.getD (i - 2) 0) = wNew W i := by
  unfold wNew
  generalize W.getD (i - 16) 0 = a
  generalize sgB (W.getD (i - 15) 0) = b
  generalize W.getD (i - 7) 0 = c
  generalize sgA (W.getD (i - 2) 0) = d
  ac_rfl

theorem getD_set32 (l : List UInt32) (i j : Nat) (x : UInt32) (hi : i < l.length) : (l.set i x).getD j 0 = if i = j then x else l.getD j 0 := by
  by_cases h : i = j
  · subst h; rw [if_pos rfl, List.getD, List.getElem?_set_self hi]; rfl
  · rw [if_neg h, List.getD, List.getD, List.getElem?_set_ne h]

theorem wBytes_zero (l : List UInt8) (m : Nat) (hm : m < 64) : ∀ k, k ≤ 4 * m → (wBytes l k).getD m 0 = 0
  | 0, _ => by
    show (List.replicate 64 (0 : UInt32)).getD m 0 = 0
    rw [List.getD, List.getElem?_replicate, if_pos hm]; rfl
  | k + 1, h => by
    have := wBytes_zero l m hm k (by omega)
    unfold wBytes wPut
    rw [getD_set32 _ _ _ _ (by rw [wBytes_len]; omega), if_neg (by omega)]
    exact this

theorem wPut_at (W : List UInt32) (hW : W.length = 64) (i r : Nat) (hi : i < 64) (hr : r < 4) (c : UInt8) : wPut W (4 * i + r) c = W.set i ((W.getD i 0 <<< 8) ||| c.toUInt32) := by
  unfold wPut
  rw [show (4 * i + r) / 4 = i from by omega]

theorem wBytes_four (l : List UInt8) (i : Nat) (hi : i < 16) (hl : 4 * i + 4 ≤ l.length) : wBytes l (4 * (i + 1)) = (wBytes l (4 * i)).set i (numFold ((l.drop (4 * i)).take 4)) := by
  have h0 := wBytes_zero l i (by omega) (4 * i) (Nat.le_refl _)
  have hW := wBytes_len l (4 * i)
  have e : wBytes l (4 * (i + 1)) = wPut (wPut (wPut (wPut (wBytes l (4 * i)) (4 * i + 0) (l.getD (4 * i + 0) 0)) (4 * i + 1) (l.getD (4 * i + 1) 0)) (4 * i + 2) (l.getD (4 * i + 2) 0)) (4 * i + 3) (l.getD (4 * i + 3) 0) := by
    rw [show 4 * (i + 1) = 4 * i + 3 + 1 from by omega]
    rfl
  have ht : (l.drop (4 * i)).take 4 = [l.getD (4 * i + 0) 0, l.getD (4 * i + 1) 0, l.getD (4 * i + 2) 0, l.getD (4 * i + 3) 0] := by
    apply List.ext_getElem?
    intro j
    rw [List.getElem?_take]
    have hg : ∀ r, r < 4 → l[4 * i + r]? = some (l.getD (4 * i + r) 0) := fun r hr => by
      rw [List.getD, List.getElem?_eq_getElem (by omega)]; rfl
    match j with
    | 0 => rw [if_pos (by omega), List.getElem?_drop, hg 0 (by omega)]; rfl
    | 1 => rw [if_pos (by omega), List.getElem?_drop, hg 1 (by omega)]; rfl
    | 2 => rw [if_pos (by omega), List.getElem?_drop, hg 2 (by omega)]; rfl
    | 3 => rw [if_pos (by omega), List.getElem?_drop, hg 3 (by omega)]; rfl
    | j + 4 => rw [if_neg (by omega)]; rfl
  rw [e, ht]
  generalize wBytes l (4 * i) = W at *
  generalize l.getD (4 * i + 0) 0 = x0
  generalize l.getD (4 * i + 1) 0 = x1
  generalize l.getD (4 * i + 2) 0 = x2
  generalize l.getD (4 * i + 3) 0 = x3
  have hn : ∀ x : UInt32, (W.set i x).length = 64 := fun x => by rw [List.length_set, hW]
  have hg : ∀ x : UInt32, (W.set i x).getD i 0 = x := fun x => by rw [getD_set32 _ _ _ _ (by omega), if_pos rfl]
  rw [wPut_at W hW i 0 (by omega) (by omega), wPut_at _ (hn _) i 1 (by omega) (by omega), hg, List.set_set, wPut_at _ (hn _) i 2 (by omega) (by omega), hg, List.set_set, wPut_at _ (hn _) i 3 (by omega) (by omega), hg, List.set_set, h0]
  rfl

theorem bits8_four (n : Nat) : bits8 n = be4 (UInt32.ofNat (n * 8 / 4294967296)) ++ be4 (UInt32.ofNat (n * 8)) := by
  have hb : ∀ (x : UInt32), be4 x = [UInt8.ofNat (x.toNat / 16777216), UInt8.ofNat (x.toNat / 65536), UInt8.ofNat (x.toNat / 256), UInt8.ofNat x.toNat] := fun x => by
    unfold be4
    have e : ∀ (y : UInt32) (m : Nat), y.toNat = m → y.toUInt8 = UInt8.ofNat m := fun y m h => by
      apply UInt8.toNat_inj.1
      rw [UInt32.toNat_toUInt8, UInt8.toNat_ofNat', h]
    rw [e (x >>> 24) (x.toNat / 16777216) (by rw [UInt32.toNat_shiftRight]; exact Nat.shiftRight_eq_div_pow _ _), e (x >>> 16) (x.toNat / 65536) (by rw [UInt32.toNat_shiftRight]; exact Nat.shiftRight_eq_div_pow _ _), e (x >>> 8) (x.toNat / 256) (by rw [UInt32.toNat_shiftRight]; exact Nat.shiftRight_eq_div_pow _ _), e x x.toNat rfl]
  rw [hb, hb, UInt32.toNat_ofNat', UInt32.toNat_ofNat']
  have e8 : ∀ a b : Nat, a % 256 = b % 256 → UInt8.ofNat a = UInt8.ofNat b := fun a b h => by
    apply UInt8.toNat_inj.1
    rw [UInt8.toNat_ofNat', UInt8.toNat_ofNat']; exact h
  unfold bits8
  show [_, _, _, _, _, _, _, _] = [_, _, _, _, _, _, _, _]
  generalize n * 8 = N
  rw [e8 (N / 2 ^ 56) (N / 4294967296 % 2 ^ 32 / 16777216) (by omega), e8 (N / 2 ^ 48) (N / 4294967296 % 2 ^ 32 / 65536) (by omega), e8 (N / 2 ^ 40) (N / 4294967296 % 2 ^ 32 / 256) (by omega), e8 (N / 2 ^ 32) (N / 4294967296 % 2 ^ 32) (by omega), e8 (N / 2 ^ 24) (N % 2 ^ 32 / 16777216) (by omega), e8 (N / 2 ^ 16) (N % 2 ^ 32 / 65536) (by omega), e8 (N / 2 ^ 8) (N % 2 ^ 32 / 256) (by omega), e8 N (N % 2 ^ 32) (by omega)]

theorem size_hi (n : Nat) (hm : n ≤ 70368744177664) (v : Int) (hv : v = (n : Int) * 8 / 4294967296) : Value.int .u32 v = B32 (UInt32.ofNat (n * 8 / 4294967296)) := by
  subst hv
  show _ = Value.int .u32 _
  refine congrArg (Value.int .u32) ?_
  rw [UInt32.toNat_ofNat']
  omega
theorem size_lo (n : Nat) (v : Int) (hv : v = (n : Int) * 8 % 4294967296) : Value.int .u32 v = B32 (UInt32.ofNat (n * 8)) := by
  subst hv
  show _ = Value.int .u32 _
  refine congrArg (Value.int .u32) ?_
  rw [UInt32.toNat_ofNat']
  omega

end Go.Proofs.YtijhaeapoapgfaaGreatDoor

set_option linter.unusedVariables false
set_option linter.unusedSimpArgs false
namespace Go.Proofs.YtijhaeapoapgfaaGreatDoor
open Go.RowKit
attribute [local go_sem ↓] Go.wp_at_zero Go.wp_at_succ

theorem rrot_int (x : UInt32) (n : Nat) (P Q : Int) (h0 : 0 < n) (hn : n < 32) (hP : P = ((2 ^ (32 - n) : Nat) : Int)) (hQ : Q = ((2 ^ n : Nat) : Int)) :
    bits .or .u32 ((x.toNat : Int) / Q) ((x.toNat : Int) * P % (4294967296 : Int)) = ((rotr n x).toNat : Int) := by
  have e1 : (x.toNat : Int) * P % (4294967296 : Int) = ((x <<< UInt32.ofNat (32 - n)).toNat : Int) := by
    rw [hP, UInt32.toNat_shiftLeft, UInt32.toNat_ofNat', Nat.shiftLeft_eq, Nat.mod_eq_of_lt (a := 32 - n) (b := 2 ^ 32) (by omega), Nat.mod_eq_of_lt (a := 32 - n) (b := 32) (by omega)]
    rw [Int.natCast_emod, Int.natCast_mul]
    rfl
  have e2 : (x.toNat : Int) / Q = ((x >>> UInt32.ofNat n).toNat : Int) := by
    rw [hQ, UInt32.toNat_shiftRight, UInt32.toNat_ofNat', Nat.shiftRight_eq_div_pow, Nat.mod_eq_of_lt (a := n) (b := 2 ^ 32) (by omega), Nat.mod_eq_of_lt (a := n) (b := 32) (by omega)]
    rw [Int.natCast_ediv]
  rw [e1, e2, or32, rturn_eq]

set_option maxRecDepth 100000 in
theorem rturn_calls {w : World} (x : UInt32) (n : Nat) (hn : n ∈ rotArgs) :
    Calls Tryz.prog 45 #[B32 x, .int .u64 (n : Int)] w fun e w' => e = .returned (B32 (rotr n x)) ∧ w = w' := by
  simp only [rotArgs, List.mem_cons, List.not_mem_nil, or_false] at hn
  rcases hn with rfl | rfl | rfl | rfl | rfl | rfl | rfl | rfl | rfl | rfl
  · go_enter Tryz.func45, Tryz.ntmps45
    go_wp2_with fail
    go_ret
    exact ⟨congrArg (fun z => Ending.returned (.int .u32 z)) (rrot_int x 2 _ _ (by decide) (by decide) (by decide) (by decide)), rfl⟩
  · go_enter Tryz.func45, Tryz.ntmps45
    go_wp2_with fail
    go_ret
    exact ⟨congrArg (fun z => Ending.returned (.int .u32 z)) (rrot_int x 6 _ _ (by decide) (by decide) (by decide) (by decide)), rfl⟩
  · go_enter Tryz.func45, Tryz.ntmps45
    go_wp2_with fail
    go_ret
    exact ⟨congrArg (fun z => Ending.returned (.int .u32 z)) (rrot_int x 7 _ _ (by decide) (by decide) (by decide) (by decide)), rfl⟩
  · go_enter Tryz.func45, Tryz.ntmps45
    go_wp2_with fail
    go_ret
    exact ⟨congrArg (fun z => Ending.returned (.int .u32 z)) (rrot_int x 11 _ _ (by decide) (by decide) (by decide) (by decide)), rfl⟩
  · go_enter Tryz.func45, Tryz.ntmps45
    go_wp2_with fail
    go_ret
    exact ⟨congrArg (fun z => Ending.returned (.int .u32 z)) (rrot_int x 13 _ _ (by decide) (by decide) (by decide) (by decide)), rfl⟩
  · go_enter Tryz.func45, Tryz.ntmps45
    go_wp2_with fail
    go_ret
    exact ⟨congrArg (fun z => Ending.returned (.int .u32 z)) (rrot_int x 17 _ _ (by decide) (by decide) (by decide) (by decide)), rfl⟩
  · go_enter Tryz.func45, Tryz.ntmps45
    go_wp2_with fail
    go_ret
    exact ⟨congrArg (fun z => Ending.returned (.int .u32 z)) (rrot_int x 18 _ _ (by decide) (by decide) (by decide) (by decide)), rfl⟩
  · go_enter Tryz.func45, Tryz.ntmps45
    go_wp2_with fail
    go_ret
    exact ⟨congrArg (fun z => Ending.returned (.int .u32 z)) (rrot_int x 19 _ _ (by decide) (by decide) (by decide) (by decide)), rfl⟩
  · go_enter Tryz.func45, Tryz.ntmps45
    go_wp2_with fail
    go_ret
    exact ⟨congrArg (fun z => Ending.returned (.int .u32 z)) (rrot_int x 22 _ _ (by decide) (by decide) (by decide) (by decide)), rfl⟩
  · go_enter Tryz.func45, Tryz.ntmps45
    go_wp2_with fail
    go_ret
    exact ⟨congrArg (fun z => Ending.returned (.int .u32 z)) (rrot_int x 25 _ _ (by decide) (by decide) (by decide) (by decide)), rfl⟩

set_option maxRecDepth 100000 in
set_option maxHeartbeats 1000000 in
theorem rtable_calls {w : World} :
    Calls Tryz.prog 42 #[] w fun e w' => e = .returned (.agg (shaK.map B32).toArray) ∧ Keeps [] w w' := by
  go_enter Tryz.func42, Tryz.ntmps42
  go_upto_region 1 with (fail)
  apply wp_region_lit
  go_step
  go_step
  go_step
  have hB0 : Blk (w.alloc (.cells #[.int .u32 0, .int .u32 0, .int .u32 0, .int .u32 0, .int .u32 0, .int .u32 0, .int .u32 0, .int .u32 0, .int .u32 0, .int .u32 0, .int .u32 0, .int .u32 0, .int .u32 0, .int .u32 0, .int .u32 0, .int .u32 0, .int .u32 0, .int .u32 0, .int .u32 0, .int .u32 0, .int .u32 0, .int .u32 0, .int .u32 0, .int .u32 0, .int .u32 0, .int .u32 0, .int .u32 0, .int .u32 0, .int .u32 0, .int .u32 0, .int .u32 0, .int .u32 0, .int .u32 0, .int .u32 0, .int .u32 0, .int .u32 0, .int .u32 0, .int .u32 0, .int .u32 0, .int .u32 0, .int .u32 0, .int .u32 0, .int .u32 0, .int .u32 0, .int .u32 0, .int .u32 0, .int .u32 0, .int .u32 0, .int .u32 0, .int .u32 0, .int .u32 0, .int .u32 0, .int .u32 0, .int .u32 0, .int .u32 0, .int .u32 0, .int .u32 0, .int .u32 0, .int .u32 0, .int .u32 0, .int .u32 0, .int .u32 0, .int .u32 0, .int .u32 0] 79)) w.heap.size 79 ((List.replicate 64 (0 : UInt32)).map B32) := Blk.newA w 79 #[.int .u32 0, .int .u32 0, .int .u32 0, .int .u32 0, .int .u32 0, .int .u32 0, .int .u32 0, .int .u32 0, .int .u32 0, .int .u32 0, .int .u32 0, .int .u32 0, .int .u32 0, .int .u32 0, .int .u32 0, .int .u32 0, .int .u32 0, .int .u32 0, .int .u32 0, .int .u32 0, .int .u32 0, .int .u32 0, .int .u32 0, .int .u32 0, .int .u32 0, .int .u32 0, .int .u32 0, .int .u32 0, .int .u32 0, .int .u32 0, .int .u32 0, .int .u32 0, .int .u32 0, .int .u32 0, .int .u32 0, .int .u32 0, .int .u32 0, .int .u32 0, .int .u32 0, .int .u32 0, .int .u32 0, .int .u32 0, .int .u32 0, .int .u32 0, .int .u32 0, .int .u32 0, .int .u32 0, .int .u32 0, .int .u32 0, .int .u32 0, .int .u32 0, .int .u32 0, .int .u32 0, .int .u32 0, .int .u32 0, .int .u32 0, .int .u32 0, .int .u32 0, .int .u32 0, .int .u32 0, .int .u32 0, .int .u32 0, .int .u32 0, .int .u32 0]
  have hlen : (shaK.map B32).length = 64 := by rw [List.length_map]; exact shaK_len
  have hsz : (Tryz.prog.info? 79).map (·.size) = some (shaK.map B32).length := by rw [hlen]; kernel_rfl
  have hB2 := hB0.setCells (cs := shaK.map B32) (by rw [hlen]; rfl)
  have hK2 := Keeps.setCellsNew (S := []) (b := w.heap.size) (Nat.le_refl _) (shaK.map B32) 0 _ ((Keeps.refl [] w).alloc (.cells #[.int .u32 0, .int .u32 0, .int .u32 0, .int .u32 0, .int .u32 0, .int .u32 0, .int .u32 0, .int .u32 0, .int .u32 0, .int .u32 0, .int .u32 0, .int .u32 0, .int .u32 0, .int .u32 0, .int .u32 0, .int .u32 0, .int .u32 0, .int .u32 0, .int .u32 0, .int .u32 0, .int .u32 0, .int .u32 0, .int .u32 0, .int .u32 0, .int .u32 0, .int .u32 0, .int .u32 0, .int .u32 0, .int .u32 0, .int .u32 0, .int .u32 0, .int .u32 0, .int .u32 0, .int .u32 0, .int .u32 0, .int .u32 0, .int .u32 0, .int .u32 0, .int .u32 0, .int .u32 0, .int .u32 0, .int .u32 0, .int .u32 0, .int .u32 0, .int .u32 0, .int .u32 0, .int .u32 0, .int .u32 0, .int .u32 0, .int .u32 0, .int .u32 0, .int .u32 0, .int .u32 0, .int .u32 0, .int .u32 0, .int .u32 0, .int .u32 0, .int .u32 0, .int .u32 0, .int .u32 0, .int .u32 0, .int .u32 0, .int .u32 0, .int .u32 0] 79))
  have hT := hB0.there (shaK.map B32).toArray.size (by rw [List.size_toArray, hlen]; rfl)
  refine wpList_store_mid rfl 79 (.tmp 0) (.tmp 1) rfl w.heap.size 0 (shaK.map B32).toArray (by rfl) (by rfl) hT (by rw [List.size_toArray]; exact hsz) (all_oneCell_toArray (all_one _)) ?_
  simp only [Act.put]
  go_wp2_with fail
  exact bodyPost_ret (v := .agg (shaK.map B32).toArray) (results_cell_row Tryz.results42 _ _ _ _ _ _ _ (by rfl) hB2 Tryz.underlying79 rfl (by rw [List.size_toArray]; exact hsz)) rfl ⟨rfl, hK2⟩

set_option maxRecDepth 100000 in
theorem index_runA (w : World) (cells : Array Value) (j : Nat) (hj : j < 8) (v : Value) (hv : cells[j]? = some v) :
    (Instr.index 78 (.agg cells) (.int .i64 (j : Int))).run Tryz.prog w = .ok v w := by
  have hu : (underlying 78).run Tryz.prog w = .ok (.array 8 30) w := run_underlying Tryz.underlying78 w
  have hs : (sizeOf 30).run Tryz.prog w = .ok 1 w := by
    have : (Tryz.prog.info? 30).map (·.size) = some 1 := by kernel_rfl
    cases hq : Tryz.prog.info? 30 with
    | none => simp [hq] at this
    | some i => simp [hq] at this; simp [sizeOf, typeInfo, hq, this]
  have h0 : (0 : Int) ≤ (j : Int) ∧ (j : Int) < 8 := by omega
  simp only [Instr.index, asIntOf, Sem.run_bind, Sem.run_pure, Result.andThen_ok, hu]
  simp [h0, hs, Sem.run_bind, part, hv]

theorem wpList_indexA {w : World} {ops : Array Oper} {rest : List Oper} {o : Oper} {act : Act} {Q : Exit → Act → World → Prop} (hgd : o.guard = none) (x y : Operand) (ho : o.op = .index 78 x y)
    (cells : Array Value) (hx : act.eval x = .agg cells) (j : Nat) (hj : j < 8) (hy : act.eval y = .int .i64 (j : Int)) (v : Value) (hv : cells[j]? = some v)
    (h : wpList Tryz.prog ops Q rest (act.put o.dst v) w) : wpList Tryz.prog ops Q (o :: rest) act w := by
  refine wpList_plain hgd fun K hK => ?_
  have hr := index_runA w cells j hj v hv
  unfold Oper.wp
  simp only [execOp, ho, hx, hy, hr, Sem.run_bind, Result.andThen_ok, Sem.run_pure, Oper.upon]
  exact hK _ _ h

/-- The words of a block, the first i of them made. -/
def rW (D : List UInt8) (i : Nat) : List UInt32 := if i ≤ 16 then wBytes D (4 * i) else wExt (wBytes D 64) (i - 16)

theorem rW_len (D : List UInt8) (i : Nat) : (rW D i).length = 64 := by
  unfold rW
  split
  · exact wBytes_len _ _
  · exact wExt_len _ (wBytes_len _ _) _

theorem rW_zero (D : List UInt8) : rW D 0 = List.replicate 64 0 := rfl

theorem rW_low (D : List UInt8) (hD : D.length = 64) (i : Nat) (hi : i < 16) : rW D (i + 1) = (rW D i).set i (numFold ((D.drop (4 * i)).take 4)) := by
  unfold rW
  rw [if_pos (by omega), if_pos (by omega)]
  exact wBytes_four D i hi (by omega)

theorem rW_high (D : List UInt8) (i : Nat) (h16 : 16 ≤ i) : rW D (i + 1) = (rW D i).set i (wNew (rW D i) i) := by
  obtain ⟨j, rfl⟩ : ∃ j, i = 16 + j := ⟨i - 16, by omega⟩
  have e : ∀ j, rW D (16 + j) = wExt (wBytes D 64) j := by
    intro j
    unfold rW
    by_cases h : 16 + j ≤ 16
    · obtain rfl : j = 0 := by omega
      rw [if_pos (by omega)]; rfl
    · rw [if_neg h, show 16 + j - 16 = j from by omega]
  rw [e, show 16 + j + 1 = 16 + (j + 1) from by omega, e]
  rfl

theorem rW_all (D : List UInt8) (hD : D.length = 64) : rW D 64 = wAll D := by
  unfold rW wAll
  rw [if_neg (by omega), hD]

end Go.Proofs.YtijhaeapoapgfaaGreatDoor
