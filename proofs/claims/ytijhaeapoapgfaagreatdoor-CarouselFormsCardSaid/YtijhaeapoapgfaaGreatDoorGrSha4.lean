/-
  GrSha4: the texts Sha4, one behind another.
-/
import Derived.Test.YtijhaeapoapgfaaGreatDoorGrSha2
import Derived.Test.YtijhaeapoapgfaaGreatDoorGrRand
import Derived.Deep.RegionWith
set_option linter.unusedVariables false
set_option linter.unusedSimpArgs false
namespace Go.Proofs.YtijhaeapoapgfaaGreatDoor
open Go.RowKit
attribute [local go_sem ↓] Go.wp_at_zero Go.wp_at_succ

theorem four_list (M : UInt32) (x0 x1 x2 x3 : Int) (h0 : x0 = (M.toNat : Int) / (16777216 : Int) % (256 : Int)) (h1 : x1 = (M.toNat : Int) / (65536 : Int) % (256 : Int)) (h2 : x2 = (M.toNat : Int) / (256 : Int) % (256 : Int)) (h3 : x3 = (M.toNat : Int) % (256 : Int)) :
    (#[Value.int .u8 x0, .int .u8 x1, .int .u8 x2, .int .u8 x3] : Array Value).toList = List.map B8 (St.bytes4 M) := by
  have g0 := be4_24 M
  have g1 := be4_16 M
  have g2 := be4_8 M
  have g3 := be4_0 M
  have e0 : x0 = (((M >>> 24).toUInt8).toNat : Int) := by rw [h0, ← g0]; rfl
  have e1 : x1 = (((M >>> 16).toUInt8).toNat : Int) := by rw [h1, ← g1]; rfl
  have e2 : x2 = (((M >>> 8).toUInt8).toNat : Int) := by rw [h2, ← g2]; rfl
  have e3 : x3 = ((M.toUInt8).toNat : Int) := by rw [h3, ← g3]
  rw [e0, e1, e2, e3]
  rfl

theorem Sl.cutAt {w : World} {B : Nat} {a : Option Addr} {c : Nat} {l : List UInt8} (h : Sl w B (.slice a l.length c) l) (k : Nat) (hk : k ≤ l.length) :
    Sl w B (.slice (if c = k then a else a.map fun x => ⟨x.block, x.off + k, none⟩) (l.length - k) (c - k)) (l.drop k) := by
  obtain ⟨a', c', he, h1, h2, h3, h4, h5⟩ := h
  simp only [Value.slice.injEq] at he
  obtain ⟨rfl, _, rfl⟩ := he
  refine ⟨_, _, by rw [List.length_drop], by rw [List.length_drop]; omega, by omega, ?_, ?_, ?_⟩
  · split
    · rw [List.drop_of_length_le (by omega)]; exact Rd.nil _ _
    · exact h3.dropMap k
  · split
    · intro h; exact ⟨by rw [(h4 h).1]; simp, by omega⟩
    · intro h
      have ha : a = none := by simpa using h
      exact ⟨by rw [(h4 ha).1]; simp, by have := (h4 ha).2; omega⟩
  · intro x hx hne
    have hl0 : l ≠ [] := by rintro rfl; simp at hne
    split at hx
    · exact h5 x hx hl0
    · obtain ⟨y, hy, rfl⟩ := Option.map_eq_some_iff.1 hx
      exact h5 y hy hl0

theorem stBlocks_succ (l : List UInt8) (k : Nat) : stBlocks l (k + 1) = (stBlocks l k).takes ((l.drop (64 * k)).take 64) := rfl

set_option maxRecDepth 100000 in
theorem index_run (w : World) (cells : Array Value) (j : Nat) (hj : j < 8) (v : Value) (hv : cells[j]? = some v) :
    (Instr.index 143 (.agg cells) (.int .i64 (j : Int))).run Tryz.prog w = .ok v w := by
  have hu : (underlying 143).run Tryz.prog w = .ok (.array 8 30) w := run_underlying Tryz.underlying143 w
  have hs : (sizeOf 30).run Tryz.prog w = .ok 1 w := by
    have : (Tryz.prog.info? 30).map (·.size) = some 1 := by kernel_rfl
    cases hq : Tryz.prog.info? 30 with
    | none => simp [hq] at this
    | some i => simp [hq] at this; simp [sizeOf, typeInfo, hq, this]
  have h0 : (0 : Int) ≤ (j : Int) ∧ (j : Int) < 8 := by omega
  simp only [Instr.index, asIntOf, Sem.run_bind, Sem.run_pure, Result.andThen_ok, hu]
  simp [h0, hs, Sem.run_bind, part, hv]

theorem wpList_index8 {w : World} {ops : Array Oper} {rest : List Oper} {o : Oper} {act : Act} {Q : Exit → Act → World → Prop} (hgd : o.guard = none) (x y : Operand) (ho : o.op = .index 143 x y)
    (cells : Array Value) (hx : act.eval x = .agg cells) (j : Nat) (hj : j < 8) (hy : act.eval y = .int .i64 (j : Int)) (v : Value) (hv : cells[j]? = some v)
    (h : wpList Tryz.prog ops Q rest (act.put o.dst v) w) : wpList Tryz.prog ops Q (o :: rest) act w := by
  refine wpList_plain hgd fun K hK => ?_
  have hr := index_run w cells j hj v hv
  unfold Oper.wp
  simp only [execOp, ho, hx, hy, hr, Sem.run_bind, Result.andThen_ok, Sem.run_pure, Oper.upon]
  exact hK _ _ h

set_option maxRecDepth 100000 in
set_option maxHeartbeats 2000000 in
theorem shasum_calls {w : World} (a : Option Addr) (n c : Nat) (l : List UInt8) (hl : Rd w a l) (hn : l.length = n) (hm : n ≤ 70368744177664) (h0 : a = none → n = 0 ∧ c = 0) :
    Calls Tryz.prog 36 #[.slice a n c] w (ClonePost w (sha l)) := by
  have hszS : (Tryz.prog.info? 143).map (·.size) = some 8 := by kernel_rfl
  have HsS := Lib.hid hszS
  clear hszS
  go_enter Tryz.func36, Tryz.ntmps36
  go_wp2_with fail
  refine begin_calls.mono ?_
  rintro e w1 ⟨rfl, hk1⟩
  dsimp only
  go_step
  go_step
  go_step
  go_step
  have hX : Blk (w1.alloc (.cells #[.int .u32 0, .int .u32 0, .int .u32 0, .int .u32 0, .int .u32 0, .int .u32 0, .int .u32 0, .int .u32 0] 143)) w1.heap.size 143 ((List.replicate 8 (0 : UInt32)).map B32) := Blk.newA w1 143 #[.int .u32 0, .int .u32 0, .int .u32 0, .int .u32 0, .int .u32 0, .int .u32 0, .int .u32 0, .int .u32 0]
  refine wpList_store_mid rfl 143 (.tmp 3) (.tmp 8) rfl w1.heap.size 0 St.first.cells.toArray (by rfl) (by rfl) (hX.there _ rfl) HsS.out (all_oneCell_toArray (all_one _)) ?_
  simp only [Act.put]
  have hX2 := hX.setCells (cs := St.first.cells) rfl
  have hKX : Keeps [] w1 ((w1.alloc (.cells #[.int .u32 0, .int .u32 0, .int .u32 0, .int .u32 0, .int .u32 0, .int .u32 0, .int .u32 0, .int .u32 0] 143)).setCells w1.heap.size 0 St.first.cells) := Keeps.setCellsNew (S := []) (b := w1.heap.size) (Nat.le_refl _) St.first.cells 0 _ ((Keeps.refl [] w1).alloc _)
  have hK2 := hk1.trans hKX
  have hws := hk1.size
  generalize ((w1.alloc (.cells #[.int .u32 0, .int .u32 0, .int .u32 0, .int .u32 0, .int .u32 0, .int .u32 0, .int .u32 0, .int .u32 0] 143)).setCells w1.heap.size 0 St.first.cells) = w2 at *
  generalize w1.heap.size = X at *
  clear hX hk1 hKX
  go_wp2_with fail
  refine (filled_calls a n c l (hl.keepsNil hK2) hn hm h0).mono ?_
  rintro e w3 ⟨v3, rfl, hO3, hk3⟩
  have hX3 := hX2.keeps hk3 (by simp)
  have hK3 := hK2.trans hk3
  have hXn : w.heap.size ≤ X := hws
  have hmod := filled_mod l
  have hle := filled_le l
  have hsha : sha l = (stBlocks (filled l) ((filled l).length / 64)).bytes := rfl
  have hz : stBlocks (filled l) 0 = St.first := rfl
  generalize filled l = L at *
  have Hsha := Lib.hid hsha
  have hS3 := hO3.sl.mono (B' := X + 1) hX2.lt
  clear hO3 hX2 hK2 hk3 hl h0 hsha
  go_wp2_with fail
  go_loopw [4] (fun v wr => ∃ k : Nat, 64 * k ≤ L.length ∧ Sl wr (X + 1) v (L.drop (64 * k)) ∧ Blk wr X 143 (stBlocks L k).cells ∧ Keeps [] w wr) (fun v _ => slLen v)
  case atStart => exact ⟨0, by omega, hS3, by rw [hz]; exact hX3, hK3⟩
  case round =>
    clear hS3 hX3 hK3 hz
    obtain ⟨k, hk, hv, hX, hKp⟩ := hrel
    have hv' := hv
    obtain ⟨b, cb, rfl, hb1, hb2, hrd, hb3, hb4⟩ := hv'
    have hdl : (L.drop (64 * k)).length = L.length - 64 * k := List.length_drop
    by_cases hlt : 64 * k < L.length
    · obtain ⟨m, hm64⟩ : ∃ m, (L.drop (64 * k)).length = m + 64 := ⟨L.length - 64 * k - 64, by omega⟩
      have hst := stBlocks_succ L k
      have hnx : L.drop (64 * (k + 1)) = (L.drop (64 * k)).drop 64 := by rw [List.drop_drop]; congr 1
      have htk : ((L.drop (64 * k)).take 64).length = 64 := by rw [List.length_take]; omega
      generalize stBlocks L k = s at *
      generalize L.drop (64 * k) = D at *
      rw [hm64] at hb1 ⊢
      have hT := takes_calls (w := wr.drew) s b cb (D.take 64) (hrd.take 64) htk
      generalize s.takes (D.take 64) = s' at *
      have HT := Lib.hid hT
      have HX := Lib.hid hX
      have Hv := Lib.hid hv
      have i64 : (64 : Int) ≤ (cb : Int) := by omega
      have i64b : (64 : Int) ≤ (m : Int) + 64 := by omega
      have Hst := Lib.hid hst
      have Hnx := Lib.hid hnx
      have Hne := Lib.hid hXn
      have Hrd := Lib.hid hrd
      clear hT hX hst hnx hXn hv
      go_wp2_with fail
      refine wp_region_any (by kernel_rfl) ?_
      change wpAny _ _ _ _ _ _ _ wr.drew
      refine wpAny_take (i := 1) (v := ?vq1) rfl (by kernel_rfl) (by kernel_rfl) (by kernel_rfl) (fun _ _ _ h => h) (Or.inl ⟨by rfl, ?yq1⟩) ?rq1
      case yq1 => (intro w; go_simp; try with_reducible rfl)
      (try simp only [Act.put, List.getElem_toArray, List.getElem_cons_zero, List.getElem_cons_succ, List.setIfInBounds_toArray, List.set_cons_zero, List.set_cons_succ])
      refine wpAny_take (i := 2) (v := ?vq2) rfl (by kernel_rfl) (by kernel_rfl) (by kernel_rfl) (fun _ _ _ h => h) (Or.inl ⟨by rfl, ?yq2⟩) ?rq2
      case yq2 => (intro w; go_simp; try with_reducible rfl)
      (try simp only [Act.put, List.getElem_toArray, List.getElem_cons_zero, List.getElem_cons_succ, List.setIfInBounds_toArray, List.set_cons_zero, List.set_cons_succ])
      refine wpAny_ready (rs := [0]) (by kernel_rfl) (by simp) ?_
      refine AllReady.cons rfl (fun K hK => ?_) AllReady.nil
      rw [if_pos (by rfl)]
      refine wp_load_mid _ _ rfl X 0 (by rfl) s.cells _ (HX.out.drew).range Tryz.underlying143 rfl (by rw [St.cells_len]; exact HsS.out) ?_
      refine hK _ _ ?_
      (try simp only [Act.put, List.getElem_toArray, List.getElem_cons_zero, List.getElem_cons_succ, List.setIfInBounds_toArray, List.set_cons_zero, List.set_cons_succ])
      refine wpAny_ready (rs := [3]) (by kernel_rfl) (by simp) ?_
      refine AllReady.cons rfl (fun K hK => ?_) AllReady.nil
      go_simp
      refine HT.out.mono ?_
      rintro e w5 ⟨rfl, hk5⟩
      dsimp only
      refine hK _ _ ?_
      (try simp only [Act.put, List.getElem_toArray, List.getElem_cons_zero, List.getElem_cons_succ, List.setIfInBounds_toArray, List.set_cons_zero, List.set_cons_succ])
      refine wpAny_ready (rs := [4]) (by kernel_rfl) (by simp) ?_
      refine AllReady.cons rfl (fun K hK => ?_) AllReady.nil
      rw [if_pos (by rfl)]
      refine wp_store_mid _ _ _ rfl X 0 s'.cells.toArray (by rfl) (by rfl) ((HX.out.drew.keeps hk5 (by simp)).there _ (by rw [St.cells_size, St.cells_len])) (by rw [St.cells_size]; exact HsS.out) (all_oneCell_toArray (all_one _)) ?_
      refine hK _ _ ?_
      (try simp only [Act.put, List.getElem_toArray, List.getElem_cons_zero, List.getElem_cons_succ, List.setIfInBounds_toArray, List.set_cons_zero, List.set_cons_succ])
      refine wpAny_done (by kernel_rfl) ?_ _
      go_wp2_with fail
      go_roundw
      case rel =>
        have hXne := Hne.out
        have hKc := Keeps.setCells (S := [X]) (b := X) (by simp) s'.cells 0 w5 w5 (Keeps.refl _ _)
        refine ⟨k + 1, by omega, ?_, by rw [Hst.out]; exact (HX.out.drew.keeps hk5 (by simp)).setCells (by rw [St.cells_len, St.cells_len]), (hKp.drew.trans hk5).trans' hKc (by simp) (by simp; omega)⟩
        rw [Hnx.out]
        have h6 := ((Sl.cutAt Hv.out 64 (by omega)).keeps (S := []) ((Keeps.refl [] wr).drew.trans hk5) (by simp)).keeps hKc (by simp)
        rw [hm64, Nat.add_sub_cancel] at h6
        exact h6
      case measure =>
        show m < m + 64
        omega
    · have hkk : L.length / 64 = k := by omega
      rw [hkk] at Hsha
      generalize stBlocks L k = s at *
      have hsz : L.drop (64 * k) = [] := List.length_eq_zero_iff.1 (by omega)
      rw [hsz, List.length_nil]
      have HX := Lib.hid hX
      have HK := Lib.hid hKp
      clear hX hKp hv hrd hb3 hb4 hsz hdl hkk
      obtain ⟨xa, xb, xc, xd, xe, xf, xg, xh⟩ := s
      have hby : (St.mk xa xb xc xd xe xf xg xh).bytes = St.bytes4 xa ++ St.bytes4 xb ++ St.bytes4 xc ++ St.bytes4 xd ++ St.bytes4 xe ++ St.bytes4 xf ++ St.bytes4 xg ++ St.bytes4 xh := rfl
      have Hby := Lib.hid hby
      clear hby
      go_upto_region 7 with (fail)
      apply wp_region_lit
      refine wpList_load_mid rfl 143 (.tmp 3) rfl X 0 (by rfl) (St.mk xa xb xc xd xe xf xg xh).cells _ HX.out.range Tryz.underlying143 rfl (by rw [St.cells_len]; exact HsS.out) ?_
      simp only [Act.put, List.setIfInBounds_toArray, List.set_cons_zero, List.set_cons_succ]
      rw [show (St.mk xa xb xc xd xe xf xg xh).cells = [B32 xa, B32 xb, B32 xc, B32 xd, B32 xe, B32 xf, B32 xg, B32 xh] from rfl]
      go_wp2_with fail
      go_loopw [21, 5] (fun i v wr => ∃ j : Nat, j ≤ 8 ∧ i = .int .i64 j ∧ Own wr w.heap.size v (([xa, xb, xc, xd, xe, xf, xg, xh].take j).flatMap St.bytes4) ∧ Keeps [] w wr) (fun i _ _ => 8 - (intOf i).toNat)
      case atStart => exact ⟨0, by omega, rfl, Own.nil _ _, HK.out⟩
      case round =>
        obtain ⟨j, hj, rfl, hO, hK⟩ := hrel
        have hs := hK.size
        match j, hj with
        | 0, _ =>
          go_upto_region 9 with (fail)
          apply wp_region_lit
          refine wpList_index8 rfl (.tmp 20) (.tmp 21) rfl #[B32 xa, B32 xb, B32 xc, B32 xd, B32 xe, B32 xf, B32 xg, B32 xh] (by rfl) 0 (by omega) (by rfl) (B32 xa) (by rfl) ?_
          simp only [Act.put, List.setIfInBounds_toArray, List.set_cons_zero, List.set_cons_succ]
          go_wp2_with (at_builtin; (refine wpList_append_bytes rfl _ _ rfl (hO.keeps ((Keeps.refl [] wr).alloc _) (by simp)) rfl _ 4 4 rfl (Rd.lit wr _ _ (St.bytes4 xa) (four_list xa _ _ _ _ (by omega) (by omega) (by omega) (by omega))) rfl (by simp) (by simp [St.bytes4]) (by simp; omega) ?_); intro v2 w2 hO2 hG2 hB2)
          go_roundw
          case rel => exact ⟨1, by omega, rfl, by simpa using hO2, (hK.alloc _).grown hG2 (fun y hy => .inr (hO.ne_lt y hy))⟩
          case measure => simp [intOf]
        | 1, _ =>
          go_upto_region 9 with (fail)
          apply wp_region_lit
          refine wpList_index8 rfl (.tmp 20) (.tmp 21) rfl #[B32 xa, B32 xb, B32 xc, B32 xd, B32 xe, B32 xf, B32 xg, B32 xh] (by rfl) 1 (by omega) (by rfl) (B32 xb) (by rfl) ?_
          simp only [Act.put, List.setIfInBounds_toArray, List.set_cons_zero, List.set_cons_succ]
          go_wp2_with (at_builtin; (refine wpList_append_bytes rfl _ _ rfl (hO.keeps ((Keeps.refl [] wr).alloc _) (by simp)) rfl _ 4 4 rfl (Rd.lit wr _ _ (St.bytes4 xb) (four_list xb _ _ _ _ (by omega) (by omega) (by omega) (by omega))) rfl (by simp) (by simp [St.bytes4]) (by simp; omega) ?_); intro v2 w2 hO2 hG2 hB2)
          go_roundw
          case rel => exact ⟨2, by omega, rfl, by simpa using hO2, (hK.alloc _).grown hG2 (fun y hy => .inr (hO.ne_lt y hy))⟩
          case measure => simp [intOf]
        | 2, _ =>
          go_upto_region 9 with (fail)
          apply wp_region_lit
          refine wpList_index8 rfl (.tmp 20) (.tmp 21) rfl #[B32 xa, B32 xb, B32 xc, B32 xd, B32 xe, B32 xf, B32 xg, B32 xh] (by rfl) 2 (by omega) (by rfl) (B32 xc) (by rfl) ?_
          simp only [Act.put, List.setIfInBounds_toArray, List.set_cons_zero, List.set_cons_succ]
          go_wp2_with (at_builtin; (refine wpList_append_bytes rfl _ _ rfl (hO.keeps ((Keeps.refl [] wr).alloc _) (by simp)) rfl _ 4 4 rfl (Rd.lit wr _ _ (St.bytes4 xc) (four_list xc _ _ _ _ (by omega) (by omega) (by omega) (by omega))) rfl (by simp) (by simp [St.bytes4]) (by simp; omega) ?_); intro v2 w2 hO2 hG2 hB2)
          go_roundw
          case rel => exact ⟨3, by omega, rfl, by simpa using hO2, (hK.alloc _).grown hG2 (fun y hy => .inr (hO.ne_lt y hy))⟩
          case measure => simp [intOf]
        | 3, _ =>
          go_upto_region 9 with (fail)
          apply wp_region_lit
          refine wpList_index8 rfl (.tmp 20) (.tmp 21) rfl #[B32 xa, B32 xb, B32 xc, B32 xd, B32 xe, B32 xf, B32 xg, B32 xh] (by rfl) 3 (by omega) (by rfl) (B32 xd) (by rfl) ?_
          simp only [Act.put, List.setIfInBounds_toArray, List.set_cons_zero, List.set_cons_succ]
          go_wp2_with (at_builtin; (refine wpList_append_bytes rfl _ _ rfl (hO.keeps ((Keeps.refl [] wr).alloc _) (by simp)) rfl _ 4 4 rfl (Rd.lit wr _ _ (St.bytes4 xd) (four_list xd _ _ _ _ (by omega) (by omega) (by omega) (by omega))) rfl (by simp) (by simp [St.bytes4]) (by simp; omega) ?_); intro v2 w2 hO2 hG2 hB2)
          go_roundw
          case rel => exact ⟨4, by omega, rfl, by simpa using hO2, (hK.alloc _).grown hG2 (fun y hy => .inr (hO.ne_lt y hy))⟩
          case measure => simp [intOf]
        | 4, _ =>
          go_upto_region 9 with (fail)
          apply wp_region_lit
          refine wpList_index8 rfl (.tmp 20) (.tmp 21) rfl #[B32 xa, B32 xb, B32 xc, B32 xd, B32 xe, B32 xf, B32 xg, B32 xh] (by rfl) 4 (by omega) (by rfl) (B32 xe) (by rfl) ?_
          simp only [Act.put, List.setIfInBounds_toArray, List.set_cons_zero, List.set_cons_succ]
          go_wp2_with (at_builtin; (refine wpList_append_bytes rfl _ _ rfl (hO.keeps ((Keeps.refl [] wr).alloc _) (by simp)) rfl _ 4 4 rfl (Rd.lit wr _ _ (St.bytes4 xe) (four_list xe _ _ _ _ (by omega) (by omega) (by omega) (by omega))) rfl (by simp) (by simp [St.bytes4]) (by simp; omega) ?_); intro v2 w2 hO2 hG2 hB2)
          go_roundw
          case rel => exact ⟨5, by omega, rfl, by simpa using hO2, (hK.alloc _).grown hG2 (fun y hy => .inr (hO.ne_lt y hy))⟩
          case measure => simp [intOf]
        | 5, _ =>
          go_upto_region 9 with (fail)
          apply wp_region_lit
          refine wpList_index8 rfl (.tmp 20) (.tmp 21) rfl #[B32 xa, B32 xb, B32 xc, B32 xd, B32 xe, B32 xf, B32 xg, B32 xh] (by rfl) 5 (by omega) (by rfl) (B32 xf) (by rfl) ?_
          simp only [Act.put, List.setIfInBounds_toArray, List.set_cons_zero, List.set_cons_succ]
          go_wp2_with (at_builtin; (refine wpList_append_bytes rfl _ _ rfl (hO.keeps ((Keeps.refl [] wr).alloc _) (by simp)) rfl _ 4 4 rfl (Rd.lit wr _ _ (St.bytes4 xf) (four_list xf _ _ _ _ (by omega) (by omega) (by omega) (by omega))) rfl (by simp) (by simp [St.bytes4]) (by simp; omega) ?_); intro v2 w2 hO2 hG2 hB2)
          go_roundw
          case rel => exact ⟨6, by omega, rfl, by simpa using hO2, (hK.alloc _).grown hG2 (fun y hy => .inr (hO.ne_lt y hy))⟩
          case measure => simp [intOf]
        | 6, _ =>
          go_upto_region 9 with (fail)
          apply wp_region_lit
          refine wpList_index8 rfl (.tmp 20) (.tmp 21) rfl #[B32 xa, B32 xb, B32 xc, B32 xd, B32 xe, B32 xf, B32 xg, B32 xh] (by rfl) 6 (by omega) (by rfl) (B32 xg) (by rfl) ?_
          simp only [Act.put, List.setIfInBounds_toArray, List.set_cons_zero, List.set_cons_succ]
          go_wp2_with (at_builtin; (refine wpList_append_bytes rfl _ _ rfl (hO.keeps ((Keeps.refl [] wr).alloc _) (by simp)) rfl _ 4 4 rfl (Rd.lit wr _ _ (St.bytes4 xg) (four_list xg _ _ _ _ (by omega) (by omega) (by omega) (by omega))) rfl (by simp) (by simp [St.bytes4]) (by simp; omega) ?_); intro v2 w2 hO2 hG2 hB2)
          go_roundw
          case rel => exact ⟨7, by omega, rfl, by simpa using hO2, (hK.alloc _).grown hG2 (fun y hy => .inr (hO.ne_lt y hy))⟩
          case measure => simp [intOf]
        | 7, _ =>
          go_upto_region 9 with (fail)
          apply wp_region_lit
          refine wpList_index8 rfl (.tmp 20) (.tmp 21) rfl #[B32 xa, B32 xb, B32 xc, B32 xd, B32 xe, B32 xf, B32 xg, B32 xh] (by rfl) 7 (by omega) (by rfl) (B32 xh) (by rfl) ?_
          simp only [Act.put, List.setIfInBounds_toArray, List.set_cons_zero, List.set_cons_succ]
          go_wp2_with (at_builtin; (refine wpList_append_bytes rfl _ _ rfl (hO.keeps ((Keeps.refl [] wr).alloc _) (by simp)) rfl _ 4 4 rfl (Rd.lit wr _ _ (St.bytes4 xh) (four_list xh _ _ _ _ (by omega) (by omega) (by omega) (by omega))) rfl (by simp) (by simp [St.bytes4]) (by simp; omega) ?_); intro v2 w2 hO2 hG2 hB2)
          go_roundw
          case rel => exact ⟨8, by omega, rfl, by simpa using hO2, (hK.alloc _).grown hG2 (fun y hy => .inr (hO.ne_lt y hy))⟩
          case measure => simp [intOf]
        | 8, _ =>
          go_wp2_with fail
          go_ret
          exact ⟨_, rfl, by rw [Hsha.out, Hby.out]; simpa using hO, hK⟩

end Go.Proofs.YtijhaeapoapgfaaGreatDoor
