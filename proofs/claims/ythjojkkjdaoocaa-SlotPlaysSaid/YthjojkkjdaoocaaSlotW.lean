/-
  SlotW: package slot, walked: Of, Right, Write.
-/
import Derived.Test.YthjojkkjdaoocaaSlot
import Derived.Test.YthjojkkjdaoocaaSha4
import Derived.Test.YthjojkkjdaoocaaNumB
set_option linter.unusedVariables false
set_option linter.unusedSimpArgs false
namespace Go.Proofs.Ythjojkkjdaoocaa
open Go.RowKit
attribute [local go_sem ↓] Go.wp_at_zero Go.wp_at_succ

def OfPost (w : World) (ver : Int) (l : List UInt8) (e : Ending) (w' : World) : Prop :=
  if mayB l then ∃ v, e = .returned (.tuple #[.agg #[.int .u32 ver, .int .i64 l.length, v], .bool true]) ∧ Own w' w.heap.size v (sha l) ∧ Keeps [] w w'
  else e = .returned (.tuple #[.agg #[.int .u32 0, .int .i64 0, .slice none 0 0], .bool false]) ∧ Keeps [] w w'

theorem mayB_iff (l : List UInt8) : mayB l = true ↔ 1 ≤ l.length ∧ l.length ≤ 512 := by unfold mayB; simp

set_option maxRecDepth 100000 in
set_option maxHeartbeats 1000000 in
theorem slotof_calls {w : World} (ver : Int) (a : Option Addr) (c : Nat) (l : List UInt8) (hl : Rd w a l) (h0 : a = none → l = [] ∧ c = 0) :
    Calls Try.prog 50 #[.int .u32 ver, .slice a l.length c] w (OfPost w ver l) := by
  have hm := fun w1 => may_calls (w := w1) a c l
  unfold OfPost
  cases hb : mayB l
  · have Hm := Lib.hid (fun w1 => by have := hm w1; rw [hb] at this; exact this)
    clear hm hb hl h0
    simp only [Bool.false_eq_true, ↓reduceIte]
    go_enter Try.func50, Try.ntmps50
    go_wp2_with fail
    refine (Hm.out _).mono ?_
    rintro e w' ⟨rfl, rfl⟩
    have hB := Blk.newA w 68 #[.int .u32 0, .int .i64 0, .slice none 0 0]
    have c0 := hB.cell' (i := 0) rfl
    have c1 := hB.cell' (i := 1) rfl
    have c2 := hB.cell' (i := 2) rfl
    have f0 := hB.frozen 0
    have f1 := hB.frozen 1
    have f2 := hB.frozen 2
    go_wp2_with fail
    exact bodyPost_ret (v := .tuple #[.agg #[.int .u32 0, .int .i64 0, .slice none 0 0], .bool false]) (by simp [results, Try.results50, go_sem, c0, c1, c2]) rfl ⟨rfl, (Keeps.refl [] w).alloc _⟩
  · obtain ⟨hl1, hl2⟩ := (mayB_iff l).1 hb
    have Hm := Lib.hid (fun w1 => by have := hm w1; rw [hb] at this; exact this)
    have HS := Lib.hid (fun w1 (k : Keeps [] w w1) => shasum_calls (w := w1) a l.length c l (hl.keepsNil k) rfl (by omega) (fun h => ⟨by rw [(h0 h).1]; rfl, (h0 h).2⟩))
    clear hm hb hl h0 hl1 hl2
    simp only [↓reduceIte]
    go_enter Try.func50, Try.ntmps50
    go_wp2_with fail
    refine (Hm.out _).mono ?_
    rintro e w' ⟨rfl, rfl⟩
    have hB := Blk.newA w 68 #[.int .u32 0, .int .i64 0, .slice none 0 0]
    go_wp2_with fail
    refine (HS.out _ ((Keeps.refl [] w).alloc _)).mono ?_
    rintro e w1 ⟨v, rfl, hv, hk⟩
    replace hB := hB.keeps hk (by simp)
    have c0 := hB.cell' (i := 0) rfl
    have c1 := hB.cell' (i := 1) rfl
    have c2 := hB.cell' (i := 2) rfl
    have f0 := hB.frozen 0
    have f1 := hB.frozen 1
    have f2 := hB.frozen 2
    have hlt := hB.lt
    have hsl := sha_len l
    obtain ⟨ga, gc, gr, rfl, hg1, hg2, hg3, hg4, hBg⟩ := hv.rowc (by intro h; rw [h] at hsl; simp at hsl)
    have Hv := Lib.hid hv
    clear hv hBg hsl
    go_wp2_with fail
    refine bodyPost_ret (v := .tuple #[.agg #[.int .u32 ver, .int .i64 l.length, .slice (some ⟨ga, 0, none⟩) (sha l).length gc], .bool true]) (by simp [results, Try.results50, go_sem, c0, c1, c2]) rfl ⟨_, rfl, ?_, ((((Keeps.refl [] w).alloc _).trans hk).setCell (by simp) _ |>.setCell (by simp) _).setCell (by simp) _⟩
    have K : Keeps [w.heap.size] w1 (((w1.setCell ⟨w.heap.size, 0, none⟩ (.int .u32 ver)).setCell ⟨w.heap.size, 1, none⟩ (.int .i64 l.length)).setCell ⟨w.heap.size, 2, none⟩ (.slice (some ⟨ga, 0, none⟩) (sha l).length gc)) := (((Keeps.refl _ w1).setCell (by simp) _).setCell (by simp) _).setCell (by simp) _
    exact (Hv.out.keeps K (by intro x hx; simp [Value.ownBlock] at hx; subst hx; simp; simp only [World.size_alloc] at hg3; omega)).mono (by simp)

theorem slotof_yes {w : World} (ver : Int) (a : Option Addr) (c : Nat) (l : List UInt8) (hl : Rd w a l) (h0 : a = none → l = [] ∧ c = 0) (hm : mayB l = true) :
    Calls Try.prog 50 #[.int .u32 ver, .slice a l.length c] w fun e w' => ∃ v, e = .returned (.tuple #[.agg #[.int .u32 ver, .int .i64 l.length, v], .bool true]) ∧ Own w' w.heap.size v (sha l) ∧ Keeps [] w w' :=
  (slotof_calls ver a c l hl h0).mono fun e w' h => by unfold OfPost at h; rwa [if_pos hm] at h

theorem slotof_no {w : World} (ver : Int) (a : Option Addr) (c : Nat) (l : List UInt8) (hl : Rd w a l) (h0 : a = none → l = [] ∧ c = 0) (hm : mayB l = false) :
    Calls Try.prog 50 #[.int .u32 ver, .slice a l.length c] w fun e w' => e = .returned (.tuple #[.agg #[.int .u32 0, .int .i64 0, .slice none 0 0], .bool false]) ∧ Keeps [] w w' :=
  (slotof_calls ver a c l hl h0).mono fun e w' h => by unfold OfPost at h; rwa [if_neg (by simp [hm])] at h

set_option maxRecDepth 100000 in
set_option maxHeartbeats 1000000 in
theorem slotright_calls {w : World} {p q : Nat} {F : Fla} (h : FlaAt w p q F) (s ver len : Int) (ha : Option Addr) (hn hc : Nat) (hash : List UInt8) (hrd : Rd w ha hash) (hhl : hash.length = hn) :
    Calls Try.prog 51 #[.pointer (some ⟨p, 0, none⟩), .int .i64 s, .agg #[.int .u32 ver, .int .i64 len, .slice ha hn hc]] w (BoolPost w (F.slotRight s len hash)) := by
  have hB := Blk.newA w 68 #[.int .u32 ver, .int .i64 len, .slice ha hn hc]
  have hK := (Keeps.refl [] w).alloc (.cells #[.int .u32 ver, .int .i64 len, .slice ha hn hc] 68)
  by_cases h1 : len < 1
  · have e : F.slotRight s len hash = false := by unfold Fla.slotRight; rw [if_pos h1]
    rw [e]
    have c1 := hB.cell' (i := 1) rfl
    have HK := Lib.hid hK
    clear e h hrd hB hK
    go_enter Try.func51, Try.ntmps51
    go_wp2_with fail
    go_ret
    exact ⟨rfl, HK.out⟩
  have hR := slotread_calls (h.alloc (.cells #[.int .u32 ver, .int .i64 len, .slice ha hn hc] 68)) s len
  have hlen : (F.slotRead s len).1.length ≤ 3584 := by
    unfold Fla.slotRead
    split
    · simp
    · exact F.read_len _ _ h.len
  have hE : F.slotRight s len hash = if (F.slotRead s len).2 ≠ 0 then false else decide (sha (F.slotRead s len).1 = hash) := by unfold Fla.slotRight; rw [if_neg h1]
  generalize F.slotRead s len = r at *
  obtain ⟨L, z⟩ := r
  dsimp only at hE hlen
  unfold ReadPost at hR
  dsimp only at hR
  have c1 := hB.cell' (i := 1) rfl
  have HK := Lib.hid hK
  have HR := Lib.hid hR
  have HB := Lib.hid hB
  have Hrd := Lib.hid hrd
  clear h hrd hB hK hR
  by_cases hz : z = 0
  · subst hz
    have HE := Lib.hid (show F.slotRight s len hash = decide (sha L = hash) from by rw [hE, if_neg (by simp)])
    clear hE
    go_enter Try.func51, Try.ntmps51
    go_wp2_with fail
    refine HR.out.mono ?_
    rintro e w1 ⟨v, rfl, hv, hk⟩
    have hK1 := HK.out.trans hk
    have c2 : w1.drew.cell? ⟨w.heap.size, 2, none⟩ = some (.slice ha hn hc) := (HB.out.keeps hk (by simp)).cell' (i := 2) rfl
    obtain ⟨a1, k1, rfl, _, hrd1, _, _, hn1⟩ := hv.rd
    obtain ⟨a1', k1', he, _, _, hn1'⟩ := hv.cap
    simp only [Value.slice.injEq] at he
    obtain ⟨rfl, _, rfl⟩ := he
    have HS := Lib.hid (shasum_calls (w := w1.drew) a1 L.length k1 L hrd1 rfl (by omega) (fun h => ⟨by rw [(hn1' h).1]; rfl, (hn1' h).2⟩))
    clear hv hrd1 hn1 hn1'
    go_wp2_with fail
    refine wp_region_noPanic ?_
    refine wp_region_held_drew (S := (fun w' => w'.cell? ⟨w.heap.size, 2, none⟩ = some (.slice ha hn hc))) (by kernel_rfl) c2 (fun hHeld => ?_)
    refine wpAnyH_take (i := 0) (v := ?v1_1) rfl (by kernel_rfl) (by kernel_rfl) (by kernel_rfl) (fun _ _ _ h => h) (Or.inl ⟨by rfl, ?y1_1⟩) (by assumption) ?r1_1
    case y1_1 => (intro w hSw; (try dsimp only at hSw); go_simp; try with_reducible rfl)
    (try simp only [Act.put, List.getElem_toArray, List.getElem_cons_zero, List.getElem_cons_succ, List.setIfInBounds_toArray, List.set_cons_zero, List.set_cons_succ])
    refine wpAnyH_take (i := 1) (v := ?v1_2) rfl (by kernel_rfl) (by kernel_rfl) (by kernel_rfl) (fun _ _ _ h => h) (Or.inl ⟨by rfl, ?y1_2⟩) (by assumption) ?r1_2
    case y1_2 => (intro w hSw; (try dsimp only at hSw); go_simp; try with_reducible rfl)
    (try simp only [Act.put, List.getElem_toArray, List.getElem_cons_zero, List.getElem_cons_succ, List.setIfInBounds_toArray, List.set_cons_zero, List.set_cons_succ])
    refine wpAnyH_take (i := 2) (v := ?v1_3) rfl (by kernel_rfl) (by kernel_rfl) (by kernel_rfl) (fun _ _ _ h => h) (Or.inl ⟨by rfl, ?y1_3⟩) (by assumption) ?r1_3
    case y1_3 => (intro w hSw; (try dsimp only at hSw); go_simp; try with_reducible rfl)
    (try simp only [Act.put, List.getElem_toArray, List.getElem_cons_zero, List.getElem_cons_succ, List.setIfInBounds_toArray, List.set_cons_zero, List.set_cons_succ])
    refine wpAnyH_take (i := 3) (v := ?v1_4) rfl (by kernel_rfl) (by kernel_rfl) (by kernel_rfl) (fun _ _ _ h => h) (Or.inl ⟨by rfl, ?y1_4⟩) (by assumption) ?r1_4
    case y1_4 => (intro w hSw; (try dsimp only at hSw); go_simp; try with_reducible rfl)
    (try simp only [Act.put, List.getElem_toArray, List.getElem_cons_zero, List.getElem_cons_succ, List.setIfInBounds_toArray, List.set_cons_zero, List.set_cons_succ])
    refine wpAnyH_take (i := 5) (v := ?v1_5) rfl (by kernel_rfl) (by kernel_rfl) (by kernel_rfl) (fun _ _ _ h => h) (Or.inl ⟨by rfl, ?y1_5⟩) (by assumption) ?r1_5
    case y1_5 => (intro w hSw; (try dsimp only at hSw); go_simp; try with_reducible rfl)
    (try simp only [Act.put, List.getElem_toArray, List.getElem_cons_zero, List.getElem_cons_succ, List.setIfInBounds_toArray, List.set_cons_zero, List.set_cons_succ])
    refine wpAnyH_take (i := 6) (v := ?v1_6) rfl (by kernel_rfl) (by kernel_rfl) (by kernel_rfl) (fun _ _ _ h => h) (Or.inl ⟨by rfl, ?y1_6⟩) (by assumption) ?r1_6
    case y1_6 => (intro w hSw; (try dsimp only at hSw); go_simp; try with_reducible rfl)
    (try simp only [Act.put, List.getElem_toArray, List.getElem_cons_zero, List.getElem_cons_succ, List.setIfInBounds_toArray, List.set_cons_zero, List.set_cons_succ])
    refine wpAnyH_ready (rs := [4]) (by kernel_rfl) (by simp) ?_
    refine AllReadyH.cons rfl (fun K hK => ?_) AllReadyH.nil
    go_simp
    refine HS.out.mono ?_
    rintro e w2 ⟨v2, rfl, hv2, hk2⟩
    have d2 := hk2.cell c2
    obtain ⟨a2, k2, rfl, _, hrd2, _, _, _⟩ := hv2.rd
    go_wp2_with fail
    refine hK.out _ _ ?s1_7 (fun hHeld => ?_)
    case s1_7 => ((try dsimp only) <;> (first | exact d2))
    clear hK K
    (try simp only [Act.put, List.getElem_toArray, List.getElem_cons_zero, List.getElem_cons_succ, List.setIfInBounds_toArray, List.set_cons_zero, List.set_cons_succ])
    refine wpAnyH_ready (rs := [7]) (by kernel_rfl) (by simp) ?_
    refine AllReadyH.cons rfl (fun K hK => ?_) AllReadyH.nil
    go_simp
    refine (equal_calls a2 (sha L).length k2 (sha L) ha hn hc hash hrd2 rfl (Hrd.out.keepsNil ((hK1.drew).trans hk2)) hhl (by rw [sha_len]; omega)).mono ?_
    rintro e w3 ⟨rfl, hk3⟩
    have e2 := hk3.cell d2
    go_wp2_with fail
    refine hK.out _ _ ?s1_8 (fun hHeld => ?_)
    case s1_8 => ((try dsimp only) <;> (first | exact e2))
    clear hK K
    (try simp only [Act.put, List.getElem_toArray, List.getElem_cons_zero, List.getElem_cons_succ, List.setIfInBounds_toArray, List.set_cons_zero, List.set_cons_succ])
    refine wpAnyH_take (i := 8) (v := ?v1_9) rfl (by kernel_rfl) (by kernel_rfl) (by kernel_rfl) (fun _ _ _ h => h) (Or.inl ⟨by rfl, ?y1_9⟩) (by assumption) ?r1_9
    case y1_9 => (intro w hSw; (try dsimp only at hSw); go_simp; try with_reducible rfl)
    (try simp only [Act.put, List.getElem_toArray, List.getElem_cons_zero, List.getElem_cons_succ, List.setIfInBounds_toArray, List.set_cons_zero, List.set_cons_succ])
    refine wpAnyH_take (i := 9) (v := ?v1_10) rfl (by kernel_rfl) (by kernel_rfl) (by kernel_rfl) (fun _ _ _ h => h) (Or.inl ⟨by rfl, ?y1_10⟩) (by assumption) ?r1_10
    case y1_10 => (intro w hSw; (try dsimp only at hSw); go_simp; try with_reducible rfl)
    (try simp only [Act.put, List.getElem_toArray, List.getElem_cons_zero, List.getElem_cons_succ, List.setIfInBounds_toArray, List.set_cons_zero, List.set_cons_succ])
    refine wpAnyH_done (by kernel_rfl) ?_ _
    refine NoPanic.normal ?_
    go_wp2_with fail
    go_ret
    exact ⟨by rw [HE.out]; rfl, (hK1.drew.trans hk2).trans hk3⟩
  · have HE := Lib.hid (show F.slotRight s len hash = false from by rw [hE, if_pos hz])
    have hzb : (z == 0) = false := by simpa using hz
    clear hE hz
    go_enter Try.func51, Try.ntmps51
    go_wp2_with fail
    refine HR.out.mono ?_
    rintro e w1 ⟨v, rfl, hv, hk⟩
    have hK1 := HK.out.trans hk
    obtain ⟨a1, k1, rfl, _⟩ := hv.sl
    go_wp2_with fail
    refine wp_region_noPanic ?_
    refine wp_region_held_drew (S := (fun _ => True)) (by kernel_rfl) trivial (fun hHeld => ?_)
    refine wpAnyH_take (i := 0) (v := ?v2_11) rfl (by kernel_rfl) (by kernel_rfl) (by kernel_rfl) (fun _ _ _ h => h) (Or.inl ⟨by rfl, ?y2_11⟩) (by assumption) ?r2_11
    case y2_11 => (intro w hSw; (try dsimp only at hSw); go_simp; try with_reducible rfl)
    (try simp only [Act.put, List.getElem_toArray, List.getElem_cons_zero, List.getElem_cons_succ, List.setIfInBounds_toArray, List.set_cons_zero, List.set_cons_succ])
    refine wpAnyH_take (i := 1) (v := ?v2_12) rfl (by kernel_rfl) (by kernel_rfl) (by kernel_rfl) (fun _ _ _ h => h) (Or.inl ⟨by rfl, ?y2_12⟩) (by assumption) ?r2_12
    case y2_12 => (intro w hSw; (try dsimp only at hSw); go_simp; try with_reducible rfl)
    (try simp only [Act.put, List.getElem_toArray, List.getElem_cons_zero, List.getElem_cons_succ, List.setIfInBounds_toArray, List.set_cons_zero, List.set_cons_succ])
    refine wpAnyH_take (i := 2) (v := ?v2_13) rfl (by kernel_rfl) (by kernel_rfl) (by kernel_rfl) (fun _ _ _ h => h) (Or.inl ⟨by rfl, ?y2_13⟩) (by assumption) ?r2_13
    case y2_13 => (intro w hSw; (try dsimp only at hSw); go_simp; try with_reducible rfl)
    (try simp only [Act.put, List.getElem_toArray, List.getElem_cons_zero, List.getElem_cons_succ, List.setIfInBounds_toArray, List.set_cons_zero, List.set_cons_succ])
    refine wpAnyH_take (i := 3) (v := undef) rfl (by kernel_rfl) (by kernel_rfl) (by kernel_rfl) (fun _ _ _ h => h) (Or.inr ⟨by rfl, rfl⟩) (by assumption) ?_
    (try simp only [Act.put, List.getElem_toArray, List.getElem_cons_zero, List.getElem_cons_succ, List.setIfInBounds_toArray, List.set_cons_zero, List.set_cons_succ])
    refine wpAnyH_take (i := 4) (v := undef) rfl (by kernel_rfl) (by kernel_rfl) (by kernel_rfl) (fun _ _ _ h => h) (Or.inr ⟨by rfl, rfl⟩) (by assumption) ?_
    (try simp only [Act.put, List.getElem_toArray, List.getElem_cons_zero, List.getElem_cons_succ, List.setIfInBounds_toArray, List.set_cons_zero, List.set_cons_succ])
    refine wpAnyH_take (i := 5) (v := undef) rfl (by kernel_rfl) (by kernel_rfl) (by kernel_rfl) (fun _ _ _ h => h) (Or.inr ⟨by rfl, rfl⟩) (by assumption) ?_
    (try simp only [Act.put, List.getElem_toArray, List.getElem_cons_zero, List.getElem_cons_succ, List.setIfInBounds_toArray, List.set_cons_zero, List.set_cons_succ])
    refine wpAnyH_take (i := 6) (v := undef) rfl (by kernel_rfl) (by kernel_rfl) (by kernel_rfl) (fun _ _ _ h => h) (Or.inr ⟨by rfl, rfl⟩) (by assumption) ?_
    (try simp only [Act.put, List.getElem_toArray, List.getElem_cons_zero, List.getElem_cons_succ, List.setIfInBounds_toArray, List.set_cons_zero, List.set_cons_succ])
    refine wpAnyH_take (i := 7) (v := undef) rfl (by kernel_rfl) (by kernel_rfl) (by kernel_rfl) (fun _ _ _ h => h) (Or.inr ⟨by rfl, rfl⟩) (by assumption) ?_
    (try simp only [Act.put, List.getElem_toArray, List.getElem_cons_zero, List.getElem_cons_succ, List.setIfInBounds_toArray, List.set_cons_zero, List.set_cons_succ])
    refine wpAnyH_take (i := 8) (v := ?v2_14) rfl (by kernel_rfl) (by kernel_rfl) (by kernel_rfl) (fun _ _ _ h => h) (Or.inl ⟨by rfl, ?y2_14⟩) (by assumption) ?r2_14
    case y2_14 => (intro w hSw; (try dsimp only at hSw); go_simp; try with_reducible rfl)
    (try simp only [Act.put, List.getElem_toArray, List.getElem_cons_zero, List.getElem_cons_succ, List.setIfInBounds_toArray, List.set_cons_zero, List.set_cons_succ])
    refine wpAnyH_take (i := 9) (v := ?v2_15) rfl (by kernel_rfl) (by kernel_rfl) (by kernel_rfl) (fun _ _ _ h => h) (Or.inl ⟨by rfl, ?y2_15⟩) (by assumption) ?r2_15
    case y2_15 => (intro w hSw; (try dsimp only at hSw); go_simp; try with_reducible rfl)
    (try simp only [Act.put, List.getElem_toArray, List.getElem_cons_zero, List.getElem_cons_succ, List.setIfInBounds_toArray, List.set_cons_zero, List.set_cons_succ])
    refine wpAnyH_done (by kernel_rfl) ?_ _
    refine NoPanic.normal ?_
    go_wp2_with fail
    go_ret
    exact ⟨by rw [HE.out]; rfl, hK1.drew⟩

end Go.Proofs.Ythjojkkjdaoocaa
