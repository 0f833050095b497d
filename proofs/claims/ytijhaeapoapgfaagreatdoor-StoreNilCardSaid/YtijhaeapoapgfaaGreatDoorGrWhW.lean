/-
  GrWhW: the texts WhW, one behind another.
-/
import Derived.Test.YtijhaeapoapgfaaGreatDoorGrNumB
import Derived.Deep.RegionHeld3
set_option linter.unusedVariables false
namespace Go.Proofs.YtijhaeapoapgfaaGreatDoor
open Go.RowKit
attribute [local go_sem ↓] Go.wp_at_zero Go.wp_at_succ

/-- A slice of bytes that reads as l, in blocks of bytes from B on. -/
def Slb (w : World) (B : Nat) (v : Value) (l : List UInt8) : Prop :=
  ∃ a c, v = .slice a l.length c ∧ l.length ≤ c ∧ c ≤ 9223372036854775807 ∧ Rd w a l ∧ (a = none → l = [] ∧ c = 0) ∧ (∀ x, a = some x → l ≠ [] → B ≤ x.block ∧ x.block < w.heap.size ∧ ∃ cs, Blk w x.block 5 cs)

theorem Slb.nil (w : World) (B : Nat) : Slb w B (.slice none 0 0) [] := ⟨none, 0, rfl, by simp, by omega, Rd.nil _ _, fun _ => ⟨rfl, rfl⟩, by simp⟩

theorem Own.slb {w : World} {B : Nat} {v : Value} {l : List UInt8} (h : Own w B v l) : Slb w B v l := by
  obtain ⟨a, c, rfl, h1, h2, h3⟩ := h.cap
  obtain ⟨a', c', he, _, hr, hb, hk, _⟩ := h.rd
  simp only [Value.slice.injEq] at he
  obtain ⟨rfl, _, rfl⟩ := he
  exact ⟨a, c, rfl, h1, h2, hr, h3, fun x hx _ => ⟨(hb x hx).1, (hb x hx).2.1, by obtain ⟨r, hr⟩ := hk x hx; exact ⟨_, hr⟩⟩⟩

def RecPost (w : World) (r : Option Rec) (e : Ending) (w' : World) : Prop :=
  ∃ v, e = .returned (.tuple #[.agg #[B32 ((r.map (·.1)).getD 0), v], .bool r.isSome]) ∧ Slb w' w.heap.size v ((r.map (·.2)).getD []) ∧ Keeps [] w w'

theorem whAt_top {s k : Nat} (h1 : 1 ≤ s) (hs : s ≤ 16) (hk : k < 8 * places s) : whAt s k + wide s ≤ 3584 := by
  have hp := places_bounds h1 hs
  have hpw := @places_wide s
  have hd : k / places s < 8 := (Nat.div_lt_iff_lt_mul (by omega)).2 hk
  have hm : k % places s < places s := Nat.mod_lt _ (by omega)
  have : (k % places s + 1) * wide s ≤ places s * wide s := Nat.mul_le_mul_right _ hm
  unfold whAt
  rw [Nat.add_mul] at this
  omega

set_option maxRecDepth 100000 in
set_option maxHeartbeats 1000000 in
theorem whwhole_calls {w : World} {p q u : Nat} {F : Fla} (h : FlaAt w p q F) {gen : UInt32} {s : Nat} (h1 : 1 ≤ s) (hs : s ≤ 16)
    (u0 : w.cell? ⟨u, 0, none⟩ = some (.pointer (some ⟨p, 0, none⟩))) (u1 : w.cell? ⟨u, 1, none⟩ = some (B32 gen)) (u2 : w.cell? ⟨u, 2, none⟩ = some (.int .i64 s)) (k : Nat) (hk : k < 8 * places s) :
    Calls Tryz.prog 150 #[.pointer (some ⟨u, 0, none⟩), .int .i64 k] w (RecPost w (F.recAt gen s k)) := by
  have hp := places_bounds h1 hs
  have htop := whAt_top h1 hs hk
  have hAt := fun (w : World) (h : w.cell? ⟨u, 2, none⟩ = some (.int .i64 s)) => whAtK_calls h h1 hs k (by omega)
  have hWd := fun (w : World) (h : w.cell? ⟨u, 2, none⟩ = some (.int .i64 s)) => wide_calls h hs
  have hRd := fun (w : World) (h : FlaAt w p q F) => read_calls h (whAt s k) (wide s)
  have hsz := h.ltp
  by_cases hd : F.down = true
  · have er : F.read (whAt s k) (wide s) = ([], 11) := by simp [Fla.read, Fla.ready, hd]
    have ew : F.recAt gen s k = none := by simp [Fla.recAt, hd]
    rw [ew]
    unfold ReadPost at hRd
    rw [er] at hRd
    clear hd er ew
    generalize whAt s k = A at *
    generalize wide s = W at *
    have H0 := Lib.hid ((Keeps.refl [] w).alloc (.cells #[.int .u32 0, .slice none 0 0] 115))
    have m0 := H0.out.cell u0
    have m2 := H0.out.cell u2
    go_enter Tryz.func150, Tryz.ntmps150
    go_wp2_with fail
    go_region_held3 (fun w' => w'.cell? ⟨u, 0, none⟩ = some (.pointer (some ⟨p, 0, none⟩)) ∧ w'.cell? ⟨u, 2, none⟩ = some (.int .i64 s) ∧ Keeps [] w w' ∧ Keeps [] (w.alloc (.cells #[.int .u32 0, .slice none 0 0] 115)) w')
      (first | exact ⟨m0, m2, H0.out.drew, (Keeps.refl [] _).drew⟩ | exact ⟨n0, n2, nk, kk⟩)
      (first
        | (go_at_call 108; obtain ⟨s0, s2, sk, kk⟩ : _ ∧ _ ∧ Keeps [] w _ ∧ _ := (by assumption); refine (hAt _ s2).mono ?_; rintro e w3 ⟨rfl, hk3⟩; have n0 := hk3.cell s0; have n2 := hk3.cell s2; have nk := sk.trans hk3; replace kk := kk.trans hk3)
        | (go_at_call 109; obtain ⟨n0, n2, nk, kk⟩ : _ ∧ _ ∧ Keeps [] w _ ∧ _ := (by assumption); refine (hWd _ n2).mono ?_; rintro e w3 ⟨rfl, rfl⟩)
        | (go_at_call 104; obtain ⟨s0, s2, sk, kk⟩ : _ ∧ _ ∧ Keeps [] w _ ∧ _ := (by assumption); refine (hRd _ (h.keeps sk (by simp) (by simp))).mono ?_; rintro e w3 ⟨v, rfl, hv, hk3⟩; have n0 := hk3.cell s0; have n2 := hk3.cell s2; have nk := sk.trans hk3; replace kk := kk.trans hk3))
    have nk := Lib.hid nk
    obtain ⟨av, cv, rfl, _⟩ := hv.sl
    have hb := (Blk.newA w 115 #[.int .u32 0, .slice none 0 0]).keeps kk (by simp)
    have c0 := hb.cell' (i := 0) rfl
    have c1 := hb.cell' (i := 1) rfl
    have f0 := hb.frozen 0
    have f1 := hb.frozen 1
    have hlt := hb.lt
    go_wp2_with fail
    refine bodyPost_ret (v := .tuple #[.agg #[.int .u32 0, .slice none 0 0], .bool false]) (by simp [results, Tryz.results150, go_sem, c0, c1]) rfl ⟨_, rfl, Slb.nil _ _, (nk.out.setCell (by simp) _).setCell (by simp) _⟩
  have hd' : F.down = false := by simpa using hd
  have hlen : (F.place s k).length = wide s := by unfold Fla.place; rw [List.length_take, List.length_drop, h.len]; omega
  have er : F.read (whAt s k) (wide s) = (F.place s k, 0) := by
    have hr : F.ready (whAt s k) (wide s) = 0 := by unfold Fla.ready; rw [if_neg hd, if_neg (by omega)]
    unfold Fla.read Fla.place
    rw [if_neg (by simp [hr])]
    rfl
  have hW : F.recAt gen s k = recOf gen (F.place s k) := by simp [Fla.recAt, hd']
  rw [hW]
  unfold ReadPost at hRd
  rw [er] at hRd
  obtain ⟨m, hm⟩ : ∃ m, wide s = m + 1 := ⟨s + 12, by unfold wide; omega⟩
  have hm1 : 13 ≤ m ∧ m ≤ 28 := by unfold wide at hm; omega
  rw [hm] at hWd hlen hRd
  have hcc : recOf gen (F.place s k) = if (F.place s k).getD m 0 ≠ 0 then none else match crcRight ((F.place s k).take m) with
    | none => none
    | some b => if num4 b = gen then some (num4 (b.drop 4), b.drop 8) else none := by
    unfold recOf
    rw [hlen]
    rfl
  have Hcc := Lib.hid hcc
  have HAt := Lib.hid hAt
  clear hd hd' er hW hm htop hcc hAt
  generalize F.place s k = L at *
  generalize whAt s k = A at *
  have hAt := HAt.out
  clear HAt
  have H0 := Lib.hid ((Keeps.refl [] w).alloc (.cells #[.int .u32 0, .slice none 0 0] 115))
  have m0 := H0.out.cell u0
  have m2 := H0.out.cell u2
  go_enter Tryz.func150, Tryz.ntmps150
  go_wp2_with fail
  go_region_held3 (fun w' => w'.cell? ⟨u, 0, none⟩ = some (.pointer (some ⟨p, 0, none⟩)) ∧ w'.cell? ⟨u, 2, none⟩ = some (.int .i64 s) ∧ Keeps [] w w' ∧ Keeps [] (w.alloc (.cells #[.int .u32 0, .slice none 0 0] 115)) w')
    (first | exact ⟨m0, m2, H0.out.drew, (Keeps.refl [] _).drew⟩ | exact ⟨n0, n2, nk, kk⟩)
    (first
      | (go_at_call 108; obtain ⟨s0, s2, sk, kk⟩ : _ ∧ _ ∧ Keeps [] w _ ∧ _ := (by assumption); refine (hAt _ s2).mono ?_; rintro e w3 ⟨rfl, hk3⟩; have n0 := hk3.cell s0; have n2 := hk3.cell s2; have nk := sk.trans hk3; replace kk := kk.trans hk3)
      | (go_at_call 109; obtain ⟨n0, n2, nk, kk⟩ : _ ∧ _ ∧ Keeps [] w _ ∧ _ := (by assumption); refine (hWd _ n2).mono ?_; rintro e w3 ⟨rfl, rfl⟩)
      | (go_at_call 104; obtain ⟨s0, s2, sk, kk⟩ : _ ∧ _ ∧ Keeps [] w _ ∧ _ := (by assumption); refine (hRd _ (h.keeps sk (by simp) (by simp))).mono ?_; rintro e w3 ⟨v, rfl, hv, hk3⟩; have n0 := hk3.cell s0; have n2 := hk3.cell s2; have nk := sk.trans hk3; replace kk := kk.trans hk3))
  obtain ⟨g, c, r, rfl, hc, hcm, hg1, hg2, hB⟩ := hv.rowc (by rintro rfl; simp at hlen)
  rw [hlen] at hc ⊢
  have hb := (Blk.newA w 115 #[.int .u32 0, .slice none 0 0]).keeps kk (by simp)
  have hlt := hb.lt
  have u1' := nk.cell u1
  have xm := hB.byteAt (i := m) (by omega)
  generalize hbm : L.getD m 0 = bm at *
  have Hbm := Lib.hid hbm
  have Hlen := Lib.hid hlen
  have Hnk := Lib.hid nk
  clear hbm hlen hRd hv hk3 kk nk m0 m2
  have hW3 := hWd _ n2
  by_cases hz : bm = 0
  · subst hz
    have hl := Hlen.out
    have hlt' : (L.take m).length = m := by rw [List.length_take]; omega
    have hR := crcright_calls (w := w3) (some ⟨g, 0, none⟩) m c (L.take m) (hB.rdSub 0 _) hlt' (by omega) (by omega) (by omega) (by simp)
    cases hcr : crcRight (L.take m) with
    | none =>
      have E := Lib.hid (show recOf gen L = none from by rw [Hcc.out, if_neg (by simp), hcr])
      unfold RightPost at hR
      rw [hcr] at hR
      clear Hcc hl hlt' hcr
      go_wp2_with fail
      refine hW3.mono ?_
      rintro e w4 ⟨rfl, rfl⟩
      go_wp2_with fail
      refine hW3.mono ?_
      rintro e w4 ⟨rfl, rfl⟩
      go_wp2_with fail
      refine hR.mono ?_
      rintro e w5 ⟨v5, rfl, hv5, hk5⟩
      replace hb := hb.keeps hk5 (by simp)
      have c0 := hb.cell' (i := 0) rfl
      have c1 := hb.cell' (i := 1) rfl
      have f0 := hb.frozen 0
      have f1 := hb.frozen 1
      have hlt := hb.lt
      clear xm hB
      go_wp2_with fail
      go_quiet (fail)
      go_wp2_with fail
      refine bodyPost_ret (v := .tuple #[.agg #[.int .u32 0, .slice none 0 0], .bool false]) (by simp [results, Tryz.results150, go_sem, c0, c1]) rfl ⟨_, by rw [E.out]; rfl, by rw [E.out]; exact Slb.nil _ _, (((Hnk.out.trans hk5).drewN _).setCell (by simp) _).setCell (by simp) _⟩
    | some b =>
      have hbl : b.length + 4 = m := by
        have := (crcRight_some hcr).1
        have := congrArg List.length this
        rw [hlt', crcPut_len] at this
        omega
      have e : recOf gen L = if num4 b = gen then some (num4 (b.drop 4), b.drop 8) else none := by rw [Hcc.out, if_neg (by simp), hcr]
      unfold RightPost at hR
      rw [hcr] at hR
      clear Hcc hl hlt' hcr
      have E := Lib.hid e
      clear e
      have Hcc := Lib.hid trivial
      go_wp2_with fail
      refine hW3.mono ?_
      rintro e w4 ⟨rfl, rfl⟩
      go_wp2_with fail
      refine hW3.mono ?_
      rintro e w4 ⟨rfl, rfl⟩
      go_wp2_with fail
      refine hR.mono ?_
      rintro e w5 ⟨v5, rfl, hv5, hk5⟩
      dsimp only [Option.getD_some, Option.isSome_some] at hv5 ⊢
      replace hb := hb.keeps hk5 (by simp)
      have u1'' := hk5.cell u1'
      obtain ⟨g5, c5, r5, rfl, hc5, hcm5, hg51, hg52, hB5⟩ := hv5.rowc (by rintro rfl; simp at hbl; omega)
      have hN := fun (w : World) (h : Rd w (some ⟨g5, 0, none⟩) b) => number_calls' (c := c5) (n := b.length) b h (by omega) rfl
      have hN4 := fun (w : World) (h : Rd w (some ⟨g5, 4, none⟩) (b.drop 4)) => number_calls' (c := c5 - 4) (n := b.length - 4) (b.drop 4) h (by rw [List.length_drop]; omega) (by rw [List.length_drop])
      have hr5 : Rd w5 (some ⟨g5, 0, none⟩) b := by have := hB5.rdSub 0 b.length; rwa [List.drop_zero, List.take_length] at this
      have hk35 := Hnk.out.trans hk5
      have hgg : w.heap.size ≤ g5 := by have := Hnk.out.size; omega
      have Hgg := Lib.hid hgg
      have Hg6 := Lib.hid (show w.heap.size < g5 from by have := hb.lt; have := Hnk.out.size; omega)
      clear xm hB hR hv5 hgg
      generalize hnum : num4 b = num at *
      by_cases hng : num = gen
      · have Hb := Lib.hid hbl
        subst hng
        rw [if_pos rfl] at E
        generalize hnum4 : num4 (b.drop 4) = id at *
        clear hnum hnum4
        go_wp2_with fail
        go_quiet (first | (go_at_call 184; exact Calls.quiet_of (hN _ hr5)))
        replace hb := hb.drewN nq
        have hr6 : Rd (w5.drewN nq) (some ⟨g5, 0, none⟩) b := hr5
        have hk36 := hk35.drewN nq
        have hl6 : w.heap.size < (w5.drewN nq).heap.size := hb.lt
        have hg6 : g5 < (w5.drewN nq).heap.size := hg52
        have HB6 : Hid (∃ cs, Blk (w5.drewN nq) g5 5 cs) := Lib.hid ⟨_, hB5.drewN nq⟩
        clear hr5 hk35 hk5 hg51 hg52 hB5 hN hW3 u1'' u1' n0 n2 hAt hWd
        generalize w5.drewN nq = w6 at *
        go_wp2_with fail
        have hN5 := (hN4 w6.drew (hr6.cut 4)).mono fun _ _ ⟨he, n, hn⟩ => (⟨he, hn ▸ (Keeps.refl [] w6.drew).drewN n⟩ : _ ∧ Keeps [] w6.drew _)
        have hrd8 := hr6.cut 8
        have hd8 : (b.drop 8).length = b.length - 8 := by rw [List.length_drop]
        generalize b.drop 8 = d8 at *
        generalize b.drop 4 = d4 at *
        have hb9 : 9 ≤ b.length := by have := Hb.out; omega
        clear hr6 hN4
        generalize b.length = N at *
        have i1 : (4 : Int) ≤ (N : Int) := by omega
        have i2 : (8 : Int) ≤ (N : Int) := by omega
        have i3 : (N : Int) ≤ (c5 : Int) := by omega
        have i4 : ¬ c5 = 8 := by omega
        have i5 : ¬ c5 = 4 := by omega
        have Hd8 := Lib.hid hd8
        have E2 := Lib.hid (show recOf num L = some (id, d8) from E.out)
        clear hd8 E Hlen Hb Hbm Hcc
        go_region_held3 (fun _ => True) (exact trivial) (first | (go_at_call 184; refine hN5.mono ?_; rintro e w7 ⟨rfl, hk7⟩; have hb7 := hb.drew.keeps hk7 (by simp); have c0 := hb7.cell' (i := 0) rfl; have c1 := hb7.cell' (i := 1) rfl; have f0 := hb7.frozen 0; have f1 := hb7.frozen 1))
        have hk37 := hk36.drew.trans hk7
        have hlt7 := hb7.lt
        have hS : Sl w7 w.heap.size (.slice (some ⟨g5, 8, none⟩) (N - 8) (c5 - 8)) d8 :=
          ⟨_, _, by rw [Hd8.out], by rw [Hd8.out]; omega, by omega, hrd8.keepsNil ((Keeps.refl [] w6).drew.trans hk7), by simp, fun x hx _ => by
            simp only [Option.some.injEq] at hx
            subst hx
            have := hk7.size
            simp only [World.size_drew] at this
            exact ⟨Hgg.out, by show g5 < _; omega⟩⟩
        have Hl7 := Lib.hid (show g5 < w7.heap.size from by have := hk7.size; simp only [World.size_drew] at this; omega)
        have HB7 := Lib.hid (show ∃ cs, Blk w7 g5 5 cs from by obtain ⟨cs, h⟩ := HB6.out; exact ⟨cs, h.drew.keeps hk7 (by simp)⟩)
        clear hN5 hrd8 hk7 hk36 hb
        go_wp2_with fail
        refine bodyPost_ret (v := .tuple #[.agg #[.int .u32 id.toNat, .slice (some ⟨g5, 8, none⟩) (N - 8) (c5 - 8)], .bool true]) (by simp [results, Tryz.results150, go_sem, c0, c1]) rfl ⟨_, by rw [E2.out]; rfl, ?_, (hk37.setCell (by simp) _).setCell (by simp) _⟩
        rw [E2.out]
        refine ⟨_, _, by rw [Option.map_some, Option.getD_some, Hd8.out], by rw [Option.map_some, Option.getD_some, Hd8.out]; omega, by omega, ?_, by simp, fun x hx _ => ?_⟩
        · obtain ⟨a', c', he, _, _, hrd, _, _⟩ := hS
          simp only [Value.slice.injEq] at he
          obtain ⟨rfl, _, _⟩ := he
          exact hrd.keeps (S := [w.heap.size]) (((Keeps.refl _ w7).setCell (by simp) _).setCell (by simp) _) (by
            intro x hx _
            simp only [Option.some.injEq] at hx
            subst hx
            have := Hg6.out
            simp; omega)
        · simp only [Option.some.injEq] at hx
          subst hx
          refine ⟨Hgg.out, by have := Hl7.out; simp only [World.setCell, Array.size_modify]; exact this, ?_⟩
          obtain ⟨cs, h⟩ := HB7.out
          exact ⟨cs, h.keeps (S := [w.heap.size]) (((Keeps.refl _ w7).setCell (by simp) _).setCell (by simp) _) (by have := Hg6.out; simp; omega)⟩
      · have hb1 : ((num.toNat : Int) == (gen.toNat : Int)) = false := by
          rw [beq_eq_false_iff_ne]; intro h; exact hng (UInt32.toNat_inj.1 (by omega))
        have hb2 : ((num.toNat : Int) != (gen.toNat : Int)) = true := by rw [bne, hb1]; rfl
        have E2 := Lib.hid (show recOf gen L = none by rw [E.out, if_neg hng])
        clear E hng hb1 hbl hN4
        go_wp2_with fail
        go_quiet (first | (go_at_call 184; exact Calls.quiet_of (hN _ hr5)))
        replace hb := hb.drewN nq
        have hk36 := hk35.drewN nq
        have c0 := hb.cell' (i := 0) rfl
        have c1 := hb.cell' (i := 1) rfl
        have f0 := hb.frozen 0
        have f1 := hb.frozen 1
        have hlt := hb.lt
        clear hr5 hk35 hk5 hg51 hg52 hB5 hN hW3 u1'' u1' n0 n2 hAt hWd
        go_wp2_with fail
        refine bodyPost_ret (v := .tuple #[.agg #[.int .u32 0, .slice none 0 0], .bool false]) (by simp [results, Tryz.results150, go_sem, c0, c1]) rfl ⟨_, by rw [E2.out]; rfl, by rw [E2.out]; exact Slb.nil _ _, (hk36.setCell (by simp) _).setCell (by simp) _⟩
  · have hz1 : ((bm.toNat : Int) == 0) = false := by
      rw [beq_eq_false_iff_ne]; intro h; exact hz (UInt8.toNat_inj.1 (by simpa using h))
    have hz2 : ((bm.toNat : Int) != 0) = true := by rw [bne, hz1]; rfl
    have E := Lib.hid (show recOf gen L = none from by rw [Hcc.out, if_pos (by exact hz)])
    clear hz1 Hcc hz hB
    have c0 := hb.cell' (i := 0) rfl
    have c1 := hb.cell' (i := 1) rfl
    have f0 := hb.frozen 0
    have f1 := hb.frozen 1
    go_wp2_with fail
    refine hW3.mono ?_
    rintro e w4 ⟨rfl, rfl⟩
    go_wp2_with fail
    refine bodyPost_ret (v := .tuple #[.agg #[.int .u32 0, .slice none 0 0], .bool false]) (by simp [results, Tryz.results150, go_sem, c0, c1]) rfl ⟨_, by rw [E.out]; rfl, by rw [E.out]; exact Slb.nil _ _, (Hnk.out.setCell (by simp) _).setCell (by simp) _⟩

end Go.Proofs.YtijhaeapoapgfaaGreatDoor
