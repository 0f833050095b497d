/-
  LawClears: the walk of FlashClears.
-/
import Derived.Test.YthjojkkjdaoocaaRows16
import Derived.Test.YthjojkkjdaoocaaLawTwice
import Derived.Deep.QuietTactic
import Derived.BigQuiet
set_option linter.unusedVariables false
namespace Go.Proofs.Ythjojkkjdaoocaa
open Go.RowKit

/-- How a byte may have turned: x is what it is, y what it was. -/
def Turned (dn : Bool) (i s : Nat) (d : Int) (x y : UInt8) : Prop :=
  x = y ∨ (dn = false ∧ i / 256 = s ∧ ((d = 1 ∧ x &&& ~~~y = 0) ∨ (d = 2 ∧ x = 255)))

theorem and_le (x y : UInt8) : (y &&& x) &&& ~~~y = 0 := by
  rw [UInt8.and_comm y x, UInt8.and_assoc, UInt8.and_not_self, UInt8.and_zero]

theorem andnot_byte (a b : UInt8) : bits .andNot .u8 (a.toNat : Int) (b.toNat : Int) = ((a &&& ~~~b).toNat : Int) := by
  rw [u8_andNot_nat _ _ a.toNat_lt b.toNat_lt, UInt8.toNat_and, UInt8.toNat_not]
  rfl

theorem and_or_left (x y z : UInt8) : x &&& (y ||| z) = (x &&& y) ||| (x &&& z) := by
  apply UInt8.toBitVec_inj.1
  simp only [UInt8.toBitVec_and, UInt8.toBitVec_or]
  exact BitVec.and_or_distrib_left

theorem and_trans (z x y : UInt8) (h : z &&& ~~~x = 0) (h2 : x &&& ~~~y = 0) : z &&& ~~~y = 0 := by
  have e : z = z &&& x := by
    have : z &&& (x ||| ~~~x) = z := by rw [UInt8.or_not_self]; exact UInt8.and_neg_one
    rw [and_or_left, h, UInt8.or_zero] at this
    exact this.symm
  rw [e, UInt8.and_assoc, h2, UInt8.and_zero]

theorem prog_turned (l : List UInt8) : ∀ (F : Fla) (a i : Nat), a + l.length ≤ F.b.length →
    (F.prog a l).1.b.length = F.b.length ∧ ((F.prog a l).1.b.getD i 0 = F.b.getD i 0 ∨ (a ≤ i ∧ i < a + l.length ∧ (F.prog a l).1.b.getD i 0 &&& ~~~(F.b.getD i 0) = 0)) := by
  induction l with
  | nil => intro F a i _; exact ⟨rfl, .inl rfl⟩
  | cons x xs ih =>
    intro F a i h
    simp only [List.length_cons] at h
    rw [Fla.prog]
    have hs : ∀ y, (F.step.setB a y).b.getD i 0 = if a = i ∧ i < F.b.length then y else F.b.getD i 0 := fun y => getD_set _ _ _ _
    have hl : ∀ y, (F.step.setB a y).b.length = F.b.length := fun y => List.length_set
    split
    · refine ⟨hl _, ?_⟩
      rw [hs]
      by_cases hi : a = i ∧ i < F.b.length
      · obtain ⟨rfl, hi2⟩ := hi
        rw [if_pos ⟨rfl, hi2⟩]
        exact .inr ⟨by omega, by simp, and_le _ _⟩
      · rw [if_neg hi]; exact .inl rfl
    · obtain ⟨h1, h2⟩ := ih (F.step.setB a (F.at_ a &&& x)) (a + 1) i (by rw [hl]; omega)
      refine ⟨h1.trans (hl _), ?_⟩
      rw [hs] at h2
      by_cases hi : a = i ∧ i < F.b.length
      · obtain ⟨rfl, hi2⟩ := hi
        rw [if_pos ⟨rfl, hi2⟩] at h2
        refine .inr ⟨by omega, by simp, ?_⟩
        rcases h2 with h2 | ⟨h3, _, _⟩
        · rw [h2]; exact and_le _ _
        · omega
      · rw [if_neg hi] at h2
        rcases h2 with h2 | ⟨h3, h4, h5⟩
        · exact .inl h2
        · exact .inr ⟨by omega, by simp only [List.length_cons]; omega, h5⟩

theorem program_turned {F : Fla} {l : List UInt8} {a s : Nat} (hF : F.b.length = 3584) (ha : a < 3584) (hs : s = a / 256) (hl : a + l.length ≤ (s + 1) * 256) :
    (F.program a l).1.b.length = 3584 ∧ ∀ i, Turned F.down i s 1 ((F.program a l).1.b.getD i 0) (F.b.getD i 0) := by
  unfold Fla.program
  split
  · exact ⟨hF, fun i => .inl rfl⟩
  · rename_i h
    have hd := (Fla.ready_zero (by simpa using h)).1
    refine ⟨by rw [(prog_turned l F _ 0 (by rw [hF, Int.toNat_natCast]; omega)).1]; exact hF, fun i => ?_⟩
    rcases (prog_turned l F a i (by rw [hF]; omega)).2 with h1 | ⟨h1, h2, h3⟩
    · exact .inl h1
    · exact .inr ⟨hd, by omega, .inl ⟨rfl, h3⟩⟩

theorem fill_len (F : Fla) (o n : Nat) (h : o + n ≤ F.b.length) : (F.fill o n).b.length = F.b.length := by
  unfold Fla.fill; simp only; rw [List.length_append, List.length_append, List.length_take, List.length_replicate, List.length_drop]; omega

theorem erase_turned {F : Fla} {s : Nat} (hF : F.b.length = 3584) (hs : s < 14) :
    (F.erase s).1.b.length = 3584 ∧ ∀ i, Turned F.down i s 2 ((F.erase s).1.b.getD i 0) (F.b.getD i 0) := by
  have hG : (F.eraseG s).b = F.b := rfl
  by_cases hd : F.down = true
  · have e : F.erase s = (F, 11) := by unfold Fla.erase; rw [if_pos hd]
    rw [e]; exact ⟨hF, fun i => .inl rfl⟩
  · by_cases hw : F.er.getD s 0 ≥ F.wear
    · have e : F.erase s = (F, 10) := by unfold Fla.erase; rw [if_neg hd, if_neg (by omega), if_pos (by simpa using hw)]
      rw [e]; exact ⟨hF, fun i => .inl rfl⟩
    · have e : F.erase s = (if F.step.down then ((F.eraseG s).fill (s * 256) ((max 0 F.torn) % 257).toNat, 11) else ((F.eraseG s).fill (s * 256) 256, 0)) := by
        unfold Fla.erase; rw [if_neg hd, if_neg (by omega), if_neg (by simpa using hw)]; rfl
      have hd' : F.down = false := by simpa using hd
      have key : ∀ n, n ≤ 256 → ((F.eraseG s).fill (s * 256) n).b.length = 3584 ∧ ∀ i, Turned F.down i s 2 (((F.eraseG s).fill (s * 256) n).b.getD i 0) (F.b.getD i 0) := by
        intro n hn
        refine ⟨by rw [fill_len _ _ _ (by rw [hG, hF]; omega), hG, hF], fun i => ?_⟩
        rw [fill_getD _ _ _ _ (by rw [hG, hF]; omega), hG]
        split
        · exact .inr ⟨hd', by omega, .inr ⟨rfl, rfl⟩⟩
        · exact .inl rfl
      rw [e]
      split
      · exact key _ (by omega)
      · exact key _ (by omega)

set_option maxRecDepth 100000 in
set_option maxHeartbeats 9000000 in
theorem flashClears_walk {w : World} (A : Option Addr) (c : Nat) (l : List C16) (hm : l.length ≤ maxLen) (hl : Calls16 w A l) :
    Calls Try.prog 5 #[.slice A l.length c] w (TrueKeep w) := by
  have hfew := few16_calls A c l hl hm
  unfold maxLen at hm
  cases hfw : fewFrom16 0 l
  · rw [hfw] at hfew
    clear hl
    go_enter Try.func5, Try.ntmps5
    go_wp2_with fail
    refine hfew.mono ?_
    rintro e w1 ⟨rfl, hK1⟩
    go_wp2_with fail
    refine awake16.mono ?_
    rintro e wa ⟨rfl, hKa⟩
    go_wp2_with fail
    go_ret
    exact ⟨rfl, hK1.trans hKa⟩
  rw [hfw] at hfew
  obtain ⟨hlen, hlb⟩ := fewFrom16_len l 0 hfw (by omega)
  rw [Nat.zero_add] at hlen
  have Hlb := Lib.hid hlb
  clear hlb hfw
  go_enter Try.func5, Try.ntmps5
  go_wp2_with fail
  refine hfew.mono ?_
  rintro e w1 ⟨rfl, hK1⟩
  clear hfew
  go_wp2_with fail
  refine (new_calls 100).mono ?_
  rintro e w2 ⟨p, q, rfl, hp, hq, hF, hK2⟩
  have hK12 := hK1.trans hK2
  have hs1 := hK1.size
  clear hK1 hK2
  go_wp2_with fail
  go_loopw [19] (fun i wr => ∃ (k : Nat) (F : Fla), k ≤ l.length ∧ i = .int .i64 k ∧ FlaAt wr p q F ∧ Keeps [p, q] w wr) (fun i _ => l.length - (intOf i).toNat)
  case atStart => exact ⟨0, _, Nat.zero_le _, rfl, hF, hK12.nil⟩
  case round =>
    obtain ⟨k, F, hk, rfl, hFr, hKr⟩ := hrel
    have hBr : Below w.heap.size w wr := hKr.below (Nat.le_refl _) (by simp; omega)
    by_cases hlt : k < l.length
    · have hRd0 := (hl k l[k] (by simp [hlt])).1.s.rd
      obtain ⟨hok, b, o, rfl, hc⟩ := (hl.below hBr (fun c h => h.below hBr)) k l[k] (by simp [hlt])
      have hbl : l[k].s.b.length ≤ 300 := Hlb.out _ (List.getElem_mem _)
      generalize l[k] = x at *
      have c0 : wr.cell? ⟨b, o + k * 4, none⟩ = some (.int .i64 x.d) := hc 0 _ rfl
      have c1 := hc 1 _ rfl
      have c2 := hc 2 _ rfl
      have c3 := hc 3 _ rfl
      unfold BS.val at c3
      obtain ⟨wd, wa, wn, hsok⟩ := hok
      clear hc hF hK12
      obtain ⟨hle, hmx, -, hnil⟩ := hsok
      have hpr := hFr.ltp
      have hqr := hFr.ltq
      have hB0 : Blk (wr.alloc (.cells #[.int .i64 x.d, .int .i64 x.a, .int .i64 x.n, .slice x.s.A x.s.b.length x.s.cap] 39)) wr.heap.size 39 [.int .i64 x.d, .int .i64 x.a, .int .i64 x.n, .slice x.s.A x.s.b.length x.s.cap] := Blk.newA wr _ _
      obtain ⟨a, ha, e1, e2⟩ := umod x.a 3584 (by omega) (by omega)
      obtain ⟨s, hs⟩ : ∃ s : Nat, s = a / 256 := ⟨_, rfl⟩
      have es : (a : Int) / 256 = (s : Int) := by omega
      have hs14 : s < 14 := by omega
      have hsa : s * 256 ≤ a ∧ a < s * 256 + 256 := by omega
      have Hs := Lib.hid hs
      clear hs
      go_wp2_with fail
      refine (bytes_calls (hFr.alloc _)).mono ?_
      rintro e w3 ⟨v, rfl, hv, hK3⟩
      have hFl := hFr.len
      obtain ⟨g1, c1', r1, rfl, hgc1, hg1, hg1', hblk1⟩ := hv.row (by intro h; rw [h] at hFl; simp at hFl)
      have hF3 := (hFr.alloc _).keeps hK3 (by simp) (by simp)
      have hB3 := hB0.keeps hK3 (by simp)
      have hk3 : Keeps [p, q] w w3 := (hKr.alloc _).trans hK3.nil
      simp only [World.size_alloc] at hg1
      rw [hFl] at hgc1
      rw [hFl]
      clear hv hFr hKr hB0 hK3 c0 c1 c2 c3
      go_wp2_with fail
      refine (down_calls hF3).mono ?_
      rintro e w' ⟨rfl, rfl⟩
      have d0 := hB3.cell' (i := 0) (v := .int .i64 x.d) rfl
      have d1 := hB3.cell' (i := 1) (v := .int .i64 x.a) rfl
      have d2 := hB3.cell' (i := 2) (v := .int .i64 x.n) rfl
      have d3 := hB3.cell' (i := 3) (v := .slice x.s.A x.s.b.length x.s.cap) rfl
      by_cases hd1 : x.d = 1
      · rw [hd1] at d0 hB3
        clear hd1
        by_cases hmin : (x.s.b.length : Int) ≤ ((s : Int) + 1) * 256 - a
        · obtain ⟨L, hL⟩ : ∃ L, L = x.s.b.length := ⟨_, rfl⟩
          have hLn : (x.s.b.take L).length = L := by rw [List.length_take]; omega
          rw [← hL] at d3 hmin hbl hle
          clear hL
          have hrd := below_rd (hk3.below (Nat.le_refl _) (by simp; omega)) (hRd0.take L)
          have hap : ∀ y, x.s.A = some y → x.s.b.take L ≠ [] → y.block ∉ [p, q] := by intro y hy hne; have := (hRd0.take L).lt y hy hne; simp; omega
          have hT' := program_turned (F := F) (l := x.s.b.take L) (a := a) (s := s) hFl (by omega) Hs.out (by rw [hLn]; omega)
          go_wp2_with fail
          refine (program_calls_n hF3 a _ L _ _ hrd hLn hap).mono ?_
          rintro e w5 ⟨rfl, hG, hK35⟩
          have hGl := hT'.1
          have hT := hT'.2
          generalize (F.program a (x.s.b.take L)).1 = G at *
          have hk5 := hk3.trans hK35
          clear hT' hrd hap hLn
          have hB5 := hB3.keeps hK35 (by simp; omega)
          have hblk5 := hblk1.keeps hK35 (by simp; omega)
          clear hF3 hB3 hblk1 d0 d1 d2 d3 hk3
          go_wp2_with fail
          refine (bytes_calls hG).mono ?_
          rintro e w6 ⟨v, rfl, hv, hK6⟩
          obtain ⟨g2, c2', r2, rfl, hgc2, hg2, hg2', hblk2⟩ := hv.row (by intro h; rw [h] at hGl; simp at hGl)
          have hG6 := hG.keeps hK6 (by simp) (by simp)
          have hB6 := hB5.keeps hK6 (by simp)
          have hblk6 := hblk5.keeps hK6 (by simp)
          have hk6 := hk5.trans hK6.nil
          rw [hGl] at hgc2
          rw [hGl]
          have HT := Lib.hid hT
          have HGl := Lib.hid hGl
          have HFl := Lib.hid hFl
          clear hv hG hB5 hblk5 hk5 hK6 hK35 hT hGl hFl
          go_wp2_with fail
          go_loopw [84] (fun i wq => ∃ j : Nat, j ≤ 3584 ∧ i = .int .i64 j ∧ Keeps [] w6 wq) (fun i _ => 3584 - (intOf i).toNat)
          case atStart => exact ⟨0, Nat.zero_le _, rfl, Keeps.refl _ _⟩
          case round =>
            obtain ⟨j, hj, rfl, hKj⟩ := hrel
            by_cases hlj : j < 3584
            · have b1 := (hblk6.keeps hKj (by simp)).byteAt (i := j) (by have := HFl.out; omega)
              have b2 := (hblk2.keeps hKj (by simp)).byteAt (i := j) (by have := HGl.out; omega)
              have m0 := (hB6.keeps hKj (by simp)).cell' (i := 0) (v := .int .i64 (1)) rfl
              have hTj := HT.out j
              generalize F.b.getD j 0 = y at *
              generalize G.b.getD j 0 = z at *
              have hj0 : (0 : Int) ≤ (j : Int) := Int.natCast_nonneg _
              have hj1 : (j : Int) < 3584 := by omega
              by_cases hzy : z = y
              · subst hzy
                have hne : ((z.toNat : Int) != (z.toNat : Int)) = false := by simp
                clear hTj
                go_wp2_with fail
                go_quiet (fail)
                go_wp2_with fail
                go_roundw
                case rel => exact ⟨j + 1, by omega, by go_num, hKj.drewN _⟩
                case measure => simp [intOf]; omega
              · obtain ⟨hdn, hjs, hand⟩ : F.down = false ∧ j / 256 = s ∧ z &&& ~~~y = 0 := by
                  rcases hTj with h | ⟨h1, h2, h3⟩
                  · exact absurd h hzy
                  · rcases h3 with ⟨_, h3⟩ | ⟨h3, _⟩
                    · exact ⟨h1, h2, h3⟩
                    · exact absurd h3 (by decide)
                have hne : ((z.toNat : Int) != (y.toNat : Int)) = true := by rw [bne_byte]; simpa using hzy
                have han : (bits .andNot .u8 (z.toNat : Int) (y.toNat : Int) != 0) = false := by
                  rw [andnot_byte, hand]; rfl
                have hjs' : ((j : Int) / 256 != (s : Int)) = false := by simp; omega
                rw [hdn]
                clear hTj hzy hand hjs
                go_wp2_with fail
                go_quiet (fail)
                go_wp2_with fail
                go_roundw
                case rel => exact ⟨j + 1, by omega, by go_num, hKj.drewN _⟩
                case measure => simp [intOf]; omega
            · obtain rfl : j = 3584 := by omega
              go_wp2_with fail
              go_roundw
              case rel => exact ⟨k + 1, G, by omega, by go_num, hG6.keeps hKj (by simp) (by simp), hk6.trans hKj.nil⟩
              case measure => simp [intOf]; omega
        · obtain ⟨L, hL⟩ : ∃ L : Nat, ((s : Int) + 1) * 256 - a = L := ⟨(s + 1) * 256 - a, by omega⟩
          have hLn : (x.s.b.take L).length = L := by rw [List.length_take]; omega
          have hLl : L ≤ x.s.b.length := by omega
          have hrd := below_rd (hk3.below (Nat.le_refl _) (by simp; omega)) (hRd0.take L)
          have hap : ∀ y, x.s.A = some y → x.s.b.take L ≠ [] → y.block ∉ [p, q] := by intro y hy hne; have := (hRd0.take L).lt y hy hne; simp; omega
          have hT' := program_turned (F := F) (l := x.s.b.take L) (a := a) (s := s) hFl (by omega) Hs.out (by rw [hLn]; omega)
          go_wp2_with fail
          refine (program_calls_n hF3 a _ L _ _ hrd hLn hap).mono ?_
          rintro e w5 ⟨rfl, hG, hK35⟩
          have hGl := hT'.1
          have hT := hT'.2
          generalize (F.program a (x.s.b.take L)).1 = G at *
          have hk5 := hk3.trans hK35
          clear hT' hrd hap hLn
          have hB5 := hB3.keeps hK35 (by simp; omega)
          have hblk5 := hblk1.keeps hK35 (by simp; omega)
          clear hF3 hB3 hblk1 d0 d1 d2 d3 hk3
          go_wp2_with fail
          refine (bytes_calls hG).mono ?_
          rintro e w6 ⟨v, rfl, hv, hK6⟩
          obtain ⟨g2, c2', r2, rfl, hgc2, hg2, hg2', hblk2⟩ := hv.row (by intro h; rw [h] at hGl; simp at hGl)
          have hG6 := hG.keeps hK6 (by simp) (by simp)
          have hB6 := hB5.keeps hK6 (by simp)
          have hblk6 := hblk5.keeps hK6 (by simp)
          have hk6 := hk5.trans hK6.nil
          rw [hGl] at hgc2
          rw [hGl]
          have HT := Lib.hid hT
          have HGl := Lib.hid hGl
          have HFl := Lib.hid hFl
          clear hv hG hB5 hblk5 hk5 hK6 hK35 hT hGl hFl
          go_wp2_with fail
          go_loopw [84] (fun i wq => ∃ j : Nat, j ≤ 3584 ∧ i = .int .i64 j ∧ Keeps [] w6 wq) (fun i _ => 3584 - (intOf i).toNat)
          case atStart => exact ⟨0, Nat.zero_le _, rfl, Keeps.refl _ _⟩
          case round =>
            obtain ⟨j, hj, rfl, hKj⟩ := hrel
            by_cases hlj : j < 3584
            · have b1 := (hblk6.keeps hKj (by simp)).byteAt (i := j) (by have := HFl.out; omega)
              have b2 := (hblk2.keeps hKj (by simp)).byteAt (i := j) (by have := HGl.out; omega)
              have m0 := (hB6.keeps hKj (by simp)).cell' (i := 0) (v := .int .i64 (1)) rfl
              have hTj := HT.out j
              generalize F.b.getD j 0 = y at *
              generalize G.b.getD j 0 = z at *
              have hj0 : (0 : Int) ≤ (j : Int) := Int.natCast_nonneg _
              have hj1 : (j : Int) < 3584 := by omega
              by_cases hzy : z = y
              · subst hzy
                have hne : ((z.toNat : Int) != (z.toNat : Int)) = false := by simp
                clear hTj
                go_wp2_with fail
                go_quiet (fail)
                go_wp2_with fail
                go_roundw
                case rel => exact ⟨j + 1, by omega, by go_num, hKj.drewN _⟩
                case measure => simp [intOf]; omega
              · obtain ⟨hdn, hjs, hand⟩ : F.down = false ∧ j / 256 = s ∧ z &&& ~~~y = 0 := by
                  rcases hTj with h | ⟨h1, h2, h3⟩
                  · exact absurd h hzy
                  · rcases h3 with ⟨_, h3⟩ | ⟨h3, _⟩
                    · exact ⟨h1, h2, h3⟩
                    · exact absurd h3 (by decide)
                have hne : ((z.toNat : Int) != (y.toNat : Int)) = true := by rw [bne_byte]; simpa using hzy
                have han : (bits .andNot .u8 (z.toNat : Int) (y.toNat : Int) != 0) = false := by
                  rw [andnot_byte, hand]; rfl
                have hjs' : ((j : Int) / 256 != (s : Int)) = false := by simp; omega
                rw [hdn]
                clear hTj hzy hand hjs
                go_wp2_with fail
                go_quiet (fail)
                go_wp2_with fail
                go_roundw
                case rel => exact ⟨j + 1, by omega, by go_num, hKj.drewN _⟩
                case measure => simp [intOf]; omega
            · obtain rfl : j = 3584 := by omega
              go_wp2_with fail
              go_roundw
              case rel => exact ⟨k + 1, G, by omega, by go_num, hG6.keeps hKj (by simp) (by simp), hk6.trans hKj.nil⟩
              case measure => simp [intOf]; omega
      by_cases hd2 : x.d = 2
      · rw [hd2] at d0 hB3
        clear hd2 hd1
        have hT' := erase_turned (F := F) (s := s) hFl hs14
        go_wp2_with fail
        refine (erase_calls hF3 s).mono ?_
        rintro e w5 ⟨rfl, hG, hK35⟩
        have hGl := hT'.1
        have hT := hT'.2
        generalize (F.erase s).1 = G at *
        have hk5 := hk3.trans hK35
        clear hT'
        have hB5 := hB3.keeps hK35 (by simp; omega)
        have hblk5 := hblk1.keeps hK35 (by simp; omega)
        clear hF3 hB3 hblk1 d0 d1 d2 d3 hk3
        go_wp2_with fail
        refine (bytes_calls hG).mono ?_
        rintro e w6 ⟨v, rfl, hv, hK6⟩
        obtain ⟨g2, c2', r2, rfl, hgc2, hg2, hg2', hblk2⟩ := hv.row (by intro h; rw [h] at hGl; simp at hGl)
        have hG6 := hG.keeps hK6 (by simp) (by simp)
        have hB6 := hB5.keeps hK6 (by simp)
        have hblk6 := hblk5.keeps hK6 (by simp)
        have hk6 := hk5.trans hK6.nil
        rw [hGl] at hgc2
        rw [hGl]
        have HT := Lib.hid hT
        have HGl := Lib.hid hGl
        have HFl := Lib.hid hFl
        clear hv hG hB5 hblk5 hk5 hK6 hK35 hT hGl hFl
        go_wp2_with fail
        go_loopw [84] (fun i wq => ∃ j : Nat, j ≤ 3584 ∧ i = .int .i64 j ∧ Keeps [] w6 wq) (fun i _ => 3584 - (intOf i).toNat)
        case atStart => exact ⟨0, Nat.zero_le _, rfl, Keeps.refl _ _⟩
        case round =>
          obtain ⟨j, hj, rfl, hKj⟩ := hrel
          by_cases hlj : j < 3584
          · have b1 := (hblk6.keeps hKj (by simp)).byteAt (i := j) (by have := HFl.out; omega)
            have b2 := (hblk2.keeps hKj (by simp)).byteAt (i := j) (by have := HGl.out; omega)
            have m0 := (hB6.keeps hKj (by simp)).cell' (i := 0) (v := .int .i64 (2)) rfl
            have hTj := HT.out j
            generalize F.b.getD j 0 = y at *
            generalize G.b.getD j 0 = z at *
            have hj0 : (0 : Int) ≤ (j : Int) := Int.natCast_nonneg _
            have hj1 : (j : Int) < 3584 := by omega
            by_cases hzy : z = y
            · subst hzy
              have hne : ((z.toNat : Int) != (z.toNat : Int)) = false := by simp
              clear hTj
              go_wp2_with fail
              go_quiet (fail)
              go_wp2_with fail
              go_roundw
              case rel => exact ⟨j + 1, by omega, by go_num, hKj.drewN _⟩
              case measure => simp [intOf]; omega
            · obtain ⟨hdn, hjs, hand⟩ : F.down = false ∧ j / 256 = s ∧ z = 255 := by
                rcases hTj with h | ⟨h1, h2, h3⟩
                · exact absurd h hzy
                · rcases h3 with ⟨h3, _⟩ | ⟨_, h3⟩
                  · exact absurd h3 (by decide)
                  · exact ⟨h1, h2, h3⟩
              have hne : ((z.toNat : Int) != (y.toNat : Int)) = true := by rw [bne_byte]; simpa using hzy
              have h255 : ((z.toNat : Int) != 255) = false := by rw [hand]; rfl
              clear hand
              have hjs' : ((j : Int) / 256 != (s : Int)) = false := by simp; omega
              rw [hdn]
              clear hTj hzy hjs
              go_wp2_with fail
              go_quiet (fail)
              go_wp2_with fail
              go_roundw
              case rel => exact ⟨j + 1, by omega, by go_num, hKj.drewN _⟩
              case measure => simp [intOf]; omega
          · obtain rfl : j = 3584 := by omega
            go_wp2_with fail
            go_roundw
            case rel => exact ⟨k + 1, G, by omega, by go_num, hG6.keeps hKj (by simp) (by simp), hk6.trans hKj.nil⟩
            case measure => simp [intOf]; omega
      by_cases hd4 : x.d = 4
      · rw [hd4] at d0 hB3
        clear hd2 hd1 hd4
        go_wp2_with fail
        refine (fuse_calls hF3 _ _).mono ?_
        rintro e w5 ⟨rfl, hG, hK35⟩
        obtain ⟨G, hG0⟩ : ∃ G, G = F.fuse x.n x.a := ⟨_, rfl⟩
        rw [← hG0] at hG
        have hGb : G.b = F.b := by rw [hG0]; rfl
        have hGl : G.b.length = 3584 := by rw [hGb]; exact hFl
        have hT : ∀ i, G.b.getD i 0 = F.b.getD i 0 := fun i => by rw [hGb]
        have hk5 := hk3.trans hK35
        clear hG0 hGb
        have hB5 := hB3.keeps hK35 (by simp; omega)
        have hblk5 := hblk1.keeps hK35 (by simp; omega)
        clear hF3 hB3 hblk1 d0 d1 d2 d3 hk3
        go_wp2_with fail
        refine (bytes_calls hG).mono ?_
        rintro e w6 ⟨v, rfl, hv, hK6⟩
        obtain ⟨g2, c2', r2, rfl, hgc2, hg2, hg2', hblk2⟩ := hv.row (by intro h; rw [h] at hGl; simp at hGl)
        have hG6 := hG.keeps hK6 (by simp) (by simp)
        have hB6 := hB5.keeps hK6 (by simp)
        have hblk6 := hblk5.keeps hK6 (by simp)
        have hk6 := hk5.trans hK6.nil
        rw [hGl] at hgc2
        rw [hGl]
        have HT := Lib.hid hT
        have HGl := Lib.hid hGl
        have HFl := Lib.hid hFl
        clear hv hG hB5 hblk5 hk5 hK6 hK35 hT hGl hFl
        go_wp2_with fail
        go_loopw [84] (fun i wq => ∃ j : Nat, j ≤ 3584 ∧ i = .int .i64 j ∧ Keeps [] w6 wq) (fun i _ => 3584 - (intOf i).toNat)
        case atStart => exact ⟨0, Nat.zero_le _, rfl, Keeps.refl _ _⟩
        case round =>
          obtain ⟨j, hj, rfl, hKj⟩ := hrel
          by_cases hlj : j < 3584
          · have b1 := (hblk6.keeps hKj (by simp)).byteAt (i := j) (by have := HFl.out; omega)
            have b2 := (hblk2.keeps hKj (by simp)).byteAt (i := j) (by have := HGl.out; omega)
            have m0 := (hB6.keeps hKj (by simp)).cell' (i := 0) (v := .int .i64 (4)) rfl
            have hTj := HT.out j
            generalize F.b.getD j 0 = y at *
            generalize G.b.getD j 0 = z at *
            have hj0 : (0 : Int) ≤ (j : Int) := Int.natCast_nonneg _
            have hj1 : (j : Int) < 3584 := by omega
            by_cases hzy : z = y
            · subst hzy
              have hne : ((z.toNat : Int) != (z.toNat : Int)) = false := by simp
              clear hTj
              go_wp2_with fail
              go_quiet (fail)
              go_wp2_with fail
              go_roundw
              case rel => exact ⟨j + 1, by omega, by go_num, hKj.drewN _⟩
              case measure => simp [intOf]; omega
            · exact absurd hTj hzy
          · obtain rfl : j = 3584 := by omega
            go_wp2_with fail
            go_roundw
            case rel => exact ⟨k + 1, G, by omega, by go_num, hG6.keeps hKj (by simp) (by simp), hk6.trans hKj.nil⟩
            case measure => simp [intOf]; omega
      by_cases hd5 : x.d = 5
      · rw [hd5] at d0 hB3
        clear hd2 hd1 hd4 hd5
        go_wp2_with fail
        refine (cut_calls hF3).mono ?_
        rintro e w5 ⟨rfl, hG, hK35⟩
        obtain ⟨G, hG0⟩ : ∃ G, G = F.cut := ⟨_, rfl⟩
        rw [← hG0] at hG
        have hGb : G.b = F.b := by rw [hG0]; rfl
        have hGl : G.b.length = 3584 := by rw [hGb]; exact hFl
        have hT : ∀ i, G.b.getD i 0 = F.b.getD i 0 := fun i => by rw [hGb]
        have hk5 := hk3.trans hK35
        clear hG0 hGb
        have hB5 := hB3.keeps hK35 (by simp; omega)
        have hblk5 := hblk1.keeps hK35 (by simp; omega)
        clear hF3 hB3 hblk1 d0 d1 d2 d3 hk3
        go_wp2_with fail
        refine (bytes_calls hG).mono ?_
        rintro e w6 ⟨v, rfl, hv, hK6⟩
        obtain ⟨g2, c2', r2, rfl, hgc2, hg2, hg2', hblk2⟩ := hv.row (by intro h; rw [h] at hGl; simp at hGl)
        have hG6 := hG.keeps hK6 (by simp) (by simp)
        have hB6 := hB5.keeps hK6 (by simp)
        have hblk6 := hblk5.keeps hK6 (by simp)
        have hk6 := hk5.trans hK6.nil
        rw [hGl] at hgc2
        rw [hGl]
        have HT := Lib.hid hT
        have HGl := Lib.hid hGl
        have HFl := Lib.hid hFl
        clear hv hG hB5 hblk5 hk5 hK6 hK35 hT hGl hFl
        go_wp2_with fail
        go_loopw [84] (fun i wq => ∃ j : Nat, j ≤ 3584 ∧ i = .int .i64 j ∧ Keeps [] w6 wq) (fun i _ => 3584 - (intOf i).toNat)
        case atStart => exact ⟨0, Nat.zero_le _, rfl, Keeps.refl _ _⟩
        case round =>
          obtain ⟨j, hj, rfl, hKj⟩ := hrel
          by_cases hlj : j < 3584
          · have b1 := (hblk6.keeps hKj (by simp)).byteAt (i := j) (by have := HFl.out; omega)
            have b2 := (hblk2.keeps hKj (by simp)).byteAt (i := j) (by have := HGl.out; omega)
            have m0 := (hB6.keeps hKj (by simp)).cell' (i := 0) (v := .int .i64 (5)) rfl
            have hTj := HT.out j
            generalize F.b.getD j 0 = y at *
            generalize G.b.getD j 0 = z at *
            have hj0 : (0 : Int) ≤ (j : Int) := Int.natCast_nonneg _
            have hj1 : (j : Int) < 3584 := by omega
            by_cases hzy : z = y
            · subst hzy
              have hne : ((z.toNat : Int) != (z.toNat : Int)) = false := by simp
              clear hTj
              go_wp2_with fail
              go_quiet (fail)
              go_wp2_with fail
              go_roundw
              case rel => exact ⟨j + 1, by omega, by go_num, hKj.drewN _⟩
              case measure => simp [intOf]; omega
            · exact absurd hTj hzy
          · obtain rfl : j = 3584 := by omega
            go_wp2_with fail
            go_roundw
            case rel => exact ⟨k + 1, G, by omega, by go_num, hG6.keeps hKj (by simp) (by simp), hk6.trans hKj.nil⟩
            case measure => simp [intOf]; omega
      have hn1 : (x.d == 1) = false := by simpa using hd1
      have hn2 : (x.d == 2) = false := by simpa using hd2
      have hn4 : (x.d == 4) = false := by simpa using hd4
      have hn5 : (x.d == 5) = false := by simpa using hd5
      generalize x.d = dd at *
      clear hd1 hd2 hd4 hd5
      go_wp2_with fail
      have hG := hF3
      have hK35 : Keeps [p, q] w3 w3 := Keeps.refl _ _
      obtain ⟨G, hG0⟩ : ∃ G, G = F := ⟨_, rfl⟩
      rw [← hG0] at hG
      have hGb : G.b = F.b := by rw [hG0]
      have hGl : G.b.length = 3584 := by rw [hGb]; exact hFl
      have hT : ∀ i, G.b.getD i 0 = F.b.getD i 0 := fun i => by rw [hGb]
      have hk5 := hk3.trans hK35
      clear hG0 hGb
      have hB5 := hB3.keeps hK35 (by simp; omega)
      have hblk5 := hblk1.keeps hK35 (by simp; omega)
      clear hF3 hB3 hblk1 d0 d1 d2 d3 hk3
      go_wp2_with fail
      refine (bytes_calls hG).mono ?_
      rintro e w6 ⟨v, rfl, hv, hK6⟩
      obtain ⟨g2, c2', r2, rfl, hgc2, hg2, hg2', hblk2⟩ := hv.row (by intro h; rw [h] at hGl; simp at hGl)
      have hG6 := hG.keeps hK6 (by simp) (by simp)
      have hB6 := hB5.keeps hK6 (by simp)
      have hblk6 := hblk5.keeps hK6 (by simp)
      have hk6 := hk5.trans hK6.nil
      rw [hGl] at hgc2
      rw [hGl]
      have HT := Lib.hid hT
      have HGl := Lib.hid hGl
      have HFl := Lib.hid hFl
      clear hv hG hB5 hblk5 hk5 hK6 hK35 hT hGl hFl
      go_wp2_with fail
      go_loopw [84] (fun i wq => ∃ j : Nat, j ≤ 3584 ∧ i = .int .i64 j ∧ Keeps [] w6 wq) (fun i _ => 3584 - (intOf i).toNat)
      case atStart => exact ⟨0, Nat.zero_le _, rfl, Keeps.refl _ _⟩
      case round =>
        obtain ⟨j, hj, rfl, hKj⟩ := hrel
        by_cases hlj : j < 3584
        · have b1 := (hblk6.keeps hKj (by simp)).byteAt (i := j) (by have := HFl.out; omega)
          have b2 := (hblk2.keeps hKj (by simp)).byteAt (i := j) (by have := HGl.out; omega)
          have m0 := (hB6.keeps hKj (by simp)).cell' (i := 0) (v := .int .i64 (dd)) rfl
          have hTj := HT.out j
          generalize F.b.getD j 0 = y at *
          generalize G.b.getD j 0 = z at *
          have hj0 : (0 : Int) ≤ (j : Int) := Int.natCast_nonneg _
          have hj1 : (j : Int) < 3584 := by omega
          by_cases hzy : z = y
          · subst hzy
            have hne : ((z.toNat : Int) != (z.toNat : Int)) = false := by simp
            clear hTj
            go_wp2_with fail
            go_quiet (fail)
            go_wp2_with fail
            go_roundw
            case rel => exact ⟨j + 1, by omega, by go_num, hKj.drewN _⟩
            case measure => simp [intOf]; omega
          · exact absurd hTj hzy
        · obtain rfl : j = 3584 := by omega
          go_wp2_with fail
          go_roundw
          case rel => exact ⟨k + 1, G, by omega, by go_num, hG6.keeps hKj (by simp) (by simp), hk6.trans hKj.nil⟩
          case measure => simp [intOf]; omega
    · obtain rfl : k = l.length := by omega
      clear hl hF hK12
      go_wp2_with fail
      refine awake16.mono ?_
      rintro e wa ⟨rfl, hKa⟩
      go_wp2_with fail
      go_ret
      exact ⟨rfl, (hKr.trans hKa.nil).mono (by simp; omega)⟩

end Go.Proofs.Ythjojkkjdaoocaa
