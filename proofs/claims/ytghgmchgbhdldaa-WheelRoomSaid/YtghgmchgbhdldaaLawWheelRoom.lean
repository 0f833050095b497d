/-
  LawWheelRoom: the walk of WheelRoom.
-/
import Derived.Test.YtghgmchgbhdldaaLaw18
import Derived.Test.YtghgmchgbhdldaaRoomT
import Derived.Test.YtghgmchgbhdldaaFlashB
set_option linter.unusedVariables false
namespace Go.Proofs.Ytghgmchgbhdldaa
open Go.RowKit
attribute [local go_sem ↓] Go.wp_at_zero Go.wp_at_succ

theorem B32_nat {k : Nat} (h : k ≤ 100000) : B32 (UInt32.ofNat k) = .int .u32 (k : Int) := by
  show Value.int .u32 (((UInt32.ofNat k).toNat : Nat) : Int) = _
  rw [UInt32.toNat_ofNat', Nat.mod_eq_of_lt (by omega)]

theorem WhAt.gap {w : World} {p q u : Nat} {g : Option Nat} {F : Fla} {V : Whl} (h : WhAt w p q u g F V) : ∀ y, g = some y → u < y ∧ y < w.heap.size := by
  obtain ⟨v, hv, _, hR⟩ := h.own
  obtain ⟨av, cv, rfl, _, _, _, hvo⟩ := hR.form
  intro y hy
  have := hvo y (by rw [hv, hy])
  omega

theorem WhAt.ltu {w : World} {p q u : Nat} {g : Option Nat} {F : Fla} {V : Whl} (h : WhAt w p q u g F V) : u < w.heap.size := by
  obtain ⟨v, hv, hB, hR⟩ := h.own
  exact hB.lt

/-- Add of a slice that was just made. -/
theorem add_made {w : World} {p q u : Nat} {g : Option Nat} {F : Fla} {V : Whl} (h : WhAt w p q u g F V) (id : UInt32) (s : Nat) (hs : s ≤ 1000) :
    Calls Try.prog 21 #[.pointer (some ⟨u, 0, none⟩), B32 id, .slice (some ⟨w.heap.size, 0, none⟩) s s] (w.alloc (.cells (zeros s) 5)) (AddPost (w.alloc (.cells (zeros s) 5)) p q u g (V.add F id (List.replicate s 0))) := by
  have hk : Keeps [] w (w.alloc (.cells (zeros s) 5)) := (Keeps.refl [] w).alloc _
  have h1 := h.fla.ltp
  have h2 := h.fla.ltq
  have h3 := h.ltu
  have hA := add_calls (h.keeps hk (by simp)) id (some ⟨w.heap.size, 0, none⟩) s (List.replicate s 0) (zeros_rd w s) (by simp) (by simp) (by omega) (by
    intro x hx _
    simp only [Option.some.injEq] at hx
    subst hx
    refine ⟨by show w.heap.size ≠ p; omega, by show w.heap.size ≠ q; omega, by show w.heap.size ≠ u; omega, fun hg => ?_⟩
    have : w.heap.size < w.heap.size := (h.gap _ hg).2
    omega)
  rwa [List.length_replicate] at hA

/-- What Add keeps, where all of the wheel and its flash is younger than a. -/
theorem Keeps.addTo {a b c : World} {p q u : Nat} {g : Option Nat} (h : Keeps [] a b) (k : Keeps (p :: q :: u :: g.toList) b c) (hp : a.heap.size ≤ p) (hq : a.heap.size ≤ q) (hu : a.heap.size ≤ u) (hg : ∀ y, g = some y → u < y) : Keeps [] a c := by
  refine h.trans' (T := []) k (by simp) (fun x hx => .inr ?_)
  simp only [List.mem_cons] at hx
  rcases hx with rfl | rfl | rfl | hx
  · exact hp
  · exact hq
  · exact hu
  · have := hg x (by simpa using hx)
    omega

set_option maxRecDepth 100000 in
set_option maxHeartbeats 2000000 in
theorem wheelRoom_walk {w : World} (x : Int) (hx : (Lit.int .i64 x).wf = true) (y : Int) (hy : (Lit.int .i64 y).wf = true) :
    Calls Try.prog 4 #[.int .i64 x, .int .i64 y] w (TrueKeep w) := by
  clear hx hy
  obtain ⟨n, hn, hu1, hu2⟩ := umod x 16 (by omega) (by omega)
  obtain ⟨m, hm, hv1, hv2⟩ := umod y 3 (by omega) (by omega)
  go_enter Try.func4, Try.ntmps4
  go_wp2_with fail
  refine (new_calls 100).mono ?_
  rintro e w1 ⟨p, q, rfl, hp, hq, hF, hK⟩
  clear hu1 hu2 hv1 hv2
  have e1 : (1 : Int) + (n : Int) = ((n + 1 : Nat) : Int) := by omega
  have e2 : (1 : Int) + (m : Int) = ((m + 1 : Nat) : Int) := by omega
  rw [e1, e2]
  have hs1 : 1 ≤ n + 1 := by omega
  have hs16 : n + 1 ≤ 16 := by omega
  have hg3 : m + 1 ≤ 3 := by omega
  clear e1 e2 hn hm
  generalize n + 1 = s at *
  generalize m + 1 = gens at *
  have hpl : ((places s : Nat) : Int) = 256 / ((s : Int) + 13) := by unfold places wide; rw [Int.natCast_ediv, Int.natCast_add]; rfl
  have hpb := places_bounds hs1 hs16
  have hall : wrap64 (256 / ((s : Int) + 13) * 8) = ((8 * places s : Nat) : Int) := by
    rw [← hpl, IntWalk.wrap64_in _ (by omega)]; omega
  have HN := Lib.hid (rfl : 8 * places s = 8 * places s)
  have hR0 := RoomIs.new hs1 hs16 (wlog_blank (UInt32.ofNat 0) hs1 hs16 False)
  have hNb : 8 * places s ≤ 200 := by omega
  have hrm : ∀ (g : Nat) (l : List Rec), (logWh (UInt32.ofNat g) s (l.map some)).room = ((8 * places s : Nat) : Int) - (l.length : Int) := fun g l => by
    rw [room_log, List.length_map]; omega
  clear hpl hpb
  generalize hN : 8 * places s = N at *
  have Hpl := Lib.hid hN
  clear hN
  go_wp2_with fail
  rw [hall]
  clear hall
  go_loopw [28] (fun i wr => ∃ (g : Nat) (F : Fla), i = .int .i64 g ∧ g ≤ gens ∧ FlaAt wr p q F ∧ RoomIs F g s [] ∧ Keeps [] w wr) (fun i _ => gens - (intOf i).toNat)
  case atStart => exact ⟨0, _, rfl, Nat.zero_le _, hF, hR0, hK⟩
  case round =>
    clear hF hR0 hK
    obtain ⟨g, F, rfl, hg, hF, hR, hK⟩ := hrel
    by_cases hlt : g < gens
    · have hop := open_log hF hR.good.down hR.log
      have hgi : (g : Int) < (gens : Int) := by omega
      rw [B32_nat (by omega)] at hop
      have HR := Lib.hid hR
      clear hR hF
      go_wp2_with fail
      refine hop.mono ?_
      rintro e w2 ⟨u, gr, rfl, hu, hW, hk2⟩
      have hK2 := hK.trans hk2
      have huw : w.heap.size ≤ u := Nat.le_trans hK.size hu
      have hRm0 := room_calls hW
      rw [hrm, List.length_nil, Int.natCast_zero, Int.sub_zero] at hRm0
      go_wp2_with fail
      refine hRm0.mono ?_
      rintro e w3 ⟨rfl, n3, hw3⟩
      have hk3 : Keeps [] w2 w3 := hw3 ▸ (Keeps.refl [] w2).drewN n3
      clear hw3 hRm0
      have hW3 := hW.keeps hk3 (by simp)
      have hRc := records_calls hW3
      rw [logWh_l] at hRc
      go_wp2_with fail
      refine hRc.mono ?_
      rintro e w4 ⟨v4, rfl, hv4, hk4⟩
      obtain ⟨a4, c4, rfl, _⟩ := hv4.form
      have hW4 := hW3.keeps hk4 (by simp)
      have hK4 := (hK2.trans hk3).trans hk4
      clear hRc hv4 hW hW3 hK2 hk2 hk3 hk4 hop hK
      go_wp2_with fail
      have hmk := fun w => make_u8 s s (Nat.le_refl _) (by omega) w
      go_loopw [54] (fun i wx => ∃ (F : Fla) (l : List Rec) (gg : Option Nat), i = .int .i64 l.length ∧ l.length ≤ N ∧ WhAt wx p q u gg F (logWh (UInt32.ofNat g) s (l.map some)) ∧ RoomIs F g s l ∧ Keeps [] w wx) (fun i _ => N - (intOf i).toNat)
      case atStart => exact ⟨F, [], gr, rfl, Nat.zero_le _, hW4, HR.out, hK4⟩
      case round =>
        clear hW4 HR hK4
        obtain ⟨F, l, gg, rfl, hl, hW, hR, hK⟩ := hrel
        by_cases hlN : l.length < N
        · obtain ⟨G, ha, hR'⟩ := hR.add (by omega) (by rw [Hpl.out]; exact hlN) (UInt32.ofNat l.length) (List.replicate s 0) (by simp)
          have hAd := add_made hW (UInt32.ofNat l.length) s (by omega)
          rw [ha, B32_nat (by omega)] at hAd
          have hli : (l.length : Int) < (N : Int) := by omega
          have HR' := Lib.hid hR'
          have hgap := hW.gap
          clear hR hR' ha
          go_wp2_with fail
          refine hAd.mono ?_
          rintro e w5 ⟨rfl, g5, hW5, hg5, hk5⟩
          have hK5 := (hK.alloc (.cells (zeros s) 5)).addTo hk5 hp hq huw (fun y hy => (hgap y hy).1)
          have hRm := room_calls hW5
          have er : (logWh (UInt32.ofNat g) s ((l ++ [(UInt32.ofNat l.length, List.replicate s (0 : UInt8))]).map some)).room = (N : Int) - 1 - (l.length : Int) := by
            rw [hrm, List.length_append, List.length_singleton]; omega
          dsimp only at hRm
          rw [er] at hRm
          have HW5 := Lib.hid hW5
          clear hAd hW hW5 hk5 er
          go_wp2_with fail
          refine hRm.mono ?_
          rintro e w6 ⟨rfl, n6, hw6⟩
          have hk6 : Keeps [] w5 w6 := hw6 ▸ (Keeps.refl [] w5).drewN n6
          clear hw6 hRm
          go_wp2_with fail
          go_roundw
          case rel => exact ⟨G, l ++ [(UInt32.ofNat l.length, List.replicate s 0)], g5, by rw [List.length_append, List.length_singleton]; go_num, by rw [List.length_append, List.length_singleton]; omega, HW5.out.keeps hk6 (by simp), HR'.out, hK5.trans hk6⟩
          case measure => simp [intOf]; omega
        · have hlN' : l.length = N := by omega
          have hfull := hR.full (by rw [Hpl.out]; exact hlN') 1 (List.replicate s 0) (by simp)
          have hAd := add_made hW 1 s (by omega)
          rw [hfull] at hAd
          have hli : ¬ ((l.length : Int) < (N : Int)) := by omega
          have Hnx := Lib.hid (hR.next (by omega) (by rw [Hpl.out]; exact hlN'))
          have hEr := fun (w : World) (h : FlaAt w p q F) (c : Nat) (hc : c < 8) => erases_calls h ((6 : Int) + c)
          have her := fun (c : Nat) (hc : c < 8) => hR.erases (by rw [Hpl.out]; exact hlN') c hc
          have hgap := hW.gap
          have HL := Lib.hid hlN'
          clear hR hfull hlN' hl
          go_wp2_with fail
          refine hAd.mono ?_
          rintro e w5 ⟨rfl, g5, hW5, hg5, hk5⟩
          have hK5 := (hK.alloc (.cells (zeros s) 5)).addTo hk5 hp hq huw (fun y hy => (hgap y hy).1)
          have hRc := records_calls hW5
          dsimp only at hRc hW5
          rw [logWh_l] at hRc
          clear hAd hW hk5 hgap
          go_wp2_with fail
          refine hRc.mono ?_
          rintro e w6 ⟨v6, rfl, hv6, hk6⟩
          obtain ⟨a6, c6, rfl, _⟩ := hv6.form
          rw [HL.out]
          have hF6 := hW5.fla.keeps hk6 (by simp) (by simp)
          have hK6 := hK5.trans hk6
          clear hv6 hRc hW5 hK5 hk6 hg5
          go_wp2_with fail
          go_loopw [86] (fun i wy => ∃ c : Nat, i = .int .i64 c ∧ c ≤ 8 ∧ wy = w6) (fun i _ => 8 - (intOf i).toNat)
          case atStart => exact ⟨0, rfl, by omega, rfl⟩
          case round =>
            obtain ⟨c, rfl, hc, rfl⟩ := hrel
            by_cases hc8 : c < 8
            · have hE := hEr _ hF6 c hc8
              rw [her c hc8] at hE
              go_wp2_with fail
              refine hE.mono ?_
              rintro e w7 ⟨rfl, rfl⟩
              go_wp2_with fail
              go_roundw
              case rel => exact ⟨c + 1, by go_num, by omega, trivial⟩
              case measure => simp [intOf]; omega
            · obtain rfl : c = 8 := by omega
              go_wp2_with fail
              go_roundw
              case rel => exact ⟨g + 1, F, by go_num, by omega, hF6, Hnx.out, hK6⟩
              case measure => simp [intOf]; omega
    · obtain rfl : g = gens := by omega
      clear hR hF
      go_wp2_with fail
      refine (awake18).mono ?_
      rintro e w9 ⟨rfl, hk9⟩
      go_wp2_with fail
      go_ret
      exact ⟨rfl, hK.trans hk9⟩

end Go.Proofs.Ytghgmchgbhdldaa
