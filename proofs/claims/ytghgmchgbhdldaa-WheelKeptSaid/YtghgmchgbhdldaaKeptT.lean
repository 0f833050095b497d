/-
  KeptT: what was added is there behind a cut: what the plain functions of the wheel come to. No program here.
-/
import Derived.Test.YtghgmchgbhdldaaWhT3
set_option linter.unusedVariables false
namespace Go.Proofs.Ytghgmchgbhdldaa
open Go.RowKit

structure KeptIs (F : Fla) (s : Nat) (L : List (Option Rec)) (k : Nat) : Prop where
  good : Good F
  wear : F.wear = 100
  log : WLog F.b 5 s L True
  er : ∀ i, i < 14 → F.er.getD i 0 ≤ k ∧ 0 ≤ F.er.getD i 0

theorem KeptIs.fuse {F : Fla} {s : Nat} {L : List (Option Rec)} {k : Nat} (h : KeptIs F s L k) {n t : Int} (h0 : 0 ≤ n) (hn : n ≤ 9223372036854775807) : KeptIs (F.fuse n t) s L k :=
  ⟨fuse_good h.good h0 hn, h.wear, h.log, h.er⟩

theorem KeptIs.mono {F : Fla} {s : Nat} {L : List (Option Rec)} {k : Nat} (h : KeptIs F s L k) : KeptIs F s L (k + 1) :=
  ⟨h.good, h.wear, h.log, fun i hi => by have := h.er i hi; omega⟩

theorem er_next {F G : Fla} {c k : Nat} {era : Prop} (h : WRest F G c era) (hl : F.er.length = 14) (hc : c < 8) (hk : k < 100) (he : ∀ i, i < 14 → F.er.getD i 0 ≤ k ∧ 0 ≤ F.er.getD i 0) :
    ∀ i, i < 14 → G.er.getD i 0 ≤ ((k + 1 : Nat) : Int) ∧ 0 ≤ G.er.getD i 0 := by
  intro i hi
  have h0 := he i hi
  rcases h.er with ⟨_, e⟩ | ⟨_, e⟩
  · rw [e]
    by_cases hci : 6 + c = i
    · subst hci
      have : (F.er.set (6 + c) (wrap64 (F.er.getD (6 + c) 0 + 1))).getD (6 + c) 0 = wrap64 (F.er.getD (6 + c) 0 + 1) := by
        rw [List.getD, List.getElem?_set_self (by omega)]; rfl
      rw [this, IntWalk.wrap64_in _ (by omega)]
      omega
    · have : (F.er.set (6 + c) (wrap64 (F.er.getD (6 + c) 0 + 1))).getD i 0 = F.er.getD i 0 := by
        rw [List.getD, List.getElem?_set_ne hci]; rfl
      rw [this]
      omega
  · rw [e]; omega

theorem WRest.er_len {F G : Fla} {c : Nat} {era : Prop} (h : WRest F G c era) : G.er.length = F.er.length := by
  rcases h.er with ⟨_, e⟩ | ⟨_, e⟩
  · rw [e, List.length_set]
  · rw [e]

theorem KeptIs.add {F : Fla} {s : Nat} {L : List (Option Rec)} {k : Nat} (h : KeptIs F s L k) (hk : k < 100) (i : UInt32) (d : List UInt8) (hd : d.length = s) :
    ∃ G V e, (logWh 5 s L).add F i d = (G, V, e) ∧
      ((e = 0 ∧ V = logWh 5 s (L ++ [some (i, d)]) ∧ KeptIs G s (L ++ [some (i, d)]) (k + 1)) ∨ (e = 9 ∧ L.length = 8 * places s ∧ G = F ∧ V = logWh 5 s L) ∨
       (e = 11 ∧ ∃ L', KeptIs G.start s L' (k + 1) ∧ (L'.filterMap id = L.filterMap id ∨ L'.filterMap id = L.filterMap id ++ [(i, d)]))) := by
  have hp := places_pos h.log.s16
  by_cases hn : L.length < 8 * places s
  · have hc8 : L.length / places s < 8 := (Nat.div_lt_iff_lt_mul hp).2 hn
    obtain ⟨G, V, e, ha, hR, hc⟩ := add_log h.good h.log hn (by rw [h.wear]; have := h.er (6 + L.length / places s) (by omega); omega) (fun _ => trivial) i d hd
    have her := er_next hR h.good.er hc8 hk h.er
    refine ⟨G, V, e, ha, ?_⟩
    rcases hc with ⟨rfl, hG, rfl, hl⟩ | ⟨rfl, hdn, hf, rfl, L', hl, hc⟩
    · exact .inl ⟨rfl, rfl, hG, hR.wear.trans h.wear, hl, her⟩
    · refine .inr (.inr ⟨rfl, L', ⟨⟨hR.len, ?_, rfl, ?_, hR.l1, hR.l2, hR.s1, hR.s2⟩, hR.wear.trans h.wear, hl, her⟩, ?_⟩)
      · show G.er.length = 14
        rw [hR.er_len, h.good.er]
      · intro hfu
        have : (G.fused && decide (0 ≤ G.left)) = true := hfu
        simp only [Bool.and_eq_true, decide_eq_true_eq] at this
        exact this.2
      · rcases hc with rfl | rfl | rfl
        · exact .inl rfl
        · left; simp
        · right; simp
  · have hL : L.length = 8 * places s := by have := h.log.le; omega
    refine ⟨F, logWh 5 s L, 9, ?_, .inr (.inl ⟨rfl, hL, rfl, rfl⟩)⟩
    unfold Whl.add
    rw [if_neg (show ¬ d.length ≠ (logWh 5 s L).size from fun hne => hne hd), if_pos]
    show 8 * (places s : Int) - L.length = 0
    rw [hL]
    omega

theorem KeptIs.new {s : Nat} (hb : WLog blankAll 5 s [] True) : KeptIs (Fla.new 100) s [] 0 := by
  refine ⟨new_good 100, rfl, hb, fun i hi => ?_⟩
  have : (Fla.new 100).er.getD i 0 = 0 := by
    show (List.replicate 14 (0 : Int)).getD i 0 = 0
    rw [List.getD, List.getElem?_replicate, if_pos hi]; rfl
  rw [this]
  omega

end Go.Proofs.Ytghgmchgbhdldaa
