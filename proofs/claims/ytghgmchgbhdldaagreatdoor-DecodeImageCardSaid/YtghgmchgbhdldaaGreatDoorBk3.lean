/-
  Bk3: block.Join, walked.
-/
import Derived.Test.YtghgmchgbhdldaaGreatDoorBk2
set_option linter.unusedVariables false
set_option linter.unusedSimpArgs false
namespace Go.Proofs.YtghgmchgbhdldaaGreatDoor
open Go.RowKit
attribute [local go_sem ↓] Go.wp_at_zero Go.wp_at_succ

def joinS (len : Nat) (out b : List UInt8) : List UInt8 := out ++ b.take (len - out.length)
def joinF (len : Nat) (L : List (List UInt8)) : List UInt8 := L.foldl (joinS len) []
theorem joinF_snoc (len : Nat) (L : List (List UInt8)) (x : List UInt8) : joinF len (L ++ [x]) = joinS len (joinF len L) x := by unfold joinF; rw [List.foldl_append]; rfl
theorem joinS_len (len : Nat) (out b : List UInt8) (h : out.length ≤ len) : (joinS len out b).length ≤ len := by unfold joinS; rw [List.length_append, List.length_take]; omega
theorem joinF_len (len : Nat) (L : List (List UInt8)) : (joinF len L).length ≤ len := by
  have : ∀ (L : List (List UInt8)) (o : List UInt8), o.length ≤ len → (L.foldl (joinS len) o).length ≤ len := by
    intro L
    induction L with
    | nil => intro o h; exact h
    | cons x L ih => intro o h; exact ih _ (joinS_len len o x h)
  exact this L [] (Nat.zero_le _)

/-- The pieces of an image, put together, are the image. -/
theorem join_split {img : List UInt8} {K z : Nat} (hf : img.length ≤ K * z) : ∀ k, k ≤ K → joinF img.length (bsplit img K z k) = img.take (k * z)
  | 0, _ => by simp [bsplit, joinF]
  | k + 1, hk => by
    rw [bsplit_succ, joinF_snoc, join_split hf k (by omega)]
    have hst : (k + 1) * z = k * z + z := by rw [Nat.add_mul, Nat.one_mul]
    unfold joinS bpiece
    rw [hst]
    have hlt : (img.take (k * z)).length = min (k * z) img.length := List.length_take
    rw [hlt]
    by_cases h : k * z ≤ img.length
    · rw [Nat.min_eq_left h, List.take_add]
      congr 1
      have hd : (bfull img (K * z)).drop (k * z) = img.drop (k * z) ++ zer (K * z - img.length) := by unfold bfull; rw [List.drop_append_of_le_length h]
      rw [hd, List.take_take]
      by_cases h2 : z ≤ img.length - k * z
      · rw [Nat.min_eq_right h2, List.take_append_of_le_length (by rw [List.length_drop]; exact h2)]
      · rw [Nat.min_eq_left (by omega), List.take_append_of_le_length (by rw [List.length_drop]; omega), List.take_of_length_le (by rw [List.length_drop]; omega), List.take_of_length_le (by rw [List.length_drop]; omega)]
    · rw [Nat.min_eq_right (by omega), Nat.sub_self, List.take_zero, List.append_nil, List.take_of_length_le (by omega), List.take_of_length_le (by omega)]
theorem join_all {img : List UInt8} {K z : Nat} (hf : img.length ≤ K * z) : joinF img.length (bsplit img K z K) = img := by
  rw [join_split hf K (Nat.le_refl _), List.take_of_length_le hf]

def OwnPost (w : World) (x : List UInt8) (e : Ending) (w' : World) : Prop := ∃ v, e = .returned v ∧ Own w' w.heap.size v x ∧ Keeps [] w w'

set_option maxRecDepth 100000 in
set_option maxHeartbeats 1600000 in
theorem bjoin_calls {w : World} {v : Value} {L : List (List UInt8)} (hv : RdL w v L) (len : Nat) (h1 : 1 ≤ len) (h2 : len ≤ 512) (hL : ∀ x ∈ L, x.length ≤ 16) (hend : (joinF len L).length = len) (hL2 : L.length ≤ 100000) :
    Calls Tryz.prog 33 #[v, .int .i64 len] w (OwnPost w (joinF len L)) := by
  obtain ⟨a, c, rfl, _, _, hrd, _⟩ := hv
  have Hrd := Lib.hid hrd
  have HL := Lib.hid hL
  have Hend := Lib.hid hend
  clear hrd hL hend
  go_enter Tryz.func33, Tryz.ntmps33
  go_wp2_with fail
  go_loopw [5, 16] (fun o i wr => ∃ k : Nat, k ≤ L.length ∧ i = .int .i64 k ∧ Own wr w.heap.size o (joinF len (L.take k)) ∧ Keeps [] w wr) (fun _ i _ => L.length - (intOf i).toNat)
  case atStart => exact ⟨0, Nat.zero_le _, rfl, Own.nil _ _, Keeps.refl _ _⟩
  case round =>
    obtain ⟨k, hk, rfl, hO, hK⟩ := hrel
    by_cases hlt : k < L.length
    · obtain ⟨g0, u, rfl, hc0, hru⟩ := Hrd.out k L[k] (List.getElem?_eq_getElem hlt)
      have hbl := HL.out L[k] (List.getElem_mem hlt)
      have hcr := hK.cell0 hc0
      have hsn : joinF len (L.take (k + 1)) = joinF len (L.take k) ++ (L[k]).take (len - (joinF len (L.take k)).length) := by rw [List.take_add_one, List.getElem?_eq_getElem hlt]; exact joinF_snoc _ _ _
      have hol := joinF_len len (L.take k)
      generalize L[k] = b at *
      generalize joinF len (L.take k) = O at *
      obtain ⟨ab, cb, rfl, b1, b2, b3, b4, _⟩ := hru
      obtain ⟨m, hm, hm1, hm2⟩ : ∃ m : Nat, min (b.length : Int) ((len : Int) - (O.length : Int)) = (m : Int) ∧ m = min b.length (len - O.length) ∧ m ≤ b.length := ⟨min b.length (len - O.length), by omega, rfl, by omega⟩
      have htk : b.take (len - O.length) = b.take m := by
        rw [hm1]
        by_cases h : b.length ≤ len - O.length
        · rw [Nat.min_eq_left h, List.take_of_length_le h, List.take_of_length_le (Nat.le_refl _)]
        · rw [Nat.min_eq_right (by omega)]
      rw [htk] at hsn
      have hkn : (k : Int) < (L.length : Int) := by omega
      have hmc : (m : Int) ≤ (cb : Int) := by omega
      obtain ⟨ao, co, rfl, _⟩ := hO.rds
      have HO := Lib.hid hO
      have HR := Lib.hid ((b3.keepsNil hK).take m)
      have Htl := Lib.hid (show (b.take m).length = m from by rw [List.length_take]; omega)
      have Hm0 := Lib.hid (show ab = none → m = 0 ∧ cb = 0 from fun h => by have := b4 h; rw [this.1] at hm2; simp at hm2; exact ⟨by omega, this.2⟩)
      have hlen1 : O.length + m ≤ 140737488351232 := by omega
      have hsz := hK.size
      have HK := Lib.hid hK
      have Hsn := Lib.hid hsn
      clear hc0 b3 b4 hsn htk hO hK hm1
      go_wp2_with (at_builtin; (refine wpList_append_bytes rfl (.tmp 20) (.tmp 29) rfl HO.out rfl ab m cb rfl HR.out Htl.out Hm0.out hlen1 hsz ?_); intro v2 w2 g1 g2 g3)
      go_roundw
      case rel =>
        refine ⟨k + 1, by omega, by go_num, by rw [Hsn.out]; exact g1, HK.out.grown g2 (fun x hx => .inr ?_)⟩
        rcases HO.out.2 with ⟨e, _⟩ | ⟨g, cap, cur, e, hb, _⟩
        · rw [e] at hx; simp [Value.ownBlock] at hx
        · rw [e] at hx; simp [Value.ownBlock] at hx; omega
      case measure => simp [intOf]; omega
    · obtain rfl : k = L.length := by omega
      rw [List.take_length] at hO
      have hend := Hend.out
      have HO := Lib.hid hO
      have HK := Lib.hid hK
      obtain ⟨ao, co, rfl, _⟩ := hO.rds
      generalize hJ : joinF len L = J at *
      have HJ := Lib.hid hJ
      have hne : ¬ ((J.length : Int) < (len : Int)) := by omega
      have HE := Lib.hid hend
      clear hO hK hJ hend Hend
      go_wp2_with fail
      go_ret
      exact ⟨_, rfl, HO.out, HK.out⟩

end Go.Proofs.YtghgmchgbhdldaaGreatDoor
