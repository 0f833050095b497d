/-
  RefM: the reference's flash in memory: the same numbers and bytes in another order of cells. What its fuse says is open where none is set.
-/
import Derived.Test.YtghgmchgbhdldaaFlashN
import Derived.Test.YtghgmchgbhdldaaAppB
namespace Go.Proofs.Ytghgmchgbhdldaa
open Go.RowKit

def Fla.rcells (F : Fla) (q : Nat) (z : Int) : List Value :=
  .slice (some ⟨q, 0, none⟩) 3584 3584 :: .int .i64 F.wear :: (F.er.map (Value.int .i64) ++ [.bool F.down, .int .i64 F.steps, .bool F.fused, .int .i64 z, .int .i64 F.torn])

/-- The reference's flash in block p, its bytes in block q, its fuse z. -/
structure RfZ (w : World) (p q : Nat) (F : Fla) (z : Int) : Prop where
  er : F.er.length = 14
  len : F.b.length = 3584
  own : Blk w p 59 (F.rcells q z)
  bytes : ∃ r, Blk w q 5 (F.b.map B8 ++ r)

def RfAt (w : World) (p q : Nat) (F : Fla) : Prop := ∃ z, (F.fused = true → z = F.left) ∧ RfZ w p q F z

namespace RfZ
variable {w : World} {p q : Nat} {F : Fla} {z : Int}

theorem cell (h : RfZ w p q F z) {i : Nat} {v : Value} (hv : (F.rcells q z)[i]? = some v) : w.cell? ⟨p, i, none⟩ = some v := h.own.cell' hv
theorem frz (h : RfZ w p q F z) (i : Nat) : w.frozen? ⟨p, i, none⟩ = false := h.own.frozen i
theorem frzq (h : RfZ w p q F z) (i : Nat) : w.frozen? ⟨q, i, none⟩ = false := by obtain ⟨r, hr⟩ := h.bytes; exact hr.frozen i
theorem c0 (h : RfZ w p q F z) : w.cell? ⟨p, 0, none⟩ = some (.slice (some ⟨q, 0, none⟩) 3584 3584) := h.cell rfl
theorem wear (h : RfZ w p q F z) : w.cell? ⟨p, 1, none⟩ = some (.int .i64 F.wear) := h.cell rfl
theorem tailC (h : RfZ w p q F z) (k : Nat) (v : Value) (hv : [.bool F.down, .int .i64 F.steps, .bool F.fused, .int .i64 z, .int .i64 F.torn][k]? = some v) : w.cell? ⟨p, 16 + k, none⟩ = some v := by
  refine h.cell ?_
  unfold Fla.rcells
  rw [show 16 + k = (14 + k) + 1 + 1 from by omega, List.getElem?_cons_succ, List.getElem?_cons_succ, List.getElem?_append_right (by simp [h.er])]
  simp only [List.length_map, h.er]
  rw [show 14 + k - 14 = k from by omega]
  exact hv
theorem down (h : RfZ w p q F z) : w.cell? ⟨p, 16, none⟩ = some (.bool F.down) := h.tailC 0 _ rfl
theorem steps (h : RfZ w p q F z) : w.cell? ⟨p, 17, none⟩ = some (.int .i64 F.steps) := h.tailC 1 _ rfl
theorem fused (h : RfZ w p q F z) : w.cell? ⟨p, 18, none⟩ = some (.bool F.fused) := h.tailC 2 _ rfl
theorem left (h : RfZ w p q F z) : w.cell? ⟨p, 19, none⟩ = some (.int .i64 z) := h.tailC 3 _ rfl
theorem torn (h : RfZ w p q F z) : w.cell? ⟨p, 20, none⟩ = some (.int .i64 F.torn) := h.tailC 4 _ rfl
theorem erC (h : RfZ w p q F z) {s : Nat} (hs : s < 14) : w.cell? ⟨p, 2 + s, none⟩ = some (.int .i64 (F.er.getD s 0)) := by
  refine h.cell ?_
  unfold Fla.rcells
  rw [show 2 + s = s + 1 + 1 from by omega, List.getElem?_cons_succ, List.getElem?_cons_succ, List.getElem?_append_left (by simp [h.er]; omega)]
  simp [List.getD, h.er, hs]
theorem byte (h : RfZ w p q F z) {i : Nat} (hi : i < 3584) : w.cell? ⟨q, i, none⟩ = some (B8 (F.at_ i)) := by
  obtain ⟨r, hr⟩ := h.bytes
  refine hr.cell' ?_
  rw [List.getElem?_append_left (by simp [h.len]; exact hi)]
  simp [Fla.at_, List.getD, h.len, hi]
theorem ne (h : RfZ w p q F z) : p ≠ q := by obtain ⟨r, hr⟩ := h.bytes; exact h.own.ne hr (by decide)
theorem ltp (h : RfZ w p q F z) : p < w.heap.size := h.own.lt
theorem ltq (h : RfZ w p q F z) : q < w.heap.size := by obtain ⟨r, hr⟩ := h.bytes; exact hr.lt
theorem keeps {S : List Nat} {w' : World} (h : RfZ w p q F z) (k : Keeps S w w') (hp : p ∉ S) (hq : q ∉ S) : RfZ w' p q F z :=
  ⟨h.er, h.len, h.own.keeps k hp, by obtain ⟨r, hr⟩ := h.bytes; exact ⟨r, hr.keeps k hq⟩⟩
theorem drew (h : RfZ w p q F z) : RfZ w.drew p q F z := ⟨h.er, h.len, h.own.drew, h.bytes⟩
theorem alloc (h : RfZ w p q F z) (o : Obj) : RfZ (w.alloc o) p q F z := h.keeps ((Keeps.refl [] w).alloc o) (by simp) (by simp)
theorem drewN (h : RfZ w p q F z) (n : Nat) : RfZ (w.drewN n) p q F z := ⟨h.er, h.len, h.own.drewN n, h.bytes⟩

theorem setTail (h : RfZ w p q F z) (k : Nat) (v : Value) (G : Fla) (y : Int) (hb : G.b = F.b) (he : G.er = F.er) (hw : G.wear = F.wear)
    (hG : [.bool F.down, .int .i64 F.steps, .bool F.fused, .int .i64 z, .int .i64 F.torn].set k v = [.bool G.down, .int .i64 G.steps, .bool G.fused, .int .i64 y, .int .i64 G.torn]) :
    RfZ (w.setCell ⟨p, 16 + k, none⟩ v) p q G y := by
  refine ⟨by rw [he, h.er], by rw [hb, h.len], ?_, ?_⟩
  · have := h.own.set (16 + k) v
    unfold Fla.rcells at this ⊢
    rw [show 16 + k = (14 + k) + 1 + 1 from by omega, List.set_cons_succ, List.set_cons_succ, List.set_append_right _ _ (by simp [h.er])] at this
    simp only [List.length_map, h.er, show 14 + k - 14 = k from by omega, hG] at this
    rw [he, hw, show 16 + k = (14 + k) + 1 + 1 from by omega]
    exact this
  · obtain ⟨r, hr⟩ := h.bytes
    exact ⟨r, by rw [hb]; exact hr.setOther v h.ne.symm⟩
theorem setDown (h : RfZ w p q F z) (v : Bool) : RfZ (w.setCell ⟨p, 16, none⟩ (.bool v)) p q { F with down := v } z := h.setTail 0 _ _ _ rfl rfl rfl rfl
theorem setSteps (h : RfZ w p q F z) (v : Int) : RfZ (w.setCell ⟨p, 17, none⟩ (.int .i64 v)) p q { F with steps := v } z := h.setTail 1 _ _ _ rfl rfl rfl rfl
theorem setFused (h : RfZ w p q F z) (v : Bool) : RfZ (w.setCell ⟨p, 18, none⟩ (.bool v)) p q { F with fused := v } z := h.setTail 2 _ _ _ rfl rfl rfl rfl
theorem setLeft (h : RfZ w p q F z) (v y : Int) : RfZ (w.setCell ⟨p, 19, none⟩ (.int .i64 v)) p q { F with left := y } v := h.setTail 3 _ _ _ rfl rfl rfl rfl
theorem setTorn (h : RfZ w p q F z) (v : Int) : RfZ (w.setCell ⟨p, 20, none⟩ (.int .i64 v)) p q { F with torn := v } z := h.setTail 4 _ _ _ rfl rfl rfl rfl
theorem other (h : RfZ w p q F z) (y : Int) : RfZ w p q { F with left := y } z := ⟨h.er, h.len, h.own, h.bytes⟩
theorem setEr (h : RfZ w p q F z) {s : Nat} (hs : s < 14) (v : Int) : RfZ (w.setCell ⟨p, 2 + s, none⟩ (.int .i64 v)) p q { F with er := F.er.set s v } z := by
  refine ⟨by simp [h.er], h.len, ?_, ?_⟩
  · have := h.own.set (2 + s) (.int .i64 v)
    unfold Fla.rcells at this ⊢
    rw [show 2 + s = s + 1 + 1 from by omega, List.set_cons_succ, List.set_cons_succ, List.set_append_left _ _ (by simp [h.er]; omega)] at this
    rw [show 2 + s = s + 1 + 1 from by omega]
    simp only [List.map_set]
    exact this
  · obtain ⟨r, hr⟩ := h.bytes
    exact ⟨r, hr.setOther _ h.ne.symm⟩
theorem setByte (h : RfZ w p q F z) {i : Nat} (hi : i < 3584) (x : UInt8) : RfZ (w.setCell ⟨q, i, none⟩ (B8 x)) p q (F.setB i x) z := by
  refine ⟨h.er, by simp [Fla.setB, h.len], h.own.setOther _ h.ne, ?_⟩
  obtain ⟨r, hr⟩ := h.bytes
  refine ⟨r, ?_⟩
  have := hr.set i (B8 x)
  rw [List.set_append_left _ _ (by simp [h.len]; exact hi)] at this
  simpa [Fla.setB, List.map_set] using this
theorem rd (h : RfZ w p q F z) (o n : Nat) : Rd w (some ⟨q, o, none⟩) ((F.b.drop o).take n) := by
  obtain ⟨r, hr⟩ := h.bytes
  exact hr.rdSub o n

end RfZ

theorem RfAt.keeps {S : List Nat} {w w' : World} {p q : Nat} {F : Fla} (h : RfAt w p q F) (k : Keeps S w w') (hp : p ∉ S) (hq : q ∉ S) : RfAt w' p q F := by
  obtain ⟨z, hz, h⟩ := h
  exact ⟨z, hz, h.keeps k hp hq⟩
theorem RfAt.drewN {w : World} {p q : Nat} {F : Fla} (h : RfAt w p q F) (n : Nat) : RfAt (w.drewN n) p q F := by
  obtain ⟨z, hz, h⟩ := h
  exact ⟨z, hz, h.drewN n⟩

/-- A method of the reference's flash: the flash becomes G, all else stays. -/
def RPost (w : World) (p q : Nat) (G : Fla) (v : Value) (e : Ending) (w' : World) : Prop := e = .returned v ∧ RfAt w' p q G ∧ Keeps [p, q] w w'

end Go.Proofs.Ytghgmchgbhdldaa
