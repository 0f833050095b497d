/-
  FlashM: flash as numbers and lists: what each call of package flash computes. No program here.
-/
import Derived.Test.YtghgmchgbhdldaaBase
namespace Go.Proofs.Ytghgmchgbhdldaa
open Go.RowKit

/-- All bytes, erased. -/
def blankAll : List UInt8 := List.replicate 3584 255

theorem blankAll_len : blankAll.length = 3584 := List.length_replicate

/-- What a flash holds. -/
structure Fla where
  b : List UInt8
  er : List Int
  wear : Int
  down : Bool
  fused : Bool
  left : Int
  torn : Int
  steps : Int

namespace Fla

/-- Its struct's cells; q: the block of its bytes. -/
def cells (F : Fla) (q : Nat) : List Value :=
  .slice (some ⟨q, 0, none⟩) 3584 3584 :: (F.er.map (Value.int .i64) ++ [.int .i64 F.wear, .bool F.down, .bool F.fused, .int .i64 F.left, .int .i64 F.torn, .int .i64 F.steps])

def tornB (F : Fla) : UInt8 := UInt8.ofNat (F.torn % 256).toNat

/-- One step: is it done whole? -/
def step (F : Fla) : Fla :=
  let l := wrap64 (F.left - 1)
  { F with steps := wrap64 (F.steps + 1), left := l, down := F.down || (F.fused && decide (l < 0)) }

def setB (F : Fla) (i : Nat) (x : UInt8) : Fla := { F with b := F.b.set i x }

def at_ (F : Fla) (i : Nat) : UInt8 := F.b.getD i 0

/-- Why bytes cannot be reached. -/
def ready (F : Fla) (at_ n : Int) : Int := if F.down then 11 else if n < 0 ∨ n > 3584 ∨ at_ < 0 ∨ at_ > 3584 - n then 1 else 0

/-- Program, past the checks. -/
def prog (F : Fla) (at_ : Nat) : List UInt8 → Fla × Int
  | [] => (F, 0)
  | x :: xs =>
    if F.step.down then (F.step.setB at_ (F.at_ at_ &&& (x ||| F.tornB)), 11)
    else (F.step.setB at_ (F.at_ at_ &&& x)).prog (at_ + 1) xs

def program (F : Fla) (at_ : Int) (l : List UInt8) : Fla × Int :=
  if F.ready at_ l.length ≠ 0 then (F, F.ready at_ l.length) else F.prog at_.toNat l

def fill (F : Fla) (o n : Nat) : Fla := { F with b := F.b.take o ++ List.replicate n 255 ++ F.b.drop (o + n) }

def erase (F : Fla) (s : Int) : Fla × Int :=
  if F.down then (F, 11)
  else if s < 0 ∨ s ≥ 14 then (F, 1)
  else if F.er.getD s.toNat 0 ≥ F.wear then (F, 10)
  else
    let G : Fla := { F.step with er := F.er.set s.toNat (wrap64 (F.er.getD s.toNat 0 + 1)) }
    if F.step.down then (G.fill (s.toNat * 256) ((max 0 F.torn) % 257).toNat, 11) else (G.fill (s.toNat * 256) 256, 0)

def read (F : Fla) (at_ n : Int) : List UInt8 × Int :=
  if F.ready at_ n ≠ 0 then ([], F.ready at_ n) else ((F.b.drop at_.toNat).take n.toNat, 0)

def blank (F : Fla) (at_ n : Int) : Bool := (F.read at_ n).2 == 0 && (F.read at_ n).1.all (· == 255)

def erases (F : Fla) (s : Int) : Int := if s < 0 ∨ s ≥ 14 then 0 else F.er.getD s.toNat 0

def fuse (F : Fla) (n torn : Int) : Fla := { F with fused := decide (0 ≤ n), left := n, torn := torn }
def cut (F : Fla) : Fla := { F with down := true }
def start (F : Fla) : Fla := { F with down := false, fused := F.fused && decide (0 ≤ F.left) }
def new (wear : Int) : Fla := { b := blankAll, er := List.replicate 14 0, wear := max 1 (min wear 10000), down := false, fused := false, left := 0, torn := 0, steps := 0 }

end Fla

/-- A flash in memory: its struct in block p, its bytes in block q. -/
structure FlaAt (w : World) (p q : Nat) (F : Fla) : Prop where
  er : F.er.length = 14
  len : F.b.length = 3584
  own : Blk w p 97 (F.cells q)
  bytes : ∃ r, Blk w q 5 (F.b.map B8 ++ r)

namespace FlaAt
variable {w : World} {p q : Nat} {F : Fla}

theorem len14 {l : List Int} (h : l.length = 14) : ∃ a0 a1 a2 a3 a4 a5 a6 a7 a8 a9 a10 a11 a12 a13, l = [a0, a1, a2, a3, a4, a5, a6, a7, a8, a9, a10, a11, a12, a13] := by
  match l, h with
  | [a0, a1, a2, a3, a4, a5, a6, a7, a8, a9, a10, a11, a12, a13], _ => exact ⟨a0, a1, a2, a3, a4, a5, a6, a7, a8, a9, a10, a11, a12, a13, rfl⟩

theorem cell (h : FlaAt w p q F) {i : Nat} {v : Value} (hv : (F.cells q)[i]? = some v) : w.cell? ⟨p, i, none⟩ = some v := h.own.cell' hv
theorem frz (h : FlaAt w p q F) (i : Nat) : w.frozen? ⟨p, i, none⟩ = false := h.own.frozen i
theorem frzq (h : FlaAt w p q F) (i : Nat) : w.frozen? ⟨q, i, none⟩ = false := by obtain ⟨r, hr⟩ := h.bytes; exact hr.frozen i
theorem c0 (h : FlaAt w p q F) : w.cell? ⟨p, 0, none⟩ = some (.slice (some ⟨q, 0, none⟩) 3584 3584) := h.cell rfl
theorem tailC (h : FlaAt w p q F) (k : Nat) (v : Value) (hv : [.int .i64 F.wear, .bool F.down, .bool F.fused, .int .i64 F.left, .int .i64 F.torn, .int .i64 F.steps][k]? = some v) : w.cell? ⟨p, 15 + k, none⟩ = some v := by
  refine h.cell ?_
  unfold Fla.cells
  rw [show 15 + k = (14 + k) + 1 from by omega, List.getElem?_cons_succ, List.getElem?_append_right (by simp [h.er])]
  simp only [List.length_map, h.er]
  rw [show 14 + k - 14 = k from by omega]
  exact hv
theorem wear (h : FlaAt w p q F) : w.cell? ⟨p, 15, none⟩ = some (.int .i64 F.wear) := h.tailC 0 _ rfl
theorem down (h : FlaAt w p q F) : w.cell? ⟨p, 16, none⟩ = some (.bool F.down) := h.tailC 1 _ rfl
theorem fused (h : FlaAt w p q F) : w.cell? ⟨p, 17, none⟩ = some (.bool F.fused) := h.tailC 2 _ rfl
theorem left (h : FlaAt w p q F) : w.cell? ⟨p, 18, none⟩ = some (.int .i64 F.left) := h.tailC 3 _ rfl
theorem torn (h : FlaAt w p q F) : w.cell? ⟨p, 19, none⟩ = some (.int .i64 F.torn) := h.tailC 4 _ rfl
theorem steps (h : FlaAt w p q F) : w.cell? ⟨p, 20, none⟩ = some (.int .i64 F.steps) := h.tailC 5 _ rfl
theorem erC (h : FlaAt w p q F) {s : Nat} (hs : s < 14) : w.cell? ⟨p, 1 + s, none⟩ = some (.int .i64 (F.er.getD s 0)) := by
  refine h.cell ?_
  unfold Fla.cells
  rw [show 1 + s = s + 1 from by omega, List.getElem?_cons_succ, List.getElem?_append_left (by simp [h.er]; omega)]
  simp [List.getD, h.er, hs]
theorem byte (h : FlaAt w p q F) {i : Nat} (hi : i < 3584) : w.cell? ⟨q, i, none⟩ = some (B8 (F.at_ i)) := by
  obtain ⟨r, hr⟩ := h.bytes
  refine hr.cell' ?_
  rw [List.getElem?_append_left (by simp [h.len]; exact hi)]
  simp [Fla.at_, List.getD, h.len, hi]
theorem ne (h : FlaAt w p q F) : p ≠ q := by obtain ⟨r, hr⟩ := h.bytes; exact h.own.ne hr (by decide)
theorem ltp (h : FlaAt w p q F) : p < w.heap.size := h.own.lt
theorem ltq (h : FlaAt w p q F) : q < w.heap.size := by obtain ⟨r, hr⟩ := h.bytes; exact hr.lt

theorem keeps {S : List Nat} {w' : World} (h : FlaAt w p q F) (k : Keeps S w w') (hp : p ∉ S) (hq : q ∉ S) : FlaAt w' p q F :=
  ⟨h.er, h.len, h.own.keeps k hp, by obtain ⟨r, hr⟩ := h.bytes; exact ⟨r, hr.keeps k hq⟩⟩
theorem drew (h : FlaAt w p q F) : FlaAt w.drew p q F := ⟨h.er, h.len, h.own.drew, h.bytes⟩

theorem alloc (h : FlaAt w p q F) (o : Obj) : FlaAt (w.alloc o) p q F := h.keeps ((Keeps.refl [] w).alloc o) (by simp) (by simp)

theorem drewN (h : FlaAt w p q F) (n : Nat) : FlaAt (w.drewN n) p q F := ⟨h.er, h.len, h.own.drewN n, h.bytes⟩

theorem setTail (h : FlaAt w p q F) (k : Nat) (v : Value) (G : Fla) (hb : G.b = F.b) (he : G.er = F.er)
    (hG : [.int .i64 F.wear, .bool F.down, .bool F.fused, .int .i64 F.left, .int .i64 F.torn, .int .i64 F.steps].set k v = [.int .i64 G.wear, .bool G.down, .bool G.fused, .int .i64 G.left, .int .i64 G.torn, .int .i64 G.steps]) :
    FlaAt (w.setCell ⟨p, 15 + k, none⟩ v) p q G := by
  refine ⟨by rw [he, h.er], by rw [hb, h.len], ?_, ?_⟩
  · have := h.own.set (15 + k) v
    unfold Fla.cells at this ⊢
    rw [show 15 + k = (14 + k) + 1 from by omega, List.set_cons_succ, List.set_append_right _ _ (by simp [h.er])] at this
    simp only [List.length_map, h.er, show 14 + k - 14 = k from by omega, hG] at this
    rw [he, show 15 + k = (14 + k) + 1 from by omega]
    exact this
  · obtain ⟨r, hr⟩ := h.bytes
    exact ⟨r, by rw [hb]; exact hr.setOther v h.ne.symm⟩
theorem setDown (h : FlaAt w p q F) (v : Bool) : FlaAt (w.setCell ⟨p, 16, none⟩ (.bool v)) p q { F with down := v } := h.setTail 1 _ _ rfl rfl rfl
theorem setFused (h : FlaAt w p q F) (v : Bool) : FlaAt (w.setCell ⟨p, 17, none⟩ (.bool v)) p q { F with fused := v } := h.setTail 2 _ _ rfl rfl rfl
theorem setLeft (h : FlaAt w p q F) (v : Int) : FlaAt (w.setCell ⟨p, 18, none⟩ (.int .i64 v)) p q { F with left := v } := h.setTail 3 _ _ rfl rfl rfl
theorem setTorn (h : FlaAt w p q F) (v : Int) : FlaAt (w.setCell ⟨p, 19, none⟩ (.int .i64 v)) p q { F with torn := v } := h.setTail 4 _ _ rfl rfl rfl
theorem setSteps (h : FlaAt w p q F) (v : Int) : FlaAt (w.setCell ⟨p, 20, none⟩ (.int .i64 v)) p q { F with steps := v } := h.setTail 5 _ _ rfl rfl rfl
theorem setEr (h : FlaAt w p q F) {s : Nat} (hs : s < 14) (v : Int) : FlaAt (w.setCell ⟨p, 1 + s, none⟩ (.int .i64 v)) p q { F with er := F.er.set s v } := by
  refine ⟨by simp [h.er], h.len, ?_, ?_⟩
  · have := h.own.set (1 + s) (.int .i64 v)
    unfold Fla.cells at this ⊢
    rw [show 1 + s = s + 1 from by omega, List.set_cons_succ, List.set_append_left _ _ (by simp [h.er]; omega)] at this
    rw [show 1 + s = s + 1 from by omega]
    simp only [List.map_set]
    exact this
  · obtain ⟨r, hr⟩ := h.bytes
    exact ⟨r, hr.setOther _ h.ne.symm⟩
theorem setByte (h : FlaAt w p q F) {i : Nat} (hi : i < 3584) (x : UInt8) : FlaAt (w.setCell ⟨q, i, none⟩ (B8 x)) p q (F.setB i x) := by
  refine ⟨h.er, by simp [Fla.setB, h.len], h.own.setOther _ h.ne, ?_⟩
  obtain ⟨r, hr⟩ := h.bytes
  refine ⟨r, ?_⟩
  have := hr.set i (B8 x)
  rw [List.set_append_left _ _ (by simp [h.len]; exact hi)] at this
  simpa [Fla.setB, List.map_set] using this

end FlaAt

end Go.Proofs.Ytghgmchgbhdldaa
