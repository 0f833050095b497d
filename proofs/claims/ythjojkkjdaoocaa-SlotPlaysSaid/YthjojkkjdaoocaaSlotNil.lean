/-
  SlotNil: package slot over a flash that there isn't; what is known of an image, as one contract for the code and the reference.
-/
import Derived.Test.YthjojkkjdaoocaaFlashNilW
import Derived.Test.YthjojkkjdaoocaaRefSl2
import Derived.Test.YthjojkkjdaoocaaLaw20
set_option linter.unusedVariables false
set_option linter.unusedSimpArgs false
namespace Go.Proofs.Ythjojkkjdaoocaa
open Go.RowKit
attribute [local go_sem ↓] Go.wp_at_zero Go.wp_at_succ

set_option maxRecDepth 100000 in
theorem slotread_nil {w : World} : Calls Try.prog 49 #[.pointer none, .int .i64 0, .int .i64 0] w fun e w' => e = .returned (.tuple #[.slice none 0 0, .int .i64 1]) ∧ w = w' := by
  have hf : Calls Try.prog 78 #[.int .i64 0] w fun e w' => e = .returned (.int .i64 2) ∧ w = w' := first_calls (w := w) 0 (by omega)
  have Hf := Lib.hid hf
  clear hf
  go_enter Try.func49, Try.ntmps49
  go_wp2_with fail
  refine Hf.out.mono ?_
  rintro e w1 ⟨rfl, rfl⟩
  go_wp2_with fail
  refine (read_nil 512 0).mono ?_
  rintro e w1 ⟨rfl, rfl⟩
  go_wp2_with fail
  go_ret2
  exact ⟨rfl, rfl⟩

set_option maxRecDepth 100000 in
theorem slotwrite_nil {w : World} (A : Option Addr) (n c : Nat) : Calls Try.prog 48 #[.pointer none, .int .i64 0, .slice A n c] w fun e w' => e = .returned (.int .i64 1) ∧ w = w' := by
  go_enter Try.func48, Try.ntmps48
  go_wp2_with fail
  go_ret
  exact ⟨rfl, rfl⟩

set_option maxRecDepth 100000 in
theorem slotright_nil {w : World} : Calls Try.prog 51 #[.pointer none, .int .i64 0, .agg #[.int .u32 0, .int .i64 0, .slice none 0 0]] w fun e w' => e = .returned (.bool false) ∧ Keeps [] w w' := by
  have hB := Blk.newA w 68 #[.int .u32 0, .int .i64 0, .slice none 0 0]
  have hK := (Keeps.refl [] w).alloc (.cells #[.int .u32 0, .int .i64 0, .slice none 0 0] 68)
  have c1 := hB.cell' (i := 1) rfl
  have HK := Lib.hid hK
  clear hB hK
  go_enter Try.func51, Try.ntmps51
  go_wp2_with fail
  go_ret
  exact ⟨rfl, HK.out⟩

/-- What is known of an image. -/
structure ImgIs where
  ver : Int
  len : Int
  hash : List UInt8
  ok : Bool

def imgIs (ver : Int) (l : List UInt8) : ImgIs := if mayB l then ⟨ver, l.length, sha l, true⟩ else ⟨0, 0, [], false⟩

theorem imgIs_len (ver : Int) (l : List UInt8) : (imgIs ver l).hash.length ≤ 32 := by
  unfold imgIs
  split
  · exact Nat.le_of_eq (sha_len l)
  · simp

def ImgPost (w : World) (R : ImgIs) (e : Ending) (w' : World) : Prop :=
  ∃ a n c, e = .returned (.tuple #[.agg #[.int .u32 R.ver, .int .i64 R.len, .slice a n c], .bool R.ok]) ∧ Rd w' a R.hash ∧ R.hash.length = n ∧ (a = none → R.hash = []) ∧ (∀ x, a = some x → R.hash ≠ [] → w.heap.size ≤ x.block) ∧ Keeps [] w w'

theorem imgPost_of {w : World} {ver : Int} {l : List UInt8} {e : Ending} {w' : World} (h : OfPost w ver l e w') : ImgPost w (imgIs ver l) e w' := by
  unfold OfPost at h
  unfold imgIs
  by_cases hm : mayB l = true
  · rw [if_pos hm] at h
    rw [if_pos hm]
    obtain ⟨v, rfl, hv, hk⟩ := h
    obtain ⟨a, c, rfl, _, _, hrd, hn, hb⟩ := hv.sl
    exact ⟨a, _, c, rfl, hrd, rfl, fun h => (hn h).1, fun x hx hne => (hb x hx hne).1, hk⟩
  · rw [if_neg hm] at h
    rw [if_neg hm]
    obtain ⟨rfl, hk⟩ := h
    exact ⟨none, 0, 0, rfl, Rd.nil _ _, rfl, fun _ => rfl, fun x hx => by simp at hx, hk⟩

theorem slotof_img {w : World} (ver : Int) (a : Option Addr) (c : Nat) (l : List UInt8) (hl : Rd w a l) (h0 : a = none → l = [] ∧ c = 0) :
    Calls Try.prog 50 #[.int .u32 ver, .slice a l.length c] w (ImgPost w (imgIs ver l)) := (slotof_calls ver a c l hl h0).mono fun _ _ h => imgPost_of h
theorem rslotof_img {w : World} (ver : Int) (a : Option Addr) (c : Nat) (l : List UInt8) (hl : Rd w a l) (h0 : a = none → l = [] ∧ c = 0) :
    Calls Try.prog 54 #[.int .u32 ver, .slice a l.length c] w (ImgPost w (imgIs ver l)) := (rslotof_calls ver a c l hl h0).mono fun _ _ h => imgPost_of h

end Go.Proofs.Ythjojkkjdaoocaa
