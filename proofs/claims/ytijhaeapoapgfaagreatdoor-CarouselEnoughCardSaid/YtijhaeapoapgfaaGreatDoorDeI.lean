/-
  DeI: a head, a decoder, and a matrix of rows alone, side by side; numbers of symbols appended.
-/
import Derived.Test.YtijhaeapoapgfaaGreatDoorGrDt
import Derived.Test.YtijhaeapoapgfaaGreatDoorGrRow
set_option linter.unusedVariables false
set_option linter.unusedSimpArgs false
namespace Go.Proofs.YtijhaeapoapgfaaGreatDoor
open Go.RowKit

structure Quad (w0 w3 w : World) (X : List Nat) (ph pd pm : Nat) (s : UInt32) (nK P z : Nat) (img : List UInt8) (M N : Mtx) (tk : Nat) (Q : Nat → Prop) (Fl Fm : List Nat) : Prop where
  d : Duo w0 w ph pd s nK P z img M tk Q Fl
  m : MxF w pm (nK + P) 1 N Fm
  e : Ech (nK + P) 1 N
  fm : ∀ x ∈ Fm, w0.heap.size ≤ x ∧ ¬ Q x ∧ x ∉ Fl
  x : Keeps X w3 w
  xl : ∀ y ∈ Fl, y ∈ X ∨ w3.heap.size ≤ y
  xm : ∀ y ∈ Fm, y ∈ X ∨ w3.heap.size ≤ y
  xh : ph ∈ X ∨ w3.heap.size ≤ ph

theorem MxF.lt {w : World} {pm n z : Nat} {M : Mtx} {Fl : List Nat} (h : MxF w pm n z M Fl) : ∀ x ∈ Fl, x < w.heap.size := by obtain ⟨_, _, _, _, _, _, h4⟩ := h; exact h4
theorem Quad.keepsNil {w0 w3 w w' : World} {X : List Nat} {ph pd pm : Nat} {s : UInt32} {nK P z : Nat} {img : List UInt8} {M N : Mtx} {tk : Nat} {Q : Nat → Prop} {Fl Fm : List Nat} (h : Quad w0 w3 w X ph pd pm s nK P z img M N tk Q Fl Fm) (k : Keeps [] w w') : Quad w0 w3 w' X ph pd pm s nK P z img M N tk Q Fl Fm :=
  ⟨h.d.keepsNil k, h.m.keepsNil k, h.e, h.fm, h.x.trans' k (fun _ h => .inl h) (by simp), h.xl, h.xm, h.xh⟩

def QuadAdd (w0 w3 w : World) (X : List Nat) (ph pd pm : Nat) (s : UInt32) (nK P z : Nat) (img : List UInt8) (M N : Mtx) (tk : Nat) (Q : Nat → Prop) (Fl Fm : List Nat) (q : Rw) (e : Ending) (w' : World) : Prop :=
  ∃ Fm', e = .returned (.bool (decide ((red N q).x ≠ 0))) ∧ Quad w0 w3 w' X ph pd pm s nK P z img M (mAdd (nK + P) N q) tk Q Fl Fm' ∧ (∀ x ∈ Fm', x ∈ Fm ∨ w.heap.size ≤ x) ∧ Keeps Fm w w'
theorem Quad.add_calls {w0 w3 w : World} {X : List Nat} {ph pd pm : Nat} {s : UInt32} {nK P z : Nat} {img : List UInt8} {M N : Mtx} {tk : Nat} {Q : Nat → Prop} {Fl Fm : List Nat} (h : Quad w0 w3 w X ph pd pm s nK P z img M N tk Q Fl Fm) {pv gv x cv : Nat} {tv : List Value} (hv : VcAt w pv gv (nK + P) x cv tv) {a : Option Addr} {c : Nat} (hl : Rd w a [0])
    (hs : rank M = nK + P → (red N ⟨x, [0]⟩).x = 0) :
    Calls Tryz.prog 83 #[P0 pm, P0 pv, .slice a 1 c] w (QuadAdd w0 w3 w X ph pd pm s nK P z img M N tk Q Fl Fm ⟨x, [0]⟩) := by
  refine (madd_calls h.m h.e h.d.tzw hv hl rfl).mono ?_
  intro e w' hp
  obtain ⟨Fm', rfl, hm, hf, k, k0⟩ := hp.any h.m
  have hql : ∀ y, Q y → y < w.heap.size := fun y hy => (h.d.q y hy).2
  have hdl := h.d.d.lt
  refine ⟨Fm', rfl, ⟨h.d.keeps k (fun y hy => h.fm y hy) (fun hf => k0 (hs hf)), hm, mAdd_ech h.e hv.lt rfl, fun y hy => ?_, h.x.trans' k (fun _ h => .inl h) (fun y hy => h.xm y hy), h.xl, fun y hy => ?_, h.xh⟩, hf, k⟩
  · rcases hf y hy with h1 | h1
    · exact h.fm y h1
    · exact ⟨Nat.le_trans h.d.k.size h1, fun hq => by have := hql y hq; omega, fun hl => by have := hdl y hl; omega⟩
  · rcases hf y hy with h1 | h1
    · exact h.xm y h1
    · exact .inr (Nat.le_trans h.x.size h1)

def QuadSym (w0 w3 : World) (X : List Nat) (ph pd pm : Nat) (s : UInt32) (nK P z : Nat) (img : List UInt8) (M N : Mtx) (tk : Nat) (Fl Fm : List Nat) (id : UInt32) (e : Ending) (w' : World) : Prop :=
  ∃ g Q', e = .returned (.slice (some ⟨g, 0, none⟩) z z) ∧ Rd w' (some ⟨g, 0, none⟩) (symb s nK P z img id) ∧ Quad w0 w3 w' X ph pd pm s nK P z img M N tk Q' Fl Fm
theorem Quad.sym_calls {w0 w3 w : World} {X : List Nat} {ph pd pm : Nat} {s : UInt32} {nK P z : Nat} {img : List UInt8} {M N : Mtx} {tk : Nat} {Q : Nat → Prop} {Fl Fm : List Nat} (h : Quad w0 w3 w X ph pd pm s nK P z img M N tk Q Fl Fm) (id : UInt32) :
    Calls Tryz.prog 34 #[P0 ph, B32 id] w (QuadSym w0 w3 X ph pd pm s nK P z img M N tk Fl Fm id) := by
  refine (h.d.sym_calls id).mono ?_
  rintro e w' ⟨g, Q', rfl, hr, _, _, hd, hq, k⟩
  have hml := h.m.lt
  refine ⟨g, Q', rfl, hr, ⟨hd, h.m.keeps k (fun x hx hm => ?_), h.e, fun y hy => ⟨(h.fm y hy).1, fun hq' => ?_, (h.fm y hy).2.2⟩, h.x.trans' k (fun _ h => .inl h) (fun y hy => ?_), h.xl, h.xm, h.xh⟩⟩
  · simp only [List.mem_singleton] at hx; subst hx
    exact (h.fm _ hm).2.1 h.d.h.q
  · rcases hq y hq' with h1 | h1
    · exact (h.fm y hy).2.1 h1
    · have := hml y hy; omega
  · simp only [List.mem_singleton] at hy; subst hy
    exact h.xh

def QuadTake (w0 w3 : World) (X : List Nat) (ph pd pm : Nat) (s : UInt32) (nK P z : Nat) (img : List UInt8) (M N : Mtx) (Q : Nat → Prop) (Fm : List Nat) (id : UInt32) (e : Ending) (w' : World) : Prop :=
  ∃ tk' Fl', e = .returned (.bool (decide ((red M (symR s nK P z img id)).x ≠ 0))) ∧ Quad w0 w3 w' X ph pd pm s nK P z img (mAdd (nK + P) M (symR s nK P z img id)) N tk' Q Fl' Fm
theorem Quad.take_calls {w0 w3 w : World} {X : List Nat} {ph pd pm : Nat} {s : UInt32} {nK P z : Nat} {img : List UInt8} {M N : Mtx} {tk : Nat} {Q : Nat → Prop} {Fl Fm : List Nat} (h : Quad w0 w3 w X ph pd pm s nK P z img M N tk Q Fl Fm) (id : UInt32) {a : Option Addr} {c : Nat} (hl : Rd w a (symb s nK P z img id)) :
    Calls Tryz.prog 40 #[P0 pd, B32 id, .slice a z c] w (QuadTake w0 w3 X ph pd pm s nK P z img M N Q Fm id) := by
  refine (h.d.take_calls id hl).mono ?_
  rintro e w' ⟨tk', Fl', rfl, hd, hf, k, _⟩
  have hml := h.m.lt
  refine ⟨tk', Fl', rfl, ⟨hd, h.m.keeps k (fun x hx hm => (h.fm x hm).2.2 hx), h.e, fun y hy => ⟨(h.fm y hy).1, (h.fm y hy).2.1, fun hl => ?_⟩, h.x.trans' k (fun _ h => .inl h) (fun y hy => h.xl y hy), fun y hy => ?_, h.xm, h.xh⟩⟩
  · rcases hf y hl with h1 | h1
    · exact (h.fm y hy).2.2 h1
    · have := hml y hy; omega
  · rcases hf y hy with h1 | h1
    · exact h.xl y h1
    · exact .inr (Nat.le_trans h.x.size h1)

def QuadImg (w0 w3 w : World) (X : List Nat) (ph pd pm : Nat) (s : UInt32) (nK P z : Nat) (img : List UInt8) (M N : Mtx) (tk : Nat) (Q : Nat → Prop) (Fl Fm : List Nat) (e : Ending) (w' : World) : Prop :=
  ∃ v, e = .returned (.tuple #[v, .bool true]) ∧ Own w' w.heap.size v img ∧ Quad w0 w3 w' X ph pd pm s nK P z img M N tk Q Fl Fm
theorem Quad.image_calls {w0 w3 w : World} {X : List Nat} {ph pd pm : Nat} {s : UInt32} {nK P z : Nat} {img : List UInt8} {M N : Mtx} {tk : Nat} {Q : Nat → Prop} {Fl Fm : List Nat} (h : Quad w0 w3 w X ph pd pm s nK P z img M N tk Q Fl Fm) (hf : rank M = nK + P) (h1 : 1 ≤ img.length) (h2 : img.length ≤ 512) :
    Calls Tryz.prog 63 #[P0 pd, .int .i64 img.length] w (QuadImg w0 w3 w X ph pd pm s nK P z img M N tk Q Fl Fm) := by
  have hJ := h.d.sd.image h.d.h.fits hf
  have hI := dimage_calls h.d.d h.d.h.fits.pm hf img.length h1 h2 h.d.h.fits.c (h.d.sd.dats16 h.d.h.fits hf) (by rw [hJ])
  rw [hJ] at hI
  refine hI.mono ?_
  rintro e w' ⟨v, rfl, hO, hD, k⟩
  have hp := h.d.d.blk.1
  have hpd : ∀ y ∈ [pd], y = pd := fun y hy => by simpa using hy
  refine ⟨v, rfl, hO, ⟨⟨h.d.k.trans' k (fun _ h => .inl h) (fun y hy => by rw [hpd y hy]; exact .inr (h.d.f pd hp).1), h.d.h.keeps k (fun y hy => by rw [hpd y hy]; exact (h.d.f pd hp).2), hD, fun y hy => ⟨(h.d.q y hy).1, Nat.lt_of_lt_of_le (h.d.q y hy).2 k.size⟩, h.d.f, h.d.sd, h.d.t, h.d.tz⟩, h.m.keeps k (fun y hy hm => ?_), h.e, h.fm, h.x.trans' k (fun _ h => .inl h) (fun y hy => by rw [hpd y hy]; exact h.xl pd hp), h.xl, h.xm, h.xh⟩⟩
  rw [hpd y hy] at hm
  exact (h.fm pd hm).2.2 hp

/-- All that has been made lies behind a world, or among some blocks. -/
theorem Quad.rebase {w0 w : World} {ph pd pm : Nat} {s : UInt32} {nK P z : Nat} {img : List UInt8} {M N : Mtx} {tk : Nat} {Q : Nat → Prop} {Fl Fm : List Nat} (h : Quad w0 w0 w [] ph pd pm s nK P z img M N tk Q Fl Fm) (w3 : World) (k : Keeps [] w w3) : Quad w0 w3 w3 (ph :: (Fl ++ Fm)) ph pd pm s nK P z img M N tk Q Fl Fm := by
  have h3 := h.keepsNil k
  exact ⟨h3.d, h3.m, h3.e, h3.fm, Keeps.refl _ _, fun y hy => .inl (by simp [hy]), fun y hy => .inl (by simp [hy]), .inl (by simp)⟩
theorem Quad.start {w0 w1 w2 : World} {ph pd pm : Nat} {s : UInt32} {nK P z : Nat} {img : List UInt8} {M : Mtx} {tk : Nat} {Q : Nat → Prop} {Fl Fm : List Nat} (h : Duo w0 w1 ph pd s nK P z img M tk Q Fl) (hm : MxF w2 pm (nK + P) 1 (mnew (nK + P)) Fm) (hf : ∀ x ∈ Fm, w1.heap.size ≤ x) (k : Keeps [] w1 w2) : Quad w0 w0 w2 [] ph pd pm s nK P z img M (mnew (nK + P)) tk Q Fl Fm := by
  have s0 := h.k.size
  have hdl := h.d.lt
  refine ⟨h.keepsNil k, hm, mnew_ech _ _, fun y hy => ?_, h.k.trans k, fun y hy => .inr (h.f y hy).1, fun y hy => .inr (by have := hf y hy; omega), .inr (h.q ph h.h.q).1⟩
  have h1 := hf y hy
  exact ⟨by omega, fun hq => by have := (h.q y hq).2; omega, fun hl => by have := hdl y hl; omega⟩

/-- Rows alone, one behind another. -/
def nears (s : UInt32) (nK P : Nat) (N : Mtx) (l : List UInt32) : Mtx := l.foldl (fun N id => mAdd (nK + P) N ⟨rowN s nK P id, [0]⟩) N
theorem nears_snoc (s : UInt32) (nK P : Nat) (N : Mtx) (l : List UInt32) (id : UInt32) : nears s nK P N (l ++ [id]) = mAdd (nK + P) (nears s nK P N l) ⟨rowN s nK P id, [0]⟩ := by unfold nears; rw [List.foldl_append]; rfl
theorem nears_same {s : UInt32} {nK P z : Nat} {img : List UInt8} (hF : Fits nK P z img) : ∀ (l : List UInt32) {M N : Mtx}, Sd s nK P z img M → Ech (nK + P) 1 N → Same M N → Same (hears s nK P z img M l) (nears s nK P N l)
  | [], _, _, _, _, h => h
  | id :: l, M, N, hM, hN, h => nears_same hF l (hM.hear hF id) (mAdd_ech hN (rowN_lt s nK P id) rfl) (h.mAdd hM.e hN rfl (symR_lt s nK P z img id) (hF.sym_len s id) rfl)

/-- append(v, numbers..), v the call's own. -/
theorem append_runIds {w : World} {B : Nat} {v : Value} {l : List Nat} (h : OwnW w B v l) (a : Option Addr) (c : Nat) (m : List UInt32) (hm : IdsAt w a m) (h0 : a = none → m = [] ∧ c = 0) (hlen : l.length + m.length ≤ 1000000) (hB : B ≤ w.heap.size) (t : TypeId) :
    ∃ v' w', (Builtin.append_ #[23, 23] t #[v, .slice a m.length c]).run Tryz.prog w = .ok v' w' ∧ OwnW w' B v' (l ++ m.map UInt32.toNat) ∧ w.grownBy w' v.ownBlock ∧ (∀ x, v'.ownBlock = some x → v.ownBlock = some x ∨ w.heap.size ≤ x) := by
  obtain ⟨i0, hi, hz0, hz1, hz2⟩ := info_parts Tryz.info_uint32
  cases a with
  | none =>
    obtain ⟨rfl, rfl⟩ := h0 rfl
    have hr := run_append_owned_none (P := Tryz.prog) (w := w) B 23 t 30 i0 1 Tryz.underlying23 hi v l.length (l.map V32) h
    exact ⟨v, w, hr, by simpa using h, ⟨rfl, rfl, rfl, Nat.le_refl _, fun _ _ _ => rfl⟩, fun x hx => .inl hx⟩
  | some x =>
    obtain ⟨v', w', hr, h2, h3, h4, h5⟩ := run_append_own_at (P := Tryz.prog) w B 23 t 30 i0 (.int .u32 0) 1 4 Tryz.underlying23 hi hz0 hz1 hz2 rfl (by decide) v l.length (l.map V32) h x m.length c ((m.map UInt32.toNat).map V32)
      (by simp) (fun j u hu => by
        rw [List.map_map, List.getElem?_map] at hu
        obtain ⟨y, hy, rfl⟩ := Option.map_eq_some_iff.1 hu
        obtain ⟨b, o, e, hc⟩ := hm j y hy
        obtain rfl := Option.some.inj e
        rw [Addr.add_lit]
        exact hc) (by
        intro u hu
        rw [List.map_map] at hu
        obtain ⟨y, _, rfl⟩ := List.mem_map.1 hu
        rfl) (by unfold maxLen; omega) (by omega) hB
    refine ⟨v', w', hr, ?_, h3, fun y hy => ?_⟩
    · unfold OwnW
      rw [List.length_append, List.map_append, List.length_map]
      exact h2
    · rcases h5 with h5 | h5
      · exact .inl (h5 ▸ hy)
      · rw [h5] at hy; simp at hy; exact .inr (by omega)
theorem wpList_append_ids {w : World} {ops : Array Oper} {rest : List Oper} {o : Oper} {act : Act} {Q : Exit → Act → World → Prop} (hgd : o.guard = none) (s x : Operand)
    (ho : o.op = .call { callee := .builtin .append, args := #[s, x], argTypes := #[23, 23] })
    {B : Nat} {v : Value} {l : List Nat} (h : OwnW w B v l) (hs : act.eval s = v) (a : Option Addr) (c : Nat) (m : List UInt32) (hx : act.eval x = .slice a m.length c) (hm : IdsAt w a m) (h0 : a = none → m = [] ∧ c = 0)
    (hlen : l.length + m.length ≤ 1000000) (hB : B ≤ w.heap.size)
    (hK : ∀ v' w', OwnW w' B v' (l ++ m.map UInt32.toNat) → w.grownBy w' v.ownBlock → (∀ x, v'.ownBlock = some x → v.ownBlock = some x ∨ w.heap.size ≤ x) → wpList Tryz.prog ops Q rest (act.put o.dst v') w') : wpList Tryz.prog ops Q (o :: rest) act w := by
  refine wpList_plain hgd fun K hK' => ?_
  obtain ⟨v', w', hrun, h1, h2, h3⟩ := append_runIds h a c m hm h0 hlen hB o.type
  unfold Oper.wp
  simp [execOp, ho, resolve, invoke, builtin, hs, hx, hrun, Result.andThen]
  exact hK' _ _ (hK v' w' h1 h2 h3)
theorem OwnW.lit0 (w : World) : OwnW (w.alloc (.cells #[] 30)) w.heap.size (.slice (some ⟨w.heap.size, 0, none⟩) 0 0) [] := by
  have hg : (w.alloc (.cells #[] 30)).heap[w.heap.size]? = some (.cells #[] 30 (0, 0)) := by
    show (w.heap.push _)[w.heap.size]? = _
    simp
  exact ⟨by simp, .inr ⟨w.heap.size, 0, #[], rfl, Nat.le_refl _, hg, Nat.le_refl _, by unfold maxLen; omega, by simp, by simp⟩⟩
theorem IdsAt.keepsNil {w w' : World} {a : Option Addr} {l : List UInt32} (h : IdsAt w a l) (k : Keeps [] w w') : IdsAt w' a l := fun i x hx => by
  obtain ⟨b, o, e, hc⟩ := h i x hx
  exact ⟨b, o, e, k.cell0 hc⟩

/-- The first K, the last one first. -/
def restU (nK k : Nat) : List UInt32 := (List.range k).map fun i => UInt32.ofNat (nK - 1 - i)
theorem restU_succ (nK k : Nat) : restU nK (k + 1) = restU nK k ++ [UInt32.ofNat (nK - 1 - k)] := by simp [restU, List.range_succ]
theorem restU_len (nK k : Nat) : (restU nK k).length = k := by simp [restU]
theorem restU_all {nK : Nat} (h : nK ≤ 64) (i : Nat) (hi : i < nK) : ∃ id ∈ restU nK nK, id.toNat = i :=
  ⟨UInt32.ofNat i, List.mem_map.2 ⟨nK - 1 - i, List.mem_range.2 (by omega), by rw [show nK - 1 - (nK - 1 - i) = i from by omega]⟩, u32_small (by omega)⟩

end Go.Proofs.YtijhaeapoapgfaaGreatDoor
