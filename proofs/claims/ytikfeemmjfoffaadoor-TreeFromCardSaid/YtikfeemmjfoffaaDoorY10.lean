/- Trees of formulas: what lies in memory while the tree is filled. -/
import Derived.Test.YtikfeemmjfoffaaDoorY8
import Derived.Test.YtikfeemmjfoffaaDoorY9
import Derived.Test.YtikfeemmjfoffaaDoorLib8
set_option linter.unusedVariables false
set_option linter.unusedSimpArgs false
namespace Go.Proofs.YtikfeemmjfoffaaDoor
open Go.RowKit

/-- All but the blocks l and t is as it was. -/
structure KQ (l t : Nat) (w w' : World) : Prop where
  os : w'.os = w.os
  tape : w'.tape = w.tape
  output : w'.output = w.output
  size : w.heap.size ≤ w'.heap.size
  block : ∀ k, k < w.heap.size → k ≠ l → k ≠ t → w'.heap[k]? = w.heap[k]?
theorem kq_of {l t : Nat} {w w' : World} (k : Kept w w') : KQ l t w w' := ⟨k.os, k.tape, k.output, k.size, fun i hi _ _ => k.block i hi⟩
theorem kq_trans {l t : Nat} {a b c : World} (h : KQ l t a b) (k : KQ l t b c) : KQ l t a c :=
  ⟨k.os.trans h.os, k.tape.trans h.tape, k.output.trans h.output, Nat.le_trans h.size k.size, fun i hi h1 h2 => (k.block i (Nat.lt_of_lt_of_le hi h.size) h1 h2).trans (h.block i hi h1 h2)⟩
theorem kq_l {l t : Nat} {w w' : World} (h : KQ l t w w') (j : Nat) (v : Value) : KQ l t w (w'.setCell ⟨l, j, none⟩ v) :=
  ⟨h.os, h.tape, h.output, by simpa using h.size, fun i hi h1 h2 => (Below.heap_setCell w' ⟨l, j, none⟩ v i h1).trans (h.block i hi h1 h2)⟩
theorem kq_t {l t : Nat} {w w' : World} (h : KQ l t w w') (j : Nat) (v : Value) : KQ l t w (w'.setCell ⟨t, j, none⟩ v) :=
  ⟨h.os, h.tape, h.output, by simpa using h.size, fun i hi h1 h2 => (Below.heap_setCell w' ⟨t, j, none⟩ v i h2).trans (h.block i hi h1 h2)⟩
theorem kept_kq {l t : Nat} {w0 w w' : World} (h : Kept w0 w) (k : KQ l t w w') (hl : w0.heap.size ≤ l) (ht : w0.heap.size ≤ t) : Kept w0 w' :=
  ⟨k.os.trans h.os, k.tape.trans h.tape, k.output.trans h.output, Nat.le_trans h.size k.size, fun i hi => (k.block i (Nat.lt_of_lt_of_le hi h.size) (by omega) (by omega)).trans (h.block i hi)⟩
theorem Own.kq {l t : Nat} {w w' : World} {g : Nat} {e : TypeId} {cs : List Value} (h : Own w g e cs) (k : KQ l t w w') (h1 : g ≠ l) (h2 : g ≠ t) : Own w' g e cs := h.of_block (k.block g h.lt h1 h2)

/-- Where things lie. -/
structure Pl where
  t : Nat
  l : Nat
  T : Nat
  p : Nat
  x : Nat
  base : Nat
  h : Int
  X : Option Addr
  xs : List Bool
  cx : Nat
def rowV (b : Nat) : Value := .slice (some ⟨b, 0, none⟩) 4 4
def Pl.fn (q : Pl) : Value := .func (.func 44) #[] #[.pointer (some ⟨q.t, 0, none⟩), .pointer (some ⟨q.x, 0, none⟩), .pointer (some ⟨q.p, 0, none⟩)]
/-- The tree while it is filled. -/
structure PS (q : Pl) (s : LT) (w : World) : Prop where
  t : Own w q.t 25 [.int .i64 q.h, .int .i64 1, .slice (some ⟨q.l, 0, none⟩) s.1.length s.1.length, .slice (some ⟨q.T, 0, none⟩) s.2.length s.2.length]
  l : Own w q.l 3 (ints s.1)
  T : ∃ bs : List Nat, bs.length = s.2.length ∧ Own w q.T 22 (bs.map rowV) ∧ ∀ i, i < s.2.length → q.base ≤ bs.getD i 0 ∧ (s.2.getD i []).length = 4 ∧ Own w (bs.getD i 0) 3 (ints (s.2.getD i []))
  p : Own w q.p 75 [q.fn]
  x : Own w q.x 49 [.slice q.X q.xs.length q.cx]
  lb : q.l < q.base
theorem own_ne {w : World} {g g' : Nat} {e e' : TypeId} {cs cs' : List Value} (h : Own w g e cs) (h' : Own w g' e' cs') (ne : e ≠ e') : g ≠ g' := by rintro rfl; exact ne (h.type h')
theorem PS.kept {q : Pl} {s : LT} {w w' : World} (h : PS q s w) (k : Kept w w') : PS q s w' := by
  obtain ⟨bs, b1, b2, b3⟩ := h.T
  exact ⟨h.t.kept k, h.l.kept k, ⟨bs, b1, b2.kept k, fun i hi => ⟨(b3 i hi).1, (b3 i hi).2.1, (b3 i hi).2.2.kept k⟩⟩, h.p.kept k, h.x.kept k, h.lb⟩
theorem PS.leaf {q : Pl} {s : LT} {w : World} (h : PS q s w) (j : Nat) : PS q (s.1.set j 1, s.2) (w.setCell ⟨q.l, j, none⟩ (.int .i64 1)) := by
  obtain ⟨bs, b1, b2, b3⟩ := h.T
  refine ⟨?_, h.l.setInt j 1, ⟨bs, b1, b2.other (own_ne b2 h.l (by decide)) _, fun i hi => ⟨(b3 i hi).1, (b3 i hi).2.1, (b3 i hi).2.2.other (by have := (b3 i hi).1; have := h.lb; dsimp only; omega) _⟩⟩, h.p.other (own_ne h.p h.l (by decide)) _, h.x.other (own_ne h.x h.l (by decide)) _, h.lb⟩
  have := h.t.other (a := ⟨q.l, j, none⟩) (own_ne h.t h.l (by decide)) (.int .i64 1)
  simpa using this
theorem PS.tab {q : Pl} {s : LT} {w : World} (h : PS q s w) (j : Nat) (hj : j < s.2.length) (b : Nat) (hb : q.base ≤ b) (r : List Int) (hr : r.length = 4) (ho : Own w b 3 (ints r)) : PS q (s.1, s.2.set j r) (w.setCell ⟨q.T, j, none⟩ (rowV b)) := by
  obtain ⟨bs, b1, b2, b3⟩ := h.T
  refine ⟨?_, h.l.other (own_ne h.l b2 (by decide)) _, ⟨bs.set j b, by simpa using b1, ?_, fun i hi => ?_⟩, h.p.other (own_ne h.p b2 (by decide)) _, h.x.other (own_ne h.x b2 (by decide)) _, h.lb⟩
  · have := h.t.other (a := ⟨q.T, j, none⟩) (own_ne h.t b2 (by decide)) (rowV b)
    simpa using this
  · have := b2.set j (rowV b)
    rwa [← List.map_set] at this
  · have hi' : i < s.2.length := by simpa using hi
    by_cases e : j = i
    · subst e
      rw [getD_set_eq' _ _ _ _ (by omega), getD_set_eq' _ _ _ _ hi']
      exact ⟨hb, hr, ho.other (own_ne ho b2 (by decide)) _⟩
    · rw [getD_set_ne' _ _ _ _ _ e, getD_set_ne' _ _ _ _ _ e]
      exact ⟨(b3 i hi').1, (b3 i hi').2.1, (b3 i hi').2.2.other (own_ne (b3 i hi').2.2 b2 (by decide)) _⟩
end Go.Proofs.YtikfeemmjfoffaaDoor
