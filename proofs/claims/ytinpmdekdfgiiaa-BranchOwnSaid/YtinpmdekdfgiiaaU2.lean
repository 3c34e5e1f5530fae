/- BranchOwn: items in memory, and what changes them. -/
import Derived.Test.YtinpmdekdfgiiaaS4
import Derived.Test.YtinpmdekdfgiiaaS3
set_option linter.unusedVariables false
set_option linter.unusedSimpArgs false
namespace Go.Proofs.Ytinpmdekdfgiiaa
open Go.RowKit

theorem row_block {w w' : World} {B e sz n : Nat} {v : Value} {xs : List Value} (h : w.ownsRow B e sz v n xs) (hb : ∀ b, v.ownBlock = some b → w'.heap[b]? = w.heap[b]?) : w'.ownsRow B e sz v n xs := by
  rcases h.2 with ⟨e0, h0⟩ | ⟨g, cap, cur, e0, hB, hg, r⟩
  · exact ⟨h.1, .inl ⟨e0, h0⟩⟩
  · refine ⟨h.1, .inr ⟨g, cap, cur, e0, hB, ?_, r⟩⟩
    rw [hb g (by rw [e0]; rfl)]
    exact hg
/-- The nodes of a program, in a row within a range of blocks. -/
def PrAt (w : World) (lo hi : Nat) (l : List Nd) (V : Value) : Prop := ∃ A c, V = .slice A l.length c ∧ w.ownsRow lo 48 3 (.slice A l.length c) l.length (ndCells l) ∧ NoneIn lo hi (.slice A l.length c)
theorem PrAt.kept {w w' : World} {lo hi : Nat} {l : List Nd} {V : Value} (h : PrAt w lo hi l V) (k : Kept w w') : PrAt w' lo hi l V := by
  obtain ⟨A, c, e, r, n⟩ := h
  exact ⟨A, c, e, row_kept r k, n⟩
theorem PrAt.chg {w w' : World} {lo hi lo' hi' : Nat} {l : List Nd} {V : Value} (h : PrAt w lo hi l V) (k : Chg lo' hi' w w') (hd : hi ≤ lo' ∨ hi' ≤ lo) : PrAt w' lo hi l V := by
  obtain ⟨A, c, e, r, n⟩ := h
  exact ⟨A, c, e, row_block r fun b hb => k.block b (r.lt b hb).2 (by have := n b hb; omega), n⟩
theorem PrAt.set {w : World} {lo hi : Nat} {l : List Nd} {V : Value} (h : PrAt w lo hi l V) {g : Nat} (hg : g < lo ∨ hi ≤ g) (j : Nat) (u : Value) : PrAt (w.setCell ⟨g, j, none⟩ u) lo hi l V := by
  obtain ⟨A, c, e, r, n⟩ := h
  exact ⟨A, c, e, row_block r fun b hb => Below.heap_setCell w ⟨g, j, none⟩ u b (by have := n b hb; dsimp only; omega), n⟩
theorem PrAt.of {n s : Int} {l : List Nd} {w w' : World} {v : Value} (h : BrIs n s l w v w') : ∃ V, v = .agg #[.int .i64 n, .int .i64 s, V] ∧ PrAt w' w.heap.size w'.heap.size l V ∧ Kept w w' := by
  obtain ⟨A, c, e, r, k⟩ := h
  exact ⟨_, e, ⟨A, c, rfl, r, fun b hb => r.lt b hb⟩, k⟩
theorem PrAt.rn {w : World} {lo hi : Nat} {l : List Nd} {V : Value} (h : PrAt w lo hi l V) : ∃ A c, V = .slice A l.length c ∧ RN w A l := by
  obtain ⟨A, c, e, r, n⟩ := h
  exact ⟨A, c, e, row_rd r⟩
theorem RKp.chg {w w' : World} {lo hi lo' hi' : Nat} {A : Option Addr} {l : List Fm} (h : RKp w (fun b => lo ≤ b ∧ b < hi) A l) (k : Chg lo' hi' w w') (hd : hi ≤ lo' ∨ hi' ≤ lo) : RKp w' (fun b => lo ≤ b ∧ b < hi) A l :=
  h.frame fun b hb hl => k.block b hl (by omega)
theorem RKp.set {w : World} {lo hi : Nat} {A : Option Addr} {l : List Fm} (h : RKp w (fun b => lo ≤ b ∧ b < hi) A l) {g : Nat} (hg : g < lo ∨ hi ≤ g) (j : Nat) (u : Value) : RKp (w.setCell ⟨g, j, none⟩ u) (fun b => lo ≤ b ∧ b < hi) A l :=
  h.frame fun b hb hl => Below.heap_setCell w ⟨g, j, none⟩ u b (by dsimp only; omega)
theorem RKp.range {w : World} {B : Nat} {A : Option Addr} {l : List Fm} (h : RKp w (fun b => B ≤ b) A l) : RKp w (fun b => B ≤ b ∧ b < w.heap.size) A l := h.imp fun b hb hl => ⟨hb, hl⟩
/-- Three programs in an array. -/
abbrev arr3 (n s : Nat → Int) (V : Nat → Value) : List Value := [.int .i64 (n 0), .int .i64 (s 0), V 0, .int .i64 (n 1), .int .i64 (s 1), V 1, .int .i64 (n 2), .int .i64 (s 2), V 2]
theorem arr3_at {w : World} {g : Nat} {e : TypeId} {n s : Nat → Int} {V : Nat → Value} (h : Own w g e (arr3 n s V)) {i : Nat} (hi : i < 3) : w.cell? ⟨g, i * 3, none⟩ = some (.int .i64 (n i)) ∧ w.cell? ⟨g, i * 3 + 1, none⟩ = some (.int .i64 (s i)) ∧ w.cell? ⟨g, i * 3 + 2, none⟩ = some (V i) := by
  rcases (show i = 0 ∨ i = 1 ∨ i = 2 by omega) with rfl | rfl | rfl
  · exact ⟨h.cell (j := 0) rfl, h.cell (j := 1) rfl, h.cell (j := 2) rfl⟩
  · exact ⟨h.cell (j := 3) rfl, h.cell (j := 4) rfl, h.cell (j := 5) rfl⟩
  · exact ⟨h.cell (j := 6) rfl, h.cell (j := 7) rfl, h.cell (j := 8) rfl⟩
def upF {α : Type} (F : Nat → α) (i : Nat) (x : α) (j : Nat) : α := if j = i then x else F j
theorem arr3_set {w : World} {g : Nat} {e : TypeId} {n s : Nat → Int} {V : Nat → Value} (h : Own w g e (arr3 n s V)) {i : Nat} (hi : i < 3) (a b : Int) (U : Value) :
    Own (((w.setCell ⟨g, i * 3, none⟩ (.int .i64 a)).setCell ⟨g, i * 3 + 1, none⟩ (.int .i64 b)).setCell ⟨g, i * 3 + 2, none⟩ U) g e (arr3 (upF n i a) (upF s i b) (upF V i U)) := by
  have := ((h.set (i * 3) (.int .i64 a)).set (i * 3 + 1) (.int .i64 b)).set (i * 3 + 2) U
  rcases (show i = 0 ∨ i = 1 ∨ i = 2 by omega) with rfl | rfl | rfl
  · exact this
  · exact this
  · exact this

section
variable {P : Program}
/-- A copy of a slice of truth values is appended to an empty one. -/
theorem step_bools {ops : Array Oper} {o : Oper} {a : Act} {w : World} {K : Act → World → Prop} {Q : Exit → Act → World → Prop} {E : Prop}
    (hw : Region.wanted o (yielded ops a.tmps) = true) (s x : Operand) (t : TypeId)
    (ho : o.op = .call { callee := .builtin .append, args := #[s, x], argTypes := #[t, t] })
    (ht : P.underlying t = some (.slice 4)) (hinfo : (P.info? 4).map (fun i => (i.zero, i.size, i.bytes)) = some (some (.bool false), 1, 1)) (g m c : Nat) (X : Option Addr) (xs : List Bool) (hm : m = xs.length) (hl : m ≤ 1000000)
    (hs : a.eval s = .slice (some ⟨g, 0, none⟩) 0 0) (hx : a.eval x = .slice X m c) (hX : Rd w X (bools xs)) (hrow : w.ownsRow g 4 1 (.slice (some ⟨g, 0, none⟩) 0 0) 0 []) (hg : g ≤ w.heap.size)
    (h : ∀ v1 w1, w1.ownsRow g 4 1 v1 m (bools xs) → w.grownBy w1 (some g) → K (a.put o.dst v1) w1) : if Region.wanted o (yielded ops a.tmps) = true then Oper.wp P o a w K Q else E := by
  cases X with
  | none =>
    have h0 : xs = [] := by
      cases xs with
      | nil => rfl
      | cons b xs => obtain ⟨_, _, e, _⟩ := hX.at_ (by simp [bools]); cases e
    subst h0
    subst hm
    exact step_app0 hw s x t 4 (.bool false) 1 1 ho ht hinfo g 0 0 c (Nat.le_refl _) hs hx (h _ _ hrow ⟨rfl, rfl, rfl, Nat.le_refl _, fun _ _ _ => rfl⟩)
  | some ad =>
    refine step_own g hw s x t 4 (.bool false) 1 1 ho ht hinfo rfl (by omega) (by omega) (.slice (some ⟨g, 0, none⟩) 0 0) 0 m c ad [] (bools xs) hs hx (by rw [bools_length, hm, Nat.mul_one]) (fun j u hu => ?_) (one_bools _) hrow hg (by omega) (fun v1 w1 r1 g1 _ => h v1 w1 (by simpa using r1) g1)
    obtain ⟨b, off, e, hc⟩ := hX.at_ (by intro h0; rw [h0] at hu; simp at hu)
    injection e with e
    subst e
    rw [add_at]
    exact hc j u hu
end

theorem row_chg {w w' : World} {B e sz n lo hi lo' hi' : Nat} {v : Value} {xs : List Value} (h : w.ownsRow B e sz v n xs) (hn : NoneIn lo hi v) (k : Chg lo' hi' w w') (hd : hi ≤ lo' ∨ hi' ≤ lo) : w'.ownsRow B e sz v n xs :=
  row_block h fun b hb => k.block b (h.lt b hb).2 (by have := hn b hb; omega)
theorem chg_mono {lo hi lo' hi' : Nat} {w w' : World} (h : Chg lo hi w w') (h1 : lo' ≤ lo) (h2 : hi ≤ hi') : Chg lo' hi' w w' :=
  ⟨h.os, h.tape, h.output, h.size, fun k hk hn => h.block k hk (by omega)⟩
def pick3 {α : Type} (a b c : α) (j : Nat) : α := if j = 0 then a else if j = 1 then b else c
theorem PrAt.lo {w : World} {lo hi lo' : Nat} {l : List Nd} {V : Value} (h : PrAt w lo hi l V) (hl : lo' ≤ lo) : PrAt w lo' hi l V := by
  obtain ⟨A, c, e, r, n⟩ := h
  exact ⟨A, c, e, r.mono hl, fun b hb => by have := n b hb; omega⟩
/-- What holds at the head of a round. -/
structure OwHd (wc wr : World) (g10 g11 : Nat) (r : Nat) (nn ss : Nat → Int) (ll : Nat → List Nd) (fg : Fm) : Prop where
  K : Kept wc wr
  fst : ∃ n' s' V', Own wr g10 70 (arr3 n' s' V') ∧ (0 < r → ∀ j, j < 3 → n' j = nn j ∧ s' j = ss j ∧ ∃ A c, V' j = .slice A (ll j).length c ∧ RN wr A (ll j))
  mde : ∃ k' m' V, Own wr g11 52 [.int .i64 k', .int .i64 m', V] ∧ (0 < r → k' = fg.k ∧ m' = fg.n ∧ ∃ A c, V = .slice A fg.l.length c ∧ RK wr A fg.l)
end Go.Proofs.Ytinpmdekdfgiiaa
