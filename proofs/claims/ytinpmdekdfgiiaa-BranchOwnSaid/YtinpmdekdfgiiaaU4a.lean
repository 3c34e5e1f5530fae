/- BranchOwn: a region in which five things are made in any order: what holds, whatever has come up. -/
import Derived.Test.YtinpmdekdfgiiaaU2
set_option linter.unusedVariables false
set_option linter.unusedSimpArgs false
namespace Go.Proofs.Ytinpmdekdfgiiaa
open Go.RowKit

theorem row_kind {w : World} {B e sz n : Nat} {v : Value} {xs : List Value} (h : w.ownsRow B e sz v n xs) (g : Nat) (hg : v.ownBlock = some g) : ∃ c fz, w.heap[g]? = some (.cells c e fz) := by
  rcases h.2 with ⟨e0, _⟩ | ⟨g', cap, cur, e0, _, hb, _⟩
  · rw [e0] at hg
    simp [Value.ownBlock] at hg
  · rw [e0] at hg
    simp [Value.ownBlock] at hg
    subst hg
    exact ⟨cur, (0, 0), hb⟩
structure Fx (i s : Int) (l : List Nd) (f : Fm) (nx : Nat) (x : List Bool) (W : World) (p : Nat) (b4 b7 b8 : Bool) (x41 x43 x44 x46 x7 x8 : Value) (w : World) : Prop where
  K : Kept W w
  f1 : 1 ≤ p → ∃ A c, x41 = .agg #[.int .i64 i, .int .i64 s, .slice A l.length c] ∧ w.ownsRow W.heap.size 48 3 (.slice A l.length c) l.length (ndCells l)
  f3 : 2 ≤ p → ∃ A c lo hi, x43 = fmV f A c ∧ RKp w (fun b => lo ≤ b ∧ b < hi) A f.l ∧ hi ≤ w.heap.size ∧ W.heap.size ≤ lo ∧ (∀ g, b4 = true → x44 = .slice (some ⟨g, 0, none⟩) 0 0 → g < lo ∨ hi ≤ g) ∧ (∀ g, b7 = true → x7 = .pointer (some ⟨g, 0, none⟩) → g < lo ∨ hi ≤ g) ∧ (∀ g, b8 = true → x8 = .pointer (some ⟨g, 0, none⟩) → g < lo ∨ hi ≤ g)
  f4 : b4 = true → p < 3 → ∃ g, x44 = .slice (some ⟨g, 0, none⟩) 0 0 ∧ w.ownsRow g 4 1 (.slice (some ⟨g, 0, none⟩) 0 0) 0 [] ∧ W.heap.size ≤ g ∧ g < w.heap.size
  f6 : 3 ≤ p → w.ownsRow W.heap.size 4 1 x46 nx (bools x)
  f7 : b7 = true → ∃ g, x7 = .pointer (some ⟨g, 0, none⟩) ∧ W.heap.size ≤ g ∧ Own w g 24 [.int .i64 0, .int .i64 0, .slice none 0 0]
  f8 : b8 = true → ∃ g, x8 = .pointer (some ⟨g, 0, none⟩) ∧ W.heap.size ≤ g ∧ Own w g 52 [.int .i64 0, .int .i64 0, .slice none 0 0]

section
variable {i s : Int} {l : List Nd} {f : Fm} {nx : Nat} {x : List Bool} {W : World} {p : Nat} {b4 b7 b8 : Bool} {x41 x43 x44 x46 x7 x8 : Value} {w w' : World}
theorem Fx.kept (h : Fx i s l f nx x W p b4 b7 b8 x41 x43 x44 x46 x7 x8 w) (k : Kept w w') : Fx i s l f nx x W p b4 b7 b8 x41 x43 x44 x46 x7 x8 w' := by
  refine ⟨kept_trans h.K k, fun h1 => ?_, fun h1 => ?_, fun h1 h2 => ?_, fun h1 => row_kept (h.f6 h1) k, fun h1 => ?_, fun h1 => ?_⟩
  · obtain ⟨A, c, e, r⟩ := h.f1 h1
    exact ⟨A, c, e, row_kept r k⟩
  · obtain ⟨A, c, lo, hi, e, r, hs, rest⟩ := h.f3 h1
    exact ⟨A, c, lo, hi, e, r.kept k, Nat.le_trans hs k.size, rest⟩
  · obtain ⟨g, e, r, h3, h4⟩ := h.f4 h1 h2
    exact ⟨g, e, row_kept r k, h3, Nat.lt_of_lt_of_le h4 k.size⟩
  · obtain ⟨g, e, h3, o⟩ := h.f7 h1
    exact ⟨g, e, h3, o.kept k⟩
  · obtain ⟨g, e, h3, o⟩ := h.f8 h1
    exact ⟨g, e, h3, o.kept k⟩
theorem Fx.begin (W : World) : Fx i s l f nx x W 0 false false false x41 x43 x44 x46 x7 x8 W.drew :=
  ⟨kept_drew (kept_refl W), fun h => (by omega), fun h => (by omega), fun h => (by cases h), fun h => (by omega), fun h => (by cases h), fun h => (by cases h)⟩
theorem Fx.one (h : Fx i s l f nx x W 0 b4 b7 b8 x41 x43 x44 x46 x7 x8 w) (k : Kept w w') {A : Option Addr} {c : Nat} (r : w'.ownsRow w.heap.size 48 3 (.slice A l.length c) l.length (ndCells l)) :
    Fx i s l f nx x W 1 b4 b7 b8 (.agg #[.int .i64 i, .int .i64 s, .slice A l.length c]) x43 x44 x46 x7 x8 w' := by
  have hk := h.kept k
  exact ⟨hk.K, fun _ => ⟨A, c, rfl, r.mono h.K.size⟩, fun h => by omega, fun h1 h2 => hk.f4 h1 (by omega), fun h => by omega, hk.f7, hk.f8⟩
theorem Fx.three (h : Fx i s l f nx x W 1 b4 b7 b8 x41 x43 x44 x46 x7 x8 w) (k : Kept w w') {A : Option Addr} {c : Nat} (r : RKp w' (fun b => w.heap.size ≤ b) A f.l) :
    Fx i s l f nx x W 2 b4 b7 b8 x41 (fmV f A c) x44 x46 x7 x8 w' := by
  have hk := h.kept k
  refine ⟨hk.K, fun _ => hk.f1 (by omega), fun _ => ⟨A, c, w.heap.size, w'.heap.size, rfl, r.range, Nat.le_refl _, h.K.size, fun g hb e => ?_, fun g hb e => ?_, fun g hb e => ?_⟩, fun h1 h2 => hk.f4 h1 (by omega), fun h => by omega, hk.f7, hk.f8⟩
  · obtain ⟨g', e', _, _, hl⟩ := h.f4 hb (by omega)
    rw [e] at e'
    simp only [Value.slice.injEq, Option.some.injEq, Addr.mk.injEq] at e'
    omega
  · obtain ⟨g', e', _, o⟩ := h.f7 hb
    rw [e] at e'
    simp only [Value.pointer.injEq, Option.some.injEq, Addr.mk.injEq] at e'
    have := o.lt
    omega
  · obtain ⟨g', e', _, o⟩ := h.f8 hb
    rw [e] at e'
    simp only [Value.pointer.injEq, Option.some.injEq, Addr.mk.injEq] at e'
    have := o.lt
    omega
theorem Fx.four (h : Fx i s l f nx x W p false b7 b8 x41 x43 x44 x46 x7 x8 w) (hp : p ≤ 2) :
    Fx i s l f nx x W p true b7 b8 x41 x43 (.slice (some ⟨w.heap.size, 0, none⟩) 0 0) x46 x7 x8 (w.alloc (.cells #[] 4)) := by
  have hk := h.kept (kept_alloc (kept_refl w) (.cells #[] 4))
  refine ⟨hk.K, hk.f1, fun h1 => ?_, fun _ _ => ⟨w.heap.size, rfl, ⟨rfl, .inr ⟨w.heap.size, 0, #[], rfl, Nat.le_refl _, heap_alloc_new w _, Nat.le_refl _, Nat.zero_le _, rfl, rfl⟩⟩, h.K.size, by simp⟩, fun h1 => by omega, hk.f7, hk.f8⟩
  obtain ⟨A, c, lo, hi, e, r, hs, h0, _, h7, h8⟩ := h.f3 h1
  refine ⟨A, c, lo, hi, e, r.kept (kept_alloc (kept_refl w) _), by simp; omega, h0, fun g _ e => ?_, h7, h8⟩
  simp only [Value.slice.injEq, Option.some.injEq, Addr.mk.injEq] at e
  omega
theorem Fx.seven (h : Fx i s l f nx x W p b4 false b8 x41 x43 x44 x46 x7 x8 w) :
    Fx i s l f nx x W p b4 true b8 x41 x43 x44 x46 (.pointer (some ⟨w.heap.size, 0, none⟩)) x8 (w.alloc (.cells #[.int .i64 0, .int .i64 0, .slice none 0 0] 24)) := by
  have hk := h.kept (kept_alloc (kept_refl w) (.cells #[.int .i64 0, .int .i64 0, .slice none 0 0] 24))
  refine ⟨hk.K, hk.f1, fun h1 => ?_, hk.f4, hk.f6, fun _ => ⟨w.heap.size, rfl, h.K.size, Own.new w 24 _⟩, hk.f8⟩
  obtain ⟨A, c, lo, hi, e, r, hs, h0, h4, _, h8⟩ := h.f3 h1
  refine ⟨A, c, lo, hi, e, r.kept (kept_alloc (kept_refl w) _), by simp; omega, h0, h4, fun g _ e => ?_, h8⟩
  simp only [Value.pointer.injEq, Option.some.injEq, Addr.mk.injEq] at e
  omega
theorem Fx.eight (h : Fx i s l f nx x W p b4 b7 false x41 x43 x44 x46 x7 x8 w) :
    Fx i s l f nx x W p b4 b7 true x41 x43 x44 x46 x7 (.pointer (some ⟨w.heap.size, 0, none⟩)) (w.alloc (.cells #[.int .i64 0, .int .i64 0, .slice none 0 0] 52)) := by
  have hk := h.kept (kept_alloc (kept_refl w) (.cells #[.int .i64 0, .int .i64 0, .slice none 0 0] 52))
  refine ⟨hk.K, hk.f1, fun h1 => ?_, hk.f4, hk.f6, hk.f7, fun _ => ⟨w.heap.size, rfl, h.K.size, Own.new w 52 _⟩⟩
  obtain ⟨A, c, lo, hi, e, r, hs, h0, h4, h7, _⟩ := h.f3 h1
  refine ⟨A, c, lo, hi, e, r.kept (kept_alloc (kept_refl w) _), by simp; omega, h0, h4, h7, fun g _ e => ?_⟩
  simp only [Value.pointer.injEq, Option.some.injEq, Addr.mk.injEq] at e
  omega
theorem type_ne {g g' : Nat} {c c' : Array Value} {e e' : TypeId} {z z' : Nat × Nat} (h : w.heap[g]? = some (.cells c e z)) (h' : w.heap[g']? = some (.cells c' e' z')) (ne : e ≠ e') : g ≠ g' := fun hg => by
  subst hg
  rw [h] at h'
  simp only [Option.some.injEq, Obj.cells.injEq] at h'
  exact ne h'.2.1
theorem Fx.six {g : Nat} (h : Fx i s l f nx x W 2 true b7 b8 x41 x43 (.slice (some ⟨g, 0, none⟩) 0 0) x46 x7 x8 w) {v : Value} (r : w'.ownsRow g 4 1 v nx (bools x)) (k : w.grownBy w' (some g)) :
    Fx i s l f nx x W 3 true b7 b8 x41 x43 (.slice (some ⟨g, 0, none⟩) 0 0) v x7 x8 w' := by
  obtain ⟨g', e', r4, hW, hl⟩ := h.f4 rfl (by omega)
  simp only [Value.slice.injEq, Option.some.injEq, Addr.mk.injEq] at e'
  obtain rfl := e'.1.1
  obtain ⟨cc, fz, hb⟩ := row_kind r4 g rfl
  refine ⟨kept_gr h.K k (fun b e => by injection e with e; omega), fun _ => ?_, fun _ => ?_, fun _ h => by omega, fun _ => r.mono hW, fun h1 => ?_, fun h1 => ?_⟩
  · obtain ⟨A, c, e, r1⟩ := h.f1 (by omega)
    refine ⟨A, c, e, row_block r1 fun b hb1 => k.block b (r1.lt b hb1).2 (fun e => ?_)⟩
    obtain ⟨c1, z1, h1⟩ := row_kind r1 b hb1
    injection e with e
    exact type_ne h1 hb (by decide) e
  · obtain ⟨A, c, lo, hi, e, r1, hs, h0, h4, h7, h8⟩ := h.f3 (by omega)
    refine ⟨A, c, lo, hi, e, r1.frame fun b hb1 hl1 => k.block b hl1 (fun e => ?_), Nat.le_trans hs k.size, h0, h4, h7, h8⟩
    injection e with e
    have := h4 g rfl rfl
    omega
  · obtain ⟨g7, e, h3, o⟩ := h.f7 h1
    refine ⟨g7, e, h3, o.grown k (fun e => ?_)⟩
    injection e with e
    exact type_ne o hb (by decide) e
  · obtain ⟨g8, e, h3, o⟩ := h.f8 h1
    refine ⟨g8, e, h3, o.grown k (fun e => ?_)⟩
    injection e with e
    exact type_ne o hb (by decide) e
theorem Fx.fin (h : Fx i s l f nx x W 3 true true true x41 x43 x44 x46 x7 x8 w) : ∃ (g7 g8 : Nat) (A7 A8 A9 : Option Addr) (c7 c8 c9 : Nat),
    x41 = .agg #[.int .i64 i, .int .i64 s, .slice A7 l.length c7] ∧ x43 = .agg #[.int .i64 f.k, .int .i64 f.n, .slice A8 f.l.length c8] ∧ x46 = .slice A9 nx c9 ∧ x7 = .pointer (some ⟨g7, 0, none⟩) ∧ x8 = .pointer (some ⟨g8, 0, none⟩) ∧
    Own w g7 24 [.int .i64 0, .int .i64 0, .slice none 0 0] ∧ Own w g8 52 [.int .i64 0, .int .i64 0, .slice none 0 0] ∧ W.heap.size ≤ g7 ∧ W.heap.size ≤ g8 ∧ g7 ≠ g8 ∧ Kept W w ∧
    ∀ w', (∀ b, b < w.heap.size → b ≠ g7 → b ≠ g8 → w'.heap[b]? = w.heap[b]?) → RN w' A7 l ∧ RK w' A8 f.l ∧ Rd w' A9 (bools x) := by
  obtain ⟨A7, c7, e7, r7⟩ := h.f1 (by omega)
  obtain ⟨A8, c8, lo, hi, e8, r8, hs, h0, _, d7, d8⟩ := h.f3 (by omega)
  obtain ⟨A9, c9, e9, r9⟩ := row_form (h.f6 (by omega))
  obtain ⟨g7, p7, hW7, o7⟩ := h.f7 rfl
  obtain ⟨g8, p8, hW8, o8⟩ := h.f8 rfl
  refine ⟨g7, g8, A7, A8, A9, c7, c8, c9, e7, e8, e9, p7, p8, o7, o8, hW7, hW8, type_ne o7 o8 (by decide), h.K, fun w' hf => ⟨row_rd (row_block r7 fun b hb => ?_), RKp.rk (r8.frame fun b hb hl => ?_), row_rd (row_block r9 fun b hb => ?_)⟩⟩
  · obtain ⟨c1, z1, h1⟩ := row_kind r7 b hb
    exact hf b (r7.lt b hb).2 (type_ne h1 o7 (by decide)) (type_ne h1 o8 (by decide))
  · have h1 := d7 g7 rfl p7
    have h2 := d8 g8 rfl p8
    exact hf b hl (by omega) (by omega)
  · obtain ⟨c1, z1, h1⟩ := row_kind r9 b hb
    exact hf b (r9.lt b hb).2 (type_ne h1 o7 (by decide)) (type_ne h1 o8 (by decide))
end

def St3 (i s : Int) (l : List Nd) (f : Fm) (nx : Nat) (x : List Bool) (W : World) (a0 : Act) (p : Nat) (b4 b7 b8 : Bool) (a : Act) (w : World) : Prop := ∃ x41 x43 x44 x46 x7 x8,
  a = (((((a0.put (some 41) x41).put (some 43) x43).put (some 44) x44).put (some 46) x46).put (some 7) x7).put (some 8) x8 ∧ Fx i s l f nx x W p b4 b7 b8 x41 x43 x44 x46 x7 x8 w

/-! ### The order -/
section
variable {P : Program} {ops : Array Oper} {Q : Exit → Act → World → Prop} {md : Region.Mode} {S : World → Prop} {L : List Nat}
def li3 (p : Nat) (b4 b7 b8 : Bool) : Array Bool := #[true, decide (1 ≤ p), true, decide (2 ≤ p), b4, true, decide (3 ≤ p), b7, b8, false, false, false]
def rdOne (md : Region.Mode) (ops : Array Oper) (p : Nat) (b4 b7 b8 : Bool) : Bool :=
  (p == 3 && !b4) || (p == 3 && b4 && b7 && b8) || (!(Region.ready md ops (li3 p b4 b7 b8)).isEmpty && (Region.ready md ops (li3 p b4 b7 b8)).all fun i => (i == 1 && p == 0) || (i == 3 && p == 1) || (i == 6 && p == 2 && b4) || (i == 4 && !b4) || (i == 7 && !b7) || (i == 8 && !b8))
def rdOk (md : Region.Mode) (ops : Array Oper) : Bool := [0, 1, 2, 3].all fun p => [true, false].all fun b4 => [true, false].all fun b7 => [true, false].all fun b8 => rdOne md ops p b4 b7 b8
theorem rdOk_at (h : rdOk md ops = true) {p : Nat} (hp : p ≤ 3) (b4 b7 b8 : Bool) : rdOne md ops p b4 b7 b8 = true := by
  have hb : ∀ b : Bool, b ∈ [true, false] := fun b => by cases b <;> simp
  have hp' : p ∈ [0, 1, 2, 3] := by
    rcases (show p = 0 ∨ p = 1 ∨ p = 2 ∨ p = 3 by omega) with rfl | rfl | rfl | rfl <;> simp
  exact List.all_eq_true.1 (List.all_eq_true.1 (List.all_eq_true.1 (List.all_eq_true.1 h p hp') b4 (hb b4)) b7 (hb b7)) b8 (hb b8)
theorem op_shut {i : Nat} {o : Oper} {K : Act → World → Prop} {a : Act} {w : World} (ho : ops[i]? = some o)
    (h : ∀ K' : Act → World → Prop, Shut (∀ a w, K a w → K' a w) → if Region.wanted o (yielded ops a.tmps) = true then Oper.wp P o a w K' Q else K' (a.put o.dst undef) w) : wpOp P ops Q i K a w :=
  wpOp_step ho (fun K' hK => h K' hK)
def nb (b : Bool) : Nat := if b then 0 else 1
theorem four_any' (St : Nat → Bool → Bool → Bool → Act → World → Prop) (hr : rdOk md ops = true) (hS : ∀ p b4 b7 b8 a w, St p b4 b7 b8 a w → S w)
    (h1 : ∀ b4 b7 b8 a w, St 0 b4 b7 b8 a w → wpOp P ops Q 1 (St 1 b4 b7 b8) a w)
    (h3 : ∀ b4 b7 b8 a w, St 1 b4 b7 b8 a w → wpOp P ops Q 3 (St 2 b4 b7 b8) a w)
    (h6 : ∀ b7 b8 a w, St 2 true b7 b8 a w → wpOp P ops Q 6 (St 3 true b7 b8) a w)
    (h4 : ∀ p b7 b8 a w, p ≤ 2 → St p false b7 b8 a w → wpOp P ops Q 4 (St p true b7 b8) a w)
    (h7 : ∀ p b4 b8 a w, St p b4 false b8 a w → wpOp P ops Q 7 (St p b4 true b8) a w)
    (h8 : ∀ p b4 b7 a w, St p b4 b7 false a w → wpOp P ops Q 8 (St p b4 b7 true) a w)
    (hend : ∀ a w, St 3 true true true a w → wpAnyX P md ops Q S L 3 (li3 3 true true true) a w) :
    ∀ (m p : Nat) (b4 b7 b8 : Bool) (a : Act) (w : World), p ≤ 3 → (p = 3 → b4 = true) → m = (3 - p) + nb b4 + nb b7 + nb b8 → St p b4 b7 b8 a w → wpAnyX P md ops Q S L (m + 3) (li3 p b4 b7 b8) a w := by
  intro m
  induction m with
  | zero =>
    intro p b4 b7 b8 a w hp h34 hm h
    have h1 : p = 3 := by omega
    subst h1
    cases b4 <;> cases b7 <;> cases b8 <;> simp [nb] at hm
    exact hend a w h
  | succ m ih =>
    intro p b4 b7 b8 a w hp h34 hm h
    have hk := rdOk_at hr hp b4 b7 b8
    unfold rdOne at hk
    have hn1 : (p == 3 && !b4) = false := by
      cases b4
      · have : p ≠ 3 := fun e => by have := h34 e; cases this
        simp [this]
      · simp
    have hn2 : (p == 3 && b4 && b7 && b8) = false := by
      cases b4 <;> cases b7 <;> cases b8 <;> simp [nb] at hm ⊢
      omega
    rw [hn1, hn2, Bool.false_or, Bool.false_or, Bool.and_eq_true] at hk
    obtain ⟨hne, hall⟩ := hk
    refine ⟨fun h0 => by rw [h0] at hne; simp at hne, fun j hj => ?_⟩
    have hj2 := List.all_eq_true.1 hall j hj
    simp only [Bool.or_eq_true, Bool.and_eq_true, beq_iff_eq, Bool.not_eq_true'] at hj2
    rcases hj2 with ((((⟨rfl, rfl⟩ | ⟨rfl, rfl⟩) | ⟨⟨rfl, rfl⟩, rfl⟩) | ⟨rfl, rfl⟩) | ⟨rfl, rfl⟩) | ⟨rfl, rfl⟩
    · exact wpOp_mono (fun a' w' h' => ⟨.inr (hS _ _ _ _ _ _ h'), ih 1 b4 b7 b8 a' w' (by omega) (fun e => by omega) (by omega) h'⟩) (h1 _ _ _ _ _ h)
    · exact wpOp_mono (fun a' w' h' => ⟨.inr (hS _ _ _ _ _ _ h'), ih 2 b4 b7 b8 a' w' (by omega) (fun e => by omega) (by omega) h'⟩) (h3 _ _ _ _ _ h)
    · exact wpOp_mono (fun a' w' h' => ⟨.inr (hS _ _ _ _ _ _ h'), ih 3 true b7 b8 a' w' (by omega) (fun e => rfl) (by omega) h'⟩) (h6 _ _ _ _ h)
    · have hp2 : p ≤ 2 := by
        have : p ≠ 3 := fun e => by have := h34 e; cases this
        omega
      exact wpOp_mono (fun a' w' h' => ⟨.inr (hS _ _ _ _ _ _ h'), ih p true b7 b8 a' w' (by omega) (fun e => rfl) (by simp [nb] at hm ⊢; omega) h'⟩) (h4 _ _ _ _ _ hp2 h)
    · exact wpOp_mono (fun a' w' h' => ⟨.inr (hS _ _ _ _ _ _ h'), ih p b4 true b8 a' w' (by omega) h34 (by simp [nb] at hm ⊢; omega) h'⟩) (h7 _ _ _ _ _ h)
    · exact wpOp_mono (fun a' w' h' => ⟨.inr (hS _ _ _ _ _ _ h'), ih p b4 b7 true a' w' (by omega) h34 (by simp [nb] at hm ⊢; omega) h'⟩) (h8 _ _ _ _ _ h)
theorem four_any {a0 : Act} {w0 : World} {n : Nat} {lst : Array Bool} (St : Act → Nat → Bool → Bool → Bool → Act → World → Prop) (hn : n = 9) (hl : lst = li3 0 false false false) (hr : rdOk md ops = true) (hS : ∀ p b4 b7 b8 a w, St a0 p b4 b7 b8 a w → S w)
    (h0 : St a0 0 false false false a0 w0)
    (h1 : ∀ b4 b7 b8 a w, St a0 0 b4 b7 b8 a w → wpOp P ops Q 1 (St a0 1 b4 b7 b8) a w)
    (h3 : ∀ b4 b7 b8 a w, St a0 1 b4 b7 b8 a w → wpOp P ops Q 3 (St a0 2 b4 b7 b8) a w)
    (h6 : ∀ b7 b8 a w, St a0 2 true b7 b8 a w → wpOp P ops Q 6 (St a0 3 true b7 b8) a w)
    (h4 : ∀ p b7 b8 a w, p ≤ 2 → St a0 p false b7 b8 a w → wpOp P ops Q 4 (St a0 p true b7 b8) a w)
    (h7 : ∀ p b4 b8 a w, St a0 p b4 false b8 a w → wpOp P ops Q 7 (St a0 p b4 true b8) a w)
    (h8 : ∀ p b4 b7 a w, St a0 p b4 b7 false a w → wpOp P ops Q 8 (St a0 p b4 b7 true) a w)
    (hend : ∀ a w, St a0 3 true true true a w → wpAnyX P md ops Q S L 3 (li3 3 true true true) a w) : wpAnyX P md ops Q S L n lst a0 w0 := by
  subst hn
  subst hl
  exact four_any' (St a0) hr hS h1 h3 h6 h4 h7 h8 hend 6 0 false false false a0 w0 (by omega) (fun e => by omega) rfl h0
end
end Go.Proofs.Ytinpmdekdfgiiaa
