/- Spoil of a formula: memory that may be overwritten already. -/
import Derived.Test.YtinpmdekdfgiiaaT1
import Derived.Test.YtinpmdekdfgiiaaS1
set_option linter.unusedVariables false
set_option linter.unusedSimpArgs false
namespace Go.Proofs.Ytinpmdekdfgiiaa
open Go.RowKit

abbrev c3 (k n : Int) (A : Option Addr) (m : Nat) : List Value := [.int .i64 k, .int .i64 n, .slice A m m]
/-- Kids in blocks of a range, of which some may be overwritten. -/
inductive SR (w : World) (lo hi : Nat) : Nat → Option Addr → Nat → Prop
  | nil (d : Nat) : SR w lo hi d none 0
  | one {d b m : Nat} {k n : Int} {A : Option Addr} (hb : lo ≤ b ∧ b < hi) (o : Own w b 52 (c3 k n A m)) (h : SR w lo hi d A m) : SR w lo hi (d + 1) (some ⟨b, 0, none⟩) 1
  | two {d b m m2 : Nat} {k n k2 n2 : Int} {A A2 : Option Addr} (hb : lo ≤ b ∧ b < hi) (o : Own w b 52 (c3 k n A m ++ c3 k2 n2 A2 m2)) (h : SR w lo hi d A m) (h2 : SR w lo hi d A2 m2) : SR w lo hi (d + 1) (some ⟨b, 0, none⟩) 2
theorem SR.up {w : World} {lo hi d : Nat} {A : Option Addr} {m : Nat} (h : SR w lo hi d A m) : SR w lo hi (d + 1) A m := by
  induction h with
  | nil d => exact .nil _
  | one hb o _ ih => exact .one hb o ih
  | two hb o _ _ ih ih2 => exact .two hb o ih ih2
theorem SR.le {w : World} {lo hi d : Nat} {A : Option Addr} {m : Nat} (h : SR w lo hi d A m) : ∀ e, SR w lo hi (d + e) A m := by
  intro e
  induction e with
  | zero => exact h
  | succ e ih => exact ih.up
theorem TR.sr {w : World} {lo : Nat} {A : Option Addr} {c : Nat} {l : List Fm} (h : TR w lo A c l) : l.length = c ∧ ∃ d, SR w lo w.heap.size d A c := by
  induction h with
  | nil => exact ⟨rfl, 0, .nil _⟩
  | one hb o _ _ ih =>
    obtain ⟨e, d, h⟩ := ih
    rw [e] at o
    exact ⟨rfl, d + 1, .one ⟨hb, o.lt⟩ o h⟩
  | two hb o _ _ _ _ ih ih2 =>
    obtain ⟨e, d, h⟩ := ih
    obtain ⟨e2, d2, h2⟩ := ih2
    rw [e, e2] at o
    refine ⟨rfl, d + d2 + 1, .two ⟨hb, o.lt⟩ o (h.le d2) ?_⟩
    have := h2.le d
    rwa [Nat.add_comm] at this

/-- The same kid or an overwritten one. -/
def Sm (k n : Int) (A : Option Addr) (m : Nat) (k' n' : Int) (A' : Option Addr) (m' : Nat) : Prop := (k' = k ∧ n' = n ∧ A' = A ∧ m' = m) ∨ (A' = none ∧ m' = 0)
theorem sm_refl (k n : Int) (A : Option Addr) (m : Nat) : Sm k n A m k n A m := .inl ⟨rfl, rfl, rfl, rfl⟩
theorem sm_trans {k n k' n' k'' n'' : Int} {A A' A'' : Option Addr} {m m' m'' : Nat} (h : Sm k n A m k' n' A' m') (g : Sm k' n' A' m' k'' n'' A'' m'') : Sm k n A m k'' n'' A'' m'' := by
  rcases g with ⟨rfl, rfl, rfl, rfl⟩ | g
  · exact h
  · exact .inr g
/-- What an overwriting leaves. -/
structure Spd (lo hi : Nat) (w w' : World) : Prop where
  chg : Chg lo hi w w'
  one : ∀ (b : Nat) (k n : Int) (A : Option Addr) (m : Nat), Own w b 52 (c3 k n A m) → ∃ k' n' A' m', Sm k n A m k' n' A' m' ∧ Own w' b 52 (c3 k' n' A' m')
  two : ∀ (b : Nat) (k n : Int) (A : Option Addr) (m : Nat) (k2 n2 : Int) (A2 : Option Addr) (m2 : Nat), Own w b 52 (c3 k n A m ++ c3 k2 n2 A2 m2) → ∃ k' n' A' m' k2' n2' A2' m2', Sm k n A m k' n' A' m' ∧ Sm k2 n2 A2 m2 k2' n2' A2' m2' ∧ Own w' b 52 (c3 k' n' A' m' ++ c3 k2' n2' A2' m2')
theorem spd_kept {lo hi : Nat} {w w' : World} (k : Kept w w') : Spd lo hi w w' :=
  ⟨chg_kept (chg_refl _ _ _) k, fun b k0 n A m o => ⟨k0, n, A, m, sm_refl _ _ _ _, o.kept k⟩, fun b k0 n A m k2 n2 A2 m2 o => ⟨k0, n, A, m, k2, n2, A2, m2, sm_refl _ _ _ _, sm_refl _ _ _ _, o.kept k⟩⟩
theorem spd_trans {lo hi : Nat} {a b c : World} (h : Spd lo hi a b) (g : Spd lo hi b c) : Spd lo hi a c :=
  ⟨chg_trans h.chg g.chg, fun x k n A m o => by
    obtain ⟨k', n', A', m', s, o'⟩ := h.one x k n A m o
    obtain ⟨k'', n'', A'', m'', s', o''⟩ := g.one x _ _ _ _ o'
    exact ⟨_, _, _, _, sm_trans s s', o''⟩, fun x k n A m k2 n2 A2 m2 o => by
    obtain ⟨k', n', A', m', k2', n2', A2', m2', s, s2, o'⟩ := h.two x k n A m k2 n2 A2 m2 o
    obtain ⟨k'', n'', A'', m'', k2'', n2'', A2'', m2'', s', s2', o''⟩ := g.two x _ _ _ _ _ _ _ _ o'
    exact ⟨_, _, _, _, _, _, _, _, sm_trans s s', sm_trans s2 s2', o''⟩⟩
theorem SR.spd {lo hi d : Nat} {w w' : World} {A : Option Addr} {m : Nat} (h : SR w lo hi d A m) (g : Spd lo hi w w') : SR w' lo hi d A m := by
  induction h with
  | nil d => exact .nil _
  | one hb o _ ih =>
    obtain ⟨k', n', A', m', s, o'⟩ := g.one _ _ _ _ _ o
    rcases s with ⟨rfl, rfl, rfl, rfl⟩ | ⟨rfl, rfl⟩
    · exact .one hb o' ih
    · exact .one hb o' (.nil _)
  | two hb o _ _ ih ih2 =>
    obtain ⟨k', n', A', m', k2', n2', A2', m2', s, s2, o'⟩ := g.two _ _ _ _ _ _ _ _ _ o
    refine .two hb o' ?_ ?_
    · rcases s with ⟨rfl, rfl, rfl, rfl⟩ | ⟨rfl, rfl⟩
      · exact ih
      · exact .nil _
    · rcases s2 with ⟨rfl, rfl, rfl, rfl⟩ | ⟨rfl, rfl⟩
      · exact ih2
      · exact .nil _
def leaf3 (w : World) (b j : Nat) : World := ((w.setCell ⟨b, j, none⟩ (.int .i64 (-7))).setCell ⟨b, j + 1, none⟩ (.int .i64 0)).setCell ⟨b, j + 2, none⟩ (.slice none 0 0)
theorem leaf3_own {w : World} {b j : Nat} {g : Nat} {e : TypeId} {cs : List Value} (h : Own w g e cs) (n : g ≠ b) : Own (leaf3 w b j) g e cs := ((h.other (by dsimp only; omega) _).other (by dsimp only; omega) _).other (by dsimp only; omega) _
theorem own_uniq {w : World} {g : Nat} {e : TypeId} {cs ds : List Value} (h : Own w g e cs) (k : Own w g e ds) : cs = ds := by
  unfold Own at h k
  rw [h] at k
  have := Option.some.inj k
  injection this with h1
  exact List.toArray_inj h1
/-- A kid is overwritten. -/
theorem spd_leaf1 {lo hi : Nat} {w : World} {b : Nat} {k n : Int} {A : Option Addr} {m : Nat} (o : Own w b 52 (c3 k n A m)) (hb : lo ≤ b ∧ b < hi) : Spd lo hi w (leaf3 w b 0) := by
  have o' : Own (leaf3 w b 0) b 52 (c3 (-7) 0 none 0) := by
    have := ((o.set 0 (.int .i64 (-7))).set (0 + 1) (.int .i64 0)).set (0 + 2) (.slice none 0 0)
    exact this
  refine ⟨chg_set (chg_set (chg_set (chg_refl _ _ _) (.inl hb) _ _) (.inl hb) _ _) (.inl hb) _ _, fun x k2 n2 A2 m2 ox => ?_, fun x k2 n2 A2 m2 k3 n3 A3 m3 ox => ?_⟩
  · by_cases e : x = b
    · subst e; exact ⟨-7, 0, none, 0, .inr ⟨rfl, rfl⟩, o'⟩
    · exact ⟨k2, n2, A2, m2, sm_refl _ _ _ _, leaf3_own ox e⟩
  · by_cases e : x = b
    · subst e; have := congrArg List.length (own_uniq o ox); simp at this
    · exact ⟨k2, n2, A2, m2, k3, n3, A3, m3, sm_refl _ _ _ _, sm_refl _ _ _ _, leaf3_own ox e⟩
theorem spd_leaf2 {lo hi : Nat} {w : World} {b : Nat} {k n k2 n2 : Int} {A A2 : Option Addr} {m m2 : Nat} (o : Own w b 52 (c3 k n A m ++ c3 k2 n2 A2 m2)) (hb : lo ≤ b ∧ b < hi) : Spd lo hi w (leaf3 w b 0) ∧ Spd lo hi w (leaf3 w b 3) := by
  have o0 : Own (leaf3 w b 0) b 52 (c3 (-7) 0 none 0 ++ c3 k2 n2 A2 m2) := ((o.set 0 (.int .i64 (-7))).set (0 + 1) (.int .i64 0)).set (0 + 2) (.slice none 0 0)
  have o3 : Own (leaf3 w b 3) b 52 (c3 k n A m ++ c3 (-7) 0 none 0) := ((o.set 3 (.int .i64 (-7))).set (3 + 1) (.int .i64 0)).set (3 + 2) (.slice none 0 0)
  have C : ∀ j, Chg lo hi w (leaf3 w b j) := fun j => chg_set (chg_set (chg_set (chg_refl _ _ _) (.inl hb) _ _) (.inl hb) _ _) (.inl hb) _ _
  refine ⟨⟨C 0, fun x k4 n4 A4 m4 ox => ?_, fun x k4 n4 A4 m4 k5 n5 A5 m5 ox => ?_⟩, ⟨C 3, fun x k4 n4 A4 m4 ox => ?_, fun x k4 n4 A4 m4 k5 n5 A5 m5 ox => ?_⟩⟩
  · by_cases e : x = b
    · subst e; have := congrArg List.length (own_uniq o ox); simp at this
    · exact ⟨k4, n4, A4, m4, sm_refl _ _ _ _, leaf3_own ox e⟩
  · by_cases e : x = b
    · subst e
      have := own_uniq o ox
      simp at this
      obtain ⟨rfl, rfl, ⟨rfl, rfl⟩, rfl, rfl, rfl, rfl⟩ := this
      exact ⟨-7, 0, none, 0, k2, n2, A2, m2, .inr ⟨rfl, rfl⟩, sm_refl _ _ _ _, o0⟩
    · exact ⟨k4, n4, A4, m4, k5, n5, A5, m5, sm_refl _ _ _ _, sm_refl _ _ _ _, leaf3_own ox e⟩
  · by_cases e : x = b
    · subst e; have := congrArg List.length (own_uniq o ox); simp at this
    · exact ⟨k4, n4, A4, m4, sm_refl _ _ _ _, leaf3_own ox e⟩
  · by_cases e : x = b
    · subst e
      have := own_uniq o ox
      simp at this
      obtain ⟨rfl, rfl, ⟨rfl, rfl⟩, rfl, rfl, rfl, rfl⟩ := this
      exact ⟨k, n, A, m, -7, 0, none, 0, sm_refl _ _ _ _, .inr ⟨rfl, rfl⟩, o3⟩
    · exact ⟨k4, n4, A4, m4, k5, n5, A5, m5, sm_refl _ _ _ _, sm_refl _ _ _ _, leaf3_own ox e⟩
end Go.Proofs.Ytinpmdekdfgiiaa
