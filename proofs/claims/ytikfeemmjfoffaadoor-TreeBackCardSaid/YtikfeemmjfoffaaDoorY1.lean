/- Formulas: what they are, what they measure, and how they lie in memory. -/
import Derived.Test.YtikfeemmjfoffaaDoorW1
set_option linter.unusedVariables false
set_option linter.unusedSimpArgs false
namespace Go.Proofs.YtikfeemmjfoffaaDoor
open Go.RowKit

inductive Fm where
  | mk (k n : Int) (l : List Fm)
instance : Inhabited Fm := ⟨.mk 1 0 []⟩
def Fm.k : Fm → Int | .mk k _ _ => k
def Fm.n : Fm → Int | .mk _ n _ => n
def Fm.l : Fm → List Fm | .mk _ _ l => l
theorem Fm.eta (f : Fm) : f = .mk f.k f.n f.l := by cases f; rfl
def kd (l : List Fm) (j : Nat) : Fm := l.getD j default
theorem kd_zero (f : Fm) (fs : List Fm) : kd (f :: fs) 0 = f := rfl
theorem kd_succ (f : Fm) (fs : List Fm) (j : Nat) : kd (f :: fs) (j + 1) = kd fs j := by simp [kd]

mutual
/-- The number of nodes. -/
def cntF : Fm → Nat
  | .mk _ _ l => 1 + cntL l
def cntL : List Fm → Nat
  | [] => 0
  | f :: fs => cntF f + cntL fs
end
mutual
/-- The nesting. -/
def depF : Fm → Nat
  | .mk _ _ l => depL l + 1
def depL : List Fm → Nat
  | [] => 0
  | f :: fs => max (depF f) (depL fs)
end
/-- A node is right by itself. -/
def nodeB (k n : Int) (m : Nat) : Bool :=
  if k = 0 then decide (0 ≤ n) && decide (n < 16) && decide (m = 0)
  else if k = 1 then (decide (n = 0) || decide (n = 1)) && decide (m = 0)
  else if k = 2 then decide (n = 0) && decide (m = 1)
  else if k = 3 ∨ k = 4 ∨ k = 5 then decide (n = 0) && decide (m = 2)
  else false
mutual
def shpF : Fm → Bool
  | .mk k n l => shpL l && nodeB k n l.length
def shpL : List Fm → Bool
  | [] => true
  | f :: fs => shpF f && shpL fs
end
mutual
/-- One more than the greatest input. -/
def inpF : Fm → Int
  | .mk k n l => max (if k = 0 then n + 1 else 0) (inpL l)
def inpL : List Fm → Int
  | [] => 0
  | f :: fs => max (inpF f) (inpL fs)
end
/-- The value of a node of two kids. -/
def appB (k : Int) (a b : Bool) : Bool := if k = 2 then !a else if k = 3 then a && b else if k = 4 then a || b else a != b
def evK (x : Nat → Bool) (k n : Int) (vs : List Bool) : Bool :=
  if k = 0 then x n.toNat else if k = 1 then n == 1 else appB k (vs.getD 0 false) (vs.getD 1 false)
mutual
def evF (x : Nat → Bool) : Fm → Bool
  | .mk k n l => evK x k n (evL x l)
def evL (x : Nat → Bool) : List Fm → List Bool
  | [] => []
  | f :: fs => evF x f :: evL x fs
end

theorem cntF_eq (f : Fm) : cntF f = 1 + cntL f.l := by cases f; rw [cntF]; rfl
theorem depF_eq (f : Fm) : depF f = depL f.l + 1 := by cases f; rw [depF]; rfl
theorem shpF_eq (f : Fm) : shpF f = (shpL f.l && nodeB f.k f.n f.l.length) := by cases f; rw [shpF]; rfl
theorem inpF_eq (f : Fm) : inpF f = max (if f.k = 0 then f.n + 1 else 0) (inpL f.l) := by cases f; rw [inpF]; rfl
theorem evF_eq (x : Nat → Bool) (f : Fm) : evF x f = evK x f.k f.n (evL x f.l) := by cases f; rw [evF]; rfl
theorem cntF_pos (f : Fm) : 0 < cntF f := by rw [cntF_eq]; omega
theorem depF_pos (f : Fm) : 0 < depF f := by rw [depF_eq]; omega
theorem cnt_kid {l : List Fm} : ∀ {j : Nat}, j < l.length → cntF (kd l j) ≤ cntL l := by
  induction l with
  | nil => intro j h; simp at h
  | cons f fs ih =>
    intro j h
    rw [cntL]
    cases j with
    | zero => rw [kd_zero]; omega
    | succ j => rw [kd_succ]; have := ih (j := j) (by simpa using h); omega
theorem dep_kid {l : List Fm} : ∀ {j : Nat}, j < l.length → depF (kd l j) ≤ depL l := by
  induction l with
  | nil => intro j h; simp at h
  | cons f fs ih =>
    intro j h
    rw [depL]
    cases j with
    | zero => rw [kd_zero]; omega
    | succ j => rw [kd_succ]; have := ih (j := j) (by simpa using h); omega
theorem cntL_take {l : List Fm} : ∀ {j : Nat}, j < l.length → cntL (l.take (j + 1)) = cntL (l.take j) + cntF (kd l j) := by
  induction l with
  | nil => intro j h; simp at h
  | cons f fs ih =>
    intro j h
    cases j with
    | zero => simp [cntL, kd_zero]
    | succ j => rw [kd_succ, List.take_succ_cons, List.take_succ_cons, cntL, cntL, ih (by simpa using h)]; omega
theorem cntL_take_le (l : List Fm) : ∀ j, cntL (l.take j) ≤ cntL l := by
  induction l with
  | nil => intro j; simp
  | cons f fs ih =>
    intro j
    cases j with
    | zero => simp [cntL]
    | succ j => rw [List.take_succ_cons, cntL, cntL]; have := ih j; omega
theorem depL_take {l : List Fm} : ∀ {j : Nat}, j < l.length → depL (l.take (j + 1)) = max (depL (l.take j)) (depF (kd l j)) := by
  induction l with
  | nil => intro j h; simp at h
  | cons f fs ih =>
    intro j h
    cases j with
    | zero => simp [depL, kd_zero]
    | succ j => rw [kd_succ, List.take_succ_cons, List.take_succ_cons, depL, depL, ih (by simpa using h)]; omega
theorem depL_take_le (l : List Fm) : ∀ j, depL (l.take j) ≤ depL l := by
  induction l with
  | nil => intro j; simp
  | cons f fs ih =>
    intro j
    cases j with
    | zero => simp [depL]
    | succ j => rw [List.take_succ_cons, depL, depL]; have := ih j; omega
theorem dep_le_cnt_aux : ∀ (N : Nat) (l : List Fm), cntL l ≤ N → depL l ≤ cntL l := by
  intro N
  induction N with
  | zero =>
    intro l h
    cases l with
    | nil => simp [depL]
    | cons f fs => rw [cntL] at h; have := cntF_pos f; omega
  | succ N ih =>
    intro l h
    induction l with
    | nil => simp [depL]
    | cons f fs ih2 =>
      rw [cntL] at h ⊢
      rw [depL]
      have h1 := ih2 (by omega)
      have h2 := ih f.l (by rw [cntF_eq] at h; omega)
      rw [depF_eq, cntF_eq] at *
      omega
theorem dep_le_cnt (f : Fm) : depF f ≤ cntF f := by
  have := dep_le_cnt_aux _ f.l (Nat.le_refl _)
  rw [depF_eq, cntF_eq]; omega
theorem shpL_true {l : List Fm} : shpL l = true ↔ ∀ j, j < l.length → shpF (kd l j) = true := by
  induction l with
  | nil => simp [shpL]
  | cons f fs ih =>
    rw [shpL, Bool.and_eq_true, ih]
    constructor
    · rintro ⟨h1, h2⟩ j hj
      cases j with
      | zero => exact h1
      | succ j => rw [kd_succ]; exact h2 j (by simpa using hj)
    · intro h
      exact ⟨h 0 (by simp), fun j hj => by have := h (j + 1) (by simpa using hj); rwa [kd_succ] at this⟩
theorem shpL_false {l : List Fm} : shpL l = false ↔ ∃ j, j < l.length ∧ shpF (kd l j) = false := by
  rw [← Bool.not_eq_true, shpL_true]
  constructor
  · intro h
    apply Classical.byContradiction
    intro h2
    apply h
    intro j hj
    cases hh : shpF (kd l j)
    · exact absurd ⟨j, hj, hh⟩ h2
    · rfl
  · rintro ⟨j, hj, h⟩ h2
    rw [h2 j hj] at h
    cases h
theorem inpL_nonneg (l : List Fm) : 0 ≤ inpL l := by
  induction l with
  | nil => simp [inpL]
  | cons f fs ih => rw [inpL]; omega
theorem inpL_take {l : List Fm} : ∀ {j : Nat}, j < l.length → inpL (l.take (j + 1)) = max (inpL (l.take j)) (inpF (kd l j)) := by
  induction l with
  | nil => intro j h; simp at h
  | cons f fs ih =>
    intro j h
    cases j with
    | zero => simp [inpL, kd_zero]; omega
    | succ j => rw [kd_succ, List.take_succ_cons, List.take_succ_cons, inpL, inpL, ih (by simpa using h)]; omega
theorem inp_kid {l : List Fm} : ∀ {j : Nat}, j < l.length → inpF (kd l j) ≤ inpL l := by
  induction l with
  | nil => intro j h; simp at h
  | cons f fs ih =>
    intro j h
    rw [inpL]
    cases j with
    | zero => rw [kd_zero]; omega
    | succ j => rw [kd_succ]; have := ih (j := j) (by simpa using h); omega
theorem evL_get (x : Nat → Bool) {l : List Fm} : ∀ {j : Nat}, j < l.length → (evL x l).getD j false = evF x (kd l j) := by
  induction l with
  | nil => intro j h; simp at h
  | cons f fs ih =>
    intro j h
    cases j with
    | zero => simp [evL, kd_zero]
    | succ j => rw [kd_succ, ← ih (by simpa using h)]; simp [evL]

theorem ev_var (x : Nat → Bool) {f : Fm} (h : f.k = 0) : evF x f = x f.n.toNat := by rw [evF_eq]; unfold evK; rw [if_pos h]
theorem ev_const (x : Nat → Bool) {f : Fm} (h : f.k = 1) : evF x f = (f.n == 1) := by rw [evF_eq]; unfold evK; rw [if_neg (by omega), if_pos h]
theorem ev_not (x : Nat → Bool) {f : Fm} (h : f.k = 2) (hl : f.l.length = 1) : evF x f = !evF x (kd f.l 0) := by
  rw [evF_eq]; unfold evK appB; rw [if_neg (by omega), if_neg (by omega), if_pos h, evL_get x (by omega)]
theorem ev_and (x : Nat → Bool) {f : Fm} (h : f.k = 3) (hl : f.l.length = 2) : evF x f = (evF x (kd f.l 0) && evF x (kd f.l 1)) := by
  rw [evF_eq]; unfold evK appB; rw [if_neg (by omega), if_neg (by omega), if_neg (by omega), if_pos h, evL_get x (by omega), evL_get x (by omega)]
theorem ev_or (x : Nat → Bool) {f : Fm} (h : f.k = 4) (hl : f.l.length = 2) : evF x f = (evF x (kd f.l 0) || evF x (kd f.l 1)) := by
  rw [evF_eq]; unfold evK appB; rw [if_neg (by omega), if_neg (by omega), if_neg (by omega), if_neg (by omega), if_pos h, evL_get x (by omega), evL_get x (by omega)]
theorem ev_xor (x : Nat → Bool) {f : Fm} (h : f.k = 5) (hl : f.l.length = 2) : evF x f = (evF x (kd f.l 0) != evF x (kd f.l 1)) := by
  rw [evF_eq]; unfold evK appB; rw [if_neg (by omega), if_neg (by omega), if_neg (by omega), if_neg (by omega), if_neg (by omega), evL_get x (by omega), evL_get x (by omega)]

/-! ### In memory -/

/-- The kids that lie from an address on. -/
inductive RK (w : World) : Option Addr → List Fm → Prop
  | nil (A : Option Addr) : RK w A []
  | cons {b off : Nat} {A : Option Addr} {c : Nat} {f : Fm} {fs : List Fm} (h0 : w.cell? ⟨b, off, none⟩ = some (.int .i64 f.k)) (h1 : w.cell? ⟨b, off + 1, none⟩ = some (.int .i64 f.n))
      (h2 : w.cell? ⟨b, off + 2, none⟩ = some (.slice A f.l.length c)) (hl : f.l.length ≤ 9223372036854775807) (hk : RK w A f.l) (hs : RK w (some ⟨b, off + 3, none⟩) fs) : RK w (some ⟨b, off, none⟩) (f :: fs)
theorem RK.kept {w w' : World} {A : Option Addr} {l : List Fm} (h : RK w A l) (k : Kept w w') : RK w' A l := by
  induction h with
  | nil A => exact .nil A
  | cons h0 h1 h2 hl _ _ ih1 ih2 => exact .cons (kept_cell k h0) (kept_cell k h1) (kept_cell k h2) hl ih1 ih2
/-- What is known of one kid. -/
structure KidAt (w : World) (b o : Nat) (f : Fm) : Prop where
  c0 : w.cell? ⟨b, o, none⟩ = some (.int .i64 f.k)
  c1 : w.cell? ⟨b, o + 1, none⟩ = some (.int .i64 f.n)
  c2 : ∃ A c, w.cell? ⟨b, o + 2, none⟩ = some (.slice A f.l.length c) ∧ RK w A f.l
  len : f.l.length ≤ 9223372036854775807
theorem KidAt.kept {w w' : World} {b o : Nat} {f : Fm} (h : KidAt w b o f) (k : Kept w w') : KidAt w' b o f :=
  ⟨kept_cell k h.c0, kept_cell k h.c1, let ⟨A, c, h1, h2⟩ := h.c2; ⟨A, c, kept_cell k h1, h2.kept k⟩, h.len⟩
theorem RK.all {w : World} {A : Option Addr} {l : List Fm} (h : RK w A l) : ∀ b off, A = some ⟨b, off, none⟩ → ∀ j, j < l.length → KidAt w b (off + j * 3) (kd l j) := by
  induction h with
  | nil A => intro b off _ j hj; simp at hj
  | @cons b0 off0 A0 c0 f fs h0 h1 h2 hl hk hs _ ih2 =>
    intro b off e j hj
    injection e with e
    injection e with e1 e2
    subst e1 e2
    cases j with
    | zero => rw [kd_zero]; exact ⟨by simpa using h0, by simpa using h1, ⟨A0, c0, by simpa using h2, hk⟩, hl⟩
    | succ j =>
      rw [kd_succ]
      have := ih2 b0 (off0 + 3) rfl j (by simpa using hj)
      rwa [show off0 + 3 + j * 3 = off0 + (j + 1) * 3 from by omega] at this
theorem RK.at_ {w : World} {A : Option Addr} {l : List Fm} (h : RK w A l) (hl : 0 < l.length) : ∃ b off, A = some ⟨b, off, none⟩ ∧ ∀ j, j < l.length → KidAt w b (off + j * 3) (kd l j) := by
  cases h with
  | nil => simp at hl
  | cons h0 h1 h2 h3 h4 h5 => exact ⟨_, _, rfl, (RK.cons h0 h1 h2 h3 h4 h5).all _ _ rfl⟩
/-- A formula as a value. -/
def fmV (f : Fm) (A : Option Addr) (c : Nat) : Value := .agg #[.int .i64 f.k, .int .i64 f.n, .slice A f.l.length c]
end Go.Proofs.YtikfeemmjfoffaaDoor
