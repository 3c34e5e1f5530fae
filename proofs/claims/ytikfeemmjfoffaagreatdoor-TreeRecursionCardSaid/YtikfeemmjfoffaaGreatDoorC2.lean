/- Polynomials: what is valid; the reference's Valid. -/
import Derived.Test.YtikfeemmjfoffaaGreatDoorC1
set_option linter.unusedVariables false
set_option linter.unusedSimpArgs false
namespace Go.Proofs.YtikfeemmjfoffaaGreatDoor
open Go.RowKit

def eOk (x : Int) : Bool := decide (0 ≤ x) && decide (x ≤ 65535)
/-- Term j of a valid list. -/
def tOk (q n : Int) (p : List Tm) (j : Nat) : Bool :=
  decide (1 ≤ (tmv p j).c) && decide ((tmv p j).c < q) && decide (((tmv p j).e.length : Int) = n) && (decide (j = 0) || decide (cmpL (tmv p (j - 1)).e (tmv p j).e < 0)) && (tmv p j).e.all eOk
def vld (q n : Int) (p : List Tm) : Bool := decide (0 ≤ n) && decide (n ≤ 80) && decide (p.length ≤ 20000) && decide (q ≠ 0) && allN p.length (tOk q n p)
/-- The terms below k are as they should be. -/
def VTo (q n : Int) (p : List Tm) (k : Nat) : Prop := ∀ j, j < k → tOk q n p j = true
theorem vto_next {q n : Int} {p : List Tm} {k : Nat} (h : VTo q n p k) (ht : tOk q n p k = true) : VTo q n p (k + 1) := fun j hj => by
  rcases Nat.eq_or_lt_of_le (Nat.le_of_lt_succ hj) with rfl | h3
  · exact ht
  · exact h j h3
theorem vld_bad {q n : Int} {p : List Tm} {j : Nat} (hj : j < p.length) (h : tOk q n p j = false) : vld q n p = false := by
  cases hv : vld q n p with
  | false => rfl
  | true =>
    simp only [vld, Bool.and_eq_true, allN_true] at hv
    rw [hv.2 j hj] at h; cases h
theorem vld_good {q n : Int} {p : List Tm} (h1 : 0 ≤ n) (h2 : n ≤ 80) (h3 : p.length ≤ 20000) (h4 : q ≠ 0) (h : VTo q n p p.length) : vld q n p = true := by
  simp only [vld, Bool.and_eq_true, decide_eq_true_eq, allN_true]
  exact ⟨⟨⟨⟨h1, h2⟩, h3⟩, h4⟩, h⟩
theorem tok_parts {q n : Int} {p : List Tm} {j : Nat} : tOk q n p j = true ↔ 1 ≤ (tmv p j).c ∧ (tmv p j).c < q ∧ ((tmv p j).e.length : Int) = n ∧ (j = 0 ∨ cmpL (tmv p (j - 1)).e (tmv p j).e < 0) ∧ (tmv p j).e.all eOk = true := by
  simp only [tOk, Bool.and_eq_true, decide_eq_true_eq, Bool.or_eq_true]
  constructor
  · rintro ⟨⟨⟨⟨a, b⟩, c⟩, d⟩, e⟩; exact ⟨a, b, c, d, e⟩
  · rintro ⟨a, b, c, d, e⟩; exact ⟨⟨⟨⟨a, b⟩, c⟩, d⟩, e⟩
theorem tok_no {q n : Int} {p : List Tm} {j : Nat} (h : ¬ (1 ≤ (tmv p j).c ∧ (tmv p j).c < q ∧ ((tmv p j).e.length : Int) = n ∧ (j = 0 ∨ cmpL (tmv p (j - 1)).e (tmv p j).e < 0) ∧ (tmv p j).e.all eOk = true)) : tOk q n p j = false := by
  cases ht : tOk q n p j with
  | false => rfl
  | true => exact absurd (tok_parts.1 ht) h
/-- The first m of a list are as they should be. -/
def ETo (l : List Int) (m : Nat) : Prop := ∀ j, j < m → eOk (ia l j) = true
theorem eto_next {l : List Int} {k : Nat} (h : ETo l k) (ht : eOk (ia l k) = true) : ETo l (k + 1) := fun j hj => by
  rcases Nat.eq_or_lt_of_le (Nat.le_of_lt_succ hj) with rfl | h3
  · exact ht
  · exact h j h3
theorem eto_all {l : List Int} (h : ETo l l.length) : l.all eOk = true := by
  rw [List.all_eq_true]
  intro x hx
  obtain ⟨j, hj, rfl⟩ := List.getElem_of_mem hx
  have := h j hj
  rwa [show ia l j = l[j] by simp [ia, hj]] at this
theorem eto_not {l : List Int} {j : Nat} (hj : j < l.length) (h : eOk (ia l j) = false) : l.all eOk = false := by
  cases ha : l.all eOk with
  | false => rfl
  | true =>
    rw [List.all_eq_true] at ha
    have := ha l[j] (List.getElem_mem hj)
    rw [show ia l j = l[j] by simp [ia, hj]] at h
    rw [h] at this; cases this

end Go.Proofs.YtikfeemmjfoffaaGreatDoor
