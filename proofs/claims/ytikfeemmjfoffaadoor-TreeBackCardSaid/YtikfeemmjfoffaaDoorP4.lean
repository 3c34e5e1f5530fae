/- Trees: the value of a node, by recursion, and the row of all values from the last node to the first. -/
import Derived.Test.YtikfeemmjfoffaaDoorP3
set_option linter.unusedVariables false
set_option linter.unusedSimpArgs false
namespace Go.Proofs.YtikfeemmjfoffaaDoor

/-- The value of a node, by recursion. -/
def valW (t : Tr) (n : Nat) : Int :=
  if h : n < t.tb.length then (t.tb.getD n []).getD (valW t (2 * n + 1) * pw t.b + valW t (2 * n + 2)).toNat 0 else t.lv.getD (n - t.tb.length) 0
termination_by 2 * t.tb.length - n
decreasing_by all_goals omega
theorem valW_leaf {t : Tr} {n : Nat} (h : t.tb.length ≤ n) : valW t n = t.lv.getD (n - t.tb.length) 0 := by
  rw [valW, dif_neg (by omega)]
theorem valW_node {t : Tr} {n : Nat} (h : n < t.tb.length) : valW t n = (t.tb.getD n []).getD (valW t (2 * n + 1) * pw t.b + valW t (2 * n + 2)).toNat 0 := by
  rw [valW, dif_pos h]
theorem pw_two {b : Int} (h : 0 ≤ b) : pw (2 * b) = pw b * pw b := by
  unfold pw
  rw [show (2 * b).toNat = b.toNat + b.toNat by omega, Nat.pow_add]
theorem pw_pos (b : Int) : 0 < pw b := Nat.two_pow_pos _
/-- The place of two values in a table. -/
theorem at_lt {b : Int} (hb : 0 ≤ b) {x y : Int} (hx : 0 ≤ x ∧ x < (pw b : Int)) (hy : 0 ≤ y ∧ y < (pw b : Int)) : 0 ≤ x * pw b + y ∧ x * pw b + y < (pw (2 * b) : Int) := by
  rw [pw_two hb]
  have hp := pw_pos b
  have h1 : 0 ≤ x * (pw b : Int) := Int.mul_nonneg hx.1 (by omega)
  have h2 : x * (pw b : Int) ≤ ((pw b : Int) - 1) * pw b := Int.mul_le_mul_of_nonneg_right (by omega) (by omega)
  have h3 : ((pw b : Int) - 1) * pw b = (pw b : Int) * pw b - pw b := by rw [Int.sub_mul, Int.one_mul]
  have h4 : ((pw b * pw b : Nat) : Int) = (pw b : Int) * pw b := by simp
  rw [h4]
  omega
theorem Good.range {t : Tr} (g : Good t) : ∀ (k n : Nat), 2 * t.tb.length - n ≤ k → n ≤ 2 * t.tb.length → 0 ≤ valW t n ∧ valW t n < (pw t.b : Int) := by
  have hp := pw_pos t.h
  intro k
  induction k with
  | zero =>
    intro n hk hn
    have e : n = 2 * t.tb.length := by omega
    rw [valW_leaf (by omega)]
    have hl : n - t.tb.length < t.lv.length := by have := g.ll; have := g.tl; omega
    rw [List.getD_eq_getElem?_getD, List.getElem?_eq_getElem hl]
    exact g.lv _ (List.getElem_mem hl)
  | succ k ih =>
    intro n hk hn
    by_cases h : n < t.tb.length
    · rw [valW_node h]
      have h1 := ih (2 * n + 1) (by omega) (by omega)
      have h2 := ih (2 * n + 2) (by omega) (by omega)
      have h3 := at_lt (b := t.b) (by have := g.b1; omega) h1 h2
      have e1 : t.tb.getD n [] = t.tb[n] := by rw [List.getD_eq_getElem?_getD, List.getElem?_eq_getElem h]; rfl
      have hm : t.tb[n] ∈ t.tb := List.getElem_mem h
      rw [e1]
      have hl : (valW t (2 * n + 1) * pw t.b + valW t (2 * n + 2)).toNat < t.tb[n].length := by rw [g.tw _ hm]; omega
      rw [List.getD_eq_getElem?_getD, List.getElem?_eq_getElem hl]
      exact g.tv _ hm _ (List.getElem_mem hl)
    · rw [valW_leaf (by omega)]
      have hl : n - t.tb.length < t.lv.length := by have := g.ll; have := g.tl; omega
      rw [List.getD_eq_getElem?_getD, List.getElem?_eq_getElem hl]
      exact g.lv _ (List.getElem_mem hl)
theorem Good.range' {t : Tr} (g : Good t) {n : Nat} (h : n ≤ 2 * t.tb.length) : 0 ≤ valW t n ∧ valW t n < (pw t.b : Int) := g.range _ n (Nat.le_refl _) h
/-- The program's row while it goes from the last inner node to the first: what is at k and behind is right, the rest is 0. -/
def rowAt (t : Tr) (k : Nat) : List Int := (List.range (t.tb.length + t.lv.length)).map fun j => if k ≤ j then valW t j else 0
theorem rowAt_start (t : Tr) : rowAt t t.tb.length = List.replicate t.tb.length 0 ++ t.lv := by
  apply List.ext_getElem
  · simp [rowAt]
  · intro j h1 h2
    simp only [rowAt, List.getElem_map, List.getElem_range]
    by_cases h : j < t.tb.length
    · rw [if_neg (by omega), List.getElem_append_left (by simpa using h), List.getElem_replicate]
    · rw [if_pos (by omega), List.getElem_append_right (by simpa using (by omega : t.tb.length ≤ j)), valW_leaf (by omega), List.getD_eq_getElem?_getD]
      simp only [List.length_replicate]
      have : j - t.tb.length < t.lv.length := by simp [rowAt] at h1; omega
      rw [List.getElem?_eq_getElem this]
      rfl
theorem rowAt_get {t : Tr} {k j : Nat} (h : j < t.tb.length + t.lv.length) (hk : k ≤ j) : (rowAt t k).getD j 0 = valW t j := by
  rw [List.getD_eq_getElem?_getD]
  simp [rowAt, h, hk]
theorem rowAt_step {t : Tr} {k : Nat} : (rowAt t (k + 1)).set k (valW t k) = rowAt t k := by
  apply List.ext_getElem
  · simp [rowAt]
  · intro j h1 h2
    rw [List.getElem_set]
    simp only [rowAt, List.getElem_map, List.getElem_range]
    by_cases h : k = j
    · subst h
      rw [if_pos rfl, if_pos (Nat.le_refl _)]
    · rw [if_neg h]
      by_cases h3 : k ≤ j
      · rw [if_pos (by omega), if_pos h3]
      · rw [if_neg (by omega), if_neg h3]
theorem rowAt_end (t : Tr) : rowAt t 0 = (List.range (t.tb.length + t.lv.length)).map (valW t) := by
  unfold rowAt
  simp
end Go.Proofs.YtikfeemmjfoffaaDoor
