/- Polynomials: the degree, the program's and the reference's. -/
import Derived.Test.YtikfeemmjfoffaaGreatDoorC13
set_option linter.unusedVariables false
set_option linter.unusedSimpArgs false
namespace Go.Proofs.YtikfeemmjfoffaaGreatDoor
open Go.RowKit

theorem tmv_mem {p : List Tm} {k : Nat} (h : k < p.length) : tmv p k ∈ p := by
  rw [show tmv p k = p[k] by simp [tmv, h]]
  exact List.getElem_mem h
theorem ia_mem {l : List Int} {k : Nat} (h : k < l.length) : ia l k ∈ l := by
  unfold ia
  rw [List.getD_eq_getElem?_getD, List.getElem?_eq_getElem h]
  exact List.getElem_mem h


/-- The sum of the first k exponents, and of all. -/
def sumTk (e : List Int) (k : Nat) : Int := (e.take k).sum
def degT (t : Tm) : Int := t.e.sum
/-- The greatest sum of exponents of the first k terms, or -1. -/
def degTo (p : List Tm) (k : Nat) : Int := (p.take k).foldl (fun d t => max d (degT t)) (-1)
def degP (p : List Tm) : Int := degTo p p.length
theorem sumTk_zero (e : List Int) : sumTk e 0 = 0 := rfl
theorem sumTk_succ {e : List Int} {k : Nat} (h : k < e.length) : sumTk e (k + 1) = sumTk e k + ia e k := by
  unfold sumTk
  rw [List.take_succ_eq_append_getElem h, List.sum_append]
  simp [ia, h]
theorem sumTk_all (e : List Int) : sumTk e e.length = e.sum := by simp [sumTk]
theorem sumTk_range {e : List Int} (h : ∀ x ∈ e, 0 ≤ x ∧ x ≤ 65535) : ∀ {k : Nat}, k ≤ e.length → 0 ≤ sumTk e k ∧ sumTk e k ≤ 65535 * k
  | 0, _ => by simp [sumTk]
  | k + 1, hk => by
    have ih := sumTk_range h (k := k) (by omega)
    have h1 := h (ia e k) (ia_mem (by omega))
    rw [sumTk_succ (by omega)]
    omega
theorem degTo_zero (p : List Tm) : degTo p 0 = -1 := rfl
theorem degTo_succ {p : List Tm} {k : Nat} (h : k < p.length) : degTo p (k + 1) = max (degTo p k) (degT (tmv p k)) := by
  unfold degTo
  rw [take_tm h, List.foldl_append]
  rfl
/-- What a valid polynomial's terms are. -/
theorem vld_terms {q n : Int} {p : List Tm} (hv : vld q n p = true) : (0 ≤ n ∧ n ≤ 80) ∧ p.length ≤ 20000 ∧ ∀ k, k < p.length → (tmv p k).e.length = n.toNat ∧ 1 ≤ (tmv p k).c ∧ (tmv p k).c < q ∧ ∀ x ∈ (tmv p k).e, 0 ≤ x ∧ x ≤ 65535 := by
  have hvp := hv
  simp only [vld, Bool.and_eq_true, decide_eq_true_eq, allN_true] at hvp
  obtain ⟨⟨⟨⟨hn0, hn⟩, hl⟩, hq0⟩, hT⟩ := hvp
  refine ⟨⟨hn0, hn⟩, hl, fun k hk => ?_⟩
  have h := tok_parts.1 (hT k hk)
  refine ⟨by omega, h.1, h.2.1, fun x hx => ?_⟩
  have := List.all_eq_true.1 h.2.2.2.2 x hx
  simpa [eOk] using this
theorem vld_ok {P M n : Int} {p : List Tm} (hv : vld (ordF P M) n p = true) : okF P M = true := by
  have hvp := hv
  simp only [vld, Bool.and_eq_true, decide_eq_true_eq, allN_true] at hvp
  cases h : okF P M with
  | true => rfl
  | false => exact absurd (ord_bad h) hvp.1.2
end Go.Proofs.YtikfeemmjfoffaaGreatDoor
