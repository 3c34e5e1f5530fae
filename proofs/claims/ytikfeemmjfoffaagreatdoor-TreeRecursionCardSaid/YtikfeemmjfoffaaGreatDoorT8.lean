/- Trees: the recursion, plain: a node's table at its children's values, bit by bit. -/
import Derived.Test.YtikfeemmjfoffaaGreatDoorT3
import Derived.Test.YtikfeemmjfoffaaGreatDoorL9
set_option linter.unusedVariables false
set_option linter.unusedSimpArgs false
namespace Go.Proofs.YtikfeemmjfoffaaGreatDoor
open Go.RowKit

structure StepV (t : Tr) (j bn x1 x2 y z v : Nat) : Prop where
  e1 : valW t (2 * j + 1) = (x1 : Int)
  e2 : valW t (2 * j + 2) = (x2 : Int)
  ev : valW t j = (v : Int)
  l1 : x1 < 2 ^ bn
  l2 : x2 < 2 ^ bn
  lv : v < 64
  hz : z < (t.tb.getD j []).length
  hy : y = x1 * 2 ^ bn
  hzz : z = y + x2
  hv : ia (t.tb.getD j []) z = (v : Int)
  m1 : IntKind.i64.wrap ((x1 : Int) * 2 ^ bn) = (y : Int)
  m2 : IntKind.i64.wrap ((x1 : Int) * ((2 ^ bn : Nat) : Int)) = (y : Int)
  m3 : IntKind.i64.wrap ((y : Int) + (x2 : Int)) = (z : Int)
theorem stepV {t : Tr} (g : Good t) {j : Nat} (hj : j < t.tb.length) {bn : Nat} (hb : t.b = bn) : ∃ x1 x2 y z v, StepV t j bn x1 x2 y z v := by
  have hb6 : bn ≤ 6 := by have := g.b6; omega
  have epw : pw t.b = 2 ^ bn := by rw [hb]; rfl
  have h64 : 2 ^ bn ≤ 64 := (Nat.pow_le_pow_right (by decide) hb6 : 2 ^ bn ≤ 2 ^ 6)
  have r0 := g.range' (n := j) (by omega)
  have r1 := g.range' (n := 2 * j + 1) (by omega)
  have r2 := g.range' (n := 2 * j + 2) (by omega)
  have hat := at_lt (b := t.b) (by omega) r1 r2
  rw [epw] at r0 r1 r2
  obtain ⟨x1, e1⟩ : ∃ x : Nat, valW t (2 * j + 1) = x := ⟨(valW t (2 * j + 1)).toNat, by omega⟩
  obtain ⟨x2, e2⟩ : ∃ x : Nat, valW t (2 * j + 2) = x := ⟨(valW t (2 * j + 2)).toNat, by omega⟩
  obtain ⟨v, ev⟩ : ∃ x : Nat, valW t j = x := ⟨(valW t j).toNat, by omega⟩
  have hw := valW_node hj
  rw [e1, e2, epw] at hw hat
  have ey : (x1 : Int) * ((2 ^ bn : Nat) : Int) = ((x1 * 2 ^ bn : Nat) : Int) := by simp
  have hyl : x1 * 2 ^ bn ≤ 4096 := Nat.mul_le_mul (show x1 ≤ 64 by omega) h64
  rw [ey] at hw hat
  rw [show (((x1 * 2 ^ bn : Nat) : Int) + (x2 : Int)).toNat = x1 * 2 ^ bn + x2 by omega] at hw
  have hlen := g.tab hj
  refine ⟨x1, x2, x1 * 2 ^ bn, x1 * 2 ^ bn + x2, v, e1, e2, ev, by omega, by omega, by omega, by rw [hlen]; omega, rfl, rfl, ?_, ?_, ?_, ?_⟩
  · rw [← ev, hw]; rfl
  · rw [show (x1 : Int) * 2 ^ bn = ((x1 * 2 ^ bn : Nat) : Int) by simp]; exact IntWalk.i64_in _ (by omega)
  · rw [ey]; exact IntWalk.i64_in _ (by omega)
  · rw [show ((x1 * 2 ^ bn : Nat) : Int) + (x2 : Int) = ((x1 * 2 ^ bn + x2 : Nat) : Int) by simp]; exact IntWalk.i64_in _ (by omega)
/-- The children's bits, as far as they are laid. -/
def atTo (bn x1 x2 k : Nat) : List Int := (List.range (2 * bn)).map fun j => if j < bn then (if j < k then bitI (x1.testBit j) else 0) else (if j - bn < k then bitI (x2.testBit (j - bn)) else 0)
theorem atTo_len (bn x1 x2 k : Nat) : (atTo bn x1 x2 k).length = 2 * bn := by simp [atTo]
theorem atTo_zero (bn x1 x2 : Nat) : atTo bn x1 x2 0 = List.replicate (2 * bn) 0 := by
  apply List.ext_getElem?
  intro j
  by_cases h : j < 2 * bn <;> simp [atTo, h, List.getElem?_replicate]
theorem atTo_step {bn x1 x2 k : Nat} (h : k < bn) : ((atTo bn x1 x2 k).set k (bitI (x1.testBit k))).set (bn + k) (bitI (x2.testBit k)) = atTo bn x1 x2 (k + 1) := by
  apply List.ext_getElem?
  intro j
  rw [List.getElem?_set, List.getElem?_set, List.length_set, atTo_len]
  by_cases e1 : bn + k = j
  · subst e1
    rw [if_pos rfl, if_pos (by omega)]
    simp [atTo, show bn + k < 2 * bn by omega]
    intro h5
    omega
  · rw [if_neg e1]
    by_cases e2 : k = j
    · subst e2
      rw [if_pos rfl, if_pos (by omega)]
      simp [atTo, show k < 2 * bn by omega, h]
    · rw [if_neg e2]
      by_cases hj : j < 2 * bn
      · simp only [atTo, List.getElem?_map, List.getElem?_range hj, Option.map_some, Option.some.injEq]
        by_cases h1 : j < bn
        · rw [if_pos h1, if_pos h1]
          by_cases h2 : j < k
          · rw [if_pos h2, if_pos (by omega)]
          · rw [if_neg h2, if_neg (by omega)]
        · rw [if_neg h1, if_neg h1]
          by_cases h2 : j - bn < k
          · rw [if_pos h2, if_pos (by omega)]
          · rw [if_neg h2, if_neg (by omega)]
      · simp [atTo, hj]
theorem atTo_end {bn x1 x2 : Nat} (h1 : x1 < 2 ^ bn) : atTo bn x1 x2 bn = bitsL (2 * bn) (2 ^ bn * x2 + x1) := by
  unfold atTo bitsL
  apply List.map_congr_left
  intro j hj
  have hj' := List.mem_range.1 hj
  rw [Nat.testBit_two_pow_mul_add x2 h1 j]
  by_cases h : j < bn
  · rw [if_pos h, if_pos h, if_pos h]
  · rw [if_neg h, if_neg h, if_pos (by omega)]
/-- The value of a bit's polynomial at the children's bits. -/
theorem ml_node {P M : Int} (ok : okF P M = true) {t : Tr} (g : Good t) {n k : Nat} (hn : n < t.tb.length) {bn x1 x2 y z v : Nat} (hb : t.b = bn) (S : StepV t n bn x1 x2 y z v) : evP P M (mlT P M (tabB t n k) (2 * bn)) (atTo bn x1 x2 bn) = bitI (v.testBit k) := by
  have epw : pw t.b = 2 ^ bn := by rw [hb]; rfl
  have ep2 : pw (2 * t.b) = 2 ^ (2 * bn) := by rw [hb]; unfold pw; congr 1
  have h1 := S.l1
  have h2 := S.l2
  have hi : 2 ^ bn * x2 + x1 < 2 ^ (2 * bn) := by
    have h3 : 2 ^ bn * (x2 + 1) ≤ 2 ^ bn * 2 ^ bn := Nat.mul_le_mul_left _ h2
    rw [← Nat.pow_add, show bn + bn = 2 * bn by omega, Nat.mul_add, Nat.mul_one] at h3
    omega
  have hlen : (tabB t n k).length = 2 ^ (2 * bn) := by rw [tabB_len, ep2]
  rw [atTo_end h1, ml_val ok hlen (by rw [hlen]; exact hi), tabB_get (by rw [ep2]; exact hi)]
  have hm : (2 ^ bn * x2 + x1) % 2 ^ bn = x1 := by rw [Nat.mul_add_mod]; exact Nat.mod_eq_of_lt h1
  have hd : (2 ^ bn * x2 + x1) / 2 ^ bn = x2 := by rw [Nat.mul_add_div (Nat.two_pow_pos bn), Nat.div_eq_of_lt h1]; omega
  unfold tabF
  rw [epw, hm, hd, ← S.hy, ← S.hzz, S.hv]
  rfl
theorem atTo_in {bn x1 x2 k : Nat} : ∀ x ∈ atTo bn x1 x2 k, x = 0 ∨ x = 1 := fun x hx => by
  obtain ⟨j, _, rfl⟩ := List.mem_map.1 hx
  unfold bitI
  split <;> split <;> (try split) <;> simp
end Go.Proofs.YtikfeemmjfoffaaGreatDoor
