/- Trees: the tree below a node; plain. -/
import Derived.Test.YtikfeemmjfoffaaGreatDoorPJ
set_option linter.unusedVariables false
set_option linter.unusedSimpArgs false
namespace Go.Proofs.YtikfeemmjfoffaaGreatDoor

theorem log_is {m d : Nat} (h1 : 2 ^ d ≤ m) (h2 : m < 2 ^ (d + 1)) : m.log2 = d := by
  have hm : m ≠ 0 := by have := Nat.two_pow_pos d; omega
  have h3 := Nat.log2_self_le hm
  have h4 := Nat.lt_log2_self (n := m)
  have h5 : d < m.log2 + 1 := (Nat.pow_lt_pow_iff_right (by decide : 1 < 2)).1 (Nat.lt_of_le_of_lt h1 h4)
  have h6 : m.log2 < d + 1 := (Nat.pow_lt_pow_iff_right (by decide : 1 < 2)).1 (Nat.lt_of_le_of_lt h3 h2)
  omega
theorem log_in {m : Nat} (hm : m ≠ 0) : 2 ^ m.log2 ≤ m ∧ m < 2 ^ (m.log2 + 1) := ⟨Nat.log2_self_le hm, Nat.lt_log2_self⟩
/-- The depth of a node. -/
def dpt (n : Nat) : Nat := (n + 1).log2
theorem dpt_zero : dpt 0 = 0 := log_is (d := 0) (by decide) (by decide)
theorem dpt_up {n : Nat} (h : 0 < n) : dpt n = dpt ((n - 1) / 2) + 1 := by
  obtain ⟨h1, h2⟩ := log_in (m := (n - 1) / 2 + 1) (by omega)
  refine log_is ?_ ?_
  · show 2 ^ (((n - 1) / 2 + 1).log2 + 1) ≤ n + 1
    rw [Nat.pow_succ]; omega
  · show n + 1 < 2 ^ (((n - 1) / 2 + 1).log2 + 1 + 1)
    rw [Nat.pow_succ]; omega
/-- The node of the great tree at a place of the tree below n. -/
def mapN (n j : Nat) : Nat := 2 ^ (j + 1).log2 * n + j
theorem mapN_zero (n : Nat) : mapN n 0 = n := by
  unfold mapN
  rw [show ((0 : Nat) + 1).log2 = 0 from log_is (d := 0) (by decide) (by decide)]
  omega
theorem mapN_level {n h i : Nat} (hi : i < 2 ^ h) : mapN n (2 ^ h - 1 + i) = 2 ^ h * (n + 1) - 1 + i := by
  have hp := Nat.two_pow_pos h
  unfold mapN
  rw [show 2 ^ h - 1 + i + 1 = 2 ^ h + i by omega, log_is (m := 2 ^ h + i) (d := h) (by omega) (by rw [Nat.pow_succ]; omega), Nat.mul_succ]
  generalize 2 ^ h * n = a
  omega
theorem mapN_kid {n j x : Nat} (hx : x = 1 ∨ x = 2) : mapN n (2 * j + x) = 2 * mapN n j + x := by
  obtain ⟨h1, h2⟩ := log_in (m := j + 1) (by omega)
  unfold mapN
  rw [log_is (m := 2 * j + x + 1) (d := (j + 1).log2 + 1) (by rw [Nat.pow_succ]; omega) (by rw [Nat.pow_succ, Nat.pow_succ] at *; omega), Nat.pow_succ, Nat.mul_right_comm]
  generalize 2 ^ (j + 1).log2 * n = a
  omega
theorem mapN_in {n j H d h : Nat} (hd : n + 1 < 2 ^ (d + 1)) (hj : j + 1 < 2 ^ H) (hh : H + d ≤ h) : mapN n j + 1 < 2 ^ h := by
  obtain ⟨h1, h2⟩ := log_in (m := j + 1) (by omega)
  obtain ⟨L, hL⟩ : ∃ L, L = (j + 1).log2 := ⟨_, rfl⟩
  unfold mapN
  rw [← hL] at h1 h2 ⊢
  have h3 : L < H := (Nat.pow_lt_pow_iff_right (by decide : 1 < 2)).1 (Nat.lt_of_le_of_lt h1 hj)
  have h4 : 2 ^ L * (n + 2) ≤ 2 ^ L * 2 ^ (d + 1) := Nat.mul_le_mul_left _ (by omega)
  rw [← Nat.pow_add] at h4
  have h5 : 2 ^ (L + (d + 1)) ≤ 2 ^ h := Nat.pow_le_pow_right (by decide) (by omega)
  rw [Nat.pow_succ] at h2
  rw [Nat.mul_add] at h4
  generalize 2 ^ L * n = a at *
  omega
def belowT (t : Tr) (n H : Nat) : Tr := ⟨H, t.b, (List.range (2 ^ H)).map fun i => t.lv.getD (2 ^ H * (n + 1) - 1 + i - t.tb.length) 0, (List.range (2 ^ H - 1)).map fun j => t.tb.getD (mapN n j) []⟩
structure BelowOk (t : Tr) (n d H h : Nat) : Prop where
  g : Good t
  th : t.h = h
  lo : 2 ^ d ≤ n + 1
  hi : n + 1 < 2 ^ (d + 1)
  sum : H + d = h
section
variable {t : Tr} {n d H h : Nat}
theorem BelowOk.pw (O : BelowOk t n d H h) : pw t.h = 2 ^ h := by rw [O.th]; rfl
theorem BelowOk.tl (O : BelowOk t n d H h) : t.tb.length + 1 = 2 ^ h := by have := O.g.tl; rw [O.pw] at this; have := Nat.two_pow_pos h; omega
theorem BelowOk.ll (O : BelowOk t n d H h) : t.lv.length = 2 ^ h := by rw [O.g.ll, O.pw]
theorem BelowOk.inner (O : BelowOk t n d H h) {j : Nat} (hj : j + 1 < 2 ^ H) : mapN n j < t.tb.length := by
  have := mapN_in O.hi hj (Nat.le_of_eq O.sum)
  have := O.tl
  omega
theorem BelowOk.leaf (O : BelowOk t n d H h) {i : Nat} (hi : i < 2 ^ H) : t.tb.length ≤ 2 ^ H * (n + 1) - 1 + i ∧ 2 ^ H * (n + 1) - 1 + i - t.tb.length < t.lv.length := by
  have h1 : 2 ^ H * 2 ^ d ≤ 2 ^ H * (n + 1) := Nat.mul_le_mul_left _ O.lo
  have h2 : 2 ^ H * (n + 2) ≤ 2 ^ H * 2 ^ (d + 1) := Nat.mul_le_mul_left _ O.hi
  rw [← Nat.pow_add, O.sum] at h1
  rw [← Nat.pow_add, ← Nat.add_assoc, O.sum, Nat.pow_succ] at h2
  have h3 := O.tl
  have h4 := O.ll
  rw [show n + 2 = (n + 1) + 1 by omega, Nat.mul_succ] at h2
  generalize 2 ^ H * (n + 1) = a at *
  omega
theorem BelowOk.good (O : BelowOk t n d H h) : Good (belowT t n H) := by
  have hp := Nat.two_pow_pos H
  have hh : H ≤ 6 := by have := O.g.h6; have := O.th; have := O.sum; omega
  refine ⟨by show (0 : Int) ≤ (H : Int); omega, by show (H : Int) ≤ 6; omega, O.g.b1, O.g.b6, ?_, ?_, ?_, ?_, ?_⟩
  · show (List.map _ _).length = 2 ^ ((H : Int).toNat) - 1
    rw [List.length_map, List.length_range, Int.toNat_natCast]
  · intro l hl
    obtain ⟨j, hj, rfl⟩ := List.mem_map.1 hl
    have hj := O.inner (j := j) (by have := List.mem_range.1 hj; omega)
    exact O.g.tw _ (by rw [List.getD_eq_getElem?_getD, List.getElem?_eq_getElem hj]; exact List.getElem_mem hj)
  · intro l hl
    obtain ⟨j, hj, rfl⟩ := List.mem_map.1 hl
    have hj := O.inner (j := j) (by have := List.mem_range.1 hj; omega)
    exact O.g.tv _ (by rw [List.getD_eq_getElem?_getD, List.getElem?_eq_getElem hj]; exact List.getElem_mem hj)
  · show (List.map _ _).length = 2 ^ ((H : Int).toNat)
    rw [List.length_map, List.length_range, Int.toNat_natCast]
  · intro x hx
    obtain ⟨i, hi, rfl⟩ := List.mem_map.1 hx
    have hi := (O.leaf (List.mem_range.1 hi)).2
    exact O.g.lv _ (by rw [List.getD_eq_getElem?_getD, List.getElem?_eq_getElem hi]; exact List.getElem_mem hi)
theorem BelowOk.val (O : BelowOk t n d H h) : ∀ (k j : Nat), 2 ^ (H + 1) - j ≤ k → j + 1 < 2 ^ (H + 1) → valW (belowT t n H) j = valW t (mapN n j)
  | 0, j, hk, hj => by omega
  | k + 1, j, hk, hj => by
    have hp := Nat.two_pow_pos H
    have hl : (belowT t n H).tb.length = 2 ^ H - 1 := by show (List.map _ _).length = _; rw [List.length_map, List.length_range]
    by_cases h1 : j + 1 < 2 ^ H
    · rw [valW_node (by omega), valW_node (O.inner h1), O.val k (2 * j + 1) (by omega) (by rw [Nat.pow_succ]; omega), O.val k (2 * j + 2) (by omega) (by rw [Nat.pow_succ]; omega), mapN_kid (.inl rfl), mapN_kid (.inr rfl)]
      have e : (belowT t n H).tb.getD j [] = t.tb.getD (mapN n j) [] := by
        show ((List.range (2 ^ H - 1)).map fun j => t.tb.getD (mapN n j) []).getD j [] = _
        rw [List.getD_eq_getElem?_getD, List.getElem?_map, List.getElem?_range (by omega)]
        rfl
      rw [e]
      rfl
    · obtain ⟨i, rfl⟩ : ∃ i, j = 2 ^ H - 1 + i := ⟨j - (2 ^ H - 1), by omega⟩
      have hi : i < 2 ^ H := by rw [Nat.pow_succ] at hj; omega
      obtain ⟨h2, h3⟩ := O.leaf hi
      rw [valW_leaf (by omega), mapN_level hi, valW_leaf h2, hl, show 2 ^ H - 1 + i - (2 ^ H - 1) = i by omega]
      show ((List.range (2 ^ H)).map fun i => t.lv.getD (2 ^ H * (n + 1) - 1 + i - t.tb.length) 0).getD i 0 = _
      rw [List.getD_eq_getElem?_getD, List.getElem?_map, List.getElem?_range hi]
      rfl
theorem BelowOk.root (O : BelowOk t n d H h) : valW (belowT t n H) 0 = valW t n := by
  rw [O.val _ 0 (Nat.le_refl _) (by have := Nat.two_pow_pos H; rw [Nat.pow_succ]; omega), mapN_zero]
end
end Go.Proofs.YtikfeemmjfoffaaGreatDoor
