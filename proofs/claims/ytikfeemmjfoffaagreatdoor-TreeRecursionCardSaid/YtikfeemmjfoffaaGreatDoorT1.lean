/- Trees: the table of a bit of a node; plain. -/
import Derived.Test.YtikfeemmjfoffaaGreatDoorU2
import Derived.Test.YtikfeemmjfoffaaGreatDoorC13
set_option linter.unusedVariables false
set_option linter.unusedSimpArgs false
namespace Go.Proofs.YtikfeemmjfoffaaGreatDoor
open Go.RowKit

/-- A list of Booleans that is being filled. -/
def tabL (f : Nat → Bool) (l m : Nat) : List Bool := (List.range l).map fun i => if i < m then f i else false
theorem tabL_len (f : Nat → Bool) (l m : Nat) : (tabL f l m).length = l := by simp [tabL]
theorem tabL_zero (f : Nat → Bool) (l : Nat) : tabL f l 0 = List.replicate l false := by
  apply List.ext_getElem?
  intro j
  by_cases h : j < l <;> simp [tabL, h, List.getElem?_replicate]
theorem tabL_all (f : Nat → Bool) (l : Nat) : tabL f l l = (List.range l).map f := by
  apply List.ext_getElem?
  intro j
  by_cases h : j < l <;> simp [tabL, h]
theorem tabL_set (f : Nat → Bool) {l i : Nat} (h : i < l) : (tabL f l i).set i (f i) = tabL f l (i + 1) := by
  apply List.ext_getElem?
  intro j
  rw [List.getElem?_set, tabL_len]
  by_cases e : i = j
  · subst e; simp [tabL, h]
  · rw [if_neg e]
    by_cases hj : j < l
    · simp only [tabL, List.getElem?_map, List.getElem?_range hj, Option.map_some, Option.some.injEq]
      by_cases h2 : j < i
      · rw [if_pos h2, if_pos (by omega)]
      · rw [if_neg h2, if_neg (by omega)]
    · simp [tabL, hj]
/-- The bit of the table: the low half of the index is the left value. -/
def tabF (t : Tr) (n k i : Nat) : Bool := (ia (t.tb.getD n []) (i % pw t.b * pw t.b + i / pw t.b)).toNat.testBit k
def tabB (t : Tr) (n k : Nat) : List Bool := (List.range (pw (2 * t.b))).map (tabF t n k)
theorem tabB_len (t : Tr) (n k : Nat) : (tabB t n k).length = pw (2 * t.b) := by simp [tabB]
theorem tabB_get {t : Tr} {n k i : Nat} (h : i < pw (2 * t.b)) : ba (tabB t n k) i = tabF t n k i := by simp [ba, tabB, h]
/-- One step of filling the table. -/
structure StepT (t : Tr) (n k bn i a c y z v : Nat) : Prop where
  ea : a = i % 2 ^ bn
  ec : c = i / 2 ^ bn
  hz : z < (t.tb.getD n []).length
  ev : ia (t.tb.getD n []) z = (v : Int)
  hv : v < 64
  m1 : bits .and .i64 (i : Int) ((2 ^ bn - 1 : Nat) : Int) = (a : Int)
  m2 : (i : Int) / 2 ^ bn = (c : Int)
  m3 : IntKind.i64.wrap ((a : Int) * 2 ^ bn) = (y : Int)
  m4 : bits .or .i64 (y : Int) (c : Int) = (z : Int)
  m5 : bits BinOp.and .i64 ((v : Int) / 2 ^ k) 1 = bitI (v.testBit k)
  r3 : IntKind.i64.wrap ((a : Int) * ((2 ^ bn : Nat) : Int)) = (y : Int)
  r4 : IntKind.i64.wrap ((y : Int) + (c : Int)) = (z : Int)
  res : v.testBit k = tabF t n k i
theorem stepT {t : Tr} (g : Good t) {n : Nat} (hn : n < t.tb.length) (k : Nat) {bn : Nat} (hb : t.b = bn) {i : Nat} (hi : i < pw (2 * t.b)) : ∃ a c y z v, StepT t n k bn i a c y z v := by
  have hb6 : bn ≤ 6 := by have := g.b6; omega
  have epw : pw t.b = 2 ^ bn := by rw [hb]; rfl
  have ep2 : pw (2 * t.b) = 2 ^ bn * 2 ^ bn := by rw [pw_two (by omega), epw]
  have h64 : 2 ^ bn ≤ 64 := (Nat.pow_le_pow_right (by decide) hb6 : 2 ^ bn ≤ 2 ^ 6)
  have hp := Nat.two_pow_pos bn
  have hsq : 2 ^ bn * 2 ^ bn ≤ 4096 := Nat.mul_le_mul h64 h64
  obtain ⟨N, hN⟩ : ∃ N, N = 2 ^ bn := ⟨_, rfl⟩
  obtain ⟨a, ha⟩ : ∃ a, a = i % 2 ^ bn := ⟨_, rfl⟩
  obtain ⟨c, hc⟩ : ∃ c, c = i / 2 ^ bn := ⟨_, rfl⟩
  have ha1 : a < 2 ^ bn := by rw [ha]; exact Nat.mod_lt _ hp
  have hc1 : c < 2 ^ bn := by rw [hc]; exact Nat.div_lt_of_lt_mul (by omega)
  obtain ⟨y, hy⟩ : ∃ y, y = a * 2 ^ bn := ⟨_, rfl⟩
  have hz : y + c < 2 ^ bn * 2 ^ bn := by
    have h1 : (a + 1) * 2 ^ bn ≤ 2 ^ bn * 2 ^ bn := Nat.mul_le_mul_right _ ha1
    rw [Nat.add_mul, Nat.one_mul] at h1
    omega
  have hlen := g.tab hn
  have hzl : y + c < (t.tb.getD n []).length := by rw [hlen, ep2]; exact hz
  have hmem : t.tb.getD n [] ∈ t.tb := getD_mem hn
  have hx := g.tv _ hmem (ia (t.tb.getD n []) (y + c)) (getD_mem hzl)
  rw [epw] at hx
  have hvz : (ia (t.tb.getD n []) (y + c)).toNat < 64 := by omega
  have hi2 : i < 4096 := by omega
  have e1 : ((2 ^ bn - 1 : Nat) : Int) = (2 : Int) ^ bn - 1 := by rw [Int.natCast_sub hp]; simp
  have e3 : (a : Int) * 2 ^ bn = (y : Int) := by rw [hy]; simp
  have hyl : y ≤ 4096 := by omega
  refine ⟨a, c, y, y + c, (ia (t.tb.getD n []) (y + c)).toNat, ha, hc, hzl, by omega, hvz, ?_, ?_, ?_, ?_, b_and2 (by omega) k, ?_, ?_, ?_⟩
  · rw [e1, bits_mask .i64 62 (by decide) (fun m h0 h1 => IntWalk.i64_in m (by omega)) bn (by omega) _ (by omega) (by omega), ha]
    simp
  · rw [hc]; simp
  · rw [e3]; exact IntWalk.i64_in _ (by omega)
  · exact or_join (b := bn) (by rw [hy]; exact Nat.dvd_mul_left _ _) hc1 rfl (by omega) (by omega)
  · rw [show (a : Int) * ((2 ^ bn : Nat) : Int) = (y : Int) by rw [hy]; simp]; exact IntWalk.i64_in _ (by omega)
  · rw [show (y : Int) + (c : Int) = ((y + c : Nat) : Int) by simp]; exact IntWalk.i64_in _ (by omega)
  · unfold tabF
    rw [epw, ← ha, ← hc, ← hy]
theorem bit_one (b : Bool) : (bitI b == 1) = b := by cases b <;> rfl
end Go.Proofs.YtikfeemmjfoffaaGreatDoor
