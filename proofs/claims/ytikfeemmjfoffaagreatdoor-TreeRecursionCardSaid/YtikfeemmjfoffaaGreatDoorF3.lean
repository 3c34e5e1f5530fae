/- Fields: the laws of multiplication: it is commutative, associative and distributive, no product of elements other than 0 is 0, and the power q of an element is the element. -/
import Derived.Test.YtikfeemmjfoffaaGreatDoorF2
set_option linter.unusedVariables false
set_option linter.unusedSimpArgs false
set_option linter.unusedSectionVars false
namespace Go.Proofs.YtikfeemmjfoffaaGreatDoor

section
variable {M m : Nat}
theorem gp_lin_l : ∀ (k a a' b : Nat), gp M m k (a ^^^ a') b = gp M m k a b ^^^ gp M m k a' b
  | 0, _, _, _ => by simp [gp]
  | k + 1, a, a', b => by
    show (_ ^^^ gp M m k _ _) = (_ ^^^ gp M m k _ _) ^^^ (_ ^^^ gp M m k _ _)
    rw [xt_lin, gp_lin_l k, xor4]
    congr 1
    split <;> simp
theorem xor_half (a b : Nat) : (a ^^^ b) / 2 = a / 2 ^^^ b / 2 := by
  apply Nat.eq_of_testBit_eq
  intro i
  simp [Nat.testBit_div_two]
theorem xor_mod2 (b b' : Nat) : (b ^^^ b') % 2 = (b % 2 + b' % 2) % 2 := by
  have := Nat.testBit_xor b b' 0
  simp only [Nat.testBit_zero] at this
  rcases Nat.mod_two_eq_zero_or_one b with e | e <;> rcases Nat.mod_two_eq_zero_or_one b' with f | f <;> rcases Nat.mod_two_eq_zero_or_one (b ^^^ b') with g | g <;> simp [e, f, g] at this ⊢
theorem gp_lin_r : ∀ (k a b b' : Nat), gp M m k a (b ^^^ b') = gp M m k a b ^^^ gp M m k a b'
  | 0, _, _, _ => by simp [gp]
  | k + 1, a, b, b' => by
    show ((if (b ^^^ b') % 2 = 1 then a else 0) ^^^ gp M m k _ ((b ^^^ b') / 2)) = ((if b % 2 = 1 then a else 0) ^^^ gp M m k _ _) ^^^ ((if b' % 2 = 1 then a else 0) ^^^ gp M m k _ _)
    rw [xor_half, gp_lin_r k, xor4]
    congr 1
    rw [xor_mod2]
    rcases Nat.mod_two_eq_zero_or_one b with e | e <;> rcases Nat.mod_two_eq_zero_or_one b' with f | f <;> simp [e, f]
theorem gp_zero_l : ∀ (k b : Nat), gp M m k 0 b = 0
  | 0, _ => rfl
  | k + 1, b => by
    show ((if b % 2 = 1 then 0 else 0) ^^^ gp M m k (xt M m 0) (b / 2)) = 0
    rw [xt_zero, gp_zero_l k]
    simp
theorem gp_swap : ∀ (k l v b c : Nat), gp M m k (gp M m l v c) b = gp M m l (gp M m k v b) c
  | 0, l, v, b, c => (gp_zero_l l c).symm
  | k + 1, l, v, b, c => by
    show ((if b % 2 = 1 then gp M m l v c else 0) ^^^ gp M m k (xt M m (gp M m l v c)) (b / 2)) = gp M m l ((if b % 2 = 1 then v else 0) ^^^ gp M m k (xt M m v) (b / 2)) c
    rw [gp_lin_l, gp_xt, gp_swap k]
    congr 1
    split
    · rfl
    · rw [gp_zero_l]
theorem xt_small {a : Nat} (h : a * 2 < 2 ^ m) : xt M m a = a * 2 := by
  unfold xt
  rw [Nat.shiftLeft_eq, Nat.pow_one, stp_none h]
theorem gp_basis : ∀ (k i b : Nat), i + k ≤ m → b < 2 ^ k → gp M m k (2 ^ i) b = b * 2 ^ i
  | 0, i, b, _, h => by have : b = 0 := by { simpa using h }
                        subst this; simp [gp]
  | k + 1, i, b, h, hb => by
    show ((if b % 2 = 1 then 2 ^ i else 0) ^^^ gp M m k (xt M m (2 ^ i)) (b / 2)) = _
    rcases Nat.eq_zero_or_pos k with h0 | h0
    · subst h0
      have hb2 : b = 0 ∨ b = 1 := by simp at hb; omega
      rcases hb2 with rfl | rfl <;> simp [gp]
    · have h1 : 2 ^ i * 2 < 2 ^ m := by
        have := Nat.pow_lt_pow_right (a := 2) (by omega) (show i + 1 < m by omega)
        rwa [Nat.pow_succ] at this
      rw [xt_small h1, show 2 ^ i * 2 = 2 ^ (i + 1) from (Nat.pow_succ ..).symm, gp_basis k (i + 1) (b / 2) (by omega) (by rw [Nat.pow_succ] at hb; omega)]
      have e : b = 2 * (b / 2) + b % 2 := by omega
      have e2 : b / 2 * 2 ^ (i + 1) = 2 ^ (i + 1) * (b / 2) := Nat.mul_comm _ _
      rcases Nat.mod_two_eq_zero_or_one b with f | f
      · rw [f]
        simp only [Nat.zero_ne_one, if_false, Nat.zero_xor]
        rw [Nat.pow_succ]
        conv => rhs; rw [e, f]
        rw [Nat.add_zero, Nat.mul_comm 2, Nat.mul_assoc, Nat.mul_comm 2]
      · rw [f, if_pos rfl, e2]
        have h3 : 2 ^ i ^^^ 2 ^ (i + 1) * (b / 2) = 2 ^ (i + 1) * (b / 2) + 2 ^ i := by
          rw [Nat.xor_comm]
          have h4 : 2 ^ i < 2 ^ (i + 1) := Nat.pow_lt_pow_right (by omega) (by omega)
          apply Nat.eq_of_testBit_eq
          intro j
          rw [Nat.testBit_two_pow_mul_add _ h4, Nat.testBit_xor, Nat.testBit_two_pow_mul, Nat.testBit_two_pow]
          by_cases hj : j < i + 1
          · have h6 : decide (i + 1 ≤ j) = false := decide_eq_false (by omega)
            simp [hj, h6]
          · have : i ≠ j := by omega
            simp [hj, this]
            omega
        rw [h3]
        conv => rhs; rw [e, f]
        rw [Nat.pow_succ, Nat.add_mul, Nat.one_mul, Nat.mul_comm 2 (b / 2), Nat.mul_comm (b / 2 * 2), Nat.mul_assoc, Nat.mul_comm 2 (b / 2)]
theorem gp_one_l {b : Nat} (h : b < 2 ^ m) : gp M m m 1 b = b := by
  have := gp_basis (M := M) (m := m) m 0 b (by omega) h
  simpa using this
theorem gp_comm {a b : Nat} (ha : a < 2 ^ m) (hb : b < 2 ^ m) : gp M m m a b = gp M m m b a := by
  have h := gp_swap (M := M) (m := m) m m 1 b a
  rwa [gp_one_l ha, gp_one_l hb] at h
theorem gp_assoc {a b c : Nat} (hM : M.testBit m = true) (hM2 : M < 2 ^ (m + 1)) (ha : a < 2 ^ m) (hb : b < 2 ^ m) (hc : c < 2 ^ m) : gp M m m (gp M m m a b) c = gp M m m a (gp M m m b c) := by
  rw [gp_comm ha (gp_lt hM hM2 m c hb), gp_swap m m b a c, gp_comm hb ha]
/-- Two additive functions that agree on the powers of 2 agree. -/
theorem lin_ext {f h : Nat → Nat} {K : Nat} (hf : ∀ a b, a < 2 ^ K → b < 2 ^ K → f (a ^^^ b) = f a ^^^ f b) (hh : ∀ a b, a < 2 ^ K → b < 2 ^ K → h (a ^^^ b) = h a ^^^ h b) : ∀ (k : Nat), k ≤ K → (∀ i, i < k → f (2 ^ i) = h (2 ^ i)) → ∀ a, a < 2 ^ k → f a = h a
  | 0, _, _, a, ha => by
    have : a = 0 := by simpa using ha
    subst this
    have hp := Nat.two_pow_pos K
    have e1 := hf 0 0 hp hp
    have e2 := hh 0 0 hp hp
    simp at e1 e2
    rw [e1, e2]
  | k + 1, hk, hi, a, ha => by
    have ih := lin_ext hf hh k (by omega) (fun i h => hi i (by omega))
    have hkK : 2 ^ (k + 1) ≤ 2 ^ K := Nat.pow_le_pow_right (by omega) hk
    have hk1 : 2 ^ k < 2 ^ (k + 1) := Nat.pow_lt_pow_right (by omega) (by omega)
    by_cases hb : a.testBit k = true
    · have hlt : a ^^^ 2 ^ k < 2 ^ k := by
        refine lt_of_bits fun i h => ?_
        rw [Nat.testBit_xor, Nat.testBit_two_pow]
        rcases Nat.eq_or_lt_of_le h with rfl | h'
        · simp [hb]
        · have : k ≠ i := by omega
          rw [bits_of_lt ha (by omega)]
          simp [this]
      have e : a = (a ^^^ 2 ^ k) ^^^ 2 ^ k := by rw [Nat.xor_assoc, Nat.xor_self, Nat.xor_zero]
      rw [e, hf _ _ (by omega) (by omega), hh _ _ (by omega) (by omega), ih _ hlt, hi k (by omega)]
    · refine ih a (lt_of_bits fun i h => ?_)
      rcases Nat.eq_or_lt_of_le h with rfl | h'
      · simpa using hb
      · exact bits_of_lt ha (by omega)

def sqG (M m a : Nat) : Nat := gp M m m a a
theorem sqG_lin {a b : Nat} (ha : a < 2 ^ m) (hb : b < 2 ^ m) : sqG M m (a ^^^ b) = sqG M m a ^^^ sqG M m b := by
  unfold sqG
  rw [gp_lin_l, gp_lin_r, gp_lin_r, gp_comm hb ha, Nat.xor_assoc, ← Nat.xor_assoc (gp M m m a b), Nat.xor_self, Nat.zero_xor]
/-- Repeated squares. -/
def sqI (M m : Nat) : Nat → Nat → Nat
  | 0, a => a
  | n + 1, a => sqI M m n (sqG M m a)
/-- A table of images of the powers of 2, extended additively. -/
def linG : List Nat → Nat → Nat
  | [], _ => 0
  | x :: g, y => (if y % 2 = 1 then x else 0) ^^^ linG g (y / 2)
theorem linG_lin : ∀ (g : List Nat) (a b : Nat), linG g (a ^^^ b) = linG g a ^^^ linG g b
  | [], _, _ => by simp [linG]
  | x :: g, b, b' => by
    show ((if (b ^^^ b') % 2 = 1 then x else 0) ^^^ linG g ((b ^^^ b') / 2)) = ((if b % 2 = 1 then x else 0) ^^^ linG g (b / 2)) ^^^ ((if b' % 2 = 1 then x else 0) ^^^ linG g (b' / 2))
    rw [xor_half, linG_lin g, xor4]
    congr 1
    rw [xor_mod2]
    rcases Nat.mod_two_eq_zero_or_one b with e | e <;> rcases Nat.mod_two_eq_zero_or_one b' with f | f <;> simp [e, f]
theorem linG_zero : ∀ (g : List Nat), linG g 0 = 0
  | [] => rfl
  | x :: g => by
    show ((if 0 % 2 = 1 then x else 0) ^^^ linG g (0 / 2)) = 0
    rw [Nat.zero_div, linG_zero g]
    simp
/-- Powers. -/
def pwG (M m a : Nat) : Nat → Nat
  | 0 => 1
  | n + 1 => gp M m m (pwG M m a n) a
section
variable (hM : M.testBit m = true) (hM2 : M < 2 ^ (m + 1)) (hm : 1 ≤ m)
include hM hM2 hm
theorem one_lt : 1 < 2 ^ m := Nat.one_lt_two_pow (by omega)
theorem pwG_lt {a : Nat} (ha : a < 2 ^ m) : ∀ n, pwG M m a n < 2 ^ m
  | 0 => one_lt hM hM2 hm
  | n + 1 => gp_lt hM hM2 m a (pwG_lt ha n)
theorem pwG_add {a : Nat} (ha : a < 2 ^ m) (i : Nat) : ∀ j, pwG M m a (i + j) = gp M m m (pwG M m a i) (pwG M m a j)
  | 0 => by
    show pwG M m a i = gp M m m _ 1
    rw [gp_comm (pwG_lt hM hM2 hm ha i) (one_lt hM hM2 hm), gp_one_l (pwG_lt hM hM2 hm ha i)]
  | j + 1 => by
    show gp M m m (pwG M m a (i + j)) a = gp M m m _ (gp M m m (pwG M m a j) a)
    rw [pwG_add ha i j, gp_assoc hM hM2 (pwG_lt hM hM2 hm ha i) (pwG_lt hM hM2 hm ha j) ha]
theorem pwG_sq {a : Nat} (ha : a < 2 ^ m) : ∀ n, pwG M m (sqG M m a) n = pwG M m a (2 * n)
  | 0 => rfl
  | n + 1 => by
    show gp M m m (pwG M m (sqG M m a) n) (gp M m m a a) = gp M m m (gp M m m (pwG M m a (2 * n)) a) a
    rw [pwG_sq ha n, gp_assoc hM hM2 (pwG_lt hM hM2 hm ha _) ha ha]
theorem sqI_pw : ∀ (n : Nat) {a : Nat}, a < 2 ^ m → sqI M m n a = pwG M m a (2 ^ n)
  | 0, a, ha => by
    show a = gp M m m 1 a
    rw [gp_one_l ha]
  | n + 1, a, ha => by
    show sqI M m n (sqG M m a) = _
    rw [sqI_pw n (a := sqG M m a) (gp_lt hM hM2 m a ha), pwG_sq hM hM2 hm ha, Nat.pow_succ, Nat.mul_comm]
theorem sqI_lin : ∀ (n : Nat) {a b : Nat}, a < 2 ^ m → b < 2 ^ m → sqI M m n (a ^^^ b) = sqI M m n a ^^^ sqI M m n b
  | 0, _, _, _, _ => rfl
  | n + 1, a, b, ha, hb => by
    show sqI M m n (sqG M m (a ^^^ b)) = _
    rw [sqG_lin ha hb]
    exact sqI_lin n (gp_lt hM hM2 m a ha) (gp_lt hM hM2 m b hb)
/-- What the tables are checked for. -/
def fldOk (g : List Nat) (M m : Nat) : Bool := (List.range m).all fun i => sqI M m m (2 ^ i) == 2 ^ i && linG g (sqG M m (2 ^ i) ^^^ 2 ^ i) == (2 ^ i >>> 1) <<< 1
omit hM hM2 hm in
theorem fldOk_at {g : List Nat} (h : fldOk g M m = true) {i : Nat} (hi : i < m) : sqI M m m (2 ^ i) = 2 ^ i ∧ linG g (sqG M m (2 ^ i) ^^^ 2 ^ i) = (2 ^ i >>> 1) <<< 1 := by
  have := List.all_eq_true.1 h i (List.mem_range.2 hi)
  simpa using this
theorem pw_full {g : List Nat} (h : fldOk g M m = true) {a : Nat} (ha : a < 2 ^ m) : pwG M m a (2 ^ m) = a := by
  rw [← sqI_pw hM hM2 hm m ha]
  exact lin_ext (f := sqI M m m) (h := fun a => a) (K := m) (fun a b h1 h2 => sqI_lin hM hM2 hm m h1 h2) (fun _ _ _ _ => rfl) m (Nat.le_refl _) (fun i hi => (fldOk_at h hi).1) a ha
theorem idem {g : List Nat} (h : fldOk g M m = true) {u : Nat} (hu : u < 2 ^ m) (e : sqG M m u = u) : u = 0 ∨ u = 1 := by
  have h1 := lin_ext (f := fun a => linG g (sqG M m a ^^^ a)) (h := fun a => (a >>> 1) <<< 1) (K := m) (fun a b h1 h2 => by
    show linG g (sqG M m (a ^^^ b) ^^^ (a ^^^ b)) = linG g _ ^^^ linG g _
    rw [sqG_lin h1 h2, xor4, linG_lin]) (fun a b _ _ => by
    show ((a ^^^ b) >>> 1) <<< 1 = _
    rw [Nat.shiftRight_xor_distrib, Nat.shiftLeft_xor_distrib]) m (Nat.le_refl _) (fun i hi => (fldOk_at h hi).2) u hu
  simp only [e, Nat.xor_self, linG_zero] at h1
  rw [Nat.shiftLeft_eq, Nat.shiftRight_eq_div_pow] at h1
  omega
theorem gp_nz {g : List Nat} (h : fldOk g M m = true) {a b : Nat} (ha : a < 2 ^ m) (hb : b < 2 ^ m) (h0 : gp M m m a b = 0) : a = 0 ∨ b = 0 := by
  have hp : 2 ≤ 2 ^ m := one_lt hM hM2 hm
  obtain ⟨u, hu⟩ : ∃ u, u = pwG M m a (2 ^ m - 1) := ⟨_, rfl⟩
  have hul : u < 2 ^ m := by rw [hu]; exact pwG_lt hM hM2 hm ha _
  have h1 : gp M m m (pwG M m a (2 ^ m - 2)) a = u := by
    rw [hu, show 2 ^ m - 1 = (2 ^ m - 2) + 1 by omega]
    rfl
  have h2 : gp M m m u a = a := by
    have := pw_full hM hM2 hm h ha
    rw [show 2 ^ m = (2 ^ m - 1) + 1 by omega] at this
    rw [hu]
    exact this
  have h3 : sqG M m u = u := by
    show gp M m m u u = u
    conv => lhs; arg 5; rw [← h1]
    rw [← gp_assoc hM hM2 hul (pwG_lt hM hM2 hm ha _) ha, gp_comm hul (pwG_lt hM hM2 hm ha _), gp_assoc hM hM2 (pwG_lt hM hM2 hm ha _) hul ha, h2, h1]
  rcases idem hM hM2 hm h hul h3 with e | e
  · left
    rw [← h2, e, gp_zero_l]
  · right
    have : gp M m m u b = gp M m m (pwG M m a (2 ^ m - 2)) (gp M m m a b) := by rw [← h1, gp_assoc hM hM2 (pwG_lt hM hM2 hm ha _) ha hb]
    rw [h0, e, gp_one_l hb, gp_zero] at this
    exact this
end
end
def gT (m : Nat) : List Nat := ([[2, 0], [0, 4, 6], [6, 10, 8, 0], [0, 8, 10, 20, 14], [58, 38, 36, 20, 32, 0], [0, 20, 22, 114, 18, 64, 122], [188, 42, 40, 134, 44, 0, 142, 222], [0, 78, 76, 426, 72, 34, 418, 256, 88], [236, 134, 132, 782, 128, 962, 774, 0, 144, 662], [0, 72, 74, 478, 78, 862, 470, 512, 94, 1844, 894], [72, 3088, 3090, 520, 3094, 3458, 512, 272, 3078, 0, 3490, 1444], [0, 5376, 5378, 898, 5382, 5276, 906, 280, 5398, 3324, 5308, 4110, 970], [5106, 518, 516, 15878, 512, 4710, 15886, 276, 528, 0, 4678, 10312, 15950, 8792], [0, 276, 278, 1064, 274, 4986, 1056, 28002, 258, 1850, 4954, 25696, 1120, 16384, 28130], [1842, 29368, 29370, 32406, 29374, 30898, 32414, 36026, 29358, 64036, 30866, 0, 32478, 58964, 35898, 22674]] : List (List Nat)).getD (m - 2) []
set_option maxRecDepth 100000 in
theorem flds_ok : ∀ m, 2 ≤ m → m ≤ 16 → fldOk (gT m) (modT m) m = true := by
  intro m h1 h2
  have : ∀ m ∈ [2, 3, 4, 5, 6, 7, 8, 9, 10, 11, 12, 13, 14, 15, 16], fldOk (gT m) (modT m) m = true := by decide +kernel
  exact this m (by simp; omega)

/-! ### Powers modulo a prime -/
def choC : Nat → Nat → Nat
  | _, 0 => 1
  | 0, _ + 1 => 0
  | n + 1, k + 1 => choC n k + choC n (k + 1)
theorem choC_over : ∀ {n k : Nat}, n < k → choC n k = 0
  | 0, k + 1, _ => rfl
  | n + 1, k + 1, h => by show choC n k + choC n (k + 1) = 0; rw [choC_over (by omega), choC_over (by omega)]
theorem choC_self : ∀ n, choC n n = 1
  | 0 => rfl
  | n + 1 => by show choC n n + choC n (n + 1) = 1; rw [choC_self n, choC_over (by omega)]
theorem choC_step : ∀ (n k : Nat), (k + 1) * choC (n + 1) (k + 1) = (n + 1) * choC n k
  | 0, 0 => rfl
  | 0, k + 1 => by
    show (k + 2) * (choC 0 (k + 1) + choC 0 (k + 2)) = 1 * choC 0 (k + 1)
    simp [choC]
  | n + 1, 0 => by
    have this : 1 * choC (n + 1) 1 = (n + 1) * choC n 0 := choC_step n 0
    show 1 * (choC (n + 1) 0 + choC (n + 1) 1) = (n + 1 + 1) * choC (n + 1) 0
    have e : choC (n + 1) 0 = 1 := rfl
    have e0 : choC n 0 = 1 := by cases n <;> rfl
    rw [e0] at this
    rw [e]
    omega
  | n + 1, k + 1 => by
    have h1 := choC_step n k
    have h2 := choC_step n (k + 1)
    show (k + 1 + 1) * (choC (n + 1) (k + 1) + choC (n + 1) (k + 1 + 1)) = (n + 1 + 1) * choC (n + 1) (k + 1)
    have e : choC (n + 1) (k + 1) = choC n k + choC n (k + 1) := rfl
    rw [Nat.mul_add, h2, Nat.add_mul (k + 1) 1, h1, Nat.add_mul (n + 1) 1, e, Nat.mul_add (n + 1)]
    omega
/-- Sums over the numbers below k. -/
def sumTo (f : Nat → Nat) : Nat → Nat
  | 0 => 0
  | k + 1 => sumTo f k + f k
theorem sumTo_mul (f : Nat → Nat) (x : Nat) : ∀ k, sumTo f k * x = sumTo (fun i => f i * x) k
  | 0 => by simp [sumTo]
  | k + 1 => by show (sumTo f k + f k) * x = _ + _; rw [Nat.add_mul, sumTo_mul]
theorem sumTo_add (f g : Nat → Nat) : ∀ k, sumTo f k + sumTo g k = sumTo (fun i => f i + g i) k
  | 0 => rfl
  | k + 1 => by have := sumTo_add f g k; show (sumTo f k + f k) + (sumTo g k + g k) = _ + (f k + g k); omega
theorem sumTo_head (f : Nat → Nat) : ∀ k, sumTo f (k + 1) = f 0 + sumTo (fun i => f (i + 1)) k
  | 0 => by simp [sumTo]
  | k + 1 => by have := sumTo_head f k; show sumTo f (k + 1) + f (k + 1) = f 0 + (_ + f (k + 1)); omega
theorem binom (x : Nat) : ∀ n, (x + 1) ^ n = sumTo (fun i => choC n i * x ^ i) (n + 1)
  | 0 => by simp [sumTo, choC]
  | n + 1 => by
    have h1 : sumTo (fun i => choC (n + 1) i * x ^ i) (n + 1 + 1) = 1 + sumTo (fun i => (choC n i + choC n (i + 1)) * x ^ (i + 1)) (n + 1) := by
      rw [sumTo_head]
      simp [choC]
    have h2 : sumTo (fun i => (choC n i + choC n (i + 1)) * x ^ (i + 1)) (n + 1) = sumTo (fun i => choC n i * x ^ i) (n + 1) * x + sumTo (fun i => choC n (i + 1) * x ^ (i + 1)) (n + 1) := by
      rw [sumTo_mul, sumTo_add]
      congr 1
      funext i
      rw [Nat.add_mul, Nat.pow_succ, Nat.mul_assoc (choC n i)]
    have h3 : 1 + sumTo (fun i => choC n (i + 1) * x ^ (i + 1)) (n + 1) = sumTo (fun i => choC n i * x ^ i) (n + 1) := by
      have h4 := sumTo_head (fun i => choC n i * x ^ i) (n + 1)
      have h5 : sumTo (fun i => choC n i * x ^ i) (n + 1 + 1) = sumTo (fun i => choC n i * x ^ i) (n + 1) + choC n (n + 1) * x ^ (n + 1) := rfl
      rw [choC_over (by omega)] at h5
      have e0 : choC n 0 = 1 := by cases n <;> rfl
      simp only [e0] at h4
      simp at h4 h5
      omega
    rw [h1, h2, Nat.pow_succ, binom x n, Nat.mul_add]
    omega
theorem prm_cop {n a : Nat} (h : prmB n = true) (h0 : 0 < a) (hlt : a < n) : Nat.Coprime n a := by
  obtain ⟨h2, hp⟩ := prmB_iff.1 h
  have h1 : Nat.gcd n a ∣ n := Nat.gcd_dvd_left n a
  have h3 : Nat.gcd n a ≤ a := Nat.gcd_le_right _ h0
  have h4 : 0 < Nat.gcd n a := Nat.gcd_pos_of_pos_left _ (by omega)
  rcases Nat.lt_or_ge (Nat.gcd n a) 2 with h5 | h5
  · show Nat.gcd n a = 1; omega
  · exact absurd (Nat.mod_eq_zero_of_dvd h1) (hp _ h5 (by omega))
theorem prm_dvd {n a b : Nat} (h : prmB n = true) (h0 : 0 < a) (hlt : a < n) (hd : n ∣ a * b) : n ∣ b := (prm_cop h h0 hlt).dvd_of_dvd_mul_left hd
theorem choC_dvd {p k : Nat} (h : prmB p = true) (h0 : 0 < k) (hk : k < p) : p ∣ choC p k := by
  obtain ⟨n, rfl⟩ : ∃ n, p = n + 1 := ⟨p - 1, by omega⟩
  obtain ⟨j, rfl⟩ : ∃ j, k = j + 1 := ⟨k - 1, by omega⟩
  exact prm_dvd h h0 hk ⟨_, choC_step n j⟩
theorem sumTo_dvd {p : Nat} {f : Nat → Nat} : ∀ k, (∀ i, i < k → p ∣ f i) → p ∣ sumTo f k
  | 0, _ => ⟨0, rfl⟩
  | k + 1, h => Nat.dvd_add (sumTo_dvd k fun i hi => h i (by omega)) (h k (by omega))
theorem fermat {p : Nat} (h : prmB p = true) : ∀ a, a ^ p % p = a % p
  | 0 => by
    obtain ⟨h2, _⟩ := prmB_iff.1 h
    rw [Nat.zero_pow (by omega)]
  | a + 1 => by
    obtain ⟨h2, _⟩ := prmB_iff.1 h
    have e1 : sumTo (fun i => choC p i * a ^ i) (p + 1) = sumTo (fun i => choC p i * a ^ i) p + choC p p * a ^ p := rfl
    obtain ⟨n, rfl⟩ : ∃ n, p = n + 1 := ⟨p - 1, by omega⟩
    have e2 := sumTo_head (fun i => choC (n + 1) i * a ^ i) n
    obtain ⟨z, hz⟩ := sumTo_dvd (p := n + 1) (f := fun i => choC (n + 1) (i + 1) * a ^ (i + 1)) n (fun i hi => Nat.dvd_mul_right_of_dvd (choC_dvd h (by omega) (by omega)) _)
    have e0 : choC (n + 1) 0 * a ^ 0 = 1 := by simp [choC]
    rw [binom, e1, e2, hz, choC_self, Nat.one_mul, e0, Nat.add_assoc, Nat.add_comm ((n + 1) * z), ← Nat.add_assoc, Nat.add_mul_mod_self_left, Nat.add_mod, fermat h a, ← Nat.add_mod, Nat.add_comm]

/-! ### Fields -/
def pwI (mul : Int → Int → Int) (a : Int) : Nat → Int
  | 0 => 1
  | n + 1 => mul (pwI mul a n) a
structure FldOk (q : Int) (add mul : Int → Int → Int) (neg : Int → Int) : Prop extends AddOk q add where
  two : 2 ≤ q
  mrange : ∀ a b, 0 ≤ a → a < q → 0 ≤ b → b < q → 0 ≤ mul a b ∧ mul a b < q
  mcomm : ∀ a b, 0 ≤ a → a < q → 0 ≤ b → b < q → mul a b = mul b a
  massoc : ∀ a b c, 0 ≤ a → a < q → 0 ≤ b → b < q → 0 ≤ c → c < q → mul (mul a b) c = mul a (mul b c)
  distr : ∀ a b c, 0 ≤ a → a < q → 0 ≤ b → b < q → 0 ≤ c → c < q → mul (add a b) c = add (mul a c) (mul b c)
  one : ∀ a, 0 ≤ a → a < q → mul 1 a = a
  mzero : ∀ a, 0 ≤ a → a < q → mul 0 a = 0
  nz : ∀ a b, 0 ≤ a → a < q → 0 ≤ b → b < q → mul a b = 0 → a = 0 ∨ b = 0
  nrange : ∀ a, 0 ≤ a → a < q → 0 ≤ neg a ∧ neg a < q
  ngood : ∀ a, 0 ≤ a → a < q → add a (neg a) = 0
  full : ∀ a, 0 ≤ a → a < q → pwI mul a q.toNat = a
theorem emul_l (a b p : Int) : a % p * b % p = a * b % p := by rw [Int.mul_emod, Int.emod_emod, ← Int.mul_emod]
theorem emul_r (a b p : Int) : a * (b % p) % p = a * b % p := by rw [Int.mul_emod, Int.emod_emod, ← Int.mul_emod]
theorem pwI_mod {p : Nat} (hp : 2 ≤ p) (a : Nat) : ∀ n, pwI (fun a b => a * b % (p : Int)) a n = ((a ^ n % p : Nat) : Int)
  | 0 => by rw [Nat.pow_zero, Nat.mod_eq_of_lt (by omega)]; rfl
  | n + 1 => by
    show (pwI _ _ n * (a : Int) % (p : Int)) = _
    rw [pwI_mod hp a n, Nat.pow_succ, Int.natCast_emod, Int.natCast_emod, emul_l, Int.natCast_mul]
theorem pwI_congr {f g : Int → Int → Int} {a : Int} (h : ∀ x y, f x y = g x y) : ∀ n, pwI f a n = pwI g a n
  | 0 => rfl
  | n + 1 => by show f _ a = g _ a; rw [pwI_congr h n, h]
theorem mulF_one (P a b : Int) : mulF P 1 a b = a * b % P := rfl
theorem addF_one (P a b : Int) : addF P 1 a b = (a + b) % P := rfl
theorem fld_one {P : Int} (ok : okF P 1 = true) : FldOk P (addF P 1) (mulF P 1) (negF P 1) := by
  obtain ⟨⟨h2, h3⟩, _, _, hp⟩ := okF_iff.1 ok
  have A := addF_ok ok
  rw [ord_one ok] at A
  exact {
    toAddOk := A
    two := h2
    mrange := fun a b _ _ _ _ => ⟨Int.emod_nonneg _ (by omega), Int.emod_lt_of_pos _ (by omega)⟩
    mcomm := fun a b _ _ _ _ => by rw [mulF_one, mulF_one, Int.mul_comm]
    massoc := fun a b c _ _ _ _ _ _ => by simp only [mulF_one, emul_l, emul_r, Int.mul_assoc]
    distr := fun a b c _ _ _ _ _ _ => by simp only [mulF_one, addF_one, emul_l, Int.add_mul, Int.emod_add_emod, Int.add_emod_emod]
    one := fun a h0 h1 => by rw [mulF_one, Int.one_mul]; exact Int.emod_eq_of_lt h0 h1
    mzero := fun a _ _ => by rw [mulF_one, Int.zero_mul]; rfl
    nz := fun a b h0 h1 h2' h3' e => by
      rw [mulF_one] at e
      rcases Int.lt_or_eq_of_le h0 with h4 | h4
      · right
        have h5 : P.toNat ∣ a.toNat * b.toNat := by
          have : P ∣ a * b := Int.dvd_of_emod_eq_zero e
          rw [← Int.natCast_dvd_natCast]
          rwa [Int.natCast_mul, Int.toNat_of_nonneg (by omega), Int.toNat_of_nonneg h0, Int.toNat_of_nonneg h2']
        have h6 := prm_dvd hp (by omega) (by omega) h5
        rcases Nat.eq_zero_or_pos b.toNat with h7 | h7
        · omega
        · have := Nat.le_of_dvd h7 h6
          omega
      · exact .inl h4.symm
    nrange := fun a h0 h1 => ⟨Int.emod_nonneg _ (by omega), Int.emod_lt_of_pos _ (by omega)⟩
    ngood := fun a h0 h1 => by
      show (a + (P - a) % P) % P = 0
      rw [Int.add_emod_emod, show a + (P - a) = P by omega, Int.emod_self]
    full := fun a h0 h1 => by
      obtain ⟨x, rfl⟩ := Int.eq_ofNat_of_zero_le h0
      obtain ⟨p, rfl⟩ := Int.eq_ofNat_of_zero_le (show 0 ≤ P by omega)
      rw [pwI_congr (f := mulF (p : Int) 1) (g := fun a b => a * b % (p : Int)) (fun _ _ => rfl), pwI_mod (by omega), Int.toNat_natCast, fermat (by rwa [Int.toNat_natCast] at hp), Nat.mod_eq_of_lt (by omega)] }
theorem mulF_nat {m : Nat} (hm : 2 ≤ m) (x y : Nat) : mulF 2 (m : Int) (x : Int) (y : Int) = ((gp (modT m) m m x y : Nat) : Int) := by
  unfold mulF
  rw [if_neg (by omega)]
  rfl
theorem addF_nat {m : Nat} (hm : 2 ≤ m) (x y : Nat) : addF 2 (m : Int) (x : Int) (y : Int) = ((x ^^^ y : Nat) : Int) := by
  unfold addF
  rw [if_neg (by omega)]
  rfl
theorem pwI_gp {m : Nat} (hm : 2 ≤ m) (x : Nat) : ∀ n, pwI (mulF 2 (m : Int)) x n = ((pwG (modT m) m x n : Nat) : Int)
  | 0 => rfl
  | n + 1 => by
    show mulF 2 (m : Int) (pwI _ _ n) x = _
    rw [pwI_gp hm x n, mulF_nat hm]
    rfl
theorem fld_two {m : Nat} (h1 : 2 ≤ m) (h2 : m ≤ 16) (ok : okF 2 (m : Int) = true) : FldOk ((2 ^ m : Nat) : Int) (addF 2 m) (mulF 2 m) (negF 2 m) := by
  obtain ⟨hM, hM2⟩ := mod_bit h1 h2
  have hf := flds_ok m h1 h2
  have A := addF_ok ok
  rw [ord_two ok (by omega), Int.toNat_natCast] at A
  have hm1 : 1 ≤ m := by omega
  have nat : ∀ {a : Int}, 0 ≤ a → a < ((2 ^ m : Nat) : Int) → ∃ x : Nat, a = x ∧ x < 2 ^ m := fun {a} h0 h1 => ⟨a.toNat, by omega, by omega⟩
  exact {
    toAddOk := A
    two := by have := Nat.one_lt_two_pow (n := m) (by omega); omega
    mrange := fun a b a0 a1 b0 b1 => by
      obtain ⟨x, rfl, hx⟩ := nat a0 a1
      obtain ⟨y, rfl, hy⟩ := nat b0 b1
      rw [mulF_nat h1]
      have := gp_lt hM hM2 m y hx
      omega
    mcomm := fun a b a0 a1 b0 b1 => by
      obtain ⟨x, rfl, hx⟩ := nat a0 a1
      obtain ⟨y, rfl, hy⟩ := nat b0 b1
      rw [mulF_nat h1, mulF_nat h1, gp_comm hx hy]
    massoc := fun a b c a0 a1 b0 b1 c0 c1 => by
      obtain ⟨x, rfl, hx⟩ := nat a0 a1
      obtain ⟨y, rfl, hy⟩ := nat b0 b1
      obtain ⟨z, rfl, hz⟩ := nat c0 c1
      rw [mulF_nat h1, mulF_nat h1, mulF_nat h1, mulF_nat h1, gp_assoc hM hM2 hx hy hz]
    distr := fun a b c a0 a1 b0 b1 c0 c1 => by
      obtain ⟨x, rfl, hx⟩ := nat a0 a1
      obtain ⟨y, rfl, hy⟩ := nat b0 b1
      obtain ⟨z, rfl, hz⟩ := nat c0 c1
      rw [addF_nat h1, mulF_nat h1, mulF_nat h1, mulF_nat h1, addF_nat h1, gp_lin_l]
    one := fun a a0 a1 => by
      obtain ⟨x, rfl, hx⟩ := nat a0 a1
      rw [show (1 : Int) = ((1 : Nat) : Int) from rfl, mulF_nat h1, gp_one_l hx]
    mzero := fun a a0 a1 => by
      obtain ⟨x, rfl, hx⟩ := nat a0 a1
      rw [show (0 : Int) = ((0 : Nat) : Int) from rfl, mulF_nat h1, gp_zero_l]
    nz := fun a b a0 a1 b0 b1 e => by
      obtain ⟨x, rfl, hx⟩ := nat a0 a1
      obtain ⟨y, rfl, hy⟩ := nat b0 b1
      rw [mulF_nat h1] at e
      rcases gp_nz hM hM2 hm1 hf hx hy (by omega) with h | h
      · left; omega
      · right; omega
    nrange := fun a a0 a1 => by unfold negF; rw [if_neg (by omega)]; exact ⟨a0, a1⟩
    ngood := fun a a0 a1 => by
      obtain ⟨x, rfl, hx⟩ := nat a0 a1
      unfold negF
      rw [if_neg (by omega), addF_nat h1, Nat.xor_self]
      rfl
    full := fun a a0 a1 => by
      obtain ⟨x, rfl, hx⟩ := nat a0 a1
      rw [pwI_gp h1, Int.toNat_natCast, pw_full hM hM2 hm1 hf hx] }
theorem fldF {P M : Int} (ok : okF P M = true) : FldOk (ordF P M) (addF P M) (mulF P M) (negF P M) := by
  rcases ok_cases ok with ⟨rfl, a, b, e⟩ | ⟨rfl, m, h1, h2, rfl, e⟩
  · rw [e]; exact fld_one ok
  · rw [e]; exact fld_two h1 h2 ok
end Go.Proofs.YtikfeemmjfoffaaGreatDoor
