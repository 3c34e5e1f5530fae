/- Fields: plain laws: primes, polynomials over two elements. -/
set_option linter.unusedVariables false
set_option linter.unusedSimpArgs false

namespace Go.Proofs.YtikfeemmjfoffaaGreatDoor

/-- n is a prime. -/
def prmB (n : Nat) : Bool := decide (2 ≤ n) && (List.range n).all fun d => decide (d < 2) || n % d != 0
theorem prmB_iff {n : Nat} : prmB n = true ↔ 2 ≤ n ∧ ∀ d, 2 ≤ d → d < n → n % d ≠ 0 := by
  simp only [prmB, Bool.and_eq_true, decide_eq_true_eq, List.all_eq_true, List.mem_range, Bool.or_eq_true, bne_iff_ne]
  constructor
  · rintro ⟨h1, h2⟩
    exact ⟨h1, fun d a b => (h2 d b).resolve_left (by omega)⟩
  · rintro ⟨h1, h2⟩
    exact ⟨h1, fun d b => by
      rcases Nat.lt_or_ge d 2 with h | h
      · exact .inl h
      · exact .inr (h2 d h b)⟩
theorem prm_sqrt {n d : Nat} (h2 : 2 ≤ n) (hd : n < d * d) (h : ∀ e, 2 ≤ e → e < d → n % e ≠ 0) : prmB n = true := by
  refine prmB_iff.2 ⟨h2, fun e e2 en e0 => ?_⟩
  obtain ⟨k, hk⟩ := Nat.dvd_of_mod_eq_zero e0
  have hk2 : 2 ≤ k := by
    rcases k with _ | _ | k
    · omega
    · omega
    · omega
  rcases Nat.lt_or_ge e d with h1 | h1
  · exact h e e2 h1 e0
  · have hkd : k < d := by
      rcases Nat.lt_or_ge k d with h3 | h3
      · exact h3
      · have := Nat.mul_le_mul h1 h3
        omega
    exact h k hk2 hkd (by rw [hk]; exact Nat.mul_mod_left e k)
theorem prm_not {n e : Nat} (e2 : 2 ≤ e) (he : e < n) (e0 : n % e = 0) : prmB n = false := by
  cases h : prmB n with
  | false => rfl
  | true => exact absurd e0 ((prmB_iff.1 h).2 e e2 he)
theorem sq_lt {n e : Nat} (e2 : 2 ≤ e) (he : e * e ≤ n) : e < n := by
  have := Nat.mul_le_mul_right e e2
  omega

section
variable (M m : Nat)
/-- Bit j of c is cleared by the modulus. -/
def stp (j c : Nat) : Nat := if c.testBit j then c ^^^ (M <<< (j - m)) else c
/-- Bits m + n - 1 to m are cleared, from the highest on. -/
def swp : Nat → Nat → Nat
  | 0, c => c
  | n + 1, c => swp n (stp M m (m + n) c)
def xt (a : Nat) : Nat := stp M m m (a <<< 1)
def clm : Nat → Nat → Nat → Nat
  | 0, _, _ => 0
  | k + 1, a, b => (if b % 2 = 1 then a else 0) ^^^ (clm k a (b / 2)) <<< 1
def gp : Nat → Nat → Nat → Nat
  | 0, _, _ => 0
  | k + 1, a, b => (if b % 2 = 1 then a else 0) ^^^ gp k (xt M m a) (b / 2)
end
variable {M m : Nat}
theorem xor4 (a b c d : Nat) : (a ^^^ b) ^^^ (c ^^^ d) = (a ^^^ c) ^^^ (b ^^^ d) := by
  rw [Nat.xor_assoc, Nat.xor_assoc, ← Nat.xor_assoc b c d, Nat.xor_comm b c, Nat.xor_assoc c b d]
theorem stp_lin (j c d : Nat) : stp M m j (c ^^^ d) = stp M m j c ^^^ stp M m j d := by
  unfold stp
  rw [Nat.testBit_xor]
  cases c.testBit j <;> cases d.testBit j <;> simp
  · rw [Nat.xor_assoc]
  · rw [Nat.xor_assoc, Nat.xor_assoc, Nat.xor_comm d]
  · rw [xor4, Nat.xor_self, Nat.xor_zero]
theorem swp_lin : ∀ (n c d : Nat), swp M m n (c ^^^ d) = swp M m n c ^^^ swp M m n d
  | 0, _, _ => rfl
  | n + 1, c, d => by show swp M m n _ = swp M m n _ ^^^ swp M m n _; rw [stp_lin, swp_lin n]
theorem lt_of_bits {c n : Nat} (h : ∀ i, n ≤ i → c.testBit i = false) : c < 2 ^ n := by
  refine Nat.lt_pow_two_of_testBit c fun i hi => h i hi
theorem bits_of_lt {c n i : Nat} (h : c < 2 ^ n) (hi : n ≤ i) : c.testBit i = false :=
  Nat.testBit_lt_two_pow (Nat.lt_of_lt_of_le h (Nat.pow_le_pow_right (by omega) hi))
theorem stp_lt (hM : M.testBit m = true) (hM2 : M < 2 ^ (m + 1)) {j c : Nat} (hj : m ≤ j) (hc : c < 2 ^ (j + 1)) : stp M m j c < 2 ^ j := by
  refine lt_of_bits fun i hi => ?_
  unfold stp
  by_cases hb : c.testBit j = true
  · rw [if_pos hb, Nat.testBit_xor, Nat.testBit_shiftLeft]
    rcases Nat.eq_or_lt_of_le hi with rfl | h
    · rw [hb, show j - (j - m) = m by omega, hM]; simp
    · rw [bits_of_lt hc (by omega), bits_of_lt hM2 (by omega)]; simp
  · rw [if_neg hb]
    rcases Nat.eq_or_lt_of_le hi with rfl | h
    · simpa using hb
    · exact bits_of_lt hc (by omega)
theorem swp_lt (hM : M.testBit m = true) (hM2 : M < 2 ^ (m + 1)) : ∀ {n c : Nat}, c < 2 ^ (m + n) → swp M m n c < 2 ^ m
  | 0, c, h => h
  | n + 1, c, h => swp_lt (n := n) hM hM2 (stp_lt (j := m + n) hM hM2 (by omega) h)
theorem stp_none {j c : Nat} (h : c < 2 ^ j) : stp M m j c = c := by unfold stp; rw [bits_of_lt h (Nat.le_refl _)]; rfl
theorem swp_more : ∀ {n k c : Nat}, c < 2 ^ (m + n) → swp M m (n + k) c = swp M m n c
  | n, 0, c, _ => rfl
  | n, k + 1, c, h => by
    show swp M m (n + k) (stp M m (m + (n + k)) c) = _
    rw [stp_none (Nat.lt_of_lt_of_le h (Nat.pow_le_pow_right (by omega) (by omega))), swp_more h]
theorem swp_small {n c : Nat} (h : c < 2 ^ m) : swp M m n c = c := by
  have := swp_more (M := M) (m := m) (n := 0) (k := n) (c := c) h
  rwa [Nat.zero_add] at this
theorem stp_dbl {j c : Nat} (hj : m ≤ j) : stp M m (j + 1) (c <<< 1) = stp M m j c <<< 1 := by
  have e : (c <<< 1).testBit (j + 1) = c.testBit j := by simp [Nat.testBit_shiftLeft]
  unfold stp
  rw [e]
  cases c.testBit j
  · rfl
  · simp only [if_true]
    rw [Nat.shiftLeft_xor_distrib, ← Nat.shiftLeft_add, show j - m + 1 = j + 1 - m by omega]
theorem swp_dbl : ∀ (n c : Nat), swp M m (n + 1) (c <<< 1) = xt M m (swp M m n c)
  | 0, c => rfl
  | n + 1, c => by
    show swp M m (n + 1) (stp M m (m + (n + 1)) (c <<< 1)) = _
    rw [← Nat.add_assoc, stp_dbl (by omega), swp_dbl n]
    rfl
theorem xt_lin (a b : Nat) : xt M m (a ^^^ b) = xt M m a ^^^ xt M m b := by unfold xt; rw [Nat.shiftLeft_xor_distrib, stp_lin]
theorem xt_zero : xt M m 0 = 0 := by unfold xt stp; simp
theorem xt_lt (hM : M.testBit m = true) (hM2 : M < 2 ^ (m + 1)) {a : Nat} (h : a < 2 ^ m) : xt M m a < 2 ^ m :=
  stp_lt hM hM2 (Nat.le_refl _) (by have e : a <<< 1 = a * 2 := Nat.shiftLeft_eq a 1; have : 2 ^ (m + 1) = 2 ^ m * 2 := Nat.pow_succ _ _; omega)
theorem gp_xt : ∀ (k a b : Nat), xt M m (gp M m k a b) = gp M m k (xt M m a) b
  | 0, _, _ => xt_zero
  | k + 1, a, b => by
    show xt M m (_ ^^^ gp M m k _ _) = _ ^^^ gp M m k _ _
    rw [xt_lin, gp_xt k]
    congr 1
    split
    · rfl
    · exact xt_zero
theorem gp_zero : ∀ (k a : Nat), gp M m k a 0 = 0
  | 0, _ => rfl
  | k + 1, a => by
    show (0 ^^^ gp M m k _ (0 / 2)) = 0
    rw [Nat.zero_div, gp_zero k]
    rfl
theorem swp_clm : ∀ (k a b : Nat), a < 2 ^ m → swp M m k (clm k a b) = gp M m k a b
  | 0, _, _, _ => rfl
  | k + 1, a, b, h => by
    show swp M m (k + 1) (_ ^^^ clm k a (b / 2) <<< 1) = _ ^^^ gp M m k _ _
    rw [swp_lin, swp_dbl, swp_clm k a _ h, gp_xt, swp_small (by split; exact h; exact Nat.two_pow_pos m)]
theorem gp_lt (hM : M.testBit m = true) (hM2 : M < 2 ^ (m + 1)) : ∀ (k : Nat) {a : Nat} (b : Nat), a < 2 ^ m → gp M m k a b < 2 ^ m
  | 0, _, _, _ => Nat.two_pow_pos m
  | k + 1, a, b, h => Nat.xor_lt_two_pow (by split; exact h; exact Nat.two_pow_pos m) (gp_lt hM hM2 k _ (xt_lt hM hM2 h))
theorem xor_lt' {a b n : Nat} (ha : a < 2 ^ n) (hb : b < 2 ^ n) : a ^^^ b < 2 ^ n := Nat.xor_lt_two_pow ha hb
theorem clm_lt : ∀ (k a b : Nat), a < 2 ^ m → clm k a b < 2 ^ (m + k)
  | 0, _, _, _ => Nat.two_pow_pos _
  | k + 1, a, b, h => by
    have h1 := clm_lt k a (b / 2) h
    refine xor_lt' ?_ ?_
    · split
      · exact Nat.lt_of_lt_of_le h (Nat.pow_le_pow_right (by omega) (by omega))
      · exact Nat.two_pow_pos _
    · have e : clm k a (b / 2) <<< 1 = clm k a (b / 2) * 2 := Nat.shiftLeft_eq _ 1
      have : 2 ^ (m + (k + 1)) = 2 ^ (m + k) * 2 := Nat.pow_succ _ _
      omega
/-- The reference's product before the division, bit by bit. -/
def cl (a b : Nat) : Nat → Nat
  | 0 => 0
  | i + 1 => if b.testBit i then cl a b i ^^^ (a <<< i) else cl a b i
theorem clm_top : ∀ (k a b : Nat), clm (k + 1) a b = clm k a b ^^^ (if b.testBit k then a <<< k else 0)
  | 0, a, b => by
    show ((if b % 2 = 1 then a else 0) ^^^ 0 <<< 1) = 0 ^^^ _
    rw [Nat.testBit_zero]
    by_cases h : b % 2 = 1 <;> simp [h]
  | k + 1, a, b => by
    show (_ ^^^ clm (k + 1) a (b / 2) <<< 1) = (_ ^^^ clm k a (b / 2) <<< 1) ^^^ _
    rw [clm_top k, Nat.shiftLeft_xor_distrib, Nat.testBit_succ, Nat.xor_assoc]
    congr 2
    split
    · rw [← Nat.shiftLeft_add]
    · simp
theorem cl_eq : ∀ (k a b : Nat), cl a b k = clm k a b
  | 0, _, _ => rfl
  | k + 1, a, b => by
    rw [clm_top, cl]
    split
    · rw [cl_eq k]
    · rw [cl_eq k]; simp
/-- The remainder. -/
def rst (a b : Nat) : Nat := swp b (Nat.log2 b) (Nat.log2 a + 1) a
theorem rst_eq {a b n : Nat} (h : a < 2 ^ (Nat.log2 b + n)) : rst a b = swp b (Nat.log2 b) n a := by
  have h1 : a < 2 ^ (Nat.log2 b + (Nat.log2 a + 1)) := Nat.lt_of_lt_of_le Nat.lt_log2_self (Nat.pow_le_pow_right (by omega) (by omega))
  unfold rst
  rcases Nat.le_total n (Nat.log2 a + 1) with h2 | h2
  · obtain ⟨k, hk⟩ := Nat.le.dest h2
    rw [← hk, swp_more h]
  · obtain ⟨k, hk⟩ := Nat.le.dest h2
    rw [← hk, swp_more h1]
/-- One step of the division. -/
theorem rst_step {a b : Nat} (ha : a ≠ 0) (hb : b ≠ 0) (h : Nat.log2 b ≤ Nat.log2 a) :
    rst a b = rst (a ^^^ b <<< (Nat.log2 a - Nat.log2 b)) b ∧ (a ^^^ b <<< (Nat.log2 a - Nat.log2 b)) < 2 ^ Nat.log2 a := by
  have hbit : a.testBit (Nat.log2 a) = true := Nat.testBit_log2 ha
  have hM : b.testBit (Nat.log2 b) = true := Nat.testBit_log2 hb
  have hM2 : b < 2 ^ (Nat.log2 b + 1) := Nat.lt_log2_self
  have h1 : a < 2 ^ (Nat.log2 a + 1) := Nat.lt_log2_self
  have e : stp b (Nat.log2 b) (Nat.log2 a) a = a ^^^ b <<< (Nat.log2 a - Nat.log2 b) := by unfold stp; rw [if_pos hbit]
  have h2 := stp_lt hM hM2 h h1
  rw [e] at h2
  refine ⟨?_, h2⟩
  obtain ⟨k, hk⟩ := Nat.le.dest h
  rw [rst_eq (n := k + 1) (by rw [← Nat.add_assoc, hk]; exact h1), rst_eq (n := k) (by rw [hk]; exact h2)]
  show swp _ _ k (stp _ _ (Nat.log2 b + k) a) = _
  rw [hk, e]
theorem rst_small {a b : Nat} (h : a < 2 ^ Nat.log2 b) : rst a b = a := by rw [rst_eq (n := 0) h]; rfl
theorem rst_clm {M m a b : Nat} (hm : Nat.log2 M = m) (ha : a < 2 ^ m) : rst (cl a b m) M = gp M m m a b := by
  subst hm
  rw [cl_eq, rst_eq (n := Nat.log2 M) (clm_lt _ _ _ ha), swp_clm _ _ _ ha]
/-- No polynomial of at most half the degree divides a. -/
def irrB (m a : Nat) : Bool := (List.range (2 ^ (m / 2 + 1))).all fun b => decide (b < 2) || rst a b != 0
def modT (m : Nat) : Nat := [7, 11, 19, 37, 67, 131, 283, 515, 1033, 2053, 4105, 8219, 16417, 32771, 65579].getD (m - 2) 0
def modOk (m : Nat) : Bool := decide (Nat.log2 (modT m) = m) && decide (2 ^ m ≤ modT m) && irrB m (modT m) && (List.range (modT m - 2 ^ m)).all fun i => !irrB m (2 ^ m + i)
set_option maxRecDepth 100000 in
theorem mods_ok : ∀ m, 2 ≤ m → m ≤ 16 → modOk m = true := by
  intro m h1 h2
  have : ∀ m ∈ [2, 3, 4, 5, 6, 7, 8, 9, 10, 11, 12, 13, 14, 15, 16], modOk m = true := by decide +kernel
  exact this m (by simp; omega)
/-- Powers by squaring. -/
def powF (mul : Int → Int → Int) : Nat → Int → Nat → Int → Int
  | 0, r, _, _ => r
  | f + 1, r, k, a => if k = 0 then r else powF mul f (if k % 2 = 1 then mul r a else r) (k / 2) (mul a a)
theorem powF_done (mul : Int → Int → Int) : ∀ (f : Nat) (r a : Int), powF mul f r 0 a = r
  | 0, _, _ => rfl
  | f + 1, r, a => by rw [powF, if_pos rfl]
end Go.Proofs.YtikfeemmjfoffaaGreatDoor