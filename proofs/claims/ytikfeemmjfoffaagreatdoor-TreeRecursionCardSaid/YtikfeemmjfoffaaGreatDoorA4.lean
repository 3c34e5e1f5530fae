/- The multilinear polynomial of a table has the table's values at 0 and 1; plain. -/
import Derived.Test.YtikfeemmjfoffaaGreatDoorA3
import Derived.Test.YtikfeemmjfoffaaGreatDoorL4
set_option linter.unusedVariables false
set_option linter.unusedSimpArgs false
set_option linter.unusedSectionVars false
namespace Go.Proofs.YtikfeemmjfoffaaGreatDoor

/-- The sum of the first m values of a function. -/
def sumR (P M : Int) (g : Nat → Int) : Nat → Int
  | 0 => 0
  | m + 1 => addF P M (sumR P M g m) (g m)
/-- The sum over the numbers that differ from i by clearing some of the lowest k bits. -/
def zet (P M : Int) (f : Nat → Int) : Nat → Nat → Int
  | 0, i => f i
  | k + 1, i => if i.testBit k then addF P M (zet P M f k (i - 2 ^ k)) (zet P M f k i) else zet P M f k i
/-- The lowest k bits of j are among those of i. -/
def subB (k j i : Nat) : Bool := (List.range k).all fun x => !j.testBit x || i.testBit x
theorem subB_succ (k j i : Nat) : subB (k + 1) j i = (subB k j i && (!j.testBit k || i.testBit k)) := by simp [subB, List.range_succ, List.all_append]
theorem subB_congr {k j j' i i' : Nat} (hj : ∀ x, x < k → j.testBit x = j'.testBit x) (hi : ∀ x, x < k → i.testBit x = i'.testBit x) : subB k j i = subB k j' i' := by
  unfold subB
  apply Bool.eq_iff_iff.2
  simp only [List.all_eq_true, List.mem_range]
  constructor
  · intro h x hx; rw [← hj x hx, ← hi x hx]; exact h x hx
  · intro h x hx; rw [hj x hx, hi x hx]; exact h x hx
theorem bit_sub {i k : Nat} (h : i.testBit k = true) (x : Nat) : (i - 2 ^ k).testBit x = if x = k then false else i.testBit x := by
  rw [← xor_sub h, Nat.testBit_xor, Nat.testBit_two_pow]
  by_cases e : x = k
  · subst e; simp [h]
  · have : k ≠ x := fun h => e h.symm
    simp [e, this]
theorem le_of_bit {i k : Nat} (h : i.testBit k = true) : 2 ^ k ≤ i := Nat.ge_two_pow_of_testBit h
section
variable {P M : Int} (ok : okF P M = true)
include ok
theorem sumR_in {g : Nat → Int} : ∀ m, (∀ j, j < m → inF P M (g j)) → inF P M (sumR P M g m)
  | 0, _ => zero_in ok
  | m + 1, h => addF_in ok (sumR_in m fun j hj => h j (by omega)) (h m (by omega))
omit ok in
theorem sumR_congr {g g' : Nat → Int} : ∀ m, (∀ j, j < m → g j = g' j) → sumR P M g m = sumR P M g' m
  | 0, _ => rfl
  | m + 1, h => by show addF P M _ _ = addF P M _ _; rw [sumR_congr m fun j hj => h j (by omega), h m (by omega)]
theorem sumR_zero {g : Nat → Int} : ∀ m, (∀ j, j < m → g j = 0) → sumR P M g m = 0
  | 0, _ => rfl
  | m + 1, h => by show addF P M _ _ = 0; rw [sumR_zero m fun j hj => h j (by omega), h m (by omega), aZ ok (zero_in ok)]
theorem sumR_add {g : Nat → Int} (a : Nat) : ∀ b, (∀ j, j < a + b → inF P M (g j)) → sumR P M g (a + b) = addF P M (sumR P M g a) (sumR P M (fun j => g (a + j)) b)
  | 0, h => (aZr ok (sumR_in ok a fun j hj => h j (by omega))).symm
  | b + 1, h => by
    show addF P M (sumR P M g (a + b)) (g (a + b)) = addF P M _ (addF P M _ (g (a + b)))
    rw [sumR_add a b fun j hj => h j (by omega), aA ok (sumR_in ok a fun j hj => h j (by omega)) (sumR_in ok b fun j hj => h (a + j) (by omega)) (h (a + b) (by omega))]
theorem zet_in {f : Nat → Int} : ∀ (k i : Nat), (∀ j, j ≤ i → inF P M (f j)) → inF P M (zet P M f k i)
  | 0, i, h => h i (Nat.le_refl _)
  | k + 1, i, h => by
    rw [zet]
    split
    · exact addF_in ok (zet_in k _ fun j hj => h j (Nat.le_trans hj (Nat.sub_le _ _))) (zet_in k i h)
    · exact zet_in k i h
omit ok in
/-- Only numbers with the same higher bits count. -/
theorem zet_congr {f g : Nat → Int} : ∀ (k i : Nat), (∀ j, j ≤ i → (∀ x, k ≤ x → j.testBit x = i.testBit x) → f j = g j) → zet P M f k i = zet P M g k i
  | 0, i, h => h i (Nat.le_refl _) fun _ _ => rfl
  | k + 1, i, h => by
    rw [zet, zet]
    have h2 : zet P M f k i = zet P M g k i := zet_congr k i fun j hj hb => h j hj fun x hx => hb x (by omega)
    split
    · rename_i hb
      rw [h2, zet_congr k (i - 2 ^ k) fun j hj hb' => h j (Nat.le_trans hj (Nat.sub_le _ _)) fun x hx => by
        rw [hb' x (by omega), bit_sub hb]
        have : x ≠ k := by omega
        rw [if_neg this]]
    · exact h2
/-- A step of the transform undone. -/
theorem zet_step {f g : Nat → Int} {k : Nat} : ∀ (m i : Nat), m ≤ k → i.testBit k = true → (∀ j, j ≤ i → inF P M (f j)) → (∀ j, j ≤ i → inF P M (g j)) → (∀ j, j ≤ i → j.testBit k = true → addF P M (g j) (f (j - 2 ^ k)) = f j) →
    addF P M (zet P M g m i) (zet P M f m (i - 2 ^ k)) = zet P M f m i
  | 0, i, _, hb, _, _, h => h i (Nat.le_refl _) hb
  | m + 1, i, hm, hb, hf, hg, h => by
    have hne : m ≠ k := by omega
    have e1 : (i - 2 ^ k).testBit m = i.testBit m := by rw [bit_sub hb, if_neg hne]
    rw [zet, zet, zet, e1]
    have h0 := zet_step m i (by omega) hb hf hg h
    split
    · rename_i hbm
      have hb2 : (i - 2 ^ m).testBit k = true := by rw [bit_sub hbm, if_neg (Ne.symm hne)]; exact hb
      have h1 := zet_step m (i - 2 ^ m) (by omega) hb2 (fun j hj => hf j (Nat.le_trans hj (Nat.sub_le _ _))) (fun j hj => hg j (Nat.le_trans hj (Nat.sub_le _ _))) (fun j hj => h j (Nat.le_trans hj (Nat.sub_le _ _)))
      have e2 : i - 2 ^ k - 2 ^ m = i - 2 ^ m - 2 ^ k := by omega
      rw [e2, a4 ok (zet_in ok _ _ fun j hj => hg j (Nat.le_trans hj (Nat.sub_le _ _))) (zet_in ok _ _ hg) (zet_in ok _ _ fun j hj => hf j (Nat.le_trans hj (Nat.le_trans (Nat.sub_le _ _) (Nat.sub_le _ _)))) (zet_in ok _ _ fun j hj => hf j (Nat.le_trans hj (Nat.sub_le _ _))), h1, h0]
    · exact h0
theorem zet_next {f g : Nat → Int} {k i : Nat} (hf : ∀ j, j ≤ i → inF P M (f j)) (hg : ∀ j, j ≤ i → inF P M (g j)) (h0 : ∀ j, j ≤ i → j.testBit k = false → g j = f j) (h1 : ∀ j, j ≤ i → j.testBit k = true → addF P M (g j) (f (j - 2 ^ k)) = f j) :
    zet P M g (k + 1) i = zet P M f k i := by
  rw [zet]
  split
  · rename_i hb
    rw [zet_congr (f := g) (g := f) k (i - 2 ^ k) fun j hj hb' => h0 j (Nat.le_trans hj (Nat.sub_le _ _)) (by rw [hb' k (Nat.le_refl _), bit_sub hb, if_pos rfl])]
    rw [aC ok (zet_in ok _ _ fun j hj => hf j (Nat.le_trans hj (Nat.sub_le _ _))) (zet_in ok _ _ hg)]
    exact zet_step ok k i (Nat.le_refl _) hb hf hg h1
  · rename_i hb
    exact zet_congr k i fun j hj hb' => h0 j hj (by rw [hb' k (Nat.le_refl _)]; simpa using hb)
theorem zet_sum {f : Nat → Int} : ∀ (k i : Nat), (∀ j, j ≤ i → inF P M (f j)) → sumR P M (fun j => if subB k j i then f (i - i % 2 ^ k + j) else 0) (2 ^ k) = zet P M f k i
  | 0, i, h => by
    show addF P M 0 (if subB 0 0 i then f (i - i % 2 ^ 0 + 0) else 0) = f i
    rw [show subB 0 0 i = true from rfl, if_pos rfl, Nat.pow_zero, Nat.mod_one, Nat.sub_zero, Nat.add_zero, aZ ok (h i (Nat.le_refl _))]
  | k + 1, i, h => by
    have hp := Nat.two_pow_pos k
    have hpp : 2 ^ (k + 1) = 2 ^ k + 2 ^ k := by rw [Nat.pow_succ]; omega
    have hmk := Nat.mod_lt i hp
    have hmk1 : i % 2 ^ (k + 1) = i % 2 ^ k + 2 ^ k * (if i.testBit k then 1 else 0) := by
      rw [Nat.mod_pow_succ, Nat.testBit_eq_decide_div_mod_eq]
      congr 2
      rcases Nat.mod_two_eq_zero_or_one (i / 2 ^ k) with e | e <;> simp [e]
    have hle : i % 2 ^ (k + 1) ≤ i := Nat.mod_le _ _
    have low : ∀ j, j < 2 ^ k → subB (k + 1) j i = subB k j i := fun j hj => by
      rw [subB_succ, Nat.testBit_lt_two_pow hj]; simp
    have hbits : ∀ j, j < 2 ^ k → ∀ x, x < k → (2 ^ k + j).testBit x = j.testBit x := fun j hj x hx => by
      have := Nat.testBit_two_pow_mul_add 1 hj x
      rw [Nat.mul_one] at this
      rw [this, if_pos hx]
    have htop : ∀ j, j < 2 ^ k → (2 ^ k + j).testBit k = true := fun j hj => by
      have := Nat.testBit_two_pow_mul_add 1 hj k
      rw [Nat.mul_one] at this
      rw [this, if_neg (by omega)]
      simp
    have hin : ∀ j, j < 2 ^ k + 2 ^ k → inF P M (if subB (k + 1) j i then f (i - i % 2 ^ (k + 1) + j) else 0) := fun j hj => by
      split
      · rename_i hs
        refine h _ ?_
        have hji : j ≤ i % 2 ^ (k + 1) := by
          refine Nat.le_of_testBit fun x hx => ?_
          rw [Nat.testBit_mod_two_pow]
          have hxk : x < k + 1 := Nat.lt_of_not_le fun hh => by
            rw [Nat.testBit_lt_two_pow (Nat.lt_of_lt_of_le (by rw [hpp]; exact hj) (Nat.pow_le_pow_right (by omega) hh))] at hx
            cases hx
          have := List.all_eq_true.1 hs x (List.mem_range.2 hxk)
          simp [hx] at this
          simp [hxk, this]
        omega
      · exact zero_in ok
    conv => lhs; arg 4; rw [hpp]
    rw [sumR_add ok _ _ hin, zet]
    split
    · rename_i hb
      rw [hb] at hmk1
      have hge := le_of_bit hb
      have hm2 : (i - 2 ^ k) % 2 ^ k = i % 2 ^ k := (Nat.mod_eq_sub_mod hge).symm
      congr 1
      · rw [← zet_sum k (i - 2 ^ k) fun j hj => h j (Nat.le_trans hj (Nat.sub_le _ _))]
        refine sumR_congr _ fun j hj => ?_
        rw [low j hj, subB_congr (j' := j) (i' := i - 2 ^ k) (fun _ _ => rfl) (fun x hx => by rw [bit_sub hb, if_neg (by omega)]), hm2]
        simp only [if_true, Nat.mul_one] at hmk1
        rw [show i - i % 2 ^ (k + 1) = i - 2 ^ k - i % 2 ^ k by omega]
      · rw [← zet_sum k i h]
        refine sumR_congr _ fun j hj => ?_
        show (if subB (k + 1) (2 ^ k + j) i then f (i - i % 2 ^ (k + 1) + (2 ^ k + j)) else 0) = _
        rw [subB_succ, htop j hj, hb, subB_congr (j' := j) (i' := i) (hbits j hj) (fun _ _ => rfl)]
        simp only [if_true, Nat.mul_one] at hmk1
        rw [show i - i % 2 ^ (k + 1) + (2 ^ k + j) = i - i % 2 ^ k + j by omega]
        simp
    · rename_i hb
      have hb' : i.testBit k = false := by simpa using hb
      rw [hb'] at hmk1
      simp only [Bool.false_eq_true, if_false, Nat.mul_zero, Nat.add_zero] at hmk1
      rw [← zet_sum k i h, sumR_zero ok (g := fun j => if subB (k + 1) (2 ^ k + j) i then f (i - i % 2 ^ (k + 1) + (2 ^ k + j)) else 0) _ (fun j hj => by
        show (if subB (k + 1) (2 ^ k + j) i then _ else (0 : Int)) = 0
        rw [subB_succ, htop j hj, hb']
        simp)]
      rw [aZr ok (sumR_in ok _ fun j hj => hin j (by omega))]
      refine sumR_congr _ fun j hj => ?_
      rw [low j hj, hmk1]

/-! ### The transform of a table -/
omit ok in
theorem ia_set {c : List Int} {i j : Nat} (v : Int) (h : i < c.length) : ia (c.set i v) j = if j = i then v else ia c j := by
  unfold ia
  rw [List.getD_eq_getElem?_getD, List.getElem?_set]
  by_cases e : i = j
  · subst e; simp [h]
  · have : j ≠ i := fun h => e h.symm
    simp [e, this]
omit ok in
theorem mlTo_ia (k : Nat) (c : List Int) : ∀ m, m ≤ c.length → ∀ i, ia (mlTo P M k c m) i = if i < m ∧ i.testBit k = true then addF P M (ia c i) (negF P M (ia c (i - 2 ^ k))) else ia c i
  | 0, _, i => by simp [mlTo]
  | m + 1, hm, i => by
    have ih := mlTo_ia k c m (by omega)
    rw [mlTo_succ]
    unfold mlStep
    split
    · rename_i hb
      have hlt : ¬ (m - 2 ^ k < m ∧ (m - 2 ^ k).testBit k = true) := fun h => by
        have := h.2
        rw [bit_sub hb, if_pos rfl] at this
        cases this
      rw [ia_set _ (by rw [mlTo_len]; omega), ih m, ih (m - 2 ^ k), if_neg (show ¬ (m < m ∧ m.testBit k = true) from fun h => Nat.lt_irrefl _ h.1), if_neg hlt]
      by_cases e : i = m
      · subst e
        rw [if_pos rfl, if_pos ⟨by omega, hb⟩]
      · rw [if_neg e, ih i]
        by_cases h2 : i < m ∧ i.testBit k = true
        · rw [if_pos h2, if_pos ⟨by omega, h2.2⟩]
        · rw [if_neg h2, if_neg fun h3 => h2 ⟨by omega, h3.2⟩]
    · rename_i hb
      rw [ih i]
      by_cases h2 : i < m ∧ i.testBit k = true
      · rw [if_pos h2, if_pos ⟨by omega, h2.2⟩]
      · rw [if_neg h2, if_neg fun h3 => h2 ⟨Nat.lt_of_le_of_ne (by omega) fun e => hb (e ▸ h3.2), h3.2⟩]
theorem mlTo_in (k : Nat) {c : List Int} (h : AllIn P M c) : ∀ m, m ≤ c.length → AllIn P M (mlTo P M k c m)
  | 0, _ => h
  | m + 1, hm => by rw [mlTo_succ]; exact mlStep_in ok (mlTo_in k h m (by omega)) (by rw [mlTo_len]; omega)
theorem mlAll_in {c : List Int} (h : AllIn P M c) : ∀ n, AllIn P M (mlAll P M c n)
  | 0 => h
  | n + 1 => by rw [mlAll_succ]; exact mlTo_in ok n (mlAll_in h n) _ (Nat.le_refl _)
theorem zet_all {c : List Int} (h : AllIn P M c) {i : Nat} (hi : i < c.length) : ∀ n, zet P M (fun j => ia (mlAll P M c n) j) n i = ia c i
  | 0 => rfl
  | n + 1 => by
    have hl := mlAll_len P M c n
    have hin := mlAll_in ok h n
    have hin1 := mlAll_in ok h (n + 1)
    have hl1 := mlAll_len P M c (n + 1)
    rw [← zet_all h hi n]
    refine zet_next ok (fun j hj => hin.ia (by omega)) (fun j hj => hin1.ia (by omega)) (fun j hj hb => ?_) (fun j hj hb => ?_)
    · show ia (mlAll P M c (n + 1)) j = _
      rw [mlAll_succ, mlTo_ia n _ _ (Nat.le_refl _), if_neg (by rw [hb]; simp)]
    · show addF P M (ia (mlAll P M c (n + 1)) j) _ = _
      rw [mlAll_succ, mlTo_ia n _ _ (Nat.le_refl _), if_pos ⟨by omega, hb⟩]
      have i1 : inF P M (ia (mlAll P M c n) j) := hin.ia (by omega)
      have i2 : inF P M (ia (mlAll P M c n) (j - 2 ^ n)) := hin.ia (Nat.lt_of_le_of_lt (Nat.sub_le _ _) (by omega))
      rw [aA ok i1 (negF_in ok i2) i2, aC ok (negF_in ok i2) i2, aN ok i2, aZr ok i1]

/-! ### Values at 0 and 1 -/
theorem bitsL_in {n i : Nat} : ∀ x ∈ bitsL n i, inF P M x := fun x hx => by
  obtain ⟨k, _, rfl⟩ := List.mem_map.1 hx
  unfold bitI
  split
  · exact one_in ok
  · exact zero_in ok
omit ok in
theorem ia_bitsL {n i k : Nat} (h : k < n) : ia (bitsL n i) k = bitI (i.testBit k) := by simp [ia, bitsL, h]
theorem monTo_bits {c : Int} (hc : inF P M c) {n i j : Nat} : ∀ k, k ≤ n → monTo P M c (bitsL n j) (bitsL n i) k = if subB k j i then c else 0
  | 0, _ => rfl
  | k + 1, hk => by
    show mulF P M (monTo P M c _ _ k) (pwF P M (ia (bitsL n i) k) (ia (bitsL n j) k).toNat) = _
    rw [monTo_bits hc k (by omega), ia_bitsL (by omega), ia_bitsL (by omega), subB_succ]
    have h1 : inF P M (if subB k j i then c else 0) := by
      split
      · exact hc
      · exact zero_in ok
    cases hj : j.testBit k with
    | false =>
      rw [show pwF P M (bitI (i.testBit k)) (bitI false).toNat = 1 from powF_done _ _ _ _, m1r ok h1]
      simp
    | true =>
      cases hi : i.testBit k with
      | false =>
        rw [show (bitI true).toNat = 1 from rfl, show bitI false = (0 : Int) from rfl, pwF_eq ok (zero_in ok) (by decide), show pwI (mulF P M) 0 1 = mulF P M 1 0 from rfl, m1 ok (zero_in ok), m0r ok h1]
        simp
      | true =>
        rw [show (bitI true).toNat = 1 from rfl, show bitI true = (1 : Int) from rfl, pwF_eq ok (one_in ok) (by decide), show pwI (mulF P M) 1 1 = mulF P M 1 1 from rfl, m1 ok (one_in ok), m1r ok h1]
        simp
theorem mlTerms_ok {n : Nat} {c : List Int} (h : AllIn P M c) {m : Nat} (hm : m ≤ c.length) (i : Nat) : EvOk P M (bitsL n i) (mlTerms n c m) := fun t ht => by
  obtain ⟨j, hj, _, rfl⟩ := mlTerms_mem ht
  exact ⟨h.ia (by omega), by rw [bitsL_len, bitsL_len]⟩
theorem evR_terms {n : Nat} {c : List Int} (h : AllIn P M c) (i : Nat) : ∀ m, m ≤ c.length → evR P M (bitsL n i) (mlTerms n c m) = sumR P M (fun j => if subB n j i then ia c j else 0) m
  | 0, _ => rfl
  | m + 1, hm => by
    have hc : inF P M (ia c m) := h.ia (by omega)
    have hv : monV P M ⟨ia c m, bitsL n m⟩ (bitsL n i) = if subB n m i then ia c m else 0 := by
      unfold monV
      dsimp only
      rw [bitsL_len, monTo_bits ok hc n (Nat.le_refl _)]
    rw [mlTerms_succ, evR_append ok (bitsL_in ok) (mlTerms_ok ok h (by omega) i) (fun t ht => by
      split at ht
      · cases ht
      · rw [List.mem_singleton.1 ht]
        exact ⟨hc, by rw [bitsL_len, bitsL_len]⟩), evR_terms h i m (by omega)]
    show _ = addF P M _ _
    congr 1
    split
    · rename_i h0
      show (0 : Int) = if subB n m i then ia c m else 0
      rw [h0]
      split <;> rfl
    · show addF P M _ 0 = _
      rw [hv, aZr ok (by split; exact hc; exact zero_in ok)]
omit ok in
theorem bitsT_in (ok : okF P M = true) (t : List Bool) : AllIn P M (t.map bitI) := fun x hx => by
  obtain ⟨b, _, rfl⟩ := List.mem_map.1 hx
  cases b
  · exact zero_in ok
  · exact one_in ok
/-- The polynomial of a table has its values. -/
theorem ml_val {t : List Bool} {n i : Nat} (hl : t.length = 2 ^ n) (hi : i < t.length) : evP P M (mlT P M t n) (bitsL n i) = bitI (ba t i) := by
  have hin := mlAll_in ok (bitsT_in ok t) n
  have hlen : (mlAll P M (t.map bitI) n).length = t.length := by rw [mlAll_len, List.length_map]
  have hev := mlTerms_ok (n := n) ok hin (m := t.length) (by omega) i
  have hT := evR_total ok (bitsL_in ok) (mlTerms n (mlAll P M (t.map bitI) n) t.length).length (l := (mlTerms n (mlAll P M (t.map bitI) n) t.length).map fun t => [t]) (by simp) (fun p hp x hx => by
    obtain ⟨u, hu, rfl⟩ := List.mem_map.1 hp
    rw [List.mem_singleton.1 hx]
    exact hev u hu)
  have e1 := evP_R ok (bitsL_in ok) (p := mlT P M t n) hT.1
  rw [e1]
  unfold mlT
  rw [evR_singles ok (bitsL_in ok) hev, evR_terms ok hin i _ (by omega)]
  have e2 := zet_sum ok (f := fun j => ia (mlAll P M (t.map bitI) n) j) n i (fun j hj => hin.ia (by omega))
  rw [show i - i % 2 ^ n = 0 by rw [Nat.mod_eq_of_lt (by omega)]; omega] at e2
  simp only [Nat.zero_add] at e2
  rw [hl, e2, zet_all ok (bitsT_in ok t) (by rw [List.length_map]; exact hi)]
  simp [ia, ba, hi]
/-- Its exponents are at most 1. -/
theorem ml_exp {t : List Bool} {n : Nat} (hl : t.length = 2 ^ n) : ∀ z ∈ mlT P M t n, z.e.length = n ∧ ∀ x ∈ z.e, 0 ≤ x ∧ x ≤ 1 := fun z hz => by
  have hin := mlAll_in ok (bitsT_in ok t) n
  have hlen : (mlAll P M (t.map bitI) n).length = t.length := by rw [mlAll_len, List.length_map]
  have hw : ∀ u ∈ mlTerms n (mlAll P M (t.map bitI) n) t.length, u.e.length = n ∧ 1 ≤ u.c ∧ u.c < ordF P M := fun u hu => by
    obtain ⟨j, hj, h0, rfl⟩ := mlTerms_mem hu
    have h := hin.ia (i := j) (by omega)
    exact ⟨bitsL_len n j, by have := h.1; dsimp only; omega, h.2⟩
  obtain ⟨h1, h2⟩ := totalT_spec (n := n) (addF_ok ok) (mlTerms n (mlAll P M (t.map bitI) n) t.length).length (l := (mlTerms n (mlAll P M (t.map bitI) n) t.length).map fun t => [t]) (by simp) (fun p hp => by
    obtain ⟨u, hu, rfl⟩ := List.mem_map.1 hp
    exact ⟨List.pairwise_singleton _ _, fun x hx => by rw [List.mem_singleton.1 hx]; exact (hw u hu).1, fun x hx => by rw [List.mem_singleton.1 hx]; exact (hw u hu).2⟩)
  have h3 := h1.coef_ne (addF_ok ok) hz
  have h4 := h1.c z hz
  have hW : Within (ordF P M) (mlTerms n (mlAll P M (t.map bitI) n) t.length) := within_of hw
  rw [h2, sumC_single (addF_ok ok) _ hW] at h3
  obtain ⟨u, hu, e⟩ := coef_mem (add := addF P M) (l := mlTerms n (mlAll P M (t.map bitI) n) t.length) (e := z.e) (by omega)
  obtain ⟨j, hj, _, rfl⟩ := mlTerms_mem hu
  rw [← e]
  refine ⟨bitsL_len n j, fun x hx => ?_⟩
  obtain ⟨k, _, rfl⟩ := List.mem_map.1 hx
  unfold bitI
  split <;> omega
end
end Go.Proofs.YtikfeemmjfoffaaGreatDoor
