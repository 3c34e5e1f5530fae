/- Joined: O1, O2, O3, O4, O5. -/
import Derived.Test.YtinpmdekdfgiiaaD4
import Derived.Test.YtinpmdekdfgiiaaM4
/- Plain law of Formula: the formula of a program, its size and nesting, and the number of sequences. -/
set_option linter.unusedVariables false
set_option linter.unusedSimpArgs false
namespace Go.Proofs.Ytinpmdekdfgiiaa

/-- One child's part. -/
def mnA (c : Int) (m : Nat × Nat) (a : Nat × Nat) : Nat × Nat := if c < 0 then (a.1 + 1, a.2) else (min (a.1 + m.1) 40000, max a.2 m.2)
def mnK (z o : Int) (mz mo : Nat × Nat) : Nat × Nat :=
  if z = o then (if z < 0 then (1, 1) else mz) else ((mnA o mo (mnA z mz (6, 1))).1, (mnA o mo (mnA z mz (6, 1))).2 + 3)
def mnF (l : List Nd) : Nat → Nat → Nat × Nat
  | 0, _ => (0, 0)
  | f + 1, k => mnK (nz l k) (no l k) (mnF l f (nz l k).toNat) (mnF l f (no l k).toNat)
/-- The number of nodes and the nesting of the formula of a node. -/
def mn (l : List Nd) (k : Nat) : Nat × Nat := mnF l l.length k
theorem mnK_congr {z o : Int} {a a' b b' : Nat × Nat} (h1 : 0 ≤ z → a = a') (h2 : 0 ≤ o → b = b') : mnK z o a b = mnK z o a' b' := by
  unfold mnK mnA
  by_cases hz : z < 0
  · by_cases ho : o < 0
    · simp only [if_pos hz, if_pos ho]
    · simp only [if_pos hz, if_neg ho]; rw [h2 (by omega)]
  · by_cases ho : o < 0
    · simp only [if_neg hz, if_pos ho]; rw [h1 (by omega)]
    · simp only [if_neg hz, if_neg ho]; rw [h1 (by omega), h2 (by omega)]
theorem mnF_stable {n s : Int} {l : List Nd} (hv : validB n s l = true) : ∀ (f g : Nat) (k : Nat), k < l.length → l.length - k ≤ f → l.length - k ≤ g → mnF l f k = mnF l g k := by
  intro f
  induction f with
  | zero => intro g k h1 h2; omega
  | succ f ih =>
    intro g k h1 h2 h3
    cases g with
    | zero => omega
    | succ g =>
      have h := valid_node hv h1
      unfold mnF
      exact mnK_congr (fun h0 => ih g _ (by omega) (by omega) (by omega)) (fun h0 => ih g _ (by omega) (by omega) (by omega))
theorem mn_eq {n s : Int} {l : List Nd} (hv : validB n s l = true) {k : Nat} (hk : k < l.length) : mn l k = mnK (nz l k) (no l k) (mn l (nz l k).toNat) (mn l (no l k).toNat) := by
  have h := valid_node hv hk
  have e : mn l k = mnF l (l.length - k - 1 + 1) k := mnF_stable hv _ _ _ hk (by omega) (by omega)
  rw [e]
  unfold mnF mn
  exact mnK_congr (fun h0 => mnF_stable hv _ _ _ (by omega) (by omega) (by omega)) (fun h0 => mnF_stable hv _ _ _ (by omega) (by omega) (by omega))

/-- The formula. -/
def tfK (v z o : Int) (fz fo : Fm) : Fm := if z = o then fz else .mk 4 0 [.mk 3 0 [.mk 0 v [], fo], .mk 3 0 [.mk 2 0 [.mk 0 v []], fz]]
def tfE (c : Int) : Fm := .mk 1 (if c = -2 then 1 else 0) []
def tfF (l : List Nd) : Nat → Int → Fm
  | 0, c => tfE c
  | f + 1, c => if c < 0 then tfE c else tfK (nv l c.toNat) (nz l c.toNat) (no l c.toNat) (tfF l f (nz l c.toNat)) (tfF l f (no l c.toNat))
def tf (l : List Nd) (c : Int) : Fm := tfF l l.length c
theorem tfF_neg (l : List Nd) (f : Nat) {c : Int} (h : c < 0) : tfF l f c = tfE c := by
  cases f with
  | zero => rfl
  | succ f => unfold tfF; rw [if_pos h]
theorem tf_neg (l : List Nd) {c : Int} (h : c < 0) : tf l c = tfE c := tfF_neg l _ h
theorem tfF_stable {n s : Int} {l : List Nd} (hv : validB n s l = true) : ∀ (f g : Nat) (k : Nat), k < l.length → l.length - k ≤ f → l.length - k ≤ g → tfF l f k = tfF l g k := by
  intro f
  induction f with
  | zero => intro g k h1 h2; omega
  | succ f ih =>
    intro g k h1 h2 h3
    cases g with
    | zero => omega
    | succ g =>
      have h := valid_node hv h1
      have hc : ∀ c : Int, (c = -1 ∨ c = -2 ∨ ((k : Int) < c ∧ c < l.length)) → tfF l f c = tfF l g c := by
        intro c hc
        by_cases h0 : c < 0
        · rw [tfF_neg _ _ h0, tfF_neg _ _ h0]
        · obtain ⟨c, rfl⟩ : ∃ m : Nat, c = m := ⟨c.toNat, by omega⟩
          exact ih g c (by omega) (by omega) (by omega)
      unfold tfF
      rw [if_neg (by omega), if_neg (by omega), show ((k : Int)).toNat = k from by simp, hc _ h.2.2.1, hc _ h.2.2.2]
theorem tf_eq {n s : Int} {l : List Nd} (hv : validB n s l = true) {k : Nat} (hk : k < l.length) : tf l (k : Nat) = tfK (nv l k) (nz l k) (no l k) (tf l (nz l k)) (tf l (no l k)) := by
  have h := valid_node hv hk
  have hc : ∀ c : Int, (c = -1 ∨ c = -2 ∨ ((k : Int) < c ∧ c < l.length)) → tfF l (l.length - k - 1) c = tf l c := by
    intro c hc
    by_cases h0 : c < 0
    · rw [tfF_neg _ _ h0, tf_neg _ h0]
    · obtain ⟨c, rfl⟩ : ∃ m : Nat, c = m := ⟨c.toNat, by omega⟩
      exact tfF_stable hv _ _ _ (by omega) (by omega) (by omega)
  have e : tf l (k : Nat) = tfF l (l.length - k - 1 + 1) (k : Nat) := tfF_stable hv _ _ _ hk (by omega) (by omega)
  rw [e]
  unfold tfF
  rw [if_neg (by omega), show ((k : Int)).toNat = k from by simp, hc _ h.2.2.1, hc _ h.2.2.2]

theorem ev_ite (x : Nat → Bool) (v : Int) (fz fo : Fm) : evF x (.mk 4 0 [.mk 3 0 [.mk 0 v [], fo], .mk 3 0 [.mk 2 0 [.mk 0 v []], fz]]) = ((x v.toNat && evF x fo) || (!x v.toNat && evF x fz)) := by
  simp [evF, evL, evK, appB]
def TfOk (n : Int) (l : List Nd) (c : Int) : Prop := shpF (tf l c) = true ∧ inpF (tf l c) ≤ n ∧ (∀ x, evF x (tf l c) = valN l x c)
theorem tf_shape_neg {n : Int} {l : List Nd} (hn : 0 ≤ n) {c : Int} (h0 : c < 0) : TfOk n l c := by
  unfold TfOk
  rw [tf_neg _ h0]
  unfold tfE
  refine ⟨?_, ?_, fun x => ?_⟩
  · split <;> rfl
  · simp only [inpF, inpL]; simp; omega
  · rw [ev_const x rfl, valN_neg _ _ h0]
    simp only [Fm.n]
    by_cases e : c = -2
    · subst e; rfl
    · rw [if_neg e]
      simp [e]
theorem tf_shape {n s : Int} {l : List Nd} (hv : validB n s l = true) : ∀ (m : Nat) (k : Nat), k < l.length → l.length - k ≤ m → TfOk n l (k : Nat) := by
  obtain ⟨hi0, hi1, hln, hs⟩ := valid_start hv
  intro m
  induction m with
  | zero => intro k h1 h2; omega
  | succ m ih =>
    intro k h1 h2
    have h := valid_node hv (k := k) (by omega)
    have hc : ∀ c : Int, (c = -1 ∨ c = -2 ∨ ((k : Int) < c ∧ c < l.length)) → TfOk n l c := by
      intro c hc
      by_cases h0 : c < 0
      · exact tf_shape_neg hi0 h0
      · have := ih c.toNat (by omega) (by omega)
        rwa [Int.toNat_of_nonneg (by omega)] at this
    have i1 := hc _ h.2.2.1
    have i2 := hc _ h.2.2.2
    unfold TfOk at i1 i2 ⊢
    rw [tf_eq hv (by omega)]
    unfold tfK
    split
    · next e =>
      refine ⟨i1.1, i1.2.1, fun x => ?_⟩
      rw [i1.2.2, valN_step hv x (by omega)]
      unfold stepN pk
      rw [show ((k : Int)).toNat = k from by simp, ← e]
      split <;> rfl
    · refine ⟨?_, ?_, fun x => ?_⟩
      · simp [shpF, shpL, nodeB, i1.1, i2.1]
        omega
      · have a := i1.2.1
        have b := i2.2.1
        simp only [inpF, inpL]
        simp
        omega
      · rw [ev_ite, i1.2.2, i2.2.2, valN_step hv x (k := k) (by omega)]
        unfold stepN pk
        rw [show ((k : Int)).toNat = k from by simp]
        cases x (nv l k).toNat <;> simp
theorem tf_size {n s : Int} {l : List Nd} (hv : validB n s l = true) : ∀ (m : Nat) (k : Nat), k < l.length → l.length - k ≤ m →
    ((mn l k).1 ≤ 20000 → cntF (tf l (k : Nat)) ≤ (mn l k).1) ∧ depF (tf l (k : Nat)) ≤ (mn l k).2 := by
  intro m
  induction m with
  | zero => intro k h1 h2; omega
  | succ m ih =>
    intro k h1 h2
    have h := valid_node hv h1
    rw [tf_eq hv h1, mn_eq hv h1]
    have hc : ∀ c : Int, (c = -1 ∨ c = -2 ∨ ((k : Int) < c ∧ c < l.length)) → (c < 0 ∧ cntF (tf l c) = 1 ∧ depF (tf l c) = 1) ∨ (0 ≤ c ∧ ((mn l c.toNat).1 ≤ 20000 → cntF (tf l c) ≤ (mn l c.toNat).1) ∧ depF (tf l c) ≤ (mn l c.toNat).2) := by
      intro c hc
      by_cases h0 : c < 0
      · left
        rw [tf_neg _ h0]
        exact ⟨h0, by simp [tfE, cntF, cntL], by simp [tfE, depF, depL]⟩
      · right
        have := ih c.toNat (by omega) (by omega)
        rw [Int.toNat_of_nonneg (by omega)] at this
        exact ⟨by omega, this.1, this.2⟩
    have h1 := hc _ h.2.2.1
    have h2 := hc _ h.2.2.2
    generalize mn l (nz l k).toNat = mz at *
    generalize mn l (no l k).toNat = mo at *
    generalize tf l (nz l k) = fz at *
    generalize tf l (no l k) = fo at *
    unfold mnK tfK
    by_cases e : nz l k = no l k
    · rw [if_pos e, if_pos e]
      rcases h1 with ⟨a, b, c⟩ | ⟨a, b, c⟩
      · rw [if_pos a]; exact ⟨fun _ => by omega, by omega⟩
      · rw [if_neg (by omega)]; exact ⟨b, c⟩
    · rw [if_neg e, if_neg e]
      have ec : cntF (.mk 4 0 [.mk 3 0 [.mk 0 (nv l k) [], fo], .mk 3 0 [.mk 2 0 [.mk 0 (nv l k) []], fz]]) = 6 + cntF fo + cntF fz := by simp [cntF, cntL]; omega
      have ed : depF (.mk 4 0 [.mk 3 0 [.mk 0 (nv l k) [], fo], .mk 3 0 [.mk 2 0 [.mk 0 (nv l k) []], fz]]) ≤ 3 + max 1 (max (depF fz) (depF fo)) := by simp [depF, depL]; omega
      rw [ec]
      unfold mnA
      rcases h1 with ⟨a, b, c⟩ | ⟨a, b, c⟩ <;> rcases h2 with ⟨a', b', c'⟩ | ⟨a', b', c'⟩
      · simp only [if_pos a, if_pos a']; omega
      · simp only [if_pos a, if_neg (show ¬ no l k < 0 by omega)]; omega
      · simp only [if_neg (show ¬ nz l k < 0 by omega), if_pos a']; omega
      · simp only [if_neg (show ¬ nz l k < 0 by omega), if_neg (show ¬ no l k < 0 by omega)]; omega

/-! ### Sequences -/

def sqK (z o : Int) (mz mo : Nat) : Nat := min ((1 + if 0 ≤ z then mz else 0) + if 0 ≤ o ∧ o ≠ z then mo else 0) 20000
def sqF (l : List Nd) : Nat → Nat → Nat
  | 0, _ => 0
  | f + 1, k => sqK (nz l k) (no l k) (sqF l f (nz l k).toNat) (sqF l f (no l k).toNat)
def sq (l : List Nd) (k : Nat) : Nat := sqF l l.length k
theorem sqK_congr {z o : Int} {a a' b b' : Nat} (h1 : 0 ≤ z → a = a') (h2 : 0 ≤ o → b = b') : sqK z o a b = sqK z o a' b' := by
  unfold sqK
  by_cases hz : 0 ≤ z
  · by_cases ho : 0 ≤ o
    · rw [h1 hz, h2 ho]
    · rw [h1 hz, if_neg (show ¬ (0 ≤ o ∧ o ≠ z) by omega), if_neg (show ¬ (0 ≤ o ∧ o ≠ z) by omega)]
  · rw [if_neg hz, if_neg hz]
    by_cases ho : 0 ≤ o
    · rw [h2 ho]
    · rw [if_neg (show ¬ (0 ≤ o ∧ o ≠ z) by omega), if_neg (show ¬ (0 ≤ o ∧ o ≠ z) by omega)]
theorem sqF_stable {n s : Int} {l : List Nd} (hv : validB n s l = true) : ∀ (f g : Nat) (k : Nat), k < l.length → l.length - k ≤ f → l.length - k ≤ g → sqF l f k = sqF l g k := by
  intro f
  induction f with
  | zero => intro g k h1 h2; omega
  | succ f ih =>
    intro g k h1 h2 h3
    cases g with
    | zero => omega
    | succ g =>
      have h := valid_node hv h1
      unfold sqF
      exact sqK_congr (fun h0 => ih g _ (by omega) (by omega) (by omega)) (fun h0 => ih g _ (by omega) (by omega) (by omega))
theorem sq_eq {n s : Int} {l : List Nd} (hv : validB n s l = true) {k : Nat} (hk : k < l.length) : sq l k = sqK (nz l k) (no l k) (sq l (nz l k).toNat) (sq l (no l k).toNat) := by
  have h := valid_node hv hk
  have e : sq l k = sqF l (l.length - k - 1 + 1) k := sqF_stable hv _ _ _ hk (by omega) (by omega)
  rw [e]
  unfold sqF sq
  exact sqK_congr (fun h0 => sqF_stable hv _ _ _ (by omega) (by omega) (by omega)) (fun h0 => sqF_stable hv _ _ _ (by omega) (by omega) (by omega))
theorem sq_le (l : List Nd) (k : Nat) : sq l k ≤ 20000 := by
  unfold sq
  cases l.length with
  | zero => simp [sqF]
  | succ f => unfold sqF sqK; omega
theorem mn_le (l : List Nd) : ∀ (f k : Nat), (mnF l f k).1 ≤ 40001 ∧ (mnF l f k).2 ≤ 3 * f + 1 := by
  intro f
  induction f with
  | zero => intro k; simp [mnF]
  | succ f ih =>
    intro k
    have a := ih (nz l k).toNat
    have b := ih (no l k).toNat
    unfold mnF mnK mnA
    by_cases hz : nz l k < 0 <;> by_cases ho : no l k < 0 <;> by_cases e : nz l k = no l k <;> simp only [hz, ho, e, if_true, if_false] <;> (try simp only [← e, hz, if_true, if_false]) <;> omega
/-- The number of nodes is at most 8 times the number of sequences. -/
theorem mn_sq {n s : Int} {l : List Nd} (hv : validB n s l = true) : ∀ (m : Nat) (k : Nat), k < l.length → l.length - k ≤ m → (mn l k).1 ≤ 8 * sq l k ∧ 1 ≤ sq l k := by
  intro m
  induction m with
  | zero => intro k h1 h2; omega
  | succ m ih =>
    intro k h1 h2
    have h := valid_node hv h1
    have hm := (mn_le l l.length k).1
    have hm' : (mn l k).1 ≤ 40001 := hm
    rw [mn_eq hv h1] at hm' ⊢
    rw [sq_eq hv h1]
    have hz := fun (h0 : 0 ≤ nz l k) => ih (nz l k).toNat (by omega) (by omega)
    have ho := fun (h0 : 0 ≤ no l k) => ih (no l k).toNat (by omega) (by omega)
    generalize mn l (nz l k).toNat = mz at *
    generalize mn l (no l k).toNat = mo at *
    generalize sq l (nz l k).toNat = sz at *
    generalize sq l (no l k).toNat = so at *
    unfold mnK mnA at hm' ⊢
    unfold sqK
    by_cases hz0 : nz l k < 0 <;> by_cases ho0 : no l k < 0 <;> by_cases e : nz l k = no l k
    · rw [if_pos e, if_pos hz0, if_neg (show ¬ 0 ≤ nz l k by omega), if_neg (show ¬ (0 ≤ no l k ∧ no l k ≠ nz l k) by omega)]; omega
    · rw [if_neg e] at hm' ⊢
      simp only [if_pos hz0, if_pos ho0] at hm' ⊢
      rw [if_neg (show ¬ 0 ≤ nz l k by omega), if_neg (show ¬ (0 ≤ no l k ∧ no l k ≠ nz l k) by omega)]; omega
    · omega
    · have := ho (by omega)
      rw [if_neg e] at hm' ⊢
      simp only [if_pos hz0, if_neg ho0] at hm' ⊢
      rw [if_neg (show ¬ 0 ≤ nz l k by omega), if_pos (show (0 ≤ no l k ∧ no l k ≠ nz l k) by omega)]; omega
    · omega
    · have := hz (by omega)
      rw [if_neg e] at hm' ⊢
      simp only [if_neg hz0, if_pos ho0] at hm' ⊢
      rw [if_pos (show 0 ≤ nz l k by omega), if_neg (show ¬ (0 ≤ no l k ∧ no l k ≠ nz l k) by omega)]; omega
    · have := hz (by omega)
      rw [if_pos e, if_neg hz0] at hm' ⊢
      rw [if_pos (show 0 ≤ nz l k by omega), if_neg (show ¬ (0 ≤ no l k ∧ no l k ≠ nz l k) by omega)]; omega
    · have := hz (by omega)
      have := ho (by omega)
      rw [if_neg e] at hm' ⊢
      simp only [if_neg hz0, if_neg ho0] at hm' ⊢
      rw [if_pos (show 0 ≤ nz l k by omega), if_pos (show (0 ≤ no l k ∧ no l k ≠ nz l k) by omega)]; omega
theorem sq_pow {n s : Int} {l : List Nd} (hv : validB n s l = true) : ∀ (m : Nat) (k : Nat), k < l.length → l.length - k ≤ m → sq l k + 1 ≤ 2 ^ m := by
  intro m
  induction m with
  | zero => intro k h1 h2; omega
  | succ m ih =>
    intro k h1 h2
    have h := valid_node hv h1
    rw [sq_eq hv h1]
    have hz := fun (h0 : 0 ≤ nz l k) => ih (nz l k).toNat (by omega) (by omega)
    have ho := fun (h0 : 0 ≤ no l k) => ih (no l k).toNat (by omega) (by omega)
    have := Nat.one_le_two_pow (n := m)
    rw [Nat.pow_succ]
    unfold sqK
    by_cases hz0 : 0 ≤ nz l k <;> by_cases ho0 : 0 ≤ no l k ∧ no l k ≠ nz l k
    · rw [if_pos hz0, if_pos ho0]; have := hz hz0; have := ho ho0.1; omega
    · rw [if_pos hz0, if_neg ho0]; have := hz hz0; omega
    · rw [if_neg hz0, if_pos ho0]; have := ho ho0.1; omega
    · rw [if_neg hz0, if_neg ho0]; omega
/-- The nesting is at most 3 times the length that is left. -/
theorem mn_len {n s : Int} {l : List Nd} (hv : validB n s l = true) : ∀ (m : Nat) (k : Nat), k < l.length → l.length - k ≤ m → hit s l k → ((mn l k).2 : Int) ≤ 3 * (lenB s l - ia (lv s l) k) + 1 := by
  intro m
  induction m with
  | zero => intro k h1 h2; omega
  | succ m ih =>
    intro k h1 h2 hh
    have h := valid_node hv h1
    have hlv : ia (lv s l) k + 1 ≤ lenB s l := by
      have := mxTo_ge (lv s l) (k := k) l.length h1
      unfold lenB mxL
      rw [lv_length]; omega
    rw [mn_eq hv h1]
    have hz := fun (h0 : 0 ≤ nz l k) => And.intro (ih (nz l k).toNat (by omega) (by omega) (hit_zero hv h1 hh h0)) (lv_edge hv (j := k) (k := (nz l k).toNat) h1 (by omega) hh (.inl (by omega)))
    have ho := fun (h0 : 0 ≤ no l k) => And.intro (ih (no l k).toNat (by omega) (by omega) (hit_one hv h1 hh h0)) (lv_edge hv (j := k) (k := (no l k).toNat) h1 (by omega) hh (.inr (by omega)))
    generalize mn l (nz l k).toNat = mz at *
    generalize mn l (no l k).toNat = mo at *
    unfold mnK mnA
    by_cases hz0 : nz l k < 0 <;> by_cases ho0 : no l k < 0 <;> by_cases e : nz l k = no l k
    · rw [if_pos e, if_pos hz0]; dsimp only; omega
    · rw [if_neg e]; simp only [if_pos hz0, if_pos ho0]; omega
    · omega
    · have := ho (by omega)
      rw [if_neg e]; simp only [if_pos hz0, if_neg ho0]; omega
    · omega
    · have := hz (by omega)
      rw [if_neg e]; simp only [if_neg hz0, if_pos ho0]; omega
    · have := hz (by omega)
      rw [if_pos e, if_neg hz0]; omega
    · have := hz (by omega)
      have := ho (by omega)
      rw [if_neg e]; simp only [if_neg hz0, if_neg ho0]; omega
/-- ErrSize only where the law lets it be. -/
theorem mn_big {n s : Int} {l : List Nd} (hv : validB n s l = true) (h0 : 0 ≤ s) (hb : 20000 < (mn l s.toNat).1 ∨ 1000 < (mn l s.toNat).2) : 6 < l.length ∧ (300 < lenB s l ∨ 2000 < sq l s.toNat) := by
  obtain ⟨hi0, hi1, hln, hs⟩ := valid_start hv
  have hk : s.toNat < l.length := by omega
  rcases hb with hb | hb
  · have h1 := mn_sq hv _ _ hk (Nat.le_refl _)
    refine ⟨?_, .inr (by omega)⟩
    rcases Nat.lt_or_ge 6 l.length with h | h
    · exact h
    · have h2 := sq_pow hv 6 _ hk (by omega)
      omega
  · have h1 := mn_len hv _ _ hk (Nat.le_refl _) (hit_start hv h0)
    have h2 := (mn_le l l.length s.toNat).2
    have h3 := lv_low hv s.toNat
    have h4 : (mn l s.toNat).2 ≤ 3 * l.length + 1 := h2
    have h5 := (hit_start hv h0)
    unfold hit at h5
    exact ⟨by omega, .inl (by omega)⟩
end Go.Proofs.Ytinpmdekdfgiiaa

/- Formula: its function literals. -/
set_option linter.unusedVariables false
set_option linter.unusedSimpArgs false
namespace Go.Proofs.Ytinpmdekdfgiiaa
open Go.RowKit

/-- The kids that lie from an address on, in blocks from base on. -/
inductive RKb (w : World) (base : Nat) : Option Addr → List Fm → Prop
  | nil (A : Option Addr) : RKb w base A []
  | cons {b off : Nat} {A : Option Addr} {c : Nat} {f : Fm} {fs : List Fm} (hb : base ≤ b) (h0 : w.cell? ⟨b, off, none⟩ = some (.int .i64 f.k)) (h1 : w.cell? ⟨b, off + 1, none⟩ = some (.int .i64 f.n))
      (h2 : w.cell? ⟨b, off + 2, none⟩ = some (.slice A f.l.length c)) (hl : f.l.length ≤ 9223372036854775807) (hk : RKb w base A f.l) (hs : RKb w base (some ⟨b, off + 3, none⟩) fs) : RKb w base (some ⟨b, off, none⟩) (f :: fs)
theorem RKb.rk {w : World} {base : Nat} {A : Option Addr} {l : List Fm} (h : RKb w base A l) : RK w A l := by
  induction h with
  | nil A => exact .nil A
  | cons hb h0 h1 h2 hl _ _ ih1 ih2 => exact .cons h0 h1 h2 hl ih1 ih2
theorem RKb.mono {w : World} {base base' : Nat} {A : Option Addr} {l : List Fm} (h : RKb w base A l) (hb' : base' ≤ base) : RKb w base' A l := by
  induction h with
  | nil A => exact .nil A
  | cons hb h0 h1 h2 hl _ _ ih1 ih2 => exact .cons (Nat.le_trans hb' hb) h0 h1 h2 hl ih1 ih2
theorem RKb.kept {w w' : World} {base : Nat} {A : Option Addr} {l : List Fm} (h : RKb w base A l) (k : Kept w w') : RKb w' base A l := by
  induction h with
  | nil A => exact .nil A
  | cons hb h0 h1 h2 hl _ _ ih1 ih2 => exact .cons hb (kept_cell k h0) (kept_cell k h1) (kept_cell k h2) hl ih1 ih2
theorem fm_set_ne {w : World} {g j b o : Nat} {u v : Value} (h : w.cell? ⟨b, o, none⟩ = some v) (n : b ≠ g) : (w.setCell ⟨g, j, none⟩ u).cell? ⟨b, o, none⟩ = some v :=
  (World.cell?_of_block (w := w) (a := ⟨b, o, none⟩) (Below.heap_setCell w ⟨g, j, none⟩ u b n)).trans h
theorem RKb.set {w : World} {base : Nat} {A : Option Addr} {l : List Fm} (h : RKb w base A l) {g : Nat} (hg : g < base) (j : Nat) (u : Value) : RKb (w.setCell ⟨g, j, none⟩ u) base A l := by
  induction h with
  | nil A => exact .nil A
  | cons hb h0 h1 h2 hl _ _ ih1 ih2 => exact .cons hb (fm_set_ne h0 (by omega)) (fm_set_ne h1 (by omega)) (fm_set_ne h2 (by omega)) hl ih1 ih2

/-- A formula was made. -/
def FmPost (base : Nat) (f : Fm) (w : World) (e : Ending) (w' : World) : Prop := ∃ A c, e = .returned (fmV f A c) ∧ RKb w' base A f.l ∧ Kept w w'

set_option maxRecDepth 100000 in
set_option maxHeartbeats 1000000 in
theorem pair71_any (base : Nat) (k : Int) (f g : Fm) (A A2 : Option Addr) (c c2 : Nat) (w : World) (hb : base ≤ w.heap.size) (hf : RKb w base A f.l) (hg : RKb w base A2 g.l) (lf : f.l.length ≤ 9223372036854775807) (lg : g.l.length ≤ 9223372036854775807) :
    Calls Try.prog 71 #[.int .i64 k, fmV f A c, fmV g A2 c2] w (FmPost base (.mk k 0 [f, g]) w) := by
  unfold fmV
  have HF := Lib.hid hf; have HG := Lib.hid hg; clear hf hg
  have oR := (Own.new ((w.alloc (.cells #[.int .i64 f.k, .int .i64 f.n, .slice A f.l.length c] 52)).alloc (.cells #[.int .i64 g.k, .int .i64 g.n, .slice A2 g.l.length c2] 52)) 52 [.int .i64 k, .int .i64 0, .slice (some ⟨w.heap.size + 1 + 1 + 1, 0, none⟩) 2 2]).alloc (.cells #[.int .i64 f.k, .int .i64 f.n, .slice A f.l.length c, .int .i64 g.k, .int .i64 g.n, .slice A2 g.l.length c2] 52)
  have oS := Own.new (((w.alloc (.cells #[.int .i64 f.k, .int .i64 f.n, .slice A f.l.length c] 52)).alloc (.cells #[.int .i64 g.k, .int .i64 g.n, .slice A2 g.l.length c2] 52)).alloc (.cells #[.int .i64 k, .int .i64 0, .slice (some ⟨w.heap.size + 1 + 1 + 1, 0, none⟩) 2 2] 52)) 52 [.int .i64 f.k, .int .i64 f.n, .slice A f.l.length c, .int .i64 g.k, .int .i64 g.n, .slice A2 g.l.length c2]
  simp only [World.size_alloc] at oR oS
  have q0 := oR.cell (j := 0) rfl
  have q1 := oR.cell (j := 1) rfl
  have q2 := oR.cell (j := 2) rfl
  have K0 := kept_alloc (kept_alloc (kept_alloc (kept_alloc (kept_refl w) (.cells #[.int .i64 f.k, .int .i64 f.n, .slice A f.l.length c] 52)) (.cells #[.int .i64 g.k, .int .i64 g.n, .slice A2 g.l.length c2] 52)) (.cells #[.int .i64 k, .int .i64 0, .slice (some ⟨w.heap.size + 1 + 1 + 1, 0, none⟩) 2 2] 52)) (.cells #[.int .i64 f.k, .int .i64 f.n, .slice A f.l.length c, .int .i64 g.k, .int .i64 g.n, .slice A2 g.l.length c2] 52)
  go_enter Try.func71, Try.ntmps71
  go_wp2_with fail
  refine bodyPost_ret (v := .agg #[.int .i64 k, .int .i64 0, .slice (some ⟨w.heap.size + 1 + 1 + 1, 0, none⟩) 2 2]) (by simp [results, Try.results71, go_sem, q0, q1, q2]) rfl ⟨some ⟨w.heap.size + 1 + 1 + 1, 0, none⟩, 2, rfl, ?_, K0⟩
  exact .cons (by omega) (oS.cell (j := 0) rfl) (oS.cell (j := 1) rfl) (oS.cell (j := 2) rfl) lf (HF.out.kept K0) (.cons (by omega) (oS.cell (j := 3) rfl) (oS.cell (j := 4) rfl) (oS.cell (j := 5) rfl) lg (HG.out.kept K0) (.nil _))

set_option maxRecDepth 100000 in
set_option maxHeartbeats 1000000 in
theorem var73_any (g1 g4 : Nat) (n s : Int) (A : Option Addr) (c : Nat) (l : List Nd) (k : Nat) (w : World) (o1 : Own w g1 24 [.int .i64 n, .int .i64 s, .slice A l.length c]) (hr : RN w A l) (hk : k < l.length) (hm : l.length ≤ 20000) (c4 : w.cell? ⟨g4, 0, none⟩ = some (.int .i64 k)) :
    Calls Try.prog 73 #[.pointer (some ⟨g1, 0, none⟩), .pointer (some ⟨g4, 0, none⟩)] w fun e w' => e = .returned (.agg #[.int .i64 0, .int .i64 (nv l k), .slice none 0 0]) ∧ Kept w w' := by
  obtain ⟨b, off, rfl, hc⟩ := RN.at_ hr hk
  obtain ⟨d0, d1, d2⟩ := hc k hk
  clear hc hr
  have z1 : g1 < w.heap.size := o1.lt
  have z4 : g4 < w.heap.size := kept_lt c4
  have zb : b < w.heap.size := kept_lt d0
  have oR := Own.new w 52 [.int .i64 0, .int .i64 (nv l k), .slice none 0 0]
  have r0 := oR.cell (j := 0) rfl
  have r1 := oR.cell (j := 1) rfl
  have r2 := oR.cell (j := 2) rfl
  have q2 := o1.cell (j := 2) rfl
  have h0 : (0 : Int) ≤ (k : Int) := by omega
  have h1 : (k : Int) < (l.length : Int) := by omega
  go_enter Try.func73, Try.ntmps73
  go_wp2_with fail
  exact bodyPost_ret (v := .agg #[.int .i64 0, .int .i64 (nv l k), .slice none 0 0]) (by simp [results, Try.results73, go_sem, r0, r1, r2]) rfl ⟨rfl, kept_alloc (kept_refl w) _⟩
end Go.Proofs.Ytinpmdekdfgiiaa

/- Formula: the closure that makes the formula of a node. -/
set_option linter.unusedVariables false
set_option linter.unusedSimpArgs false
namespace Go.Proofs.Ytinpmdekdfgiiaa
open Go.RowKit

theorem pair_red1 (base : Nat) (v : Int) (fo : Fm) (w : World) (A : Option Addr) (c : Nat) (hb : base ≤ w.heap.size) (lo : fo.l.length ≤ 9223372036854775807) (h : RKb w base A fo.l) :
    Calls Try.prog 71 #[.int .i64 3, .agg #[.int .i64 0, .int .i64 v, .slice none 0 0], .agg #[.int .i64 fo.k, .int .i64 fo.n, .slice A fo.l.length c]] w fun e w' => ∃ B cB, e = .returned (.agg #[.int .i64 3, .int .i64 0, .slice B 2 cB]) ∧ RKb w' base B [.mk 0 v [], fo] ∧ Kept w w' :=
  pair71_any base 3 (.mk 0 v []) fo none A 0 c w hb (.nil _) h (by simp [Fm.l]) lo
theorem pair_red2 (base : Nat) (v : Int) (fz : Fm) (w : World) (A B : Option Addr) (c d : Nat) (hb : base ≤ w.heap.size) (lz : fz.l.length ≤ 9223372036854775807) (h : RKb w base B fz.l) (hA : RKb w base A [.mk 0 v []]) :
    Calls Try.prog 71 #[.int .i64 3, .agg #[.int .i64 2, .int .i64 0, .slice A 1 d], .agg #[.int .i64 fz.k, .int .i64 fz.n, .slice B fz.l.length c]] w fun e w' => ∃ B cB, e = .returned (.agg #[.int .i64 3, .int .i64 0, .slice B 2 cB]) ∧ RKb w' base B [.mk 2 0 [.mk 0 v []], fz] ∧ Kept w w' :=
  pair71_any base 3 (.mk 2 0 [.mk 0 v []]) fz A B d c w hb hA h (by simp [Fm.l]) lz
theorem pair_red3 (base : Nat) (l1 l2 : List Fm) (w : World) (A B : Option Addr) (c d : Nat) (hb : base ≤ w.heap.size) (h1 : l1.length = 2) (h2 : l2.length = 2) (hA : RKb w base A l1) (hB : RKb w base B l2) :
    Calls Try.prog 71 #[.int .i64 4, .agg #[.int .i64 3, .int .i64 0, .slice A 2 c], .agg #[.int .i64 3, .int .i64 0, .slice B 2 d]] w fun e w' => ∃ B cB, e = .returned (.agg #[.int .i64 4, .int .i64 0, .slice B 2 cB]) ∧ RKb w' base B [.mk 3 0 l1, .mk 3 0 l2] ∧ Kept w w' := by
  have h := pair71_any base 4 (.mk 3 0 l1) (.mk 3 0 l2) A B c d w hb hA hB (by simp [Fm.l]; omega) (by simp [Fm.l]; omega)
  unfold fmV at h
  simp only [Fm.k, Fm.n, Fm.l, h1, h2] at h
  exact h

theorem tf_kids (l : List Nd) (f : Nat) (c : Int) : (tfF l f c).l.length ≤ 9223372036854775807 := by
  induction f generalizing c with
  | zero => simp [tfF, tfE, Fm.l]
  | succ f ih =>
    unfold tfF
    split
    · simp [tfE, Fm.l]
    · unfold tfK
      split
      · exact ih _
      · simp [Fm.l]

set_option maxRecDepth 100000 in
set_option maxHeartbeats 2000000 in
theorem of72_any (n s : Int) (A : Option Addr) (cA : Nat) (l : List Nd) (hv : validB n s l = true) (g1 g2 g3 : Nat) (w0 : World) (o1 : Own w0 g1 24 [.int .i64 n, .int .i64 s, .slice A l.length cA]) (hr : RN w0 A l)
    (e2 : w0.cell? ⟨g2, 0, none⟩ = some (.func (.func 72) #[] #[.pointer (some ⟨g1, 0, none⟩), .pointer (some ⟨g2, 0, none⟩), .pointer (some ⟨g3, 0, none⟩)])) (e3 : w0.cell? ⟨g3, 0, none⟩ = some (.func (.func 71) #[] #[])) :
    ∀ (m : Nat) (c : Int) (w : World), c < l.length → (c = -1 ∨ c = -2 ∨ (0 ≤ c ∧ l.length - c ≤ m)) → Kept w0 w →
    Calls Try.prog 72 #[.int .i64 c, .pointer (some ⟨g1, 0, none⟩), .pointer (some ⟨g2, 0, none⟩), .pointer (some ⟨g3, 0, none⟩)] w (FmPost w.heap.size (tf l c) w) := by
  obtain ⟨hi0, hi1, hln, hs⟩ := valid_start hv
  intro m
  induction m with
  | zero =>
    intro c w hc hm hWK
    have hneg : c = -1 ∨ c = -2 := by omega
    rw [tf_neg l (by omega)]
    have t1 : tfE (-1) = .mk 1 0 [] := rfl
    have t2 : tfE (-2) = .mk 1 1 [] := rfl
    rcases hneg with rfl | rfl
    · rw [t1]
      have oR := Own.new (w.alloc (.cells #[.int .i64 (-1)] 3)) 52 [.int .i64 1, .int .i64 0, .slice none 0 0]
      simp only [World.size_alloc] at oR
      have r0 := oR.cell (j := 0) rfl
      have r1 := oR.cell (j := 1) rfl
      have r2 := oR.cell (j := 2) rfl
      go_enter Try.func72, Try.ntmps72
      go_wp2_with fail
      exact bodyPost_ret (v := .agg #[.int .i64 1, .int .i64 0, .slice none 0 0]) (by simp [results, Try.results72, go_sem, r0, r1, r2]) rfl ⟨none, 0, rfl, .nil _, kept_alloc (kept_alloc (kept_refl w) _) _⟩
    · rw [t2]
      have oR := Own.new (w.alloc (.cells #[.int .i64 (-2)] 3)) 52 [.int .i64 1, .int .i64 1, .slice none 0 0]
      simp only [World.size_alloc] at oR
      have r0 := oR.cell (j := 0) rfl
      have r1 := oR.cell (j := 1) rfl
      have r2 := oR.cell (j := 2) rfl
      go_enter Try.func72, Try.ntmps72
      go_wp2_with fail
      exact bodyPost_ret (v := .agg #[.int .i64 1, .int .i64 1, .slice none 0 0]) (by simp [results, Try.results72, go_sem, r0, r1, r2]) rfl ⟨none, 0, rfl, .nil _, kept_alloc (kept_alloc (kept_refl w) _) _⟩
  | succ m ih =>
    intro c w hc hm hWK
    by_cases hneg : c = -1 ∨ c = -2
    · rw [tf_neg l (by omega)]
      have t1 : tfE (-1) = .mk 1 0 [] := rfl
      have t2 : tfE (-2) = .mk 1 1 [] := rfl
      rcases hneg with rfl | rfl
      · rw [t1]
        have oR := Own.new (w.alloc (.cells #[.int .i64 (-1)] 3)) 52 [.int .i64 1, .int .i64 0, .slice none 0 0]
        simp only [World.size_alloc] at oR
        have r0 := oR.cell (j := 0) rfl
        have r1 := oR.cell (j := 1) rfl
        have r2 := oR.cell (j := 2) rfl
        go_enter Try.func72, Try.ntmps72
        go_wp2_with fail
        exact bodyPost_ret (v := .agg #[.int .i64 1, .int .i64 0, .slice none 0 0]) (by simp [results, Try.results72, go_sem, r0, r1, r2]) rfl ⟨none, 0, rfl, .nil _, kept_alloc (kept_alloc (kept_refl w) _) _⟩
      · rw [t2]
        have oR := Own.new (w.alloc (.cells #[.int .i64 (-2)] 3)) 52 [.int .i64 1, .int .i64 1, .slice none 0 0]
        simp only [World.size_alloc] at oR
        have r0 := oR.cell (j := 0) rfl
        have r1 := oR.cell (j := 1) rfl
        have r2 := oR.cell (j := 2) rfl
        go_enter Try.func72, Try.ntmps72
        go_wp2_with fail
        exact bodyPost_ret (v := .agg #[.int .i64 1, .int .i64 1, .slice none 0 0]) (by simp [results, Try.results72, go_sem, r0, r1, r2]) rfl ⟨none, 0, rfl, .nil _, kept_alloc (kept_alloc (kept_refl w) _) _⟩
    obtain ⟨k, rfl⟩ : ∃ k : Nat, c = k := ⟨c.toNat, by omega⟩
    have hk : k < l.length := by omega
    have h := valid_node hv hk
    obtain ⟨b, off, hA, hcells⟩ := RN.at_ hr hk
    obtain ⟨d0, d1, d2⟩ := hcells k hk
    clear hcells
    have q2 := o1.cell (j := 2) rfl
    have c1 := fun (w' : World) (kk : Kept w0 w') => ih (nz l k) w' (by omega) (by omega) kk
    have c2 := fun (w' : World) (kk : Kept w0 w') => ih (no l k) w' (by omega) (by omega) kk
    have V73 := Lib.hid fun (w' : World) (g4 : Nat) (kk : Kept w0 w') (c4 : w'.cell? ⟨g4, 0, none⟩ = some (.int .i64 k)) => var73_any g1 g4 n s A cA l k w' (o1.kept kk) (hr.kept kk) hk hln c4
    have lz := tf_kids l l.length (nz l k)
    have lo := tf_kids l l.length (no l k)
    change (tf l (nz l k)).l.length ≤ _ at lz
    change (tf l (no l k)).l.length ≤ _ at lo
    rw [tf_eq hv hk]
    unfold FmPost fmV at c1 c2
    have C1 := Lib.hid c1; have C2 := Lib.hid c2
    clear c1 c2 ih hm hs
    subst hA
    have hkn : (k : Int) ≠ -1 := by omega
    have hkn2 : (k : Int) ≠ -2 := by omega
    have b1 : ((k : Int) == -1) = false := beq_eq_false_iff_ne.2 hkn
    have b2 : ((k : Int) == -2) = false := beq_eq_false_iff_ne.2 hkn2
    have k0 : (0 : Int) ≤ (k : Int) := by omega
    have k1 : (k : Int) < (l.length : Int) := by omega
    replace q2 := kept_cell hWK q2
    replace d0 := kept_cell hWK d0
    replace d1 := kept_cell hWK d1
    replace d2 := kept_cell hWK d2
    replace e2 := kept_cell hWK e2
    replace e3 := kept_cell hWK e3
    have z1 : g1 < w.heap.size := kept_lt q2
    have z2 : g2 < w.heap.size := kept_lt e2
    have z3 : g3 < w.heap.size := kept_lt e3
    have zb : b < w.heap.size := kept_lt d0
    have o4 := (Own.new w 3 [.int .i64 k]).alloc (.cells #[.int .i64 0, .int .i64 0, .slice none 0 0] 52)
    have o5 := Own.new (w.alloc (.cells #[.int .i64 k] 3)) 52 [.int .i64 0, .int .i64 0, .slice none 0 0]
    simp only [World.size_alloc] at o5
    have KB : Kept w ((w.alloc (.cells #[.int .i64 k] 3)).alloc (.cells #[.int .i64 0, .int .i64 0, .slice none 0 0] 52)) := kept_alloc (kept_alloc (kept_refl w) _) _
    generalize hfz : tf l (nz l k) = fz at *
    generalize hfo : tf l (no l k) = fo at *
    have HFZ := Lib.hid hfz; have HFO := Lib.hid hfo
    clear hfz hfo
    have HV := Lib.hid hv; clear hv h
    by_cases hzo : nz l k = no l k
    · have b3 : (nz l k == no l k) = true := beq_iff_eq.2 hzo
      unfold tfK
      rw [if_pos hzo]
      obtain rfl : fz = fo := by rw [← HFZ.out, ← HFO.out, hzo]
      clear hzo HFZ HFO
      go_enter Try.func72, Try.ntmps72
      go_wp2_with fail
      go_quiet (fail)
      go_wp2_with fail
      obtain ⟨w1, hw1⟩ : ∃ x, x = ((w.alloc (.cells #[.int .i64 k] 3)).alloc (.cells #[.int .i64 0, .int .i64 0, .slice none 0 0] 52)).drewN nq := ⟨_, rfl⟩
      have K9 : Kept ((w.alloc (.cells #[.int .i64 k] 3)).alloc (.cells #[.int .i64 0, .int .i64 0, .slice none 0 0] 52)) w1 := by rw [hw1]; exact below_drewN (kept_refl _) nq
      rw [← hw1]
      have z9 := K9.size
      simp only [World.size_alloc] at z9
      replace o4 := o4.kept K9
      replace o5 := o5.kept K9
      replace KB := kept_trans KB K9
      clear hw1 K9
      replace q2 := kept_cell KB q2
      replace d0 := kept_cell KB d0
      replace d1 := kept_cell KB d1
      replace d2 := kept_cell KB d2
      replace e2 := kept_cell KB e2
      replace e3 := kept_cell KB e3
      have p0 := o4.cell (j := 0) rfl
      refine region_x (fun w' => Kept w1 w') [8] (by kernel_rfl) (kept_drew (kept_refl _)) (fun hHeld => ?_)
      refine x_take (i := 0) (oi := { dst := some 28, op := Op.load 88 (Operand.tmp 2), type := 88, pos := "branch.go:227", after := #[], guard := none }) (v := ?_) rfl (by kernel_rfl) (by kernel_rfl) (by kernel_rfl) (by kernel_rfl) (by kernel_rfl) (fun _ _ _ h => h) (Or.inl ⟨rfl, ?_⟩) (by assumption) ?_
      rotate_left
      · (intro w' hSw; replace q2 := kept_cell hSw q2; replace d0 := kept_cell hSw d0; replace d1 := kept_cell hSw d1; replace d2 := kept_cell hSw d2; replace e2 := kept_cell hSw e2; replace e3 := kept_cell hSw e3; replace p0 := kept_cell hSw p0; go_simp; try with_reducible rfl)
      try simp only [Act.put, List.setIfInBounds_toArray, List.set_cons_zero, List.set_cons_succ]
      refine x_take (i := 1) (oi := { dst := some 29, op := Op.fieldAddr 24 (Operand.tmp 1) 2, type := 0, pos := "branch.go:227", after := #[], guard := none }) (v := ?_) rfl (by kernel_rfl) (by kernel_rfl) (by kernel_rfl) (by kernel_rfl) (by kernel_rfl) (fun _ _ _ h => h) (Or.inl ⟨rfl, ?_⟩) (by assumption) ?_
      rotate_left
      · (intro w' hSw; replace q2 := kept_cell hSw q2; replace d0 := kept_cell hSw d0; replace d1 := kept_cell hSw d1; replace d2 := kept_cell hSw d2; replace e2 := kept_cell hSw e2; replace e3 := kept_cell hSw e3; replace p0 := kept_cell hSw p0; go_simp; try with_reducible rfl)
      try simp only [Act.put, List.setIfInBounds_toArray, List.set_cons_zero, List.set_cons_succ]
      refine x_take (i := 2) (oi := { dst := some 30, op := Op.load 22 (Operand.tmp 29), type := 22, pos := "branch.go:227", after := #[{ on := 1, ground := Ground.data }], guard := none }) (v := ?_) rfl (by kernel_rfl) (by kernel_rfl) (by kernel_rfl) (by kernel_rfl) (by kernel_rfl) (fun _ _ _ h => h) (Or.inl ⟨rfl, ?_⟩) (by assumption) ?_
      rotate_left
      · (intro w' hSw; replace q2 := kept_cell hSw q2; replace d0 := kept_cell hSw d0; replace d1 := kept_cell hSw d1; replace d2 := kept_cell hSw d2; replace e2 := kept_cell hSw e2; replace e3 := kept_cell hSw e3; replace p0 := kept_cell hSw p0; go_simp; try with_reducible rfl)
      try simp only [Act.put, List.setIfInBounds_toArray, List.set_cons_zero, List.set_cons_succ]
      refine x_take (i := 3) (oi := { dst := some 31, op := Op.load 3 (Operand.tmp 4), type := 3, pos := "branch.go:227", after := #[], guard := none }) (v := ?_) rfl (by kernel_rfl) (by kernel_rfl) (by kernel_rfl) (by kernel_rfl) (by kernel_rfl) (fun _ _ _ h => h) (Or.inl ⟨rfl, ?_⟩) (by assumption) ?_
      rotate_left
      · (intro w' hSw; replace q2 := kept_cell hSw q2; replace d0 := kept_cell hSw d0; replace d1 := kept_cell hSw d1; replace d2 := kept_cell hSw d2; replace e2 := kept_cell hSw e2; replace e3 := kept_cell hSw e3; replace p0 := kept_cell hSw p0; go_simp; try with_reducible rfl)
      try simp only [Act.put, List.setIfInBounds_toArray, List.set_cons_zero, List.set_cons_succ]
      refine x_take (i := 4) (oi := { dst := some 32, op := Op.indexAddr 22 (Operand.tmp 30) (Operand.tmp 31), type := 0, pos := "branch.go:227", after := #[{ on := 2, ground := Ground.data }, { on := 3, ground := Ground.data }], guard := none }) (v := ?_) rfl (by kernel_rfl) (by kernel_rfl) (by kernel_rfl) (by kernel_rfl) (by kernel_rfl) (fun _ _ _ h => h) (Or.inl ⟨rfl, ?_⟩) (by assumption) ?_
      rotate_left
      · (intro w' hSw; replace q2 := kept_cell hSw q2; replace d0 := kept_cell hSw d0; replace d1 := kept_cell hSw d1; replace d2 := kept_cell hSw d2; replace e2 := kept_cell hSw e2; replace e3 := kept_cell hSw e3; replace p0 := kept_cell hSw p0; go_simp; try with_reducible rfl)
      try simp only [Act.put, List.setIfInBounds_toArray, List.set_cons_zero, List.set_cons_succ]
      refine x_take (i := 5) (oi := { dst := some 33, op := Op.fieldAddr 48 (Operand.tmp 32) 1, type := 0, pos := "branch.go:227", after := #[{ on := 4, ground := Ground.data }], guard := none }) (v := ?_) rfl (by kernel_rfl) (by kernel_rfl) (by kernel_rfl) (by kernel_rfl) (by kernel_rfl) (fun _ _ _ h => h) (Or.inl ⟨rfl, ?_⟩) (by assumption) ?_
      rotate_left
      · (intro w' hSw; replace q2 := kept_cell hSw q2; replace d0 := kept_cell hSw d0; replace d1 := kept_cell hSw d1; replace d2 := kept_cell hSw d2; replace e2 := kept_cell hSw e2; replace e3 := kept_cell hSw e3; replace p0 := kept_cell hSw p0; go_simp; try with_reducible rfl)
      try simp only [Act.put, List.setIfInBounds_toArray, List.set_cons_zero, List.set_cons_succ]
      refine x_take (i := 6) (oi := { dst := some 34, op := Op.load 3 (Operand.tmp 33), type := 3, pos := "branch.go:227", after := #[{ on := 5, ground := Ground.data }], guard := none }) (v := ?_) rfl (by kernel_rfl) (by kernel_rfl) (by kernel_rfl) (by kernel_rfl) (by kernel_rfl) (fun _ _ _ h => h) (Or.inl ⟨rfl, ?_⟩) (by assumption) ?_
      rotate_left
      · (intro w' hSw; replace q2 := kept_cell hSw q2; replace d0 := kept_cell hSw d0; replace d1 := kept_cell hSw d1; replace d2 := kept_cell hSw d2; replace e2 := kept_cell hSw e2; replace e3 := kept_cell hSw e3; replace p0 := kept_cell hSw p0; go_simp; try with_reducible rfl)
      try simp only [Act.put, List.setIfInBounds_toArray, List.set_cons_zero, List.set_cons_succ]
      refine x_one (i := 7) (o := { dst := some 35, op := Op.call { callee := Callee.value (Operand.tmp 28), args := #[Operand.tmp 34], argTypes := #[3] }, type := 52, pos := "branch.go:227", after := #[{ on := 0, ground := Ground.data }, { on := 6, ground := Ground.data }], guard := none }) (by kernel_rfl) rfl (fun K hK => ?_)
      (go_simp; go_at_call 72; (first | with_reducible refine (C1.out w1.drew (kept_trans (kept_trans hWK KB) hHeld)).mono ?_ | with_reducible refine (C2.out w1.drew (kept_trans (kept_trans hWK KB) hHeld)).mono ?_); rintro e w3 ⟨A3, c3, rfl, rk3, k3⟩; replace rk3 := rk3.mono (show w.heap.size + 2 ≤ _ by have hh := hHeld.size; omega); have KK3 : Kept w1 w3 := kept_trans hHeld k3; have x5 := o5.kept KK3; have f0 := x5.frozen 0; have f1 := x5.frozen 1; have f2 := x5.frozen 2; have y0 := x5.cell (j := 0) rfl; have y1 := x5.cell (j := 1) rfl; have y2 := x5.cell (j := 2) rfl; try dsimp only)
      refine hK.out _ _ ?_ (fun hHeld => ?_)
      · (try dsimp only); repeat (first | assumption | exact kept_refl _ | refine kept_drew ?_ | refine kept_alloc ?_ _ | refine kept_set ?_ (by omega) _)
      clear hK K
      try simp only [Act.put, List.setIfInBounds_toArray, List.set_cons_zero, List.set_cons_succ]
      refine x_last (i := 8) (o := { dst := none, op := Op.store 52 (Operand.tmp 5) (Operand.tmp 35), type := 0, pos := "branch.go:227", after := #[{ on := 7, ground := Ground.data }, { on := 7, ground := Ground.chain }, { on := 0, ground := Ground.phase }, { on := 1, ground := Ground.phase }, { on := 2, ground := Ground.phase }, { on := 3, ground := Ground.phase }, { on := 4, ground := Ground.phase }, { on := 5, ground := Ground.phase }, { on := 6, ground := Ground.phase }, { on := 7, ground := Ground.phase }], guard := none }) (by kernel_rfl) rfl (by simp) (fun K hK => ?_)
      go_simp
      refine hK.out _ _ ?_
      clear hK K
      try simp only [Act.put, List.setIfInBounds_toArray, List.set_cons_zero, List.set_cons_succ]
      refine x_done (by kernel_rfl) ?_ _
      go_wp2_with fail
      have o9 := ((x5.set 0 (.int .i64 fz.k)).set 1 (.int .i64 fz.n)).set 2 (.slice A3 fz.l.length c3)
      have pk := kept_set (g := w.heap.size + 1) (j := 2) (kept_set (g := w.heap.size + 1) (j := 1) (kept_set (g := w.heap.size + 1) (j := 0) (kept_trans KB KK3) (by omega) (.int .i64 fz.k)) (by omega) (.int .i64 fz.n)) (by omega) (.slice A3 fz.l.length c3)
      have rk9 := ((rk3.set (g := w.heap.size + 1) (by omega) 0 (.int .i64 fz.k)).set (g := w.heap.size + 1) (by omega) 1 (.int .i64 fz.n)).set (g := w.heap.size + 1) (by omega) 2 (.slice A3 fz.l.length c3)
      obtain ⟨W9, hW9⟩ : ∃ W9, W9 = ((w3.setCell ⟨w.heap.size + 1, 0, none⟩ (.int .i64 fz.k)).setCell ⟨w.heap.size + 1, 1, none⟩ (.int .i64 fz.n)).setCell ⟨w.heap.size + 1, 2, none⟩ (.slice A3 fz.l.length c3) := ⟨_, rfl⟩
      rw [← hW9] at o9 pk rk9 ⊢
      clear hW9 q2 d0 d1 d2 e2 e3 p0 x5 f0 f1 f2 y0 y1 y2
      have q0 := o9.cell (j := 0) rfl
      have q1 := o9.cell (j := 1) rfl
      have q2 := o9.cell (j := 2) rfl
      exact bodyPost_ret (v := .agg #[.int .i64 fz.k, .int .i64 fz.n, .slice A3 fz.l.length c3]) (by simp [results, Try.results72, go_sem, q0, q1, q2]) rfl ⟨A3, c3, rfl, rk9.mono (by omega), pk⟩
    · have b3 : (nz l k == no l k) = false := beq_eq_false_iff_ne.2 hzo
      unfold tfK
      rw [if_neg hzo]
      go_enter Try.func72, Try.ntmps72
      go_wp2_with fail
      go_quiet (fail)
      go_wp2_with fail
      obtain ⟨w1, hw1⟩ : ∃ x, x = ((w.alloc (.cells #[.int .i64 k] 3)).alloc (.cells #[.int .i64 0, .int .i64 0, .slice none 0 0] 52)).drewN nq := ⟨_, rfl⟩
      have K9 : Kept ((w.alloc (.cells #[.int .i64 k] 3)).alloc (.cells #[.int .i64 0, .int .i64 0, .slice none 0 0] 52)) w1 := by rw [hw1]; exact below_drewN (kept_refl _) nq
      rw [← hw1]
      have z9 := K9.size
      simp only [World.size_alloc] at z9
      replace o4 := o4.kept K9
      replace o5 := o5.kept K9
      replace KB := kept_trans KB K9
      clear hw1 K9
      replace q2 := kept_cell KB q2
      replace d0 := kept_cell KB d0
      replace d1 := kept_cell KB d1
      replace d2 := kept_cell KB d2
      replace e2 := kept_cell KB e2
      replace e3 := kept_cell KB e3
      have p0 := o4.cell (j := 0) rfl
      refine (V73.out _ w.heap.size (kept_trans hWK KB) p0).mono ?_
      rintro e w2 ⟨rfl, k2⟩
      have vS := (Own.new w2 52 [.int .i64 0, .int .i64 (nv l k), .slice none 0 0]).alloc (.cells #[.int .i64 2, .int .i64 0, .slice (some ⟨w2.heap.size, 0, none⟩) 1 1] 52)
      have o7 := Own.new (w2.alloc (.cells #[.int .i64 0, .int .i64 (nv l k), .slice none 0 0] 52)) 52 [.int .i64 2, .int .i64 0, .slice (some ⟨w2.heap.size, 0, none⟩) 1 1]
      simp only [World.size_alloc] at o7
      have K2 : Kept w1 ((w2.alloc (.cells #[.int .i64 0, .int .i64 (nv l k), .slice none 0 0] 52)).alloc (.cells #[.int .i64 2, .int .i64 0, .slice (some ⟨w2.heap.size, 0, none⟩) 1 1] 52)) := kept_alloc (kept_alloc k2 _) _
      go_wp2_with fail
      obtain ⟨W, hW⟩ : ∃ W, W = (w2.alloc (.cells #[.int .i64 0, .int .i64 (nv l k), .slice none 0 0] 52)).alloc (.cells #[.int .i64 2, .int .i64 0, .slice (some ⟨w2.heap.size, 0, none⟩) 1 1] 52) := ⟨_, rfl⟩
      rw [← hW] at vS o7 K2 ⊢
      have z8 := k2.size
      clear hW k2
      have z10 := K2.size
      have RV : RKb W (w.heap.size + 2) (some ⟨w2.heap.size, 0, none⟩) [.mk 0 (nv l k) []] := .cons (by omega) (vS.cell (j := 0) rfl) (vS.cell (j := 1) rfl) (vS.cell (j := 2) rfl) (by simp [Fm.l]) (.nil _) (.nil _)
      have r0 := o7.cell (j := 0) rfl
      have r1 := o7.cell (j := 1) rfl
      have r2 := o7.cell (j := 2) rfl
      replace o5 := o5.kept K2
      replace KB := kept_trans KB K2
      replace q2 := kept_cell K2 q2
      replace d0 := kept_cell K2 d0
      replace d1 := kept_cell K2 d1
      replace d2 := kept_cell K2 d2
      replace e2 := kept_cell K2 e2
      replace e3 := kept_cell K2 e3
      replace p0 := kept_cell K2 p0
      have KA := kept_trans hWK KB
      refine region_x (fun w' => Kept W w') [25] (by kernel_rfl) (kept_drew (kept_refl _)) (fun hHeld => ?_)
      refine x_take (i := 0) (oi := { dst := some 41, op := Op.load 87 (Operand.tmp 3), type := 87, pos := "branch.go:231", after := #[], guard := none }) (v := ?_) rfl (by kernel_rfl) (by kernel_rfl) (by kernel_rfl) (by kernel_rfl) (by kernel_rfl) (fun _ _ _ h => h) (Or.inl ⟨rfl, ?_⟩) (by assumption) ?_
      rotate_left
      · (intro w' hSw; replace q2 := kept_cell hSw q2; replace d0 := kept_cell hSw d0; replace d1 := kept_cell hSw d1; replace d2 := kept_cell hSw d2; replace e2 := kept_cell hSw e2; replace e3 := kept_cell hSw e3; replace p0 := kept_cell hSw p0; replace r0 := kept_cell hSw r0; replace r1 := kept_cell hSw r1; replace r2 := kept_cell hSw r2; go_simp; try with_reducible rfl)
      try simp only [Act.put, List.setIfInBounds_toArray, List.set_cons_zero, List.set_cons_succ]
      refine x_take (i := 1) (oi := { dst := some 42, op := Op.load 87 (Operand.tmp 3), type := 87, pos := "branch.go:231", after := #[], guard := none }) (v := ?_) rfl (by kernel_rfl) (by kernel_rfl) (by kernel_rfl) (by kernel_rfl) (by kernel_rfl) (fun _ _ _ h => h) (Or.inl ⟨rfl, ?_⟩) (by assumption) ?_
      rotate_left
      · (intro w' hSw; replace q2 := kept_cell hSw q2; replace d0 := kept_cell hSw d0; replace d1 := kept_cell hSw d1; replace d2 := kept_cell hSw d2; replace e2 := kept_cell hSw e2; replace e3 := kept_cell hSw e3; replace p0 := kept_cell hSw p0; replace r0 := kept_cell hSw r0; replace r1 := kept_cell hSw r1; replace r2 := kept_cell hSw r2; go_simp; try with_reducible rfl)
      try simp only [Act.put, List.setIfInBounds_toArray, List.set_cons_zero, List.set_cons_succ]
      refine x_take (i := 2) (oi := { dst := some 43, op := Op.move (Operand.tmp 6), type := 89, pos := "branch.go:231", after := #[], guard := none }) (v := ?_) rfl (by kernel_rfl) (by kernel_rfl) (by kernel_rfl) (by kernel_rfl) (by kernel_rfl) (fun _ _ _ h => h) (Or.inl ⟨rfl, ?_⟩) (by assumption) ?_
      rotate_left
      · (intro w' hSw; replace q2 := kept_cell hSw q2; replace d0 := kept_cell hSw d0; replace d1 := kept_cell hSw d1; replace d2 := kept_cell hSw d2; replace e2 := kept_cell hSw e2; replace e3 := kept_cell hSw e3; replace p0 := kept_cell hSw p0; replace r0 := kept_cell hSw r0; replace r1 := kept_cell hSw r1; replace r2 := kept_cell hSw r2; go_simp; try with_reducible rfl)
      try simp only [Act.put, List.setIfInBounds_toArray, List.set_cons_zero, List.set_cons_succ]
      refine x_take (i := 4) (oi := { dst := some 45, op := Op.load 88 (Operand.tmp 2), type := 88, pos := "branch.go:231", after := #[], guard := none }) (v := ?_) rfl (by kernel_rfl) (by kernel_rfl) (by kernel_rfl) (by kernel_rfl) (by kernel_rfl) (fun _ _ _ h => h) (Or.inl ⟨rfl, ?_⟩) (by assumption) ?_
      rotate_left
      · (intro w' hSw; replace q2 := kept_cell hSw q2; replace d0 := kept_cell hSw d0; replace d1 := kept_cell hSw d1; replace d2 := kept_cell hSw d2; replace e2 := kept_cell hSw e2; replace e3 := kept_cell hSw e3; replace p0 := kept_cell hSw p0; replace r0 := kept_cell hSw r0; replace r1 := kept_cell hSw r1; replace r2 := kept_cell hSw r2; go_simp; try with_reducible rfl)
      try simp only [Act.put, List.setIfInBounds_toArray, List.set_cons_zero, List.set_cons_succ]
      refine x_take (i := 5) (oi := { dst := some 46, op := Op.fieldAddr 24 (Operand.tmp 1) 2, type := 0, pos := "branch.go:231", after := #[], guard := none }) (v := ?_) rfl (by kernel_rfl) (by kernel_rfl) (by kernel_rfl) (by kernel_rfl) (by kernel_rfl) (fun _ _ _ h => h) (Or.inl ⟨rfl, ?_⟩) (by assumption) ?_
      rotate_left
      · (intro w' hSw; replace q2 := kept_cell hSw q2; replace d0 := kept_cell hSw d0; replace d1 := kept_cell hSw d1; replace d2 := kept_cell hSw d2; replace e2 := kept_cell hSw e2; replace e3 := kept_cell hSw e3; replace p0 := kept_cell hSw p0; replace r0 := kept_cell hSw r0; replace r1 := kept_cell hSw r1; replace r2 := kept_cell hSw r2; go_simp; try with_reducible rfl)
      try simp only [Act.put, List.setIfInBounds_toArray, List.set_cons_zero, List.set_cons_succ]
      refine x_take (i := 6) (oi := { dst := some 47, op := Op.load 22 (Operand.tmp 46), type := 22, pos := "branch.go:231", after := #[{ on := 5, ground := Ground.data }], guard := none }) (v := ?_) rfl (by kernel_rfl) (by kernel_rfl) (by kernel_rfl) (by kernel_rfl) (by kernel_rfl) (fun _ _ _ h => h) (Or.inl ⟨rfl, ?_⟩) (by assumption) ?_
      rotate_left
      · (intro w' hSw; replace q2 := kept_cell hSw q2; replace d0 := kept_cell hSw d0; replace d1 := kept_cell hSw d1; replace d2 := kept_cell hSw d2; replace e2 := kept_cell hSw e2; replace e3 := kept_cell hSw e3; replace p0 := kept_cell hSw p0; replace r0 := kept_cell hSw r0; replace r1 := kept_cell hSw r1; replace r2 := kept_cell hSw r2; go_simp; try with_reducible rfl)
      try simp only [Act.put, List.setIfInBounds_toArray, List.set_cons_zero, List.set_cons_succ]
      refine x_take (i := 7) (oi := { dst := some 48, op := Op.load 3 (Operand.tmp 4), type := 3, pos := "branch.go:231", after := #[], guard := none }) (v := ?_) rfl (by kernel_rfl) (by kernel_rfl) (by kernel_rfl) (by kernel_rfl) (by kernel_rfl) (fun _ _ _ h => h) (Or.inl ⟨rfl, ?_⟩) (by assumption) ?_
      rotate_left
      · (intro w' hSw; replace q2 := kept_cell hSw q2; replace d0 := kept_cell hSw d0; replace d1 := kept_cell hSw d1; replace d2 := kept_cell hSw d2; replace e2 := kept_cell hSw e2; replace e3 := kept_cell hSw e3; replace p0 := kept_cell hSw p0; replace r0 := kept_cell hSw r0; replace r1 := kept_cell hSw r1; replace r2 := kept_cell hSw r2; go_simp; try with_reducible rfl)
      try simp only [Act.put, List.setIfInBounds_toArray, List.set_cons_zero, List.set_cons_succ]
      refine x_take (i := 8) (oi := { dst := some 49, op := Op.indexAddr 22 (Operand.tmp 47) (Operand.tmp 48), type := 0, pos := "branch.go:231", after := #[{ on := 6, ground := Ground.data }, { on := 7, ground := Ground.data }], guard := none }) (v := ?_) rfl (by kernel_rfl) (by kernel_rfl) (by kernel_rfl) (by kernel_rfl) (by kernel_rfl) (fun _ _ _ h => h) (Or.inl ⟨rfl, ?_⟩) (by assumption) ?_
      rotate_left
      · (intro w' hSw; replace q2 := kept_cell hSw q2; replace d0 := kept_cell hSw d0; replace d1 := kept_cell hSw d1; replace d2 := kept_cell hSw d2; replace e2 := kept_cell hSw e2; replace e3 := kept_cell hSw e3; replace p0 := kept_cell hSw p0; replace r0 := kept_cell hSw r0; replace r1 := kept_cell hSw r1; replace r2 := kept_cell hSw r2; go_simp; try with_reducible rfl)
      try simp only [Act.put, List.setIfInBounds_toArray, List.set_cons_zero, List.set_cons_succ]
      refine x_take (i := 9) (oi := { dst := some 50, op := Op.fieldAddr 48 (Operand.tmp 49) 2, type := 0, pos := "branch.go:231", after := #[{ on := 8, ground := Ground.data }], guard := none }) (v := ?_) rfl (by kernel_rfl) (by kernel_rfl) (by kernel_rfl) (by kernel_rfl) (by kernel_rfl) (fun _ _ _ h => h) (Or.inl ⟨rfl, ?_⟩) (by assumption) ?_
      rotate_left
      · (intro w' hSw; replace q2 := kept_cell hSw q2; replace d0 := kept_cell hSw d0; replace d1 := kept_cell hSw d1; replace d2 := kept_cell hSw d2; replace e2 := kept_cell hSw e2; replace e3 := kept_cell hSw e3; replace p0 := kept_cell hSw p0; replace r0 := kept_cell hSw r0; replace r1 := kept_cell hSw r1; replace r2 := kept_cell hSw r2; go_simp; try with_reducible rfl)
      try simp only [Act.put, List.setIfInBounds_toArray, List.set_cons_zero, List.set_cons_succ]
      refine x_take (i := 10) (oi := { dst := some 51, op := Op.load 3 (Operand.tmp 50), type := 3, pos := "branch.go:231", after := #[{ on := 9, ground := Ground.data }], guard := none }) (v := ?_) rfl (by kernel_rfl) (by kernel_rfl) (by kernel_rfl) (by kernel_rfl) (by kernel_rfl) (fun _ _ _ h => h) (Or.inl ⟨rfl, ?_⟩) (by assumption) ?_
      rotate_left
      · (intro w' hSw; replace q2 := kept_cell hSw q2; replace d0 := kept_cell hSw d0; replace d1 := kept_cell hSw d1; replace d2 := kept_cell hSw d2; replace e2 := kept_cell hSw e2; replace e3 := kept_cell hSw e3; replace p0 := kept_cell hSw p0; replace r0 := kept_cell hSw r0; replace r1 := kept_cell hSw r1; replace r2 := kept_cell hSw r2; go_simp; try with_reducible rfl)
      try simp only [Act.put, List.setIfInBounds_toArray, List.set_cons_zero, List.set_cons_succ]
      refine x_take (i := 13) (oi := { dst := some 54, op := Op.load 87 (Operand.tmp 3), type := 87, pos := "branch.go:231", after := #[], guard := none }) (v := ?_) rfl (by kernel_rfl) (by kernel_rfl) (by kernel_rfl) (by kernel_rfl) (by kernel_rfl) (fun _ _ _ h => h) (Or.inl ⟨rfl, ?_⟩) (by assumption) ?_
      rotate_left
      · (intro w' hSw; replace q2 := kept_cell hSw q2; replace d0 := kept_cell hSw d0; replace d1 := kept_cell hSw d1; replace d2 := kept_cell hSw d2; replace e2 := kept_cell hSw e2; replace e3 := kept_cell hSw e3; replace p0 := kept_cell hSw p0; replace r0 := kept_cell hSw r0; replace r1 := kept_cell hSw r1; replace r2 := kept_cell hSw r2; go_simp; try with_reducible rfl)
      try simp only [Act.put, List.setIfInBounds_toArray, List.set_cons_zero, List.set_cons_succ]
      refine x_take (i := 14) (oi := { dst := some 55, op := Op.load 52 (Operand.tmp 7), type := 52, pos := "branch.go:231", after := #[], guard := none }) (v := ?_) rfl (by kernel_rfl) (by kernel_rfl) (by kernel_rfl) (by kernel_rfl) (by kernel_rfl) (fun _ _ _ h => h) (Or.inl ⟨rfl, ?_⟩) (by assumption) ?_
      rotate_left
      · (intro w' hSw; replace q2 := kept_cell hSw q2; replace d0 := kept_cell hSw d0; replace d1 := kept_cell hSw d1; replace d2 := kept_cell hSw d2; replace e2 := kept_cell hSw e2; replace e3 := kept_cell hSw e3; replace p0 := kept_cell hSw p0; replace r0 := kept_cell hSw r0; replace r1 := kept_cell hSw r1; replace r2 := kept_cell hSw r2; go_simp; try with_reducible rfl)
      try simp only [Act.put, List.setIfInBounds_toArray, List.set_cons_zero, List.set_cons_succ]
      refine x_take (i := 15) (oi := { dst := some 56, op := Op.load 88 (Operand.tmp 2), type := 88, pos := "branch.go:231", after := #[], guard := none }) (v := ?_) rfl (by kernel_rfl) (by kernel_rfl) (by kernel_rfl) (by kernel_rfl) (by kernel_rfl) (fun _ _ _ h => h) (Or.inl ⟨rfl, ?_⟩) (by assumption) ?_
      rotate_left
      · (intro w' hSw; replace q2 := kept_cell hSw q2; replace d0 := kept_cell hSw d0; replace d1 := kept_cell hSw d1; replace d2 := kept_cell hSw d2; replace e2 := kept_cell hSw e2; replace e3 := kept_cell hSw e3; replace p0 := kept_cell hSw p0; replace r0 := kept_cell hSw r0; replace r1 := kept_cell hSw r1; replace r2 := kept_cell hSw r2; go_simp; try with_reducible rfl)
      try simp only [Act.put, List.setIfInBounds_toArray, List.set_cons_zero, List.set_cons_succ]
      refine x_take (i := 16) (oi := { dst := some 57, op := Op.fieldAddr 24 (Operand.tmp 1) 2, type := 0, pos := "branch.go:231", after := #[], guard := none }) (v := ?_) rfl (by kernel_rfl) (by kernel_rfl) (by kernel_rfl) (by kernel_rfl) (by kernel_rfl) (fun _ _ _ h => h) (Or.inl ⟨rfl, ?_⟩) (by assumption) ?_
      rotate_left
      · (intro w' hSw; replace q2 := kept_cell hSw q2; replace d0 := kept_cell hSw d0; replace d1 := kept_cell hSw d1; replace d2 := kept_cell hSw d2; replace e2 := kept_cell hSw e2; replace e3 := kept_cell hSw e3; replace p0 := kept_cell hSw p0; replace r0 := kept_cell hSw r0; replace r1 := kept_cell hSw r1; replace r2 := kept_cell hSw r2; go_simp; try with_reducible rfl)
      try simp only [Act.put, List.setIfInBounds_toArray, List.set_cons_zero, List.set_cons_succ]
      refine x_take (i := 17) (oi := { dst := some 58, op := Op.load 22 (Operand.tmp 57), type := 22, pos := "branch.go:231", after := #[{ on := 16, ground := Ground.data }], guard := none }) (v := ?_) rfl (by kernel_rfl) (by kernel_rfl) (by kernel_rfl) (by kernel_rfl) (by kernel_rfl) (fun _ _ _ h => h) (Or.inl ⟨rfl, ?_⟩) (by assumption) ?_
      rotate_left
      · (intro w' hSw; replace q2 := kept_cell hSw q2; replace d0 := kept_cell hSw d0; replace d1 := kept_cell hSw d1; replace d2 := kept_cell hSw d2; replace e2 := kept_cell hSw e2; replace e3 := kept_cell hSw e3; replace p0 := kept_cell hSw p0; replace r0 := kept_cell hSw r0; replace r1 := kept_cell hSw r1; replace r2 := kept_cell hSw r2; go_simp; try with_reducible rfl)
      try simp only [Act.put, List.setIfInBounds_toArray, List.set_cons_zero, List.set_cons_succ]
      refine x_take (i := 18) (oi := { dst := some 59, op := Op.load 3 (Operand.tmp 4), type := 3, pos := "branch.go:231", after := #[], guard := none }) (v := ?_) rfl (by kernel_rfl) (by kernel_rfl) (by kernel_rfl) (by kernel_rfl) (by kernel_rfl) (fun _ _ _ h => h) (Or.inl ⟨rfl, ?_⟩) (by assumption) ?_
      rotate_left
      · (intro w' hSw; replace q2 := kept_cell hSw q2; replace d0 := kept_cell hSw d0; replace d1 := kept_cell hSw d1; replace d2 := kept_cell hSw d2; replace e2 := kept_cell hSw e2; replace e3 := kept_cell hSw e3; replace p0 := kept_cell hSw p0; replace r0 := kept_cell hSw r0; replace r1 := kept_cell hSw r1; replace r2 := kept_cell hSw r2; go_simp; try with_reducible rfl)
      try simp only [Act.put, List.setIfInBounds_toArray, List.set_cons_zero, List.set_cons_succ]
      refine x_take (i := 19) (oi := { dst := some 60, op := Op.indexAddr 22 (Operand.tmp 58) (Operand.tmp 59), type := 0, pos := "branch.go:231", after := #[{ on := 17, ground := Ground.data }, { on := 18, ground := Ground.data }], guard := none }) (v := ?_) rfl (by kernel_rfl) (by kernel_rfl) (by kernel_rfl) (by kernel_rfl) (by kernel_rfl) (fun _ _ _ h => h) (Or.inl ⟨rfl, ?_⟩) (by assumption) ?_
      rotate_left
      · (intro w' hSw; replace q2 := kept_cell hSw q2; replace d0 := kept_cell hSw d0; replace d1 := kept_cell hSw d1; replace d2 := kept_cell hSw d2; replace e2 := kept_cell hSw e2; replace e3 := kept_cell hSw e3; replace p0 := kept_cell hSw p0; replace r0 := kept_cell hSw r0; replace r1 := kept_cell hSw r1; replace r2 := kept_cell hSw r2; go_simp; try with_reducible rfl)
      try simp only [Act.put, List.setIfInBounds_toArray, List.set_cons_zero, List.set_cons_succ]
      refine x_take (i := 20) (oi := { dst := some 61, op := Op.fieldAddr 48 (Operand.tmp 60) 1, type := 0, pos := "branch.go:231", after := #[{ on := 19, ground := Ground.data }], guard := none }) (v := ?_) rfl (by kernel_rfl) (by kernel_rfl) (by kernel_rfl) (by kernel_rfl) (by kernel_rfl) (fun _ _ _ h => h) (Or.inl ⟨rfl, ?_⟩) (by assumption) ?_
      rotate_left
      · (intro w' hSw; replace q2 := kept_cell hSw q2; replace d0 := kept_cell hSw d0; replace d1 := kept_cell hSw d1; replace d2 := kept_cell hSw d2; replace e2 := kept_cell hSw e2; replace e3 := kept_cell hSw e3; replace p0 := kept_cell hSw p0; replace r0 := kept_cell hSw r0; replace r1 := kept_cell hSw r1; replace r2 := kept_cell hSw r2; go_simp; try with_reducible rfl)
      try simp only [Act.put, List.setIfInBounds_toArray, List.set_cons_zero, List.set_cons_succ]
      refine x_take (i := 21) (oi := { dst := some 62, op := Op.load 3 (Operand.tmp 61), type := 3, pos := "branch.go:231", after := #[{ on := 20, ground := Ground.data }], guard := none }) (v := ?_) rfl (by kernel_rfl) (by kernel_rfl) (by kernel_rfl) (by kernel_rfl) (by kernel_rfl) (fun _ _ _ h => h) (Or.inl ⟨rfl, ?_⟩) (by assumption) ?_
      rotate_left
      · (intro w' hSw; replace q2 := kept_cell hSw q2; replace d0 := kept_cell hSw d0; replace d1 := kept_cell hSw d1; replace d2 := kept_cell hSw d2; replace e2 := kept_cell hSw e2; replace e3 := kept_cell hSw e3; replace p0 := kept_cell hSw p0; replace r0 := kept_cell hSw r0; replace r1 := kept_cell hSw r1; replace r2 := kept_cell hSw r2; go_simp; try with_reducible rfl)
      try simp only [Act.put, List.setIfInBounds_toArray, List.set_cons_zero, List.set_cons_succ]
      refine x_one (i := 3) (o := { dst := some 44, op := Op.call { callee := Callee.value (Operand.tmp 43), args := #[], argTypes := #[] }, type := 52, pos := "branch.go:231", after := #[{ on := 2, ground := Ground.data }], guard := none }) (by kernel_rfl) rfl (fun K hK => ?_)
      (go_simp; go_at_call 73; with_reducible refine (V73.out _ w.heap.size (kept_trans KA hHeld) (kept_cell hHeld p0)).mono ?_; rintro e w3 ⟨rfl, k3⟩; have KK3 : Kept W w3 := kept_trans hHeld k3; try dsimp only)
      refine hK.out _ _ ?_ (fun hHeld => ?_)
      · (try dsimp only); repeat (first | assumption | exact kept_refl _ | refine kept_drew ?_ | refine kept_alloc ?_ _ | refine kept_set ?_ (by omega) _)
      clear hK K
      try simp only [Act.put, List.setIfInBounds_toArray, List.set_cons_zero, List.set_cons_succ]
      refine x_one (i := 11) (o := { dst := some 52, op := Op.call { callee := Callee.value (Operand.tmp 45), args := #[Operand.tmp 51], argTypes := #[3] }, type := 52, pos := "branch.go:231", after := #[{ on := 4, ground := Ground.data }, { on := 10, ground := Ground.data }, { on := 3, ground := Ground.chain }], guard := none }) (by kernel_rfl) rfl (fun K hK => ?_)
      (go_simp; go_at_call 72; with_reducible refine (C2.out _ (kept_trans KA hHeld)).mono ?_; rintro e w4 ⟨Ao, co, rfl, rko, k4⟩; replace rko := rko.mono (show w.heap.size + 2 ≤ _ by have hh := hHeld.size; omega); have KK4 : Kept W w4 := kept_trans hHeld k4; try dsimp only)
      refine hK.out _ _ ?_ (fun hHeld => ?_)
      · (try dsimp only); repeat (first | assumption | exact kept_refl _ | refine kept_drew ?_ | refine kept_alloc ?_ _ | refine kept_set ?_ (by omega) _)
      clear hK K
      try simp only [Act.put, List.setIfInBounds_toArray, List.set_cons_zero, List.set_cons_succ]
      refine x_one (i := 12) (o := { dst := some 53, op := Op.call { callee := Callee.value (Operand.tmp 42), args := #[Operand.const (Value.int IntKind.i64 3), Operand.tmp 44, Operand.tmp 52], argTypes := #[3, 52, 52] }, type := 52, pos := "branch.go:231", after := #[{ on := 1, ground := Ground.data }, { on := 3, ground := Ground.data }, { on := 11, ground := Ground.data }, { on := 11, ground := Ground.chain }], guard := none }) (by kernel_rfl) rfl (fun K hK => ?_)
      (go_simp; go_at_call 71; with_reducible refine (pair_red1 (w.heap.size + 2) (nv l k) fo _ Ao co (by have hh := hHeld.size; omega) lo (rko.kept (by first | exact kept_refl _ | exact kept_drew (kept_refl _)))).mono ?_; rintro e w5 ⟨Bp, cp, rfl, rkp, k5⟩; have KK5 : Kept W w5 := kept_trans hHeld k5; try dsimp only)
      refine hK.out _ _ ?_ (fun hHeld => ?_)
      · (try dsimp only); repeat (first | assumption | exact kept_refl _ | refine kept_drew ?_ | refine kept_alloc ?_ _ | refine kept_set ?_ (by omega) _)
      clear hK K
      try simp only [Act.put, List.setIfInBounds_toArray, List.set_cons_zero, List.set_cons_succ]
      refine x_one (i := 22) (o := { dst := some 63, op := Op.call { callee := Callee.value (Operand.tmp 56), args := #[Operand.tmp 62], argTypes := #[3] }, type := 52, pos := "branch.go:231", after := #[{ on := 15, ground := Ground.data }, { on := 21, ground := Ground.data }, { on := 12, ground := Ground.chain }], guard := none }) (by kernel_rfl) rfl (fun K hK => ?_)
      (go_simp; go_at_call 72; with_reducible refine (C1.out _ (kept_trans KA hHeld)).mono ?_; rintro e w6 ⟨Az, cz, rfl, rkz, k6⟩; replace rkz := rkz.mono (show w.heap.size + 2 ≤ _ by have hh := hHeld.size; omega); have KK6 : Kept W w6 := kept_trans hHeld k6; try dsimp only)
      refine hK.out _ _ ?_ (fun hHeld => ?_)
      · (try dsimp only); repeat (first | assumption | exact kept_refl _ | refine kept_drew ?_ | refine kept_alloc ?_ _ | refine kept_set ?_ (by omega) _)
      clear hK K
      try simp only [Act.put, List.setIfInBounds_toArray, List.set_cons_zero, List.set_cons_succ]
      refine x_one (i := 23) (o := { dst := some 64, op := Op.call { callee := Callee.value (Operand.tmp 54), args := #[Operand.const (Value.int IntKind.i64 3), Operand.tmp 55, Operand.tmp 63], argTypes := #[3, 52, 52] }, type := 52, pos := "branch.go:231", after := #[{ on := 13, ground := Ground.data }, { on := 14, ground := Ground.data }, { on := 22, ground := Ground.data }, { on := 22, ground := Ground.chain }], guard := none }) (by kernel_rfl) rfl (fun K hK => ?_)
      (go_simp; go_at_call 71; with_reducible refine (pair_red2 (w.heap.size + 2) (nv l k) fz _ _ Az cz 1 (by have hh := hHeld.size; omega) lz (rkz.kept (by first | exact kept_refl _ | exact kept_drew (kept_refl _))) (RV.kept hHeld)).mono ?_; rintro e w7 ⟨Bq, cq, rfl, rkq, k7⟩; have KK7 : Kept W w7 := kept_trans hHeld k7; try dsimp only)
      refine hK.out _ _ ?_ (fun hHeld => ?_)
      · (try dsimp only); repeat (first | assumption | exact kept_refl _ | refine kept_drew ?_ | refine kept_alloc ?_ _ | refine kept_set ?_ (by omega) _)
      clear hK K
      try simp only [Act.put, List.setIfInBounds_toArray, List.set_cons_zero, List.set_cons_succ]
      refine x_one (i := 24) (o := { dst := some 65, op := Op.call { callee := Callee.value (Operand.tmp 41), args := #[Operand.const (Value.int IntKind.i64 4), Operand.tmp 53, Operand.tmp 64], argTypes := #[3, 52, 52] }, type := 52, pos := "branch.go:231", after := #[{ on := 0, ground := Ground.data }, { on := 12, ground := Ground.data }, { on := 23, ground := Ground.data }, { on := 23, ground := Ground.chain }], guard := none }) (by kernel_rfl) rfl (fun K hK => ?_)
      (go_simp; go_at_call 71; with_reducible refine (pair_red3 (w.heap.size + 2) [.mk 0 (nv l k) [], fo] [.mk 2 0 [.mk 0 (nv l k) []], fz] _ Bp Bq cp cq (by have hh := hHeld.size; omega) rfl rfl (rkp.kept (kept_trans k6 k7)) rkq).mono ?_; rintro e w8 ⟨Br, cr, rfl, rkr, k8⟩; have KK8 : Kept W w8 := kept_trans hHeld k8; have x5 := o5.kept KK8; have f0 := x5.frozen 0; have f1 := x5.frozen 1; have f2 := x5.frozen 2; have y0 := x5.cell (j := 0) rfl; have y1 := x5.cell (j := 1) rfl; have y2 := x5.cell (j := 2) rfl; try dsimp only)
      refine hK.out _ _ ?_ (fun hHeld => ?_)
      · (try dsimp only); repeat (first | assumption | exact kept_refl _ | refine kept_drew ?_ | refine kept_alloc ?_ _ | refine kept_set ?_ (by omega) _)
      clear hK K
      try simp only [Act.put, List.setIfInBounds_toArray, List.set_cons_zero, List.set_cons_succ]
      refine x_last (i := 25) (o := { dst := none, op := Op.store 52 (Operand.tmp 5) (Operand.tmp 65), type := 0, pos := "branch.go:231", after := #[{ on := 24, ground := Ground.data }, { on := 24, ground := Ground.chain }, { on := 0, ground := Ground.phase }, { on := 1, ground := Ground.phase }, { on := 2, ground := Ground.phase }, { on := 3, ground := Ground.phase }, { on := 4, ground := Ground.phase }, { on := 5, ground := Ground.phase }, { on := 6, ground := Ground.phase }, { on := 7, ground := Ground.phase }, { on := 8, ground := Ground.phase }, { on := 9, ground := Ground.phase }, { on := 10, ground := Ground.phase }, { on := 11, ground := Ground.phase }, { on := 12, ground := Ground.phase }, { on := 13, ground := Ground.phase }, { on := 14, ground := Ground.phase }, { on := 15, ground := Ground.phase }, { on := 16, ground := Ground.phase }, { on := 17, ground := Ground.phase }, { on := 18, ground := Ground.phase }, { on := 19, ground := Ground.phase }, { on := 20, ground := Ground.phase }, { on := 21, ground := Ground.phase }, { on := 22, ground := Ground.phase }, { on := 23, ground := Ground.phase }, { on := 24, ground := Ground.phase }], guard := none }) (by kernel_rfl) rfl (by simp) (fun K hK => ?_)
      go_simp
      refine hK.out _ _ ?_
      clear hK K
      try simp only [Act.put, List.setIfInBounds_toArray, List.set_cons_zero, List.set_cons_succ]
      refine x_done (by kernel_rfl) ?_ _
      go_wp2_with fail
      have o9 := ((x5.set 0 (.int .i64 4)).set 1 (.int .i64 0)).set 2 (.slice Br 2 cr)
      have pk := kept_set (g := w.heap.size + 1) (j := 2) (kept_set (g := w.heap.size + 1) (j := 1) (kept_set (g := w.heap.size + 1) (j := 0) (kept_trans KB KK8) (by omega) (.int .i64 4)) (by omega) (.int .i64 0)) (by omega) (.slice Br 2 cr)
      have rk9 := ((rkr.set (g := w.heap.size + 1) (by omega) 0 (.int .i64 4)).set (g := w.heap.size + 1) (by omega) 1 (.int .i64 0)).set (g := w.heap.size + 1) (by omega) 2 (.slice Br 2 cr)
      obtain ⟨W9, hW9⟩ : ∃ W9, W9 = ((w8.setCell ⟨w.heap.size + 1, 0, none⟩ (.int .i64 4)).setCell ⟨w.heap.size + 1, 1, none⟩ (.int .i64 0)).setCell ⟨w.heap.size + 1, 2, none⟩ (.slice Br 2 cr) := ⟨_, rfl⟩
      rw [← hW9] at o9 pk rk9 ⊢
      clear hW9 q2 d0 d1 d2 e2 e3 p0 x5 f0 f1 f2 y0 y1 y2
      have q0 := o9.cell (j := 0) rfl
      have q1 := o9.cell (j := 1) rfl
      have q2 := o9.cell (j := 2) rfl
      exact bodyPost_ret (v := .agg #[.int .i64 4, .int .i64 0, .slice Br 2 cr]) (by simp [results, Try.results72, go_sem, q0, q1, q2]) rfl ⟨Br, cr, rfl, rk9.mono (by omega), pk⟩
end Go.Proofs.Ytinpmdekdfgiiaa

/- The reference's number of sequences. -/
set_option linter.unusedVariables false
set_option linter.unusedSimpArgs false
namespace Go.Proofs.Ytinpmdekdfgiiaa
open Go.RowKit

/-- A list that is filled from its end. -/
def tl (f : Nat → Int) (n j : Nat) : List Int := (List.range n).map (fun k => if j ≤ k then f k else 0)
@[simp] theorem tl_length (f : Nat → Int) (n j : Nat) : (tl f n j).length = n := by simp [tl]
theorem tl_at {f : Nat → Int} {n j k : Nat} (hk : k < n) : ia (tl f n j) k = if j ≤ k then f k else 0 := by simp [tl, ia, List.getD_eq_getElem?_getD, hk]
theorem tl_all (f : Nat → Int) (n : Nat) : tl f n n = List.replicate n 0 := by
  apply List.ext_getElem
  · simp
  · intro k h1 h2
    simp [tl]
    intro h
    simp at h1
    omega
theorem tl_set {f : Nat → Int} {n j : Nat} (hj : j < n) : (tl f n (j + 1)).set j (f j) = tl f n j := by
  apply List.ext_getElem
  · simp
  · intro k h1 h2
    simp only [tl, List.getElem_set, List.getElem_map, List.getElem_range]
    by_cases e : j = k
    · subst e; simp
    · rw [if_neg e]
      by_cases h : j + 1 ≤ k
      · rw [if_pos h, if_pos (by omega)]
      · rw [if_neg h, if_neg (by omega)]
theorem Own.cast {w : World} {g : Nat} {e : TypeId} {cs cs' : List Value} (h : Own w g e cs) (he : cs = cs') : Own w g e cs' := he ▸ h
/-- The number of sequences. -/
def sqB (s : Int) (l : List Nd) : Int := if s < 0 then 0 else (sq l s.toNat : Nat)

set_option maxRecDepth 100000 in
set_option maxHeartbeats 1000000 in
theorem rseq34_any (n s : Int) (A : Option Addr) (c : Nat) (l : List Nd) (w : World) (hr : RN w A l) (hv : validB n s l = true) :
    Calls Try.prog 34 #[.agg #[.int .i64 n, .int .i64 s, .slice A l.length c]] w fun e w' => e = .returned (.int .i64 (sqB s l)) ∧ Kept w w' := by
  obtain ⟨hi0, hi1, hln, hs⟩ := valid_start hv
  by_cases hs0 : s < 0
  · unfold sqB
    rw [if_pos hs0]
    have b1 : decide (s < 0) = true := decide_eq_true hs0
    have K0 : Kept w (w.alloc (.cells #[.int .i64 n, .int .i64 s, .slice A l.length c] 24)) := kept_alloc (kept_refl w) _
    clear hr hv
    go_enter Try.func34, Try.ntmps34
    go_wp2_with fail
    go_ret
    exact ⟨rfl, K0⟩
  have b1 : decide (s < 0) = false := decide_eq_false hs0
  have hsl : s.toNat < l.length := by omega
  have hq : sqB s l = (sq l s.toNat : Nat) := by unfold sqB; rw [if_neg hs0]
  rw [hq]
  clear hq
  have hmk := make_ints l.length (by omega)
  have K0 : Kept w ((w.alloc (.cells #[.int .i64 n, .int .i64 s, .slice A l.length c] 24)).alloc (.cells (ints (List.replicate l.length 0)).toArray 3)) := kept_alloc (kept_alloc (kept_refl w) _) _
  have o0 := (Own.new w 24 [.int .i64 n, .int .i64 s, .slice A l.length c]).alloc (.cells (ints (List.replicate l.length 0)).toArray 3)
  have oL := Own.new (w.alloc (.cells #[.int .i64 n, .int .i64 s, .slice A l.length c] 24)) 3 (ints (List.replicate l.length 0))
  simp only [World.size_alloc] at oL
  have HV := Lib.hid hv
  have HS := Lib.hid hs
  have HSL := Lib.hid hsl
  clear hv hs hsl
  go_enter Try.func34, Try.ntmps34
  go_wp2_with fail
  clear hmk
  go_loopg [4] l.length (fun g v wr => ∃ j : Nat, j ≤ l.length ∧ g = j ∧ v = .int .i64 ((j : Int) - 1) ∧ Kept w wr ∧ Own wr w.heap.size 24 [.int .i64 n, .int .i64 s, .slice A l.length c] ∧ Own wr (w.heap.size + 1) 3 (ints (tl (fun k => ((sq l k : Nat) : Int)) l.length j)))
  case atStart => exact ⟨l.length, Nat.le_refl _, rfl, by go_num, K0, o0, by rw [tl_all]; exact oL⟩
  case round =>
    clear o0 oL K0
    obtain ⟨j, hj, hg, rfl, K0, o0, oL⟩ := hrel
    replace hg := hg.symm
    subst hg
    have q0 := o0.cell (j := 0) rfl
    have q1 := o0.cell (j := 1) rfl
    have q2 := o0.cell (j := 2) rfl
    cases j with
    | zero =>
      have hsl := HSL.out
      have cs := oL.int (j := s.toNat) (by simpa using hsl)
      rw [tl_at hsl, if_pos (Nat.zero_le _)] at cs
      have g2 : s < (l.length : Int) := by omega
      go_wp2_with fail
      go_ret
      exact ⟨rfl, K0⟩
    | succ i =>
      have hk : i < l.length := by omega
      have hnd := valid_node HV.out hk
      have heq := sq_eq HV.out hk
      obtain ⟨b, off, hA, hcs⟩ := hr.at_ hk
      subst hA
      obtain ⟨d0, d1, d2⟩ := hcs i hk
      clear hcs
      have D0 := d0; have D1 := d1; have D2 := d2
      replace d0 := kept_cell K0 d0
      replace d1 := kept_cell K0 d1
      replace d2 := kept_cell K0 d2
      have zb : b < wr.heap.size := kept_lt d0
      have fi := oL.frozen i
      have ci := oL.int (j := i) (by simpa using hk)
      have g0 : (0 : Int) ≤ (i : Int) := by omega
      have g1 : (i : Int) < (l.length : Int) := by omega
      have hz := sq_le l (nz l i).toNat
      have ho := sq_le l (no l i).toNat
      rw [show (((i + 1 : Nat) : Int) - 1) = (i : Int) from by omega]
      by_cases hz0 : 0 ≤ nz l i
      · by_cases ho0 : 0 ≤ no l i ∧ no l i ≠ nz l i
        · have e1 : (no l i == nz l i) = false := beq_eq_false_iff_ne.2 ho0.2
          have ho1 := ho0.1
          have hsq : ((sq l i : Nat) : Int) = min (1 + ((sq l (nz l i).toNat : Nat) : Int) + ((sq l (no l i).toNat : Nat) : Int)) 20000 := by rw [heq]; unfold sqK; rw [if_pos hz0, if_pos ho0]; omega
          have m0 : IntKind.i64.wrap (1 + ((sq l (nz l i).toNat : Nat) : Int)) = 1 + ((sq l (nz l i).toNat : Nat) : Int) := IntWalk.i64_in _ (by omega)
          have m1 : IntKind.i64.wrap (1 + ((sq l (nz l i).toNat : Nat) : Int) + ((sq l (no l i).toNat : Nat) : Int)) = 1 + ((sq l (nz l i).toNat : Nat) : Int) + ((sq l (no l i).toNat : Nat) : Int) := IntWalk.i64_in _ (by omega)
          go_wp2_with fail
          have oLa := oL.setInt i (1)
          have oa := o0.other (a := ⟨w.heap.size + 1, i, none⟩) (by simp) (.int .i64 (1))
          have Ka := kept_set (g := w.heap.size + 1) (j := i) K0 (by omega) (.int .i64 (1))
          obtain ⟨w1, hw1⟩ : ∃ x, x = wr.setCell ⟨w.heap.size + 1, i, none⟩ (.int .i64 (1)) := ⟨_, rfl⟩
          rw [← hw1] at oLa oa Ka ⊢
          clear hw1 q0 q1 q2 d0 d1 d2 fi ci
          have q2 := oa.cell (j := 2) rfl
          have fi := oLa.frozen i
          have d0 := kept_cell Ka D0
          have d1 := kept_cell Ka D1
          have d2 := kept_cell Ka D2
          have ci : w1.cell? ⟨w.heap.size + 1, i, none⟩ = some (.int .i64 (1)) := by have h := oLa.int (j := i) (by simpa using hk); rwa [ia_set, if_pos ⟨rfl, by simpa using hk⟩] at h
          have cc : w1.cell? ⟨w.heap.size + 1, (nz l i).toNat, none⟩ = some (.int .i64 ((sq l (nz l i).toNat : Nat) : Int)) := by have h := oLa.int (j := (nz l i).toNat) (by simp; omega); rwa [ia_set, if_neg (by omega), tl_at (by omega), if_pos (by omega)] at h
          have zb2 : b < w1.heap.size := kept_lt d0
          have zL := oLa.lt
          go_region
          go_wp2_with fail
          clear cc
          replace oLa := (oLa.setInt i (1 + ((sq l (nz l i).toNat : Nat) : Int))).drew
          replace oa := (oa.other (a := ⟨w.heap.size + 1, i, none⟩) (by simp) (.int .i64 (1 + ((sq l (nz l i).toNat : Nat) : Int)))).drew
          replace Ka := kept_drew (kept_set (g := w.heap.size + 1) (j := i) Ka (by omega) (.int .i64 (1 + ((sq l (nz l i).toNat : Nat) : Int))))
          obtain ⟨w2, hw2⟩ : ∃ x, x = (w1.setCell ⟨w.heap.size + 1, i, none⟩ (.int .i64 (1 + ((sq l (nz l i).toNat : Nat) : Int)))).drew := ⟨_, rfl⟩
          rw [← hw2] at oLa oa Ka ⊢
          clear hw2 q2 d0 d1 d2 fi ci
          have q2 := oa.cell (j := 2) rfl
          have fi := oLa.frozen i
          have d0 := kept_cell Ka D0
          have d1 := kept_cell Ka D1
          have d2 := kept_cell Ka D2
          have ci : w2.cell? ⟨w.heap.size + 1, i, none⟩ = some (.int .i64 (1 + ((sq l (nz l i).toNat : Nat) : Int))) := by have h := oLa.int (j := i) (by simpa using hk); rwa [ia_set, if_pos ⟨rfl, by simpa using hk⟩] at h
          have cc : w2.cell? ⟨w.heap.size + 1, (no l i).toNat, none⟩ = some (.int .i64 ((sq l (no l i).toNat : Nat) : Int)) := by have h := oLa.int (j := (no l i).toNat) (by simp; omega); rwa [ia_set, if_neg (by omega), ia_set, if_neg (by omega), tl_at (by omega), if_pos (by omega)] at h
          have zb2 : b < w2.heap.size := kept_lt d0
          have zL := oLa.lt
          go_region
          go_wp2_with fail
          clear cc
          all_goals
            go_roundg i
            case rel => exact ⟨i, by omega, rfl, by go_num, kept_drew (kept_set (kept_set Ka (by omega) _) (by omega) _), ((oa.other (by simp) _).other (by simp) _).drew, Own.cast ((oLa.setInt i _).setInt i _).drew (by rw [← tl_set (f := fun k => ((sq l k : Nat) : Int)) hk]; simp only [List.set_set]; exact congrArg (fun v => ints (List.set _ i v)) (by rw [hsq]; omega))⟩
            case measure => omega
        · by_cases ho1 : 0 ≤ no l i
          · have e2 : no l i = nz l i := Classical.byContradiction fun e => ho0 ⟨ho1, e⟩
            have e1 : (no l i == nz l i) = true := beq_iff_eq.2 e2
            clear e2
            have hsq : ((sq l i : Nat) : Int) = min (1 + ((sq l (nz l i).toNat : Nat) : Int)) 20000 := by rw [heq]; unfold sqK; rw [if_pos hz0, if_neg ho0]; omega
            have m0 : IntKind.i64.wrap (1 + ((sq l (nz l i).toNat : Nat) : Int)) = 1 + ((sq l (nz l i).toNat : Nat) : Int) := IntWalk.i64_in _ (by omega)
            go_wp2_with fail
            have oLa := oL.setInt i (1)
            have oa := o0.other (a := ⟨w.heap.size + 1, i, none⟩) (by simp) (.int .i64 (1))
            have Ka := kept_set (g := w.heap.size + 1) (j := i) K0 (by omega) (.int .i64 (1))
            obtain ⟨w1, hw1⟩ : ∃ x, x = wr.setCell ⟨w.heap.size + 1, i, none⟩ (.int .i64 (1)) := ⟨_, rfl⟩
            rw [← hw1] at oLa oa Ka ⊢
            clear hw1 q0 q1 q2 d0 d1 d2 fi ci
            have q2 := oa.cell (j := 2) rfl
            have fi := oLa.frozen i
            have d0 := kept_cell Ka D0
            have d1 := kept_cell Ka D1
            have d2 := kept_cell Ka D2
            have ci : w1.cell? ⟨w.heap.size + 1, i, none⟩ = some (.int .i64 (1)) := by have h := oLa.int (j := i) (by simpa using hk); rwa [ia_set, if_pos ⟨rfl, by simpa using hk⟩] at h
            have cc : w1.cell? ⟨w.heap.size + 1, (nz l i).toNat, none⟩ = some (.int .i64 ((sq l (nz l i).toNat : Nat) : Int)) := by have h := oLa.int (j := (nz l i).toNat) (by simp; omega); rwa [ia_set, if_neg (by omega), tl_at (by omega), if_pos (by omega)] at h
            have zb2 : b < w1.heap.size := kept_lt d0
            have zL := oLa.lt
            go_region
            go_wp2_with fail
            clear cc
            all_goals
              go_roundg i
              case rel => exact ⟨i, by omega, rfl, by go_num, kept_drew (kept_set (kept_set Ka (by omega) _) (by omega) _), ((oa.other (by simp) _).other (by simp) _).drew, Own.cast ((oLa.setInt i _).setInt i _).drew (by rw [← tl_set (f := fun k => ((sq l k : Nat) : Int)) hk]; simp only [List.set_set]; exact congrArg (fun v => ints (List.set _ i v)) (by rw [hsq]; omega))⟩
              case measure => omega
          · skip
            have hsq : ((sq l i : Nat) : Int) = min (1 + ((sq l (nz l i).toNat : Nat) : Int)) 20000 := by rw [heq]; unfold sqK; rw [if_pos hz0, if_neg ho0]; omega
            have m0 : IntKind.i64.wrap (1 + ((sq l (nz l i).toNat : Nat) : Int)) = 1 + ((sq l (nz l i).toNat : Nat) : Int) := IntWalk.i64_in _ (by omega)
            go_wp2_with fail
            have oLa := oL.setInt i (1)
            have oa := o0.other (a := ⟨w.heap.size + 1, i, none⟩) (by simp) (.int .i64 (1))
            have Ka := kept_set (g := w.heap.size + 1) (j := i) K0 (by omega) (.int .i64 (1))
            obtain ⟨w1, hw1⟩ : ∃ x, x = wr.setCell ⟨w.heap.size + 1, i, none⟩ (.int .i64 (1)) := ⟨_, rfl⟩
            rw [← hw1] at oLa oa Ka ⊢
            clear hw1 q0 q1 q2 d0 d1 d2 fi ci
            have q2 := oa.cell (j := 2) rfl
            have fi := oLa.frozen i
            have d0 := kept_cell Ka D0
            have d1 := kept_cell Ka D1
            have d2 := kept_cell Ka D2
            have ci : w1.cell? ⟨w.heap.size + 1, i, none⟩ = some (.int .i64 (1)) := by have h := oLa.int (j := i) (by simpa using hk); rwa [ia_set, if_pos ⟨rfl, by simpa using hk⟩] at h
            have cc : w1.cell? ⟨w.heap.size + 1, (nz l i).toNat, none⟩ = some (.int .i64 ((sq l (nz l i).toNat : Nat) : Int)) := by have h := oLa.int (j := (nz l i).toNat) (by simp; omega); rwa [ia_set, if_neg (by omega), tl_at (by omega), if_pos (by omega)] at h
            have zb2 : b < w1.heap.size := kept_lt d0
            have zL := oLa.lt
            go_region
            go_wp2_with fail
            clear cc
            all_goals
              go_roundg i
              case rel => exact ⟨i, by omega, rfl, by go_num, kept_drew (kept_set (kept_set Ka (by omega) _) (by omega) _), ((oa.other (by simp) _).other (by simp) _).drew, Own.cast ((oLa.setInt i _).setInt i _).drew (by rw [← tl_set (f := fun k => ((sq l k : Nat) : Int)) hk]; simp only [List.set_set]; exact congrArg (fun v => ints (List.set _ i v)) (by rw [hsq]; omega))⟩
              case measure => omega
      · by_cases ho0 : 0 ≤ no l i ∧ no l i ≠ nz l i
        · have e1 : (no l i == nz l i) = false := beq_eq_false_iff_ne.2 ho0.2
          have ho1 := ho0.1
          have hsq : ((sq l i : Nat) : Int) = min (1 + ((sq l (no l i).toNat : Nat) : Int)) 20000 := by rw [heq]; unfold sqK; rw [if_neg hz0, if_pos ho0]; omega
          have m0 : IntKind.i64.wrap (1 + ((sq l (no l i).toNat : Nat) : Int)) = 1 + ((sq l (no l i).toNat : Nat) : Int) := IntWalk.i64_in _ (by omega)
          go_wp2_with fail
          have oLa := oL.setInt i (1)
          have oa := o0.other (a := ⟨w.heap.size + 1, i, none⟩) (by simp) (.int .i64 (1))
          have Ka := kept_set (g := w.heap.size + 1) (j := i) K0 (by omega) (.int .i64 (1))
          obtain ⟨w1, hw1⟩ : ∃ x, x = wr.setCell ⟨w.heap.size + 1, i, none⟩ (.int .i64 (1)) := ⟨_, rfl⟩
          rw [← hw1] at oLa oa Ka ⊢
          clear hw1 q0 q1 q2 d0 d1 d2 fi ci
          have q2 := oa.cell (j := 2) rfl
          have fi := oLa.frozen i
          have d0 := kept_cell Ka D0
          have d1 := kept_cell Ka D1
          have d2 := kept_cell Ka D2
          have ci : w1.cell? ⟨w.heap.size + 1, i, none⟩ = some (.int .i64 (1)) := by have h := oLa.int (j := i) (by simpa using hk); rwa [ia_set, if_pos ⟨rfl, by simpa using hk⟩] at h
          have cc : w1.cell? ⟨w.heap.size + 1, (no l i).toNat, none⟩ = some (.int .i64 ((sq l (no l i).toNat : Nat) : Int)) := by have h := oLa.int (j := (no l i).toNat) (by simp; omega); rwa [ia_set, if_neg (by omega), tl_at (by omega), if_pos (by omega)] at h
          have zb2 : b < w1.heap.size := kept_lt d0
          have zL := oLa.lt
          go_region
          go_wp2_with fail
          clear cc
          all_goals
            go_roundg i
            case rel => exact ⟨i, by omega, rfl, by go_num, kept_drew (kept_set (kept_set Ka (by omega) _) (by omega) _), ((oa.other (by simp) _).other (by simp) _).drew, Own.cast ((oLa.setInt i _).setInt i _).drew (by rw [← tl_set (f := fun k => ((sq l k : Nat) : Int)) hk]; simp only [List.set_set]; exact congrArg (fun v => ints (List.set _ i v)) (by rw [hsq]; omega))⟩
            case measure => omega
        · have ho1 : ¬ 0 ≤ no l i := fun e => ho0 ⟨e, by omega⟩
          have hsq : ((sq l i : Nat) : Int) = min (1) 20000 := by rw [heq]; unfold sqK; rw [if_neg hz0, if_neg ho0]; omega
          go_wp2_with fail
          all_goals
            go_roundg i
            case rel => exact ⟨i, by omega, rfl, by go_num, kept_set (kept_set K0 (by omega) _) (by omega) _, ((o0.other (by simp) _).other (by simp) _), Own.cast ((oL.setInt i _).setInt i _) (by rw [← tl_set (f := fun k => ((sq l k : Nat) : Int)) hk]; simp only [List.set_set]; exact congrArg (fun v => ints (List.set _ i v)) (by rw [hsq]; omega))⟩
            case measure => omega
end Go.Proofs.Ytinpmdekdfgiiaa

/- Formula. -/
set_option linter.unusedVariables false
set_option linter.unusedSimpArgs false
namespace Go.Proofs.Ytinpmdekdfgiiaa
open Go.RowKit

def FmBad (g : Int) (w : World) (e : Ending) (w' : World) : Prop := e = .returned (.tuple #[.agg #[.int .i64 0, .int .i64 0, .slice none 0 0], .int .i64 g]) ∧ Kept w w'
def FmGood (f : Fm) (w : World) (e : Ending) (w' : World) : Prop := ∃ A c, e = .returned (.tuple #[fmV f A c, .int .i64 0]) ∧ RK w' A f.l ∧ Kept w w'

set_option maxRecDepth 100000 in
set_option maxHeartbeats 1000000 in
theorem same33_zero (w : World) : Calls Try.prog 33 #[.agg #[.int .i64 0, .int .i64 0, .slice none 0 0], .agg #[.int .i64 0, .int .i64 0, .slice none 0 0]] w fun e w' => e = .returned (.bool true) ∧ Kept w w' := by
  have K0 : Kept w ((w.alloc (.cells #[.int .i64 0, .int .i64 0, .slice none 0 0] 52)).alloc (.cells #[.int .i64 0, .int .i64 0, .slice none 0 0] 52)) := kept_alloc (kept_alloc (kept_refl w) _) _
  have a0 := (Own.new w 52 [.int .i64 0, .int .i64 0, .slice none 0 0]).alloc (.cells #[.int .i64 0, .int .i64 0, .slice none 0 0] 52)
  have a1 := Own.new (w.alloc (.cells #[.int .i64 0, .int .i64 0, .slice none 0 0] 52)) 52 [.int .i64 0, .int .i64 0, .slice none 0 0]
  simp only [World.size_alloc] at a1
  go_enter Try.func33, Try.ntmps33
  go_wp2_with fail
  go_loopg [5] 0 (fun g v wr => v = .int .i64 0 ∧ Own wr w.heap.size 52 [.int .i64 0, .int .i64 0, .slice none 0 0] ∧ Kept w wr)
  case atStart => exact ⟨rfl, a0, K0⟩
  case round =>
    clear a0 a1 K0
    obtain ⟨rfl, a0, K0⟩ := hrel
    have q2 := a0.cell (j := 2) rfl
    go_wp2_with fail
    go_ret
    exact ⟨rfl, K0⟩

set_option maxRecDepth 100000 in
set_option maxHeartbeats 1000000 in
theorem formula32_bad (n s : Int) (A : Option Addr) (c : Nat) (l : List Nd) (w : World) (hm : l.length ≤ 140737488355328) (hr : RN w A l) (hv : validB n s l = false) :
    Calls Try.prog 32 #[.agg #[.int .i64 n, .int .i64 s, .slice A l.length c]] w (FmBad 1 w) := by
  have a0 := (Own.new w 24 [.int .i64 n, .int .i64 s, .slice A l.length c]).alloc (.cells #[.int .i64 0, .int .i64 0, .slice none 0 0] 52)
  have a1 := Own.new (w.alloc (.cells #[.int .i64 n, .int .i64 s, .slice A l.length c] 24)) 52 [.int .i64 0, .int .i64 0, .slice none 0 0]
  have ka := kept_alloc (kept_alloc (kept_refl w) (.cells #[.int .i64 n, .int .i64 s, .slice A l.length c] 24)) (.cells #[.int .i64 0, .int .i64 0, .slice none 0 0] 52)
  simp only [World.size_alloc] at a1
  have C16 := fun (w' : World) (k : Kept w w') => valid_any n s A c l w' hm (hr.kept k)
  rw [hv] at C16
  replace C16 := Lib.hid C16
  clear hr hv
  go_enter Try.func32, Try.ntmps32
  go_wp2_with fail
  refine (C16.out _ ka).mono ?_
  rintro e w1 ⟨rfl, k1⟩
  replace a0 := a0.kept k1; replace a1 := a1.kept k1; replace ka := kept_trans ka k1
  clear k1
  have e0 := a1.cell (j := 0) rfl
  have e1 := a1.cell (j := 1) rfl
  have e2 := a1.cell (j := 2) rfl
  have f0 := a1.frozen 0
  have f1 := a1.frozen 1
  have f2 := a1.frozen 2
  go_wp2_with fail
  have o3 := ((a1.set 0 (.int .i64 0)).set 1 (.int .i64 0)).set 2 (.slice none 0 0)
  have pk := kept_set (g := w.heap.size + 1) (j := 2) (kept_set (g := w.heap.size + 1) (j := 1) (kept_set (g := w.heap.size + 1) (j := 0) ka (by omega) (.int .i64 0)) (by omega) (.int .i64 0)) (by omega) (.slice none 0 0)
  obtain ⟨W2, hW2⟩ : ∃ W2, W2 = ((w1.setCell ⟨w.heap.size + 1, 0, none⟩ (.int .i64 0)).setCell ⟨w.heap.size + 1, 1, none⟩ (.int .i64 0)).setCell ⟨w.heap.size + 1, 2, none⟩ (.slice none 0 0) := ⟨_, rfl⟩
  rw [← hW2] at pk o3 ⊢
  clear hW2 e0 e1 e2
  have q0 := o3.cell (j := 0) rfl
  have q1 := o3.cell (j := 1) rfl
  have q2 := o3.cell (j := 2) rfl
  exact bodyPost_ret (v := .tuple #[.agg #[.int .i64 0, .int .i64 0, .slice none 0 0], .int .i64 1]) (by simp [results, Try.results32, go_sem, q0, q1, q2]) rfl ⟨rfl, pk⟩
end Go.Proofs.Ytinpmdekdfgiiaa
