/- Plain law of Paths: the nodes of a run, one after the other, and their levels. -/
import Derived.Test.YtinpmdekdfgiiaaD1
set_option linter.unusedVariables false
set_option linter.unusedSimpArgs false
namespace Go.Proofs.Ytinpmdekdfgiiaa

/-- Where a run is after k nodes. -/
def trail (l : List Nd) (x : Nat → Bool) (c : Int) : Nat → Int
  | 0 => c
  | k + 1 => if trail l x c k < 0 then trail l x c k else stepN l x (trail l x c k)
theorem trail_left (l : List Nd) (x : Nat → Bool) {c : Int} (h : ¬ c < 0) : ∀ k, trail l x c (k + 1) = trail l x (stepN l x c) k := by
  intro k
  induction k with
  | zero => simp [trail, h]
  | succ k ih => rw [trail, ih]; rfl
theorem run_trail (l : List Nd) (x : Nat → Bool) : ∀ (f : Nat) (c : Int), (∀ k, k < (runF l x f c).2.length → ia (runF l x f c).2 k = trail l x c k ∧ 0 ≤ trail l x c k) ∧ (runF l x f c).1 = trail l x c (runF l x f c).2.length := by
  intro f
  induction f with
  | zero => intro c; exact ⟨fun k h => by simp [runF] at h, rfl⟩
  | succ f ih =>
    intro c
    by_cases hc : c < 0
    · rw [runF_neg _ _ _ hc]; exact ⟨fun k h => by simp at h, rfl⟩
    · obtain ⟨h1, h2⟩ := ih (stepN l x c)
      simp only [runF, hc, if_false, List.length_cons]
      refine ⟨fun k hk => ?_, ?_⟩
      · cases k with
        | zero => exact ⟨by simp [ia, trail], by simp only [trail]; omega⟩
        | succ k =>
          rw [trail_left _ _ hc]
          have := h1 k (by omega)
          exact ⟨by simpa [ia] using this.1, this.2⟩
      · rw [trail_left _ _ hc]; exact h2
theorem trail_in {i s : Int} {l : List Nd} (hv : validB i s l = true) (x : Nat → Bool) : ∀ k, trail l x s k < l.length ∧ -2 ≤ trail l x s k ∧ (0 ≤ trail l x s (k + 1) → 0 ≤ trail l x s k ∧ trail l x s k < trail l x s (k + 1)) := by
  have hs := valid_start hv
  have st : ∀ c : Int, 0 ≤ c → c < l.length → (stepN l x c = -1 ∨ stepN l x c = -2 ∨ (c < stepN l x c ∧ stepN l x c < l.length)) := fun c h0 h1 => by
    have := step_in hv x (k := c.toNat) (by omega)
    rw [show ((c.toNat : Nat) : Int) = c from by omega] at this
    exact this
  have key : ∀ k, trail l x s k < l.length ∧ -2 ≤ trail l x s k := by
    intro k
    induction k with
    | zero => exact ⟨by simp only [trail]; omega, by simp only [trail]; omega⟩
    | succ k ih =>
      simp only [trail]
      split
      · exact ih
      · have := st _ (by omega) ih.1
        omega
  intro k
  refine ⟨(key k).1, (key k).2, fun h => ?_⟩
  simp only [trail] at h ⊢
  split at h
  · omega
  · rename_i hn
    have := st _ (by omega) (key k).1
    rw [if_neg hn]
    omega

theorem lvTo_le {i s : Int} {l : List Nd} (hv : validB i s l = true) {k : Nat} (hk : k < l.length) {j : Nat} : ∀ m, j ≤ m → m ≤ l.length → ia (lvTo s l j) k ≤ ia (lvTo s l m) k := by
  intro m
  induction m with
  | zero => intro h _; obtain rfl : j = 0 := by omega
            exact Int.le_refl _
  | succ m ih =>
    intro h1 h2
    by_cases e : j = m + 1
    · subst e; exact Int.le_refl _
    · have := ih (by omega) (by omega)
      refine Int.le_trans this ?_
      show _ ≤ ia (lvStep l m (lvTo s l m)) k
      by_cases h : ia (lvTo s l m) m < 0
      · rw [lvStep_skip h]; exact Int.le_refl _
      · rw [ia_lvStep hv (by simp) (by omega) hk (by omega)]; split <;> omega
theorem lv_edge {i s : Int} {l : List Nd} (hv : validB i s l = true) {j k : Nat} (hj : j < l.length) (hk : k < l.length) (hh : hit s l j) (he : nz l j = k ∨ no l j = k) : ia (lv s l) j + 1 ≤ ia (lv s l) k := by
  have h1 := lvTo_le hv hk (j := j + 1) l.length (by omega) (Nat.le_refl _)
  refine Int.le_trans ?_ h1
  show _ ≤ ia (lvStep l j (lvTo s l j)) k
  have e := lv_at hv hj
  have h0 : 0 ≤ ia (lvTo s l j) j := by rw [← e]; exact hh
  rw [ia_lvStep hv (by simp) hj hk h0, if_pos he, e]
  omega
theorem mxTo_ge (L : List Int) {k : Nat} : ∀ m, k < m → ia L k ≤ mxTo L m := by
  intro m
  induction m with
  | zero => intro h; omega
  | succ m ih =>
    intro h
    simp only [mxTo]
    by_cases e : k = m
    · subst e; omega
    · have := ih (by omega); omega
theorem trail_level {i s : Int} {l : List Nd} (hv : validB i s l = true) (x : Nat → Bool) : ∀ k, 0 ≤ trail l x s k → (k : Int) ≤ ia (lv s l) (trail l x s k).toNat := by
  intro k
  induction k with
  | zero =>
    intro h
    have := hit_start hv (show 0 ≤ s from h)
    simpa [trail, hit] using this
  | succ k ih =>
    intro h
    have h2 := (trail_in hv x k).2.2 h
    have h1 := (trail_in hv x k).1
    have h3 := (trail_in hv x (k + 1)).1
    have ih := ih h2.1
    have hh : hit s l (trail l x s k).toNat := by unfold hit; omega
    have e : trail l x s (k + 1) = stepN l x (trail l x s k) := by simp only [trail]; rw [if_neg (by omega)]
    have := lv_edge hv (j := (trail l x s k).toNat) (k := (trail l x s (k + 1)).toNat) (by omega) (by omega) hh (by
      rw [e]
      unfold stepN pk
      rw [e] at h
      unfold stepN pk at h
      split at h <;> split <;> first | (right; omega) | (left; omega) | (exfalso; simp_all))
    omega
theorem way_len {i s : Int} {l : List Nd} (hv : validB i s l = true) (x : Nat → Bool) : ((wayB s l x).length : Int) ≤ lenB s l := by
  obtain ⟨h1, _⟩ := run_trail l x l.length s
  unfold lenB
  rcases Nat.eq_zero_or_pos (wayB s l x).length with e | e
  · rw [e]
    have : -1 ≤ mxL (lv s l) := (mxTo_le (L := lv s l) (b := (l.length : Int)) (fun j => by
      have := lvTo_small s l l.length j
      by_cases hj : j < l.length
      · have := (lv_low hv j); omega
      · have : ia (lv s l) j = 0 := by simp [ia, List.getD_eq_getElem?_getD, Nat.not_lt.1 hj]
        omega) (by omega) _).1
    omega
  · have h := (h1 ((wayB s l x).length - 1) (by show _ < (wayB s l x).length; omega)).2
    have h2 := trail_level hv x _ h
    have h3 := (trail_in hv x ((wayB s l x).length - 1)).1
    have := mxTo_ge (lv s l) (k := (trail l x s ((wayB s l x).length - 1)).toNat) l.length (by omega)
    unfold mxL
    rw [lv_length]
    omega
end Go.Proofs.Ytinpmdekdfgiiaa
