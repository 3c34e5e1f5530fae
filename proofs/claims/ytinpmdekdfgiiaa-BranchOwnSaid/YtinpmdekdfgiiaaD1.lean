/- Plain laws: the values of a branching program, and which nodes are reached. -/
import Derived.Test.YtinpmdekdfgiiaaJ1
import Derived.Test.YtinpmdekdfgiiaaJ2
set_option linter.unusedVariables false
set_option linter.unusedSimpArgs false
namespace Go.Proofs.Ytinpmdekdfgiiaa

theorem step_in {i s : Int} {l : List Nd} (hv : validB i s l = true) (x : Nat → Bool) {k : Nat} (hk : k < l.length) :
    (stepN l x k = -1 ∨ stepN l x k = -2 ∨ (k < stepN l x k ∧ stepN l x k < l.length)) := by
  have h := valid_node hv hk
  unfold stepN pk
  rw [show ((k : Int)).toNat = k from by simp]
  split <;> omega

theorem runF_stable {i s : Int} {l : List Nd} (hv : validB i s l = true) (x : Nat → Bool) : ∀ (f g : Nat) (c : Int), c < l.length → l.length - c ≤ f → l.length - c ≤ g → runF l x f c = runF l x g c := by
  intro f
  induction f with
  | zero => intro g c h1 h2 h3; omega
  | succ f ih =>
    intro g c h1 h2 h3
    by_cases hc : c < 0
    · rw [runF_neg _ _ _ hc, runF_neg _ _ _ hc]
    · cases g with
      | zero => omega
      | succ g =>
        obtain ⟨k, rfl⟩ : ∃ k : Nat, c = k := ⟨c.toNat, by omega⟩
        have hs := step_in hv x (k := k) (by omega)
        have e : runF l x f (stepN l x k) = runF l x g (stepN l x k) := by
          by_cases hn : stepN l x k < 0
          · rw [runF_neg _ _ _ hn, runF_neg _ _ _ hn]
          · exact ih g _ (by omega) (by omega) (by omega)
        simp only [runF, hc, if_false, e]

/-- The value at a node or an end. -/
def valN (l : List Nd) (x : Nat → Bool) (c : Int) : Bool := (runF l x l.length c).1 == -2
theorem runB_val (s : Int) (l : List Nd) (x : Nat → Bool) : runB s l x = valN l x s := rfl
theorem valN_neg (l : List Nd) (x : Nat → Bool) {c : Int} (h : c < 0) : valN l x c = (c == -2) := by unfold valN; rw [runF_neg _ _ _ h]
theorem valN_step {i s : Int} {l : List Nd} (hv : validB i s l = true) (x : Nat → Bool) {k : Nat} (hk : k < l.length) : valN l x k = valN l x (stepN l x k) := by
  have hs := step_in hv x hk
  unfold valN
  obtain ⟨n, hn⟩ : ∃ n, l.length = n + 1 := ⟨l.length - 1, by omega⟩
  have e : runF l x n (stepN l x k) = runF l x (n + 1) (stepN l x k) := by
    by_cases h : stepN l x k < 0
    · rw [runF_neg _ _ _ h, runF_neg _ _ _ h]
    · exact runF_stable hv x _ _ _ (by omega) (by omega) (by omega)
  rw [hn]
  conv => lhs; unfold runF
  rw [if_neg (by omega)]
  rw [e]

/-- Whatever meets the equations of the nodes is the value. -/
theorem val_unique {i s : Int} {l : List Nd} (hv : validB i s l = true) (x : Nat → Bool) (P : Nat → Prop) (V : Int → Bool) (h0 : ∀ c, c < 0 → V c = (c == -2))
    (h1 : ∀ k, k < l.length → P k → V k = V (stepN l x k)) (hP : ∀ k, k < l.length → P k → (0 ≤ nz l k → P (nz l k).toNat) ∧ (0 ≤ no l k → P (no l k).toNat)) :
    ∀ (m : Nat) (c : Int), l.length - c ≤ m → c < l.length → (0 ≤ c → P c.toNat) → valN l x c = V c := by
  intro m
  induction m with
  | zero => intro c a b _; omega
  | succ m ih =>
    intro c ha hb hc
    by_cases hn : c < 0
    · rw [valN_neg _ _ hn, h0 _ hn]
    · obtain ⟨k, rfl⟩ : ∃ k : Nat, c = k := ⟨c.toNat, by omega⟩
      have hk : k < l.length := by omega
      have hPk : P k := by simpa using hc (by omega)
      have hs := step_in hv x hk
      rw [valN_step hv x hk, h1 k hk hPk]
      have hPs : 0 ≤ stepN l x k → P (stepN l x k).toNat := by
        have := hP k hk hPk
        unfold stepN pk
        rw [show ((k : Int)).toNat = k from by simp]
        split
        · exact this.2
        · exact this.1
      by_cases h : stepN l x k < 0
      · rw [valN_neg _ _ h, h0 _ h]
      · exact ih _ (by omega) (by omega) hPs

theorem val_uniq {i s : Int} {l : List Nd} (hv : validB i s l = true) (x : Nat → Bool) (P : Nat → Prop) (V : Int → Bool) (h0 : ∀ c, c < 0 → V c = (c == -2))
    (h1 : ∀ k, k < l.length → P k → V k = V (stepN l x k)) (hP : ∀ k, k < l.length → P k → (0 ≤ nz l k → P (nz l k).toNat) ∧ (0 ≤ no l k → P (no l k).toNat)) (c : Int) (hc : c < l.length) (hp : 0 ≤ c → P c.toNat) : valN l x c = V c := by
  by_cases hn : c < 0
  · rw [valN_neg _ _ hn, h0 _ hn]
  · exact val_unique hv x P V h0 h1 hP l.length c (by omega) hc hp

/-! ### Levels -/

theorem ia_up {L : List Int} {x v : Int} {k : Nat} (hk : k < L.length) : ia (up L x v) k = if x = k then max (ia L k) v else ia L k := by
  unfold up
  split
  · rw [ia_set]
    by_cases h : x = k
    · subst h; simp [hk]
    · rw [if_neg (by omega), if_neg h]
  · rw [if_neg (by omega)]
theorem lvStep_stay {i s : Int} {l : List Nd} (hv : validB i s l = true) {L : List Int} {j k : Nat} (hL : L.length = l.length) (hj : j < l.length) (hk : k ≤ j) : ia (lvStep l j L) k = ia L k := by
  have h := valid_node hv hj
  unfold lvStep
  split
  · rfl
  · rw [ia_up (by simp; omega), if_neg (by omega), ia_up (by omega), if_neg (by omega)]
theorem lvTo_stay {i s : Int} {l : List Nd} (hv : validB i s l = true) {k : Nat} : ∀ j, k ≤ j → j ≤ l.length → ia (lvTo s l j) k = ia (lvTo s l k) k := by
  intro j
  induction j with
  | zero => intro h _; obtain rfl : k = 0 := by omega
            rfl
  | succ j ih =>
    intro h1 h2
    by_cases e : k = j + 1
    · subst e; rfl
    · rw [← ih (by omega) (by omega)]
      exact lvStep_stay hv (by simp) (by omega) (by omega)
theorem lv_at {i s : Int} {l : List Nd} (hv : validB i s l = true) {k : Nat} (hk : k < l.length) : ia (lv s l) k = ia (lvTo s l k) k := lvTo_stay hv _ (by omega) (Nat.le_refl _)
theorem ia_lvStep {i s : Int} {l : List Nd} (hv : validB i s l = true) {L : List Int} {j k : Nat} (hL : L.length = l.length) (hj : j < l.length) (hk : k < l.length) (h0 : 0 ≤ ia L j) :
    ia (lvStep l j L) k = if nz l j = k ∨ no l j = k then max (ia L k) (ia L j + 1) else ia L k := by
  have h := valid_node hv hj
  have e : ia (up L (nz l j) (ia L j + 1)) j = ia L j := by rw [ia_up (by omega), if_neg (by omega)]
  unfold lvStep
  rw [if_neg (by omega), e, ia_up (by simp; omega), ia_up (by omega)]
  by_cases h1 : nz l j = k <;> by_cases h2 : no l j = k <;> simp [h1, h2] <;> omega
theorem lvStep_skip {l : List Nd} {L : List Int} {j : Nat} (h : ia L j < 0) : lvStep l j L = L := if_pos h

theorem lvTo_iff {i s : Int} {l : List Nd} (hv : validB i s l = true) {k : Nat} (hk : k < l.length) : ∀ j, j ≤ l.length → (0 ≤ ia (lvTo s l j) k ↔ s = k ∨ ∃ m, m < j ∧ 0 ≤ ia (lv s l) m ∧ (nz l m = k ∨ no l m = k)) := by
  intro j
  induction j with
  | zero =>
    intro _
    show 0 ≤ ia (lv0 l.length s) k ↔ _
    unfold lv0
    have hr : ia (List.replicate l.length (-1)) k = -1 := by simp [ia, List.getD_eq_getElem?_getD, List.getElem?_replicate, hk]
    split
    · rw [ia_set, hr]
      by_cases e : s = k
      · subst e; simp [hk]
      · rw [if_neg (by omega)]; simp [e]
    · rw [hr]; simp; omega
  | succ j ih =>
    intro hj
    have ih := ih (by omega)
    have ej : ia (lvTo s l j) j = ia (lv s l) j := (lv_at hv (by omega)).symm
    show 0 ≤ ia (lvStep l j (lvTo s l j)) k ↔ _
    by_cases h : ia (lvTo s l j) j < 0
    · rw [lvStep_skip h, ih]
      constructor
      · rintro (h1 | ⟨m, h1, h2⟩)
        · exact .inl h1
        · exact .inr ⟨m, by omega, h2⟩
      · rintro (h1 | ⟨m, h1, h2, h3⟩)
        · exact .inl h1
        · refine .inr ⟨m, ?_, h2, h3⟩
          have : m ≠ j := by intro e; subst e; omega
          omega
    · rw [ia_lvStep hv (by simp) (by omega) hk (by omega)]
      by_cases hc : nz l j = k ∨ no l j = k
      · rw [if_pos hc]
        constructor
        · intro _; exact .inr ⟨j, by omega, by omega, hc⟩
        · intro _; omega
      · rw [if_neg hc, ih]
        constructor
        · rintro (h1 | ⟨m, h1, h2⟩)
          · exact .inl h1
          · exact .inr ⟨m, by omega, h2⟩
        · rintro (h1 | ⟨m, h1, h2, h3⟩)
          · exact .inl h1
          · refine .inr ⟨m, ?_, h2, h3⟩
            have : m ≠ j := by intro e; subst e; exact hc h3
            omega
/-- Node k is reached. -/
def hit (s : Int) (l : List Nd) (k : Nat) : Prop := 0 ≤ ia (lv s l) k
theorem hit_iff {i s : Int} {l : List Nd} (hv : validB i s l = true) {k : Nat} (hk : k < l.length) : hit s l k ↔ s = k ∨ ∃ m, m < k ∧ hit s l m ∧ (nz l m = k ∨ no l m = k) := by
  unfold hit
  rw [lv_at hv hk]
  exact lvTo_iff hv hk k (by omega)
theorem hit_start {i s : Int} {l : List Nd} (hv : validB i s l = true) (h : 0 ≤ s) : hit s l s.toNat := by
  have := valid_start hv
  exact (hit_iff hv (by omega)).2 (.inl (by omega))
theorem hit_zero {i s : Int} {l : List Nd} (hv : validB i s l = true) {k : Nat} (hk : k < l.length) (hh : hit s l k) (h : 0 ≤ nz l k) : hit s l (nz l k).toNat := by
  have := valid_node hv hk
  exact (hit_iff hv (by omega)).2 (.inr ⟨k, by omega, hh, .inl (by omega)⟩)
theorem hit_one {i s : Int} {l : List Nd} (hv : validB i s l = true) {k : Nat} (hk : k < l.length) (hh : hit s l k) (h : 0 ≤ no l k) : hit s l (no l k).toNat := by
  have := valid_node hv hk
  exact (hit_iff hv (by omega)).2 (.inr ⟨k, by omega, hh, .inr (by omega)⟩)
end Go.Proofs.Ytinpmdekdfgiiaa
