/- Plain definitions: the width of a branching program; levels are at most the node's index. -/
import Derived.Test.YtinpmdekdfgiiaaB5
set_option linter.unusedVariables false
set_option linter.unusedSimpArgs false
namespace Go.Proofs.Ytinpmdekdfgiiaa

def Low (L : List Int) : Prop := ∀ j : Nat, -1 ≤ ia L j ∧ ia L j ≤ j
theorem Low.up {L : List Int} (h : Low L) (x v : Int) (hv : -1 ≤ v) (hx : v ≤ x) : Low (up L x v) := by
  intro j
  have h1 := h j
  unfold Ytinpmdekdfgiiaa.up
  split
  · rw [ia_set]
    have h2 := h x.toNat
    split
    · rename_i e; obtain ⟨rfl, _⟩ := e; omega
    · exact h1
  · exact h1
theorem low0 (n : Nat) (s : Int) : Low (lv0 n s) := by
  intro j
  have := lv0_small n s j
  omega
theorem lvTo_low {i s : Int} {l : List Nd} (hv : validB i s l = true) : ∀ k, k ≤ l.length → Low (lvTo s l k) := by
  intro k
  induction k with
  | zero => intro _; exact low0 _ _
  | succ k ih =>
    intro hk
    have h := ih (by omega)
    have ok := valid_node hv (k := k) (by omega)
    show Low (lvStep l k (lvTo s l k))
    have hk1 := h k
    unfold lvStep
    split
    · exact h
    · have up1 : Low (up (lvTo s l k) (nz l k) (ia (lvTo s l k) k + 1)) := by
        by_cases hz : nz l k < 0
        · rw [up_no hz]; exact h
        · exact h.up _ _ (by omega) (by omega)
      have h2 := up1 k
      by_cases hz : no l k < 0
      · rw [up_no hz]; exact up1
      · exact up1.up _ _ (by omega) (by omega)
theorem lv_low {i s : Int} {l : List Nd} (hv : validB i s l = true) : Low (lv s l) := lvTo_low hv _ (Nat.le_refl _)

/-- How many nodes of each level, after k nodes. -/
def cnt (L : List Int) : Nat → List Int
  | 0 => List.replicate (L.length + 1) 0
  | k + 1 => if 0 ≤ ia L k then (cnt L k).set (ia L k).toNat (ia (cnt L k) (ia L k).toNat + 1) else cnt L k
@[simp] theorem cnt_length (L : List Int) (k : Nat) : (cnt L k).length = L.length + 1 := by
  induction k with
  | zero => simp [cnt]
  | succ k ih => unfold cnt; split <;> simp [ih]
theorem cnt_bd (L : List Int) (k : Nat) : ∀ j, 0 ≤ ia (cnt L k) j ∧ ia (cnt L k) j ≤ k := by
  induction k with
  | zero =>
    intro j
    unfold cnt ia
    simp only [List.getD_eq_getElem?_getD, List.getElem?_replicate]
    split <;> simp
  | succ k ih =>
    intro j
    have h1 := ih j
    have h2 := ih (ia L k).toNat
    unfold cnt
    split
    · rw [ia_set]; split <;> omega
    · omega
/-- The width. -/
def widB (s : Int) (l : List Nd) : Int := mxL (cnt (lv s l) l.length)

theorem mxTo_set {M : List Int} {x : Nat} {v : Int} (hx : x < M.length) (hv : ia M x ≤ v) : ∀ k, mxTo (M.set x v) k = if x < k then max (mxTo M k) v else mxTo M k := by
  intro k
  induction k with
  | zero => simp [mxTo]
  | succ k ih =>
    simp only [mxTo]
    rw [ih, ia_set]
    by_cases h1 : x < k
    · simp only [h1, show x < k + 1 from by omega, show ¬ (x = k ∧ k < M.length) from by omega, if_true, if_false]; omega
    · by_cases h2 : x = k
      · subst h2; simp only [hx, show x < x + 1 from by omega, if_true, if_false, and_self, Nat.lt_irrefl]; omega
      · simp only [h1, show ¬ x < k + 1 from by omega, show ¬ (x = k ∧ k < M.length) from by omega, if_false]
theorem mxL_set {M : List Int} {x : Nat} {v : Int} (hx : x < M.length) (hv : ia M x ≤ v) : mxL (M.set x v) = max (mxL M) v := by
  unfold mxL
  rw [List.length_set, mxTo_set hx hv, if_pos hx]
theorem mxL_zero (n : Nat) : mxL (List.replicate (n + 1) 0) = 0 := by
  unfold mxL
  rw [List.length_replicate]
  have : ∀ k, k ≤ n + 1 → mxTo (List.replicate (n + 1) 0) k = if k = 0 then -1 else 0 := by
    intro k
    induction k with
    | zero => intro _; rfl
    | succ k ih =>
      intro hk
      simp only [mxTo]
      rw [ih (by omega)]
      have : ia (List.replicate (n + 1) 0) k = 0 := by simp [ia, List.getD_eq_getElem?_getD, List.getElem?_replicate, show k < n + 1 from by omega]
      rw [this]
      split <;> simp <;> omega
  rw [this _ (Nat.le_refl _)]
  simp
end Go.Proofs.Ytinpmdekdfgiiaa
