/- Plain definitions: the levels of a branching program. -/
import Derived.Test.YtinpmdekdfgiiaaB1
set_option linter.unusedVariables false
set_option linter.unusedSimpArgs false
namespace Go.Proofs.Ytinpmdekdfgiiaa

/-- Raise entry x to v at least. -/
def up (L : List Int) (x v : Int) : List Int := if 0 ≤ x then L.set x.toNat (max (ia L x.toNat) v) else L
def lvStep (l : List Nd) (i : Nat) (L : List Int) : List Int :=
  if ia L i < 0 then L else up (up L (nz l i) (ia L i + 1)) (no l i) (ia (up L (nz l i) (ia L i + 1)) i + 1)
def lv0 (n : Nat) (s : Int) : List Int := if 0 ≤ s then (List.replicate n (-1)).set s.toNat 0 else List.replicate n (-1)
def lvTo (s : Int) (l : List Nd) : Nat → List Int
  | 0 => lv0 l.length s
  | k + 1 => lvStep l k (lvTo s l k)
def lv (s : Int) (l : List Nd) : List Int := lvTo s l l.length

@[simp] theorem up_length (L : List Int) (x v : Int) : (up L x v).length = L.length := by unfold up; split <;> simp
@[simp] theorem lvStep_length (l : List Nd) (i : Nat) (L : List Int) : (lvStep l i L).length = L.length := by unfold lvStep; split <;> simp
@[simp] theorem lv0_length (n : Nat) (s : Int) : (lv0 n s).length = n := by unfold lv0; split <;> simp
@[simp] theorem lvTo_length (s : Int) (l : List Nd) (k : Nat) : (lvTo s l k).length = l.length := by
  induction k with
  | zero => simp [lvTo]
  | succ k ih => simp [lvTo, ih]
@[simp] theorem lv_length (s : Int) (l : List Nd) : (lv s l).length = l.length := lvTo_length s l _

/-- What validity says of a node. -/
theorem valid_node {i s : Int} {l : List Nd} (h : validB i s l = true) {k : Nat} (hk : k < l.length) :
    0 ≤ nv l k ∧ nv l k < i ∧ (nz l k = -1 ∨ nz l k = -2 ∨ (k < nz l k ∧ nz l k < l.length)) ∧ (no l k = -1 ∨ no l k = -2 ∨ (k < no l k ∧ no l k < l.length)) := by
  unfold validB at h
  simp only [Bool.and_eq_true] at h
  have := allN_true.1 h.2 k hk
  unfold okN tgt at this
  simp at this
  omega
theorem valid_start {i s : Int} {l : List Nd} (h : validB i s l = true) : 0 ≤ i ∧ i ≤ 16 ∧ l.length ≤ 20000 ∧ (s = -1 ∨ s = -2 ∨ (0 ≤ s ∧ s < l.length)) := by
  unfold validB tgt at h
  simp at h
  omega
/-- Levels are small. -/
theorem ia_set (L : List Int) (j k : Nat) (v : Int) : ia (L.set j v) k = if j = k ∧ k < L.length then v else ia L k := by
  unfold ia
  simp only [List.getD_eq_getElem?_getD, List.getElem?_set]
  split
  · rename_i h; subst h; by_cases h2 : j < L.length <;> simp [h2]
  · rename_i h; simp [h]
def Small (b : Int) (L : List Int) : Prop := ∀ j, -1 ≤ ia L j ∧ ia L j ≤ b
theorem Small.up {b : Int} {L : List Int} (h : Small b L) (x v : Int) (hv : -1 ≤ v) (hb : v ≤ b) : Small b (up L x v) := by
  intro j
  unfold Ytinpmdekdfgiiaa.up
  split
  · rw [ia_set]
    have h1 := h j
    have h2 := h x.toNat
    split <;> omega
  · exact h j
theorem Small.mono {b b' : Int} {L : List Int} (h : Small b L) (hb : b ≤ b') : Small b' L := fun j => by have := h j; omega
theorem lvStep_small {l : List Nd} {i : Nat} {L : List Int} {b : Int} (h : Small b L) (hb : -1 ≤ b) : Small (b + 2) (lvStep l i L) := by
  unfold lvStep
  split
  · exact h.mono (by omega)
  · have h1 := h i
    have hu := (h.mono (b' := b + 1) (by omega)).up (nz l i) (ia L i + 1) (by omega) (by omega)
    have h2 := hu i
    exact (hu.mono (by omega)).up _ _ (by omega) (by omega)
theorem lv0_small (n : Nat) (s : Int) : Small 0 (lv0 n s) := by
  have hr : ∀ j, -1 ≤ ia (List.replicate n (-1)) j ∧ ia (List.replicate n (-1)) j ≤ 0 := by
    intro j
    unfold ia
    simp only [List.getD_eq_getElem?_getD, List.getElem?_replicate]
    split <;> simp
  intro j
  unfold lv0
  split
  · rw [ia_set]; have := hr j; split <;> omega
  · exact hr j
theorem lvTo_small (s : Int) (l : List Nd) (k : Nat) : Small (2 * k) (lvTo s l k) := by
  induction k with
  | zero => simpa [lvTo] using lv0_small l.length s
  | succ k ih => have := lvStep_small (l := l) (i := k) ih (by omega); exact this.mono (by omega)
/-- The two that follow node k, by number; and the list after the first j of them. -/
def xk (l : List Nd) (k j : Nat) : Int := ia [nz l k, no l k] j
def upk (L : List Int) (l : List Nd) (k : Nat) : Nat → List Int
  | 0 => L
  | j + 1 => up (upk L l k j) (xk l k j) (ia (upk L l k j) k + 1)
theorem lvStep_yes {l : List Nd} {k : Nat} {L : List Int} (h : ¬ ia L k < 0) : lvStep l k L = upk L l k 2 := by
  unfold lvStep; rw [if_neg h]; rfl
theorem lvStep_no {l : List Nd} {k : Nat} {L : List Int} (h : ia L k < 0) : lvStep l k L = L := by
  unfold lvStep; rw [if_pos h]
@[simp] theorem upk_length (L : List Int) (l : List Nd) (k j : Nat) : (upk L l k j).length = L.length := by
  induction j with
  | zero => rfl
  | succ j ih => simp [upk, ih]
theorem upk_small {L : List Int} {l : List Nd} {k j : Nat} {b : Int} (h : Small b L) (h0 : 0 ≤ ia L k) : Small (b + j) (upk L l k j) ∧ 0 ≤ ia (upk L l k j) k := by
  induction j with
  | zero => exact ⟨h.mono (by omega), h0⟩
  | succ j ih =>
    obtain ⟨h1, h2⟩ := ih
    have h3 := h1 k
    refine ⟨(h1.mono (by omega)).up _ _ (by omega) (by omega), ?_⟩
    unfold upk up
    split
    · rw [ia_set]; split <;> omega
    · exact h2
theorem xk_ok {i s : Int} {l : List Nd} (h : validB i s l = true) {k : Nat} (hk : k < l.length) {j : Nat} (hj : j < 2) : xk l k j = -1 ∨ xk l k j = -2 ∨ (k < xk l k j ∧ xk l k j < l.length) := by
  have := valid_node h hk
  match j, hj with
  | 0, _ => exact this.2.2.1
  | 1, _ => exact this.2.2.2
theorem up_yes {L : List Int} {x v : Int} (h : 0 ≤ x) : up L x v = L.set x.toNat (max (ia L x.toNat) v) := if_pos h
theorem up_no {L : List Int} {x v : Int} (h : x < 0) : up L x v = L := if_neg (by omega)
theorem lv0_yes {s : Int} (l : List Nd) (h : 0 ≤ s) : lvTo s l 0 = (List.replicate l.length (-1)).set s.toNat 0 := if_pos h
theorem lv0_no {s : Int} (l : List Nd) (h : s < 0) : lvTo s l 0 = List.replicate l.length (-1) := if_neg (by omega)
theorem upk1 (L : List Int) (l : List Nd) (k : Nat) : upk L l k 1 = up L (nz l k) (ia L k + 1) := rfl
theorem upk2 (L : List Int) (l : List Nd) (k : Nat) : upk L l k 2 = up (upk L l k 1) (no l k) (ia (upk L l k 1) k + 1) := rfl
end Go.Proofs.Ytinpmdekdfgiiaa
