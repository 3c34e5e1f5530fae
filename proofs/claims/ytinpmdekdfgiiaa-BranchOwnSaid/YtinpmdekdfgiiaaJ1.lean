/- Joined: B1, Sp, B2, B3, B4, B5, Sp2. -/
import Derived.Test.YtinpmdekdfgiiaaRows
import Derived.Test.YtinpmdekdfgiiaaLib
import Derived.RegionTactic
import Derived.ChangeAlike
import Derived.Deep.OwnRows
import Derived.Deep.LoopGhost
import Derived.Deep.DeepCutAuto
/- Branching programs: what nodes read as, and when a program is valid: few, target, ends, Valid (both texts). -/
set_option linter.unusedVariables false
set_option linter.unusedSimpArgs false
namespace Go.Proofs.Ytinpmdekdfgiiaa
open Go.RowKit

structure Nd where
  v : Int
  z : Int
  o : Int
  deriving DecidableEq, Inhabited

def ndCells (l : List Nd) : List Value := l.flatMap fun n => [.int .i64 n.v, .int .i64 n.z, .int .i64 n.o]
def nv (l : List Nd) (k : Nat) : Int := (l.getD k ⟨0, 0, 0⟩).v
def nz (l : List Nd) (k : Nat) : Int := (l.getD k ⟨0, 0, 0⟩).z
def no (l : List Nd) (k : Nat) : Int := (l.getD k ⟨0, 0, 0⟩).o

theorem ndCells_length (l : List Nd) : (ndCells l).length = l.length * 3 := by
  induction l with
  | nil => rfl
  | cons a l ih => simp only [ndCells, List.flatMap_cons, List.length_append, List.length_cons, List.length_nil] at ih ⊢; omega
theorem ndCells_get (l : List Nd) (k : Nat) (h : k < l.length) :
    (ndCells l)[k * 3]? = some (.int .i64 (nv l k)) ∧ (ndCells l)[k * 3 + 1]? = some (.int .i64 (nz l k)) ∧ (ndCells l)[k * 3 + 2]? = some (.int .i64 (no l k)) := by
  induction l generalizing k with
  | nil => simp at h
  | cons a l ih =>
    cases k with
    | zero => simp [ndCells, nv, nz, no]
    | succ k =>
      obtain ⟨h0, h1, h2⟩ := ih k (by simpa using h)
      have e : ndCells (a :: l) = .int .i64 a.v :: .int .i64 a.z :: .int .i64 a.o :: ndCells l := by simp [ndCells]
      have e0 : (k + 1) * 3 = k * 3 + 1 + 1 + 1 := by omega
      refine ⟨?_, ?_, ?_⟩
      · rw [e, e0]; simpa [nv] using h0
      · rw [e, e0]; simpa [nz] using h1
      · rw [e, e0]; simpa [no] using h2

/-- A slice of nodes that is read. -/
abbrev RN (w : World) (A : Option Addr) (l : List Nd) : Prop := Rd w A (ndCells l)

theorem RN.at_ {w : World} {A : Option Addr} {l : List Nd} (h : RN w A l) {k : Nat} (hk : k < l.length) :
    ∃ b off, A = some ⟨b, off, none⟩ ∧ ∀ j, j < l.length → w.cell? ⟨b, off + j * 3, none⟩ = some (.int .i64 (nv l j)) ∧ w.cell? ⟨b, off + j * 3 + 1, none⟩ = some (.int .i64 (nz l j)) ∧ w.cell? ⟨b, off + j * 3 + 2, none⟩ = some (.int .i64 (no l j)) := by
  obtain ⟨b, off, e, hc⟩ := Rd.at_ h (ne_nil_of_lt (k := k) (by rw [ndCells_length]; omega))
  refine ⟨b, off, e, fun j hj => ?_⟩
  obtain ⟨h0, h1, h2⟩ := ndCells_get l j hj
  exact ⟨hc _ _ h0, hc _ _ h1, hc _ _ h2⟩

/-- What follows a node may be this. -/
def tgt (x a n : Int) : Bool := x == -1 || x == -2 || (decide (a < x) && decide (x < n))
/-- Node j is right. -/
def okN (i : Int) (l : List Nd) (j : Nat) : Bool := decide (0 ≤ nv l j) && decide (nv l j < i) && tgt (nz l j) j l.length && tgt (no l j) j l.length
/-- The program is valid. -/
def validB (i s : Int) (l : List Nd) : Bool := decide (0 ≤ i) && decide (i ≤ 16) && decide ((l.length : Int) ≤ 20000) && tgt s (-1) l.length && allN l.length (okN i l)

theorem valid_no {i s : Int} {l : List Nd} {k : Nat} (hk : k < l.length) (h : okN i l k = false) : false = validB i s l := by
  unfold validB
  rw [allN_false.2 ⟨k, hk, h⟩]
  simp

set_option maxHeartbeats 400000 in
theorem few_any (i s : Int) (A : Option Addr) (c : Nat) (l : List Nd) (m : Int) (w : World) (hl : l.length ≤ 140737488355328) :
    Calls Try.prog 13 #[.agg #[.int .i64 i, .int .i64 s, .slice A l.length c], .int .i64 m] w fun e w' => e = .returned (.bool (decide ((l.length : Int) ≤ m))) ∧ Kept w w' := by
  go_enter Try.func13, Try.ntmps13
  go_wp2
  go_ret
  exact ⟨rfl, kept_alloc (kept_refl _) _⟩

set_option maxHeartbeats 400000 in
theorem target_any (x a n : Int) (w : World) : Calls Try.prog 56 #[.int .i64 x, .int .i64 a, .int .i64 n] w fun e w' => e = .returned (.bool (tgt x a n)) ∧ w = w' := by
  go_enter Try.func56, Try.ntmps56
  go_wp2
  all_goals
    go_ret
    exact ⟨ret_bool (by simp [tgt, *]; try omega), rfl⟩

set_option maxHeartbeats 400000 in
theorem ends_any (x a n : Int) (w : World) : Calls Try.prog 55 #[.int .i64 x, .int .i64 (a + 1), .int .i64 n] w fun e w' => e = .returned (.bool (tgt x a n)) ∧ w = w' := by
  go_enter Try.func55, Try.ntmps55
  go_wp2
  all_goals
    go_ret
    exact ⟨ret_bool (by
      have e : decide (a < x) = decide (a + 1 ≤ x) := by apply decide_eq_decide.2; omega
      simp [tgt, e, *] <;> omega), rfl⟩

set_option maxRecDepth 100000 in
set_option maxHeartbeats 1000000 in
theorem valid_any (i s : Int) (A : Option Addr) (c : Nat) (l : List Nd) (w : World) (hl : l.length ≤ 140737488355328) (hr : RN w A l) :
    Calls Try.prog 16 #[.agg #[.int .i64 i, .int .i64 s, .slice A l.length c]] w fun e w' => e = .returned (.bool (validB i s l)) ∧ Kept w w' := by
  cases ht : tgt s (-1) l.length
  · go_enter Try.func16, Try.ntmps16
    go_wp2_with (go_at_call 56; refine (target_any _ _ _ _).mono ?_; rintro e w' ⟨rfl, rfl⟩)
    all_goals
      go_ret
      exact ⟨ret_bool (by simp [validB, *]; try omega), kept_alloc (kept_refl _) _⟩
  go_enter Try.func16, Try.ntmps16
  go_wp2_with (go_at_call 56; refine (target_any _ _ _ _).mono ?_; rintro e w' ⟨rfl, rfl⟩)
  all_goals try (go_ret; exact ⟨ret_bool (by simp [validB, *]; try omega), kept_alloc (kept_refl _) _⟩)
  go_loopw [31] (fun v wr => ∃ k : Nat, k ≤ l.length ∧ (∀ j, j < k → okN i l j = true) ∧ v = .int .i64 k ∧ Kept w wr ∧ w.heap.size < wr.heap.size ∧ wr.cell? ⟨w.heap.size, 0, none⟩ = some (.int .i64 i) ∧ wr.cell? ⟨w.heap.size, 2, none⟩ = some (.slice A l.length c)) (fun v _ => l.length - (intOf v).toNat)
  case atStart => exact ⟨0, Nat.zero_le _, by omega, rfl, kept_alloc (kept_refl _) _, by simp, by simp, by simp⟩
  case round =>
    obtain ⟨k, hk, hj, rfl, hb, hsz, hc0, hc2⟩ := hrel
    by_cases hlt : k < l.length
    · obtain ⟨b, off, rfl, hcs⟩ := hr.at_ hlt
      obtain ⟨d0, d1, d2⟩ := hcs k hlt
      clear hcs
      replace d0 := kept_cell hb d0
      replace d1 := kept_cell hb d1
      replace d2 := kept_cell hb d2
      have H := Lib.hid hj; clear hj
      go_wp2_with (go_at_call 56; refine (target_any _ _ _ _).mono ?_; rintro e w' ⟨rfl, rfl⟩)
      any_goals
        go_ret
        exact ⟨ret_bool (valid_no hlt (by unfold okN; grind)), kept_alloc hb _⟩
      all_goals
        go_roundw
        case rel => exact ⟨k + 1, by omega, fun j h => by rcases Nat.lt_succ_iff_lt_or_eq.1 h with h | rfl; exact H.out j h; unfold okN; grind, by go_num, kept_alloc hb _, by simp; omega, cell_alloc hc0 _, cell_alloc hc2 _⟩
        case measure => simp [intOf]; omega
    · go_wp2_with fail
      go_ret
      have : k = l.length := by omega
      subst this
      exact ⟨ret_bool (by simp [validB, allN_true.2 hj, *]), hb⟩
end Go.Proofs.Ytinpmdekdfgiiaa

/- Plain definitions: the levels of a branching program. -/
set_option linter.unusedVariables false
set_option linter.unusedSimpArgs false
namespace Go.Proofs.Ytinpmdekdfgiiaa

/-- Raise entry x to v at least. -/
def up (L : List Int) (x v : Int) : List Int := if 0 ≤ x then L.set x.toNat (max (ia L x.toNat) v) else L
def lvStep (l : List Nd) (i : Nat) (L : List Int) : List Int :=
  if ia L i < 0 then L else up (up L (nz l i) (ia L i + 1)) (no l i) (ia (up L (nz l i) (ia L i + 1)) i + 1)
def lv0 (n : Nat) (s : Int) : List Int := if 0 ≤ s then (List.replicate n (-1)).set s.toNat 0 else List.replicate n (-1)
def lvTo (s : Int) (l : List Nd) : Nat → List Int
  | 0 => lv0 l.length s
  | k + 1 => lvStep l k (lvTo s l k)
def lv (s : Int) (l : List Nd) : List Int := lvTo s l l.length

@[simp] theorem up_length (L : List Int) (x v : Int) : (up L x v).length = L.length := by unfold up; split <;> simp
@[simp] theorem lvStep_length (l : List Nd) (i : Nat) (L : List Int) : (lvStep l i L).length = L.length := by unfold lvStep; split <;> simp
@[simp] theorem lv0_length (n : Nat) (s : Int) : (lv0 n s).length = n := by unfold lv0; split <;> simp
@[simp] theorem lvTo_length (s : Int) (l : List Nd) (k : Nat) : (lvTo s l k).length = l.length := by
  induction k with
  | zero => simp [lvTo]
  | succ k ih => simp [lvTo, ih]
@[simp] theorem lv_length (s : Int) (l : List Nd) : (lv s l).length = l.length := lvTo_length s l _

/-- What validity says of a node. -/
theorem valid_node {i s : Int} {l : List Nd} (h : validB i s l = true) {k : Nat} (hk : k < l.length) :
    0 ≤ nv l k ∧ nv l k < i ∧ (nz l k = -1 ∨ nz l k = -2 ∨ (k < nz l k ∧ nz l k < l.length)) ∧ (no l k = -1 ∨ no l k = -2 ∨ (k < no l k ∧ no l k < l.length)) := by
  unfold validB at h
  simp only [Bool.and_eq_true] at h
  have := allN_true.1 h.2 k hk
  unfold okN tgt at this
  simp at this
  omega
theorem valid_start {i s : Int} {l : List Nd} (h : validB i s l = true) : 0 ≤ i ∧ i ≤ 16 ∧ l.length ≤ 20000 ∧ (s = -1 ∨ s = -2 ∨ (0 ≤ s ∧ s < l.length)) := by
  unfold validB tgt at h
  simp at h
  omega
/-- Levels are small. -/
theorem ia_set (L : List Int) (j k : Nat) (v : Int) : ia (L.set j v) k = if j = k ∧ k < L.length then v else ia L k := by
  unfold ia
  simp only [List.getD_eq_getElem?_getD, List.getElem?_set]
  split
  · rename_i h; subst h; by_cases h2 : j < L.length <;> simp [h2]
  · rename_i h; simp [h]
def Small (b : Int) (L : List Int) : Prop := ∀ j, -1 ≤ ia L j ∧ ia L j ≤ b
theorem Small.up {b : Int} {L : List Int} (h : Small b L) (x v : Int) (hv : -1 ≤ v) (hb : v ≤ b) : Small b (up L x v) := by
  intro j
  unfold Ytinpmdekdfgiiaa.up
  split
  · rw [ia_set]
    have h1 := h j
    have h2 := h x.toNat
    split <;> omega
  · exact h j
theorem Small.mono {b b' : Int} {L : List Int} (h : Small b L) (hb : b ≤ b') : Small b' L := fun j => by have := h j; omega
theorem lvStep_small {l : List Nd} {i : Nat} {L : List Int} {b : Int} (h : Small b L) (hb : -1 ≤ b) : Small (b + 2) (lvStep l i L) := by
  unfold lvStep
  split
  · exact h.mono (by omega)
  · have h1 := h i
    have hu := (h.mono (b' := b + 1) (by omega)).up (nz l i) (ia L i + 1) (by omega) (by omega)
    have h2 := hu i
    exact (hu.mono (by omega)).up _ _ (by omega) (by omega)
theorem lv0_small (n : Nat) (s : Int) : Small 0 (lv0 n s) := by
  have hr : ∀ j, -1 ≤ ia (List.replicate n (-1)) j ∧ ia (List.replicate n (-1)) j ≤ 0 := by
    intro j
    unfold ia
    simp only [List.getD_eq_getElem?_getD, List.getElem?_replicate]
    split <;> simp
  intro j
  unfold lv0
  split
  · rw [ia_set]; have := hr j; split <;> omega
  · exact hr j
theorem lvTo_small (s : Int) (l : List Nd) (k : Nat) : Small (2 * k) (lvTo s l k) := by
  induction k with
  | zero => simpa [lvTo] using lv0_small l.length s
  | succ k ih => have := lvStep_small (l := l) (i := k) ih (by omega); exact this.mono (by omega)
/-- The two that follow node k, by number; and the list after the first j of them. -/
def xk (l : List Nd) (k j : Nat) : Int := ia [nz l k, no l k] j
def upk (L : List Int) (l : List Nd) (k : Nat) : Nat → List Int
  | 0 => L
  | j + 1 => up (upk L l k j) (xk l k j) (ia (upk L l k j) k + 1)
theorem lvStep_yes {l : List Nd} {k : Nat} {L : List Int} (h : ¬ ia L k < 0) : lvStep l k L = upk L l k 2 := by
  unfold lvStep; rw [if_neg h]; rfl
theorem lvStep_no {l : List Nd} {k : Nat} {L : List Int} (h : ia L k < 0) : lvStep l k L = L := by
  unfold lvStep; rw [if_pos h]
@[simp] theorem upk_length (L : List Int) (l : List Nd) (k j : Nat) : (upk L l k j).length = L.length := by
  induction j with
  | zero => rfl
  | succ j ih => simp [upk, ih]
theorem upk_small {L : List Int} {l : List Nd} {k j : Nat} {b : Int} (h : Small b L) (h0 : 0 ≤ ia L k) : Small (b + j) (upk L l k j) ∧ 0 ≤ ia (upk L l k j) k := by
  induction j with
  | zero => exact ⟨h.mono (by omega), h0⟩
  | succ j ih =>
    obtain ⟨h1, h2⟩ := ih
    have h3 := h1 k
    refine ⟨(h1.mono (by omega)).up _ _ (by omega) (by omega), ?_⟩
    unfold upk up
    split
    · rw [ia_set]; split <;> omega
    · exact h2
theorem xk_ok {i s : Int} {l : List Nd} (h : validB i s l = true) {k : Nat} (hk : k < l.length) {j : Nat} (hj : j < 2) : xk l k j = -1 ∨ xk l k j = -2 ∨ (k < xk l k j ∧ xk l k j < l.length) := by
  have := valid_node h hk
  match j, hj with
  | 0, _ => exact this.2.2.1
  | 1, _ => exact this.2.2.2
theorem up_yes {L : List Int} {x v : Int} (h : 0 ≤ x) : up L x v = L.set x.toNat (max (ia L x.toNat) v) := if_pos h
theorem up_no {L : List Int} {x v : Int} (h : x < 0) : up L x v = L := if_neg (by omega)
theorem lv0_yes {s : Int} (l : List Nd) (h : 0 ≤ s) : lvTo s l 0 = (List.replicate l.length (-1)).set s.toNat 0 := if_pos h
theorem lv0_no {s : Int} (l : List Nd) (h : s < 0) : lvTo s l 0 = List.replicate l.length (-1) := if_neg (by omega)
theorem upk1 (L : List Int) (l : List Nd) (k : Nat) : upk L l k 1 = up L (nz l k) (ia L k + 1) := rfl
theorem upk2 (L : List Int) (l : List Nd) (k : Nat) : upk L l k 2 = up (upk L l k 1) (no l k) (ia (upk L l k 1) k + 1) := rfl
end Go.Proofs.Ytinpmdekdfgiiaa

/- Branching programs: Valid of the reference says the same as validB. -/
set_option linter.unusedVariables false
set_option linter.unusedSimpArgs false
namespace Go.Proofs.Ytinpmdekdfgiiaa
open Go.RowKit

set_option maxRecDepth 100000 in
set_option maxHeartbeats 1000000 in
theorem rvalid_any (i s : Int) (A : Option Addr) (c : Nat) (l : List Nd) (w : World) (hl : l.length ≤ 140737488355328) (hr : RN w A l) :
    Calls Try.prog 15 #[.agg #[.int .i64 i, .int .i64 s, .slice A l.length c]] w fun e w' => e = .returned (.bool (validB i s l)) ∧ Kept w w' := by
  have E0 := ends_any s (-1) l.length
  simp only [Int.reduceNeg, Int.reduceAdd] at E0
  cases ht : tgt s (-1) l.length
  · go_enter Try.func15, Try.ntmps15
    go_wp2_with (go_at_call 55; refine (E0 _).mono ?_; rintro e w' ⟨rfl, rfl⟩)
    all_goals (go_ret; exact ⟨ret_bool (by unfold validB; grind), kept_alloc (kept_refl _) _⟩)
  go_enter Try.func15, Try.ntmps15
  go_wp2_with (go_at_call 55; refine (E0 _).mono ?_; rintro e w' ⟨rfl, rfl⟩)
  all_goals try (go_ret; exact ⟨ret_bool (by unfold validB; grind), kept_alloc (kept_refl _) _⟩)
  clear E0
  go_loopw [4] (fun v wr => ∃ k : Nat, k ≤ l.length ∧ (∀ j, j < k → okN i l j = true) ∧ v = .int .i64 k ∧ Kept w wr ∧ w.heap.size < wr.heap.size ∧ wr.cell? ⟨w.heap.size, 0, none⟩ = some (.int .i64 i) ∧ wr.cell? ⟨w.heap.size, 2, none⟩ = some (.slice A l.length c)) (fun v _ => l.length - (intOf v).toNat)
  case atStart => exact ⟨0, Nat.zero_le _, by omega, rfl, kept_alloc (kept_refl _) _, by simp, by simp, by simp⟩
  case round =>
    obtain ⟨k, hk, hj, rfl, hb, hsz, hc0, hc2⟩ := hrel
    by_cases hlt : k < l.length
    · obtain ⟨b, off, rfl, hcs⟩ := hr.at_ hlt
      obtain ⟨d0, d1, d2⟩ := hcs k hlt
      clear hcs
      replace d0 := kept_cell hb d0
      replace d1 := kept_cell hb d1
      replace d2 := kept_cell hb d2
      have H := Lib.hid hj; clear hj
      go_wp2_with (go_at_call 55; refine (ends_any _ _ _ _).mono ?_; rintro e w' ⟨rfl, rfl⟩)
      any_goals
        go_ret
        exact ⟨ret_bool (valid_no hlt (by unfold okN; grind)), kept_alloc hb _⟩
      all_goals
        go_roundw
        case rel => exact ⟨k + 1, by omega, fun j h => by rcases Nat.lt_succ_iff_lt_or_eq.1 h with h | rfl; exact H.out j h; unfold okN; grind, by go_num, kept_alloc hb _, by simp; omega, cell_alloc hc0 _, cell_alloc hc2 _⟩
        case measure => simp [intOf]; omega
    · go_wp2_with fail
      go_ret
      have : k = l.length := by omega
      subst this
      have h2 := allN_true.2 hj
      exact ⟨ret_bool (by unfold validB; grind), hb⟩
end Go.Proofs.Ytinpmdekdfgiiaa

/- Branching programs: the levels, in the program. -/
set_option linter.unusedVariables false
set_option linter.unusedSimpArgs false
namespace Go.Proofs.Ytinpmdekdfgiiaa
open Go.RowKit

theorem info3 : (Try.prog.info? 3).map (fun i => (i.zero, i.size, i.bytes)) = some (some (.int .i64 0), 1, 8) := by kernel_rfl

theorem make_ints (n : Nat) (hn : n ≤ 35184372088832) (W : World) :
    (Instr.makeSlice 36 (.int .i64 (n : Int)) (.int .i64 (n : Int))).run Try.prog W = .ok (.slice (some ⟨W.heap.size, 0, none⟩) n n) (W.alloc (.cells (ints (List.replicate n 0)).toArray 3)) := by
  have h := run_make_row' (P := Try.prog) 36 3 (.int .i64 0) 8 Try.underlying36 info3 rfl .i64 .i64 n (by omega) (by omega) W
  rw [made_list] at h
  simpa [ints] using h

def fillTo (n k : Nat) : List Int := List.replicate k (-1) ++ List.replicate (n - k) 0
@[simp] theorem fillTo_length {n k : Nat} (h : k ≤ n) : (fillTo n k).length = n := by simp [fillTo]; omega
theorem fillTo_set {n k : Nat} (h : k < n) : (fillTo n k).set k (-1) = fillTo n (k + 1) := by
  unfold fillTo
  rw [show n - k = (n - (k + 1)) + 1 by omega, List.replicate_succ, List.set_append_right _ _ (by simp)]
  simp [List.replicate_succ']
theorem fillTo_zero (n : Nat) : fillTo n 0 = List.replicate n 0 := by simp [fillTo]
theorem fillTo_all (n : Nat) : fillTo n n = List.replicate n (-1) := by simp [fillTo]

set_option maxRecDepth 100000 in
set_option maxHeartbeats 1000000 in
theorem levels_any (i s : Int) (A : Option Addr) (c : Nat) (l : List Nd) (w : World) (hr : RN w A l) (hv : validB i s l = true) :
    Calls Try.prog 58 #[.agg #[.int .i64 i, .int .i64 s, .slice A l.length c]] w fun e w' => ∃ g, e = .returned (.slice (some ⟨g, 0, none⟩) l.length l.length) ∧ w.heap.size ≤ g ∧ Own w' g 3 (ints (lv s l)) ∧ Kept w w' := by
  obtain ⟨hi0, hi1, hln, hs⟩ := valid_start hv
  have hmk := make_ints l.length (by omega)
  go_enter Try.func58, Try.ntmps58
  go_wp2_with fail
  clear hmk
  go_loopw [15] (fun v wr => ∃ k : Nat, k ≤ l.length ∧ v = .int .i64 k ∧ Kept w wr ∧ Own wr w.heap.size 24 [.int .i64 i, .int .i64 s, .slice A l.length c] ∧ Own wr (w.heap.size + 1) 3 (ints (fillTo l.length k))) (fun v _ => l.length - (intOf v).toNat)
  case atStart => exact ⟨0, Nat.zero_le _, rfl, kept_alloc (kept_alloc (kept_refl _) _) _, (Own.new _ _ _).alloc _, by rw [fillTo_zero]; simpa using Own.new (w.alloc (.cells #[.int .i64 i, .int .i64 s, .slice A l.length c] 24)) 3 (ints (List.replicate l.length 0))⟩
  case round =>
    obtain ⟨k, hk, rfl, hb, ho, hL⟩ := hrel
    by_cases hlt : k < l.length
    · have hf := hL.frozen k
      have hc := hL.int (j := k) (by rw [fillTo_length (by omega)]; exact hlt)
      go_wp2_with fail
      go_roundw
      case rel => exact ⟨k + 1, by omega, by go_num, kept_set hb (by omega) _, ho.other (by simp) _, by rw [← fillTo_set hlt]; exact hL.setInt k (-1)⟩
      case measure => simp [intOf]; omega
    · have : k = l.length := by omega
      subst this
      rw [fillTo_all] at hL
      have o0 := ho.cell (j := 0) rfl
      have o1 := ho.cell (j := 1) rfl
      have o2 := ho.cell (j := 2) rfl
      have hf := hL.frozen s.toNat
      have lt1 := hL.lt
      by_cases hs0 : 0 ≤ s
      case' pos =>
        have hc := hL.int (j := s.toNat) (by simp; omega)
        have A0 := kept_set (j := s.toNat) hb (by omega : w.heap.size ≤ w.heap.size + 1) (.int .i64 0)
        have A1 := ho.other (a := ⟨w.heap.size + 1, s.toNat, none⟩) (by simp) (.int .i64 0)
        have A2 := hL.setInt s.toNat 0
        rw [show (List.replicate l.length (-1)).set s.toNat 0 = lvTo s l 0 from by simp [lvTo, lv0, hs0]] at A2
      case' neg =>
        have A0 := hb
        have A1 := ho
        have A2 := hL
        rw [show List.replicate l.length (-1) = lvTo s l 0 from by simp [lvTo, lv0, hs0]] at A2
      all_goals
        go_wp2_with fail
        clear hf o0 o1 o2 hL ho hb
        go_loopw [32] (fun v wr => ∃ k : Nat, k ≤ l.length ∧ v = .int .i64 k ∧ Kept w wr ∧ Own wr w.heap.size 24 [.int .i64 i, .int .i64 s, .slice A l.length c] ∧ Own wr (w.heap.size + 1) 3 (ints (lvTo s l k))) (fun v _ => l.length - (intOf v).toNat)
        case atStart => exact ⟨0, Nat.zero_le _, rfl, A0, A1, A2⟩
        case round =>
          clear A0 A1 A2
          obtain ⟨wo, rfl⟩ : ∃ x, x = wr := ⟨_, rfl⟩
          obtain ⟨k, hk, rfl, hb, ho, hL⟩ := hrel
          by_cases hlt : k < l.length
          · obtain ⟨b, off, rfl, hcs⟩ := hr.at_ hlt
            obtain ⟨d0, d1, d2⟩ := hcs k hlt
            clear hcs
            replace d0 := kept_cell hb d0
            replace d1 := kept_cell hb d1
            replace d2 := kept_cell hb d2
            have lt1 := hL.lt
            have lk := hL.int (j := k) (by simpa using hlt)
            by_cases hneg : ia (lvTo s l k) k < 0
            · go_wp2_with fail
              go_roundw
              case rel => exact ⟨k + 1, by omega, by go_num, kept_alloc hb _, ho.alloc _, by rw [show lvTo s l (k + 1) = lvTo s l k from lvStep_no hneg]; exact hL.alloc _⟩
              case measure => simp [intOf]; omega
            · go_wp2_with fail
              have B0 := kept_alloc (kept_alloc hb (.cells #[.int .i64 (nv l k), .int .i64 (nz l k), .int .i64 (no l k)] 48)) (.cells (ints [nz l k, no l k]).toArray 3)
              have B1 := (ho.alloc (.cells #[.int .i64 (nv l k), .int .i64 (nz l k), .int .i64 (no l k)] 48)).alloc (.cells (ints [nz l k, no l k]).toArray 3)
              have B2 := (hL.alloc (.cells #[.int .i64 (nv l k), .int .i64 (nz l k), .int .i64 (no l k)] 48)).alloc (.cells (ints [nz l k, no l k]).toArray 3)
              have B3 := Own.new (wo.alloc (.cells #[.int .i64 (nv l k), .int .i64 (nz l k), .int .i64 (no l k)] 48)) 3 (ints [nz l k, no l k])
              clear d0 d1 d2 hb lk ho hL
              go_loopw [48] (fun v w2 => ∃ j : Nat, j ≤ 2 ∧ v = .int .i64 j ∧ Kept w w2 ∧ Own w2 w.heap.size 24 [.int .i64 i, .int .i64 s, .slice (some ⟨b, off, none⟩) l.length c] ∧ Own w2 (w.heap.size + 1) 3 (ints (upk (lvTo s l k) l k j)) ∧ Own w2 (wo.heap.size + 1) 3 (ints [nz l k, no l k])) (fun v _ => 2 - (intOf v).toNat)
              case atStart => exact ⟨0, Nat.zero_le _, rfl, B0, B1, B2, by simpa [ints] using B3⟩
              case round =>
                clear B0 B1 B2 B3
                obtain ⟨j, hj, rfl, hb, ho, hL, hx⟩ := hrel
                by_cases hjt : j < 2
                · have ok := xk_ok hv hlt hjt
                  have sm := upk_small (L := lvTo s l k) (l := l) (k := k) (j := j) (lvTo_small s l k) (by omega)
                  have sk := sm.1 k
                  have c0 : wr.cell? ⟨wo.heap.size + 1, j, none⟩ = some (.int .i64 (xk l k j)) := Own.int hx (by simpa using hjt)
                  have ck := hL.int (j := k) (by simpa using hlt)
                  by_cases hX : 0 ≤ xk l k j
                  · have cx := hL.int (j := (xk l k j).toNat) (by simp; omega)
                    have cf := hL.frozen (xk l k j).toNat
                    go_wp2_with fail
                    go_region
                    all_goals
                      simp only [ite_max]
                      go_wp2_with fail
                      go_roundw
                      case rel => exact ⟨j + 1, by omega, by go_num, kept_drew (kept_set hb (by omega) _), (ho.other (by simp) _).drew, by rw [show upk (lvTo s l k) l k (j + 1) = (upk (lvTo s l k) l k j).set (xk l k j).toNat (max (ia (upk (lvTo s l k) l k j) (xk l k j).toNat) (ia (upk (lvTo s l k) l k j) k + 1)) from by rw [upk, up, if_pos hX]]; exact (hL.setInt _ _).drew, (hx.other (by simp; omega) _).drew⟩
                      case measure => simp [intOf]; omega
                  · go_wp2_with fail
                    go_roundw
                    case rel => exact ⟨j + 1, by omega, by go_num, hb, ho, by rw [show upk (lvTo s l k) l k (j + 1) = upk (lvTo s l k) l k j from by rw [upk, up, if_neg hX]]; exact hL, hx⟩
                    case measure => simp [intOf]; omega
                · have : j = 2 := by omega
                  subst this
                  go_wp2_with fail
                  go_roundw
                  case rel => exact ⟨k + 1, by omega, by go_num, hb, ho, by rw [show lvTo s l (k + 1) = upk (lvTo s l k) l k 2 from lvStep_yes (by omega)]; exact hL⟩
                  case measure => simp [intOf]; omega
          · have : k = l.length := by omega
            subst this
            go_wp2_with fail
            go_ret
            exact ⟨w.heap.size + 1, rfl, by omega, hL, hb⟩
end Go.Proofs.Ytinpmdekdfgiiaa

/- Branching programs: the levels, in the reference. -/
set_option linter.unusedVariables false
set_option linter.unusedSimpArgs false
namespace Go.Proofs.Ytinpmdekdfgiiaa
open Go.RowKit

set_option maxRecDepth 100000 in
set_option maxHeartbeats 1000000 in
theorem rlevels_any (i s : Int) (A : Option Addr) (c : Nat) (l : List Nd) (w : World) (hr : RN w A l) (hv : validB i s l = true) :
    Calls Try.prog 59 #[.agg #[.int .i64 i, .int .i64 s, .slice A l.length c]] w fun e w' => ∃ g, e = .returned (.slice (some ⟨g, 0, none⟩) l.length l.length) ∧ w.heap.size ≤ g ∧ Own w' g 3 (ints (lv s l)) ∧ Kept w w' := by
  obtain ⟨hi0, hi1, hln, hs⟩ := valid_start hv
  have hmk := make_ints l.length (by omega)
  go_enter Try.func59, Try.ntmps59
  go_wp2_with fail
  clear hmk
  go_loopg [4] l.length (fun g v wr => ∃ k : Nat, k ≤ l.length ∧ g = l.length - k ∧ v = .int .i64 k ∧ Kept w wr ∧ Own wr w.heap.size 24 [.int .i64 i, .int .i64 s, .slice A l.length c] ∧ Own wr (w.heap.size + 1) 3 (ints (fillTo l.length k)))
  case atStart => exact ⟨0, Nat.zero_le _, rfl, rfl, kept_alloc (kept_alloc (kept_refl _) _) _, (Own.new _ _ _).alloc _, by rw [fillTo_zero]; simpa using Own.new (w.alloc (.cells #[.int .i64 i, .int .i64 s, .slice A l.length c] 24)) 3 (ints (List.replicate l.length 0))⟩
  case round =>
    obtain ⟨k, hk, rfl, rfl, hb, ho, hL⟩ := hrel
    by_cases hlt : k < l.length
    · have hf := hL.frozen k
      have hc := hL.int (j := k) (by rw [fillTo_length (by omega)]; exact hlt)
      go_wp2_with fail
      go_roundg (l.length - (k + 1))
      case rel => exact ⟨k + 1, by omega, rfl, by go_num, kept_set hb (by omega) _, ho.other (by simp) _, by rw [← fillTo_set hlt]; exact hL.setInt k (-1)⟩
      case measure => omega
    · have : k = l.length := by omega
      subst this
      rw [fillTo_all] at hL
      have o0 := ho.cell (j := 0) rfl
      have o1 := ho.cell (j := 1) rfl
      have o2 := ho.cell (j := 2) rfl
      have hf := hL.frozen s.toNat
      have lt1 := hL.lt
      go_upto_if 22 with fail
      go_cut [] (fun wx => Kept w wx ∧ Own wx w.heap.size 24 [.int .i64 i, .int .i64 s, .slice A l.length c] ∧ Own wx (w.heap.size + 1) 3 (ints (lvTo s l 0)))
      case first =>
        by_cases hs0 : 0 ≤ s
        · have hc := hL.int (j := s.toNat) (by simp; omega)
          go_wp2_with fail
          go_meet
          exact ⟨kept_set hb (by omega) _, ho.other (by simp) _, by rw [lv0_yes l hs0]; exact hL.setInt s.toNat 0⟩
        · go_wp2_with fail
          go_meet
          exact ⟨hb, ho, by rw [lv0_no l (by omega)]; exact hL⟩
      case rest =>
        clear hf o0 o1 o2 hL ho hb
        obtain ⟨A0, A1, A2⟩ := hcut
        go_wp2_with fail
        go_loopg [5] l.length (fun g v wr => ∃ k : Nat, k ≤ l.length ∧ g = l.length - k ∧ v = .int .i64 k ∧ Kept w wr ∧ Own wr w.heap.size 24 [.int .i64 i, .int .i64 s, .slice A l.length c] ∧ Own wr (w.heap.size + 1) 3 (ints (lvTo s l k)))
        case atStart => exact ⟨0, Nat.zero_le _, rfl, rfl, A0, A1, A2⟩
        case round =>
          clear A0 A1 A2
          obtain ⟨k, hk, rfl, rfl, hb, ho, hL⟩ := hrel
          by_cases hlt : k < l.length
          · obtain ⟨b, off, rfl, hcs⟩ := hr.at_ hlt
            obtain ⟨d0, d1, d2⟩ := hcs k hlt
            clear hcs
            replace d0 := kept_cell hb d0
            replace d1 := kept_cell hb d1
            replace d2 := kept_cell hb d2
            have o2 := ho.cell (j := 2) rfl
            have lt1 := hL.lt
            have lk := hL.int (j := k) (by simpa using hlt)
            by_cases hneg : ia (lvTo s l k) k < 0
            · go_wp2_with fail
              go_roundg (l.length - (k + 1))
              case rel => exact ⟨k + 1, by omega, rfl, by go_num, hb, ho, by rw [show lvTo s l (k + 1) = lvTo s l k from lvStep_no hneg]; exact hL⟩
              case measure => omega
            · have sm := lvTo_small s l k k
              have okz := valid_node hv hlt
              go_upto_if 45 with fail
              clear d0 d1 d2
              have Z0 := kept_alloc hb (.cells #[.int .i64 (nv l k), .int .i64 (nz l k), .int .i64 (no l k)] 48)
              have Z1 := ho.alloc (.cells #[.int .i64 (nv l k), .int .i64 (nz l k), .int .i64 (no l k)] 48)
              have Z2 := hL.alloc (.cells #[.int .i64 (nv l k), .int .i64 (nz l k), .int .i64 (no l k)] 48)
              have Z3 := Own.new wr 48 [.int .i64 (nv l k), .int .i64 (nz l k), .int .i64 (no l k)]
              go_cut [] (fun wx => Kept w wx ∧ Own wx w.heap.size 24 [.int .i64 i, .int .i64 s, .slice (some ⟨b, off, none⟩) l.length c] ∧ Own wx (w.heap.size + 1) 3 (ints (upk (lvTo s l k) l k 1)) ∧ Own wx wr.heap.size 48 [.int .i64 (nv l k), .int .i64 (nz l k), .int .i64 (no l k)])
              case first =>
                by_cases hX : 0 ≤ nz l k
                · have cx := hL.int (j := (nz l k).toNat) (by simp; omega)
                  have cf := hL.frozen (nz l k).toNat
                  go_wp2_with fail
                  go_region
                  all_goals
                    simp only [ite_max]
                    go_wp2_with fail
                    go_meet
                    exact ⟨(by repeat (first | assumption | refine kept_drew ?_ | refine kept_alloc ?_ _ | refine kept_set ?_ (by omega) _)), (by repeat (first | assumption | refine Own.drew ?_ | refine Own.alloc ?_ _ | refine Own.other ?_ (by dsimp only; omega) _)), by rw [upk1, up_yes hX]; exact ((hL.setInt _ _).alloc _).drew, Own.drew (by simpa using Own.new (wr.setCell ⟨w.heap.size + 1, (nz l k).toNat, none⟩ (.int .i64 (max (ia (lvTo s l k) (nz l k).toNat) (ia (lvTo s l k) k + 1)))) 48 [.int .i64 (nv l k), .int .i64 (nz l k), .int .i64 (no l k)])⟩
                · go_wp2_with fail
                  go_meet
                  exact ⟨Z0, Z1, by rw [upk1, up_no (by omega)]; exact Z2, Z3⟩
              case rest =>
                have us := upk_small (L := lvTo s l k) (l := l) (k := k) (j := 1) (lvTo_small s l k) (by omega)
                have us2 := us.1 k
                have lt2 := Own.lt Z3
                clear sm lk o2 Z0 Z1 Z2 Z3 hb ho hL
                obtain ⟨Z0, Z1, Z2, Z3⟩ := hcut
                have e2 := Z3.cell (j := 2) rfl
                have lk := Z2.int (j := k) (by simpa using hlt)
                by_cases hX : 0 ≤ no l k
                · have cx := Z2.int (j := (no l k).toNat) (by simp; omega)
                  have cf := Z2.frozen (no l k).toNat
                  go_wp2_with fail
                  go_region
                  all_goals
                    simp only [ite_max]
                    go_wp2_with fail
                    go_roundg (l.length - (k + 1))
                    case rel => exact ⟨k + 1, by omega, rfl, by go_num, kept_drew (kept_set Z0 (by omega) _), Z1.other (by simp) _, by rw [show lvTo s l (k + 1) = upk (lvTo s l k) l k 2 from lvStep_yes (by omega), upk2, up_yes hX]; exact Z2.setInt _ _⟩
                    case measure => omega
                · go_wp2_with fail
                  go_roundg (l.length - (k + 1))
                  case rel => exact ⟨k + 1, by omega, rfl, by go_num, Z0, Z1, by rw [show lvTo s l (k + 1) = upk (lvTo s l k) l k 2 from lvStep_yes (by omega), upk2, up_no (by omega)]; exact Z2⟩
                  case measure => omega
          · have : k = l.length := by omega
            subst this
            go_wp2_with fail
            go_ret
            exact ⟨w.heap.size + 1, rfl, by omega, hL, hb⟩
end Go.Proofs.Ytinpmdekdfgiiaa

/- Branching programs: slices.Max, Length (both texts). -/
set_option linter.unusedVariables false
set_option linter.unusedSimpArgs false
namespace Go.Proofs.Ytinpmdekdfgiiaa
open Go.RowKit

/-- The greatest of -1 and the first k. -/
def mxTo (L : List Int) : Nat → Int
  | 0 => -1
  | k + 1 => max (mxTo L k) (ia L k)
def mxL (L : List Int) : Int := mxTo L L.length
/-- The number of levels. -/
def lenB (s : Int) (l : List Nd) : Int := mxL (lv s l) + 1

theorem mxTo_le {L : List Int} {b : Int} (h : ∀ j, ia L j ≤ b) (hb : -1 ≤ b) (k : Nat) : -1 ≤ mxTo L k ∧ mxTo L k ≤ b := by
  induction k with
  | zero => simp [mxTo]; exact hb
  | succ k ih => have := h k; simp only [mxTo]; omega
theorem mxTo_congr {L M : List Int} {k : Nat} (h : ∀ j, j < k → ia L j = ia M j) : mxTo L k = mxTo M k := by
  induction k with
  | zero => rfl
  | succ k ih => simp only [mxTo]; rw [ih (fun j hj => h j (by omega)), h k (by omega)]
theorem mx_snoc (L : List Int) : mxL (L ++ [-1]) = mxL L := by
  unfold mxL
  rw [List.length_append]
  simp only [List.length_cons, List.length_nil, Nat.zero_add, mxTo]
  have h1 : ia (L ++ [-1]) L.length = -1 := by simp [ia, List.getD_eq_getElem?_getD]
  rw [h1, mxTo_congr (M := L) fun j hj => by simp [ia, List.getD_eq_getElem?_getD, List.getElem?_append_left hj]]
  have : -1 ≤ mxTo L L.length := by
    generalize L.length = k
    induction k with
    | zero => simp [mxTo]
    | succ k ih => simp only [mxTo]; omega
  omega

set_option maxRecDepth 100000 in
set_option maxHeartbeats 1000000 in
theorem max_any (A : Option Addr) (n c : Nat) (L : List Int) (w : World) (hnl : n = L.length) (hr : Rd w A (ints L)) (hn : 0 < L.length) (hm : L.length ≤ 140737488355328) (h1 : ∀ j, -1 ≤ ia L j) :
    Calls Try.prog 57 #[.slice A n c] w fun e w' => e = .returned (.int .i64 (mxL L)) ∧ w = w' := by
  subst hnl
  obtain ⟨b, off, rfl, hc⟩ := hr.int hn
  have h0 := hc 0 hn
  simp only [Nat.add_zero] at h0
  have hlt1 : decide ((L.length : Int) < 1) = false := by simp; omega
  go_enter Try.func57, Try.ntmps57
  go_wp2_with fail
  have H := Lib.hid hc; clear hc h0
  go_loopg [3, 4] (L.length - 1) (fun g s3 s4 wr => ∃ k : Nat, 1 ≤ k ∧ k ≤ L.length ∧ g = L.length - k ∧ s4 = .int .i64 k ∧ s3 = .int .i64 (mxTo L k) ∧ w = wr)
  case atStart => exact ⟨1, by omega, by omega, rfl, rfl, by rw [show mxTo L 1 = ia L 0 from by have := h1 0; simp [mxTo]; omega], rfl⟩
  case round =>
    obtain ⟨k, hk1, hk, rfl, rfl, rfl, rfl⟩ := hrel
    by_cases hlt : k < L.length
    · have hk0 := H.out k hlt
      go_wp2_with fail
      all_goals
        go_roundg (L.length - (k + 1))
        case rel => exact ⟨k + 1, by omega, by omega, rfl, by go_num, congrArg (Value.int .i64) (by simp only [mxTo]; omega), rfl⟩
        case measure => omega
    · have : k = L.length := by omega
      subst this
      go_wp2_with fail
      go_ret
      exact ⟨rfl, rfl⟩
set_option maxRecDepth 100000 in
set_option maxHeartbeats 1000000 in
theorem length_any (i s : Int) (A : Option Addr) (c : Nat) (l : List Nd) (w : World) (hl : l.length ≤ 140737488355328) (hr : RN w A l) :
    Calls Try.prog 17 #[.agg #[.int .i64 i, .int .i64 s, .slice A l.length c]] w fun e w' => e = .returned (.int .i64 (if validB i s l then lenB s l else -1)) ∧ Kept w w' := by
  have o0 := Own.new w 24 [.int .i64 i, .int .i64 s, .slice A l.length c]
  cases hv : validB i s l
  · go_enter Try.func17, Try.ntmps17
    go_wp2_with fail
    refine (valid_any _ _ _ _ _ _ hl (hr.kept (kept_alloc (kept_refl _) _))).mono ?_
    rintro e w1 ⟨rfl, k1⟩
    rw [hv]
    go_wp2_with fail
    go_ret
    exact ⟨rfl, kept_trans (kept_alloc (kept_refl _) _) k1⟩
  · obtain ⟨hi0, hi1, hln, hs⟩ := valid_start hv
    have hz : ∀ j, -1 ≤ ia (lv s l ++ [-1]) j := by
      intro j
      have h1 := lvTo_small s l l.length j
      have h2 : ia (lv s l ++ [-1]) j = ia (lv s l) j ∨ ia (lv s l ++ [-1]) j = -1 ∨ ia (lv s l ++ [-1]) j = 0 := by
        unfold ia
        simp only [List.getD_eq_getElem?_getD, List.getElem?_append]
        split
        · exact .inl rfl
        · rcases Nat.eq_zero_or_pos (j - (lv s l).length) with h | h
          · rw [h]; exact .inr (.inl rfl)
          · rw [List.getElem?_eq_none (by simp only [List.length_cons, List.length_nil]; omega)]; exact .inr (.inr rfl)
      unfold lv at h2 ⊢
      omega
    go_enter Try.func17, Try.ntmps17
    go_wp2_with fail
    refine (valid_any _ _ _ _ _ _ hl (hr.kept (kept_alloc (kept_refl _) _))).mono ?_
    rintro e w1 ⟨rfl, k1⟩
    rw [hv]
    replace o0 := o0.kept k1
    replace k1 := kept_trans (kept_alloc (kept_refl _) _) k1
    have q0 := o0.cell (j := 0) rfl
    have q1 := o0.cell (j := 1) rfl
    have q2 := o0.cell (j := 2) rfl
    go_wp2_with fail
    refine (levels_any _ _ _ _ _ _ (hr.kept k1) hv).mono ?_
    rintro e w2 ⟨g, rfl, hg, ho, k2⟩
    clear q0 q1 q2
    have hr2 := ho.row w1.heap.size 1 l.length hg (by simp) (by omega)
    have s1 := k1.size
    have s2 := k2.size
    go_wp2_with (at_builtin; refine app_int w1.heap.size rfl (.tmp 7) (.tmp 8) 36 3 rfl Try.underlying36 info3 (.slice (some ⟨g, 0, none⟩) l.length l.length) l.length (lv s l) (-1) rfl rfl hr2 s2 (by omega) ?_; intro v3 w3 hr3 hg3 hat3)
    have k3 : Kept w w3 := kept_grown (kept_trans k1 k2) hr2 s1 hg3
    obtain ⟨A3, c3, rfl, hr4⟩ := row_form hr3
    clear hr3
    refine (max_any _ _ _ _ _ (by simp) (row_rd hr4) (by simp) (by simp; omega) hz).mono ?_
    rintro e w4 ⟨rfl, rfl⟩
    rw [mx_snoc]
    have hm := mxTo_le (L := lv s l) (b := 2 * l.length) (fun j => (lvTo_small s l l.length j).2) (by omega) (lv s l).length
    have hm1 : -1 ≤ mxL (lv s l) := hm.1
    have hm2 : mxL (lv s l) ≤ 2 * l.length := hm.2
    clear hm
    go_wp2_with fail
    go_ret
    exact ⟨rfl, k3⟩

set_option maxRecDepth 100000 in
set_option maxHeartbeats 1000000 in
theorem rlength_any (i s : Int) (A : Option Addr) (c : Nat) (l : List Nd) (w : World) (hr : RN w A l) (hv : validB i s l = true) :
    Calls Try.prog 20 #[.agg #[.int .i64 i, .int .i64 s, .slice A l.length c]] w fun e w' => e = .returned (.int .i64 (lenB s l)) ∧ Kept w w' := by
  obtain ⟨hi0, hi1, hln, hs⟩ := valid_start hv
  go_enter Try.func20, Try.ntmps20
  go_wp2_with fail
  refine (rlevels_any _ _ _ _ _ _ (hr.kept (kept_alloc (kept_refl _) _)) hv).mono ?_
  rintro e w1 ⟨g, rfl, hg, ho, k1⟩
  replace k1 := kept_trans (kept_alloc (kept_refl _) _) k1
  go_wp2_with fail
  go_loopg [3, 5] l.length (fun g' s3 s5 wr => ∃ k : Nat, k ≤ l.length ∧ g' = l.length - k ∧ s5 = .int .i64 k ∧ s3 = .int .i64 (mxTo (lv s l) k + 1) ∧ w1 = wr)
  case atStart => exact ⟨0, by omega, rfl, rfl, rfl, rfl⟩
  case round =>
    obtain ⟨k, hk, rfl, rfl, rfl, rfl⟩ := hrel
    have hm := mxTo_le (L := lv s l) (b := 2 * l.length) (fun j => (lvTo_small s l l.length j).2) (by omega) k
    have h2 := lvTo_small s l l.length k
    rw [show lvTo s l l.length = lv s l from rfl] at h2
    by_cases hlt : k < l.length
    · have hk0 := ho.int (j := k) (by simpa using hlt)
      go_wp2_with fail
      all_goals
        go_roundg (l.length - (k + 1))
        case rel => exact ⟨k + 1, by omega, rfl, by go_num, congrArg (Value.int .i64) (by simp only [mxTo]; omega), rfl⟩
        case measure => omega
    · have : k = l.length := by omega
      subst this
      go_wp2_with fail
      go_ret
      exact ⟨by unfold lenB mxL; rw [lv_length]; rfl, k1⟩
end Go.Proofs.Ytinpmdekdfgiiaa

/- Plain definitions: the width of a branching program; levels are at most the node's index. -/
set_option linter.unusedVariables false
set_option linter.unusedSimpArgs false
namespace Go.Proofs.Ytinpmdekdfgiiaa

def Low (L : List Int) : Prop := ∀ j : Nat, -1 ≤ ia L j ∧ ia L j ≤ j
theorem Low.up {L : List Int} (h : Low L) (x v : Int) (hv : -1 ≤ v) (hx : v ≤ x) : Low (up L x v) := by
  intro j
  have h1 := h j
  unfold Ytinpmdekdfgiiaa.up
  split
  · rw [ia_set]
    have h2 := h x.toNat
    split
    · rename_i e; obtain ⟨rfl, _⟩ := e; omega
    · exact h1
  · exact h1
theorem low0 (n : Nat) (s : Int) : Low (lv0 n s) := by
  intro j
  have := lv0_small n s j
  omega
theorem lvTo_low {i s : Int} {l : List Nd} (hv : validB i s l = true) : ∀ k, k ≤ l.length → Low (lvTo s l k) := by
  intro k
  induction k with
  | zero => intro _; exact low0 _ _
  | succ k ih =>
    intro hk
    have h := ih (by omega)
    have ok := valid_node hv (k := k) (by omega)
    show Low (lvStep l k (lvTo s l k))
    have hk1 := h k
    unfold lvStep
    split
    · exact h
    · have up1 : Low (up (lvTo s l k) (nz l k) (ia (lvTo s l k) k + 1)) := by
        by_cases hz : nz l k < 0
        · rw [up_no hz]; exact h
        · exact h.up _ _ (by omega) (by omega)
      have h2 := up1 k
      by_cases hz : no l k < 0
      · rw [up_no hz]; exact up1
      · exact up1.up _ _ (by omega) (by omega)
theorem lv_low {i s : Int} {l : List Nd} (hv : validB i s l = true) : Low (lv s l) := lvTo_low hv _ (Nat.le_refl _)

/-- How many nodes of each level, after k nodes. -/
def cnt (L : List Int) : Nat → List Int
  | 0 => List.replicate (L.length + 1) 0
  | k + 1 => if 0 ≤ ia L k then (cnt L k).set (ia L k).toNat (ia (cnt L k) (ia L k).toNat + 1) else cnt L k
@[simp] theorem cnt_length (L : List Int) (k : Nat) : (cnt L k).length = L.length + 1 := by
  induction k with
  | zero => simp [cnt]
  | succ k ih => unfold cnt; split <;> simp [ih]
theorem cnt_bd (L : List Int) (k : Nat) : ∀ j, 0 ≤ ia (cnt L k) j ∧ ia (cnt L k) j ≤ k := by
  induction k with
  | zero =>
    intro j
    unfold cnt ia
    simp only [List.getD_eq_getElem?_getD, List.getElem?_replicate]
    split <;> simp
  | succ k ih =>
    intro j
    have h1 := ih j
    have h2 := ih (ia L k).toNat
    unfold cnt
    split
    · rw [ia_set]; split <;> omega
    · omega
/-- The width. -/
def widB (s : Int) (l : List Nd) : Int := mxL (cnt (lv s l) l.length)

theorem mxTo_set {M : List Int} {x : Nat} {v : Int} (hx : x < M.length) (hv : ia M x ≤ v) : ∀ k, mxTo (M.set x v) k = if x < k then max (mxTo M k) v else mxTo M k := by
  intro k
  induction k with
  | zero => simp [mxTo]
  | succ k ih =>
    simp only [mxTo]
    rw [ih, ia_set]
    by_cases h1 : x < k
    · simp only [h1, show x < k + 1 from by omega, show ¬ (x = k ∧ k < M.length) from by omega, if_true, if_false]; omega
    · by_cases h2 : x = k
      · subst h2; simp only [hx, show x < x + 1 from by omega, if_true, if_false, and_self, Nat.lt_irrefl]; omega
      · simp only [h1, show ¬ x < k + 1 from by omega, show ¬ (x = k ∧ k < M.length) from by omega, if_false]
theorem mxL_set {M : List Int} {x : Nat} {v : Int} (hx : x < M.length) (hv : ia M x ≤ v) : mxL (M.set x v) = max (mxL M) v := by
  unfold mxL
  rw [List.length_set, mxTo_set hx hv, if_pos hx]
theorem mxL_zero (n : Nat) : mxL (List.replicate (n + 1) 0) = 0 := by
  unfold mxL
  rw [List.length_replicate]
  have : ∀ k, k ≤ n + 1 → mxTo (List.replicate (n + 1) 0) k = if k = 0 then -1 else 0 := by
    intro k
    induction k with
    | zero => intro _; rfl
    | succ k ih =>
      intro hk
      simp only [mxTo]
      rw [ih (by omega)]
      have : ia (List.replicate (n + 1) 0) k = 0 := by simp [ia, List.getD_eq_getElem?_getD, List.getElem?_replicate, show k < n + 1 from by omega]
      rw [this]
      split <;> simp <;> omega
  rw [this _ (Nat.le_refl _)]
  simp
end Go.Proofs.Ytinpmdekdfgiiaa
