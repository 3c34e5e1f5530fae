/- Branching programs: what nodes read as, and when a program is valid: few, target, ends, Valid (both texts). -/
import Derived.Test.YtinpmdekdfgiiaaRows
import Derived.Test.YtinpmdekdfgiiaaLib
set_option linter.unusedVariables false
set_option linter.unusedSimpArgs false
namespace Go.Proofs.Ytinpmdekdfgiiaa
open Go.RowKit

structure Nd where
  v : Int
  z : Int
  o : Int
  deriving DecidableEq, Inhabited

def ndCells (l : List Nd) : List Value := l.flatMap fun n => [.int .i64 n.v, .int .i64 n.z, .int .i64 n.o]
def nv (l : List Nd) (k : Nat) : Int := (l.getD k ⟨0, 0, 0⟩).v
def nz (l : List Nd) (k : Nat) : Int := (l.getD k ⟨0, 0, 0⟩).z
def no (l : List Nd) (k : Nat) : Int := (l.getD k ⟨0, 0, 0⟩).o

theorem ndCells_length (l : List Nd) : (ndCells l).length = l.length * 3 := by
  induction l with
  | nil => rfl
  | cons a l ih => simp only [ndCells, List.flatMap_cons, List.length_append, List.length_cons, List.length_nil] at ih ⊢; omega
theorem ndCells_get (l : List Nd) (k : Nat) (h : k < l.length) :
    (ndCells l)[k * 3]? = some (.int .i64 (nv l k)) ∧ (ndCells l)[k * 3 + 1]? = some (.int .i64 (nz l k)) ∧ (ndCells l)[k * 3 + 2]? = some (.int .i64 (no l k)) := by
  induction l generalizing k with
  | nil => simp at h
  | cons a l ih =>
    cases k with
    | zero => simp [ndCells, nv, nz, no]
    | succ k =>
      obtain ⟨h0, h1, h2⟩ := ih k (by simpa using h)
      have e : ndCells (a :: l) = .int .i64 a.v :: .int .i64 a.z :: .int .i64 a.o :: ndCells l := by simp [ndCells]
      have e0 : (k + 1) * 3 = k * 3 + 1 + 1 + 1 := by omega
      refine ⟨?_, ?_, ?_⟩
      · rw [e, e0]; simpa [nv] using h0
      · rw [e, e0]; simpa [nz] using h1
      · rw [e, e0]; simpa [no] using h2

/-- A slice of nodes that is read. -/
abbrev RN (w : World) (A : Option Addr) (l : List Nd) : Prop := Rd w A (ndCells l)

theorem RN.at_ {w : World} {A : Option Addr} {l : List Nd} (h : RN w A l) {k : Nat} (hk : k < l.length) :
    ∃ b off, A = some ⟨b, off, none⟩ ∧ ∀ j, j < l.length → w.cell? ⟨b, off + j * 3, none⟩ = some (.int .i64 (nv l j)) ∧ w.cell? ⟨b, off + j * 3 + 1, none⟩ = some (.int .i64 (nz l j)) ∧ w.cell? ⟨b, off + j * 3 + 2, none⟩ = some (.int .i64 (no l j)) := by
  obtain ⟨b, off, e, hc⟩ := Rd.at_ h (ne_nil_of_lt (k := k) (by rw [ndCells_length]; omega))
  refine ⟨b, off, e, fun j hj => ?_⟩
  obtain ⟨h0, h1, h2⟩ := ndCells_get l j hj
  exact ⟨hc _ _ h0, hc _ _ h1, hc _ _ h2⟩

/-- What follows a node may be this. -/
def tgt (x a n : Int) : Bool := x == -1 || x == -2 || (decide (a < x) && decide (x < n))
/-- Node j is right. -/
def okN (i : Int) (l : List Nd) (j : Nat) : Bool := decide (0 ≤ nv l j) && decide (nv l j < i) && tgt (nz l j) j l.length && tgt (no l j) j l.length
/-- The program is valid. -/
def validB (i s : Int) (l : List Nd) : Bool := decide (0 ≤ i) && decide (i ≤ 16) && decide ((l.length : Int) ≤ 20000) && tgt s (-1) l.length && allN l.length (okN i l)

theorem valid_no {i s : Int} {l : List Nd} {k : Nat} (hk : k < l.length) (h : okN i l k = false) : false = validB i s l := by
  unfold validB
  rw [allN_false.2 ⟨k, hk, h⟩]
  simp

set_option maxHeartbeats 400000 in
theorem few_any (i s : Int) (A : Option Addr) (c : Nat) (l : List Nd) (m : Int) (w : World) (hl : l.length ≤ 140737488355328) :
    Calls Try.prog 13 #[.agg #[.int .i64 i, .int .i64 s, .slice A l.length c], .int .i64 m] w fun e w' => e = .returned (.bool (decide ((l.length : Int) ≤ m))) ∧ Kept w w' := by
  go_enter Try.func13, Try.ntmps13
  go_wp2
  go_ret
  exact ⟨rfl, kept_alloc (kept_refl _) _⟩

set_option maxHeartbeats 400000 in
theorem target_any (x a n : Int) (w : World) : Calls Try.prog 56 #[.int .i64 x, .int .i64 a, .int .i64 n] w fun e w' => e = .returned (.bool (tgt x a n)) ∧ w = w' := by
  go_enter Try.func56, Try.ntmps56
  go_wp2
  all_goals
    go_ret
    exact ⟨ret_bool (by simp [tgt, *]; try omega), rfl⟩

set_option maxHeartbeats 400000 in
theorem ends_any (x a n : Int) (w : World) : Calls Try.prog 55 #[.int .i64 x, .int .i64 (a + 1), .int .i64 n] w fun e w' => e = .returned (.bool (tgt x a n)) ∧ w = w' := by
  go_enter Try.func55, Try.ntmps55
  go_wp2
  all_goals
    go_ret
    exact ⟨ret_bool (by
      have e : decide (a < x) = decide (a + 1 ≤ x) := by apply decide_eq_decide.2; omega
      simp [tgt, e, *] <;> omega), rfl⟩

set_option maxRecDepth 100000 in
set_option maxHeartbeats 1000000 in
theorem valid_any (i s : Int) (A : Option Addr) (c : Nat) (l : List Nd) (w : World) (hl : l.length ≤ 140737488355328) (hr : RN w A l) :
    Calls Try.prog 16 #[.agg #[.int .i64 i, .int .i64 s, .slice A l.length c]] w fun e w' => e = .returned (.bool (validB i s l)) ∧ Kept w w' := by
  cases ht : tgt s (-1) l.length
  · go_enter Try.func16, Try.ntmps16
    go_wp2_with (go_at_call 56; refine (target_any _ _ _ _).mono ?_; rintro e w' ⟨rfl, rfl⟩)
    all_goals
      go_ret
      exact ⟨ret_bool (by simp [validB, *]; try omega), kept_alloc (kept_refl _) _⟩
  go_enter Try.func16, Try.ntmps16
  go_wp2_with (go_at_call 56; refine (target_any _ _ _ _).mono ?_; rintro e w' ⟨rfl, rfl⟩)
  all_goals try (go_ret; exact ⟨ret_bool (by simp [validB, *]; try omega), kept_alloc (kept_refl _) _⟩)
  go_loopw [31] (fun v wr => ∃ k : Nat, k ≤ l.length ∧ (∀ j, j < k → okN i l j = true) ∧ v = .int .i64 k ∧ Kept w wr ∧ w.heap.size < wr.heap.size ∧ wr.cell? ⟨w.heap.size, 0, none⟩ = some (.int .i64 i) ∧ wr.cell? ⟨w.heap.size, 2, none⟩ = some (.slice A l.length c)) (fun v _ => l.length - (intOf v).toNat)
  case atStart => exact ⟨0, Nat.zero_le _, by omega, rfl, kept_alloc (kept_refl _) _, by simp, by simp, by simp⟩
  case round =>
    obtain ⟨k, hk, hj, rfl, hb, hsz, hc0, hc2⟩ := hrel
    by_cases hlt : k < l.length
    · obtain ⟨b, off, rfl, hcs⟩ := hr.at_ hlt
      obtain ⟨d0, d1, d2⟩ := hcs k hlt
      clear hcs
      replace d0 := kept_cell hb d0
      replace d1 := kept_cell hb d1
      replace d2 := kept_cell hb d2
      have H := Lib.hid hj; clear hj
      go_wp2_with (go_at_call 56; refine (target_any _ _ _ _).mono ?_; rintro e w' ⟨rfl, rfl⟩)
      any_goals
        go_ret
        exact ⟨ret_bool (valid_no hlt (by unfold okN; grind)), kept_alloc hb _⟩
      all_goals
        go_roundw
        case rel => exact ⟨k + 1, by omega, fun j h => by rcases Nat.lt_succ_iff_lt_or_eq.1 h with h | rfl; exact H.out j h; unfold okN; grind, by go_num, kept_alloc hb _, by simp; omega, cell_alloc hc0 _, cell_alloc hc2 _⟩
        case measure => simp [intOf]; omega
    · go_wp2_with fail
      go_ret
      have : k = l.length := by omega
      subst this
      exact ⟨ret_bool (by simp [validB, allN_true.2 hj, *]), hb⟩
end Go.Proofs.Ytinpmdekdfgiiaa
