/- Branching programs: Valid of the reference says the same as validB. -/
import Derived.Test.YtinpmdekdfgiiaaB1
set_option linter.unusedVariables false
set_option linter.unusedSimpArgs false
namespace Go.Proofs.Ytinpmdekdfgiiaa
open Go.RowKit

set_option maxRecDepth 100000 in
set_option maxHeartbeats 1000000 in
theorem rvalid_any (i s : Int) (A : Option Addr) (c : Nat) (l : List Nd) (w : World) (hl : l.length ≤ 140737488355328) (hr : RN w A l) :
    Calls Try.prog 15 #[.agg #[.int .i64 i, .int .i64 s, .slice A l.length c]] w fun e w' => e = .returned (.bool (validB i s l)) ∧ Kept w w' := by
  have E0 := ends_any s (-1) l.length
  simp only [Int.reduceNeg, Int.reduceAdd] at E0
  cases ht : tgt s (-1) l.length
  · go_enter Try.func15, Try.ntmps15
    go_wp2_with (go_at_call 55; refine (E0 _).mono ?_; rintro e w' ⟨rfl, rfl⟩)
    all_goals (go_ret; exact ⟨ret_bool (by unfold validB; grind), kept_alloc (kept_refl _) _⟩)
  go_enter Try.func15, Try.ntmps15
  go_wp2_with (go_at_call 55; refine (E0 _).mono ?_; rintro e w' ⟨rfl, rfl⟩)
  all_goals try (go_ret; exact ⟨ret_bool (by unfold validB; grind), kept_alloc (kept_refl _) _⟩)
  clear E0
  go_loopw [4] (fun v wr => ∃ k : Nat, k ≤ l.length ∧ (∀ j, j < k → okN i l j = true) ∧ v = .int .i64 k ∧ Kept w wr ∧ w.heap.size < wr.heap.size ∧ wr.cell? ⟨w.heap.size, 0, none⟩ = some (.int .i64 i) ∧ wr.cell? ⟨w.heap.size, 2, none⟩ = some (.slice A l.length c)) (fun v _ => l.length - (intOf v).toNat)
  case atStart => exact ⟨0, Nat.zero_le _, by omega, rfl, kept_alloc (kept_refl _) _, by simp, by simp, by simp⟩
  case round =>
    obtain ⟨k, hk, hj, rfl, hb, hsz, hc0, hc2⟩ := hrel
    by_cases hlt : k < l.length
    · obtain ⟨b, off, rfl, hcs⟩ := hr.at_ hlt
      obtain ⟨d0, d1, d2⟩ := hcs k hlt
      clear hcs
      replace d0 := kept_cell hb d0
      replace d1 := kept_cell hb d1
      replace d2 := kept_cell hb d2
      have H := Lib.hid hj; clear hj
      go_wp2_with (go_at_call 55; refine (ends_any _ _ _ _).mono ?_; rintro e w' ⟨rfl, rfl⟩)
      any_goals
        go_ret
        exact ⟨ret_bool (valid_no hlt (by unfold okN; grind)), kept_alloc hb _⟩
      all_goals
        go_roundw
        case rel => exact ⟨k + 1, by omega, fun j h => by rcases Nat.lt_succ_iff_lt_or_eq.1 h with h | rfl; exact H.out j h; unfold okN; grind, by go_num, kept_alloc hb _, by simp; omega, cell_alloc hc0 _, cell_alloc hc2 _⟩
        case measure => simp [intOf]; omega
    · go_wp2_with fail
      go_ret
      have : k = l.length := by omega
      subst this
      have h2 := allN_true.2 hj
      exact ⟨ret_bool (by unfold validB; grind), hb⟩
end Go.Proofs.Ytinpmdekdfgiiaa
