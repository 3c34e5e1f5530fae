/- The law BranchLeast: the walk. -/
import Derived.Test.YtinpmdekdfgiiaaB22
set_option linter.unusedVariables false
set_option linter.unusedSimpArgs false
namespace Go.Proofs.Ytinpmdekdfgiiaa
open Go.RowKit

set_option maxRecDepth 100000 in
set_option maxHeartbeats 1000000 in
theorem law_least (T : Option Addr) (c : Nat) (t : List Bool) (w : World) (hm : t.length ≤ 140737488355328) (hT : Rd w T (bools t)) :
    Calls Try.prog 4 #[.slice T t.length c] w fun e w' => e = .returned (.bool true) ∧ Kept w w' := by
  by_cases hb : ∀ n, n ≤ 3 → t.length ≠ 2 ^ n
  · have hi : inpB t.length = -1 := by
      have h0 := hb 0 (by omega); have h1 := hb 1 (by omega); have h2 := hb 2 (by omega); have h3 := hb 3 (by omega)
      unfold inpB
      rw [if_neg h0, if_neg h1, if_neg h2, if_neg h3]
    have hl := (least_bad T c t w hm hb).mono (R' := fun e w' => e = .returned (.tuple #[.int .i64 0, .int .i64 2]) ∧ Kept w w') (by
      rintro e w' ⟨k, h⟩
      rcases h with ⟨_, h⟩ | ⟨n, h0, h1, _⟩
      · exact ⟨h, k⟩
      · exact absurd h1 (hb n h0))
    have HL := Lib.hid hl; clear hl
    have HI := Lib.hid hi; clear hi hb
    go_enter Try.func4, Try.ntmps4
    go_wp2_with fail
    refine HL.out.mono ?_
    rintro e w1 ⟨rfl, k1⟩
    go_wp2_with fail
    refine (inputs_any t.length _ hm).mono ?_
    rintro e w2 ⟨rfl, rfl⟩
    rw [HI.out]
    go_wp2_with fail
    refine (alive_any _).mono ?_
    rintro e w3 ⟨rfl, k3⟩
    go_wp2_with fail
    go_ret
    exact ⟨ret_bool (by simp), kept_trans k1 k3⟩
  · have hb' : ∃ n, n ≤ 3 ∧ t.length = 2 ^ n := by
      apply Classical.byContradiction
      intro h
      exact hb fun n h0 h1 => h ⟨n, h0, h1⟩
    obtain ⟨n, h0, h1⟩ := hb'
    clear hb
    have hi : inpB t.length = n := by
      match n, h0 with
      | 0, _ => rw [h1]; rfl
      | 1, _ => rw [h1]; rfl
      | 2, _ => rw [h1]; rfl
      | 3, _ => rw [h1]; rfl
    have hl := (least_good T c t w n h0 h1 hT).mono (R' := fun e w' => e = .returned (.tuple #[.int .i64 (leastS n (bo (ba t) (2 ^ n)) : Nat), .int .i64 0]) ∧ Kept w w') (by
      rintro e w' ⟨k, h⟩
      rcases h with ⟨h, _⟩ | ⟨n', _, _, h2, h3⟩
      · omega
      · have : n' = n := by omega
        subst this
        exact ⟨h3, k⟩)
    have hr := fun (w' : World) (k : Kept w w') => rleast_any n h0 T t.length c t w' rfl h1 (hT.kept k)
    obtain ⟨r, hr0⟩ : ∃ r, r = leastS n (bo (ba t) (2 ^ n)) := ⟨_, rfl⟩
    rw [← hr0] at hl hr
    have HL := Lib.hid hl; clear hl
    have HR := Lib.hid hr; clear hr
    have HI := Lib.hid hi; clear hi hr0 h1
    go_enter Try.func4, Try.ntmps4
    go_wp2_with fail
    refine HL.out.mono ?_
    rintro e w1 ⟨rfl, k1⟩
    go_wp2_with fail
    refine (inputs_any t.length _ hm).mono ?_
    rintro e w2 ⟨rfl, rfl⟩
    rw [HI.out]
    go_wp2_with fail
    refine (HR.out _ k1).mono ?_
    rintro e w3 ⟨rfl, k3⟩
    go_wp2_with fail
    refine (alive_any _).mono ?_
    rintro e w4 ⟨rfl, k4⟩
    go_wp2_with fail
    go_ret
    exact ⟨ret_bool (by simp), kept_trans (kept_trans k1 k3) k4⟩
end Go.Proofs.Ytinpmdekdfgiiaa
