/- The program's Least. -/
import Derived.Test.YtinpmdekdfgiiaaB19
import Derived.Test.YtinpmdekdfgiiaaLib4
import Derived.Deep.RegionLaw
set_option linter.unusedVariables false
set_option linter.unusedSimpArgs false
namespace Go.Proofs.Ytinpmdekdfgiiaa
open Go.RowKit

def LeastPost (t : List Bool) (w : World) (e : Ending) (w' : World) : Prop :=
  Kept w w' ∧ ((inpB t.length = -1 ∧ e = .returned (.tuple #[.int .i64 0, .int .i64 2])) ∨ (∃ n : Nat, n ≤ 3 ∧ t.length = 2 ^ n ∧ inpB t.length = n ∧ e = .returned (.tuple #[.int .i64 (leastS n (bo (ba t) (2 ^ n)) : Nat), .int .i64 0])))

theorem shl48 (n : Nat) (hn : n ≤ 60) : wrap64 (2 ^ n) = ((2 ^ n : Nat) : Int) := by
  have h1 : 2 ^ n ≤ 2 ^ 60 := Nat.pow_le_pow_right (by omega) hn
  have h2 : ((2 : Int) ^ n) = ((2 ^ n : Nat) : Int) := by simp
  rw [h2]
  generalize 2 ^ n = m at *
  unfold wrap64
  omega

set_option maxRecDepth 100000 in
set_option maxHeartbeats 1000000 in
theorem least_bad (T : Option Addr) (c : Nat) (t : List Bool) (w : World) (hm : t.length ≤ 140737488355328) (hb : ∀ n, n ≤ 3 → t.length ≠ 2 ^ n) :
    Calls Try.prog 23 #[.slice T t.length c] w (LeastPost t w) := by
  have hinp : inpB t.length = -1 := by
    have h0 := hb 0 (by omega); have h1 := hb 1 (by omega); have h2 := hb 2 (by omega); have h3 := hb 3 (by omega)
    unfold inpB
    rw [if_neg h0, if_neg h1, if_neg h2, if_neg h3]
  have HB := Lib.hid hb; clear hb
  have HI := Lib.hid hinp; clear hinp
  have o0 := Own.new w 29 [.slice T t.length c]
  go_enter Try.func23, Try.ntmps23
  go_wp2_with fail
  go_loopg [4] 50 (fun g s4 wr => ∃ k : Nat, k ≤ 49 ∧ (0 < k → 2 ^ (k - 1) < t.length) ∧ g = 50 - k ∧ s4 = .int .i64 k ∧ Kept w wr ∧ Own wr w.heap.size 29 [.slice T t.length c])
  case atStart => exact ⟨0, by omega, by omega, by omega, rfl, kept_alloc (kept_refl _) _, o0⟩
  case round =>
    clear o0
    obtain ⟨k, hk, hj, rfl, rfl, k1, o0⟩ := hrel
    have q0 := o0.cell (j := 0) rfl
    have HJ := Lib.hid hj; clear hj
    have hsh := shl48 k (by omega)
    by_cases hlt : 2 ^ k < t.length
    · have hk48 : k ≤ 47 := by
        rcases Nat.lt_or_ge 47 k with h | h
        · have := Nat.pow_le_pow_right (n := 2) (by omega) (show 48 ≤ k by omega)
          omega
        · exact h
      have HLT := Lib.hid hlt
      obtain ⟨N, hN⟩ : ∃ N, N = 2 ^ k := ⟨_, rfl⟩
      rw [← hN] at hsh hlt
      have HN := Lib.hid hN; clear hN
      have b1 : decide ((N : Int) < (t.length : Int)) = true := by simp; omega
      have b2 : decide (N < t.length) = true := by simp; omega
      go_wp2_with fail
      go_quiet (fail)
      go_wp2_with fail
      go_roundg (50 - (k + 1))
      case rel => exact ⟨k + 1, by omega, fun _ => by rw [Nat.add_sub_cancel]; exact HLT.out, rfl, by go_num, below_drewN k1 _, o0.drewN _⟩
      case measure => omega
    · have HLT := Lib.hid hlt
      have HK := HJ.out
      have hbad : 3 < k ∨ t.length ≠ 2 ^ k := by
        rcases Nat.lt_or_ge 3 k with h | h
        · exact .inl h
        · exact .inr (HB.out k h)
      obtain ⟨N, hN⟩ : ∃ N, N = 2 ^ k := ⟨_, rfl⟩
      rw [← hN] at hsh hlt hbad
      have HN := Lib.hid hN; clear hN
      have b1 : decide ((N : Int) < (t.length : Int)) = false := by simp; omega
      have b2 : decide (N < t.length) = false := by simp; omega
      clear HK
      by_cases h3 : 3 < k
      · have c1 : decide (3 < (k : Int)) = true := by simp; omega
        have c2 : decide (3 < k) = true := by simp; omega
        go_wp2_with fail
        go_quiet (fail)
        go_wp2_with fail
        go_quiet (fail)
        go_wp2_with fail
        go_ret2
        exact ⟨below_drewN (below_drewN k1 _) _, .inl ⟨HI.out, rfl⟩⟩
      · have c1 : decide (3 < (k : Int)) = false := by simp; omega
        have c2 : decide (3 < k) = false := by simp; omega
        have c3 : (t.length != N) = true := by simp; omega
        have c4 : (t.length == N) = false := by simp; omega
        go_wp2_with fail
        go_quiet (fail)
        go_wp2_with fail
        go_quiet (fail)
        go_wp2_with fail
        go_ret2
        exact ⟨below_drewN (below_drewN k1 _) _, .inl ⟨HI.out, rfl⟩⟩
end Go.Proofs.Ytinpmdekdfgiiaa
