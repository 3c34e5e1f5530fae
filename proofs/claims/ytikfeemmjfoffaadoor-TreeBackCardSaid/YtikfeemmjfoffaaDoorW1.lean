/- Trees: whether all numbers of a list are values (the reference). -/
import Derived.Test.YtikfeemmjfoffaaDoorRows
import Derived.Test.YtikfeemmjfoffaaDoorLib6
import Derived.Test.YtikfeemmjfoffaaDoorP4
set_option linter.unusedVariables false
set_option linter.unusedSimpArgs false
namespace Go.Proofs.YtikfeemmjfoffaaDoor
open Go.RowKit

theorem shl_wrap (n : Nat) (hn : n ≤ 16) : wrap64 (2 ^ n) = ((2 ^ n : Nat) : Int) := by
  have h1 : 2 ^ n ≤ 2 ^ 16 := Nat.pow_le_pow_right (by omega) hn
  have h2 : ((2 : Int) ^ n) = ((2 ^ n : Nat) : Int) := by simp
  rw [h2]
  generalize 2 ^ n = m at *
  unfold wrap64
  omega
theorem ia_mem {l : List Int} {k : Nat} (h : k < l.length) : ia l k ∈ l := by
  unfold ia
  rw [List.getD_eq_getElem?_getD, List.getElem?_eq_getElem h]
  exact List.getElem_mem h
theorem mem_ia {l : List Int} {x : Int} (h : x ∈ l) : ∃ k, k < l.length ∧ ia l k = x := by
  obtain ⟨k, hk, e⟩ := List.mem_iff_getElem.1 h
  exact ⟨k, hk, by unfold ia; rw [List.getD_eq_getElem?_getD, List.getElem?_eq_getElem hk]; exact e⟩

set_option maxRecDepth 100000 in
set_option maxHeartbeats 1000000 in
theorem values29_any (b : Nat) (hb : b ≤ 12) (A : Option Addr) (n c : Nat) (l : List Int) (w : World) (hA : Rd w A (ints l)) (hn : n = l.length) (hn1 : n ≤ 140737488355328) :
    Calls Tryd.prog 29 #[.int .i64 b, .slice A n c] w fun e w' => e = .returned (.bool (valsOk l b)) ∧ Kept w w' := by
  subst hn
  have hw := shl_wrap b (by omega)
  obtain ⟨N, hN⟩ : ∃ N : Nat, N = 2 ^ b := ⟨_, rfl⟩
  rw [← hN] at hw
  have HV : valsOk l b = true ↔ ∀ x ∈ l, 0 ≤ x ∧ x < (N : Int) := by rw [valsOk_iff, hN]; simp [pw]
  replace HV := Lib.hid HV
  clear hN
  go_enter Tryd.func29, Tryd.ntmps29
  go_wp2_with fail
  go_loopg [5] l.length (fun g s5 wr => ∃ k : Nat, k ≤ l.length ∧ (∀ j, j < k → 0 ≤ ia l j ∧ ia l j < (N : Int)) ∧ g = l.length - k ∧ s5 = .int .i64 k ∧ Kept w wr)
  case atStart => exact ⟨0, by omega, by omega, rfl, rfl, kept_refl _⟩
  case round =>
    obtain ⟨k, hk, hj, rfl, rfl, k1⟩ := hrel
    have HJ := Lib.hid hj; clear hj
    by_cases hlt : k < l.length
    · obtain ⟨ba1, of1, rfl, h1⟩ := hA.int hlt
      have a0 := kept_cell k1 (h1 k hlt)
      clear h1
      by_cases c1 : ia l k < 0
      · have d1 : decide (ia l k < 0) = true := decide_eq_true c1
        have HC := Lib.hid c1; clear c1
        go_wp2_with fail
        go_quiet (fail)
        go_wp2_with fail
        go_ret
        exact ⟨ret_bool (by symm; rw [Bool.eq_false_iff]; intro h; have h2 := (HV.out.1 h) (ia l k) (ia_mem hlt); have := HC.out; omega), below_drewN k1 _⟩
      · have d1 : decide (ia l k < 0) = false := decide_eq_false c1
        by_cases c2 : (N : Int) ≤ ia l k
        · have d2 : decide ((N : Int) ≤ ia l k) = true := decide_eq_true c2
          have HC := Lib.hid c2; clear c1 c2
          go_wp2_with fail
          go_quiet (fail)
          go_wp2_with fail
          go_ret
          exact ⟨ret_bool (by symm; rw [Bool.eq_false_iff]; intro h; have h2 := (HV.out.1 h) (ia l k) (ia_mem hlt); have := HC.out; omega), below_drewN k1 _⟩
        · have d2 : decide ((N : Int) ≤ ia l k) = false := decide_eq_false c2
          have HC := Lib.hid (And.intro c1 c2); clear c1 c2
          go_wp2_with fail
          go_quiet (fail)
          go_wp2_with fail
          go_roundg (l.length - (k + 1))
          case rel => exact ⟨k + 1, by omega, fun j h => by rcases Nat.lt_succ_iff_lt_or_eq.1 h with h | rfl; exact HJ.out j h; have := HC.out; omega, rfl, by go_num, below_drewN k1 _⟩
          case measure => omega
    · have : k = l.length := by omega
      subst this
      go_wp2_with fail
      go_ret
      exact ⟨ret_bool (by symm; exact HV.out.2 fun x hx => by obtain ⟨j, hj, e⟩ := mem_ia hx; rw [← e]; exact HJ.out j hj), k1⟩
end Go.Proofs.YtikfeemmjfoffaaDoor
