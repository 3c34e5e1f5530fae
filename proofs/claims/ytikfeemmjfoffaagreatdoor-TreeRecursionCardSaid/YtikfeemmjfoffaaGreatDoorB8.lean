/- Fields: the reference's operations on elements. -/
import Derived.Test.YtikfeemmjfoffaaGreatDoorB7
set_option linter.unusedVariables false
set_option linter.unusedSimpArgs false
namespace Go.Proofs.YtikfeemmjfoffaaGreatDoor
open Go.RowKit

theorem kV_one {P : Int} : kV P 1 = .agg #[.int .i64 P, .int .i64 1, .int .i64 (ordF P 1), .int .i64 0] := rfl
theorem kV_two {m : Nat} (hm : 2 ≤ m) : kV 2 m = .agg #[.int .i64 2, .int .i64 m, .int .i64 (ordF 2 m), .int .i64 (modT m)] := by
  unfold kV kitM; rw [if_pos (by omega), Int.toNat_natCast]
set_option maxRecDepth 100000 in
set_option maxHeartbeats 1000000 in
theorem radd53_one (P a b q : Int) (w : World) (p2 : 2 ≤ P) (pm : P ≤ 65536) (ha : 0 ≤ a ∧ a < P) (hb : 0 ≤ b ∧ b < P) :
    Calls Tryz.prog 40 #[.agg #[.int .i64 P, .int .i64 1, .int .i64 q, .int .i64 0], .int .i64 a, .int .i64 b] w fun e w' => e = .returned (.int .i64 ((a + b) % P)) ∧ Kept w w' := by
  go_enter Tryz.func40, Tryz.ntmps40
  go_wp2_with fail
  go_ret
  exact ⟨rfl, kept_alloc (kept_refl w) _⟩
set_option maxRecDepth 100000 in
set_option maxHeartbeats 1000000 in
theorem radd53_two (m a b M : Nat) (q : Int) (w : World) (hm : 2 ≤ m) (ha : a ≤ 65536) (hb : b ≤ 65536) :
    Calls Tryz.prog 40 #[.agg #[.int .i64 2, .int .i64 m, .int .i64 q, .int .i64 M], .int .i64 a, .int .i64 b] w fun e w' => e = .returned (.int .i64 ((a ^^^ b : Nat) : Int)) ∧ Kept w w' := by
  have d1 : decide (1 < (m : Int)) = true := decide_eq_true (by omega)
  have d2 : decide (1 < m) = true := decide_eq_true (by omega)
  have hx := b_xor (a := a) (b := b) (by omega) (by omega)
  go_enter Tryz.func40, Tryz.ntmps40
  go_wp2_with fail
  go_ret
  exact ⟨rfl, kept_alloc (kept_refl w) _⟩

set_option maxRecDepth 100000 in
set_option maxHeartbeats 1000000 in
theorem rneg54_one (P a q : Int) (w : World) (p2 : 2 ≤ P) (pm : P ≤ 65536) (ha : 0 ≤ a ∧ a < P) :
    Calls Tryz.prog 41 #[.agg #[.int .i64 P, .int .i64 1, .int .i64 q, .int .i64 0], .int .i64 a] w fun e w' => e = .returned (.int .i64 ((P - a) % P)) ∧ Kept w w' := by
  go_enter Tryz.func41, Tryz.ntmps41
  go_wp2_with fail
  go_ret
  exact ⟨rfl, kept_alloc (kept_refl w) _⟩
set_option maxRecDepth 100000 in
set_option maxHeartbeats 1000000 in
theorem rneg54_two (m a M : Nat) (q : Int) (w : World) (hm : 2 ≤ m) (ha : a ≤ 65536) :
    Calls Tryz.prog 41 #[.agg #[.int .i64 2, .int .i64 m, .int .i64 q, .int .i64 M], .int .i64 a] w fun e w' => e = .returned (.int .i64 (a : Int)) ∧ Kept w w' := by
  have d1 : decide (1 < (m : Int)) = true := decide_eq_true (by omega)
  have d2 : decide (1 < m) = true := decide_eq_true (by omega)
  go_enter Tryz.func41, Tryz.ntmps41
  go_wp2_with fail
  go_ret
  exact ⟨rfl, kept_alloc (kept_refl w) _⟩

theorem cl_lt {m a b : Nat} (ha : a < 2 ^ m) (k : Nat) : cl a b k < 2 ^ (m + k) := by rw [cl_eq]; exact clm_lt k a b ha
theorem radd53_any (P M a b : Int) (w : World) (ok : okF P M = true) (ha : inF P M a) (hb : inF P M b) :
    Calls Tryz.prog 40 #[kV P M, .int .i64 a, .int .i64 b] w fun e w' => e = .returned (.int .i64 (addF P M a b)) ∧ Kept w w' := by
  rcases ok_cases ok with ⟨rfl, p2, pm, e⟩ | ⟨rfl, m, h1, h2, rfl, _⟩
  · unfold inF at ha hb
    rw [e] at ha hb
    rw [kV_one]
    exact radd53_one P a b _ w p2 pm ha hb
  · obtain ⟨x, rfl, hx⟩ := in_two ok h1 ha
    obtain ⟨y, rfl, hy⟩ := in_two ok h1 hb
    have hp := pow16 h2
    rw [addF_two h1, kV_two h1]
    exact radd53_two m x y (modT m) _ w h1 (by omega) (by omega)

theorem rneg54_any (P M a : Int) (w : World) (ok : okF P M = true) (ha : inF P M a) :
    Calls Tryz.prog 41 #[kV P M, .int .i64 a] w fun e w' => e = .returned (.int .i64 (negF P M a)) ∧ Kept w w' := by
  rcases ok_cases ok with ⟨rfl, p2, pm, e⟩ | ⟨rfl, m, h1, h2, rfl, _⟩
  · unfold inF at ha
    rw [e] at ha
    rw [kV_one]
    exact rneg54_one P a _ w p2 pm ha
  · obtain ⟨x, rfl, hx⟩ := in_two ok h1 ha
    have hp := pow16 h2
    rw [negF_two h1, kV_two h1]
    exact rneg54_two m x (modT m) _ w h1 (by omega)
end Go.Proofs.YtikfeemmjfoffaaGreatDoor
