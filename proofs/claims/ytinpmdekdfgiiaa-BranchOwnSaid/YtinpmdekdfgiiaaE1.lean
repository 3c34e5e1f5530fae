/- Slim: its function literals, and the program whose nodes are turned. -/
import Derived.Test.YtinpmdekdfgiiaaD3
import Derived.Test.YtinpmdekdfgiiaaJ4
set_option linter.unusedVariables false
set_option linter.unusedSimpArgs false
namespace Go.Proofs.Ytinpmdekdfgiiaa
open Go.RowKit

set_option maxRecDepth 100000 in
set_option maxHeartbeats 1000000 in
theorem place78_any (x : Int) (a : List Int) (g h n c : Nat) (w : World) (hn : n = a.length) (hg : w.cell? ⟨g, 0, none⟩ = some (.slice (some ⟨h, 0, none⟩) n c)) (ho : Own w h 3 (ints a)) (hx : x < a.length) (hm : a.length ≤ 140737488355328) :
    Calls Try.prog 78 #[.int .i64 x, .pointer (some ⟨g, 0, none⟩)] w fun e w' => e = .returned (.int .i64 (pl a x)) ∧ w = w' := by
  subst hn
  by_cases h0 : 0 ≤ x
  · have hc := ho.int (j := x.toNat) (by omega)
    have hd : decide (x < 0) = false := decide_eq_false (by omega)
    go_enter Try.func78, Try.ntmps78
    go_wp2_with fail
    go_ret
    exact ⟨ret_int (by unfold pl; rw [if_neg (by omega)]), rfl⟩
  · have hd : decide (x < 0) = true := decide_eq_true (by omega)
    go_enter Try.func78, Try.ntmps78
    go_wp2_with fail
    go_ret
    exact ⟨ret_int (by unfold pl; rw [if_pos (by omega)]), rfl⟩
set_option maxRecDepth 100000 in
set_option maxHeartbeats 1000000 in
theorem place93_any (x : Int) (a : List Int) (g h n c : Nat) (w : World) (hn : n = a.length) (hg : w.cell? ⟨g, 0, none⟩ = some (.slice (some ⟨h, 0, none⟩) n c)) (ho : Own w h 3 (ints a)) (hx : x < a.length) (hm : a.length ≤ 140737488355328) :
    Calls Try.prog 93 #[.int .i64 x, .pointer (some ⟨g, 0, none⟩)] w fun e w' => e = .returned (.int .i64 (pl a x)) ∧ w = w' := by
  subst hn
  by_cases h0 : 0 ≤ x
  · have hc := ho.int (j := x.toNat) (by omega)
    have hd : decide (x < 0) = false := decide_eq_false (by omega)
    go_enter Try.func93, Try.ntmps93
    go_wp2_with fail
    go_ret
    exact ⟨ret_int (by unfold pl; rw [if_neg (by omega)]), rfl⟩
  · have hd : decide (x < 0) = true := decide_eq_true (by omega)
    go_enter Try.func93, Try.ntmps93
    go_wp2_with fail
    go_ret
    exact ⟨ret_int (by unfold pl; rw [if_pos (by omega)]), rfl⟩
set_option maxRecDepth 100000 in
set_option maxHeartbeats 1000000 in
theorem at94_any (x : Int) (m c g : Nat) (A : Option Addr) (w : World) (hg : w.cell? ⟨g, 0, none⟩ = some (.slice A m c)) (hx : x < m) (hx2 : -2 ≤ x) (hm : m ≤ 1000000) :
    Calls Try.prog 94 #[.int .i64 x, .pointer (some ⟨g, 0, none⟩)] w fun e w' => e = .returned (.int .i64 (tn m x)) ∧ w = w' := by
  by_cases h0 : 0 ≤ x
  · have hd : decide (x < 0) = false := decide_eq_false (by omega)
    go_enter Try.func94, Try.ntmps94
    go_wp2_with fail
    go_ret
    exact ⟨ret_int (by unfold tn; rw [if_neg (by omega)]), rfl⟩
  · have hd : decide (x < 0) = true := decide_eq_true (by omega)
    go_enter Try.func94, Try.ntmps94
    go_wp2_with fail
    go_ret
    exact ⟨ret_int (by unfold tn; rw [if_pos (by omega)]), rfl⟩
end Go.Proofs.Ytinpmdekdfgiiaa
