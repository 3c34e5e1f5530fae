/- Trees: the reference's Value. -/
import Derived.Test.YtikfeemmjfoffaaDoorW2
set_option linter.unusedVariables false
set_option linter.unusedSimpArgs false
namespace Go.Proofs.YtikfeemmjfoffaaDoor
open Go.RowKit

set_option maxRecDepth 100000 in
set_option maxHeartbeats 1000000 in
theorem value19_leaf (h b : Int) (A : Option Addr) (c : Nat) (lv : List Int) (T : Option Addr) (d : Nat) (tb : List (List Int)) (n : Nat) (w : World) (hA : Rd w A (ints lv)) (hn : tb.length ≤ n) (hl : n - tb.length < lv.length) (hb : n ≤ 1000000) :
    Calls Tryd.prog 19 #[.agg #[.int .i64 h, .int .i64 b, .slice A lv.length c, .slice T tb.length d], .int .i64 n] w fun e w' => e = .returned (.int .i64 (valW ⟨h, b, lv, tb⟩ n)) ∧ Kept w w' := by
  have o0 := Own.new w 25 [.int .i64 h, .int .i64 b, .slice A lv.length c, .slice T tb.length d]
  have K0 := kept_alloc (kept_refl w) (.cells #[.int .i64 h, .int .i64 b, .slice A lv.length c, .slice T tb.length d] 25)
  have q2 := o0.cell (j := 2) rfl; have q3 := o0.cell (j := 3) rfl
  have hv : valW ⟨h, b, lv, tb⟩ n = ia lv (n - tb.length) := valW_leaf hn
  rw [hv]
  obtain ⟨k, hk⟩ : ∃ k, k = n - tb.length := ⟨_, rfl⟩
  rw [← hk] at hl ⊢
  have g1 : decide ((tb.length : Int) ≤ (n : Int)) = true := decide_eq_true (by omega)
  have g2 : decide (tb.length ≤ n) = true := decide_eq_true hn
  have m1 : wrap64 ((n : Int) - (tb.length : Int)) = (k : Int) := by unfold wrap64; omega
  have m2 : IntKind.i64.wrap ((n : Int) - (tb.length : Int)) = (k : Int) := (IntWalk.i64_in _ (by omega)).trans (by omega)
  have m3 : (n : Int) - (tb.length : Int) = (k : Int) := by omega
  obtain ⟨ba1, of1, rfl, h1⟩ := hA.int hl
  have a0 := kept_cell K0 (h1 k hl)
  have HK := Lib.hid hk
  clear h1 hk hv hn
  go_enter Tryd.func19, Tryd.ntmps19
  go_wp2_with fail
  try go_quiet (fail)
  try go_wp2_with fail
  go_ret
  exact ⟨rfl, by first | exact K0 | exact below_drewN K0 _⟩
end Go.Proofs.YtikfeemmjfoffaaDoor
