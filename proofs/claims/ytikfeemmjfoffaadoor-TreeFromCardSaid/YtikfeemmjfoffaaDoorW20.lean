/- Trees: the examples of the chapter; what both laws need. -/
import Derived.Test.YtikfeemmjfoffaaDoorW19
set_option linter.unusedVariables false
set_option linter.unusedSimpArgs false
namespace Go.Proofs.YtikfeemmjfoffaaDoor
open Go.RowKit Go.Shelf

abbrev exA : ByteArray := ⟨#[49, 32, 49, 32, 48, 32, 49, 32, 48, 32, 49, 32, 49, 32, 48]⟩
abbrev exB : ByteArray := ⟨#[48, 32, 50, 32, 51]⟩
def trA : Tr := ⟨1, 1, [0, 1], [[0, 1, 1, 0]]⟩
def trB : Tr := ⟨0, 2, [3], []⟩
theorem pA : parseP exA.data.toList = some trA := parseP_iff.2 ⟨by decide +kernel, by decide +kernel, by decide +kernel⟩
theorem pB : parseP exB.data.toList = some trB := parseP_iff.2 ⟨by decide +kernel, by decide +kernel, by decide +kernel⟩
theorem vA : valW trA 0 = 1 := by
  rw [valW_node (by decide), valW_leaf (t := trA) (n := 2 * 0 + 1) (by decide), valW_leaf (t := trA) (n := 2 * 0 + 2) (by decide)]
  decide +kernel
theorem vB : valW trB 0 = 3 := by
  rw [valW_leaf (t := trB) (n := 0) (by decide)]
  rfl
theorem gA : validT trA = true := by decide +kernel
theorem gB : validT trB = true := by decide +kernel

theorem parse13_all (s : ByteArray) (w : World) (hlib : LibOk w) : Calls Tryd.prog 13 #[.string s] w (PParsePost s w) := by
  by_cases h : s.size ≤ 40000
  · exact parse13_any s h w hlib
  · exact parse13_long s (by omega) w
def OkParse (t : Tr) (w : World) (e : Ending) (w' : World) : Prop := ∃ A c T d, e = .returned (.tuple #[trV t A c T d, .int .i64 0]) ∧ Rd w' A (ints t.lv) ∧ RT w' T t.tb ∧ Kept w w'
theorem parse13_ok (s : ByteArray) (t : Tr) (hp : parseP s.data.toList = some t) (w : World) (hlib : LibOk w) : Calls Tryd.prog 13 #[.string s] w (OkParse t w) := by
  have := parse13_all s w hlib
  unfold PParsePost at this
  rw [hp] at this
  exact this

set_option maxRecDepth 100000 in
set_option maxHeartbeats 1000000 in
theorem alive8 (w : World) (hlib : LibOk w) : Calls Tryd.prog 8 #[] w fun e w' => e = .returned (.bool true) ∧ Kept w w' := by
  have CA := Lib.hid fun (w' : World) (k : Kept w w') => parse13_ok exA trA pA w' (hlib.kept k)
  have CB := Lib.hid fun (w' : World) (k : Kept w w') => parse13_ok exB trB pB w' (hlib.kept k)
  have EA := Lib.hid fun (A : Option Addr) (c : Nat) (T : Option Addr) (d : Nat) (w' : World) (hA : Rd w' A (ints trA.lv)) (hT : RT w' T trA.tb) => show Calls Tryd.prog 16 #[.agg #[.int .i64 1, .int .i64 1, .slice A 2 c, .slice T 1 d]] w' fun e w'' => e = .returned (.tuple #[.int .i64 1, .int .i64 0]) ∧ Kept w' w'' from by
    have := eval16_yes trA gA A c T d w' hA hT
    rw [vA] at this
    exact this
  have EB := Lib.hid fun (A : Option Addr) (c : Nat) (T : Option Addr) (d : Nat) (w' : World) (hA : Rd w' A (ints trB.lv)) (hT : RT w' T trB.tb) => show Calls Tryd.prog 16 #[.agg #[.int .i64 0, .int .i64 2, .slice A 1 c, .slice T 0 d]] w' fun e w'' => e = .returned (.tuple #[.int .i64 3, .int .i64 0]) ∧ Kept w' w'' from by
    have := eval16_yes trB gB A c T d w' hA hT
    rw [vB] at this
    exact this
  clear hlib
  go_enter Tryd.func8, Tryd.ntmps8
  go_wp2_with (first
    | (go_at_call 13; ((with_reducible refine (CA.out _ (kept_refl w)).mono ?_); rintro e w1 ⟨A1, c1, T1, d1, rfl, r1, rt1, k1⟩; have ka1 := kept_alloc k1 (.cells #[.int .i64 1, .int .i64 1, .slice A1 2 c1, .slice T1 1 d1] 25); unfold trV trA; dsimp only [List.length_cons, List.length_nil]))
    | (go_at_call 16; ((with_reducible refine (EA.out _ _ _ _ _ (r1.kept (kept_alloc (kept_refl w1) _)) (rt1.kept (kept_alloc (kept_refl w1) _))).mono ?_); rintro e w2 ⟨rfl, k2⟩; have ka2 := kept_trans ka1 k2))
    | (go_at_call 13; ((with_reducible refine (CB.out _ ka2).mono ?_); rintro e w3 ⟨A3, c3, T3, d3, rfl, r3, rt3, k3⟩; have ka3 := kept_alloc (kept_trans ka2 k3) (.cells #[.int .i64 0, .int .i64 2, .slice A3 1 c3, .slice T3 0 d3] 25); have ob := Own.new w3 25 [.int .i64 0, .int .i64 2, .slice A3 1 c3, .slice T3 0 d3]; unfold trV trB; dsimp only [List.length_cons, List.length_nil]))
    | (go_at_call 16; ((with_reducible refine (EB.out _ _ _ _ _ (r3.kept (kept_alloc (kept_refl w3) _)) (rt3.kept (kept_alloc (kept_refl w3) _))).mono ?_); rintro e w4 ⟨rfl, k4⟩; have ka4 := kept_trans ka3 k4; have t3 := (ob.kept k4).cell (j := 3) rfl)))
  go_ret
  exact ⟨rfl, ka4⟩
end Go.Proofs.YtikfeemmjfoffaaDoor
