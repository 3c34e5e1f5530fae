/- alive: the program computes the first example of the chapter. -/
import Derived.Test.YtinpmdekdfgiiaaB21
set_option linter.unusedVariables false
set_option linter.unusedSimpArgs false
namespace Go.Proofs.Ytinpmdekdfgiiaa
open Go.RowKit

def exN : List Nd := [⟨0, 1, 2⟩, ⟨1, -1, -2⟩, ⟨1, -2, -1⟩]
theorem ex_valid : validB ((2 : Nat) : Int) 0 exN = true := by decide +kernel
theorem ex_tab : tabB 2 0 exN = [false, true, true, false] := by decide +kernel
theorem ex_least : leastS 2 (bo (ba [false, true, true, false]) (2 ^ 2)) = 3 := by decide +kernel
theorem ex_len : lenB 0 exN = 2 := by decide +kernel
theorem ex_wid : widB 0 exN = 2 := by decide +kernel
theorem ex_lay : layB 0 exN = true := by decide +kernel

def exT : List Bool := [false, true, true, false]
def ExTab (W : World) (e : Ending) (w' : World) : Prop := ∃ g, e = .returned (.tuple #[.slice (some ⟨g, 0, none⟩) 4 4, .int .i64 0]) ∧ W.heap.size ≤ g ∧ Own w' g 4 (bools exT) ∧ Kept W w'
theorem ex_table (A : Option Addr) (W : World) (hr : RN W A exN) : Calls Try.prog 27 #[.agg #[.int .i64 2, .int .i64 0, .slice A 3 3]] W (ExTab W) := by
  refine (table_good 2 0 A 3 exN W hr ex_valid (by omega)).mono ?_
  rintro e w' ⟨k, h⟩
  have hv : validB 2 0 exN = true := ex_valid
  rcases h with ⟨h, _⟩ | ⟨_, h, _⟩ | ⟨_, _, g, h1, h2, h3⟩
  · rw [show ((2 : Nat) : Int) = 2 from rfl, hv] at h; exact absurd h (by simp)
  · exact absurd h (by simp)
  · refine ⟨g, h1, h2, ?_, k⟩
    rw [show (((2 : Nat) : Int)).toNat = 2 from rfl, ex_tab] at h3
    exact h3
def ExLeast (W : World) (e : Ending) (w' : World) : Prop := e = .returned (.tuple #[.int .i64 3, .int .i64 0]) ∧ Kept W w'
theorem ex_leastc (T : Option Addr) (W : World) (hT : Rd W T (bools exT)) : Calls Try.prog 23 #[.slice T 4 4] W (ExLeast W) := by
  refine (least_good T 4 exT W 2 (by omega) rfl hT).mono ?_
  rintro e w' ⟨k, h⟩
  rcases h with ⟨h, _⟩ | ⟨n, h0, h1, _, h3⟩
  · exact absurd h (by decide)
  · have hn : n = 2 := by
      match n, h0 with
      | 0, _ => simp [exT] at h1
      | 1, _ => simp [exT] at h1
      | 2, _ => rfl
      | 3, _ => simp [exT] at h1
    subst hn
    refine ⟨?_, k⟩
    rw [h3, show leastS 2 (bo (ba exT) (2 ^ 2)) = 3 from ex_least]
    rfl
theorem ex_length (A : Option Addr) (W : World) (hr : RN W A exN) : Calls Try.prog 17 #[.agg #[.int .i64 2, .int .i64 0, .slice A 3 3]] W fun e w' => e = .returned (.int .i64 2) ∧ Kept W w' := by
  refine (length_any 2 0 A 3 exN W (by decide) hr).mono ?_
  rintro e w' ⟨h, k⟩
  rw [if_pos (show validB 2 0 exN = true from ex_valid), ex_len] at h
  exact ⟨h, k⟩
theorem ex_width (A : Option Addr) (W : World) (hr : RN W A exN) : Calls Try.prog 18 #[.agg #[.int .i64 2, .int .i64 0, .slice A 3 3]] W fun e w' => e = .returned (.int .i64 2) ∧ Kept W w' := by
  refine (width_any 2 0 A 3 exN W (by decide) hr).mono ?_
  rintro e w' ⟨h, k⟩
  rw [if_pos (show validB 2 0 exN = true from ex_valid), ex_wid] at h
  exact ⟨h, k⟩
theorem ex_layered (A : Option Addr) (W : World) (hr : RN W A exN) : Calls Try.prog 19 #[.agg #[.int .i64 2, .int .i64 0, .slice A 3 3]] W fun e w' => e = .returned (.bool true) ∧ Kept W w' := by
  refine (layered_any 2 0 A 3 exN W (by decide) hr).mono ?_
  rintro e w' ⟨h, k⟩
  rw [show validB 2 0 exN = true from ex_valid, ex_lay] at h
  exact ⟨h, k⟩

set_option maxRecDepth 100000 in
set_option maxHeartbeats 1000000 in
theorem alive_any (w : World) : Calls Try.prog 14 #[] w fun e w' => e = .returned (.bool true) ∧ Kept w w' := by
  have n0 := Own.new w 48 (ndCells exN)
  have hr := n0.rd
  have hb : Own ((w.alloc (.cells (ndCells exN).toArray 48)).alloc (.cells #[.int .i64 2, .int .i64 0, .slice (some ⟨w.heap.size, 0, none⟩) 3 3] 24)) (w.heap.size + 1) 24 [.int .i64 2, .int .i64 0, .slice (some ⟨w.heap.size, 0, none⟩) 3 3] := by
    simpa using Own.new (w.alloc (.cells (ndCells exN).toArray 48)) 24 [.int .i64 2, .int .i64 0, .slice (some ⟨w.heap.size, 0, none⟩) 3 3]
  have k0 : Kept w ((w.alloc (.cells (ndCells exN).toArray 48)).alloc (.cells #[.int .i64 2, .int .i64 0, .slice (some ⟨w.heap.size, 0, none⟩) 3 3] 24)) := kept_alloc (kept_alloc (kept_refl _) _) _
  replace hr := hr.kept (kept_alloc (kept_refl _) (.cells #[.int .i64 2, .int .i64 0, .slice (some ⟨w.heap.size, 0, none⟩) 3 3] 24))
  go_enter Try.func14, Try.ntmps14
  go_wp2_with fail
  refine (ex_table _ _ hr).mono ?_
  rintro e w1 ⟨g, rfl, hg, ho, k1⟩
  replace hr := hr.kept k1
  replace hb := hb.kept k1
  replace k0 := kept_trans k0 k1
  clear n0 k1
  have t4 := Own.new w1 4 (bools exT)
  go_wp2_with fail
  refine (ex_leastc _ _ t4.rd).mono ?_
  rintro e w2 ⟨rfl, k2⟩
  have k1 := kept_trans (kept_alloc (kept_refl w1) (.cells (bools exT).toArray 4)) k2
  replace hr := hr.kept k1
  replace hb := hb.kept k1
  replace ho := ho.kept k1
  replace k0 := kept_trans k0 k1
  clear k1 k2 t4
  have b0 := hb.cell (j := 0) rfl
  have b1 := hb.cell (j := 1) rfl
  have b2 := hb.cell (j := 2) rfl
  go_wp2_with fail
  refine (ex_length _ _ hr).mono ?_
  rintro e w3 ⟨rfl, k1⟩
  replace hr := hr.kept k1
  replace hb := hb.kept k1
  replace ho := ho.kept k1
  replace k0 := kept_trans k0 k1
  clear k1 b0 b1 b2
  have b0 := hb.cell (j := 0) rfl
  have b1 := hb.cell (j := 1) rfl
  have b2 := hb.cell (j := 2) rfl
  go_wp2_with fail
  refine (ex_width _ _ hr).mono ?_
  rintro e w4 ⟨rfl, k1⟩
  replace hr := hr.kept k1
  replace hb := hb.kept k1
  replace ho := ho.kept k1
  replace k0 := kept_trans k0 k1
  clear k1 b0 b1 b2
  have b0 := hb.cell (j := 0) rfl
  have b1 := hb.cell (j := 1) rfl
  have b2 := hb.cell (j := 2) rfl
  go_wp2_with fail
  refine (ex_layered _ _ hr).mono ?_
  rintro e w5 ⟨rfl, k1⟩
  replace ho := ho.kept k1
  replace k0 := kept_trans k0 k1
  clear k1 b0 b1 b2 hr hb
  have t4 := Own.new w5 4 (bools exT)
  have ho5 := (ho.alloc (.cells (bools exT).toArray 4)).rd
  go_wp2_with fail
  refine (samebools_any _ _ 4 4 4 4 exT exT _ ho5 t4.rd rfl rfl (by omega)).mono ?_
  rintro e w6 ⟨rfl, k1⟩
  replace k0 := kept_trans (kept_alloc k0 (.cells (bools exT).toArray 4)) k1
  go_wp2_with fail
  go_ret
  exact ⟨ret_bool (by simp), k0⟩
end Go.Proofs.Ytinpmdekdfgiiaa
