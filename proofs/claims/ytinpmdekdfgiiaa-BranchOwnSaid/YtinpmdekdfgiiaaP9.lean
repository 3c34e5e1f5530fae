/- The law BranchLayers: the walk. -/
import Derived.Test.YtinpmdekdfgiiaaC6
import Derived.Test.YtinpmdekdfgiiaaE7
import Derived.Test.YtinpmdekdfgiiaaP8
set_option linter.unusedVariables false
set_option linter.unusedSimpArgs false
namespace Go.Proofs.Ytinpmdekdfgiiaa
open Go.RowKit

set_option maxRecDepth 100000 in
set_option maxHeartbeats 1000000 in
theorem layers_bad (n s : Int) (A : Option Addr) (c : Nat) (l : List Nd) (w : World) (hm : l.length ≤ 140737488355328) (hr : RN w A l) (hv : validB n s l = false) :
    Calls Try.prog 47 #[.agg #[.int .i64 n, .int .i64 s, .slice A l.length c]] w (BrBad 1 w) := by
  have a0 := (Own.new w 24 [.int .i64 n, .int .i64 s, .slice A l.length c]).alloc (.cells #[.int .i64 0, .int .i64 0, .slice none 0 0] 24)
  have a1 := Own.new (w.alloc (.cells #[.int .i64 n, .int .i64 s, .slice A l.length c] 24)) 24 [.int .i64 0, .int .i64 0, .slice none 0 0]
  have ka := kept_alloc (kept_alloc (kept_refl w) (.cells #[.int .i64 n, .int .i64 s, .slice A l.length c] 24)) (.cells #[.int .i64 0, .int .i64 0, .slice none 0 0] 24)
  simp only [World.size_alloc] at a1
  have q0 := a0.cell (j := 0) rfl
  have q1 := a0.cell (j := 1) rfl
  have q2 := a0.cell (j := 2) rfl
  go_enter Try.func47, Try.ntmps47
  go_wp2_with fail
  refine (valid_any n s A c l _ hm (hr.kept ka)).mono ?_
  rintro e w1 ⟨rfl, k1⟩
  rw [hv]
  replace a1 := a1.kept k1
  replace ka := kept_trans ka k1
  clear q0 q1 q2 k1 a0 hr
  have e0 := a1.cell (j := 0) rfl
  have e1 := a1.cell (j := 1) rfl
  have e2 := a1.cell (j := 2) rfl
  have f0 := a1.frozen 0
  have f1 := a1.frozen 1
  have f2 := a1.frozen 2
  go_wp2_with fail
  have o3 := ((a1.set 0 (.int .i64 0)).set 1 (.int .i64 0)).set 2 (.slice none 0 0)
  have pk := kept_set (g := w.heap.size + 1) (j := 2) (kept_set (g := w.heap.size + 1) (j := 1) (kept_set (g := w.heap.size + 1) (j := 0) ka (by omega) (.int .i64 0)) (by omega) (.int .i64 0)) (by omega) (.slice none 0 0)
  obtain ⟨W2, hW2⟩ : ∃ W2, W2 = ((w1.setCell ⟨w.heap.size + 1, 0, none⟩ (.int .i64 0)).setCell ⟨w.heap.size + 1, 1, none⟩ (.int .i64 0)).setCell ⟨w.heap.size + 1, 2, none⟩ (.slice none 0 0) := ⟨_, rfl⟩
  rw [← hW2] at pk o3 ⊢
  clear hW2 e0 e1 e2
  have q0 := o3.cell (j := 0) rfl
  have q1 := o3.cell (j := 1) rfl
  have q2 := o3.cell (j := 2) rfl
  exact bodyPost_ret (v := .tuple #[.agg #[.int .i64 0, .int .i64 0, .slice none 0 0], .int .i64 1]) (by simp [results, Try.results47, go_sem, q0, q1, q2]) rfl ⟨rfl, pk⟩

end Go.Proofs.Ytinpmdekdfgiiaa
