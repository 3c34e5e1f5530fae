/- The law BranchLayers: the walk. -/
import Derived.Test.YtinpmdekdfgiiaaC6
import Derived.Test.YtinpmdekdfgiiaaE7
import Derived.Test.YtinpmdekdfgiiaaP8
set_option linter.unusedVariables false
set_option linter.unusedSimpArgs false
namespace Go.Proofs.Ytinpmdekdfgiiaa
open Go.RowKit

set_option maxRecDepth 100000 in
set_option maxHeartbeats 1000000 in
theorem layers_bad (n s : Int) (A : Option Addr) (c : Nat) (l : List Nd) (w : World) (hm : l.length ≤ 140737488355328) (hr : RN w A l) (hv : validB n s l = false) :
    Calls Try.prog 47 #[.agg #[.int .i64 n, .int .i64 s, .slice A l.length c]] w (BrBad 1 w) := by
  have a0 := (Own.new w 24 [.int .i64 n, .int .i64 s, .slice A l.length c]).alloc (.cells #[.int .i64 0, .int .i64 0, .slice none 0 0] 24)
  have a1 := Own.new (w.alloc (.cells #[.int .i64 n, .int .i64 s, .slice A l.length c] 24)) 24 [.int .i64 0, .int .i64 0, .slice none 0 0]
  have ka := kept_alloc (kept_alloc (kept_refl w) (.cells #[.int .i64 n, .int .i64 s, .slice A l.length c] 24)) (.cells #[.int .i64 0, .int .i64 0, .slice none 0 0] 24)
  simp only [World.size_alloc] at a1
  have q0 := a0.cell (j := 0) rfl
  have q1 := a0.cell (j := 1) rfl
  have q2 := a0.cell (j := 2) rfl
  go_enter Try.func47, Try.ntmps47
  go_wp2_with fail
  refine (valid_any n s A c l _ hm (hr.kept ka)).mono ?_
  rintro e w1 ⟨rfl, k1⟩
  rw [hv]
  replace a1 := a1.kept k1
  replace ka := kept_trans ka k1
  clear q0 q1 q2 k1 a0 hr
  have e0 := a1.cell (j := 0) rfl
  have e1 := a1.cell (j := 1) rfl
  have e2 := a1.cell (j := 2) rfl
  have f0 := a1.frozen 0
  have f1 := a1.frozen 1
  have f2 := a1.frozen 2
  go_wp2_with fail
  have o3 := ((a1.set 0 (.int .i64 0)).set 1 (.int .i64 0)).set 2 (.slice none 0 0)
  have pk := kept_set (g := w.heap.size + 1) (j := 2) (kept_set (g := w.heap.size + 1) (j := 1) (kept_set (g := w.heap.size + 1) (j := 0) ka (by omega) (.int .i64 0)) (by omega) (.int .i64 0)) (by omega) (.slice none 0 0)
  obtain ⟨W2, hW2⟩ : ∃ W2, W2 = ((w1.setCell ⟨w.heap.size + 1, 0, none⟩ (.int .i64 0)).setCell ⟨w.heap.size + 1, 1, none⟩ (.int .i64 0)).setCell ⟨w.heap.size + 1, 2, none⟩ (.slice none 0 0) := ⟨_, rfl⟩
  rw [← hW2] at pk o3 ⊢
  clear hW2 e0 e1 e2
  have q0 := o3.cell (j := 0) rfl
  have q1 := o3.cell (j := 1) rfl
  have q2 := o3.cell (j := 2) rfl
  exact bodyPost_ret (v := .tuple #[.agg #[.int .i64 0, .int .i64 0, .slice none 0 0], .int .i64 1]) (by simp [results, Try.results47, go_sem, q0, q1, q2]) rfl ⟨rfl, pk⟩

set_option maxRecDepth 100000 in
set_option maxHeartbeats 2000000 in
theorem law_layers (i s : Int) (A : Option Addr) (c : Nat) (l : List Nd) (more : Int) (w : World) (hm : l.length ≤ 140737488355328) (hr : RN w A l) (hb : 0 ≤ more ∧ more ≤ 65535) :
    Calls Try.prog 11 #[.agg #[.int .i64 i, .int .i64 s, .slice A l.length c], .int .u16 more] w fun e w' => e = .returned (.bool true) ∧ Kept w w' := by
  have o0 := Own.new w 24 [.int .i64 i, .int .i64 s, .slice A l.length c]
  have q0 := o0.cell (j := 0) rfl
  have q1 := o0.cell (j := 1) rfl
  have q2 := o0.cell (j := 2) rfl
  have K0 : Kept w (w.alloc (.cells #[.int .i64 i, .int .i64 s, .slice A l.length c] 24)) := kept_alloc (kept_refl w) _
  have C15 := fun (w' : World) (k : Kept w w') => rvalid_any i s A c l w' hm (hr.kept k)
  have hf := fun (w' : World) => few_any i s A c l 300 w' hm
  by_cases hn : (l.length : Int) ≤ 300
  case neg =>
    rw [decide_eq_false hn] at hf
    have F := Lib.hid hf; clear hf hn hr C15
    go_enter Try.func11, Try.ntmps11
    go_wp2_with fail
    with_reducible refine (F.out _).mono ?_
    rintro e w1 ⟨rfl, k⟩
    replace K0 := kept_trans K0 k; replace o0 := o0.kept k
    clear q0 q1 q2 k
    have q0 := o0.cell (j := 0) rfl
    have q1 := o0.cell (j := 1) rfl
    have q2 := o0.cell (j := 2) rfl
    go_wp2_with fail
    with_reducible refine (alive_any _).mono ?_
    rintro e w2 ⟨rfl, k⟩
    replace K0 := kept_trans K0 k; replace o0 := o0.kept k
    clear q0 q1 q2 k
    have q0 := o0.cell (j := 0) rfl
    have q1 := o0.cell (j := 1) rfl
    have q2 := o0.cell (j := 2) rfl
    go_wp2_with fail
    go_ret
    exact ⟨ret_bool (by simp), K0⟩
  case pos =>
    rw [decide_eq_true hn] at hf
    have F := Lib.hid hf; clear hf
    cases hv : validB i s l
    · have C47 := fun (w' : World) (k : Kept w w') => layers_bad i s A c l w' hm (hr.kept k) hv
      rw [hv] at C15
      replace C15 := Lib.hid C15
      unfold BrBad at C47
      replace C47 := Lib.hid C47
      clear hv hr
      go_enter Try.func11, Try.ntmps11
      go_wp2_with fail
      with_reducible refine (F.out _).mono ?_
      rintro e w3 ⟨rfl, k⟩
      replace K0 := kept_trans K0 k; replace o0 := o0.kept k
      clear q0 q1 q2 k
      have q0 := o0.cell (j := 0) rfl
      have q1 := o0.cell (j := 1) rfl
      have q2 := o0.cell (j := 2) rfl
      go_wp2_with fail
      with_reducible refine (C47.out _ K0).mono ?_
      rintro e w4 ⟨rfl, k⟩
      have oC := Own.new w4 24 [.int .i64 0, .int .i64 0, .slice none 0 0]
      replace K0 := kept_trans K0 k; replace o0 := o0.kept k
      have zz := o0.lt
      replace K0 := kept_alloc K0 (.cells ([.int .i64 0, .int .i64 0, .slice none 0 0]).toArray 24); replace o0 := o0.alloc (.cells ([.int .i64 0, .int .i64 0, .slice none 0 0]).toArray 24)
      clear q0 q1 q2 k
      have q0 := o0.cell (j := 0) rfl
      have q1 := o0.cell (j := 1) rfl
      have q2 := o0.cell (j := 2) rfl
      have r0 := oC.cell (j := 0) rfl
      have r1 := oC.cell (j := 1) rfl
      have r2 := oC.cell (j := 2) rfl
      go_wp2_with fail
      with_reducible refine (C15.out _ K0).mono ?_
      rintro e w5 ⟨rfl, k⟩
      replace K0 := kept_trans K0 k; replace o0 := o0.kept k; replace oC := oC.kept k
      clear q0 q1 q2 r0 r1 r2 k
      have q0 := o0.cell (j := 0) rfl
      have q1 := o0.cell (j := 1) rfl
      have q2 := o0.cell (j := 2) rfl
      have r0 := oC.cell (j := 0) rfl
      have r1 := oC.cell (j := 1) rfl
      have r2 := oC.cell (j := 2) rfl
      go_wp2_with fail
      with_reducible refine (none_zero _).mono ?_
      rintro e w6 ⟨rfl, k⟩
      replace K0 := kept_trans K0 k; replace o0 := o0.kept k; replace oC := oC.kept k
      clear q0 q1 q2 r0 r1 r2 k
      have q0 := o0.cell (j := 0) rfl
      have q1 := o0.cell (j := 1) rfl
      have q2 := o0.cell (j := 2) rfl
      have r0 := oC.cell (j := 0) rfl
      have r1 := oC.cell (j := 1) rfl
      have r2 := oC.cell (j := 2) rfl
      go_wp2_with fail
      with_reducible refine (alive_any _).mono ?_
      rintro e w7 ⟨rfl, k⟩
      replace K0 := kept_trans K0 k; replace o0 := o0.kept k; replace oC := oC.kept k
      clear q0 q1 q2 r0 r1 r2 k
      have q0 := o0.cell (j := 0) rfl
      have q1 := o0.cell (j := 1) rfl
      have q2 := o0.cell (j := 2) rfl
      have r0 := oC.cell (j := 0) rfl
      have r1 := oC.cell (j := 1) rfl
      have r2 := oC.cell (j := 2) rfl
      go_wp2_with fail
      go_ret
      exact ⟨ret_bool (by simp), K0⟩
    · obtain ⟨hi0, hi1, hln, hs⟩ := valid_start hv
      have hvis := visB_ok hv
      have C47 := fun (w' : World) (k : Kept w w') => layers_any i s A c l w' (hr.kept k) hv
      have C20 := Lib.hid fun (w' : World) (k : Kept w w') => rlength_any i s A c l w' (hr.kept k) hv
      unfold LaPost at C47
      rw [hv] at C15
      replace C15 := Lib.hid C15
      by_cases hbig : 20000 < (visB s l).length
      · simp only [if_pos hbig] at C47
        unfold BrBad at C47
        replace C47 := Lib.hid C47
        have hmany := vis_many hvis.vis
        have hl0 := len_nonneg s l
        have hl1 : lenB s l ≤ 40001 := by
          have h1 := lvTo_small s l l.length
          have h2 := (mxTo_le (L := lv s l) (b := 2 * (l.length : Nat)) (fun j => (h1 j).2) (by omega) l.length).2
          unfold lenB mxL
          rw [lv_length]
          omega
        have hM : (l.length : Int) * lenB s l ≤ 300 * 40001 := Int.mul_le_mul (by omega) hl1 hl0 (by omega)
        have hM0 : 20000 < (l.length : Int) * lenB s l := by omega
        have m1 : IntKind.i64.wrap ((l.length : Int) * lenB s l) = (l.length : Int) * lenB s l := IntWalk.i64_in _ (by omega)
        have b1 : decide (20000 < (l.length : Int) * lenB s l) = true := decide_eq_true hM0
        clear hv hr hs hvis hbig hmany hl0 hl1 hM hM0 hi0 hi1 hln hn
        go_enter Try.func11, Try.ntmps11
        go_wp2_with fail
        with_reducible refine (F.out _).mono ?_
        rintro e w8 ⟨rfl, k⟩
        replace K0 := kept_trans K0 k; replace o0 := o0.kept k
        clear q0 q1 q2 k
        have q0 := o0.cell (j := 0) rfl
        have q1 := o0.cell (j := 1) rfl
        have q2 := o0.cell (j := 2) rfl
        go_wp2_with fail
        with_reducible refine (C47.out _ K0).mono ?_
        rintro e w9 ⟨rfl, k⟩
        have oC := Own.new w9 24 [.int .i64 0, .int .i64 0, .slice none 0 0]
        replace K0 := kept_trans K0 k; replace o0 := o0.kept k
        have zz := o0.lt
        replace K0 := kept_alloc K0 (.cells ([.int .i64 0, .int .i64 0, .slice none 0 0]).toArray 24); replace o0 := o0.alloc (.cells ([.int .i64 0, .int .i64 0, .slice none 0 0]).toArray 24)
        clear q0 q1 q2 k
        have q0 := o0.cell (j := 0) rfl
        have q1 := o0.cell (j := 1) rfl
        have q2 := o0.cell (j := 2) rfl
        have r0 := oC.cell (j := 0) rfl
        have r1 := oC.cell (j := 1) rfl
        have r2 := oC.cell (j := 2) rfl
        go_wp2_with fail
        with_reducible refine (C15.out _ K0).mono ?_
        rintro e w10 ⟨rfl, k⟩
        replace K0 := kept_trans K0 k; replace o0 := o0.kept k; replace oC := oC.kept k
        clear q0 q1 q2 r0 r1 r2 k
        have q0 := o0.cell (j := 0) rfl
        have q1 := o0.cell (j := 1) rfl
        have q2 := o0.cell (j := 2) rfl
        have r0 := oC.cell (j := 0) rfl
        have r1 := oC.cell (j := 1) rfl
        have r2 := oC.cell (j := 2) rfl
        go_wp2_with fail
        have yr := kept_lt r0
        have yq := kept_lt q0
        refine region_x (fun w' => Kept w10 w') [] (by kernel_rfl) (kept_drew (kept_refl _)) (fun hHeld => ?_)
        refine x_take (i := 0) (oi := { dst := some 28, op := Op.move (Operand.tmp 6), type := 30, pos := "law.go:168", after := #[], guard := none }) (v := ?_) rfl (by kernel_rfl) (by kernel_rfl) (by kernel_rfl) (by kernel_rfl) (by kernel_rfl) (fun _ _ _ h => h) (Or.inl ⟨rfl, ?_⟩) (by assumption) ?_
        rotate_left
        · (intro w' hSw; replace q0 := kept_cell hSw q0; replace q1 := kept_cell hSw q1; replace q2 := kept_cell hSw q2; replace r0 := kept_cell hSw r0; replace r1 := kept_cell hSw r1; replace r2 := kept_cell hSw r2; go_simp; try with_reducible rfl)
        try simp only [Act.put, List.setIfInBounds_toArray, List.set_cons_zero, List.set_cons_succ]
        refine x_take (i := 1) (oi := { dst := some 29, op := Op.binOp BinOp.eql 30 (Operand.tmp 28) (Operand.const (Value.int IntKind.i64 5)) 30, type := 4, pos := "law.go:168", after := #[{ on := 0, ground := Ground.data }], guard := none }) (v := ?_) rfl (by kernel_rfl) (by kernel_rfl) (by kernel_rfl) (by kernel_rfl) (by kernel_rfl) (fun _ _ _ h => h) (Or.inl ⟨rfl, ?_⟩) (by assumption) ?_
        rotate_left
        · (intro w' hSw; replace q0 := kept_cell hSw q0; replace q1 := kept_cell hSw q1; replace q2 := kept_cell hSw q2; replace r0 := kept_cell hSw r0; replace r1 := kept_cell hSw r1; replace r2 := kept_cell hSw r2; go_simp; try with_reducible rfl)
        try simp only [Act.put, List.setIfInBounds_toArray, List.set_cons_zero, List.set_cons_succ]
        refine x_take (i := 2) (oi := { dst := some 30, op := Op.move (Operand.tmp 29), type := 4, pos := "law.go:168", after := #[{ on := 1, ground := Ground.data }], guard := none }) (v := ?_) rfl (by kernel_rfl) (by kernel_rfl) (by kernel_rfl) (by kernel_rfl) (by kernel_rfl) (fun _ _ _ h => h) (Or.inl ⟨rfl, ?_⟩) (by assumption) ?_
        rotate_left
        · (intro w' hSw; replace q0 := kept_cell hSw q0; replace q1 := kept_cell hSw q1; replace q2 := kept_cell hSw q2; replace r0 := kept_cell hSw r0; replace r1 := kept_cell hSw r1; replace r2 := kept_cell hSw r2; go_simp; try with_reducible rfl)
        try simp only [Act.put, List.setIfInBounds_toArray, List.set_cons_zero, List.set_cons_succ]
        refine x_take (i := 3) (oi := { dst := some 31, op := Op.fieldAddr 24 (Operand.tmp 2) 2, type := 0, pos := "law.go:168", after := #[{ on := 2, ground := Ground.guard }], guard := some (2, true) }) (v := ?_) rfl (by kernel_rfl) (by kernel_rfl) (by kernel_rfl) (by kernel_rfl) (by kernel_rfl) (fun _ _ _ h => h) (Or.inl ⟨rfl, ?_⟩) (by assumption) ?_
        rotate_left
        · (intro w' hSw; replace q0 := kept_cell hSw q0; replace q1 := kept_cell hSw q1; replace q2 := kept_cell hSw q2; replace r0 := kept_cell hSw r0; replace r1 := kept_cell hSw r1; replace r2 := kept_cell hSw r2; go_simp; try with_reducible rfl)
        try simp only [Act.put, List.setIfInBounds_toArray, List.set_cons_zero, List.set_cons_succ]
        refine x_take (i := 4) (oi := { dst := some 32, op := Op.load 22 (Operand.tmp 31), type := 22, pos := "law.go:168", after := #[{ on := 3, ground := Ground.data }, { on := 2, ground := Ground.guard }], guard := some (2, true) }) (v := ?_) rfl (by kernel_rfl) (by kernel_rfl) (by kernel_rfl) (by kernel_rfl) (by kernel_rfl) (fun _ _ _ h => h) (Or.inl ⟨rfl, ?_⟩) (by assumption) ?_
        rotate_left
        · (intro w' hSw; replace q0 := kept_cell hSw q0; replace q1 := kept_cell hSw q1; replace q2 := kept_cell hSw q2; replace r0 := kept_cell hSw r0; replace r1 := kept_cell hSw r1; replace r2 := kept_cell hSw r2; go_simp; try with_reducible rfl)
        try simp only [Act.put, List.setIfInBounds_toArray, List.set_cons_zero, List.set_cons_succ]
        refine x_take (i := 5) (oi := { dst := some 33, op := Op.call { callee := Callee.builtin Builtin.len, args := #[Operand.tmp 32], argTypes := #[22] }, type := 3, pos := "law.go:168", after := #[{ on := 4, ground := Ground.data }, { on := 2, ground := Ground.guard }], guard := some (2, true) }) (v := ?_) rfl (by kernel_rfl) (by kernel_rfl) (by kernel_rfl) (by kernel_rfl) (by kernel_rfl) (fun _ _ _ h => h) (Or.inl ⟨rfl, ?_⟩) (by assumption) ?_
        rotate_left
        · (intro w' hSw; replace q0 := kept_cell hSw q0; replace q1 := kept_cell hSw q1; replace q2 := kept_cell hSw q2; replace r0 := kept_cell hSw r0; replace r1 := kept_cell hSw r1; replace r2 := kept_cell hSw r2; go_simp; try with_reducible rfl)
        try simp only [Act.put, List.setIfInBounds_toArray, List.set_cons_zero, List.set_cons_succ]
        refine x_take (i := 6) (oi := { dst := some 34, op := Op.load 24 (Operand.tmp 2), type := 24, pos := "law.go:168", after := #[{ on := 2, ground := Ground.guard }], guard := some (2, true) }) (v := ?_) rfl (by kernel_rfl) (by kernel_rfl) (by kernel_rfl) (by kernel_rfl) (by kernel_rfl) (fun _ _ _ h => h) (Or.inl ⟨rfl, ?_⟩) (by assumption) ?_
        rotate_left
        · (intro w' hSw; replace q0 := kept_cell hSw q0; replace q1 := kept_cell hSw q1; replace q2 := kept_cell hSw q2; replace r0 := kept_cell hSw r0; replace r1 := kept_cell hSw r1; replace r2 := kept_cell hSw r2; go_simp; try with_reducible rfl)
        try simp only [Act.put, List.setIfInBounds_toArray, List.set_cons_zero, List.set_cons_succ]
        refine x_one (i := 7) (o := { dst := some 35, op := Op.call { callee := Callee.value (Operand.func 20), args := #[Operand.tmp 34], argTypes := #[24] }, type := 3, pos := "law.go:168", after := #[{ on := 6, ground := Ground.data }, { on := 2, ground := Ground.chain }, { on := 2, ground := Ground.guard }], guard := some (2, true) }) (by kernel_rfl) rfl (fun K hK => ?_)
        (go_simp; go_at_call 20; (with_reducible refine (C20.out _ (kept_trans K0 hHeld)).mono ?_); rintro e w71 ⟨rfl, k1⟩; have KK1 : Kept w10 w71 := kept_trans hHeld k1; try dsimp only)
        refine hK.out _ _ ?_ (fun hHeld => ?_)
        · (try dsimp only); repeat (first | assumption | exact kept_refl _ | refine kept_drew ?_ | refine kept_alloc ?_ _ | refine kept_set ?_ (by omega) _)
        clear hK K
        try simp only [Act.put, List.setIfInBounds_toArray, List.set_cons_zero, List.set_cons_succ]
        refine x_take (i := 8) (oi := { dst := some 36, op := Op.binOp BinOp.mul 3 (Operand.tmp 33) (Operand.tmp 35) 3, type := 3, pos := "law.go:168", after := #[{ on := 5, ground := Ground.data }, { on := 7, ground := Ground.data }, { on := 2, ground := Ground.guard }], guard := some (2, true) }) (v := ?_) rfl (by kernel_rfl) (by kernel_rfl) (by kernel_rfl) (by kernel_rfl) (by kernel_rfl) (fun _ _ _ h => h) (Or.inl ⟨rfl, ?_⟩) (by assumption) ?_
        rotate_left
        · (intro w' hSw; replace q0 := kept_cell hSw q0; replace q1 := kept_cell hSw q1; replace q2 := kept_cell hSw q2; replace r0 := kept_cell hSw r0; replace r1 := kept_cell hSw r1; replace r2 := kept_cell hSw r2; go_simp; try with_reducible rfl)
        try simp only [Act.put, List.setIfInBounds_toArray, List.set_cons_zero, List.set_cons_succ]
        refine x_take (i := 9) (oi := { dst := some 37, op := Op.binOp BinOp.gtr 3 (Operand.tmp 36) (Operand.const (Value.int IntKind.i64 20000)) 3, type := 4, pos := "law.go:168", after := #[{ on := 8, ground := Ground.data }, { on := 2, ground := Ground.guard }], guard := some (2, true) }) (v := ?_) rfl (by kernel_rfl) (by kernel_rfl) (by kernel_rfl) (by kernel_rfl) (by kernel_rfl) (fun _ _ _ h => h) (Or.inl ⟨rfl, ?_⟩) (by assumption) ?_
        rotate_left
        · (intro w' hSw; replace q0 := kept_cell hSw q0; replace q1 := kept_cell hSw q1; replace q2 := kept_cell hSw q2; replace r0 := kept_cell hSw r0; replace r1 := kept_cell hSw r1; replace r2 := kept_cell hSw r2; go_simp; try with_reducible rfl)
        try simp only [Act.put, List.setIfInBounds_toArray, List.set_cons_zero, List.set_cons_succ]
        refine x_take (i := 10) (oi := { dst := some 38, op := Op.pick (Operand.tmp 30) (Operand.tmp 37) (Operand.const (Value.bool false)), type := 4, pos := "law.go:168", after := #[{ on := 2, ground := Ground.data }, { on := 9, ground := Ground.data }], guard := none }) (v := ?_) rfl (by kernel_rfl) (by kernel_rfl) (by kernel_rfl) (by kernel_rfl) (by kernel_rfl) (fun _ _ _ h => h) (Or.inl ⟨rfl, ?_⟩) (by assumption) ?_
        rotate_left
        · (intro w' hSw; replace q0 := kept_cell hSw q0; replace q1 := kept_cell hSw q1; replace q2 := kept_cell hSw q2; replace r0 := kept_cell hSw r0; replace r1 := kept_cell hSw r1; replace r2 := kept_cell hSw r2; go_simp; try with_reducible rfl)
        try simp only [Act.put, List.setIfInBounds_toArray, List.set_cons_zero, List.set_cons_succ]
        refine x_done (by kernel_rfl) ?_ _
        replace K0 := kept_trans K0 KK1; replace o0 := o0.kept KK1; replace oC := oC.kept KK1
        clear q0 q1 q2 r0 r1 r2
        have q0 := o0.cell (j := 0) rfl
        have q1 := o0.cell (j := 1) rfl
        have q2 := o0.cell (j := 2) rfl
        have r0 := oC.cell (j := 0) rfl
        have r1 := oC.cell (j := 1) rfl
        have r2 := oC.cell (j := 2) rfl
        go_wp2_with fail
        with_reducible refine (none_zero _).mono ?_
        rintro e w11 ⟨rfl, k⟩
        replace K0 := kept_trans K0 k; replace o0 := o0.kept k; replace oC := oC.kept k
        clear q0 q1 q2 r0 r1 r2 k
        have q0 := o0.cell (j := 0) rfl
        have q1 := o0.cell (j := 1) rfl
        have q2 := o0.cell (j := 2) rfl
        have r0 := oC.cell (j := 0) rfl
        have r1 := oC.cell (j := 1) rfl
        have r2 := oC.cell (j := 2) rfl
        go_wp2_with fail
        with_reducible refine (alive_any _).mono ?_
        rintro e w12 ⟨rfl, k⟩
        replace K0 := kept_trans K0 k; replace o0 := o0.kept k; replace oC := oC.kept k
        clear q0 q1 q2 r0 r1 r2 k
        have q0 := o0.cell (j := 0) rfl
        have q1 := o0.cell (j := 1) rfl
        have q2 := o0.cell (j := 2) rfl
        have r0 := oC.cell (j := 0) rfl
        have r1 := oC.cell (j := 1) rfl
        have r2 := oC.cell (j := 2) rfl
        go_wp2_with fail
        go_ret
        exact ⟨ret_bool (by simp), K0⟩
      · simp only [if_neg hbig] at C47
        obtain ⟨n, rfl⟩ : ∃ n : Nat, i = n := ⟨i.toNat, by omega⟩
        have D15 := Lib.hid fun (S : List Pc) (hS : Srt (visB s l) S) (w' : World) (A' : Option Addr) (c' : Nat) (h : RN w' A' (lyL s l S)) => rvalid_any n (fnd S s 0) A' c' (lyL s l S) w' (by rw [lyL_length, hS.len]; omega) h
        have L := Lib.hid fun (S : List Pc) (hS : Srt (visB s l) S) => LyEnv.of hv hvis (by omega) hS
        have HV := Lib.hid hv
        have HR := Lib.hid hr
        unfold BrIs at C47
        replace C47 := Lib.hid C47
        clear hv hr hs hvis hbig hi0 hi1 hln hn
        go_enter Try.func11, Try.ntmps11
        go_wp2_with fail
        with_reducible refine (F.out _).mono ?_
        rintro e w13 ⟨rfl, k⟩
        replace K0 := kept_trans K0 k; replace o0 := o0.kept k
        clear q0 q1 q2 k
        have q0 := o0.cell (j := 0) rfl
        have q1 := o0.cell (j := 1) rfl
        have q2 := o0.cell (j := 2) rfl
        go_wp2_with fail
        with_reducible refine (C47.out _ K0).mono ?_
        rintro e w14 ⟨S, v, hS, rfl, A1, c1, rfl, hrow, k⟩
        have hC : RN w14 A1 (lyL s l S) := row_rd hrow
        have hL := L.out S hS
        have hval := hL.valid
        have hlay := hL.layered
        have hlen := hL.length
        have hall := hL.val
        have D15' := fun (w' : World) (A' : Option Addr) (c' : Nat) (h : RN w' A' (lyL s l S)) => D15.out S hS w' A' c' h
        rw [hval] at D15'
        generalize fnd S s 0 = t at *
        generalize lyL s l S = rn at *
        have D22 := fun (w' : World) (A' : Option Addr) (c' : Nat) (h : RN w' A' rn) => rlayered_any n t A' c' rn w' h hval
        rw [hlay] at D22
        have D20 := fun (w' : World) (A' : Option Addr) (c' : Nat) (h : RN w' A' rn) => rlength_any n t A' c' rn w' h hval
        rw [hlen] at D20
        have D43 := fun (w' : World) (k : Kept w w') (A' : Option Addr) (c' : Nat) (h : RN w' A' rn) => alike_any n s t A A' c c' l rn more w' (HR.out.kept k) h HV.out hval hall hb.1 hb.2
        replace D15' := Lib.hid D15'; replace D22 := Lib.hid D22; replace D20 := Lib.hid D20; replace D43 := Lib.hid D43
        clear hS hL hval hlay hlen hall hrow
        have oC := Own.new w14 24 [.int .i64 n, .int .i64 t, .slice A1 rn.length c1]
        replace hC := hC.kept (kept_alloc (kept_refl w14) (.cells ([.int .i64 n, .int .i64 t, .slice A1 rn.length c1]).toArray 24))
        replace K0 := kept_trans K0 k; replace o0 := o0.kept k
        have zz := o0.lt
        replace K0 := kept_alloc K0 (.cells ([.int .i64 n, .int .i64 t, .slice A1 rn.length c1]).toArray 24); replace o0 := o0.alloc (.cells ([.int .i64 n, .int .i64 t, .slice A1 rn.length c1]).toArray 24)
        clear q0 q1 q2 k
        have q0 := o0.cell (j := 0) rfl
        have q1 := o0.cell (j := 1) rfl
        have q2 := o0.cell (j := 2) rfl
        have r0 := oC.cell (j := 0) rfl
        have r1 := oC.cell (j := 1) rfl
        have r2 := oC.cell (j := 2) rfl
        go_wp2_with fail
        with_reducible refine (C15.out _ K0).mono ?_
        rintro e w15 ⟨rfl, k⟩
        replace K0 := kept_trans K0 k; replace o0 := o0.kept k; replace oC := oC.kept k; replace hC := hC.kept k
        clear q0 q1 q2 r0 r1 r2 k
        have q0 := o0.cell (j := 0) rfl
        have q1 := o0.cell (j := 1) rfl
        have q2 := o0.cell (j := 2) rfl
        have r0 := oC.cell (j := 0) rfl
        have r1 := oC.cell (j := 1) rfl
        have r2 := oC.cell (j := 2) rfl
        go_wp2_with fail
        have yr := kept_lt r0
        have yq := kept_lt q0
        refine region_x (fun w' => Kept w15 w') [] (by kernel_rfl) (kept_drew (kept_refl _)) (fun hHeld => ?_)
        refine x_take (i := 0) (oi := { dst := some 28, op := Op.move (Operand.tmp 6), type := 30, pos := "law.go:168", after := #[], guard := none }) (v := ?_) rfl (by kernel_rfl) (by kernel_rfl) (by kernel_rfl) (by kernel_rfl) (by kernel_rfl) (fun _ _ _ h => h) (Or.inl ⟨rfl, ?_⟩) (by assumption) ?_
        rotate_left
        · (intro w' hSw; replace q0 := kept_cell hSw q0; replace q1 := kept_cell hSw q1; replace q2 := kept_cell hSw q2; replace r0 := kept_cell hSw r0; replace r1 := kept_cell hSw r1; replace r2 := kept_cell hSw r2; go_simp; try with_reducible rfl)
        try simp only [Act.put, List.setIfInBounds_toArray, List.set_cons_zero, List.set_cons_succ]
        refine x_take (i := 1) (oi := { dst := some 29, op := Op.binOp BinOp.eql 30 (Operand.tmp 28) (Operand.const (Value.int IntKind.i64 5)) 30, type := 4, pos := "law.go:168", after := #[{ on := 0, ground := Ground.data }], guard := none }) (v := ?_) rfl (by kernel_rfl) (by kernel_rfl) (by kernel_rfl) (by kernel_rfl) (by kernel_rfl) (fun _ _ _ h => h) (Or.inl ⟨rfl, ?_⟩) (by assumption) ?_
        rotate_left
        · (intro w' hSw; replace q0 := kept_cell hSw q0; replace q1 := kept_cell hSw q1; replace q2 := kept_cell hSw q2; replace r0 := kept_cell hSw r0; replace r1 := kept_cell hSw r1; replace r2 := kept_cell hSw r2; go_simp; try with_reducible rfl)
        try simp only [Act.put, List.setIfInBounds_toArray, List.set_cons_zero, List.set_cons_succ]
        refine x_take (i := 2) (oi := { dst := some 30, op := Op.move (Operand.tmp 29), type := 4, pos := "law.go:168", after := #[{ on := 1, ground := Ground.data }], guard := none }) (v := ?_) rfl (by kernel_rfl) (by kernel_rfl) (by kernel_rfl) (by kernel_rfl) (by kernel_rfl) (fun _ _ _ h => h) (Or.inl ⟨rfl, ?_⟩) (by assumption) ?_
        rotate_left
        · (intro w' hSw; replace q0 := kept_cell hSw q0; replace q1 := kept_cell hSw q1; replace q2 := kept_cell hSw q2; replace r0 := kept_cell hSw r0; replace r1 := kept_cell hSw r1; replace r2 := kept_cell hSw r2; go_simp; try with_reducible rfl)
        try simp only [Act.put, List.setIfInBounds_toArray, List.set_cons_zero, List.set_cons_succ]
        refine x_take (i := 3) (oi := { dst := some 31, op := Op.fieldAddr 24 (Operand.tmp 2) 2, type := 0, pos := "law.go:168", after := #[{ on := 2, ground := Ground.guard }], guard := some (2, true) }) (v := undef) rfl (by kernel_rfl) (by kernel_rfl) (by kernel_rfl) (by kernel_rfl) (by kernel_rfl) (fun _ _ _ h => h) (Or.inr ⟨rfl, rfl⟩) (by assumption) ?_
        try simp only [Act.put, List.setIfInBounds_toArray, List.set_cons_zero, List.set_cons_succ]
        refine x_take (i := 4) (oi := { dst := some 32, op := Op.load 22 (Operand.tmp 31), type := 22, pos := "law.go:168", after := #[{ on := 3, ground := Ground.data }, { on := 2, ground := Ground.guard }], guard := some (2, true) }) (v := undef) rfl (by kernel_rfl) (by kernel_rfl) (by kernel_rfl) (by kernel_rfl) (by kernel_rfl) (fun _ _ _ h => h) (Or.inr ⟨rfl, rfl⟩) (by assumption) ?_
        try simp only [Act.put, List.setIfInBounds_toArray, List.set_cons_zero, List.set_cons_succ]
        refine x_take (i := 5) (oi := { dst := some 33, op := Op.call { callee := Callee.builtin Builtin.len, args := #[Operand.tmp 32], argTypes := #[22] }, type := 3, pos := "law.go:168", after := #[{ on := 4, ground := Ground.data }, { on := 2, ground := Ground.guard }], guard := some (2, true) }) (v := undef) rfl (by kernel_rfl) (by kernel_rfl) (by kernel_rfl) (by kernel_rfl) (by kernel_rfl) (fun _ _ _ h => h) (Or.inr ⟨rfl, rfl⟩) (by assumption) ?_
        try simp only [Act.put, List.setIfInBounds_toArray, List.set_cons_zero, List.set_cons_succ]
        refine x_take (i := 6) (oi := { dst := some 34, op := Op.load 24 (Operand.tmp 2), type := 24, pos := "law.go:168", after := #[{ on := 2, ground := Ground.guard }], guard := some (2, true) }) (v := undef) rfl (by kernel_rfl) (by kernel_rfl) (by kernel_rfl) (by kernel_rfl) (by kernel_rfl) (fun _ _ _ h => h) (Or.inr ⟨rfl, rfl⟩) (by assumption) ?_
        try simp only [Act.put, List.setIfInBounds_toArray, List.set_cons_zero, List.set_cons_succ]
        refine x_take (i := 7) (oi := { dst := some 35, op := Op.call { callee := Callee.value (Operand.func 20), args := #[Operand.tmp 34], argTypes := #[24] }, type := 3, pos := "law.go:168", after := #[{ on := 6, ground := Ground.data }, { on := 2, ground := Ground.chain }, { on := 2, ground := Ground.guard }], guard := some (2, true) }) (v := undef) rfl (by kernel_rfl) (by kernel_rfl) (by kernel_rfl) (by kernel_rfl) (by kernel_rfl) (fun _ _ _ h => h) (Or.inr ⟨rfl, rfl⟩) (by assumption) ?_
        try simp only [Act.put, List.setIfInBounds_toArray, List.set_cons_zero, List.set_cons_succ]
        refine x_take (i := 8) (oi := { dst := some 36, op := Op.binOp BinOp.mul 3 (Operand.tmp 33) (Operand.tmp 35) 3, type := 3, pos := "law.go:168", after := #[{ on := 5, ground := Ground.data }, { on := 7, ground := Ground.data }, { on := 2, ground := Ground.guard }], guard := some (2, true) }) (v := undef) rfl (by kernel_rfl) (by kernel_rfl) (by kernel_rfl) (by kernel_rfl) (by kernel_rfl) (fun _ _ _ h => h) (Or.inr ⟨rfl, rfl⟩) (by assumption) ?_
        try simp only [Act.put, List.setIfInBounds_toArray, List.set_cons_zero, List.set_cons_succ]
        refine x_take (i := 9) (oi := { dst := some 37, op := Op.binOp BinOp.gtr 3 (Operand.tmp 36) (Operand.const (Value.int IntKind.i64 20000)) 3, type := 4, pos := "law.go:168", after := #[{ on := 8, ground := Ground.data }, { on := 2, ground := Ground.guard }], guard := some (2, true) }) (v := undef) rfl (by kernel_rfl) (by kernel_rfl) (by kernel_rfl) (by kernel_rfl) (by kernel_rfl) (fun _ _ _ h => h) (Or.inr ⟨rfl, rfl⟩) (by assumption) ?_
        try simp only [Act.put, List.setIfInBounds_toArray, List.set_cons_zero, List.set_cons_succ]
        refine x_take (i := 10) (oi := { dst := some 38, op := Op.pick (Operand.tmp 30) (Operand.tmp 37) (Operand.const (Value.bool false)), type := 4, pos := "law.go:168", after := #[{ on := 2, ground := Ground.data }, { on := 9, ground := Ground.data }], guard := none }) (v := ?_) rfl (by kernel_rfl) (by kernel_rfl) (by kernel_rfl) (by kernel_rfl) (by kernel_rfl) (fun _ _ _ h => h) (Or.inl ⟨rfl, ?_⟩) (by assumption) ?_
        rotate_left
        · (intro w' hSw; replace q0 := kept_cell hSw q0; replace q1 := kept_cell hSw q1; replace q2 := kept_cell hSw q2; replace r0 := kept_cell hSw r0; replace r1 := kept_cell hSw r1; replace r2 := kept_cell hSw r2; go_simp; try with_reducible rfl)
        try simp only [Act.put, List.setIfInBounds_toArray, List.set_cons_zero, List.set_cons_succ]
        refine x_done (by kernel_rfl) ?_ _
        have KD : Kept w15 w15.drew := kept_drew (kept_refl _)
        replace K0 := kept_trans K0 KD; replace o0 := o0.kept KD; replace oC := oC.kept KD; replace hC := hC.kept KD
        clear q0 q1 q2 r0 r1 r2
        have q0 := o0.cell (j := 0) rfl
        have q1 := o0.cell (j := 1) rfl
        have q2 := o0.cell (j := 2) rfl
        have r0 := oC.cell (j := 0) rfl
        have r1 := oC.cell (j := 1) rfl
        have r2 := oC.cell (j := 2) rfl
        go_wp2_with fail
        have yr := kept_lt r0
        have yq := kept_lt q0
        obtain ⟨W5, hW5⟩ : ∃ x, x = w15.drew := ⟨_, rfl⟩
        rw [← hW5] at K0 o0 oC hC q0 q1 q2 r0 r1 r2 yr yq ⊢
        clear hW5 KD
        refine region_x (fun w' => Kept W5 w') [] (by kernel_rfl) (kept_drew (kept_refl _)) (fun hHeld => ?_)
        refine x_take (i := 0) (oi := { dst := some 44, op := Op.move (Operand.tmp 6), type := 30, pos := "law.go:171", after := #[], guard := none }) (v := ?_) rfl (by kernel_rfl) (by kernel_rfl) (by kernel_rfl) (by kernel_rfl) (by kernel_rfl) (fun _ _ _ h => h) (Or.inl ⟨rfl, ?_⟩) (by assumption) ?_
        rotate_left
        · (intro w' hSw; replace q0 := kept_cell hSw q0; replace q1 := kept_cell hSw q1; replace q2 := kept_cell hSw q2; replace r0 := kept_cell hSw r0; replace r1 := kept_cell hSw r1; replace r2 := kept_cell hSw r2; go_simp; try with_reducible rfl)
        try simp only [Act.put, List.setIfInBounds_toArray, List.set_cons_zero, List.set_cons_succ]
        refine x_take (i := 1) (oi := { dst := some 45, op := Op.binOp BinOp.eql 30 (Operand.tmp 44) (Operand.const (Value.int IntKind.i64 0)) 30, type := 4, pos := "law.go:171", after := #[{ on := 0, ground := Ground.data }], guard := none }) (v := ?_) rfl (by kernel_rfl) (by kernel_rfl) (by kernel_rfl) (by kernel_rfl) (by kernel_rfl) (fun _ _ _ h => h) (Or.inl ⟨rfl, ?_⟩) (by assumption) ?_
        rotate_left
        · (intro w' hSw; replace q0 := kept_cell hSw q0; replace q1 := kept_cell hSw q1; replace q2 := kept_cell hSw q2; replace r0 := kept_cell hSw r0; replace r1 := kept_cell hSw r1; replace r2 := kept_cell hSw r2; go_simp; try with_reducible rfl)
        try simp only [Act.put, List.setIfInBounds_toArray, List.set_cons_zero, List.set_cons_succ]
        refine x_take (i := 2) (oi := { dst := some 46, op := Op.move (Operand.tmp 45), type := 4, pos := "law.go:171", after := #[{ on := 1, ground := Ground.data }], guard := none }) (v := ?_) rfl (by kernel_rfl) (by kernel_rfl) (by kernel_rfl) (by kernel_rfl) (by kernel_rfl) (fun _ _ _ h => h) (Or.inl ⟨rfl, ?_⟩) (by assumption) ?_
        rotate_left
        · (intro w' hSw; replace q0 := kept_cell hSw q0; replace q1 := kept_cell hSw q1; replace q2 := kept_cell hSw q2; replace r0 := kept_cell hSw r0; replace r1 := kept_cell hSw r1; replace r2 := kept_cell hSw r2; go_simp; try with_reducible rfl)
        try simp only [Act.put, List.setIfInBounds_toArray, List.set_cons_zero, List.set_cons_succ]
        refine x_take (i := 3) (oi := { dst := some 47, op := Op.load 24 (Operand.tmp 5), type := 24, pos := "law.go:171", after := #[{ on := 2, ground := Ground.guard }], guard := some (2, true) }) (v := ?_) rfl (by kernel_rfl) (by kernel_rfl) (by kernel_rfl) (by kernel_rfl) (by kernel_rfl) (fun _ _ _ h => h) (Or.inl ⟨rfl, ?_⟩) (by assumption) ?_
        rotate_left
        · (intro w' hSw; replace q0 := kept_cell hSw q0; replace q1 := kept_cell hSw q1; replace q2 := kept_cell hSw q2; replace r0 := kept_cell hSw r0; replace r1 := kept_cell hSw r1; replace r2 := kept_cell hSw r2; go_simp; try with_reducible rfl)
        try simp only [Act.put, List.setIfInBounds_toArray, List.set_cons_zero, List.set_cons_succ]
        refine x_one (i := 4) (o := { dst := some 48, op := Op.call { callee := Callee.value (Operand.func 15), args := #[Operand.tmp 47], argTypes := #[24] }, type := 4, pos := "law.go:171", after := #[{ on := 3, ground := Ground.data }, { on := 2, ground := Ground.chain }, { on := 2, ground := Ground.guard }], guard := some (2, true) }) (by kernel_rfl) rfl (fun K hK => ?_)
        (go_simp; go_at_call 15; (with_reducible refine (D15'.out _ _ _ (hC.kept hHeld)).mono ?_); rintro e w81 ⟨rfl, k1⟩; have KK1 : Kept W5 w81 := kept_trans hHeld k1; try dsimp only)
        refine hK.out _ _ ?_ (fun hHeld => ?_)
        · (try dsimp only); repeat (first | assumption | exact kept_refl _ | refine kept_drew ?_ | refine kept_alloc ?_ _ | refine kept_set ?_ (by omega) _)
        clear hK K
        try simp only [Act.put, List.setIfInBounds_toArray, List.set_cons_zero, List.set_cons_succ]
        refine x_take (i := 5) (oi := { dst := some 49, op := Op.pick (Operand.tmp 46) (Operand.tmp 48) (Operand.const (Value.bool false)), type := 4, pos := "law.go:171", after := #[{ on := 2, ground := Ground.data }, { on := 4, ground := Ground.data }], guard := none }) (v := ?_) rfl (by kernel_rfl) (by kernel_rfl) (by kernel_rfl) (by kernel_rfl) (by kernel_rfl) (fun _ _ _ h => h) (Or.inl ⟨rfl, ?_⟩) (by assumption) ?_
        rotate_left
        · (intro w' hSw; replace q0 := kept_cell hSw q0; replace q1 := kept_cell hSw q1; replace q2 := kept_cell hSw q2; replace r0 := kept_cell hSw r0; replace r1 := kept_cell hSw r1; replace r2 := kept_cell hSw r2; go_simp; try with_reducible rfl)
        try simp only [Act.put, List.setIfInBounds_toArray, List.set_cons_zero, List.set_cons_succ]
        refine x_take (i := 6) (oi := { dst := some 50, op := Op.move (Operand.tmp 49), type := 4, pos := "law.go:171", after := #[{ on := 5, ground := Ground.data }, { on := 4, ground := Ground.chain }], guard := none }) (v := ?_) rfl (by kernel_rfl) (by kernel_rfl) (by kernel_rfl) (by kernel_rfl) (by kernel_rfl) (fun _ _ _ h => h) (Or.inl ⟨rfl, ?_⟩) (by assumption) ?_
        rotate_left
        · (intro w' hSw; replace q0 := kept_cell hSw q0; replace q1 := kept_cell hSw q1; replace q2 := kept_cell hSw q2; replace r0 := kept_cell hSw r0; replace r1 := kept_cell hSw r1; replace r2 := kept_cell hSw r2; go_simp; try with_reducible rfl)
        try simp only [Act.put, List.setIfInBounds_toArray, List.set_cons_zero, List.set_cons_succ]
        refine x_take (i := 7) (oi := { dst := some 51, op := Op.fieldAddr 24 (Operand.tmp 5) 0, type := 0, pos := "law.go:171", after := #[{ on := 6, ground := Ground.guard }], guard := some (6, true) }) (v := ?_) rfl (by kernel_rfl) (by kernel_rfl) (by kernel_rfl) (by kernel_rfl) (by kernel_rfl) (fun _ _ _ h => h) (Or.inl ⟨rfl, ?_⟩) (by assumption) ?_
        rotate_left
        · (intro w' hSw; replace q0 := kept_cell hSw q0; replace q1 := kept_cell hSw q1; replace q2 := kept_cell hSw q2; replace r0 := kept_cell hSw r0; replace r1 := kept_cell hSw r1; replace r2 := kept_cell hSw r2; go_simp; try with_reducible rfl)
        try simp only [Act.put, List.setIfInBounds_toArray, List.set_cons_zero, List.set_cons_succ]
        refine x_take (i := 8) (oi := { dst := some 52, op := Op.load 3 (Operand.tmp 51), type := 3, pos := "law.go:171", after := #[{ on := 7, ground := Ground.data }, { on := 6, ground := Ground.guard }], guard := some (6, true) }) (v := ?_) rfl (by kernel_rfl) (by kernel_rfl) (by kernel_rfl) (by kernel_rfl) (by kernel_rfl) (fun _ _ _ h => h) (Or.inl ⟨rfl, ?_⟩) (by assumption) ?_
        rotate_left
        · (intro w' hSw; replace q0 := kept_cell hSw q0; replace q1 := kept_cell hSw q1; replace q2 := kept_cell hSw q2; replace r0 := kept_cell hSw r0; replace r1 := kept_cell hSw r1; replace r2 := kept_cell hSw r2; go_simp; try with_reducible rfl)
        try simp only [Act.put, List.setIfInBounds_toArray, List.set_cons_zero, List.set_cons_succ]
        refine x_take (i := 9) (oi := { dst := some 53, op := Op.fieldAddr 24 (Operand.tmp 2) 0, type := 0, pos := "law.go:171", after := #[{ on := 6, ground := Ground.guard }], guard := some (6, true) }) (v := ?_) rfl (by kernel_rfl) (by kernel_rfl) (by kernel_rfl) (by kernel_rfl) (by kernel_rfl) (fun _ _ _ h => h) (Or.inl ⟨rfl, ?_⟩) (by assumption) ?_
        rotate_left
        · (intro w' hSw; replace q0 := kept_cell hSw q0; replace q1 := kept_cell hSw q1; replace q2 := kept_cell hSw q2; replace r0 := kept_cell hSw r0; replace r1 := kept_cell hSw r1; replace r2 := kept_cell hSw r2; go_simp; try with_reducible rfl)
        try simp only [Act.put, List.setIfInBounds_toArray, List.set_cons_zero, List.set_cons_succ]
        refine x_take (i := 10) (oi := { dst := some 54, op := Op.load 3 (Operand.tmp 53), type := 3, pos := "law.go:171", after := #[{ on := 9, ground := Ground.data }, { on := 6, ground := Ground.guard }], guard := some (6, true) }) (v := ?_) rfl (by kernel_rfl) (by kernel_rfl) (by kernel_rfl) (by kernel_rfl) (by kernel_rfl) (fun _ _ _ h => h) (Or.inl ⟨rfl, ?_⟩) (by assumption) ?_
        rotate_left
        · (intro w' hSw; replace q0 := kept_cell hSw q0; replace q1 := kept_cell hSw q1; replace q2 := kept_cell hSw q2; replace r0 := kept_cell hSw r0; replace r1 := kept_cell hSw r1; replace r2 := kept_cell hSw r2; go_simp; try with_reducible rfl)
        try simp only [Act.put, List.setIfInBounds_toArray, List.set_cons_zero, List.set_cons_succ]
        refine x_take (i := 11) (oi := { dst := some 55, op := Op.binOp BinOp.eql 3 (Operand.tmp 52) (Operand.tmp 54) 3, type := 4, pos := "law.go:171", after := #[{ on := 8, ground := Ground.data }, { on := 10, ground := Ground.data }, { on := 6, ground := Ground.guard }], guard := some (6, true) }) (v := ?_) rfl (by kernel_rfl) (by kernel_rfl) (by kernel_rfl) (by kernel_rfl) (by kernel_rfl) (fun _ _ _ h => h) (Or.inl ⟨rfl, ?_⟩) (by assumption) ?_
        rotate_left
        · (intro w' hSw; replace q0 := kept_cell hSw q0; replace q1 := kept_cell hSw q1; replace q2 := kept_cell hSw q2; replace r0 := kept_cell hSw r0; replace r1 := kept_cell hSw r1; replace r2 := kept_cell hSw r2; go_simp; try with_reducible rfl)
        try simp only [Act.put, List.setIfInBounds_toArray, List.set_cons_zero, List.set_cons_succ]
        refine x_take (i := 12) (oi := { dst := some 56, op := Op.pick (Operand.tmp 50) (Operand.tmp 55) (Operand.const (Value.bool false)), type := 4, pos := "law.go:171", after := #[{ on := 6, ground := Ground.data }, { on := 11, ground := Ground.data }], guard := none }) (v := ?_) rfl (by kernel_rfl) (by kernel_rfl) (by kernel_rfl) (by kernel_rfl) (by kernel_rfl) (fun _ _ _ h => h) (Or.inl ⟨rfl, ?_⟩) (by assumption) ?_
        rotate_left
        · (intro w' hSw; replace q0 := kept_cell hSw q0; replace q1 := kept_cell hSw q1; replace q2 := kept_cell hSw q2; replace r0 := kept_cell hSw r0; replace r1 := kept_cell hSw r1; replace r2 := kept_cell hSw r2; go_simp; try with_reducible rfl)
        try simp only [Act.put, List.setIfInBounds_toArray, List.set_cons_zero, List.set_cons_succ]
        refine x_take (i := 13) (oi := { dst := some 57, op := Op.move (Operand.tmp 56), type := 4, pos := "law.go:171", after := #[{ on := 12, ground := Ground.data }, { on := 6, ground := Ground.chain }], guard := none }) (v := ?_) rfl (by kernel_rfl) (by kernel_rfl) (by kernel_rfl) (by kernel_rfl) (by kernel_rfl) (fun _ _ _ h => h) (Or.inl ⟨rfl, ?_⟩) (by assumption) ?_
        rotate_left
        · (intro w' hSw; replace q0 := kept_cell hSw q0; replace q1 := kept_cell hSw q1; replace q2 := kept_cell hSw q2; replace r0 := kept_cell hSw r0; replace r1 := kept_cell hSw r1; replace r2 := kept_cell hSw r2; go_simp; try with_reducible rfl)
        try simp only [Act.put, List.setIfInBounds_toArray, List.set_cons_zero, List.set_cons_succ]
        refine x_take (i := 14) (oi := { dst := some 58, op := Op.load 24 (Operand.tmp 5), type := 24, pos := "law.go:171", after := #[{ on := 13, ground := Ground.guard }], guard := some (13, true) }) (v := ?_) rfl (by kernel_rfl) (by kernel_rfl) (by kernel_rfl) (by kernel_rfl) (by kernel_rfl) (fun _ _ _ h => h) (Or.inl ⟨rfl, ?_⟩) (by assumption) ?_
        rotate_left
        · (intro w' hSw; replace q0 := kept_cell hSw q0; replace q1 := kept_cell hSw q1; replace q2 := kept_cell hSw q2; replace r0 := kept_cell hSw r0; replace r1 := kept_cell hSw r1; replace r2 := kept_cell hSw r2; go_simp; try with_reducible rfl)
        try simp only [Act.put, List.setIfInBounds_toArray, List.set_cons_zero, List.set_cons_succ]
        refine x_one (i := 15) (o := { dst := some 59, op := Op.call { callee := Callee.value (Operand.func 22), args := #[Operand.tmp 58], argTypes := #[24] }, type := 4, pos := "law.go:171", after := #[{ on := 14, ground := Ground.data }, { on := 13, ground := Ground.chain }, { on := 13, ground := Ground.guard }], guard := some (13, true) }) (by kernel_rfl) rfl (fun K hK => ?_)
        (go_simp; go_at_call 22; (with_reducible refine (D22.out _ _ _ (hC.kept hHeld)).mono ?_); rintro e w82 ⟨rfl, k2⟩; have KK2 : Kept W5 w82 := kept_trans hHeld k2; try dsimp only)
        refine hK.out _ _ ?_ (fun hHeld => ?_)
        · (try dsimp only); repeat (first | assumption | exact kept_refl _ | refine kept_drew ?_ | refine kept_alloc ?_ _ | refine kept_set ?_ (by omega) _)
        clear hK K
        try simp only [Act.put, List.setIfInBounds_toArray, List.set_cons_zero, List.set_cons_succ]
        refine x_take (i := 16) (oi := { dst := some 60, op := Op.pick (Operand.tmp 57) (Operand.tmp 59) (Operand.const (Value.bool false)), type := 4, pos := "law.go:171", after := #[{ on := 13, ground := Ground.data }, { on := 15, ground := Ground.data }], guard := none }) (v := ?_) rfl (by kernel_rfl) (by kernel_rfl) (by kernel_rfl) (by kernel_rfl) (by kernel_rfl) (fun _ _ _ h => h) (Or.inl ⟨rfl, ?_⟩) (by assumption) ?_
        rotate_left
        · (intro w' hSw; replace q0 := kept_cell hSw q0; replace q1 := kept_cell hSw q1; replace q2 := kept_cell hSw q2; replace r0 := kept_cell hSw r0; replace r1 := kept_cell hSw r1; replace r2 := kept_cell hSw r2; go_simp; try with_reducible rfl)
        try simp only [Act.put, List.setIfInBounds_toArray, List.set_cons_zero, List.set_cons_succ]
        refine x_take (i := 17) (oi := { dst := some 61, op := Op.move (Operand.tmp 60), type := 4, pos := "law.go:171", after := #[{ on := 16, ground := Ground.data }, { on := 15, ground := Ground.chain }], guard := none }) (v := ?_) rfl (by kernel_rfl) (by kernel_rfl) (by kernel_rfl) (by kernel_rfl) (by kernel_rfl) (fun _ _ _ h => h) (Or.inl ⟨rfl, ?_⟩) (by assumption) ?_
        rotate_left
        · (intro w' hSw; replace q0 := kept_cell hSw q0; replace q1 := kept_cell hSw q1; replace q2 := kept_cell hSw q2; replace r0 := kept_cell hSw r0; replace r1 := kept_cell hSw r1; replace r2 := kept_cell hSw r2; go_simp; try with_reducible rfl)
        try simp only [Act.put, List.setIfInBounds_toArray, List.set_cons_zero, List.set_cons_succ]
        refine x_take (i := 18) (oi := { dst := some 62, op := Op.load 24 (Operand.tmp 5), type := 24, pos := "law.go:171", after := #[{ on := 17, ground := Ground.guard }], guard := some (17, true) }) (v := ?_) rfl (by kernel_rfl) (by kernel_rfl) (by kernel_rfl) (by kernel_rfl) (by kernel_rfl) (fun _ _ _ h => h) (Or.inl ⟨rfl, ?_⟩) (by assumption) ?_
        rotate_left
        · (intro w' hSw; replace q0 := kept_cell hSw q0; replace q1 := kept_cell hSw q1; replace q2 := kept_cell hSw q2; replace r0 := kept_cell hSw r0; replace r1 := kept_cell hSw r1; replace r2 := kept_cell hSw r2; go_simp; try with_reducible rfl)
        try simp only [Act.put, List.setIfInBounds_toArray, List.set_cons_zero, List.set_cons_succ]
        refine x_take (i := 20) (oi := { dst := some 64, op := Op.load 24 (Operand.tmp 2), type := 24, pos := "law.go:171", after := #[{ on := 17, ground := Ground.guard }], guard := some (17, true) }) (v := ?_) rfl (by kernel_rfl) (by kernel_rfl) (by kernel_rfl) (by kernel_rfl) (by kernel_rfl) (fun _ _ _ h => h) (Or.inl ⟨rfl, ?_⟩) (by assumption) ?_
        rotate_left
        · (intro w' hSw; replace q0 := kept_cell hSw q0; replace q1 := kept_cell hSw q1; replace q2 := kept_cell hSw q2; replace r0 := kept_cell hSw r0; replace r1 := kept_cell hSw r1; replace r2 := kept_cell hSw r2; go_simp; try with_reducible rfl)
        try simp only [Act.put, List.setIfInBounds_toArray, List.set_cons_zero, List.set_cons_succ]
        refine x_one (i := 19) (o := { dst := some 63, op := Op.call { callee := Callee.value (Operand.func 20), args := #[Operand.tmp 62], argTypes := #[24] }, type := 3, pos := "law.go:171", after := #[{ on := 18, ground := Ground.data }, { on := 17, ground := Ground.chain }, { on := 17, ground := Ground.guard }], guard := some (17, true) }) (by kernel_rfl) rfl (fun K hK => ?_)
        (go_simp; go_at_call 20; (with_reducible refine (D20.out _ _ _ (hC.kept hHeld)).mono ?_); rintro e w83 ⟨rfl, k3⟩; have KK3 : Kept W5 w83 := kept_trans hHeld k3; try dsimp only)
        refine hK.out _ _ ?_ (fun hHeld => ?_)
        · (try dsimp only); repeat (first | assumption | exact kept_refl _ | refine kept_drew ?_ | refine kept_alloc ?_ _ | refine kept_set ?_ (by omega) _)
        clear hK K
        try simp only [Act.put, List.setIfInBounds_toArray, List.set_cons_zero, List.set_cons_succ]
        refine x_one (i := 21) (o := { dst := some 65, op := Op.call { callee := Callee.value (Operand.func 20), args := #[Operand.tmp 64], argTypes := #[24] }, type := 3, pos := "law.go:171", after := #[{ on := 20, ground := Ground.data }, { on := 19, ground := Ground.chain }, { on := 17, ground := Ground.guard }], guard := some (17, true) }) (by kernel_rfl) rfl (fun K hK => ?_)
        (go_simp; go_at_call 20; (with_reducible refine (C20.out _ (kept_trans K0 hHeld)).mono ?_); rintro e w84 ⟨rfl, k4⟩; have KK4 : Kept W5 w84 := kept_trans hHeld k4; try dsimp only)
        refine hK.out _ _ ?_ (fun hHeld => ?_)
        · (try dsimp only); repeat (first | assumption | exact kept_refl _ | refine kept_drew ?_ | refine kept_alloc ?_ _ | refine kept_set ?_ (by omega) _)
        clear hK K
        try simp only [Act.put, List.setIfInBounds_toArray, List.set_cons_zero, List.set_cons_succ]
        refine x_take (i := 22) (oi := { dst := some 66, op := Op.binOp BinOp.eql 3 (Operand.tmp 63) (Operand.tmp 65) 3, type := 4, pos := "law.go:171", after := #[{ on := 19, ground := Ground.data }, { on := 21, ground := Ground.data }, { on := 17, ground := Ground.guard }], guard := some (17, true) }) (v := ?_) rfl (by kernel_rfl) (by kernel_rfl) (by kernel_rfl) (by kernel_rfl) (by kernel_rfl) (fun _ _ _ h => h) (Or.inl ⟨rfl, ?_⟩) (by assumption) ?_
        rotate_left
        · (intro w' hSw; replace q0 := kept_cell hSw q0; replace q1 := kept_cell hSw q1; replace q2 := kept_cell hSw q2; replace r0 := kept_cell hSw r0; replace r1 := kept_cell hSw r1; replace r2 := kept_cell hSw r2; go_simp; try with_reducible rfl)
        try simp only [Act.put, List.setIfInBounds_toArray, List.set_cons_zero, List.set_cons_succ]
        refine x_take (i := 23) (oi := { dst := some 67, op := Op.pick (Operand.tmp 61) (Operand.tmp 66) (Operand.const (Value.bool false)), type := 4, pos := "law.go:171", after := #[{ on := 17, ground := Ground.data }, { on := 22, ground := Ground.data }], guard := none }) (v := ?_) rfl (by kernel_rfl) (by kernel_rfl) (by kernel_rfl) (by kernel_rfl) (by kernel_rfl) (fun _ _ _ h => h) (Or.inl ⟨rfl, ?_⟩) (by assumption) ?_
        rotate_left
        · (intro w' hSw; replace q0 := kept_cell hSw q0; replace q1 := kept_cell hSw q1; replace q2 := kept_cell hSw q2; replace r0 := kept_cell hSw r0; replace r1 := kept_cell hSw r1; replace r2 := kept_cell hSw r2; go_simp; try with_reducible rfl)
        try simp only [Act.put, List.setIfInBounds_toArray, List.set_cons_zero, List.set_cons_succ]
        refine x_take (i := 24) (oi := { dst := some 68, op := Op.move (Operand.tmp 67), type := 4, pos := "law.go:171", after := #[{ on := 23, ground := Ground.data }, { on := 21, ground := Ground.chain }], guard := none }) (v := ?_) rfl (by kernel_rfl) (by kernel_rfl) (by kernel_rfl) (by kernel_rfl) (by kernel_rfl) (fun _ _ _ h => h) (Or.inl ⟨rfl, ?_⟩) (by assumption) ?_
        rotate_left
        · (intro w' hSw; replace q0 := kept_cell hSw q0; replace q1 := kept_cell hSw q1; replace q2 := kept_cell hSw q2; replace r0 := kept_cell hSw r0; replace r1 := kept_cell hSw r1; replace r2 := kept_cell hSw r2; go_simp; try with_reducible rfl)
        try simp only [Act.put, List.setIfInBounds_toArray, List.set_cons_zero, List.set_cons_succ]
        refine x_take (i := 25) (oi := { dst := some 69, op := Op.load 24 (Operand.tmp 2), type := 24, pos := "law.go:171", after := #[{ on := 24, ground := Ground.guard }], guard := some (24, true) }) (v := ?_) rfl (by kernel_rfl) (by kernel_rfl) (by kernel_rfl) (by kernel_rfl) (by kernel_rfl) (fun _ _ _ h => h) (Or.inl ⟨rfl, ?_⟩) (by assumption) ?_
        rotate_left
        · (intro w' hSw; replace q0 := kept_cell hSw q0; replace q1 := kept_cell hSw q1; replace q2 := kept_cell hSw q2; replace r0 := kept_cell hSw r0; replace r1 := kept_cell hSw r1; replace r2 := kept_cell hSw r2; go_simp; try with_reducible rfl)
        try simp only [Act.put, List.setIfInBounds_toArray, List.set_cons_zero, List.set_cons_succ]
        refine x_take (i := 26) (oi := { dst := some 70, op := Op.load 24 (Operand.tmp 5), type := 24, pos := "law.go:171", after := #[{ on := 24, ground := Ground.guard }], guard := some (24, true) }) (v := ?_) rfl (by kernel_rfl) (by kernel_rfl) (by kernel_rfl) (by kernel_rfl) (by kernel_rfl) (fun _ _ _ h => h) (Or.inl ⟨rfl, ?_⟩) (by assumption) ?_
        rotate_left
        · (intro w' hSw; replace q0 := kept_cell hSw q0; replace q1 := kept_cell hSw q1; replace q2 := kept_cell hSw q2; replace r0 := kept_cell hSw r0; replace r1 := kept_cell hSw r1; replace r2 := kept_cell hSw r2; go_simp; try with_reducible rfl)
        try simp only [Act.put, List.setIfInBounds_toArray, List.set_cons_zero, List.set_cons_succ]
        refine x_take (i := 27) (oi := { dst := some 71, op := Op.move (Operand.tmp 1), type := 49, pos := "law.go:171", after := #[{ on := 24, ground := Ground.guard }], guard := some (24, true) }) (v := ?_) rfl (by kernel_rfl) (by kernel_rfl) (by kernel_rfl) (by kernel_rfl) (by kernel_rfl) (fun _ _ _ h => h) (Or.inl ⟨rfl, ?_⟩) (by assumption) ?_
        rotate_left
        · (intro w' hSw; replace q0 := kept_cell hSw q0; replace q1 := kept_cell hSw q1; replace q2 := kept_cell hSw q2; replace r0 := kept_cell hSw r0; replace r1 := kept_cell hSw r1; replace r2 := kept_cell hSw r2; go_simp; try with_reducible rfl)
        try simp only [Act.put, List.setIfInBounds_toArray, List.set_cons_zero, List.set_cons_succ]
        refine x_one (i := 28) (o := { dst := some 72, op := Op.call { callee := Callee.value (Operand.func 43), args := #[Operand.tmp 69, Operand.tmp 70, Operand.tmp 71], argTypes := #[24, 24, 49] }, type := 4, pos := "law.go:171", after := #[{ on := 25, ground := Ground.data }, { on := 26, ground := Ground.data }, { on := 27, ground := Ground.data }, { on := 24, ground := Ground.chain }, { on := 24, ground := Ground.guard }], guard := some (24, true) }) (by kernel_rfl) rfl (fun K hK => ?_)
        (go_simp; go_at_call 43; (with_reducible refine (D43.out _ (kept_trans K0 hHeld) _ _ (hC.kept hHeld)).mono ?_); rintro e w85 ⟨rfl, k5⟩; have KK5 : Kept W5 w85 := kept_trans hHeld k5; try dsimp only)
        refine hK.out _ _ ?_ (fun hHeld => ?_)
        · (try dsimp only); repeat (first | assumption | exact kept_refl _ | refine kept_drew ?_ | refine kept_alloc ?_ _ | refine kept_set ?_ (by omega) _)
        clear hK K
        try simp only [Act.put, List.setIfInBounds_toArray, List.set_cons_zero, List.set_cons_succ]
        refine x_take (i := 29) (oi := { dst := some 73, op := Op.pick (Operand.tmp 68) (Operand.tmp 72) (Operand.const (Value.bool false)), type := 4, pos := "law.go:171", after := #[{ on := 24, ground := Ground.data }, { on := 28, ground := Ground.data }], guard := none }) (v := ?_) rfl (by kernel_rfl) (by kernel_rfl) (by kernel_rfl) (by kernel_rfl) (by kernel_rfl) (fun _ _ _ h => h) (Or.inl ⟨rfl, ?_⟩) (by assumption) ?_
        rotate_left
        · (intro w' hSw; replace q0 := kept_cell hSw q0; replace q1 := kept_cell hSw q1; replace q2 := kept_cell hSw q2; replace r0 := kept_cell hSw r0; replace r1 := kept_cell hSw r1; replace r2 := kept_cell hSw r2; go_simp; try with_reducible rfl)
        try simp only [Act.put, List.setIfInBounds_toArray, List.set_cons_zero, List.set_cons_succ]
        refine x_take (i := 30) (oi := { dst := some 74, op := Op.move (Operand.tmp 73), type := 4, pos := "law.go:171", after := #[{ on := 29, ground := Ground.data }, { on := 28, ground := Ground.chain }], guard := none }) (v := ?_) rfl (by kernel_rfl) (by kernel_rfl) (by kernel_rfl) (by kernel_rfl) (by kernel_rfl) (fun _ _ _ h => h) (Or.inl ⟨rfl, ?_⟩) (by assumption) ?_
        rotate_left
        · (intro w' hSw; replace q0 := kept_cell hSw q0; replace q1 := kept_cell hSw q1; replace q2 := kept_cell hSw q2; replace r0 := kept_cell hSw r0; replace r1 := kept_cell hSw r1; replace r2 := kept_cell hSw r2; go_simp; try with_reducible rfl)
        try simp only [Act.put, List.setIfInBounds_toArray, List.set_cons_zero, List.set_cons_succ]
        refine x_one (i := 31) (o := { dst := some 75, op := Op.call { callee := Callee.value (Operand.func 14), args := #[], argTypes := #[] }, type := 4, pos := "law.go:171", after := #[{ on := 30, ground := Ground.chain }, { on := 30, ground := Ground.guard }], guard := some (30, true) }) (by kernel_rfl) rfl (fun K hK => ?_)
        (go_simp; go_at_call 14; (with_reducible refine (alive_any _).mono ?_); rintro e w86 ⟨rfl, k6⟩; have KK6 : Kept W5 w86 := kept_trans hHeld k6; try dsimp only)
        refine hK.out _ _ ?_ (fun hHeld => ?_)
        · (try dsimp only); repeat (first | assumption | exact kept_refl _ | refine kept_drew ?_ | refine kept_alloc ?_ _ | refine kept_set ?_ (by omega) _)
        clear hK K
        try simp only [Act.put, List.setIfInBounds_toArray, List.set_cons_zero, List.set_cons_succ]
        refine x_take (i := 32) (oi := { dst := some 76, op := Op.pick (Operand.tmp 74) (Operand.tmp 75) (Operand.const (Value.bool false)), type := 4, pos := "law.go:171", after := #[{ on := 30, ground := Ground.data }, { on := 31, ground := Ground.data }], guard := none }) (v := ?_) rfl (by kernel_rfl) (by kernel_rfl) (by kernel_rfl) (by kernel_rfl) (by kernel_rfl) (fun _ _ _ h => h) (Or.inl ⟨rfl, ?_⟩) (by assumption) ?_
        rotate_left
        · (intro w' hSw; replace q0 := kept_cell hSw q0; replace q1 := kept_cell hSw q1; replace q2 := kept_cell hSw q2; replace r0 := kept_cell hSw r0; replace r1 := kept_cell hSw r1; replace r2 := kept_cell hSw r2; go_simp; try with_reducible rfl)
        try simp only [Act.put, List.setIfInBounds_toArray, List.set_cons_zero, List.set_cons_succ]
        refine x_take (i := 33) (oi := { dst := some 4, op := Op.assign (Operand.tmp 76), type := 4, pos := "law.go:171", after := #[{ on := 32, ground := Ground.data }, { on := 31, ground := Ground.chain }, { on := 0, ground := Ground.phase }, { on := 1, ground := Ground.phase }, { on := 2, ground := Ground.phase }, { on := 3, ground := Ground.phase }, { on := 4, ground := Ground.phase }, { on := 5, ground := Ground.phase }, { on := 6, ground := Ground.phase }, { on := 7, ground := Ground.phase }, { on := 8, ground := Ground.phase }, { on := 9, ground := Ground.phase }, { on := 10, ground := Ground.phase }, { on := 11, ground := Ground.phase }, { on := 12, ground := Ground.phase }, { on := 13, ground := Ground.phase }, { on := 14, ground := Ground.phase }, { on := 15, ground := Ground.phase }, { on := 16, ground := Ground.phase }, { on := 17, ground := Ground.phase }, { on := 18, ground := Ground.phase }, { on := 19, ground := Ground.phase }, { on := 20, ground := Ground.phase }, { on := 21, ground := Ground.phase }, { on := 22, ground := Ground.phase }, { on := 23, ground := Ground.phase }, { on := 24, ground := Ground.phase }, { on := 25, ground := Ground.phase }, { on := 26, ground := Ground.phase }, { on := 27, ground := Ground.phase }, { on := 28, ground := Ground.phase }, { on := 29, ground := Ground.phase }, { on := 30, ground := Ground.phase }, { on := 31, ground := Ground.phase }, { on := 32, ground := Ground.phase }], guard := none }) (v := ?_) rfl (by kernel_rfl) (by kernel_rfl) (by kernel_rfl) (by kernel_rfl) (by kernel_rfl) (fun _ _ _ h => h) (Or.inl ⟨rfl, ?_⟩) (by assumption) ?_
        rotate_left
        · (intro w' hSw; replace q0 := kept_cell hSw q0; replace q1 := kept_cell hSw q1; replace q2 := kept_cell hSw q2; replace r0 := kept_cell hSw r0; replace r1 := kept_cell hSw r1; replace r2 := kept_cell hSw r2; go_simp; try with_reducible rfl)
        try simp only [Act.put, List.setIfInBounds_toArray, List.set_cons_zero, List.set_cons_succ]
        refine x_done (by kernel_rfl) ?_ _
        replace K0 := kept_trans K0 KK6
        go_wp2_with fail
        go_ret
        exact ⟨ret_bool (by simp), K0⟩
end Go.Proofs.Ytinpmdekdfgiiaa
