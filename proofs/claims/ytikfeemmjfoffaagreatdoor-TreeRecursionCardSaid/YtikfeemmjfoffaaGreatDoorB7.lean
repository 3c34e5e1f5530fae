/- Fields: the reference's kit and its operations. -/
import Derived.Test.YtikfeemmjfoffaaGreatDoorB6
import Derived.Test.YtikfeemmjfoffaaGreatDoorG1
set_option linter.unusedVariables false
set_option linter.unusedSimpArgs false
namespace Go.Proofs.YtikfeemmjfoffaaGreatDoor
open Go.RowKit

def kitM (M : Int) : Int := if 1 < M then (modT M.toNat : Nat) else 0
def kV (P M : Int) : Value := .agg #[.int .i64 P, .int .i64 M, .int .i64 (ordF P M), .int .i64 (kitM M)]

theorem b_and1 {b : Nat} (h : b < 1000000) (k : Nat) : (bits BinOp.and .i64 ((b : Int) / 2 ^ k) 1 == 1) = b.testBit k := by
  rw [show ((b : Int) / 2 ^ k) = ((b / 2 ^ k : Nat) : Int) from by simp]
  have h1 : b / 2 ^ k ≤ b := Nat.div_le_self _ _
  rw [and_one (by omega), Nat.testBit, Nat.shiftRight_eq_div_pow]
  rcases Nat.mod_two_eq_zero_or_one (b / 2 ^ k) with e | e <;> simp [e, Nat.and_comm]
set_option maxRecDepth 100000 in
set_option maxHeartbeats 1000000 in
theorem of18_any (P M : Int) (w : World) (ok : okF P M = true) : Calls Tryz.prog 16 #[fV P M] w fun e w' => e = .returned (kV P M) ∧ Kept w w' := by
  have hc := ok_cases ok
  obtain ⟨q, hq⟩ : ∃ q, q = ordF P M := ⟨_, rfl⟩
  have C := Lib.hid fun w' => show Calls Tryz.prog 38 #[fV P M] w' fun e w'' => e = .returned (.int .i64 q) ∧ Kept w' w'' from by rw [hq]; exact rorder36_any P M w'
  have hm : M = 1 ∨ ∃ m : Nat, 2 ≤ m ∧ m ≤ 16 ∧ M = m := by
    rcases hc with ⟨h, _⟩ | ⟨_, m, a, b, c, _⟩
    · exact .inl h
    · exact .inr ⟨m, a, b, c⟩
  unfold kV
  rw [← hq]
  clear hc hq ok
  unfold fV at *
  obtain ⟨W, hW⟩ : ∃ W, W = (w.alloc (.cells #[.int .i64 P, .int .i64 M] 23)).alloc (.cells #[.int .i64 0, .int .i64 0, .int .i64 0, .int .i64 0] 45) := ⟨_, rfl⟩
  have o0 : Own W w.heap.size 23 [.int .i64 P, .int .i64 M] := by rw [hW]; exact (Own.new w 23 _).alloc _
  have o1 : Own W (w.heap.size + 1) 45 [.int .i64 0, .int .i64 0, .int .i64 0, .int .i64 0] := by
    rw [hW]; have := Own.new (w.alloc (.cells #[.int .i64 P, .int .i64 M] 23)) 45 [.int .i64 0, .int .i64 0, .int .i64 0, .int .i64 0]; simpa using this
  have KW : Kept w W := by rw [hW]; exact kept_alloc (kept_alloc (kept_refl w) _) _
  have HW := Lib.hid hW
  clear hW
  have HM := Lib.hid hm
  clear hm
  go_enter Tryz.func16, Tryz.ntmps16
  go_upto_region 1 with fail
  rw [← HW.out]
  have q0 := o0.cell (j := 0) rfl; have q1 := o0.cell (j := 1) rfl
  go_cut [3] (fun s3 wx => ∃ g, s3 = .pointer (some ⟨g, 0, none⟩) ∧ W.heap.size ≤ g ∧ Kept W wx ∧ Own wx g 45 [.int .i64 P, .int .i64 M, .int .i64 q, .int .i64 0])
  case first =>
    refine region_x (fun w' => Kept W w') [] (by kernel_rfl) (kept_drew (kept_refl _)) (fun hHeld => ?_)
    refine x_take (i := 0) (oi := { dst := some 4, op := Op.fieldAddr 23 (Operand.tmp 1) 0, type := 0, pos := "ref.go:65", after := #[], guard := none }) (v := ?_) rfl (by kernel_rfl) (by kernel_rfl) (by kernel_rfl) (by kernel_rfl) (by kernel_rfl) (fun _ _ _ h => h) (Or.inl ⟨rfl, ?_⟩) (by assumption) ?_
    rotate_left
    · (intro w' hSw; replace q0 := kept_cell hSw q0; replace q1 := kept_cell hSw q1; go_simp; try with_reducible rfl)
    try simp only [Act.put, List.setIfInBounds_toArray, List.set_cons_zero, List.set_cons_succ]
    refine x_take (i := 1) (oi := { dst := some 5, op := Op.load 3 (Operand.tmp 4), type := 3, pos := "ref.go:65", after := #[{ on := 0, ground := Ground.data }], guard := none }) (v := ?_) rfl (by kernel_rfl) (by kernel_rfl) (by kernel_rfl) (by kernel_rfl) (by kernel_rfl) (fun _ _ _ h => h) (Or.inl ⟨rfl, ?_⟩) (by assumption) ?_
    rotate_left
    · (intro w' hSw; replace q0 := kept_cell hSw q0; replace q1 := kept_cell hSw q1; go_simp; try with_reducible rfl)
    try simp only [Act.put, List.setIfInBounds_toArray, List.set_cons_zero, List.set_cons_succ]
    refine x_take (i := 2) (oi := { dst := some 6, op := Op.fieldAddr 23 (Operand.tmp 1) 1, type := 0, pos := "ref.go:65", after := #[], guard := none }) (v := ?_) rfl (by kernel_rfl) (by kernel_rfl) (by kernel_rfl) (by kernel_rfl) (by kernel_rfl) (fun _ _ _ h => h) (Or.inl ⟨rfl, ?_⟩) (by assumption) ?_
    rotate_left
    · (intro w' hSw; replace q0 := kept_cell hSw q0; replace q1 := kept_cell hSw q1; go_simp; try with_reducible rfl)
    try simp only [Act.put, List.setIfInBounds_toArray, List.set_cons_zero, List.set_cons_succ]
    refine x_take (i := 3) (oi := { dst := some 7, op := Op.load 3 (Operand.tmp 6), type := 3, pos := "ref.go:65", after := #[{ on := 2, ground := Ground.data }], guard := none }) (v := ?_) rfl (by kernel_rfl) (by kernel_rfl) (by kernel_rfl) (by kernel_rfl) (by kernel_rfl) (fun _ _ _ h => h) (Or.inl ⟨rfl, ?_⟩) (by assumption) ?_
    rotate_left
    · (intro w' hSw; replace q0 := kept_cell hSw q0; replace q1 := kept_cell hSw q1; go_simp; try with_reducible rfl)
    try simp only [Act.put, List.setIfInBounds_toArray, List.set_cons_zero, List.set_cons_succ]
    refine x_take (i := 4) (oi := { dst := some 8, op := Op.load 23 (Operand.tmp 1), type := 23, pos := "ref.go:65", after := #[], guard := none }) (v := ?_) rfl (by kernel_rfl) (by kernel_rfl) (by kernel_rfl) (by kernel_rfl) (by kernel_rfl) (fun _ _ _ h => h) (Or.inl ⟨rfl, ?_⟩) (by assumption) ?_
    rotate_left
    · (intro w' hSw; replace q0 := kept_cell hSw q0; replace q1 := kept_cell hSw q1; go_simp; try with_reducible rfl)
    try simp only [Act.put, List.setIfInBounds_toArray, List.set_cons_zero, List.set_cons_succ]
    refine x_two (i := 5) (j := 7) (oi := { dst := some 9, op := Op.call { callee := Callee.value (Operand.func 38), args := #[Operand.tmp 8], argTypes := #[23] }, type := 3, pos := "ref.go:65", after := #[{ on := 4, ground := Ground.data }], guard := none }) (oj := { dst := some 3, op := Op.alloc 45, type := 0, pos := "ref.go:65", after := #[], guard := none }) (by kernel_rfl) rfl rfl (fun K hK => ?_) (fun K hK => ?_)
    · (go_simp; go_at_call 38; (with_reducible refine (C.out _).mono ?_); rintro e w3 ⟨rfl, k3⟩; have KK3 : Kept W w3 := kept_trans hHeld k3; (try replace oA := oA.kept k3); try dsimp only)
      refine hK.out _ _ ?_ (fun hHeld => ?_)
      · (try dsimp only); repeat (first | assumption | exact kept_refl _ | refine kept_drew ?_ | refine kept_alloc ?_ _ | refine kept_set ?_ (by omega) _)
      clear hK K
      try simp only [Act.put, List.setIfInBounds_toArray, List.set_cons_zero, List.set_cons_succ]
      refine x_take (i := 6) (oi := { dst := some 10, op := Op.build 45 #[(0, Operand.tmp 5), (1, Operand.tmp 7), (2, Operand.tmp 9)], type := 45, pos := "ref.go:65", after := #[{ on := 1, ground := Ground.data }, { on := 3, ground := Ground.data }, { on := 5, ground := Ground.data }], guard := none }) (v := ?_) rfl (by kernel_rfl) (by kernel_rfl) (by kernel_rfl) (by kernel_rfl) (by kernel_rfl) (fun _ _ _ h => h) (Or.inl ⟨rfl, ?_⟩) (by assumption) ?_
      rotate_left
      · (intro w' hSw; replace q0 := kept_cell hSw q0; replace q1 := kept_cell hSw q1; go_simp; try with_reducible rfl)
      try simp only [Act.put, List.setIfInBounds_toArray, List.set_cons_zero, List.set_cons_succ]
      refine x_one (i := 7) (o := { dst := some 3, op := Op.alloc 45, type := 0, pos := "ref.go:65", after := #[], guard := none }) (by kernel_rfl) rfl (fun K hK => ?_)
      ((first | have oA := Own.new w3 45 [.int .i64 0, .int .i64 0, .int .i64 0, .int .i64 0] | have oA : Own (W.drew.alloc (.cells #[.int .i64 0, .int .i64 0, .int .i64 0, .int .i64 0] 45)) W.heap.size 45 [.int .i64 0, .int .i64 0, .int .i64 0, .int .i64 0] := Own.new W.drew 45 [.int .i64 0, .int .i64 0, .int .i64 0, .int .i64 0]); go_simp)
      refine hK.out _ _ ?_ (fun hHeld => ?_)
      · (try dsimp only); repeat (first | assumption | exact kept_refl _ | refine kept_drew ?_ | refine kept_alloc ?_ _ | refine kept_set ?_ (by omega) _)
      clear hK K
      try simp only [Act.put, List.setIfInBounds_toArray, List.set_cons_zero, List.set_cons_succ]
      refine x_one (i := 8) (o := { dst := none, op := Op.store 45 (Operand.tmp 3) (Operand.tmp 10), type := 0, pos := "ref.go:65", after := #[{ on := 7, ground := Ground.data }, { on := 6, ground := Ground.data }, { on := 5, ground := Ground.chain }, { on := 0, ground := Ground.phase }, { on := 1, ground := Ground.phase }, { on := 2, ground := Ground.phase }, { on := 3, ground := Ground.phase }, { on := 4, ground := Ground.phase }, { on := 5, ground := Ground.phase }, { on := 6, ground := Ground.phase }, { on := 7, ground := Ground.phase }], guard := none }) (by kernel_rfl) rfl (fun K hK => ?_)
      (have z0 := oA.cell (j := 0) rfl; have z1 := oA.cell (j := 1) rfl; have z2 := oA.cell (j := 2) rfl; have z3 := oA.cell (j := 3) rfl; have f0 := oA.frozen 0; have f1 := oA.frozen 1; have f2 := oA.frozen 2; have f3 := oA.frozen 3; have s0 := oA.lt; have s1 := hHeld.size; go_simp)
      refine hK.out _ _ ?_ (fun hHeld => ?_)
      · (try dsimp only); repeat (first | assumption | exact kept_refl _ | refine kept_drew ?_ | refine kept_alloc ?_ _ | refine kept_set ?_ (by omega) _)
      clear hK K
      try simp only [Act.put, List.setIfInBounds_toArray, List.set_cons_zero, List.set_cons_succ]
      refine x_done (by kernel_rfl) ?_ _
      (go_wp2_with fail; go_meet; first | exact ⟨_, rfl, KK3.size, hHeld, Own.new w3 45 _⟩ | exact ⟨W.heap.size, rfl, Nat.le_refl _, hHeld, (((oA.set 0 _).set 1 _).set 2 _).set 3 _⟩)
    · ((first | have oA := Own.new w3 45 [.int .i64 0, .int .i64 0, .int .i64 0, .int .i64 0] | have oA : Own (W.drew.alloc (.cells #[.int .i64 0, .int .i64 0, .int .i64 0, .int .i64 0] 45)) W.heap.size 45 [.int .i64 0, .int .i64 0, .int .i64 0, .int .i64 0] := Own.new W.drew 45 [.int .i64 0, .int .i64 0, .int .i64 0, .int .i64 0]); go_simp)
      refine hK.out _ _ ?_ (fun hHeld => ?_)
      · (try dsimp only); repeat (first | assumption | exact kept_refl _ | refine kept_drew ?_ | refine kept_alloc ?_ _ | refine kept_set ?_ (by omega) _)
      clear hK K
      try simp only [Act.put, List.setIfInBounds_toArray, List.set_cons_zero, List.set_cons_succ]
      refine x_one (i := 5) (o := { dst := some 9, op := Op.call { callee := Callee.value (Operand.func 38), args := #[Operand.tmp 8], argTypes := #[23] }, type := 3, pos := "ref.go:65", after := #[{ on := 4, ground := Ground.data }], guard := none }) (by kernel_rfl) rfl (fun K hK => ?_)
      (go_simp; go_at_call 38; (with_reducible refine (C.out _).mono ?_); rintro e w3 ⟨rfl, k3⟩; have KK3 : Kept W w3 := kept_trans hHeld k3; (try replace oA := oA.kept k3); try dsimp only)
      refine hK.out _ _ ?_ (fun hHeld => ?_)
      · (try dsimp only); repeat (first | assumption | exact kept_refl _ | refine kept_drew ?_ | refine kept_alloc ?_ _ | refine kept_set ?_ (by omega) _)
      clear hK K
      try simp only [Act.put, List.setIfInBounds_toArray, List.set_cons_zero, List.set_cons_succ]
      refine x_take (i := 6) (oi := { dst := some 10, op := Op.build 45 #[(0, Operand.tmp 5), (1, Operand.tmp 7), (2, Operand.tmp 9)], type := 45, pos := "ref.go:65", after := #[{ on := 1, ground := Ground.data }, { on := 3, ground := Ground.data }, { on := 5, ground := Ground.data }], guard := none }) (v := ?_) rfl (by kernel_rfl) (by kernel_rfl) (by kernel_rfl) (by kernel_rfl) (by kernel_rfl) (fun _ _ _ h => h) (Or.inl ⟨rfl, ?_⟩) (by assumption) ?_
      rotate_left
      · (intro w' hSw; replace q0 := kept_cell hSw q0; replace q1 := kept_cell hSw q1; go_simp; try with_reducible rfl)
      try simp only [Act.put, List.setIfInBounds_toArray, List.set_cons_zero, List.set_cons_succ]
      refine x_one (i := 8) (o := { dst := none, op := Op.store 45 (Operand.tmp 3) (Operand.tmp 10), type := 0, pos := "ref.go:65", after := #[{ on := 7, ground := Ground.data }, { on := 6, ground := Ground.data }, { on := 5, ground := Ground.chain }, { on := 0, ground := Ground.phase }, { on := 1, ground := Ground.phase }, { on := 2, ground := Ground.phase }, { on := 3, ground := Ground.phase }, { on := 4, ground := Ground.phase }, { on := 5, ground := Ground.phase }, { on := 6, ground := Ground.phase }, { on := 7, ground := Ground.phase }], guard := none }) (by kernel_rfl) rfl (fun K hK => ?_)
      (have z0 := oA.cell (j := 0) rfl; have z1 := oA.cell (j := 1) rfl; have z2 := oA.cell (j := 2) rfl; have z3 := oA.cell (j := 3) rfl; have f0 := oA.frozen 0; have f1 := oA.frozen 1; have f2 := oA.frozen 2; have f3 := oA.frozen 3; have s0 := oA.lt; have s1 := hHeld.size; go_simp)
      refine hK.out _ _ ?_ (fun hHeld => ?_)
      · (try dsimp only); repeat (first | assumption | exact kept_refl _ | refine kept_drew ?_ | refine kept_alloc ?_ _ | refine kept_set ?_ (by omega) _)
      clear hK K
      try simp only [Act.put, List.setIfInBounds_toArray, List.set_cons_zero, List.set_cons_succ]
      refine x_done (by kernel_rfl) ?_ _
      (go_wp2_with fail; go_meet; first | exact ⟨_, rfl, KK3.size, hHeld, Own.new w3 45 _⟩ | exact ⟨W.heap.size, rfl, Nat.le_refl _, hHeld, (((oA.set 0 _).set 1 _).set 2 _).set 3 _⟩)
  case rest =>
    obtain ⟨g, rfl, hg, KX, oX⟩ := hcut
    have b0 := o0.kept KX
    have bw := o1.kept KX
    have hlt1 := o1.lt
    obtain ⟨wx, rfl⟩ : ∃ wx : World, wx = wc := ⟨_, rfl⟩
    have hlt2 := oX.lt
    have hbx := bw.lt
    clear q0 q1 o0 o1
    have q1 := b0.cell (j := 1) rfl; have q0 := b0.cell (j := 0) rfl
    have x0 := oX.cell (j := 0) rfl; have x1 := oX.cell (j := 1) rfl; have x2 := oX.cell (j := 2) rfl; have x3 := oX.cell (j := 3) rfl
    have f3 := oX.frozen 3
    have y0 := bw.cell (j := 0) rfl; have y1 := bw.cell (j := 1) rfl; have y2 := bw.cell (j := 2) rfl; have y3 := bw.cell (j := 3) rfl
    have g0 := bw.frozen 0; have g1 := bw.frozen 1; have g2 := bw.frozen 2; have g3 := bw.frozen 3
    have hm := HM.out
    clear HM
    rcases hm with rfl | ⟨m, m1, m2, rfl⟩
    · go_wp2_with fail
      have KC := kept_trans KW KX
      have oF := (((bw.set 0 (.int .i64 P)).set 1 (.int .i64 1)).set 2 (.int .i64 q)).set 3 (.int .i64 0)
      have KF := kept_set (g := w.heap.size + 1) (j := 3) (kept_set (g := w.heap.size + 1) (j := 2) (kept_set (g := w.heap.size + 1) (j := 1) (kept_set (g := w.heap.size + 1) (j := 0) KC (by omega) (.int .i64 P)) (by omega) (.int .i64 1)) (by omega) (.int .i64 q)) (by omega) (.int .i64 0)
      obtain ⟨W2, hW2⟩ : ∃ W2, W2 = (((wx.setCell ⟨w.heap.size + 1, 0, none⟩ (.int .i64 P)).setCell ⟨w.heap.size + 1, 1, none⟩ (.int .i64 1)).setCell ⟨w.heap.size + 1, 2, none⟩ (.int .i64 q)).setCell ⟨w.heap.size + 1, 3, none⟩ (.int .i64 0) := ⟨_, rfl⟩
      rw [← hW2] at oF KF ⊢
      have r0 := oF.cell (j := 0) rfl; have r1 := oF.cell (j := 1) rfl; have r2 := oF.cell (j := 2) rfl; have r3 := oF.cell (j := 3) rfl
      exact bodyPost_ret (v := .agg #[.int .i64 P, .int .i64 1, .int .i64 q, .int .i64 0]) (by simp [results, Tryz.results18, go_sem, r0, r1, r2, r3]) rfl ⟨rfl, KF⟩
    · have CM := Lib.hid fun w' => modulus50_any m w' m1 m2
      go_wp2_with (go_at_call 43; ((with_reducible refine (CM.out _).mono ?_); rintro e w1 ⟨rfl, rfl⟩))
      have KC : Kept w (wx.setCell ⟨g, 3, none⟩ (.int .i64 (modT m))) := kept_set (g := g) (j := 3) (kept_trans KW KX) (by have := KW.size; omega) _
      have bw2 := bw.other (a := ⟨g, 3, none⟩) (by dsimp only; omega) (.int .i64 (modT m))
      have oF := (((bw2.set 0 (.int .i64 P)).set 1 (.int .i64 m)).set 2 (.int .i64 q)).set 3 (.int .i64 (modT m))
      have KF := kept_set (g := w.heap.size + 1) (j := 3) (kept_set (g := w.heap.size + 1) (j := 2) (kept_set (g := w.heap.size + 1) (j := 1) (kept_set (g := w.heap.size + 1) (j := 0) KC (by omega) (.int .i64 P)) (by omega) (.int .i64 m)) (by omega) (.int .i64 q)) (by omega) (.int .i64 (modT m))
      obtain ⟨W2, hW2⟩ : ∃ W2, W2 = ((((wx.setCell ⟨g, 3, none⟩ (.int .i64 (modT m))).setCell ⟨w.heap.size + 1, 0, none⟩ (.int .i64 P)).setCell ⟨w.heap.size + 1, 1, none⟩ (.int .i64 m)).setCell ⟨w.heap.size + 1, 2, none⟩ (.int .i64 q)).setCell ⟨w.heap.size + 1, 3, none⟩ (.int .i64 (modT m)) := ⟨_, rfl⟩
      rw [← hW2] at oF KF ⊢
      have r0 := oF.cell (j := 0) rfl; have r1 := oF.cell (j := 1) rfl; have r2 := oF.cell (j := 2) rfl; have r3 := oF.cell (j := 3) rfl
      exact bodyPost_ret (v := .agg #[.int .i64 P, .int .i64 m, .int .i64 q, .int .i64 (modT m)]) (by simp [results, Tryz.results18, go_sem, r0, r1, r2, r3]) rfl ⟨by rw [show kitM (m : Int) = (modT m : Nat) by unfold kitM; rw [if_pos (by omega), Int.toNat_natCast]], KF⟩
end Go.Proofs.YtikfeemmjfoffaaGreatDoor
