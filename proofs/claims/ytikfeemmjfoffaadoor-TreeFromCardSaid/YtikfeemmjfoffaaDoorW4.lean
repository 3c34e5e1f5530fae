/- Trees: the reference's Value at an inner node. -/
import Derived.Test.YtikfeemmjfoffaaDoorW3
set_option linter.unusedVariables false
set_option linter.unusedSimpArgs false
namespace Go.Proofs.YtikfeemmjfoffaaDoor
open Go.RowKit

theorem w64_nat {n : Nat} (h : n ≤ 1000000000) : wrap64 (n : Int) = (n : Int) := by unfold wrap64; omega
theorem iw_nat {n : Nat} (h : n ≤ 1000000000) : IntKind.i64.wrap (n : Int) = (n : Int) := IntWalk.i64_in _ (by omega)
theorem shl_mul {x b y : Nat} (hy : y = x * 2 ^ b) (hl : y ≤ 1000000000) : wrap64 ((x : Int) * 2 ^ b) = (y : Int) ∧ IntKind.i64.wrap ((x : Int) * 2 ^ b) = (y : Int) := by
  have e : (x : Int) * 2 ^ b = (y : Int) := by rw [hy]; simp
  rw [e]
  exact ⟨w64_nat hl, iw_nat hl⟩
theorem w_add {a b c : Nat} (h : a + b = c) (hl : c ≤ 1000000000) : wrap64 ((a : Int) + (b : Int)) = (c : Int) ∧ IntKind.i64.wrap ((a : Int) + (b : Int)) = (c : Int) := by
  have e : (a : Int) + (b : Int) = (c : Int) := by rw [← h]; simp
  rw [e]; exact ⟨w64_nat hl, iw_nat hl⟩
theorem w_two {a c : Nat} (h : 2 * a = c) (hl : c ≤ 1000000000) : wrap64 (2 * (a : Int)) = (c : Int) ∧ IntKind.i64.wrap (2 * (a : Int)) = (c : Int) := by
  have e : 2 * (a : Int) = (c : Int) := by rw [← h]; simp
  rw [e]; exact ⟨w64_nat hl, iw_nat hl⟩
theorem w_one {a c : Nat} (h : a + 1 = c) (hl : c ≤ 1000000000) : wrap64 ((a : Int) + 1) = (c : Int) ∧ IntKind.i64.wrap ((a : Int) + 1) = (c : Int) := w_add (b := 1) h hl
theorem w_two' {a c : Nat} (h : a + 2 = c) (hl : c ≤ 1000000000) : wrap64 ((a : Int) + 2) = (c : Int) ∧ IntKind.i64.wrap ((a : Int) + 2) = (c : Int) := w_add (b := 2) h hl

set_option maxRecDepth 100000 in
set_option maxHeartbeats 1000000 in
theorem value19_node (h : Int) (bn : Nat) (A : Option Addr) (c ll : Nat) (T : Option Addr) (d tl : Nat) (n n2 n3 n4 x1 x2 y z : Nat) (L : List Int) (w : World)
    (hT : ∃ b off A1 c1, T = some ⟨b, off, none⟩ ∧ w.cell? ⟨b, off + n, none⟩ = some (.slice A1 L.length c1) ∧ Rd w A1 (ints L))
    (hn : n < tl) (s1 : IntKind.i64.wrap ((x1 : Int) * 2 ^ bn) = (y : Int)) (s3 : IntKind.i64.wrap ((y : Int) + (x2 : Int)) = (z : Int))
    (m1 : IntKind.i64.wrap (2 * (n : Int)) = (n2 : Int)) (m2 : IntKind.i64.wrap ((n2 : Int) + 1) = (n3 : Int)) (m3 : IntKind.i64.wrap ((n2 : Int) + 2) = (n4 : Int))
    (hlen : z < L.length) (hbn : bn ≤ 6)
    (C1 : ∀ w', Kept w w' → Calls Tryd.prog 19 #[.agg #[.int .i64 h, .int .i64 bn, .slice A ll c, .slice T tl d], .int .i64 (n3 : Int)] w' fun e w'' => e = .returned (.int .i64 x1) ∧ Kept w' w'')
    (C2 : ∀ w', Kept w w' → Calls Tryd.prog 19 #[.agg #[.int .i64 h, .int .i64 bn, .slice A ll c, .slice T tl d], .int .i64 (n4 : Int)] w' fun e w'' => e = .returned (.int .i64 x2) ∧ Kept w' w'') :
    Calls Tryd.prog 19 #[.agg #[.int .i64 h, .int .i64 bn, .slice A ll c, .slice T tl d], .int .i64 n] w fun e w' => e = .returned (.int .i64 (ia L z)) ∧ Kept w w' := by
  have o0 := Own.new w 25 [.int .i64 h, .int .i64 bn, .slice A ll c, .slice T tl d]
  obtain ⟨W0, hW0⟩ : ∃ x, x = w.alloc (.cells #[.int .i64 h, .int .i64 bn, .slice A ll c, .slice T tl d] 25) := ⟨_, rfl⟩
  have K0 : Kept w W0 := by rw [hW0]; exact kept_alloc (kept_refl w) _
  obtain ⟨tb1, toff, A1, c1, rfl, t0', r1⟩ := hT
  have t0 := kept_cell K0 t0'
  have q0 := o0.cell (j := 0) rfl; have q1 := o0.cell (j := 1) rfl; have q2 := o0.cell (j := 2) rfl; have q3 := o0.cell (j := 3) rfl
  obtain ⟨ba1, of1, rfl, h1⟩ := (r1.kept K0).int hlen
  have a0 := h1 z hlen
  have D1 := Lib.hid C1; have D2 := Lib.hid C2
  have g1 : decide ((tl : Int) ≤ (n : Int)) = false := decide_eq_false (by omega)
  have g2 : decide (tl ≤ n) = false := decide_eq_false (by omega)
  rw [← hW0] at q0 q1 q2 q3
  clear C1 C2 r1 h1 o0 t0'
  go_enter Tryd.func19, Tryd.ntmps19
  go_upto_region 3 with (fail)
  rw [← hW0]; clear hW0
  refine region_x (fun w' => Kept W0 w') [] (by kernel_rfl) (kept_drew (kept_refl _)) (fun hHeld => ?_)
  refine x_take (i := 0) (oi := { dst := some 19, op := Op.fieldAddr 25 (Operand.tmp 2) 3, type := 0, pos := "ref.go:38", after := #[], guard := none }) (v := ?_) rfl (by kernel_rfl) (by kernel_rfl) (by kernel_rfl) (by kernel_rfl) (by kernel_rfl) (fun _ _ _ h => h) (Or.inl ⟨rfl, ?_⟩) (by assumption) ?_
  rotate_left
  · (intro w' hSw; replace q0 := kept_cell hSw q0; replace q1 := kept_cell hSw q1; replace q2 := kept_cell hSw q2; replace q3 := kept_cell hSw q3; replace t0 := kept_cell hSw t0; replace a0 := kept_cell hSw a0; go_simp; try with_reducible rfl)
  try simp only [Act.put, List.setIfInBounds_toArray, List.set_cons_zero, List.set_cons_succ]
  refine x_take (i := 1) (oi := { dst := some 20, op := Op.load 23 (Operand.tmp 19), type := 23, pos := "ref.go:38", after := #[{ on := 0, ground := Ground.data }], guard := none }) (v := ?_) rfl (by kernel_rfl) (by kernel_rfl) (by kernel_rfl) (by kernel_rfl) (by kernel_rfl) (fun _ _ _ h => h) (Or.inl ⟨rfl, ?_⟩) (by assumption) ?_
  rotate_left
  · (intro w' hSw; replace q0 := kept_cell hSw q0; replace q1 := kept_cell hSw q1; replace q2 := kept_cell hSw q2; replace q3 := kept_cell hSw q3; replace t0 := kept_cell hSw t0; replace a0 := kept_cell hSw a0; go_simp; try with_reducible rfl)
  try simp only [Act.put, List.setIfInBounds_toArray, List.set_cons_zero, List.set_cons_succ]
  refine x_take (i := 2) (oi := { dst := some 21, op := Op.move (Operand.tmp 1), type := 3, pos := "ref.go:38", after := #[], guard := none }) (v := ?_) rfl (by kernel_rfl) (by kernel_rfl) (by kernel_rfl) (by kernel_rfl) (by kernel_rfl) (fun _ _ _ h => h) (Or.inl ⟨rfl, ?_⟩) (by assumption) ?_
  rotate_left
  · (intro w' hSw; replace q0 := kept_cell hSw q0; replace q1 := kept_cell hSw q1; replace q2 := kept_cell hSw q2; replace q3 := kept_cell hSw q3; replace t0 := kept_cell hSw t0; replace a0 := kept_cell hSw a0; go_simp; try with_reducible rfl)
  try simp only [Act.put, List.setIfInBounds_toArray, List.set_cons_zero, List.set_cons_succ]
  refine x_take (i := 3) (oi := { dst := some 22, op := Op.indexAddr 23 (Operand.tmp 20) (Operand.tmp 21), type := 0, pos := "ref.go:38", after := #[{ on := 1, ground := Ground.data }, { on := 2, ground := Ground.data }], guard := none }) (v := ?_) rfl (by kernel_rfl) (by kernel_rfl) (by kernel_rfl) (by kernel_rfl) (by kernel_rfl) (fun _ _ _ h => h) (Or.inl ⟨rfl, ?_⟩) (by assumption) ?_
  rotate_left
  · (intro w' hSw; replace q0 := kept_cell hSw q0; replace q1 := kept_cell hSw q1; replace q2 := kept_cell hSw q2; replace q3 := kept_cell hSw q3; replace t0 := kept_cell hSw t0; replace a0 := kept_cell hSw a0; go_simp; try with_reducible rfl)
  try simp only [Act.put, List.setIfInBounds_toArray, List.set_cons_zero, List.set_cons_succ]
  refine x_take (i := 4) (oi := { dst := some 23, op := Op.load 22 (Operand.tmp 22), type := 22, pos := "ref.go:38", after := #[{ on := 3, ground := Ground.data }], guard := none }) (v := ?_) rfl (by kernel_rfl) (by kernel_rfl) (by kernel_rfl) (by kernel_rfl) (by kernel_rfl) (fun _ _ _ h => h) (Or.inl ⟨rfl, ?_⟩) (by assumption) ?_
  rotate_left
  · (intro w' hSw; replace q0 := kept_cell hSw q0; replace q1 := kept_cell hSw q1; replace q2 := kept_cell hSw q2; replace q3 := kept_cell hSw q3; replace t0 := kept_cell hSw t0; replace a0 := kept_cell hSw a0; go_simp; try with_reducible rfl)
  try simp only [Act.put, List.setIfInBounds_toArray, List.set_cons_zero, List.set_cons_succ]
  refine x_take (i := 5) (oi := { dst := some 24, op := Op.load 25 (Operand.tmp 2), type := 25, pos := "ref.go:38", after := #[], guard := none }) (v := ?_) rfl (by kernel_rfl) (by kernel_rfl) (by kernel_rfl) (by kernel_rfl) (by kernel_rfl) (fun _ _ _ h => h) (Or.inl ⟨rfl, ?_⟩) (by assumption) ?_
  rotate_left
  · (intro w' hSw; replace q0 := kept_cell hSw q0; replace q1 := kept_cell hSw q1; replace q2 := kept_cell hSw q2; replace q3 := kept_cell hSw q3; replace t0 := kept_cell hSw t0; replace a0 := kept_cell hSw a0; go_simp; try with_reducible rfl)
  try simp only [Act.put, List.setIfInBounds_toArray, List.set_cons_zero, List.set_cons_succ]
  refine x_take (i := 6) (oi := { dst := some 25, op := Op.move (Operand.tmp 1), type := 3, pos := "ref.go:38", after := #[], guard := none }) (v := ?_) rfl (by kernel_rfl) (by kernel_rfl) (by kernel_rfl) (by kernel_rfl) (by kernel_rfl) (fun _ _ _ h => h) (Or.inl ⟨rfl, ?_⟩) (by assumption) ?_
  rotate_left
  · (intro w' hSw; replace q0 := kept_cell hSw q0; replace q1 := kept_cell hSw q1; replace q2 := kept_cell hSw q2; replace q3 := kept_cell hSw q3; replace t0 := kept_cell hSw t0; replace a0 := kept_cell hSw a0; go_simp; try with_reducible rfl)
  try simp only [Act.put, List.setIfInBounds_toArray, List.set_cons_zero, List.set_cons_succ]
  refine x_take (i := 7) (oi := { dst := some 26, op := Op.binOp BinOp.mul 3 (Operand.const (Value.int IntKind.i64 2)) (Operand.tmp 25) 3, type := 3, pos := "ref.go:38", after := #[{ on := 6, ground := Ground.data }], guard := none }) (v := ?_) rfl (by kernel_rfl) (by kernel_rfl) (by kernel_rfl) (by kernel_rfl) (by kernel_rfl) (fun _ _ _ h => h) (Or.inl ⟨rfl, ?_⟩) (by assumption) ?_
  rotate_left
  · (intro w' hSw; replace q0 := kept_cell hSw q0; replace q1 := kept_cell hSw q1; replace q2 := kept_cell hSw q2; replace q3 := kept_cell hSw q3; replace t0 := kept_cell hSw t0; replace a0 := kept_cell hSw a0; go_simp; try with_reducible rfl)
  try simp only [Act.put, List.setIfInBounds_toArray, List.set_cons_zero, List.set_cons_succ]
  refine x_take (i := 8) (oi := { dst := some 27, op := Op.binOp BinOp.add 3 (Operand.tmp 26) (Operand.const (Value.int IntKind.i64 1)) 3, type := 3, pos := "ref.go:38", after := #[{ on := 7, ground := Ground.data }], guard := none }) (v := ?_) rfl (by kernel_rfl) (by kernel_rfl) (by kernel_rfl) (by kernel_rfl) (by kernel_rfl) (fun _ _ _ h => h) (Or.inl ⟨rfl, ?_⟩) (by assumption) ?_
  rotate_left
  · (intro w' hSw; replace q0 := kept_cell hSw q0; replace q1 := kept_cell hSw q1; replace q2 := kept_cell hSw q2; replace q3 := kept_cell hSw q3; replace t0 := kept_cell hSw t0; replace a0 := kept_cell hSw a0; go_simp; try with_reducible rfl)
  try simp only [Act.put, List.setIfInBounds_toArray, List.set_cons_zero, List.set_cons_succ]
  refine x_take (i := 10) (oi := { dst := some 29, op := Op.fieldAddr 25 (Operand.tmp 2) 1, type := 0, pos := "ref.go:38", after := #[], guard := none }) (v := ?_) rfl (by kernel_rfl) (by kernel_rfl) (by kernel_rfl) (by kernel_rfl) (by kernel_rfl) (fun _ _ _ h => h) (Or.inl ⟨rfl, ?_⟩) (by assumption) ?_
  rotate_left
  · (intro w' hSw; replace q0 := kept_cell hSw q0; replace q1 := kept_cell hSw q1; replace q2 := kept_cell hSw q2; replace q3 := kept_cell hSw q3; replace t0 := kept_cell hSw t0; replace a0 := kept_cell hSw a0; go_simp; try with_reducible rfl)
  try simp only [Act.put, List.setIfInBounds_toArray, List.set_cons_zero, List.set_cons_succ]
  refine x_take (i := 11) (oi := { dst := some 30, op := Op.load 3 (Operand.tmp 29), type := 3, pos := "ref.go:38", after := #[{ on := 10, ground := Ground.data }], guard := none }) (v := ?_) rfl (by kernel_rfl) (by kernel_rfl) (by kernel_rfl) (by kernel_rfl) (by kernel_rfl) (fun _ _ _ h => h) (Or.inl ⟨rfl, ?_⟩) (by assumption) ?_
  rotate_left
  · (intro w' hSw; replace q0 := kept_cell hSw q0; replace q1 := kept_cell hSw q1; replace q2 := kept_cell hSw q2; replace q3 := kept_cell hSw q3; replace t0 := kept_cell hSw t0; replace a0 := kept_cell hSw a0; go_simp; try with_reducible rfl)
  try simp only [Act.put, List.setIfInBounds_toArray, List.set_cons_zero, List.set_cons_succ]
  refine x_take (i := 13) (oi := { dst := some 32, op := Op.load 25 (Operand.tmp 2), type := 25, pos := "ref.go:38", after := #[], guard := none }) (v := ?_) rfl (by kernel_rfl) (by kernel_rfl) (by kernel_rfl) (by kernel_rfl) (by kernel_rfl) (fun _ _ _ h => h) (Or.inl ⟨rfl, ?_⟩) (by assumption) ?_
  rotate_left
  · (intro w' hSw; replace q0 := kept_cell hSw q0; replace q1 := kept_cell hSw q1; replace q2 := kept_cell hSw q2; replace q3 := kept_cell hSw q3; replace t0 := kept_cell hSw t0; replace a0 := kept_cell hSw a0; go_simp; try with_reducible rfl)
  try simp only [Act.put, List.setIfInBounds_toArray, List.set_cons_zero, List.set_cons_succ]
  refine x_take (i := 14) (oi := { dst := some 33, op := Op.move (Operand.tmp 1), type := 3, pos := "ref.go:38", after := #[], guard := none }) (v := ?_) rfl (by kernel_rfl) (by kernel_rfl) (by kernel_rfl) (by kernel_rfl) (by kernel_rfl) (fun _ _ _ h => h) (Or.inl ⟨rfl, ?_⟩) (by assumption) ?_
  rotate_left
  · (intro w' hSw; replace q0 := kept_cell hSw q0; replace q1 := kept_cell hSw q1; replace q2 := kept_cell hSw q2; replace q3 := kept_cell hSw q3; replace t0 := kept_cell hSw t0; replace a0 := kept_cell hSw a0; go_simp; try with_reducible rfl)
  try simp only [Act.put, List.setIfInBounds_toArray, List.set_cons_zero, List.set_cons_succ]
  refine x_take (i := 15) (oi := { dst := some 34, op := Op.binOp BinOp.mul 3 (Operand.const (Value.int IntKind.i64 2)) (Operand.tmp 33) 3, type := 3, pos := "ref.go:38", after := #[{ on := 14, ground := Ground.data }], guard := none }) (v := ?_) rfl (by kernel_rfl) (by kernel_rfl) (by kernel_rfl) (by kernel_rfl) (by kernel_rfl) (fun _ _ _ h => h) (Or.inl ⟨rfl, ?_⟩) (by assumption) ?_
  rotate_left
  · (intro w' hSw; replace q0 := kept_cell hSw q0; replace q1 := kept_cell hSw q1; replace q2 := kept_cell hSw q2; replace q3 := kept_cell hSw q3; replace t0 := kept_cell hSw t0; replace a0 := kept_cell hSw a0; go_simp; try with_reducible rfl)
  try simp only [Act.put, List.setIfInBounds_toArray, List.set_cons_zero, List.set_cons_succ]
  refine x_take (i := 16) (oi := { dst := some 35, op := Op.binOp BinOp.add 3 (Operand.tmp 34) (Operand.const (Value.int IntKind.i64 2)) 3, type := 3, pos := "ref.go:38", after := #[{ on := 15, ground := Ground.data }], guard := none }) (v := ?_) rfl (by kernel_rfl) (by kernel_rfl) (by kernel_rfl) (by kernel_rfl) (by kernel_rfl) (fun _ _ _ h => h) (Or.inl ⟨rfl, ?_⟩) (by assumption) ?_
  rotate_left
  · (intro w' hSw; replace q0 := kept_cell hSw q0; replace q1 := kept_cell hSw q1; replace q2 := kept_cell hSw q2; replace q3 := kept_cell hSw q3; replace t0 := kept_cell hSw t0; replace a0 := kept_cell hSw a0; go_simp; try with_reducible rfl)
  try simp only [Act.put, List.setIfInBounds_toArray, List.set_cons_zero, List.set_cons_succ]
  refine x_one (i := 9) (o := { dst := some 28, op := Op.call { callee := Callee.value (Operand.func 19), args := #[Operand.tmp 24, Operand.tmp 27], argTypes := #[25, 3] }, type := 3, pos := "ref.go:38", after := #[{ on := 5, ground := Ground.data }, { on := 8, ground := Ground.data }], guard := none }) (by kernel_rfl) rfl (fun K hK => ?_)
  (go_simp; go_at_call 19; (with_reducible refine (D1.out _ (kept_trans K0 hHeld)).mono ?_); rintro e w50 ⟨rfl, k9⟩; have KK9 : Kept W0 w50 := kept_trans hHeld k9; try dsimp only)
  refine hK.out _ _ ?_ (fun hHeld => ?_)
  · (try dsimp only); repeat (first | assumption | exact kept_refl _ | refine kept_drew ?_ | refine kept_alloc ?_ _ | refine kept_set ?_ (by omega) _)
  clear hK K
  try simp only [Act.put, List.setIfInBounds_toArray, List.set_cons_zero, List.set_cons_succ]
  refine x_take (i := 12) (oi := { dst := some 31, op := Op.binOp BinOp.shl 3 (Operand.tmp 28) (Operand.tmp 30) 3, type := 3, pos := "ref.go:38", after := #[{ on := 9, ground := Ground.data }, { on := 11, ground := Ground.data }], guard := none }) (v := ?_) rfl (by kernel_rfl) (by kernel_rfl) (by kernel_rfl) (by kernel_rfl) (by kernel_rfl) (fun _ _ _ h => h) (Or.inl ⟨rfl, ?_⟩) (by assumption) ?_
  rotate_left
  · (intro w' hSw; replace q0 := kept_cell hSw q0; replace q1 := kept_cell hSw q1; replace q2 := kept_cell hSw q2; replace q3 := kept_cell hSw q3; replace t0 := kept_cell hSw t0; replace a0 := kept_cell hSw a0; go_simp; try with_reducible rfl)
  try simp only [Act.put, List.setIfInBounds_toArray, List.set_cons_zero, List.set_cons_succ]
  refine x_one (i := 17) (o := { dst := some 36, op := Op.call { callee := Callee.value (Operand.func 19), args := #[Operand.tmp 32, Operand.tmp 35], argTypes := #[25, 3] }, type := 3, pos := "ref.go:38", after := #[{ on := 13, ground := Ground.data }, { on := 16, ground := Ground.data }, { on := 9, ground := Ground.chain }], guard := none }) (by kernel_rfl) rfl (fun K hK => ?_)
  (go_simp; go_at_call 19; (with_reducible refine (D2.out _ (kept_trans K0 hHeld)).mono ?_); rintro e w51 ⟨rfl, k10⟩; have KK10 : Kept W0 w51 := kept_trans hHeld k10; try dsimp only)
  refine hK.out _ _ ?_ (fun hHeld => ?_)
  · (try dsimp only); repeat (first | assumption | exact kept_refl _ | refine kept_drew ?_ | refine kept_alloc ?_ _ | refine kept_set ?_ (by omega) _)
  clear hK K
  try simp only [Act.put, List.setIfInBounds_toArray, List.set_cons_zero, List.set_cons_succ]
  refine x_take (i := 18) (oi := { dst := some 37, op := Op.binOp BinOp.add 3 (Operand.tmp 31) (Operand.tmp 36) 3, type := 3, pos := "ref.go:38", after := #[{ on := 12, ground := Ground.data }, { on := 17, ground := Ground.data }], guard := none }) (v := ?_) rfl (by kernel_rfl) (by kernel_rfl) (by kernel_rfl) (by kernel_rfl) (by kernel_rfl) (fun _ _ _ h => h) (Or.inl ⟨rfl, ?_⟩) (by assumption) ?_
  rotate_left
  · (intro w' hSw; replace q0 := kept_cell hSw q0; replace q1 := kept_cell hSw q1; replace q2 := kept_cell hSw q2; replace q3 := kept_cell hSw q3; replace t0 := kept_cell hSw t0; replace a0 := kept_cell hSw a0; go_simp; try with_reducible rfl)
  try simp only [Act.put, List.setIfInBounds_toArray, List.set_cons_zero, List.set_cons_succ]
  refine x_take (i := 19) (oi := { dst := some 38, op := Op.indexAddr 22 (Operand.tmp 23) (Operand.tmp 37), type := 0, pos := "ref.go:38", after := #[{ on := 4, ground := Ground.data }, { on := 18, ground := Ground.data }], guard := none }) (v := ?_) rfl (by kernel_rfl) (by kernel_rfl) (by kernel_rfl) (by kernel_rfl) (by kernel_rfl) (fun _ _ _ h => h) (Or.inl ⟨rfl, ?_⟩) (by assumption) ?_
  rotate_left
  · (intro w' hSw; replace q0 := kept_cell hSw q0; replace q1 := kept_cell hSw q1; replace q2 := kept_cell hSw q2; replace q3 := kept_cell hSw q3; replace t0 := kept_cell hSw t0; replace a0 := kept_cell hSw a0; go_simp; try with_reducible rfl)
  try simp only [Act.put, List.setIfInBounds_toArray, List.set_cons_zero, List.set_cons_succ]
  refine x_take (i := 20) (oi := { dst := some 39, op := Op.load 3 (Operand.tmp 38), type := 3, pos := "ref.go:38", after := #[{ on := 19, ground := Ground.data }], guard := none }) (v := ?_) rfl (by kernel_rfl) (by kernel_rfl) (by kernel_rfl) (by kernel_rfl) (by kernel_rfl) (fun _ _ _ h => h) (Or.inl ⟨rfl, ?_⟩) (by assumption) ?_
  rotate_left
  · (intro w' hSw; replace q0 := kept_cell hSw q0; replace q1 := kept_cell hSw q1; replace q2 := kept_cell hSw q2; replace q3 := kept_cell hSw q3; replace t0 := kept_cell hSw t0; replace a0 := kept_cell hSw a0; go_simp; try with_reducible rfl)
  try simp only [Act.put, List.setIfInBounds_toArray, List.set_cons_zero, List.set_cons_succ]
  refine x_take (i := 21) (oi := { dst := some 4, op := Op.assign (Operand.tmp 39), type := 3, pos := "ref.go:38", after := #[{ on := 20, ground := Ground.data }, { on := 17, ground := Ground.chain }, { on := 0, ground := Ground.phase }, { on := 1, ground := Ground.phase }, { on := 2, ground := Ground.phase }, { on := 3, ground := Ground.phase }, { on := 4, ground := Ground.phase }, { on := 5, ground := Ground.phase }, { on := 6, ground := Ground.phase }, { on := 7, ground := Ground.phase }, { on := 8, ground := Ground.phase }, { on := 9, ground := Ground.phase }, { on := 10, ground := Ground.phase }, { on := 11, ground := Ground.phase }, { on := 12, ground := Ground.phase }, { on := 13, ground := Ground.phase }, { on := 14, ground := Ground.phase }, { on := 15, ground := Ground.phase }, { on := 16, ground := Ground.phase }, { on := 17, ground := Ground.phase }, { on := 18, ground := Ground.phase }, { on := 19, ground := Ground.phase }, { on := 20, ground := Ground.phase }], guard := none }) (v := ?_) rfl (by kernel_rfl) (by kernel_rfl) (by kernel_rfl) (by kernel_rfl) (by kernel_rfl) (fun _ _ _ h => h) (Or.inl ⟨rfl, ?_⟩) (by assumption) ?_
  rotate_left
  · (intro w' hSw; replace q0 := kept_cell hSw q0; replace q1 := kept_cell hSw q1; replace q2 := kept_cell hSw q2; replace q3 := kept_cell hSw q3; replace t0 := kept_cell hSw t0; replace a0 := kept_cell hSw a0; go_simp; try with_reducible rfl)
  try simp only [Act.put, List.setIfInBounds_toArray, List.set_cons_zero, List.set_cons_succ]
  refine x_done (by kernel_rfl) ?_ _
  go_wp2_with fail
  go_ret
  exact ⟨rfl, kept_trans K0 hHeld⟩
end Go.Proofs.YtikfeemmjfoffaaDoor
