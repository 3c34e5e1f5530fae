/- Fields: the program's sum, difference, product and power. -/
import Derived.Test.YtikfeemmjfoffaaGreatDoorB3
set_option linter.unusedVariables false
set_option linter.unusedSimpArgs false
namespace Go.Proofs.YtikfeemmjfoffaaGreatDoor
open Go.RowKit

theorem in_two {m : Nat} {a : Int} (ok : okF 2 m = true) (hm : 2 ≤ m) (h : inF 2 m a) : ∃ x : Nat, a = x ∧ x < 2 ^ m := by
  unfold inF at h
  rw [ord_two ok (by omega), Int.toNat_natCast] at h
  exact ⟨a.toNat, by omega, by omega⟩
theorem addF_two {m : Nat} (hm : 2 ≤ m) (x y : Nat) : addF 2 (m : Int) (x : Int) (y : Int) = ((x ^^^ y : Nat) : Int) := by
  unfold addF; rw [if_neg (by omega), Int.toNat_natCast, Int.toNat_natCast]
theorem mulF_two {m : Nat} (hm : 2 ≤ m) (x y : Nat) : mulF 2 (m : Int) (x : Int) (y : Int) = ((gp (modT m) m m x y : Nat) : Int) := by
  unfold mulF; rw [if_neg (by omega), Int.toNat_natCast, Int.toNat_natCast, Int.toNat_natCast]
theorem negF_two {m : Nat} (hm : 2 ≤ m) (x : Int) : negF 2 (m : Int) x = x := by
  unfold negF; rw [if_neg (by omega)]
theorem m_le {P : Int} {m : Nat} (ok : okF P m = true) : m ≤ 16 := by have := (okF_iff.1 ok).2.1; omega

set_option maxRecDepth 100000 in
set_option maxHeartbeats 1000000 in
theorem add69_one (P a b : Int) (w : World) (ok : okF P 1 = true) (ha : inF P 1 a) (hb : inF P 1 b) :
    Calls Tryz.prog 52 #[fV P 1, .int .i64 a, .int .i64 b] w fun e w' => e = .returned (.tuple #[.int .i64 ((a + b) % P), .int .i64 0]) ∧ Kept w w' := by
  have C85 := Lib.hid fun (w' : World) (A : Option Addr) (hA : Rd w' A (ints [(a : Int), b])) => check85_ok P 1 [(a : Int), b] A 2 w' ok (by simp; exact ⟨ha, hb⟩) hA (by simp)
  have C86 := Lib.hid fun (w' : World) => of86_one P w'
  unfold inF at ha hb
  obtain ⟨⟨p2, pm⟩, -⟩ := okF_iff.1 ok
  rw [ord_one ok] at ha hb
  have CM0 := Lib.hid fun (w' : World) => res_add148 P a b w' p2 pm ha hb
  unfold fV at *
  have o0 := Own.new w 23 [.int .i64 P, .int .i64 1]
  have K0 := kept_alloc (kept_refl w) (.cells #[.int .i64 P, .int .i64 1] 23)
  clear ha hb ok
  go_enter Tryz.func52, Tryz.ntmps52
  go_wp2_with fail
  have oL : Own ((w.alloc (.cells #[.int .i64 P, .int .i64 1] 23)).alloc (.cells #[.int .i64 a, .int .i64 b] 3)) (w.heap.size + 1) 3 (ints [(a : Int), b]) := by
    have := Own.new (w.alloc (.cells #[.int .i64 P, .int .i64 1] 23)) 3 (ints [(a : Int), b])
    simpa [ints] using this
  refine (C85.out _ _ oL.rd).mono ?_
  rintro e w1 ⟨rfl, k1⟩
  replace o0 := (o0.alloc (.cells #[.int .i64 a, .int .i64 b] 3)).kept k1
  replace K0 := kept_trans (kept_alloc K0 (.cells #[.int .i64 a, .int .i64 b] 3)) k1
  clear oL k1
  have q0 := o0.cell (j := 0) rfl; have q1 := o0.cell (j := 1) rfl
  go_wp2_with fail
  refine (C86.out _).mono ?_
  rintro e w2 ⟨rfl, k1⟩
  replace K0 := kept_trans K0 k1
  clear q0 q1 k1 o0
  go_wp2_with fail
  refine (CM0.out _).mono ?_
  rintro e w3 ⟨rfl, k1⟩
  go_wp2_with fail
  go_ret2
  exact ⟨rfl, kept_trans K0 k1⟩

set_option maxRecDepth 100000 in
set_option maxHeartbeats 1000000 in
theorem add69_two (m a b : Nat) (w : World) (ok : okF 2 m = true) (ha : inF 2 m a) (hb : inF 2 m b) (hm : 2 ≤ m) :
    Calls Tryz.prog 52 #[fV 2 m, .int .i64 a, .int .i64 b] w fun e w' => e = .returned (.tuple #[.int .i64 ((a ^^^ b : Nat) : Int), .int .i64 0]) ∧ Kept w w' := by
  have C85 := Lib.hid fun (w' : World) (A : Option Addr) (hA : Rd w' A (ints [(a : Int), b])) => check85_ok 2 m [(a : Int), b] A 2 w' ok (by simp; exact ⟨ha, hb⟩) hA (by simp)
  have C86 := Lib.hid fun (w' : World) => of86_two m w' hm (m_le ok)
  have hm16 := m_le ok
  have hp16 := pow16 hm16
  unfold inF at ha hb
  rw [ord_two ok (by omega), Int.toNat_natCast] at ha hb
  have CM0 := Lib.hid fun (w' : World) => bit_add151 m (modT m) a b w' (by omega) (by omega)
  unfold fV at *
  have o0 := Own.new w 23 [.int .i64 2, .int .i64 m]
  have K0 := kept_alloc (kept_refl w) (.cells #[.int .i64 2, .int .i64 m] 23)
  clear ha hb ok
  go_enter Tryz.func52, Tryz.ntmps52
  go_wp2_with fail
  have oL : Own ((w.alloc (.cells #[.int .i64 2, .int .i64 m] 23)).alloc (.cells #[.int .i64 a, .int .i64 b] 3)) (w.heap.size + 1) 3 (ints [(a : Int), b]) := by
    have := Own.new (w.alloc (.cells #[.int .i64 2, .int .i64 m] 23)) 3 (ints [(a : Int), b])
    simpa [ints] using this
  refine (C85.out _ _ oL.rd).mono ?_
  rintro e w1 ⟨rfl, k1⟩
  replace o0 := (o0.alloc (.cells #[.int .i64 a, .int .i64 b] 3)).kept k1
  replace K0 := kept_trans (kept_alloc K0 (.cells #[.int .i64 a, .int .i64 b] 3)) k1
  clear oL k1
  have q0 := o0.cell (j := 0) rfl; have q1 := o0.cell (j := 1) rfl
  go_wp2_with fail
  refine (C86.out _).mono ?_
  rintro e w2 ⟨rfl, k1⟩
  replace K0 := kept_trans K0 k1
  clear q0 q1 k1 o0
  go_wp2_with fail
  refine (CM0.out _).mono ?_
  rintro e w3 ⟨rfl, k1⟩
  go_wp2_with fail
  go_ret2
  exact ⟨rfl, kept_trans K0 k1⟩

set_option maxRecDepth 100000 in
set_option maxHeartbeats 1000000 in
theorem mul68_one (P a b : Int) (w : World) (ok : okF P 1 = true) (ha : inF P 1 a) (hb : inF P 1 b) :
    Calls Tryz.prog 51 #[fV P 1, .int .i64 a, .int .i64 b] w fun e w' => e = .returned (.tuple #[.int .i64 (a * b % P), .int .i64 0]) ∧ Kept w w' := by
  have C85 := Lib.hid fun (w' : World) (A : Option Addr) (hA : Rd w' A (ints [(a : Int), b])) => check85_ok P 1 [(a : Int), b] A 2 w' ok (by simp; exact ⟨ha, hb⟩) hA (by simp)
  have C86 := Lib.hid fun (w' : World) => of86_one P w'
  unfold inF at ha hb
  obtain ⟨⟨p2, pm⟩, -⟩ := okF_iff.1 ok
  rw [ord_one ok] at ha hb
  have CM0 := Lib.hid fun (w' : World) => res_mul149 P a b w' p2 pm ha hb
  unfold fV at *
  have o0 := Own.new w 23 [.int .i64 P, .int .i64 1]
  have K0 := kept_alloc (kept_refl w) (.cells #[.int .i64 P, .int .i64 1] 23)
  clear ha hb ok
  go_enter Tryz.func51, Tryz.ntmps51
  go_wp2_with fail
  have oL : Own ((w.alloc (.cells #[.int .i64 P, .int .i64 1] 23)).alloc (.cells #[.int .i64 a, .int .i64 b] 3)) (w.heap.size + 1) 3 (ints [(a : Int), b]) := by
    have := Own.new (w.alloc (.cells #[.int .i64 P, .int .i64 1] 23)) 3 (ints [(a : Int), b])
    simpa [ints] using this
  refine (C85.out _ _ oL.rd).mono ?_
  rintro e w1 ⟨rfl, k1⟩
  replace o0 := (o0.alloc (.cells #[.int .i64 a, .int .i64 b] 3)).kept k1
  replace K0 := kept_trans (kept_alloc K0 (.cells #[.int .i64 a, .int .i64 b] 3)) k1
  clear oL k1
  have q0 := o0.cell (j := 0) rfl; have q1 := o0.cell (j := 1) rfl
  go_wp2_with fail
  refine (C86.out _).mono ?_
  rintro e w2 ⟨rfl, k1⟩
  replace K0 := kept_trans K0 k1
  clear q0 q1 k1 o0
  go_wp2_with fail
  refine (CM0.out _).mono ?_
  rintro e w3 ⟨rfl, k1⟩
  go_wp2_with fail
  go_ret2
  exact ⟨rfl, kept_trans K0 k1⟩

set_option maxRecDepth 100000 in
set_option maxHeartbeats 1000000 in
theorem mul68_two (m a b : Nat) (w : World) (ok : okF 2 m = true) (ha : inF 2 m a) (hb : inF 2 m b) (hm : 2 ≤ m) :
    Calls Tryz.prog 51 #[fV 2 m, .int .i64 a, .int .i64 b] w fun e w' => e = .returned (.tuple #[.int .i64 ((gp (modT m) m m a b : Nat) : Int), .int .i64 0]) ∧ Kept w w' := by
  have C85 := Lib.hid fun (w' : World) (A : Option Addr) (hA : Rd w' A (ints [(a : Int), b])) => check85_ok 2 m [(a : Int), b] A 2 w' ok (by simp; exact ⟨ha, hb⟩) hA (by simp)
  have C86 := Lib.hid fun (w' : World) => of86_two m w' hm (m_le ok)
  have hm16 := m_le ok
  have hp16 := pow16 hm16
  unfold inF at ha hb
  rw [ord_two ok (by omega), Int.toNat_natCast] at ha hb
  have CM0 := Lib.hid fun (w' : World) => bit_mul152 m a b w' hm hm16 (by omega) (by omega)
  unfold fV at *
  have o0 := Own.new w 23 [.int .i64 2, .int .i64 m]
  have K0 := kept_alloc (kept_refl w) (.cells #[.int .i64 2, .int .i64 m] 23)
  clear ha hb ok
  go_enter Tryz.func51, Tryz.ntmps51
  go_wp2_with fail
  have oL : Own ((w.alloc (.cells #[.int .i64 2, .int .i64 m] 23)).alloc (.cells #[.int .i64 a, .int .i64 b] 3)) (w.heap.size + 1) 3 (ints [(a : Int), b]) := by
    have := Own.new (w.alloc (.cells #[.int .i64 2, .int .i64 m] 23)) 3 (ints [(a : Int), b])
    simpa [ints] using this
  refine (C85.out _ _ oL.rd).mono ?_
  rintro e w1 ⟨rfl, k1⟩
  replace o0 := (o0.alloc (.cells #[.int .i64 a, .int .i64 b] 3)).kept k1
  replace K0 := kept_trans (kept_alloc K0 (.cells #[.int .i64 a, .int .i64 b] 3)) k1
  clear oL k1
  have q0 := o0.cell (j := 0) rfl; have q1 := o0.cell (j := 1) rfl
  go_wp2_with fail
  refine (C86.out _).mono ?_
  rintro e w2 ⟨rfl, k1⟩
  replace K0 := kept_trans K0 k1
  clear q0 q1 k1 o0
  go_wp2_with fail
  refine (CM0.out _).mono ?_
  rintro e w3 ⟨rfl, k1⟩
  go_wp2_with fail
  go_ret2
  exact ⟨rfl, kept_trans K0 k1⟩

set_option maxRecDepth 100000 in
set_option maxHeartbeats 1000000 in
theorem sub52_one (P a b : Int) (w : World) (ok : okF P 1 = true) (ha : inF P 1 a) (hb : inF P 1 b) :
    Calls Tryz.prog 65 #[fV P 1, .int .i64 a, .int .i64 b] w fun e w' => e = .returned (.tuple #[.int .i64 ((a + (P - b) % P) % P), .int .i64 0]) ∧ Kept w w' := by
  have C85 := Lib.hid fun (w' : World) (A : Option Addr) (hA : Rd w' A (ints [(a : Int), b])) => check85_ok P 1 [(a : Int), b] A 2 w' ok (by simp; exact ⟨ha, hb⟩) hA (by simp)
  have C86 := Lib.hid fun (w' : World) => of86_one P w'
  unfold inF at ha hb
  obtain ⟨⟨p2, pm⟩, -⟩ := okF_iff.1 ok
  rw [ord_one ok] at ha hb
  obtain ⟨n, hn⟩ : ∃ n, n = (P - b) % P := ⟨_, rfl⟩
  obtain ⟨r, hr⟩ : ∃ r, r = (a + (P - b) % P) % P := ⟨_, rfl⟩
  rw [← hr]
  have CM0 := Lib.hid fun (w' : World) => show Calls Tryz.prog 185 #[.agg #[.int .i64 P], .int .i64 b] w' fun e w'' => e = .returned (.int .i64 n) ∧ Kept w' w'' from by rw [hn]; exact res_neg150 P b w' p2 pm hb
  have CM1 := Lib.hid fun (w' : World) => show Calls Tryz.prog 183 #[.agg #[.int .i64 P], .int .i64 a, .int .i64 n] w' fun e w'' => e = .returned (.int .i64 r) ∧ Kept w' w'' from by rw [hr, hn]; exact res_add148 P a ((P - b) % P) w' p2 pm ha ⟨Int.emod_nonneg _ (by omega), Int.emod_lt_of_pos _ (by omega)⟩
  have nh : ∀ w, (nilAhead 340 142 (.agg #[.int .i64 P]) "commodatum/field.add").run Tryz.prog w = .ok (some false) w := fun _ => by kernel_rfl
  have me1 : ∀ w, (method 340 142 (.agg #[.int .i64 P]) "commodatum/field.negate").run Tryz.prog w = .ok (185, (.agg #[.int .i64 P])) w := fun _ => by kernel_rfl
  have me2 : ∀ w, (method 340 142 (.agg #[.int .i64 P]) "commodatum/field.add").run Tryz.prog w = .ok (183, (.agg #[.int .i64 P])) w := fun _ => by kernel_rfl
  unfold fV at *
  have o0 := Own.new w 23 [.int .i64 P, .int .i64 1]
  have K0 := kept_alloc (kept_refl w) (.cells #[.int .i64 P, .int .i64 1] 23)
  clear ha hb ok hn hr
  go_enter Tryz.func65, Tryz.ntmps65
  go_wp2_with fail
  have oL : Own ((w.alloc (.cells #[.int .i64 P, .int .i64 1] 23)).alloc (.cells #[.int .i64 a, .int .i64 b] 3)) (w.heap.size + 1) 3 (ints [(a : Int), b]) := by
    have := Own.new (w.alloc (.cells #[.int .i64 P, .int .i64 1] 23)) 3 (ints [(a : Int), b])
    simpa [ints] using this
  refine (C85.out _ _ oL.rd).mono ?_
  rintro e w1 ⟨rfl, k1⟩
  replace o0 := (o0.alloc (.cells #[.int .i64 a, .int .i64 b] 3)).kept k1
  replace K0 := kept_trans (kept_alloc K0 (.cells #[.int .i64 a, .int .i64 b] 3)) k1
  clear oL k1
  have q0 := o0.cell (j := 0) rfl; have q1 := o0.cell (j := 1) rfl
  go_wp2_with fail
  refine (C86.out _).mono ?_
  rintro e w2 ⟨rfl, k1⟩
  replace K0 := kept_trans K0 k1
  clear q0 q1 k1 o0
  go_wp2_with fail
  refine region_x (fun w' => Kept w2 w') [] (by kernel_rfl) (kept_drew (kept_refl _)) (fun hHeld => ?_)
  refine x_take (i := 0) (oi := { dst := some 20, op := Op.move (Operand.tmp 9), type := 117, pos := "field.go:122", after := #[], guard := none }) (v := ?_) rfl (by kernel_rfl) (by kernel_rfl) (by kernel_rfl) (by kernel_rfl) (by kernel_rfl) (fun _ _ _ h => h) (Or.inl ⟨rfl, ?_⟩) (by assumption) ?_
  rotate_left
  · (intro w' hSw; go_simp; try with_reducible rfl)
  try simp only [Act.put, List.setIfInBounds_toArray, List.set_cons_zero, List.set_cons_succ]
  refine x_take (i := 1) (oi := { dst := some 21, op := Op.move (Operand.tmp 1), type := 3, pos := "field.go:122", after := #[], guard := none }) (v := ?_) rfl (by kernel_rfl) (by kernel_rfl) (by kernel_rfl) (by kernel_rfl) (by kernel_rfl) (fun _ _ _ h => h) (Or.inl ⟨rfl, ?_⟩) (by assumption) ?_
  rotate_left
  · (intro w' hSw; go_simp; try with_reducible rfl)
  try simp only [Act.put, List.setIfInBounds_toArray, List.set_cons_zero, List.set_cons_succ]
  refine x_take (i := 2) (oi := { dst := some 22, op := Op.move (Operand.tmp 9), type := 117, pos := "field.go:122", after := #[], guard := none }) (v := ?_) rfl (by kernel_rfl) (by kernel_rfl) (by kernel_rfl) (by kernel_rfl) (by kernel_rfl) (fun _ _ _ h => h) (Or.inl ⟨rfl, ?_⟩) (by assumption) ?_
  rotate_left
  · (intro w' hSw; go_simp; try with_reducible rfl)
  try simp only [Act.put, List.setIfInBounds_toArray, List.set_cons_zero, List.set_cons_succ]
  refine x_take (i := 3) (oi := { dst := some 23, op := Op.move (Operand.tmp 2), type := 3, pos := "field.go:122", after := #[], guard := none }) (v := ?_) rfl (by kernel_rfl) (by kernel_rfl) (by kernel_rfl) (by kernel_rfl) (by kernel_rfl) (fun _ _ _ h => h) (Or.inl ⟨rfl, ?_⟩) (by assumption) ?_
  rotate_left
  · (intro w' hSw; go_simp; try with_reducible rfl)
  try simp only [Act.put, List.setIfInBounds_toArray, List.set_cons_zero, List.set_cons_succ]
  refine x_take (i := 5) (oi := { dst := some 25, op := Op.makeFunc (Fn.method "commodatum/field.add") #[Operand.tmp 20] #[], type := 80, pos := "field.go:122", after := #[{ on := 0, ground := Ground.data }], guard := none }) (v := ?_) rfl (by kernel_rfl) (by kernel_rfl) (by kernel_rfl) (by kernel_rfl) (by kernel_rfl) (fun _ _ _ h => h) (Or.inl ⟨rfl, ?_⟩) (by assumption) ?_
  rotate_left
  · (intro w' hSw; go_simp; try with_reducible rfl)
  try simp only [Act.put, List.setIfInBounds_toArray, List.set_cons_zero, List.set_cons_succ]
  refine x_take (i := 6) (oi := { dst := some 26, op := Op.nilCheck (Operand.tmp 25), type := 80, pos := "field.go:122", after := #[{ on := 5, ground := Ground.data }], guard := none }) (v := ?_) rfl (by kernel_rfl) (by kernel_rfl) (by kernel_rfl) (by kernel_rfl) (by kernel_rfl) (fun _ _ _ h => h) (Or.inl ⟨rfl, ?_⟩) (by assumption) ?_
  rotate_left
  · (intro w' hSw; go_simp; try with_reducible rfl)
  try simp only [Act.put, List.setIfInBounds_toArray, List.set_cons_zero, List.set_cons_succ]
  refine x_take (i := 7) (oi := { dst := some 27, op := Op.move (Operand.tmp 20), type := 117, pos := "field.go:122", after := #[{ on := 0, ground := Ground.data }, { on := 5, ground := Ground.data }, { on := 6, ground := Ground.data }], guard := none }) (v := ?_) rfl (by kernel_rfl) (by kernel_rfl) (by kernel_rfl) (by kernel_rfl) (by kernel_rfl) (fun _ _ _ h => h) (Or.inl ⟨rfl, ?_⟩) (by assumption) ?_
  rotate_left
  · (intro w' hSw; go_simp; try with_reducible rfl)
  try simp only [Act.put, List.setIfInBounds_toArray, List.set_cons_zero, List.set_cons_succ]
  refine x_one (i := 4) (o := { dst := some 24, op := Op.call { callee := Callee.invoke (Operand.tmp 22) "commodatum/field.negate", args := #[Operand.tmp 23], argTypes := #[3] }, type := 3, pos := "field.go:122", after := #[{ on := 2, ground := Ground.data }, { on := 3, ground := Ground.data }], guard := none }) (by kernel_rfl) rfl (fun K hK => ?_)
  (go_simp; go_at_call 185; (with_reducible refine (CM0.out _).mono ?_); rintro e w3 ⟨rfl, k3⟩; have KK3 : Kept w2 w3 := kept_trans hHeld k3; try dsimp only)
  refine hK.out _ _ ?_ (fun hHeld => ?_)
  · (try dsimp only); repeat (first | assumption | exact kept_refl _ | refine kept_drew ?_ | refine kept_alloc ?_ _ | refine kept_set ?_ (by omega) _)
  clear hK K
  try simp only [Act.put, List.setIfInBounds_toArray, List.set_cons_zero, List.set_cons_succ]
  refine x_one (i := 8) (o := { dst := some 28, op := Op.call { callee := Callee.invoke (Operand.tmp 27) "commodatum/field.add", args := #[Operand.tmp 21, Operand.tmp 24], argTypes := #[3, 3] }, type := 3, pos := "field.go:122", after := #[{ on := 7, ground := Ground.data }, { on := 1, ground := Ground.data }, { on := 4, ground := Ground.data }, { on := 4, ground := Ground.chain }], guard := none }) (by kernel_rfl) rfl (fun K hK => ?_)
  (go_simp; go_at_call 183; (with_reducible refine (CM1.out _).mono ?_); rintro e w4 ⟨rfl, k4⟩; have KK4 : Kept w2 w4 := kept_trans hHeld k4; try dsimp only)
  refine hK.out _ _ ?_ (fun hHeld => ?_)
  · (try dsimp only); repeat (first | assumption | exact kept_refl _ | refine kept_drew ?_ | refine kept_alloc ?_ _ | refine kept_set ?_ (by omega) _)
  clear hK K
  try simp only [Act.put, List.setIfInBounds_toArray, List.set_cons_zero, List.set_cons_succ]
  refine x_take (i := 9) (oi := { dst := some 6, op := Op.assign (Operand.tmp 28), type := 3, pos := "field.go:122", after := #[{ on := 8, ground := Ground.data }, { on := 8, ground := Ground.chain }, { on := 0, ground := Ground.phase }, { on := 1, ground := Ground.phase }, { on := 2, ground := Ground.phase }, { on := 3, ground := Ground.phase }, { on := 4, ground := Ground.phase }, { on := 5, ground := Ground.phase }, { on := 6, ground := Ground.phase }, { on := 7, ground := Ground.phase }, { on := 8, ground := Ground.phase }], guard := none }) (v := ?_) rfl (by kernel_rfl) (by kernel_rfl) (by kernel_rfl) (by kernel_rfl) (by kernel_rfl) (fun _ _ _ h => h) (Or.inl ⟨rfl, ?_⟩) (by assumption) ?_
  rotate_left
  · (intro w' hSw; go_simp; try with_reducible rfl)
  try simp only [Act.put, List.setIfInBounds_toArray, List.set_cons_zero, List.set_cons_succ]
  refine x_take (i := 10) (oi := { dst := some 7, op := Op.assign (Operand.const (Value.int IntKind.i64 0)), type := 31, pos := "field.go:122", after := #[{ on := 9, ground := Ground.chain }, { on := 0, ground := Ground.phase }, { on := 1, ground := Ground.phase }, { on := 2, ground := Ground.phase }, { on := 3, ground := Ground.phase }, { on := 4, ground := Ground.phase }, { on := 5, ground := Ground.phase }, { on := 6, ground := Ground.phase }, { on := 7, ground := Ground.phase }, { on := 8, ground := Ground.phase }, { on := 9, ground := Ground.phase }], guard := none }) (v := ?_) rfl (by kernel_rfl) (by kernel_rfl) (by kernel_rfl) (by kernel_rfl) (by kernel_rfl) (fun _ _ _ h => h) (Or.inl ⟨rfl, ?_⟩) (by assumption) ?_
  rotate_left
  · (intro w' hSw; go_simp; try with_reducible rfl)
  try simp only [Act.put, List.setIfInBounds_toArray, List.set_cons_zero, List.set_cons_succ]
  refine x_done (by kernel_rfl) ?_ _
  go_wp2_with fail
  go_ret2
  exact ⟨rfl, kept_trans K0 KK4⟩

set_option maxRecDepth 100000 in
set_option maxHeartbeats 1000000 in
theorem sub52_two (m a b : Nat) (w : World) (ok : okF 2 m = true) (ha : inF 2 m a) (hb : inF 2 m b) (hm : 2 ≤ m) :
    Calls Tryz.prog 65 #[fV 2 m, .int .i64 a, .int .i64 b] w fun e w' => e = .returned (.tuple #[.int .i64 ((a ^^^ b : Nat) : Int), .int .i64 0]) ∧ Kept w w' := by
  have C85 := Lib.hid fun (w' : World) (A : Option Addr) (hA : Rd w' A (ints [(a : Int), b])) => check85_ok 2 m [(a : Int), b] A 2 w' ok (by simp; exact ⟨ha, hb⟩) hA (by simp)
  have C86 := Lib.hid fun (w' : World) => of86_two m w' hm (m_le ok)
  have hm16 := m_le ok
  have hp16 := pow16 hm16
  unfold inF at ha hb
  rw [ord_two ok (by omega), Int.toNat_natCast] at ha hb
  have CM0 := Lib.hid fun (w' : World) => bit_neg153 m (modT m) b w'
  have CM1 := Lib.hid fun (w' : World) => bit_add151 m (modT m) a b w' (by omega) (by omega)
  have nh : ∀ w, (nilAhead 340 144 (.agg #[.int .i64 m, .int .i64 (modT m)]) "commodatum/field.add").run Tryz.prog w = .ok (some false) w := fun _ => by kernel_rfl
  have me1 : ∀ w, (method 340 144 (.agg #[.int .i64 m, .int .i64 (modT m)]) "commodatum/field.negate").run Tryz.prog w = .ok (188, (.agg #[.int .i64 m, .int .i64 (modT m)])) w := fun _ => by kernel_rfl
  have me2 : ∀ w, (method 340 144 (.agg #[.int .i64 m, .int .i64 (modT m)]) "commodatum/field.add").run Tryz.prog w = .ok (186, (.agg #[.int .i64 m, .int .i64 (modT m)])) w := fun _ => by kernel_rfl
  unfold fV at *
  have o0 := Own.new w 23 [.int .i64 2, .int .i64 m]
  have K0 := kept_alloc (kept_refl w) (.cells #[.int .i64 2, .int .i64 m] 23)
  clear ha hb ok
  go_enter Tryz.func65, Tryz.ntmps65
  go_wp2_with fail
  have oL : Own ((w.alloc (.cells #[.int .i64 2, .int .i64 m] 23)).alloc (.cells #[.int .i64 a, .int .i64 b] 3)) (w.heap.size + 1) 3 (ints [(a : Int), b]) := by
    have := Own.new (w.alloc (.cells #[.int .i64 2, .int .i64 m] 23)) 3 (ints [(a : Int), b])
    simpa [ints] using this
  refine (C85.out _ _ oL.rd).mono ?_
  rintro e w1 ⟨rfl, k1⟩
  replace o0 := (o0.alloc (.cells #[.int .i64 a, .int .i64 b] 3)).kept k1
  replace K0 := kept_trans (kept_alloc K0 (.cells #[.int .i64 a, .int .i64 b] 3)) k1
  clear oL k1
  have q0 := o0.cell (j := 0) rfl; have q1 := o0.cell (j := 1) rfl
  go_wp2_with fail
  refine (C86.out _).mono ?_
  rintro e w2 ⟨rfl, k1⟩
  replace K0 := kept_trans K0 k1
  clear q0 q1 k1 o0
  go_wp2_with fail
  refine region_x (fun w' => Kept w2 w') [] (by kernel_rfl) (kept_drew (kept_refl _)) (fun hHeld => ?_)
  refine x_take (i := 0) (oi := { dst := some 20, op := Op.move (Operand.tmp 9), type := 117, pos := "field.go:122", after := #[], guard := none }) (v := ?_) rfl (by kernel_rfl) (by kernel_rfl) (by kernel_rfl) (by kernel_rfl) (by kernel_rfl) (fun _ _ _ h => h) (Or.inl ⟨rfl, ?_⟩) (by assumption) ?_
  rotate_left
  · (intro w' hSw; go_simp; try with_reducible rfl)
  try simp only [Act.put, List.setIfInBounds_toArray, List.set_cons_zero, List.set_cons_succ]
  refine x_take (i := 1) (oi := { dst := some 21, op := Op.move (Operand.tmp 1), type := 3, pos := "field.go:122", after := #[], guard := none }) (v := ?_) rfl (by kernel_rfl) (by kernel_rfl) (by kernel_rfl) (by kernel_rfl) (by kernel_rfl) (fun _ _ _ h => h) (Or.inl ⟨rfl, ?_⟩) (by assumption) ?_
  rotate_left
  · (intro w' hSw; go_simp; try with_reducible rfl)
  try simp only [Act.put, List.setIfInBounds_toArray, List.set_cons_zero, List.set_cons_succ]
  refine x_take (i := 2) (oi := { dst := some 22, op := Op.move (Operand.tmp 9), type := 117, pos := "field.go:122", after := #[], guard := none }) (v := ?_) rfl (by kernel_rfl) (by kernel_rfl) (by kernel_rfl) (by kernel_rfl) (by kernel_rfl) (fun _ _ _ h => h) (Or.inl ⟨rfl, ?_⟩) (by assumption) ?_
  rotate_left
  · (intro w' hSw; go_simp; try with_reducible rfl)
  try simp only [Act.put, List.setIfInBounds_toArray, List.set_cons_zero, List.set_cons_succ]
  refine x_take (i := 3) (oi := { dst := some 23, op := Op.move (Operand.tmp 2), type := 3, pos := "field.go:122", after := #[], guard := none }) (v := ?_) rfl (by kernel_rfl) (by kernel_rfl) (by kernel_rfl) (by kernel_rfl) (by kernel_rfl) (fun _ _ _ h => h) (Or.inl ⟨rfl, ?_⟩) (by assumption) ?_
  rotate_left
  · (intro w' hSw; go_simp; try with_reducible rfl)
  try simp only [Act.put, List.setIfInBounds_toArray, List.set_cons_zero, List.set_cons_succ]
  refine x_take (i := 5) (oi := { dst := some 25, op := Op.makeFunc (Fn.method "commodatum/field.add") #[Operand.tmp 20] #[], type := 80, pos := "field.go:122", after := #[{ on := 0, ground := Ground.data }], guard := none }) (v := ?_) rfl (by kernel_rfl) (by kernel_rfl) (by kernel_rfl) (by kernel_rfl) (by kernel_rfl) (fun _ _ _ h => h) (Or.inl ⟨rfl, ?_⟩) (by assumption) ?_
  rotate_left
  · (intro w' hSw; go_simp; try with_reducible rfl)
  try simp only [Act.put, List.setIfInBounds_toArray, List.set_cons_zero, List.set_cons_succ]
  refine x_take (i := 6) (oi := { dst := some 26, op := Op.nilCheck (Operand.tmp 25), type := 80, pos := "field.go:122", after := #[{ on := 5, ground := Ground.data }], guard := none }) (v := ?_) rfl (by kernel_rfl) (by kernel_rfl) (by kernel_rfl) (by kernel_rfl) (by kernel_rfl) (fun _ _ _ h => h) (Or.inl ⟨rfl, ?_⟩) (by assumption) ?_
  rotate_left
  · (intro w' hSw; go_simp; try with_reducible rfl)
  try simp only [Act.put, List.setIfInBounds_toArray, List.set_cons_zero, List.set_cons_succ]
  refine x_take (i := 7) (oi := { dst := some 27, op := Op.move (Operand.tmp 20), type := 117, pos := "field.go:122", after := #[{ on := 0, ground := Ground.data }, { on := 5, ground := Ground.data }, { on := 6, ground := Ground.data }], guard := none }) (v := ?_) rfl (by kernel_rfl) (by kernel_rfl) (by kernel_rfl) (by kernel_rfl) (by kernel_rfl) (fun _ _ _ h => h) (Or.inl ⟨rfl, ?_⟩) (by assumption) ?_
  rotate_left
  · (intro w' hSw; go_simp; try with_reducible rfl)
  try simp only [Act.put, List.setIfInBounds_toArray, List.set_cons_zero, List.set_cons_succ]
  refine x_one (i := 4) (o := { dst := some 24, op := Op.call { callee := Callee.invoke (Operand.tmp 22) "commodatum/field.negate", args := #[Operand.tmp 23], argTypes := #[3] }, type := 3, pos := "field.go:122", after := #[{ on := 2, ground := Ground.data }, { on := 3, ground := Ground.data }], guard := none }) (by kernel_rfl) rfl (fun K hK => ?_)
  (go_simp; go_at_call 188; (with_reducible refine (CM0.out _).mono ?_); rintro e w3 ⟨rfl, k3⟩; have KK3 : Kept w2 w3 := kept_trans hHeld k3; try dsimp only)
  refine hK.out _ _ ?_ (fun hHeld => ?_)
  · (try dsimp only); repeat (first | assumption | exact kept_refl _ | refine kept_drew ?_ | refine kept_alloc ?_ _ | refine kept_set ?_ (by omega) _)
  clear hK K
  try simp only [Act.put, List.setIfInBounds_toArray, List.set_cons_zero, List.set_cons_succ]
  refine x_one (i := 8) (o := { dst := some 28, op := Op.call { callee := Callee.invoke (Operand.tmp 27) "commodatum/field.add", args := #[Operand.tmp 21, Operand.tmp 24], argTypes := #[3, 3] }, type := 3, pos := "field.go:122", after := #[{ on := 7, ground := Ground.data }, { on := 1, ground := Ground.data }, { on := 4, ground := Ground.data }, { on := 4, ground := Ground.chain }], guard := none }) (by kernel_rfl) rfl (fun K hK => ?_)
  (go_simp; go_at_call 186; (with_reducible refine (CM1.out _).mono ?_); rintro e w4 ⟨rfl, k4⟩; have KK4 : Kept w2 w4 := kept_trans hHeld k4; try dsimp only)
  refine hK.out _ _ ?_ (fun hHeld => ?_)
  · (try dsimp only); repeat (first | assumption | exact kept_refl _ | refine kept_drew ?_ | refine kept_alloc ?_ _ | refine kept_set ?_ (by omega) _)
  clear hK K
  try simp only [Act.put, List.setIfInBounds_toArray, List.set_cons_zero, List.set_cons_succ]
  refine x_take (i := 9) (oi := { dst := some 6, op := Op.assign (Operand.tmp 28), type := 3, pos := "field.go:122", after := #[{ on := 8, ground := Ground.data }, { on := 8, ground := Ground.chain }, { on := 0, ground := Ground.phase }, { on := 1, ground := Ground.phase }, { on := 2, ground := Ground.phase }, { on := 3, ground := Ground.phase }, { on := 4, ground := Ground.phase }, { on := 5, ground := Ground.phase }, { on := 6, ground := Ground.phase }, { on := 7, ground := Ground.phase }, { on := 8, ground := Ground.phase }], guard := none }) (v := ?_) rfl (by kernel_rfl) (by kernel_rfl) (by kernel_rfl) (by kernel_rfl) (by kernel_rfl) (fun _ _ _ h => h) (Or.inl ⟨rfl, ?_⟩) (by assumption) ?_
  rotate_left
  · (intro w' hSw; go_simp; try with_reducible rfl)
  try simp only [Act.put, List.setIfInBounds_toArray, List.set_cons_zero, List.set_cons_succ]
  refine x_take (i := 10) (oi := { dst := some 7, op := Op.assign (Operand.const (Value.int IntKind.i64 0)), type := 31, pos := "field.go:122", after := #[{ on := 9, ground := Ground.chain }, { on := 0, ground := Ground.phase }, { on := 1, ground := Ground.phase }, { on := 2, ground := Ground.phase }, { on := 3, ground := Ground.phase }, { on := 4, ground := Ground.phase }, { on := 5, ground := Ground.phase }, { on := 6, ground := Ground.phase }, { on := 7, ground := Ground.phase }, { on := 8, ground := Ground.phase }, { on := 9, ground := Ground.phase }], guard := none }) (v := ?_) rfl (by kernel_rfl) (by kernel_rfl) (by kernel_rfl) (by kernel_rfl) (by kernel_rfl) (fun _ _ _ h => h) (Or.inl ⟨rfl, ?_⟩) (by assumption) ?_
  rotate_left
  · (intro w' hSw; go_simp; try with_reducible rfl)
  try simp only [Act.put, List.setIfInBounds_toArray, List.set_cons_zero, List.set_cons_succ]
  refine x_done (by kernel_rfl) ?_ _
  go_wp2_with fail
  go_ret2
  exact ⟨rfl, kept_trans K0 KK4⟩

theorem add69_any (P M a b : Int) (w : World) (ok : okF P M = true) (ha : inF P M a) (hb : inF P M b) :
    Calls Tryz.prog 52 #[fV P M, .int .i64 a, .int .i64 b] w fun e w' => e = .returned (.tuple #[.int .i64 (addF P M a b), .int .i64 0]) ∧ Kept w w' := by
  rcases ok_cases ok with ⟨rfl, _⟩ | ⟨rfl, m, h1, h2, rfl, _⟩
  · exact add69_one P a b w ok ha hb
  · obtain ⟨x, rfl, hx⟩ := in_two ok h1 ha
    obtain ⟨y, rfl, hy⟩ := in_two ok h1 hb
    have := add69_two m x y w ok ha hb h1
    rw [addF_two h1]
    exact this

theorem mul68_any (P M a b : Int) (w : World) (ok : okF P M = true) (ha : inF P M a) (hb : inF P M b) :
    Calls Tryz.prog 51 #[fV P M, .int .i64 a, .int .i64 b] w fun e w' => e = .returned (.tuple #[.int .i64 (mulF P M a b), .int .i64 0]) ∧ Kept w w' := by
  rcases ok_cases ok with ⟨rfl, _⟩ | ⟨rfl, m, h1, h2, rfl, _⟩
  · exact mul68_one P a b w ok ha hb
  · obtain ⟨x, rfl, hx⟩ := in_two ok h1 ha
    obtain ⟨y, rfl, hy⟩ := in_two ok h1 hb
    have := mul68_two m x y w ok ha hb h1
    rw [mulF_two h1]
    exact this

theorem sub52_any (P M a b : Int) (w : World) (ok : okF P M = true) (ha : inF P M a) (hb : inF P M b) :
    Calls Tryz.prog 65 #[fV P M, .int .i64 a, .int .i64 b] w fun e w' => e = .returned (.tuple #[.int .i64 (addF P M a (negF P M b)), .int .i64 0]) ∧ Kept w w' := by
  rcases ok_cases ok with ⟨rfl, _⟩ | ⟨rfl, m, h1, h2, rfl, _⟩
  · exact sub52_one P a b w ok ha hb
  · obtain ⟨x, rfl, hx⟩ := in_two ok h1 ha
    obtain ⟨y, rfl, hy⟩ := in_two ok h1 hb
    have := sub52_two m x y w ok ha hb h1
    rw [negF_two h1, addF_two h1]
    exact this

/-- A power. -/
def pwF (P M a : Int) (k : Nat) : Int := powF (mulF P M) 62 1 k a
theorem one_in {P M : Int} (ok : okF P M = true) : inF P M 1 := by have := ord_ok ok; exact ⟨by omega, by omega⟩
theorem powF_in {P M : Int} (ok : okF P M = true) : ∀ (f : Nat) {r a : Int} (k : Nat), inF P M r → inF P M a → inF P M (powF (mulF P M) f r k a)
  | 0, r, a, k, hr, _ => hr
  | f + 1, r, a, k, hr, ha => by
    rw [powF]
    split
    · exact hr
    · refine powF_in ok f _ ?_ (mulF_in ok ha ha)
      split
      · exact mulF_in ok hr ha
      · exact hr
theorem pwF_in {P M a : Int} (ok : okF P M = true) (ha : inF P M a) (k : Nat) : inF P M (pwF P M a k) := powF_in ok 62 k (one_in ok) ha

set_option maxRecDepth 100000 in
set_option maxHeartbeats 1000000 in
theorem power92_one (P a0 : Int) (k0 : Nat) (w : World) (ok : okF P 1 = true) (ha : inF P 1 a0) (hk : k0 < 2 ^ 62) :
    Calls Tryz.prog 77 #[.iface 142 (.agg #[.int .i64 P]), .int .i64 a0, .int .i64 k0] w fun e w' => e = .returned (.int .i64 (pwF P 1 a0 k0)) ∧ Kept w w' := by
  have CM := Lib.hid fun (a b : Int) (w' : World) (ha : inF P 1 a) (hb : inF P 1 b) => show Calls Tryz.prog 184 #[.agg #[.int .i64 P], .int .i64 a, .int .i64 b] w' fun e w'' => e = .returned (.int .i64 (mulF P 1 a b)) ∧ Kept w' w'' from by
    obtain ⟨⟨p2, pm⟩, -⟩ := okF_iff.1 ok
    unfold inF at ha hb
    rw [ord_one ok] at ha hb
    exact res_mul149 P a b w' p2 pm ha hb
  obtain ⟨R, hR⟩ : ∃ R, R = pwF P 1 a0 k0 := ⟨_, rfl⟩
  rw [← hR]
  have HR0 := Lib.hid hR
  have OK := Lib.hid ok
  have HA0 := Lib.hid ha
  clear hR ha ok
  go_enter Tryz.func77, Tryz.ntmps77
  go_wp2_with fail
  go_loopg [1, 2, 7] (k0 + 1) (fun g s1 s2 s7 wr => ∃ (f k : Nat) (a out : Int), g = k + 1 ∧ s1 = .int .i64 a ∧ s2 = .int .i64 k ∧ s7 = .int .i64 out ∧ k < 2 ^ f ∧ f ≤ 62 ∧ inF P 1 a ∧ inF P 1 out ∧ R = powF (mulF P 1) f out k a ∧ Kept w wr)
  case atStart => exact ⟨62, k0, a0, 1, rfl, rfl, rfl, rfl, hk, by omega, HA0.out, one_in OK.out, HR0.out, kept_refl w⟩
  case round =>
    obtain ⟨f, k, a, out, rfl, rfl, rfl, rfl, hkf, hf, ha, ho, hR, K0⟩ := hrel
    have HR := Lib.hid hR
    have HK := Lib.hid hkf
    have HA := Lib.hid ha
    have HO := Lib.hid ho
    have hk62 : k < 4611686018427387904 := Nat.lt_of_lt_of_le hkf (Nat.le_trans (Nat.pow_le_pow_right (by omega) hf) (by decide))
    clear hR hkf ha ho
    by_cases hz : 0 < k
    · have ao := and_one (n := k) (by omega)
      have hf0 : ∃ f', f = f' + 1 := by
        cases f with
        | zero => have h := HK.out; simp only [Nat.pow_zero] at h; omega
        | succ f => exact ⟨f, rfl⟩
      obtain ⟨f, rfl⟩ := hf0
      have HS := Lib.hid (show R = powF (mulF P 1) f (if k % 2 = 1 then mulF P 1 out a else out) (k / 2) (mulF P 1 a a) by
        rw [HR.out, powF, if_neg (by omega)])
      have hk2 : k / 2 < 2 ^ f := by have h := HK.out; have : 2 ^ (f + 1) = 2 ^ f * 2 := Nat.pow_succ _ _; omega
      have HK2 := Lib.hid hk2
      have C1 := Lib.hid fun w' => CM.out out a w' HO.out HA.out
      have C2 := Lib.hid fun w' => CM.out a a w' HA.out HA.out
      have I1 := Lib.hid (mulF_in OK.out HO.out HA.out)
      have I2 := Lib.hid (mulF_in OK.out HA.out HA.out)
      clear hk2
      by_cases hodd : k % 2 = 1
      · have o1 : (((k : Int) % 2) == 1) = true := by simp only [beq_iff_eq]; omega
        have HD := Lib.hid hodd
        clear hodd
        go_wp2_with fail
        refine (C1.out _).mono ?_
        rintro e w1 ⟨rfl, k1⟩
        replace K0 := kept_trans K0 k1
        go_wp2_with fail
        refine (C2.out _).mono ?_
        rintro e w2 ⟨rfl, k2⟩
        replace K0 := kept_trans K0 k2
        go_wp2_with fail
        go_roundg (k / 2 + 1)
        case rel => exact ⟨f, k / 2, _, _, rfl, rfl, by go_num, rfl, HK2.out, by omega, I2.out, I1.out, by rw [HS.out, if_pos HD.out], K0⟩
        case measure => omega
      · have o1 : (((k : Int) % 2) == 1) = false := by simp only [beq_eq_false_iff_ne, ne_eq]; omega
        have HD := Lib.hid hodd
        clear hodd
        go_wp2_with fail
        refine (C2.out _).mono ?_
        rintro e w2 ⟨rfl, k2⟩
        replace K0 := kept_trans K0 k2
        go_wp2_with fail
        go_roundg (k / 2 + 1)
        case rel => exact ⟨f, k / 2, _, _, rfl, rfl, by go_num, rfl, HK2.out, by omega, I2.out, HO.out, by rw [HS.out, if_neg HD.out], K0⟩
        case measure => omega
    · have : k = 0 := by omega
      subst this
      go_wp2_with fail
      go_ret
      exact ⟨ret_int (by rw [HR.out, powF_done]), K0⟩

set_option maxRecDepth 100000 in
set_option maxHeartbeats 1000000 in
theorem power92_two (m : Nat) (a0 : Int) (k0 : Nat) (w : World) (ok : okF 2 m = true) (ha : inF 2 m a0) (hm : 2 ≤ m) (hk : k0 < 2 ^ 62) :
    Calls Tryz.prog 77 #[.iface 144 (.agg #[.int .i64 m, .int .i64 (modT m)]), .int .i64 a0, .int .i64 k0] w fun e w' => e = .returned (.int .i64 (pwF 2 m a0 k0)) ∧ Kept w w' := by
  have CM := Lib.hid fun (a b : Int) (w' : World) (ha : inF 2 m a) (hb : inF 2 m b) => show Calls Tryz.prog 187 #[.agg #[.int .i64 m, .int .i64 (modT m)], .int .i64 a, .int .i64 b] w' fun e w'' => e = .returned (.int .i64 (mulF 2 m a b)) ∧ Kept w' w'' from by
    obtain ⟨x, rfl, hx⟩ := in_two ok hm ha
    obtain ⟨y, rfl, hy⟩ := in_two ok hm hb
    rw [mulF_two hm]
    exact bit_mul152 m x y w' hm (m_le ok) hx hy
  obtain ⟨R, hR⟩ : ∃ R, R = pwF 2 m a0 k0 := ⟨_, rfl⟩
  rw [← hR]
  have HR0 := Lib.hid hR
  have OK := Lib.hid ok
  have HA0 := Lib.hid ha
  clear hR ha ok
  go_enter Tryz.func77, Tryz.ntmps77
  go_wp2_with fail
  go_loopg [1, 2, 7] (k0 + 1) (fun g s1 s2 s7 wr => ∃ (f k : Nat) (a out : Int), g = k + 1 ∧ s1 = .int .i64 a ∧ s2 = .int .i64 k ∧ s7 = .int .i64 out ∧ k < 2 ^ f ∧ f ≤ 62 ∧ inF 2 m a ∧ inF 2 m out ∧ R = powF (mulF 2 m) f out k a ∧ Kept w wr)
  case atStart => exact ⟨62, k0, a0, 1, rfl, rfl, rfl, rfl, hk, by omega, HA0.out, one_in OK.out, HR0.out, kept_refl w⟩
  case round =>
    obtain ⟨f, k, a, out, rfl, rfl, rfl, rfl, hkf, hf, ha, ho, hR, K0⟩ := hrel
    have HR := Lib.hid hR
    have HK := Lib.hid hkf
    have HA := Lib.hid ha
    have HO := Lib.hid ho
    have hk62 : k < 4611686018427387904 := Nat.lt_of_lt_of_le hkf (Nat.le_trans (Nat.pow_le_pow_right (by omega) hf) (by decide))
    clear hR hkf ha ho
    by_cases hz : 0 < k
    · have ao := and_one (n := k) (by omega)
      have hf0 : ∃ f', f = f' + 1 := by
        cases f with
        | zero => have h := HK.out; simp only [Nat.pow_zero] at h; omega
        | succ f => exact ⟨f, rfl⟩
      obtain ⟨f, rfl⟩ := hf0
      have HS := Lib.hid (show R = powF (mulF 2 m) f (if k % 2 = 1 then mulF 2 m out a else out) (k / 2) (mulF 2 m a a) by
        rw [HR.out, powF, if_neg (by omega)])
      have hk2 : k / 2 < 2 ^ f := by have h := HK.out; have : 2 ^ (f + 1) = 2 ^ f * 2 := Nat.pow_succ _ _; omega
      have HK2 := Lib.hid hk2
      have C1 := Lib.hid fun w' => CM.out out a w' HO.out HA.out
      have C2 := Lib.hid fun w' => CM.out a a w' HA.out HA.out
      have I1 := Lib.hid (mulF_in OK.out HO.out HA.out)
      have I2 := Lib.hid (mulF_in OK.out HA.out HA.out)
      clear hk2
      by_cases hodd : k % 2 = 1
      · have o1 : (((k : Int) % 2) == 1) = true := by simp only [beq_iff_eq]; omega
        have HD := Lib.hid hodd
        clear hodd
        go_wp2_with fail
        refine (C1.out _).mono ?_
        rintro e w1 ⟨rfl, k1⟩
        replace K0 := kept_trans K0 k1
        go_wp2_with fail
        refine (C2.out _).mono ?_
        rintro e w2 ⟨rfl, k2⟩
        replace K0 := kept_trans K0 k2
        go_wp2_with fail
        go_roundg (k / 2 + 1)
        case rel => exact ⟨f, k / 2, _, _, rfl, rfl, by go_num, rfl, HK2.out, by omega, I2.out, I1.out, by rw [HS.out, if_pos HD.out], K0⟩
        case measure => omega
      · have o1 : (((k : Int) % 2) == 1) = false := by simp only [beq_eq_false_iff_ne, ne_eq]; omega
        have HD := Lib.hid hodd
        clear hodd
        go_wp2_with fail
        refine (C2.out _).mono ?_
        rintro e w2 ⟨rfl, k2⟩
        replace K0 := kept_trans K0 k2
        go_wp2_with fail
        go_roundg (k / 2 + 1)
        case rel => exact ⟨f, k / 2, _, _, rfl, rfl, by go_num, rfl, HK2.out, by omega, I2.out, HO.out, by rw [HS.out, if_neg HD.out], K0⟩
        case measure => omega
    · have : k = 0 := by omega
      subst this
      go_wp2_with fail
      go_ret
      exact ⟨ret_int (by rw [HR.out, powF_done]), K0⟩

set_option maxRecDepth 100000 in
set_option maxHeartbeats 1000000 in
theorem power67_one (P a : Int) (k : Nat) (w : World) (ok : okF P 1 = true) (ha : inF P 1 a) (hk : k < 2 ^ 62) :
    Calls Tryz.prog 50 #[fV P 1, .int .i64 a, .int .i64 k] w fun e w' => e = .returned (.tuple #[.int .i64 (pwF P 1 a k), .int .i64 0]) ∧ Kept w w' := by
  have C85 := Lib.hid fun (w' : World) (A : Option Addr) (hA : Rd w' A (ints [a])) => check85_ok P 1 [a] A 1 w' ok (by simp; exact ha) hA (by simp)
  have C86 := Lib.hid fun (w' : World) => of86_one P w'
  have C92 := Lib.hid fun (w' : World) => power92_one P a k w' ok ha hk
  unfold fV at *
  have o0 := Own.new w 23 [.int .i64 P, .int .i64 1]
  have K0 := kept_alloc (kept_refl w) (.cells #[.int .i64 P, .int .i64 1] 23)
  clear ha ok
  go_enter Tryz.func50, Tryz.ntmps50
  go_wp2_with fail
  have oL : Own ((w.alloc (.cells #[.int .i64 P, .int .i64 1] 23)).alloc (.cells #[.int .i64 a] 3)) (w.heap.size + 1) 3 (ints [a]) := by
    have := Own.new (w.alloc (.cells #[.int .i64 P, .int .i64 1] 23)) 3 (ints [a])
    simpa [ints] using this
  refine (C85.out _ _ oL.rd).mono ?_
  rintro e w1 ⟨rfl, k1⟩
  replace o0 := (o0.alloc (.cells #[.int .i64 a] 3)).kept k1
  replace K0 := kept_trans (kept_alloc K0 (.cells #[.int .i64 a] 3)) k1
  clear oL k1
  have q0 := o0.cell (j := 0) rfl; have q1 := o0.cell (j := 1) rfl
  go_wp2_with fail
  refine (C86.out _).mono ?_
  rintro e w2 ⟨rfl, k1⟩
  replace K0 := kept_trans K0 k1
  clear q0 q1 k1 o0
  go_wp2_with fail
  refine (C92.out _).mono ?_
  rintro e w3 ⟨rfl, k1⟩
  go_wp2_with fail
  go_ret2
  exact ⟨rfl, kept_trans K0 k1⟩

set_option maxRecDepth 100000 in
set_option maxHeartbeats 1000000 in
theorem power67_two (m : Nat) (a : Int) (k : Nat) (w : World) (ok : okF 2 m = true) (ha : inF 2 m a) (hm : 2 ≤ m) (hk : k < 2 ^ 62) :
    Calls Tryz.prog 50 #[fV 2 m, .int .i64 a, .int .i64 k] w fun e w' => e = .returned (.tuple #[.int .i64 (pwF 2 m a k), .int .i64 0]) ∧ Kept w w' := by
  have C85 := Lib.hid fun (w' : World) (A : Option Addr) (hA : Rd w' A (ints [a])) => check85_ok 2 m [a] A 1 w' ok (by simp; exact ha) hA (by simp)
  have C86 := Lib.hid fun (w' : World) => of86_two m w' hm (m_le ok)
  have C92 := Lib.hid fun (w' : World) => power92_two m a k w' ok ha hm hk
  unfold fV at *
  have o0 := Own.new w 23 [.int .i64 2, .int .i64 m]
  have K0 := kept_alloc (kept_refl w) (.cells #[.int .i64 2, .int .i64 m] 23)
  clear ha ok
  go_enter Tryz.func50, Tryz.ntmps50
  go_wp2_with fail
  have oL : Own ((w.alloc (.cells #[.int .i64 2, .int .i64 m] 23)).alloc (.cells #[.int .i64 a] 3)) (w.heap.size + 1) 3 (ints [a]) := by
    have := Own.new (w.alloc (.cells #[.int .i64 2, .int .i64 m] 23)) 3 (ints [a])
    simpa [ints] using this
  refine (C85.out _ _ oL.rd).mono ?_
  rintro e w1 ⟨rfl, k1⟩
  replace o0 := (o0.alloc (.cells #[.int .i64 a] 3)).kept k1
  replace K0 := kept_trans (kept_alloc K0 (.cells #[.int .i64 a] 3)) k1
  clear oL k1
  have q0 := o0.cell (j := 0) rfl; have q1 := o0.cell (j := 1) rfl
  go_wp2_with fail
  refine (C86.out _).mono ?_
  rintro e w2 ⟨rfl, k1⟩
  replace K0 := kept_trans K0 k1
  clear q0 q1 k1 o0
  go_wp2_with fail
  refine (C92.out _).mono ?_
  rintro e w3 ⟨rfl, k1⟩
  go_wp2_with fail
  go_ret2
  exact ⟨rfl, kept_trans K0 k1⟩

theorem power67_any (P M a : Int) (k : Nat) (w : World) (ok : okF P M = true) (ha : inF P M a) (hk : k < 2 ^ 62) :
    Calls Tryz.prog 50 #[fV P M, .int .i64 a, .int .i64 k] w fun e w' => e = .returned (.tuple #[.int .i64 (pwF P M a k), .int .i64 0]) ∧ Kept w w' := by
  rcases ok_cases ok with ⟨rfl, _⟩ | ⟨rfl, m, h1, h2, rfl, _⟩
  · exact power67_one P a k w ok ha hk
  · exact power67_two m a k w ok ha h1 hk
end Go.Proofs.YtikfeemmjfoffaaGreatDoor
