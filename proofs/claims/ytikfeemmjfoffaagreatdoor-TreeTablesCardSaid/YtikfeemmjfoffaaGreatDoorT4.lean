/- Trees: the law TreeTables, walked. (printed by genT4.py) -/
import Derived.Test.YtikfeemmjfoffaaGreatDoorT3
import Derived.Test.YtikfeemmjfoffaaGreatDoorU4
set_option linter.unusedVariables false
set_option linter.unusedSimpArgs false
namespace Go.Proofs.YtikfeemmjfoffaaGreatDoor
open Go.RowKit Go.Shelf

theorem sumLen_one (f : Tm → Tm) : ∀ l : List Tm, sumLen ((l.map f).map fun t => [t]) = l.length
  | [] => rfl
  | t :: l => by
    have := sumLen_one f l
    unfold sumLen at this ⊢
    simp only [List.map_cons, List.sum_cons, List.length_cons, List.length_nil] at this ⊢
    omega

set_option maxRecDepth 100000 in
set_option maxHeartbeats 1000000 in
theorem law3_few (P M : Int) (t : Tr) (A : Option Addr) (c : Nat) (T : Option Addr) (d : Nat) (n k : Int) (w : World) (hlib : LibOk w) (hA : Rd w A (ints t.lv)) (hT : RT w T t.tb) (hl : t.lv.length ≤ 140737488355328) (ht : t.tb.length ≤ 140737488355328) (hf : fewBW 10000 t = false) :
    Calls Tryz.prog 3 #[fV P M, trV t A c T d, .int .i64 n, .int .i64 k] w fun e w' => e = .returned (.bool true) ∧ Kept w w' := by
  have C6 := Lib.hid fun (w' : World) (kk : Kept w w') => few7_any 10000 (by omega) (by omega) t A c T d w' (hT.kept kk) hl ht
  have C7 := Lib.hid fun (w' : World) (kk : Kept w w') => alive8 w' (hlib.kept kk)
  unfold trV fV at *
  have K2 := kept_alloc (kept_alloc (kept_refl w) (.cells #[.int .i64 P, .int .i64 M] 23)) (.cells #[.int .i64 t.h, .int .i64 t.b, .slice A t.lv.length c, .slice T t.tb.length d] 27)
  have p0 := (Own.new w 23 [.int .i64 P, .int .i64 M]).alloc (.cells #[.int .i64 t.h, .int .i64 t.b, .slice A t.lv.length c, .slice T t.tb.length d] 27)
  have o0 := Own.new (w.alloc (.cells #[.int .i64 P, .int .i64 M] 23)) 27 [.int .i64 t.h, .int .i64 t.b, .slice A t.lv.length c, .slice T t.tb.length d]
  rw [show (w.alloc (.cells #[.int .i64 P, .int .i64 M] 23)).heap.size = w.heap.size + 1 by simp] at o0
  obtain ⟨W0, hW0⟩ : ∃ W0, W0 = (w.alloc (.cells #[.int .i64 P, .int .i64 M] 23)).alloc (.cells #[.int .i64 t.h, .int .i64 t.b, .slice A t.lv.length c, .slice T t.tb.length d] 27) := ⟨_, rfl⟩
  have o0' : Own W0 (w.heap.size + 1) 27 [.int .i64 t.h, .int .i64 t.b, .slice A t.lv.length c, .slice T t.tb.length d] := by rw [hW0]; exact o0
  rw [← hW0] at K2 p0
  have HW0 := Lib.hid hW0
  have y0 := p0.cell (j := 0) rfl; have y1 := p0.cell (j := 1) rfl
  have q0 := o0'.cell (j := 0) rfl; have q1 := o0'.cell (j := 1) rfl; have q2 := o0'.cell (j := 2) rfl; have q3 := o0'.cell (j := 3) rfl
  clear hW0 o0
  rw [hf] at C6
  clear hA hT hlib hf
  go_enter Tryz.func3, Tryz.ntmps3
  go_upto_region 1 with fail
  rw [← HW0.out]
  go_wp2_with (first
    | (go_at_call 6; ((with_reducible refine (C6.out _ K2).mono ?_); rintro e w1 ⟨rfl, k1⟩; replace K2 := kept_trans K2 k1; replace y0 := kept_cell k1 y0; replace y1 := kept_cell k1 y1; replace q0 := kept_cell k1 q0; replace q1 := kept_cell k1 q1; replace q2 := kept_cell k1 q2; replace q3 := kept_cell k1 q3))
    | (go_at_call 7; ((with_reducible refine (C7.out _ K2).mono ?_); rintro e w9 ⟨rfl, k9⟩; replace K2 := kept_trans K2 k9)))
  go_ret
  exact ⟨rfl, K2⟩
set_option maxRecDepth 100000 in
set_option maxHeartbeats 1000000 in
theorem law3_main (P M : Int) (t : Tr) (A : Option Addr) (c : Nat) (T : Option Addr) (d : Nat) (n k : Int) (w : World) (hlib : LibOk w) (hA : Rd w A (ints t.lv)) (hT : RT w T t.tb) (hl : t.lv.length ≤ 140737488355328) (ht : t.tb.length ≤ 140737488355328) (hf : fewBW 10000 t = true) :
    Calls Tryz.prog 3 #[fV P M, trV t A c T d, .int .i64 n, .int .i64 k] w fun e w' => e = .returned (.bool true) ∧ Kept w w' := by
  have C8 := Lib.hid fun (w' : World) (kk : Kept w w') => table8_any t n k A c T d w' (hA.kept kk) (hT.kept kk) hl ht
  have C9 := Lib.hid fun (w' : World) (kk : Kept w w') => poly9_any P M t n k A c T d w' (hA.kept kk) (hT.kept kk) hl ht
  have C10 := Lib.hid fun (w' : World) (kk : Kept w w') => rvalid9_any t.h t.b A c t.lv T d t.tb w' (hA.kept kk) (hT.kept kk) hl ht
  rw [show (⟨t.h, t.b, t.lv, t.tb⟩ : Tr) = t from rfl] at C10
  have C11 := Lib.hid fun w' => rvalid21_any P M w'
  have C12 := Lib.hid fun (hv : validT t = true) (hi : inB t n k = true) (w' : World) (kk : Kept w w') => rtable12_any t (good_of hv) n.toNat k.toNat (by have := inB_iff.1 hi; omega) (by have := inB_iff.1 hi; have := (good_of hv).b6; omega) A c T d w' (hT.kept kk)
  have C15 := Lib.hid fun (ok : okF P M = true) (hv : validT t = true) (w' : World) (B : Option Addr) (e : Nat) (hB : Rd w' B (bools (tabB t n.toNat k.toNat))) => rmulti22_any P M (2 * t.b).toNat (tabB t n.toNat k.toNat) B e w' ok hB (by have := (good_of hv).b6; omega) (by rw [tabB_len]; rfl)
  have C16 := Lib.hid fun (ok : okF P M = true) w' => of18_any P M w' ok
  obtain ⟨L, hL⟩ : ∃ L, L = tabO t n k := ⟨_, rfl⟩
  obtain ⟨x8, hx8⟩ : ∃ x, x = chkE t n k := ⟨_, rfl⟩
  obtain ⟨R, hR⟩ : ∃ R, R = polO P M t n k := ⟨_, rfl⟩
  obtain ⟨x9, hx9⟩ : ∃ x, x = polE P M t n k := ⟨_, rfl⟩
  obtain ⟨V, hV⟩ : ∃ V, V = validT t := ⟨_, rfl⟩
  obtain ⟨I, hI⟩ : ∃ I, I = inB t n k := ⟨_, rfl⟩
  rw [← hL, ← hx8] at C8
  rw [← hR, ← hx9] at C9
  rw [← hV] at C10
  have HL := Lib.hid hL; have HX8 := Lib.hid hx8; have HR := Lib.hid hR; have HX9 := Lib.hid hx9; have HV := Lib.hid hV; have HI := Lib.hid hI
  unfold Table8Post at C8
  unfold Poly9Post at C9
  clear hL hx8 hR hx9 hV hI
  have C6 := Lib.hid fun (w' : World) (kk : Kept w w') => few7_any 10000 (by omega) (by omega) t A c T d w' (hT.kept kk) hl ht
  have C7 := Lib.hid fun (w' : World) (kk : Kept w w') => alive8 w' (hlib.kept kk)
  unfold trV fV at *
  have K2 := kept_alloc (kept_alloc (kept_refl w) (.cells #[.int .i64 P, .int .i64 M] 23)) (.cells #[.int .i64 t.h, .int .i64 t.b, .slice A t.lv.length c, .slice T t.tb.length d] 27)
  have p0 := (Own.new w 23 [.int .i64 P, .int .i64 M]).alloc (.cells #[.int .i64 t.h, .int .i64 t.b, .slice A t.lv.length c, .slice T t.tb.length d] 27)
  have o0 := Own.new (w.alloc (.cells #[.int .i64 P, .int .i64 M] 23)) 27 [.int .i64 t.h, .int .i64 t.b, .slice A t.lv.length c, .slice T t.tb.length d]
  rw [show (w.alloc (.cells #[.int .i64 P, .int .i64 M] 23)).heap.size = w.heap.size + 1 by simp] at o0
  obtain ⟨W0, hW0⟩ : ∃ W0, W0 = (w.alloc (.cells #[.int .i64 P, .int .i64 M] 23)).alloc (.cells #[.int .i64 t.h, .int .i64 t.b, .slice A t.lv.length c, .slice T t.tb.length d] 27) := ⟨_, rfl⟩
  have o0' : Own W0 (w.heap.size + 1) 27 [.int .i64 t.h, .int .i64 t.b, .slice A t.lv.length c, .slice T t.tb.length d] := by rw [hW0]; exact o0
  rw [← hW0] at K2 p0
  have HW0 := Lib.hid hW0
  have y0 := p0.cell (j := 0) rfl; have y1 := p0.cell (j := 1) rfl
  have q0 := o0'.cell (j := 0) rfl; have q1 := o0'.cell (j := 1) rfl; have q2 := o0'.cell (j := 2) rfl; have q3 := o0'.cell (j := 3) rfl
  clear hW0 o0
  rw [hf] at C6
  clear hA hT hlib hf
  go_enter Tryz.func3, Tryz.ntmps3
  go_upto_region 1 with fail
  rw [← HW0.out]
  go_upto_region 5 with (first
    | (go_at_call 6; ((with_reducible refine (C6.out _ K2).mono ?_); rintro e w1 ⟨rfl, k1⟩; replace K2 := kept_trans K2 k1; replace y0 := kept_cell k1 y0; replace y1 := kept_cell k1 y1; replace q0 := kept_cell k1 q0; replace q1 := kept_cell k1 q1; replace q2 := kept_cell k1 q2; replace q3 := kept_cell k1 q3))
    | (go_at_call 8; ((with_reducible refine (C8.out _ K2).mono ?_); rintro e w2 ⟨A8, c8, rfl, hr8, k2⟩; replace K2 := kept_trans K2 k2; replace y0 := kept_cell k2 y0; replace y1 := kept_cell k2 y1; replace q0 := kept_cell k2 q0; replace q1 := kept_cell k2 q1; replace q2 := kept_cell k2 q2; replace q3 := kept_cell k2 q3))
    | (go_at_call 9; ((with_reducible refine (C9.out _ K2).mono ?_); rintro e w3 ⟨A9, c9, rfl, hr9, k3⟩; replace K2 := kept_trans K2 k3; replace y0 := kept_cell k3 y0; replace y1 := kept_cell k3 y1; replace q0 := kept_cell k3 q0; replace q1 := kept_cell k3 q1; replace q2 := kept_cell k3 q2; replace q3 := kept_cell k3 q3; replace hr8 := hr8.kept k3)))
  go_cut [13, 14] (fun s13 s14 wx => s13 = .bool V ∧ s14 = .bool I ∧ Kept w3 wx)
  case first =>
    by_cases a1 : 0 ≤ n
    · have d1 : decide (0 ≤ n) = true := decide_eq_true a1
      by_cases a2 : n < (t.tb.length : Int)
      · have d2 : decide (n < (t.tb.length : Int)) = true := decide_eq_true a2
        by_cases a3 : 0 ≤ k
        · have d3 : decide (0 ≤ k) = true := decide_eq_true a3
          by_cases a4 : k < t.b
          · have d4 : decide (k < t.b) = true := decide_eq_true a4
            obtain rfl : I = true := by rw [HI.out]; exact inB_iff.2 ⟨a1, a2, a3, a4⟩
            clear a1 a2 a3 a4
            refine region_x (fun w' => Kept w3 w') [] (by kernel_rfl) (kept_drew (kept_refl _)) (fun hHeld => ?_)
            refine x_take (i := 0) (oi := { dst := some 36, op := Op.load 27 (Operand.tmp 5), type := 27, pos := "law.go:60", after := #[], guard := none }) (v := ?_) rfl (by kernel_rfl) (by kernel_rfl) (by kernel_rfl) (by kernel_rfl) (by kernel_rfl) (fun _ _ _ h => h) (Or.inl ⟨rfl, ?_⟩) (by assumption) ?_
            rotate_left
            · (intro w' hSw; replace q0 := kept_cell hSw q0; replace q1 := kept_cell hSw q1; replace q2 := kept_cell hSw q2; replace q3 := kept_cell hSw q3; go_simp; try with_reducible rfl)
            try simp only [Act.put, List.setIfInBounds_toArray, List.set_cons_zero, List.set_cons_succ]
            refine x_take (i := 2) (oi := { dst := some 38, op := Op.move (Operand.tmp 2), type := 3, pos := "law.go:60", after := #[], guard := none }) (v := ?_) rfl (by kernel_rfl) (by kernel_rfl) (by kernel_rfl) (by kernel_rfl) (by kernel_rfl) (fun _ _ _ h => h) (Or.inl ⟨rfl, ?_⟩) (by assumption) ?_
            rotate_left
            · (intro w' hSw; replace q0 := kept_cell hSw q0; replace q1 := kept_cell hSw q1; replace q2 := kept_cell hSw q2; replace q3 := kept_cell hSw q3; go_simp; try with_reducible rfl)
            try simp only [Act.put, List.setIfInBounds_toArray, List.set_cons_zero, List.set_cons_succ]
            refine x_take (i := 3) (oi := { dst := some 39, op := Op.binOp BinOp.geq 3 (Operand.tmp 38) (Operand.const (Value.int IntKind.i64 0)) 3, type := 4, pos := "law.go:60", after := #[{ on := 2, ground := Ground.data }], guard := none }) (v := ?_) rfl (by kernel_rfl) (by kernel_rfl) (by kernel_rfl) (by kernel_rfl) (by kernel_rfl) (fun _ _ _ h => h) (Or.inl ⟨rfl, ?_⟩) (by assumption) ?_
            rotate_left
            · (intro w' hSw; replace q0 := kept_cell hSw q0; replace q1 := kept_cell hSw q1; replace q2 := kept_cell hSw q2; replace q3 := kept_cell hSw q3; go_simp; try with_reducible rfl)
            try simp only [Act.put, List.setIfInBounds_toArray, List.set_cons_zero, List.set_cons_succ]
            refine x_one (i := 1) (o := { dst := some 37, op := Op.call { callee := Callee.value (Operand.func 10), args := #[Operand.tmp 36], argTypes := #[27] }, type := 4, pos := "law.go:60", after := #[{ on := 0, ground := Ground.data }], guard := none }) (by kernel_rfl) rfl (fun K hK => ?_)
            (go_simp; go_at_call 10; (with_reducible refine (C10.out _ (kept_trans K2 hHeld)).mono ?_); rintro e w4 ⟨rfl, k4⟩; have G4 := kept_trans hHeld k4; try dsimp only)
            refine hK.out _ _ ?_ (fun hHeld => ?_)
            · (try dsimp only); repeat (first | assumption | exact kept_refl _ | refine kept_drew ?_ | refine kept_alloc ?_ _ | refine kept_set ?_ (by omega) _)
            clear hK K
            try simp only [Act.put, List.setIfInBounds_toArray, List.set_cons_zero, List.set_cons_succ]
            refine x_take (i := 4) (oi := { dst := some 40, op := Op.move (Operand.tmp 39), type := 4, pos := "law.go:60", after := #[{ on := 3, ground := Ground.data }, { on := 1, ground := Ground.chain }], guard := none }) (v := ?_) rfl (by kernel_rfl) (by kernel_rfl) (by kernel_rfl) (by kernel_rfl) (by kernel_rfl) (fun _ _ _ h => h) (Or.inl ⟨rfl, ?_⟩) (by assumption) ?_
            rotate_left
            · (intro w' hSw; replace q0 := kept_cell hSw q0; replace q1 := kept_cell hSw q1; replace q2 := kept_cell hSw q2; replace q3 := kept_cell hSw q3; go_simp; try with_reducible rfl)
            try simp only [Act.put, List.setIfInBounds_toArray, List.set_cons_zero, List.set_cons_succ]
            refine x_take (i := 5) (oi := { dst := some 41, op := Op.move (Operand.tmp 2), type := 3, pos := "law.go:60", after := #[{ on := 4, ground := Ground.guard }], guard := some (4, true) }) (v := ?_) rfl (by kernel_rfl) (by kernel_rfl) (by kernel_rfl) (by kernel_rfl) (by kernel_rfl) (fun _ _ _ h => h) (Or.inl ⟨rfl, ?_⟩) (by assumption) ?_
            rotate_left
            · (intro w' hSw; replace q0 := kept_cell hSw q0; replace q1 := kept_cell hSw q1; replace q2 := kept_cell hSw q2; replace q3 := kept_cell hSw q3; go_simp; try with_reducible rfl)
            try simp only [Act.put, List.setIfInBounds_toArray, List.set_cons_zero, List.set_cons_succ]
            refine x_take (i := 6) (oi := { dst := some 42, op := Op.fieldAddr 27 (Operand.tmp 5) 3, type := 0, pos := "law.go:60", after := #[{ on := 4, ground := Ground.guard }], guard := some (4, true) }) (v := ?_) rfl (by kernel_rfl) (by kernel_rfl) (by kernel_rfl) (by kernel_rfl) (by kernel_rfl) (fun _ _ _ h => h) (Or.inl ⟨rfl, ?_⟩) (by assumption) ?_
            rotate_left
            · (intro w' hSw; replace q0 := kept_cell hSw q0; replace q1 := kept_cell hSw q1; replace q2 := kept_cell hSw q2; replace q3 := kept_cell hSw q3; go_simp; try with_reducible rfl)
            try simp only [Act.put, List.setIfInBounds_toArray, List.set_cons_zero, List.set_cons_succ]
            refine x_take (i := 7) (oi := { dst := some 43, op := Op.load 25 (Operand.tmp 42), type := 25, pos := "law.go:60", after := #[{ on := 6, ground := Ground.data }, { on := 4, ground := Ground.guard }], guard := some (4, true) }) (v := ?_) rfl (by kernel_rfl) (by kernel_rfl) (by kernel_rfl) (by kernel_rfl) (by kernel_rfl) (fun _ _ _ h => h) (Or.inl ⟨rfl, ?_⟩) (by assumption) ?_
            rotate_left
            · (intro w' hSw; replace q0 := kept_cell hSw q0; replace q1 := kept_cell hSw q1; replace q2 := kept_cell hSw q2; replace q3 := kept_cell hSw q3; go_simp; try with_reducible rfl)
            try simp only [Act.put, List.setIfInBounds_toArray, List.set_cons_zero, List.set_cons_succ]
            refine x_take (i := 8) (oi := { dst := some 44, op := Op.call { callee := Callee.builtin Builtin.len, args := #[Operand.tmp 43], argTypes := #[25] }, type := 3, pos := "law.go:60", after := #[{ on := 7, ground := Ground.data }, { on := 4, ground := Ground.guard }], guard := some (4, true) }) (v := ?_) rfl (by kernel_rfl) (by kernel_rfl) (by kernel_rfl) (by kernel_rfl) (by kernel_rfl) (fun _ _ _ h => h) (Or.inl ⟨rfl, ?_⟩) (by assumption) ?_
            rotate_left
            · (intro w' hSw; replace q0 := kept_cell hSw q0; replace q1 := kept_cell hSw q1; replace q2 := kept_cell hSw q2; replace q3 := kept_cell hSw q3; go_simp; try with_reducible rfl)
            try simp only [Act.put, List.setIfInBounds_toArray, List.set_cons_zero, List.set_cons_succ]
            refine x_take (i := 9) (oi := { dst := some 45, op := Op.binOp BinOp.lss 3 (Operand.tmp 41) (Operand.tmp 44) 3, type := 4, pos := "law.go:60", after := #[{ on := 5, ground := Ground.data }, { on := 8, ground := Ground.data }, { on := 4, ground := Ground.guard }], guard := some (4, true) }) (v := ?_) rfl (by kernel_rfl) (by kernel_rfl) (by kernel_rfl) (by kernel_rfl) (by kernel_rfl) (fun _ _ _ h => h) (Or.inl ⟨rfl, ?_⟩) (by assumption) ?_
            rotate_left
            · (intro w' hSw; replace q0 := kept_cell hSw q0; replace q1 := kept_cell hSw q1; replace q2 := kept_cell hSw q2; replace q3 := kept_cell hSw q3; go_simp; try with_reducible rfl)
            try simp only [Act.put, List.setIfInBounds_toArray, List.set_cons_zero, List.set_cons_succ]
            refine x_take (i := 10) (oi := { dst := some 46, op := Op.pick (Operand.tmp 40) (Operand.tmp 45) (Operand.const (Value.bool false)), type := 4, pos := "law.go:60", after := #[{ on := 4, ground := Ground.data }, { on := 9, ground := Ground.data }], guard := none }) (v := ?_) rfl (by kernel_rfl) (by kernel_rfl) (by kernel_rfl) (by kernel_rfl) (by kernel_rfl) (fun _ _ _ h => h) (Or.inl ⟨rfl, ?_⟩) (by assumption) ?_
            rotate_left
            · (intro w' hSw; replace q0 := kept_cell hSw q0; replace q1 := kept_cell hSw q1; replace q2 := kept_cell hSw q2; replace q3 := kept_cell hSw q3; go_simp; try with_reducible rfl)
            try simp only [Act.put, List.setIfInBounds_toArray, List.set_cons_zero, List.set_cons_succ]
            refine x_take (i := 11) (oi := { dst := some 47, op := Op.move (Operand.tmp 46), type := 4, pos := "law.go:60", after := #[{ on := 10, ground := Ground.data }, { on := 4, ground := Ground.chain }], guard := none }) (v := ?_) rfl (by kernel_rfl) (by kernel_rfl) (by kernel_rfl) (by kernel_rfl) (by kernel_rfl) (fun _ _ _ h => h) (Or.inl ⟨rfl, ?_⟩) (by assumption) ?_
            rotate_left
            · (intro w' hSw; replace q0 := kept_cell hSw q0; replace q1 := kept_cell hSw q1; replace q2 := kept_cell hSw q2; replace q3 := kept_cell hSw q3; go_simp; try with_reducible rfl)
            try simp only [Act.put, List.setIfInBounds_toArray, List.set_cons_zero, List.set_cons_succ]
            refine x_take (i := 12) (oi := { dst := some 48, op := Op.move (Operand.tmp 3), type := 3, pos := "law.go:60", after := #[{ on := 11, ground := Ground.guard }], guard := some (11, true) }) (v := ?_) rfl (by kernel_rfl) (by kernel_rfl) (by kernel_rfl) (by kernel_rfl) (by kernel_rfl) (fun _ _ _ h => h) (Or.inl ⟨rfl, ?_⟩) (by assumption) ?_
            rotate_left
            · (intro w' hSw; replace q0 := kept_cell hSw q0; replace q1 := kept_cell hSw q1; replace q2 := kept_cell hSw q2; replace q3 := kept_cell hSw q3; go_simp; try with_reducible rfl)
            try simp only [Act.put, List.setIfInBounds_toArray, List.set_cons_zero, List.set_cons_succ]
            refine x_take (i := 13) (oi := { dst := some 49, op := Op.binOp BinOp.geq 3 (Operand.tmp 48) (Operand.const (Value.int IntKind.i64 0)) 3, type := 4, pos := "law.go:60", after := #[{ on := 12, ground := Ground.data }, { on := 11, ground := Ground.guard }], guard := some (11, true) }) (v := ?_) rfl (by kernel_rfl) (by kernel_rfl) (by kernel_rfl) (by kernel_rfl) (by kernel_rfl) (fun _ _ _ h => h) (Or.inl ⟨rfl, ?_⟩) (by assumption) ?_
            rotate_left
            · (intro w' hSw; replace q0 := kept_cell hSw q0; replace q1 := kept_cell hSw q1; replace q2 := kept_cell hSw q2; replace q3 := kept_cell hSw q3; go_simp; try with_reducible rfl)
            try simp only [Act.put, List.setIfInBounds_toArray, List.set_cons_zero, List.set_cons_succ]
            refine x_take (i := 14) (oi := { dst := some 50, op := Op.pick (Operand.tmp 47) (Operand.tmp 49) (Operand.const (Value.bool false)), type := 4, pos := "law.go:60", after := #[{ on := 11, ground := Ground.data }, { on := 13, ground := Ground.data }], guard := none }) (v := ?_) rfl (by kernel_rfl) (by kernel_rfl) (by kernel_rfl) (by kernel_rfl) (by kernel_rfl) (fun _ _ _ h => h) (Or.inl ⟨rfl, ?_⟩) (by assumption) ?_
            rotate_left
            · (intro w' hSw; replace q0 := kept_cell hSw q0; replace q1 := kept_cell hSw q1; replace q2 := kept_cell hSw q2; replace q3 := kept_cell hSw q3; go_simp; try with_reducible rfl)
            try simp only [Act.put, List.setIfInBounds_toArray, List.set_cons_zero, List.set_cons_succ]
            refine x_take (i := 15) (oi := { dst := some 51, op := Op.move (Operand.tmp 50), type := 4, pos := "law.go:60", after := #[{ on := 14, ground := Ground.data }, { on := 11, ground := Ground.chain }], guard := none }) (v := ?_) rfl (by kernel_rfl) (by kernel_rfl) (by kernel_rfl) (by kernel_rfl) (by kernel_rfl) (fun _ _ _ h => h) (Or.inl ⟨rfl, ?_⟩) (by assumption) ?_
            rotate_left
            · (intro w' hSw; replace q0 := kept_cell hSw q0; replace q1 := kept_cell hSw q1; replace q2 := kept_cell hSw q2; replace q3 := kept_cell hSw q3; go_simp; try with_reducible rfl)
            try simp only [Act.put, List.setIfInBounds_toArray, List.set_cons_zero, List.set_cons_succ]
            refine x_take (i := 16) (oi := { dst := some 52, op := Op.move (Operand.tmp 3), type := 3, pos := "law.go:60", after := #[{ on := 15, ground := Ground.guard }, { on := 21, ground := Ground.gcOnly Departure.lateStores }], guard := some (15, true) }) (v := ?_) rfl (by kernel_rfl) (by kernel_rfl) (by kernel_rfl) (by kernel_rfl) (by kernel_rfl) (fun _ _ _ h => h) (Or.inl ⟨rfl, ?_⟩) (by assumption) ?_
            rotate_left
            · (intro w' hSw; replace q0 := kept_cell hSw q0; replace q1 := kept_cell hSw q1; replace q2 := kept_cell hSw q2; replace q3 := kept_cell hSw q3; go_simp; try with_reducible rfl)
            try simp only [Act.put, List.setIfInBounds_toArray, List.set_cons_zero, List.set_cons_succ]
            refine x_take (i := 17) (oi := { dst := some 53, op := Op.fieldAddr 27 (Operand.tmp 5) 1, type := 0, pos := "law.go:60", after := #[{ on := 15, ground := Ground.guard }, { on := 21, ground := Ground.gcOnly Departure.lateStores }], guard := some (15, true) }) (v := ?_) rfl (by kernel_rfl) (by kernel_rfl) (by kernel_rfl) (by kernel_rfl) (by kernel_rfl) (fun _ _ _ h => h) (Or.inl ⟨rfl, ?_⟩) (by assumption) ?_
            rotate_left
            · (intro w' hSw; replace q0 := kept_cell hSw q0; replace q1 := kept_cell hSw q1; replace q2 := kept_cell hSw q2; replace q3 := kept_cell hSw q3; go_simp; try with_reducible rfl)
            try simp only [Act.put, List.setIfInBounds_toArray, List.set_cons_zero, List.set_cons_succ]
            refine x_take (i := 18) (oi := { dst := some 54, op := Op.load 3 (Operand.tmp 53), type := 3, pos := "law.go:60", after := #[{ on := 17, ground := Ground.data }, { on := 15, ground := Ground.guard }, { on := 21, ground := Ground.gcOnly Departure.lateStores }], guard := some (15, true) }) (v := ?_) rfl (by kernel_rfl) (by kernel_rfl) (by kernel_rfl) (by kernel_rfl) (by kernel_rfl) (fun _ _ _ h => h) (Or.inl ⟨rfl, ?_⟩) (by assumption) ?_
            rotate_left
            · (intro w' hSw; replace q0 := kept_cell hSw q0; replace q1 := kept_cell hSw q1; replace q2 := kept_cell hSw q2; replace q3 := kept_cell hSw q3; go_simp; try with_reducible rfl)
            try simp only [Act.put, List.setIfInBounds_toArray, List.set_cons_zero, List.set_cons_succ]
            refine x_take (i := 19) (oi := { dst := some 55, op := Op.binOp BinOp.lss 3 (Operand.tmp 52) (Operand.tmp 54) 3, type := 4, pos := "law.go:60", after := #[{ on := 16, ground := Ground.data }, { on := 18, ground := Ground.data }, { on := 15, ground := Ground.guard }, { on := 21, ground := Ground.gcOnly Departure.lateStores }], guard := some (15, true) }) (v := ?_) rfl (by kernel_rfl) (by kernel_rfl) (by kernel_rfl) (by kernel_rfl) (by kernel_rfl) (fun _ _ _ h => h) (Or.inl ⟨rfl, ?_⟩) (by assumption) ?_
            rotate_left
            · (intro w' hSw; replace q0 := kept_cell hSw q0; replace q1 := kept_cell hSw q1; replace q2 := kept_cell hSw q2; replace q3 := kept_cell hSw q3; go_simp; try with_reducible rfl)
            try simp only [Act.put, List.setIfInBounds_toArray, List.set_cons_zero, List.set_cons_succ]
            refine x_take (i := 20) (oi := { dst := some 56, op := Op.pick (Operand.tmp 51) (Operand.tmp 55) (Operand.const (Value.bool false)), type := 4, pos := "law.go:60", after := #[{ on := 15, ground := Ground.data }, { on := 19, ground := Ground.data }, { on := 21, ground := Ground.gcOnly Departure.lateStores }], guard := none }) (v := ?_) rfl (by kernel_rfl) (by kernel_rfl) (by kernel_rfl) (by kernel_rfl) (by kernel_rfl) (fun _ _ _ h => h) (Or.inl ⟨rfl, ?_⟩) (by assumption) ?_
            rotate_left
            · (intro w' hSw; replace q0 := kept_cell hSw q0; replace q1 := kept_cell hSw q1; replace q2 := kept_cell hSw q2; replace q3 := kept_cell hSw q3; go_simp; try with_reducible rfl)
            try simp only [Act.put, List.setIfInBounds_toArray, List.set_cons_zero, List.set_cons_succ]
            refine x_take (i := 21) (oi := { dst := some 13, op := Op.assign (Operand.tmp 37), type := 4, pos := "law.go:60", after := #[{ on := 1, ground := Ground.data }, { on := 15, ground := Ground.chain }, { on := 0, ground := Ground.phase }, { on := 1, ground := Ground.phase }, { on := 2, ground := Ground.textOnly Departure.lateStores }, { on := 3, ground := Ground.textOnly Departure.lateStores }, { on := 4, ground := Ground.textOnly Departure.lateStores }, { on := 5, ground := Ground.textOnly Departure.lateStores }, { on := 6, ground := Ground.textOnly Departure.lateStores }, { on := 7, ground := Ground.textOnly Departure.lateStores }, { on := 8, ground := Ground.textOnly Departure.lateStoresUnsure }, { on := 9, ground := Ground.textOnly Departure.lateStores }, { on := 10, ground := Ground.textOnly Departure.lateStores }, { on := 11, ground := Ground.textOnly Departure.lateStores }, { on := 12, ground := Ground.textOnly Departure.lateStores }, { on := 13, ground := Ground.textOnly Departure.lateStores }, { on := 14, ground := Ground.textOnly Departure.lateStores }, { on := 15, ground := Ground.textOnly Departure.lateStores }, { on := 16, ground := Ground.textOnly Departure.lateStores }, { on := 17, ground := Ground.textOnly Departure.lateStores }, { on := 18, ground := Ground.textOnly Departure.lateStores }, { on := 19, ground := Ground.textOnly Departure.lateStores }, { on := 20, ground := Ground.textOnly Departure.lateStores }], guard := none }) (v := ?_) rfl (by kernel_rfl) (by kernel_rfl) (by kernel_rfl) (by kernel_rfl) (by kernel_rfl) (fun _ _ _ h => h) (Or.inl ⟨rfl, ?_⟩) (by assumption) ?_
            rotate_left
            · (intro w' hSw; replace q0 := kept_cell hSw q0; replace q1 := kept_cell hSw q1; replace q2 := kept_cell hSw q2; replace q3 := kept_cell hSw q3; go_simp; try with_reducible rfl)
            try simp only [Act.put, List.setIfInBounds_toArray, List.set_cons_zero, List.set_cons_succ]
            refine x_take (i := 22) (oi := { dst := some 14, op := Op.assign (Operand.tmp 56), type := 4, pos := "law.go:60", after := #[{ on := 20, ground := Ground.data }, { on := 21, ground := Ground.chain }, { on := 0, ground := Ground.phase }, { on := 1, ground := Ground.phase }, { on := 2, ground := Ground.phase }, { on := 3, ground := Ground.phase }, { on := 4, ground := Ground.phase }, { on := 5, ground := Ground.phase }, { on := 6, ground := Ground.phase }, { on := 7, ground := Ground.phase }, { on := 8, ground := Ground.phase }, { on := 9, ground := Ground.phase }, { on := 10, ground := Ground.phase }, { on := 11, ground := Ground.phase }, { on := 12, ground := Ground.phase }, { on := 13, ground := Ground.phase }, { on := 14, ground := Ground.phase }, { on := 15, ground := Ground.phase }, { on := 16, ground := Ground.phase }, { on := 17, ground := Ground.phase }, { on := 18, ground := Ground.phase }, { on := 19, ground := Ground.phase }, { on := 20, ground := Ground.phase }, { on := 21, ground := Ground.phase }], guard := none }) (v := ?_) rfl (by kernel_rfl) (by kernel_rfl) (by kernel_rfl) (by kernel_rfl) (by kernel_rfl) (fun _ _ _ h => h) (Or.inl ⟨rfl, ?_⟩) (by assumption) ?_
            rotate_left
            · (intro w' hSw; replace q0 := kept_cell hSw q0; replace q1 := kept_cell hSw q1; replace q2 := kept_cell hSw q2; replace q3 := kept_cell hSw q3; go_simp; try with_reducible rfl)
            try simp only [Act.put, List.setIfInBounds_toArray, List.set_cons_zero, List.set_cons_succ]
            refine x_done (by kernel_rfl) ?_ _
            (go_wp2_with fail; go_meet; exact ⟨rfl, rfl, by assumption⟩)
          · have d4 : decide (k < t.b) = false := decide_eq_false a4
            obtain rfl : I = false := by rw [HI.out, Bool.eq_false_iff]; intro h; have := inB_iff.1 h; omega
            clear a1 a2 a3 a4
            refine region_x (fun w' => Kept w3 w') [] (by kernel_rfl) (kept_drew (kept_refl _)) (fun hHeld => ?_)
            refine x_take (i := 0) (oi := { dst := some 36, op := Op.load 27 (Operand.tmp 5), type := 27, pos := "law.go:60", after := #[], guard := none }) (v := ?_) rfl (by kernel_rfl) (by kernel_rfl) (by kernel_rfl) (by kernel_rfl) (by kernel_rfl) (fun _ _ _ h => h) (Or.inl ⟨rfl, ?_⟩) (by assumption) ?_
            rotate_left
            · (intro w' hSw; replace q0 := kept_cell hSw q0; replace q1 := kept_cell hSw q1; replace q2 := kept_cell hSw q2; replace q3 := kept_cell hSw q3; go_simp; try with_reducible rfl)
            try simp only [Act.put, List.setIfInBounds_toArray, List.set_cons_zero, List.set_cons_succ]
            refine x_take (i := 2) (oi := { dst := some 38, op := Op.move (Operand.tmp 2), type := 3, pos := "law.go:60", after := #[], guard := none }) (v := ?_) rfl (by kernel_rfl) (by kernel_rfl) (by kernel_rfl) (by kernel_rfl) (by kernel_rfl) (fun _ _ _ h => h) (Or.inl ⟨rfl, ?_⟩) (by assumption) ?_
            rotate_left
            · (intro w' hSw; replace q0 := kept_cell hSw q0; replace q1 := kept_cell hSw q1; replace q2 := kept_cell hSw q2; replace q3 := kept_cell hSw q3; go_simp; try with_reducible rfl)
            try simp only [Act.put, List.setIfInBounds_toArray, List.set_cons_zero, List.set_cons_succ]
            refine x_take (i := 3) (oi := { dst := some 39, op := Op.binOp BinOp.geq 3 (Operand.tmp 38) (Operand.const (Value.int IntKind.i64 0)) 3, type := 4, pos := "law.go:60", after := #[{ on := 2, ground := Ground.data }], guard := none }) (v := ?_) rfl (by kernel_rfl) (by kernel_rfl) (by kernel_rfl) (by kernel_rfl) (by kernel_rfl) (fun _ _ _ h => h) (Or.inl ⟨rfl, ?_⟩) (by assumption) ?_
            rotate_left
            · (intro w' hSw; replace q0 := kept_cell hSw q0; replace q1 := kept_cell hSw q1; replace q2 := kept_cell hSw q2; replace q3 := kept_cell hSw q3; go_simp; try with_reducible rfl)
            try simp only [Act.put, List.setIfInBounds_toArray, List.set_cons_zero, List.set_cons_succ]
            refine x_one (i := 1) (o := { dst := some 37, op := Op.call { callee := Callee.value (Operand.func 10), args := #[Operand.tmp 36], argTypes := #[27] }, type := 4, pos := "law.go:60", after := #[{ on := 0, ground := Ground.data }], guard := none }) (by kernel_rfl) rfl (fun K hK => ?_)
            (go_simp; go_at_call 10; (with_reducible refine (C10.out _ (kept_trans K2 hHeld)).mono ?_); rintro e w4 ⟨rfl, k4⟩; have G4 := kept_trans hHeld k4; try dsimp only)
            refine hK.out _ _ ?_ (fun hHeld => ?_)
            · (try dsimp only); repeat (first | assumption | exact kept_refl _ | refine kept_drew ?_ | refine kept_alloc ?_ _ | refine kept_set ?_ (by omega) _)
            clear hK K
            try simp only [Act.put, List.setIfInBounds_toArray, List.set_cons_zero, List.set_cons_succ]
            refine x_take (i := 4) (oi := { dst := some 40, op := Op.move (Operand.tmp 39), type := 4, pos := "law.go:60", after := #[{ on := 3, ground := Ground.data }, { on := 1, ground := Ground.chain }], guard := none }) (v := ?_) rfl (by kernel_rfl) (by kernel_rfl) (by kernel_rfl) (by kernel_rfl) (by kernel_rfl) (fun _ _ _ h => h) (Or.inl ⟨rfl, ?_⟩) (by assumption) ?_
            rotate_left
            · (intro w' hSw; replace q0 := kept_cell hSw q0; replace q1 := kept_cell hSw q1; replace q2 := kept_cell hSw q2; replace q3 := kept_cell hSw q3; go_simp; try with_reducible rfl)
            try simp only [Act.put, List.setIfInBounds_toArray, List.set_cons_zero, List.set_cons_succ]
            refine x_take (i := 5) (oi := { dst := some 41, op := Op.move (Operand.tmp 2), type := 3, pos := "law.go:60", after := #[{ on := 4, ground := Ground.guard }], guard := some (4, true) }) (v := ?_) rfl (by kernel_rfl) (by kernel_rfl) (by kernel_rfl) (by kernel_rfl) (by kernel_rfl) (fun _ _ _ h => h) (Or.inl ⟨rfl, ?_⟩) (by assumption) ?_
            rotate_left
            · (intro w' hSw; replace q0 := kept_cell hSw q0; replace q1 := kept_cell hSw q1; replace q2 := kept_cell hSw q2; replace q3 := kept_cell hSw q3; go_simp; try with_reducible rfl)
            try simp only [Act.put, List.setIfInBounds_toArray, List.set_cons_zero, List.set_cons_succ]
            refine x_take (i := 6) (oi := { dst := some 42, op := Op.fieldAddr 27 (Operand.tmp 5) 3, type := 0, pos := "law.go:60", after := #[{ on := 4, ground := Ground.guard }], guard := some (4, true) }) (v := ?_) rfl (by kernel_rfl) (by kernel_rfl) (by kernel_rfl) (by kernel_rfl) (by kernel_rfl) (fun _ _ _ h => h) (Or.inl ⟨rfl, ?_⟩) (by assumption) ?_
            rotate_left
            · (intro w' hSw; replace q0 := kept_cell hSw q0; replace q1 := kept_cell hSw q1; replace q2 := kept_cell hSw q2; replace q3 := kept_cell hSw q3; go_simp; try with_reducible rfl)
            try simp only [Act.put, List.setIfInBounds_toArray, List.set_cons_zero, List.set_cons_succ]
            refine x_take (i := 7) (oi := { dst := some 43, op := Op.load 25 (Operand.tmp 42), type := 25, pos := "law.go:60", after := #[{ on := 6, ground := Ground.data }, { on := 4, ground := Ground.guard }], guard := some (4, true) }) (v := ?_) rfl (by kernel_rfl) (by kernel_rfl) (by kernel_rfl) (by kernel_rfl) (by kernel_rfl) (fun _ _ _ h => h) (Or.inl ⟨rfl, ?_⟩) (by assumption) ?_
            rotate_left
            · (intro w' hSw; replace q0 := kept_cell hSw q0; replace q1 := kept_cell hSw q1; replace q2 := kept_cell hSw q2; replace q3 := kept_cell hSw q3; go_simp; try with_reducible rfl)
            try simp only [Act.put, List.setIfInBounds_toArray, List.set_cons_zero, List.set_cons_succ]
            refine x_take (i := 8) (oi := { dst := some 44, op := Op.call { callee := Callee.builtin Builtin.len, args := #[Operand.tmp 43], argTypes := #[25] }, type := 3, pos := "law.go:60", after := #[{ on := 7, ground := Ground.data }, { on := 4, ground := Ground.guard }], guard := some (4, true) }) (v := ?_) rfl (by kernel_rfl) (by kernel_rfl) (by kernel_rfl) (by kernel_rfl) (by kernel_rfl) (fun _ _ _ h => h) (Or.inl ⟨rfl, ?_⟩) (by assumption) ?_
            rotate_left
            · (intro w' hSw; replace q0 := kept_cell hSw q0; replace q1 := kept_cell hSw q1; replace q2 := kept_cell hSw q2; replace q3 := kept_cell hSw q3; go_simp; try with_reducible rfl)
            try simp only [Act.put, List.setIfInBounds_toArray, List.set_cons_zero, List.set_cons_succ]
            refine x_take (i := 9) (oi := { dst := some 45, op := Op.binOp BinOp.lss 3 (Operand.tmp 41) (Operand.tmp 44) 3, type := 4, pos := "law.go:60", after := #[{ on := 5, ground := Ground.data }, { on := 8, ground := Ground.data }, { on := 4, ground := Ground.guard }], guard := some (4, true) }) (v := ?_) rfl (by kernel_rfl) (by kernel_rfl) (by kernel_rfl) (by kernel_rfl) (by kernel_rfl) (fun _ _ _ h => h) (Or.inl ⟨rfl, ?_⟩) (by assumption) ?_
            rotate_left
            · (intro w' hSw; replace q0 := kept_cell hSw q0; replace q1 := kept_cell hSw q1; replace q2 := kept_cell hSw q2; replace q3 := kept_cell hSw q3; go_simp; try with_reducible rfl)
            try simp only [Act.put, List.setIfInBounds_toArray, List.set_cons_zero, List.set_cons_succ]
            refine x_take (i := 10) (oi := { dst := some 46, op := Op.pick (Operand.tmp 40) (Operand.tmp 45) (Operand.const (Value.bool false)), type := 4, pos := "law.go:60", after := #[{ on := 4, ground := Ground.data }, { on := 9, ground := Ground.data }], guard := none }) (v := ?_) rfl (by kernel_rfl) (by kernel_rfl) (by kernel_rfl) (by kernel_rfl) (by kernel_rfl) (fun _ _ _ h => h) (Or.inl ⟨rfl, ?_⟩) (by assumption) ?_
            rotate_left
            · (intro w' hSw; replace q0 := kept_cell hSw q0; replace q1 := kept_cell hSw q1; replace q2 := kept_cell hSw q2; replace q3 := kept_cell hSw q3; go_simp; try with_reducible rfl)
            try simp only [Act.put, List.setIfInBounds_toArray, List.set_cons_zero, List.set_cons_succ]
            refine x_take (i := 11) (oi := { dst := some 47, op := Op.move (Operand.tmp 46), type := 4, pos := "law.go:60", after := #[{ on := 10, ground := Ground.data }, { on := 4, ground := Ground.chain }], guard := none }) (v := ?_) rfl (by kernel_rfl) (by kernel_rfl) (by kernel_rfl) (by kernel_rfl) (by kernel_rfl) (fun _ _ _ h => h) (Or.inl ⟨rfl, ?_⟩) (by assumption) ?_
            rotate_left
            · (intro w' hSw; replace q0 := kept_cell hSw q0; replace q1 := kept_cell hSw q1; replace q2 := kept_cell hSw q2; replace q3 := kept_cell hSw q3; go_simp; try with_reducible rfl)
            try simp only [Act.put, List.setIfInBounds_toArray, List.set_cons_zero, List.set_cons_succ]
            refine x_take (i := 12) (oi := { dst := some 48, op := Op.move (Operand.tmp 3), type := 3, pos := "law.go:60", after := #[{ on := 11, ground := Ground.guard }], guard := some (11, true) }) (v := ?_) rfl (by kernel_rfl) (by kernel_rfl) (by kernel_rfl) (by kernel_rfl) (by kernel_rfl) (fun _ _ _ h => h) (Or.inl ⟨rfl, ?_⟩) (by assumption) ?_
            rotate_left
            · (intro w' hSw; replace q0 := kept_cell hSw q0; replace q1 := kept_cell hSw q1; replace q2 := kept_cell hSw q2; replace q3 := kept_cell hSw q3; go_simp; try with_reducible rfl)
            try simp only [Act.put, List.setIfInBounds_toArray, List.set_cons_zero, List.set_cons_succ]
            refine x_take (i := 13) (oi := { dst := some 49, op := Op.binOp BinOp.geq 3 (Operand.tmp 48) (Operand.const (Value.int IntKind.i64 0)) 3, type := 4, pos := "law.go:60", after := #[{ on := 12, ground := Ground.data }, { on := 11, ground := Ground.guard }], guard := some (11, true) }) (v := ?_) rfl (by kernel_rfl) (by kernel_rfl) (by kernel_rfl) (by kernel_rfl) (by kernel_rfl) (fun _ _ _ h => h) (Or.inl ⟨rfl, ?_⟩) (by assumption) ?_
            rotate_left
            · (intro w' hSw; replace q0 := kept_cell hSw q0; replace q1 := kept_cell hSw q1; replace q2 := kept_cell hSw q2; replace q3 := kept_cell hSw q3; go_simp; try with_reducible rfl)
            try simp only [Act.put, List.setIfInBounds_toArray, List.set_cons_zero, List.set_cons_succ]
            refine x_take (i := 14) (oi := { dst := some 50, op := Op.pick (Operand.tmp 47) (Operand.tmp 49) (Operand.const (Value.bool false)), type := 4, pos := "law.go:60", after := #[{ on := 11, ground := Ground.data }, { on := 13, ground := Ground.data }], guard := none }) (v := ?_) rfl (by kernel_rfl) (by kernel_rfl) (by kernel_rfl) (by kernel_rfl) (by kernel_rfl) (fun _ _ _ h => h) (Or.inl ⟨rfl, ?_⟩) (by assumption) ?_
            rotate_left
            · (intro w' hSw; replace q0 := kept_cell hSw q0; replace q1 := kept_cell hSw q1; replace q2 := kept_cell hSw q2; replace q3 := kept_cell hSw q3; go_simp; try with_reducible rfl)
            try simp only [Act.put, List.setIfInBounds_toArray, List.set_cons_zero, List.set_cons_succ]
            refine x_take (i := 15) (oi := { dst := some 51, op := Op.move (Operand.tmp 50), type := 4, pos := "law.go:60", after := #[{ on := 14, ground := Ground.data }, { on := 11, ground := Ground.chain }], guard := none }) (v := ?_) rfl (by kernel_rfl) (by kernel_rfl) (by kernel_rfl) (by kernel_rfl) (by kernel_rfl) (fun _ _ _ h => h) (Or.inl ⟨rfl, ?_⟩) (by assumption) ?_
            rotate_left
            · (intro w' hSw; replace q0 := kept_cell hSw q0; replace q1 := kept_cell hSw q1; replace q2 := kept_cell hSw q2; replace q3 := kept_cell hSw q3; go_simp; try with_reducible rfl)
            try simp only [Act.put, List.setIfInBounds_toArray, List.set_cons_zero, List.set_cons_succ]
            refine x_take (i := 16) (oi := { dst := some 52, op := Op.move (Operand.tmp 3), type := 3, pos := "law.go:60", after := #[{ on := 15, ground := Ground.guard }, { on := 21, ground := Ground.gcOnly Departure.lateStores }], guard := some (15, true) }) (v := ?_) rfl (by kernel_rfl) (by kernel_rfl) (by kernel_rfl) (by kernel_rfl) (by kernel_rfl) (fun _ _ _ h => h) (Or.inl ⟨rfl, ?_⟩) (by assumption) ?_
            rotate_left
            · (intro w' hSw; replace q0 := kept_cell hSw q0; replace q1 := kept_cell hSw q1; replace q2 := kept_cell hSw q2; replace q3 := kept_cell hSw q3; go_simp; try with_reducible rfl)
            try simp only [Act.put, List.setIfInBounds_toArray, List.set_cons_zero, List.set_cons_succ]
            refine x_take (i := 17) (oi := { dst := some 53, op := Op.fieldAddr 27 (Operand.tmp 5) 1, type := 0, pos := "law.go:60", after := #[{ on := 15, ground := Ground.guard }, { on := 21, ground := Ground.gcOnly Departure.lateStores }], guard := some (15, true) }) (v := ?_) rfl (by kernel_rfl) (by kernel_rfl) (by kernel_rfl) (by kernel_rfl) (by kernel_rfl) (fun _ _ _ h => h) (Or.inl ⟨rfl, ?_⟩) (by assumption) ?_
            rotate_left
            · (intro w' hSw; replace q0 := kept_cell hSw q0; replace q1 := kept_cell hSw q1; replace q2 := kept_cell hSw q2; replace q3 := kept_cell hSw q3; go_simp; try with_reducible rfl)
            try simp only [Act.put, List.setIfInBounds_toArray, List.set_cons_zero, List.set_cons_succ]
            refine x_take (i := 18) (oi := { dst := some 54, op := Op.load 3 (Operand.tmp 53), type := 3, pos := "law.go:60", after := #[{ on := 17, ground := Ground.data }, { on := 15, ground := Ground.guard }, { on := 21, ground := Ground.gcOnly Departure.lateStores }], guard := some (15, true) }) (v := ?_) rfl (by kernel_rfl) (by kernel_rfl) (by kernel_rfl) (by kernel_rfl) (by kernel_rfl) (fun _ _ _ h => h) (Or.inl ⟨rfl, ?_⟩) (by assumption) ?_
            rotate_left
            · (intro w' hSw; replace q0 := kept_cell hSw q0; replace q1 := kept_cell hSw q1; replace q2 := kept_cell hSw q2; replace q3 := kept_cell hSw q3; go_simp; try with_reducible rfl)
            try simp only [Act.put, List.setIfInBounds_toArray, List.set_cons_zero, List.set_cons_succ]
            refine x_take (i := 19) (oi := { dst := some 55, op := Op.binOp BinOp.lss 3 (Operand.tmp 52) (Operand.tmp 54) 3, type := 4, pos := "law.go:60", after := #[{ on := 16, ground := Ground.data }, { on := 18, ground := Ground.data }, { on := 15, ground := Ground.guard }, { on := 21, ground := Ground.gcOnly Departure.lateStores }], guard := some (15, true) }) (v := ?_) rfl (by kernel_rfl) (by kernel_rfl) (by kernel_rfl) (by kernel_rfl) (by kernel_rfl) (fun _ _ _ h => h) (Or.inl ⟨rfl, ?_⟩) (by assumption) ?_
            rotate_left
            · (intro w' hSw; replace q0 := kept_cell hSw q0; replace q1 := kept_cell hSw q1; replace q2 := kept_cell hSw q2; replace q3 := kept_cell hSw q3; go_simp; try with_reducible rfl)
            try simp only [Act.put, List.setIfInBounds_toArray, List.set_cons_zero, List.set_cons_succ]
            refine x_take (i := 20) (oi := { dst := some 56, op := Op.pick (Operand.tmp 51) (Operand.tmp 55) (Operand.const (Value.bool false)), type := 4, pos := "law.go:60", after := #[{ on := 15, ground := Ground.data }, { on := 19, ground := Ground.data }, { on := 21, ground := Ground.gcOnly Departure.lateStores }], guard := none }) (v := ?_) rfl (by kernel_rfl) (by kernel_rfl) (by kernel_rfl) (by kernel_rfl) (by kernel_rfl) (fun _ _ _ h => h) (Or.inl ⟨rfl, ?_⟩) (by assumption) ?_
            rotate_left
            · (intro w' hSw; replace q0 := kept_cell hSw q0; replace q1 := kept_cell hSw q1; replace q2 := kept_cell hSw q2; replace q3 := kept_cell hSw q3; go_simp; try with_reducible rfl)
            try simp only [Act.put, List.setIfInBounds_toArray, List.set_cons_zero, List.set_cons_succ]
            refine x_take (i := 21) (oi := { dst := some 13, op := Op.assign (Operand.tmp 37), type := 4, pos := "law.go:60", after := #[{ on := 1, ground := Ground.data }, { on := 15, ground := Ground.chain }, { on := 0, ground := Ground.phase }, { on := 1, ground := Ground.phase }, { on := 2, ground := Ground.textOnly Departure.lateStores }, { on := 3, ground := Ground.textOnly Departure.lateStores }, { on := 4, ground := Ground.textOnly Departure.lateStores }, { on := 5, ground := Ground.textOnly Departure.lateStores }, { on := 6, ground := Ground.textOnly Departure.lateStores }, { on := 7, ground := Ground.textOnly Departure.lateStores }, { on := 8, ground := Ground.textOnly Departure.lateStoresUnsure }, { on := 9, ground := Ground.textOnly Departure.lateStores }, { on := 10, ground := Ground.textOnly Departure.lateStores }, { on := 11, ground := Ground.textOnly Departure.lateStores }, { on := 12, ground := Ground.textOnly Departure.lateStores }, { on := 13, ground := Ground.textOnly Departure.lateStores }, { on := 14, ground := Ground.textOnly Departure.lateStores }, { on := 15, ground := Ground.textOnly Departure.lateStores }, { on := 16, ground := Ground.textOnly Departure.lateStores }, { on := 17, ground := Ground.textOnly Departure.lateStores }, { on := 18, ground := Ground.textOnly Departure.lateStores }, { on := 19, ground := Ground.textOnly Departure.lateStores }, { on := 20, ground := Ground.textOnly Departure.lateStores }], guard := none }) (v := ?_) rfl (by kernel_rfl) (by kernel_rfl) (by kernel_rfl) (by kernel_rfl) (by kernel_rfl) (fun _ _ _ h => h) (Or.inl ⟨rfl, ?_⟩) (by assumption) ?_
            rotate_left
            · (intro w' hSw; replace q0 := kept_cell hSw q0; replace q1 := kept_cell hSw q1; replace q2 := kept_cell hSw q2; replace q3 := kept_cell hSw q3; go_simp; try with_reducible rfl)
            try simp only [Act.put, List.setIfInBounds_toArray, List.set_cons_zero, List.set_cons_succ]
            refine x_take (i := 22) (oi := { dst := some 14, op := Op.assign (Operand.tmp 56), type := 4, pos := "law.go:60", after := #[{ on := 20, ground := Ground.data }, { on := 21, ground := Ground.chain }, { on := 0, ground := Ground.phase }, { on := 1, ground := Ground.phase }, { on := 2, ground := Ground.phase }, { on := 3, ground := Ground.phase }, { on := 4, ground := Ground.phase }, { on := 5, ground := Ground.phase }, { on := 6, ground := Ground.phase }, { on := 7, ground := Ground.phase }, { on := 8, ground := Ground.phase }, { on := 9, ground := Ground.phase }, { on := 10, ground := Ground.phase }, { on := 11, ground := Ground.phase }, { on := 12, ground := Ground.phase }, { on := 13, ground := Ground.phase }, { on := 14, ground := Ground.phase }, { on := 15, ground := Ground.phase }, { on := 16, ground := Ground.phase }, { on := 17, ground := Ground.phase }, { on := 18, ground := Ground.phase }, { on := 19, ground := Ground.phase }, { on := 20, ground := Ground.phase }, { on := 21, ground := Ground.phase }], guard := none }) (v := ?_) rfl (by kernel_rfl) (by kernel_rfl) (by kernel_rfl) (by kernel_rfl) (by kernel_rfl) (fun _ _ _ h => h) (Or.inl ⟨rfl, ?_⟩) (by assumption) ?_
            rotate_left
            · (intro w' hSw; replace q0 := kept_cell hSw q0; replace q1 := kept_cell hSw q1; replace q2 := kept_cell hSw q2; replace q3 := kept_cell hSw q3; go_simp; try with_reducible rfl)
            try simp only [Act.put, List.setIfInBounds_toArray, List.set_cons_zero, List.set_cons_succ]
            refine x_done (by kernel_rfl) ?_ _
            (go_wp2_with fail; go_meet; exact ⟨rfl, rfl, by assumption⟩)
        · have d3 : decide (0 ≤ k) = false := decide_eq_false a3
          obtain rfl : I = false := by rw [HI.out, Bool.eq_false_iff]; intro h; have := inB_iff.1 h; omega
          clear a1 a2 a3
          refine region_x (fun w' => Kept w3 w') [] (by kernel_rfl) (kept_drew (kept_refl _)) (fun hHeld => ?_)
          refine x_take (i := 0) (oi := { dst := some 36, op := Op.load 27 (Operand.tmp 5), type := 27, pos := "law.go:60", after := #[], guard := none }) (v := ?_) rfl (by kernel_rfl) (by kernel_rfl) (by kernel_rfl) (by kernel_rfl) (by kernel_rfl) (fun _ _ _ h => h) (Or.inl ⟨rfl, ?_⟩) (by assumption) ?_
          rotate_left
          · (intro w' hSw; replace q0 := kept_cell hSw q0; replace q1 := kept_cell hSw q1; replace q2 := kept_cell hSw q2; replace q3 := kept_cell hSw q3; go_simp; try with_reducible rfl)
          try simp only [Act.put, List.setIfInBounds_toArray, List.set_cons_zero, List.set_cons_succ]
          refine x_take (i := 2) (oi := { dst := some 38, op := Op.move (Operand.tmp 2), type := 3, pos := "law.go:60", after := #[], guard := none }) (v := ?_) rfl (by kernel_rfl) (by kernel_rfl) (by kernel_rfl) (by kernel_rfl) (by kernel_rfl) (fun _ _ _ h => h) (Or.inl ⟨rfl, ?_⟩) (by assumption) ?_
          rotate_left
          · (intro w' hSw; replace q0 := kept_cell hSw q0; replace q1 := kept_cell hSw q1; replace q2 := kept_cell hSw q2; replace q3 := kept_cell hSw q3; go_simp; try with_reducible rfl)
          try simp only [Act.put, List.setIfInBounds_toArray, List.set_cons_zero, List.set_cons_succ]
          refine x_take (i := 3) (oi := { dst := some 39, op := Op.binOp BinOp.geq 3 (Operand.tmp 38) (Operand.const (Value.int IntKind.i64 0)) 3, type := 4, pos := "law.go:60", after := #[{ on := 2, ground := Ground.data }], guard := none }) (v := ?_) rfl (by kernel_rfl) (by kernel_rfl) (by kernel_rfl) (by kernel_rfl) (by kernel_rfl) (fun _ _ _ h => h) (Or.inl ⟨rfl, ?_⟩) (by assumption) ?_
          rotate_left
          · (intro w' hSw; replace q0 := kept_cell hSw q0; replace q1 := kept_cell hSw q1; replace q2 := kept_cell hSw q2; replace q3 := kept_cell hSw q3; go_simp; try with_reducible rfl)
          try simp only [Act.put, List.setIfInBounds_toArray, List.set_cons_zero, List.set_cons_succ]
          refine x_one (i := 1) (o := { dst := some 37, op := Op.call { callee := Callee.value (Operand.func 10), args := #[Operand.tmp 36], argTypes := #[27] }, type := 4, pos := "law.go:60", after := #[{ on := 0, ground := Ground.data }], guard := none }) (by kernel_rfl) rfl (fun K hK => ?_)
          (go_simp; go_at_call 10; (with_reducible refine (C10.out _ (kept_trans K2 hHeld)).mono ?_); rintro e w4 ⟨rfl, k4⟩; have G4 := kept_trans hHeld k4; try dsimp only)
          refine hK.out _ _ ?_ (fun hHeld => ?_)
          · (try dsimp only); repeat (first | assumption | exact kept_refl _ | refine kept_drew ?_ | refine kept_alloc ?_ _ | refine kept_set ?_ (by omega) _)
          clear hK K
          try simp only [Act.put, List.setIfInBounds_toArray, List.set_cons_zero, List.set_cons_succ]
          refine x_take (i := 4) (oi := { dst := some 40, op := Op.move (Operand.tmp 39), type := 4, pos := "law.go:60", after := #[{ on := 3, ground := Ground.data }, { on := 1, ground := Ground.chain }], guard := none }) (v := ?_) rfl (by kernel_rfl) (by kernel_rfl) (by kernel_rfl) (by kernel_rfl) (by kernel_rfl) (fun _ _ _ h => h) (Or.inl ⟨rfl, ?_⟩) (by assumption) ?_
          rotate_left
          · (intro w' hSw; replace q0 := kept_cell hSw q0; replace q1 := kept_cell hSw q1; replace q2 := kept_cell hSw q2; replace q3 := kept_cell hSw q3; go_simp; try with_reducible rfl)
          try simp only [Act.put, List.setIfInBounds_toArray, List.set_cons_zero, List.set_cons_succ]
          refine x_take (i := 5) (oi := { dst := some 41, op := Op.move (Operand.tmp 2), type := 3, pos := "law.go:60", after := #[{ on := 4, ground := Ground.guard }], guard := some (4, true) }) (v := ?_) rfl (by kernel_rfl) (by kernel_rfl) (by kernel_rfl) (by kernel_rfl) (by kernel_rfl) (fun _ _ _ h => h) (Or.inl ⟨rfl, ?_⟩) (by assumption) ?_
          rotate_left
          · (intro w' hSw; replace q0 := kept_cell hSw q0; replace q1 := kept_cell hSw q1; replace q2 := kept_cell hSw q2; replace q3 := kept_cell hSw q3; go_simp; try with_reducible rfl)
          try simp only [Act.put, List.setIfInBounds_toArray, List.set_cons_zero, List.set_cons_succ]
          refine x_take (i := 6) (oi := { dst := some 42, op := Op.fieldAddr 27 (Operand.tmp 5) 3, type := 0, pos := "law.go:60", after := #[{ on := 4, ground := Ground.guard }], guard := some (4, true) }) (v := ?_) rfl (by kernel_rfl) (by kernel_rfl) (by kernel_rfl) (by kernel_rfl) (by kernel_rfl) (fun _ _ _ h => h) (Or.inl ⟨rfl, ?_⟩) (by assumption) ?_
          rotate_left
          · (intro w' hSw; replace q0 := kept_cell hSw q0; replace q1 := kept_cell hSw q1; replace q2 := kept_cell hSw q2; replace q3 := kept_cell hSw q3; go_simp; try with_reducible rfl)
          try simp only [Act.put, List.setIfInBounds_toArray, List.set_cons_zero, List.set_cons_succ]
          refine x_take (i := 7) (oi := { dst := some 43, op := Op.load 25 (Operand.tmp 42), type := 25, pos := "law.go:60", after := #[{ on := 6, ground := Ground.data }, { on := 4, ground := Ground.guard }], guard := some (4, true) }) (v := ?_) rfl (by kernel_rfl) (by kernel_rfl) (by kernel_rfl) (by kernel_rfl) (by kernel_rfl) (fun _ _ _ h => h) (Or.inl ⟨rfl, ?_⟩) (by assumption) ?_
          rotate_left
          · (intro w' hSw; replace q0 := kept_cell hSw q0; replace q1 := kept_cell hSw q1; replace q2 := kept_cell hSw q2; replace q3 := kept_cell hSw q3; go_simp; try with_reducible rfl)
          try simp only [Act.put, List.setIfInBounds_toArray, List.set_cons_zero, List.set_cons_succ]
          refine x_take (i := 8) (oi := { dst := some 44, op := Op.call { callee := Callee.builtin Builtin.len, args := #[Operand.tmp 43], argTypes := #[25] }, type := 3, pos := "law.go:60", after := #[{ on := 7, ground := Ground.data }, { on := 4, ground := Ground.guard }], guard := some (4, true) }) (v := ?_) rfl (by kernel_rfl) (by kernel_rfl) (by kernel_rfl) (by kernel_rfl) (by kernel_rfl) (fun _ _ _ h => h) (Or.inl ⟨rfl, ?_⟩) (by assumption) ?_
          rotate_left
          · (intro w' hSw; replace q0 := kept_cell hSw q0; replace q1 := kept_cell hSw q1; replace q2 := kept_cell hSw q2; replace q3 := kept_cell hSw q3; go_simp; try with_reducible rfl)
          try simp only [Act.put, List.setIfInBounds_toArray, List.set_cons_zero, List.set_cons_succ]
          refine x_take (i := 9) (oi := { dst := some 45, op := Op.binOp BinOp.lss 3 (Operand.tmp 41) (Operand.tmp 44) 3, type := 4, pos := "law.go:60", after := #[{ on := 5, ground := Ground.data }, { on := 8, ground := Ground.data }, { on := 4, ground := Ground.guard }], guard := some (4, true) }) (v := ?_) rfl (by kernel_rfl) (by kernel_rfl) (by kernel_rfl) (by kernel_rfl) (by kernel_rfl) (fun _ _ _ h => h) (Or.inl ⟨rfl, ?_⟩) (by assumption) ?_
          rotate_left
          · (intro w' hSw; replace q0 := kept_cell hSw q0; replace q1 := kept_cell hSw q1; replace q2 := kept_cell hSw q2; replace q3 := kept_cell hSw q3; go_simp; try with_reducible rfl)
          try simp only [Act.put, List.setIfInBounds_toArray, List.set_cons_zero, List.set_cons_succ]
          refine x_take (i := 10) (oi := { dst := some 46, op := Op.pick (Operand.tmp 40) (Operand.tmp 45) (Operand.const (Value.bool false)), type := 4, pos := "law.go:60", after := #[{ on := 4, ground := Ground.data }, { on := 9, ground := Ground.data }], guard := none }) (v := ?_) rfl (by kernel_rfl) (by kernel_rfl) (by kernel_rfl) (by kernel_rfl) (by kernel_rfl) (fun _ _ _ h => h) (Or.inl ⟨rfl, ?_⟩) (by assumption) ?_
          rotate_left
          · (intro w' hSw; replace q0 := kept_cell hSw q0; replace q1 := kept_cell hSw q1; replace q2 := kept_cell hSw q2; replace q3 := kept_cell hSw q3; go_simp; try with_reducible rfl)
          try simp only [Act.put, List.setIfInBounds_toArray, List.set_cons_zero, List.set_cons_succ]
          refine x_take (i := 11) (oi := { dst := some 47, op := Op.move (Operand.tmp 46), type := 4, pos := "law.go:60", after := #[{ on := 10, ground := Ground.data }, { on := 4, ground := Ground.chain }], guard := none }) (v := ?_) rfl (by kernel_rfl) (by kernel_rfl) (by kernel_rfl) (by kernel_rfl) (by kernel_rfl) (fun _ _ _ h => h) (Or.inl ⟨rfl, ?_⟩) (by assumption) ?_
          rotate_left
          · (intro w' hSw; replace q0 := kept_cell hSw q0; replace q1 := kept_cell hSw q1; replace q2 := kept_cell hSw q2; replace q3 := kept_cell hSw q3; go_simp; try with_reducible rfl)
          try simp only [Act.put, List.setIfInBounds_toArray, List.set_cons_zero, List.set_cons_succ]
          refine x_take (i := 12) (oi := { dst := some 48, op := Op.move (Operand.tmp 3), type := 3, pos := "law.go:60", after := #[{ on := 11, ground := Ground.guard }], guard := some (11, true) }) (v := ?_) rfl (by kernel_rfl) (by kernel_rfl) (by kernel_rfl) (by kernel_rfl) (by kernel_rfl) (fun _ _ _ h => h) (Or.inl ⟨rfl, ?_⟩) (by assumption) ?_
          rotate_left
          · (intro w' hSw; replace q0 := kept_cell hSw q0; replace q1 := kept_cell hSw q1; replace q2 := kept_cell hSw q2; replace q3 := kept_cell hSw q3; go_simp; try with_reducible rfl)
          try simp only [Act.put, List.setIfInBounds_toArray, List.set_cons_zero, List.set_cons_succ]
          refine x_take (i := 13) (oi := { dst := some 49, op := Op.binOp BinOp.geq 3 (Operand.tmp 48) (Operand.const (Value.int IntKind.i64 0)) 3, type := 4, pos := "law.go:60", after := #[{ on := 12, ground := Ground.data }, { on := 11, ground := Ground.guard }], guard := some (11, true) }) (v := ?_) rfl (by kernel_rfl) (by kernel_rfl) (by kernel_rfl) (by kernel_rfl) (by kernel_rfl) (fun _ _ _ h => h) (Or.inl ⟨rfl, ?_⟩) (by assumption) ?_
          rotate_left
          · (intro w' hSw; replace q0 := kept_cell hSw q0; replace q1 := kept_cell hSw q1; replace q2 := kept_cell hSw q2; replace q3 := kept_cell hSw q3; go_simp; try with_reducible rfl)
          try simp only [Act.put, List.setIfInBounds_toArray, List.set_cons_zero, List.set_cons_succ]
          refine x_take (i := 14) (oi := { dst := some 50, op := Op.pick (Operand.tmp 47) (Operand.tmp 49) (Operand.const (Value.bool false)), type := 4, pos := "law.go:60", after := #[{ on := 11, ground := Ground.data }, { on := 13, ground := Ground.data }], guard := none }) (v := ?_) rfl (by kernel_rfl) (by kernel_rfl) (by kernel_rfl) (by kernel_rfl) (by kernel_rfl) (fun _ _ _ h => h) (Or.inl ⟨rfl, ?_⟩) (by assumption) ?_
          rotate_left
          · (intro w' hSw; replace q0 := kept_cell hSw q0; replace q1 := kept_cell hSw q1; replace q2 := kept_cell hSw q2; replace q3 := kept_cell hSw q3; go_simp; try with_reducible rfl)
          try simp only [Act.put, List.setIfInBounds_toArray, List.set_cons_zero, List.set_cons_succ]
          refine x_take (i := 15) (oi := { dst := some 51, op := Op.move (Operand.tmp 50), type := 4, pos := "law.go:60", after := #[{ on := 14, ground := Ground.data }, { on := 11, ground := Ground.chain }], guard := none }) (v := ?_) rfl (by kernel_rfl) (by kernel_rfl) (by kernel_rfl) (by kernel_rfl) (by kernel_rfl) (fun _ _ _ h => h) (Or.inl ⟨rfl, ?_⟩) (by assumption) ?_
          rotate_left
          · (intro w' hSw; replace q0 := kept_cell hSw q0; replace q1 := kept_cell hSw q1; replace q2 := kept_cell hSw q2; replace q3 := kept_cell hSw q3; go_simp; try with_reducible rfl)
          try simp only [Act.put, List.setIfInBounds_toArray, List.set_cons_zero, List.set_cons_succ]
          refine x_take (i := 16) (oi := { dst := some 52, op := Op.move (Operand.tmp 3), type := 3, pos := "law.go:60", after := #[{ on := 15, ground := Ground.guard }, { on := 21, ground := Ground.gcOnly Departure.lateStores }], guard := some (15, true) }) (v := undef) rfl (by kernel_rfl) (by kernel_rfl) (by kernel_rfl) (by kernel_rfl) (by kernel_rfl) (fun _ _ _ h => h) (Or.inr ⟨rfl, rfl⟩) (by assumption) ?_
          try simp only [Act.put, List.setIfInBounds_toArray, List.set_cons_zero, List.set_cons_succ]
          refine x_take (i := 17) (oi := { dst := some 53, op := Op.fieldAddr 27 (Operand.tmp 5) 1, type := 0, pos := "law.go:60", after := #[{ on := 15, ground := Ground.guard }, { on := 21, ground := Ground.gcOnly Departure.lateStores }], guard := some (15, true) }) (v := undef) rfl (by kernel_rfl) (by kernel_rfl) (by kernel_rfl) (by kernel_rfl) (by kernel_rfl) (fun _ _ _ h => h) (Or.inr ⟨rfl, rfl⟩) (by assumption) ?_
          try simp only [Act.put, List.setIfInBounds_toArray, List.set_cons_zero, List.set_cons_succ]
          refine x_take (i := 18) (oi := { dst := some 54, op := Op.load 3 (Operand.tmp 53), type := 3, pos := "law.go:60", after := #[{ on := 17, ground := Ground.data }, { on := 15, ground := Ground.guard }, { on := 21, ground := Ground.gcOnly Departure.lateStores }], guard := some (15, true) }) (v := undef) rfl (by kernel_rfl) (by kernel_rfl) (by kernel_rfl) (by kernel_rfl) (by kernel_rfl) (fun _ _ _ h => h) (Or.inr ⟨rfl, rfl⟩) (by assumption) ?_
          try simp only [Act.put, List.setIfInBounds_toArray, List.set_cons_zero, List.set_cons_succ]
          refine x_take (i := 19) (oi := { dst := some 55, op := Op.binOp BinOp.lss 3 (Operand.tmp 52) (Operand.tmp 54) 3, type := 4, pos := "law.go:60", after := #[{ on := 16, ground := Ground.data }, { on := 18, ground := Ground.data }, { on := 15, ground := Ground.guard }, { on := 21, ground := Ground.gcOnly Departure.lateStores }], guard := some (15, true) }) (v := undef) rfl (by kernel_rfl) (by kernel_rfl) (by kernel_rfl) (by kernel_rfl) (by kernel_rfl) (fun _ _ _ h => h) (Or.inr ⟨rfl, rfl⟩) (by assumption) ?_
          try simp only [Act.put, List.setIfInBounds_toArray, List.set_cons_zero, List.set_cons_succ]
          refine x_take (i := 20) (oi := { dst := some 56, op := Op.pick (Operand.tmp 51) (Operand.tmp 55) (Operand.const (Value.bool false)), type := 4, pos := "law.go:60", after := #[{ on := 15, ground := Ground.data }, { on := 19, ground := Ground.data }, { on := 21, ground := Ground.gcOnly Departure.lateStores }], guard := none }) (v := ?_) rfl (by kernel_rfl) (by kernel_rfl) (by kernel_rfl) (by kernel_rfl) (by kernel_rfl) (fun _ _ _ h => h) (Or.inl ⟨rfl, ?_⟩) (by assumption) ?_
          rotate_left
          · (intro w' hSw; replace q0 := kept_cell hSw q0; replace q1 := kept_cell hSw q1; replace q2 := kept_cell hSw q2; replace q3 := kept_cell hSw q3; go_simp; try with_reducible rfl)
          try simp only [Act.put, List.setIfInBounds_toArray, List.set_cons_zero, List.set_cons_succ]
          refine x_take (i := 21) (oi := { dst := some 13, op := Op.assign (Operand.tmp 37), type := 4, pos := "law.go:60", after := #[{ on := 1, ground := Ground.data }, { on := 15, ground := Ground.chain }, { on := 0, ground := Ground.phase }, { on := 1, ground := Ground.phase }, { on := 2, ground := Ground.textOnly Departure.lateStores }, { on := 3, ground := Ground.textOnly Departure.lateStores }, { on := 4, ground := Ground.textOnly Departure.lateStores }, { on := 5, ground := Ground.textOnly Departure.lateStores }, { on := 6, ground := Ground.textOnly Departure.lateStores }, { on := 7, ground := Ground.textOnly Departure.lateStores }, { on := 8, ground := Ground.textOnly Departure.lateStoresUnsure }, { on := 9, ground := Ground.textOnly Departure.lateStores }, { on := 10, ground := Ground.textOnly Departure.lateStores }, { on := 11, ground := Ground.textOnly Departure.lateStores }, { on := 12, ground := Ground.textOnly Departure.lateStores }, { on := 13, ground := Ground.textOnly Departure.lateStores }, { on := 14, ground := Ground.textOnly Departure.lateStores }, { on := 15, ground := Ground.textOnly Departure.lateStores }, { on := 16, ground := Ground.textOnly Departure.lateStores }, { on := 17, ground := Ground.textOnly Departure.lateStores }, { on := 18, ground := Ground.textOnly Departure.lateStores }, { on := 19, ground := Ground.textOnly Departure.lateStores }, { on := 20, ground := Ground.textOnly Departure.lateStores }], guard := none }) (v := ?_) rfl (by kernel_rfl) (by kernel_rfl) (by kernel_rfl) (by kernel_rfl) (by kernel_rfl) (fun _ _ _ h => h) (Or.inl ⟨rfl, ?_⟩) (by assumption) ?_
          rotate_left
          · (intro w' hSw; replace q0 := kept_cell hSw q0; replace q1 := kept_cell hSw q1; replace q2 := kept_cell hSw q2; replace q3 := kept_cell hSw q3; go_simp; try with_reducible rfl)
          try simp only [Act.put, List.setIfInBounds_toArray, List.set_cons_zero, List.set_cons_succ]
          refine x_take (i := 22) (oi := { dst := some 14, op := Op.assign (Operand.tmp 56), type := 4, pos := "law.go:60", after := #[{ on := 20, ground := Ground.data }, { on := 21, ground := Ground.chain }, { on := 0, ground := Ground.phase }, { on := 1, ground := Ground.phase }, { on := 2, ground := Ground.phase }, { on := 3, ground := Ground.phase }, { on := 4, ground := Ground.phase }, { on := 5, ground := Ground.phase }, { on := 6, ground := Ground.phase }, { on := 7, ground := Ground.phase }, { on := 8, ground := Ground.phase }, { on := 9, ground := Ground.phase }, { on := 10, ground := Ground.phase }, { on := 11, ground := Ground.phase }, { on := 12, ground := Ground.phase }, { on := 13, ground := Ground.phase }, { on := 14, ground := Ground.phase }, { on := 15, ground := Ground.phase }, { on := 16, ground := Ground.phase }, { on := 17, ground := Ground.phase }, { on := 18, ground := Ground.phase }, { on := 19, ground := Ground.phase }, { on := 20, ground := Ground.phase }, { on := 21, ground := Ground.phase }], guard := none }) (v := ?_) rfl (by kernel_rfl) (by kernel_rfl) (by kernel_rfl) (by kernel_rfl) (by kernel_rfl) (fun _ _ _ h => h) (Or.inl ⟨rfl, ?_⟩) (by assumption) ?_
          rotate_left
          · (intro w' hSw; replace q0 := kept_cell hSw q0; replace q1 := kept_cell hSw q1; replace q2 := kept_cell hSw q2; replace q3 := kept_cell hSw q3; go_simp; try with_reducible rfl)
          try simp only [Act.put, List.setIfInBounds_toArray, List.set_cons_zero, List.set_cons_succ]
          refine x_done (by kernel_rfl) ?_ _
          (go_wp2_with fail; go_meet; exact ⟨rfl, rfl, by assumption⟩)
      · have d2 : decide (n < (t.tb.length : Int)) = false := decide_eq_false a2
        obtain rfl : I = false := by rw [HI.out, Bool.eq_false_iff]; intro h; have := inB_iff.1 h; omega
        clear a1 a2
        refine region_x (fun w' => Kept w3 w') [] (by kernel_rfl) (kept_drew (kept_refl _)) (fun hHeld => ?_)
        refine x_take (i := 0) (oi := { dst := some 36, op := Op.load 27 (Operand.tmp 5), type := 27, pos := "law.go:60", after := #[], guard := none }) (v := ?_) rfl (by kernel_rfl) (by kernel_rfl) (by kernel_rfl) (by kernel_rfl) (by kernel_rfl) (fun _ _ _ h => h) (Or.inl ⟨rfl, ?_⟩) (by assumption) ?_
        rotate_left
        · (intro w' hSw; replace q0 := kept_cell hSw q0; replace q1 := kept_cell hSw q1; replace q2 := kept_cell hSw q2; replace q3 := kept_cell hSw q3; go_simp; try with_reducible rfl)
        try simp only [Act.put, List.setIfInBounds_toArray, List.set_cons_zero, List.set_cons_succ]
        refine x_take (i := 2) (oi := { dst := some 38, op := Op.move (Operand.tmp 2), type := 3, pos := "law.go:60", after := #[], guard := none }) (v := ?_) rfl (by kernel_rfl) (by kernel_rfl) (by kernel_rfl) (by kernel_rfl) (by kernel_rfl) (fun _ _ _ h => h) (Or.inl ⟨rfl, ?_⟩) (by assumption) ?_
        rotate_left
        · (intro w' hSw; replace q0 := kept_cell hSw q0; replace q1 := kept_cell hSw q1; replace q2 := kept_cell hSw q2; replace q3 := kept_cell hSw q3; go_simp; try with_reducible rfl)
        try simp only [Act.put, List.setIfInBounds_toArray, List.set_cons_zero, List.set_cons_succ]
        refine x_take (i := 3) (oi := { dst := some 39, op := Op.binOp BinOp.geq 3 (Operand.tmp 38) (Operand.const (Value.int IntKind.i64 0)) 3, type := 4, pos := "law.go:60", after := #[{ on := 2, ground := Ground.data }], guard := none }) (v := ?_) rfl (by kernel_rfl) (by kernel_rfl) (by kernel_rfl) (by kernel_rfl) (by kernel_rfl) (fun _ _ _ h => h) (Or.inl ⟨rfl, ?_⟩) (by assumption) ?_
        rotate_left
        · (intro w' hSw; replace q0 := kept_cell hSw q0; replace q1 := kept_cell hSw q1; replace q2 := kept_cell hSw q2; replace q3 := kept_cell hSw q3; go_simp; try with_reducible rfl)
        try simp only [Act.put, List.setIfInBounds_toArray, List.set_cons_zero, List.set_cons_succ]
        refine x_one (i := 1) (o := { dst := some 37, op := Op.call { callee := Callee.value (Operand.func 10), args := #[Operand.tmp 36], argTypes := #[27] }, type := 4, pos := "law.go:60", after := #[{ on := 0, ground := Ground.data }], guard := none }) (by kernel_rfl) rfl (fun K hK => ?_)
        (go_simp; go_at_call 10; (with_reducible refine (C10.out _ (kept_trans K2 hHeld)).mono ?_); rintro e w4 ⟨rfl, k4⟩; have G4 := kept_trans hHeld k4; try dsimp only)
        refine hK.out _ _ ?_ (fun hHeld => ?_)
        · (try dsimp only); repeat (first | assumption | exact kept_refl _ | refine kept_drew ?_ | refine kept_alloc ?_ _ | refine kept_set ?_ (by omega) _)
        clear hK K
        try simp only [Act.put, List.setIfInBounds_toArray, List.set_cons_zero, List.set_cons_succ]
        refine x_take (i := 4) (oi := { dst := some 40, op := Op.move (Operand.tmp 39), type := 4, pos := "law.go:60", after := #[{ on := 3, ground := Ground.data }, { on := 1, ground := Ground.chain }], guard := none }) (v := ?_) rfl (by kernel_rfl) (by kernel_rfl) (by kernel_rfl) (by kernel_rfl) (by kernel_rfl) (fun _ _ _ h => h) (Or.inl ⟨rfl, ?_⟩) (by assumption) ?_
        rotate_left
        · (intro w' hSw; replace q0 := kept_cell hSw q0; replace q1 := kept_cell hSw q1; replace q2 := kept_cell hSw q2; replace q3 := kept_cell hSw q3; go_simp; try with_reducible rfl)
        try simp only [Act.put, List.setIfInBounds_toArray, List.set_cons_zero, List.set_cons_succ]
        refine x_take (i := 5) (oi := { dst := some 41, op := Op.move (Operand.tmp 2), type := 3, pos := "law.go:60", after := #[{ on := 4, ground := Ground.guard }], guard := some (4, true) }) (v := ?_) rfl (by kernel_rfl) (by kernel_rfl) (by kernel_rfl) (by kernel_rfl) (by kernel_rfl) (fun _ _ _ h => h) (Or.inl ⟨rfl, ?_⟩) (by assumption) ?_
        rotate_left
        · (intro w' hSw; replace q0 := kept_cell hSw q0; replace q1 := kept_cell hSw q1; replace q2 := kept_cell hSw q2; replace q3 := kept_cell hSw q3; go_simp; try with_reducible rfl)
        try simp only [Act.put, List.setIfInBounds_toArray, List.set_cons_zero, List.set_cons_succ]
        refine x_take (i := 6) (oi := { dst := some 42, op := Op.fieldAddr 27 (Operand.tmp 5) 3, type := 0, pos := "law.go:60", after := #[{ on := 4, ground := Ground.guard }], guard := some (4, true) }) (v := ?_) rfl (by kernel_rfl) (by kernel_rfl) (by kernel_rfl) (by kernel_rfl) (by kernel_rfl) (fun _ _ _ h => h) (Or.inl ⟨rfl, ?_⟩) (by assumption) ?_
        rotate_left
        · (intro w' hSw; replace q0 := kept_cell hSw q0; replace q1 := kept_cell hSw q1; replace q2 := kept_cell hSw q2; replace q3 := kept_cell hSw q3; go_simp; try with_reducible rfl)
        try simp only [Act.put, List.setIfInBounds_toArray, List.set_cons_zero, List.set_cons_succ]
        refine x_take (i := 7) (oi := { dst := some 43, op := Op.load 25 (Operand.tmp 42), type := 25, pos := "law.go:60", after := #[{ on := 6, ground := Ground.data }, { on := 4, ground := Ground.guard }], guard := some (4, true) }) (v := ?_) rfl (by kernel_rfl) (by kernel_rfl) (by kernel_rfl) (by kernel_rfl) (by kernel_rfl) (fun _ _ _ h => h) (Or.inl ⟨rfl, ?_⟩) (by assumption) ?_
        rotate_left
        · (intro w' hSw; replace q0 := kept_cell hSw q0; replace q1 := kept_cell hSw q1; replace q2 := kept_cell hSw q2; replace q3 := kept_cell hSw q3; go_simp; try with_reducible rfl)
        try simp only [Act.put, List.setIfInBounds_toArray, List.set_cons_zero, List.set_cons_succ]
        refine x_take (i := 8) (oi := { dst := some 44, op := Op.call { callee := Callee.builtin Builtin.len, args := #[Operand.tmp 43], argTypes := #[25] }, type := 3, pos := "law.go:60", after := #[{ on := 7, ground := Ground.data }, { on := 4, ground := Ground.guard }], guard := some (4, true) }) (v := ?_) rfl (by kernel_rfl) (by kernel_rfl) (by kernel_rfl) (by kernel_rfl) (by kernel_rfl) (fun _ _ _ h => h) (Or.inl ⟨rfl, ?_⟩) (by assumption) ?_
        rotate_left
        · (intro w' hSw; replace q0 := kept_cell hSw q0; replace q1 := kept_cell hSw q1; replace q2 := kept_cell hSw q2; replace q3 := kept_cell hSw q3; go_simp; try with_reducible rfl)
        try simp only [Act.put, List.setIfInBounds_toArray, List.set_cons_zero, List.set_cons_succ]
        refine x_take (i := 9) (oi := { dst := some 45, op := Op.binOp BinOp.lss 3 (Operand.tmp 41) (Operand.tmp 44) 3, type := 4, pos := "law.go:60", after := #[{ on := 5, ground := Ground.data }, { on := 8, ground := Ground.data }, { on := 4, ground := Ground.guard }], guard := some (4, true) }) (v := ?_) rfl (by kernel_rfl) (by kernel_rfl) (by kernel_rfl) (by kernel_rfl) (by kernel_rfl) (fun _ _ _ h => h) (Or.inl ⟨rfl, ?_⟩) (by assumption) ?_
        rotate_left
        · (intro w' hSw; replace q0 := kept_cell hSw q0; replace q1 := kept_cell hSw q1; replace q2 := kept_cell hSw q2; replace q3 := kept_cell hSw q3; go_simp; try with_reducible rfl)
        try simp only [Act.put, List.setIfInBounds_toArray, List.set_cons_zero, List.set_cons_succ]
        refine x_take (i := 10) (oi := { dst := some 46, op := Op.pick (Operand.tmp 40) (Operand.tmp 45) (Operand.const (Value.bool false)), type := 4, pos := "law.go:60", after := #[{ on := 4, ground := Ground.data }, { on := 9, ground := Ground.data }], guard := none }) (v := ?_) rfl (by kernel_rfl) (by kernel_rfl) (by kernel_rfl) (by kernel_rfl) (by kernel_rfl) (fun _ _ _ h => h) (Or.inl ⟨rfl, ?_⟩) (by assumption) ?_
        rotate_left
        · (intro w' hSw; replace q0 := kept_cell hSw q0; replace q1 := kept_cell hSw q1; replace q2 := kept_cell hSw q2; replace q3 := kept_cell hSw q3; go_simp; try with_reducible rfl)
        try simp only [Act.put, List.setIfInBounds_toArray, List.set_cons_zero, List.set_cons_succ]
        refine x_take (i := 11) (oi := { dst := some 47, op := Op.move (Operand.tmp 46), type := 4, pos := "law.go:60", after := #[{ on := 10, ground := Ground.data }, { on := 4, ground := Ground.chain }], guard := none }) (v := ?_) rfl (by kernel_rfl) (by kernel_rfl) (by kernel_rfl) (by kernel_rfl) (by kernel_rfl) (fun _ _ _ h => h) (Or.inl ⟨rfl, ?_⟩) (by assumption) ?_
        rotate_left
        · (intro w' hSw; replace q0 := kept_cell hSw q0; replace q1 := kept_cell hSw q1; replace q2 := kept_cell hSw q2; replace q3 := kept_cell hSw q3; go_simp; try with_reducible rfl)
        try simp only [Act.put, List.setIfInBounds_toArray, List.set_cons_zero, List.set_cons_succ]
        refine x_take (i := 12) (oi := { dst := some 48, op := Op.move (Operand.tmp 3), type := 3, pos := "law.go:60", after := #[{ on := 11, ground := Ground.guard }], guard := some (11, true) }) (v := undef) rfl (by kernel_rfl) (by kernel_rfl) (by kernel_rfl) (by kernel_rfl) (by kernel_rfl) (fun _ _ _ h => h) (Or.inr ⟨rfl, rfl⟩) (by assumption) ?_
        try simp only [Act.put, List.setIfInBounds_toArray, List.set_cons_zero, List.set_cons_succ]
        refine x_take (i := 13) (oi := { dst := some 49, op := Op.binOp BinOp.geq 3 (Operand.tmp 48) (Operand.const (Value.int IntKind.i64 0)) 3, type := 4, pos := "law.go:60", after := #[{ on := 12, ground := Ground.data }, { on := 11, ground := Ground.guard }], guard := some (11, true) }) (v := undef) rfl (by kernel_rfl) (by kernel_rfl) (by kernel_rfl) (by kernel_rfl) (by kernel_rfl) (fun _ _ _ h => h) (Or.inr ⟨rfl, rfl⟩) (by assumption) ?_
        try simp only [Act.put, List.setIfInBounds_toArray, List.set_cons_zero, List.set_cons_succ]
        refine x_take (i := 14) (oi := { dst := some 50, op := Op.pick (Operand.tmp 47) (Operand.tmp 49) (Operand.const (Value.bool false)), type := 4, pos := "law.go:60", after := #[{ on := 11, ground := Ground.data }, { on := 13, ground := Ground.data }], guard := none }) (v := ?_) rfl (by kernel_rfl) (by kernel_rfl) (by kernel_rfl) (by kernel_rfl) (by kernel_rfl) (fun _ _ _ h => h) (Or.inl ⟨rfl, ?_⟩) (by assumption) ?_
        rotate_left
        · (intro w' hSw; replace q0 := kept_cell hSw q0; replace q1 := kept_cell hSw q1; replace q2 := kept_cell hSw q2; replace q3 := kept_cell hSw q3; go_simp; try with_reducible rfl)
        try simp only [Act.put, List.setIfInBounds_toArray, List.set_cons_zero, List.set_cons_succ]
        refine x_take (i := 15) (oi := { dst := some 51, op := Op.move (Operand.tmp 50), type := 4, pos := "law.go:60", after := #[{ on := 14, ground := Ground.data }, { on := 11, ground := Ground.chain }], guard := none }) (v := ?_) rfl (by kernel_rfl) (by kernel_rfl) (by kernel_rfl) (by kernel_rfl) (by kernel_rfl) (fun _ _ _ h => h) (Or.inl ⟨rfl, ?_⟩) (by assumption) ?_
        rotate_left
        · (intro w' hSw; replace q0 := kept_cell hSw q0; replace q1 := kept_cell hSw q1; replace q2 := kept_cell hSw q2; replace q3 := kept_cell hSw q3; go_simp; try with_reducible rfl)
        try simp only [Act.put, List.setIfInBounds_toArray, List.set_cons_zero, List.set_cons_succ]
        refine x_take (i := 16) (oi := { dst := some 52, op := Op.move (Operand.tmp 3), type := 3, pos := "law.go:60", after := #[{ on := 15, ground := Ground.guard }, { on := 21, ground := Ground.gcOnly Departure.lateStores }], guard := some (15, true) }) (v := undef) rfl (by kernel_rfl) (by kernel_rfl) (by kernel_rfl) (by kernel_rfl) (by kernel_rfl) (fun _ _ _ h => h) (Or.inr ⟨rfl, rfl⟩) (by assumption) ?_
        try simp only [Act.put, List.setIfInBounds_toArray, List.set_cons_zero, List.set_cons_succ]
        refine x_take (i := 17) (oi := { dst := some 53, op := Op.fieldAddr 27 (Operand.tmp 5) 1, type := 0, pos := "law.go:60", after := #[{ on := 15, ground := Ground.guard }, { on := 21, ground := Ground.gcOnly Departure.lateStores }], guard := some (15, true) }) (v := undef) rfl (by kernel_rfl) (by kernel_rfl) (by kernel_rfl) (by kernel_rfl) (by kernel_rfl) (fun _ _ _ h => h) (Or.inr ⟨rfl, rfl⟩) (by assumption) ?_
        try simp only [Act.put, List.setIfInBounds_toArray, List.set_cons_zero, List.set_cons_succ]
        refine x_take (i := 18) (oi := { dst := some 54, op := Op.load 3 (Operand.tmp 53), type := 3, pos := "law.go:60", after := #[{ on := 17, ground := Ground.data }, { on := 15, ground := Ground.guard }, { on := 21, ground := Ground.gcOnly Departure.lateStores }], guard := some (15, true) }) (v := undef) rfl (by kernel_rfl) (by kernel_rfl) (by kernel_rfl) (by kernel_rfl) (by kernel_rfl) (fun _ _ _ h => h) (Or.inr ⟨rfl, rfl⟩) (by assumption) ?_
        try simp only [Act.put, List.setIfInBounds_toArray, List.set_cons_zero, List.set_cons_succ]
        refine x_take (i := 19) (oi := { dst := some 55, op := Op.binOp BinOp.lss 3 (Operand.tmp 52) (Operand.tmp 54) 3, type := 4, pos := "law.go:60", after := #[{ on := 16, ground := Ground.data }, { on := 18, ground := Ground.data }, { on := 15, ground := Ground.guard }, { on := 21, ground := Ground.gcOnly Departure.lateStores }], guard := some (15, true) }) (v := undef) rfl (by kernel_rfl) (by kernel_rfl) (by kernel_rfl) (by kernel_rfl) (by kernel_rfl) (fun _ _ _ h => h) (Or.inr ⟨rfl, rfl⟩) (by assumption) ?_
        try simp only [Act.put, List.setIfInBounds_toArray, List.set_cons_zero, List.set_cons_succ]
        refine x_take (i := 20) (oi := { dst := some 56, op := Op.pick (Operand.tmp 51) (Operand.tmp 55) (Operand.const (Value.bool false)), type := 4, pos := "law.go:60", after := #[{ on := 15, ground := Ground.data }, { on := 19, ground := Ground.data }, { on := 21, ground := Ground.gcOnly Departure.lateStores }], guard := none }) (v := ?_) rfl (by kernel_rfl) (by kernel_rfl) (by kernel_rfl) (by kernel_rfl) (by kernel_rfl) (fun _ _ _ h => h) (Or.inl ⟨rfl, ?_⟩) (by assumption) ?_
        rotate_left
        · (intro w' hSw; replace q0 := kept_cell hSw q0; replace q1 := kept_cell hSw q1; replace q2 := kept_cell hSw q2; replace q3 := kept_cell hSw q3; go_simp; try with_reducible rfl)
        try simp only [Act.put, List.setIfInBounds_toArray, List.set_cons_zero, List.set_cons_succ]
        refine x_take (i := 21) (oi := { dst := some 13, op := Op.assign (Operand.tmp 37), type := 4, pos := "law.go:60", after := #[{ on := 1, ground := Ground.data }, { on := 15, ground := Ground.chain }, { on := 0, ground := Ground.phase }, { on := 1, ground := Ground.phase }, { on := 2, ground := Ground.textOnly Departure.lateStores }, { on := 3, ground := Ground.textOnly Departure.lateStores }, { on := 4, ground := Ground.textOnly Departure.lateStores }, { on := 5, ground := Ground.textOnly Departure.lateStores }, { on := 6, ground := Ground.textOnly Departure.lateStores }, { on := 7, ground := Ground.textOnly Departure.lateStores }, { on := 8, ground := Ground.textOnly Departure.lateStoresUnsure }, { on := 9, ground := Ground.textOnly Departure.lateStores }, { on := 10, ground := Ground.textOnly Departure.lateStores }, { on := 11, ground := Ground.textOnly Departure.lateStores }, { on := 12, ground := Ground.textOnly Departure.lateStores }, { on := 13, ground := Ground.textOnly Departure.lateStores }, { on := 14, ground := Ground.textOnly Departure.lateStores }, { on := 15, ground := Ground.textOnly Departure.lateStores }, { on := 16, ground := Ground.textOnly Departure.lateStores }, { on := 17, ground := Ground.textOnly Departure.lateStores }, { on := 18, ground := Ground.textOnly Departure.lateStores }, { on := 19, ground := Ground.textOnly Departure.lateStores }, { on := 20, ground := Ground.textOnly Departure.lateStores }], guard := none }) (v := ?_) rfl (by kernel_rfl) (by kernel_rfl) (by kernel_rfl) (by kernel_rfl) (by kernel_rfl) (fun _ _ _ h => h) (Or.inl ⟨rfl, ?_⟩) (by assumption) ?_
        rotate_left
        · (intro w' hSw; replace q0 := kept_cell hSw q0; replace q1 := kept_cell hSw q1; replace q2 := kept_cell hSw q2; replace q3 := kept_cell hSw q3; go_simp; try with_reducible rfl)
        try simp only [Act.put, List.setIfInBounds_toArray, List.set_cons_zero, List.set_cons_succ]
        refine x_take (i := 22) (oi := { dst := some 14, op := Op.assign (Operand.tmp 56), type := 4, pos := "law.go:60", after := #[{ on := 20, ground := Ground.data }, { on := 21, ground := Ground.chain }, { on := 0, ground := Ground.phase }, { on := 1, ground := Ground.phase }, { on := 2, ground := Ground.phase }, { on := 3, ground := Ground.phase }, { on := 4, ground := Ground.phase }, { on := 5, ground := Ground.phase }, { on := 6, ground := Ground.phase }, { on := 7, ground := Ground.phase }, { on := 8, ground := Ground.phase }, { on := 9, ground := Ground.phase }, { on := 10, ground := Ground.phase }, { on := 11, ground := Ground.phase }, { on := 12, ground := Ground.phase }, { on := 13, ground := Ground.phase }, { on := 14, ground := Ground.phase }, { on := 15, ground := Ground.phase }, { on := 16, ground := Ground.phase }, { on := 17, ground := Ground.phase }, { on := 18, ground := Ground.phase }, { on := 19, ground := Ground.phase }, { on := 20, ground := Ground.phase }, { on := 21, ground := Ground.phase }], guard := none }) (v := ?_) rfl (by kernel_rfl) (by kernel_rfl) (by kernel_rfl) (by kernel_rfl) (by kernel_rfl) (fun _ _ _ h => h) (Or.inl ⟨rfl, ?_⟩) (by assumption) ?_
        rotate_left
        · (intro w' hSw; replace q0 := kept_cell hSw q0; replace q1 := kept_cell hSw q1; replace q2 := kept_cell hSw q2; replace q3 := kept_cell hSw q3; go_simp; try with_reducible rfl)
        try simp only [Act.put, List.setIfInBounds_toArray, List.set_cons_zero, List.set_cons_succ]
        refine x_done (by kernel_rfl) ?_ _
        (go_wp2_with fail; go_meet; exact ⟨rfl, rfl, by assumption⟩)
    · have d1 : decide (0 ≤ n) = false := decide_eq_false a1
      obtain rfl : I = false := by rw [HI.out, Bool.eq_false_iff]; intro h; have := inB_iff.1 h; omega
      clear a1
      refine region_x (fun w' => Kept w3 w') [] (by kernel_rfl) (kept_drew (kept_refl _)) (fun hHeld => ?_)
      refine x_take (i := 0) (oi := { dst := some 36, op := Op.load 27 (Operand.tmp 5), type := 27, pos := "law.go:60", after := #[], guard := none }) (v := ?_) rfl (by kernel_rfl) (by kernel_rfl) (by kernel_rfl) (by kernel_rfl) (by kernel_rfl) (fun _ _ _ h => h) (Or.inl ⟨rfl, ?_⟩) (by assumption) ?_
      rotate_left
      · (intro w' hSw; replace q0 := kept_cell hSw q0; replace q1 := kept_cell hSw q1; replace q2 := kept_cell hSw q2; replace q3 := kept_cell hSw q3; go_simp; try with_reducible rfl)
      try simp only [Act.put, List.setIfInBounds_toArray, List.set_cons_zero, List.set_cons_succ]
      refine x_take (i := 2) (oi := { dst := some 38, op := Op.move (Operand.tmp 2), type := 3, pos := "law.go:60", after := #[], guard := none }) (v := ?_) rfl (by kernel_rfl) (by kernel_rfl) (by kernel_rfl) (by kernel_rfl) (by kernel_rfl) (fun _ _ _ h => h) (Or.inl ⟨rfl, ?_⟩) (by assumption) ?_
      rotate_left
      · (intro w' hSw; replace q0 := kept_cell hSw q0; replace q1 := kept_cell hSw q1; replace q2 := kept_cell hSw q2; replace q3 := kept_cell hSw q3; go_simp; try with_reducible rfl)
      try simp only [Act.put, List.setIfInBounds_toArray, List.set_cons_zero, List.set_cons_succ]
      refine x_take (i := 3) (oi := { dst := some 39, op := Op.binOp BinOp.geq 3 (Operand.tmp 38) (Operand.const (Value.int IntKind.i64 0)) 3, type := 4, pos := "law.go:60", after := #[{ on := 2, ground := Ground.data }], guard := none }) (v := ?_) rfl (by kernel_rfl) (by kernel_rfl) (by kernel_rfl) (by kernel_rfl) (by kernel_rfl) (fun _ _ _ h => h) (Or.inl ⟨rfl, ?_⟩) (by assumption) ?_
      rotate_left
      · (intro w' hSw; replace q0 := kept_cell hSw q0; replace q1 := kept_cell hSw q1; replace q2 := kept_cell hSw q2; replace q3 := kept_cell hSw q3; go_simp; try with_reducible rfl)
      try simp only [Act.put, List.setIfInBounds_toArray, List.set_cons_zero, List.set_cons_succ]
      refine x_one (i := 1) (o := { dst := some 37, op := Op.call { callee := Callee.value (Operand.func 10), args := #[Operand.tmp 36], argTypes := #[27] }, type := 4, pos := "law.go:60", after := #[{ on := 0, ground := Ground.data }], guard := none }) (by kernel_rfl) rfl (fun K hK => ?_)
      (go_simp; go_at_call 10; (with_reducible refine (C10.out _ (kept_trans K2 hHeld)).mono ?_); rintro e w4 ⟨rfl, k4⟩; have G4 := kept_trans hHeld k4; try dsimp only)
      refine hK.out _ _ ?_ (fun hHeld => ?_)
      · (try dsimp only); repeat (first | assumption | exact kept_refl _ | refine kept_drew ?_ | refine kept_alloc ?_ _ | refine kept_set ?_ (by omega) _)
      clear hK K
      try simp only [Act.put, List.setIfInBounds_toArray, List.set_cons_zero, List.set_cons_succ]
      refine x_take (i := 4) (oi := { dst := some 40, op := Op.move (Operand.tmp 39), type := 4, pos := "law.go:60", after := #[{ on := 3, ground := Ground.data }, { on := 1, ground := Ground.chain }], guard := none }) (v := ?_) rfl (by kernel_rfl) (by kernel_rfl) (by kernel_rfl) (by kernel_rfl) (by kernel_rfl) (fun _ _ _ h => h) (Or.inl ⟨rfl, ?_⟩) (by assumption) ?_
      rotate_left
      · (intro w' hSw; replace q0 := kept_cell hSw q0; replace q1 := kept_cell hSw q1; replace q2 := kept_cell hSw q2; replace q3 := kept_cell hSw q3; go_simp; try with_reducible rfl)
      try simp only [Act.put, List.setIfInBounds_toArray, List.set_cons_zero, List.set_cons_succ]
      refine x_take (i := 5) (oi := { dst := some 41, op := Op.move (Operand.tmp 2), type := 3, pos := "law.go:60", after := #[{ on := 4, ground := Ground.guard }], guard := some (4, true) }) (v := undef) rfl (by kernel_rfl) (by kernel_rfl) (by kernel_rfl) (by kernel_rfl) (by kernel_rfl) (fun _ _ _ h => h) (Or.inr ⟨rfl, rfl⟩) (by assumption) ?_
      try simp only [Act.put, List.setIfInBounds_toArray, List.set_cons_zero, List.set_cons_succ]
      refine x_take (i := 6) (oi := { dst := some 42, op := Op.fieldAddr 27 (Operand.tmp 5) 3, type := 0, pos := "law.go:60", after := #[{ on := 4, ground := Ground.guard }], guard := some (4, true) }) (v := undef) rfl (by kernel_rfl) (by kernel_rfl) (by kernel_rfl) (by kernel_rfl) (by kernel_rfl) (fun _ _ _ h => h) (Or.inr ⟨rfl, rfl⟩) (by assumption) ?_
      try simp only [Act.put, List.setIfInBounds_toArray, List.set_cons_zero, List.set_cons_succ]
      refine x_take (i := 7) (oi := { dst := some 43, op := Op.load 25 (Operand.tmp 42), type := 25, pos := "law.go:60", after := #[{ on := 6, ground := Ground.data }, { on := 4, ground := Ground.guard }], guard := some (4, true) }) (v := undef) rfl (by kernel_rfl) (by kernel_rfl) (by kernel_rfl) (by kernel_rfl) (by kernel_rfl) (fun _ _ _ h => h) (Or.inr ⟨rfl, rfl⟩) (by assumption) ?_
      try simp only [Act.put, List.setIfInBounds_toArray, List.set_cons_zero, List.set_cons_succ]
      refine x_take (i := 8) (oi := { dst := some 44, op := Op.call { callee := Callee.builtin Builtin.len, args := #[Operand.tmp 43], argTypes := #[25] }, type := 3, pos := "law.go:60", after := #[{ on := 7, ground := Ground.data }, { on := 4, ground := Ground.guard }], guard := some (4, true) }) (v := undef) rfl (by kernel_rfl) (by kernel_rfl) (by kernel_rfl) (by kernel_rfl) (by kernel_rfl) (fun _ _ _ h => h) (Or.inr ⟨rfl, rfl⟩) (by assumption) ?_
      try simp only [Act.put, List.setIfInBounds_toArray, List.set_cons_zero, List.set_cons_succ]
      refine x_take (i := 9) (oi := { dst := some 45, op := Op.binOp BinOp.lss 3 (Operand.tmp 41) (Operand.tmp 44) 3, type := 4, pos := "law.go:60", after := #[{ on := 5, ground := Ground.data }, { on := 8, ground := Ground.data }, { on := 4, ground := Ground.guard }], guard := some (4, true) }) (v := undef) rfl (by kernel_rfl) (by kernel_rfl) (by kernel_rfl) (by kernel_rfl) (by kernel_rfl) (fun _ _ _ h => h) (Or.inr ⟨rfl, rfl⟩) (by assumption) ?_
      try simp only [Act.put, List.setIfInBounds_toArray, List.set_cons_zero, List.set_cons_succ]
      refine x_take (i := 10) (oi := { dst := some 46, op := Op.pick (Operand.tmp 40) (Operand.tmp 45) (Operand.const (Value.bool false)), type := 4, pos := "law.go:60", after := #[{ on := 4, ground := Ground.data }, { on := 9, ground := Ground.data }], guard := none }) (v := ?_) rfl (by kernel_rfl) (by kernel_rfl) (by kernel_rfl) (by kernel_rfl) (by kernel_rfl) (fun _ _ _ h => h) (Or.inl ⟨rfl, ?_⟩) (by assumption) ?_
      rotate_left
      · (intro w' hSw; replace q0 := kept_cell hSw q0; replace q1 := kept_cell hSw q1; replace q2 := kept_cell hSw q2; replace q3 := kept_cell hSw q3; go_simp; try with_reducible rfl)
      try simp only [Act.put, List.setIfInBounds_toArray, List.set_cons_zero, List.set_cons_succ]
      refine x_take (i := 11) (oi := { dst := some 47, op := Op.move (Operand.tmp 46), type := 4, pos := "law.go:60", after := #[{ on := 10, ground := Ground.data }, { on := 4, ground := Ground.chain }], guard := none }) (v := ?_) rfl (by kernel_rfl) (by kernel_rfl) (by kernel_rfl) (by kernel_rfl) (by kernel_rfl) (fun _ _ _ h => h) (Or.inl ⟨rfl, ?_⟩) (by assumption) ?_
      rotate_left
      · (intro w' hSw; replace q0 := kept_cell hSw q0; replace q1 := kept_cell hSw q1; replace q2 := kept_cell hSw q2; replace q3 := kept_cell hSw q3; go_simp; try with_reducible rfl)
      try simp only [Act.put, List.setIfInBounds_toArray, List.set_cons_zero, List.set_cons_succ]
      refine x_take (i := 12) (oi := { dst := some 48, op := Op.move (Operand.tmp 3), type := 3, pos := "law.go:60", after := #[{ on := 11, ground := Ground.guard }], guard := some (11, true) }) (v := undef) rfl (by kernel_rfl) (by kernel_rfl) (by kernel_rfl) (by kernel_rfl) (by kernel_rfl) (fun _ _ _ h => h) (Or.inr ⟨rfl, rfl⟩) (by assumption) ?_
      try simp only [Act.put, List.setIfInBounds_toArray, List.set_cons_zero, List.set_cons_succ]
      refine x_take (i := 13) (oi := { dst := some 49, op := Op.binOp BinOp.geq 3 (Operand.tmp 48) (Operand.const (Value.int IntKind.i64 0)) 3, type := 4, pos := "law.go:60", after := #[{ on := 12, ground := Ground.data }, { on := 11, ground := Ground.guard }], guard := some (11, true) }) (v := undef) rfl (by kernel_rfl) (by kernel_rfl) (by kernel_rfl) (by kernel_rfl) (by kernel_rfl) (fun _ _ _ h => h) (Or.inr ⟨rfl, rfl⟩) (by assumption) ?_
      try simp only [Act.put, List.setIfInBounds_toArray, List.set_cons_zero, List.set_cons_succ]
      refine x_take (i := 14) (oi := { dst := some 50, op := Op.pick (Operand.tmp 47) (Operand.tmp 49) (Operand.const (Value.bool false)), type := 4, pos := "law.go:60", after := #[{ on := 11, ground := Ground.data }, { on := 13, ground := Ground.data }], guard := none }) (v := ?_) rfl (by kernel_rfl) (by kernel_rfl) (by kernel_rfl) (by kernel_rfl) (by kernel_rfl) (fun _ _ _ h => h) (Or.inl ⟨rfl, ?_⟩) (by assumption) ?_
      rotate_left
      · (intro w' hSw; replace q0 := kept_cell hSw q0; replace q1 := kept_cell hSw q1; replace q2 := kept_cell hSw q2; replace q3 := kept_cell hSw q3; go_simp; try with_reducible rfl)
      try simp only [Act.put, List.setIfInBounds_toArray, List.set_cons_zero, List.set_cons_succ]
      refine x_take (i := 15) (oi := { dst := some 51, op := Op.move (Operand.tmp 50), type := 4, pos := "law.go:60", after := #[{ on := 14, ground := Ground.data }, { on := 11, ground := Ground.chain }], guard := none }) (v := ?_) rfl (by kernel_rfl) (by kernel_rfl) (by kernel_rfl) (by kernel_rfl) (by kernel_rfl) (fun _ _ _ h => h) (Or.inl ⟨rfl, ?_⟩) (by assumption) ?_
      rotate_left
      · (intro w' hSw; replace q0 := kept_cell hSw q0; replace q1 := kept_cell hSw q1; replace q2 := kept_cell hSw q2; replace q3 := kept_cell hSw q3; go_simp; try with_reducible rfl)
      try simp only [Act.put, List.setIfInBounds_toArray, List.set_cons_zero, List.set_cons_succ]
      refine x_take (i := 16) (oi := { dst := some 52, op := Op.move (Operand.tmp 3), type := 3, pos := "law.go:60", after := #[{ on := 15, ground := Ground.guard }, { on := 21, ground := Ground.gcOnly Departure.lateStores }], guard := some (15, true) }) (v := undef) rfl (by kernel_rfl) (by kernel_rfl) (by kernel_rfl) (by kernel_rfl) (by kernel_rfl) (fun _ _ _ h => h) (Or.inr ⟨rfl, rfl⟩) (by assumption) ?_
      try simp only [Act.put, List.setIfInBounds_toArray, List.set_cons_zero, List.set_cons_succ]
      refine x_take (i := 17) (oi := { dst := some 53, op := Op.fieldAddr 27 (Operand.tmp 5) 1, type := 0, pos := "law.go:60", after := #[{ on := 15, ground := Ground.guard }, { on := 21, ground := Ground.gcOnly Departure.lateStores }], guard := some (15, true) }) (v := undef) rfl (by kernel_rfl) (by kernel_rfl) (by kernel_rfl) (by kernel_rfl) (by kernel_rfl) (fun _ _ _ h => h) (Or.inr ⟨rfl, rfl⟩) (by assumption) ?_
      try simp only [Act.put, List.setIfInBounds_toArray, List.set_cons_zero, List.set_cons_succ]
      refine x_take (i := 18) (oi := { dst := some 54, op := Op.load 3 (Operand.tmp 53), type := 3, pos := "law.go:60", after := #[{ on := 17, ground := Ground.data }, { on := 15, ground := Ground.guard }, { on := 21, ground := Ground.gcOnly Departure.lateStores }], guard := some (15, true) }) (v := undef) rfl (by kernel_rfl) (by kernel_rfl) (by kernel_rfl) (by kernel_rfl) (by kernel_rfl) (fun _ _ _ h => h) (Or.inr ⟨rfl, rfl⟩) (by assumption) ?_
      try simp only [Act.put, List.setIfInBounds_toArray, List.set_cons_zero, List.set_cons_succ]
      refine x_take (i := 19) (oi := { dst := some 55, op := Op.binOp BinOp.lss 3 (Operand.tmp 52) (Operand.tmp 54) 3, type := 4, pos := "law.go:60", after := #[{ on := 16, ground := Ground.data }, { on := 18, ground := Ground.data }, { on := 15, ground := Ground.guard }, { on := 21, ground := Ground.gcOnly Departure.lateStores }], guard := some (15, true) }) (v := undef) rfl (by kernel_rfl) (by kernel_rfl) (by kernel_rfl) (by kernel_rfl) (by kernel_rfl) (fun _ _ _ h => h) (Or.inr ⟨rfl, rfl⟩) (by assumption) ?_
      try simp only [Act.put, List.setIfInBounds_toArray, List.set_cons_zero, List.set_cons_succ]
      refine x_take (i := 20) (oi := { dst := some 56, op := Op.pick (Operand.tmp 51) (Operand.tmp 55) (Operand.const (Value.bool false)), type := 4, pos := "law.go:60", after := #[{ on := 15, ground := Ground.data }, { on := 19, ground := Ground.data }, { on := 21, ground := Ground.gcOnly Departure.lateStores }], guard := none }) (v := ?_) rfl (by kernel_rfl) (by kernel_rfl) (by kernel_rfl) (by kernel_rfl) (by kernel_rfl) (fun _ _ _ h => h) (Or.inl ⟨rfl, ?_⟩) (by assumption) ?_
      rotate_left
      · (intro w' hSw; replace q0 := kept_cell hSw q0; replace q1 := kept_cell hSw q1; replace q2 := kept_cell hSw q2; replace q3 := kept_cell hSw q3; go_simp; try with_reducible rfl)
      try simp only [Act.put, List.setIfInBounds_toArray, List.set_cons_zero, List.set_cons_succ]
      refine x_take (i := 21) (oi := { dst := some 13, op := Op.assign (Operand.tmp 37), type := 4, pos := "law.go:60", after := #[{ on := 1, ground := Ground.data }, { on := 15, ground := Ground.chain }, { on := 0, ground := Ground.phase }, { on := 1, ground := Ground.phase }, { on := 2, ground := Ground.textOnly Departure.lateStores }, { on := 3, ground := Ground.textOnly Departure.lateStores }, { on := 4, ground := Ground.textOnly Departure.lateStores }, { on := 5, ground := Ground.textOnly Departure.lateStores }, { on := 6, ground := Ground.textOnly Departure.lateStores }, { on := 7, ground := Ground.textOnly Departure.lateStores }, { on := 8, ground := Ground.textOnly Departure.lateStoresUnsure }, { on := 9, ground := Ground.textOnly Departure.lateStores }, { on := 10, ground := Ground.textOnly Departure.lateStores }, { on := 11, ground := Ground.textOnly Departure.lateStores }, { on := 12, ground := Ground.textOnly Departure.lateStores }, { on := 13, ground := Ground.textOnly Departure.lateStores }, { on := 14, ground := Ground.textOnly Departure.lateStores }, { on := 15, ground := Ground.textOnly Departure.lateStores }, { on := 16, ground := Ground.textOnly Departure.lateStores }, { on := 17, ground := Ground.textOnly Departure.lateStores }, { on := 18, ground := Ground.textOnly Departure.lateStores }, { on := 19, ground := Ground.textOnly Departure.lateStores }, { on := 20, ground := Ground.textOnly Departure.lateStores }], guard := none }) (v := ?_) rfl (by kernel_rfl) (by kernel_rfl) (by kernel_rfl) (by kernel_rfl) (by kernel_rfl) (fun _ _ _ h => h) (Or.inl ⟨rfl, ?_⟩) (by assumption) ?_
      rotate_left
      · (intro w' hSw; replace q0 := kept_cell hSw q0; replace q1 := kept_cell hSw q1; replace q2 := kept_cell hSw q2; replace q3 := kept_cell hSw q3; go_simp; try with_reducible rfl)
      try simp only [Act.put, List.setIfInBounds_toArray, List.set_cons_zero, List.set_cons_succ]
      refine x_take (i := 22) (oi := { dst := some 14, op := Op.assign (Operand.tmp 56), type := 4, pos := "law.go:60", after := #[{ on := 20, ground := Ground.data }, { on := 21, ground := Ground.chain }, { on := 0, ground := Ground.phase }, { on := 1, ground := Ground.phase }, { on := 2, ground := Ground.phase }, { on := 3, ground := Ground.phase }, { on := 4, ground := Ground.phase }, { on := 5, ground := Ground.phase }, { on := 6, ground := Ground.phase }, { on := 7, ground := Ground.phase }, { on := 8, ground := Ground.phase }, { on := 9, ground := Ground.phase }, { on := 10, ground := Ground.phase }, { on := 11, ground := Ground.phase }, { on := 12, ground := Ground.phase }, { on := 13, ground := Ground.phase }, { on := 14, ground := Ground.phase }, { on := 15, ground := Ground.phase }, { on := 16, ground := Ground.phase }, { on := 17, ground := Ground.phase }, { on := 18, ground := Ground.phase }, { on := 19, ground := Ground.phase }, { on := 20, ground := Ground.phase }, { on := 21, ground := Ground.phase }], guard := none }) (v := ?_) rfl (by kernel_rfl) (by kernel_rfl) (by kernel_rfl) (by kernel_rfl) (by kernel_rfl) (fun _ _ _ h => h) (Or.inl ⟨rfl, ?_⟩) (by assumption) ?_
      rotate_left
      · (intro w' hSw; replace q0 := kept_cell hSw q0; replace q1 := kept_cell hSw q1; replace q2 := kept_cell hSw q2; replace q3 := kept_cell hSw q3; go_simp; try with_reducible rfl)
      try simp only [Act.put, List.setIfInBounds_toArray, List.set_cons_zero, List.set_cons_succ]
      refine x_done (by kernel_rfl) ?_ _
      (go_wp2_with fail; go_meet; exact ⟨rfl, rfl, by assumption⟩)
  case rest =>
    obtain ⟨rfl, rfl, KX⟩ := hcut
    obtain ⟨wx, rfl⟩ : ∃ x : World, x = wc := ⟨_, rfl⟩
    replace K2 := kept_trans K2 KX; replace y0 := kept_cell KX y0; replace y1 := kept_cell KX y1; replace q0 := kept_cell KX q0; replace q1 := kept_cell KX q1; replace q2 := kept_cell KX q2; replace q3 := kept_cell KX q3
    replace hr8 := hr8.kept KX
    replace hr9 := hr9.kept KX
    clear C6 C8 C9 C10 KX
    cases ok : okF P M with
    | false =>
      obtain rfl : x9 = 1 := by rw [HX9.out]; unfold polE; rw [ok]; rfl
      obtain rfl : R = [] := by rw [HR.out]; unfold polO; rw [← HX9.out]; rfl
      rw [ok] at C11
      clear C15 C16
      rcases chk_range t n k with ⟨e, hv⟩ | ⟨e, hv, hi⟩ | ⟨e, hv, hi⟩
      · obtain rfl : x8 = 1 := by rw [HX8.out]; exact e
        obtain rfl : L = [] := by rw [HL.out]; unfold tabO; rw [e]; rfl
        obtain rfl : V = false := by rw [HV.out]; exact hv
        clear e hv ok C12
        go_wp2_with (first
          | (go_at_call 11; ((with_reducible refine (C11.out _).mono ?_); rintro e w5 ⟨rfl, k5⟩; replace K2 := kept_trans K2 k5; replace y0 := kept_cell k5 y0; replace y1 := kept_cell k5 y1; replace q0 := kept_cell k5 q0; replace q1 := kept_cell k5 q1; replace q2 := kept_cell k5 q2; replace q3 := kept_cell k5 q3; (try replace hr9 := hr9.kept k5); (try replace r12 := r12.kept k5)))
          | (go_at_call 7; ((with_reducible refine (C7.out _ K2).mono ?_); rintro e w9 ⟨rfl, k9⟩; replace K2 := kept_trans K2 k9)))
        go_ret
        exact ⟨rfl, K2⟩
      · obtain rfl : x8 = 2 := by rw [HX8.out]; exact e
        obtain rfl : L = [] := by rw [HL.out]; unfold tabO; rw [e]; rfl
        obtain rfl : V = true := by rw [HV.out]; exact hv
        obtain rfl : I = false := by rw [HI.out]; exact hi
        clear e hv hi ok C12
        go_wp2_with (first
          | (go_at_call 11; ((with_reducible refine (C11.out _).mono ?_); rintro e w5 ⟨rfl, k5⟩; replace K2 := kept_trans K2 k5; replace y0 := kept_cell k5 y0; replace y1 := kept_cell k5 y1; replace q0 := kept_cell k5 q0; replace q1 := kept_cell k5 q1; replace q2 := kept_cell k5 q2; replace q3 := kept_cell k5 q3; (try replace hr9 := hr9.kept k5); (try replace r12 := r12.kept k5)))
          | (go_at_call 7; ((with_reducible refine (C7.out _ K2).mono ?_); rintro e w9 ⟨rfl, k9⟩; replace K2 := kept_trans K2 k9)))
        go_ret
        exact ⟨rfl, K2⟩
      · obtain rfl : x8 = 0 := by rw [HX8.out]; exact e
        obtain rfl : L = tabB t n.toNat k.toNat := by rw [HL.out]; unfold tabO; rw [e]; rfl
        obtain rfl : V = true := by rw [HV.out]; exact hv
        obtain rfl : I = true := by rw [HI.out]; exact hi
        have h5 := inB_iff.1 hi
        have C12' := Lib.hid (C12.out hv hi)
        rw [show ((n.toNat : Nat) : Int) = n by omega, show ((k.toNat : Nat) : Int) = k by omega] at C12'
        have hlen : (tabB t n.toNat k.toNat).length ≤ 140737488355328 := by rw [tabB_len]; have g := good_of hv; have := pw_le (b := t.b) g.b6; rw [pw_two (by have := g.b1; omega)]; exact Nat.le_trans (Nat.mul_le_mul this this) (by decide)
        have C13 := Lib.hid fun w' A' B' c' d' h1 h2 => samebools13_same A' B' c' d' (tabB t n.toNat k.toNat) w' h1 h2 hlen
        obtain ⟨L, hL⟩ : ∃ L, L = tabB t n.toNat k.toNat := ⟨_, rfl⟩
        rw [← hL] at C12' C13 hr8 ⊢
        unfold TabPost at C12'
        clear e hv hi ok C12 h5 hlen hL
        go_wp2_with (first
          | (go_at_call 12; ((with_reducible refine (C12'.out _ K2).mono ?_); rintro e w6 ⟨A12, c12, rfl, r12, k6⟩; replace K2 := kept_trans K2 k6; replace y0 := kept_cell k6 y0; replace y1 := kept_cell k6 y1; replace q0 := kept_cell k6 q0; replace q1 := kept_cell k6 q1; replace q2 := kept_cell k6 q2; replace q3 := kept_cell k6 q3; replace hr9 := hr9.kept k6; replace hr8 := hr8.kept k6))
          | (go_at_call 13; ((with_reducible refine (C13.out _ _ _ _ _ hr8 r12).mono ?_); rintro e w7 ⟨rfl, k7⟩; replace K2 := kept_trans K2 k7; replace y0 := kept_cell k7 y0; replace y1 := kept_cell k7 y1; replace q0 := kept_cell k7 q0; replace q1 := kept_cell k7 q1; replace q2 := kept_cell k7 q2; replace q3 := kept_cell k7 q3; replace hr9 := hr9.kept k7))
          | (go_at_call 11; ((with_reducible refine (C11.out _).mono ?_); rintro e w5 ⟨rfl, k5⟩; replace K2 := kept_trans K2 k5; replace y0 := kept_cell k5 y0; replace y1 := kept_cell k5 y1; replace q0 := kept_cell k5 q0; replace q1 := kept_cell k5 q1; replace q2 := kept_cell k5 q2; replace q3 := kept_cell k5 q3; (try replace hr9 := hr9.kept k5); (try replace r12 := r12.kept k5)))
          | (go_at_call 7; ((with_reducible refine (C7.out _ K2).mono ?_); rintro e w9 ⟨rfl, k9⟩; replace K2 := kept_trans K2 k9)))
        go_ret
        exact ⟨rfl, K2⟩
    | true =>
      have e9 : x9 = chkE t n k := by rw [HX9.out]; unfold polE; rw [ok]; rfl
      rw [ok] at C11
      rcases chk_range t n k with ⟨e, hv⟩ | ⟨e, hv, hi⟩ | ⟨e, hv, hi⟩
      · obtain rfl : x8 = 1 := by rw [HX8.out]; exact e
        obtain rfl : x9 = 1 := by rw [e9]; exact e
        obtain rfl : L = [] := by rw [HL.out]; unfold tabO; rw [e]; rfl
        obtain rfl : R = [] := by rw [HR.out]; unfold polO; rw [← HX9.out]; rfl
        obtain rfl : V = false := by rw [HV.out]; exact hv
        clear e hv ok C12 C15 C16 e9
        go_wp2_with (first
          | (go_at_call 11; ((with_reducible refine (C11.out _).mono ?_); rintro e w5 ⟨rfl, k5⟩; replace K2 := kept_trans K2 k5; replace y0 := kept_cell k5 y0; replace y1 := kept_cell k5 y1; replace q0 := kept_cell k5 q0; replace q1 := kept_cell k5 q1; replace q2 := kept_cell k5 q2; replace q3 := kept_cell k5 q3; (try replace hr9 := hr9.kept k5); (try replace r12 := r12.kept k5)))
          | (go_at_call 7; ((with_reducible refine (C7.out _ K2).mono ?_); rintro e w9 ⟨rfl, k9⟩; replace K2 := kept_trans K2 k9)))
        go_ret
        exact ⟨rfl, K2⟩
      · obtain rfl : x8 = 2 := by rw [HX8.out]; exact e
        obtain rfl : x9 = 2 := by rw [e9]; exact e
        obtain rfl : L = [] := by rw [HL.out]; unfold tabO; rw [e]; rfl
        obtain rfl : R = [] := by rw [HR.out]; unfold polO; rw [← HX9.out]; rfl
        obtain rfl : V = true := by rw [HV.out]; exact hv
        obtain rfl : I = false := by rw [HI.out]; exact hi
        clear e hv hi ok C12 C15 C16 e9
        go_wp2_with (first
          | (go_at_call 11; ((with_reducible refine (C11.out _).mono ?_); rintro e w5 ⟨rfl, k5⟩; replace K2 := kept_trans K2 k5; replace y0 := kept_cell k5 y0; replace y1 := kept_cell k5 y1; replace q0 := kept_cell k5 q0; replace q1 := kept_cell k5 q1; replace q2 := kept_cell k5 q2; replace q3 := kept_cell k5 q3; (try replace hr9 := hr9.kept k5); (try replace r12 := r12.kept k5)))
          | (go_at_call 7; ((with_reducible refine (C7.out _ K2).mono ?_); rintro e w9 ⟨rfl, k9⟩; replace K2 := kept_trans K2 k9)))
        go_ret
        exact ⟨rfl, K2⟩
      · obtain rfl : x8 = 0 := by rw [HX8.out]; exact e
        obtain rfl : x9 = 0 := by rw [e9]; exact e
        obtain rfl : L = tabB t n.toNat k.toNat := by rw [HL.out]; unfold tabO; rw [e]; rfl
        obtain rfl : R = mlT P M (tabB t n.toNat k.toNat) (2 * t.b).toNat := by rw [HR.out]; unfold polO; rw [← HX9.out]; rfl
        obtain rfl : V = true := by rw [HV.out]; exact hv
        obtain rfl : I = true := by rw [HI.out]; exact hi
        have h5 := inB_iff.1 hi
        have g := good_of hv
        have hb6 := g.b6
        have hb1 := g.b1
        have C12' := Lib.hid (C12.out hv hi)
        rw [show ((n.toNat : Nat) : Int) = n by omega, show ((k.toNat : Nat) : Int) = k by omega] at C12'
        have hlen : (tabB t n.toNat k.toNat).length ≤ 4096 := by rw [tabB_len]; have := pw_le (b := t.b) g.b6; rw [pw_two (by omega)]; exact Nat.mul_le_mul this this
        have C13 := Lib.hid fun w' A' B' c' d' h1 h2 => samebools13_same A' B' c' d' (tabB t n.toNat k.toNat) w' h1 h2 (by omega)
        have C15' := Lib.hid (C15.out ok hv)
        have C16' := Lib.hid (C16.out ok)
        rw [show (((2 * t.b).toNat : Nat) : Int) = 2 * t.b by omega] at C15'
        have ew : IntKind.i64.wrap (2 * t.b) = 2 * t.b := IntWalk.i64_in _ (by omega)
        have hT2 : tot (addF P M) ((mlTerms (2 * t.b).toNat (mlAll P M ((tabB t n.toNat k.toNat).map bitI) (2 * t.b).toNat) (tabB t n.toNat k.toNat).length).map fun t => [t]) = mlT P M (tabB t n.toNat k.toNat) (2 * t.b).toNat := by unfold tot mlT; rw [List.length_map]
        have hRl : (mlT P M (tabB t n.toNat k.toNat) (2 * t.b).toNat).length ≤ 140737488355328 := by
          have h6 := totalT_len (addF P M) (mlTerms (2 * t.b).toNat (mlAll P M ((tabB t n.toNat k.toNat).map bitI) (2 * t.b).toNat) (tabB t n.toNat k.toNat).length).length ((mlTerms (2 * t.b).toNat (mlAll P M ((tabB t n.toNat k.toNat).map bitI) (2 * t.b).toNat) (tabB t n.toNat k.toNat).length).map fun t => [t])
          have h7 : sumLen ((mlTerms (2 * t.b).toNat (mlAll P M ((tabB t n.toNat k.toNat).map bitI) (2 * t.b).toNat) (tabB t n.toNat k.toNat).length).map fun t => [t]) = (mlTerms (2 * t.b).toNat (mlAll P M ((tabB t n.toNat k.toNat).map bitI) (2 * t.b).toNat) (tabB t n.toNat k.toNat).length).length := by
            have := sumLen_one id (mlTerms (2 * t.b).toNat (mlAll P M ((tabB t n.toNat k.toNat).map bitI) (2 * t.b).toNat) (tabB t n.toNat k.toNat).length)
            rwa [List.map_id] at this
          have h8 := mlTerms_len (2 * t.b).toNat (mlAll P M ((tabB t n.toNat k.toNat).map bitI) (2 * t.b).toNat) (tabB t n.toNat k.toNat).length
          unfold mlT
          omega
        unfold TotPost at C15'
        rw [hT2] at C15'
        obtain ⟨R, hR⟩ : ∃ R, R = mlT P M (tabB t n.toNat k.toNat) (2 * t.b).toNat := ⟨_, rfl⟩
        rw [← hR] at C15' hr9 hRl ⊢
        obtain ⟨L, hL⟩ : ∃ L, L = tabB t n.toNat k.toNat := ⟨_, rfl⟩
        rw [← hL] at C12' C13 C15' hr8 ⊢
        have C14 := Lib.hid fun w' A' B' c' d' h1 h2 => same38_any R R A' B' c' d' w' h1 h2 hRl hRl
        rw [show decide (R = R) = true by simp] at C14
        unfold TabPost at C12'
        unfold kV at C16'
        unfold kV at C15'
        obtain ⟨q, hq⟩ : ∃ q, q = ordF P M := ⟨_, rfl⟩
        obtain ⟨km, hkm⟩ : ∃ km, km = kitM M := ⟨_, rfl⟩
        rw [← hq, ← hkm] at C15' C16'
        clear e hv hi ok C12 C15 C16 h5 hlen hL hR hRl hT2 g hb6 hb1 hq hkm e9
        go_upto_region 20 with (first
          | (go_at_call 12; ((with_reducible refine (C12'.out _ K2).mono ?_); rintro e w6 ⟨A12, c12, rfl, r12, k6⟩; replace K2 := kept_trans K2 k6; replace y0 := kept_cell k6 y0; replace y1 := kept_cell k6 y1; replace q0 := kept_cell k6 q0; replace q1 := kept_cell k6 q1; replace q2 := kept_cell k6 q2; replace q3 := kept_cell k6 q3; replace hr8 := hr8.kept k6; replace hr9 := hr9.kept k6))
          | (go_at_call 13; ((with_reducible refine (C13.out _ _ _ _ _ hr8 r12).mono ?_); rintro e w7 ⟨rfl, k7⟩; replace K2 := kept_trans K2 k7; replace y0 := kept_cell k7 y0; replace y1 := kept_cell k7 y1; replace q0 := kept_cell k7 q0; replace q1 := kept_cell k7 q1; replace q2 := kept_cell k7 q2; replace q3 := kept_cell k7 q3; replace hr9 := hr9.kept k7; replace r12 := r12.kept k7))
          | (go_at_call 11; ((with_reducible refine (C11.out _).mono ?_); rintro e w5 ⟨rfl, k5⟩; replace K2 := kept_trans K2 k5; replace y0 := kept_cell k5 y0; replace y1 := kept_cell k5 y1; replace q0 := kept_cell k5 q0; replace q1 := kept_cell k5 q1; replace q2 := kept_cell k5 q2; replace q3 := kept_cell k5 q3; (try replace hr9 := hr9.kept k5); (try replace r12 := r12.kept k5))))
        refine region_x (fun w' => Kept w5 w') [] (by kernel_rfl) (kept_drew (kept_refl _)) (fun hHeld => ?_)
        refine x_take (i := 0) (oi := { dst := some 111, op := Op.move (Operand.tmp 12), type := 31, pos := "law.go:81", after := #[], guard := none }) (v := ?_) rfl (by kernel_rfl) (by kernel_rfl) (by kernel_rfl) (by kernel_rfl) (by kernel_rfl) (fun _ _ _ h => h) (Or.inl ⟨rfl, ?_⟩) (by assumption) ?_
        rotate_left
        · (intro w' hSw; replace y0 := kept_cell hSw y0; replace y1 := kept_cell hSw y1; replace q1 := kept_cell hSw q1; go_simp; try with_reducible rfl)
        try simp only [Act.put, List.setIfInBounds_toArray, List.set_cons_zero, List.set_cons_succ]
        refine x_take (i := 1) (oi := { dst := some 112, op := Op.binOp BinOp.eql 31 (Operand.tmp 111) (Operand.const (Value.int IntKind.i64 0)) 31, type := 4, pos := "law.go:81", after := #[{ on := 0, ground := Ground.data }], guard := none }) (v := ?_) rfl (by kernel_rfl) (by kernel_rfl) (by kernel_rfl) (by kernel_rfl) (by kernel_rfl) (fun _ _ _ h => h) (Or.inl ⟨rfl, ?_⟩) (by assumption) ?_
        rotate_left
        · (intro w' hSw; replace y0 := kept_cell hSw y0; replace y1 := kept_cell hSw y1; replace q1 := kept_cell hSw q1; go_simp; try with_reducible rfl)
        try simp only [Act.put, List.setIfInBounds_toArray, List.set_cons_zero, List.set_cons_succ]
        refine x_take (i := 2) (oi := { dst := some 113, op := Op.move (Operand.tmp 112), type := 4, pos := "law.go:81", after := #[{ on := 1, ground := Ground.data }], guard := none }) (v := ?_) rfl (by kernel_rfl) (by kernel_rfl) (by kernel_rfl) (by kernel_rfl) (by kernel_rfl) (fun _ _ _ h => h) (Or.inl ⟨rfl, ?_⟩) (by assumption) ?_
        rotate_left
        · (intro w' hSw; replace y0 := kept_cell hSw y0; replace y1 := kept_cell hSw y1; replace q1 := kept_cell hSw q1; go_simp; try with_reducible rfl)
        try simp only [Act.put, List.setIfInBounds_toArray, List.set_cons_zero, List.set_cons_succ]
        refine x_take (i := 3) (oi := { dst := some 114, op := Op.move (Operand.tmp 11), type := 35, pos := "law.go:81", after := #[{ on := 2, ground := Ground.guard }], guard := some (2, true) }) (v := ?_) rfl (by kernel_rfl) (by kernel_rfl) (by kernel_rfl) (by kernel_rfl) (by kernel_rfl) (fun _ _ _ h => h) (Or.inl ⟨rfl, ?_⟩) (by assumption) ?_
        rotate_left
        · (intro w' hSw; replace y0 := kept_cell hSw y0; replace y1 := kept_cell hSw y1; replace q1 := kept_cell hSw q1; go_simp; try with_reducible rfl)
        try simp only [Act.put, List.setIfInBounds_toArray, List.set_cons_zero, List.set_cons_succ]
        refine x_take (i := 4) (oi := { dst := some 115, op := Op.load 23 (Operand.tmp 4), type := 23, pos := "law.go:81", after := #[{ on := 2, ground := Ground.guard }], guard := some (2, true) }) (v := ?_) rfl (by kernel_rfl) (by kernel_rfl) (by kernel_rfl) (by kernel_rfl) (by kernel_rfl) (fun _ _ _ h => h) (Or.inl ⟨rfl, ?_⟩) (by assumption) ?_
        rotate_left
        · (intro w' hSw; replace y0 := kept_cell hSw y0; replace y1 := kept_cell hSw y1; replace q1 := kept_cell hSw q1; go_simp; try with_reducible rfl)
        try simp only [Act.put, List.setIfInBounds_toArray, List.set_cons_zero, List.set_cons_succ]
        refine x_take (i := 6) (oi := { dst := some 117, op := Op.fieldAddr 27 (Operand.tmp 5) 1, type := 0, pos := "law.go:81", after := #[{ on := 2, ground := Ground.guard }], guard := some (2, true) }) (v := ?_) rfl (by kernel_rfl) (by kernel_rfl) (by kernel_rfl) (by kernel_rfl) (by kernel_rfl) (fun _ _ _ h => h) (Or.inl ⟨rfl, ?_⟩) (by assumption) ?_
        rotate_left
        · (intro w' hSw; replace y0 := kept_cell hSw y0; replace y1 := kept_cell hSw y1; replace q1 := kept_cell hSw q1; go_simp; try with_reducible rfl)
        try simp only [Act.put, List.setIfInBounds_toArray, List.set_cons_zero, List.set_cons_succ]
        refine x_take (i := 7) (oi := { dst := some 118, op := Op.load 3 (Operand.tmp 117), type := 3, pos := "law.go:81", after := #[{ on := 6, ground := Ground.data }, { on := 2, ground := Ground.guard }], guard := some (2, true) }) (v := ?_) rfl (by kernel_rfl) (by kernel_rfl) (by kernel_rfl) (by kernel_rfl) (by kernel_rfl) (fun _ _ _ h => h) (Or.inl ⟨rfl, ?_⟩) (by assumption) ?_
        rotate_left
        · (intro w' hSw; replace y0 := kept_cell hSw y0; replace y1 := kept_cell hSw y1; replace q1 := kept_cell hSw q1; go_simp; try with_reducible rfl)
        try simp only [Act.put, List.setIfInBounds_toArray, List.set_cons_zero, List.set_cons_succ]
        refine x_take (i := 8) (oi := { dst := some 119, op := Op.binOp BinOp.mul 3 (Operand.const (Value.int IntKind.i64 2)) (Operand.tmp 118) 3, type := 3, pos := "law.go:81", after := #[{ on := 7, ground := Ground.data }, { on := 2, ground := Ground.guard }], guard := some (2, true) }) (v := ?_) rfl (by kernel_rfl) (by kernel_rfl) (by kernel_rfl) (by kernel_rfl) (by kernel_rfl) (fun _ _ _ h => h) (Or.inl ⟨rfl, ?_⟩) (by assumption) ?_
        rotate_left
        · (intro w' hSw; replace y0 := kept_cell hSw y0; replace y1 := kept_cell hSw y1; replace q1 := kept_cell hSw q1; go_simp; try with_reducible rfl)
        try simp only [Act.put, List.setIfInBounds_toArray, List.set_cons_zero, List.set_cons_succ]
        refine x_take (i := 9) (oi := { dst := some 120, op := Op.move (Operand.tmp 16), type := 30, pos := "law.go:81", after := #[{ on := 2, ground := Ground.guard }], guard := some (2, true) }) (v := ?_) rfl (by kernel_rfl) (by kernel_rfl) (by kernel_rfl) (by kernel_rfl) (by kernel_rfl) (fun _ _ _ h => h) (Or.inl ⟨rfl, ?_⟩) (by assumption) ?_
        rotate_left
        · (intro w' hSw; replace y0 := kept_cell hSw y0; replace y1 := kept_cell hSw y1; replace q1 := kept_cell hSw q1; go_simp; try with_reducible rfl)
        try simp only [Act.put, List.setIfInBounds_toArray, List.set_cons_zero, List.set_cons_succ]
        refine x_one (i := 5) (o := { dst := some 116, op := Op.call { callee := Callee.value (Operand.func 16), args := #[Operand.tmp 115], argTypes := #[23] }, type := 45, pos := "law.go:81", after := #[{ on := 4, ground := Ground.data }, { on := 2, ground := Ground.chain }, { on := 2, ground := Ground.guard }], guard := some (2, true) }) (by kernel_rfl) rfl (fun K hK => ?_)
        (go_simp; go_at_call 16; (with_reducible refine (C16'.out _).mono ?_); rintro e u1 ⟨rfl, j1⟩; have J1 := kept_trans hHeld j1; try dsimp only)
        refine hK.out _ _ ?_ (fun hHeld => ?_)
        · (try dsimp only); repeat (first | assumption | exact kept_refl _ | refine kept_drew ?_ | refine kept_alloc ?_ _ | refine kept_set ?_ (by omega) _)
        clear hK K
        try simp only [Act.put, List.setIfInBounds_toArray, List.set_cons_zero, List.set_cons_succ]
        refine x_one (i := 10) (o := { dst := some 121, op := Op.call { callee := Callee.value (Operand.func 15), args := #[Operand.tmp 116, Operand.tmp 119, Operand.tmp 120], argTypes := #[45, 3, 30] }, type := 35, pos := "law.go:81", after := #[{ on := 5, ground := Ground.data }, { on := 8, ground := Ground.data }, { on := 9, ground := Ground.data }, { on := 5, ground := Ground.chain }, { on := 2, ground := Ground.guard }], guard := some (2, true) }) (by kernel_rfl) rfl (fun K hK => ?_)
        (go_simp; go_at_call 15; (with_reducible refine (C15'.out _ A12 c12 (r12.kept hHeld)).mono ?_); rintro e u2 ⟨A15, c15, r15, rfl, e15, h15, j2⟩; subst e15; have J2 := kept_trans hHeld j2; try dsimp only)
        refine hK.out _ _ ?_ (fun hHeld => ?_)
        · (try dsimp only); repeat (first | assumption | exact kept_refl _ | refine kept_drew ?_ | refine kept_alloc ?_ _ | refine kept_set ?_ (by omega) _)
        clear hK K
        try simp only [Act.put, List.setIfInBounds_toArray, List.set_cons_zero, List.set_cons_succ]
        refine x_one (i := 11) (o := { dst := some 122, op := Op.call { callee := Callee.value (Operand.func 14), args := #[Operand.tmp 114, Operand.tmp 121], argTypes := #[35, 35] }, type := 4, pos := "law.go:81", after := #[{ on := 3, ground := Ground.data }, { on := 10, ground := Ground.data }, { on := 10, ground := Ground.chain }, { on := 2, ground := Ground.guard }], guard := some (2, true) }) (by kernel_rfl) rfl (fun K hK => ?_)
        (go_simp; go_at_call 14; (with_reducible refine (C14.out _ _ _ _ _ (hr9.kept hHeld) h15).mono ?_); rintro e u3 ⟨rfl, j3⟩; have J3 := kept_trans hHeld j3; try dsimp only)
        refine hK.out _ _ ?_ (fun hHeld => ?_)
        · (try dsimp only); repeat (first | assumption | exact kept_refl _ | refine kept_drew ?_ | refine kept_alloc ?_ _ | refine kept_set ?_ (by omega) _)
        clear hK K
        try simp only [Act.put, List.setIfInBounds_toArray, List.set_cons_zero, List.set_cons_succ]
        refine x_take (i := 12) (oi := { dst := some 123, op := Op.pick (Operand.tmp 113) (Operand.tmp 122) (Operand.const (Value.bool false)), type := 4, pos := "law.go:81", after := #[{ on := 2, ground := Ground.data }, { on := 11, ground := Ground.data }], guard := none }) (v := ?_) rfl (by kernel_rfl) (by kernel_rfl) (by kernel_rfl) (by kernel_rfl) (by kernel_rfl) (fun _ _ _ h => h) (Or.inl ⟨rfl, ?_⟩) (by assumption) ?_
        rotate_left
        · (intro w' hSw; replace y0 := kept_cell hSw y0; replace y1 := kept_cell hSw y1; replace q1 := kept_cell hSw q1; go_simp; try with_reducible rfl)
        try simp only [Act.put, List.setIfInBounds_toArray, List.set_cons_zero, List.set_cons_succ]
        refine x_take (i := 13) (oi := { dst := some 124, op := Op.move (Operand.tmp 123), type := 4, pos := "law.go:81", after := #[{ on := 12, ground := Ground.data }, { on := 11, ground := Ground.chain }], guard := none }) (v := ?_) rfl (by kernel_rfl) (by kernel_rfl) (by kernel_rfl) (by kernel_rfl) (by kernel_rfl) (fun _ _ _ h => h) (Or.inl ⟨rfl, ?_⟩) (by assumption) ?_
        rotate_left
        · (intro w' hSw; replace y0 := kept_cell hSw y0; replace y1 := kept_cell hSw y1; replace q1 := kept_cell hSw q1; go_simp; try with_reducible rfl)
        try simp only [Act.put, List.setIfInBounds_toArray, List.set_cons_zero, List.set_cons_succ]
        refine x_one (i := 14) (o := { dst := some 125, op := Op.call { callee := Callee.value (Operand.func 7), args := #[], argTypes := #[] }, type := 4, pos := "law.go:81", after := #[{ on := 13, ground := Ground.chain }, { on := 13, ground := Ground.guard }], guard := some (13, true) }) (by kernel_rfl) rfl (fun K hK => ?_)
        (go_simp; go_at_call 7; (with_reducible refine (C7.out _ (kept_trans K2 hHeld)).mono ?_); rintro e u4 ⟨rfl, j4⟩; have J4 := kept_trans hHeld j4; try dsimp only)
        refine hK.out _ _ ?_ (fun hHeld => ?_)
        · (try dsimp only); repeat (first | assumption | exact kept_refl _ | refine kept_drew ?_ | refine kept_alloc ?_ _ | refine kept_set ?_ (by omega) _)
        clear hK K
        try simp only [Act.put, List.setIfInBounds_toArray, List.set_cons_zero, List.set_cons_succ]
        refine x_take (i := 15) (oi := { dst := some 126, op := Op.pick (Operand.tmp 124) (Operand.tmp 125) (Operand.const (Value.bool false)), type := 4, pos := "law.go:81", after := #[{ on := 13, ground := Ground.data }, { on := 14, ground := Ground.data }], guard := none }) (v := ?_) rfl (by kernel_rfl) (by kernel_rfl) (by kernel_rfl) (by kernel_rfl) (by kernel_rfl) (fun _ _ _ h => h) (Or.inl ⟨rfl, ?_⟩) (by assumption) ?_
        rotate_left
        · (intro w' hSw; replace y0 := kept_cell hSw y0; replace y1 := kept_cell hSw y1; replace q1 := kept_cell hSw q1; go_simp; try with_reducible rfl)
        try simp only [Act.put, List.setIfInBounds_toArray, List.set_cons_zero, List.set_cons_succ]
        refine x_take (i := 16) (oi := { dst := some 8, op := Op.assign (Operand.tmp 126), type := 4, pos := "law.go:81", after := #[{ on := 15, ground := Ground.data }, { on := 14, ground := Ground.chain }, { on := 0, ground := Ground.phase }, { on := 1, ground := Ground.phase }, { on := 2, ground := Ground.phase }, { on := 3, ground := Ground.phase }, { on := 4, ground := Ground.phase }, { on := 5, ground := Ground.phase }, { on := 6, ground := Ground.phase }, { on := 7, ground := Ground.phase }, { on := 8, ground := Ground.phase }, { on := 9, ground := Ground.phase }, { on := 10, ground := Ground.phase }, { on := 11, ground := Ground.phase }, { on := 12, ground := Ground.phase }, { on := 13, ground := Ground.phase }, { on := 14, ground := Ground.phase }, { on := 15, ground := Ground.phase }], guard := none }) (v := ?_) rfl (by kernel_rfl) (by kernel_rfl) (by kernel_rfl) (by kernel_rfl) (by kernel_rfl) (fun _ _ _ h => h) (Or.inl ⟨rfl, ?_⟩) (by assumption) ?_
        rotate_left
        · (intro w' hSw; replace y0 := kept_cell hSw y0; replace y1 := kept_cell hSw y1; replace q1 := kept_cell hSw q1; go_simp; try with_reducible rfl)
        try simp only [Act.put, List.setIfInBounds_toArray, List.set_cons_zero, List.set_cons_succ]
        refine x_done (by kernel_rfl) ?_ _
        go_wp2_with fail
        go_ret
        exact ⟨rfl, kept_trans K2 J4⟩
theorem law3_any (P M : Int) (t : Tr) (A : Option Addr) (c : Nat) (T : Option Addr) (d : Nat) (n k : Int) (w : World) (hlib : LibOk w) (hA : Rd w A (ints t.lv)) (hT : RT w T t.tb) (hl : t.lv.length ≤ 140737488355328) (ht : t.tb.length ≤ 140737488355328) :
    Calls Tryz.prog 3 #[fV P M, trV t A c T d, .int .i64 n, .int .i64 k] w fun e w' => e = .returned (.bool true) ∧ Kept w w' := by
  cases hf : fewBW 10000 t with
  | false => exact law3_few P M t A c T d n k w hlib hA hT hl ht hf
  | true => exact law3_main P M t A c T d n k w hlib hA hT hl ht hf
end Go.Proofs.YtikfeemmjfoffaaGreatDoor
