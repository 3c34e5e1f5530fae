/- Trees: Valid (the program). -/
import Derived.Test.YtikfeemmjfoffaaDoorW8
set_option linter.unusedVariables false
set_option linter.unusedSimpArgs false
namespace Go.Proofs.YtikfeemmjfoffaaDoor
open Go.RowKit

def vOk (l : List Int) (many b : Int) : Bool := decide ((l.length : Int) = many) && valsOk l b
theorem vOk_iff {l : List Int} {many b : Int} : vOk l many b = true ↔ (l.length : Int) = many ∧ valsOk l b = true := by simp [vOk]

set_option maxRecDepth 100000 in
set_option maxHeartbeats 4000000 in
theorem valid18_any (h b : Int) (A : Option Addr) (c : Nat) (lv : List Int) (T : Option Addr) (d : Nat) (tb : List (List Int)) (w : World) (hA : Rd w A (ints lv)) (hT : RT w T tb) (hl : lv.length ≤ 140737488355328) (ht : tb.length ≤ 140737488355328) :
    Calls Tryd.prog 18 #[.agg #[.int .i64 h, .int .i64 b, .slice A lv.length c, .slice T tb.length d]] w fun e w' => e = .returned (.bool (validT ⟨h, b, lv, tb⟩)) ∧ Kept w w' := by
  have o0 := Own.new w 25 [.int .i64 h, .int .i64 b, .slice A lv.length c, .slice T tb.length d]
  have K0 := kept_alloc (kept_refl w) (.cells #[.int .i64 h, .int .i64 b, .slice A lv.length c, .slice T tb.length d] 25)
  have q0 := o0.cell (j := 0) rfl; have q1 := o0.cell (j := 1) rfl; have q2 := o0.cell (j := 2) rfl; have q3 := o0.cell (j := 3) rfl
  obtain ⟨V, hV⟩ : ∃ V, V = validT ⟨h, b, lv, tb⟩ := ⟨_, rfl⟩
  rw [← hV]
  have HV := Lib.hid hV; clear hV
  have HA := Lib.hid hA; have HT := Lib.hid hT; clear hA hT
  by_cases c1 : h < 0
  · have d1 : decide (h < 0) = true := decide_eq_true c1
    have HC := Lib.hid c1; clear c1
    go_enter Tryd.func18, Tryd.ntmps18
    go_wp2_with fail
    go_quiet (fail)
    go_wp2_with fail
    go_ret
    exact ⟨ret_bool (by symm; rw [HV.out, Bool.eq_false_iff]; intro hv; have g := good_of hv; have G : 0 ≤ h := g.h0; have := HC.out; omega), below_drewN K0 _⟩
  have d1 : decide (h < 0) = false := decide_eq_false c1
  by_cases c2 : 6 < h
  · have d2 : decide (6 < h) = true := decide_eq_true c2
    have HC := Lib.hid c2; clear c1 c2
    go_enter Tryd.func18, Tryd.ntmps18
    go_wp2_with fail
    go_quiet (fail)
    go_wp2_with fail
    go_ret
    exact ⟨ret_bool (by symm; rw [HV.out, Bool.eq_false_iff]; intro hv; have g := good_of hv; have G : h ≤ 6 := g.h6; have := HC.out; omega), below_drewN K0 _⟩
  have d2 : decide (6 < h) = false := decide_eq_false c2
  by_cases c3 : b < 1
  · have d3 : decide (b < 1) = true := decide_eq_true c3
    have HC := Lib.hid c3; clear c1 c2 c3
    go_enter Tryd.func18, Tryd.ntmps18
    go_wp2_with fail
    go_quiet (fail)
    go_wp2_with fail
    go_ret
    exact ⟨ret_bool (by symm; rw [HV.out, Bool.eq_false_iff]; intro hv; have g := good_of hv; have G : 1 ≤ b := g.b1; have := HC.out; omega), below_drewN K0 _⟩
  have d3 : decide (b < 1) = false := decide_eq_false c3
  by_cases c4 : 6 < b
  · have d4 : decide (6 < b) = true := decide_eq_true c4
    have HC := Lib.hid c4; clear c1 c2 c3 c4
    go_enter Tryd.func18, Tryd.ntmps18
    go_wp2_with fail
    go_quiet (fail)
    go_wp2_with fail
    go_ret
    exact ⟨ret_bool (by symm; rw [HV.out, Bool.eq_false_iff]; intro hv; have g := good_of hv; have G : b ≤ 6 := g.b6; have := HC.out; omega), below_drewN K0 _⟩
  have d4 : decide (6 < b) = false := decide_eq_false c4
  obtain ⟨hn, rfl⟩ : ∃ k : Nat, h = k := ⟨h.toNat, by omega⟩
  obtain ⟨bn, rfl⟩ : ∃ k : Nat, b = k := ⟨b.toNat, by omega⟩
  have hh6 : hn ≤ 6 := by omega
  have hb6 : bn ≤ 6 := by omega
  have hb1 : 1 ≤ bn := by omega
  clear c1 c2 c3 c4
  have w1 := shl_wrap hn (by omega)
  obtain ⟨N, hN⟩ : ∃ N : Nat, N = 2 ^ hn := ⟨_, rfl⟩
  rw [← hN] at w1
  have hNp : pw (hn : Int) = N := by rw [hN]; simp [pw]
  have hN1 : 1 ≤ N := by rw [← hNp]; exact pw_pos _
  have hN64 : N ≤ 64 := by rw [← hNp]; exact pw_le (by omega)
  have w1a : IntKind.i64.wrap (2 ^ hn) = (N : Int) := by rw [show (2 : Int) ^ hn = (N : Int) by rw [hN]; simp]; exact iw_nat (by omega)
  have w1b : IntKind.i64.wrap (2 ^ min hn 64) = (N : Int) := by rw [Nat.min_eq_left (by omega)]; exact w1a
  have HNP := Lib.hid hNp; clear hN hNp
  have w2 : wrap64 ((N : Int) - 1) = (N : Int) - 1 := by unfold wrap64; omega
  have w2a : IntKind.i64.wrap ((N : Int) - 1) = (N : Int) - 1 := IntWalk.i64_in _ (by omega)
  by_cases c6 : (tb.length : Int) = (N : Int) - 1
  rotate_left
  · have e3 : ((tb.length : Int) != (N : Int) - 1) = true := by simp; omega
    have HC := Lib.hid (And.intro c6 (And.intro HNP.out hN1)); clear c6
    go_enter Tryd.func18, Tryd.ntmps18
    go_wp2_with fail
    go_quiet (fail)
    go_wp2_with fail
    go_ret
    exact ⟨ret_bool (by symm; rw [HV.out, Bool.eq_false_iff]; intro hv; have g := good_of hv; have G : tb.length = pw (hn : Int) - 1 := g.tl; have := HC.out; omega), below_drewN K0 _⟩
  have e3 : ((tb.length : Int) != (N : Int) - 1) = false := by simp; omega
  have o0' := o0
  obtain ⟨W0, hW0⟩ : ∃ x, x = w.alloc (.cells #[.int .i64 hn, .int .i64 bn, .slice A lv.length c, .slice T tb.length d] 25) := ⟨_, rfl⟩
  rw [← hW0] at o0' K0
  obtain ⟨m, hm⟩ : ∃ m : Nat, m = 2 * bn := ⟨_, rfl⟩
  have w3 : wrap64 (2 * (bn : Int)) = (m : Int) := by unfold wrap64; omega
  have w3' : IntKind.i64.wrap (2 * (bn : Int)) = (m : Int) := (IntWalk.i64_in _ (by omega)).trans (by omega)
  have w4 := shl_wrap m (by omega)
  obtain ⟨M, hM⟩ : ∃ M : Nat, M = 2 ^ m := ⟨_, rfl⟩
  rw [← hM] at w4
  have hM2 : M ≤ 4096 := by rw [hM]; exact Nat.pow_le_pow_right (n := 2) (by omega) (by omega : m ≤ 12)
  have w5a : IntKind.i64.wrap (2 ^ m) = (M : Int) := by rw [show (2 : Int) ^ m = (M : Int) by rw [hM]; simp]; exact iw_nat (by omega)
  have w5 : IntKind.i64.wrap (2 ^ min m 64) = (M : Int) := by rw [Nat.min_eq_left (by omega)]; exact w5a
  have hMp : pw (2 * (bn : Int)) = M := by rw [hM, hm]; unfold pw; congr 1
  have HMP := Lib.hid hMp; clear hM hMp
  have HC6 := Lib.hid c6; clear c6
  have C39 := Lib.hid fun (A : Option Addr) (c : Nat) (l : List Int) (many : Int) (w' : World) (hr : Rd w' A (ints l)) (hl : l.length ≤ 140737488355328) => show Calls Tryd.prog 39 #[.slice A l.length c, .int .i64 many, .int .i64 bn] w' fun e w'' => e = .returned (.bool (vOk l many bn)) ∧ Kept w' w'' from values39_any bn (by omega) A c l many w' hr hl
  have HM := Lib.hid hm; clear hm
  go_enter Tryd.func18, Tryd.ntmps18
  go_wp2_with fail
  go_quiet (fail)
  go_wp2_with fail
  have KB : Kept W0 (w.alloc (.cells #[.int .i64 hn, .int .i64 bn, .slice A lv.length c, .slice T tb.length d] 25)).drew := by rw [hW0]; exact kept_drew (kept_refl _)
  have KB' : Kept W0 (w.alloc (.cells #[.int .i64 hn, .int .i64 bn, .slice A lv.length c, .slice T tb.length d] 25)) := by rw [hW0]; exact kept_refl _
  clear q0 q1 q2 q3 o0 w1 w2 w1a w2a w1b
  go_loopg [36] tb.length (fun g' s36 wr => ∃ k : Nat, k ≤ tb.length ∧ (∀ j, j < k → vOk (tb.getD j []) M bn = true) ∧ g' = tb.length - k ∧ s36 = .int .i64 k ∧ Kept W0 wr)
  case atStart => exact ⟨0, by omega, by omega, rfl, rfl, by first | exact KB | exact KB' | exact below_drewN KB' _⟩
  case round =>
    clear KB KB'
    obtain ⟨k, hk, hj, rfl, rfl, k1⟩ := hrel
    have HJ := Lib.hid hj; clear hj
    have oo := o0'.kept k1
    have q0 := oo.cell (j := 0) rfl; have q1 := oo.cell (j := 1) rfl; have q2 := oo.cell (j := 2) rfl; have q3 := oo.cell (j := 3) rfl
    by_cases hlt : k < tb.length
    · obtain ⟨tb1, toff, A1, c1, rfl, t0, r1, l1⟩ := (HT.out.kept (kept_trans K0 k1)) k hlt
      obtain ⟨L, hL⟩ : ∃ L, L = tb.getD k [] := ⟨_, rfl⟩
      rw [← hL] at t0 r1 l1
      have HL := Lib.hid hL; clear hL
      have R1 := Lib.hid r1; clear r1
      by_cases c8 : vOk L M bn = true
      · go_wp2_with fail
        refine region_x (fun w' => Kept wr w') [] (by kernel_rfl) (kept_drew (kept_refl _)) (fun hHeld => ?_)
        refine x_take (i := 0) (oi := { dst := some 40, op := Op.move (Operand.tmp 4), type := 22, pos := "tree.go:26", after := #[], guard := none }) (v := ?_) rfl (by kernel_rfl) (by kernel_rfl) (by kernel_rfl) (by kernel_rfl) (by kernel_rfl) (fun _ _ _ h => h) (Or.inl ⟨rfl, ?_⟩) (by assumption) ?_
        rotate_left
        · (intro w' hSw; replace q0 := kept_cell hSw q0; replace q1 := kept_cell hSw q1; replace q2 := kept_cell hSw q2; replace q3 := kept_cell hSw q3; go_simp; try with_reducible rfl)
        try simp only [Act.put, List.setIfInBounds_toArray, List.set_cons_zero, List.set_cons_succ]
        refine x_take (i := 1) (oi := { dst := some 41, op := Op.fieldAddr 25 (Operand.tmp 1) 1, type := 0, pos := "tree.go:26", after := #[], guard := none }) (v := ?_) rfl (by kernel_rfl) (by kernel_rfl) (by kernel_rfl) (by kernel_rfl) (by kernel_rfl) (fun _ _ _ h => h) (Or.inl ⟨rfl, ?_⟩) (by assumption) ?_
        rotate_left
        · (intro w' hSw; replace q0 := kept_cell hSw q0; replace q1 := kept_cell hSw q1; replace q2 := kept_cell hSw q2; replace q3 := kept_cell hSw q3; go_simp; try with_reducible rfl)
        try simp only [Act.put, List.setIfInBounds_toArray, List.set_cons_zero, List.set_cons_succ]
        refine x_take (i := 2) (oi := { dst := some 42, op := Op.load 3 (Operand.tmp 41), type := 3, pos := "tree.go:26", after := #[{ on := 1, ground := Ground.data }], guard := none }) (v := ?_) rfl (by kernel_rfl) (by kernel_rfl) (by kernel_rfl) (by kernel_rfl) (by kernel_rfl) (fun _ _ _ h => h) (Or.inl ⟨rfl, ?_⟩) (by assumption) ?_
        rotate_left
        · (intro w' hSw; replace q0 := kept_cell hSw q0; replace q1 := kept_cell hSw q1; replace q2 := kept_cell hSw q2; replace q3 := kept_cell hSw q3; go_simp; try with_reducible rfl)
        try simp only [Act.put, List.setIfInBounds_toArray, List.set_cons_zero, List.set_cons_succ]
        refine x_take (i := 3) (oi := { dst := some 43, op := Op.binOp BinOp.mul 3 (Operand.const (Value.int IntKind.i64 2)) (Operand.tmp 42) 3, type := 3, pos := "tree.go:26", after := #[{ on := 2, ground := Ground.data }], guard := none }) (v := ?_) rfl (by kernel_rfl) (by kernel_rfl) (by kernel_rfl) (by kernel_rfl) (by kernel_rfl) (fun _ _ _ h => h) (Or.inl ⟨rfl, ?_⟩) (by assumption) ?_
        rotate_left
        · (intro w' hSw; replace q0 := kept_cell hSw q0; replace q1 := kept_cell hSw q1; replace q2 := kept_cell hSw q2; replace q3 := kept_cell hSw q3; go_simp; try with_reducible rfl)
        try simp only [Act.put, List.setIfInBounds_toArray, List.set_cons_zero, List.set_cons_succ]
        refine x_take (i := 4) (oi := { dst := some 44, op := Op.binOp BinOp.shl 3 (Operand.const (Value.int IntKind.i64 1)) (Operand.tmp 43) 3, type := 3, pos := "tree.go:26", after := #[{ on := 3, ground := Ground.data }], guard := none }) (v := ?_) rfl (by kernel_rfl) (by kernel_rfl) (by kernel_rfl) (by kernel_rfl) (by kernel_rfl) (fun _ _ _ h => h) (Or.inl ⟨rfl, ?_⟩) (by assumption) ?_
        rotate_left
        · (intro w' hSw; replace q0 := kept_cell hSw q0; replace q1 := kept_cell hSw q1; replace q2 := kept_cell hSw q2; replace q3 := kept_cell hSw q3; go_simp; try with_reducible rfl)
        try simp only [Act.put, List.setIfInBounds_toArray, List.set_cons_zero, List.set_cons_succ]
        refine x_take (i := 5) (oi := { dst := some 45, op := Op.fieldAddr 25 (Operand.tmp 1) 1, type := 0, pos := "tree.go:26", after := #[], guard := none }) (v := ?_) rfl (by kernel_rfl) (by kernel_rfl) (by kernel_rfl) (by kernel_rfl) (by kernel_rfl) (fun _ _ _ h => h) (Or.inl ⟨rfl, ?_⟩) (by assumption) ?_
        rotate_left
        · (intro w' hSw; replace q0 := kept_cell hSw q0; replace q1 := kept_cell hSw q1; replace q2 := kept_cell hSw q2; replace q3 := kept_cell hSw q3; go_simp; try with_reducible rfl)
        try simp only [Act.put, List.setIfInBounds_toArray, List.set_cons_zero, List.set_cons_succ]
        refine x_take (i := 6) (oi := { dst := some 46, op := Op.load 3 (Operand.tmp 45), type := 3, pos := "tree.go:26", after := #[{ on := 5, ground := Ground.data }], guard := none }) (v := ?_) rfl (by kernel_rfl) (by kernel_rfl) (by kernel_rfl) (by kernel_rfl) (by kernel_rfl) (fun _ _ _ h => h) (Or.inl ⟨rfl, ?_⟩) (by assumption) ?_
        rotate_left
        · (intro w' hSw; replace q0 := kept_cell hSw q0; replace q1 := kept_cell hSw q1; replace q2 := kept_cell hSw q2; replace q3 := kept_cell hSw q3; go_simp; try with_reducible rfl)
        try simp only [Act.put, List.setIfInBounds_toArray, List.set_cons_zero, List.set_cons_succ]
        refine x_one (i := 7) (o := { dst := some 47, op := Op.call { callee := Callee.value (Operand.func 39), args := #[Operand.tmp 40, Operand.tmp 44, Operand.tmp 46], argTypes := #[22, 3, 3] }, type := 4, pos := "tree.go:26", after := #[{ on := 0, ground := Ground.data }, { on := 4, ground := Ground.data }, { on := 6, ground := Ground.data }], guard := none }) (by kernel_rfl) rfl (fun K hK => ?_)
        (go_simp; go_at_call 39; (with_reducible refine (C39.out _ _ L _ _ (Rd.kept R1.out hHeld) l1).mono ?_); rintro e w50 ⟨rfl, k9⟩; have KK9 : Kept wr w50 := kept_trans hHeld k9; rw [c8]; try dsimp only)
        refine hK.out _ _ ?_ (fun hHeld => ?_)
        · (try dsimp only); repeat (first | assumption | exact kept_refl _ | refine kept_drew ?_ | refine kept_alloc ?_ _ | refine kept_set ?_ (by omega) _)
        clear hK K
        try simp only [Act.put, List.setIfInBounds_toArray, List.set_cons_zero, List.set_cons_succ]
        refine x_take (i := 8) (oi := { dst := some 48, op := Op.unOp UnOp.not 4 (Operand.tmp 47), type := 4, pos := "tree.go:26", after := #[{ on := 7, ground := Ground.data }], guard := none }) (v := ?_) rfl (by kernel_rfl) (by kernel_rfl) (by kernel_rfl) (by kernel_rfl) (by kernel_rfl) (fun _ _ _ h => h) (Or.inl ⟨rfl, ?_⟩) (by assumption) ?_
        rotate_left
        · (intro w' hSw; replace q0 := kept_cell hSw q0; replace q1 := kept_cell hSw q1; replace q2 := kept_cell hSw q2; replace q3 := kept_cell hSw q3; go_simp; try with_reducible rfl)
        try simp only [Act.put, List.setIfInBounds_toArray, List.set_cons_zero, List.set_cons_succ]
        refine x_done (by kernel_rfl) ?_ _
        go_wp2_with fail
        go_roundg (tb.length - (k + 1))
        case rel => exact ⟨k + 1, by omega, fun j h => by rcases Nat.lt_succ_iff_lt_or_eq.1 h with h | rfl; exact HJ.out j h; rw [← HL.out]; exact c8, rfl, by go_num, kept_trans k1 KK9⟩
        case measure => omega
      · have c9 : vOk L M bn = false := by simpa using c8
        go_wp2_with fail
        refine region_x (fun w' => Kept wr w') [] (by kernel_rfl) (kept_drew (kept_refl _)) (fun hHeld => ?_)
        refine x_take (i := 0) (oi := { dst := some 40, op := Op.move (Operand.tmp 4), type := 22, pos := "tree.go:26", after := #[], guard := none }) (v := ?_) rfl (by kernel_rfl) (by kernel_rfl) (by kernel_rfl) (by kernel_rfl) (by kernel_rfl) (fun _ _ _ h => h) (Or.inl ⟨rfl, ?_⟩) (by assumption) ?_
        rotate_left
        · (intro w' hSw; replace q0 := kept_cell hSw q0; replace q1 := kept_cell hSw q1; replace q2 := kept_cell hSw q2; replace q3 := kept_cell hSw q3; go_simp; try with_reducible rfl)
        try simp only [Act.put, List.setIfInBounds_toArray, List.set_cons_zero, List.set_cons_succ]
        refine x_take (i := 1) (oi := { dst := some 41, op := Op.fieldAddr 25 (Operand.tmp 1) 1, type := 0, pos := "tree.go:26", after := #[], guard := none }) (v := ?_) rfl (by kernel_rfl) (by kernel_rfl) (by kernel_rfl) (by kernel_rfl) (by kernel_rfl) (fun _ _ _ h => h) (Or.inl ⟨rfl, ?_⟩) (by assumption) ?_
        rotate_left
        · (intro w' hSw; replace q0 := kept_cell hSw q0; replace q1 := kept_cell hSw q1; replace q2 := kept_cell hSw q2; replace q3 := kept_cell hSw q3; go_simp; try with_reducible rfl)
        try simp only [Act.put, List.setIfInBounds_toArray, List.set_cons_zero, List.set_cons_succ]
        refine x_take (i := 2) (oi := { dst := some 42, op := Op.load 3 (Operand.tmp 41), type := 3, pos := "tree.go:26", after := #[{ on := 1, ground := Ground.data }], guard := none }) (v := ?_) rfl (by kernel_rfl) (by kernel_rfl) (by kernel_rfl) (by kernel_rfl) (by kernel_rfl) (fun _ _ _ h => h) (Or.inl ⟨rfl, ?_⟩) (by assumption) ?_
        rotate_left
        · (intro w' hSw; replace q0 := kept_cell hSw q0; replace q1 := kept_cell hSw q1; replace q2 := kept_cell hSw q2; replace q3 := kept_cell hSw q3; go_simp; try with_reducible rfl)
        try simp only [Act.put, List.setIfInBounds_toArray, List.set_cons_zero, List.set_cons_succ]
        refine x_take (i := 3) (oi := { dst := some 43, op := Op.binOp BinOp.mul 3 (Operand.const (Value.int IntKind.i64 2)) (Operand.tmp 42) 3, type := 3, pos := "tree.go:26", after := #[{ on := 2, ground := Ground.data }], guard := none }) (v := ?_) rfl (by kernel_rfl) (by kernel_rfl) (by kernel_rfl) (by kernel_rfl) (by kernel_rfl) (fun _ _ _ h => h) (Or.inl ⟨rfl, ?_⟩) (by assumption) ?_
        rotate_left
        · (intro w' hSw; replace q0 := kept_cell hSw q0; replace q1 := kept_cell hSw q1; replace q2 := kept_cell hSw q2; replace q3 := kept_cell hSw q3; go_simp; try with_reducible rfl)
        try simp only [Act.put, List.setIfInBounds_toArray, List.set_cons_zero, List.set_cons_succ]
        refine x_take (i := 4) (oi := { dst := some 44, op := Op.binOp BinOp.shl 3 (Operand.const (Value.int IntKind.i64 1)) (Operand.tmp 43) 3, type := 3, pos := "tree.go:26", after := #[{ on := 3, ground := Ground.data }], guard := none }) (v := ?_) rfl (by kernel_rfl) (by kernel_rfl) (by kernel_rfl) (by kernel_rfl) (by kernel_rfl) (fun _ _ _ h => h) (Or.inl ⟨rfl, ?_⟩) (by assumption) ?_
        rotate_left
        · (intro w' hSw; replace q0 := kept_cell hSw q0; replace q1 := kept_cell hSw q1; replace q2 := kept_cell hSw q2; replace q3 := kept_cell hSw q3; go_simp; try with_reducible rfl)
        try simp only [Act.put, List.setIfInBounds_toArray, List.set_cons_zero, List.set_cons_succ]
        refine x_take (i := 5) (oi := { dst := some 45, op := Op.fieldAddr 25 (Operand.tmp 1) 1, type := 0, pos := "tree.go:26", after := #[], guard := none }) (v := ?_) rfl (by kernel_rfl) (by kernel_rfl) (by kernel_rfl) (by kernel_rfl) (by kernel_rfl) (fun _ _ _ h => h) (Or.inl ⟨rfl, ?_⟩) (by assumption) ?_
        rotate_left
        · (intro w' hSw; replace q0 := kept_cell hSw q0; replace q1 := kept_cell hSw q1; replace q2 := kept_cell hSw q2; replace q3 := kept_cell hSw q3; go_simp; try with_reducible rfl)
        try simp only [Act.put, List.setIfInBounds_toArray, List.set_cons_zero, List.set_cons_succ]
        refine x_take (i := 6) (oi := { dst := some 46, op := Op.load 3 (Operand.tmp 45), type := 3, pos := "tree.go:26", after := #[{ on := 5, ground := Ground.data }], guard := none }) (v := ?_) rfl (by kernel_rfl) (by kernel_rfl) (by kernel_rfl) (by kernel_rfl) (by kernel_rfl) (fun _ _ _ h => h) (Or.inl ⟨rfl, ?_⟩) (by assumption) ?_
        rotate_left
        · (intro w' hSw; replace q0 := kept_cell hSw q0; replace q1 := kept_cell hSw q1; replace q2 := kept_cell hSw q2; replace q3 := kept_cell hSw q3; go_simp; try with_reducible rfl)
        try simp only [Act.put, List.setIfInBounds_toArray, List.set_cons_zero, List.set_cons_succ]
        refine x_one (i := 7) (o := { dst := some 47, op := Op.call { callee := Callee.value (Operand.func 39), args := #[Operand.tmp 40, Operand.tmp 44, Operand.tmp 46], argTypes := #[22, 3, 3] }, type := 4, pos := "tree.go:26", after := #[{ on := 0, ground := Ground.data }, { on := 4, ground := Ground.data }, { on := 6, ground := Ground.data }], guard := none }) (by kernel_rfl) rfl (fun K hK => ?_)
        (go_simp; go_at_call 39; (with_reducible refine (C39.out _ _ L _ _ (Rd.kept R1.out hHeld) l1).mono ?_); rintro e w50 ⟨rfl, k9⟩; have KK9 : Kept wr w50 := kept_trans hHeld k9; rw [c9]; try dsimp only)
        refine hK.out _ _ ?_ (fun hHeld => ?_)
        · (try dsimp only); repeat (first | assumption | exact kept_refl _ | refine kept_drew ?_ | refine kept_alloc ?_ _ | refine kept_set ?_ (by omega) _)
        clear hK K
        try simp only [Act.put, List.setIfInBounds_toArray, List.set_cons_zero, List.set_cons_succ]
        refine x_take (i := 8) (oi := { dst := some 48, op := Op.unOp UnOp.not 4 (Operand.tmp 47), type := 4, pos := "tree.go:26", after := #[{ on := 7, ground := Ground.data }], guard := none }) (v := ?_) rfl (by kernel_rfl) (by kernel_rfl) (by kernel_rfl) (by kernel_rfl) (by kernel_rfl) (fun _ _ _ h => h) (Or.inl ⟨rfl, ?_⟩) (by assumption) ?_
        rotate_left
        · (intro w' hSw; replace q0 := kept_cell hSw q0; replace q1 := kept_cell hSw q1; replace q2 := kept_cell hSw q2; replace q3 := kept_cell hSw q3; go_simp; try with_reducible rfl)
        try simp only [Act.put, List.setIfInBounds_toArray, List.set_cons_zero, List.set_cons_succ]
        refine x_done (by kernel_rfl) ?_ _
        go_wp2_with fail
        go_ret
        exact ⟨ret_bool (by symm; rw [HV.out, Bool.eq_false_iff]; intro hv; have g := good_of hv; have G := g.tv (tb.getD k []) (getD_mem hlt); have G2 := g.tw (tb.getD k []) (getD_mem hlt); rw [← HL.out] at G G2; exact c8 (vOk_iff.2 ⟨by rw [G2]; exact congrArg Nat.cast HMP.out, valsOk_iff.2 G⟩)), kept_trans K0 (kept_trans k1 KK9)⟩
    · have : k = tb.length := by omega
      subst this
      have w1b : IntKind.i64.wrap (2 ^ hn) = (N : Int) := by have := HNP.out; unfold pw at this; rw [Int.toNat_natCast] at this; rw [show (2 : Int) ^ hn = (N : Int) by rw [← this]; simp]; exact iw_nat (by omega)
      have w1c : IntKind.i64.wrap (2 ^ min hn 64) = (N : Int) := by rw [Nat.min_eq_left (by omega)]; exact w1b
      have RA := Lib.hid (Rd.kept HA.out (kept_trans K0 k1))
      obtain ⟨V2, hV2⟩ : ∃ V2, V2 = vOk lv N bn := ⟨_, rfl⟩
      have HC := Lib.hid fun (w' : World) (hk : Kept wr w') => show Calls Tryd.prog 39 #[.slice A lv.length c, .int .i64 (N : Int), .int .i64 bn] w' fun e w'' => e = .returned (.bool V2) ∧ Kept w' w'' from by rw [hV2]; exact C39.out A c lv N w' (RA.out.kept hk) hl
      have HV2 := Lib.hid hV2; clear hV2
      go_wp2_with fail
      refine region_x (fun w' => Kept wr w') [] (by kernel_rfl) (kept_drew (kept_refl _)) (fun hHeld => ?_)
      refine x_take (i := 0) (oi := { dst := some 50, op := Op.fieldAddr 25 (Operand.tmp 1) 2, type := 0, pos := "tree.go:30", after := #[], guard := none }) (v := ?_) rfl (by kernel_rfl) (by kernel_rfl) (by kernel_rfl) (by kernel_rfl) (by kernel_rfl) (fun _ _ _ h => h) (Or.inl ⟨rfl, ?_⟩) (by assumption) ?_
      rotate_left
      · (intro w' hSw; replace q0 := kept_cell hSw q0; replace q1 := kept_cell hSw q1; replace q2 := kept_cell hSw q2; replace q3 := kept_cell hSw q3; go_simp; try with_reducible rfl)
      try simp only [Act.put, List.setIfInBounds_toArray, List.set_cons_zero, List.set_cons_succ]
      refine x_take (i := 1) (oi := { dst := some 51, op := Op.load 22 (Operand.tmp 50), type := 22, pos := "tree.go:30", after := #[{ on := 0, ground := Ground.data }], guard := none }) (v := ?_) rfl (by kernel_rfl) (by kernel_rfl) (by kernel_rfl) (by kernel_rfl) (by kernel_rfl) (fun _ _ _ h => h) (Or.inl ⟨rfl, ?_⟩) (by assumption) ?_
      rotate_left
      · (intro w' hSw; replace q0 := kept_cell hSw q0; replace q1 := kept_cell hSw q1; replace q2 := kept_cell hSw q2; replace q3 := kept_cell hSw q3; go_simp; try with_reducible rfl)
      try simp only [Act.put, List.setIfInBounds_toArray, List.set_cons_zero, List.set_cons_succ]
      refine x_take (i := 2) (oi := { dst := some 52, op := Op.fieldAddr 25 (Operand.tmp 1) 0, type := 0, pos := "tree.go:30", after := #[], guard := none }) (v := ?_) rfl (by kernel_rfl) (by kernel_rfl) (by kernel_rfl) (by kernel_rfl) (by kernel_rfl) (fun _ _ _ h => h) (Or.inl ⟨rfl, ?_⟩) (by assumption) ?_
      rotate_left
      · (intro w' hSw; replace q0 := kept_cell hSw q0; replace q1 := kept_cell hSw q1; replace q2 := kept_cell hSw q2; replace q3 := kept_cell hSw q3; go_simp; try with_reducible rfl)
      try simp only [Act.put, List.setIfInBounds_toArray, List.set_cons_zero, List.set_cons_succ]
      refine x_take (i := 3) (oi := { dst := some 53, op := Op.load 3 (Operand.tmp 52), type := 3, pos := "tree.go:30", after := #[{ on := 2, ground := Ground.data }], guard := none }) (v := ?_) rfl (by kernel_rfl) (by kernel_rfl) (by kernel_rfl) (by kernel_rfl) (by kernel_rfl) (fun _ _ _ h => h) (Or.inl ⟨rfl, ?_⟩) (by assumption) ?_
      rotate_left
      · (intro w' hSw; replace q0 := kept_cell hSw q0; replace q1 := kept_cell hSw q1; replace q2 := kept_cell hSw q2; replace q3 := kept_cell hSw q3; go_simp; try with_reducible rfl)
      try simp only [Act.put, List.setIfInBounds_toArray, List.set_cons_zero, List.set_cons_succ]
      refine x_take (i := 4) (oi := { dst := some 54, op := Op.binOp BinOp.shl 3 (Operand.const (Value.int IntKind.i64 1)) (Operand.tmp 53) 3, type := 3, pos := "tree.go:30", after := #[{ on := 3, ground := Ground.data }], guard := none }) (v := ?_) rfl (by kernel_rfl) (by kernel_rfl) (by kernel_rfl) (by kernel_rfl) (by kernel_rfl) (fun _ _ _ h => h) (Or.inl ⟨rfl, ?_⟩) (by assumption) ?_
      rotate_left
      · (intro w' hSw; replace q0 := kept_cell hSw q0; replace q1 := kept_cell hSw q1; replace q2 := kept_cell hSw q2; replace q3 := kept_cell hSw q3; go_simp; try with_reducible rfl)
      try simp only [Act.put, List.setIfInBounds_toArray, List.set_cons_zero, List.set_cons_succ]
      refine x_take (i := 5) (oi := { dst := some 55, op := Op.fieldAddr 25 (Operand.tmp 1) 1, type := 0, pos := "tree.go:30", after := #[], guard := none }) (v := ?_) rfl (by kernel_rfl) (by kernel_rfl) (by kernel_rfl) (by kernel_rfl) (by kernel_rfl) (fun _ _ _ h => h) (Or.inl ⟨rfl, ?_⟩) (by assumption) ?_
      rotate_left
      · (intro w' hSw; replace q0 := kept_cell hSw q0; replace q1 := kept_cell hSw q1; replace q2 := kept_cell hSw q2; replace q3 := kept_cell hSw q3; go_simp; try with_reducible rfl)
      try simp only [Act.put, List.setIfInBounds_toArray, List.set_cons_zero, List.set_cons_succ]
      refine x_take (i := 6) (oi := { dst := some 56, op := Op.load 3 (Operand.tmp 55), type := 3, pos := "tree.go:30", after := #[{ on := 5, ground := Ground.data }], guard := none }) (v := ?_) rfl (by kernel_rfl) (by kernel_rfl) (by kernel_rfl) (by kernel_rfl) (by kernel_rfl) (fun _ _ _ h => h) (Or.inl ⟨rfl, ?_⟩) (by assumption) ?_
      rotate_left
      · (intro w' hSw; replace q0 := kept_cell hSw q0; replace q1 := kept_cell hSw q1; replace q2 := kept_cell hSw q2; replace q3 := kept_cell hSw q3; go_simp; try with_reducible rfl)
      try simp only [Act.put, List.setIfInBounds_toArray, List.set_cons_zero, List.set_cons_succ]
      refine x_one (i := 7) (o := { dst := some 57, op := Op.call { callee := Callee.value (Operand.func 39), args := #[Operand.tmp 51, Operand.tmp 54, Operand.tmp 56], argTypes := #[22, 3, 3] }, type := 4, pos := "tree.go:30", after := #[{ on := 1, ground := Ground.data }, { on := 4, ground := Ground.data }, { on := 6, ground := Ground.data }], guard := none }) (by kernel_rfl) rfl (fun K hK => ?_)
      (go_simp; go_at_call 39; (with_reducible refine (HC.out _ hHeld).mono ?_); rintro e w50 ⟨rfl, k9⟩; have KK9 : Kept wr w50 := kept_trans hHeld k9; try dsimp only)
      refine hK.out _ _ ?_ (fun hHeld => ?_)
      · (try dsimp only); repeat (first | assumption | exact kept_refl _ | refine kept_drew ?_ | refine kept_alloc ?_ _ | refine kept_set ?_ (by omega) _)
      clear hK K
      try simp only [Act.put, List.setIfInBounds_toArray, List.set_cons_zero, List.set_cons_succ]
      refine x_take (i := 8) (oi := { dst := some 2, op := Op.assign (Operand.tmp 57), type := 4, pos := "tree.go:30", after := #[{ on := 7, ground := Ground.data }, { on := 7, ground := Ground.chain }, { on := 0, ground := Ground.phase }, { on := 1, ground := Ground.phase }, { on := 2, ground := Ground.phase }, { on := 3, ground := Ground.phase }, { on := 4, ground := Ground.phase }, { on := 5, ground := Ground.phase }, { on := 6, ground := Ground.phase }, { on := 7, ground := Ground.phase }], guard := none }) (v := ?_) rfl (by kernel_rfl) (by kernel_rfl) (by kernel_rfl) (by kernel_rfl) (by kernel_rfl) (fun _ _ _ h => h) (Or.inl ⟨rfl, ?_⟩) (by assumption) ?_
      rotate_left
      · (intro w' hSw; replace q0 := kept_cell hSw q0; replace q1 := kept_cell hSw q1; replace q2 := kept_cell hSw q2; replace q3 := kept_cell hSw q3; go_simp; try with_reducible rfl)
      try simp only [Act.put, List.setIfInBounds_toArray, List.set_cons_zero, List.set_cons_succ]
      refine x_done (by kernel_rfl) ?_ _
      go_wp2_with fail
      go_ret
      refine ⟨ret_bool ?_, kept_trans K0 (kept_trans k1 KK9)⟩
      rw [HV2.out, HV.out, Bool.eq_iff_iff, vOk_iff]
      constructor
      · rintro ⟨hvl, hv⟩
        refine Good.valid ⟨?_, ?_, ?_, ?_, ?_, fun x hx => ?_, fun x hx => ?_, ?_, valsOk_iff.1 hv⟩
        · show (0 : Int) ≤ (hn : Int); omega
        · show (hn : Int) ≤ 6; omega
        · show (1 : Int) ≤ (bn : Int); omega
        · show (bn : Int) ≤ 6; omega
        · show tb.length = pw (hn : Int) - 1
          have := HC6.out; have := HNP.out; omega
        · obtain ⟨j, hj, e⟩ := mem_getD (d := []) hx
          have := (vOk_iff.1 (HJ.out j hj)).1
          rw [← e]
          show (tb.getD j []).length = pw (2 * (bn : Int))
          rw [HMP.out]; omega
        · obtain ⟨j, hj, e⟩ := mem_getD (d := []) hx
          rw [← e]; exact valsOk_iff.1 (vOk_iff.1 (HJ.out j hj)).2
        · show lv.length = pw (hn : Int)
          have := HNP.out; omega
      · intro hv
        have g := good_of hv
        have G : lv.length = pw (hn : Int) := g.ll
        exact ⟨by rw [G, HNP.out], valsOk_iff.2 g.lv⟩
end Go.Proofs.YtikfeemmjfoffaaDoor
