/- Two programs with the same values are alike. -/
import Derived.Test.YtinpmdekdfgiiaaE6
set_option linter.unusedVariables false
set_option linter.unusedSimpArgs false
namespace Go.Proofs.Ytinpmdekdfgiiaa
open Go.RowKit

/-- The value of a program at a point, asked of the reference. -/
theorem rrun_pt (n : Nat) (s : Int) (A : Option Addr) (c : Nat) (l : List Nd) (g a : Nat) (w : World) (hr : RN w A l) (hv : validB n s l = true) (o : Own w g 4 (bools (ptB n a))) :
    Calls Try.prog 28 #[.agg #[.int .i64 n, .int .i64 s, .slice A l.length c], .slice (some ⟨g, 0, none⟩) n n] w fun e w' => ∃ v, e = .returned (.tuple #[.bool (runB s l a.testBit), v]) ∧ Kept w w' :=
  (rrun_any n s A c l _ n n (ptB n a) w hr hv o.rd (by simp) rfl).mono fun e w' ⟨v, he, _, k⟩ => ⟨v, by rw [he, runB_pt hv (n := n) (a := a) rfl], k⟩

set_option maxRecDepth 100000 in
set_option maxHeartbeats 1000000 in
theorem alike_any (n : Nat) (s s' : Int) (A A' : Option Addr) (c c' : Nat) (l l' : List Nd) (more : Int) (w : World) (hr : RN w A l) (hr' : RN w A' l') (hv : validB n s l = true) (hv' : validB n s' l' = true) (hall : ∀ x, runB s' l' x = runB s l x) (hm0 : 0 ≤ more) (hm1 : more ≤ 65535) :
    Calls Try.prog 43 #[.agg #[.int .i64 n, .int .i64 s, .slice A l.length c], .agg #[.int .i64 n, .int .i64 s', .slice A' l'.length c'], .int .u16 more] w fun e w' => e = .returned (.bool true) ∧ Kept w w' := by
  obtain ⟨hi0, hi1, hln, hs⟩ := valid_start hv
  have hn16 : n ≤ 16 := by omega
  have hN : 2 ^ n ≤ 65536 := Nat.pow_le_pow_right (n := 2) (by omega) hn16
  have hw := shl_wrap n hn16
  have C38 := Lib.hid fun (a : Nat) (h : a < 1000000) (w' : World) => point_any n a w' hn16 h
  have R1 := Lib.hid fun (g a : Nat) (w' : World) (k : Kept w w') (o : Own w' g 4 (bools (ptB n a))) => rrun_pt n s A c l g a w' (hr.kept k) hv o
  have R2 := fun (g a : Nat) (w' : World) (k : Kept w w') (o : Own w' g 4 (bools (ptB n a))) => rrun_pt n s' A' c' l' g a w' (hr'.kept k) hv' o
  simp only [hall] at R2
  replace R2 := Lib.hid R2
  have HV := Lib.hid hv; have HV' := Lib.hid hv'
  clear hr hr' hv hv' hall hs hi0 hi1
  have o0 := (Own.new w 24 [.int .i64 n, .int .i64 s, .slice A l.length c]).alloc (.cells #[.int .i64 n, .int .i64 s', .slice A' l'.length c'] 24)
  have o1 := Own.new (w.alloc (.cells #[.int .i64 n, .int .i64 s, .slice A l.length c] 24)) 24 [.int .i64 n, .int .i64 s', .slice A' l'.length c']
  have K0 := kept_alloc (kept_alloc (kept_refl w) (.cells #[.int .i64 n, .int .i64 s, .slice A l.length c] 24)) (.cells #[.int .i64 n, .int .i64 s', .slice A' l'.length c'] 24)
  simp only [World.size_alloc] at o1
  obtain ⟨N, hNe⟩ : ∃ N, N = 2 ^ n := ⟨_, rfl⟩
  rw [← hNe] at hw hN
  have HNE := Lib.hid hNe; clear hNe
  go_enter Try.func43, Try.ntmps43
  go_wp2_with fail
  go_loopg [7] N (fun g' s7 wr => ∃ i : Nat, i ≤ N ∧ g' = N - i ∧ s7 = .int .i64 i ∧ Own wr w.heap.size 24 [.int .i64 n, .int .i64 s, .slice A l.length c] ∧ Own wr (w.heap.size + 1) 24 [.int .i64 n, .int .i64 s', .slice A' l'.length c'] ∧ Kept w wr)
  case atStart => exact ⟨0, by omega, rfl, rfl, o0, o1, K0⟩
  case round =>
    clear o0 o1 K0
    obtain ⟨i, hi, rfl, rfl, o0, o1, K0⟩ := hrel
    have q0 := o0.cell (j := 0) rfl
    have q1 := o0.cell (j := 1) rfl
    have q2 := o0.cell (j := 2) rfl
    have p0 := o1.cell (j := 0) rfl
    have p1 := o1.cell (j := 1) rfl
    have p2 := o1.cell (j := 2) rfl
    have g0 : (0 : Int) ≤ (i : Int) := by omega
    have g1 : (i : Int) ≤ 65536 := by omega
    by_cases hlt : i < N ∧ (n ≤ 10 ∨ i < 64)
    · obtain ⟨hlt, hor⟩ := hlt
      have b1 : decide ((i : Int) < (N : Int)) = true := decide_eq_true (by omega)
      have b2 : decide (i < N) = true := decide_eq_true (by omega)
      by_cases h10 : n ≤ 10
      · have b3 : decide ((n : Int) ≤ 10) = true := decide_eq_true (by omega)
        have b4 : decide (n ≤ 10) = true := decide_eq_true (by omega)
        clear hor
        go_wp2_with fail
        refine (C38.out i (by omega) _).mono ?_
        rintro e w11 ⟨rfl, oP, k⟩
        replace K0 := kept_trans K0 k; replace o0 := o0.kept k; replace o1 := o1.kept k
        clear q0 q1 q2 p0 p1 p2 k
        have q0 := o0.cell (j := 0) rfl
        have q1 := o0.cell (j := 1) rfl
        have q2 := o0.cell (j := 2) rfl
        have p0 := o1.cell (j := 0) rfl
        have p1 := o1.cell (j := 1) rfl
        have p2 := o1.cell (j := 2) rfl
        go_wp2_with fail
        refine (R1.out _ (i) _ K0 oP).mono ?_
        rintro e w12 ⟨v11, rfl, k⟩
        replace K0 := kept_trans K0 k; replace o0 := o0.kept k; replace o1 := o1.kept k; replace oP := oP.kept k
        clear q0 q1 q2 p0 p1 p2 k
        have q0 := o0.cell (j := 0) rfl
        have q1 := o0.cell (j := 1) rfl
        have q2 := o0.cell (j := 2) rfl
        have p0 := o1.cell (j := 0) rfl
        have p1 := o1.cell (j := 1) rfl
        have p2 := o1.cell (j := 2) rfl
        go_wp2_with fail
        refine (R2.out _ (i) _ K0 oP).mono ?_
        rintro e w13 ⟨v12, rfl, k⟩
        replace K0 := kept_trans K0 k; replace o0 := o0.kept k; replace o1 := o1.kept k; replace oP := oP.kept k
        clear q0 q1 q2 p0 p1 p2 k
        have q0 := o0.cell (j := 0) rfl
        have q1 := o0.cell (j := 1) rfl
        have q2 := o0.cell (j := 2) rfl
        have p0 := o1.cell (j := 0) rfl
        have p1 := o1.cell (j := 1) rfl
        have p2 := o1.cell (j := 2) rfl
        go_wp2_with fail
        go_roundg (N - (i + 1))
        case rel => exact ⟨i + 1, by omega, rfl, by go_num, o0, o1, K0⟩
        case measure => omega
      · have b3 : decide ((n : Int) ≤ 10) = false := decide_eq_false (by omega)
        have b4 : decide (n ≤ 10) = false := decide_eq_false (by omega)
        have h64 : i < 64 := by omega
        have b5 : decide ((i : Int) < 64) = true := decide_eq_true (by omega)
        have b6 : decide (i < 64) = true := decide_eq_true (by omega)
        clear hor
        have hN0 : N ≠ 0 := by omega
        have m1 : IntKind.i64.wrap ((i : Int) * 2654435761) = (i : Int) * 2654435761 := IntWalk.i64_in _ (by omega)
        have m2 : IntKind.i64.wrap (2 ^ n) = (N : Int) := by
          have e : ((2 : Int) ^ n) = (N : Int) := by rw [HNE.out]; simp
          rw [e]
          exact IntWalk.i64_in _ (by omega)
        have hNi : ((N : Int) = 0) = False := eq_false (by omega)
        have m3 : ((i : Int) * 2654435761).tmod (N : Int) = ((i * 2654435761 % N : Nat) : Int) := by
          rw [Int.tmod_eq_emod_of_nonneg (by omega)]
          simp
        have ha : i * 2654435761 % N < 1000000 := Nat.lt_of_lt_of_le (Nat.mod_lt _ (by omega)) (by omega)
        obtain ⟨av, hav⟩ : ∃ a, a = i * 2654435761 % N := ⟨_, rfl⟩
        rw [← hav] at m3 ha
        clear hav
        go_wp2_with fail
        refine (C38.out i (by omega) _).mono ?_
        rintro e w14 ⟨rfl, oP0, k⟩
        replace K0 := kept_trans K0 k; replace o0 := o0.kept k; replace o1 := o1.kept k
        clear q0 q1 q2 p0 p1 p2 k
        have q0 := o0.cell (j := 0) rfl
        have q1 := o0.cell (j := 1) rfl
        have q2 := o0.cell (j := 2) rfl
        have p0 := o1.cell (j := 0) rfl
        have p1 := o1.cell (j := 1) rfl
        have p2 := o1.cell (j := 2) rfl
        go_wp2_with fail
        refine region_x (fun w' => Kept w14 w') [] (by kernel_rfl) (kept_drew (kept_refl _)) (fun hHeld => ?_)
        refine x_take (i := 0) (oi := { dst := some 41, op := Op.fieldAddr 24 (Operand.tmp 3) 0, type := 0, pos := "law.go:34", after := #[], guard := none }) (v := ?_) rfl (by kernel_rfl) (by kernel_rfl) (by kernel_rfl) (by kernel_rfl) (by kernel_rfl) (fun _ _ _ h => h) (Or.inl ⟨rfl, ?_⟩) (by assumption) ?_
        rotate_left
        · (intro w' hSw; replace q0 := kept_cell hSw q0; go_simp; try with_reducible rfl)
        try simp only [Act.put, List.setIfInBounds_toArray, List.set_cons_zero, List.set_cons_succ]
        refine x_take (i := 1) (oi := { dst := some 42, op := Op.load 3 (Operand.tmp 41), type := 3, pos := "law.go:34", after := #[{ on := 0, ground := Ground.data }], guard := none }) (v := ?_) rfl (by kernel_rfl) (by kernel_rfl) (by kernel_rfl) (by kernel_rfl) (by kernel_rfl) (fun _ _ _ h => h) (Or.inl ⟨rfl, ?_⟩) (by assumption) ?_
        rotate_left
        · (intro w' hSw; replace q0 := kept_cell hSw q0; go_simp; try with_reducible rfl)
        try simp only [Act.put, List.setIfInBounds_toArray, List.set_cons_zero, List.set_cons_succ]
        refine x_take (i := 2) (oi := { dst := some 43, op := Op.move (Operand.tmp 7), type := 3, pos := "law.go:34", after := #[], guard := none }) (v := ?_) rfl (by kernel_rfl) (by kernel_rfl) (by kernel_rfl) (by kernel_rfl) (by kernel_rfl) (fun _ _ _ h => h) (Or.inl ⟨rfl, ?_⟩) (by assumption) ?_
        rotate_left
        · (intro w' hSw; replace q0 := kept_cell hSw q0; go_simp; try with_reducible rfl)
        try simp only [Act.put, List.setIfInBounds_toArray, List.set_cons_zero, List.set_cons_succ]
        refine x_take (i := 3) (oi := { dst := some 44, op := Op.binOp BinOp.mul 3 (Operand.tmp 43) (Operand.const (Value.int IntKind.i64 2654435761)) 3, type := 3, pos := "law.go:34", after := #[{ on := 2, ground := Ground.data }], guard := none }) (v := ?_) rfl (by kernel_rfl) (by kernel_rfl) (by kernel_rfl) (by kernel_rfl) (by kernel_rfl) (fun _ _ _ h => h) (Or.inl ⟨rfl, ?_⟩) (by assumption) ?_
        rotate_left
        · (intro w' hSw; replace q0 := kept_cell hSw q0; go_simp; try with_reducible rfl)
        try simp only [Act.put, List.setIfInBounds_toArray, List.set_cons_zero, List.set_cons_succ]
        refine x_take (i := 4) (oi := { dst := some 45, op := Op.fieldAddr 24 (Operand.tmp 3) 0, type := 0, pos := "law.go:34", after := #[], guard := none }) (v := ?_) rfl (by kernel_rfl) (by kernel_rfl) (by kernel_rfl) (by kernel_rfl) (by kernel_rfl) (fun _ _ _ h => h) (Or.inl ⟨rfl, ?_⟩) (by assumption) ?_
        rotate_left
        · (intro w' hSw; replace q0 := kept_cell hSw q0; go_simp; try with_reducible rfl)
        try simp only [Act.put, List.setIfInBounds_toArray, List.set_cons_zero, List.set_cons_succ]
        refine x_take (i := 5) (oi := { dst := some 46, op := Op.load 3 (Operand.tmp 45), type := 3, pos := "law.go:34", after := #[{ on := 4, ground := Ground.data }], guard := none }) (v := ?_) rfl (by kernel_rfl) (by kernel_rfl) (by kernel_rfl) (by kernel_rfl) (by kernel_rfl) (fun _ _ _ h => h) (Or.inl ⟨rfl, ?_⟩) (by assumption) ?_
        rotate_left
        · (intro w' hSw; replace q0 := kept_cell hSw q0; go_simp; try with_reducible rfl)
        try simp only [Act.put, List.setIfInBounds_toArray, List.set_cons_zero, List.set_cons_succ]
        refine x_take (i := 6) (oi := { dst := some 47, op := Op.binOp BinOp.shl 3 (Operand.const (Value.int IntKind.i64 1)) (Operand.tmp 46) 3, type := 3, pos := "law.go:34", after := #[{ on := 5, ground := Ground.data }], guard := none }) (v := ?_) rfl (by kernel_rfl) (by kernel_rfl) (by kernel_rfl) (by kernel_rfl) (by kernel_rfl) (fun _ _ _ h => h) (Or.inl ⟨rfl, ?_⟩) (by assumption) ?_
        rotate_left
        · (intro w' hSw; replace q0 := kept_cell hSw q0; go_simp; try with_reducible rfl)
        try simp only [Act.put, List.setIfInBounds_toArray, List.set_cons_zero, List.set_cons_succ]
        refine x_take (i := 7) (oi := { dst := some 48, op := Op.binOp BinOp.rem 3 (Operand.tmp 44) (Operand.tmp 47) 3, type := 3, pos := "law.go:34", after := #[{ on := 3, ground := Ground.data }, { on := 6, ground := Ground.data }], guard := none }) (v := ?_) rfl (by kernel_rfl) (by kernel_rfl) (by kernel_rfl) (by kernel_rfl) (by kernel_rfl) (fun _ _ _ h => h) (Or.inl ⟨rfl, ?_⟩) (by assumption) ?_
        rotate_left
        · (intro w' hSw; replace q0 := kept_cell hSw q0; go_simp; try with_reducible rfl)
        try simp only [Act.put, List.setIfInBounds_toArray, List.set_cons_zero, List.set_cons_succ]
        refine x_one (i := 8) (o := { dst := some 49, op := Op.call { callee := Callee.value (Operand.func 38), args := #[Operand.tmp 42, Operand.tmp 48], argTypes := #[3, 3] }, type := 29, pos := "law.go:34", after := #[{ on := 1, ground := Ground.data }, { on := 7, ground := Ground.data }], guard := none }) (by kernel_rfl) rfl (fun K hK => ?_)
        (go_simp; go_at_call 38; refine (C38.out av ha _).mono ?_; rintro e w40 ⟨rfl, oP, k⟩; have KK : Kept w14 w40 := kept_trans hHeld k; replace K0 := kept_trans K0 KK; replace o0 := o0.kept KK; replace o1 := o1.kept KK; try dsimp only)
        refine hK.out _ _ ?_ (fun hHeld => ?_)
        · (try dsimp only); repeat (first | assumption | exact kept_refl _ | refine kept_drew ?_ | refine kept_alloc ?_ _ | refine kept_set ?_ (by omega) _)
        clear hK K
        try simp only [Act.put, List.setIfInBounds_toArray, List.set_cons_zero, List.set_cons_succ]
        refine x_take (i := 9) (oi := { dst := some 8, op := Op.assign (Operand.tmp 49), type := 29, pos := "law.go:34", after := #[{ on := 8, ground := Ground.data }, { on := 8, ground := Ground.chain }, { on := 0, ground := Ground.phase }, { on := 1, ground := Ground.phase }, { on := 2, ground := Ground.phase }, { on := 3, ground := Ground.phase }, { on := 4, ground := Ground.phase }, { on := 5, ground := Ground.phase }, { on := 6, ground := Ground.phase }, { on := 7, ground := Ground.phase }, { on := 8, ground := Ground.phase }], guard := none }) (v := ?_) rfl (by kernel_rfl) (by kernel_rfl) (by kernel_rfl) (by kernel_rfl) (by kernel_rfl) (fun _ _ _ h => h) (Or.inl ⟨rfl, ?_⟩) (by assumption) ?_
        rotate_left
        · (intro w' hSw; replace q0 := kept_cell hSw q0; go_simp; try with_reducible rfl)
        try simp only [Act.put, List.setIfInBounds_toArray, List.set_cons_zero, List.set_cons_succ]
        refine x_done (by kernel_rfl) ?_ _
        clear q0 q1 q2 p0 p1 p2 k
        have q0 := o0.cell (j := 0) rfl
        have q1 := o0.cell (j := 1) rfl
        have q2 := o0.cell (j := 2) rfl
        have p0 := o1.cell (j := 0) rfl
        have p1 := o1.cell (j := 1) rfl
        have p2 := o1.cell (j := 2) rfl
        go_wp2_with fail
        refine (R1.out _ (av) _ K0 oP).mono ?_
        rintro e w16 ⟨v15, rfl, k⟩
        replace K0 := kept_trans K0 k; replace o0 := o0.kept k; replace o1 := o1.kept k; replace oP := oP.kept k
        clear q0 q1 q2 p0 p1 p2 k
        have q0 := o0.cell (j := 0) rfl
        have q1 := o0.cell (j := 1) rfl
        have q2 := o0.cell (j := 2) rfl
        have p0 := o1.cell (j := 0) rfl
        have p1 := o1.cell (j := 1) rfl
        have p2 := o1.cell (j := 2) rfl
        go_wp2_with fail
        refine (R2.out _ (av) _ K0 oP).mono ?_
        rintro e w17 ⟨v16, rfl, k⟩
        replace K0 := kept_trans K0 k; replace o0 := o0.kept k; replace o1 := o1.kept k; replace oP := oP.kept k
        clear q0 q1 q2 p0 p1 p2 k
        have q0 := o0.cell (j := 0) rfl
        have q1 := o0.cell (j := 1) rfl
        have q2 := o0.cell (j := 2) rfl
        have p0 := o1.cell (j := 0) rfl
        have p1 := o1.cell (j := 1) rfl
        have p2 := o1.cell (j := 2) rfl
        go_wp2_with fail
        go_roundg (N - (i + 1))
        case rel => exact ⟨i + 1, by omega, rfl, by go_num, o0, o1, K0⟩
        case measure => omega
    · have hN0 : N ≠ 0 := by have := HNE.out; have := Nat.pos_of_ne_zero (n := 2 ^ n) (by simp); omega
      have m2 : IntKind.i64.wrap (2 ^ n) = (N : Int) := by
        have e : ((2 : Int) ^ n) = (N : Int) := by rw [HNE.out]; simp
        rw [e]
        exact IntWalk.i64_in _ (by omega)
      have hNi : ((N : Int) = 0) = False := eq_false (by omega)
      obtain ⟨mo, hmo⟩ : ∃ m : Nat, more = m := ⟨more.toNat, by omega⟩
      subst hmo
      have m3 : (mo : Int).tmod (N : Int) = ((mo % N : Nat) : Int) := by
        rw [Int.tmod_eq_emod_of_nonneg (by omega)]
        simp
      have m4 : IntKind.i64.wrap (mo : Int) = (mo : Int) := IntWalk.i64_in _ (by omega)
      have ha : mo % N < 1000000 := Nat.lt_of_lt_of_le (Nat.mod_lt _ (by omega)) (by omega)
      obtain ⟨av, hav⟩ : ∃ a, a = mo % N := ⟨_, rfl⟩
      rw [← hav] at m3 ha
      clear hav
      by_cases hin : i < N
      case' pos =>
        have h10 : ¬ n ≤ 10 := fun h => hlt ⟨hin, .inl h⟩
        have h64 : ¬ i < 64 := fun h => hlt ⟨hin, .inr h⟩
        have b1 : decide ((i : Int) < (N : Int)) = true := decide_eq_true (by omega)
        have b2 : decide (i < N) = true := decide_eq_true (by omega)
        have b3 : decide ((n : Int) ≤ 10) = false := decide_eq_false (by omega)
        have b4 : decide (n ≤ 10) = false := decide_eq_false (by omega)
        have b5 : decide ((i : Int) < 64) = false := decide_eq_false (by omega)
        have b6 : decide (i < 64) = false := decide_eq_false (by omega)
        clear hin h10 h64
      case' neg =>
        have b1 : decide ((i : Int) < (N : Int)) = false := decide_eq_false (by omega)
        have b2 : decide (i < N) = false := decide_eq_false (by omega)
        clear hin
      all_goals
        clear hlt
        go_wp2_with fail
        refine region_x (fun w' => Kept wr w') [] (by kernel_rfl) (kept_drew (kept_refl _)) (fun hHeld => ?_)
        refine x_take (i := 0) (oi := { dst := some 65, op := Op.fieldAddr 24 (Operand.tmp 3) 0, type := 0, pos := "law.go:42", after := #[], guard := none }) (v := ?_) rfl (by kernel_rfl) (by kernel_rfl) (by kernel_rfl) (by kernel_rfl) (by kernel_rfl) (fun _ _ _ h => h) (Or.inl ⟨rfl, ?_⟩) (by assumption) ?_
        rotate_left
        · (intro w' hSw; replace q0 := kept_cell hSw q0; go_simp; try with_reducible rfl)
        try simp only [Act.put, List.setIfInBounds_toArray, List.set_cons_zero, List.set_cons_succ]
        refine x_take (i := 1) (oi := { dst := some 66, op := Op.load 3 (Operand.tmp 65), type := 3, pos := "law.go:42", after := #[{ on := 0, ground := Ground.data }], guard := none }) (v := ?_) rfl (by kernel_rfl) (by kernel_rfl) (by kernel_rfl) (by kernel_rfl) (by kernel_rfl) (fun _ _ _ h => h) (Or.inl ⟨rfl, ?_⟩) (by assumption) ?_
        rotate_left
        · (intro w' hSw; replace q0 := kept_cell hSw q0; go_simp; try with_reducible rfl)
        try simp only [Act.put, List.setIfInBounds_toArray, List.set_cons_zero, List.set_cons_succ]
        refine x_take (i := 2) (oi := { dst := some 67, op := Op.move (Operand.tmp 2), type := 49, pos := "law.go:42", after := #[], guard := none }) (v := ?_) rfl (by kernel_rfl) (by kernel_rfl) (by kernel_rfl) (by kernel_rfl) (by kernel_rfl) (fun _ _ _ h => h) (Or.inl ⟨rfl, ?_⟩) (by assumption) ?_
        rotate_left
        · (intro w' hSw; replace q0 := kept_cell hSw q0; go_simp; try with_reducible rfl)
        try simp only [Act.put, List.setIfInBounds_toArray, List.set_cons_zero, List.set_cons_succ]
        refine x_take (i := 3) (oi := { dst := some 68, op := Op.convert 49 3 (Operand.tmp 67), type := 3, pos := "law.go:42", after := #[{ on := 2, ground := Ground.data }], guard := none }) (v := ?_) rfl (by kernel_rfl) (by kernel_rfl) (by kernel_rfl) (by kernel_rfl) (by kernel_rfl) (fun _ _ _ h => h) (Or.inl ⟨rfl, ?_⟩) (by assumption) ?_
        rotate_left
        · (intro w' hSw; replace q0 := kept_cell hSw q0; go_simp; try with_reducible rfl)
        try simp only [Act.put, List.setIfInBounds_toArray, List.set_cons_zero, List.set_cons_succ]
        refine x_take (i := 4) (oi := { dst := some 69, op := Op.fieldAddr 24 (Operand.tmp 3) 0, type := 0, pos := "law.go:42", after := #[], guard := none }) (v := ?_) rfl (by kernel_rfl) (by kernel_rfl) (by kernel_rfl) (by kernel_rfl) (by kernel_rfl) (fun _ _ _ h => h) (Or.inl ⟨rfl, ?_⟩) (by assumption) ?_
        rotate_left
        · (intro w' hSw; replace q0 := kept_cell hSw q0; go_simp; try with_reducible rfl)
        try simp only [Act.put, List.setIfInBounds_toArray, List.set_cons_zero, List.set_cons_succ]
        refine x_take (i := 5) (oi := { dst := some 70, op := Op.load 3 (Operand.tmp 69), type := 3, pos := "law.go:42", after := #[{ on := 4, ground := Ground.data }], guard := none }) (v := ?_) rfl (by kernel_rfl) (by kernel_rfl) (by kernel_rfl) (by kernel_rfl) (by kernel_rfl) (fun _ _ _ h => h) (Or.inl ⟨rfl, ?_⟩) (by assumption) ?_
        rotate_left
        · (intro w' hSw; replace q0 := kept_cell hSw q0; go_simp; try with_reducible rfl)
        try simp only [Act.put, List.setIfInBounds_toArray, List.set_cons_zero, List.set_cons_succ]
        refine x_take (i := 6) (oi := { dst := some 71, op := Op.binOp BinOp.shl 3 (Operand.const (Value.int IntKind.i64 1)) (Operand.tmp 70) 3, type := 3, pos := "law.go:42", after := #[{ on := 5, ground := Ground.data }], guard := none }) (v := ?_) rfl (by kernel_rfl) (by kernel_rfl) (by kernel_rfl) (by kernel_rfl) (by kernel_rfl) (fun _ _ _ h => h) (Or.inl ⟨rfl, ?_⟩) (by assumption) ?_
        rotate_left
        · (intro w' hSw; replace q0 := kept_cell hSw q0; go_simp; try with_reducible rfl)
        try simp only [Act.put, List.setIfInBounds_toArray, List.set_cons_zero, List.set_cons_succ]
        refine x_take (i := 7) (oi := { dst := some 72, op := Op.binOp BinOp.rem 3 (Operand.tmp 68) (Operand.tmp 71) 3, type := 3, pos := "law.go:42", after := #[{ on := 3, ground := Ground.data }, { on := 6, ground := Ground.data }], guard := none }) (v := ?_) rfl (by kernel_rfl) (by kernel_rfl) (by kernel_rfl) (by kernel_rfl) (by kernel_rfl) (fun _ _ _ h => h) (Or.inl ⟨rfl, ?_⟩) (by assumption) ?_
        rotate_left
        · (intro w' hSw; replace q0 := kept_cell hSw q0; go_simp; try with_reducible rfl)
        try simp only [Act.put, List.setIfInBounds_toArray, List.set_cons_zero, List.set_cons_succ]
        refine x_one (i := 8) (o := { dst := some 73, op := Op.call { callee := Callee.value (Operand.func 38), args := #[Operand.tmp 66, Operand.tmp 72], argTypes := #[3, 3] }, type := 29, pos := "law.go:42", after := #[{ on := 1, ground := Ground.data }, { on := 7, ground := Ground.data }], guard := none }) (by kernel_rfl) rfl (fun K hK => ?_)
        (go_simp; go_at_call 38; refine (C38.out av ha _).mono ?_; rintro e w41 ⟨rfl, oP, k⟩; have KK : Kept wr w41 := kept_trans hHeld k; replace K0 := kept_trans K0 KK; replace o0 := o0.kept KK; replace o1 := o1.kept KK; try dsimp only)
        refine hK.out _ _ ?_ (fun hHeld => ?_)
        · (try dsimp only); repeat (first | assumption | exact kept_refl _ | refine kept_drew ?_ | refine kept_alloc ?_ _ | refine kept_set ?_ (by omega) _)
        clear hK K
        try simp only [Act.put, List.setIfInBounds_toArray, List.set_cons_zero, List.set_cons_succ]
        refine x_take (i := 9) (oi := { dst := some 13, op := Op.assign (Operand.tmp 73), type := 29, pos := "law.go:42", after := #[{ on := 8, ground := Ground.data }, { on := 8, ground := Ground.chain }, { on := 0, ground := Ground.phase }, { on := 1, ground := Ground.phase }, { on := 2, ground := Ground.phase }, { on := 3, ground := Ground.phase }, { on := 4, ground := Ground.phase }, { on := 5, ground := Ground.phase }, { on := 6, ground := Ground.phase }, { on := 7, ground := Ground.phase }, { on := 8, ground := Ground.phase }], guard := none }) (v := ?_) rfl (by kernel_rfl) (by kernel_rfl) (by kernel_rfl) (by kernel_rfl) (by kernel_rfl) (fun _ _ _ h => h) (Or.inl ⟨rfl, ?_⟩) (by assumption) ?_
        rotate_left
        · (intro w' hSw; replace q0 := kept_cell hSw q0; go_simp; try with_reducible rfl)
        try simp only [Act.put, List.setIfInBounds_toArray, List.set_cons_zero, List.set_cons_succ]
        refine x_done (by kernel_rfl) ?_ _
        clear q0 q1 q2 p0 p1 p2 k
        have q0 := o0.cell (j := 0) rfl
        have q1 := o0.cell (j := 1) rfl
        have q2 := o0.cell (j := 2) rfl
        have p0 := o1.cell (j := 0) rfl
        have p1 := o1.cell (j := 1) rfl
        have p2 := o1.cell (j := 2) rfl
        go_wp2_with fail
        refine (R1.out _ (av) _ K0 oP).mono ?_
        rintro e w18 ⟨v17, rfl, k⟩
        replace K0 := kept_trans K0 k; replace o0 := o0.kept k; replace o1 := o1.kept k; replace oP := oP.kept k
        clear q0 q1 q2 p0 p1 p2 k
        have q0 := o0.cell (j := 0) rfl
        have q1 := o0.cell (j := 1) rfl
        have q2 := o0.cell (j := 2) rfl
        have p0 := o1.cell (j := 0) rfl
        have p1 := o1.cell (j := 1) rfl
        have p2 := o1.cell (j := 2) rfl
        go_wp2_with fail
        refine (R2.out _ (av) _ K0 oP).mono ?_
        rintro e w19 ⟨v18, rfl, k⟩
        replace K0 := kept_trans K0 k; replace o0 := o0.kept k; replace o1 := o1.kept k; replace oP := oP.kept k
        clear q0 q1 q2 p0 p1 p2 k
        have q0 := o0.cell (j := 0) rfl
        have q1 := o0.cell (j := 1) rfl
        have q2 := o0.cell (j := 2) rfl
        have p0 := o1.cell (j := 0) rfl
        have p1 := o1.cell (j := 1) rfl
        have p2 := o1.cell (j := 2) rfl
        go_wp2_with fail
        go_ret
        exact ⟨ret_bool (by simp), K0⟩
end Go.Proofs.Ytinpmdekdfgiiaa
