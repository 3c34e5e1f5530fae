/- Same of formulas and of programs, at equal ones; copied. -/
import Derived.Test.YtinpmdekdfgiiaaM2
import Derived.Test.YtinpmdekdfgiiaaE6
import Derived.Test.YtinpmdekdfgiiaaS1
set_option linter.unusedVariables false
set_option linter.unusedSimpArgs false
namespace Go.Proofs.Ytinpmdekdfgiiaa
open Go.RowKit

set_option maxRecDepth 100000 in
set_option maxHeartbeats 1000000 in
theorem same33_eq : ∀ (N : Nat) (f : Fm) (A B : Option Addr) (c d : Nat) (w : World), cntF f ≤ N → f.l.length ≤ 9223372036854775807 → RK w A f.l → RK w B f.l →
    Calls Try.prog 33 #[fmV f A c, fmV f B d] w fun e w' => e = .returned (.bool true) ∧ Kept w w' := by
  intro N
  induction N with
  | zero => intro f A B c d w h; have := cntF_pos f; omega
  | succ N ih =>
    intro f A B c d w hc hl hr1 hr2
    have IH := Lib.hid ih; clear ih
    have HR1 := Lib.hid hr1; have HR2 := Lib.hid hr2; clear hr1 hr2
    unfold fmV
    have hcn := cntF_eq f
    have HC := Lib.hid hcn; clear hcn
    obtain ⟨l, hle⟩ : ∃ l, l = f.l := ⟨_, rfl⟩
    rw [← hle] at hl HR1 HR2 HC ⊢
    clear hle
    have o0 := (Own.new w 52 [.int .i64 f.k, .int .i64 f.n, .slice A l.length c]).alloc (.cells #[.int .i64 f.k, .int .i64 f.n, .slice B l.length d] 52)
    have o1 := Own.new (w.alloc (.cells #[.int .i64 f.k, .int .i64 f.n, .slice A l.length c] 52)) 52 [.int .i64 f.k, .int .i64 f.n, .slice B l.length d]
    simp only [World.size_alloc] at o1
    have K0 : Kept w ((w.alloc (.cells #[.int .i64 f.k, .int .i64 f.n, .slice A l.length c] 52)).alloc (.cells #[.int .i64 f.k, .int .i64 f.n, .slice B l.length d] 52)) := kept_alloc (kept_alloc (kept_refl w) _) _
    go_enter Try.func33, Try.ntmps33
    go_wp2_with fail
    go_loopg [5] l.length (fun g' s5 wr => ∃ j : Nat, j ≤ l.length ∧ g' = l.length - j ∧ s5 = .int .i64 j ∧ Own wr w.heap.size 52 [.int .i64 f.k, .int .i64 f.n, .slice A l.length c] ∧ Own wr (w.heap.size + 1) 52 [.int .i64 f.k, .int .i64 f.n, .slice B l.length d] ∧ Kept w wr)
    case atStart => exact ⟨0, by omega, rfl, rfl, o0, o1, K0⟩
    case round =>
      clear o0 o1 K0
      obtain ⟨j, hj, rfl, rfl, o0, o1, K0⟩ := hrel
      have q2 := o0.cell (j := 2) rfl
      have r2 := o1.cell (j := 2) rfl
      by_cases hlt : j < l.length
      · obtain ⟨b1, f1, hA, hk1⟩ := HR1.out.at_ (by omega)
        obtain ⟨b2, f2, hB, hk2⟩ := HR2.out.at_ (by omega)
        subst hA; subst hB
        obtain ⟨d0, d1, ⟨A', c', d2, rk1⟩, dl⟩ := (hk1 j hlt).kept K0
        obtain ⟨e0, e1, ⟨B', d', e2, rk2⟩, _⟩ := (hk2 j hlt).kept K0
        clear hk1 hk2
        have g0 : (0 : Int) ≤ (j : Int) := by omega
        have g1 : (j : Int) < (l.length : Int) := by omega
        have hkc := cnt_kid hlt
        have C := fun (w' : World) (k : Kept wr w') => IH.out (kd l j) A' B' c' d' w' (by have := HC.out; omega) dl (rk1.kept k) (rk2.kept k)
        unfold fmV at C
        have HCC := Lib.hid C; clear C
        go_wp2_with fail
        refine region_x (fun w' => Kept wr w') [] (by kernel_rfl) (kept_drew (kept_refl _)) (fun hHeld => ?_)
        refine x_take (i := 0) (oi := { dst := some 34, op := Op.fieldAddr 52 (Operand.tmp 2) 2, type := 0, pos := "ref.go:195", after := #[], guard := none }) (v := ?_) rfl (by kernel_rfl) (by kernel_rfl) (by kernel_rfl) (by kernel_rfl) (by kernel_rfl) (fun _ _ _ h => h) (Or.inl ⟨rfl, ?_⟩) (by assumption) ?_
        rotate_left
        · (intro w' hSw; replace q2 := kept_cell hSw q2; replace r2 := kept_cell hSw r2; replace d0 := kept_cell hSw d0; replace d1 := kept_cell hSw d1; replace d2 := kept_cell hSw d2; replace e0 := kept_cell hSw e0; replace e1 := kept_cell hSw e1; replace e2 := kept_cell hSw e2; go_simp; try with_reducible rfl)
        try simp only [Act.put, List.setIfInBounds_toArray, List.set_cons_zero, List.set_cons_succ]
        refine x_take (i := 1) (oi := { dst := some 35, op := Op.load 50 (Operand.tmp 34), type := 50, pos := "ref.go:195", after := #[{ on := 0, ground := Ground.data }], guard := none }) (v := ?_) rfl (by kernel_rfl) (by kernel_rfl) (by kernel_rfl) (by kernel_rfl) (by kernel_rfl) (fun _ _ _ h => h) (Or.inl ⟨rfl, ?_⟩) (by assumption) ?_
        rotate_left
        · (intro w' hSw; replace q2 := kept_cell hSw q2; replace r2 := kept_cell hSw r2; replace d0 := kept_cell hSw d0; replace d1 := kept_cell hSw d1; replace d2 := kept_cell hSw d2; replace e0 := kept_cell hSw e0; replace e1 := kept_cell hSw e1; replace e2 := kept_cell hSw e2; go_simp; try with_reducible rfl)
        try simp only [Act.put, List.setIfInBounds_toArray, List.set_cons_zero, List.set_cons_succ]
        refine x_take (i := 2) (oi := { dst := some 36, op := Op.move (Operand.tmp 5), type := 3, pos := "ref.go:195", after := #[], guard := none }) (v := ?_) rfl (by kernel_rfl) (by kernel_rfl) (by kernel_rfl) (by kernel_rfl) (by kernel_rfl) (fun _ _ _ h => h) (Or.inl ⟨rfl, ?_⟩) (by assumption) ?_
        rotate_left
        · (intro w' hSw; replace q2 := kept_cell hSw q2; replace r2 := kept_cell hSw r2; replace d0 := kept_cell hSw d0; replace d1 := kept_cell hSw d1; replace d2 := kept_cell hSw d2; replace e0 := kept_cell hSw e0; replace e1 := kept_cell hSw e1; replace e2 := kept_cell hSw e2; go_simp; try with_reducible rfl)
        try simp only [Act.put, List.setIfInBounds_toArray, List.set_cons_zero, List.set_cons_succ]
        refine x_take (i := 3) (oi := { dst := some 37, op := Op.indexAddr 50 (Operand.tmp 35) (Operand.tmp 36), type := 0, pos := "ref.go:195", after := #[{ on := 1, ground := Ground.data }, { on := 2, ground := Ground.data }], guard := none }) (v := ?_) rfl (by kernel_rfl) (by kernel_rfl) (by kernel_rfl) (by kernel_rfl) (by kernel_rfl) (fun _ _ _ h => h) (Or.inl ⟨rfl, ?_⟩) (by assumption) ?_
        rotate_left
        · (intro w' hSw; replace q2 := kept_cell hSw q2; replace r2 := kept_cell hSw r2; replace d0 := kept_cell hSw d0; replace d1 := kept_cell hSw d1; replace d2 := kept_cell hSw d2; replace e0 := kept_cell hSw e0; replace e1 := kept_cell hSw e1; replace e2 := kept_cell hSw e2; go_simp; try with_reducible rfl)
        try simp only [Act.put, List.setIfInBounds_toArray, List.set_cons_zero, List.set_cons_succ]
        refine x_take (i := 4) (oi := { dst := some 38, op := Op.load 52 (Operand.tmp 37), type := 52, pos := "ref.go:195", after := #[{ on := 3, ground := Ground.data }], guard := none }) (v := ?_) rfl (by kernel_rfl) (by kernel_rfl) (by kernel_rfl) (by kernel_rfl) (by kernel_rfl) (fun _ _ _ h => h) (Or.inl ⟨rfl, ?_⟩) (by assumption) ?_
        rotate_left
        · (intro w' hSw; replace q2 := kept_cell hSw q2; replace r2 := kept_cell hSw r2; replace d0 := kept_cell hSw d0; replace d1 := kept_cell hSw d1; replace d2 := kept_cell hSw d2; replace e0 := kept_cell hSw e0; replace e1 := kept_cell hSw e1; replace e2 := kept_cell hSw e2; go_simp; try with_reducible rfl)
        try simp only [Act.put, List.setIfInBounds_toArray, List.set_cons_zero, List.set_cons_succ]
        refine x_take (i := 5) (oi := { dst := some 39, op := Op.fieldAddr 52 (Operand.tmp 3) 2, type := 0, pos := "ref.go:195", after := #[], guard := none }) (v := ?_) rfl (by kernel_rfl) (by kernel_rfl) (by kernel_rfl) (by kernel_rfl) (by kernel_rfl) (fun _ _ _ h => h) (Or.inl ⟨rfl, ?_⟩) (by assumption) ?_
        rotate_left
        · (intro w' hSw; replace q2 := kept_cell hSw q2; replace r2 := kept_cell hSw r2; replace d0 := kept_cell hSw d0; replace d1 := kept_cell hSw d1; replace d2 := kept_cell hSw d2; replace e0 := kept_cell hSw e0; replace e1 := kept_cell hSw e1; replace e2 := kept_cell hSw e2; go_simp; try with_reducible rfl)
        try simp only [Act.put, List.setIfInBounds_toArray, List.set_cons_zero, List.set_cons_succ]
        refine x_take (i := 6) (oi := { dst := some 40, op := Op.load 50 (Operand.tmp 39), type := 50, pos := "ref.go:195", after := #[{ on := 5, ground := Ground.data }], guard := none }) (v := ?_) rfl (by kernel_rfl) (by kernel_rfl) (by kernel_rfl) (by kernel_rfl) (by kernel_rfl) (fun _ _ _ h => h) (Or.inl ⟨rfl, ?_⟩) (by assumption) ?_
        rotate_left
        · (intro w' hSw; replace q2 := kept_cell hSw q2; replace r2 := kept_cell hSw r2; replace d0 := kept_cell hSw d0; replace d1 := kept_cell hSw d1; replace d2 := kept_cell hSw d2; replace e0 := kept_cell hSw e0; replace e1 := kept_cell hSw e1; replace e2 := kept_cell hSw e2; go_simp; try with_reducible rfl)
        try simp only [Act.put, List.setIfInBounds_toArray, List.set_cons_zero, List.set_cons_succ]
        refine x_take (i := 7) (oi := { dst := some 41, op := Op.move (Operand.tmp 5), type := 3, pos := "ref.go:195", after := #[], guard := none }) (v := ?_) rfl (by kernel_rfl) (by kernel_rfl) (by kernel_rfl) (by kernel_rfl) (by kernel_rfl) (fun _ _ _ h => h) (Or.inl ⟨rfl, ?_⟩) (by assumption) ?_
        rotate_left
        · (intro w' hSw; replace q2 := kept_cell hSw q2; replace r2 := kept_cell hSw r2; replace d0 := kept_cell hSw d0; replace d1 := kept_cell hSw d1; replace d2 := kept_cell hSw d2; replace e0 := kept_cell hSw e0; replace e1 := kept_cell hSw e1; replace e2 := kept_cell hSw e2; go_simp; try with_reducible rfl)
        try simp only [Act.put, List.setIfInBounds_toArray, List.set_cons_zero, List.set_cons_succ]
        refine x_take (i := 8) (oi := { dst := some 42, op := Op.indexAddr 50 (Operand.tmp 40) (Operand.tmp 41), type := 0, pos := "ref.go:195", after := #[{ on := 6, ground := Ground.data }, { on := 7, ground := Ground.data }], guard := none }) (v := ?_) rfl (by kernel_rfl) (by kernel_rfl) (by kernel_rfl) (by kernel_rfl) (by kernel_rfl) (fun _ _ _ h => h) (Or.inl ⟨rfl, ?_⟩) (by assumption) ?_
        rotate_left
        · (intro w' hSw; replace q2 := kept_cell hSw q2; replace r2 := kept_cell hSw r2; replace d0 := kept_cell hSw d0; replace d1 := kept_cell hSw d1; replace d2 := kept_cell hSw d2; replace e0 := kept_cell hSw e0; replace e1 := kept_cell hSw e1; replace e2 := kept_cell hSw e2; go_simp; try with_reducible rfl)
        try simp only [Act.put, List.setIfInBounds_toArray, List.set_cons_zero, List.set_cons_succ]
        refine x_take (i := 9) (oi := { dst := some 43, op := Op.load 52 (Operand.tmp 42), type := 52, pos := "ref.go:195", after := #[{ on := 8, ground := Ground.data }], guard := none }) (v := ?_) rfl (by kernel_rfl) (by kernel_rfl) (by kernel_rfl) (by kernel_rfl) (by kernel_rfl) (fun _ _ _ h => h) (Or.inl ⟨rfl, ?_⟩) (by assumption) ?_
        rotate_left
        · (intro w' hSw; replace q2 := kept_cell hSw q2; replace r2 := kept_cell hSw r2; replace d0 := kept_cell hSw d0; replace d1 := kept_cell hSw d1; replace d2 := kept_cell hSw d2; replace e0 := kept_cell hSw e0; replace e1 := kept_cell hSw e1; replace e2 := kept_cell hSw e2; go_simp; try with_reducible rfl)
        try simp only [Act.put, List.setIfInBounds_toArray, List.set_cons_zero, List.set_cons_succ]
        refine x_one (i := 10) (o := { dst := some 44, op := Op.call { callee := Callee.value (Operand.func 33), args := #[Operand.tmp 38, Operand.tmp 43], argTypes := #[52, 52] }, type := 4, pos := "ref.go:195", after := #[{ on := 4, ground := Ground.data }, { on := 9, ground := Ground.data }], guard := none }) (by kernel_rfl) rfl (fun K hK => ?_)
        (go_simp; go_at_call 33; (with_reducible refine (HCC.out _ hHeld).mono ?_); rintro e w1 ⟨rfl, k1⟩; have KK1 : Kept wr w1 := kept_trans hHeld k1; try dsimp only)
        refine hK.out _ _ ?_ (fun hHeld => ?_)
        · (try dsimp only); repeat (first | assumption | exact kept_refl _ | refine kept_drew ?_ | refine kept_alloc ?_ _ | refine kept_set ?_ (by omega) _)
        clear hK K
        try simp only [Act.put, List.setIfInBounds_toArray, List.set_cons_zero, List.set_cons_succ]
        refine x_take (i := 11) (oi := { dst := some 45, op := Op.unOp UnOp.not 4 (Operand.tmp 44), type := 4, pos := "ref.go:195", after := #[{ on := 10, ground := Ground.data }], guard := none }) (v := ?_) rfl (by kernel_rfl) (by kernel_rfl) (by kernel_rfl) (by kernel_rfl) (by kernel_rfl) (fun _ _ _ h => h) (Or.inl ⟨rfl, ?_⟩) (by assumption) ?_
        rotate_left
        · (intro w' hSw; replace q2 := kept_cell hSw q2; replace r2 := kept_cell hSw r2; replace d0 := kept_cell hSw d0; replace d1 := kept_cell hSw d1; replace d2 := kept_cell hSw d2; replace e0 := kept_cell hSw e0; replace e1 := kept_cell hSw e1; replace e2 := kept_cell hSw e2; go_simp; try with_reducible rfl)
        try simp only [Act.put, List.setIfInBounds_toArray, List.set_cons_zero, List.set_cons_succ]
        refine x_done (by kernel_rfl) ?_ _
        replace K0 := kept_trans K0 KK1; replace o0 := o0.kept KK1; replace o1 := o1.kept KK1
        go_wp2_with fail
        go_roundg (l.length - (j + 1))
        case rel => exact ⟨j + 1, by omega, rfl, by go_num, o0, o1, K0⟩
        case measure => omega
      · have : j = l.length := by omega
        subst this
        go_wp2_with fail
        go_ret
        exact ⟨rfl, K0⟩

set_option maxRecDepth 100000 in
set_option maxHeartbeats 1000000 in
theorem same50_eq (n s : Int) (A B : Option Addr) (c d : Nat) (l : List Nd) (w : World) (hl : l.length ≤ 140737488355328) (hr1 : RN w A l) (hr2 : RN w B l) :
    Calls Try.prog 50 #[.agg #[.int .i64 n, .int .i64 s, .slice A l.length c], .agg #[.int .i64 n, .int .i64 s, .slice B l.length d]] w fun e w' => e = .returned (.bool true) ∧ Kept w w' := by
  have HR1 := Lib.hid hr1; have HR2 := Lib.hid hr2; clear hr1 hr2
  have o0 := (Own.new w 24 [.int .i64 n, .int .i64 s, .slice A l.length c]).alloc (.cells #[.int .i64 n, .int .i64 s, .slice B l.length d] 24)
  have o1 := Own.new (w.alloc (.cells #[.int .i64 n, .int .i64 s, .slice A l.length c] 24)) 24 [.int .i64 n, .int .i64 s, .slice B l.length d]
  simp only [World.size_alloc] at o1
  have K0 : Kept w ((w.alloc (.cells #[.int .i64 n, .int .i64 s, .slice A l.length c] 24)).alloc (.cells #[.int .i64 n, .int .i64 s, .slice B l.length d] 24)) := kept_alloc (kept_alloc (kept_refl w) _) _
  go_enter Try.func50, Try.ntmps50
  go_wp2_with fail
  go_loopg [5] l.length (fun g' s5 wr => ∃ j : Nat, j ≤ l.length ∧ g' = l.length - j ∧ s5 = .int .i64 j ∧ Own wr w.heap.size 24 [.int .i64 n, .int .i64 s, .slice A l.length c] ∧ Own wr (w.heap.size + 1) 24 [.int .i64 n, .int .i64 s, .slice B l.length d] ∧ Kept w wr)
  case atStart => exact ⟨0, by omega, rfl, rfl, o0, o1, K0⟩
  case round =>
    clear o0 o1 K0
    obtain ⟨j, hj, rfl, rfl, o0, o1, K0⟩ := hrel
    have q2 := o0.cell (j := 2) rfl
    have r2 := o1.cell (j := 2) rfl
    by_cases hlt : j < l.length
    · obtain ⟨b1, f1, hA, hk1⟩ := HR1.out.at_ hlt
      obtain ⟨b2, f2, hB, hk2⟩ := HR2.out.at_ hlt
      subst hA; subst hB
      obtain ⟨d0, d1, d2⟩ := hk1 j hlt
      obtain ⟨e0, e1, e2⟩ := hk2 j hlt
      clear hk1 hk2
      replace d0 := kept_cell K0 d0; replace d1 := kept_cell K0 d1; replace d2 := kept_cell K0 d2
      replace e0 := kept_cell K0 e0; replace e1 := kept_cell K0 e1; replace e2 := kept_cell K0 e2
      have g0 : (0 : Int) ≤ (j : Int) := by omega
      have g1 : (j : Int) < (l.length : Int) := by omega
      have hq : ∀ w, (binOp .neq 48 (.agg #[.int .i64 (nv l j), .int .i64 (nz l j), .int .i64 (no l j)]) (.agg #[.int .i64 (nv l j), .int .i64 (nz l j), .int .i64 (no l j)])).run Try.prog w = .ok (.bool false) w := fun w => by
        have h := eq48 (nd l j) (nd l j) w
        rw [decide_eq_true rfl] at h
        unfold nodeV at h
        rw [run_eql_struct] at h
        rw [run_neq_struct]
        change (Result.andThen ((Op.equalIn 10000 48 (Value.agg #[Value.int IntKind.i64 (nd l j).v, Value.int IntKind.i64 (nd l j).z, Value.int IntKind.i64 (nd l j).o]) (Value.agg #[Value.int IntKind.i64 (nd l j).v, Value.int IntKind.i64 (nd l j).z, Value.int IntKind.i64 (nd l j).o])).run Try.prog w) _) = _
        cases hx : (Op.equalIn 10000 48 (Value.agg #[Value.int IntKind.i64 (nd l j).v, Value.int IntKind.i64 (nd l j).z, Value.int IntKind.i64 (nd l j).o]) (Value.agg #[Value.int IntKind.i64 (nd l j).v, Value.int IntKind.i64 (nd l j).z, Value.int IntKind.i64 (nd l j).o])).run Try.prog w with
        | ok b w' =>
          rw [hx] at h
          simp only [Result.andThen, Result.ok.injEq, Value.bool.injEq] at h ⊢
          obtain ⟨rfl, rfl⟩ := h
          exact ⟨rfl, rfl⟩
        | halt x w' =>
          rw [hx] at h
          simp [Result.andThen] at h
      go_wp2_with fail
      go_quiet (fail)
      go_wp2_with fail
      have p0 : Own (wr.drewN nq) w.heap.size 24 [.int .i64 n, .int .i64 s, .slice (some ⟨b1, f1, none⟩) l.length c] := o0
      have p1 : Own (wr.drewN nq) (w.heap.size + 1) 24 [.int .i64 n, .int .i64 s, .slice (some ⟨b2, f2, none⟩) l.length d] := o1
      have K9 : Kept w (wr.drewN nq) := below_drewN K0 nq
      go_roundg (l.length - (j + 1))
      case rel => exact ⟨j + 1, by omega, rfl, by go_num, p0, p1, K9⟩
      case measure => omega
    · have : j = l.length := by omega
      subst this
      go_wp2_with fail
      go_ret
      exact ⟨rfl, K0⟩
end Go.Proofs.Ytinpmdekdfgiiaa
