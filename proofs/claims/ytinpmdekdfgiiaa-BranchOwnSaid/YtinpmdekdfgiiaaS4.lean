/- copied: a copy of a program. -/
import Derived.Test.YtinpmdekdfgiiaaE2
import Derived.Test.YtinpmdekdfgiiaaS1
set_option linter.unusedVariables false
set_option linter.unusedSimpArgs false
namespace Go.Proofs.Ytinpmdekdfgiiaa
open Go.RowKit

section
variable {P : Program}
/-- append of nothing, from a nil slice. -/
theorem run_app0 (w : World) (t ty e : TypeId) (i : TypeInfo) (ht : P.underlying t = some (.slice e)) (hi : P.info? e = some i) (g n c m : Nat) (hc : n ≤ c) :
    (Builtin.append_ #[t, t] ty #[.slice (some ⟨g, 0, none⟩) n c, .slice none 0 m]).run P w = .ok (.slice (some ⟨g, 0, none⟩) n c) w := by
  simp [Builtin.append_, run_underlying ht, sizeOf, typeInfo, hi, Builtin.lenOf, Builtin.firstCells, hc, storeCells]
theorem step_app0 {ops : Array Oper} {o : Oper} {a : Act} {w : World} {K : Act → World → Prop} {Q : Exit → Act → World → Prop} {E : Prop}
    (hw : Region.wanted o (yielded ops a.tmps) = true) (s x : Operand) (t e : TypeId) (z : Value) (size bytes : Nat)
    (ho : o.op = .call { callee := .builtin .append, args := #[s, x], argTypes := #[t, t] })
    (ht : P.underlying t = some (.slice e)) (hinfo : (P.info? e).map (fun i => (i.zero, i.size, i.bytes)) = some (some z, size, bytes)) (g n c m : Nat) (hc : n ≤ c) (hs : a.eval s = .slice (some ⟨g, 0, none⟩) n c) (hx : a.eval x = .slice none 0 m)
    (h : K (a.put o.dst (.slice (some ⟨g, 0, none⟩) n c)) w) : if Region.wanted o (yielded ops a.tmps) = true then Oper.wp P o a w K Q else E := by
  obtain ⟨i0, hi, _⟩ := Option.map_eq_some_iff.1 hinfo
  rw [if_pos hw]
  unfold Oper.wp execOp
  simp only [ho, resolve, invoke, builtin, Sem.run_bind, Sem.run_pure, Result.andThen_ok, List.map_toArray, List.map_cons, List.map_nil, hs, hx, run_app0 w t o.type e i0 ht hi g n c m hc]
  exact h
end

theorem ndCells_one (l : List Nd) : ∀ u ∈ ndCells l, u.oneCell' = true := one_nds l
set_option maxRecDepth 100000 in
set_option maxHeartbeats 1000000 in
theorem copied48_any (n s : Int) (A : Option Addr) (c : Nat) (l : List Nd) (w : World) (hl : l.length ≤ 1000000) (hr : RN w A l) :
    Calls Try.prog 48 #[.agg #[.int .i64 n, .int .i64 s, .slice A l.length c]] w (BrPost n s l w) := by
  have HR := Lib.hid hr
  obtain ⟨m, hm⟩ : ∃ m, m = l.length := ⟨_, rfl⟩
  rw [← hm] at hl ⊢
  have HM := Lib.hid hm; clear hm hr
  have a0 := (Own.new w 24 [.int .i64 n, .int .i64 s, .slice A m c]).alloc (.cells #[.int .i64 0, .int .i64 0, .slice none 0 0] 24)
  have a1 := Own.new (w.alloc (.cells #[.int .i64 n, .int .i64 s, .slice A m c] 24)) 24 [.int .i64 0, .int .i64 0, .slice none 0 0]
  have ka := kept_alloc (kept_alloc (kept_refl w) (.cells #[.int .i64 n, .int .i64 s, .slice A m c] 24)) (.cells #[.int .i64 0, .int .i64 0, .slice none 0 0] 24)
  simp only [World.size_alloc] at a1
  obtain ⟨P, hP⟩ : ∃ P : Ending → World → Prop, P = BrPost n s l w := ⟨_, rfl⟩
  rw [← hP]
  have HP := Lib.hid hP; clear hP
  obtain ⟨W, hW⟩ : ∃ x, x = (w.alloc (.cells #[.int .i64 n, .int .i64 s, .slice A m c] 24)).alloc (.cells #[.int .i64 0, .int .i64 0, .slice none 0 0] 24) := ⟨_, rfl⟩
  rw [← hW] at a0 a1 ka
  have HW := Lib.hid hW; clear hW
  have hsrc : (∃ ad : Addr, A = some ad ∧ ∀ j u, (ndCells l)[j]? = some u → w.cell? (ad.add j) = some u) ∨ (A = none ∧ m = 0) := by
    rcases Nat.eq_zero_or_pos m with h0 | h0
    · cases A with
      | none => exact .inr ⟨rfl, h0⟩
      | some a =>
        refine .inl ⟨a, rfl, fun j u hu => ?_⟩
        have : l = [] := List.eq_nil_of_length_eq_zero (by have := HM.out; omega)
        subst this
        simp [ndCells] at hu
    · obtain ⟨b, off, e, _⟩ := HR.out.at_ (k := 0) (by have := HM.out; omega)
      subst e
      exact .inl ⟨_, rfl, news_rd HR.out⟩
  have q0 := a0.cell (j := 0) rfl
  have q1 := a0.cell (j := 1) rfl
  have q2 := a0.cell (j := 2) rfl
  have zW : w.heap.size + 1 < W.heap.size := a1.lt
  have hz : ∀ W' : World, ((W'.alloc (.cells #[] 48)).drew).ownsRow W'.heap.size 48 3 (.slice (some ⟨W'.heap.size, 0, none⟩) 0 0) 0 [] := fun W' => ⟨rfl, .inr ⟨W'.heap.size, 0, #[], rfl, Nat.le_refl _, heap_alloc_new W' _, Nat.le_refl _, Nat.zero_le _, rfl, rfl⟩⟩
  have HZ := Lib.hid hz; clear hz
  rcases hsrc with ⟨ad, rfl, hnews⟩ | ⟨rfl, rfl⟩
  · have HNW := Lib.hid hnews; clear hnews
    go_enter Try.func48, Try.ntmps48
    go_wp2_with fail
    rw [← HW.out]
    clear HW
    refine region_x (fun w' => Kept W w') [9] (by kernel_rfl) (kept_drew (kept_refl _)) (fun hHeld => ?_)
    refine x_take (i := 0) (oi := { dst := some 3, op := Op.fieldAddr 24 (Operand.tmp 1) 0, type := 0, pos := "law.go:232", after := #[], guard := none }) (v := ?_) rfl (by kernel_rfl) (by kernel_rfl) (by kernel_rfl) (by kernel_rfl) (by kernel_rfl) (fun _ _ _ h => h) (Or.inl ⟨rfl, ?_⟩) (by assumption) ?_
    rotate_left
    · (intro w' hSw; replace q0 := kept_cell hSw q0; replace q1 := kept_cell hSw q1; replace q2 := kept_cell hSw q2; go_simp; try with_reducible rfl)
    try simp only [Act.put, List.setIfInBounds_toArray, List.set_cons_zero, List.set_cons_succ]
    refine x_take (i := 1) (oi := { dst := some 4, op := Op.load 3 (Operand.tmp 3), type := 3, pos := "law.go:232", after := #[{ on := 0, ground := Ground.data }], guard := none }) (v := ?_) rfl (by kernel_rfl) (by kernel_rfl) (by kernel_rfl) (by kernel_rfl) (by kernel_rfl) (fun _ _ _ h => h) (Or.inl ⟨rfl, ?_⟩) (by assumption) ?_
    rotate_left
    · (intro w' hSw; replace q0 := kept_cell hSw q0; replace q1 := kept_cell hSw q1; replace q2 := kept_cell hSw q2; go_simp; try with_reducible rfl)
    try simp only [Act.put, List.setIfInBounds_toArray, List.set_cons_zero, List.set_cons_succ]
    refine x_take (i := 2) (oi := { dst := some 5, op := Op.fieldAddr 24 (Operand.tmp 1) 1, type := 0, pos := "law.go:232", after := #[], guard := none }) (v := ?_) rfl (by kernel_rfl) (by kernel_rfl) (by kernel_rfl) (by kernel_rfl) (by kernel_rfl) (fun _ _ _ h => h) (Or.inl ⟨rfl, ?_⟩) (by assumption) ?_
    rotate_left
    · (intro w' hSw; replace q0 := kept_cell hSw q0; replace q1 := kept_cell hSw q1; replace q2 := kept_cell hSw q2; go_simp; try with_reducible rfl)
    try simp only [Act.put, List.setIfInBounds_toArray, List.set_cons_zero, List.set_cons_succ]
    refine x_take (i := 3) (oi := { dst := some 6, op := Op.load 3 (Operand.tmp 5), type := 3, pos := "law.go:232", after := #[{ on := 2, ground := Ground.data }], guard := none }) (v := ?_) rfl (by kernel_rfl) (by kernel_rfl) (by kernel_rfl) (by kernel_rfl) (by kernel_rfl) (fun _ _ _ h => h) (Or.inl ⟨rfl, ?_⟩) (by assumption) ?_
    rotate_left
    · (intro w' hSw; replace q0 := kept_cell hSw q0; replace q1 := kept_cell hSw q1; replace q2 := kept_cell hSw q2; go_simp; try with_reducible rfl)
    try simp only [Act.put, List.setIfInBounds_toArray, List.set_cons_zero, List.set_cons_succ]
    refine x_take (i := 5) (oi := { dst := some 8, op := Op.fieldAddr 24 (Operand.tmp 1) 2, type := 0, pos := "law.go:232", after := #[], guard := none }) (v := ?_) rfl (by kernel_rfl) (by kernel_rfl) (by kernel_rfl) (by kernel_rfl) (by kernel_rfl) (fun _ _ _ h => h) (Or.inl ⟨rfl, ?_⟩) (by assumption) ?_
    rotate_left
    · (intro w' hSw; replace q0 := kept_cell hSw q0; replace q1 := kept_cell hSw q1; replace q2 := kept_cell hSw q2; go_simp; try with_reducible rfl)
    try simp only [Act.put, List.setIfInBounds_toArray, List.set_cons_zero, List.set_cons_succ]
    refine x_take (i := 6) (oi := { dst := some 9, op := Op.load 22 (Operand.tmp 8), type := 22, pos := "law.go:232", after := #[{ on := 5, ground := Ground.data }], guard := none }) (v := ?_) rfl (by kernel_rfl) (by kernel_rfl) (by kernel_rfl) (by kernel_rfl) (by kernel_rfl) (fun _ _ _ h => h) (Or.inl ⟨rfl, ?_⟩) (by assumption) ?_
    rotate_left
    · (intro w' hSw; replace q0 := kept_cell hSw q0; replace q1 := kept_cell hSw q1; replace q2 := kept_cell hSw q2; go_simp; try with_reducible rfl)
    try simp only [Act.put, List.setIfInBounds_toArray, List.set_cons_zero, List.set_cons_succ]
    refine x_one (i := 4) (o := { dst := some 7, op := Op.buildSlice 22 0 #[], type := 22, pos := "law.go:232", after := #[], guard := none }) (by kernel_rfl) rfl (fun K hK => ?_)
    go_simp
    refine hK.out _ _ ?_ (fun hHeld => ?_)
    · (try dsimp only); repeat (first | assumption | exact kept_refl _ | refine kept_drew ?_ | refine kept_alloc ?_ _ | refine kept_set ?_ (by omega) _)
    clear hK K
    try simp only [Act.put, List.setIfInBounds_toArray, List.set_cons_zero, List.set_cons_succ]
    refine x_one (i := 7) (o := { dst := some 10, op := Op.call { callee := Callee.builtin Builtin.append, args := #[Operand.tmp 7, Operand.tmp 9], argTypes := #[22, 22] }, type := 22, pos := "law.go:232", after := #[{ on := 4, ground := Ground.data }, { on := 6, ground := Ground.data }], guard := none }) (by kernel_rfl) rfl (fun K hK => ?_)
    (refine step_own W.heap.size rfl (.tmp 7) (.tmp 9) 22 48 (.agg #[.int .i64 0, .int .i64 0, .int .i64 0]) 3 24 rfl Try.underlying22 infoS48 rfl (by omega) (by omega) (.slice (some ⟨W.heap.size, 0, none⟩) 0 0) 0 m c ad [] (ndCells l) rfl rfl (by rw [ndCells_length, HM.out]) (fun j u hu => kept_cell (kept_trans ka hHeld) (HNW.out j u hu)) (ndCells_one l) (HZ.out W) (by simp) (by omega) ?_; intro v7 w7 hr7 hg7 hat7; have KK7 : Kept W w7 := ⟨by rw [hg7.os]; rfl, by rw [hg7.tape]; rfl, by rw [hg7.output]; rfl, by have := hg7.size; simp at this; omega, fun k hk => (hg7.block k (by simp; omega) (fun e => by injection e with e; dsimp only at e; omega)).trans ((kept_drew (kept_alloc (kept_refl W) (.cells #[] 48))).block k hk)⟩; have x5 := a1.kept KK7; have f0 := x5.frozen 0; have f1 := x5.frozen 1; have f2 := x5.frozen 2; have y0 := x5.cell (j := 0) rfl; have y1 := x5.cell (j := 1) rfl; have y2 := x5.cell (j := 2) rfl; rw [Nat.zero_add, List.nil_append] at hr7; obtain ⟨A9, c9, rfl, hr9⟩ := row_form hr7)
    refine hK.out _ _ ?_ (fun hHeld => ?_)
    · (try dsimp only); repeat (first | assumption | exact kept_refl _ | refine kept_drew ?_ | refine kept_alloc ?_ _ | refine kept_set ?_ (by omega) _)
    clear hK K
    try simp only [Act.put, List.setIfInBounds_toArray, List.set_cons_zero, List.set_cons_succ]
    refine x_take (i := 8) (oi := { dst := some 11, op := Op.build 24 #[(0, Operand.tmp 4), (1, Operand.tmp 6), (2, Operand.tmp 10)], type := 24, pos := "law.go:232", after := #[{ on := 1, ground := Ground.data }, { on := 3, ground := Ground.data }, { on := 7, ground := Ground.data }], guard := none }) (v := ?_) rfl (by kernel_rfl) (by kernel_rfl) (by kernel_rfl) (by kernel_rfl) (by kernel_rfl) (fun _ _ _ h => h) (Or.inl ⟨rfl, ?_⟩) (by assumption) ?_
    rotate_left
    · (intro w' hSw; replace q0 := kept_cell hSw q0; replace q1 := kept_cell hSw q1; replace q2 := kept_cell hSw q2; go_simp; try with_reducible rfl)
    try simp only [Act.put, List.setIfInBounds_toArray, List.set_cons_zero, List.set_cons_succ]
    refine x_last (i := 9) (o := { dst := none, op := Op.store 24 (Operand.tmp 2) (Operand.tmp 11), type := 0, pos := "law.go:232", after := #[{ on := 8, ground := Ground.data }, { on := 7, ground := Ground.chain }, { on := 0, ground := Ground.phase }, { on := 1, ground := Ground.phase }, { on := 2, ground := Ground.phase }, { on := 3, ground := Ground.phase }, { on := 4, ground := Ground.phase }, { on := 5, ground := Ground.phase }, { on := 6, ground := Ground.phase }, { on := 7, ground := Ground.phase }, { on := 8, ground := Ground.phase }], guard := none }) (by kernel_rfl) rfl (by simp) (fun K hK => ?_)
    go_simp
    refine hK.out _ _ ?_
    clear hK K
    try simp only [Act.put, List.setIfInBounds_toArray, List.set_cons_zero, List.set_cons_succ]
    refine x_done (by kernel_rfl) ?_ _
    have o3 := ((x5.set 0 (.int .i64 n)).set 1 (.int .i64 s)).set 2 (.slice A9 m c9)
    have pk := kept_set (g := w.heap.size + 1) (j := 2) (kept_set (g := w.heap.size + 1) (j := 1) (kept_set (g := w.heap.size + 1) (j := 0) (kept_trans ka KK7) (by omega) (.int .i64 n)) (by omega) (.int .i64 s)) (by omega) (.slice A9 m c9)
    have pr := ownsRow_setCell_below (ownsRow_setCell_below (ownsRow_setCell_below hr9 (a := ⟨w.heap.size + 1, 0, none⟩) (by dsimp only; omega) (.int .i64 n)) (a := ⟨w.heap.size + 1, 1, none⟩) (by dsimp only; omega) (.int .i64 s)) (a := ⟨w.heap.size + 1, 2, none⟩) (by dsimp only; omega) (.slice A9 m c9)
    obtain ⟨W2, hW2⟩ : ∃ W2, W2 = ((w7.setCell ⟨w.heap.size + 1, 0, none⟩ (.int .i64 n)).setCell ⟨w.heap.size + 1, 1, none⟩ (.int .i64 s)).setCell ⟨w.heap.size + 1, 2, none⟩ (.slice A9 m c9) := ⟨_, rfl⟩
    clear y0 y1 y2 q0 q1 q2 f0 f1 f2 hr7
    go_wp2_with fail
    rw [← hW2] at o3 pk pr ⊢
    clear hW2
    have q0 := o3.cell (j := 0) rfl
    have q1 := o3.cell (j := 1) rfl
    have q2 := o3.cell (j := 2) rfl
    exact bodyPost_ret (v := .agg #[.int .i64 n, .int .i64 s, .slice A9 m c9]) (by simp [results, Try.results48, go_sem, q0, q1, q2]) rfl (by rw [HP.out]; exact ⟨_, rfl, A9, c9, by rw [HM.out], by rw [← HM.out]; exact pr.mono (by omega), pk⟩)
  · have hl0 : l = [] := List.eq_nil_of_length_eq_zero HM.out.symm
    subst hl0
    go_enter Try.func48, Try.ntmps48
    go_wp2_with fail
    rw [← HW.out]
    clear HW
    refine region_x (fun w' => Kept W w') [9] (by kernel_rfl) (kept_drew (kept_refl _)) (fun hHeld => ?_)
    refine x_take (i := 0) (oi := { dst := some 3, op := Op.fieldAddr 24 (Operand.tmp 1) 0, type := 0, pos := "law.go:232", after := #[], guard := none }) (v := ?_) rfl (by kernel_rfl) (by kernel_rfl) (by kernel_rfl) (by kernel_rfl) (by kernel_rfl) (fun _ _ _ h => h) (Or.inl ⟨rfl, ?_⟩) (by assumption) ?_
    rotate_left
    · (intro w' hSw; replace q0 := kept_cell hSw q0; replace q1 := kept_cell hSw q1; replace q2 := kept_cell hSw q2; go_simp; try with_reducible rfl)
    try simp only [Act.put, List.setIfInBounds_toArray, List.set_cons_zero, List.set_cons_succ]
    refine x_take (i := 1) (oi := { dst := some 4, op := Op.load 3 (Operand.tmp 3), type := 3, pos := "law.go:232", after := #[{ on := 0, ground := Ground.data }], guard := none }) (v := ?_) rfl (by kernel_rfl) (by kernel_rfl) (by kernel_rfl) (by kernel_rfl) (by kernel_rfl) (fun _ _ _ h => h) (Or.inl ⟨rfl, ?_⟩) (by assumption) ?_
    rotate_left
    · (intro w' hSw; replace q0 := kept_cell hSw q0; replace q1 := kept_cell hSw q1; replace q2 := kept_cell hSw q2; go_simp; try with_reducible rfl)
    try simp only [Act.put, List.setIfInBounds_toArray, List.set_cons_zero, List.set_cons_succ]
    refine x_take (i := 2) (oi := { dst := some 5, op := Op.fieldAddr 24 (Operand.tmp 1) 1, type := 0, pos := "law.go:232", after := #[], guard := none }) (v := ?_) rfl (by kernel_rfl) (by kernel_rfl) (by kernel_rfl) (by kernel_rfl) (by kernel_rfl) (fun _ _ _ h => h) (Or.inl ⟨rfl, ?_⟩) (by assumption) ?_
    rotate_left
    · (intro w' hSw; replace q0 := kept_cell hSw q0; replace q1 := kept_cell hSw q1; replace q2 := kept_cell hSw q2; go_simp; try with_reducible rfl)
    try simp only [Act.put, List.setIfInBounds_toArray, List.set_cons_zero, List.set_cons_succ]
    refine x_take (i := 3) (oi := { dst := some 6, op := Op.load 3 (Operand.tmp 5), type := 3, pos := "law.go:232", after := #[{ on := 2, ground := Ground.data }], guard := none }) (v := ?_) rfl (by kernel_rfl) (by kernel_rfl) (by kernel_rfl) (by kernel_rfl) (by kernel_rfl) (fun _ _ _ h => h) (Or.inl ⟨rfl, ?_⟩) (by assumption) ?_
    rotate_left
    · (intro w' hSw; replace q0 := kept_cell hSw q0; replace q1 := kept_cell hSw q1; replace q2 := kept_cell hSw q2; go_simp; try with_reducible rfl)
    try simp only [Act.put, List.setIfInBounds_toArray, List.set_cons_zero, List.set_cons_succ]
    refine x_take (i := 5) (oi := { dst := some 8, op := Op.fieldAddr 24 (Operand.tmp 1) 2, type := 0, pos := "law.go:232", after := #[], guard := none }) (v := ?_) rfl (by kernel_rfl) (by kernel_rfl) (by kernel_rfl) (by kernel_rfl) (by kernel_rfl) (fun _ _ _ h => h) (Or.inl ⟨rfl, ?_⟩) (by assumption) ?_
    rotate_left
    · (intro w' hSw; replace q0 := kept_cell hSw q0; replace q1 := kept_cell hSw q1; replace q2 := kept_cell hSw q2; go_simp; try with_reducible rfl)
    try simp only [Act.put, List.setIfInBounds_toArray, List.set_cons_zero, List.set_cons_succ]
    refine x_take (i := 6) (oi := { dst := some 9, op := Op.load 22 (Operand.tmp 8), type := 22, pos := "law.go:232", after := #[{ on := 5, ground := Ground.data }], guard := none }) (v := ?_) rfl (by kernel_rfl) (by kernel_rfl) (by kernel_rfl) (by kernel_rfl) (by kernel_rfl) (fun _ _ _ h => h) (Or.inl ⟨rfl, ?_⟩) (by assumption) ?_
    rotate_left
    · (intro w' hSw; replace q0 := kept_cell hSw q0; replace q1 := kept_cell hSw q1; replace q2 := kept_cell hSw q2; go_simp; try with_reducible rfl)
    try simp only [Act.put, List.setIfInBounds_toArray, List.set_cons_zero, List.set_cons_succ]
    refine x_one (i := 4) (o := { dst := some 7, op := Op.buildSlice 22 0 #[], type := 22, pos := "law.go:232", after := #[], guard := none }) (by kernel_rfl) rfl (fun K hK => ?_)
    go_simp
    refine hK.out _ _ ?_ (fun hHeld => ?_)
    · (try dsimp only); repeat (first | assumption | exact kept_refl _ | refine kept_drew ?_ | refine kept_alloc ?_ _ | refine kept_set ?_ (by omega) _)
    clear hK K
    try simp only [Act.put, List.setIfInBounds_toArray, List.set_cons_zero, List.set_cons_succ]
    refine x_one (i := 7) (o := { dst := some 10, op := Op.call { callee := Callee.builtin Builtin.append, args := #[Operand.tmp 7, Operand.tmp 9], argTypes := #[22, 22] }, type := 22, pos := "law.go:232", after := #[{ on := 4, ground := Ground.data }, { on := 6, ground := Ground.data }], guard := none }) (by kernel_rfl) rfl (fun K hK => ?_)
    (refine step_app0 rfl (.tmp 7) (.tmp 9) 22 48 (.agg #[.int .i64 0, .int .i64 0, .int .i64 0]) 3 24 rfl Try.underlying22 infoS48 W.heap.size 0 0 c (Nat.le_refl _) rfl rfl ?_; have KK7 : Kept W (W.alloc (.cells #[] 48)).drew := hHeld; have hr9 := HZ.out W; have x5 := a1; have f0 := x5.frozen 0; have f1 := x5.frozen 1; have f2 := x5.frozen 2; have y0 := x5.cell (j := 0) rfl; have y1 := x5.cell (j := 1) rfl; have y2 := x5.cell (j := 2) rfl)
    refine hK.out _ _ ?_ (fun hHeld => ?_)
    · (try dsimp only); repeat (first | assumption | exact kept_refl _ | refine kept_drew ?_ | refine kept_alloc ?_ _ | refine kept_set ?_ (by omega) _)
    clear hK K
    try simp only [Act.put, List.setIfInBounds_toArray, List.set_cons_zero, List.set_cons_succ]
    refine x_take (i := 8) (oi := { dst := some 11, op := Op.build 24 #[(0, Operand.tmp 4), (1, Operand.tmp 6), (2, Operand.tmp 10)], type := 24, pos := "law.go:232", after := #[{ on := 1, ground := Ground.data }, { on := 3, ground := Ground.data }, { on := 7, ground := Ground.data }], guard := none }) (v := ?_) rfl (by kernel_rfl) (by kernel_rfl) (by kernel_rfl) (by kernel_rfl) (by kernel_rfl) (fun _ _ _ h => h) (Or.inl ⟨rfl, ?_⟩) (by assumption) ?_
    rotate_left
    · (intro w' hSw; replace q0 := kept_cell hSw q0; replace q1 := kept_cell hSw q1; replace q2 := kept_cell hSw q2; go_simp; try with_reducible rfl)
    try simp only [Act.put, List.setIfInBounds_toArray, List.set_cons_zero, List.set_cons_succ]
    refine x_last (i := 9) (o := { dst := none, op := Op.store 24 (Operand.tmp 2) (Operand.tmp 11), type := 0, pos := "law.go:232", after := #[{ on := 8, ground := Ground.data }, { on := 7, ground := Ground.chain }, { on := 0, ground := Ground.phase }, { on := 1, ground := Ground.phase }, { on := 2, ground := Ground.phase }, { on := 3, ground := Ground.phase }, { on := 4, ground := Ground.phase }, { on := 5, ground := Ground.phase }, { on := 6, ground := Ground.phase }, { on := 7, ground := Ground.phase }, { on := 8, ground := Ground.phase }], guard := none }) (by kernel_rfl) rfl (by simp) (fun K hK => ?_)
    go_simp
    refine hK.out _ _ ?_
    clear hK K
    try simp only [Act.put, List.setIfInBounds_toArray, List.set_cons_zero, List.set_cons_succ]
    refine x_done (by kernel_rfl) ?_ _
    have o3 := ((((a1.set 0 (.int .i64 n)).set 1 (.int .i64 s)).set 2 (.slice (some ⟨W.heap.size, 0, none⟩) 0 0)).alloc (.cells #[] 48)).drew
    have pk := kept_drew (kept_alloc (kept_set (g := w.heap.size + 1) (j := 2) (kept_set (g := w.heap.size + 1) (j := 1) (kept_set (g := w.heap.size + 1) (j := 0) ka (by omega) (.int .i64 n)) (by omega) (.int .i64 s)) (by omega) (.slice (some ⟨W.heap.size, 0, none⟩) 0 0)) (.cells #[] 48))
    have pr := HZ.out (((W.setCell ⟨w.heap.size + 1, 0, none⟩ (.int .i64 n)).setCell ⟨w.heap.size + 1, 1, none⟩ (.int .i64 s)).setCell ⟨w.heap.size + 1, 2, none⟩ (.slice (some ⟨W.heap.size, 0, none⟩) 0 0))
    simp only [World.size_setCell] at pr
    obtain ⟨W2, hW2⟩ : ∃ W2, W2 = ((((W.setCell ⟨w.heap.size + 1, 0, none⟩ (.int .i64 n)).setCell ⟨w.heap.size + 1, 1, none⟩ (.int .i64 s)).setCell ⟨w.heap.size + 1, 2, none⟩ (.slice (some ⟨W.heap.size, 0, none⟩) 0 0)).alloc (.cells #[] 48)).drew := ⟨_, rfl⟩
    clear y0 y1 y2 q0 q1 q2 f0 f1 f2
    go_wp2_with fail
    rw [← hW2] at o3 pk pr ⊢
    clear hW2
    have q0 := o3.cell (j := 0) rfl
    have q1 := o3.cell (j := 1) rfl
    have q2 := o3.cell (j := 2) rfl
    exact bodyPost_ret (v := .agg #[.int .i64 n, .int .i64 s, .slice (some ⟨W.heap.size, 0, none⟩) 0 0]) (by simp [results, Try.results48, go_sem, q0, q1, q2]) rfl (by rw [HP.out]; exact ⟨_, rfl, some ⟨W.heap.size, 0, none⟩, 0, rfl, pr.mono (by omega), pk⟩)
end Go.Proofs.Ytinpmdekdfgiiaa
