/- Polynomials: the law PolyRing, walked. -/
import Derived.Test.YtnjmpjdampdmmaaDoorD2
import Derived.Test.YtnjmpjdampdmmaaDoorC24
set_option linter.unusedVariables false
set_option linter.unusedSimpArgs false
namespace Go.Proofs.YtnjmpjdampdmmaaDoor
open Go.RowKit

set_option maxRecDepth 100000 in
set_option maxHeartbeats 4000000 in
theorem law10_any (P M n : Int) (p : List Tm) (A : Option Addr) (c : Nat) (q : List Tm) (B : Option Addr) (d : Nat) (r : List Tm) (C : Option Addr) (e : Nat) (w : World) (hp : PowOk w) (hP : RP w A p) (hl : p.length ≤ 140737488355328) (hQ : RP w B q) (hl2 : q.length ≤ 140737488355328) (hR : RP w C r) (hl3 : r.length ≤ 140737488355328) :
    Calls Tryd.prog 10 #[fV P M, .int .i64 n, .agg #[.slice A p.length c, .slice B q.length d, .slice C r.length e]] w fun e w' => e = .returned (.bool true) ∧ Kept w w' := by
  have K0 := kept_alloc (kept_refl w) (.cells #[.int .i64 P, .int .i64 M] 23)
  have K1 := kept_alloc K0 (.cells #[.slice A p.length c, .slice B q.length d, .slice C r.length e] 68)
  have o3 := (Own.new w 23 [.int .i64 P, .int .i64 M]).alloc (.cells #[.slice A p.length c, .slice B q.length d, .slice C r.length e] 68)
  have o5 := Own.new (w.alloc (.cells #[.int .i64 P, .int .i64 M] 23)) 68 [.slice A p.length c, .slice B q.length d, .slice C r.length e]
  obtain ⟨w0, hw0⟩ : ∃ w0, w0 = (w.alloc (.cells #[.int .i64 P, .int .i64 M] 23)).alloc (.cells #[.slice A p.length c, .slice B q.length d, .slice C r.length e] 68) := ⟨_, rfl⟩
  have hz0 : (w.alloc (.cells #[.int .i64 P, .int .i64 M] 23)).heap.size = w.heap.size + 1 := by simp
  rw [hz0] at o5
  have o5' : Own w0 (w.heap.size + 1) 68 [.slice A p.length c, .slice B q.length d, .slice C r.length e] := by rw [hw0]; exact o5
  rw [← hw0] at K1 o3
  have HW0 := Lib.hid hw0
  have C13 := Lib.hid fun w' (k : Kept w w') => alive13_any w' (hp.kept k)
  have V1 := Lib.hid fun w' (k : Kept w w') => valid25_any P M n p A c w' (hP.kept k) hl
  have V2 := Lib.hid fun w' (k : Kept w w') => valid25_any P M n q B d w' (hQ.kept k) hl2
  have V3 := Lib.hid fun w' (k : Kept w w') => valid25_any P M n r C e w' (hR.kept k) hl3
  have FEW := Lib.hid fun w1 (k : Kept w w1) => few12_any 60 [p, q, r] (some ⟨w1.heap.size, 0, none⟩) 3 (w1.alloc (.cells #[.slice A p.length c, .slice B q.length d, .slice C r.length e] 25)) (by decide) (by decide) (rpp_three (hP.kept k) (hQ.kept k) (hR.kept k) hl hl2 hl3) (by simp)
  rw [show ([p, q, r] : List (List Tm)).length = 3 from rfl] at FEW
  clear o5 hz0 hw0
  cases hf : fewB 60 [p, q, r] with
  | false =>
    rw [hf] at FEW
    unfold fV at *
    clear hP hQ hR hp hf V1 V2 V3
    go_enter Tryd.func10, Tryd.ntmps10
    go_upto_region 1 with fail
    rw [← HW0.out]
    have x0 := o5'.cell (j := 0) rfl; have x1 := o5'.cell (j := 1) rfl; have x2 := o5'.cell (j := 2) rfl
    refine region_x (fun w' => Kept w0 w') [] (by kernel_rfl) (kept_drew (kept_refl _)) (fun hHeld => ?_)
    refine x_take (i := 0) (oi := { dst := some 34, op := Op.indexAddr 68 (Operand.tmp 5) (Operand.const (Value.int IntKind.i64 0)), type := 0, pos := "law.go:224", after := #[], guard := none }) (v := ?_) rfl (by kernel_rfl) (by kernel_rfl) (by kernel_rfl) (by kernel_rfl) (by kernel_rfl) (fun _ _ _ h => h) (Or.inl ⟨rfl, ?_⟩) (by assumption) ?_
    rotate_left
    · (intro w' hSw; replace x0 := kept_cell hSw x0; replace x1 := kept_cell hSw x1; replace x2 := kept_cell hSw x2; go_simp; try with_reducible rfl)
    try simp only [Act.put, List.setIfInBounds_toArray, List.set_cons_zero, List.set_cons_succ]
    refine x_take (i := 1) (oi := { dst := some 35, op := Op.load 25 (Operand.tmp 34), type := 25, pos := "law.go:224", after := #[{ on := 0, ground := Ground.data }], guard := none }) (v := ?_) rfl (by kernel_rfl) (by kernel_rfl) (by kernel_rfl) (by kernel_rfl) (by kernel_rfl) (fun _ _ _ h => h) (Or.inl ⟨rfl, ?_⟩) (by assumption) ?_
    rotate_left
    · (intro w' hSw; replace x0 := kept_cell hSw x0; replace x1 := kept_cell hSw x1; replace x2 := kept_cell hSw x2; go_simp; try with_reducible rfl)
    try simp only [Act.put, List.setIfInBounds_toArray, List.set_cons_zero, List.set_cons_succ]
    refine x_take (i := 2) (oi := { dst := some 36, op := Op.indexAddr 68 (Operand.tmp 5) (Operand.const (Value.int IntKind.i64 1)), type := 0, pos := "law.go:224", after := #[{ on := 6, ground := Ground.gcOnly Departure.lateStores }], guard := none }) (v := ?_) rfl (by kernel_rfl) (by kernel_rfl) (by kernel_rfl) (by kernel_rfl) (by kernel_rfl) (fun _ _ _ h => h) (Or.inl ⟨rfl, ?_⟩) (by assumption) ?_
    rotate_left
    · (intro w' hSw; replace x0 := kept_cell hSw x0; replace x1 := kept_cell hSw x1; replace x2 := kept_cell hSw x2; go_simp; try with_reducible rfl)
    try simp only [Act.put, List.setIfInBounds_toArray, List.set_cons_zero, List.set_cons_succ]
    refine x_take (i := 3) (oi := { dst := some 37, op := Op.load 25 (Operand.tmp 36), type := 25, pos := "law.go:224", after := #[{ on := 2, ground := Ground.data }, { on := 6, ground := Ground.gcOnly Departure.lateStores }], guard := none }) (v := ?_) rfl (by kernel_rfl) (by kernel_rfl) (by kernel_rfl) (by kernel_rfl) (by kernel_rfl) (fun _ _ _ h => h) (Or.inl ⟨rfl, ?_⟩) (by assumption) ?_
    rotate_left
    · (intro w' hSw; replace x0 := kept_cell hSw x0; replace x1 := kept_cell hSw x1; replace x2 := kept_cell hSw x2; go_simp; try with_reducible rfl)
    try simp only [Act.put, List.setIfInBounds_toArray, List.set_cons_zero, List.set_cons_succ]
    refine x_take (i := 4) (oi := { dst := some 38, op := Op.indexAddr 68 (Operand.tmp 5) (Operand.const (Value.int IntKind.i64 2)), type := 0, pos := "law.go:224", after := #[{ on := 7, ground := Ground.gcOnly Departure.lateStores }], guard := none }) (v := ?_) rfl (by kernel_rfl) (by kernel_rfl) (by kernel_rfl) (by kernel_rfl) (by kernel_rfl) (fun _ _ _ h => h) (Or.inl ⟨rfl, ?_⟩) (by assumption) ?_
    rotate_left
    · (intro w' hSw; replace x0 := kept_cell hSw x0; replace x1 := kept_cell hSw x1; replace x2 := kept_cell hSw x2; go_simp; try with_reducible rfl)
    try simp only [Act.put, List.setIfInBounds_toArray, List.set_cons_zero, List.set_cons_succ]
    refine x_take (i := 5) (oi := { dst := some 39, op := Op.load 25 (Operand.tmp 38), type := 25, pos := "law.go:224", after := #[{ on := 4, ground := Ground.data }, { on := 7, ground := Ground.gcOnly Departure.lateStores }], guard := none }) (v := ?_) rfl (by kernel_rfl) (by kernel_rfl) (by kernel_rfl) (by kernel_rfl) (by kernel_rfl) (fun _ _ _ h => h) (Or.inl ⟨rfl, ?_⟩) (by assumption) ?_
    rotate_left
    · (intro w' hSw; replace x0 := kept_cell hSw x0; replace x1 := kept_cell hSw x1; replace x2 := kept_cell hSw x2; go_simp; try with_reducible rfl)
    try simp only [Act.put, List.setIfInBounds_toArray, List.set_cons_zero, List.set_cons_succ]
    refine x_take (i := 6) (oi := { dst := some 7, op := Op.assign (Operand.tmp 35), type := 25, pos := "law.go:224", after := #[{ on := 1, ground := Ground.data }, { on := 0, ground := Ground.phase }, { on := 1, ground := Ground.phase }, { on := 2, ground := Ground.textOnly Departure.lateStores }, { on := 3, ground := Ground.textOnly Departure.lateStores }, { on := 4, ground := Ground.textOnly Departure.lateStores }, { on := 5, ground := Ground.textOnly Departure.lateStores }], guard := none }) (v := ?_) rfl (by kernel_rfl) (by kernel_rfl) (by kernel_rfl) (by kernel_rfl) (by kernel_rfl) (fun _ _ _ h => h) (Or.inl ⟨rfl, ?_⟩) (by assumption) ?_
    rotate_left
    · (intro w' hSw; replace x0 := kept_cell hSw x0; replace x1 := kept_cell hSw x1; replace x2 := kept_cell hSw x2; go_simp; try with_reducible rfl)
    try simp only [Act.put, List.setIfInBounds_toArray, List.set_cons_zero, List.set_cons_succ]
    refine x_take (i := 7) (oi := { dst := some 8, op := Op.assign (Operand.tmp 37), type := 25, pos := "law.go:224", after := #[{ on := 3, ground := Ground.data }, { on := 6, ground := Ground.chain }, { on := 0, ground := Ground.phase }, { on := 1, ground := Ground.phase }, { on := 2, ground := Ground.phase }, { on := 3, ground := Ground.phase }, { on := 4, ground := Ground.textOnly Departure.lateStores }, { on := 5, ground := Ground.textOnly Departure.lateStores }, { on := 6, ground := Ground.phase }], guard := none }) (v := ?_) rfl (by kernel_rfl) (by kernel_rfl) (by kernel_rfl) (by kernel_rfl) (by kernel_rfl) (fun _ _ _ h => h) (Or.inl ⟨rfl, ?_⟩) (by assumption) ?_
    rotate_left
    · (intro w' hSw; replace x0 := kept_cell hSw x0; replace x1 := kept_cell hSw x1; replace x2 := kept_cell hSw x2; go_simp; try with_reducible rfl)
    try simp only [Act.put, List.setIfInBounds_toArray, List.set_cons_zero, List.set_cons_succ]
    refine x_take (i := 8) (oi := { dst := some 9, op := Op.assign (Operand.tmp 39), type := 25, pos := "law.go:224", after := #[{ on := 5, ground := Ground.data }, { on := 7, ground := Ground.chain }, { on := 0, ground := Ground.phase }, { on := 1, ground := Ground.phase }, { on := 2, ground := Ground.phase }, { on := 3, ground := Ground.phase }, { on := 4, ground := Ground.phase }, { on := 5, ground := Ground.phase }, { on := 6, ground := Ground.phase }, { on := 7, ground := Ground.phase }], guard := none }) (v := ?_) rfl (by kernel_rfl) (by kernel_rfl) (by kernel_rfl) (by kernel_rfl) (by kernel_rfl) (fun _ _ _ h => h) (Or.inl ⟨rfl, ?_⟩) (by assumption) ?_
    rotate_left
    · (intro w' hSw; replace x0 := kept_cell hSw x0; replace x1 := kept_cell hSw x1; replace x2 := kept_cell hSw x2; go_simp; try with_reducible rfl)
    try simp only [Act.put, List.setIfInBounds_toArray, List.set_cons_zero, List.set_cons_succ]
    refine x_done (by kernel_rfl) ?_ _
    clear x0 x1 x2
    have K2 := kept_drew K1
    obtain ⟨w1, hw1⟩ : ∃ w1, w1 = w0.drew := ⟨_, rfl⟩
    have y0 := (o3.kept (kept_drew (kept_refl w0))).cell (j := 0) rfl; have y1 := (o3.kept (kept_drew (kept_refl w0))).cell (j := 1) rfl
    rw [← hw1] at K2 y0 y1 ⊢
    clear hw1
    have D12 := Lib.hid (FEW.out w1 K2)
    have KX := kept_alloc K2 (.cells #[.slice A p.length c, .slice B q.length d, .slice C r.length e] 25)
    replace y0 := kept_cell (kept_alloc (kept_refl w1) (.cells #[.slice A p.length c, .slice B q.length d, .slice C r.length e] 25)) y0
    replace y1 := kept_cell (kept_alloc (kept_refl w1) (.cells #[.slice A p.length c, .slice B q.length d, .slice C r.length e] 25)) y1
    go_wp2_with (first
      | (go_at_call 12; ((with_reducible refine D12.out.mono ?_); rintro e w2 ⟨rfl, rfl⟩))
      | (go_at_call 13; ((with_reducible refine (C13.out _ KX).mono ?_); rintro e w9 ⟨rfl, k9⟩; replace KX := kept_trans KX k9)))
    go_ret
    exact ⟨rfl, KX⟩
  | true =>
    rw [hf] at FEW
    cases hv1 : vld (ordF P M) n p with
    | false =>
      rw [hv1] at V1
      unfold fV at *
      clear hP hQ hR hp hf hv1 V2 V3
      go_enter Tryd.func10, Tryd.ntmps10
      go_upto_region 1 with fail
      rw [← HW0.out]
      have x0 := o5'.cell (j := 0) rfl; have x1 := o5'.cell (j := 1) rfl; have x2 := o5'.cell (j := 2) rfl
      refine region_x (fun w' => Kept w0 w') [] (by kernel_rfl) (kept_drew (kept_refl _)) (fun hHeld => ?_)
      refine x_take (i := 0) (oi := { dst := some 34, op := Op.indexAddr 68 (Operand.tmp 5) (Operand.const (Value.int IntKind.i64 0)), type := 0, pos := "law.go:224", after := #[], guard := none }) (v := ?_) rfl (by kernel_rfl) (by kernel_rfl) (by kernel_rfl) (by kernel_rfl) (by kernel_rfl) (fun _ _ _ h => h) (Or.inl ⟨rfl, ?_⟩) (by assumption) ?_
      rotate_left
      · (intro w' hSw; replace x0 := kept_cell hSw x0; replace x1 := kept_cell hSw x1; replace x2 := kept_cell hSw x2; go_simp; try with_reducible rfl)
      try simp only [Act.put, List.setIfInBounds_toArray, List.set_cons_zero, List.set_cons_succ]
      refine x_take (i := 1) (oi := { dst := some 35, op := Op.load 25 (Operand.tmp 34), type := 25, pos := "law.go:224", after := #[{ on := 0, ground := Ground.data }], guard := none }) (v := ?_) rfl (by kernel_rfl) (by kernel_rfl) (by kernel_rfl) (by kernel_rfl) (by kernel_rfl) (fun _ _ _ h => h) (Or.inl ⟨rfl, ?_⟩) (by assumption) ?_
      rotate_left
      · (intro w' hSw; replace x0 := kept_cell hSw x0; replace x1 := kept_cell hSw x1; replace x2 := kept_cell hSw x2; go_simp; try with_reducible rfl)
      try simp only [Act.put, List.setIfInBounds_toArray, List.set_cons_zero, List.set_cons_succ]
      refine x_take (i := 2) (oi := { dst := some 36, op := Op.indexAddr 68 (Operand.tmp 5) (Operand.const (Value.int IntKind.i64 1)), type := 0, pos := "law.go:224", after := #[{ on := 6, ground := Ground.gcOnly Departure.lateStores }], guard := none }) (v := ?_) rfl (by kernel_rfl) (by kernel_rfl) (by kernel_rfl) (by kernel_rfl) (by kernel_rfl) (fun _ _ _ h => h) (Or.inl ⟨rfl, ?_⟩) (by assumption) ?_
      rotate_left
      · (intro w' hSw; replace x0 := kept_cell hSw x0; replace x1 := kept_cell hSw x1; replace x2 := kept_cell hSw x2; go_simp; try with_reducible rfl)
      try simp only [Act.put, List.setIfInBounds_toArray, List.set_cons_zero, List.set_cons_succ]
      refine x_take (i := 3) (oi := { dst := some 37, op := Op.load 25 (Operand.tmp 36), type := 25, pos := "law.go:224", after := #[{ on := 2, ground := Ground.data }, { on := 6, ground := Ground.gcOnly Departure.lateStores }], guard := none }) (v := ?_) rfl (by kernel_rfl) (by kernel_rfl) (by kernel_rfl) (by kernel_rfl) (by kernel_rfl) (fun _ _ _ h => h) (Or.inl ⟨rfl, ?_⟩) (by assumption) ?_
      rotate_left
      · (intro w' hSw; replace x0 := kept_cell hSw x0; replace x1 := kept_cell hSw x1; replace x2 := kept_cell hSw x2; go_simp; try with_reducible rfl)
      try simp only [Act.put, List.setIfInBounds_toArray, List.set_cons_zero, List.set_cons_succ]
      refine x_take (i := 4) (oi := { dst := some 38, op := Op.indexAddr 68 (Operand.tmp 5) (Operand.const (Value.int IntKind.i64 2)), type := 0, pos := "law.go:224", after := #[{ on := 7, ground := Ground.gcOnly Departure.lateStores }], guard := none }) (v := ?_) rfl (by kernel_rfl) (by kernel_rfl) (by kernel_rfl) (by kernel_rfl) (by kernel_rfl) (fun _ _ _ h => h) (Or.inl ⟨rfl, ?_⟩) (by assumption) ?_
      rotate_left
      · (intro w' hSw; replace x0 := kept_cell hSw x0; replace x1 := kept_cell hSw x1; replace x2 := kept_cell hSw x2; go_simp; try with_reducible rfl)
      try simp only [Act.put, List.setIfInBounds_toArray, List.set_cons_zero, List.set_cons_succ]
      refine x_take (i := 5) (oi := { dst := some 39, op := Op.load 25 (Operand.tmp 38), type := 25, pos := "law.go:224", after := #[{ on := 4, ground := Ground.data }, { on := 7, ground := Ground.gcOnly Departure.lateStores }], guard := none }) (v := ?_) rfl (by kernel_rfl) (by kernel_rfl) (by kernel_rfl) (by kernel_rfl) (by kernel_rfl) (fun _ _ _ h => h) (Or.inl ⟨rfl, ?_⟩) (by assumption) ?_
      rotate_left
      · (intro w' hSw; replace x0 := kept_cell hSw x0; replace x1 := kept_cell hSw x1; replace x2 := kept_cell hSw x2; go_simp; try with_reducible rfl)
      try simp only [Act.put, List.setIfInBounds_toArray, List.set_cons_zero, List.set_cons_succ]
      refine x_take (i := 6) (oi := { dst := some 7, op := Op.assign (Operand.tmp 35), type := 25, pos := "law.go:224", after := #[{ on := 1, ground := Ground.data }, { on := 0, ground := Ground.phase }, { on := 1, ground := Ground.phase }, { on := 2, ground := Ground.textOnly Departure.lateStores }, { on := 3, ground := Ground.textOnly Departure.lateStores }, { on := 4, ground := Ground.textOnly Departure.lateStores }, { on := 5, ground := Ground.textOnly Departure.lateStores }], guard := none }) (v := ?_) rfl (by kernel_rfl) (by kernel_rfl) (by kernel_rfl) (by kernel_rfl) (by kernel_rfl) (fun _ _ _ h => h) (Or.inl ⟨rfl, ?_⟩) (by assumption) ?_
      rotate_left
      · (intro w' hSw; replace x0 := kept_cell hSw x0; replace x1 := kept_cell hSw x1; replace x2 := kept_cell hSw x2; go_simp; try with_reducible rfl)
      try simp only [Act.put, List.setIfInBounds_toArray, List.set_cons_zero, List.set_cons_succ]
      refine x_take (i := 7) (oi := { dst := some 8, op := Op.assign (Operand.tmp 37), type := 25, pos := "law.go:224", after := #[{ on := 3, ground := Ground.data }, { on := 6, ground := Ground.chain }, { on := 0, ground := Ground.phase }, { on := 1, ground := Ground.phase }, { on := 2, ground := Ground.phase }, { on := 3, ground := Ground.phase }, { on := 4, ground := Ground.textOnly Departure.lateStores }, { on := 5, ground := Ground.textOnly Departure.lateStores }, { on := 6, ground := Ground.phase }], guard := none }) (v := ?_) rfl (by kernel_rfl) (by kernel_rfl) (by kernel_rfl) (by kernel_rfl) (by kernel_rfl) (fun _ _ _ h => h) (Or.inl ⟨rfl, ?_⟩) (by assumption) ?_
      rotate_left
      · (intro w' hSw; replace x0 := kept_cell hSw x0; replace x1 := kept_cell hSw x1; replace x2 := kept_cell hSw x2; go_simp; try with_reducible rfl)
      try simp only [Act.put, List.setIfInBounds_toArray, List.set_cons_zero, List.set_cons_succ]
      refine x_take (i := 8) (oi := { dst := some 9, op := Op.assign (Operand.tmp 39), type := 25, pos := "law.go:224", after := #[{ on := 5, ground := Ground.data }, { on := 7, ground := Ground.chain }, { on := 0, ground := Ground.phase }, { on := 1, ground := Ground.phase }, { on := 2, ground := Ground.phase }, { on := 3, ground := Ground.phase }, { on := 4, ground := Ground.phase }, { on := 5, ground := Ground.phase }, { on := 6, ground := Ground.phase }, { on := 7, ground := Ground.phase }], guard := none }) (v := ?_) rfl (by kernel_rfl) (by kernel_rfl) (by kernel_rfl) (by kernel_rfl) (by kernel_rfl) (fun _ _ _ h => h) (Or.inl ⟨rfl, ?_⟩) (by assumption) ?_
      rotate_left
      · (intro w' hSw; replace x0 := kept_cell hSw x0; replace x1 := kept_cell hSw x1; replace x2 := kept_cell hSw x2; go_simp; try with_reducible rfl)
      try simp only [Act.put, List.setIfInBounds_toArray, List.set_cons_zero, List.set_cons_succ]
      refine x_done (by kernel_rfl) ?_ _
      clear x0 x1 x2
      have K2 := kept_drew K1
      obtain ⟨w1, hw1⟩ : ∃ w1, w1 = w0.drew := ⟨_, rfl⟩
      have y0 := (o3.kept (kept_drew (kept_refl w0))).cell (j := 0) rfl; have y1 := (o3.kept (kept_drew (kept_refl w0))).cell (j := 1) rfl
      rw [← hw1] at K2 y0 y1 ⊢
      clear hw1
      have D12 := Lib.hid (FEW.out w1 K2)
      have KX := kept_alloc K2 (.cells #[.slice A p.length c, .slice B q.length d, .slice C r.length e] 25)
      replace y0 := kept_cell (kept_alloc (kept_refl w1) (.cells #[.slice A p.length c, .slice B q.length d, .slice C r.length e] 25)) y0
      replace y1 := kept_cell (kept_alloc (kept_refl w1) (.cells #[.slice A p.length c, .slice B q.length d, .slice C r.length e] 25)) y1
      go_wp2_with (first
        | (go_at_call 12; ((with_reducible refine D12.out.mono ?_); rintro e w2 ⟨rfl, rfl⟩))
        | (go_at_call 25; ((with_reducible refine (V1.out _ KX).mono ?_); rintro e v1w ⟨rfl, v1k⟩; replace KX := kept_trans KX v1k; replace y0 := kept_cell v1k y0; replace y1 := kept_cell v1k y1; (try replace ra := ra.kept v1k); (try replace rb := rb.kept v1k); (try replace rc := rc.kept v1k); (try replace rd := rd.kept v1k); (try replace re := re.kept v1k); (try replace rpq := rpq.kept v1k); (try replace rqp := rqp.kept v1k); (try replace rpr := rpr.kept v1k); (try replace rpd := rpd.kept v1k); (try replace rs := rs.kept v1k); (try replace rone := rone.kept v1k); (try replace rqr := rqr.kept v1k); (try replace rtwo := rtwo.kept v1k)))
        | (go_at_call 13; ((with_reducible refine (C13.out _ KX).mono ?_); rintro e w9 ⟨rfl, k9⟩; replace KX := kept_trans KX k9)))
      go_ret
      exact ⟨rfl, KX⟩
    | true =>
      rw [hv1] at V1
      cases hv2 : vld (ordF P M) n q with
      | false =>
        rw [hv2] at V2
        unfold fV at *
        clear hP hQ hR hp hf hv1 hv2 V3
        go_enter Tryd.func10, Tryd.ntmps10
        go_upto_region 1 with fail
        rw [← HW0.out]
        have x0 := o5'.cell (j := 0) rfl; have x1 := o5'.cell (j := 1) rfl; have x2 := o5'.cell (j := 2) rfl
        refine region_x (fun w' => Kept w0 w') [] (by kernel_rfl) (kept_drew (kept_refl _)) (fun hHeld => ?_)
        refine x_take (i := 0) (oi := { dst := some 34, op := Op.indexAddr 68 (Operand.tmp 5) (Operand.const (Value.int IntKind.i64 0)), type := 0, pos := "law.go:224", after := #[], guard := none }) (v := ?_) rfl (by kernel_rfl) (by kernel_rfl) (by kernel_rfl) (by kernel_rfl) (by kernel_rfl) (fun _ _ _ h => h) (Or.inl ⟨rfl, ?_⟩) (by assumption) ?_
        rotate_left
        · (intro w' hSw; replace x0 := kept_cell hSw x0; replace x1 := kept_cell hSw x1; replace x2 := kept_cell hSw x2; go_simp; try with_reducible rfl)
        try simp only [Act.put, List.setIfInBounds_toArray, List.set_cons_zero, List.set_cons_succ]
        refine x_take (i := 1) (oi := { dst := some 35, op := Op.load 25 (Operand.tmp 34), type := 25, pos := "law.go:224", after := #[{ on := 0, ground := Ground.data }], guard := none }) (v := ?_) rfl (by kernel_rfl) (by kernel_rfl) (by kernel_rfl) (by kernel_rfl) (by kernel_rfl) (fun _ _ _ h => h) (Or.inl ⟨rfl, ?_⟩) (by assumption) ?_
        rotate_left
        · (intro w' hSw; replace x0 := kept_cell hSw x0; replace x1 := kept_cell hSw x1; replace x2 := kept_cell hSw x2; go_simp; try with_reducible rfl)
        try simp only [Act.put, List.setIfInBounds_toArray, List.set_cons_zero, List.set_cons_succ]
        refine x_take (i := 2) (oi := { dst := some 36, op := Op.indexAddr 68 (Operand.tmp 5) (Operand.const (Value.int IntKind.i64 1)), type := 0, pos := "law.go:224", after := #[{ on := 6, ground := Ground.gcOnly Departure.lateStores }], guard := none }) (v := ?_) rfl (by kernel_rfl) (by kernel_rfl) (by kernel_rfl) (by kernel_rfl) (by kernel_rfl) (fun _ _ _ h => h) (Or.inl ⟨rfl, ?_⟩) (by assumption) ?_
        rotate_left
        · (intro w' hSw; replace x0 := kept_cell hSw x0; replace x1 := kept_cell hSw x1; replace x2 := kept_cell hSw x2; go_simp; try with_reducible rfl)
        try simp only [Act.put, List.setIfInBounds_toArray, List.set_cons_zero, List.set_cons_succ]
        refine x_take (i := 3) (oi := { dst := some 37, op := Op.load 25 (Operand.tmp 36), type := 25, pos := "law.go:224", after := #[{ on := 2, ground := Ground.data }, { on := 6, ground := Ground.gcOnly Departure.lateStores }], guard := none }) (v := ?_) rfl (by kernel_rfl) (by kernel_rfl) (by kernel_rfl) (by kernel_rfl) (by kernel_rfl) (fun _ _ _ h => h) (Or.inl ⟨rfl, ?_⟩) (by assumption) ?_
        rotate_left
        · (intro w' hSw; replace x0 := kept_cell hSw x0; replace x1 := kept_cell hSw x1; replace x2 := kept_cell hSw x2; go_simp; try with_reducible rfl)
        try simp only [Act.put, List.setIfInBounds_toArray, List.set_cons_zero, List.set_cons_succ]
        refine x_take (i := 4) (oi := { dst := some 38, op := Op.indexAddr 68 (Operand.tmp 5) (Operand.const (Value.int IntKind.i64 2)), type := 0, pos := "law.go:224", after := #[{ on := 7, ground := Ground.gcOnly Departure.lateStores }], guard := none }) (v := ?_) rfl (by kernel_rfl) (by kernel_rfl) (by kernel_rfl) (by kernel_rfl) (by kernel_rfl) (fun _ _ _ h => h) (Or.inl ⟨rfl, ?_⟩) (by assumption) ?_
        rotate_left
        · (intro w' hSw; replace x0 := kept_cell hSw x0; replace x1 := kept_cell hSw x1; replace x2 := kept_cell hSw x2; go_simp; try with_reducible rfl)
        try simp only [Act.put, List.setIfInBounds_toArray, List.set_cons_zero, List.set_cons_succ]
        refine x_take (i := 5) (oi := { dst := some 39, op := Op.load 25 (Operand.tmp 38), type := 25, pos := "law.go:224", after := #[{ on := 4, ground := Ground.data }, { on := 7, ground := Ground.gcOnly Departure.lateStores }], guard := none }) (v := ?_) rfl (by kernel_rfl) (by kernel_rfl) (by kernel_rfl) (by kernel_rfl) (by kernel_rfl) (fun _ _ _ h => h) (Or.inl ⟨rfl, ?_⟩) (by assumption) ?_
        rotate_left
        · (intro w' hSw; replace x0 := kept_cell hSw x0; replace x1 := kept_cell hSw x1; replace x2 := kept_cell hSw x2; go_simp; try with_reducible rfl)
        try simp only [Act.put, List.setIfInBounds_toArray, List.set_cons_zero, List.set_cons_succ]
        refine x_take (i := 6) (oi := { dst := some 7, op := Op.assign (Operand.tmp 35), type := 25, pos := "law.go:224", after := #[{ on := 1, ground := Ground.data }, { on := 0, ground := Ground.phase }, { on := 1, ground := Ground.phase }, { on := 2, ground := Ground.textOnly Departure.lateStores }, { on := 3, ground := Ground.textOnly Departure.lateStores }, { on := 4, ground := Ground.textOnly Departure.lateStores }, { on := 5, ground := Ground.textOnly Departure.lateStores }], guard := none }) (v := ?_) rfl (by kernel_rfl) (by kernel_rfl) (by kernel_rfl) (by kernel_rfl) (by kernel_rfl) (fun _ _ _ h => h) (Or.inl ⟨rfl, ?_⟩) (by assumption) ?_
        rotate_left
        · (intro w' hSw; replace x0 := kept_cell hSw x0; replace x1 := kept_cell hSw x1; replace x2 := kept_cell hSw x2; go_simp; try with_reducible rfl)
        try simp only [Act.put, List.setIfInBounds_toArray, List.set_cons_zero, List.set_cons_succ]
        refine x_take (i := 7) (oi := { dst := some 8, op := Op.assign (Operand.tmp 37), type := 25, pos := "law.go:224", after := #[{ on := 3, ground := Ground.data }, { on := 6, ground := Ground.chain }, { on := 0, ground := Ground.phase }, { on := 1, ground := Ground.phase }, { on := 2, ground := Ground.phase }, { on := 3, ground := Ground.phase }, { on := 4, ground := Ground.textOnly Departure.lateStores }, { on := 5, ground := Ground.textOnly Departure.lateStores }, { on := 6, ground := Ground.phase }], guard := none }) (v := ?_) rfl (by kernel_rfl) (by kernel_rfl) (by kernel_rfl) (by kernel_rfl) (by kernel_rfl) (fun _ _ _ h => h) (Or.inl ⟨rfl, ?_⟩) (by assumption) ?_
        rotate_left
        · (intro w' hSw; replace x0 := kept_cell hSw x0; replace x1 := kept_cell hSw x1; replace x2 := kept_cell hSw x2; go_simp; try with_reducible rfl)
        try simp only [Act.put, List.setIfInBounds_toArray, List.set_cons_zero, List.set_cons_succ]
        refine x_take (i := 8) (oi := { dst := some 9, op := Op.assign (Operand.tmp 39), type := 25, pos := "law.go:224", after := #[{ on := 5, ground := Ground.data }, { on := 7, ground := Ground.chain }, { on := 0, ground := Ground.phase }, { on := 1, ground := Ground.phase }, { on := 2, ground := Ground.phase }, { on := 3, ground := Ground.phase }, { on := 4, ground := Ground.phase }, { on := 5, ground := Ground.phase }, { on := 6, ground := Ground.phase }, { on := 7, ground := Ground.phase }], guard := none }) (v := ?_) rfl (by kernel_rfl) (by kernel_rfl) (by kernel_rfl) (by kernel_rfl) (by kernel_rfl) (fun _ _ _ h => h) (Or.inl ⟨rfl, ?_⟩) (by assumption) ?_
        rotate_left
        · (intro w' hSw; replace x0 := kept_cell hSw x0; replace x1 := kept_cell hSw x1; replace x2 := kept_cell hSw x2; go_simp; try with_reducible rfl)
        try simp only [Act.put, List.setIfInBounds_toArray, List.set_cons_zero, List.set_cons_succ]
        refine x_done (by kernel_rfl) ?_ _
        clear x0 x1 x2
        have K2 := kept_drew K1
        obtain ⟨w1, hw1⟩ : ∃ w1, w1 = w0.drew := ⟨_, rfl⟩
        have y0 := (o3.kept (kept_drew (kept_refl w0))).cell (j := 0) rfl; have y1 := (o3.kept (kept_drew (kept_refl w0))).cell (j := 1) rfl
        rw [← hw1] at K2 y0 y1 ⊢
        clear hw1
        have D12 := Lib.hid (FEW.out w1 K2)
        have KX := kept_alloc K2 (.cells #[.slice A p.length c, .slice B q.length d, .slice C r.length e] 25)
        replace y0 := kept_cell (kept_alloc (kept_refl w1) (.cells #[.slice A p.length c, .slice B q.length d, .slice C r.length e] 25)) y0
        replace y1 := kept_cell (kept_alloc (kept_refl w1) (.cells #[.slice A p.length c, .slice B q.length d, .slice C r.length e] 25)) y1
        go_wp2_with (first
          | (go_at_call 12; ((with_reducible refine D12.out.mono ?_); rintro e w2 ⟨rfl, rfl⟩))
          | (go_at_call 25; ((with_reducible refine (V1.out _ KX).mono ?_); rintro e v1w ⟨rfl, v1k⟩; replace KX := kept_trans KX v1k; replace y0 := kept_cell v1k y0; replace y1 := kept_cell v1k y1; (try replace ra := ra.kept v1k); (try replace rb := rb.kept v1k); (try replace rc := rc.kept v1k); (try replace rd := rd.kept v1k); (try replace re := re.kept v1k); (try replace rpq := rpq.kept v1k); (try replace rqp := rqp.kept v1k); (try replace rpr := rpr.kept v1k); (try replace rpd := rpd.kept v1k); (try replace rs := rs.kept v1k); (try replace rone := rone.kept v1k); (try replace rqr := rqr.kept v1k); (try replace rtwo := rtwo.kept v1k)))
          | (go_at_call 25; ((with_reducible refine (V2.out _ KX).mono ?_); rintro e v2w ⟨rfl, v2k⟩; replace KX := kept_trans KX v2k; replace y0 := kept_cell v2k y0; replace y1 := kept_cell v2k y1; (try replace ra := ra.kept v2k); (try replace rb := rb.kept v2k); (try replace rc := rc.kept v2k); (try replace rd := rd.kept v2k); (try replace re := re.kept v2k); (try replace rpq := rpq.kept v2k); (try replace rqp := rqp.kept v2k); (try replace rpr := rpr.kept v2k); (try replace rpd := rpd.kept v2k); (try replace rs := rs.kept v2k); (try replace rone := rone.kept v2k); (try replace rqr := rqr.kept v2k); (try replace rtwo := rtwo.kept v2k)))
          | (go_at_call 13; ((with_reducible refine (C13.out _ KX).mono ?_); rintro e w9 ⟨rfl, k9⟩; replace KX := kept_trans KX k9)))
        go_ret
        exact ⟨rfl, KX⟩
      | true =>
        rw [hv2] at V2
        cases hv3 : vld (ordF P M) n r with
        | false =>
          rw [hv3] at V3
          unfold fV at *
          clear hP hQ hR hp hf hv1 hv2 hv3
          go_enter Tryd.func10, Tryd.ntmps10
          go_upto_region 1 with fail
          rw [← HW0.out]
          have x0 := o5'.cell (j := 0) rfl; have x1 := o5'.cell (j := 1) rfl; have x2 := o5'.cell (j := 2) rfl
          refine region_x (fun w' => Kept w0 w') [] (by kernel_rfl) (kept_drew (kept_refl _)) (fun hHeld => ?_)
          refine x_take (i := 0) (oi := { dst := some 34, op := Op.indexAddr 68 (Operand.tmp 5) (Operand.const (Value.int IntKind.i64 0)), type := 0, pos := "law.go:224", after := #[], guard := none }) (v := ?_) rfl (by kernel_rfl) (by kernel_rfl) (by kernel_rfl) (by kernel_rfl) (by kernel_rfl) (fun _ _ _ h => h) (Or.inl ⟨rfl, ?_⟩) (by assumption) ?_
          rotate_left
          · (intro w' hSw; replace x0 := kept_cell hSw x0; replace x1 := kept_cell hSw x1; replace x2 := kept_cell hSw x2; go_simp; try with_reducible rfl)
          try simp only [Act.put, List.setIfInBounds_toArray, List.set_cons_zero, List.set_cons_succ]
          refine x_take (i := 1) (oi := { dst := some 35, op := Op.load 25 (Operand.tmp 34), type := 25, pos := "law.go:224", after := #[{ on := 0, ground := Ground.data }], guard := none }) (v := ?_) rfl (by kernel_rfl) (by kernel_rfl) (by kernel_rfl) (by kernel_rfl) (by kernel_rfl) (fun _ _ _ h => h) (Or.inl ⟨rfl, ?_⟩) (by assumption) ?_
          rotate_left
          · (intro w' hSw; replace x0 := kept_cell hSw x0; replace x1 := kept_cell hSw x1; replace x2 := kept_cell hSw x2; go_simp; try with_reducible rfl)
          try simp only [Act.put, List.setIfInBounds_toArray, List.set_cons_zero, List.set_cons_succ]
          refine x_take (i := 2) (oi := { dst := some 36, op := Op.indexAddr 68 (Operand.tmp 5) (Operand.const (Value.int IntKind.i64 1)), type := 0, pos := "law.go:224", after := #[{ on := 6, ground := Ground.gcOnly Departure.lateStores }], guard := none }) (v := ?_) rfl (by kernel_rfl) (by kernel_rfl) (by kernel_rfl) (by kernel_rfl) (by kernel_rfl) (fun _ _ _ h => h) (Or.inl ⟨rfl, ?_⟩) (by assumption) ?_
          rotate_left
          · (intro w' hSw; replace x0 := kept_cell hSw x0; replace x1 := kept_cell hSw x1; replace x2 := kept_cell hSw x2; go_simp; try with_reducible rfl)
          try simp only [Act.put, List.setIfInBounds_toArray, List.set_cons_zero, List.set_cons_succ]
          refine x_take (i := 3) (oi := { dst := some 37, op := Op.load 25 (Operand.tmp 36), type := 25, pos := "law.go:224", after := #[{ on := 2, ground := Ground.data }, { on := 6, ground := Ground.gcOnly Departure.lateStores }], guard := none }) (v := ?_) rfl (by kernel_rfl) (by kernel_rfl) (by kernel_rfl) (by kernel_rfl) (by kernel_rfl) (fun _ _ _ h => h) (Or.inl ⟨rfl, ?_⟩) (by assumption) ?_
          rotate_left
          · (intro w' hSw; replace x0 := kept_cell hSw x0; replace x1 := kept_cell hSw x1; replace x2 := kept_cell hSw x2; go_simp; try with_reducible rfl)
          try simp only [Act.put, List.setIfInBounds_toArray, List.set_cons_zero, List.set_cons_succ]
          refine x_take (i := 4) (oi := { dst := some 38, op := Op.indexAddr 68 (Operand.tmp 5) (Operand.const (Value.int IntKind.i64 2)), type := 0, pos := "law.go:224", after := #[{ on := 7, ground := Ground.gcOnly Departure.lateStores }], guard := none }) (v := ?_) rfl (by kernel_rfl) (by kernel_rfl) (by kernel_rfl) (by kernel_rfl) (by kernel_rfl) (fun _ _ _ h => h) (Or.inl ⟨rfl, ?_⟩) (by assumption) ?_
          rotate_left
          · (intro w' hSw; replace x0 := kept_cell hSw x0; replace x1 := kept_cell hSw x1; replace x2 := kept_cell hSw x2; go_simp; try with_reducible rfl)
          try simp only [Act.put, List.setIfInBounds_toArray, List.set_cons_zero, List.set_cons_succ]
          refine x_take (i := 5) (oi := { dst := some 39, op := Op.load 25 (Operand.tmp 38), type := 25, pos := "law.go:224", after := #[{ on := 4, ground := Ground.data }, { on := 7, ground := Ground.gcOnly Departure.lateStores }], guard := none }) (v := ?_) rfl (by kernel_rfl) (by kernel_rfl) (by kernel_rfl) (by kernel_rfl) (by kernel_rfl) (fun _ _ _ h => h) (Or.inl ⟨rfl, ?_⟩) (by assumption) ?_
          rotate_left
          · (intro w' hSw; replace x0 := kept_cell hSw x0; replace x1 := kept_cell hSw x1; replace x2 := kept_cell hSw x2; go_simp; try with_reducible rfl)
          try simp only [Act.put, List.setIfInBounds_toArray, List.set_cons_zero, List.set_cons_succ]
          refine x_take (i := 6) (oi := { dst := some 7, op := Op.assign (Operand.tmp 35), type := 25, pos := "law.go:224", after := #[{ on := 1, ground := Ground.data }, { on := 0, ground := Ground.phase }, { on := 1, ground := Ground.phase }, { on := 2, ground := Ground.textOnly Departure.lateStores }, { on := 3, ground := Ground.textOnly Departure.lateStores }, { on := 4, ground := Ground.textOnly Departure.lateStores }, { on := 5, ground := Ground.textOnly Departure.lateStores }], guard := none }) (v := ?_) rfl (by kernel_rfl) (by kernel_rfl) (by kernel_rfl) (by kernel_rfl) (by kernel_rfl) (fun _ _ _ h => h) (Or.inl ⟨rfl, ?_⟩) (by assumption) ?_
          rotate_left
          · (intro w' hSw; replace x0 := kept_cell hSw x0; replace x1 := kept_cell hSw x1; replace x2 := kept_cell hSw x2; go_simp; try with_reducible rfl)
          try simp only [Act.put, List.setIfInBounds_toArray, List.set_cons_zero, List.set_cons_succ]
          refine x_take (i := 7) (oi := { dst := some 8, op := Op.assign (Operand.tmp 37), type := 25, pos := "law.go:224", after := #[{ on := 3, ground := Ground.data }, { on := 6, ground := Ground.chain }, { on := 0, ground := Ground.phase }, { on := 1, ground := Ground.phase }, { on := 2, ground := Ground.phase }, { on := 3, ground := Ground.phase }, { on := 4, ground := Ground.textOnly Departure.lateStores }, { on := 5, ground := Ground.textOnly Departure.lateStores }, { on := 6, ground := Ground.phase }], guard := none }) (v := ?_) rfl (by kernel_rfl) (by kernel_rfl) (by kernel_rfl) (by kernel_rfl) (by kernel_rfl) (fun _ _ _ h => h) (Or.inl ⟨rfl, ?_⟩) (by assumption) ?_
          rotate_left
          · (intro w' hSw; replace x0 := kept_cell hSw x0; replace x1 := kept_cell hSw x1; replace x2 := kept_cell hSw x2; go_simp; try with_reducible rfl)
          try simp only [Act.put, List.setIfInBounds_toArray, List.set_cons_zero, List.set_cons_succ]
          refine x_take (i := 8) (oi := { dst := some 9, op := Op.assign (Operand.tmp 39), type := 25, pos := "law.go:224", after := #[{ on := 5, ground := Ground.data }, { on := 7, ground := Ground.chain }, { on := 0, ground := Ground.phase }, { on := 1, ground := Ground.phase }, { on := 2, ground := Ground.phase }, { on := 3, ground := Ground.phase }, { on := 4, ground := Ground.phase }, { on := 5, ground := Ground.phase }, { on := 6, ground := Ground.phase }, { on := 7, ground := Ground.phase }], guard := none }) (v := ?_) rfl (by kernel_rfl) (by kernel_rfl) (by kernel_rfl) (by kernel_rfl) (by kernel_rfl) (fun _ _ _ h => h) (Or.inl ⟨rfl, ?_⟩) (by assumption) ?_
          rotate_left
          · (intro w' hSw; replace x0 := kept_cell hSw x0; replace x1 := kept_cell hSw x1; replace x2 := kept_cell hSw x2; go_simp; try with_reducible rfl)
          try simp only [Act.put, List.setIfInBounds_toArray, List.set_cons_zero, List.set_cons_succ]
          refine x_done (by kernel_rfl) ?_ _
          clear x0 x1 x2
          have K2 := kept_drew K1
          obtain ⟨w1, hw1⟩ : ∃ w1, w1 = w0.drew := ⟨_, rfl⟩
          have y0 := (o3.kept (kept_drew (kept_refl w0))).cell (j := 0) rfl; have y1 := (o3.kept (kept_drew (kept_refl w0))).cell (j := 1) rfl
          rw [← hw1] at K2 y0 y1 ⊢
          clear hw1
          have D12 := Lib.hid (FEW.out w1 K2)
          have KX := kept_alloc K2 (.cells #[.slice A p.length c, .slice B q.length d, .slice C r.length e] 25)
          replace y0 := kept_cell (kept_alloc (kept_refl w1) (.cells #[.slice A p.length c, .slice B q.length d, .slice C r.length e] 25)) y0
          replace y1 := kept_cell (kept_alloc (kept_refl w1) (.cells #[.slice A p.length c, .slice B q.length d, .slice C r.length e] 25)) y1
          go_wp2_with (first
            | (go_at_call 12; ((with_reducible refine D12.out.mono ?_); rintro e w2 ⟨rfl, rfl⟩))
            | (go_at_call 25; ((with_reducible refine (V1.out _ KX).mono ?_); rintro e v1w ⟨rfl, v1k⟩; replace KX := kept_trans KX v1k; replace y0 := kept_cell v1k y0; replace y1 := kept_cell v1k y1; (try replace ra := ra.kept v1k); (try replace rb := rb.kept v1k); (try replace rc := rc.kept v1k); (try replace rd := rd.kept v1k); (try replace re := re.kept v1k); (try replace rpq := rpq.kept v1k); (try replace rqp := rqp.kept v1k); (try replace rpr := rpr.kept v1k); (try replace rpd := rpd.kept v1k); (try replace rs := rs.kept v1k); (try replace rone := rone.kept v1k); (try replace rqr := rqr.kept v1k); (try replace rtwo := rtwo.kept v1k)))
            | (go_at_call 25; ((with_reducible refine (V2.out _ KX).mono ?_); rintro e v2w ⟨rfl, v2k⟩; replace KX := kept_trans KX v2k; replace y0 := kept_cell v2k y0; replace y1 := kept_cell v2k y1; (try replace ra := ra.kept v2k); (try replace rb := rb.kept v2k); (try replace rc := rc.kept v2k); (try replace rd := rd.kept v2k); (try replace re := re.kept v2k); (try replace rpq := rpq.kept v2k); (try replace rqp := rqp.kept v2k); (try replace rpr := rpr.kept v2k); (try replace rpd := rpd.kept v2k); (try replace rs := rs.kept v2k); (try replace rone := rone.kept v2k); (try replace rqr := rqr.kept v2k); (try replace rtwo := rtwo.kept v2k)))
            | (go_at_call 25; ((with_reducible refine (V3.out _ KX).mono ?_); rintro e v3w ⟨rfl, v3k⟩; replace KX := kept_trans KX v3k; replace y0 := kept_cell v3k y0; replace y1 := kept_cell v3k y1; (try replace ra := ra.kept v3k); (try replace rb := rb.kept v3k); (try replace rc := rc.kept v3k); (try replace rd := rd.kept v3k); (try replace re := re.kept v3k); (try replace rpq := rpq.kept v3k); (try replace rqp := rqp.kept v3k); (try replace rpr := rpr.kept v3k); (try replace rpd := rpd.kept v3k); (try replace rs := rs.kept v3k); (try replace rone := rone.kept v3k); (try replace rqr := rqr.kept v3k); (try replace rtwo := rtwo.kept v3k)))
            | (go_at_call 13; ((with_reducible refine (C13.out _ KX).mono ?_); rintro e w9 ⟨rfl, k9⟩; replace KX := kept_trans KX k9)))
          go_ret
          exact ⟨rfl, KX⟩
        | true =>
          rw [hv3] at V3
          have ok := vld_ok hv1
          have F := fldF ok
          have cp := vld_canon hv1
          have cq := vld_canon hv2
          have cr := vld_canon hv3
          obtain ⟨zp, zq, zr, zz⟩ := few_sizes hf cp cq cr
          -- the sums
          obtain ⟨La, hLa⟩ : ∃ La, La = adT P M p q := ⟨_, rfl⟩
          obtain ⟨Ld, hLd⟩ : ∃ Ld, Ld = adT P M q r := ⟨_, rfl⟩
          obtain ⟨Lc, hLc⟩ : ∃ Lc, Lc = adT P M La r := ⟨_, rfl⟩
          have va : vld (ordF P M) n La = true := by rw [hLa]; exact ad_vld hv1 hv2 (by omega)
          have vd : vld (ordF P M) n Ld = true := by rw [hLd]; exact ad_vld hv2 hv3 (by omega)
          have za : La.length ≤ 60 := by rw [hLa]; exact Nat.le_trans ad_len (by omega)
          have zd : Ld.length ≤ 60 := by rw [hLd]; exact Nat.le_trans ad_len (by omega)
          have zc : Lc.length ≤ 90 := by rw [hLc]; exact Nat.le_trans ad_len (by omega)
          have eba : adT P M q p = La := by rw [hLa]; exact ad_comm F cq cp
          have eec : adT P M p Ld = Lc := by rw [hLc, hLa, hLd]; exact (ad_assoc F cp cq cr).symm
          have S1 := Lib.hid fun w' (k : Kept w w') => add39_any P M n p q A B c d w' (hP.kept k) (hQ.kept k) hv1 hv2 (by omega)
          have S2 := Lib.hid fun w' (k : Kept w w') => add39_any P M n q p B A d c w' (hQ.kept k) (hP.kept k) hv2 hv1 (by omega)
          have S3 := Lib.hid fun w' A' c' (h : RP w' A' La) (k : Kept w w') => add39_any P M n La r A' C c' e w' h (hR.kept k) va hv3 (by omega)
          have S4 := Lib.hid fun w' (k : Kept w w') => add39_any P M n q r B C d e w' (hQ.kept k) (hR.kept k) hv2 hv3 (by omega)
          have S5 := Lib.hid fun w' A' c' (h : RP w' A' Ld) (k : Kept w w') => add39_any P M n p Ld A A' c c' w' (hP.kept k) h hv1 vd (by omega)
          unfold AddB at S1 S2 S3 S4 S5
          rw [← hLa] at S1
          rw [eba] at S2
          rw [← hLc] at S3
          rw [← hLd] at S4
          rw [eec] at S5
          have E1 := Lib.hid fun w' A' B' c' d' h1 h2 => same38_any La La A' B' c' d' w' h1 h2 (by omega) (by omega)
          have E2 := Lib.hid fun w' A' B' c' d' h1 h2 => same38_any Lc Lc A' B' c' d' w' h1 h2 (by omega) (by omega)
          rw [show decide (La = La) = true by simp] at E1
          rw [show decide (Lc = Lc) = true by simp] at E2
          -- the products
          have pd1 : p.length * q.length ≤ 900 := Nat.mul_le_mul zp zq
          have pd2 : p.length * r.length ≤ 900 := Nat.mul_le_mul zp zr
          have pd3 : p.length * Ld.length ≤ 1800 := Nat.mul_le_mul zp zd
          have pd4 : q.length * r.length ≤ 900 := Nat.mul_le_mul zq zr
          have pd5 : q.length * p.length ≤ 900 := Nat.mul_le_mul zq zp
          obtain ⟨PQ, hPQ⟩ : ∃ PQ, PQ = mulO P M p q := ⟨_, rfl⟩
          obtain ⟨PR, hPR⟩ : ∃ PR, PR = mulO P M p r := ⟨_, rfl⟩
          obtain ⟨PD, hPD⟩ : ∃ PD, PD = mulO P M p Ld := ⟨_, rfl⟩
          obtain ⟨QR, hQR⟩ : ∃ QR, QR = mulO P M q r := ⟨_, rfl⟩
          have vPQ : vld (ordF P M) n PQ = true := by rw [hPQ]; exact mulO_vld hv1 hv2 (by omega)
          have vPR : vld (ordF P M) n PR = true := by rw [hPR]; exact mulO_vld hv1 hv3 (by omega)
          have vQR : vld (ordF P M) n QR = true := by rw [hQR]; exact mulO_vld hv2 hv3 (by omega)
          have zPQ : PQ.length ≤ 900 := by rw [hPQ]; exact Nat.le_trans (mulO_len hv1 hv2) pd1
          have zPR : PR.length ≤ 900 := by rw [hPR]; exact Nat.le_trans (mulO_len hv1 hv3) pd2
          have zPD : PD.length ≤ 1800 := by rw [hPD]; exact Nat.le_trans (mulO_len hv1 vd) pd3
          have zQR : QR.length ≤ q.length * r.length := by rw [hQR]; exact mulO_len hv2 hv3
          have eqp : mulO P M q p = PQ := by
            rw [hPQ]; unfold mulO; rw [noOv_comm (p := q), prT_prd hv2 hv1, prT_prd hv1 hv2, prd_comm F cq cp]
          have M1 := Lib.hid fun w' (k : Kept w w') => mul40_any P M n p q A B c d w' (hP.kept k) (hQ.kept k) hv1 hv2 (by omega)
          have M2 := Lib.hid fun w' (k : Kept w w') => mul40_any P M n q p B A d c w' (hQ.kept k) (hP.kept k) hv2 hv1 (by omega)
          have M3 := Lib.hid fun w' (k : Kept w w') => mul40_any P M n p r A C c e w' (hP.kept k) (hR.kept k) hv1 hv3 (by omega)
          have M4 := Lib.hid fun w' A' c' (h : RP w' A' Ld) (k : Kept w w') => mul40_any P M n p Ld A A' c c' w' (hP.kept k) h hv1 vd (by omega)
          unfold MulB at M1 M2 M3 M4
          rw [← hPQ] at M1
          rw [eqp, noOv_comm (p := q)] at M2
          rw [← hPR] at M3
          rw [← hPD] at M4
          obtain ⟨b1, hb1⟩ : ∃ b1, b1 = noOv p q := ⟨_, rfl⟩
          obtain ⟨b2, hb2⟩ : ∃ b2, b2 = noOv p r := ⟨_, rfl⟩
          obtain ⟨b3, hb3⟩ : ∃ b3, b3 = noOv p Ld := ⟨_, rfl⟩
          rw [← hb1] at M1 M2
          rw [← hb2] at M3
          rw [← hb3] at M4
          -- what the later steps want, should all three be within the limits
          have ALL := Lib.hid (show b1 = true → b2 = true → b3 = true → adT P M PQ PR = PD ∧ (degP PQ = degP p + degP q ∨ p.length = 0 ∨ q.length = 0) ∧ (p.length = 0 ∨ q.length = 0 → PQ.length = 0) ∧ (noOv PQ r = true → noOv q r = true → noOv p QR = true → mulO P M PQ r = mulO P M p QR) from fun h1 h2 h3 => by
            rw [hb1] at h1
            rw [hb2] at h2
            rw [hb3] at h3
            have ePQ : PQ = prd (addF P M) (mulF P M) p q := by rw [hPQ]; unfold mulO; rw [if_pos h1, prT_prd hv1 hv2]
            have ePR : PR = prd (addF P M) (mulF P M) p r := by rw [hPR]; unfold mulO; rw [if_pos h2, prT_prd hv1 hv3]
            have ePD : PD = prd (addF P M) (mulF P M) p Ld := by rw [hPD]; unfold mulO; rw [if_pos h3, prT_prd hv1 vd]
            refine ⟨by rw [ePQ, ePR, ePD, hLd]; exact (prd_distr F cp cq cr).symm, ?_, ?_, fun k1 k2 k3 => ?_⟩
            · rcases Nat.eq_zero_or_pos p.length with h | h
              · exact .inr (.inl h)
              · rcases Nat.eq_zero_or_pos q.length with h' | h'
                · exact .inr (.inr h')
                · left
                  rw [ePQ]
                  exact deg_prd F cp cq (List.ne_nil_of_length_pos h) (List.ne_nil_of_length_pos h') (fun t ht x hx => (vld_exps hv1 t ht x hx).1) (fun t ht x hx => (vld_exps hv2 t ht x hx).1)
            · rintro (h | h)
              · have h5 : p.length * q.length = 0 := by rw [h, Nat.zero_mul]
                have := mulO_len (P := P) (M := M) hv1 hv2
                rw [← hPQ, h5] at this
                omega
              · have h5 : p.length * q.length = 0 := by rw [h, Nat.mul_zero]
                have := mulO_len (P := P) (M := M) hv1 hv2
                rw [← hPQ, h5] at this
                omega
            · have eQR : QR = prd (addF P M) (mulF P M) q r := by rw [hQR]; unfold mulO; rw [if_pos k2, prT_prd hv2 hv3]
              unfold mulO
              rw [if_pos k1, if_pos k3, prT_prd vPQ hv3, prT_prd hv1 vQR, ePQ, eQR, prd_assoc F cp cq cr])
          have S6 := Lib.hid fun w' A' c' B' d' (h : RP w' A' PQ) (h2 : RP w' B' PR) => add39_any P M n PQ PR A' B' c' d' w' h h2 vPQ vPR (by omega)
          have G1 := Lib.hid fun w' (k : Kept w w') => degree23_any P M n p A c w' (hP.kept k) hv1
          have G2 := Lib.hid fun w' (k : Kept w w') => degree23_any P M n q B d w' (hQ.kept k) hv2
          have G3 := Lib.hid fun w' A' c' (h : RP w' A' PQ) => degree23_any P M n PQ A' c' w' h vPQ
          have E3 := Lib.hid fun w' A' B' c' d' h1 h2 => same38_any PQ PQ A' B' c' d' w' h1 h2 (by omega) (by omega)
          have E4 := Lib.hid fun w' A' B' c' d' h1 h2 => same38_any PD PD A' B' c' d' w' h1 h2 (by omega) (by omega)
          rw [show decide (PQ = PQ) = true by simp] at E3
          rw [show decide (PD = PD) = true by simp] at E4
          have zz2 : PQ.length * r.length ≤ 20000 := Nat.le_trans (Nat.mul_le_mul_right _ (by rw [hPQ]; exact mulO_len hv1 hv2)) zz
          have zz3 : p.length * QR.length ≤ 20000 := Nat.le_trans (Nat.mul_le_mul_left _ zQR) (by rw [← Nat.mul_assoc]; exact zz)
          have M5 := Lib.hid fun w' A' c' (h : RP w' A' PQ) (k : Kept w w') => mul40_any P M n PQ r A' C c' e w' h (hR.kept k) vPQ hv3 zz2
          have M6 := Lib.hid fun w' (k : Kept w w') => mul40_any P M n q r B C d e w' (hQ.kept k) (hR.kept k) hv2 hv3 (by omega)
          have M7 := Lib.hid fun w' A' c' (h : RP w' A' QR) (k : Kept w w') => mul40_any P M n p QR A A' c c' w' (hP.kept k) h hv1 vQR zz3
          obtain ⟨L1, hL1⟩ : ∃ L1, L1 = mulO P M PQ r := ⟨_, rfl⟩
          obtain ⟨L2, hL2⟩ : ∃ L2, L2 = mulO P M p QR := ⟨_, rfl⟩
          have z1 : L1.length ≤ 20000 := by rw [hL1]; exact Nat.le_trans (mulO_len vPQ hv3) zz2
          have z2 : L2.length ≤ 20000 := by rw [hL2]; exact Nat.le_trans (mulO_len hv1 vQR) zz3
          unfold MulB at M5 M6 M7
          unfold AddB at S6
          rw [← hL1] at M5
          rw [← hQR] at M6
          rw [← hL2] at M7
          rw [← hL1, ← hL2] at ALL
          obtain ⟨b4, hb4⟩ : ∃ b4, b4 = noOv PQ r := ⟨_, rfl⟩
          obtain ⟨b5, hb5⟩ : ∃ b5, b5 = noOv q r := ⟨_, rfl⟩
          obtain ⟨b6, hb6⟩ : ∃ b6, b6 = noOv p QR := ⟨_, rfl⟩
          rw [← hb4] at M5 ALL
          rw [← hb5] at M6 ALL
          rw [← hb6] at M7 ALL
          have E5 := Lib.hid fun w' A' B' c' d' h1 h2 => same38_any L1 L1 A' B' c' d' w' h1 h2 (by omega) (by omega)
          rw [show decide (L1 = L1) = true by simp] at E5
          have g1 := deg_range hv1
          have g2 := deg_range hv2
          have g3 := deg_range vPQ
          obtain ⟨dp, hdp⟩ : ∃ dp, dp = degP p := ⟨_, rfl⟩
          obtain ⟨dq, hdq⟩ : ∃ dq, dq = degP q := ⟨_, rfl⟩
          obtain ⟨dz, hdz⟩ : ∃ dz, dz = degP PQ := ⟨_, rfl⟩
          rw [← hdp] at G1 g1 ALL
          rw [← hdq] at G2 g2 ALL
          rw [← hdz] at G3 g3 ALL
          obtain ⟨N, hN⟩ : ∃ N, N = p.length * q.length := ⟨_, rfl⟩
          have HN := Lib.hid hN
          have hN900 : N ≤ 900 := by rw [hN]; exact pd1
          unfold fV at *
          clear hP hQ hR hp hf hv1 hv2 hv3 ok F cp cq cr hLa hLd hLc va vd eba eec hPQ hPR hPD hQR vPQ vPR vQR eqp hb1 hb2 hb3 hb4 hb5 hb6 hL1 hL2 hdp hdq hdz hN pd1 pd2 pd3 pd4 pd5 zz zz2 zz3
          go_enter Tryd.func10, Tryd.ntmps10
          go_upto_region 1 with fail
          rw [← HW0.out]
          have x0 := o5'.cell (j := 0) rfl; have x1 := o5'.cell (j := 1) rfl; have x2 := o5'.cell (j := 2) rfl
          refine region_x (fun w' => Kept w0 w') [] (by kernel_rfl) (kept_drew (kept_refl _)) (fun hHeld => ?_)
          refine x_take (i := 0) (oi := { dst := some 34, op := Op.indexAddr 68 (Operand.tmp 5) (Operand.const (Value.int IntKind.i64 0)), type := 0, pos := "law.go:224", after := #[], guard := none }) (v := ?_) rfl (by kernel_rfl) (by kernel_rfl) (by kernel_rfl) (by kernel_rfl) (by kernel_rfl) (fun _ _ _ h => h) (Or.inl ⟨rfl, ?_⟩) (by assumption) ?_
          rotate_left
          · (intro w' hSw; replace x0 := kept_cell hSw x0; replace x1 := kept_cell hSw x1; replace x2 := kept_cell hSw x2; go_simp; try with_reducible rfl)
          try simp only [Act.put, List.setIfInBounds_toArray, List.set_cons_zero, List.set_cons_succ]
          refine x_take (i := 1) (oi := { dst := some 35, op := Op.load 25 (Operand.tmp 34), type := 25, pos := "law.go:224", after := #[{ on := 0, ground := Ground.data }], guard := none }) (v := ?_) rfl (by kernel_rfl) (by kernel_rfl) (by kernel_rfl) (by kernel_rfl) (by kernel_rfl) (fun _ _ _ h => h) (Or.inl ⟨rfl, ?_⟩) (by assumption) ?_
          rotate_left
          · (intro w' hSw; replace x0 := kept_cell hSw x0; replace x1 := kept_cell hSw x1; replace x2 := kept_cell hSw x2; go_simp; try with_reducible rfl)
          try simp only [Act.put, List.setIfInBounds_toArray, List.set_cons_zero, List.set_cons_succ]
          refine x_take (i := 2) (oi := { dst := some 36, op := Op.indexAddr 68 (Operand.tmp 5) (Operand.const (Value.int IntKind.i64 1)), type := 0, pos := "law.go:224", after := #[{ on := 6, ground := Ground.gcOnly Departure.lateStores }], guard := none }) (v := ?_) rfl (by kernel_rfl) (by kernel_rfl) (by kernel_rfl) (by kernel_rfl) (by kernel_rfl) (fun _ _ _ h => h) (Or.inl ⟨rfl, ?_⟩) (by assumption) ?_
          rotate_left
          · (intro w' hSw; replace x0 := kept_cell hSw x0; replace x1 := kept_cell hSw x1; replace x2 := kept_cell hSw x2; go_simp; try with_reducible rfl)
          try simp only [Act.put, List.setIfInBounds_toArray, List.set_cons_zero, List.set_cons_succ]
          refine x_take (i := 3) (oi := { dst := some 37, op := Op.load 25 (Operand.tmp 36), type := 25, pos := "law.go:224", after := #[{ on := 2, ground := Ground.data }, { on := 6, ground := Ground.gcOnly Departure.lateStores }], guard := none }) (v := ?_) rfl (by kernel_rfl) (by kernel_rfl) (by kernel_rfl) (by kernel_rfl) (by kernel_rfl) (fun _ _ _ h => h) (Or.inl ⟨rfl, ?_⟩) (by assumption) ?_
          rotate_left
          · (intro w' hSw; replace x0 := kept_cell hSw x0; replace x1 := kept_cell hSw x1; replace x2 := kept_cell hSw x2; go_simp; try with_reducible rfl)
          try simp only [Act.put, List.setIfInBounds_toArray, List.set_cons_zero, List.set_cons_succ]
          refine x_take (i := 4) (oi := { dst := some 38, op := Op.indexAddr 68 (Operand.tmp 5) (Operand.const (Value.int IntKind.i64 2)), type := 0, pos := "law.go:224", after := #[{ on := 7, ground := Ground.gcOnly Departure.lateStores }], guard := none }) (v := ?_) rfl (by kernel_rfl) (by kernel_rfl) (by kernel_rfl) (by kernel_rfl) (by kernel_rfl) (fun _ _ _ h => h) (Or.inl ⟨rfl, ?_⟩) (by assumption) ?_
          rotate_left
          · (intro w' hSw; replace x0 := kept_cell hSw x0; replace x1 := kept_cell hSw x1; replace x2 := kept_cell hSw x2; go_simp; try with_reducible rfl)
          try simp only [Act.put, List.setIfInBounds_toArray, List.set_cons_zero, List.set_cons_succ]
          refine x_take (i := 5) (oi := { dst := some 39, op := Op.load 25 (Operand.tmp 38), type := 25, pos := "law.go:224", after := #[{ on := 4, ground := Ground.data }, { on := 7, ground := Ground.gcOnly Departure.lateStores }], guard := none }) (v := ?_) rfl (by kernel_rfl) (by kernel_rfl) (by kernel_rfl) (by kernel_rfl) (by kernel_rfl) (fun _ _ _ h => h) (Or.inl ⟨rfl, ?_⟩) (by assumption) ?_
          rotate_left
          · (intro w' hSw; replace x0 := kept_cell hSw x0; replace x1 := kept_cell hSw x1; replace x2 := kept_cell hSw x2; go_simp; try with_reducible rfl)
          try simp only [Act.put, List.setIfInBounds_toArray, List.set_cons_zero, List.set_cons_succ]
          refine x_take (i := 6) (oi := { dst := some 7, op := Op.assign (Operand.tmp 35), type := 25, pos := "law.go:224", after := #[{ on := 1, ground := Ground.data }, { on := 0, ground := Ground.phase }, { on := 1, ground := Ground.phase }, { on := 2, ground := Ground.textOnly Departure.lateStores }, { on := 3, ground := Ground.textOnly Departure.lateStores }, { on := 4, ground := Ground.textOnly Departure.lateStores }, { on := 5, ground := Ground.textOnly Departure.lateStores }], guard := none }) (v := ?_) rfl (by kernel_rfl) (by kernel_rfl) (by kernel_rfl) (by kernel_rfl) (by kernel_rfl) (fun _ _ _ h => h) (Or.inl ⟨rfl, ?_⟩) (by assumption) ?_
          rotate_left
          · (intro w' hSw; replace x0 := kept_cell hSw x0; replace x1 := kept_cell hSw x1; replace x2 := kept_cell hSw x2; go_simp; try with_reducible rfl)
          try simp only [Act.put, List.setIfInBounds_toArray, List.set_cons_zero, List.set_cons_succ]
          refine x_take (i := 7) (oi := { dst := some 8, op := Op.assign (Operand.tmp 37), type := 25, pos := "law.go:224", after := #[{ on := 3, ground := Ground.data }, { on := 6, ground := Ground.chain }, { on := 0, ground := Ground.phase }, { on := 1, ground := Ground.phase }, { on := 2, ground := Ground.phase }, { on := 3, ground := Ground.phase }, { on := 4, ground := Ground.textOnly Departure.lateStores }, { on := 5, ground := Ground.textOnly Departure.lateStores }, { on := 6, ground := Ground.phase }], guard := none }) (v := ?_) rfl (by kernel_rfl) (by kernel_rfl) (by kernel_rfl) (by kernel_rfl) (by kernel_rfl) (fun _ _ _ h => h) (Or.inl ⟨rfl, ?_⟩) (by assumption) ?_
          rotate_left
          · (intro w' hSw; replace x0 := kept_cell hSw x0; replace x1 := kept_cell hSw x1; replace x2 := kept_cell hSw x2; go_simp; try with_reducible rfl)
          try simp only [Act.put, List.setIfInBounds_toArray, List.set_cons_zero, List.set_cons_succ]
          refine x_take (i := 8) (oi := { dst := some 9, op := Op.assign (Operand.tmp 39), type := 25, pos := "law.go:224", after := #[{ on := 5, ground := Ground.data }, { on := 7, ground := Ground.chain }, { on := 0, ground := Ground.phase }, { on := 1, ground := Ground.phase }, { on := 2, ground := Ground.phase }, { on := 3, ground := Ground.phase }, { on := 4, ground := Ground.phase }, { on := 5, ground := Ground.phase }, { on := 6, ground := Ground.phase }, { on := 7, ground := Ground.phase }], guard := none }) (v := ?_) rfl (by kernel_rfl) (by kernel_rfl) (by kernel_rfl) (by kernel_rfl) (by kernel_rfl) (fun _ _ _ h => h) (Or.inl ⟨rfl, ?_⟩) (by assumption) ?_
          rotate_left
          · (intro w' hSw; replace x0 := kept_cell hSw x0; replace x1 := kept_cell hSw x1; replace x2 := kept_cell hSw x2; go_simp; try with_reducible rfl)
          try simp only [Act.put, List.setIfInBounds_toArray, List.set_cons_zero, List.set_cons_succ]
          refine x_done (by kernel_rfl) ?_ _
          clear x0 x1 x2
          have K2 := kept_drew K1
          obtain ⟨w1, hw1⟩ : ∃ w1, w1 = w0.drew := ⟨_, rfl⟩
          have y0 := (o3.kept (kept_drew (kept_refl w0))).cell (j := 0) rfl; have y1 := (o3.kept (kept_drew (kept_refl w0))).cell (j := 1) rfl
          rw [← hw1] at K2 y0 y1 ⊢
          clear hw1
          have D12 := Lib.hid (FEW.out w1 K2)
          have KX := kept_alloc K2 (.cells #[.slice A p.length c, .slice B q.length d, .slice C r.length e] 25)
          replace y0 := kept_cell (kept_alloc (kept_refl w1) (.cells #[.slice A p.length c, .slice B q.length d, .slice C r.length e] 25)) y0
          replace y1 := kept_cell (kept_alloc (kept_refl w1) (.cells #[.slice A p.length c, .slice B q.length d, .slice C r.length e] 25)) y1
          go_upto_region 15 with (first
            | (go_at_call 12; ((with_reducible refine D12.out.mono ?_); rintro e w2 ⟨rfl, rfl⟩))
            | (go_at_call 25; ((with_reducible refine (V1.out _ KX).mono ?_); rintro e v1w ⟨rfl, v1k⟩; replace KX := kept_trans KX v1k; replace y0 := kept_cell v1k y0; replace y1 := kept_cell v1k y1; (try replace ra := ra.kept v1k); (try replace rb := rb.kept v1k); (try replace rc := rc.kept v1k); (try replace rd := rd.kept v1k); (try replace re := re.kept v1k); (try replace rpq := rpq.kept v1k); (try replace rqp := rqp.kept v1k); (try replace rpr := rpr.kept v1k); (try replace rpd := rpd.kept v1k); (try replace rs := rs.kept v1k); (try replace rone := rone.kept v1k); (try replace rqr := rqr.kept v1k); (try replace rtwo := rtwo.kept v1k)))
            | (go_at_call 25; ((with_reducible refine (V2.out _ KX).mono ?_); rintro e v2w ⟨rfl, v2k⟩; replace KX := kept_trans KX v2k; replace y0 := kept_cell v2k y0; replace y1 := kept_cell v2k y1; (try replace ra := ra.kept v2k); (try replace rb := rb.kept v2k); (try replace rc := rc.kept v2k); (try replace rd := rd.kept v2k); (try replace re := re.kept v2k); (try replace rpq := rpq.kept v2k); (try replace rqp := rqp.kept v2k); (try replace rpr := rpr.kept v2k); (try replace rpd := rpd.kept v2k); (try replace rs := rs.kept v2k); (try replace rone := rone.kept v2k); (try replace rqr := rqr.kept v2k); (try replace rtwo := rtwo.kept v2k)))
            | (go_at_call 25; ((with_reducible refine (V3.out _ KX).mono ?_); rintro e v3w ⟨rfl, v3k⟩; replace KX := kept_trans KX v3k; replace y0 := kept_cell v3k y0; replace y1 := kept_cell v3k y1; (try replace ra := ra.kept v3k); (try replace rb := rb.kept v3k); (try replace rc := rc.kept v3k); (try replace rd := rd.kept v3k); (try replace re := re.kept v3k); (try replace rpq := rpq.kept v3k); (try replace rqp := rqp.kept v3k); (try replace rpr := rpr.kept v3k); (try replace rpd := rpd.kept v3k); (try replace rs := rs.kept v3k); (try replace rone := rone.kept v3k); (try replace rqr := rqr.kept v3k); (try replace rtwo := rtwo.kept v3k)))
            | (go_at_call 39; ((with_reducible refine (S1.out _ KX).mono ?_); rintro e s1w ⟨s1A, s1c, s1o, rfl, ho, ra, s1k⟩; replace ho := ho.symm; subst ho; replace KX := kept_trans KX s1k; replace y0 := kept_cell s1k y0; replace y1 := kept_cell s1k y1; (try replace rb := rb.kept s1k); (try replace rc := rc.kept s1k); (try replace rd := rd.kept s1k); (try replace re := re.kept s1k); (try replace rpq := rpq.kept s1k); (try replace rqp := rqp.kept s1k); (try replace rpr := rpr.kept s1k); (try replace rpd := rpd.kept s1k); (try replace rs := rs.kept s1k); (try replace rone := rone.kept s1k); (try replace rqr := rqr.kept s1k); (try replace rtwo := rtwo.kept s1k)))
            | (go_at_call 39; ((with_reducible refine (S2.out _ KX).mono ?_); rintro e s2w ⟨s2A, s2c, s2o, rfl, ho, rb, s2k⟩; replace ho := ho.symm; subst ho; replace KX := kept_trans KX s2k; replace y0 := kept_cell s2k y0; replace y1 := kept_cell s2k y1; (try replace ra := ra.kept s2k); (try replace rc := rc.kept s2k); (try replace rd := rd.kept s2k); (try replace re := re.kept s2k); (try replace rpq := rpq.kept s2k); (try replace rqp := rqp.kept s2k); (try replace rpr := rpr.kept s2k); (try replace rpd := rpd.kept s2k); (try replace rs := rs.kept s2k); (try replace rone := rone.kept s2k); (try replace rqr := rqr.kept s2k); (try replace rtwo := rtwo.kept s2k)))
            | (go_at_call 39; ((with_reducible refine (S3.out _ _ _ ra KX).mono ?_); rintro e s3w ⟨s3A, s3c, s3o, rfl, ho, rc, s3k⟩; replace ho := ho.symm; subst ho; replace KX := kept_trans KX s3k; replace y0 := kept_cell s3k y0; replace y1 := kept_cell s3k y1; (try replace ra := ra.kept s3k); (try replace rb := rb.kept s3k); (try replace rd := rd.kept s3k); (try replace re := re.kept s3k); (try replace rpq := rpq.kept s3k); (try replace rqp := rqp.kept s3k); (try replace rpr := rpr.kept s3k); (try replace rpd := rpd.kept s3k); (try replace rs := rs.kept s3k); (try replace rone := rone.kept s3k); (try replace rqr := rqr.kept s3k); (try replace rtwo := rtwo.kept s3k)))
            | (go_at_call 39; ((with_reducible refine (S4.out _ KX).mono ?_); rintro e s4w ⟨s4A, s4c, s4o, rfl, ho, rd, s4k⟩; replace ho := ho.symm; subst ho; replace KX := kept_trans KX s4k; replace y0 := kept_cell s4k y0; replace y1 := kept_cell s4k y1; (try replace ra := ra.kept s4k); (try replace rb := rb.kept s4k); (try replace rc := rc.kept s4k); (try replace re := re.kept s4k); (try replace rpq := rpq.kept s4k); (try replace rqp := rqp.kept s4k); (try replace rpr := rpr.kept s4k); (try replace rpd := rpd.kept s4k); (try replace rs := rs.kept s4k); (try replace rone := rone.kept s4k); (try replace rqr := rqr.kept s4k); (try replace rtwo := rtwo.kept s4k)))
            | (go_at_call 39; ((with_reducible refine (S5.out _ _ _ rd KX).mono ?_); rintro e s5w ⟨s5A, s5c, s5o, rfl, ho, re, s5k⟩; replace ho := ho.symm; subst ho; replace KX := kept_trans KX s5k; replace y0 := kept_cell s5k y0; replace y1 := kept_cell s5k y1; (try replace ra := ra.kept s5k); (try replace rb := rb.kept s5k); (try replace rc := rc.kept s5k); (try replace rd := rd.kept s5k); (try replace rpq := rpq.kept s5k); (try replace rqp := rqp.kept s5k); (try replace rpr := rpr.kept s5k); (try replace rpd := rpd.kept s5k); (try replace rs := rs.kept s5k); (try replace rone := rone.kept s5k); (try replace rqr := rqr.kept s5k); (try replace rtwo := rtwo.kept s5k)))
            | (go_at_call 38; ((with_reducible refine (E1.out _ _ _ _ _ ra rb).mono ?_); rintro e e1w ⟨rfl, e1k⟩; replace KX := kept_trans KX e1k; replace y0 := kept_cell e1k y0; replace y1 := kept_cell e1k y1; (try replace ra := ra.kept e1k); (try replace rb := rb.kept e1k); (try replace rc := rc.kept e1k); (try replace rd := rd.kept e1k); (try replace re := re.kept e1k); (try replace rpq := rpq.kept e1k); (try replace rqp := rqp.kept e1k); (try replace rpr := rpr.kept e1k); (try replace rpd := rpd.kept e1k); (try replace rs := rs.kept e1k); (try replace rone := rone.kept e1k); (try replace rqr := rqr.kept e1k); (try replace rtwo := rtwo.kept e1k)))
            | (go_at_call 38; ((with_reducible refine (E2.out _ _ _ _ _ rc re).mono ?_); rintro e e2w ⟨rfl, e2k⟩; replace KX := kept_trans KX e2k; replace y0 := kept_cell e2k y0; replace y1 := kept_cell e2k y1; (try replace ra := ra.kept e2k); (try replace rb := rb.kept e2k); (try replace rc := rc.kept e2k); (try replace rd := rd.kept e2k); (try replace re := re.kept e2k); (try replace rpq := rpq.kept e2k); (try replace rqp := rqp.kept e2k); (try replace rpr := rpr.kept e2k); (try replace rpd := rpd.kept e2k); (try replace rs := rs.kept e2k); (try replace rone := rone.kept e2k); (try replace rqr := rqr.kept e2k); (try replace rtwo := rtwo.kept e2k)))
            | (go_at_call 40; ((with_reducible refine (M1.out _ KX).mono ?_); rintro e m1w ⟨m1A, m1c, m1o, rfl, ho, rpq, m1k⟩; replace ho := ho.symm; subst ho; replace KX := kept_trans KX m1k; replace y0 := kept_cell m1k y0; replace y1 := kept_cell m1k y1; (try replace ra := ra.kept m1k); (try replace rb := rb.kept m1k); (try replace rc := rc.kept m1k); (try replace rd := rd.kept m1k); (try replace re := re.kept m1k); (try replace rqp := rqp.kept m1k); (try replace rpr := rpr.kept m1k); (try replace rpd := rpd.kept m1k); (try replace rs := rs.kept m1k); (try replace rone := rone.kept m1k); (try replace rqr := rqr.kept m1k); (try replace rtwo := rtwo.kept m1k)))
            | (go_at_call 40; ((with_reducible refine (M2.out _ KX).mono ?_); rintro e m2w ⟨m2A, m2c, m2o, rfl, ho, rqp, m2k⟩; replace ho := ho.symm; subst ho; replace KX := kept_trans KX m2k; replace y0 := kept_cell m2k y0; replace y1 := kept_cell m2k y1; (try replace ra := ra.kept m2k); (try replace rb := rb.kept m2k); (try replace rc := rc.kept m2k); (try replace rd := rd.kept m2k); (try replace re := re.kept m2k); (try replace rpq := rpq.kept m2k); (try replace rpr := rpr.kept m2k); (try replace rpd := rpd.kept m2k); (try replace rs := rs.kept m2k); (try replace rone := rone.kept m2k); (try replace rqr := rqr.kept m2k); (try replace rtwo := rtwo.kept m2k)))
            | (go_at_call 40; ((with_reducible refine (M3.out _ KX).mono ?_); rintro e m3w ⟨m3A, m3c, m3o, rfl, ho, rpr, m3k⟩; replace ho := ho.symm; subst ho; replace KX := kept_trans KX m3k; replace y0 := kept_cell m3k y0; replace y1 := kept_cell m3k y1; (try replace ra := ra.kept m3k); (try replace rb := rb.kept m3k); (try replace rc := rc.kept m3k); (try replace rd := rd.kept m3k); (try replace re := re.kept m3k); (try replace rpq := rpq.kept m3k); (try replace rqp := rqp.kept m3k); (try replace rpd := rpd.kept m3k); (try replace rs := rs.kept m3k); (try replace rone := rone.kept m3k); (try replace rqr := rqr.kept m3k); (try replace rtwo := rtwo.kept m3k)))
            | (go_at_call 40; ((with_reducible refine (M4.out _ _ _ rd KX).mono ?_); rintro e m4w ⟨m4A, m4c, m4o, rfl, ho, rpd, m4k⟩; replace ho := ho.symm; subst ho; replace KX := kept_trans KX m4k; replace y0 := kept_cell m4k y0; replace y1 := kept_cell m4k y1; (try replace ra := ra.kept m4k); (try replace rb := rb.kept m4k); (try replace rc := rc.kept m4k); (try replace rd := rd.kept m4k); (try replace re := re.kept m4k); (try replace rpq := rpq.kept m4k); (try replace rqp := rqp.kept m4k); (try replace rpr := rpr.kept m4k); (try replace rs := rs.kept m4k); (try replace rone := rone.kept m4k); (try replace rqr := rqr.kept m4k); (try replace rtwo := rtwo.kept m4k))))
          cases b1 with
          | false =>
            go_wp2_with (go_at_call 13; ((with_reducible refine (C13.out _ KX).mono ?_); rintro e w9 ⟨rfl, k9⟩; replace KX := kept_trans KX k9))
            go_ret
            exact ⟨rfl, KX⟩
          | true =>
            cases b2 with
            | false =>
              go_wp2_with (go_at_call 13; ((with_reducible refine (C13.out _ KX).mono ?_); rintro e w9 ⟨rfl, k9⟩; replace KX := kept_trans KX k9))
              go_ret
              exact ⟨rfl, KX⟩
            | true =>
              cases b3 with
              | false =>
                go_wp2_with (go_at_call 13; ((with_reducible refine (C13.out _ KX).mono ?_); rintro e w9 ⟨rfl, k9⟩; replace KX := kept_trans KX k9))
                go_ret
                exact ⟨rfl, KX⟩
              | true =>
                obtain ⟨eS, hdg, hnil, hLL⟩ := ALL.out rfl rfl rfl
                rw [eS] at S6
                have HLL := Lib.hid hLL
                have HDG := Lib.hid hdg
                have HNIL := Lib.hid hnil
                clear eS hLL hdg hnil ALL
                go_upto_region 21 with (first
                  | (go_at_call 39; ((with_reducible refine (S6.out _ _ _ _ _ rpq rpr).mono ?_); rintro e s6w ⟨s6A, s6c, s6o, rfl, ho, rs, s6k⟩; replace ho := ho.symm; subst ho; replace KX := kept_trans KX s6k; replace y0 := kept_cell s6k y0; replace y1 := kept_cell s6k y1; (try replace ra := ra.kept s6k); (try replace rb := rb.kept s6k); (try replace rc := rc.kept s6k); (try replace rd := rd.kept s6k); (try replace re := re.kept s6k); (try replace rpq := rpq.kept s6k); (try replace rqp := rqp.kept s6k); (try replace rpr := rpr.kept s6k); (try replace rpd := rpd.kept s6k); (try replace rone := rone.kept s6k); (try replace rqr := rqr.kept s6k); (try replace rtwo := rtwo.kept s6k)))
                  | (go_at_call 23; ((with_reducible refine (G1.out _ KX).mono ?_); rintro e d1w ⟨rfl, d1k⟩; replace KX := kept_trans KX d1k; replace y0 := kept_cell d1k y0; replace y1 := kept_cell d1k y1; (try replace ra := ra.kept d1k); (try replace rb := rb.kept d1k); (try replace rc := rc.kept d1k); (try replace rd := rd.kept d1k); (try replace re := re.kept d1k); (try replace rpq := rpq.kept d1k); (try replace rqp := rqp.kept d1k); (try replace rpr := rpr.kept d1k); (try replace rpd := rpd.kept d1k); (try replace rs := rs.kept d1k); (try replace rone := rone.kept d1k); (try replace rqr := rqr.kept d1k); (try replace rtwo := rtwo.kept d1k)))
                  | (go_at_call 23; ((with_reducible refine (G2.out _ KX).mono ?_); rintro e d2w ⟨rfl, d2k⟩; replace KX := kept_trans KX d2k; replace y0 := kept_cell d2k y0; replace y1 := kept_cell d2k y1; (try replace ra := ra.kept d2k); (try replace rb := rb.kept d2k); (try replace rc := rc.kept d2k); (try replace rd := rd.kept d2k); (try replace re := re.kept d2k); (try replace rpq := rpq.kept d2k); (try replace rqp := rqp.kept d2k); (try replace rpr := rpr.kept d2k); (try replace rpd := rpd.kept d2k); (try replace rs := rs.kept d2k); (try replace rone := rone.kept d2k); (try replace rqr := rqr.kept d2k); (try replace rtwo := rtwo.kept d2k)))
                  | (go_at_call 23; ((with_reducible refine (G3.out _ _ _ rpq).mono ?_); rintro e d3w ⟨rfl, d3k⟩; replace KX := kept_trans KX d3k; replace y0 := kept_cell d3k y0; replace y1 := kept_cell d3k y1; (try replace ra := ra.kept d3k); (try replace rb := rb.kept d3k); (try replace rc := rc.kept d3k); (try replace rd := rd.kept d3k); (try replace re := re.kept d3k); (try replace rpq := rpq.kept d3k); (try replace rqp := rqp.kept d3k); (try replace rpr := rpr.kept d3k); (try replace rpd := rpd.kept d3k); (try replace rs := rs.kept d3k); (try replace rone := rone.kept d3k); (try replace rqr := rqr.kept d3k); (try replace rtwo := rtwo.kept d3k))))
                have K21 := kept_refl d3w
                go_cut [269] (fun s269 wx => s269 = .bool false ∧ Kept d3w wx)
                case first =>
                  by_cases hc : p.length = 0
                  · skip
                    have f1 : decide ((0 : Int) < (p.length : Int)) = false := decide_eq_false (by omega)
                    have f1' : decide (0 < p.length) = false := decide_eq_false (by omega)
                    have f6 : ¬ 0 < p.length := by omega
                    have f2 : ((N : Int) == 0) = true := by rw [HN.out, hc, Nat.zero_mul]; rfl
                    have f2' : (N == 0) = true := by rw [HN.out, hc, Nat.zero_mul]; rfl
                    have f3 : decide ((0 : Int) < (PQ.length : Int)) = false := decide_eq_false (by have := HNIL.out (.inl hc); omega)
                    have f3' : decide (0 < PQ.length) = false := decide_eq_false (by have := HNIL.out (.inl hc); omega)
                    have f5 : ¬ 0 < PQ.length := by have := HNIL.out (.inl hc); omega
                    clear hc
                    have ew : IntKind.i64.wrap (dp + dq) = dp + dq := IntWalk.i64_in _ (by omega)
                    have ew2 : wrap64 (dp + dq) = dp + dq := IntWalk.wrap64_in _ (by omega)
                    have en : IntKind.i64.wrap ((p.length : Int) * (q.length : Int)) = (N : Int) := by rw [← Int.natCast_mul, ← HN.out]; exact IntWalk.i64_in _ (by omega)
                    have en2 : wrap64 ((p.length : Int) * (q.length : Int)) = (N : Int) := by rw [← Int.natCast_mul, ← HN.out]; exact IntWalk.wrap64_in _ (by omega)
                    go_wp2_with (first
                      | (go_at_call 38; ((with_reducible refine (E3.out _ _ _ _ _ rpq rqp).mono ?_); rintro e e3w ⟨rfl, e3k⟩; replace K21 := kept_trans K21 e3k; replace rs := rs.kept e3k; replace rpd := rpd.kept e3k))
                      | (go_at_call 38; ((with_reducible refine (E4.out _ _ _ _ _ rs rpd).mono ?_); rintro e e4w ⟨rfl, e4k⟩; replace K21 := kept_trans K21 e4k)))
                    go_meet
                    exact ⟨rfl, K21⟩
                  · by_cases hc2 : q.length = 0
                    · skip
                      have f0 : decide ((0 : Int) < (p.length : Int)) = true := decide_eq_true (by omega)
                      have f0' : decide (0 < p.length) = true := decide_eq_true (by omega)
                      have f7 : 0 < p.length := by omega
                      have f1 : decide ((0 : Int) < (q.length : Int)) = false := decide_eq_false (by omega)
                      have f1' : decide (0 < q.length) = false := decide_eq_false (by omega)
                      have f6 : ¬ 0 < q.length := by omega
                      have f2 : ((N : Int) == 0) = true := by rw [HN.out, hc2, Nat.mul_zero]; rfl
                      have f2' : (N == 0) = true := by rw [HN.out, hc2, Nat.mul_zero]; rfl
                      have f3 : decide ((0 : Int) < (PQ.length : Int)) = false := decide_eq_false (by have := HNIL.out (.inr hc2); omega)
                      have f3' : decide (0 < PQ.length) = false := decide_eq_false (by have := HNIL.out (.inr hc2); omega)
                      have f5 : ¬ 0 < PQ.length := by have := HNIL.out (.inr hc2); omega
                      clear hc hc2
                      have ew : IntKind.i64.wrap (dp + dq) = dp + dq := IntWalk.i64_in _ (by omega)
                      have ew2 : wrap64 (dp + dq) = dp + dq := IntWalk.wrap64_in _ (by omega)
                      have en : IntKind.i64.wrap ((p.length : Int) * (q.length : Int)) = (N : Int) := by rw [← Int.natCast_mul, ← HN.out]; exact IntWalk.i64_in _ (by omega)
                      have en2 : wrap64 ((p.length : Int) * (q.length : Int)) = (N : Int) := by rw [← Int.natCast_mul, ← HN.out]; exact IntWalk.wrap64_in _ (by omega)
                      go_wp2_with (first
                        | (go_at_call 38; ((with_reducible refine (E3.out _ _ _ _ _ rpq rqp).mono ?_); rintro e e3w ⟨rfl, e3k⟩; replace K21 := kept_trans K21 e3k; replace rs := rs.kept e3k; replace rpd := rpd.kept e3k))
                        | (go_at_call 38; ((with_reducible refine (E4.out _ _ _ _ _ rs rpd).mono ?_); rintro e e4w ⟨rfl, e4k⟩; replace K21 := kept_trans K21 e4k)))
                      go_meet
                      exact ⟨rfl, K21⟩
                    · skip
                      have f0 : decide ((0 : Int) < (p.length : Int)) = true := decide_eq_true (by omega)
                      have f0' : decide (0 < p.length) = true := decide_eq_true (by omega)
                      have f7 : 0 < p.length := by omega
                      have f1 : decide ((0 : Int) < (q.length : Int)) = true := decide_eq_true (by omega)
                      have f1' : decide (0 < q.length) = true := decide_eq_true (by omega)
                      have f8 : 0 < q.length := by omega
                      have hN0 : N ≠ 0 := by rw [HN.out]; exact Nat.ne_of_gt (Nat.mul_pos (by omega) (by omega))
                      have f2 : ((N : Int) == 0) = false := by have : (N : Int) ≠ 0 := by { omega }
                                                               simpa using this
                      have f2' : (N == 0) = false := by simpa using hN0
                      have hdz2 : dz = dp + dq := by { rcases HDG.out with h | h | h; exact h; omega; omega }
                      have f4 : (dz != dp + dq) = false := by simp [hdz2]
                      subst hdz2
                      clear hN0 hc hc2
                      have ew : IntKind.i64.wrap (dp + dq) = dp + dq := IntWalk.i64_in _ (by omega)
                      have ew2 : wrap64 (dp + dq) = dp + dq := IntWalk.wrap64_in _ (by omega)
                      have en : IntKind.i64.wrap ((p.length : Int) * (q.length : Int)) = (N : Int) := by rw [← Int.natCast_mul, ← HN.out]; exact IntWalk.i64_in _ (by omega)
                      have en2 : wrap64 ((p.length : Int) * (q.length : Int)) = (N : Int) := by rw [← Int.natCast_mul, ← HN.out]; exact IntWalk.wrap64_in _ (by omega)
                      go_wp2_with (first
                        | (go_at_call 38; ((with_reducible refine (E3.out _ _ _ _ _ rpq rqp).mono ?_); rintro e e3w ⟨rfl, e3k⟩; replace K21 := kept_trans K21 e3k; replace rs := rs.kept e3k; replace rpd := rpd.kept e3k))
                        | (go_at_call 38; ((with_reducible refine (E4.out _ _ _ _ _ rs rpd).mono ?_); rintro e e4w ⟨rfl, e4k⟩; replace K21 := kept_trans K21 e4k)))
                      go_meet
                      exact ⟨rfl, K21⟩
                case rest =>
                  obtain ⟨rfl, KC⟩ := hcut
                  replace KX := kept_trans KX KC
                  replace y0 := kept_cell KC y0
                  replace y1 := kept_cell KC y1
                  replace rpq := rpq.kept KC
                  clear ra rb rc rd re rqp rpr rpd rs K21
                  go_upto_region 26 with (first
                    | (go_at_call 40; ((with_reducible refine (M5.out _ _ _ rpq KX).mono ?_); rintro e m5w ⟨m5A, m5c, m5o, rfl, ho, rone, m5k⟩; replace ho := ho.symm; subst ho; replace KX := kept_trans KX m5k; replace y0 := kept_cell m5k y0; replace y1 := kept_cell m5k y1; (try replace ra := ra.kept m5k); (try replace rb := rb.kept m5k); (try replace rc := rc.kept m5k); (try replace rd := rd.kept m5k); (try replace re := re.kept m5k); (try replace rpq := rpq.kept m5k); (try replace rqp := rqp.kept m5k); (try replace rpr := rpr.kept m5k); (try replace rpd := rpd.kept m5k); (try replace rs := rs.kept m5k); (try replace rqr := rqr.kept m5k); (try replace rtwo := rtwo.kept m5k)))
                    | (go_at_call 40; ((with_reducible refine (M6.out _ KX).mono ?_); rintro e m6w ⟨m6A, m6c, m6o, rfl, ho, rqr, m6k⟩; replace ho := ho.symm; subst ho; replace KX := kept_trans KX m6k; replace y0 := kept_cell m6k y0; replace y1 := kept_cell m6k y1; (try replace ra := ra.kept m6k); (try replace rb := rb.kept m6k); (try replace rc := rc.kept m6k); (try replace rd := rd.kept m6k); (try replace re := re.kept m6k); (try replace rpq := rpq.kept m6k); (try replace rqp := rqp.kept m6k); (try replace rpr := rpr.kept m6k); (try replace rpd := rpd.kept m6k); (try replace rs := rs.kept m6k); (try replace rone := rone.kept m6k); (try replace rtwo := rtwo.kept m6k)))
                    | (go_at_call 40; ((with_reducible refine (M7.out _ _ _ rqr KX).mono ?_); rintro e m7w ⟨m7A, m7c, m7o, rfl, ho, rtwo, m7k⟩; replace ho := ho.symm; subst ho; replace KX := kept_trans KX m7k; replace y0 := kept_cell m7k y0; replace y1 := kept_cell m7k y1; (try replace ra := ra.kept m7k); (try replace rb := rb.kept m7k); (try replace rc := rc.kept m7k); (try replace rd := rd.kept m7k); (try replace re := re.kept m7k); (try replace rpq := rpq.kept m7k); (try replace rqp := rqp.kept m7k); (try replace rpr := rpr.kept m7k); (try replace rpd := rpd.kept m7k); (try replace rs := rs.kept m7k); (try replace rone := rone.kept m7k); (try replace rqr := rqr.kept m7k))))
                  cases b4 with
                  | false =>
                    go_wp2_with (go_at_call 13; ((with_reducible refine (C13.out _ KX).mono ?_); rintro e w9 ⟨rfl, k9⟩; replace KX := kept_trans KX k9))
                    go_ret
                    exact ⟨rfl, KX⟩
                  | true =>
                    cases b5 with
                    | false =>
                      go_wp2_with (go_at_call 13; ((with_reducible refine (C13.out _ KX).mono ?_); rintro e w9 ⟨rfl, k9⟩; replace KX := kept_trans KX k9))
                      go_ret
                      exact ⟨rfl, KX⟩
                    | true =>
                      cases b6 with
                      | false =>
                        go_wp2_with (go_at_call 13; ((with_reducible refine (C13.out _ KX).mono ?_); rintro e w9 ⟨rfl, k9⟩; replace KX := kept_trans KX k9))
                        go_ret
                        exact ⟨rfl, KX⟩
                      | true =>
                        have eL := HLL.out rfl rfl rfl
                        subst eL
                        go_wp2_with (first
                          | (go_at_call 38; ((with_reducible refine (E5.out _ _ _ _ _ rone rtwo).mono ?_); rintro e e5w ⟨rfl, e5k⟩; replace KX := kept_trans KX e5k))
                          | (go_at_call 13; ((with_reducible refine (C13.out _ KX).mono ?_); rintro e w9 ⟨rfl, k9⟩; replace KX := kept_trans KX k9)))
                        go_ret
                        exact ⟨rfl, KX⟩
end Go.Proofs.YtnjmpjdampdmmaaDoor
