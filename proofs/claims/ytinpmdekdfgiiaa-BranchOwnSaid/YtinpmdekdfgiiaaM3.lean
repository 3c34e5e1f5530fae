/- Joined: F7, H1. -/
import Derived.Test.YtinpmdekdfgiiaaM1
import Derived.Test.YtinpmdekdfgiiaaM2
import Derived.Test.YtinpmdekdfgiiaaE2
/- Formulas: the program's walk: validity and inputs. -/
set_option linter.unusedVariables false
set_option linter.unusedSimpArgs false
namespace Go.Proofs.Ytinpmdekdfgiiaa
open Go.RowKit Go.Maps

theorem zero3w (w : World) : (zeroValue 3).run Try.prog w = .ok (.int .i64 0) w := by kernel_rfl
def costD : DataW Unit := (((DataW.map []).put (.int .i64 3) (.lit (.int .i64 1))).put (.int .i64 4) (.lit (.int .i64 1))).put (.int .i64 5) (.lit (.int .i64 2))
theorem cost_at {k : Int} (h : k = 2 ∨ k = 3 ∨ k = 4 ∨ k = 5) : costD.atKey (.int .i64 k) (.lit (.int .i64 0)) = .lit (.int .i64 (costK k : Nat)) := by
  rcases h with rfl | rfl | rfl | rfl <;> rfl
theorem shp_mk {k n : Int} {l : List Fm} : shpF (.mk k n l) = (shpL l && nodeB k n l.length) := by rw [shpF]
/-- A new block may be written, too. -/
theorem kb_step {g b : Nat} {w W w' : World} (h : KB g w W) (k : W.grownBy w' (some b)) (hb : w.heap.size ≤ b) : KB g w w' :=
  ⟨by rw [k.os, h.os], by rw [k.tape, h.tape], by rw [k.output, h.output], Nat.le_trans h.size k.size, fun i hi ne => (k.block i (Nat.lt_of_lt_of_le hi h.size) (fun e => by injection e with e; omega)).trans (h.block i hi ne)⟩
theorem lvs_ne {k n : Int} {l : List Fm} (h : l.isEmpty = false) : lvsF (.mk k n l) = lvsL l := by rw [lvsF]; simp [h]
theorem dp_ne {k n : Int} {l : List Fm} (h : l.isEmpty = false) : dpF (.mk k n l) = dpL l + costK k := by rw [dpF]; simp [h]
theorem inp_ne {k n : Int} {l : List Fm} (h : k ≠ 0) : inpF (.mk k n l) = inpL l := by rw [inpF, if_neg h]; have := inpL_nonneg l; omega
theorem lvsL_take_le {l : List Fm} : ∀ j, j ≤ l.length → lvsL (l.take j) ≤ cntL (l.take j) ∧ dpL (l.take j) ≤ 2 * cntL (l.take j) := by
  intro j
  induction j with
  | zero => intro _; simp [lvsL, cntL, dpL]
  | succ j ih =>
    intro hj
    have h1 := ih (by omega)
    rw [lvsL_take (by omega), cntL_take (by omega), dpL_take (by omega)]
    have h2 := lvs_le_cnt (kd l j)
    have h3 := dp_le_cnt (kd l j)
    omega
theorem inpL_take_le {l : List Fm} : ∀ j, j ≤ l.length → (∀ i, i < j → shpF (kd l i) = true) → 0 ≤ inpL (l.take j) ∧ inpL (l.take j) ≤ 16 := by
  intro j
  induction j with
  | zero => intro _ _; simp [inpL]
  | succ j ih =>
    intro hj hs
    have h1 := ih (by omega) (fun i hi => hs i (by omega))
    rw [inpL_take (by omega)]
    have h2 := inp_bounds _ (kd l j) (Nat.le_refl _) (hs j (by omega))
    omega
theorem shape_step {w : World} {g : Nat} {a b d i n : Int} {l : List Fm} {j : Nat} (h : Own w g 109 (shape5 (a + 1 + cntL (l.take j) + cntF (kd l j)) (b + lvsL (l.take j) + lvsF (kd l j)) d (max (max i (inpL (l.take j))) (inpF (kd l j))) n)) (hlt : j < l.length) :
    Own w g 109 (shape5 (a + 1 + cntL (l.take (j + 1))) (b + lvsL (l.take (j + 1))) d (max i (inpL (l.take (j + 1)))) n) := by
  rw [cntL_take hlt, lvsL_take hlt, inpL_take hlt]
  have e1 : a + 1 + ((cntL (l.take j) + cntF (kd l j) : Nat) : Int) = a + 1 + cntL (l.take j) + cntF (kd l j) := by omega
  have e2 : b + ((lvsL (l.take j) + lvsF (kd l j) : Nat) : Int) = b + lvsL (l.take j) + lvsF (kd l j) := by omega
  have e3 : max i (max (inpL (l.take j)) (inpF (kd l j))) = max (max i (inpL (l.take j))) (inpF (kd l j)) := by omega
  rw [e1, e2, e3]
  exact h
set_option maxRecDepth 100000 in
set_option maxHeartbeats 1000000 in
theorem walk_any : ∀ (N : Nat) (f : Fm) (A : Option Addr) (c : Nat) (lev a b d i n : Int) (g : Nat) (w0 w : World), cntF f ≤ N → f.l.length ≤ 9223372036854775807 → RK w0 A f.l → Kept w0 w → w0.heap.size ≤ g → Own w g 109 (shape5 a b d i n) → 0 ≤ a → a + cntF f ≤ 20000 → 0 ≤ b → b + cntF f ≤ 20000 → 1 ≤ lev → lev + depF f ≤ 1001 → 0 ≤ i → i ≤ 16 →
    Calls Try.prog 100 #[.pointer (some ⟨g, 0, none⟩), fmV f A c, .int .i64 lev] w (WalkPost f g a b d i n w) := by
  intro N
  induction N with
  | zero => intro f A c lev a b d i n g w0 w h; have := cntF_pos f; omega
  | succ N ih =>
    intro f A c lev a b d i n g w0 w hc hl hr hK hg hO ha0 ha1 hb0 hb1 hl0 hl1 hi0 hi1
    have IH := Lib.hid ih; clear ih
    have HR := Lib.hid hr; clear hr
    cases f with
    | mk k nn l =>
    change Calls Try.prog 100 #[.pointer (some ⟨g, 0, none⟩), .agg #[.int .i64 k, .int .i64 nn, .slice A l.length c], .int .i64 lev] w _
    change l.length ≤ _ at hl
    have HR : Hid (RK w0 A l) := HR
    have hcn : cntF (.mk k nn l) = 1 + cntL l := cntF_eq _
    have hdn : depF (.mk k nn l) = depL l + 1 := depF_eq _
    have zg : g < w.heap.size := hO.lt
    have c0 := hO.cell (j := 0) rfl
    have f0 := hO.frozen 0
    have NA := Lib.hid fun (w' : World) => node_any (.mk k nn l) A c w'
    have NA : Hid (∀ w', Calls Try.prog 111 #[.agg #[.int .i64 k, .int .i64 nn, .slice A l.length c]] w' fun e w'' => e = .returned (.bool (nodeB k nn l.length)) ∧ Kept w' w'') := NA
    have t1 : decide ((20000 : Int) < a + 1) = false := decide_eq_false (by omega)
    have t2 : decide ((1000 : Int) < lev) = false := decide_eq_false (by omega)
    have KB1 : KB g w ((w.setCell ⟨g, 0, none⟩ (.int .i64 (a + 1))).alloc (.cells #[.int .i64 k, .int .i64 nn, .slice A l.length c] 52)) := kb_trans (kb_set (kb_of (kept_refl w)) 0 _) (kb_of (kept_alloc (kept_refl _) _))
    have o1 := (hO.set 0 (.int .i64 (a + 1))).alloc (.cells #[.int .i64 k, .int .i64 nn, .slice A l.length c] 52)
    have o0 : Own ((w.setCell ⟨g, 0, none⟩ (.int .i64 (a + 1))).alloc (.cells #[.int .i64 k, .int .i64 nn, .slice A l.length c] 52)) w.heap.size 52 [.int .i64 k, .int .i64 nn, .slice A l.length c] := by
      simpa using Own.new (w.setCell ⟨g, 0, none⟩ (.int .i64 (a + 1))) 52 [.int .i64 k, .int .i64 nn, .slice A l.length c]
    change Own _ g 109 (shape5 (a + 1) b d i n) at o1
    go_enter Try.func100, Try.ntmps100
    go_wp2_with fail
    refine (NA.out _).mono ?_
    rintro e w1 ⟨rfl, k1⟩
    replace KB1 := kb_trans KB1 (kb_of k1)
    replace o0 := o0.kept k1
    replace o1 := o1.kept k1
    clear c0 f0
    cases hnb : nodeB k nn l.length
    · go_wp2_with fail
      go_ret2
      have hsh : shpF (.mk k nn l) = false := by rw [shp_mk, hnb, Bool.and_false]
      exact ⟨0, a + 1, b, i, by rw [hsh]; rfl, KB1, o1, fun h => by rw [hsh] at h; cases h⟩
    · have hnc := node_cases hnb
      have q0 := o0.cell (j := 0) rfl
      have q1 := o0.cell (j := 1) rfl
      have q2 := o0.cell (j := 2) rfl
      have c0 := o1.cell (j := 0) rfl
      have c1 := o1.cell (j := 1) rfl
      have c2 := o1.cell (j := 2) rfl
      have c3 := o1.cell (j := 3) rfl
      have c4 := o1.cell (j := 4) rfl
      have f1 := o1.frozen 1
      have HNB := Lib.hid hnb; clear hnb
      by_cases hl0 : l = []
      · subst hl0
        have hsh : shpF (.mk k nn []) = true := by rw [shp_mk, HNB.out]; rfl
        have KB2 := kb_set KB1 1 (.int .i64 (b + 1))
        have o2 := o1.set 1 (.int .i64 (b + 1))
        change Own _ g 109 (shape5 (a + 1) (b + 1) d i n) at o2
        have p0 := o0.other (a := ⟨g, 1, none⟩) (by dsimp only; omega) (.int .i64 (b + 1))
        by_cases hk0 : k = 0
        · subst hk0
          have hin : 0 ≤ nn ∧ nn < 16 := by simp only [List.length_nil] at hnc; omega
          have c3' := o2.cell (j := 3) rfl
          have f3' := o2.frozen 3
          have q1' := p0.cell (j := 1) rfl
          obtain ⟨W, hW⟩ : ∃ W, W = w1.setCell ⟨g, 1, none⟩ (.int .i64 (b + 1)) := ⟨_, rfl⟩
          rw [← hW] at KB2 o2 p0 c3' f3' q1'
          have s1 : IntKind.i64.wrap (nn + 1) = nn + 1 := IntWalk.i64_in _ (by omega)
          have KB3 := kb_trans (kb_set KB2 3 (.int .i64 (if i < nn + 1 then nn + 1 else i))) (kb_of (kept_drew (kept_refl _)))
          have o3 := (o2.set 3 (.int .i64 (if i < nn + 1 then nn + 1 else i))).drew
          change Own _ g 109 (shape5 (a + 1) (b + 1) d (if i < nn + 1 then nn + 1 else i) n) at o3
          have HW := Lib.hid hW
          clear hW KB2 o2 p0 hnc KB1 o1
          go_wp2_with fail
          rw [← HW.out]
          refine region_x (fun w' => Kept W w') [11] (by kernel_rfl) (kept_drew (kept_refl _)) (fun hHeld => ?_)
          refine x_take (i := 0) (oi := { dst := some 48, op := Op.move (Operand.tmp 0), type := 128, pos := "formula.go:36", after := #[], guard := none }) (v := ?_) rfl (by kernel_rfl) (by kernel_rfl) (by kernel_rfl) (by kernel_rfl) (by kernel_rfl) (fun _ _ _ h => h) (Or.inl ⟨rfl, ?_⟩) (by assumption) ?_
          rotate_left
          · (intro w' hSw; replace c3' := kept_cell hSw c3'; replace q1' := kept_cell hSw q1'; go_simp; try with_reducible rfl)
          try simp only [Act.put, List.setIfInBounds_toArray, List.set_cons_zero, List.set_cons_succ]
          refine x_take (i := 1) (oi := { dst := some 49, op := Op.move (Operand.tmp 0), type := 128, pos := "formula.go:36", after := #[], guard := none }) (v := ?_) rfl (by kernel_rfl) (by kernel_rfl) (by kernel_rfl) (by kernel_rfl) (by kernel_rfl) (fun _ _ _ h => h) (Or.inl ⟨rfl, ?_⟩) (by assumption) ?_
          rotate_left
          · (intro w' hSw; replace c3' := kept_cell hSw c3'; replace q1' := kept_cell hSw q1'; go_simp; try with_reducible rfl)
          try simp only [Act.put, List.setIfInBounds_toArray, List.set_cons_zero, List.set_cons_succ]
          refine x_take (i := 2) (oi := { dst := some 50, op := Op.nilCheck (Operand.tmp 49), type := 0, pos := "formula.go:36", after := #[{ on := 1, ground := Ground.data }], guard := none }) (v := ?_) rfl (by kernel_rfl) (by kernel_rfl) (by kernel_rfl) (by kernel_rfl) (by kernel_rfl) (fun _ _ _ h => h) (Or.inl ⟨rfl, ?_⟩) (by assumption) ?_
          rotate_left
          · (intro w' hSw; replace c3' := kept_cell hSw c3'; replace q1' := kept_cell hSw q1'; go_simp; try with_reducible rfl)
          try simp only [Act.put, List.setIfInBounds_toArray, List.set_cons_zero, List.set_cons_succ]
          refine x_take (i := 3) (oi := { dst := some 51, op := Op.fieldAddr 109 (Operand.tmp 50) 3, type := 0, pos := "formula.go:36", after := #[{ on := 2, ground := Ground.data }], guard := none }) (v := ?_) rfl (by kernel_rfl) (by kernel_rfl) (by kernel_rfl) (by kernel_rfl) (by kernel_rfl) (fun _ _ _ h => h) (Or.inl ⟨rfl, ?_⟩) (by assumption) ?_
          rotate_left
          · (intro w' hSw; replace c3' := kept_cell hSw c3'; replace q1' := kept_cell hSw q1'; go_simp; try with_reducible rfl)
          try simp only [Act.put, List.setIfInBounds_toArray, List.set_cons_zero, List.set_cons_succ]
          refine x_take (i := 4) (oi := { dst := some 52, op := Op.load 3 (Operand.tmp 51), type := 3, pos := "formula.go:36", after := #[{ on := 3, ground := Ground.data }], guard := none }) (v := ?_) rfl (by kernel_rfl) (by kernel_rfl) (by kernel_rfl) (by kernel_rfl) (by kernel_rfl) (fun _ _ _ h => h) (Or.inl ⟨rfl, ?_⟩) (by assumption) ?_
          rotate_left
          · (intro w' hSw; replace c3' := kept_cell hSw c3'; replace q1' := kept_cell hSw q1'; go_simp; try with_reducible rfl)
          try simp only [Act.put, List.setIfInBounds_toArray, List.set_cons_zero, List.set_cons_succ]
          refine x_take (i := 5) (oi := { dst := some 53, op := Op.fieldAddr 52 (Operand.tmp 4) 1, type := 0, pos := "formula.go:36", after := #[], guard := none }) (v := ?_) rfl (by kernel_rfl) (by kernel_rfl) (by kernel_rfl) (by kernel_rfl) (by kernel_rfl) (fun _ _ _ h => h) (Or.inl ⟨rfl, ?_⟩) (by assumption) ?_
          rotate_left
          · (intro w' hSw; replace c3' := kept_cell hSw c3'; replace q1' := kept_cell hSw q1'; go_simp; try with_reducible rfl)
          try simp only [Act.put, List.setIfInBounds_toArray, List.set_cons_zero, List.set_cons_succ]
          refine x_take (i := 6) (oi := { dst := some 54, op := Op.load 3 (Operand.tmp 53), type := 3, pos := "formula.go:36", after := #[{ on := 5, ground := Ground.data }], guard := none }) (v := ?_) rfl (by kernel_rfl) (by kernel_rfl) (by kernel_rfl) (by kernel_rfl) (by kernel_rfl) (fun _ _ _ h => h) (Or.inl ⟨rfl, ?_⟩) (by assumption) ?_
          rotate_left
          · (intro w' hSw; replace c3' := kept_cell hSw c3'; replace q1' := kept_cell hSw q1'; go_simp; try with_reducible rfl)
          try simp only [Act.put, List.setIfInBounds_toArray, List.set_cons_zero, List.set_cons_succ]
          refine x_take (i := 7) (oi := { dst := some 55, op := Op.binOp BinOp.add 3 (Operand.tmp 54) (Operand.const (Value.int IntKind.i64 1)) 3, type := 3, pos := "formula.go:36", after := #[{ on := 6, ground := Ground.data }], guard := none }) (v := ?_) rfl (by kernel_rfl) (by kernel_rfl) (by kernel_rfl) (by kernel_rfl) (by kernel_rfl) (fun _ _ _ h => h) (Or.inl ⟨rfl, ?_⟩) (by assumption) ?_
          rotate_left
          · (intro w' hSw; replace c3' := kept_cell hSw c3'; replace q1' := kept_cell hSw q1'; go_simp; try with_reducible rfl)
          try simp only [Act.put, List.setIfInBounds_toArray, List.set_cons_zero, List.set_cons_succ]
          refine x_take (i := 8) (oi := { dst := some 56, op := Op.call { callee := Callee.builtin Builtin.max, args := #[Operand.tmp 52, Operand.tmp 55], argTypes := #[3, 3] }, type := 3, pos := "formula.go:36", after := #[{ on := 4, ground := Ground.data }, { on := 7, ground := Ground.data }], guard := none }) (v := ?_) rfl (by kernel_rfl) (by kernel_rfl) (by kernel_rfl) (by kernel_rfl) (by kernel_rfl) (fun _ _ _ h => h) (Or.inl ⟨rfl, ?_⟩) (by assumption) ?_
          rotate_left
          · (intro w' hSw; replace c3' := kept_cell hSw c3'; replace q1' := kept_cell hSw q1'; go_simp; try with_reducible rfl)
          try simp only [Act.put, List.setIfInBounds_toArray, List.set_cons_zero, List.set_cons_succ]
          refine x_take (i := 9) (oi := { dst := some 57, op := Op.nilCheck (Operand.tmp 48), type := 0, pos := "formula.go:36", after := #[{ on := 0, ground := Ground.data }, { on := 0, ground := Ground.phase }, { on := 1, ground := Ground.phase }, { on := 2, ground := Ground.phase }, { on := 3, ground := Ground.phase }, { on := 4, ground := Ground.phase }, { on := 5, ground := Ground.phase }, { on := 6, ground := Ground.phase }, { on := 7, ground := Ground.phase }, { on := 8, ground := Ground.phase }], guard := none }) (v := ?_) rfl (by kernel_rfl) (by kernel_rfl) (by kernel_rfl) (by kernel_rfl) (by kernel_rfl) (fun _ _ _ h => h) (Or.inl ⟨rfl, ?_⟩) (by assumption) ?_
          rotate_left
          · (intro w' hSw; replace c3' := kept_cell hSw c3'; replace q1' := kept_cell hSw q1'; go_simp; try with_reducible rfl)
          try simp only [Act.put, List.setIfInBounds_toArray, List.set_cons_zero, List.set_cons_succ]
          refine x_take (i := 10) (oi := { dst := some 58, op := Op.fieldAddr 109 (Operand.tmp 57) 3, type := 0, pos := "formula.go:36", after := #[{ on := 9, ground := Ground.data }, { on := 0, ground := Ground.phase }, { on := 1, ground := Ground.phase }, { on := 2, ground := Ground.phase }, { on := 3, ground := Ground.phase }, { on := 4, ground := Ground.phase }, { on := 5, ground := Ground.phase }, { on := 6, ground := Ground.phase }, { on := 7, ground := Ground.phase }, { on := 8, ground := Ground.phase }], guard := none }) (v := ?_) rfl (by kernel_rfl) (by kernel_rfl) (by kernel_rfl) (by kernel_rfl) (by kernel_rfl) (fun _ _ _ h => h) (Or.inl ⟨rfl, ?_⟩) (by assumption) ?_
          rotate_left
          · (intro w' hSw; replace c3' := kept_cell hSw c3'; replace q1' := kept_cell hSw q1'; go_simp; try with_reducible rfl)
          try simp only [Act.put, List.setIfInBounds_toArray, List.set_cons_zero, List.set_cons_succ]
          refine x_last (i := 11) (o := { dst := none, op := Op.store 3 (Operand.tmp 58) (Operand.tmp 56), type := 0, pos := "formula.go:36", after := #[{ on := 10, ground := Ground.data }, { on := 8, ground := Ground.data }, { on := 0, ground := Ground.phase }, { on := 1, ground := Ground.phase }, { on := 2, ground := Ground.phase }, { on := 3, ground := Ground.phase }, { on := 4, ground := Ground.phase }, { on := 5, ground := Ground.phase }, { on := 6, ground := Ground.phase }, { on := 7, ground := Ground.phase }, { on := 8, ground := Ground.phase }], guard := none }) (by kernel_rfl) rfl (by simp) (fun K hK => ?_)
          go_simp
          refine hK.out _ _ ?_
          clear hK K
          try simp only [Act.put, List.setIfInBounds_toArray, List.set_cons_zero, List.set_cons_succ]
          refine x_done (by kernel_rfl) ?_ _
          obtain ⟨w9, hw9⟩ : ∃ x, x = (W.setCell ⟨g, 3, none⟩ (.int .i64 (if i < nn + 1 then nn + 1 else i))).drew := ⟨_, rfl⟩
          rw [← hw9] at KB3 o3 ⊢
          clear hw9
          go_wp2_with fail
          all_goals
            go_ret2
            exact ⟨0, _, _, _, by rw [hsh]; rfl, KB3, o3, fun _ => ⟨by rw [hcn, cntL]; omega, by rw [lvsF_eq]; simp [Fm.l], by rw [ite_max, inpF_eq]; simp [Fm.k, Fm.n, Fm.l, inpL]; omega, by rw [dpF_eq]; simp [Fm.l]⟩⟩
        · have hk1 : k = 1 := by simp only [List.length_nil] at hnc; omega
          subst hk1
          clear hnc
          go_wp2_with fail
          go_ret2
          exact ⟨0, _, _, _, by rw [hsh]; rfl, KB2, o2, fun _ => ⟨by rw [hcn, cntL]; omega, by rw [lvsF_eq]; simp [Fm.l], by rw [inpF_eq]; simp [Fm.k, Fm.n, Fm.l, inpL]; omega, by rw [dpF_eq]; simp [Fm.l]⟩⟩
      · have hk2 : k = 2 ∨ k = 3 ∨ k = 4 ∨ k = 5 := by
          have : 0 < l.length := List.length_pos_iff.2 hl0
          omega
        have hll : 0 < l.length ∧ l.length ≤ 2 := by
          have : 0 < l.length := List.length_pos_iff.2 hl0
          omega
        have hlb : (l.length == 0) = false := by rw [beq_eq_false_iff_ne]; omega
        have hlb2 : ((l.length : Int) == 0) = false := by rw [beq_eq_false_iff_ne]; omega
        have hemp : l.isEmpty = false := by cases l with
          | nil => simp at hl0
          | cons x y => rfl
        have HD := Lib.hid hdn; have HC := Lib.hid hcn; have HK2 := Lib.hid hk2
        clear hnc hl0 hcn hdn hk2
        have Kw : Kept w0 w1 := kept_kb hK KB1 hg
        go_wp2_with fail
        go_loopg [8, 62] l.length (fun g' s8 s62 wr => ∃ j : Nat, j ≤ l.length ∧ g' = l.length - j ∧ s62 = .int .i64 j ∧ s8 = .int .i64 (dpL (l.take j) : Nat) ∧ (∀ i, i < j → shpF (kd l i) = true) ∧ Own wr w.heap.size 52 [.int .i64 k, .int .i64 nn, .slice A l.length c] ∧ Own wr g 109 (shape5 (a + 1 + cntL (l.take j)) (b + lvsL (l.take j)) d (max i (inpL (l.take j))) n) ∧ KB g w wr)
        case atStart => exact ⟨0, by omega, rfl, rfl, by simp [dpL], fun i h => by omega, o0, by simpa [cntL, lvsL, inpL, Int.max_eq_left hi0] using o1, KB1⟩
        case round =>
          clear o0 o1 KB1 q0 q1 q2 c0 c1 c2 c3 c4 f1 Kw
          obtain ⟨j, hj, rfl, rfl, rfl, hal, o0, o1, KB1⟩ := hrel
          have HAL := Lib.hid hal; clear hal
          have Kw : Kept w0 wr := kept_kb hK KB1 hg
          have q0 := o0.cell (j := 0) rfl
          have q1 := o0.cell (j := 1) rfl
          have q2 := o0.cell (j := 2) rfl
          by_cases hlt : j < l.length
          · obtain ⟨bk, off, rfl, hkk⟩ := HR.out.at_ (by omega)
            obtain ⟨e0, e1, ⟨A', c', e2, rk⟩, dl⟩ := hkk j hlt
            have d0 := kept_cell Kw e0
            have d1 := kept_cell Kw e1
            have d2 := kept_cell Kw e2
            clear hkk e0 e1 e2
            have g0 : (0 : Int) ≤ (j : Int) := by omega
            have g1 : (j : Int) < (l.length : Int) := by omega
            have h1 := cntL_take hlt
            have h2 := cntL_take_le l (j + 1)
            have h3 := lvsL_take_le (l := l) j (by omega)
            have h4 := inpL_take_le (l := l) j (by omega) HAL.out
            have h5 := dep_kid hlt
            have h6 := HC.out
            have h7 := HD.out
            have C := IH.out (kd l j) A' c' (lev + 1) (a + 1 + cntL (l.take j)) (b + lvsL (l.take j)) d (max i (inpL (l.take j))) n g w0 (wr.alloc (.cells #[.int .i64 (kd l j).k, .int .i64 (kd l j).n, .slice A' (kd l j).l.length c'] 52)) (by omega) dl rk (kept_alloc Kw _) hg (o1.alloc _) (by omega) (by omega) (by omega) (by omega) (by omega) (by omega) (by omega) (by omega)
            unfold fmV at C
            have hdp : (dpF (kd l j) : Int) ≤ 40000 := by have := dp_le_cnt (kd l j); omega
            have hdq : (dpL (l.take j) : Int) ≤ 40000 := by omega
            have C' := Lib.hid C
            have o0' := o0.alloc (.cells #[.int .i64 (kd l j).k, .int .i64 (kd l j).n, .slice A' (kd l j).l.length c'] 52)
            have KBa : KB g w (wr.alloc (.cells #[.int .i64 (kd l j).k, .int .i64 (kd l j).n, .slice A' (kd l j).l.length c'] 52)) := kb_trans KB1 (kb_of (kept_alloc (kept_refl _) _))
            have s1 : IntKind.i64.wrap (lev + 1) = lev + 1 := IntWalk.i64_in _ (by omega)
            obtain ⟨u, hu⟩ : ∃ u, u = dpL (l.take j) := ⟨_, rfl⟩
            rw [← hu] at hdq ⊢
            have HU := Lib.hid hu
            have lev1 : lev ≤ 1000 := by omega
            have hgw : g ≠ w.heap.size := by omega
            clear C h1 h2 h3 h4 h5 h6 h7 hu
            go_wp2_with fail
            refine C'.out.mono ?_
            rintro e w2 ⟨dd, a', b', i', rfl, k2, o2, himp⟩
            replace KB1 := kb_trans KBa k2
            replace o0 := o0'.kb k2 hgw.symm
            cases hsk : shpF (kd l j)
            · rw [hsk] at himp
              go_wp2_with fail
              go_ret2
              have hsh : shpF (.mk k nn l) = false := by rw [shp_mk, shpL_false.2 ⟨j, hlt, hsk⟩]; rfl
              exact ⟨0, a', b', i', by rw [hsh]; rfl, KB1, o2, fun h => by rw [hsh] at h; cases h⟩
            · obtain ⟨rfl, rfl, rfl, rfl⟩ := himp hsk
              have HSK := Lib.hid hsk
              clear himp hsk
              obtain ⟨v, hv⟩ : ∃ v, v = dpF (kd l j) := ⟨_, rfl⟩
              rw [← hv] at hdp ⊢
              have HV := Lib.hid hv; clear hv
              go_wp2_with fail
              all_goals
                go_roundg (l.length - (j + 1))
                case rel => exact ⟨j + 1, by omega, rfl, by go_num, congrArg (Value.int .i64) (by have := HU.out; have := HV.out; have := dpL_take hlt; omega), fun i h => by rcases Nat.lt_succ_iff_lt_or_eq.1 h with h | rfl; exact HAL.out i h; exact HSK.out, o0, shape_step o2 hlt, KB1⟩
                case measure => omega
          · have hje : j = l.length := by omega
            subst hje
            rw [List.take_length] at o1
            have hs : shpF (.mk k nn l) = true := by rw [shp_mk, HNB.out, shpL_true.2 HAL.out]; rfl
            have hdl := (lvsL_take_le (l := l) l.length (Nat.le_refl _)).2
            rw [List.take_length] at hdl ⊢
            have hdm : (dpL l : Int) ≤ 40000 := by have := HC.out; omega
            have hown := World.ownsMap_made (H := Unit) wr Try.prog 3 (plainElem Try.prog 3)
            have hmm := @run_makeMap Try.prog
            have o0' := o0.alloc (.map #[] 0)
            have o1' := o1.alloc (.map #[] 0)
            have KB2 : KB g w (wr.alloc (.map #[] 0)) := kb_trans KB1 (kb_of (kept_alloc (kept_refl _) _))
            have zg2 : g < wr.heap.size := o1.lt
            have zw2 : w.heap.size < wr.heap.size := o0.lt
            have zgw : w.heap.size ≤ wr.heap.size := by omega
            have hck := cost_at HK2.out
            unfold costD at hck
            have HCK := Lib.hid hck
            clear hck hdl
            have hcb : costK k ≤ 2 := by unfold costK; split <;> (try split) <;> omega
            obtain ⟨u, hu⟩ : ∃ u, u = dpL l := ⟨_, rfl⟩
            rw [← hu] at hdm ⊢
            have HU := Lib.hid hu
            have HS := Lib.hid hs
            clear hu hs
            go_wp2_with (first | (refine wpList_insert_own (H := Unit) _ rfl _ _ _ 129 rfl 3 3 (int_keyed Try.underlying3) Try.underlying129 (plainElem Try.prog 3) wr.heap.size _ _ rfl hown (by unfold maxLen; omega) _ _ _ rfl rfl (keyOf_int_mk Try.underlying3 (by decide)) _ [] (plainElem_int Try.underlying3 (by decide)) ?_; intro w5 hown5 hg5; replace hown := hown5; replace o0' := o0'.grown hg5 (by intro e; injection e with e; omega); replace o1' := o1'.grown hg5 (by intro e; injection e with e; omega); replace KB2 := kb_step KB2 hg5 zgw; have q0 := o0'.cell (j := 0) rfl; clear hown5 hg5) | (at_lookup; refine wpList_lookup_own_int _ rfl _ _ 129 rfl 3 3 .i64 (int_keyed Try.underlying3) Try.underlying129 Try.underlying3 (zero3w _) wr.heap.size _ _ rfl hown _ _ rfl (keyOf_int_mk Try.underlying3 (by rcases HK2.out with rfl | rfl | rfl | rfl <;> decide)) ?_; intro cc hat hwc; rw [HCK.out] at hat; obtain rfl : cc = (costK k : Nat) := by (injection hat with h; injection h with _ h2; exact h2.symm)))
            go_ret2
            exact ⟨(u : Int) + (costK k : Nat), _, _, _, by rw [HS.out]; rfl, KB2, o1', fun _ => ⟨by have := HC.out; omega, by rw [lvs_ne hemp], by rw [inp_ne (by have := HK2.out; omega)], by rw [dp_ne hemp, ← HU.out]; simp⟩⟩

def OfPost (f : Fm) (w : World) (e : Ending) (w' : World) : Prop :=
  ∃ a b d i : Int, e = .returned (.tuple #[.agg #[.int .i64 a, .int .i64 b, .int .i64 d, .int .i64 i, .int .i64 0], .bool (shpF f)]) ∧ (shpF f = true → a = cntF f ∧ b = lvsF f ∧ d = dpF f ∧ i = inpF f) ∧ Kept w w'
set_option maxRecDepth 100000 in
set_option maxHeartbeats 1000000 in
theorem of_any (f : Fm) (A : Option Addr) (c : Nat) (w : World) (hc : cntF f ≤ 20000) (hd : depF f ≤ 1000) (hl : f.l.length ≤ 9223372036854775807) (hr : RK w A f.l) :
    Calls Try.prog 95 #[fmV f A c] w (OfPost f w) := by
  have ka : Kept w (((w.alloc (.cells #[.int .i64 f.k, .int .i64 f.n, .slice A f.l.length c] 52)).alloc (.cells #[.int .i64 0, .int .i64 0, .int .i64 0, .int .i64 0, .int .i64 0] 109)).alloc (.cells #[.int .i64 0, .int .i64 0, .int .i64 0, .int .i64 0, .int .i64 0] 109)) := kept_alloc (kept_alloc (kept_alloc (kept_refl w) _) _) _
  have oS : Own (((w.alloc (.cells #[.int .i64 f.k, .int .i64 f.n, .slice A f.l.length c] 52)).alloc (.cells #[.int .i64 0, .int .i64 0, .int .i64 0, .int .i64 0, .int .i64 0] 109)).alloc (.cells #[.int .i64 0, .int .i64 0, .int .i64 0, .int .i64 0, .int .i64 0] 109)) (w.heap.size + 1 + 1) 109 (shape5 0 0 0 0 0) := by
    simpa [shape5] using Own.new ((w.alloc (.cells #[.int .i64 f.k, .int .i64 f.n, .slice A f.l.length c] 52)).alloc (.cells #[.int .i64 0, .int .i64 0, .int .i64 0, .int .i64 0, .int .i64 0] 109)) 109 (shape5 0 0 0 0 0)
  have oR : Own (((w.alloc (.cells #[.int .i64 f.k, .int .i64 f.n, .slice A f.l.length c] 52)).alloc (.cells #[.int .i64 0, .int .i64 0, .int .i64 0, .int .i64 0, .int .i64 0] 109)).alloc (.cells #[.int .i64 0, .int .i64 0, .int .i64 0, .int .i64 0, .int .i64 0] 109)) (w.heap.size + 1) 109 (shape5 0 0 0 0 0) := by
    have := (Own.new (w.alloc (.cells #[.int .i64 f.k, .int .i64 f.n, .slice A f.l.length c] 52)) 109 (shape5 0 0 0 0 0)).alloc (.cells #[.int .i64 0, .int .i64 0, .int .i64 0, .int .i64 0, .int .i64 0] 109)
    simpa [shape5] using this
  have C := walk_any (cntF f) f A c 1 0 0 0 0 0 (w.heap.size + 1 + 1) w _ (Nat.le_refl _) hl hr ka (by omega) oS (by omega) (by omega) (by omega) (by omega) (by omega) (by omega) (by omega) (by omega)
  unfold fmV at C ⊢
  have HC := Lib.hid C
  clear C hl hr oS
  go_enter Try.func95, Try.ntmps95
  go_wp2_with fail
  refine HC.out.mono ?_
  rintro e w1 ⟨dd, a, b, i, rfl, k1, o1, himp⟩
  replace ka : Kept w w1 := ka.grown k1 ka.size (fun k e => by cases e; omega)
  replace oR := oR.kb k1 (by omega)
  have c0 := o1.cell (j := 0) rfl
  have c1 := o1.cell (j := 1) rfl
  have c2 := o1.cell (j := 2) rfl
  have c3 := o1.cell (j := 3) rfl
  have c4 := o1.cell (j := 4) rfl
  have f2 := o1.frozen 2
  have e0 := oR.cell (j := 0) rfl
  have e1 := oR.cell (j := 1) rfl
  have e2 := oR.cell (j := 2) rfl
  have e3 := oR.cell (j := 3) rfl
  have e4 := oR.cell (j := 4) rfl
  have g0 := oR.frozen 0
  have g1 := oR.frozen 1
  have g2 := oR.frozen 2
  have g3 := oR.frozen 3
  have g4 := oR.frozen 4
  have HI := Lib.hid himp
  clear himp HC
  go_wp2_with fail
  have pk := kept_set (g := w.heap.size + 1 + 1) (j := 2) ka (by omega) (.int .i64 dd)
  have oR2 := oR.other (a := ⟨w.heap.size + 1 + 1, 2, none⟩) (by dsimp only; omega) (.int .i64 dd)
  have pk2 := kept_set (g := w.heap.size + 1) (j := 4) (kept_set (g := w.heap.size + 1) (j := 3) (kept_set (g := w.heap.size + 1) (j := 2) (kept_set (g := w.heap.size + 1) (j := 1) (kept_set (g := w.heap.size + 1) (j := 0) pk (by omega) (.int .i64 a)) (by omega) (.int .i64 b)) (by omega) (.int .i64 dd)) (by omega) (.int .i64 i)) (by omega) (.int .i64 0)
  have oR3 := ((((oR2.set 0 (.int .i64 a)).set 1 (.int .i64 b)).set 2 (.int .i64 dd)).set 3 (.int .i64 i)).set 4 (.int .i64 0)
  obtain ⟨W2, hW2⟩ : ∃ W2, W2 = (((((w1.setCell ⟨w.heap.size + 1 + 1, 2, none⟩ (.int .i64 dd)).setCell ⟨w.heap.size + 1, 0, none⟩ (.int .i64 a)).setCell ⟨w.heap.size + 1, 1, none⟩ (.int .i64 b)).setCell ⟨w.heap.size + 1, 2, none⟩ (.int .i64 dd)).setCell ⟨w.heap.size + 1, 3, none⟩ (.int .i64 i)).setCell ⟨w.heap.size + 1, 4, none⟩ (.int .i64 0) := ⟨_, rfl⟩
  rw [← hW2] at pk2 oR3 ⊢
  clear hW2 e0 e1 e2 e3 e4 c0 c1 c2 c3 c4
  have q0 := oR3.cell (j := 0) rfl
  have q1 := oR3.cell (j := 1) rfl
  have q2 := oR3.cell (j := 2) rfl
  have q3 := oR3.cell (j := 3) rfl
  have q4 := oR3.cell (j := 4) rfl
  exact bodyPost_ret (v := .tuple #[.agg #[.int .i64 a, .int .i64 b, .int .i64 dd, .int .i64 i, .int .i64 0], .bool (shpF f)]) (by simp [results, Try.results95, go_sem, q0, q1, q2, q3, q4]) rfl ⟨a, b, dd, i, rfl, fun h => by
    obtain ⟨h1, h2, h3, h4⟩ := HI.out h
    have h5 := inp_bounds _ f (Nat.le_refl _) h
    exact ⟨by omega, by omega, h4, by omega⟩, pk2⟩

set_option maxRecDepth 100000 in
set_option maxHeartbeats 1000000 in
theorem valid82_any (f : Fm) (A : Option Addr) (c : Nat) (w : World) (hc : cntF f ≤ 20000) (hd : depF f ≤ 1000) (hl : f.l.length ≤ 9223372036854775807) (hr : RK w A f.l) :
    Calls Try.prog 82 #[fmV f A c] w fun e w' => e = .returned (.bool (shpF f)) ∧ Kept w w' := by
  have K0 : Kept w (w.alloc (.cells #[.int .i64 f.k, .int .i64 f.n, .slice A f.l.length c] 52)) := kept_alloc (kept_refl w) _
  have C := of_any f A c _ hc hd hl (hr.kept K0)
  unfold fmV at C ⊢
  have HC := Lib.hid C
  clear C hr hl
  go_enter Try.func82, Try.ntmps82
  go_wp2_with fail
  refine HC.out.mono ?_
  rintro e w1 ⟨a, b, d, i, rfl, _, k⟩
  go_wp2_with fail
  go_ret
  exact ⟨rfl, kept_alloc (kept_trans K0 k) _⟩

set_option maxRecDepth 100000 in
set_option maxHeartbeats 1000000 in
theorem part97_any (a b d i n : Int) (w : World) : Calls Try.prog 97 #[.agg #[.int .i64 a, .int .i64 b, .int .i64 d, .int .i64 i, .int .i64 n]] w fun e w' => e = .returned (.int .i64 i) ∧ Kept w w' := by
  go_enter Try.func97, Try.ntmps97
  go_wp2_with fail
  go_ret
  exact ⟨rfl, kept_alloc (kept_refl w) _⟩
set_option maxRecDepth 100000 in
set_option maxHeartbeats 1000000 in
theorem measure96_any (f : Fm) (A : Option Addr) (c : Nat) (w : World) (hc : cntF f ≤ 20000) (hd : depF f ≤ 1000) (hl : f.l.length ≤ 9223372036854775807) (hr : RK w A f.l) (hs : shpF f = true) :
    Calls Try.prog 96 #[fmV f A c, .func (.func 97) #[] #[]] w fun e w' => e = .returned (.int .i64 (inpF f)) ∧ Kept w w' := by
  have K0 : Kept w (w.alloc (.cells #[.int .i64 f.k, .int .i64 f.n, .slice A f.l.length c] 52)) := kept_alloc (kept_refl w) _
  have C := of_any f A c _ hc hd hl (hr.kept K0)
  unfold fmV at C ⊢
  have HC := Lib.hid C
  clear C hr hl
  go_enter Try.func96, Try.ntmps96
  go_wp2_with fail
  refine HC.out.mono ?_
  rintro e w1 ⟨a, b, d, i, rfl, himp, k⟩
  obtain ⟨_, _, _, hi⟩ := himp hs
  rw [hs]
  have HI := Lib.hid hi
  clear himp hs hi
  go_wp2_with fail
  refine (part97_any _ _ _ _ _ _).mono ?_
  rintro e w2 ⟨rfl, k2⟩
  go_wp2_with fail
  go_ret
  exact ⟨ret_int HI.out, kept_trans (kept_alloc (kept_trans K0 k) _) k2⟩
set_option maxRecDepth 100000 in
set_option maxHeartbeats 1000000 in
theorem inputs83_any (f : Fm) (A : Option Addr) (c : Nat) (w : World) (hc : cntF f ≤ 20000) (hd : depF f ≤ 1000) (hl : f.l.length ≤ 9223372036854775807) (hr : RK w A f.l) (hs : shpF f = true) :
    Calls Try.prog 83 #[fmV f A c] w fun e w' => e = .returned (.int .i64 (inpF f)) ∧ Kept w w' := by
  have K0 : Kept w (w.alloc (.cells #[.int .i64 f.k, .int .i64 f.n, .slice A f.l.length c] 52)) := kept_alloc (kept_refl w) _
  have C := measure96_any f A c _ hc hd hl (hr.kept K0) hs
  unfold fmV at C ⊢
  have HC := Lib.hid C
  clear C hr hl hs
  go_enter Try.func83, Try.ntmps83
  go_wp2_with fail
  refine HC.out.mono ?_
  rintro e w1 ⟨rfl, k⟩
  go_wp2_with fail
  go_ret
  exact ⟨rfl, kept_trans K0 k⟩
end Go.Proofs.Ytinpmdekdfgiiaa

/- From: the nodes of a formula are put. -/
set_option linter.unusedVariables false
set_option linter.unusedSimpArgs false
namespace Go.Proofs.Ytinpmdekdfgiiaa
open Go.RowKit

theorem put_cap : ∀ (N : Nat) (f : Fm), cntF f ≤ N → ∀ (z o : Int) (ns : List Nd), ns.length ≤ 20001 → (putF f z o ns).2.length ≤ 20001 := by
  intro N
  induction N with
  | zero => intro f h; have := cntF_pos f; omega
  | succ N ih =>
    intro f hc z o ns hn
    have hk : ∀ (j : Nat) (z o : Int) (ns : List Nd), ns.length ≤ 20001 → ((putL f.l).getD j (fun z _ ns => (z, ns)) z o ns).2.length ≤ 20001 := by
      intro j z o ns hn
      by_cases hj : j < f.l.length
      · rw [putL_get hj]
        exact ih _ (by have := cnt_kid hj; rw [cntF_eq] at hc; omega) z o ns hn
      · have hpl : ∀ l : List Fm, (putL l).length = l.length := by
          intro l
          induction l with
          | nil => rfl
          | cons g gs ih2 => simp [putL, ih2]
        rw [List.getD_eq_getElem?_getD, List.getElem?_eq_none (by rw [hpl]; omega)]
        exact hn
    rw [putF_eq]
    unfold putK
    dsimp only
    split
    · exact hn
    · rename_i hne
      split
      · exact hn
      · split
        · simp; omega
        · split
          · exact hk 0 _ _ _ hn
          · split
            · exact hk 0 _ _ _ (hk 1 _ _ _ hn)
            · split
              · exact hk 0 _ _ _ (hk 1 _ _ _ hn)
              · exact hk 0 _ _ _ (hk 1 _ _ _ (hk 1 _ _ _ hn))

section
variable {z o : Int} {ns : List Nd}
theorem put_var {n : Int} (h : ¬ (z = o ∨ ns.length > 20000)) : putF (.mk 0 n []) z o ns = (((ns.length : Nat) : Int), ns ++ [⟨n, z, o⟩]) := by rw [putF]; unfold putK; rw [if_neg h]; simp
theorem put_const {n : Int} (h : ¬ (z = o ∨ ns.length > 20000)) : putF (.mk 1 n []) z o ns = (if n = 0 then z else o, ns) := by rw [putF]; unfold putK; rw [if_neg h]; simp
theorem put_not {g : Fm} (h : ¬ (z = o ∨ ns.length > 20000)) : putF (.mk 2 0 [g]) z o ns = putF g o z ns := by rw [putF]; unfold putK; rw [if_neg h]; simp [putL]
theorem put_and {g k : Fm} (h : ¬ (z = o ∨ ns.length > 20000)) : putF (.mk 3 0 [g, k]) z o ns = putF g z (putF k z o ns).1 (putF k z o ns).2 := by rw [putF]; unfold putK; rw [if_neg h]; simp [putL]
theorem put_or {g k : Fm} (h : ¬ (z = o ∨ ns.length > 20000)) : putF (.mk 4 0 [g, k]) z o ns = putF g (putF k z o ns).1 o (putF k z o ns).2 := by rw [putF]; unfold putK; rw [if_neg h]; simp [putL]
theorem put_xor {g k : Fm} (h : ¬ (z = o ∨ ns.length > 20000)) : putF (.mk 5 0 [g, k]) z o ns = putF g (putF k z o ns).1 (putF k o z (putF k z o ns).2).1 (putF k o z (putF k z o ns).2).2 := by rw [putF]; unfold putK; rw [if_neg h]; simp [putL]
end

/-- All is as it was but for block g and the row of v. -/
structure Trn (g : Nat) (v : Value) (w w' : World) : Prop where
  os : w'.os = w.os
  tape : w'.tape = w.tape
  output : w'.output = w.output
  size : w.heap.size ≤ w'.heap.size
  block : ∀ k, k < w.heap.size → k ≠ g → some k ≠ v.ownBlock → w'.heap[k]? = w.heap[k]?
/-- Where a grown slice lies. -/
def Loc (v v' : Value) (w : World) : Prop := v'.ownBlock = v.ownBlock ∨ ∃ b, v'.ownBlock = some b ∧ w.heap.size ≤ b
theorem loc_refl (v : Value) (w : World) : Loc v v w := .inl rfl
theorem trn_of {g : Nat} {v : Value} {w w' : World} (k : Kept w w') : Trn g v w w' := ⟨k.os, k.tape, k.output, k.size, fun i hi _ _ => k.block i hi⟩
theorem trn_trans {g : Nat} {v v' : Value} {a b c : World} (h : Trn g v a b) (l : Loc v v' a) (k : Trn g v' b c) : Trn g v a c :=
  ⟨by rw [k.os, h.os], by rw [k.tape, h.tape], by rw [k.output, h.output], Nat.le_trans h.size k.size, fun i hi n1 n2 => (k.block i (Nat.lt_of_lt_of_le hi h.size) n1 (by
    rcases l with e | ⟨b, e, hb⟩
    · rw [e]; exact n2
    · rw [e]; intro h; injection h with h; omega)).trans (h.block i hi n1 n2)⟩
theorem loc_trans {v v' v'' : Value} {a b : World} (h : Loc v v' a) (k : Loc v' v'' b) (hs : a.heap.size ≤ b.heap.size) : Loc v v'' a := by
  rcases k with e | ⟨b, e, hb⟩
  · unfold Loc; rw [e]; exact h
  · exact .inr ⟨b, e, by omega⟩
theorem ne_loc {v v' : Value} {w : World} {b : Nat} (h : Loc v v' w) (hb : b < w.heap.size) (n : some b ≠ v.ownBlock) : some b ≠ v'.ownBlock := by
  rcases h with e | ⟨c, e, hc⟩
  · rw [e]; exact n
  · rw [e]; intro h; injection h with h; omega
theorem trn_set {g : Nat} {v : Value} {a b : World} (h : Trn g v a b) (j : Nat) (u : Value) : Trn g v a (b.setCell ⟨g, j, none⟩ u) :=
  ⟨h.os, h.tape, h.output, by simpa using h.size, fun i hi n1 n2 => (Below.heap_setCell b ⟨g, j, none⟩ u i n1).trans (h.block i hi n1 n2)⟩
theorem trn_grown {g : Nat} {v : Value} {a b c : World} (h : Trn g v a b) (k : b.grownBy c v.ownBlock) : Trn g v a c :=
  ⟨by rw [k.os, h.os], by rw [k.tape, h.tape], by rw [k.output, h.output], Nat.le_trans h.size k.size, fun i hi n1 n2 => (k.block i (Nat.lt_of_lt_of_le hi h.size) n2).trans (h.block i hi n1 n2)⟩
theorem trn_cell {g : Nat} {v : Value} {w w' : World} (h : Trn g v w w') {b o : Nat} (n1 : b ≠ g) (n2 : some b ≠ v.ownBlock) {u : Value} (hc : w.cell? ⟨b, o, none⟩ = some u) : w'.cell? ⟨b, o, none⟩ = some u :=
  (World.cell?_of_block (w := w) (a := ⟨b, o, none⟩) (h.block b (kept_lt hc) n1 n2)).trans hc
theorem Own.trn {g b : Nat} {v : Value} {w w' : World} {e : TypeId} {cs : List Value} (h : Own w b e cs) (k : Trn g v w w') (n1 : b ≠ g) (n2 : some b ≠ v.ownBlock) : Own w' b e cs := h.of_block (k.block b h.lt n1 n2)
theorem kept_trn {g : Nat} {v : Value} {w0 w w' : World} (hK : Kept w0 w) (k : Trn g v w w') (hg : w0.heap.size ≤ g) (hv : ∀ b, v.ownBlock = some b → w0.heap.size ≤ b) : Kept w0 w' :=
  ⟨by rw [k.os, hK.os], by rw [k.tape, hK.tape], by rw [k.output, hK.output], Nat.le_trans hK.size k.size, fun i hi => (k.block i (Nat.lt_of_lt_of_le hi hK.size) (by omega) (fun e => by have := hv i e.symm; omega)).trans (hK.block i hi)⟩

def putV (gN gP : Nat) : Value := .func (.func 84) #[] #[.pointer (some ⟨gN, 0, none⟩), .pointer (some ⟨gP, 0, none⟩)]
/-- What put leaves. -/
def PutPost (gN base : Nat) (r : Int × List Nd) (v : Value) (w : World) (e : Ending) (w' : World) : Prop :=
  ∃ v', e = .returned (.int .i64 r.1) ∧ Own w' gN 22 [v'] ∧ w'.ownsRow base 48 3 v' r.2.length (ndCells r.2) ∧ Trn gN v w w' ∧ Loc v v' w

set_option maxRecDepth 100000 in
set_option maxHeartbeats 6000000 in
theorem put_any (gN gP base : Nat) (hNP : gN < gP) (hPB : gP < base) : ∀ (N : Nat) (f : Fm) (A : Option Addr) (c : Nat) (z o : Int) (ns : List Nd) (v : Value) (w0 w : World), cntF f ≤ N → shpF f = true → RK w0 A f.l → Kept w0 w → w0.heap.size ≤ gN → base ≤ w.heap.size →
    Own w gN 22 [v] → Own w gP 90 [putV gN gP] → w.ownsRow base 48 3 v ns.length (ndCells ns) → ns.length ≤ 20001 →
    Calls Try.prog 84 #[fmV f A c, .int .i64 z, .int .i64 o, .pointer (some ⟨gN, 0, none⟩), .pointer (some ⟨gP, 0, none⟩)] w (PutPost gN base (putF f z o ns) v w) := by
  intro N
  induction N with
  | zero => intro f A c z o ns v w0 w h; have := cntF_pos f; omega
  | succ N ih =>
    intro f A c z o ns v w0 w hc hs hr hK hg hbs oN oP hrow hnl
    have IH := Lib.hid ih; clear ih
    obtain ⟨Av, cv, rfl, hrow⟩ := row_form hrow
    have hvb : ∀ b, (Value.slice Av ns.length cv).ownBlock = some b → base ≤ b ∧ b < w.heap.size := fun b hb => hrow.lt b hb
    have c0 := oN.cell (j := 0) rfl
    have f0 := oN.frozen 0
    have cP := oP.cell (j := 0) rfl
    unfold putV at cP
    have zN : gN < w.heap.size := oN.lt
    have zP : gP < w.heap.size := oP.lt
    have neN : some gN ≠ (Value.slice Av ns.length cv).ownBlock := fun e => by have := hvb gN e.symm; omega
    have neP : some gP ≠ (Value.slice Av ns.length cv).ownBlock := fun e => by have := hvb gP e.symm; omega
    have neP1 : gP ≠ gN := by omega
    by_cases hearly : z = o ∨ ns.length > 20000
    · have hp : putF f z o ns = (z, ns) := by rw [putF_eq]; unfold putK; dsimp only; rw [if_pos hearly]
      rw [hp]
      have HP := Lib.hid hp; clear hp
      unfold fmV
      have T0 : Trn gN (.slice Av ns.length cv) w (w.alloc (.cells #[.int .i64 f.k, .int .i64 f.n, .slice A f.l.length c] 52)) := trn_of (kept_alloc (kept_refl w) _)
      have oN' := oN.alloc (.cells #[.int .i64 f.k, .int .i64 f.n, .slice A f.l.length c] 52)
      have hrow' := row_alloc hrow (.cells #[.int .i64 f.k, .int .i64 f.n, .slice A f.l.length c] 52)
      by_cases hzo : z = o
      case' pos => have b1 : (z == o) = true := beq_iff_eq.2 hzo
      case' neg =>
        have b1 : (z == o) = false := beq_eq_false_iff_ne.2 hzo
        have b2 : decide ((20000 : Int) < (ns.length : Int)) = true := decide_eq_true (by omega)
        have b3 : decide (20000 < ns.length) = true := decide_eq_true (by omega)
      all_goals
        clear hzo hearly
        go_enter Try.func84, Try.ntmps84
        go_wp2_with fail
        go_ret
        exact ⟨_, rfl, oN', hrow', T0, loc_refl _ _⟩
    · have b1 : (z == o) = false := beq_eq_false_iff_ne.2 fun e => hearly (.inl e)
      have b2 : decide ((20000 : Int) < (ns.length : Int)) = false := decide_eq_false (by omega)
      have b3 : decide (20000 < ns.length) = false := decide_eq_false (by omega)
      have hnl2 : ns.length ≤ 20000 := by omega
      have HE := Lib.hid hearly; clear hearly
      have hs0 := hs
      rcases fm_cases hs with ⟨n, rfl, n0, n1⟩ | (rfl | rfl) | ⟨g, rfl, sg⟩ | ⟨k, g, h, hk, rfl, sg, sh⟩
      · have hp : putF (.mk 0 n []) z o ns = (((ns.length : Nat) : Int), ns ++ [⟨n, z, o⟩]) := put_var HE.out
        rw [hp]
        change Calls Try.prog 84 #[.agg #[.int .i64 0, .int .i64 n, .slice A 0 c], .int .i64 z, .int .i64 o, _, _] w _
        have hrowA := row_alloc hrow (.cells #[.int .i64 0, .int .i64 n, .slice A 0 c] 52)
        have hB : base ≤ (w.alloc (.cells #[.int .i64 0, .int .i64 n, .slice A 0 c] 52)).heap.size := by simp; omega
        have T0 : Trn gN (.slice Av ns.length cv) w (w.alloc (.cells #[.int .i64 0, .int .i64 n, .slice A 0 c] 52)) := trn_of (kept_alloc (kept_refl w) _)
        have oN' := oN.alloc (.cells #[.int .i64 0, .int .i64 n, .slice A 0 c] 52)
        clear hp
        go_enter Try.func84, Try.ntmps84
        go_wp2_with (at_builtin; go_loud (refine app_law base rfl (.tmp 33) (.tmp 39) 22 48 (.agg #[.int .i64 0, .int .i64 0, .int .i64 0]) 3 24 rfl Try.underlying22 info48 rfl (by omega) (by omega) (.slice Av ns.length cv) ns.length 1 (ndCells ns) [.int .i64 n, .int .i64 z, .int .i64 o] rfl (by rw [World.size_alloc]; rfl) rfl (one_nds [⟨n, z, o⟩]) hrowA hB (by omega) ?_; intro v7 w7 hr7 hg7 hat7; have hr7 := row_list hr7 (ndCells_snoc ns ⟨n, z, o⟩); obtain ⟨A7, c7, rfl, hr7⟩ := row_form hr7; have o7 := oN'.grown hg7 neN; have c7' := o7.cell (j := 0) rfl; have f7 := o7.frozen 0; clear c0 f0))
        have T7 := trn_set (trn_grown T0 hg7) 0 (.slice A7 (ns.length + 1) c7)
        have r8 := ownsRow_setCell_below hr7 (a := ⟨gN, 0, none⟩) (by dsimp only; omega) (.slice A7 (ns.length + 1) c7)
        have o8 := o7.set 0 (.slice A7 (ns.length + 1) c7)
        have L8 : Loc (.slice Av ns.length cv) (.slice A7 (ns.length + 1) c7) w := by
          rcases hat7 with e | ⟨b, e, hb⟩
          · exact .inl e
          · exact .inr ⟨b, e, by simp at hb; omega⟩
        go_ret
        exact ⟨_, congrArg (fun x => Ending.returned (Value.int .i64 x)) (by omega), o8, by simpa using r8, T7, L8⟩
      · have hp : putF (.mk 1 0 []) z o ns = (z, ns) := by rw [put_const HE.out]; rfl
        rw [hp]
        change Calls Try.prog 84 #[.agg #[.int .i64 1, .int .i64 0, .slice A 0 c], .int .i64 z, .int .i64 o, _, _] w _
        have T0 : Trn gN (.slice Av ns.length cv) w ((w.alloc (.cells #[.int .i64 1, .int .i64 0, .slice A 0 c] 52)).alloc (.cells #[.int .i64 z, .int .i64 o] 3)) := trn_of (kept_alloc (kept_alloc (kept_refl w) _) _)
        have oN' := (oN.alloc (.cells #[.int .i64 1, .int .i64 0, .slice A 0 c] 52)).alloc (.cells #[.int .i64 z, .int .i64 o] 3)
        have hrow' := row_alloc (row_alloc hrow (.cells #[.int .i64 1, .int .i64 0, .slice A 0 c] 52)) (.cells #[.int .i64 z, .int .i64 o] 3)
        clear hp
        go_enter Try.func84, Try.ntmps84
        go_wp2_with fail
        go_ret
        exact ⟨_, rfl, oN', hrow', T0, loc_refl _ _⟩
      · have hp : putF (.mk 1 1 []) z o ns = (o, ns) := by rw [put_const HE.out]; rfl
        rw [hp]
        change Calls Try.prog 84 #[.agg #[.int .i64 1, .int .i64 1, .slice A 0 c], .int .i64 z, .int .i64 o, _, _] w _
        have T0 : Trn gN (.slice Av ns.length cv) w ((w.alloc (.cells #[.int .i64 1, .int .i64 1, .slice A 0 c] 52)).alloc (.cells #[.int .i64 z, .int .i64 o] 3)) := trn_of (kept_alloc (kept_alloc (kept_refl w) _) _)
        have oN' := (oN.alloc (.cells #[.int .i64 1, .int .i64 1, .slice A 0 c] 52)).alloc (.cells #[.int .i64 z, .int .i64 o] 3)
        have hrow' := row_alloc (row_alloc hrow (.cells #[.int .i64 1, .int .i64 1, .slice A 0 c] 52)) (.cells #[.int .i64 z, .int .i64 o] 3)
        clear hp
        go_enter Try.func84, Try.ntmps84
        go_wp2_with fail
        go_ret
        exact ⟨_, rfl, oN', hrow', T0, loc_refl _ _⟩
      · have hp : putF (.mk 2 0 [g]) z o ns = putF g o z ns := put_not HE.out
        rw [hp]
        change Calls Try.prog 84 #[.agg #[.int .i64 2, .int .i64 0, .slice A 1 c], .int .i64 z, .int .i64 o, _, _] w _
        obtain ⟨b, off, rfl, hkid⟩ := rk_one hr
        obtain ⟨e0, e1, ⟨A', c', e2, rk⟩, dl⟩ := hkid
        obtain ⟨W, hW⟩ : ∃ W, W = w.alloc (.cells #[.int .i64 2, .int .i64 0, .slice (some ⟨b, off, none⟩) 1 c] 52) := ⟨_, rfl⟩
        have oB := Own.new w 52 [.int .i64 2, .int .i64 0, .slice (some ⟨b, off, none⟩) 1 c]
        have KW : Kept w W := by rw [hW]; exact kept_alloc (kept_refl w) _
        rw [← hW] at oB
        have hbb : b < w0.heap.size := kept_lt e0
        have d0 := kept_cell (kept_trans hK KW) e0
        have d1 := kept_cell (kept_trans hK KW) e1
        have d2 := kept_cell (kept_trans hK KW) e2
        have q2 := oB.cell (j := 2) rfl
        have neB1 : w.heap.size ≠ gN := by omega
        have neB : some w.heap.size ≠ (Value.slice Av ns.length cv).ownBlock := fun e => by have := hvb _ e.symm; omega
        have neK1 : b ≠ gN := by omega
        have neK : some b ≠ (Value.slice Av ns.length cv).ownBlock := fun e => by have := hvb _ e.symm; omega
        have C := fun (w' : World) (k : Kept W w') => IH.out g A' c' o z ns (.slice Av ns.length cv) w0 w' (by rw [cnt_one] at hc; omega) sg rk (kept_trans (kept_trans hK KW) k) hg (by have := KW.size; have := k.size; omega) ((oN.kept KW).kept k) ((oP.kept KW).kept k) (row_kept (row_kept hrow KW) k) hnl
        unfold fmV at C
        have HC := Lib.hid C
        replace cP := kept_cell KW cP
        have HW := Lib.hid hW
        clear C e0 e1 e2 hp hr hs hs0 rk hW oB
        go_enter Try.func84, Try.ntmps84
        go_wp2_with fail
        rw [← HW.out]
        refine region_x (fun w' => Trn gN (.slice Av ns.length cv) W w') [] (by kernel_rfl) ?_ (fun hHeld => ?_)
        · exact trn_of (kept_drew (kept_refl W))
        refine x_take (i := 0) (oi := { dst := some 46, op := Op.load 90 (Operand.tmp 4), type := 90, pos := "branch.go:171", after := #[], guard := none }) (v := ?_) rfl (by kernel_rfl) (by kernel_rfl) (by kernel_rfl) (by kernel_rfl) (by kernel_rfl) (fun _ _ _ h => h) (Or.inl ⟨rfl, ?_⟩) (by assumption) ?_
        rotate_left
        · (intro w' hSw; replace cP := trn_cell hSw neP1 neP cP; replace q2 := trn_cell hSw neB1 neB q2; replace d0 := trn_cell hSw neK1 neK d0; replace d1 := trn_cell hSw neK1 neK d1; replace d2 := trn_cell hSw neK1 neK d2; go_simp; try with_reducible rfl)
        try simp only [Act.put, List.setIfInBounds_toArray, List.set_cons_zero, List.set_cons_succ]
        refine x_take (i := 1) (oi := { dst := some 47, op := Op.fieldAddr 52 (Operand.tmp 5) 2, type := 0, pos := "branch.go:171", after := #[], guard := none }) (v := ?_) rfl (by kernel_rfl) (by kernel_rfl) (by kernel_rfl) (by kernel_rfl) (by kernel_rfl) (fun _ _ _ h => h) (Or.inl ⟨rfl, ?_⟩) (by assumption) ?_
        rotate_left
        · (intro w' hSw; replace cP := trn_cell hSw neP1 neP cP; replace q2 := trn_cell hSw neB1 neB q2; replace d0 := trn_cell hSw neK1 neK d0; replace d1 := trn_cell hSw neK1 neK d1; replace d2 := trn_cell hSw neK1 neK d2; go_simp; try with_reducible rfl)
        try simp only [Act.put, List.setIfInBounds_toArray, List.set_cons_zero, List.set_cons_succ]
        refine x_take (i := 2) (oi := { dst := some 48, op := Op.load 50 (Operand.tmp 47), type := 50, pos := "branch.go:171", after := #[{ on := 1, ground := Ground.data }], guard := none }) (v := ?_) rfl (by kernel_rfl) (by kernel_rfl) (by kernel_rfl) (by kernel_rfl) (by kernel_rfl) (fun _ _ _ h => h) (Or.inl ⟨rfl, ?_⟩) (by assumption) ?_
        rotate_left
        · (intro w' hSw; replace cP := trn_cell hSw neP1 neP cP; replace q2 := trn_cell hSw neB1 neB q2; replace d0 := trn_cell hSw neK1 neK d0; replace d1 := trn_cell hSw neK1 neK d1; replace d2 := trn_cell hSw neK1 neK d2; go_simp; try with_reducible rfl)
        try simp only [Act.put, List.setIfInBounds_toArray, List.set_cons_zero, List.set_cons_succ]
        refine x_take (i := 3) (oi := { dst := some 49, op := Op.indexAddr 50 (Operand.tmp 48) (Operand.const (Value.int IntKind.i64 0)), type := 0, pos := "branch.go:171", after := #[{ on := 2, ground := Ground.data }], guard := none }) (v := ?_) rfl (by kernel_rfl) (by kernel_rfl) (by kernel_rfl) (by kernel_rfl) (by kernel_rfl) (fun _ _ _ h => h) (Or.inl ⟨rfl, ?_⟩) (by assumption) ?_
        rotate_left
        · (intro w' hSw; replace cP := trn_cell hSw neP1 neP cP; replace q2 := trn_cell hSw neB1 neB q2; replace d0 := trn_cell hSw neK1 neK d0; replace d1 := trn_cell hSw neK1 neK d1; replace d2 := trn_cell hSw neK1 neK d2; go_simp; try with_reducible rfl)
        try simp only [Act.put, List.setIfInBounds_toArray, List.set_cons_zero, List.set_cons_succ]
        refine x_take (i := 4) (oi := { dst := some 50, op := Op.load 52 (Operand.tmp 49), type := 52, pos := "branch.go:171", after := #[{ on := 3, ground := Ground.data }], guard := none }) (v := ?_) rfl (by kernel_rfl) (by kernel_rfl) (by kernel_rfl) (by kernel_rfl) (by kernel_rfl) (fun _ _ _ h => h) (Or.inl ⟨rfl, ?_⟩) (by assumption) ?_
        rotate_left
        · (intro w' hSw; replace cP := trn_cell hSw neP1 neP cP; replace q2 := trn_cell hSw neB1 neB q2; replace d0 := trn_cell hSw neK1 neK d0; replace d1 := trn_cell hSw neK1 neK d1; replace d2 := trn_cell hSw neK1 neK d2; go_simp; try with_reducible rfl)
        try simp only [Act.put, List.setIfInBounds_toArray, List.set_cons_zero, List.set_cons_succ]
        refine x_take (i := 5) (oi := { dst := some 51, op := Op.move (Operand.tmp 2), type := 3, pos := "branch.go:171", after := #[], guard := none }) (v := ?_) rfl (by kernel_rfl) (by kernel_rfl) (by kernel_rfl) (by kernel_rfl) (by kernel_rfl) (fun _ _ _ h => h) (Or.inl ⟨rfl, ?_⟩) (by assumption) ?_
        rotate_left
        · (intro w' hSw; replace cP := trn_cell hSw neP1 neP cP; replace q2 := trn_cell hSw neB1 neB q2; replace d0 := trn_cell hSw neK1 neK d0; replace d1 := trn_cell hSw neK1 neK d1; replace d2 := trn_cell hSw neK1 neK d2; go_simp; try with_reducible rfl)
        try simp only [Act.put, List.setIfInBounds_toArray, List.set_cons_zero, List.set_cons_succ]
        refine x_take (i := 6) (oi := { dst := some 52, op := Op.move (Operand.tmp 1), type := 3, pos := "branch.go:171", after := #[], guard := none }) (v := ?_) rfl (by kernel_rfl) (by kernel_rfl) (by kernel_rfl) (by kernel_rfl) (by kernel_rfl) (fun _ _ _ h => h) (Or.inl ⟨rfl, ?_⟩) (by assumption) ?_
        rotate_left
        · (intro w' hSw; replace cP := trn_cell hSw neP1 neP cP; replace q2 := trn_cell hSw neB1 neB q2; replace d0 := trn_cell hSw neK1 neK d0; replace d1 := trn_cell hSw neK1 neK d1; replace d2 := trn_cell hSw neK1 neK d2; go_simp; try with_reducible rfl)
        try simp only [Act.put, List.setIfInBounds_toArray, List.set_cons_zero, List.set_cons_succ]
        refine x_one (i := 7) (o := { dst := some 53, op := Op.call { callee := Callee.value (Operand.tmp 46), args := #[Operand.tmp 50, Operand.tmp 51, Operand.tmp 52], argTypes := #[52, 3, 3] }, type := 3, pos := "branch.go:171", after := #[{ on := 0, ground := Ground.data }, { on := 4, ground := Ground.data }, { on := 5, ground := Ground.data }, { on := 6, ground := Ground.data }], guard := none }) (by kernel_rfl) rfl (fun K hK => ?_)
        (go_simp; go_at_call 84; refine (HC.out W.drew (kept_drew (kept_refl W))).mono ?_; rintro e w3 ⟨v3, rfl, oN3, r3, T3, L3⟩; have T3 : Trn gN (.slice Av ns.length cv) W w3 := trn_trans (trn_of (kept_drew (kept_refl W))) (loc_refl _ _) T3; try dsimp only)
        refine hK.out _ _ ?_ (fun hHeld => ?_)
        · (try dsimp only); first | exact trn_of (kept_drew (kept_refl W)) | exact T3
        clear hK K
        try simp only [Act.put, List.setIfInBounds_toArray, List.set_cons_zero, List.set_cons_succ]
        refine x_take (i := 8) (oi := { dst := some 8, op := Op.assign (Operand.tmp 53), type := 3, pos := "branch.go:171", after := #[{ on := 7, ground := Ground.data }, { on := 7, ground := Ground.chain }, { on := 0, ground := Ground.phase }, { on := 1, ground := Ground.phase }, { on := 2, ground := Ground.phase }, { on := 3, ground := Ground.phase }, { on := 4, ground := Ground.phase }, { on := 5, ground := Ground.phase }, { on := 6, ground := Ground.phase }, { on := 7, ground := Ground.phase }], guard := none }) (v := ?_) rfl (by kernel_rfl) (by kernel_rfl) (by kernel_rfl) (by kernel_rfl) (by kernel_rfl) (fun _ _ _ h => h) (Or.inl ⟨rfl, ?_⟩) (by assumption) ?_
        rotate_left
        · (intro w' hSw; replace cP := trn_cell hSw neP1 neP cP; replace q2 := trn_cell hSw neB1 neB q2; replace d0 := trn_cell hSw neK1 neK d0; replace d1 := trn_cell hSw neK1 neK d1; replace d2 := trn_cell hSw neK1 neK d2; go_simp; try with_reducible rfl)
        try simp only [Act.put, List.setIfInBounds_toArray, List.set_cons_zero, List.set_cons_succ]
        refine x_done (by kernel_rfl) ?_ _
        go_wp2_with fail
        go_ret
        exact ⟨v3, rfl, oN3, r3, trn_trans (trn_of KW) (loc_refl _ _) T3, loc_trans (loc_refl _ _) L3 KW.size⟩
      · obtain ⟨b, off, rfl, hkid, hkid2⟩ := rk_two hr
        obtain ⟨d0, d1, ⟨A', c', d2, rk⟩, dl⟩ := hkid
        obtain ⟨e0, e1, ⟨A2, c2, e2, rk2⟩, el⟩ := hkid2
        obtain ⟨W, hW⟩ : ∃ W, W = w.alloc (.cells #[.int .i64 k, .int .i64 0, .slice (some ⟨b, off, none⟩) 2 c] 52) := ⟨_, rfl⟩
        have oB := Own.new w 52 [.int .i64 k, .int .i64 0, .slice (some ⟨b, off, none⟩) 2 c]
        have KW : Kept w W := by rw [hW]; exact kept_alloc (kept_refl w) _
        rw [← hW] at oB
        have hbb : b < w0.heap.size := kept_lt d0
        have K0W := kept_trans hK KW
        replace d0 := kept_cell K0W d0
        replace d1 := kept_cell K0W d1
        replace d2 := kept_cell K0W d2
        replace e0 := kept_cell K0W e0
        replace e1 := kept_cell K0W e1
        replace e2 := kept_cell K0W e2
        have q2 := oB.cell (j := 2) rfl
        have oNW := oN.kept KW
        have oPW := oP.kept KW
        have rowW := row_kept hrow KW
        have neB1 : w.heap.size ≠ gN := by omega
        have neB : some w.heap.size ≠ (Value.slice Av ns.length cv).ownBlock := fun e => by have := hvb _ e.symm; omega
        have neK1 : b ≠ gN := by omega
        have neK : some b ≠ (Value.slice Av ns.length cv).ownBlock := fun e => by have := hvb _ e.symm; omega
        have C := fun (z' o' : Int) (ns' : List Nd) (v' : Value) (w' : World) (k1 : Kept w0 w') (k2 : base ≤ w'.heap.size) (k3 : Own w' gN 22 [v']) (k4 : Own w' gP 90 [putV gN gP]) (k5 : w'.ownsRow base 48 3 v' ns'.length (ndCells ns')) (k6 : ns'.length ≤ 20001) => IH.out g A' c' z' o' ns' v' w0 w' (by rw [cnt_two] at hc; omega) sg rk k1 hg k2 k3 k4 k5 k6
        have D := fun (z' o' : Int) (ns' : List Nd) (v' : Value) (w' : World) (k1 : Kept w0 w') (k2 : base ≤ w'.heap.size) (k3 : Own w' gN 22 [v']) (k4 : Own w' gP 90 [putV gN gP]) (k5 : w'.ownsRow base 48 3 v' ns'.length (ndCells ns')) (k6 : ns'.length ≤ 20001) => IH.out h A2 c2 z' o' ns' v' w0 w' (by rw [cnt_two] at hc; omega) sh rk2 k1 hg k2 k3 k4 k5 k6
        unfold fmV at C D
        have HG := Lib.hid C; have HH := Lib.hid D
        replace cP := kept_cell KW cP
        have HW := Lib.hid hW
        clear C D hr hs hs0 rk rk2 hW oB
        rcases hk with rfl | rfl | rfl
        · have hp := put_and (g := g) (k := h) HE.out
          rw [hp]
          obtain ⟨p1, hp1⟩ : ∃ p, p = putF h z o ns := ⟨_, rfl⟩
          rw [← hp1]
          have D1 := HH.out z o ns (.slice Av ns.length cv) W.drew (kept_drew K0W) (by have := KW.size; show _ ≤ W.heap.size; omega) oNW.drew oPW.drew (row_kept rowW (kept_drew (kept_refl W))) hnl
          rw [← hp1] at D1
          have HD1 := Lib.hid D1
          have hl3 : p1.2.length ≤ 20001 := by rw [hp1]; exact put_cap _ h (Nat.le_refl _) _ _ _ hnl
          clear D1 hp1
          change Calls Try.prog 84 #[.agg #[.int .i64 3, .int .i64 0, .slice (some ⟨b, off, none⟩) 2 c], .int .i64 z, .int .i64 o, _, _] w _
          clear hp
          go_enter Try.func84, Try.ntmps84
          go_wp2_with fail
          rw [← HW.out]
          refine region_x (fun w' => Trn gN (.slice Av ns.length cv) W w') [] (by kernel_rfl) ?_ (fun hHeld => ?_)
          · exact trn_of (kept_drew (kept_refl W))
          refine x_take (i := 0) (oi := { dst := some 56, op := Op.load 90 (Operand.tmp 4), type := 90, pos := "branch.go:173", after := #[], guard := none }) (v := ?_) rfl (by kernel_rfl) (by kernel_rfl) (by kernel_rfl) (by kernel_rfl) (by kernel_rfl) (fun _ _ _ h => h) (Or.inl ⟨rfl, ?_⟩) (by assumption) ?_
          rotate_left
          · (intro w' hSw; replace cP := trn_cell hSw neP1 neP cP; replace q2 := trn_cell hSw neB1 neB q2; replace d0 := trn_cell hSw neK1 neK d0; replace d1 := trn_cell hSw neK1 neK d1; replace d2 := trn_cell hSw neK1 neK d2; replace e0 := trn_cell hSw neK1 neK e0; replace e1 := trn_cell hSw neK1 neK e1; replace e2 := trn_cell hSw neK1 neK e2; go_simp; try with_reducible rfl)
          try simp only [Act.put, List.setIfInBounds_toArray, List.set_cons_zero, List.set_cons_succ]
          refine x_take (i := 1) (oi := { dst := some 57, op := Op.fieldAddr 52 (Operand.tmp 5) 2, type := 0, pos := "branch.go:173", after := #[], guard := none }) (v := ?_) rfl (by kernel_rfl) (by kernel_rfl) (by kernel_rfl) (by kernel_rfl) (by kernel_rfl) (fun _ _ _ h => h) (Or.inl ⟨rfl, ?_⟩) (by assumption) ?_
          rotate_left
          · (intro w' hSw; replace cP := trn_cell hSw neP1 neP cP; replace q2 := trn_cell hSw neB1 neB q2; replace d0 := trn_cell hSw neK1 neK d0; replace d1 := trn_cell hSw neK1 neK d1; replace d2 := trn_cell hSw neK1 neK d2; replace e0 := trn_cell hSw neK1 neK e0; replace e1 := trn_cell hSw neK1 neK e1; replace e2 := trn_cell hSw neK1 neK e2; go_simp; try with_reducible rfl)
          try simp only [Act.put, List.setIfInBounds_toArray, List.set_cons_zero, List.set_cons_succ]
          refine x_take (i := 2) (oi := { dst := some 58, op := Op.load 50 (Operand.tmp 57), type := 50, pos := "branch.go:173", after := #[{ on := 1, ground := Ground.data }], guard := none }) (v := ?_) rfl (by kernel_rfl) (by kernel_rfl) (by kernel_rfl) (by kernel_rfl) (by kernel_rfl) (fun _ _ _ h => h) (Or.inl ⟨rfl, ?_⟩) (by assumption) ?_
          rotate_left
          · (intro w' hSw; replace cP := trn_cell hSw neP1 neP cP; replace q2 := trn_cell hSw neB1 neB q2; replace d0 := trn_cell hSw neK1 neK d0; replace d1 := trn_cell hSw neK1 neK d1; replace d2 := trn_cell hSw neK1 neK d2; replace e0 := trn_cell hSw neK1 neK e0; replace e1 := trn_cell hSw neK1 neK e1; replace e2 := trn_cell hSw neK1 neK e2; go_simp; try with_reducible rfl)
          try simp only [Act.put, List.setIfInBounds_toArray, List.set_cons_zero, List.set_cons_succ]
          refine x_take (i := 3) (oi := { dst := some 59, op := Op.indexAddr 50 (Operand.tmp 58) (Operand.const (Value.int IntKind.i64 0)), type := 0, pos := "branch.go:173", after := #[{ on := 2, ground := Ground.data }], guard := none }) (v := ?_) rfl (by kernel_rfl) (by kernel_rfl) (by kernel_rfl) (by kernel_rfl) (by kernel_rfl) (fun _ _ _ h => h) (Or.inl ⟨rfl, ?_⟩) (by assumption) ?_
          rotate_left
          · (intro w' hSw; replace cP := trn_cell hSw neP1 neP cP; replace q2 := trn_cell hSw neB1 neB q2; replace d0 := trn_cell hSw neK1 neK d0; replace d1 := trn_cell hSw neK1 neK d1; replace d2 := trn_cell hSw neK1 neK d2; replace e0 := trn_cell hSw neK1 neK e0; replace e1 := trn_cell hSw neK1 neK e1; replace e2 := trn_cell hSw neK1 neK e2; go_simp; try with_reducible rfl)
          try simp only [Act.put, List.setIfInBounds_toArray, List.set_cons_zero, List.set_cons_succ]
          refine x_take (i := 4) (oi := { dst := some 60, op := Op.load 52 (Operand.tmp 59), type := 52, pos := "branch.go:173", after := #[{ on := 3, ground := Ground.data }], guard := none }) (v := ?_) rfl (by kernel_rfl) (by kernel_rfl) (by kernel_rfl) (by kernel_rfl) (by kernel_rfl) (fun _ _ _ h => h) (Or.inl ⟨rfl, ?_⟩) (by assumption) ?_
          rotate_left
          · (intro w' hSw; replace cP := trn_cell hSw neP1 neP cP; replace q2 := trn_cell hSw neB1 neB q2; replace d0 := trn_cell hSw neK1 neK d0; replace d1 := trn_cell hSw neK1 neK d1; replace d2 := trn_cell hSw neK1 neK d2; replace e0 := trn_cell hSw neK1 neK e0; replace e1 := trn_cell hSw neK1 neK e1; replace e2 := trn_cell hSw neK1 neK e2; go_simp; try with_reducible rfl)
          try simp only [Act.put, List.setIfInBounds_toArray, List.set_cons_zero, List.set_cons_succ]
          refine x_take (i := 5) (oi := { dst := some 61, op := Op.move (Operand.tmp 1), type := 3, pos := "branch.go:173", after := #[], guard := none }) (v := ?_) rfl (by kernel_rfl) (by kernel_rfl) (by kernel_rfl) (by kernel_rfl) (by kernel_rfl) (fun _ _ _ h => h) (Or.inl ⟨rfl, ?_⟩) (by assumption) ?_
          rotate_left
          · (intro w' hSw; replace cP := trn_cell hSw neP1 neP cP; replace q2 := trn_cell hSw neB1 neB q2; replace d0 := trn_cell hSw neK1 neK d0; replace d1 := trn_cell hSw neK1 neK d1; replace d2 := trn_cell hSw neK1 neK d2; replace e0 := trn_cell hSw neK1 neK e0; replace e1 := trn_cell hSw neK1 neK e1; replace e2 := trn_cell hSw neK1 neK e2; go_simp; try with_reducible rfl)
          try simp only [Act.put, List.setIfInBounds_toArray, List.set_cons_zero, List.set_cons_succ]
          refine x_take (i := 6) (oi := { dst := some 62, op := Op.load 90 (Operand.tmp 4), type := 90, pos := "branch.go:173", after := #[], guard := none }) (v := ?_) rfl (by kernel_rfl) (by kernel_rfl) (by kernel_rfl) (by kernel_rfl) (by kernel_rfl) (fun _ _ _ h => h) (Or.inl ⟨rfl, ?_⟩) (by assumption) ?_
          rotate_left
          · (intro w' hSw; replace cP := trn_cell hSw neP1 neP cP; replace q2 := trn_cell hSw neB1 neB q2; replace d0 := trn_cell hSw neK1 neK d0; replace d1 := trn_cell hSw neK1 neK d1; replace d2 := trn_cell hSw neK1 neK d2; replace e0 := trn_cell hSw neK1 neK e0; replace e1 := trn_cell hSw neK1 neK e1; replace e2 := trn_cell hSw neK1 neK e2; go_simp; try with_reducible rfl)
          try simp only [Act.put, List.setIfInBounds_toArray, List.set_cons_zero, List.set_cons_succ]
          refine x_take (i := 7) (oi := { dst := some 63, op := Op.fieldAddr 52 (Operand.tmp 5) 2, type := 0, pos := "branch.go:173", after := #[], guard := none }) (v := ?_) rfl (by kernel_rfl) (by kernel_rfl) (by kernel_rfl) (by kernel_rfl) (by kernel_rfl) (fun _ _ _ h => h) (Or.inl ⟨rfl, ?_⟩) (by assumption) ?_
          rotate_left
          · (intro w' hSw; replace cP := trn_cell hSw neP1 neP cP; replace q2 := trn_cell hSw neB1 neB q2; replace d0 := trn_cell hSw neK1 neK d0; replace d1 := trn_cell hSw neK1 neK d1; replace d2 := trn_cell hSw neK1 neK d2; replace e0 := trn_cell hSw neK1 neK e0; replace e1 := trn_cell hSw neK1 neK e1; replace e2 := trn_cell hSw neK1 neK e2; go_simp; try with_reducible rfl)
          try simp only [Act.put, List.setIfInBounds_toArray, List.set_cons_zero, List.set_cons_succ]
          refine x_take (i := 8) (oi := { dst := some 64, op := Op.load 50 (Operand.tmp 63), type := 50, pos := "branch.go:173", after := #[{ on := 7, ground := Ground.data }], guard := none }) (v := ?_) rfl (by kernel_rfl) (by kernel_rfl) (by kernel_rfl) (by kernel_rfl) (by kernel_rfl) (fun _ _ _ h => h) (Or.inl ⟨rfl, ?_⟩) (by assumption) ?_
          rotate_left
          · (intro w' hSw; replace cP := trn_cell hSw neP1 neP cP; replace q2 := trn_cell hSw neB1 neB q2; replace d0 := trn_cell hSw neK1 neK d0; replace d1 := trn_cell hSw neK1 neK d1; replace d2 := trn_cell hSw neK1 neK d2; replace e0 := trn_cell hSw neK1 neK e0; replace e1 := trn_cell hSw neK1 neK e1; replace e2 := trn_cell hSw neK1 neK e2; go_simp; try with_reducible rfl)
          try simp only [Act.put, List.setIfInBounds_toArray, List.set_cons_zero, List.set_cons_succ]
          refine x_take (i := 9) (oi := { dst := some 65, op := Op.indexAddr 50 (Operand.tmp 64) (Operand.const (Value.int IntKind.i64 1)), type := 0, pos := "branch.go:173", after := #[{ on := 8, ground := Ground.data }], guard := none }) (v := ?_) rfl (by kernel_rfl) (by kernel_rfl) (by kernel_rfl) (by kernel_rfl) (by kernel_rfl) (fun _ _ _ h => h) (Or.inl ⟨rfl, ?_⟩) (by assumption) ?_
          rotate_left
          · (intro w' hSw; replace cP := trn_cell hSw neP1 neP cP; replace q2 := trn_cell hSw neB1 neB q2; replace d0 := trn_cell hSw neK1 neK d0; replace d1 := trn_cell hSw neK1 neK d1; replace d2 := trn_cell hSw neK1 neK d2; replace e0 := trn_cell hSw neK1 neK e0; replace e1 := trn_cell hSw neK1 neK e1; replace e2 := trn_cell hSw neK1 neK e2; go_simp; try with_reducible rfl)
          try simp only [Act.put, List.setIfInBounds_toArray, List.set_cons_zero, List.set_cons_succ]
          refine x_take (i := 10) (oi := { dst := some 66, op := Op.load 52 (Operand.tmp 65), type := 52, pos := "branch.go:173", after := #[{ on := 9, ground := Ground.data }], guard := none }) (v := ?_) rfl (by kernel_rfl) (by kernel_rfl) (by kernel_rfl) (by kernel_rfl) (by kernel_rfl) (fun _ _ _ h => h) (Or.inl ⟨rfl, ?_⟩) (by assumption) ?_
          rotate_left
          · (intro w' hSw; replace cP := trn_cell hSw neP1 neP cP; replace q2 := trn_cell hSw neB1 neB q2; replace d0 := trn_cell hSw neK1 neK d0; replace d1 := trn_cell hSw neK1 neK d1; replace d2 := trn_cell hSw neK1 neK d2; replace e0 := trn_cell hSw neK1 neK e0; replace e1 := trn_cell hSw neK1 neK e1; replace e2 := trn_cell hSw neK1 neK e2; go_simp; try with_reducible rfl)
          try simp only [Act.put, List.setIfInBounds_toArray, List.set_cons_zero, List.set_cons_succ]
          refine x_take (i := 11) (oi := { dst := some 67, op := Op.move (Operand.tmp 1), type := 3, pos := "branch.go:173", after := #[], guard := none }) (v := ?_) rfl (by kernel_rfl) (by kernel_rfl) (by kernel_rfl) (by kernel_rfl) (by kernel_rfl) (fun _ _ _ h => h) (Or.inl ⟨rfl, ?_⟩) (by assumption) ?_
          rotate_left
          · (intro w' hSw; replace cP := trn_cell hSw neP1 neP cP; replace q2 := trn_cell hSw neB1 neB q2; replace d0 := trn_cell hSw neK1 neK d0; replace d1 := trn_cell hSw neK1 neK d1; replace d2 := trn_cell hSw neK1 neK d2; replace e0 := trn_cell hSw neK1 neK e0; replace e1 := trn_cell hSw neK1 neK e1; replace e2 := trn_cell hSw neK1 neK e2; go_simp; try with_reducible rfl)
          try simp only [Act.put, List.setIfInBounds_toArray, List.set_cons_zero, List.set_cons_succ]
          refine x_take (i := 12) (oi := { dst := some 68, op := Op.move (Operand.tmp 2), type := 3, pos := "branch.go:173", after := #[], guard := none }) (v := ?_) rfl (by kernel_rfl) (by kernel_rfl) (by kernel_rfl) (by kernel_rfl) (by kernel_rfl) (fun _ _ _ h => h) (Or.inl ⟨rfl, ?_⟩) (by assumption) ?_
          rotate_left
          · (intro w' hSw; replace cP := trn_cell hSw neP1 neP cP; replace q2 := trn_cell hSw neB1 neB q2; replace d0 := trn_cell hSw neK1 neK d0; replace d1 := trn_cell hSw neK1 neK d1; replace d2 := trn_cell hSw neK1 neK d2; replace e0 := trn_cell hSw neK1 neK e0; replace e1 := trn_cell hSw neK1 neK e1; replace e2 := trn_cell hSw neK1 neK e2; go_simp; try with_reducible rfl)
          try simp only [Act.put, List.setIfInBounds_toArray, List.set_cons_zero, List.set_cons_succ]
          refine x_one (i := 13) (o := { dst := some 69, op := Op.call { callee := Callee.value (Operand.tmp 62), args := #[Operand.tmp 66, Operand.tmp 67, Operand.tmp 68], argTypes := #[52, 3, 3] }, type := 3, pos := "branch.go:173", after := #[{ on := 6, ground := Ground.data }, { on := 10, ground := Ground.data }, { on := 11, ground := Ground.data }, { on := 12, ground := Ground.data }], guard := none }) (by kernel_rfl) rfl (fun K hK => ?_)
          (go_simp; go_at_call 84; refine HD1.out.mono ?_; rintro e w3 ⟨v3, rfl, oN3, r3, T3, L3⟩; have T3 : Trn gN (.slice Av ns.length cv) W w3 := trn_trans (trn_of (kept_drew (kept_refl W))) (loc_refl _ _) T3; have L3 : Loc (.slice Av ns.length cv) v3 W := L3; have oP3 := oPW.trn T3 neP1 neP; have K3 := kept_trn K0W T3 hg (fun b hb => by have := hvb b hb; omega); have hb3 : base ≤ w3.heap.size := (by have := KW.size; have := T3.size; omega); try dsimp only)
          refine hK.out _ _ ?_ (fun hHeld => ?_)
          · (try dsimp only); first | exact trn_of (kept_drew (kept_refl W)) | exact T4 | exact T3
          clear hK K
          try simp only [Act.put, List.setIfInBounds_toArray, List.set_cons_zero, List.set_cons_succ]
          refine x_one (i := 14) (o := { dst := some 70, op := Op.call { callee := Callee.value (Operand.tmp 56), args := #[Operand.tmp 60, Operand.tmp 61, Operand.tmp 69], argTypes := #[52, 3, 3] }, type := 3, pos := "branch.go:173", after := #[{ on := 0, ground := Ground.data }, { on := 4, ground := Ground.data }, { on := 5, ground := Ground.data }, { on := 13, ground := Ground.data }, { on := 13, ground := Ground.chain }], guard := none }) (by kernel_rfl) rfl (fun K hK => ?_)
          (go_simp; go_at_call 84; refine (HG.out z p1.1 p1.2 v3 w3 K3 hb3 oN3 oP3 r3 hl3).mono ?_; rintro e w4 ⟨v4, rfl, oN4, r4, T4, L4⟩; have L4' := loc_trans L3 L4 T3.size; have T4 := trn_trans T3 L3 T4; try dsimp only)
          refine hK.out _ _ ?_ (fun hHeld => ?_)
          · (try dsimp only); first | exact trn_of (kept_drew (kept_refl W)) | exact T4 | exact T3
          clear hK K
          try simp only [Act.put, List.setIfInBounds_toArray, List.set_cons_zero, List.set_cons_succ]
          refine x_take (i := 15) (oi := { dst := some 8, op := Op.assign (Operand.tmp 70), type := 3, pos := "branch.go:173", after := #[{ on := 14, ground := Ground.data }, { on := 14, ground := Ground.chain }, { on := 0, ground := Ground.phase }, { on := 1, ground := Ground.phase }, { on := 2, ground := Ground.phase }, { on := 3, ground := Ground.phase }, { on := 4, ground := Ground.phase }, { on := 5, ground := Ground.phase }, { on := 6, ground := Ground.phase }, { on := 7, ground := Ground.phase }, { on := 8, ground := Ground.phase }, { on := 9, ground := Ground.phase }, { on := 10, ground := Ground.phase }, { on := 11, ground := Ground.phase }, { on := 12, ground := Ground.phase }, { on := 13, ground := Ground.phase }, { on := 14, ground := Ground.phase }], guard := none }) (v := ?_) rfl (by kernel_rfl) (by kernel_rfl) (by kernel_rfl) (by kernel_rfl) (by kernel_rfl) (fun _ _ _ h => h) (Or.inl ⟨rfl, ?_⟩) (by assumption) ?_
          rotate_left
          · (intro w' hSw; replace cP := trn_cell hSw neP1 neP cP; replace q2 := trn_cell hSw neB1 neB q2; replace d0 := trn_cell hSw neK1 neK d0; replace d1 := trn_cell hSw neK1 neK d1; replace d2 := trn_cell hSw neK1 neK d2; replace e0 := trn_cell hSw neK1 neK e0; replace e1 := trn_cell hSw neK1 neK e1; replace e2 := trn_cell hSw neK1 neK e2; go_simp; try with_reducible rfl)
          try simp only [Act.put, List.setIfInBounds_toArray, List.set_cons_zero, List.set_cons_succ]
          refine x_done (by kernel_rfl) ?_ _
          go_wp2_with fail
          go_ret
          exact ⟨v4, rfl, oN4, r4, trn_trans (trn_of KW) (loc_refl _ _) T4, loc_trans (loc_refl _ _) L4' KW.size⟩
        · have hp := put_or (g := g) (k := h) HE.out
          rw [hp]
          obtain ⟨p1, hp1⟩ : ∃ p, p = putF h z o ns := ⟨_, rfl⟩
          rw [← hp1]
          have D1 := HH.out z o ns (.slice Av ns.length cv) W.drew (kept_drew K0W) (by have := KW.size; show _ ≤ W.heap.size; omega) oNW.drew oPW.drew (row_kept rowW (kept_drew (kept_refl W))) hnl
          rw [← hp1] at D1
          have HD1 := Lib.hid D1
          have hl3 : p1.2.length ≤ 20001 := by rw [hp1]; exact put_cap _ h (Nat.le_refl _) _ _ _ hnl
          clear D1 hp1
          change Calls Try.prog 84 #[.agg #[.int .i64 4, .int .i64 0, .slice (some ⟨b, off, none⟩) 2 c], .int .i64 z, .int .i64 o, _, _] w _
          clear hp
          go_enter Try.func84, Try.ntmps84
          go_wp2_with fail
          rw [← HW.out]
          refine region_x (fun w' => Trn gN (.slice Av ns.length cv) W w') [] (by kernel_rfl) ?_ (fun hHeld => ?_)
          · exact trn_of (kept_drew (kept_refl W))
          refine x_take (i := 0) (oi := { dst := some 73, op := Op.load 90 (Operand.tmp 4), type := 90, pos := "branch.go:175", after := #[], guard := none }) (v := ?_) rfl (by kernel_rfl) (by kernel_rfl) (by kernel_rfl) (by kernel_rfl) (by kernel_rfl) (fun _ _ _ h => h) (Or.inl ⟨rfl, ?_⟩) (by assumption) ?_
          rotate_left
          · (intro w' hSw; replace cP := trn_cell hSw neP1 neP cP; replace q2 := trn_cell hSw neB1 neB q2; replace d0 := trn_cell hSw neK1 neK d0; replace d1 := trn_cell hSw neK1 neK d1; replace d2 := trn_cell hSw neK1 neK d2; replace e0 := trn_cell hSw neK1 neK e0; replace e1 := trn_cell hSw neK1 neK e1; replace e2 := trn_cell hSw neK1 neK e2; go_simp; try with_reducible rfl)
          try simp only [Act.put, List.setIfInBounds_toArray, List.set_cons_zero, List.set_cons_succ]
          refine x_take (i := 1) (oi := { dst := some 74, op := Op.fieldAddr 52 (Operand.tmp 5) 2, type := 0, pos := "branch.go:175", after := #[], guard := none }) (v := ?_) rfl (by kernel_rfl) (by kernel_rfl) (by kernel_rfl) (by kernel_rfl) (by kernel_rfl) (fun _ _ _ h => h) (Or.inl ⟨rfl, ?_⟩) (by assumption) ?_
          rotate_left
          · (intro w' hSw; replace cP := trn_cell hSw neP1 neP cP; replace q2 := trn_cell hSw neB1 neB q2; replace d0 := trn_cell hSw neK1 neK d0; replace d1 := trn_cell hSw neK1 neK d1; replace d2 := trn_cell hSw neK1 neK d2; replace e0 := trn_cell hSw neK1 neK e0; replace e1 := trn_cell hSw neK1 neK e1; replace e2 := trn_cell hSw neK1 neK e2; go_simp; try with_reducible rfl)
          try simp only [Act.put, List.setIfInBounds_toArray, List.set_cons_zero, List.set_cons_succ]
          refine x_take (i := 2) (oi := { dst := some 75, op := Op.load 50 (Operand.tmp 74), type := 50, pos := "branch.go:175", after := #[{ on := 1, ground := Ground.data }], guard := none }) (v := ?_) rfl (by kernel_rfl) (by kernel_rfl) (by kernel_rfl) (by kernel_rfl) (by kernel_rfl) (fun _ _ _ h => h) (Or.inl ⟨rfl, ?_⟩) (by assumption) ?_
          rotate_left
          · (intro w' hSw; replace cP := trn_cell hSw neP1 neP cP; replace q2 := trn_cell hSw neB1 neB q2; replace d0 := trn_cell hSw neK1 neK d0; replace d1 := trn_cell hSw neK1 neK d1; replace d2 := trn_cell hSw neK1 neK d2; replace e0 := trn_cell hSw neK1 neK e0; replace e1 := trn_cell hSw neK1 neK e1; replace e2 := trn_cell hSw neK1 neK e2; go_simp; try with_reducible rfl)
          try simp only [Act.put, List.setIfInBounds_toArray, List.set_cons_zero, List.set_cons_succ]
          refine x_take (i := 3) (oi := { dst := some 76, op := Op.indexAddr 50 (Operand.tmp 75) (Operand.const (Value.int IntKind.i64 0)), type := 0, pos := "branch.go:175", after := #[{ on := 2, ground := Ground.data }], guard := none }) (v := ?_) rfl (by kernel_rfl) (by kernel_rfl) (by kernel_rfl) (by kernel_rfl) (by kernel_rfl) (fun _ _ _ h => h) (Or.inl ⟨rfl, ?_⟩) (by assumption) ?_
          rotate_left
          · (intro w' hSw; replace cP := trn_cell hSw neP1 neP cP; replace q2 := trn_cell hSw neB1 neB q2; replace d0 := trn_cell hSw neK1 neK d0; replace d1 := trn_cell hSw neK1 neK d1; replace d2 := trn_cell hSw neK1 neK d2; replace e0 := trn_cell hSw neK1 neK e0; replace e1 := trn_cell hSw neK1 neK e1; replace e2 := trn_cell hSw neK1 neK e2; go_simp; try with_reducible rfl)
          try simp only [Act.put, List.setIfInBounds_toArray, List.set_cons_zero, List.set_cons_succ]
          refine x_take (i := 4) (oi := { dst := some 77, op := Op.load 52 (Operand.tmp 76), type := 52, pos := "branch.go:175", after := #[{ on := 3, ground := Ground.data }], guard := none }) (v := ?_) rfl (by kernel_rfl) (by kernel_rfl) (by kernel_rfl) (by kernel_rfl) (by kernel_rfl) (fun _ _ _ h => h) (Or.inl ⟨rfl, ?_⟩) (by assumption) ?_
          rotate_left
          · (intro w' hSw; replace cP := trn_cell hSw neP1 neP cP; replace q2 := trn_cell hSw neB1 neB q2; replace d0 := trn_cell hSw neK1 neK d0; replace d1 := trn_cell hSw neK1 neK d1; replace d2 := trn_cell hSw neK1 neK d2; replace e0 := trn_cell hSw neK1 neK e0; replace e1 := trn_cell hSw neK1 neK e1; replace e2 := trn_cell hSw neK1 neK e2; go_simp; try with_reducible rfl)
          try simp only [Act.put, List.setIfInBounds_toArray, List.set_cons_zero, List.set_cons_succ]
          refine x_take (i := 5) (oi := { dst := some 78, op := Op.load 90 (Operand.tmp 4), type := 90, pos := "branch.go:175", after := #[], guard := none }) (v := ?_) rfl (by kernel_rfl) (by kernel_rfl) (by kernel_rfl) (by kernel_rfl) (by kernel_rfl) (fun _ _ _ h => h) (Or.inl ⟨rfl, ?_⟩) (by assumption) ?_
          rotate_left
          · (intro w' hSw; replace cP := trn_cell hSw neP1 neP cP; replace q2 := trn_cell hSw neB1 neB q2; replace d0 := trn_cell hSw neK1 neK d0; replace d1 := trn_cell hSw neK1 neK d1; replace d2 := trn_cell hSw neK1 neK d2; replace e0 := trn_cell hSw neK1 neK e0; replace e1 := trn_cell hSw neK1 neK e1; replace e2 := trn_cell hSw neK1 neK e2; go_simp; try with_reducible rfl)
          try simp only [Act.put, List.setIfInBounds_toArray, List.set_cons_zero, List.set_cons_succ]
          refine x_take (i := 6) (oi := { dst := some 79, op := Op.fieldAddr 52 (Operand.tmp 5) 2, type := 0, pos := "branch.go:175", after := #[], guard := none }) (v := ?_) rfl (by kernel_rfl) (by kernel_rfl) (by kernel_rfl) (by kernel_rfl) (by kernel_rfl) (fun _ _ _ h => h) (Or.inl ⟨rfl, ?_⟩) (by assumption) ?_
          rotate_left
          · (intro w' hSw; replace cP := trn_cell hSw neP1 neP cP; replace q2 := trn_cell hSw neB1 neB q2; replace d0 := trn_cell hSw neK1 neK d0; replace d1 := trn_cell hSw neK1 neK d1; replace d2 := trn_cell hSw neK1 neK d2; replace e0 := trn_cell hSw neK1 neK e0; replace e1 := trn_cell hSw neK1 neK e1; replace e2 := trn_cell hSw neK1 neK e2; go_simp; try with_reducible rfl)
          try simp only [Act.put, List.setIfInBounds_toArray, List.set_cons_zero, List.set_cons_succ]
          refine x_take (i := 7) (oi := { dst := some 80, op := Op.load 50 (Operand.tmp 79), type := 50, pos := "branch.go:175", after := #[{ on := 6, ground := Ground.data }], guard := none }) (v := ?_) rfl (by kernel_rfl) (by kernel_rfl) (by kernel_rfl) (by kernel_rfl) (by kernel_rfl) (fun _ _ _ h => h) (Or.inl ⟨rfl, ?_⟩) (by assumption) ?_
          rotate_left
          · (intro w' hSw; replace cP := trn_cell hSw neP1 neP cP; replace q2 := trn_cell hSw neB1 neB q2; replace d0 := trn_cell hSw neK1 neK d0; replace d1 := trn_cell hSw neK1 neK d1; replace d2 := trn_cell hSw neK1 neK d2; replace e0 := trn_cell hSw neK1 neK e0; replace e1 := trn_cell hSw neK1 neK e1; replace e2 := trn_cell hSw neK1 neK e2; go_simp; try with_reducible rfl)
          try simp only [Act.put, List.setIfInBounds_toArray, List.set_cons_zero, List.set_cons_succ]
          refine x_take (i := 8) (oi := { dst := some 81, op := Op.indexAddr 50 (Operand.tmp 80) (Operand.const (Value.int IntKind.i64 1)), type := 0, pos := "branch.go:175", after := #[{ on := 7, ground := Ground.data }], guard := none }) (v := ?_) rfl (by kernel_rfl) (by kernel_rfl) (by kernel_rfl) (by kernel_rfl) (by kernel_rfl) (fun _ _ _ h => h) (Or.inl ⟨rfl, ?_⟩) (by assumption) ?_
          rotate_left
          · (intro w' hSw; replace cP := trn_cell hSw neP1 neP cP; replace q2 := trn_cell hSw neB1 neB q2; replace d0 := trn_cell hSw neK1 neK d0; replace d1 := trn_cell hSw neK1 neK d1; replace d2 := trn_cell hSw neK1 neK d2; replace e0 := trn_cell hSw neK1 neK e0; replace e1 := trn_cell hSw neK1 neK e1; replace e2 := trn_cell hSw neK1 neK e2; go_simp; try with_reducible rfl)
          try simp only [Act.put, List.setIfInBounds_toArray, List.set_cons_zero, List.set_cons_succ]
          refine x_take (i := 9) (oi := { dst := some 82, op := Op.load 52 (Operand.tmp 81), type := 52, pos := "branch.go:175", after := #[{ on := 8, ground := Ground.data }], guard := none }) (v := ?_) rfl (by kernel_rfl) (by kernel_rfl) (by kernel_rfl) (by kernel_rfl) (by kernel_rfl) (fun _ _ _ h => h) (Or.inl ⟨rfl, ?_⟩) (by assumption) ?_
          rotate_left
          · (intro w' hSw; replace cP := trn_cell hSw neP1 neP cP; replace q2 := trn_cell hSw neB1 neB q2; replace d0 := trn_cell hSw neK1 neK d0; replace d1 := trn_cell hSw neK1 neK d1; replace d2 := trn_cell hSw neK1 neK d2; replace e0 := trn_cell hSw neK1 neK e0; replace e1 := trn_cell hSw neK1 neK e1; replace e2 := trn_cell hSw neK1 neK e2; go_simp; try with_reducible rfl)
          try simp only [Act.put, List.setIfInBounds_toArray, List.set_cons_zero, List.set_cons_succ]
          refine x_take (i := 10) (oi := { dst := some 83, op := Op.move (Operand.tmp 1), type := 3, pos := "branch.go:175", after := #[], guard := none }) (v := ?_) rfl (by kernel_rfl) (by kernel_rfl) (by kernel_rfl) (by kernel_rfl) (by kernel_rfl) (fun _ _ _ h => h) (Or.inl ⟨rfl, ?_⟩) (by assumption) ?_
          rotate_left
          · (intro w' hSw; replace cP := trn_cell hSw neP1 neP cP; replace q2 := trn_cell hSw neB1 neB q2; replace d0 := trn_cell hSw neK1 neK d0; replace d1 := trn_cell hSw neK1 neK d1; replace d2 := trn_cell hSw neK1 neK d2; replace e0 := trn_cell hSw neK1 neK e0; replace e1 := trn_cell hSw neK1 neK e1; replace e2 := trn_cell hSw neK1 neK e2; go_simp; try with_reducible rfl)
          try simp only [Act.put, List.setIfInBounds_toArray, List.set_cons_zero, List.set_cons_succ]
          refine x_take (i := 11) (oi := { dst := some 84, op := Op.move (Operand.tmp 2), type := 3, pos := "branch.go:175", after := #[], guard := none }) (v := ?_) rfl (by kernel_rfl) (by kernel_rfl) (by kernel_rfl) (by kernel_rfl) (by kernel_rfl) (fun _ _ _ h => h) (Or.inl ⟨rfl, ?_⟩) (by assumption) ?_
          rotate_left
          · (intro w' hSw; replace cP := trn_cell hSw neP1 neP cP; replace q2 := trn_cell hSw neB1 neB q2; replace d0 := trn_cell hSw neK1 neK d0; replace d1 := trn_cell hSw neK1 neK d1; replace d2 := trn_cell hSw neK1 neK d2; replace e0 := trn_cell hSw neK1 neK e0; replace e1 := trn_cell hSw neK1 neK e1; replace e2 := trn_cell hSw neK1 neK e2; go_simp; try with_reducible rfl)
          try simp only [Act.put, List.setIfInBounds_toArray, List.set_cons_zero, List.set_cons_succ]
          refine x_take (i := 13) (oi := { dst := some 86, op := Op.move (Operand.tmp 2), type := 3, pos := "branch.go:175", after := #[], guard := none }) (v := ?_) rfl (by kernel_rfl) (by kernel_rfl) (by kernel_rfl) (by kernel_rfl) (by kernel_rfl) (fun _ _ _ h => h) (Or.inl ⟨rfl, ?_⟩) (by assumption) ?_
          rotate_left
          · (intro w' hSw; replace cP := trn_cell hSw neP1 neP cP; replace q2 := trn_cell hSw neB1 neB q2; replace d0 := trn_cell hSw neK1 neK d0; replace d1 := trn_cell hSw neK1 neK d1; replace d2 := trn_cell hSw neK1 neK d2; replace e0 := trn_cell hSw neK1 neK e0; replace e1 := trn_cell hSw neK1 neK e1; replace e2 := trn_cell hSw neK1 neK e2; go_simp; try with_reducible rfl)
          try simp only [Act.put, List.setIfInBounds_toArray, List.set_cons_zero, List.set_cons_succ]
          refine x_one (i := 12) (o := { dst := some 85, op := Op.call { callee := Callee.value (Operand.tmp 78), args := #[Operand.tmp 82, Operand.tmp 83, Operand.tmp 84], argTypes := #[52, 3, 3] }, type := 3, pos := "branch.go:175", after := #[{ on := 5, ground := Ground.data }, { on := 9, ground := Ground.data }, { on := 10, ground := Ground.data }, { on := 11, ground := Ground.data }], guard := none }) (by kernel_rfl) rfl (fun K hK => ?_)
          (go_simp; go_at_call 84; refine HD1.out.mono ?_; rintro e w3 ⟨v3, rfl, oN3, r3, T3, L3⟩; have T3 : Trn gN (.slice Av ns.length cv) W w3 := trn_trans (trn_of (kept_drew (kept_refl W))) (loc_refl _ _) T3; have L3 : Loc (.slice Av ns.length cv) v3 W := L3; have oP3 := oPW.trn T3 neP1 neP; have K3 := kept_trn K0W T3 hg (fun b hb => by have := hvb b hb; omega); have hb3 : base ≤ w3.heap.size := (by have := KW.size; have := T3.size; omega); try dsimp only)
          refine hK.out _ _ ?_ (fun hHeld => ?_)
          · (try dsimp only); first | exact trn_of (kept_drew (kept_refl W)) | exact T4 | exact T3
          clear hK K
          try simp only [Act.put, List.setIfInBounds_toArray, List.set_cons_zero, List.set_cons_succ]
          refine x_one (i := 14) (o := { dst := some 87, op := Op.call { callee := Callee.value (Operand.tmp 73), args := #[Operand.tmp 77, Operand.tmp 85, Operand.tmp 86], argTypes := #[52, 3, 3] }, type := 3, pos := "branch.go:175", after := #[{ on := 0, ground := Ground.data }, { on := 4, ground := Ground.data }, { on := 12, ground := Ground.data }, { on := 13, ground := Ground.data }, { on := 12, ground := Ground.chain }], guard := none }) (by kernel_rfl) rfl (fun K hK => ?_)
          (go_simp; go_at_call 84; refine (HG.out p1.1 o p1.2 v3 w3 K3 hb3 oN3 oP3 r3 hl3).mono ?_; rintro e w4 ⟨v4, rfl, oN4, r4, T4, L4⟩; have L4' := loc_trans L3 L4 T3.size; have T4 := trn_trans T3 L3 T4; try dsimp only)
          refine hK.out _ _ ?_ (fun hHeld => ?_)
          · (try dsimp only); first | exact trn_of (kept_drew (kept_refl W)) | exact T4 | exact T3
          clear hK K
          try simp only [Act.put, List.setIfInBounds_toArray, List.set_cons_zero, List.set_cons_succ]
          refine x_take (i := 15) (oi := { dst := some 8, op := Op.assign (Operand.tmp 87), type := 3, pos := "branch.go:175", after := #[{ on := 14, ground := Ground.data }, { on := 14, ground := Ground.chain }, { on := 0, ground := Ground.phase }, { on := 1, ground := Ground.phase }, { on := 2, ground := Ground.phase }, { on := 3, ground := Ground.phase }, { on := 4, ground := Ground.phase }, { on := 5, ground := Ground.phase }, { on := 6, ground := Ground.phase }, { on := 7, ground := Ground.phase }, { on := 8, ground := Ground.phase }, { on := 9, ground := Ground.phase }, { on := 10, ground := Ground.phase }, { on := 11, ground := Ground.phase }, { on := 12, ground := Ground.phase }, { on := 13, ground := Ground.phase }, { on := 14, ground := Ground.phase }], guard := none }) (v := ?_) rfl (by kernel_rfl) (by kernel_rfl) (by kernel_rfl) (by kernel_rfl) (by kernel_rfl) (fun _ _ _ h => h) (Or.inl ⟨rfl, ?_⟩) (by assumption) ?_
          rotate_left
          · (intro w' hSw; replace cP := trn_cell hSw neP1 neP cP; replace q2 := trn_cell hSw neB1 neB q2; replace d0 := trn_cell hSw neK1 neK d0; replace d1 := trn_cell hSw neK1 neK d1; replace d2 := trn_cell hSw neK1 neK d2; replace e0 := trn_cell hSw neK1 neK e0; replace e1 := trn_cell hSw neK1 neK e1; replace e2 := trn_cell hSw neK1 neK e2; go_simp; try with_reducible rfl)
          try simp only [Act.put, List.setIfInBounds_toArray, List.set_cons_zero, List.set_cons_succ]
          refine x_done (by kernel_rfl) ?_ _
          go_wp2_with fail
          go_ret
          exact ⟨v4, rfl, oN4, r4, trn_trans (trn_of KW) (loc_refl _ _) T4, loc_trans (loc_refl _ _) L4' KW.size⟩
        · have hp := put_xor (g := g) (k := h) HE.out
          rw [hp]
          obtain ⟨p1, hp1⟩ : ∃ p, p = putF h z o ns := ⟨_, rfl⟩
          rw [← hp1]
          obtain ⟨p2, hp2⟩ : ∃ p, p = putF h o z p1.2 := ⟨_, rfl⟩
          rw [← hp2]
          have D2 : ∀ (v' : Value) (w' : World) (k1 : Kept w0 w') (k2 : base ≤ w'.heap.size) (k3 : Own w' gN 22 [v']) (k4 : Own w' gP 90 [putV gN gP]) (k5 : w'.ownsRow base 48 3 v' p1.2.length (ndCells p1.2)), Calls Try.prog 84 #[.agg #[.int .i64 h.k, .int .i64 h.n, .slice A2 h.l.length c2], .int .i64 o, .int .i64 z, .pointer (some ⟨gN, 0, none⟩), .pointer (some ⟨gP, 0, none⟩)] w' (PutPost gN base p2 v' w') := by
            intro v' w' k1 k2 k3 k4 k5
            have := HH.out o z p1.2 v' w' k1 k2 k3 k4 k5 (by rw [hp1]; exact put_cap _ h (Nat.le_refl _) _ _ _ hnl)
            rw [← hp2] at this
            exact this
          have HD2 := Lib.hid D2
          have hl4 : p2.2.length ≤ 20001 := by rw [hp2]; exact put_cap _ h (Nat.le_refl _) _ _ _ (by rw [hp1]; exact put_cap _ h (Nat.le_refl _) _ _ _ hnl)
          clear D2 hp2
          have D1 := HH.out z o ns (.slice Av ns.length cv) W.drew (kept_drew K0W) (by have := KW.size; show _ ≤ W.heap.size; omega) oNW.drew oPW.drew (row_kept rowW (kept_drew (kept_refl W))) hnl
          rw [← hp1] at D1
          have HD1 := Lib.hid D1
          have hl3 : p1.2.length ≤ 20001 := by rw [hp1]; exact put_cap _ h (Nat.le_refl _) _ _ _ hnl
          clear D1 hp1
          change Calls Try.prog 84 #[.agg #[.int .i64 5, .int .i64 0, .slice (some ⟨b, off, none⟩) 2 c], .int .i64 z, .int .i64 o, _, _] w _
          clear hp
          go_enter Try.func84, Try.ntmps84
          go_wp2_with fail
          rw [← HW.out]
          refine region_x (fun w' => Trn gN (.slice Av ns.length cv) W w') [] (by kernel_rfl) ?_ (fun hHeld => ?_)
          · exact trn_of (kept_drew (kept_refl W))
          refine x_take (i := 0) (oi := { dst := some 88, op := Op.load 90 (Operand.tmp 4), type := 90, pos := "branch.go:177", after := #[], guard := none }) (v := ?_) rfl (by kernel_rfl) (by kernel_rfl) (by kernel_rfl) (by kernel_rfl) (by kernel_rfl) (fun _ _ _ h => h) (Or.inl ⟨rfl, ?_⟩) (by assumption) ?_
          rotate_left
          · (intro w' hSw; replace cP := trn_cell hSw neP1 neP cP; replace q2 := trn_cell hSw neB1 neB q2; replace d0 := trn_cell hSw neK1 neK d0; replace d1 := trn_cell hSw neK1 neK d1; replace d2 := trn_cell hSw neK1 neK d2; replace e0 := trn_cell hSw neK1 neK e0; replace e1 := trn_cell hSw neK1 neK e1; replace e2 := trn_cell hSw neK1 neK e2; go_simp; try with_reducible rfl)
          try simp only [Act.put, List.setIfInBounds_toArray, List.set_cons_zero, List.set_cons_succ]
          refine x_take (i := 1) (oi := { dst := some 89, op := Op.fieldAddr 52 (Operand.tmp 5) 2, type := 0, pos := "branch.go:177", after := #[], guard := none }) (v := ?_) rfl (by kernel_rfl) (by kernel_rfl) (by kernel_rfl) (by kernel_rfl) (by kernel_rfl) (fun _ _ _ h => h) (Or.inl ⟨rfl, ?_⟩) (by assumption) ?_
          rotate_left
          · (intro w' hSw; replace cP := trn_cell hSw neP1 neP cP; replace q2 := trn_cell hSw neB1 neB q2; replace d0 := trn_cell hSw neK1 neK d0; replace d1 := trn_cell hSw neK1 neK d1; replace d2 := trn_cell hSw neK1 neK d2; replace e0 := trn_cell hSw neK1 neK e0; replace e1 := trn_cell hSw neK1 neK e1; replace e2 := trn_cell hSw neK1 neK e2; go_simp; try with_reducible rfl)
          try simp only [Act.put, List.setIfInBounds_toArray, List.set_cons_zero, List.set_cons_succ]
          refine x_take (i := 2) (oi := { dst := some 90, op := Op.load 50 (Operand.tmp 89), type := 50, pos := "branch.go:177", after := #[{ on := 1, ground := Ground.data }], guard := none }) (v := ?_) rfl (by kernel_rfl) (by kernel_rfl) (by kernel_rfl) (by kernel_rfl) (by kernel_rfl) (fun _ _ _ h => h) (Or.inl ⟨rfl, ?_⟩) (by assumption) ?_
          rotate_left
          · (intro w' hSw; replace cP := trn_cell hSw neP1 neP cP; replace q2 := trn_cell hSw neB1 neB q2; replace d0 := trn_cell hSw neK1 neK d0; replace d1 := trn_cell hSw neK1 neK d1; replace d2 := trn_cell hSw neK1 neK d2; replace e0 := trn_cell hSw neK1 neK e0; replace e1 := trn_cell hSw neK1 neK e1; replace e2 := trn_cell hSw neK1 neK e2; go_simp; try with_reducible rfl)
          try simp only [Act.put, List.setIfInBounds_toArray, List.set_cons_zero, List.set_cons_succ]
          refine x_take (i := 3) (oi := { dst := some 91, op := Op.indexAddr 50 (Operand.tmp 90) (Operand.const (Value.int IntKind.i64 1)), type := 0, pos := "branch.go:177", after := #[{ on := 2, ground := Ground.data }], guard := none }) (v := ?_) rfl (by kernel_rfl) (by kernel_rfl) (by kernel_rfl) (by kernel_rfl) (by kernel_rfl) (fun _ _ _ h => h) (Or.inl ⟨rfl, ?_⟩) (by assumption) ?_
          rotate_left
          · (intro w' hSw; replace cP := trn_cell hSw neP1 neP cP; replace q2 := trn_cell hSw neB1 neB q2; replace d0 := trn_cell hSw neK1 neK d0; replace d1 := trn_cell hSw neK1 neK d1; replace d2 := trn_cell hSw neK1 neK d2; replace e0 := trn_cell hSw neK1 neK e0; replace e1 := trn_cell hSw neK1 neK e1; replace e2 := trn_cell hSw neK1 neK e2; go_simp; try with_reducible rfl)
          try simp only [Act.put, List.setIfInBounds_toArray, List.set_cons_zero, List.set_cons_succ]
          refine x_take (i := 4) (oi := { dst := some 92, op := Op.load 52 (Operand.tmp 91), type := 52, pos := "branch.go:177", after := #[{ on := 3, ground := Ground.data }], guard := none }) (v := ?_) rfl (by kernel_rfl) (by kernel_rfl) (by kernel_rfl) (by kernel_rfl) (by kernel_rfl) (fun _ _ _ h => h) (Or.inl ⟨rfl, ?_⟩) (by assumption) ?_
          rotate_left
          · (intro w' hSw; replace cP := trn_cell hSw neP1 neP cP; replace q2 := trn_cell hSw neB1 neB q2; replace d0 := trn_cell hSw neK1 neK d0; replace d1 := trn_cell hSw neK1 neK d1; replace d2 := trn_cell hSw neK1 neK d2; replace e0 := trn_cell hSw neK1 neK e0; replace e1 := trn_cell hSw neK1 neK e1; replace e2 := trn_cell hSw neK1 neK e2; go_simp; try with_reducible rfl)
          try simp only [Act.put, List.setIfInBounds_toArray, List.set_cons_zero, List.set_cons_succ]
          refine x_take (i := 5) (oi := { dst := some 93, op := Op.move (Operand.tmp 1), type := 3, pos := "branch.go:177", after := #[], guard := none }) (v := ?_) rfl (by kernel_rfl) (by kernel_rfl) (by kernel_rfl) (by kernel_rfl) (by kernel_rfl) (fun _ _ _ h => h) (Or.inl ⟨rfl, ?_⟩) (by assumption) ?_
          rotate_left
          · (intro w' hSw; replace cP := trn_cell hSw neP1 neP cP; replace q2 := trn_cell hSw neB1 neB q2; replace d0 := trn_cell hSw neK1 neK d0; replace d1 := trn_cell hSw neK1 neK d1; replace d2 := trn_cell hSw neK1 neK d2; replace e0 := trn_cell hSw neK1 neK e0; replace e1 := trn_cell hSw neK1 neK e1; replace e2 := trn_cell hSw neK1 neK e2; go_simp; try with_reducible rfl)
          try simp only [Act.put, List.setIfInBounds_toArray, List.set_cons_zero, List.set_cons_succ]
          refine x_take (i := 6) (oi := { dst := some 94, op := Op.move (Operand.tmp 2), type := 3, pos := "branch.go:177", after := #[], guard := none }) (v := ?_) rfl (by kernel_rfl) (by kernel_rfl) (by kernel_rfl) (by kernel_rfl) (by kernel_rfl) (fun _ _ _ h => h) (Or.inl ⟨rfl, ?_⟩) (by assumption) ?_
          rotate_left
          · (intro w' hSw; replace cP := trn_cell hSw neP1 neP cP; replace q2 := trn_cell hSw neB1 neB q2; replace d0 := trn_cell hSw neK1 neK d0; replace d1 := trn_cell hSw neK1 neK d1; replace d2 := trn_cell hSw neK1 neK d2; replace e0 := trn_cell hSw neK1 neK e0; replace e1 := trn_cell hSw neK1 neK e1; replace e2 := trn_cell hSw neK1 neK e2; go_simp; try with_reducible rfl)
          try simp only [Act.put, List.setIfInBounds_toArray, List.set_cons_zero, List.set_cons_succ]
          refine x_take (i := 8) (oi := { dst := some 96, op := Op.load 90 (Operand.tmp 4), type := 90, pos := "branch.go:177", after := #[], guard := none }) (v := ?_) rfl (by kernel_rfl) (by kernel_rfl) (by kernel_rfl) (by kernel_rfl) (by kernel_rfl) (fun _ _ _ h => h) (Or.inl ⟨rfl, ?_⟩) (by assumption) ?_
          rotate_left
          · (intro w' hSw; replace cP := trn_cell hSw neP1 neP cP; replace q2 := trn_cell hSw neB1 neB q2; replace d0 := trn_cell hSw neK1 neK d0; replace d1 := trn_cell hSw neK1 neK d1; replace d2 := trn_cell hSw neK1 neK d2; replace e0 := trn_cell hSw neK1 neK e0; replace e1 := trn_cell hSw neK1 neK e1; replace e2 := trn_cell hSw neK1 neK e2; go_simp; try with_reducible rfl)
          try simp only [Act.put, List.setIfInBounds_toArray, List.set_cons_zero, List.set_cons_succ]
          refine x_take (i := 9) (oi := { dst := some 97, op := Op.fieldAddr 52 (Operand.tmp 5) 2, type := 0, pos := "branch.go:177", after := #[], guard := none }) (v := ?_) rfl (by kernel_rfl) (by kernel_rfl) (by kernel_rfl) (by kernel_rfl) (by kernel_rfl) (fun _ _ _ h => h) (Or.inl ⟨rfl, ?_⟩) (by assumption) ?_
          rotate_left
          · (intro w' hSw; replace cP := trn_cell hSw neP1 neP cP; replace q2 := trn_cell hSw neB1 neB q2; replace d0 := trn_cell hSw neK1 neK d0; replace d1 := trn_cell hSw neK1 neK d1; replace d2 := trn_cell hSw neK1 neK d2; replace e0 := trn_cell hSw neK1 neK e0; replace e1 := trn_cell hSw neK1 neK e1; replace e2 := trn_cell hSw neK1 neK e2; go_simp; try with_reducible rfl)
          try simp only [Act.put, List.setIfInBounds_toArray, List.set_cons_zero, List.set_cons_succ]
          refine x_take (i := 10) (oi := { dst := some 98, op := Op.load 50 (Operand.tmp 97), type := 50, pos := "branch.go:177", after := #[{ on := 9, ground := Ground.data }], guard := none }) (v := ?_) rfl (by kernel_rfl) (by kernel_rfl) (by kernel_rfl) (by kernel_rfl) (by kernel_rfl) (fun _ _ _ h => h) (Or.inl ⟨rfl, ?_⟩) (by assumption) ?_
          rotate_left
          · (intro w' hSw; replace cP := trn_cell hSw neP1 neP cP; replace q2 := trn_cell hSw neB1 neB q2; replace d0 := trn_cell hSw neK1 neK d0; replace d1 := trn_cell hSw neK1 neK d1; replace d2 := trn_cell hSw neK1 neK d2; replace e0 := trn_cell hSw neK1 neK e0; replace e1 := trn_cell hSw neK1 neK e1; replace e2 := trn_cell hSw neK1 neK e2; go_simp; try with_reducible rfl)
          try simp only [Act.put, List.setIfInBounds_toArray, List.set_cons_zero, List.set_cons_succ]
          refine x_take (i := 11) (oi := { dst := some 99, op := Op.indexAddr 50 (Operand.tmp 98) (Operand.const (Value.int IntKind.i64 1)), type := 0, pos := "branch.go:177", after := #[{ on := 10, ground := Ground.data }], guard := none }) (v := ?_) rfl (by kernel_rfl) (by kernel_rfl) (by kernel_rfl) (by kernel_rfl) (by kernel_rfl) (fun _ _ _ h => h) (Or.inl ⟨rfl, ?_⟩) (by assumption) ?_
          rotate_left
          · (intro w' hSw; replace cP := trn_cell hSw neP1 neP cP; replace q2 := trn_cell hSw neB1 neB q2; replace d0 := trn_cell hSw neK1 neK d0; replace d1 := trn_cell hSw neK1 neK d1; replace d2 := trn_cell hSw neK1 neK d2; replace e0 := trn_cell hSw neK1 neK e0; replace e1 := trn_cell hSw neK1 neK e1; replace e2 := trn_cell hSw neK1 neK e2; go_simp; try with_reducible rfl)
          try simp only [Act.put, List.setIfInBounds_toArray, List.set_cons_zero, List.set_cons_succ]
          refine x_take (i := 12) (oi := { dst := some 100, op := Op.load 52 (Operand.tmp 99), type := 52, pos := "branch.go:177", after := #[{ on := 11, ground := Ground.data }], guard := none }) (v := ?_) rfl (by kernel_rfl) (by kernel_rfl) (by kernel_rfl) (by kernel_rfl) (by kernel_rfl) (fun _ _ _ h => h) (Or.inl ⟨rfl, ?_⟩) (by assumption) ?_
          rotate_left
          · (intro w' hSw; replace cP := trn_cell hSw neP1 neP cP; replace q2 := trn_cell hSw neB1 neB q2; replace d0 := trn_cell hSw neK1 neK d0; replace d1 := trn_cell hSw neK1 neK d1; replace d2 := trn_cell hSw neK1 neK d2; replace e0 := trn_cell hSw neK1 neK e0; replace e1 := trn_cell hSw neK1 neK e1; replace e2 := trn_cell hSw neK1 neK e2; go_simp; try with_reducible rfl)
          try simp only [Act.put, List.setIfInBounds_toArray, List.set_cons_zero, List.set_cons_succ]
          refine x_take (i := 13) (oi := { dst := some 101, op := Op.move (Operand.tmp 2), type := 3, pos := "branch.go:177", after := #[], guard := none }) (v := ?_) rfl (by kernel_rfl) (by kernel_rfl) (by kernel_rfl) (by kernel_rfl) (by kernel_rfl) (fun _ _ _ h => h) (Or.inl ⟨rfl, ?_⟩) (by assumption) ?_
          rotate_left
          · (intro w' hSw; replace cP := trn_cell hSw neP1 neP cP; replace q2 := trn_cell hSw neB1 neB q2; replace d0 := trn_cell hSw neK1 neK d0; replace d1 := trn_cell hSw neK1 neK d1; replace d2 := trn_cell hSw neK1 neK d2; replace e0 := trn_cell hSw neK1 neK e0; replace e1 := trn_cell hSw neK1 neK e1; replace e2 := trn_cell hSw neK1 neK e2; go_simp; try with_reducible rfl)
          try simp only [Act.put, List.setIfInBounds_toArray, List.set_cons_zero, List.set_cons_succ]
          refine x_take (i := 14) (oi := { dst := some 102, op := Op.move (Operand.tmp 1), type := 3, pos := "branch.go:177", after := #[], guard := none }) (v := ?_) rfl (by kernel_rfl) (by kernel_rfl) (by kernel_rfl) (by kernel_rfl) (by kernel_rfl) (fun _ _ _ h => h) (Or.inl ⟨rfl, ?_⟩) (by assumption) ?_
          rotate_left
          · (intro w' hSw; replace cP := trn_cell hSw neP1 neP cP; replace q2 := trn_cell hSw neB1 neB q2; replace d0 := trn_cell hSw neK1 neK d0; replace d1 := trn_cell hSw neK1 neK d1; replace d2 := trn_cell hSw neK1 neK d2; replace e0 := trn_cell hSw neK1 neK e0; replace e1 := trn_cell hSw neK1 neK e1; replace e2 := trn_cell hSw neK1 neK e2; go_simp; try with_reducible rfl)
          try simp only [Act.put, List.setIfInBounds_toArray, List.set_cons_zero, List.set_cons_succ]
          refine x_one (i := 7) (o := { dst := some 95, op := Op.call { callee := Callee.value (Operand.tmp 88), args := #[Operand.tmp 92, Operand.tmp 93, Operand.tmp 94], argTypes := #[52, 3, 3] }, type := 3, pos := "branch.go:177", after := #[{ on := 0, ground := Ground.data }, { on := 4, ground := Ground.data }, { on := 5, ground := Ground.data }, { on := 6, ground := Ground.data }], guard := none }) (by kernel_rfl) rfl (fun K hK => ?_)
          (go_simp; go_at_call 84; refine HD1.out.mono ?_; rintro e w3 ⟨v3, rfl, oN3, r3, T3, L3⟩; have T3 : Trn gN (.slice Av ns.length cv) W w3 := trn_trans (trn_of (kept_drew (kept_refl W))) (loc_refl _ _) T3; have L3 : Loc (.slice Av ns.length cv) v3 W := L3; have oP3 := oPW.trn T3 neP1 neP; have K3 := kept_trn K0W T3 hg (fun b hb => by have := hvb b hb; omega); have hb3 : base ≤ w3.heap.size := (by have := KW.size; have := T3.size; omega); try dsimp only)
          refine hK.out _ _ ?_ (fun hHeld => ?_)
          · (try dsimp only); first | exact trn_of (kept_drew (kept_refl W)) | exact T4 | exact T3
          clear hK K
          try simp only [Act.put, List.setIfInBounds_toArray, List.set_cons_zero, List.set_cons_succ]
          refine x_one (i := 15) (o := { dst := some 103, op := Op.call { callee := Callee.value (Operand.tmp 96), args := #[Operand.tmp 100, Operand.tmp 101, Operand.tmp 102], argTypes := #[52, 3, 3] }, type := 3, pos := "branch.go:177", after := #[{ on := 8, ground := Ground.data }, { on := 12, ground := Ground.data }, { on := 13, ground := Ground.data }, { on := 14, ground := Ground.data }, { on := 7, ground := Ground.chain }], guard := none }) (by kernel_rfl) rfl (fun K hK => ?_)
          (go_simp; go_at_call 84; refine (HD2.out v3 w3 K3 hb3 oN3 oP3 r3).mono ?_; rintro e w4 ⟨v4, rfl, oN4, r4, T4, L4⟩; have L4' := loc_trans L3 L4 T3.size; have T4 := trn_trans T3 L3 T4; have oP4 := oPW.trn T4 neP1 neP; have K4 := kept_trn K0W T4 hg (fun b hb => by have := hvb b hb; omega); have hb4 : base ≤ w4.heap.size := (by have := KW.size; have := T4.size; omega); try dsimp only)
          refine hK.out _ _ ?_ (fun hHeld => ?_)
          · (try dsimp only); first | exact trn_of (kept_drew (kept_refl W)) | exact T4 | exact T3
          clear hK K
          try simp only [Act.put, List.setIfInBounds_toArray, List.set_cons_zero, List.set_cons_succ]
          refine x_take (i := 16) (oi := { dst := some 9, op := Op.assign (Operand.tmp 95), type := 3, pos := "branch.go:177", after := #[{ on := 7, ground := Ground.data }, { on := 15, ground := Ground.chain }, { on := 0, ground := Ground.phase }, { on := 1, ground := Ground.phase }, { on := 2, ground := Ground.phase }, { on := 3, ground := Ground.phase }, { on := 4, ground := Ground.phase }, { on := 5, ground := Ground.phase }, { on := 6, ground := Ground.phase }, { on := 7, ground := Ground.phase }, { on := 8, ground := Ground.textOnly Departure.lateStores }, { on := 9, ground := Ground.textOnly Departure.lateStores }, { on := 10, ground := Ground.textOnly Departure.lateStores }, { on := 11, ground := Ground.textOnly Departure.lateStores }, { on := 12, ground := Ground.textOnly Departure.lateStores }, { on := 13, ground := Ground.textOnly Departure.lateStores }, { on := 14, ground := Ground.textOnly Departure.lateStores }, { on := 15, ground := Ground.textOnly Departure.lateStoresUnsure }], guard := none }) (v := ?_) rfl (by kernel_rfl) (by kernel_rfl) (by kernel_rfl) (by kernel_rfl) (by kernel_rfl) (fun _ _ _ h => h) (Or.inl ⟨rfl, ?_⟩) (by assumption) ?_
          rotate_left
          · (intro w' hSw; replace cP := trn_cell hSw neP1 neP cP; replace q2 := trn_cell hSw neB1 neB q2; replace d0 := trn_cell hSw neK1 neK d0; replace d1 := trn_cell hSw neK1 neK d1; replace d2 := trn_cell hSw neK1 neK d2; replace e0 := trn_cell hSw neK1 neK e0; replace e1 := trn_cell hSw neK1 neK e1; replace e2 := trn_cell hSw neK1 neK e2; go_simp; try with_reducible rfl)
          try simp only [Act.put, List.setIfInBounds_toArray, List.set_cons_zero, List.set_cons_succ]
          refine x_take (i := 17) (oi := { dst := some 10, op := Op.assign (Operand.tmp 103), type := 3, pos := "branch.go:177", after := #[{ on := 15, ground := Ground.data }, { on := 16, ground := Ground.chain }, { on := 0, ground := Ground.phase }, { on := 1, ground := Ground.phase }, { on := 2, ground := Ground.phase }, { on := 3, ground := Ground.phase }, { on := 4, ground := Ground.phase }, { on := 5, ground := Ground.phase }, { on := 6, ground := Ground.phase }, { on := 7, ground := Ground.phase }, { on := 8, ground := Ground.phase }, { on := 9, ground := Ground.phase }, { on := 10, ground := Ground.phase }, { on := 11, ground := Ground.phase }, { on := 12, ground := Ground.phase }, { on := 13, ground := Ground.phase }, { on := 14, ground := Ground.phase }, { on := 15, ground := Ground.phase }, { on := 16, ground := Ground.phase }], guard := none }) (v := ?_) rfl (by kernel_rfl) (by kernel_rfl) (by kernel_rfl) (by kernel_rfl) (by kernel_rfl) (fun _ _ _ h => h) (Or.inl ⟨rfl, ?_⟩) (by assumption) ?_
          rotate_left
          · (intro w' hSw; replace cP := trn_cell hSw neP1 neP cP; replace q2 := trn_cell hSw neB1 neB q2; replace d0 := trn_cell hSw neK1 neK d0; replace d1 := trn_cell hSw neK1 neK d1; replace d2 := trn_cell hSw neK1 neK d2; replace e0 := trn_cell hSw neK1 neK e0; replace e1 := trn_cell hSw neK1 neK e1; replace e2 := trn_cell hSw neK1 neK e2; go_simp; try with_reducible rfl)
          try simp only [Act.put, List.setIfInBounds_toArray, List.set_cons_zero, List.set_cons_succ]
          refine x_done (by kernel_rfl) ?_ _
          go_wp2_with fail
          have zB : w.heap.size < W.heap.size := by rw [HW.out]; simp
          have neP' := ne_loc L4' (by have := KW.size; omega) neP
          have neB' := ne_loc L4' zB neB
          have neK' := ne_loc L4' (by have := KW.size; have := hK.size; omega) neK
          replace cP := trn_cell T4 neP1 neP cP
          replace q2 := trn_cell T4 neB1 neB q2
          replace d0 := trn_cell T4 neK1 neK d0
          replace d1 := trn_cell T4 neK1 neK d1
          replace d2 := trn_cell T4 neK1 neK d2
          refine region_x (fun w' => Trn gN v4 w4 w') [] (by kernel_rfl) ?_ (fun hHeld => ?_)
          · exact trn_of (kept_drew (kept_refl w4))
          refine x_take (i := 0) (oi := { dst := some 104, op := Op.load 90 (Operand.tmp 4), type := 90, pos := "branch.go:178", after := #[], guard := none }) (v := ?_) rfl (by kernel_rfl) (by kernel_rfl) (by kernel_rfl) (by kernel_rfl) (by kernel_rfl) (fun _ _ _ h => h) (Or.inl ⟨rfl, ?_⟩) (by assumption) ?_
          rotate_left
          · (intro w' hSw; replace cP := trn_cell hSw neP1 neP' cP; replace q2 := trn_cell hSw neB1 neB' q2; replace d0 := trn_cell hSw neK1 neK' d0; replace d1 := trn_cell hSw neK1 neK' d1; replace d2 := trn_cell hSw neK1 neK' d2; go_simp; try with_reducible rfl)
          try simp only [Act.put, List.setIfInBounds_toArray, List.set_cons_zero, List.set_cons_succ]
          refine x_take (i := 1) (oi := { dst := some 105, op := Op.fieldAddr 52 (Operand.tmp 5) 2, type := 0, pos := "branch.go:178", after := #[], guard := none }) (v := ?_) rfl (by kernel_rfl) (by kernel_rfl) (by kernel_rfl) (by kernel_rfl) (by kernel_rfl) (fun _ _ _ h => h) (Or.inl ⟨rfl, ?_⟩) (by assumption) ?_
          rotate_left
          · (intro w' hSw; replace cP := trn_cell hSw neP1 neP' cP; replace q2 := trn_cell hSw neB1 neB' q2; replace d0 := trn_cell hSw neK1 neK' d0; replace d1 := trn_cell hSw neK1 neK' d1; replace d2 := trn_cell hSw neK1 neK' d2; go_simp; try with_reducible rfl)
          try simp only [Act.put, List.setIfInBounds_toArray, List.set_cons_zero, List.set_cons_succ]
          refine x_take (i := 2) (oi := { dst := some 106, op := Op.load 50 (Operand.tmp 105), type := 50, pos := "branch.go:178", after := #[{ on := 1, ground := Ground.data }], guard := none }) (v := ?_) rfl (by kernel_rfl) (by kernel_rfl) (by kernel_rfl) (by kernel_rfl) (by kernel_rfl) (fun _ _ _ h => h) (Or.inl ⟨rfl, ?_⟩) (by assumption) ?_
          rotate_left
          · (intro w' hSw; replace cP := trn_cell hSw neP1 neP' cP; replace q2 := trn_cell hSw neB1 neB' q2; replace d0 := trn_cell hSw neK1 neK' d0; replace d1 := trn_cell hSw neK1 neK' d1; replace d2 := trn_cell hSw neK1 neK' d2; go_simp; try with_reducible rfl)
          try simp only [Act.put, List.setIfInBounds_toArray, List.set_cons_zero, List.set_cons_succ]
          refine x_take (i := 3) (oi := { dst := some 107, op := Op.indexAddr 50 (Operand.tmp 106) (Operand.const (Value.int IntKind.i64 0)), type := 0, pos := "branch.go:178", after := #[{ on := 2, ground := Ground.data }], guard := none }) (v := ?_) rfl (by kernel_rfl) (by kernel_rfl) (by kernel_rfl) (by kernel_rfl) (by kernel_rfl) (fun _ _ _ h => h) (Or.inl ⟨rfl, ?_⟩) (by assumption) ?_
          rotate_left
          · (intro w' hSw; replace cP := trn_cell hSw neP1 neP' cP; replace q2 := trn_cell hSw neB1 neB' q2; replace d0 := trn_cell hSw neK1 neK' d0; replace d1 := trn_cell hSw neK1 neK' d1; replace d2 := trn_cell hSw neK1 neK' d2; go_simp; try with_reducible rfl)
          try simp only [Act.put, List.setIfInBounds_toArray, List.set_cons_zero, List.set_cons_succ]
          refine x_take (i := 4) (oi := { dst := some 108, op := Op.load 52 (Operand.tmp 107), type := 52, pos := "branch.go:178", after := #[{ on := 3, ground := Ground.data }], guard := none }) (v := ?_) rfl (by kernel_rfl) (by kernel_rfl) (by kernel_rfl) (by kernel_rfl) (by kernel_rfl) (fun _ _ _ h => h) (Or.inl ⟨rfl, ?_⟩) (by assumption) ?_
          rotate_left
          · (intro w' hSw; replace cP := trn_cell hSw neP1 neP' cP; replace q2 := trn_cell hSw neB1 neB' q2; replace d0 := trn_cell hSw neK1 neK' d0; replace d1 := trn_cell hSw neK1 neK' d1; replace d2 := trn_cell hSw neK1 neK' d2; go_simp; try with_reducible rfl)
          try simp only [Act.put, List.setIfInBounds_toArray, List.set_cons_zero, List.set_cons_succ]
          refine x_take (i := 5) (oi := { dst := some 109, op := Op.move (Operand.tmp 9), type := 3, pos := "branch.go:178", after := #[], guard := none }) (v := ?_) rfl (by kernel_rfl) (by kernel_rfl) (by kernel_rfl) (by kernel_rfl) (by kernel_rfl) (fun _ _ _ h => h) (Or.inl ⟨rfl, ?_⟩) (by assumption) ?_
          rotate_left
          · (intro w' hSw; replace cP := trn_cell hSw neP1 neP' cP; replace q2 := trn_cell hSw neB1 neB' q2; replace d0 := trn_cell hSw neK1 neK' d0; replace d1 := trn_cell hSw neK1 neK' d1; replace d2 := trn_cell hSw neK1 neK' d2; go_simp; try with_reducible rfl)
          try simp only [Act.put, List.setIfInBounds_toArray, List.set_cons_zero, List.set_cons_succ]
          refine x_take (i := 6) (oi := { dst := some 110, op := Op.move (Operand.tmp 10), type := 3, pos := "branch.go:178", after := #[], guard := none }) (v := ?_) rfl (by kernel_rfl) (by kernel_rfl) (by kernel_rfl) (by kernel_rfl) (by kernel_rfl) (fun _ _ _ h => h) (Or.inl ⟨rfl, ?_⟩) (by assumption) ?_
          rotate_left
          · (intro w' hSw; replace cP := trn_cell hSw neP1 neP' cP; replace q2 := trn_cell hSw neB1 neB' q2; replace d0 := trn_cell hSw neK1 neK' d0; replace d1 := trn_cell hSw neK1 neK' d1; replace d2 := trn_cell hSw neK1 neK' d2; go_simp; try with_reducible rfl)
          try simp only [Act.put, List.setIfInBounds_toArray, List.set_cons_zero, List.set_cons_succ]
          refine x_one (i := 7) (o := { dst := some 111, op := Op.call { callee := Callee.value (Operand.tmp 104), args := #[Operand.tmp 108, Operand.tmp 109, Operand.tmp 110], argTypes := #[52, 3, 3] }, type := 3, pos := "branch.go:178", after := #[{ on := 0, ground := Ground.data }, { on := 4, ground := Ground.data }, { on := 5, ground := Ground.data }, { on := 6, ground := Ground.data }], guard := none }) (by kernel_rfl) rfl (fun K hK => ?_)
          (go_simp; go_at_call 84; refine (HG.out p1.1 p2.1 p2.2 v4 w4.drew (kept_drew K4) hb4 oN4.drew oP4.drew (row_kept r4 (kept_drew (kept_refl w4))) hl4).mono ?_; rintro e w5 ⟨v5, rfl, oN5, r5, T5, L5⟩; have L5 : Loc v4 v5 w4 := L5; have T5 : Trn gN v4 w4 w5 := trn_trans (trn_of (kept_drew (kept_refl w4))) (loc_refl _ _) T5; try dsimp only)
          refine hK.out _ _ ?_ (fun hHeld => ?_)
          · (try dsimp only); first | exact trn_of (kept_drew (kept_refl w4)) | exact T5
          clear hK K
          try simp only [Act.put, List.setIfInBounds_toArray, List.set_cons_zero, List.set_cons_succ]
          refine x_take (i := 8) (oi := { dst := some 8, op := Op.assign (Operand.tmp 111), type := 3, pos := "branch.go:178", after := #[{ on := 7, ground := Ground.data }, { on := 7, ground := Ground.chain }, { on := 0, ground := Ground.phase }, { on := 1, ground := Ground.phase }, { on := 2, ground := Ground.phase }, { on := 3, ground := Ground.phase }, { on := 4, ground := Ground.phase }, { on := 5, ground := Ground.phase }, { on := 6, ground := Ground.phase }, { on := 7, ground := Ground.phase }], guard := none }) (v := ?_) rfl (by kernel_rfl) (by kernel_rfl) (by kernel_rfl) (by kernel_rfl) (by kernel_rfl) (fun _ _ _ h => h) (Or.inl ⟨rfl, ?_⟩) (by assumption) ?_
          rotate_left
          · (intro w' hSw; replace cP := trn_cell hSw neP1 neP' cP; replace q2 := trn_cell hSw neB1 neB' q2; replace d0 := trn_cell hSw neK1 neK' d0; replace d1 := trn_cell hSw neK1 neK' d1; replace d2 := trn_cell hSw neK1 neK' d2; go_simp; try with_reducible rfl)
          try simp only [Act.put, List.setIfInBounds_toArray, List.set_cons_zero, List.set_cons_succ]
          refine x_done (by kernel_rfl) ?_ _
          go_wp2_with fail
          go_ret
          exact ⟨v5, rfl, oN5, r5, trn_trans (trn_of KW) (loc_refl _ _) (trn_trans T4 L4' T5), loc_trans (loc_refl _ _) (loc_trans L4' L5 T4.size) KW.size⟩
end Go.Proofs.Ytinpmdekdfgiiaa
