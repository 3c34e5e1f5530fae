/- Formulas: the program's walk: validity and inputs. -/
import Derived.Test.YtikfeemmjfoffaaDoorY3
import Derived.Test.YtikfeemmjfoffaaDoorY6
set_option linter.unusedVariables false
set_option linter.unusedSimpArgs false
namespace Go.Proofs.YtikfeemmjfoffaaDoor
open Go.RowKit Go.Maps

theorem zero3w (w : World) : (zeroValue 3).run Tryd.prog w = .ok (.int .i64 0) w := by kernel_rfl
def costD : DataW Unit := (((DataW.map []).put (.int .i64 3) (.lit (.int .i64 1))).put (.int .i64 4) (.lit (.int .i64 1))).put (.int .i64 5) (.lit (.int .i64 2))
theorem cost_at {k : Int} (h : k = 2 ∨ k = 3 ∨ k = 4 ∨ k = 5) : costD.atKey (.int .i64 k) (.lit (.int .i64 0)) = .lit (.int .i64 (costK k : Nat)) := by
  rcases h with rfl | rfl | rfl | rfl <;> rfl
theorem shp_mk {k n : Int} {l : List Fm} : shpF (.mk k n l) = (shpL l && nodeB k n l.length) := by rw [shpF]
/-- A new block may be written, too. -/
theorem kg_step {g b : Nat} {w W w' : World} (h : KG g w W) (k : W.grownBy w' (some b)) (hb : w.heap.size ≤ b) : KG g w w' :=
  ⟨by rw [k.os, h.os], by rw [k.tape, h.tape], by rw [k.output, h.output], Nat.le_trans h.size k.size, fun i hi ne => (k.block i (Nat.lt_of_lt_of_le hi h.size) (fun e => by injection e with e; omega)).trans (h.block i hi ne)⟩
theorem lvs_ne {k n : Int} {l : List Fm} (h : l.isEmpty = false) : lvsF (.mk k n l) = lvsL l := by rw [lvsF]; simp [h]
theorem dp_ne {k n : Int} {l : List Fm} (h : l.isEmpty = false) : dpF (.mk k n l) = dpL l + costK k := by rw [dpF]; simp [h]
theorem inp_ne {k n : Int} {l : List Fm} (h : k ≠ 0) : inpF (.mk k n l) = inpL l := by rw [inpF, if_neg h]; have := inpL_nonneg l; omega
theorem kept_size {w w' : World} (k : Kept w w') : w.heap.size ≤ w'.heap.size := k.size

theorem lvsL_take_le {l : List Fm} : ∀ j, j ≤ l.length → lvsL (l.take j) ≤ cntL (l.take j) ∧ dpL (l.take j) ≤ 2 * cntL (l.take j) := by
  intro j
  induction j with
  | zero => intro _; simp [lvsL, cntL, dpL]
  | succ j ih =>
    intro hj
    have h1 := ih (by omega)
    rw [lvsL_take (by omega), cntL_take (by omega), dpL_take (by omega)]
    have h2 := lvs_le_cnt (kd l j)
    have h3 := dp_le_cnt (kd l j)
    omega
theorem inpL_take_le {l : List Fm} : ∀ j, j ≤ l.length → (∀ i, i < j → shpF (kd l i) = true) → 0 ≤ inpL (l.take j) ∧ inpL (l.take j) ≤ 16 := by
  intro j
  induction j with
  | zero => intro _ _; simp [inpL]
  | succ j ih =>
    intro hj hs
    have h1 := ih (by omega) (fun i hi => hs i (by omega))
    rw [inpL_take (by omega)]
    have h2 := inp_bounds _ (kd l j) (Nat.le_refl _) (hs j (by omega))
    omega
theorem shape_step {w : World} {g : Nat} {a b d i n : Int} {l : List Fm} {j : Nat} (h : Own w g 81 (shape5 (a + 1 + cntL (l.take j) + cntF (kd l j)) (b + lvsL (l.take j) + lvsF (kd l j)) d (max (max i (inpL (l.take j))) (inpF (kd l j))) n)) (hlt : j < l.length) :
    Own w g 81 (shape5 (a + 1 + cntL (l.take (j + 1))) (b + lvsL (l.take (j + 1))) d (max i (inpL (l.take (j + 1)))) n) := by
  rw [cntL_take hlt, lvsL_take hlt, inpL_take hlt]
  have e1 : a + 1 + ((cntL (l.take j) + cntF (kd l j) : Nat) : Int) = a + 1 + cntL (l.take j) + cntF (kd l j) := by omega
  have e2 : b + ((lvsL (l.take j) + lvsF (kd l j) : Nat) : Int) = b + lvsL (l.take j) + lvsF (kd l j) := by omega
  have e3 : max i (max (inpL (l.take j)) (inpF (kd l j))) = max (max i (inpL (l.take j))) (inpF (kd l j)) := by omega
  rw [e1, e2, e3]
  exact h
set_option maxRecDepth 100000 in
set_option maxHeartbeats 1000000 in
theorem walk_any : ∀ (N : Nat) (f : Fm) (A : Option Addr) (c : Nat) (lev a b d i n : Int) (g : Nat) (w0 w : World), cntF f ≤ N → f.l.length ≤ 9223372036854775807 → RK w0 A f.l → Kept w0 w → w0.heap.size ≤ g → Own w g 81 (shape5 a b d i n) → 0 ≤ a → a + cntF f ≤ 20000 → 0 ≤ b → b + cntF f ≤ 20000 → 1 ≤ lev → lev + depF f ≤ 1001 → 0 ≤ i → i ≤ 16 →
    Calls Tryd.prog 64 #[.pointer (some ⟨g, 0, none⟩), fmV f A c, .int .i64 lev] w (WalkPost f g a b d i n w) := by
  intro N
  induction N with
  | zero => intro f A c lev a b d i n g w0 w h; have := cntF_pos f; omega
  | succ N ih =>
    intro f A c lev a b d i n g w0 w hc hl hr hK hg hO ha0 ha1 hb0 hb1 hl0 hl1 hi0 hi1
    have IH := Lib.hid ih; clear ih
    have HR := Lib.hid hr; clear hr
    cases f with
    | mk k nn l =>
    change Calls Tryd.prog 64 #[.pointer (some ⟨g, 0, none⟩), .agg #[.int .i64 k, .int .i64 nn, .slice A l.length c], .int .i64 lev] w _
    change l.length ≤ _ at hl
    have HR : Hid (RK w0 A l) := HR
    have hcn : cntF (.mk k nn l) = 1 + cntL l := cntF_eq _
    have hdn : depF (.mk k nn l) = depL l + 1 := depF_eq _
    have zg : g < w.heap.size := hO.lt
    have c0 := hO.cell (j := 0) rfl
    have f0 := hO.frozen 0
    have NA := Lib.hid fun (w' : World) => node_any (.mk k nn l) A c w'
    have NA : Hid (∀ w', Calls Tryd.prog 78 #[.agg #[.int .i64 k, .int .i64 nn, .slice A l.length c]] w' fun e w'' => e = .returned (.bool (nodeB k nn l.length)) ∧ Kept w' w'') := NA
    have t1 : decide ((20000 : Int) < a + 1) = false := decide_eq_false (by omega)
    have t2 : decide ((1000 : Int) < lev) = false := decide_eq_false (by omega)
    have KB1 : KG g w ((w.setCell ⟨g, 0, none⟩ (.int .i64 (a + 1))).alloc (.cells #[.int .i64 k, .int .i64 nn, .slice A l.length c] 48)) := kg_trans (kg_set (kg_of (kept_refl w)) 0 _) (kg_of (kept_alloc (kept_refl _) _))
    have o1 := (hO.set 0 (.int .i64 (a + 1))).alloc (.cells #[.int .i64 k, .int .i64 nn, .slice A l.length c] 48)
    have o0 : Own ((w.setCell ⟨g, 0, none⟩ (.int .i64 (a + 1))).alloc (.cells #[.int .i64 k, .int .i64 nn, .slice A l.length c] 48)) w.heap.size 48 [.int .i64 k, .int .i64 nn, .slice A l.length c] := by
      simpa using Own.new (w.setCell ⟨g, 0, none⟩ (.int .i64 (a + 1))) 48 [.int .i64 k, .int .i64 nn, .slice A l.length c]
    change Own _ g 81 (shape5 (a + 1) b d i n) at o1
    go_enter Tryd.func64, Tryd.ntmps64
    go_wp2_with fail
    refine (NA.out _).mono ?_
    rintro e w1 ⟨rfl, k1⟩
    replace KB1 := kg_trans KB1 (kg_of k1)
    replace o0 := o0.kept k1
    replace o1 := o1.kept k1
    clear c0 f0
    cases hnb : nodeB k nn l.length
    · go_wp2_with fail
      go_ret2
      have hsh : shpF (.mk k nn l) = false := by rw [shp_mk, hnb, Bool.and_false]
      exact ⟨0, a + 1, b, i, by rw [hsh]; rfl, KB1, o1, fun h => by rw [hsh] at h; cases h⟩
    · have hnc := node_cases hnb
      have q0 := o0.cell (j := 0) rfl
      have q1 := o0.cell (j := 1) rfl
      have q2 := o0.cell (j := 2) rfl
      have c0 := o1.cell (j := 0) rfl
      have c1 := o1.cell (j := 1) rfl
      have c2 := o1.cell (j := 2) rfl
      have c3 := o1.cell (j := 3) rfl
      have c4 := o1.cell (j := 4) rfl
      have f1 := o1.frozen 1
      have HNB := Lib.hid hnb; clear hnb
      by_cases hl0 : l = []
      · subst hl0
        have hsh : shpF (.mk k nn []) = true := by rw [shp_mk, HNB.out]; rfl
        have KB2 := kg_set KB1 1 (.int .i64 (b + 1))
        have o2 := o1.set 1 (.int .i64 (b + 1))
        change Own _ g 81 (shape5 (a + 1) (b + 1) d i n) at o2
        have p0 := o0.other (a := ⟨g, 1, none⟩) (by dsimp only; omega) (.int .i64 (b + 1))
        by_cases hk0 : k = 0
        · subst hk0
          have hin : 0 ≤ nn ∧ nn < 16 := by simp only [List.length_nil] at hnc; omega
          have c3' := o2.cell (j := 3) rfl
          have f3' := o2.frozen 3
          have q1' := p0.cell (j := 1) rfl
          obtain ⟨W, hW⟩ : ∃ W, W = w1.setCell ⟨g, 1, none⟩ (.int .i64 (b + 1)) := ⟨_, rfl⟩
          rw [← hW] at KB2 o2 p0 c3' f3' q1'
          have s1 : IntKind.i64.wrap (nn + 1) = nn + 1 := IntWalk.i64_in _ (by omega)
          have KB3 := kg_trans (kg_set KB2 3 (.int .i64 (if i < nn + 1 then nn + 1 else i))) (kg_of (kept_drew (kept_refl _)))
          have o3 := (o2.set 3 (.int .i64 (if i < nn + 1 then nn + 1 else i))).drew
          change Own _ g 81 (shape5 (a + 1) (b + 1) d (if i < nn + 1 then nn + 1 else i) n) at o3
          have HW := Lib.hid hW
          clear hW KB2 o2 p0 hnc KB1 o1
          go_wp2_with fail
          rw [← HW.out]
          refine region_x (fun w' => Kept W w') [11] (by kernel_rfl) (kept_drew (kept_refl _)) (fun hHeld => ?_)
          refine x_take (i := 0) (oi := { dst := some 48, op := Op.move (Operand.tmp 0), type := 112, pos := "formula.go:36", after := #[], guard := none }) (v := ?_) rfl (by kernel_rfl) (by kernel_rfl) (by kernel_rfl) (by kernel_rfl) (by kernel_rfl) (fun _ _ _ h => h) (Or.inl ⟨rfl, ?_⟩) (by assumption) ?_
          rotate_left
          · (intro w' hSw; replace c3' := kept_cell hSw c3'; replace q1' := kept_cell hSw q1'; go_simp; try with_reducible rfl)
          try simp only [Act.put, List.setIfInBounds_toArray, List.set_cons_zero, List.set_cons_succ]
          refine x_take (i := 1) (oi := { dst := some 49, op := Op.move (Operand.tmp 0), type := 112, pos := "formula.go:36", after := #[], guard := none }) (v := ?_) rfl (by kernel_rfl) (by kernel_rfl) (by kernel_rfl) (by kernel_rfl) (by kernel_rfl) (fun _ _ _ h => h) (Or.inl ⟨rfl, ?_⟩) (by assumption) ?_
          rotate_left
          · (intro w' hSw; replace c3' := kept_cell hSw c3'; replace q1' := kept_cell hSw q1'; go_simp; try with_reducible rfl)
          try simp only [Act.put, List.setIfInBounds_toArray, List.set_cons_zero, List.set_cons_succ]
          refine x_take (i := 2) (oi := { dst := some 50, op := Op.nilCheck (Operand.tmp 49), type := 0, pos := "formula.go:36", after := #[{ on := 1, ground := Ground.data }], guard := none }) (v := ?_) rfl (by kernel_rfl) (by kernel_rfl) (by kernel_rfl) (by kernel_rfl) (by kernel_rfl) (fun _ _ _ h => h) (Or.inl ⟨rfl, ?_⟩) (by assumption) ?_
          rotate_left
          · (intro w' hSw; replace c3' := kept_cell hSw c3'; replace q1' := kept_cell hSw q1'; go_simp; try with_reducible rfl)
          try simp only [Act.put, List.setIfInBounds_toArray, List.set_cons_zero, List.set_cons_succ]
          refine x_take (i := 3) (oi := { dst := some 51, op := Op.fieldAddr 81 (Operand.tmp 50) 3, type := 0, pos := "formula.go:36", after := #[{ on := 2, ground := Ground.data }], guard := none }) (v := ?_) rfl (by kernel_rfl) (by kernel_rfl) (by kernel_rfl) (by kernel_rfl) (by kernel_rfl) (fun _ _ _ h => h) (Or.inl ⟨rfl, ?_⟩) (by assumption) ?_
          rotate_left
          · (intro w' hSw; replace c3' := kept_cell hSw c3'; replace q1' := kept_cell hSw q1'; go_simp; try with_reducible rfl)
          try simp only [Act.put, List.setIfInBounds_toArray, List.set_cons_zero, List.set_cons_succ]
          refine x_take (i := 4) (oi := { dst := some 52, op := Op.load 3 (Operand.tmp 51), type := 3, pos := "formula.go:36", after := #[{ on := 3, ground := Ground.data }], guard := none }) (v := ?_) rfl (by kernel_rfl) (by kernel_rfl) (by kernel_rfl) (by kernel_rfl) (by kernel_rfl) (fun _ _ _ h => h) (Or.inl ⟨rfl, ?_⟩) (by assumption) ?_
          rotate_left
          · (intro w' hSw; replace c3' := kept_cell hSw c3'; replace q1' := kept_cell hSw q1'; go_simp; try with_reducible rfl)
          try simp only [Act.put, List.setIfInBounds_toArray, List.set_cons_zero, List.set_cons_succ]
          refine x_take (i := 5) (oi := { dst := some 53, op := Op.fieldAddr 48 (Operand.tmp 4) 1, type := 0, pos := "formula.go:36", after := #[], guard := none }) (v := ?_) rfl (by kernel_rfl) (by kernel_rfl) (by kernel_rfl) (by kernel_rfl) (by kernel_rfl) (fun _ _ _ h => h) (Or.inl ⟨rfl, ?_⟩) (by assumption) ?_
          rotate_left
          · (intro w' hSw; replace c3' := kept_cell hSw c3'; replace q1' := kept_cell hSw q1'; go_simp; try with_reducible rfl)
          try simp only [Act.put, List.setIfInBounds_toArray, List.set_cons_zero, List.set_cons_succ]
          refine x_take (i := 6) (oi := { dst := some 54, op := Op.load 3 (Operand.tmp 53), type := 3, pos := "formula.go:36", after := #[{ on := 5, ground := Ground.data }], guard := none }) (v := ?_) rfl (by kernel_rfl) (by kernel_rfl) (by kernel_rfl) (by kernel_rfl) (by kernel_rfl) (fun _ _ _ h => h) (Or.inl ⟨rfl, ?_⟩) (by assumption) ?_
          rotate_left
          · (intro w' hSw; replace c3' := kept_cell hSw c3'; replace q1' := kept_cell hSw q1'; go_simp; try with_reducible rfl)
          try simp only [Act.put, List.setIfInBounds_toArray, List.set_cons_zero, List.set_cons_succ]
          refine x_take (i := 7) (oi := { dst := some 55, op := Op.binOp BinOp.add 3 (Operand.tmp 54) (Operand.const (Value.int IntKind.i64 1)) 3, type := 3, pos := "formula.go:36", after := #[{ on := 6, ground := Ground.data }], guard := none }) (v := ?_) rfl (by kernel_rfl) (by kernel_rfl) (by kernel_rfl) (by kernel_rfl) (by kernel_rfl) (fun _ _ _ h => h) (Or.inl ⟨rfl, ?_⟩) (by assumption) ?_
          rotate_left
          · (intro w' hSw; replace c3' := kept_cell hSw c3'; replace q1' := kept_cell hSw q1'; go_simp; try with_reducible rfl)
          try simp only [Act.put, List.setIfInBounds_toArray, List.set_cons_zero, List.set_cons_succ]
          refine x_take (i := 8) (oi := { dst := some 56, op := Op.call { callee := Callee.builtin Builtin.max, args := #[Operand.tmp 52, Operand.tmp 55], argTypes := #[3, 3] }, type := 3, pos := "formula.go:36", after := #[{ on := 4, ground := Ground.data }, { on := 7, ground := Ground.data }], guard := none }) (v := ?_) rfl (by kernel_rfl) (by kernel_rfl) (by kernel_rfl) (by kernel_rfl) (by kernel_rfl) (fun _ _ _ h => h) (Or.inl ⟨rfl, ?_⟩) (by assumption) ?_
          rotate_left
          · (intro w' hSw; replace c3' := kept_cell hSw c3'; replace q1' := kept_cell hSw q1'; go_simp; try with_reducible rfl)
          try simp only [Act.put, List.setIfInBounds_toArray, List.set_cons_zero, List.set_cons_succ]
          refine x_take (i := 9) (oi := { dst := some 57, op := Op.nilCheck (Operand.tmp 48), type := 0, pos := "formula.go:36", after := #[{ on := 0, ground := Ground.data }, { on := 0, ground := Ground.phase }, { on := 1, ground := Ground.phase }, { on := 2, ground := Ground.phase }, { on := 3, ground := Ground.phase }, { on := 4, ground := Ground.phase }, { on := 5, ground := Ground.phase }, { on := 6, ground := Ground.phase }, { on := 7, ground := Ground.phase }, { on := 8, ground := Ground.phase }], guard := none }) (v := ?_) rfl (by kernel_rfl) (by kernel_rfl) (by kernel_rfl) (by kernel_rfl) (by kernel_rfl) (fun _ _ _ h => h) (Or.inl ⟨rfl, ?_⟩) (by assumption) ?_
          rotate_left
          · (intro w' hSw; replace c3' := kept_cell hSw c3'; replace q1' := kept_cell hSw q1'; go_simp; try with_reducible rfl)
          try simp only [Act.put, List.setIfInBounds_toArray, List.set_cons_zero, List.set_cons_succ]
          refine x_take (i := 10) (oi := { dst := some 58, op := Op.fieldAddr 81 (Operand.tmp 57) 3, type := 0, pos := "formula.go:36", after := #[{ on := 9, ground := Ground.data }, { on := 0, ground := Ground.phase }, { on := 1, ground := Ground.phase }, { on := 2, ground := Ground.phase }, { on := 3, ground := Ground.phase }, { on := 4, ground := Ground.phase }, { on := 5, ground := Ground.phase }, { on := 6, ground := Ground.phase }, { on := 7, ground := Ground.phase }, { on := 8, ground := Ground.phase }], guard := none }) (v := ?_) rfl (by kernel_rfl) (by kernel_rfl) (by kernel_rfl) (by kernel_rfl) (by kernel_rfl) (fun _ _ _ h => h) (Or.inl ⟨rfl, ?_⟩) (by assumption) ?_
          rotate_left
          · (intro w' hSw; replace c3' := kept_cell hSw c3'; replace q1' := kept_cell hSw q1'; go_simp; try with_reducible rfl)
          try simp only [Act.put, List.setIfInBounds_toArray, List.set_cons_zero, List.set_cons_succ]
          refine x_last (i := 11) (o := { dst := none, op := Op.store 3 (Operand.tmp 58) (Operand.tmp 56), type := 0, pos := "formula.go:36", after := #[{ on := 10, ground := Ground.data }, { on := 8, ground := Ground.data }, { on := 0, ground := Ground.phase }, { on := 1, ground := Ground.phase }, { on := 2, ground := Ground.phase }, { on := 3, ground := Ground.phase }, { on := 4, ground := Ground.phase }, { on := 5, ground := Ground.phase }, { on := 6, ground := Ground.phase }, { on := 7, ground := Ground.phase }, { on := 8, ground := Ground.phase }], guard := none }) (by kernel_rfl) rfl (by simp) (fun K hK => ?_)
          go_simp
          refine hK.out _ _ ?_
          clear hK K
          try simp only [Act.put, List.setIfInBounds_toArray, List.set_cons_zero, List.set_cons_succ]
          refine x_done (by kernel_rfl) ?_ _
          obtain ⟨w9, hw9⟩ : ∃ x, x = (W.setCell ⟨g, 3, none⟩ (.int .i64 (if i < nn + 1 then nn + 1 else i))).drew := ⟨_, rfl⟩
          rw [← hw9] at KB3 o3 ⊢
          clear hw9
          go_wp2_with fail
          all_goals
            go_ret2
            exact ⟨0, _, _, _, by rw [hsh]; rfl, KB3, o3, fun _ => ⟨by rw [hcn, cntL]; omega, by rw [lvsF_eq]; simp [Fm.l], by rw [ite_max, inpF_eq]; simp [Fm.k, Fm.n, Fm.l, inpL]; omega, by rw [dpF_eq]; simp [Fm.l]⟩⟩
        · have hk1 : k = 1 := by simp only [List.length_nil] at hnc; omega
          subst hk1
          clear hnc
          go_wp2_with fail
          go_ret2
          exact ⟨0, _, _, _, by rw [hsh]; rfl, KB2, o2, fun _ => ⟨by rw [hcn, cntL]; omega, by rw [lvsF_eq]; simp [Fm.l], by rw [inpF_eq]; simp [Fm.k, Fm.n, Fm.l, inpL]; omega, by rw [dpF_eq]; simp [Fm.l]⟩⟩
      · have hk2 : k = 2 ∨ k = 3 ∨ k = 4 ∨ k = 5 := by
          have : 0 < l.length := List.length_pos_iff.2 hl0
          omega
        have hll : 0 < l.length ∧ l.length ≤ 2 := by
          have : 0 < l.length := List.length_pos_iff.2 hl0
          omega
        have hlb : (l.length == 0) = false := by rw [beq_eq_false_iff_ne]; omega
        have hlb2 : ((l.length : Int) == 0) = false := by rw [beq_eq_false_iff_ne]; omega
        have hemp : l.isEmpty = false := by cases l with
          | nil => simp at hl0
          | cons x y => rfl
        have HD := Lib.hid hdn; have HC := Lib.hid hcn; have HK2 := Lib.hid hk2
        clear hnc hl0 hcn hdn hk2
        have Kw : Kept w0 w1 := kept_kg hK KB1 hg
        go_wp2_with fail
        go_loopg [8, 62] l.length (fun g' s8 s62 wr => ∃ j : Nat, j ≤ l.length ∧ g' = l.length - j ∧ s62 = .int .i64 j ∧ s8 = .int .i64 (dpL (l.take j) : Nat) ∧ (∀ i, i < j → shpF (kd l i) = true) ∧ Own wr w.heap.size 48 [.int .i64 k, .int .i64 nn, .slice A l.length c] ∧ Own wr g 81 (shape5 (a + 1 + cntL (l.take j)) (b + lvsL (l.take j)) d (max i (inpL (l.take j))) n) ∧ KG g w wr)
        case atStart => exact ⟨0, by omega, rfl, rfl, by simp [dpL], fun i h => by omega, o0, by simpa [cntL, lvsL, inpL, Int.max_eq_left hi0] using o1, KB1⟩
        case round =>
          clear o0 o1 KB1 q0 q1 q2 c0 c1 c2 c3 c4 f1 Kw
          obtain ⟨j, hj, rfl, rfl, rfl, hal, o0, o1, KB1⟩ := hrel
          have HAL := Lib.hid hal; clear hal
          have Kw : Kept w0 wr := kept_kg hK KB1 hg
          have q0 := o0.cell (j := 0) rfl
          have q1 := o0.cell (j := 1) rfl
          have q2 := o0.cell (j := 2) rfl
          by_cases hlt : j < l.length
          · obtain ⟨bk, off, rfl, hkk⟩ := HR.out.at_ (by omega)
            obtain ⟨e0, e1, ⟨A', c', e2, rk⟩, dl⟩ := hkk j hlt
            have d0 := kept_cell Kw e0
            have d1 := kept_cell Kw e1
            have d2 := kept_cell Kw e2
            clear hkk e0 e1 e2
            have g0 : (0 : Int) ≤ (j : Int) := by omega
            have g1 : (j : Int) < (l.length : Int) := by omega
            have h1 := cntL_take hlt
            have h2 := cntL_take_le l (j + 1)
            have h3 := lvsL_take_le (l := l) j (by omega)
            have h4 := inpL_take_le (l := l) j (by omega) HAL.out
            have h5 := dep_kid hlt
            have h6 := HC.out
            have h7 := HD.out
            have C := IH.out (kd l j) A' c' (lev + 1) (a + 1 + cntL (l.take j)) (b + lvsL (l.take j)) d (max i (inpL (l.take j))) n g w0 (wr.alloc (.cells #[.int .i64 (kd l j).k, .int .i64 (kd l j).n, .slice A' (kd l j).l.length c'] 48)) (by omega) dl rk (kept_alloc Kw _) hg (o1.alloc _) (by omega) (by omega) (by omega) (by omega) (by omega) (by omega) (by omega) (by omega)
            unfold fmV at C
            have hdp : (dpF (kd l j) : Int) ≤ 40000 := by have := dp_le_cnt (kd l j); omega
            have hdq : (dpL (l.take j) : Int) ≤ 40000 := by omega
            have C' := Lib.hid C
            have o0' := o0.alloc (.cells #[.int .i64 (kd l j).k, .int .i64 (kd l j).n, .slice A' (kd l j).l.length c'] 48)
            have KBa : KG g w (wr.alloc (.cells #[.int .i64 (kd l j).k, .int .i64 (kd l j).n, .slice A' (kd l j).l.length c'] 48)) := kg_trans KB1 (kg_of (kept_alloc (kept_refl _) _))
            have s1 : IntKind.i64.wrap (lev + 1) = lev + 1 := IntWalk.i64_in _ (by omega)
            obtain ⟨u, hu⟩ : ∃ u, u = dpL (l.take j) := ⟨_, rfl⟩
            rw [← hu] at hdq ⊢
            have HU := Lib.hid hu
            have lev1 : lev ≤ 1000 := by omega
            have hgw : g ≠ w.heap.size := by omega
            clear C h1 h2 h3 h4 h5 h6 h7 hu
            go_wp2_with fail
            refine C'.out.mono ?_
            rintro e w2 ⟨dd, a', b', i', rfl, k2, o2, himp⟩
            replace KB1 := kg_trans KBa k2
            replace o0 := o0'.kg k2 hgw.symm
            cases hsk : shpF (kd l j)
            · rw [hsk] at himp
              go_wp2_with fail
              go_ret2
              have hsh : shpF (.mk k nn l) = false := by rw [shp_mk, shpL_false.2 ⟨j, hlt, hsk⟩]; rfl
              exact ⟨0, a', b', i', by rw [hsh]; rfl, KB1, o2, fun h => by rw [hsh] at h; cases h⟩
            · obtain ⟨rfl, rfl, rfl, rfl⟩ := himp hsk
              have HSK := Lib.hid hsk
              clear himp hsk
              obtain ⟨v, hv⟩ : ∃ v, v = dpF (kd l j) := ⟨_, rfl⟩
              rw [← hv] at hdp ⊢
              have HV := Lib.hid hv; clear hv
              go_wp2_with fail
              all_goals
                go_roundg (l.length - (j + 1))
                case rel => exact ⟨j + 1, by omega, rfl, by go_num, congrArg (Value.int .i64) (by have := HU.out; have := HV.out; have := dpL_take hlt; omega), fun i h => by rcases Nat.lt_succ_iff_lt_or_eq.1 h with h | rfl; exact HAL.out i h; exact HSK.out, o0, shape_step o2 hlt, KB1⟩
                case measure => omega
          · have hje : j = l.length := by omega
            subst hje
            rw [List.take_length] at o1
            have hs : shpF (.mk k nn l) = true := by rw [shp_mk, HNB.out, shpL_true.2 HAL.out]; rfl
            have hdl := (lvsL_take_le (l := l) l.length (Nat.le_refl _)).2
            rw [List.take_length] at hdl ⊢
            have hdm : (dpL l : Int) ≤ 40000 := by have := HC.out; omega
            have hown := World.ownsMap_made (H := Unit) wr Tryd.prog 3 (plainElem Tryd.prog 3)
            have hmm := @run_makeMap Tryd.prog
            have o0' := o0.alloc (.map #[] 0)
            have o1' := o1.alloc (.map #[] 0)
            have KB2 : KG g w (wr.alloc (.map #[] 0)) := kg_trans KB1 (kg_of (kept_alloc (kept_refl _) _))
            have zg2 : g < wr.heap.size := o1.lt
            have zw2 : w.heap.size < wr.heap.size := o0.lt
            have zgw : w.heap.size ≤ wr.heap.size := by omega
            have hck := cost_at HK2.out
            unfold costD at hck
            have HCK := Lib.hid hck
            clear hck hdl
            have hcb : costK k ≤ 2 := by unfold costK; split <;> (try split) <;> omega
            obtain ⟨u, hu⟩ : ∃ u, u = dpL l := ⟨_, rfl⟩
            rw [← hu] at hdm ⊢
            have HU := Lib.hid hu
            have HS := Lib.hid hs
            clear hu hs
            go_wp2_with (first | (refine wpList_insert_own (H := Unit) _ rfl _ _ _ 113 rfl 3 3 (int_keyed Tryd.underlying3) Tryd.underlying113 (plainElem Tryd.prog 3) wr.heap.size _ _ rfl hown (by unfold maxLen; omega) _ _ _ rfl rfl (keyOf_int_mk Tryd.underlying3 (by decide)) _ [] (plainElem_int Tryd.underlying3 (by decide)) ?_; intro w5 hown5 hg5; replace hown := hown5; replace o0' := o0'.grown hg5 (by intro e; injection e with e; omega); replace o1' := o1'.grown hg5 (by intro e; injection e with e; omega); replace KB2 := kg_step KB2 hg5 zgw; have q0 := o0'.cell (j := 0) rfl; clear hown5 hg5) | (at_lookup; refine wpList_lookup_own_int _ rfl _ _ 113 rfl 3 3 .i64 (int_keyed Tryd.underlying3) Tryd.underlying113 Tryd.underlying3 (zero3w _) wr.heap.size _ _ rfl hown _ _ rfl (keyOf_int_mk Tryd.underlying3 (by rcases HK2.out with rfl | rfl | rfl | rfl <;> decide)) ?_; intro cc hat hwc; rw [HCK.out] at hat; obtain rfl : cc = (costK k : Nat) := by (injection hat with h; injection h with _ h2; exact h2.symm)))
            go_ret2
            exact ⟨(u : Int) + (costK k : Nat), _, _, _, by rw [HS.out]; rfl, KB2, o1', fun _ => ⟨by have := HC.out; omega, by rw [lvs_ne hemp], by rw [inp_ne (by have := HK2.out; omega)], by rw [dp_ne hemp, ← HU.out]; simp⟩⟩

def OfPost (f : Fm) (w : World) (e : Ending) (w' : World) : Prop :=
  ∃ a b d i : Int, e = .returned (.tuple #[.agg #[.int .i64 a, .int .i64 b, .int .i64 d, .int .i64 i, .int .i64 0], .bool (shpF f)]) ∧ (shpF f = true → a = cntF f ∧ b = lvsF f ∧ d = dpF f ∧ i = inpF f) ∧ Kept w w'
set_option maxRecDepth 100000 in
set_option maxHeartbeats 1000000 in
theorem of_any (f : Fm) (A : Option Addr) (c : Nat) (w : World) (hc : cntF f ≤ 20000) (hd : depF f ≤ 1000) (hl : f.l.length ≤ 9223372036854775807) (hr : RK w A f.l) :
    Calls Tryd.prog 48 #[fmV f A c] w (OfPost f w) := by
  have ka : Kept w (((w.alloc (.cells #[.int .i64 f.k, .int .i64 f.n, .slice A f.l.length c] 48)).alloc (.cells #[.int .i64 0, .int .i64 0, .int .i64 0, .int .i64 0, .int .i64 0] 81)).alloc (.cells #[.int .i64 0, .int .i64 0, .int .i64 0, .int .i64 0, .int .i64 0] 81)) := kept_alloc (kept_alloc (kept_alloc (kept_refl w) _) _) _
  have oS : Own (((w.alloc (.cells #[.int .i64 f.k, .int .i64 f.n, .slice A f.l.length c] 48)).alloc (.cells #[.int .i64 0, .int .i64 0, .int .i64 0, .int .i64 0, .int .i64 0] 81)).alloc (.cells #[.int .i64 0, .int .i64 0, .int .i64 0, .int .i64 0, .int .i64 0] 81)) (w.heap.size + 1 + 1) 81 (shape5 0 0 0 0 0) := by
    simpa [shape5] using Own.new ((w.alloc (.cells #[.int .i64 f.k, .int .i64 f.n, .slice A f.l.length c] 48)).alloc (.cells #[.int .i64 0, .int .i64 0, .int .i64 0, .int .i64 0, .int .i64 0] 81)) 81 (shape5 0 0 0 0 0)
  have oR : Own (((w.alloc (.cells #[.int .i64 f.k, .int .i64 f.n, .slice A f.l.length c] 48)).alloc (.cells #[.int .i64 0, .int .i64 0, .int .i64 0, .int .i64 0, .int .i64 0] 81)).alloc (.cells #[.int .i64 0, .int .i64 0, .int .i64 0, .int .i64 0, .int .i64 0] 81)) (w.heap.size + 1) 81 (shape5 0 0 0 0 0) := by
    have := (Own.new (w.alloc (.cells #[.int .i64 f.k, .int .i64 f.n, .slice A f.l.length c] 48)) 81 (shape5 0 0 0 0 0)).alloc (.cells #[.int .i64 0, .int .i64 0, .int .i64 0, .int .i64 0, .int .i64 0] 81)
    simpa [shape5] using this
  have C := walk_any (cntF f) f A c 1 0 0 0 0 0 (w.heap.size + 1 + 1) w _ (Nat.le_refl _) hl hr ka (by omega) oS (by omega) (by omega) (by omega) (by omega) (by omega) (by omega) (by omega) (by omega)
  unfold fmV at C ⊢
  have HC := Lib.hid C
  clear C hl hr oS
  go_enter Tryd.func48, Tryd.ntmps48
  go_wp2_with fail
  refine HC.out.mono ?_
  rintro e w1 ⟨dd, a, b, i, rfl, k1, o1, himp⟩
  replace ka : Kept w w1 := ka.grown k1 ka.size (fun k e => by cases e; omega)
  replace oR := oR.kg k1 (by omega)
  have c0 := o1.cell (j := 0) rfl
  have c1 := o1.cell (j := 1) rfl
  have c2 := o1.cell (j := 2) rfl
  have c3 := o1.cell (j := 3) rfl
  have c4 := o1.cell (j := 4) rfl
  have f2 := o1.frozen 2
  have e0 := oR.cell (j := 0) rfl
  have e1 := oR.cell (j := 1) rfl
  have e2 := oR.cell (j := 2) rfl
  have e3 := oR.cell (j := 3) rfl
  have e4 := oR.cell (j := 4) rfl
  have g0 := oR.frozen 0
  have g1 := oR.frozen 1
  have g2 := oR.frozen 2
  have g3 := oR.frozen 3
  have g4 := oR.frozen 4
  have HI := Lib.hid himp
  clear himp HC
  go_wp2_with fail
  have pk := kept_set (g := w.heap.size + 1 + 1) (j := 2) ka (by omega) (.int .i64 dd)
  have oR2 := oR.other (a := ⟨w.heap.size + 1 + 1, 2, none⟩) (by dsimp only; omega) (.int .i64 dd)
  have pk2 := kept_set (g := w.heap.size + 1) (j := 4) (kept_set (g := w.heap.size + 1) (j := 3) (kept_set (g := w.heap.size + 1) (j := 2) (kept_set (g := w.heap.size + 1) (j := 1) (kept_set (g := w.heap.size + 1) (j := 0) pk (by omega) (.int .i64 a)) (by omega) (.int .i64 b)) (by omega) (.int .i64 dd)) (by omega) (.int .i64 i)) (by omega) (.int .i64 0)
  have oR3 := ((((oR2.set 0 (.int .i64 a)).set 1 (.int .i64 b)).set 2 (.int .i64 dd)).set 3 (.int .i64 i)).set 4 (.int .i64 0)
  obtain ⟨W2, hW2⟩ : ∃ W2, W2 = (((((w1.setCell ⟨w.heap.size + 1 + 1, 2, none⟩ (.int .i64 dd)).setCell ⟨w.heap.size + 1, 0, none⟩ (.int .i64 a)).setCell ⟨w.heap.size + 1, 1, none⟩ (.int .i64 b)).setCell ⟨w.heap.size + 1, 2, none⟩ (.int .i64 dd)).setCell ⟨w.heap.size + 1, 3, none⟩ (.int .i64 i)).setCell ⟨w.heap.size + 1, 4, none⟩ (.int .i64 0) := ⟨_, rfl⟩
  rw [← hW2] at pk2 oR3 ⊢
  clear hW2 e0 e1 e2 e3 e4 c0 c1 c2 c3 c4
  have q0 := oR3.cell (j := 0) rfl
  have q1 := oR3.cell (j := 1) rfl
  have q2 := oR3.cell (j := 2) rfl
  have q3 := oR3.cell (j := 3) rfl
  have q4 := oR3.cell (j := 4) rfl
  exact bodyPost_ret (v := .tuple #[.agg #[.int .i64 a, .int .i64 b, .int .i64 dd, .int .i64 i, .int .i64 0], .bool (shpF f)]) (by simp [results, Tryd.results95, go_sem, q0, q1, q2, q3, q4]) rfl ⟨a, b, dd, i, rfl, fun h => by
    obtain ⟨h1, h2, h3, h4⟩ := HI.out h
    have h5 := inp_bounds _ f (Nat.le_refl _) h
    exact ⟨by omega, by omega, h4, by omega⟩, pk2⟩

set_option maxRecDepth 100000 in
set_option maxHeartbeats 1000000 in
theorem valid82_any (f : Fm) (A : Option Addr) (c : Nat) (w : World) (hc : cntF f ≤ 20000) (hd : depF f ≤ 1000) (hl : f.l.length ≤ 9223372036854775807) (hr : RK w A f.l) :
    Calls Tryd.prog 41 #[fmV f A c] w fun e w' => e = .returned (.bool (shpF f)) ∧ Kept w w' := by
  have K0 : Kept w (w.alloc (.cells #[.int .i64 f.k, .int .i64 f.n, .slice A f.l.length c] 48)) := kept_alloc (kept_refl w) _
  have C := of_any f A c _ hc hd hl (hr.kept K0)
  unfold fmV at C ⊢
  have HC := Lib.hid C
  clear C hr hl
  go_enter Tryd.func41, Tryd.ntmps41
  go_wp2_with fail
  refine HC.out.mono ?_
  rintro e w1 ⟨a, b, d, i, rfl, _, k⟩
  go_wp2_with fail
  go_ret
  exact ⟨rfl, kept_alloc (kept_trans K0 k) _⟩

set_option maxRecDepth 100000 in
set_option maxHeartbeats 1000000 in
theorem part97_any (a b d i n : Int) (w : World) : Calls Tryd.prog 62 #[.agg #[.int .i64 a, .int .i64 b, .int .i64 d, .int .i64 i, .int .i64 n]] w fun e w' => e = .returned (.int .i64 i) ∧ Kept w w' := by
  go_enter Tryd.func62, Tryd.ntmps62
  go_wp2_with fail
  go_ret
  exact ⟨rfl, kept_alloc (kept_refl w) _⟩
set_option maxRecDepth 100000 in
set_option maxHeartbeats 1000000 in
theorem measure96_any (f : Fm) (A : Option Addr) (c : Nat) (w : World) (hc : cntF f ≤ 20000) (hd : depF f ≤ 1000) (hl : f.l.length ≤ 9223372036854775807) (hr : RK w A f.l) (hs : shpF f = true) :
    Calls Tryd.prog 61 #[fmV f A c, .func (.func 62) #[] #[]] w fun e w' => e = .returned (.int .i64 (inpF f)) ∧ Kept w w' := by
  have K0 : Kept w (w.alloc (.cells #[.int .i64 f.k, .int .i64 f.n, .slice A f.l.length c] 48)) := kept_alloc (kept_refl w) _
  have C := of_any f A c _ hc hd hl (hr.kept K0)
  unfold fmV at C ⊢
  have HC := Lib.hid C
  clear C hr hl
  go_enter Tryd.func61, Tryd.ntmps61
  go_wp2_with fail
  refine HC.out.mono ?_
  rintro e w1 ⟨a, b, d, i, rfl, himp, k⟩
  obtain ⟨_, _, _, hi⟩ := himp hs
  rw [hs]
  have HI := Lib.hid hi
  clear himp hs hi
  go_wp2_with fail
  refine (part97_any _ _ _ _ _ _).mono ?_
  rintro e w2 ⟨rfl, k2⟩
  go_wp2_with fail
  go_ret
  exact ⟨ret_int HI.out, kept_trans (kept_alloc (kept_trans K0 k) _) k2⟩
set_option maxRecDepth 100000 in
set_option maxHeartbeats 1000000 in
theorem inputs83_any (f : Fm) (A : Option Addr) (c : Nat) (w : World) (hc : cntF f ≤ 20000) (hd : depF f ≤ 1000) (hl : f.l.length ≤ 9223372036854775807) (hr : RK w A f.l) (hs : shpF f = true) :
    Calls Tryd.prog 42 #[fmV f A c] w fun e w' => e = .returned (.int .i64 (inpF f)) ∧ Kept w w' := by
  have K0 : Kept w (w.alloc (.cells #[.int .i64 f.k, .int .i64 f.n, .slice A f.l.length c] 48)) := kept_alloc (kept_refl w) _
  have C := measure96_any f A c _ hc hd hl (hr.kept K0) hs
  unfold fmV at C ⊢
  have HC := Lib.hid C
  clear C hr hl hs
  go_enter Tryd.func42, Tryd.ntmps42
  go_wp2_with fail
  refine HC.out.mono ?_
  rintro e w1 ⟨rfl, k⟩
  go_wp2_with fail
  go_ret
  exact ⟨rfl, kept_trans K0 k⟩
end Go.Proofs.YtikfeemmjfoffaaDoor
