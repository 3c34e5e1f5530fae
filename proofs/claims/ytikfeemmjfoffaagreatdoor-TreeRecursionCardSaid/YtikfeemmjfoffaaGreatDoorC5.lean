/- Polynomials: the program's Valid. -/
import Derived.Test.YtikfeemmjfoffaaGreatDoorC4
import Derived.Test.YtikfeemmjfoffaaGreatDoorG1
import Derived.Test.YtikfeemmjfoffaaGreatDoorShelf4
set_option linter.unusedVariables false
set_option linter.unusedSimpArgs false
namespace Go.Proofs.YtikfeemmjfoffaaGreatDoor
open Go.RowKit Go.Shelf

def badE (x : Int) : Bool := decide (x < 0) || decide (65535 < x)
set_option maxRecDepth 100000 in
set_option maxHeartbeats 1000000 in
theorem lit62_any (w : World) : PredAt Tryz.prog 74 #[] (Value.int .i64) badE w := fun W x hB => by
  show Calls Tryz.prog 74 #[.int .i64 x] W _
  clear hB
  by_cases c1 : x < 0
  · rw [show badE x = true by simp [badE, c1]]
    go_enter Tryz.func74, Tryz.ntmps74
    go_wp2_with fail
    go_ret
    exact ⟨rfl, 0, rfl⟩
  · by_cases c2 : 65535 < x
    · rw [show badE x = true by simp [badE, c2]]
      go_enter Tryz.func74, Tryz.ntmps74
      go_wp2_with fail
      go_ret
      exact ⟨rfl, 0, rfl⟩
    · rw [show badE x = false by simp [badE]; omega]
      go_enter Tryz.func74, Tryz.ntmps74
      go_wp2_with fail
      go_ret
      exact ⟨rfl, 0, rfl⟩
theorem any_bad (l : List Int) : l.any badE = !l.all eOk := by
  rw [List.not_all_eq_any_not]
  congr 1
  funext x
  unfold badE eOk
  by_cases h1 : 0 ≤ x <;> by_cases h2 : x ≤ 65535 <;> simp [h1, h2] <;> omega
theorem enters62 : ∀ args w, (callFunc 74 args).run Tryz.prog w = .ok (.enter 74 args) w := enters_of Tryz.func74 (by kernel_rfl) rfl
theorem contains61_any (l : List Int) (A : Option Addr) (c : Nat) (w : World) (hA : Rd w A (ints l)) (hl : l.length ≤ 140737488355328) :
    Calls Tryz.prog 48 #[.slice A l.length c, .func (.func 74) #[] #[]] w fun e w' => e = .returned (.bool (!l.all eOk)) ∧ Drw w w' := by
  by_cases h0 : l.length = 0
  · have e0 : l = [] := List.eq_nil_of_length_eq_zero h0
    subst e0
    exact (Tryz.slices_ContainsFunc_empty (α := Int) A c _ _).mono fun e w' ⟨h1, h2⟩ => ⟨h1, 0, h2⟩
  · obtain ⟨b1, f1, rfl, h1⟩ := hA.int (k := 0) (by omega)
    have := Tryz.slices_ContainsFunc (Value.int .i64) badE 74 #[] enters62 b1 f1 l.length c l w (lit62_any w) (Nat.le_refl _) (by omega)
      (fun j hj => by
        have h2 := h1 j hj
        rw [h2]
        unfold ia
        rw [getElem!_pos l j hj, List.getD_eq_getElem?_getD, List.getElem?_eq_getElem hj]
        rfl)
    rw [List.take_length, any_bad] at this
    exact this

set_option maxRecDepth 100000 in
set_option maxHeartbeats 1000000 in
theorem valid25_pre (P M n : Int) (p : List Tm) (A : Option Addr) (c : Nat) (w : World) (hl : p.length ≤ 140737488355328) (h : ¬ (ordF P M ≠ 0 ∧ 0 ≤ n ∧ n ≤ 80 ∧ p.length ≤ 20000)) :
    Calls Tryz.prog 46 #[fV P M, .int .i64 n, .slice A p.length c] w fun e w' => e = .returned (.bool (vld (ordF P M) n p)) ∧ Kept w w' := by
  have C43 := Lib.hid fun w' => order43_any P M w'
  unfold fV at *
  have HF := Lib.hid (show vld (ordF P M) n p = false by
    cases hv : vld (ordF P M) n p with
    | false => rfl
    | true =>
      simp only [vld, Bool.and_eq_true, decide_eq_true_eq] at hv
      exact absurd ⟨hv.1.2, hv.1.1.1.1, hv.1.1.1.2, hv.1.1.2⟩ h)
  rw [HF.out]
  clear HF
  obtain ⟨l, hl'⟩ : ∃ l, l = p.length := ⟨_, rfl⟩
  obtain ⟨q, hq⟩ : ∃ q, q = ordF P M := ⟨_, rfl⟩
  rw [← hl'] at h hl ⊢
  rw [← hq] at h C43
  have K0 := kept_alloc (kept_refl w) (.cells #[.int .i64 P, .int .i64 M] 23)
  clear hl' hq
  by_cases h0 : q = 0
  · subst h0
    clear h
    go_enter Tryz.func46, Tryz.ntmps46
    go_wp2_with (go_at_call 47; ((with_reducible refine (C43.out _).mono ?_); rintro e w1 ⟨rfl, k1⟩; replace K0 := kept_trans K0 k1))
    go_ret
    exact ⟨rfl, K0⟩
  · have t0 : (q == 0) = false := by simpa using h0
    by_cases h1 : n < 0
    · clear h
      go_enter Tryz.func46, Tryz.ntmps46
      go_wp2_with (go_at_call 47; ((with_reducible refine (C43.out _).mono ?_); rintro e w1 ⟨rfl, k1⟩; replace K0 := kept_trans K0 k1))
      go_ret
      exact ⟨rfl, K0⟩
    · by_cases h2 : 80 < n
      · clear h
        go_enter Tryz.func46, Tryz.ntmps46
        go_wp2_with (go_at_call 47; ((with_reducible refine (C43.out _).mono ?_); rintro e w1 ⟨rfl, k1⟩; replace K0 := kept_trans K0 k1))
        go_ret
        exact ⟨rfl, K0⟩
      · have h3 : 20000 < l := by
          have : ¬ l ≤ 20000 := fun hh => h ⟨h0, by omega, by omega, hh⟩
          omega
        have d1 : decide ((20000 : Int) < (l : Int)) = true := decide_eq_true (by omega)
        have d2 : decide (20000 < l) = true := decide_eq_true h3
        clear h h0
        go_enter Tryz.func46, Tryz.ntmps46
        go_wp2_with (go_at_call 47; ((with_reducible refine (C43.out _).mono ?_); rintro e w1 ⟨rfl, k1⟩; replace K0 := kept_trans K0 k1))
        go_ret
        exact ⟨rfl, K0⟩
set_option maxRecDepth 100000 in
set_option maxHeartbeats 1000000 in
theorem valid25_main (P M n : Int) (p : List Tm) (A : Option Addr) (c : Nat) (w : World) (hP : RP w A p) (hq0 : ordF P M ≠ 0) (hn0 : 0 ≤ n) (hn : n ≤ 80) (hl : p.length ≤ 20000) :
    Calls Tryz.prog 46 #[fV P M, .int .i64 n, .slice A p.length c] w fun e w' => e = .returned (.bool (vld (ordF P M) n p)) ∧ Kept w w' := by
  have C43 := Lib.hid fun w' => order43_any P M w'
  unfold fV at *
  obtain ⟨q, hq⟩ : ∃ q, q = ordF P M := ⟨_, rfl⟩
  rw [← hq] at C43 hq0 ⊢
  clear hq
  obtain ⟨V, hV⟩ : ∃ V, V = vld q n p := ⟨_, rfl⟩
  rw [← hV]
  have HV := Lib.hid hV
  have HP := Lib.hid hP
  have K0 := kept_alloc (kept_refl w) (.cells #[.int .i64 P, .int .i64 M] 23)
  have t1 : decide ((20000 : Int) < (p.length : Int)) = false := decide_eq_false (by omega)
  have t2 : decide (20000 < p.length) = false := decide_eq_false (by omega)
  have t3 : (q == 0) = false := by simpa using hq0
  have HQ0 := Lib.hid hq0
  clear hq0 hV hP
  go_enter Tryz.func46, Tryz.ntmps46
  go_wp2_with (go_at_call 47; ((with_reducible refine (C43.out _).mono ?_); rintro e w1 ⟨rfl, k1⟩; replace K0 := kept_trans K0 k1))
  go_loopg [8, 9, 29] p.length (fun g s8 s9 s29 wr => ∃ (k : Nat) (v8 v9 : Value), k ≤ p.length ∧ g = p.length - k ∧ s8 = v8 ∧ s9 = v9 ∧ s29 = .int .i64 k ∧ VTo q n p k ∧ Kept w wr)
  case atStart => exact ⟨0, _, _, by omega, rfl, rfl, rfl, rfl, fun j hj => by omega, K0⟩
  case round =>
    clear K0 t1 t2
    obtain ⟨k, v8, v9, hk, rfl, rfl, rfl, rfl, hT, K0⟩ := hrel
    have HT := Lib.hid hT
    clear hT
    by_cases hlt : k < p.length
    · obtain ⟨b, off, E, ce, rfl, h0, h1, hE, hlE⟩ := (HP.out.kept K0) k hlt
      have HPR := Lib.hid (HP.out.kept K0)
      have HE := Lib.hid hE
      obtain ⟨x, hx⟩ : ∃ x, x = (tmv p k).c := ⟨_, rfl⟩
      obtain ⟨el, hel⟩ : ∃ el, el = (tmv p k).e := ⟨_, rfl⟩
      have HX := Lib.hid hx
      have HEL := Lib.hid hel
      rw [← hx] at h0
      rw [← hel] at h1 HE hlE
      clear hE hx hel
      have K1 := kept_alloc K0 (.cells #[.int .i64 x, .slice E el.length ce] 78)
      have o9 := Own.new wr 78 [.int .i64 x, .slice E el.length ce]
      by_cases c1 : x < 1
      · have HB := Lib.hid (show V = false by rw [HV.out]; exact vld_bad hlt (tok_no (by rw [← HX.out]; omega)))
        have d1 : decide (x < 1) = true := decide_eq_true c1
        clear c1
        go_wp2_with fail
        go_quiet (fail)
        go_wp2_with fail
        go_ret
        exact ⟨ret_bool HB.out.symm, below_drewN K1 _⟩
      · have d1 : decide (x < 1) = false := decide_eq_false c1
        by_cases c2 : q ≤ x
        · have HB := Lib.hid (show V = false by rw [HV.out]; exact vld_bad hlt (tok_no (by rw [← HX.out]; omega)))
          have d2 : decide (q ≤ x) = true := decide_eq_true c2
          clear c1 c2
          go_wp2_with fail
          go_quiet (fail)
          go_wp2_with fail
          go_ret
          exact ⟨ret_bool HB.out.symm, below_drewN K1 _⟩
        · have d2 : decide (q ≤ x) = false := decide_eq_false c2
          by_cases c3 : (el.length : Int) = n
          · have d3 : ((el.length : Int) != n) = false := by simpa using c3
            have HLN := Lib.hid c3
            clear c3
            have prev : k = 0 ∨ ∃ i, k = i + 1 := by rcases k with _ | i; · exact .inl rfl
                                                     · exact .inr ⟨i, rfl⟩
            obtain ⟨W1, hW1⟩ : ∃ W1, W1 = wr.alloc (.cells #[.int .i64 x, .slice E el.length ce] 78) := ⟨_, rfl⟩
            have HW1 := Lib.hid hW1
            go_upto_region 7 with fail
            rw [← HW1.out]
            have HE1 : Hid (Rd W1 E (ints el)) := Lib.hid (by rw [hW1]; exact HE.out.kept (kept_alloc (kept_refl wr) _))
            have HPR1 : Hid (RP W1 (some ⟨b, off, none⟩) p) := Lib.hid (by rw [hW1]; exact HPR.out.kept (kept_alloc (kept_refl wr) _))
            replace h0 : W1.cell? ⟨b, off + k * 2, none⟩ = some (.int .i64 x) := by rw [hW1]; exact cell_alloc h0 _
            replace h1 : W1.cell? ⟨b, off + k * 2 + 1, none⟩ = some (.slice E el.length ce) := by rw [hW1]; exact cell_alloc h1 _
            rw [← hW1] at K1 o9
            clear hW1
            have z0 := o9.cell (j := 0) rfl; have z1 := o9.cell (j := 1) rfl
            by_cases c4 : k = 0 ∨ cmpL (tmv p (k - 1)).e el < 0
            · have HC4 := Lib.hid c4
              go_cut [63] (fun s63 wx => s63 = .bool false ∧ Kept W1 wx)
              case first =>
                rcases prev with rfl | ⟨i, rfl⟩
                · clear c4
                  go_quiet (fail)
                  go_wp2_with fail
                  go_meet
                  exact ⟨rfl, below_drewN (kept_refl _) _⟩
                · obtain ⟨b', off', E', ce', hA', h0', h1', hE', hlE'⟩ := HPR1.out i (by omega)
                  injection hA' with hA'; injection hA' with e1 e2 _
                  subst e1; subst e2
                  rcases c4 with c4 | c4
                  · omega
                  · rw [Nat.add_sub_cancel] at c4
                    obtain ⟨ep, hep⟩ : ∃ ep, ep = (tmv p i).e := ⟨_, rfl⟩
                    obtain ⟨xp, hxp⟩ : ∃ xp, xp = (tmv p i).c := ⟨_, rfl⟩
                    rw [← hep] at h1' hE' hlE' c4
                    rw [← hxp] at h0'
                    have hlen : ep.length = el.length := by
                      have h5 := (tok_parts.1 (HT.out i (by omega))).2.2.1
                      rw [← hep] at h5
                      have := HLN.out
                      omega
                    have C60 := Lib.hid fun (w' : World) (kk : Kept W1 w') => exponents60_any xp x ep el E' E ce' ce w' (hE'.kept kk) (HE1.out.kept kk) hlen hlE'
                    obtain ⟨cv, hcv⟩ : ∃ cv, cv = cmpL ep el := ⟨_, rfl⟩
                    rw [← hcv] at C60 c4
                    unfold tV at C60
                    have d4 : decide (0 ≤ cv) = false := decide_eq_false (by omega)
                    clear hep hxp hE' hlen hcv c4
                    have ilt : i < p.length := by omega
                    have ewi : IntKind.i64.wrap ((i : Nat) : Int) = i := IntWalk.i64_in _ (by omega)
                    refine region_x (fun w' => Kept W1 w') [] (by kernel_rfl) (kept_drew (kept_refl _)) (fun hHeld => ?_)
                    refine x_take (i := 0) (oi := { dst := some 34, op := Op.fieldAddr 78 (Operand.tmp 9) 0, type := 0, pos := "poly.go:28", after := #[], guard := none }) (v := ?_) rfl (by kernel_rfl) (by kernel_rfl) (by kernel_rfl) (by kernel_rfl) (by kernel_rfl) (fun _ _ _ h => h) (Or.inl ⟨rfl, ?_⟩) (by assumption) ?_
                    rotate_left
                    · (intro w' hSw; replace z0 := kept_cell hSw z0; replace z1 := kept_cell hSw z1; replace h0' := kept_cell hSw h0'; replace h1' := kept_cell hSw h1'; go_simp; try with_reducible rfl)
                    try simp only [Act.put, List.setIfInBounds_toArray, List.set_cons_zero, List.set_cons_succ]
                    refine x_take (i := 1) (oi := { dst := some 35, op := Op.load 3 (Operand.tmp 34), type := 3, pos := "poly.go:28", after := #[{ on := 0, ground := Ground.data }], guard := none }) (v := ?_) rfl (by kernel_rfl) (by kernel_rfl) (by kernel_rfl) (by kernel_rfl) (by kernel_rfl) (fun _ _ _ h => h) (Or.inl ⟨rfl, ?_⟩) (by assumption) ?_
                    rotate_left
                    · (intro w' hSw; replace z0 := kept_cell hSw z0; replace z1 := kept_cell hSw z1; replace h0' := kept_cell hSw h0'; replace h1' := kept_cell hSw h1'; go_simp; try with_reducible rfl)
                    try simp only [Act.put, List.setIfInBounds_toArray, List.set_cons_zero, List.set_cons_succ]
                    refine x_take (i := 2) (oi := { dst := some 36, op := Op.binOp BinOp.lss 3 (Operand.tmp 35) (Operand.const (Value.int IntKind.i64 1)) 3, type := 4, pos := "poly.go:28", after := #[{ on := 1, ground := Ground.data }], guard := none }) (v := ?_) rfl (by kernel_rfl) (by kernel_rfl) (by kernel_rfl) (by kernel_rfl) (by kernel_rfl) (fun _ _ _ h => h) (Or.inl ⟨rfl, ?_⟩) (by assumption) ?_
                    rotate_left
                    · (intro w' hSw; replace z0 := kept_cell hSw z0; replace z1 := kept_cell hSw z1; replace h0' := kept_cell hSw h0'; replace h1' := kept_cell hSw h1'; go_simp; try with_reducible rfl)
                    try simp only [Act.put, List.setIfInBounds_toArray, List.set_cons_zero, List.set_cons_succ]
                    refine x_take (i := 3) (oi := { dst := some 37, op := Op.move (Operand.tmp 36), type := 4, pos := "poly.go:28", after := #[{ on := 2, ground := Ground.data }], guard := none }) (v := ?_) rfl (by kernel_rfl) (by kernel_rfl) (by kernel_rfl) (by kernel_rfl) (by kernel_rfl) (fun _ _ _ h => h) (Or.inl ⟨rfl, ?_⟩) (by assumption) ?_
                    rotate_left
                    · (intro w' hSw; replace z0 := kept_cell hSw z0; replace z1 := kept_cell hSw z1; replace h0' := kept_cell hSw h0'; replace h1' := kept_cell hSw h1'; go_simp; try with_reducible rfl)
                    try simp only [Act.put, List.setIfInBounds_toArray, List.set_cons_zero, List.set_cons_succ]
                    refine x_take (i := 4) (oi := { dst := some 38, op := Op.fieldAddr 78 (Operand.tmp 9) 0, type := 0, pos := "poly.go:28", after := #[{ on := 3, ground := Ground.guard }], guard := some (3, false) }) (v := ?_) rfl (by kernel_rfl) (by kernel_rfl) (by kernel_rfl) (by kernel_rfl) (by kernel_rfl) (fun _ _ _ h => h) (Or.inl ⟨rfl, ?_⟩) (by assumption) ?_
                    rotate_left
                    · (intro w' hSw; replace z0 := kept_cell hSw z0; replace z1 := kept_cell hSw z1; replace h0' := kept_cell hSw h0'; replace h1' := kept_cell hSw h1'; go_simp; try with_reducible rfl)
                    try simp only [Act.put, List.setIfInBounds_toArray, List.set_cons_zero, List.set_cons_succ]
                    refine x_take (i := 5) (oi := { dst := some 39, op := Op.load 3 (Operand.tmp 38), type := 3, pos := "poly.go:28", after := #[{ on := 4, ground := Ground.data }, { on := 3, ground := Ground.guard }], guard := some (3, false) }) (v := ?_) rfl (by kernel_rfl) (by kernel_rfl) (by kernel_rfl) (by kernel_rfl) (by kernel_rfl) (fun _ _ _ h => h) (Or.inl ⟨rfl, ?_⟩) (by assumption) ?_
                    rotate_left
                    · (intro w' hSw; replace z0 := kept_cell hSw z0; replace z1 := kept_cell hSw z1; replace h0' := kept_cell hSw h0'; replace h1' := kept_cell hSw h1'; go_simp; try with_reducible rfl)
                    try simp only [Act.put, List.setIfInBounds_toArray, List.set_cons_zero, List.set_cons_succ]
                    refine x_take (i := 6) (oi := { dst := some 40, op := Op.move (Operand.tmp 7), type := 3, pos := "poly.go:28", after := #[{ on := 3, ground := Ground.guard }], guard := some (3, false) }) (v := ?_) rfl (by kernel_rfl) (by kernel_rfl) (by kernel_rfl) (by kernel_rfl) (by kernel_rfl) (fun _ _ _ h => h) (Or.inl ⟨rfl, ?_⟩) (by assumption) ?_
                    rotate_left
                    · (intro w' hSw; replace z0 := kept_cell hSw z0; replace z1 := kept_cell hSw z1; replace h0' := kept_cell hSw h0'; replace h1' := kept_cell hSw h1'; go_simp; try with_reducible rfl)
                    try simp only [Act.put, List.setIfInBounds_toArray, List.set_cons_zero, List.set_cons_succ]
                    refine x_take (i := 7) (oi := { dst := some 41, op := Op.binOp BinOp.geq 3 (Operand.tmp 39) (Operand.tmp 40) 3, type := 4, pos := "poly.go:28", after := #[{ on := 5, ground := Ground.data }, { on := 6, ground := Ground.data }, { on := 3, ground := Ground.guard }], guard := some (3, false) }) (v := ?_) rfl (by kernel_rfl) (by kernel_rfl) (by kernel_rfl) (by kernel_rfl) (by kernel_rfl) (fun _ _ _ h => h) (Or.inl ⟨rfl, ?_⟩) (by assumption) ?_
                    rotate_left
                    · (intro w' hSw; replace z0 := kept_cell hSw z0; replace z1 := kept_cell hSw z1; replace h0' := kept_cell hSw h0'; replace h1' := kept_cell hSw h1'; go_simp; try with_reducible rfl)
                    try simp only [Act.put, List.setIfInBounds_toArray, List.set_cons_zero, List.set_cons_succ]
                    refine x_take (i := 8) (oi := { dst := some 42, op := Op.pick (Operand.tmp 37) (Operand.const (Value.bool true)) (Operand.tmp 41), type := 4, pos := "poly.go:28", after := #[{ on := 3, ground := Ground.data }, { on := 7, ground := Ground.data }], guard := none }) (v := ?_) rfl (by kernel_rfl) (by kernel_rfl) (by kernel_rfl) (by kernel_rfl) (by kernel_rfl) (fun _ _ _ h => h) (Or.inl ⟨rfl, ?_⟩) (by assumption) ?_
                    rotate_left
                    · (intro w' hSw; replace z0 := kept_cell hSw z0; replace z1 := kept_cell hSw z1; replace h0' := kept_cell hSw h0'; replace h1' := kept_cell hSw h1'; go_simp; try with_reducible rfl)
                    try simp only [Act.put, List.setIfInBounds_toArray, List.set_cons_zero, List.set_cons_succ]
                    refine x_take (i := 9) (oi := { dst := some 43, op := Op.move (Operand.tmp 42), type := 4, pos := "poly.go:28", after := #[{ on := 8, ground := Ground.data }, { on := 3, ground := Ground.chain }], guard := none }) (v := ?_) rfl (by kernel_rfl) (by kernel_rfl) (by kernel_rfl) (by kernel_rfl) (by kernel_rfl) (fun _ _ _ h => h) (Or.inl ⟨rfl, ?_⟩) (by assumption) ?_
                    rotate_left
                    · (intro w' hSw; replace z0 := kept_cell hSw z0; replace z1 := kept_cell hSw z1; replace h0' := kept_cell hSw h0'; replace h1' := kept_cell hSw h1'; go_simp; try with_reducible rfl)
                    try simp only [Act.put, List.setIfInBounds_toArray, List.set_cons_zero, List.set_cons_succ]
                    refine x_take (i := 10) (oi := { dst := some 44, op := Op.fieldAddr 78 (Operand.tmp 9) 1, type := 0, pos := "poly.go:28", after := #[{ on := 9, ground := Ground.guard }], guard := some (9, false) }) (v := ?_) rfl (by kernel_rfl) (by kernel_rfl) (by kernel_rfl) (by kernel_rfl) (by kernel_rfl) (fun _ _ _ h => h) (Or.inl ⟨rfl, ?_⟩) (by assumption) ?_
                    rotate_left
                    · (intro w' hSw; replace z0 := kept_cell hSw z0; replace z1 := kept_cell hSw z1; replace h0' := kept_cell hSw h0'; replace h1' := kept_cell hSw h1'; go_simp; try with_reducible rfl)
                    try simp only [Act.put, List.setIfInBounds_toArray, List.set_cons_zero, List.set_cons_succ]
                    refine x_take (i := 11) (oi := { dst := some 45, op := Op.load 24 (Operand.tmp 44), type := 24, pos := "poly.go:28", after := #[{ on := 10, ground := Ground.data }, { on := 9, ground := Ground.guard }], guard := some (9, false) }) (v := ?_) rfl (by kernel_rfl) (by kernel_rfl) (by kernel_rfl) (by kernel_rfl) (by kernel_rfl) (fun _ _ _ h => h) (Or.inl ⟨rfl, ?_⟩) (by assumption) ?_
                    rotate_left
                    · (intro w' hSw; replace z0 := kept_cell hSw z0; replace z1 := kept_cell hSw z1; replace h0' := kept_cell hSw h0'; replace h1' := kept_cell hSw h1'; go_simp; try with_reducible rfl)
                    try simp only [Act.put, List.setIfInBounds_toArray, List.set_cons_zero, List.set_cons_succ]
                    refine x_take (i := 12) (oi := { dst := some 46, op := Op.call { callee := Callee.builtin Builtin.len, args := #[Operand.tmp 45], argTypes := #[24] }, type := 3, pos := "poly.go:28", after := #[{ on := 11, ground := Ground.data }, { on := 9, ground := Ground.guard }], guard := some (9, false) }) (v := ?_) rfl (by kernel_rfl) (by kernel_rfl) (by kernel_rfl) (by kernel_rfl) (by kernel_rfl) (fun _ _ _ h => h) (Or.inl ⟨rfl, ?_⟩) (by assumption) ?_
                    rotate_left
                    · (intro w' hSw; replace z0 := kept_cell hSw z0; replace z1 := kept_cell hSw z1; replace h0' := kept_cell hSw h0'; replace h1' := kept_cell hSw h1'; go_simp; try with_reducible rfl)
                    try simp only [Act.put, List.setIfInBounds_toArray, List.set_cons_zero, List.set_cons_succ]
                    refine x_take (i := 13) (oi := { dst := some 47, op := Op.move (Operand.tmp 1), type := 3, pos := "poly.go:28", after := #[{ on := 9, ground := Ground.guard }], guard := some (9, false) }) (v := ?_) rfl (by kernel_rfl) (by kernel_rfl) (by kernel_rfl) (by kernel_rfl) (by kernel_rfl) (fun _ _ _ h => h) (Or.inl ⟨rfl, ?_⟩) (by assumption) ?_
                    rotate_left
                    · (intro w' hSw; replace z0 := kept_cell hSw z0; replace z1 := kept_cell hSw z1; replace h0' := kept_cell hSw h0'; replace h1' := kept_cell hSw h1'; go_simp; try with_reducible rfl)
                    try simp only [Act.put, List.setIfInBounds_toArray, List.set_cons_zero, List.set_cons_succ]
                    refine x_take (i := 14) (oi := { dst := some 48, op := Op.binOp BinOp.neq 3 (Operand.tmp 46) (Operand.tmp 47) 3, type := 4, pos := "poly.go:28", after := #[{ on := 12, ground := Ground.data }, { on := 13, ground := Ground.data }, { on := 9, ground := Ground.guard }], guard := some (9, false) }) (v := ?_) rfl (by kernel_rfl) (by kernel_rfl) (by kernel_rfl) (by kernel_rfl) (by kernel_rfl) (fun _ _ _ h => h) (Or.inl ⟨rfl, ?_⟩) (by assumption) ?_
                    rotate_left
                    · (intro w' hSw; replace z0 := kept_cell hSw z0; replace z1 := kept_cell hSw z1; replace h0' := kept_cell hSw h0'; replace h1' := kept_cell hSw h1'; go_simp; try with_reducible rfl)
                    try simp only [Act.put, List.setIfInBounds_toArray, List.set_cons_zero, List.set_cons_succ]
                    refine x_take (i := 15) (oi := { dst := some 49, op := Op.pick (Operand.tmp 43) (Operand.const (Value.bool true)) (Operand.tmp 48), type := 4, pos := "poly.go:28", after := #[{ on := 9, ground := Ground.data }, { on := 14, ground := Ground.data }], guard := none }) (v := ?_) rfl (by kernel_rfl) (by kernel_rfl) (by kernel_rfl) (by kernel_rfl) (by kernel_rfl) (fun _ _ _ h => h) (Or.inl ⟨rfl, ?_⟩) (by assumption) ?_
                    rotate_left
                    · (intro w' hSw; replace z0 := kept_cell hSw z0; replace z1 := kept_cell hSw z1; replace h0' := kept_cell hSw h0'; replace h1' := kept_cell hSw h1'; go_simp; try with_reducible rfl)
                    try simp only [Act.put, List.setIfInBounds_toArray, List.set_cons_zero, List.set_cons_succ]
                    refine x_take (i := 16) (oi := { dst := some 50, op := Op.move (Operand.tmp 49), type := 4, pos := "poly.go:28", after := #[{ on := 15, ground := Ground.data }, { on := 9, ground := Ground.chain }], guard := none }) (v := ?_) rfl (by kernel_rfl) (by kernel_rfl) (by kernel_rfl) (by kernel_rfl) (by kernel_rfl) (fun _ _ _ h => h) (Or.inl ⟨rfl, ?_⟩) (by assumption) ?_
                    rotate_left
                    · (intro w' hSw; replace z0 := kept_cell hSw z0; replace z1 := kept_cell hSw z1; replace h0' := kept_cell hSw h0'; replace h1' := kept_cell hSw h1'; go_simp; try with_reducible rfl)
                    try simp only [Act.put, List.setIfInBounds_toArray, List.set_cons_zero, List.set_cons_succ]
                    refine x_take (i := 17) (oi := { dst := some 51, op := Op.move (Operand.tmp 8), type := 3, pos := "poly.go:28", after := #[{ on := 16, ground := Ground.guard }], guard := some (16, false) }) (v := ?_) rfl (by kernel_rfl) (by kernel_rfl) (by kernel_rfl) (by kernel_rfl) (by kernel_rfl) (fun _ _ _ h => h) (Or.inl ⟨rfl, ?_⟩) (by assumption) ?_
                    rotate_left
                    · (intro w' hSw; replace z0 := kept_cell hSw z0; replace z1 := kept_cell hSw z1; replace h0' := kept_cell hSw h0'; replace h1' := kept_cell hSw h1'; go_simp; try with_reducible rfl)
                    try simp only [Act.put, List.setIfInBounds_toArray, List.set_cons_zero, List.set_cons_succ]
                    refine x_take (i := 18) (oi := { dst := some 52, op := Op.binOp BinOp.gtr 3 (Operand.tmp 51) (Operand.const (Value.int IntKind.i64 0)) 3, type := 4, pos := "poly.go:28", after := #[{ on := 17, ground := Ground.data }, { on := 16, ground := Ground.guard }], guard := some (16, false) }) (v := ?_) rfl (by kernel_rfl) (by kernel_rfl) (by kernel_rfl) (by kernel_rfl) (by kernel_rfl) (fun _ _ _ h => h) (Or.inl ⟨rfl, ?_⟩) (by assumption) ?_
                    rotate_left
                    · (intro w' hSw; replace z0 := kept_cell hSw z0; replace z1 := kept_cell hSw z1; replace h0' := kept_cell hSw h0'; replace h1' := kept_cell hSw h1'; go_simp; try with_reducible rfl)
                    try simp only [Act.put, List.setIfInBounds_toArray, List.set_cons_zero, List.set_cons_succ]
                    refine x_take (i := 19) (oi := { dst := some 53, op := Op.move (Operand.tmp 52), type := 4, pos := "poly.go:28", after := #[{ on := 18, ground := Ground.data }, { on := 16, ground := Ground.chain }, { on := 16, ground := Ground.guard }], guard := some (16, false) }) (v := ?_) rfl (by kernel_rfl) (by kernel_rfl) (by kernel_rfl) (by kernel_rfl) (by kernel_rfl) (fun _ _ _ h => h) (Or.inl ⟨rfl, ?_⟩) (by assumption) ?_
                    rotate_left
                    · (intro w' hSw; replace z0 := kept_cell hSw z0; replace z1 := kept_cell hSw z1; replace h0' := kept_cell hSw h0'; replace h1' := kept_cell hSw h1'; go_simp; try with_reducible rfl)
                    try simp only [Act.put, List.setIfInBounds_toArray, List.set_cons_zero, List.set_cons_succ]
                    refine x_take (i := 20) (oi := { dst := some 54, op := Op.move (Operand.tmp 2), type := 35, pos := "poly.go:28", after := #[{ on := 19, ground := Ground.guard }], guard := some (19, true) }) (v := ?_) rfl (by kernel_rfl) (by kernel_rfl) (by kernel_rfl) (by kernel_rfl) (by kernel_rfl) (fun _ _ _ h => h) (Or.inl ⟨rfl, ?_⟩) (by assumption) ?_
                    rotate_left
                    · (intro w' hSw; replace z0 := kept_cell hSw z0; replace z1 := kept_cell hSw z1; replace h0' := kept_cell hSw h0'; replace h1' := kept_cell hSw h1'; go_simp; try with_reducible rfl)
                    try simp only [Act.put, List.setIfInBounds_toArray, List.set_cons_zero, List.set_cons_succ]
                    refine x_take (i := 21) (oi := { dst := some 55, op := Op.move (Operand.tmp 8), type := 3, pos := "poly.go:28", after := #[{ on := 19, ground := Ground.guard }], guard := some (19, true) }) (v := ?_) rfl (by kernel_rfl) (by kernel_rfl) (by kernel_rfl) (by kernel_rfl) (by kernel_rfl) (fun _ _ _ h => h) (Or.inl ⟨rfl, ?_⟩) (by assumption) ?_
                    rotate_left
                    · (intro w' hSw; replace z0 := kept_cell hSw z0; replace z1 := kept_cell hSw z1; replace h0' := kept_cell hSw h0'; replace h1' := kept_cell hSw h1'; go_simp; try with_reducible rfl)
                    try simp only [Act.put, List.setIfInBounds_toArray, List.set_cons_zero, List.set_cons_succ]
                    refine x_take (i := 22) (oi := { dst := some 56, op := Op.binOp BinOp.sub 3 (Operand.tmp 55) (Operand.const (Value.int IntKind.i64 1)) 3, type := 3, pos := "poly.go:28", after := #[{ on := 21, ground := Ground.data }, { on := 19, ground := Ground.guard }], guard := some (19, true) }) (v := ?_) rfl (by kernel_rfl) (by kernel_rfl) (by kernel_rfl) (by kernel_rfl) (by kernel_rfl) (fun _ _ _ h => h) (Or.inl ⟨rfl, ?_⟩) (by assumption) ?_
                    rotate_left
                    · (intro w' hSw; replace z0 := kept_cell hSw z0; replace z1 := kept_cell hSw z1; replace h0' := kept_cell hSw h0'; replace h1' := kept_cell hSw h1'; go_simp; try with_reducible rfl)
                    try simp only [Act.put, List.setIfInBounds_toArray, List.set_cons_zero, List.set_cons_succ]
                    refine x_take (i := 23) (oi := { dst := some 57, op := Op.indexAddr 35 (Operand.tmp 54) (Operand.tmp 56), type := 0, pos := "poly.go:28", after := #[{ on := 20, ground := Ground.data }, { on := 22, ground := Ground.data }, { on := 19, ground := Ground.guard }], guard := some (19, true) }) (v := ?_) rfl (by kernel_rfl) (by kernel_rfl) (by kernel_rfl) (by kernel_rfl) (by kernel_rfl) (fun _ _ _ h => h) (Or.inl ⟨rfl, ?_⟩) (by assumption) ?_
                    rotate_left
                    · (intro w' hSw; replace z0 := kept_cell hSw z0; replace z1 := kept_cell hSw z1; replace h0' := kept_cell hSw h0'; replace h1' := kept_cell hSw h1'; go_simp; try with_reducible rfl)
                    try simp only [Act.put, List.setIfInBounds_toArray, List.set_cons_zero, List.set_cons_succ]
                    refine x_take (i := 24) (oi := { dst := some 58, op := Op.load 78 (Operand.tmp 57), type := 78, pos := "poly.go:28", after := #[{ on := 23, ground := Ground.data }, { on := 19, ground := Ground.guard }], guard := some (19, true) }) (v := ?_) rfl (by kernel_rfl) (by kernel_rfl) (by kernel_rfl) (by kernel_rfl) (by kernel_rfl) (fun _ _ _ h => h) (Or.inl ⟨rfl, ?_⟩) (by assumption) ?_
                    rotate_left
                    · (intro w' hSw; replace z0 := kept_cell hSw z0; replace z1 := kept_cell hSw z1; replace h0' := kept_cell hSw h0'; replace h1' := kept_cell hSw h1'; go_simp; try with_reducible rfl)
                    try simp only [Act.put, List.setIfInBounds_toArray, List.set_cons_zero, List.set_cons_succ]
                    refine x_take (i := 25) (oi := { dst := some 59, op := Op.load 78 (Operand.tmp 9), type := 78, pos := "poly.go:28", after := #[{ on := 19, ground := Ground.guard }], guard := some (19, true) }) (v := ?_) rfl (by kernel_rfl) (by kernel_rfl) (by kernel_rfl) (by kernel_rfl) (by kernel_rfl) (fun _ _ _ h => h) (Or.inl ⟨rfl, ?_⟩) (by assumption) ?_
                    rotate_left
                    · (intro w' hSw; replace z0 := kept_cell hSw z0; replace z1 := kept_cell hSw z1; replace h0' := kept_cell hSw h0'; replace h1' := kept_cell hSw h1'; go_simp; try with_reducible rfl)
                    try simp only [Act.put, List.setIfInBounds_toArray, List.set_cons_zero, List.set_cons_succ]
                    refine x_one (i := 26) (o := { dst := some 60, op := Op.call { callee := Callee.value (Operand.func 73), args := #[Operand.tmp 58, Operand.tmp 59], argTypes := #[78, 78] }, type := 3, pos := "poly.go:28", after := #[{ on := 24, ground := Ground.data }, { on := 25, ground := Ground.data }, { on := 19, ground := Ground.chain }, { on := 19, ground := Ground.guard }], guard := some (19, true) }) (by kernel_rfl) rfl (fun K hK => ?_)
                    (go_simp; go_at_call 73; (with_reducible refine (C60.out _ hHeld).mono ?_); rintro e w3 ⟨rfl, rfl⟩; have KK3 := kept_alloc (kept_alloc hHeld (.cells #[.int .i64 xp, .slice E' ep.length ce'] 78)) (.cells #[.int .i64 x, .slice E el.length ce] 78); try dsimp only)
                    refine hK.out _ _ ?_ (fun hHeld => ?_)
                    · (try dsimp only); repeat (first | assumption | exact kept_refl _ | refine kept_drew ?_ | refine kept_alloc ?_ _ | refine kept_set ?_ (by omega) _)
                    clear hK K
                    try simp only [Act.put, List.setIfInBounds_toArray, List.set_cons_zero, List.set_cons_succ]
                    refine x_take (i := 27) (oi := { dst := some 61, op := Op.binOp BinOp.geq 3 (Operand.tmp 60) (Operand.const (Value.int IntKind.i64 0)) 3, type := 4, pos := "poly.go:28", after := #[{ on := 26, ground := Ground.data }, { on := 19, ground := Ground.guard }], guard := some (19, true) }) (v := ?_) rfl (by kernel_rfl) (by kernel_rfl) (by kernel_rfl) (by kernel_rfl) (by kernel_rfl) (fun _ _ _ h => h) (Or.inl ⟨rfl, ?_⟩) (by assumption) ?_
                    rotate_left
                    · (intro w' hSw; replace z0 := kept_cell hSw z0; replace z1 := kept_cell hSw z1; replace h0' := kept_cell hSw h0'; replace h1' := kept_cell hSw h1'; go_simp; try with_reducible rfl)
                    try simp only [Act.put, List.setIfInBounds_toArray, List.set_cons_zero, List.set_cons_succ]
                    refine x_take (i := 28) (oi := { dst := some 62, op := Op.pick (Operand.tmp 53) (Operand.tmp 61) (Operand.const (Value.bool false)), type := 4, pos := "poly.go:28", after := #[{ on := 19, ground := Ground.data }, { on := 27, ground := Ground.data }, { on := 16, ground := Ground.guard }], guard := some (16, false) }) (v := ?_) rfl (by kernel_rfl) (by kernel_rfl) (by kernel_rfl) (by kernel_rfl) (by kernel_rfl) (fun _ _ _ h => h) (Or.inl ⟨rfl, ?_⟩) (by assumption) ?_
                    rotate_left
                    · (intro w' hSw; replace z0 := kept_cell hSw z0; replace z1 := kept_cell hSw z1; replace h0' := kept_cell hSw h0'; replace h1' := kept_cell hSw h1'; go_simp; try with_reducible rfl)
                    try simp only [Act.put, List.setIfInBounds_toArray, List.set_cons_zero, List.set_cons_succ]
                    refine x_take (i := 29) (oi := { dst := some 63, op := Op.pick (Operand.tmp 50) (Operand.const (Value.bool true)) (Operand.tmp 62), type := 4, pos := "poly.go:28", after := #[{ on := 16, ground := Ground.data }, { on := 28, ground := Ground.data }], guard := none }) (v := ?_) rfl (by kernel_rfl) (by kernel_rfl) (by kernel_rfl) (by kernel_rfl) (by kernel_rfl) (fun _ _ _ h => h) (Or.inl ⟨rfl, ?_⟩) (by assumption) ?_
                    rotate_left
                    · (intro w' hSw; replace z0 := kept_cell hSw z0; replace z1 := kept_cell hSw z1; replace h0' := kept_cell hSw h0'; replace h1' := kept_cell hSw h1'; go_simp; try with_reducible rfl)
                    try simp only [Act.put, List.setIfInBounds_toArray, List.set_cons_zero, List.set_cons_succ]
                    refine x_done (by kernel_rfl) ?_ _
                    clear ewi
                    go_wp2_with fail
                    go_meet
                    exact ⟨rfl, by assumption⟩
              case rest =>
                obtain ⟨rfl, KX⟩ := hcut
                obtain ⟨wx, rfl⟩ : ∃ wx : World, wx = wc := ⟨_, rfl⟩
                have C61 := Lib.hid (contains61_any el E ce wx (HE1.out.kept KX) hlE)
                obtain ⟨v, hv⟩ : ∃ v, v = el.all eOk := ⟨_, rfl⟩
                rw [← hv] at C61
                have y1 := kept_cell KX z1
                have K2 := kept_trans K1 KX
                clear c4 prev h0 h1 z0 z1
                cases v with
                | true =>
                  have HVV := Lib.hid hv
                  clear hv
                  go_wp2_with (go_at_call 48; ((with_reducible refine C61.out.mono ?_); rintro e w1 ⟨rfl, k1⟩))
                  go_roundg (p.length - (k + 1))
                  case rel => exact ⟨k + 1, _, _, by omega, rfl, rfl, rfl, by go_num, vto_next HT.out (tok_parts.2 (by rw [← HX.out, ← HEL.out]; exact ⟨by omega, by omega, HLN.out, HC4.out, HVV.out.symm⟩)), kept_trans K2 k1.kept⟩
                  case measure => omega
                | false =>
                  have HB := Lib.hid (show V = false by rw [HV.out]; exact vld_bad hlt (tok_no (by rw [← HEL.out, ← hv]; simp)))
                  clear hv
                  go_wp2_with (go_at_call 48; ((with_reducible refine C61.out.mono ?_); rintro e w1 ⟨rfl, k1⟩))
                  go_ret
                  exact ⟨ret_bool HB.out.symm, kept_trans K2 k1.kept⟩
            · obtain ⟨i, rfl⟩ : ∃ i, k = i + 1 := by
                rcases prev with h | h
                · exact absurd (.inl h) c4
                · exact h
              have HB := Lib.hid (show V = false by rw [HV.out]; exact vld_bad hlt (tok_no (by rw [← HEL.out]; exact fun h => c4 h.2.2.2.1)))
              obtain ⟨b', off', E', ce', hA', h0', h1', hE', hlE'⟩ := HPR1.out i (by omega)
              injection hA' with hA'; injection hA' with e1 e2 _
              subst e1; subst e2
              rw [Nat.add_sub_cancel] at c4
              obtain ⟨ep, hep⟩ : ∃ ep, ep = (tmv p i).e := ⟨_, rfl⟩
              obtain ⟨xp, hxp⟩ : ∃ xp, xp = (tmv p i).c := ⟨_, rfl⟩
              rw [← hep] at h1' hE' hlE' c4
              rw [← hxp] at h0'
              have hlen : ep.length = el.length := by
                have h5 := (tok_parts.1 (HT.out i (by omega))).2.2.1
                rw [← hep] at h5
                have := HLN.out
                omega
              have C60 := Lib.hid fun (w' : World) (kk : Kept W1 w') => exponents60_any xp x ep el E' E ce' ce w' (hE'.kept kk) (HE1.out.kept kk) hlen hlE'
              obtain ⟨cv, hcv⟩ : ∃ cv, cv = cmpL ep el := ⟨_, rfl⟩
              rw [← hcv] at C60 c4
              unfold tV at C60
              have d4 : decide (0 ≤ cv) = true := decide_eq_true (by have : ¬ cv < 0 := fun h => c4 (.inr h); omega)
              clear hep hxp hE' hlen hcv c4 prev
              have ilt : i < p.length := by omega
              have ewi : IntKind.i64.wrap ((i : Nat) : Int) = i := IntWalk.i64_in _ (by omega)
              refine region_x (fun w' => Kept W1 w') [] (by kernel_rfl) (kept_drew (kept_refl _)) (fun hHeld => ?_)
              refine x_take (i := 0) (oi := { dst := some 34, op := Op.fieldAddr 78 (Operand.tmp 9) 0, type := 0, pos := "poly.go:28", after := #[], guard := none }) (v := ?_) rfl (by kernel_rfl) (by kernel_rfl) (by kernel_rfl) (by kernel_rfl) (by kernel_rfl) (fun _ _ _ h => h) (Or.inl ⟨rfl, ?_⟩) (by assumption) ?_
              rotate_left
              · (intro w' hSw; replace z0 := kept_cell hSw z0; replace z1 := kept_cell hSw z1; replace h0' := kept_cell hSw h0'; replace h1' := kept_cell hSw h1'; go_simp; try with_reducible rfl)
              try simp only [Act.put, List.setIfInBounds_toArray, List.set_cons_zero, List.set_cons_succ]
              refine x_take (i := 1) (oi := { dst := some 35, op := Op.load 3 (Operand.tmp 34), type := 3, pos := "poly.go:28", after := #[{ on := 0, ground := Ground.data }], guard := none }) (v := ?_) rfl (by kernel_rfl) (by kernel_rfl) (by kernel_rfl) (by kernel_rfl) (by kernel_rfl) (fun _ _ _ h => h) (Or.inl ⟨rfl, ?_⟩) (by assumption) ?_
              rotate_left
              · (intro w' hSw; replace z0 := kept_cell hSw z0; replace z1 := kept_cell hSw z1; replace h0' := kept_cell hSw h0'; replace h1' := kept_cell hSw h1'; go_simp; try with_reducible rfl)
              try simp only [Act.put, List.setIfInBounds_toArray, List.set_cons_zero, List.set_cons_succ]
              refine x_take (i := 2) (oi := { dst := some 36, op := Op.binOp BinOp.lss 3 (Operand.tmp 35) (Operand.const (Value.int IntKind.i64 1)) 3, type := 4, pos := "poly.go:28", after := #[{ on := 1, ground := Ground.data }], guard := none }) (v := ?_) rfl (by kernel_rfl) (by kernel_rfl) (by kernel_rfl) (by kernel_rfl) (by kernel_rfl) (fun _ _ _ h => h) (Or.inl ⟨rfl, ?_⟩) (by assumption) ?_
              rotate_left
              · (intro w' hSw; replace z0 := kept_cell hSw z0; replace z1 := kept_cell hSw z1; replace h0' := kept_cell hSw h0'; replace h1' := kept_cell hSw h1'; go_simp; try with_reducible rfl)
              try simp only [Act.put, List.setIfInBounds_toArray, List.set_cons_zero, List.set_cons_succ]
              refine x_take (i := 3) (oi := { dst := some 37, op := Op.move (Operand.tmp 36), type := 4, pos := "poly.go:28", after := #[{ on := 2, ground := Ground.data }], guard := none }) (v := ?_) rfl (by kernel_rfl) (by kernel_rfl) (by kernel_rfl) (by kernel_rfl) (by kernel_rfl) (fun _ _ _ h => h) (Or.inl ⟨rfl, ?_⟩) (by assumption) ?_
              rotate_left
              · (intro w' hSw; replace z0 := kept_cell hSw z0; replace z1 := kept_cell hSw z1; replace h0' := kept_cell hSw h0'; replace h1' := kept_cell hSw h1'; go_simp; try with_reducible rfl)
              try simp only [Act.put, List.setIfInBounds_toArray, List.set_cons_zero, List.set_cons_succ]
              refine x_take (i := 4) (oi := { dst := some 38, op := Op.fieldAddr 78 (Operand.tmp 9) 0, type := 0, pos := "poly.go:28", after := #[{ on := 3, ground := Ground.guard }], guard := some (3, false) }) (v := ?_) rfl (by kernel_rfl) (by kernel_rfl) (by kernel_rfl) (by kernel_rfl) (by kernel_rfl) (fun _ _ _ h => h) (Or.inl ⟨rfl, ?_⟩) (by assumption) ?_
              rotate_left
              · (intro w' hSw; replace z0 := kept_cell hSw z0; replace z1 := kept_cell hSw z1; replace h0' := kept_cell hSw h0'; replace h1' := kept_cell hSw h1'; go_simp; try with_reducible rfl)
              try simp only [Act.put, List.setIfInBounds_toArray, List.set_cons_zero, List.set_cons_succ]
              refine x_take (i := 5) (oi := { dst := some 39, op := Op.load 3 (Operand.tmp 38), type := 3, pos := "poly.go:28", after := #[{ on := 4, ground := Ground.data }, { on := 3, ground := Ground.guard }], guard := some (3, false) }) (v := ?_) rfl (by kernel_rfl) (by kernel_rfl) (by kernel_rfl) (by kernel_rfl) (by kernel_rfl) (fun _ _ _ h => h) (Or.inl ⟨rfl, ?_⟩) (by assumption) ?_
              rotate_left
              · (intro w' hSw; replace z0 := kept_cell hSw z0; replace z1 := kept_cell hSw z1; replace h0' := kept_cell hSw h0'; replace h1' := kept_cell hSw h1'; go_simp; try with_reducible rfl)
              try simp only [Act.put, List.setIfInBounds_toArray, List.set_cons_zero, List.set_cons_succ]
              refine x_take (i := 6) (oi := { dst := some 40, op := Op.move (Operand.tmp 7), type := 3, pos := "poly.go:28", after := #[{ on := 3, ground := Ground.guard }], guard := some (3, false) }) (v := ?_) rfl (by kernel_rfl) (by kernel_rfl) (by kernel_rfl) (by kernel_rfl) (by kernel_rfl) (fun _ _ _ h => h) (Or.inl ⟨rfl, ?_⟩) (by assumption) ?_
              rotate_left
              · (intro w' hSw; replace z0 := kept_cell hSw z0; replace z1 := kept_cell hSw z1; replace h0' := kept_cell hSw h0'; replace h1' := kept_cell hSw h1'; go_simp; try with_reducible rfl)
              try simp only [Act.put, List.setIfInBounds_toArray, List.set_cons_zero, List.set_cons_succ]
              refine x_take (i := 7) (oi := { dst := some 41, op := Op.binOp BinOp.geq 3 (Operand.tmp 39) (Operand.tmp 40) 3, type := 4, pos := "poly.go:28", after := #[{ on := 5, ground := Ground.data }, { on := 6, ground := Ground.data }, { on := 3, ground := Ground.guard }], guard := some (3, false) }) (v := ?_) rfl (by kernel_rfl) (by kernel_rfl) (by kernel_rfl) (by kernel_rfl) (by kernel_rfl) (fun _ _ _ h => h) (Or.inl ⟨rfl, ?_⟩) (by assumption) ?_
              rotate_left
              · (intro w' hSw; replace z0 := kept_cell hSw z0; replace z1 := kept_cell hSw z1; replace h0' := kept_cell hSw h0'; replace h1' := kept_cell hSw h1'; go_simp; try with_reducible rfl)
              try simp only [Act.put, List.setIfInBounds_toArray, List.set_cons_zero, List.set_cons_succ]
              refine x_take (i := 8) (oi := { dst := some 42, op := Op.pick (Operand.tmp 37) (Operand.const (Value.bool true)) (Operand.tmp 41), type := 4, pos := "poly.go:28", after := #[{ on := 3, ground := Ground.data }, { on := 7, ground := Ground.data }], guard := none }) (v := ?_) rfl (by kernel_rfl) (by kernel_rfl) (by kernel_rfl) (by kernel_rfl) (by kernel_rfl) (fun _ _ _ h => h) (Or.inl ⟨rfl, ?_⟩) (by assumption) ?_
              rotate_left
              · (intro w' hSw; replace z0 := kept_cell hSw z0; replace z1 := kept_cell hSw z1; replace h0' := kept_cell hSw h0'; replace h1' := kept_cell hSw h1'; go_simp; try with_reducible rfl)
              try simp only [Act.put, List.setIfInBounds_toArray, List.set_cons_zero, List.set_cons_succ]
              refine x_take (i := 9) (oi := { dst := some 43, op := Op.move (Operand.tmp 42), type := 4, pos := "poly.go:28", after := #[{ on := 8, ground := Ground.data }, { on := 3, ground := Ground.chain }], guard := none }) (v := ?_) rfl (by kernel_rfl) (by kernel_rfl) (by kernel_rfl) (by kernel_rfl) (by kernel_rfl) (fun _ _ _ h => h) (Or.inl ⟨rfl, ?_⟩) (by assumption) ?_
              rotate_left
              · (intro w' hSw; replace z0 := kept_cell hSw z0; replace z1 := kept_cell hSw z1; replace h0' := kept_cell hSw h0'; replace h1' := kept_cell hSw h1'; go_simp; try with_reducible rfl)
              try simp only [Act.put, List.setIfInBounds_toArray, List.set_cons_zero, List.set_cons_succ]
              refine x_take (i := 10) (oi := { dst := some 44, op := Op.fieldAddr 78 (Operand.tmp 9) 1, type := 0, pos := "poly.go:28", after := #[{ on := 9, ground := Ground.guard }], guard := some (9, false) }) (v := ?_) rfl (by kernel_rfl) (by kernel_rfl) (by kernel_rfl) (by kernel_rfl) (by kernel_rfl) (fun _ _ _ h => h) (Or.inl ⟨rfl, ?_⟩) (by assumption) ?_
              rotate_left
              · (intro w' hSw; replace z0 := kept_cell hSw z0; replace z1 := kept_cell hSw z1; replace h0' := kept_cell hSw h0'; replace h1' := kept_cell hSw h1'; go_simp; try with_reducible rfl)
              try simp only [Act.put, List.setIfInBounds_toArray, List.set_cons_zero, List.set_cons_succ]
              refine x_take (i := 11) (oi := { dst := some 45, op := Op.load 24 (Operand.tmp 44), type := 24, pos := "poly.go:28", after := #[{ on := 10, ground := Ground.data }, { on := 9, ground := Ground.guard }], guard := some (9, false) }) (v := ?_) rfl (by kernel_rfl) (by kernel_rfl) (by kernel_rfl) (by kernel_rfl) (by kernel_rfl) (fun _ _ _ h => h) (Or.inl ⟨rfl, ?_⟩) (by assumption) ?_
              rotate_left
              · (intro w' hSw; replace z0 := kept_cell hSw z0; replace z1 := kept_cell hSw z1; replace h0' := kept_cell hSw h0'; replace h1' := kept_cell hSw h1'; go_simp; try with_reducible rfl)
              try simp only [Act.put, List.setIfInBounds_toArray, List.set_cons_zero, List.set_cons_succ]
              refine x_take (i := 12) (oi := { dst := some 46, op := Op.call { callee := Callee.builtin Builtin.len, args := #[Operand.tmp 45], argTypes := #[24] }, type := 3, pos := "poly.go:28", after := #[{ on := 11, ground := Ground.data }, { on := 9, ground := Ground.guard }], guard := some (9, false) }) (v := ?_) rfl (by kernel_rfl) (by kernel_rfl) (by kernel_rfl) (by kernel_rfl) (by kernel_rfl) (fun _ _ _ h => h) (Or.inl ⟨rfl, ?_⟩) (by assumption) ?_
              rotate_left
              · (intro w' hSw; replace z0 := kept_cell hSw z0; replace z1 := kept_cell hSw z1; replace h0' := kept_cell hSw h0'; replace h1' := kept_cell hSw h1'; go_simp; try with_reducible rfl)
              try simp only [Act.put, List.setIfInBounds_toArray, List.set_cons_zero, List.set_cons_succ]
              refine x_take (i := 13) (oi := { dst := some 47, op := Op.move (Operand.tmp 1), type := 3, pos := "poly.go:28", after := #[{ on := 9, ground := Ground.guard }], guard := some (9, false) }) (v := ?_) rfl (by kernel_rfl) (by kernel_rfl) (by kernel_rfl) (by kernel_rfl) (by kernel_rfl) (fun _ _ _ h => h) (Or.inl ⟨rfl, ?_⟩) (by assumption) ?_
              rotate_left
              · (intro w' hSw; replace z0 := kept_cell hSw z0; replace z1 := kept_cell hSw z1; replace h0' := kept_cell hSw h0'; replace h1' := kept_cell hSw h1'; go_simp; try with_reducible rfl)
              try simp only [Act.put, List.setIfInBounds_toArray, List.set_cons_zero, List.set_cons_succ]
              refine x_take (i := 14) (oi := { dst := some 48, op := Op.binOp BinOp.neq 3 (Operand.tmp 46) (Operand.tmp 47) 3, type := 4, pos := "poly.go:28", after := #[{ on := 12, ground := Ground.data }, { on := 13, ground := Ground.data }, { on := 9, ground := Ground.guard }], guard := some (9, false) }) (v := ?_) rfl (by kernel_rfl) (by kernel_rfl) (by kernel_rfl) (by kernel_rfl) (by kernel_rfl) (fun _ _ _ h => h) (Or.inl ⟨rfl, ?_⟩) (by assumption) ?_
              rotate_left
              · (intro w' hSw; replace z0 := kept_cell hSw z0; replace z1 := kept_cell hSw z1; replace h0' := kept_cell hSw h0'; replace h1' := kept_cell hSw h1'; go_simp; try with_reducible rfl)
              try simp only [Act.put, List.setIfInBounds_toArray, List.set_cons_zero, List.set_cons_succ]
              refine x_take (i := 15) (oi := { dst := some 49, op := Op.pick (Operand.tmp 43) (Operand.const (Value.bool true)) (Operand.tmp 48), type := 4, pos := "poly.go:28", after := #[{ on := 9, ground := Ground.data }, { on := 14, ground := Ground.data }], guard := none }) (v := ?_) rfl (by kernel_rfl) (by kernel_rfl) (by kernel_rfl) (by kernel_rfl) (by kernel_rfl) (fun _ _ _ h => h) (Or.inl ⟨rfl, ?_⟩) (by assumption) ?_
              rotate_left
              · (intro w' hSw; replace z0 := kept_cell hSw z0; replace z1 := kept_cell hSw z1; replace h0' := kept_cell hSw h0'; replace h1' := kept_cell hSw h1'; go_simp; try with_reducible rfl)
              try simp only [Act.put, List.setIfInBounds_toArray, List.set_cons_zero, List.set_cons_succ]
              refine x_take (i := 16) (oi := { dst := some 50, op := Op.move (Operand.tmp 49), type := 4, pos := "poly.go:28", after := #[{ on := 15, ground := Ground.data }, { on := 9, ground := Ground.chain }], guard := none }) (v := ?_) rfl (by kernel_rfl) (by kernel_rfl) (by kernel_rfl) (by kernel_rfl) (by kernel_rfl) (fun _ _ _ h => h) (Or.inl ⟨rfl, ?_⟩) (by assumption) ?_
              rotate_left
              · (intro w' hSw; replace z0 := kept_cell hSw z0; replace z1 := kept_cell hSw z1; replace h0' := kept_cell hSw h0'; replace h1' := kept_cell hSw h1'; go_simp; try with_reducible rfl)
              try simp only [Act.put, List.setIfInBounds_toArray, List.set_cons_zero, List.set_cons_succ]
              refine x_take (i := 17) (oi := { dst := some 51, op := Op.move (Operand.tmp 8), type := 3, pos := "poly.go:28", after := #[{ on := 16, ground := Ground.guard }], guard := some (16, false) }) (v := ?_) rfl (by kernel_rfl) (by kernel_rfl) (by kernel_rfl) (by kernel_rfl) (by kernel_rfl) (fun _ _ _ h => h) (Or.inl ⟨rfl, ?_⟩) (by assumption) ?_
              rotate_left
              · (intro w' hSw; replace z0 := kept_cell hSw z0; replace z1 := kept_cell hSw z1; replace h0' := kept_cell hSw h0'; replace h1' := kept_cell hSw h1'; go_simp; try with_reducible rfl)
              try simp only [Act.put, List.setIfInBounds_toArray, List.set_cons_zero, List.set_cons_succ]
              refine x_take (i := 18) (oi := { dst := some 52, op := Op.binOp BinOp.gtr 3 (Operand.tmp 51) (Operand.const (Value.int IntKind.i64 0)) 3, type := 4, pos := "poly.go:28", after := #[{ on := 17, ground := Ground.data }, { on := 16, ground := Ground.guard }], guard := some (16, false) }) (v := ?_) rfl (by kernel_rfl) (by kernel_rfl) (by kernel_rfl) (by kernel_rfl) (by kernel_rfl) (fun _ _ _ h => h) (Or.inl ⟨rfl, ?_⟩) (by assumption) ?_
              rotate_left
              · (intro w' hSw; replace z0 := kept_cell hSw z0; replace z1 := kept_cell hSw z1; replace h0' := kept_cell hSw h0'; replace h1' := kept_cell hSw h1'; go_simp; try with_reducible rfl)
              try simp only [Act.put, List.setIfInBounds_toArray, List.set_cons_zero, List.set_cons_succ]
              refine x_take (i := 19) (oi := { dst := some 53, op := Op.move (Operand.tmp 52), type := 4, pos := "poly.go:28", after := #[{ on := 18, ground := Ground.data }, { on := 16, ground := Ground.chain }, { on := 16, ground := Ground.guard }], guard := some (16, false) }) (v := ?_) rfl (by kernel_rfl) (by kernel_rfl) (by kernel_rfl) (by kernel_rfl) (by kernel_rfl) (fun _ _ _ h => h) (Or.inl ⟨rfl, ?_⟩) (by assumption) ?_
              rotate_left
              · (intro w' hSw; replace z0 := kept_cell hSw z0; replace z1 := kept_cell hSw z1; replace h0' := kept_cell hSw h0'; replace h1' := kept_cell hSw h1'; go_simp; try with_reducible rfl)
              try simp only [Act.put, List.setIfInBounds_toArray, List.set_cons_zero, List.set_cons_succ]
              refine x_take (i := 20) (oi := { dst := some 54, op := Op.move (Operand.tmp 2), type := 35, pos := "poly.go:28", after := #[{ on := 19, ground := Ground.guard }], guard := some (19, true) }) (v := ?_) rfl (by kernel_rfl) (by kernel_rfl) (by kernel_rfl) (by kernel_rfl) (by kernel_rfl) (fun _ _ _ h => h) (Or.inl ⟨rfl, ?_⟩) (by assumption) ?_
              rotate_left
              · (intro w' hSw; replace z0 := kept_cell hSw z0; replace z1 := kept_cell hSw z1; replace h0' := kept_cell hSw h0'; replace h1' := kept_cell hSw h1'; go_simp; try with_reducible rfl)
              try simp only [Act.put, List.setIfInBounds_toArray, List.set_cons_zero, List.set_cons_succ]
              refine x_take (i := 21) (oi := { dst := some 55, op := Op.move (Operand.tmp 8), type := 3, pos := "poly.go:28", after := #[{ on := 19, ground := Ground.guard }], guard := some (19, true) }) (v := ?_) rfl (by kernel_rfl) (by kernel_rfl) (by kernel_rfl) (by kernel_rfl) (by kernel_rfl) (fun _ _ _ h => h) (Or.inl ⟨rfl, ?_⟩) (by assumption) ?_
              rotate_left
              · (intro w' hSw; replace z0 := kept_cell hSw z0; replace z1 := kept_cell hSw z1; replace h0' := kept_cell hSw h0'; replace h1' := kept_cell hSw h1'; go_simp; try with_reducible rfl)
              try simp only [Act.put, List.setIfInBounds_toArray, List.set_cons_zero, List.set_cons_succ]
              refine x_take (i := 22) (oi := { dst := some 56, op := Op.binOp BinOp.sub 3 (Operand.tmp 55) (Operand.const (Value.int IntKind.i64 1)) 3, type := 3, pos := "poly.go:28", after := #[{ on := 21, ground := Ground.data }, { on := 19, ground := Ground.guard }], guard := some (19, true) }) (v := ?_) rfl (by kernel_rfl) (by kernel_rfl) (by kernel_rfl) (by kernel_rfl) (by kernel_rfl) (fun _ _ _ h => h) (Or.inl ⟨rfl, ?_⟩) (by assumption) ?_
              rotate_left
              · (intro w' hSw; replace z0 := kept_cell hSw z0; replace z1 := kept_cell hSw z1; replace h0' := kept_cell hSw h0'; replace h1' := kept_cell hSw h1'; go_simp; try with_reducible rfl)
              try simp only [Act.put, List.setIfInBounds_toArray, List.set_cons_zero, List.set_cons_succ]
              refine x_take (i := 23) (oi := { dst := some 57, op := Op.indexAddr 35 (Operand.tmp 54) (Operand.tmp 56), type := 0, pos := "poly.go:28", after := #[{ on := 20, ground := Ground.data }, { on := 22, ground := Ground.data }, { on := 19, ground := Ground.guard }], guard := some (19, true) }) (v := ?_) rfl (by kernel_rfl) (by kernel_rfl) (by kernel_rfl) (by kernel_rfl) (by kernel_rfl) (fun _ _ _ h => h) (Or.inl ⟨rfl, ?_⟩) (by assumption) ?_
              rotate_left
              · (intro w' hSw; replace z0 := kept_cell hSw z0; replace z1 := kept_cell hSw z1; replace h0' := kept_cell hSw h0'; replace h1' := kept_cell hSw h1'; go_simp; try with_reducible rfl)
              try simp only [Act.put, List.setIfInBounds_toArray, List.set_cons_zero, List.set_cons_succ]
              refine x_take (i := 24) (oi := { dst := some 58, op := Op.load 78 (Operand.tmp 57), type := 78, pos := "poly.go:28", after := #[{ on := 23, ground := Ground.data }, { on := 19, ground := Ground.guard }], guard := some (19, true) }) (v := ?_) rfl (by kernel_rfl) (by kernel_rfl) (by kernel_rfl) (by kernel_rfl) (by kernel_rfl) (fun _ _ _ h => h) (Or.inl ⟨rfl, ?_⟩) (by assumption) ?_
              rotate_left
              · (intro w' hSw; replace z0 := kept_cell hSw z0; replace z1 := kept_cell hSw z1; replace h0' := kept_cell hSw h0'; replace h1' := kept_cell hSw h1'; go_simp; try with_reducible rfl)
              try simp only [Act.put, List.setIfInBounds_toArray, List.set_cons_zero, List.set_cons_succ]
              refine x_take (i := 25) (oi := { dst := some 59, op := Op.load 78 (Operand.tmp 9), type := 78, pos := "poly.go:28", after := #[{ on := 19, ground := Ground.guard }], guard := some (19, true) }) (v := ?_) rfl (by kernel_rfl) (by kernel_rfl) (by kernel_rfl) (by kernel_rfl) (by kernel_rfl) (fun _ _ _ h => h) (Or.inl ⟨rfl, ?_⟩) (by assumption) ?_
              rotate_left
              · (intro w' hSw; replace z0 := kept_cell hSw z0; replace z1 := kept_cell hSw z1; replace h0' := kept_cell hSw h0'; replace h1' := kept_cell hSw h1'; go_simp; try with_reducible rfl)
              try simp only [Act.put, List.setIfInBounds_toArray, List.set_cons_zero, List.set_cons_succ]
              refine x_one (i := 26) (o := { dst := some 60, op := Op.call { callee := Callee.value (Operand.func 73), args := #[Operand.tmp 58, Operand.tmp 59], argTypes := #[78, 78] }, type := 3, pos := "poly.go:28", after := #[{ on := 24, ground := Ground.data }, { on := 25, ground := Ground.data }, { on := 19, ground := Ground.chain }, { on := 19, ground := Ground.guard }], guard := some (19, true) }) (by kernel_rfl) rfl (fun K hK => ?_)
              (go_simp; go_at_call 73; (with_reducible refine (C60.out _ hHeld).mono ?_); rintro e w3 ⟨rfl, rfl⟩; have KK3 := kept_alloc (kept_alloc hHeld (.cells #[.int .i64 xp, .slice E' ep.length ce'] 78)) (.cells #[.int .i64 x, .slice E el.length ce] 78); try dsimp only)
              refine hK.out _ _ ?_ (fun hHeld => ?_)
              · (try dsimp only); repeat (first | assumption | exact kept_refl _ | refine kept_drew ?_ | refine kept_alloc ?_ _ | refine kept_set ?_ (by omega) _)
              clear hK K
              try simp only [Act.put, List.setIfInBounds_toArray, List.set_cons_zero, List.set_cons_succ]
              refine x_take (i := 27) (oi := { dst := some 61, op := Op.binOp BinOp.geq 3 (Operand.tmp 60) (Operand.const (Value.int IntKind.i64 0)) 3, type := 4, pos := "poly.go:28", after := #[{ on := 26, ground := Ground.data }, { on := 19, ground := Ground.guard }], guard := some (19, true) }) (v := ?_) rfl (by kernel_rfl) (by kernel_rfl) (by kernel_rfl) (by kernel_rfl) (by kernel_rfl) (fun _ _ _ h => h) (Or.inl ⟨rfl, ?_⟩) (by assumption) ?_
              rotate_left
              · (intro w' hSw; replace z0 := kept_cell hSw z0; replace z1 := kept_cell hSw z1; replace h0' := kept_cell hSw h0'; replace h1' := kept_cell hSw h1'; go_simp; try with_reducible rfl)
              try simp only [Act.put, List.setIfInBounds_toArray, List.set_cons_zero, List.set_cons_succ]
              refine x_take (i := 28) (oi := { dst := some 62, op := Op.pick (Operand.tmp 53) (Operand.tmp 61) (Operand.const (Value.bool false)), type := 4, pos := "poly.go:28", after := #[{ on := 19, ground := Ground.data }, { on := 27, ground := Ground.data }, { on := 16, ground := Ground.guard }], guard := some (16, false) }) (v := ?_) rfl (by kernel_rfl) (by kernel_rfl) (by kernel_rfl) (by kernel_rfl) (by kernel_rfl) (fun _ _ _ h => h) (Or.inl ⟨rfl, ?_⟩) (by assumption) ?_
              rotate_left
              · (intro w' hSw; replace z0 := kept_cell hSw z0; replace z1 := kept_cell hSw z1; replace h0' := kept_cell hSw h0'; replace h1' := kept_cell hSw h1'; go_simp; try with_reducible rfl)
              try simp only [Act.put, List.setIfInBounds_toArray, List.set_cons_zero, List.set_cons_succ]
              refine x_take (i := 29) (oi := { dst := some 63, op := Op.pick (Operand.tmp 50) (Operand.const (Value.bool true)) (Operand.tmp 62), type := 4, pos := "poly.go:28", after := #[{ on := 16, ground := Ground.data }, { on := 28, ground := Ground.data }], guard := none }) (v := ?_) rfl (by kernel_rfl) (by kernel_rfl) (by kernel_rfl) (by kernel_rfl) (by kernel_rfl) (fun _ _ _ h => h) (Or.inl ⟨rfl, ?_⟩) (by assumption) ?_
              rotate_left
              · (intro w' hSw; replace z0 := kept_cell hSw z0; replace z1 := kept_cell hSw z1; replace h0' := kept_cell hSw h0'; replace h1' := kept_cell hSw h1'; go_simp; try with_reducible rfl)
              try simp only [Act.put, List.setIfInBounds_toArray, List.set_cons_zero, List.set_cons_succ]
              refine x_done (by kernel_rfl) ?_ _
              clear ewi
              go_wp2_with fail
              go_ret
              exact ⟨ret_bool HB.out.symm, kept_trans K1 (by assumption)⟩
          · have HB := Lib.hid (show V = false by rw [HV.out]; exact vld_bad hlt (tok_no (by rw [← HX.out, ← HEL.out]; omega)))
            have d3 : ((el.length : Int) != n) = true := by simpa using c3
            clear c1 c2 c3
            go_wp2_with fail
            go_quiet (fail)
            go_wp2_with fail
            go_ret
            exact ⟨ret_bool HB.out.symm, below_drewN K1 _⟩
    · obtain rfl : k = p.length := by omega
      go_wp2_with fail
      go_ret
      exact ⟨ret_bool (by rw [HV.out, vld_good hn0 hn hl HQ0.out HT.out]), K0⟩
theorem valid25_any (P M n : Int) (p : List Tm) (A : Option Addr) (c : Nat) (w : World) (hP : RP w A p) (hl : p.length ≤ 140737488355328) :
    Calls Tryz.prog 46 #[fV P M, .int .i64 n, .slice A p.length c] w fun e w' => e = .returned (.bool (vld (ordF P M) n p)) ∧ Kept w w' := by
  by_cases h : ordF P M ≠ 0 ∧ 0 ≤ n ∧ n ≤ 80 ∧ p.length ≤ 20000
  · exact valid25_main P M n p A c w hP h.1 h.2.1 h.2.2.1 h.2.2.2
  · exact valid25_pre P M n p A c w hl h
end Go.Proofs.YtikfeemmjfoffaaGreatDoor
