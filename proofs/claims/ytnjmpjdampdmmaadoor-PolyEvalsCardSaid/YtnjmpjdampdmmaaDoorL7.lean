/- Polynomials: the law PolyEvals, walked. -/
import Derived.Test.YtnjmpjdampdmmaaDoorC26
set_option linter.unusedVariables false
set_option linter.unusedSimpArgs false
namespace Go.Proofs.YtnjmpjdampdmmaaDoor
open Go.RowKit

/-- Whether the list has n members, and the first i are elements. -/
def gdTo (q n : Int) (l : List Int) (i : Nat) : Bool := ((l.length : Int) == n) && (l.take i).all fun x => decide (0 ≤ x) && decide (x < q)
theorem gdTo_zero (q n : Int) (l : List Int) : gdTo q n l 0 = ((l.length : Int) == n) := by simp [gdTo]
theorem gdTo_succ {q n : Int} {l : List Int} {i : Nat} (h : i < l.length) : gdTo q n l (i + 1) = (gdTo q n l i && (decide (0 ≤ ia l i) && decide (ia l i < q))) := by
  unfold gdTo
  rw [List.take_succ_eq_append_getElem h, List.all_append, Bool.and_assoc]
  simp [ia, h]
theorem gdTo_all (q n : Int) (l : List Int) : gdTo q n l l.length = (((l.length : Int) == n) && allQ q l) := by unfold gdTo allQ; rw [List.take_length]
set_option maxRecDepth 100000 in
set_option maxHeartbeats 1000000 in
theorem law7_any (P M n : Int) (p : List Tm) (A : Option Addr) (c : Nat) (l : List Int) (B : Option Addr) (d : Nat) (w : World) (hp : PowOk w) (hP : RP w A p) (hl : p.length ≤ 140737488355328) (hB : Rd w B (ints l)) (hm : l.length ≤ 140737488355328) :
    Calls Tryd.prog 7 #[fV P M, .int .i64 n, .slice A p.length c, .slice B l.length d] w fun e w' => e = .returned (.bool true) ∧ Kept w w' := by
  have K0 := kept_alloc (kept_refl w) (.cells #[.int .i64 P, .int .i64 M] 23)
  have K1 := kept_alloc K0 (.cells #[.slice A p.length c] 25)
  have o3 := (Own.new w 23 [.int .i64 P, .int .i64 M]).alloc (.cells #[.slice A p.length c] 25)
  have y0 := o3.cell (j := 0) rfl; have y1 := o3.cell (j := 1) rfl
  have C12 := Lib.hid (show Calls Tryd.prog 12 #[.int .i64 1500, .slice (some ⟨w.heap.size + 1, 0, none⟩) 1 1] ((w.alloc (.cells #[.int .i64 P, .int .i64 M] 23)).alloc (.cells #[.slice A p.length c] 25)) _ from few12_any 1500 [p] (some ⟨w.heap.size + 1, 0, none⟩) 1 ((w.alloc (.cells #[.int .i64 P, .int .i64 M] 23)).alloc (.cells #[.slice A p.length c] 25)) (by decide) (by decide) (by have := rpp_one (c := c) (hP.kept K0) hl; simpa using this) (by simp))
  have C13 := Lib.hid fun w' (k : Kept w w') => alive13_any w' (hp.kept k)
  have C15 := Lib.hid fun w' (k : Kept w w') => rvalid15_all P M n p A c w' (hP.kept k) hl
  cases hf : fewB 1500 [p] with
  | false =>
    rw [hf] at C12
    unfold fV
    clear hP hf hp hB
    go_enter Tryd.func7, Tryd.ntmps7
    go_wp2_with (first
      | (go_at_call 12; ((with_reducible refine C12.out.mono ?_); rintro e w1 ⟨rfl, rfl⟩))
      | (go_at_call 13; ((with_reducible refine (C13.out _ K1).mono ?_); rintro e w2 ⟨rfl, k2⟩)))
    go_ret
    exact ⟨rfl, kept_trans K1 k2⟩
  | true =>
    rw [hf] at C12
    by_cases h200 : 200 < l.length
    · have d1 : decide ((200 : Int) < (l.length : Int)) = true := decide_eq_true (by omega)
      unfold fV
      clear hP hf hp hB
      go_enter Tryd.func7, Tryd.ntmps7
      go_wp2_with (first
        | (go_at_call 12; ((with_reducible refine C12.out.mono ?_); rintro e w1 ⟨rfl, rfl⟩))
        | (go_at_call 13; ((with_reducible refine (C13.out _ K1).mono ?_); rintro e w2 ⟨rfl, k2⟩)))
      go_ret
      exact ⟨rfl, kept_trans K1 k2⟩
    · have d1 : decide ((200 : Int) < (l.length : Int)) = false := decide_eq_false (by omega)
      cases hv : vld (ordF P M) n p with
      | false =>
        have C32 := Lib.hid fun w' (k : Kept w w') => eval32_bad P M n p A B c l.length d w' (hP.kept k) hl hv
        have C26 := Lib.hid fun w' => number26_err 0 1 w' (by decide)
        rw [hv] at C15
        unfold fV at *
        clear hP hf hp hv hB
        go_enter Tryd.func7, Tryd.ntmps7
        go_wp2_with (first
          | (go_at_call 12; ((with_reducible refine C12.out.mono ?_); rintro e w1 ⟨rfl, rfl⟩))
          | (go_at_call 32; ((with_reducible refine (C32.out _ K1).mono ?_); rintro e w2 ⟨rfl, k2⟩; replace K1 := kept_trans K1 k2; replace y0 := kept_cell k2 y0; replace y1 := kept_cell k2 y1))
          | (go_at_call 15; ((with_reducible refine (C15.out _ K1).mono ?_); rintro e w4 ⟨rfl, k4⟩; replace K1 := kept_trans K1 k4; replace y0 := kept_cell k4 y0; replace y1 := kept_cell k4 y1))
          | (go_at_call 26; ((with_reducible refine (C26.out _).mono ?_); rintro e w6 ⟨rfl, rfl⟩))
          | (go_at_call 13; ((with_reducible refine (C13.out _ K1).mono ?_); rintro e w7 ⟨rfl, k7⟩; replace K1 := kept_trans K1 k7)))
        go_ret
        exact ⟨rfl, K1⟩
      | true =>
        obtain ⟨hn, hl2, tl⟩ := vld_terms hv
        have ok := vld_ok hv
        have C18 := Lib.hid fun w' => of18_any P M w' ok
        have C33 := Lib.hid fun w' a => is33_any P M a w'
        have HB := Lib.hid hB
        unfold kV at C18 C33
        rw [hv] at C15
        obtain ⟨q, hq⟩ : ∃ q, q = ordF P M := ⟨_, rfl⟩
        obtain ⟨km, hkm⟩ : ∃ km, km = kitM M := ⟨_, rfl⟩
        obtain ⟨la, hla⟩ : ∃ la, la = l.length := ⟨_, rfl⟩
        have HLA := Lib.hid hla
        obtain ⟨b0, hb0⟩ : ∃ b0, b0 = ((la : Int) == n) := ⟨_, rfl⟩
        have e0 := hb0.symm
        have HB0 := Lib.hid (show gdTo q n l 0 = b0 by rw [gdTo_zero, hb0, hla])
        by_cases hgood : gdTo q n l l.length = true
        · have hg2 := hgood
          rw [gdTo_all, Bool.and_eq_true] at hg2
          have hln : (l.length : Int) = n := by simpa using hg2.1
          have hall := hg2.2
          rw [hq] at hall
          have HALL := Lib.hid (allQ_iff.1 hall)
          have C32 := Lib.hid fun w' (k : Kept w w') => eval32_any P M n p l A B c d w' (hP.kept k) hv (hB.kept k) hln hall
          have C34 := Lib.hid fun w' (k : Kept w w') => reval34_any P M p l A B c d w' ok (hP.kept k) (hB.kept k) hl2 (by omega) (fun x hx => allQ_iff.1 hall x hx) (fun k hk => by have h := tl k hk; exact ⟨by omega, ⟨by omega, h.2.2.1⟩, h.2.2.2⟩)
          obtain ⟨z, hz⟩ : ∃ z, z = evP P M p l := ⟨_, rfl⟩
          rw [← hz] at C32 C34
          have C26 := Lib.hid fun w' => number26_ok z w'
          have hb1 : b0 = true := by rw [hb0, hla]; simpa using hln
          have HTR := Lib.hid (show ∀ i, i < la → (decide (0 ≤ ia l i) && decide (ia l i < q)) = true from fun i hi => by
            have h5 := HALL.out (ia l i) (ia_mem (by omega))
            rw [← hq] at h5
            simp [h5.1, h5.2])
          unfold kV at C34
          rw [← hq, ← hkm] at C18 C33 C34
          rw [← hla] at d1 C32 C34 hm ⊢
          subst hb1
          unfold fV at *
          clear hP hf hp hv hB hl2 tl ok hq hkm hla hgood hg2 hln hall hz hb0 hn h200
          go_enter Tryd.func7, Tryd.ntmps7
          go_wp2_with (first
            | (go_at_call 12; ((with_reducible refine C12.out.mono ?_); rintro e w1 ⟨rfl, rfl⟩))
            | (go_at_call 32; ((with_reducible refine (C32.out _ K1).mono ?_); rintro e w2 ⟨rfl, k2⟩; replace K1 := kept_trans K1 k2; replace y0 := kept_cell k2 y0; replace y1 := kept_cell k2 y1))
            | (go_at_call 15; ((with_reducible refine (C15.out _ K1).mono ?_); rintro e w4 ⟨rfl, k4⟩; replace K1 := kept_trans K1 k4; replace y0 := kept_cell k4 y0; replace y1 := kept_cell k4 y1))
            | (go_at_call 18; ((with_reducible refine (C18.out _).mono ?_); rintro e w5 ⟨rfl, k5⟩; replace K1 := kept_trans K1 k5)))
          have oK := Own.new w5 35 [.int .i64 P, .int .i64 M, .int .i64 q, .int .i64 km]
          obtain ⟨w6, hw6⟩ : ∃ w6, w6 = w5.alloc (.cells #[.int .i64 P, .int .i64 M, .int .i64 q, .int .i64 km] 35) := ⟨_, rfl⟩
          have K6 : Kept w w6 := by rw [hw6]; exact kept_alloc K1 _
          rw [← hw6] at oK ⊢
          clear hw6 y0 y1 K1
          go_loopg [12, 13] la (fun G s12 s13 wr => ∃ (i : Nat), i ≤ la ∧ G = la - i ∧ s12 = .bool true ∧ s13 = .int .i64 i ∧ Kept w6 wr)
          case atStart => exact ⟨0, by omega, rfl, rfl, rfl, kept_refl _⟩
          case round =>
            obtain ⟨i, hi, rfl, rfl, rfl, K7⟩ := hrel
            by_cases hit : i < la
            · obtain ⟨b1, o1, rfl, hc1⟩ := (HB.out.kept (kept_trans K6 K7)).int (k := i) (by rw [← HLA.out]; exact hit)
              have x0 := hc1 i (by rw [← HLA.out]; exact hit)
              have CX := Lib.hid fun w' => C33.out w' (ia l i)
              rw [HTR.out i hit] at CX
              obtain ⟨xi, hxi⟩ : ∃ xi, xi = ia l i := ⟨_, rfl⟩
              rw [← hxi] at x0 CX
              have q0 := (oK.kept K7).cell (j := 0) rfl
              have q1 := (oK.kept K7).cell (j := 1) rfl
              have q2 := (oK.kept K7).cell (j := 2) rfl
              have q3 := (oK.kept K7).cell (j := 3) rfl
              clear hxi hc1
              go_upto_region 11 with fail
              refine region_x (fun w' => Kept wr w') [] (by kernel_rfl) (kept_drew (kept_refl _)) (fun hHeld => ?_)
              refine x_take (i := 0) (oi := { dst := some 55, op := Op.move (Operand.tmp 12), type := 4, pos := "law.go:120", after := #[], guard := none }) (v := ?_) rfl (by kernel_rfl) (by kernel_rfl) (by kernel_rfl) (by kernel_rfl) (by kernel_rfl) (fun _ _ _ h => h) (Or.inl ⟨rfl, ?_⟩) (by assumption) ?_
              rotate_left
              · (intro w' hSw; replace q0 := kept_cell hSw q0; replace q1 := kept_cell hSw q1; replace q2 := kept_cell hSw q2; replace q3 := kept_cell hSw q3; replace x0 := kept_cell hSw x0; go_simp; try with_reducible rfl)
              try simp only [Act.put, List.setIfInBounds_toArray, List.set_cons_zero, List.set_cons_succ]
              refine x_take (i := 1) (oi := { dst := some 56, op := Op.move (Operand.tmp 55), type := 4, pos := "law.go:120", after := #[{ on := 0, ground := Ground.data }], guard := none }) (v := ?_) rfl (by kernel_rfl) (by kernel_rfl) (by kernel_rfl) (by kernel_rfl) (by kernel_rfl) (fun _ _ _ h => h) (Or.inl ⟨rfl, ?_⟩) (by assumption) ?_
              rotate_left
              · (intro w' hSw; replace q0 := kept_cell hSw q0; replace q1 := kept_cell hSw q1; replace q2 := kept_cell hSw q2; replace q3 := kept_cell hSw q3; replace x0 := kept_cell hSw x0; go_simp; try with_reducible rfl)
              try simp only [Act.put, List.setIfInBounds_toArray, List.set_cons_zero, List.set_cons_succ]
              refine x_take (i := 2) (oi := { dst := some 57, op := Op.load 35 (Operand.tmp 11), type := 35, pos := "law.go:120", after := #[{ on := 1, ground := Ground.guard }], guard := some (1, true) }) (v := ?_) rfl (by kernel_rfl) (by kernel_rfl) (by kernel_rfl) (by kernel_rfl) (by kernel_rfl) (fun _ _ _ h => h) (Or.inl ⟨rfl, ?_⟩) (by assumption) ?_
              rotate_left
              · (intro w' hSw; replace q0 := kept_cell hSw q0; replace q1 := kept_cell hSw q1; replace q2 := kept_cell hSw q2; replace q3 := kept_cell hSw q3; replace x0 := kept_cell hSw x0; go_simp; try with_reducible rfl)
              try simp only [Act.put, List.setIfInBounds_toArray, List.set_cons_zero, List.set_cons_succ]
              refine x_take (i := 3) (oi := { dst := some 58, op := Op.move (Operand.tmp 3), type := 56, pos := "law.go:120", after := #[{ on := 1, ground := Ground.guard }], guard := some (1, true) }) (v := ?_) rfl (by kernel_rfl) (by kernel_rfl) (by kernel_rfl) (by kernel_rfl) (by kernel_rfl) (fun _ _ _ h => h) (Or.inl ⟨rfl, ?_⟩) (by assumption) ?_
              rotate_left
              · (intro w' hSw; replace q0 := kept_cell hSw q0; replace q1 := kept_cell hSw q1; replace q2 := kept_cell hSw q2; replace q3 := kept_cell hSw q3; replace x0 := kept_cell hSw x0; go_simp; try with_reducible rfl)
              try simp only [Act.put, List.setIfInBounds_toArray, List.set_cons_zero, List.set_cons_succ]
              refine x_take (i := 4) (oi := { dst := some 59, op := Op.move (Operand.tmp 13), type := 3, pos := "law.go:120", after := #[{ on := 1, ground := Ground.guard }], guard := some (1, true) }) (v := ?_) rfl (by kernel_rfl) (by kernel_rfl) (by kernel_rfl) (by kernel_rfl) (by kernel_rfl) (fun _ _ _ h => h) (Or.inl ⟨rfl, ?_⟩) (by assumption) ?_
              rotate_left
              · (intro w' hSw; replace q0 := kept_cell hSw q0; replace q1 := kept_cell hSw q1; replace q2 := kept_cell hSw q2; replace q3 := kept_cell hSw q3; replace x0 := kept_cell hSw x0; go_simp; try with_reducible rfl)
              try simp only [Act.put, List.setIfInBounds_toArray, List.set_cons_zero, List.set_cons_succ]
              refine x_take (i := 5) (oi := { dst := some 60, op := Op.indexAddr 56 (Operand.tmp 58) (Operand.tmp 59), type := 0, pos := "law.go:120", after := #[{ on := 3, ground := Ground.data }, { on := 4, ground := Ground.data }, { on := 1, ground := Ground.guard }], guard := some (1, true) }) (v := ?_) rfl (by kernel_rfl) (by kernel_rfl) (by kernel_rfl) (by kernel_rfl) (by kernel_rfl) (fun _ _ _ h => h) (Or.inl ⟨rfl, ?_⟩) (by assumption) ?_
              rotate_left
              · (intro w' hSw; replace q0 := kept_cell hSw q0; replace q1 := kept_cell hSw q1; replace q2 := kept_cell hSw q2; replace q3 := kept_cell hSw q3; replace x0 := kept_cell hSw x0; go_simp; try with_reducible rfl)
              try simp only [Act.put, List.setIfInBounds_toArray, List.set_cons_zero, List.set_cons_succ]
              refine x_take (i := 6) (oi := { dst := some 61, op := Op.load 3 (Operand.tmp 60), type := 3, pos := "law.go:120", after := #[{ on := 5, ground := Ground.data }, { on := 1, ground := Ground.guard }], guard := some (1, true) }) (v := ?_) rfl (by kernel_rfl) (by kernel_rfl) (by kernel_rfl) (by kernel_rfl) (by kernel_rfl) (fun _ _ _ h => h) (Or.inl ⟨rfl, ?_⟩) (by assumption) ?_
              rotate_left
              · (intro w' hSw; replace q0 := kept_cell hSw q0; replace q1 := kept_cell hSw q1; replace q2 := kept_cell hSw q2; replace q3 := kept_cell hSw q3; replace x0 := kept_cell hSw x0; go_simp; try with_reducible rfl)
              try simp only [Act.put, List.setIfInBounds_toArray, List.set_cons_zero, List.set_cons_succ]
              refine x_one (i := 7) (o := { dst := some 62, op := Op.call { callee := Callee.value (Operand.func 33), args := #[Operand.tmp 57, Operand.tmp 61], argTypes := #[35, 3] }, type := 4, pos := "law.go:120", after := #[{ on := 2, ground := Ground.data }, { on := 6, ground := Ground.data }, { on := 1, ground := Ground.chain }, { on := 1, ground := Ground.guard }], guard := some (1, true) }) (by kernel_rfl) rfl (fun K hK => ?_)
              (go_simp; go_at_call 33; (with_reducible refine (CX.out _).mono ?_); rintro e w8 ⟨rfl, k8⟩; have G8 := kept_trans hHeld k8; try dsimp only)
              refine hK.out _ _ ?_ (fun hHeld => ?_)
              · (try dsimp only); repeat (first | assumption | exact kept_refl _ | refine kept_drew ?_ | refine kept_alloc ?_ _ | refine kept_set ?_ (by omega) _)
              clear hK K
              try simp only [Act.put, List.setIfInBounds_toArray, List.set_cons_zero, List.set_cons_succ]
              refine x_take (i := 8) (oi := { dst := some 63, op := Op.pick (Operand.tmp 56) (Operand.tmp 62) (Operand.const (Value.bool false)), type := 4, pos := "law.go:120", after := #[{ on := 1, ground := Ground.data }, { on := 7, ground := Ground.data }], guard := none }) (v := ?_) rfl (by kernel_rfl) (by kernel_rfl) (by kernel_rfl) (by kernel_rfl) (by kernel_rfl) (fun _ _ _ h => h) (Or.inl ⟨rfl, ?_⟩) (by assumption) ?_
              rotate_left
              · (intro w' hSw; replace q0 := kept_cell hSw q0; replace q1 := kept_cell hSw q1; replace q2 := kept_cell hSw q2; replace q3 := kept_cell hSw q3; replace x0 := kept_cell hSw x0; go_simp; try with_reducible rfl)
              try simp only [Act.put, List.setIfInBounds_toArray, List.set_cons_zero, List.set_cons_succ]
              refine x_take (i := 9) (oi := { dst := some 12, op := Op.assign (Operand.tmp 63), type := 4, pos := "law.go:120", after := #[{ on := 8, ground := Ground.data }, { on := 7, ground := Ground.chain }, { on := 0, ground := Ground.phase }, { on := 1, ground := Ground.phase }, { on := 2, ground := Ground.phase }, { on := 3, ground := Ground.phase }, { on := 4, ground := Ground.phase }, { on := 5, ground := Ground.phase }, { on := 6, ground := Ground.phase }, { on := 7, ground := Ground.phase }, { on := 8, ground := Ground.phase }], guard := none }) (v := ?_) rfl (by kernel_rfl) (by kernel_rfl) (by kernel_rfl) (by kernel_rfl) (by kernel_rfl) (fun _ _ _ h => h) (Or.inl ⟨rfl, ?_⟩) (by assumption) ?_
              rotate_left
              · (intro w' hSw; replace q0 := kept_cell hSw q0; replace q1 := kept_cell hSw q1; replace q2 := kept_cell hSw q2; replace q3 := kept_cell hSw q3; replace x0 := kept_cell hSw x0; go_simp; try with_reducible rfl)
              try simp only [Act.put, List.setIfInBounds_toArray, List.set_cons_zero, List.set_cons_succ]
              refine x_done (by kernel_rfl) ?_ _
              clear q0 q1 q2 q3 x0
              go_wp2_with fail
              go_roundg (la - (i + 1))
              case rel => exact ⟨i + 1, by omega, rfl, rfl, by go_num, kept_trans K7 G8⟩
              case measure => omega
            · obtain rfl : i = la := by omega
              have q0 := (oK.kept K7).cell (j := 0) rfl
              have q1 := (oK.kept K7).cell (j := 1) rfl
              have q2 := (oK.kept K7).cell (j := 2) rfl
              have q3 := (oK.kept K7).cell (j := 3) rfl
              have K8 := kept_trans K6 K7
              go_wp2_with (first
                | (go_at_call 34; ((with_reducible refine (C34.out _ K8).mono ?_); rintro e w9 ⟨rfl, k9⟩; replace K8 := kept_trans K8 k9))
                | (go_at_call 26; ((with_reducible refine (C26.out _).mono ?_); rintro e w10 ⟨rfl, rfl⟩))
                | (go_at_call 13; ((with_reducible refine (C13.out _ K8).mono ?_); rintro e w11 ⟨rfl, k11⟩; replace K8 := kept_trans K8 k11)))
              go_ret
              exact ⟨rfl, K8⟩
        · have hbad : ¬ ((l.length : Int) = n ∧ allQ (ordF P M) l = true) := fun h => hgood (by rw [gdTo_all, Bool.and_eq_true, hq]; exact ⟨by simpa using h.1, h.2⟩)
          have C32 := Lib.hid fun w' (k : Kept w w') => eval32_arg P M n p l A B c d w' (hP.kept k) hv (hB.kept k) hm hbad
          have C26 := Lib.hid fun w' => number26_err 0 2 w' (by decide)
          have HBAD := Lib.hid (show gdTo q n l la = false by rw [hla]; simpa using hgood)
          rw [← hq, ← hkm] at C18 C33
          rw [← hla] at d1 C32 hm ⊢
          have hla200 : la ≤ 200 := by omega
          unfold fV at *
          clear hP hf hp hv hB hl2 tl ok hq hkm hla hgood hb0 hn h200 hbad
          go_enter Tryd.func7, Tryd.ntmps7
          go_wp2_with (first
            | (go_at_call 12; ((with_reducible refine C12.out.mono ?_); rintro e w1 ⟨rfl, rfl⟩))
            | (go_at_call 32; ((with_reducible refine (C32.out _ K1).mono ?_); rintro e w2 ⟨rfl, k2⟩; replace K1 := kept_trans K1 k2; replace y0 := kept_cell k2 y0; replace y1 := kept_cell k2 y1))
            | (go_at_call 15; ((with_reducible refine (C15.out _ K1).mono ?_); rintro e w4 ⟨rfl, k4⟩; replace K1 := kept_trans K1 k4; replace y0 := kept_cell k4 y0; replace y1 := kept_cell k4 y1))
            | (go_at_call 18; ((with_reducible refine (C18.out _).mono ?_); rintro e w5 ⟨rfl, k5⟩; replace K1 := kept_trans K1 k5)))
          have oK := Own.new w5 35 [.int .i64 P, .int .i64 M, .int .i64 q, .int .i64 km]
          obtain ⟨w6, hw6⟩ : ∃ w6, w6 = w5.alloc (.cells #[.int .i64 P, .int .i64 M, .int .i64 q, .int .i64 km] 35) := ⟨_, rfl⟩
          have K6 : Kept w w6 := by rw [hw6]; exact kept_alloc K1 _
          rw [← hw6] at oK ⊢
          clear hw6 y0 y1 K1
          go_loopg [12, 13] la (fun G s12 s13 wr => ∃ (i : Nat) (g : Bool), i ≤ la ∧ G = la - i ∧ s12 = .bool g ∧ s13 = .int .i64 i ∧ Hid (gdTo q n l i = g) ∧ Kept w6 wr)
          case atStart => exact ⟨0, b0, by omega, rfl, rfl, rfl, HB0, kept_refl _⟩
          case round =>
            obtain ⟨i, g, hi, rfl, rfl, rfl, HG, K7⟩ := hrel
            by_cases hit : i < la
            · have hil : i < l.length := by rw [← HLA.out]; exact hit
              have HGS := Lib.hid (gdTo_succ (q := q) (n := n) hil)
              cases g with
              | true =>
                obtain ⟨b1, o1, rfl, hc1⟩ := (HB.out.kept (kept_trans K6 K7)).int (k := i) hil
                have x0 := hc1 i hil
                have CX := Lib.hid fun w' => C33.out w' (ia l i)
                obtain ⟨g', hg'⟩ : ∃ g', g' = (decide (0 ≤ ia l i) && decide (ia l i < q)) := ⟨_, rfl⟩
                rw [← hg'] at CX
                have HG' := Lib.hid (show gdTo q n l (i + 1) = g' by rw [HGS.out, HG.out, ← hg']; rfl)
                obtain ⟨xi, hxi⟩ : ∃ xi, xi = ia l i := ⟨_, rfl⟩
                rw [← hxi] at x0 CX
                have q0 := (oK.kept K7).cell (j := 0) rfl
                have q1 := (oK.kept K7).cell (j := 1) rfl
                have q2 := (oK.kept K7).cell (j := 2) rfl
                have q3 := (oK.kept K7).cell (j := 3) rfl
                clear hxi hc1 hg'
                go_upto_region 11 with fail
                refine region_x (fun w' => Kept wr w') [] (by kernel_rfl) (kept_drew (kept_refl _)) (fun hHeld => ?_)
                refine x_take (i := 0) (oi := { dst := some 55, op := Op.move (Operand.tmp 12), type := 4, pos := "law.go:120", after := #[], guard := none }) (v := ?_) rfl (by kernel_rfl) (by kernel_rfl) (by kernel_rfl) (by kernel_rfl) (by kernel_rfl) (fun _ _ _ h => h) (Or.inl ⟨rfl, ?_⟩) (by assumption) ?_
                rotate_left
                · (intro w' hSw; replace q0 := kept_cell hSw q0; replace q1 := kept_cell hSw q1; replace q2 := kept_cell hSw q2; replace q3 := kept_cell hSw q3; replace x0 := kept_cell hSw x0; go_simp; try with_reducible rfl)
                try simp only [Act.put, List.setIfInBounds_toArray, List.set_cons_zero, List.set_cons_succ]
                refine x_take (i := 1) (oi := { dst := some 56, op := Op.move (Operand.tmp 55), type := 4, pos := "law.go:120", after := #[{ on := 0, ground := Ground.data }], guard := none }) (v := ?_) rfl (by kernel_rfl) (by kernel_rfl) (by kernel_rfl) (by kernel_rfl) (by kernel_rfl) (fun _ _ _ h => h) (Or.inl ⟨rfl, ?_⟩) (by assumption) ?_
                rotate_left
                · (intro w' hSw; replace q0 := kept_cell hSw q0; replace q1 := kept_cell hSw q1; replace q2 := kept_cell hSw q2; replace q3 := kept_cell hSw q3; replace x0 := kept_cell hSw x0; go_simp; try with_reducible rfl)
                try simp only [Act.put, List.setIfInBounds_toArray, List.set_cons_zero, List.set_cons_succ]
                refine x_take (i := 2) (oi := { dst := some 57, op := Op.load 35 (Operand.tmp 11), type := 35, pos := "law.go:120", after := #[{ on := 1, ground := Ground.guard }], guard := some (1, true) }) (v := ?_) rfl (by kernel_rfl) (by kernel_rfl) (by kernel_rfl) (by kernel_rfl) (by kernel_rfl) (fun _ _ _ h => h) (Or.inl ⟨rfl, ?_⟩) (by assumption) ?_
                rotate_left
                · (intro w' hSw; replace q0 := kept_cell hSw q0; replace q1 := kept_cell hSw q1; replace q2 := kept_cell hSw q2; replace q3 := kept_cell hSw q3; replace x0 := kept_cell hSw x0; go_simp; try with_reducible rfl)
                try simp only [Act.put, List.setIfInBounds_toArray, List.set_cons_zero, List.set_cons_succ]
                refine x_take (i := 3) (oi := { dst := some 58, op := Op.move (Operand.tmp 3), type := 56, pos := "law.go:120", after := #[{ on := 1, ground := Ground.guard }], guard := some (1, true) }) (v := ?_) rfl (by kernel_rfl) (by kernel_rfl) (by kernel_rfl) (by kernel_rfl) (by kernel_rfl) (fun _ _ _ h => h) (Or.inl ⟨rfl, ?_⟩) (by assumption) ?_
                rotate_left
                · (intro w' hSw; replace q0 := kept_cell hSw q0; replace q1 := kept_cell hSw q1; replace q2 := kept_cell hSw q2; replace q3 := kept_cell hSw q3; replace x0 := kept_cell hSw x0; go_simp; try with_reducible rfl)
                try simp only [Act.put, List.setIfInBounds_toArray, List.set_cons_zero, List.set_cons_succ]
                refine x_take (i := 4) (oi := { dst := some 59, op := Op.move (Operand.tmp 13), type := 3, pos := "law.go:120", after := #[{ on := 1, ground := Ground.guard }], guard := some (1, true) }) (v := ?_) rfl (by kernel_rfl) (by kernel_rfl) (by kernel_rfl) (by kernel_rfl) (by kernel_rfl) (fun _ _ _ h => h) (Or.inl ⟨rfl, ?_⟩) (by assumption) ?_
                rotate_left
                · (intro w' hSw; replace q0 := kept_cell hSw q0; replace q1 := kept_cell hSw q1; replace q2 := kept_cell hSw q2; replace q3 := kept_cell hSw q3; replace x0 := kept_cell hSw x0; go_simp; try with_reducible rfl)
                try simp only [Act.put, List.setIfInBounds_toArray, List.set_cons_zero, List.set_cons_succ]
                refine x_take (i := 5) (oi := { dst := some 60, op := Op.indexAddr 56 (Operand.tmp 58) (Operand.tmp 59), type := 0, pos := "law.go:120", after := #[{ on := 3, ground := Ground.data }, { on := 4, ground := Ground.data }, { on := 1, ground := Ground.guard }], guard := some (1, true) }) (v := ?_) rfl (by kernel_rfl) (by kernel_rfl) (by kernel_rfl) (by kernel_rfl) (by kernel_rfl) (fun _ _ _ h => h) (Or.inl ⟨rfl, ?_⟩) (by assumption) ?_
                rotate_left
                · (intro w' hSw; replace q0 := kept_cell hSw q0; replace q1 := kept_cell hSw q1; replace q2 := kept_cell hSw q2; replace q3 := kept_cell hSw q3; replace x0 := kept_cell hSw x0; go_simp; try with_reducible rfl)
                try simp only [Act.put, List.setIfInBounds_toArray, List.set_cons_zero, List.set_cons_succ]
                refine x_take (i := 6) (oi := { dst := some 61, op := Op.load 3 (Operand.tmp 60), type := 3, pos := "law.go:120", after := #[{ on := 5, ground := Ground.data }, { on := 1, ground := Ground.guard }], guard := some (1, true) }) (v := ?_) rfl (by kernel_rfl) (by kernel_rfl) (by kernel_rfl) (by kernel_rfl) (by kernel_rfl) (fun _ _ _ h => h) (Or.inl ⟨rfl, ?_⟩) (by assumption) ?_
                rotate_left
                · (intro w' hSw; replace q0 := kept_cell hSw q0; replace q1 := kept_cell hSw q1; replace q2 := kept_cell hSw q2; replace q3 := kept_cell hSw q3; replace x0 := kept_cell hSw x0; go_simp; try with_reducible rfl)
                try simp only [Act.put, List.setIfInBounds_toArray, List.set_cons_zero, List.set_cons_succ]
                refine x_one (i := 7) (o := { dst := some 62, op := Op.call { callee := Callee.value (Operand.func 33), args := #[Operand.tmp 57, Operand.tmp 61], argTypes := #[35, 3] }, type := 4, pos := "law.go:120", after := #[{ on := 2, ground := Ground.data }, { on := 6, ground := Ground.data }, { on := 1, ground := Ground.chain }, { on := 1, ground := Ground.guard }], guard := some (1, true) }) (by kernel_rfl) rfl (fun K hK => ?_)
                (go_simp; go_at_call 33; (with_reducible refine (CX.out _).mono ?_); rintro e w8 ⟨rfl, k8⟩; have G8 := kept_trans hHeld k8; try dsimp only)
                refine hK.out _ _ ?_ (fun hHeld => ?_)
                · (try dsimp only); repeat (first | assumption | exact kept_refl _ | refine kept_drew ?_ | refine kept_alloc ?_ _ | refine kept_set ?_ (by omega) _)
                clear hK K
                try simp only [Act.put, List.setIfInBounds_toArray, List.set_cons_zero, List.set_cons_succ]
                refine x_take (i := 8) (oi := { dst := some 63, op := Op.pick (Operand.tmp 56) (Operand.tmp 62) (Operand.const (Value.bool false)), type := 4, pos := "law.go:120", after := #[{ on := 1, ground := Ground.data }, { on := 7, ground := Ground.data }], guard := none }) (v := ?_) rfl (by kernel_rfl) (by kernel_rfl) (by kernel_rfl) (by kernel_rfl) (by kernel_rfl) (fun _ _ _ h => h) (Or.inl ⟨rfl, ?_⟩) (by assumption) ?_
                rotate_left
                · (intro w' hSw; replace q0 := kept_cell hSw q0; replace q1 := kept_cell hSw q1; replace q2 := kept_cell hSw q2; replace q3 := kept_cell hSw q3; replace x0 := kept_cell hSw x0; go_simp; try with_reducible rfl)
                try simp only [Act.put, List.setIfInBounds_toArray, List.set_cons_zero, List.set_cons_succ]
                refine x_take (i := 9) (oi := { dst := some 12, op := Op.assign (Operand.tmp 63), type := 4, pos := "law.go:120", after := #[{ on := 8, ground := Ground.data }, { on := 7, ground := Ground.chain }, { on := 0, ground := Ground.phase }, { on := 1, ground := Ground.phase }, { on := 2, ground := Ground.phase }, { on := 3, ground := Ground.phase }, { on := 4, ground := Ground.phase }, { on := 5, ground := Ground.phase }, { on := 6, ground := Ground.phase }, { on := 7, ground := Ground.phase }, { on := 8, ground := Ground.phase }], guard := none }) (v := ?_) rfl (by kernel_rfl) (by kernel_rfl) (by kernel_rfl) (by kernel_rfl) (by kernel_rfl) (fun _ _ _ h => h) (Or.inl ⟨rfl, ?_⟩) (by assumption) ?_
                rotate_left
                · (intro w' hSw; replace q0 := kept_cell hSw q0; replace q1 := kept_cell hSw q1; replace q2 := kept_cell hSw q2; replace q3 := kept_cell hSw q3; replace x0 := kept_cell hSw x0; go_simp; try with_reducible rfl)
                try simp only [Act.put, List.setIfInBounds_toArray, List.set_cons_zero, List.set_cons_succ]
                refine x_done (by kernel_rfl) ?_ _
                clear q0 q1 q2 q3 x0
                go_wp2_with fail
                go_roundg (la - (i + 1))
                case rel => exact ⟨i + 1, g', by omega, rfl, rfl, by go_num, HG', kept_trans K7 G8⟩
                case measure => omega
              | false =>
                have HG' := Lib.hid (show gdTo q n l (i + 1) = false by rw [HGS.out, HG.out]; rfl)
                go_upto_region 11 with fail
                refine region_x (fun w' => Kept wr w') [] (by kernel_rfl) (kept_drew (kept_refl _)) (fun hHeld => ?_)
                refine x_take (i := 0) (oi := { dst := some 55, op := Op.move (Operand.tmp 12), type := 4, pos := "law.go:120", after := #[], guard := none }) (v := ?_) rfl (by kernel_rfl) (by kernel_rfl) (by kernel_rfl) (by kernel_rfl) (by kernel_rfl) (fun _ _ _ h => h) (Or.inl ⟨rfl, ?_⟩) (by assumption) ?_
                rotate_left
                · (intro w' hSw; go_simp; try with_reducible rfl)
                try simp only [Act.put, List.setIfInBounds_toArray, List.set_cons_zero, List.set_cons_succ]
                refine x_take (i := 1) (oi := { dst := some 56, op := Op.move (Operand.tmp 55), type := 4, pos := "law.go:120", after := #[{ on := 0, ground := Ground.data }], guard := none }) (v := ?_) rfl (by kernel_rfl) (by kernel_rfl) (by kernel_rfl) (by kernel_rfl) (by kernel_rfl) (fun _ _ _ h => h) (Or.inl ⟨rfl, ?_⟩) (by assumption) ?_
                rotate_left
                · (intro w' hSw; go_simp; try with_reducible rfl)
                try simp only [Act.put, List.setIfInBounds_toArray, List.set_cons_zero, List.set_cons_succ]
                refine x_take (i := 2) (oi := { dst := some 57, op := Op.load 35 (Operand.tmp 11), type := 35, pos := "law.go:120", after := #[{ on := 1, ground := Ground.guard }], guard := some (1, true) }) (v := undef) rfl (by kernel_rfl) (by kernel_rfl) (by kernel_rfl) (by kernel_rfl) (by kernel_rfl) (fun _ _ _ h => h) (Or.inr ⟨rfl, rfl⟩) (by assumption) ?_
                try simp only [Act.put, List.setIfInBounds_toArray, List.set_cons_zero, List.set_cons_succ]
                refine x_take (i := 3) (oi := { dst := some 58, op := Op.move (Operand.tmp 3), type := 56, pos := "law.go:120", after := #[{ on := 1, ground := Ground.guard }], guard := some (1, true) }) (v := undef) rfl (by kernel_rfl) (by kernel_rfl) (by kernel_rfl) (by kernel_rfl) (by kernel_rfl) (fun _ _ _ h => h) (Or.inr ⟨rfl, rfl⟩) (by assumption) ?_
                try simp only [Act.put, List.setIfInBounds_toArray, List.set_cons_zero, List.set_cons_succ]
                refine x_take (i := 4) (oi := { dst := some 59, op := Op.move (Operand.tmp 13), type := 3, pos := "law.go:120", after := #[{ on := 1, ground := Ground.guard }], guard := some (1, true) }) (v := undef) rfl (by kernel_rfl) (by kernel_rfl) (by kernel_rfl) (by kernel_rfl) (by kernel_rfl) (fun _ _ _ h => h) (Or.inr ⟨rfl, rfl⟩) (by assumption) ?_
                try simp only [Act.put, List.setIfInBounds_toArray, List.set_cons_zero, List.set_cons_succ]
                refine x_take (i := 5) (oi := { dst := some 60, op := Op.indexAddr 56 (Operand.tmp 58) (Operand.tmp 59), type := 0, pos := "law.go:120", after := #[{ on := 3, ground := Ground.data }, { on := 4, ground := Ground.data }, { on := 1, ground := Ground.guard }], guard := some (1, true) }) (v := undef) rfl (by kernel_rfl) (by kernel_rfl) (by kernel_rfl) (by kernel_rfl) (by kernel_rfl) (fun _ _ _ h => h) (Or.inr ⟨rfl, rfl⟩) (by assumption) ?_
                try simp only [Act.put, List.setIfInBounds_toArray, List.set_cons_zero, List.set_cons_succ]
                refine x_take (i := 6) (oi := { dst := some 61, op := Op.load 3 (Operand.tmp 60), type := 3, pos := "law.go:120", after := #[{ on := 5, ground := Ground.data }, { on := 1, ground := Ground.guard }], guard := some (1, true) }) (v := undef) rfl (by kernel_rfl) (by kernel_rfl) (by kernel_rfl) (by kernel_rfl) (by kernel_rfl) (fun _ _ _ h => h) (Or.inr ⟨rfl, rfl⟩) (by assumption) ?_
                try simp only [Act.put, List.setIfInBounds_toArray, List.set_cons_zero, List.set_cons_succ]
                refine x_take (i := 7) (oi := { dst := some 62, op := Op.call { callee := Callee.value (Operand.func 33), args := #[Operand.tmp 57, Operand.tmp 61], argTypes := #[35, 3] }, type := 4, pos := "law.go:120", after := #[{ on := 2, ground := Ground.data }, { on := 6, ground := Ground.data }, { on := 1, ground := Ground.chain }, { on := 1, ground := Ground.guard }], guard := some (1, true) }) (v := undef) rfl (by kernel_rfl) (by kernel_rfl) (by kernel_rfl) (by kernel_rfl) (by kernel_rfl) (fun _ _ _ h => h) (Or.inr ⟨rfl, rfl⟩) (by assumption) ?_
                try simp only [Act.put, List.setIfInBounds_toArray, List.set_cons_zero, List.set_cons_succ]
                refine x_take (i := 8) (oi := { dst := some 63, op := Op.pick (Operand.tmp 56) (Operand.tmp 62) (Operand.const (Value.bool false)), type := 4, pos := "law.go:120", after := #[{ on := 1, ground := Ground.data }, { on := 7, ground := Ground.data }], guard := none }) (v := ?_) rfl (by kernel_rfl) (by kernel_rfl) (by kernel_rfl) (by kernel_rfl) (by kernel_rfl) (fun _ _ _ h => h) (Or.inl ⟨rfl, ?_⟩) (by assumption) ?_
                rotate_left
                · (intro w' hSw; go_simp; try with_reducible rfl)
                try simp only [Act.put, List.setIfInBounds_toArray, List.set_cons_zero, List.set_cons_succ]
                refine x_take (i := 9) (oi := { dst := some 12, op := Op.assign (Operand.tmp 63), type := 4, pos := "law.go:120", after := #[{ on := 8, ground := Ground.data }, { on := 7, ground := Ground.chain }, { on := 0, ground := Ground.phase }, { on := 1, ground := Ground.phase }, { on := 2, ground := Ground.phase }, { on := 3, ground := Ground.phase }, { on := 4, ground := Ground.phase }, { on := 5, ground := Ground.phase }, { on := 6, ground := Ground.phase }, { on := 7, ground := Ground.phase }, { on := 8, ground := Ground.phase }], guard := none }) (v := ?_) rfl (by kernel_rfl) (by kernel_rfl) (by kernel_rfl) (by kernel_rfl) (by kernel_rfl) (fun _ _ _ h => h) (Or.inl ⟨rfl, ?_⟩) (by assumption) ?_
                rotate_left
                · (intro w' hSw; go_simp; try with_reducible rfl)
                try simp only [Act.put, List.setIfInBounds_toArray, List.set_cons_zero, List.set_cons_succ]
                refine x_done (by kernel_rfl) ?_ _
                go_wp2_with fail
                go_roundg (la - (i + 1))
                case rel => exact ⟨i + 1, false, by omega, rfl, rfl, by go_num, HG', kept_trans K7 (kept_drew (kept_refl _))⟩
                case measure => omega
            · obtain rfl : i = la := by omega
              obtain rfl : g = false := HG.out.symm.trans HBAD.out
              have K8 := kept_trans K6 K7
              go_wp2_with (first
                | (go_at_call 26; ((with_reducible refine (C26.out _).mono ?_); rintro e w10 ⟨rfl, rfl⟩))
                | (go_at_call 13; ((with_reducible refine (C13.out _ K8).mono ?_); rintro e w11 ⟨rfl, k11⟩; replace K8 := kept_trans K8 k11)))
              go_ret
              exact ⟨rfl, K8⟩
end Go.Proofs.YtnjmpjdampdmmaaDoor
