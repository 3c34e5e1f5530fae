/- The law BranchRuns: the walk. -/
import Derived.Test.YtinpmdekdfgiiaaC3
set_option linter.unusedVariables false
set_option linter.unusedSimpArgs false
namespace Go.Proofs.Ytinpmdekdfgiiaa
open Go.RowKit

theorem runF_len (l : List Nd) (x : Nat → Bool) : ∀ (f : Nat) (c : Int), (runF l x f c).2.length ≤ f
  | 0, c => by simp [runF]
  | f + 1, c => by
    have ih := runF_len l x f
    unfold runF
    split
    · simp
    · have := ih (if x (nv l c.toNat).toNat then no l c.toNat else nz l c.toNat)
      first
        | (simp only [List.length_cons]; omega)
        | (simp; grind)
/-- What Run answers: a value, a way and a word. -/
def RunIs (b : Bool) (p : List Int) (g : Int) (w : World) (e : Ending) (w' : World) : Prop :=
  ∃ A c, e = .returned (.tuple #[.bool b, .slice A p.length c, .int .i64 g]) ∧ Kept w w' ∧ Rd w' A (ints p)

set_option maxRecDepth 100000 in
set_option maxHeartbeats 1000000 in
theorem law_runs (i s : Int) (A : Option Addr) (c : Nat) (l : List Nd) (X : Option Addr) (cx : Nat) (x : List Bool) (w : World) (hm : l.length ≤ 140737488355328) (hr : RN w A l) (hmx : x.length ≤ 140737488355328) (hX : Rd w X (bools x)) :
    Calls Try.prog 5 #[.agg #[.int .i64 i, .int .i64 s, .slice A l.length c], .slice X x.length cx] w fun e w' => e = .returned (.bool true) ∧ Kept w w' := by
  have o0 := Own.new w 24 [.int .i64 i, .int .i64 s, .slice A l.length c]
  have q0 := o0.cell (j := 0) rfl; have q1 := o0.cell (j := 1) rfl; have q2 := o0.cell (j := 2) rfl
  have K0 : Kept w (w.alloc (.cells #[.int .i64 i, .int .i64 s, .slice A l.length c] 24)) := kept_alloc (kept_refl w) _
  have C15 := Lib.hid fun (w' : World) (k : Kept w w') => rvalid_any i s A c l w' hm (hr.kept k)
  have R0 : ∀ (w' : World) (k : Kept w w'), Calls Try.prog 26 #[.agg #[.int .i64 i, .int .i64 s, .slice A l.length c], .slice X x.length cx] w' (RunPost i s x.length l x w') := fun w' k => Run_any i s A c l X x.length cx x w' hm (hr.kept k) (hX.kept k) rfl hmx
  have hf := fun (w' : World) => few_any i s A c l 300 w' hm
  by_cases hn : (l.length : Int) ≤ 300
  · rw [decide_eq_true hn] at hf
    have F := Lib.hid hf; clear hf hn
    by_cases hx : 100 < x.length
    · clear hr hX
      go_enter Try.func5, Try.ntmps5
      go_wp2_with fail
      refine (F.out _).mono ?_
      rintro e w3 ⟨rfl, k⟩
      replace K0 := kept_trans K0 k; replace o0 := o0.kept k; have q0 := o0.cell (j := 0) rfl; have q1 := o0.cell (j := 1) rfl; have q2 := o0.cell (j := 2) rfl
      clear k
      go_wp2_with fail
      refine (alive_any _).mono ?_
      rintro e w4 ⟨rfl, k⟩
      replace K0 := kept_trans K0 k; replace o0 := o0.kept k; have q0 := o0.cell (j := 0) rfl; have q1 := o0.cell (j := 1) rfl; have q2 := o0.cell (j := 2) rfl
      clear k
      go_wp2_with fail
      go_ret
      exact ⟨ret_bool (by simp), K0⟩
    · cases hv : validB i s l
      · have R : ∀ (w' : World) (k : Kept w w'), Calls Try.prog 26 #[.agg #[.int .i64 i, .int .i64 s, .slice A l.length c], .slice X x.length cx] w' (RunIs false [] 1 w') := fun w' k => (R0 w' k).mono (by
          rintro e w1 ⟨v, p, he, hrow, hp, k1⟩
          rw [hv] at he hp
          simp only [Bool.false_and, Bool.false_eq_true, if_false, false_and] at he hp
          subst hp
          obtain ⟨A1, c1, rfl, hrow⟩ := row_form hrow
          exact ⟨A1, c1, he, k1, row_rd hrow⟩)
        have C26 := Lib.hid R; clear R R0
        have T : ∀ (w' : World) (k : Kept w w'), Calls Try.prog 27 #[.agg #[.int .i64 i, .int .i64 s, .slice A l.length c]] w' (fun e w1 => e = .returned (.tuple #[.slice none 0 0, .int .i64 1]) ∧ Kept w' w1) := fun w' k => (table_bad i s A c l w' hm (hr.kept k) (Or.inl hv)).mono (by
          rintro e w1 ⟨k1, h⟩
          rcases h with ⟨_, h⟩ | ⟨h, _⟩ | ⟨h, _⟩
          · exact ⟨h, k1⟩
          · rw [hv] at h; cases h
          · rw [hv] at h; cases h)
        have C27 := Lib.hid T; clear T
        rw [hv] at C15
        clear hv hr hX
        go_enter Try.func5, Try.ntmps5
        go_wp2_with fail
        refine (F.out _).mono ?_
        rintro e w5 ⟨rfl, k⟩
        replace K0 := kept_trans K0 k; replace o0 := o0.kept k; have q0 := o0.cell (j := 0) rfl; have q1 := o0.cell (j := 1) rfl; have q2 := o0.cell (j := 2) rfl
        clear k
        go_wp2_with fail
        refine (C26.out _ K0).mono ?_
        rintro e w6 ⟨A1, c1, rfl, k, hA1⟩
        replace K0 := kept_trans K0 k; replace o0 := o0.kept k; have q0 := o0.cell (j := 0) rfl; have q1 := o0.cell (j := 1) rfl; have q2 := o0.cell (j := 2) rfl
        clear k
        go_wp2_with fail
        refine (C27.out _ K0).mono ?_
        rintro e w7 ⟨rfl, k⟩
        replace K0 := kept_trans K0 k; replace o0 := o0.kept k; have q0 := o0.cell (j := 0) rfl; have q1 := o0.cell (j := 1) rfl; have q2 := o0.cell (j := 2) rfl
        clear k
        go_wp2_with fail
        refine (C15.out _ K0).mono ?_
        rintro e w8 ⟨rfl, k⟩
        replace K0 := kept_trans K0 k; replace o0 := o0.kept k; have q0 := o0.cell (j := 0) rfl; have q1 := o0.cell (j := 1) rfl; have q2 := o0.cell (j := 2) rfl
        clear k
        go_wp2_with fail
        refine (alive_any _).mono ?_
        rintro e w9 ⟨rfl, k⟩
        replace K0 := kept_trans K0 k; replace o0 := o0.kept k; have q0 := o0.cell (j := 0) rfl; have q1 := o0.cell (j := 1) rfl; have q2 := o0.cell (j := 2) rfl
        clear k
        go_wp2_with fail
        go_ret
        exact ⟨ret_bool (by simp), K0⟩
      · obtain ⟨hi0, hi1, hln, hs⟩ := valid_start hv
        obtain ⟨n, rfl⟩ : ∃ n : Nat, i = n := ⟨i.toNat, by omega⟩
        have T : ∀ (w' : World) (k : Kept w w'), 12 < n → Calls Try.prog 27 #[.agg #[.int .i64 n, .int .i64 s, .slice A l.length c]] w' (fun e w1 => e = .returned (.tuple #[.slice none 0 0, .int .i64 5]) ∧ Kept w' w1) := fun w' k h12 => (table_bad n s A c l w' hm (hr.kept k) (Or.inr (by omega))).mono (by
          rintro e w1 ⟨k1, h⟩
          rcases h with ⟨h, _⟩ | ⟨_, _, h⟩ | ⟨_, h, _⟩
          · rw [hv] at h; cases h
          · exact ⟨h, k1⟩
          · omega)
        have T2 : ∀ (w' : World) (k : Kept w w'), n ≤ 12 → Calls Try.prog 27 #[.agg #[.int .i64 n, .int .i64 s, .slice A l.length c]] w' (fun e w1 => ∃ g, e = .returned (.tuple #[.slice (some ⟨g, 0, none⟩) (2 ^ n) (2 ^ n), .int .i64 0]) ∧ Own w1 g 4 (bools (tabB n s l)) ∧ Kept w' w1) := fun w' k h12 => (table_good n s A c l w' (hr.kept k) hv h12).mono (by
          rintro e w1 ⟨k1, h⟩
          rcases h with ⟨h, _⟩ | ⟨_, h, _⟩ | ⟨_, _, g, h, _, ho⟩
          · rw [hv] at h; cases h
          · omega
          · exact ⟨g, by simpa using h, by simpa using ho, k1⟩)
        by_cases hxn : x.length = n
        · have hn16 : n ≤ 16 := by omega
          have R : ∀ (w' : World) (k : Kept w w'), Calls Try.prog 26 #[.agg #[.int .i64 n, .int .i64 s, .slice A l.length c], .slice X x.length cx] w' (RunIs (runB s l (xs x)) (wayB s l (xs x)) 0 w') := fun w' k => (R0 w' k).mono (by
            rintro e w1 ⟨v, p, he, hrow, hp, k1⟩
            have hne : (x.length : Int) = (n : Int) := by omega
            rw [hv] at he hp
            simp only [hne, decide_true, Bool.true_and, if_true, and_self] at he hp
            subst hp
            obtain ⟨A1, c1, rfl, hrow⟩ := row_form hrow
            exact ⟨A1, c1, he, k1, row_rd hrow⟩)
          have C26 := Lib.hid R; clear R R0
          have C28 : ∀ (w' : World) (k : Kept w w'), Calls Try.prog 28 #[.agg #[.int .i64 n, .int .i64 s, .slice A l.length c], .slice X x.length cx] w' (fun e w1 => ∃ A2 c2, e = .returned (.tuple #[.bool (runB s l (xs x)), .slice A2 (wayB s l (xs x)).length c2]) ∧ Kept w' w1 ∧ Rd w1 A2 (ints (wayB s l (xs x)))) := fun w' k => (rrun_any n s A c l X x.length cx x w' (hr.kept k) hv (hX.kept k) rfl (by omega)).mono (by
            rintro e w1 ⟨v, he, hrow, k1⟩
            obtain ⟨A1, c1, rfl, hrow⟩ := row_form hrow
            exact ⟨A1, c1, he, k1, row_rd hrow⟩)
          have hwl : (wayB s l (xs x)).length ≤ 140737488355328 := Nat.le_trans (runF_len _ _ _ _) hm
          obtain ⟨b, hb⟩ : ∃ b, b = runB s l (xs x) := ⟨_, rfl⟩
          obtain ⟨way, hway⟩ : ∃ way, way = wayB s l (xs x) := ⟨_, rfl⟩
          rw [← hb, ← hway] at C26 C28
          rw [← hway] at hwl
          rw [hxn] at C26 C28 hx
          rw [hxn]
          have C28 := Lib.hid C28
          clear hb hway hxn hmx
          by_cases h12 : 12 < n
          · have C27 := Lib.hid fun (w' : World) (k : Kept w w') => T w' k h12
            rw [hv] at C15
            clear T T2 hv hr hX
            go_enter Try.func5, Try.ntmps5
            go_wp2_with fail
            refine (F.out _).mono ?_
            rintro e w22 ⟨rfl, k⟩
            replace K0 := kept_trans K0 k; replace o0 := o0.kept k; have q0 := o0.cell (j := 0) rfl; have q1 := o0.cell (j := 1) rfl; have q2 := o0.cell (j := 2) rfl
            clear k
            go_wp2_with fail
            refine (C26.out _ K0).mono ?_
            rintro e w23 ⟨A1, c1, rfl, k, hA1⟩
            replace K0 := kept_trans K0 k; replace o0 := o0.kept k; have q0 := o0.cell (j := 0) rfl; have q1 := o0.cell (j := 1) rfl; have q2 := o0.cell (j := 2) rfl
            clear k
            go_wp2_with fail
            refine (C27.out _ K0).mono ?_
            rintro e w24 ⟨rfl, k⟩
            replace K0 := kept_trans K0 k; replace o0 := o0.kept k; have q0 := o0.cell (j := 0) rfl; have q1 := o0.cell (j := 1) rfl; have q2 := o0.cell (j := 2) rfl
            replace hA1 := hA1.kept k
            clear k
            go_wp2_with fail
            refine (C15.out _ K0).mono ?_
            rintro e w25 ⟨rfl, k⟩
            replace K0 := kept_trans K0 k; replace o0 := o0.kept k; have q0 := o0.cell (j := 0) rfl; have q1 := o0.cell (j := 1) rfl; have q2 := o0.cell (j := 2) rfl
            replace hA1 := hA1.kept k
            clear k
            go_wp2_with fail
            refine (C28.out _ K0).mono ?_
            rintro e w26 ⟨A2, c2, rfl, k, hA2⟩
            replace K0 := kept_trans K0 k; replace o0 := o0.kept k; have q0 := o0.cell (j := 0) rfl; have q1 := o0.cell (j := 1) rfl; have q2 := o0.cell (j := 2) rfl
            replace hA1 := hA1.kept k
            clear k
            go_wp2_with fail
            refine (sameints_any _ _ _ _ _ _ _ _ _ hA1 hA2 rfl rfl hwl).mono ?_
            rintro e w27 ⟨rfl, k⟩
            replace K0 := kept_trans K0 k; replace o0 := o0.kept k; have q0 := o0.cell (j := 0) rfl; have q1 := o0.cell (j := 1) rfl; have q2 := o0.cell (j := 2) rfl
            clear k
            go_wp2_with fail
            refine (alive_any _).mono ?_
            rintro e w28 ⟨rfl, k⟩
            replace K0 := kept_trans K0 k; replace o0 := o0.kept k; have q0 := o0.cell (j := 0) rfl; have q1 := o0.cell (j := 1) rfl; have q2 := o0.cell (j := 2) rfl
            clear k
            go_wp2_with fail
            go_ret
            exact ⟨ret_bool (by simp), K0⟩
          · have C27 := Lib.hid fun (w' : World) (k : Kept w w') => T2 w' k (by omega)
            have C31 := Lib.hid fun (w' : World) (k : Kept w w') => truth_any n s A c l w' (hr.kept k) hv
            have hN : 2 ^ n ≤ 65536 := Nat.pow_le_pow_right (n := 2) (by omega) (show n ≤ 16 by omega)
            have HT : (tabB n s l).length = 2 ^ n := by simp [tabB]
            rw [hv] at C15
            clear T T2 hv hr hX
            go_enter Try.func5, Try.ntmps5
            go_wp2_with fail
            refine (F.out _).mono ?_
            rintro e w22 ⟨rfl, k⟩
            replace K0 := kept_trans K0 k; replace o0 := o0.kept k; have q0 := o0.cell (j := 0) rfl; have q1 := o0.cell (j := 1) rfl; have q2 := o0.cell (j := 2) rfl
            clear k
            go_wp2_with fail
            refine (C26.out _ K0).mono ?_
            rintro e w23 ⟨A1, c1, rfl, k, hA1⟩
            replace K0 := kept_trans K0 k; replace o0 := o0.kept k; have q0 := o0.cell (j := 0) rfl; have q1 := o0.cell (j := 1) rfl; have q2 := o0.cell (j := 2) rfl
            clear k
            go_wp2_with fail
            refine (C27.out _ K0).mono ?_
            rintro e w29 ⟨g, rfl, oT, k⟩
            replace K0 := kept_trans K0 k; replace o0 := o0.kept k; have q0 := o0.cell (j := 0) rfl; have q1 := o0.cell (j := 1) rfl; have q2 := o0.cell (j := 2) rfl
            replace hA1 := hA1.kept k
            clear k
            go_wp2_with fail
            refine (C15.out _ K0).mono ?_
            rintro e w30 ⟨rfl, k⟩
            replace K0 := kept_trans K0 k; replace o0 := o0.kept k; have q0 := o0.cell (j := 0) rfl; have q1 := o0.cell (j := 1) rfl; have q2 := o0.cell (j := 2) rfl
            replace hA1 := hA1.kept k; replace oT := oT.kept k
            clear k
            go_wp2_with fail
            refine (C28.out _ K0).mono ?_
            rintro e w31 ⟨A2, c2, rfl, k, hA2⟩
            replace K0 := kept_trans K0 k; replace o0 := o0.kept k; have q0 := o0.cell (j := 0) rfl; have q1 := o0.cell (j := 1) rfl; have q2 := o0.cell (j := 2) rfl
            replace hA1 := hA1.kept k; replace oT := oT.kept k
            clear k
            go_wp2_with fail
            refine (sameints_any _ _ _ _ _ _ _ _ _ hA1 hA2 rfl rfl hwl).mono ?_
            rintro e w32 ⟨rfl, k⟩
            replace K0 := kept_trans K0 k; replace o0 := o0.kept k; have q0 := o0.cell (j := 0) rfl; have q1 := o0.cell (j := 1) rfl; have q2 := o0.cell (j := 2) rfl
            replace oT := oT.kept k
            clear k
            go_wp2_with fail
            refine (C31.out _ K0).mono ?_
            rintro e w33 ⟨g2, rfl, _, oU, k⟩
            replace K0 := kept_trans K0 k; replace o0 := o0.kept k; have q0 := o0.cell (j := 0) rfl; have q1 := o0.cell (j := 1) rfl; have q2 := o0.cell (j := 2) rfl
            replace oT := oT.kept k
            clear k
            go_wp2_with fail
            refine (samebools_any _ _ _ _ _ _ _ _ _ oT.rd oU.rd HT.symm HT.symm (by omega)).mono ?_
            rintro e w34 ⟨rfl, k⟩
            replace K0 := kept_trans K0 k; replace o0 := o0.kept k; have q0 := o0.cell (j := 0) rfl; have q1 := o0.cell (j := 1) rfl; have q2 := o0.cell (j := 2) rfl
            clear k
            go_wp2_with fail
            refine (alive_any _).mono ?_
            rintro e w35 ⟨rfl, k⟩
            replace K0 := kept_trans K0 k; replace o0 := o0.kept k; have q0 := o0.cell (j := 0) rfl; have q1 := o0.cell (j := 1) rfl; have q2 := o0.cell (j := 2) rfl
            clear k
            go_wp2_with fail
            go_ret
            exact ⟨ret_bool (by simp), K0⟩
        · have R : ∀ (w' : World) (k : Kept w w'), Calls Try.prog 26 #[.agg #[.int .i64 n, .int .i64 s, .slice A l.length c], .slice X x.length cx] w' (RunIs false [] 2 w') := fun w' k => (R0 w' k).mono (by
            rintro e w1 ⟨v, p, he, hrow, hp, k1⟩
            have hne : ¬ ((x.length : Int) = (n : Int)) := by omega
            rw [hv] at he hp
            simp only [hne, decide_false, Bool.false_and, Bool.and_false, if_true, if_false, and_false] at he hp
            subst hp
            obtain ⟨A1, c1, rfl, hrow⟩ := row_form hrow
            exact ⟨A1, c1, he, k1, row_rd hrow⟩)
          have C26 := Lib.hid R; clear R R0
          by_cases h12 : 12 < n
          · have C27 := Lib.hid fun (w' : World) (k : Kept w w') => T w' k h12
            rw [hv] at C15
            clear T T2 hv hr hX
            go_enter Try.func5, Try.ntmps5
            go_wp2_with fail
            refine (F.out _).mono ?_
            rintro e w10 ⟨rfl, k⟩
            replace K0 := kept_trans K0 k; replace o0 := o0.kept k; have q0 := o0.cell (j := 0) rfl; have q1 := o0.cell (j := 1) rfl; have q2 := o0.cell (j := 2) rfl
            clear k
            go_wp2_with fail
            refine (C26.out _ K0).mono ?_
            rintro e w11 ⟨A1, c1, rfl, k, hA1⟩
            replace K0 := kept_trans K0 k; replace o0 := o0.kept k; have q0 := o0.cell (j := 0) rfl; have q1 := o0.cell (j := 1) rfl; have q2 := o0.cell (j := 2) rfl
            clear k
            go_wp2_with fail
            refine (C27.out _ K0).mono ?_
            rintro e w12 ⟨rfl, k⟩
            replace K0 := kept_trans K0 k; replace o0 := o0.kept k; have q0 := o0.cell (j := 0) rfl; have q1 := o0.cell (j := 1) rfl; have q2 := o0.cell (j := 2) rfl
            clear k
            go_wp2_with fail
            refine (C15.out _ K0).mono ?_
            rintro e w13 ⟨rfl, k⟩
            replace K0 := kept_trans K0 k; replace o0 := o0.kept k; have q0 := o0.cell (j := 0) rfl; have q1 := o0.cell (j := 1) rfl; have q2 := o0.cell (j := 2) rfl
            clear k
            go_wp2_with fail
            refine (alive_any _).mono ?_
            rintro e w14 ⟨rfl, k⟩
            replace K0 := kept_trans K0 k; replace o0 := o0.kept k; have q0 := o0.cell (j := 0) rfl; have q1 := o0.cell (j := 1) rfl; have q2 := o0.cell (j := 2) rfl
            clear k
            go_wp2_with fail
            go_ret
            exact ⟨ret_bool (by simp), K0⟩
          · have C27 := Lib.hid fun (w' : World) (k : Kept w w') => T2 w' k (by omega)
            have C31 := Lib.hid fun (w' : World) (k : Kept w w') => truth_any n s A c l w' (hr.kept k) hv
            have hN : 2 ^ n ≤ 65536 := Nat.pow_le_pow_right (n := 2) (by omega) (show n ≤ 16 by omega)
            have HT : (tabB n s l).length = 2 ^ n := by simp [tabB]
            rw [hv] at C15
            clear T T2 hv hr hX
            go_enter Try.func5, Try.ntmps5
            go_wp2_with fail
            refine (F.out _).mono ?_
            rintro e w15 ⟨rfl, k⟩
            replace K0 := kept_trans K0 k; replace o0 := o0.kept k; have q0 := o0.cell (j := 0) rfl; have q1 := o0.cell (j := 1) rfl; have q2 := o0.cell (j := 2) rfl
            clear k
            go_wp2_with fail
            refine (C26.out _ K0).mono ?_
            rintro e w16 ⟨A1, c1, rfl, k, hA1⟩
            replace K0 := kept_trans K0 k; replace o0 := o0.kept k; have q0 := o0.cell (j := 0) rfl; have q1 := o0.cell (j := 1) rfl; have q2 := o0.cell (j := 2) rfl
            clear k
            go_wp2_with fail
            refine (C27.out _ K0).mono ?_
            rintro e w17 ⟨g, rfl, oT, k⟩
            replace K0 := kept_trans K0 k; replace o0 := o0.kept k; have q0 := o0.cell (j := 0) rfl; have q1 := o0.cell (j := 1) rfl; have q2 := o0.cell (j := 2) rfl
            clear k
            go_wp2_with fail
            refine (C15.out _ K0).mono ?_
            rintro e w18 ⟨rfl, k⟩
            replace K0 := kept_trans K0 k; replace o0 := o0.kept k; have q0 := o0.cell (j := 0) rfl; have q1 := o0.cell (j := 1) rfl; have q2 := o0.cell (j := 2) rfl
            replace oT := oT.kept k
            clear k
            go_wp2_with fail
            refine (C31.out _ K0).mono ?_
            rintro e w19 ⟨g2, rfl, _, oU, k⟩
            replace K0 := kept_trans K0 k; replace o0 := o0.kept k; have q0 := o0.cell (j := 0) rfl; have q1 := o0.cell (j := 1) rfl; have q2 := o0.cell (j := 2) rfl
            replace oT := oT.kept k
            clear k
            go_wp2_with fail
            refine (samebools_any _ _ _ _ _ _ _ _ _ oT.rd oU.rd HT.symm HT.symm (by omega)).mono ?_
            rintro e w20 ⟨rfl, k⟩
            replace K0 := kept_trans K0 k; replace o0 := o0.kept k; have q0 := o0.cell (j := 0) rfl; have q1 := o0.cell (j := 1) rfl; have q2 := o0.cell (j := 2) rfl
            clear k
            go_wp2_with fail
            refine (alive_any _).mono ?_
            rintro e w21 ⟨rfl, k⟩
            replace K0 := kept_trans K0 k; replace o0 := o0.kept k; have q0 := o0.cell (j := 0) rfl; have q1 := o0.cell (j := 1) rfl; have q2 := o0.cell (j := 2) rfl
            clear k
            go_wp2_with fail
            go_ret
            exact ⟨ret_bool (by simp), K0⟩
  · rw [decide_eq_false hn] at hf
    have F := Lib.hid hf; clear hf hn R0 hr hX
    go_enter Try.func5, Try.ntmps5
    go_wp2_with fail
    refine (F.out _).mono ?_
    rintro e w1 ⟨rfl, k⟩
    replace K0 := kept_trans K0 k; replace o0 := o0.kept k; have q0 := o0.cell (j := 0) rfl; have q1 := o0.cell (j := 1) rfl; have q2 := o0.cell (j := 2) rfl
    clear k
    go_wp2_with fail
    refine (alive_any _).mono ?_
    rintro e w2 ⟨rfl, k⟩
    replace K0 := kept_trans K0 k; replace o0 := o0.kept k; have q0 := o0.cell (j := 0) rfl; have q1 := o0.cell (j := 1) rfl; have q2 := o0.cell (j := 2) rfl
    clear k
    go_wp2_with fail
    go_ret
    exact ⟨ret_bool (by simp), K0⟩
end Go.Proofs.Ytinpmdekdfgiiaa
