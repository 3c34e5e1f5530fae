/- Joined: O7, O8. -/
import Derived.Test.YtinpmdekdfgiiaaO6
import Derived.Test.YtinpmdekdfgiiaaM4
import Derived.Test.YtinpmdekdfgiiaaE7
import Derived.Test.YtinpmdekdfgiiaaC7
/- The law BranchFormula: the walk. -/
set_option linter.unusedVariables false
set_option linter.unusedSimpArgs false
namespace Go.Proofs.Ytinpmdekdfgiiaa
open Go.RowKit

theorem tf_good {n s : Int} {l : List Nd} (hv : validB n s l = true) (hb : ¬ (0 ≤ s ∧ (20000 < (mn l s.toNat).1 ∨ 1000 < (mn l s.toNat).2))) :
    cntF (tf l s) ≤ 20000 ∧ depF (tf l s) ≤ 1000 ∧ TfOk n l s ∧ (tf l s).l.length ≤ 9223372036854775807 := by
  obtain ⟨hi0, hi1, hln, hs⟩ := valid_start hv
  have lz : (tf l s).l.length ≤ 9223372036854775807 := tf_kids l l.length s
  by_cases h0 : s < 0
  · refine ⟨?_, ?_, tf_shape_neg hi0 h0, lz⟩
    · rw [tf_neg _ h0]; simp [tfE, cntF, cntL]
    · rw [tf_neg _ h0]; simp [tfE, depF, depL]
  · obtain ⟨k, rfl⟩ : ∃ k : Nat, s = k := ⟨s.toNat, by omega⟩
    have hk : k < l.length := by omega
    have h1 := tf_size hv _ k hk (Nat.le_refl _)
    simp only [Int.toNat_natCast] at hb
    exact ⟨Nat.le_trans (h1.1 (by omega)) (by omega), Nat.le_trans h1.2 (by omega), tf_shape hv _ k hk (Nat.le_refl _), lz⟩

set_option maxRecDepth 100000 in
set_option maxHeartbeats 2000000 in
theorem law_formula0 (b s : Int) (A : Option Addr) (c : Nat) (l : List Nd) (more : Int) (w : World) (hl : l.length ≤ 140737488355328) (hr : RN w A l)
    (hx : ¬ ((l.length : Int) ≤ 320) ∨ validB b s l = false ∨ (0 ≤ s ∧ (20000 < (mn l s.toNat).1 ∨ 1000 < (mn l s.toNat).2))) :
    Calls Try.prog 7 #[.agg #[.int .i64 b, .int .i64 s, .slice A l.length c], .int .u16 more] w fun e w' => e = .returned (.bool true) ∧ Kept w w' := by
  have o0 := Own.new w 24 [.int .i64 b, .int .i64 s, .slice A l.length c]
  have q0 := o0.cell (j := 0) rfl
  have q1 := o0.cell (j := 1) rfl
  have q2 := o0.cell (j := 2) rfl
  have K0 : Kept w (w.alloc (.cells ([.int .i64 b, .int .i64 s, .slice A l.length c]).toArray 24)) := kept_alloc (kept_refl w) _
  have hf := fun (w' : World) => few_any b s A c l 320 w' hl
  by_cases hn : (l.length : Int) ≤ 320
  case neg =>
    rw [decide_eq_false hn] at hf
    have F := Lib.hid hf; clear hf hn hr hx
    go_enter Try.func7, Try.ntmps7
    go_wp2_with fail
    with_reducible refine (F.out _).mono ?_
    rintro e w1 ⟨rfl, k⟩
    replace K0 := kept_trans K0 k; replace o0 := o0.kept k
    clear q0 q1 q2 k
    have q0 := o0.cell (j := 0) rfl
    have q1 := o0.cell (j := 1) rfl
    have q2 := o0.cell (j := 2) rfl
    go_wp2_with fail
    with_reducible refine (alive_any _).mono ?_
    rintro e w2 ⟨rfl, k⟩
    replace K0 := kept_trans K0 k; replace o0 := o0.kept k
    clear q0 q1 q2 k
    have q0 := o0.cell (j := 0) rfl
    have q1 := o0.cell (j := 1) rfl
    have q2 := o0.cell (j := 2) rfl
    go_wp2_with fail
    go_ret
    exact ⟨ret_bool (by simp), K0⟩
  case pos =>
    rw [decide_eq_true hn] at hf
    have F := Lib.hid hf; clear hf
    have C15 := fun (w' : World) (k : Kept w w') => rvalid_any b s A c l w' hl (hr.kept k)
    cases hv : validB b s l
    · have C32 := Lib.hid fun (w' : World) (k : Kept w w') => formula32_bad b s A c l w' hl (hr.kept k) hv
      rw [hv] at C15
      replace C15 := Lib.hid C15
      unfold FmBad at *
      clear hv hr hx hn
      go_enter Try.func7, Try.ntmps7
      go_wp2_with fail
      with_reducible refine (F.out _).mono ?_
      rintro e w3 ⟨rfl, k⟩
      replace K0 := kept_trans K0 k; replace o0 := o0.kept k
      clear q0 q1 q2 k
      have q0 := o0.cell (j := 0) rfl
      have q1 := o0.cell (j := 1) rfl
      have q2 := o0.cell (j := 2) rfl
      go_wp2_with fail
      with_reducible refine (C32.out _ K0).mono ?_
      rintro e w4 ⟨rfl, k⟩
      have oC := Own.new w4 52 [.int .i64 0, .int .i64 0, .slice none 0 0]
      replace K0 := kept_trans K0 k; replace o0 := o0.kept k
      have zz := o0.lt
      replace K0 := kept_alloc K0 (.cells ([.int .i64 0, .int .i64 0, .slice none 0 0]).toArray 52); replace o0 := o0.alloc (.cells ([.int .i64 0, .int .i64 0, .slice none 0 0]).toArray 52)
      clear q0 q1 q2 k
      have q0 := o0.cell (j := 0) rfl
      have q1 := o0.cell (j := 1) rfl
      have q2 := o0.cell (j := 2) rfl
      have r0 := oC.cell (j := 0) rfl
      have r1 := oC.cell (j := 1) rfl
      have r2 := oC.cell (j := 2) rfl
      go_wp2_with fail
      with_reducible refine (C15.out _ K0).mono ?_
      rintro e w5 ⟨rfl, k⟩
      replace K0 := kept_trans K0 k; replace o0 := o0.kept k; replace oC := oC.kept k
      clear q0 q1 q2 r0 r1 r2 k
      have q0 := o0.cell (j := 0) rfl
      have q1 := o0.cell (j := 1) rfl
      have q2 := o0.cell (j := 2) rfl
      have r0 := oC.cell (j := 0) rfl
      have r1 := oC.cell (j := 1) rfl
      have r2 := oC.cell (j := 2) rfl
      go_wp2_with fail
      with_reducible refine (same33_zero _).mono ?_
      rintro e w6 ⟨rfl, k⟩
      replace K0 := kept_trans K0 k; replace o0 := o0.kept k; replace oC := oC.kept k
      clear q0 q1 q2 r0 r1 r2 k
      have q0 := o0.cell (j := 0) rfl
      have q1 := o0.cell (j := 1) rfl
      have q2 := o0.cell (j := 2) rfl
      have r0 := oC.cell (j := 0) rfl
      have r1 := oC.cell (j := 1) rfl
      have r2 := oC.cell (j := 2) rfl
      go_wp2_with fail
      with_reducible refine (alive_any _).mono ?_
      rintro e w7 ⟨rfl, k⟩
      replace K0 := kept_trans K0 k; replace o0 := o0.kept k; replace oC := oC.kept k
      clear q0 q1 q2 r0 r1 r2 k
      have q0 := o0.cell (j := 0) rfl
      have q1 := o0.cell (j := 1) rfl
      have q2 := o0.cell (j := 2) rfl
      have r0 := oC.cell (j := 0) rfl
      have r1 := oC.cell (j := 1) rfl
      have r2 := oC.cell (j := 2) rfl
      go_wp2_with fail
      go_ret
      exact ⟨ret_bool (by simp), K0⟩
    · have hb : 0 ≤ s ∧ (20000 < (mn l s.toNat).1 ∨ 1000 < (mn l s.toNat).2) := by
        rcases hx with h | h | h
        · exact absurd hn h
        · rw [hv] at h; cases h
        · exact h
      have C32 := fun (w' : World) (k : Kept w w') => formula32_good b s A c l w' (hr.kept k) hv
      simp only [if_pos hb] at C32
      have C20 := Lib.hid fun (w' : World) (k : Kept w w') => rlength_any b s A c l w' (hr.kept k) hv
      have C34 := Lib.hid fun (w' : World) (k : Kept w w') => rseq34_any b s A c l w' (hr.kept k) hv
      obtain ⟨h6, hbig⟩ := mn_big hv hb.1 hb.2
      rw [hv] at C15
      replace C15 := Lib.hid C15
      have hsq : sqB s l = ((sq l s.toNat : Nat) : Int) := by unfold sqB; rw [if_neg (by omega)]
      have HSQ := Lib.hid hsq; clear hsq
      unfold FmBad at *
      replace C32 := Lib.hid C32
      have b1 : decide ((6 : Int) < (l.length : Int)) = true := decide_eq_true (by omega)
      have b2 : decide (6 < l.length) = true := decide_eq_true (by omega)
      clear hr hx hn
      by_cases h300 : 300 < lenB s l
      · have b3 : decide (300 < lenB s l) = true := decide_eq_true h300
        clear hb hv hbig h6 h300
        go_enter Try.func7, Try.ntmps7
        go_wp2_with fail
        with_reducible refine (F.out _).mono ?_
        rintro e w8 ⟨rfl, k⟩
        replace K0 := kept_trans K0 k; replace o0 := o0.kept k
        clear q0 q1 q2 k
        have q0 := o0.cell (j := 0) rfl
        have q1 := o0.cell (j := 1) rfl
        have q2 := o0.cell (j := 2) rfl
        go_wp2_with fail
        with_reducible refine (C32.out _ K0).mono ?_
        rintro e w9 ⟨rfl, k⟩
        have oC := Own.new w9 52 [.int .i64 0, .int .i64 0, .slice none 0 0]
        replace K0 := kept_trans K0 k; replace o0 := o0.kept k
        have zz := o0.lt
        replace K0 := kept_alloc K0 (.cells ([.int .i64 0, .int .i64 0, .slice none 0 0]).toArray 52); replace o0 := o0.alloc (.cells ([.int .i64 0, .int .i64 0, .slice none 0 0]).toArray 52)
        clear q0 q1 q2 k
        have q0 := o0.cell (j := 0) rfl
        have q1 := o0.cell (j := 1) rfl
        have q2 := o0.cell (j := 2) rfl
        have r0 := oC.cell (j := 0) rfl
        have r1 := oC.cell (j := 1) rfl
        have r2 := oC.cell (j := 2) rfl
        go_wp2_with fail
        with_reducible refine (C15.out _ K0).mono ?_
        rintro e w10 ⟨rfl, k⟩
        replace K0 := kept_trans K0 k; replace o0 := o0.kept k; replace oC := oC.kept k
        clear q0 q1 q2 r0 r1 r2 k
        have q0 := o0.cell (j := 0) rfl
        have q1 := o0.cell (j := 1) rfl
        have q2 := o0.cell (j := 2) rfl
        have r0 := oC.cell (j := 0) rfl
        have r1 := oC.cell (j := 1) rfl
        have r2 := oC.cell (j := 2) rfl
        go_wp2_with fail
        with_reducible refine (C20.out _ K0).mono ?_
        rintro e w11 ⟨rfl, k⟩
        replace K0 := kept_trans K0 k; replace o0 := o0.kept k; replace oC := oC.kept k
        clear q0 q1 q2 r0 r1 r2 k
        have q0 := o0.cell (j := 0) rfl
        have q1 := o0.cell (j := 1) rfl
        have q2 := o0.cell (j := 2) rfl
        have r0 := oC.cell (j := 0) rfl
        have r1 := oC.cell (j := 1) rfl
        have r2 := oC.cell (j := 2) rfl
        go_wp2_with fail
        with_reducible refine (same33_zero _).mono ?_
        rintro e w12 ⟨rfl, k⟩
        replace K0 := kept_trans K0 k; replace o0 := o0.kept k; replace oC := oC.kept k
        clear q0 q1 q2 r0 r1 r2 k
        have q0 := o0.cell (j := 0) rfl
        have q1 := o0.cell (j := 1) rfl
        have q2 := o0.cell (j := 2) rfl
        have r0 := oC.cell (j := 0) rfl
        have r1 := oC.cell (j := 1) rfl
        have r2 := oC.cell (j := 2) rfl
        go_wp2_with fail
        with_reducible refine (alive_any _).mono ?_
        rintro e w13 ⟨rfl, k⟩
        replace K0 := kept_trans K0 k; replace o0 := o0.kept k; replace oC := oC.kept k
        clear q0 q1 q2 r0 r1 r2 k
        have q0 := o0.cell (j := 0) rfl
        have q1 := o0.cell (j := 1) rfl
        have q2 := o0.cell (j := 2) rfl
        have r0 := oC.cell (j := 0) rfl
        have r1 := oC.cell (j := 1) rfl
        have r2 := oC.cell (j := 2) rfl
        go_wp2_with fail
        go_ret
        exact ⟨ret_bool (by simp), K0⟩
      · have b3 : decide (300 < lenB s l) = false := decide_eq_false h300
        have b4 : decide (2000 < sqB s l) = true := decide_eq_true (by rw [HSQ.out]; rcases hbig with h | h <;> omega)
        clear hb hv hbig h6 h300
        go_enter Try.func7, Try.ntmps7
        go_wp2_with fail
        with_reducible refine (F.out _).mono ?_
        rintro e w14 ⟨rfl, k⟩
        replace K0 := kept_trans K0 k; replace o0 := o0.kept k
        clear q0 q1 q2 k
        have q0 := o0.cell (j := 0) rfl
        have q1 := o0.cell (j := 1) rfl
        have q2 := o0.cell (j := 2) rfl
        go_wp2_with fail
        with_reducible refine (C32.out _ K0).mono ?_
        rintro e w15 ⟨rfl, k⟩
        have oC := Own.new w15 52 [.int .i64 0, .int .i64 0, .slice none 0 0]
        replace K0 := kept_trans K0 k; replace o0 := o0.kept k
        have zz := o0.lt
        replace K0 := kept_alloc K0 (.cells ([.int .i64 0, .int .i64 0, .slice none 0 0]).toArray 52); replace o0 := o0.alloc (.cells ([.int .i64 0, .int .i64 0, .slice none 0 0]).toArray 52)
        clear q0 q1 q2 k
        have q0 := o0.cell (j := 0) rfl
        have q1 := o0.cell (j := 1) rfl
        have q2 := o0.cell (j := 2) rfl
        have r0 := oC.cell (j := 0) rfl
        have r1 := oC.cell (j := 1) rfl
        have r2 := oC.cell (j := 2) rfl
        go_wp2_with fail
        with_reducible refine (C15.out _ K0).mono ?_
        rintro e w16 ⟨rfl, k⟩
        replace K0 := kept_trans K0 k; replace o0 := o0.kept k; replace oC := oC.kept k
        clear q0 q1 q2 r0 r1 r2 k
        have q0 := o0.cell (j := 0) rfl
        have q1 := o0.cell (j := 1) rfl
        have q2 := o0.cell (j := 2) rfl
        have r0 := oC.cell (j := 0) rfl
        have r1 := oC.cell (j := 1) rfl
        have r2 := oC.cell (j := 2) rfl
        go_wp2_with fail
        with_reducible refine (C20.out _ K0).mono ?_
        rintro e w17 ⟨rfl, k⟩
        replace K0 := kept_trans K0 k; replace o0 := o0.kept k; replace oC := oC.kept k
        clear q0 q1 q2 r0 r1 r2 k
        have q0 := o0.cell (j := 0) rfl
        have q1 := o0.cell (j := 1) rfl
        have q2 := o0.cell (j := 2) rfl
        have r0 := oC.cell (j := 0) rfl
        have r1 := oC.cell (j := 1) rfl
        have r2 := oC.cell (j := 2) rfl
        go_wp2_with fail
        with_reducible refine (C34.out _ K0).mono ?_
        rintro e w18 ⟨rfl, k⟩
        replace K0 := kept_trans K0 k; replace o0 := o0.kept k; replace oC := oC.kept k
        clear q0 q1 q2 r0 r1 r2 k
        have q0 := o0.cell (j := 0) rfl
        have q1 := o0.cell (j := 1) rfl
        have q2 := o0.cell (j := 2) rfl
        have r0 := oC.cell (j := 0) rfl
        have r1 := oC.cell (j := 1) rfl
        have r2 := oC.cell (j := 2) rfl
        go_wp2_with fail
        with_reducible refine (same33_zero _).mono ?_
        rintro e w19 ⟨rfl, k⟩
        replace K0 := kept_trans K0 k; replace o0 := o0.kept k; replace oC := oC.kept k
        clear q0 q1 q2 r0 r1 r2 k
        have q0 := o0.cell (j := 0) rfl
        have q1 := o0.cell (j := 1) rfl
        have q2 := o0.cell (j := 2) rfl
        have r0 := oC.cell (j := 0) rfl
        have r1 := oC.cell (j := 1) rfl
        have r2 := oC.cell (j := 2) rfl
        go_wp2_with fail
        with_reducible refine (alive_any _).mono ?_
        rintro e w20 ⟨rfl, k⟩
        replace K0 := kept_trans K0 k; replace o0 := o0.kept k; replace oC := oC.kept k
        clear q0 q1 q2 r0 r1 r2 k
        have q0 := o0.cell (j := 0) rfl
        have q1 := o0.cell (j := 1) rfl
        have q2 := o0.cell (j := 2) rfl
        have r0 := oC.cell (j := 0) rfl
        have r1 := oC.cell (j := 1) rfl
        have r2 := oC.cell (j := 2) rfl
        go_wp2_with fail
        go_ret
        exact ⟨ret_bool (by simp), K0⟩

set_option maxRecDepth 100000 in
set_option maxHeartbeats 4000000 in
theorem law_formula1 (n : Nat) (s : Int) (A : Option Addr) (c : Nat) (l : List Nd) (more : Int) (w : World) (hl : l.length ≤ 140737488355328) (hr : RN w A l) (hm : 0 ≤ more ∧ more ≤ 65535)
    (hn : (l.length : Int) ≤ 320) (hv : validB n s l = true) (hb : ¬ (0 ≤ s ∧ (20000 < (mn l s.toNat).1 ∨ 1000 < (mn l s.toNat).2))) :
    Calls Try.prog 7 #[.agg #[.int .i64 n, .int .i64 s, .slice A l.length c], .int .u16 more] w fun e w' => e = .returned (.bool true) ∧ Kept w w' := by
  have o0 := Own.new w 24 [.int .i64 n, .int .i64 s, .slice A l.length c]
  have q0 := o0.cell (j := 0) rfl
  have q1 := o0.cell (j := 1) rfl
  have q2 := o0.cell (j := 2) rfl
  have K0 : Kept w (w.alloc (.cells ([.int .i64 n, .int .i64 s, .slice A l.length c]).toArray 24)) := kept_alloc (kept_refl w) _
  have hf := fun (w' : World) => few_any n s A c l 320 w' hl
  rw [decide_eq_true hn] at hf
  have F := Lib.hid hf; clear hf
  have C15 := fun (w' : World) (k : Kept w w') => rvalid_any n s A c l w' hl (hr.kept k)
  rw [hv] at C15
  replace C15 := Lib.hid C15
  have C32 := fun (w' : World) (k : Kept w w') => formula32_good n s A c l w' (hr.kept k) hv
  simp only [if_neg hb] at C32
  obtain ⟨hc, hd, ⟨hsh, hin, hev⟩, hkl⟩ := tf_good hv hb
  obtain ⟨hi0, hi1, hln, hs⟩ := valid_start hv
  have hn16 : n ≤ 16 := by omega
  have hN : 2 ^ n ≤ 65536 := Nat.pow_le_pow_right (n := 2) (by omega) hn16
  have hw := shl_wrap n hn16
  generalize tf l s = f at *
  have F35 := fun (w' : World) (g : Nat) (A' : Option Addr) (c' : Nat) (h : RK w' A' f.l) (o : Own w' g 52 [.int .i64 f.k, .int .i64 f.n, .slice A' f.l.length c']) => few35_any 20000 f (some ⟨g, 0, none⟩) 1 w' (by omega) (by omega) (rk_new o hkl h)
  rw [decide_eq_true (by omega)] at F35
  replace F35 := Lib.hid F35
  have C36 := fun (A' : Option Addr) (c' : Nat) (w' : World) (h : RK w' A' f.l) => rvalid36_any f A' c' w' hc hd hkl h
  rw [hsh] at C36
  replace C36 := Lib.hid C36
  have C37 := Lib.hid fun (A' : Option Addr) (c' : Nat) (w' : World) (h : RK w' A' f.l) => rinputs37_any (cntF f) f A' c' w' (Nat.le_refl _) hsh hkl h
  have R1 := Lib.hid fun (g a : Nat) (w' : World) (k : Kept w w') (o : Own w' g 4 (bools (ptB n a))) => rrun_pt n s A c l g a w' (hr.kept k) hv o
  have R2 := fun (A' : Option Addr) (c' g a : Nat) (w' : World) (h : RK w' A' f.l) (o : Own w' g 4 (bools (ptB n a))) => reval_pt n f A' c' g a w' hsh ⟨by omega, by omega⟩ h o
  simp only [hev, ← runB_val] at R2
  replace R2 := Lib.hid R2
  have C38 := Lib.hid fun (a : Nat) (h : a < 1000000) (w' : World) => point_any n a w' hn16 h
  unfold FmGood at C32
  replace C32 := Lib.hid C32
  unfold fmV at *
  generalize inpF f = i0 at *
  have b1 : decide ((n : Int) < i0) = false := decide_eq_false (by omega)
  clear hr hs hc hd hsh hin hev hv hb hi0 hi1
  obtain ⟨N, hNe⟩ : ∃ N, N = 2 ^ n := ⟨_, rfl⟩
  rw [← hNe] at hw hN
  have HNE := Lib.hid hNe; clear hNe
  go_enter Try.func7, Try.ntmps7
  go_wp2_with fail
  with_reducible refine (F.out _).mono ?_
  rintro e w21 ⟨rfl, k⟩
  replace K0 := kept_trans K0 k; replace o0 := o0.kept k
  clear q0 q1 q2 k
  have q0 := o0.cell (j := 0) rfl
  have q1 := o0.cell (j := 1) rfl
  have q2 := o0.cell (j := 2) rfl
  go_wp2_with fail
  with_reducible refine (C32.out _ K0).mono ?_
  rintro e w22 ⟨A1, c1, rfl, hC, k⟩
  have oC := Own.new w22 52 [.int .i64 f.k, .int .i64 f.n, .slice A1 f.l.length c1]
  replace hC := hC.kept (kept_alloc (kept_refl _) (.cells ([.int .i64 f.k, .int .i64 f.n, .slice A1 f.l.length c1]).toArray 52))
  replace K0 := kept_trans K0 k; replace o0 := o0.kept k
  have zz := o0.lt
  replace K0 := kept_alloc K0 (.cells ([.int .i64 f.k, .int .i64 f.n, .slice A1 f.l.length c1]).toArray 52); replace o0 := o0.alloc (.cells ([.int .i64 f.k, .int .i64 f.n, .slice A1 f.l.length c1]).toArray 52)
  clear q0 q1 q2 k
  have q0 := o0.cell (j := 0) rfl
  have q1 := o0.cell (j := 1) rfl
  have q2 := o0.cell (j := 2) rfl
  have r0 := oC.cell (j := 0) rfl
  have r1 := oC.cell (j := 1) rfl
  have r2 := oC.cell (j := 2) rfl
  go_wp2_with fail
  with_reducible refine (C15.out _ K0).mono ?_
  rintro e w23 ⟨rfl, k⟩
  replace K0 := kept_trans K0 k; replace o0 := o0.kept k; replace oC := oC.kept k; replace hC := hC.kept k
  clear q0 q1 q2 r0 r1 r2 k
  have q0 := o0.cell (j := 0) rfl
  have q1 := o0.cell (j := 1) rfl
  have q2 := o0.cell (j := 2) rfl
  have r0 := oC.cell (j := 0) rfl
  have r1 := oC.cell (j := 1) rfl
  have r2 := oC.cell (j := 2) rfl
  go_wp2_with fail
  have yr := kept_lt r0
  have yq := kept_lt q0
  refine region_x (fun w' => Kept w23 w') [] (by kernel_rfl) (kept_drew (kept_refl _)) (fun hHeld => ?_)
  refine x_take (i := 0) (oi := { dst := some 61, op := Op.move (Operand.tmp 6), type := 30, pos := "law.go:129", after := #[], guard := none }) (v := ?_) rfl (by kernel_rfl) (by kernel_rfl) (by kernel_rfl) (by kernel_rfl) (by kernel_rfl) (fun _ _ _ h => h) (Or.inl ⟨rfl, ?_⟩) (by assumption) ?_
  rotate_left
  · (intro w' hSw; replace q0 := kept_cell hSw q0; replace q1 := kept_cell hSw q1; replace q2 := kept_cell hSw q2; replace r0 := kept_cell hSw r0; replace r1 := kept_cell hSw r1; replace r2 := kept_cell hSw r2; go_simp; try with_reducible rfl)
  try simp only [Act.put, List.setIfInBounds_toArray, List.set_cons_zero, List.set_cons_succ]
  refine x_take (i := 1) (oi := { dst := some 62, op := Op.binOp BinOp.neq 30 (Operand.tmp 61) (Operand.const (Value.int IntKind.i64 0)) 30, type := 4, pos := "law.go:129", after := #[{ on := 0, ground := Ground.data }], guard := none }) (v := ?_) rfl (by kernel_rfl) (by kernel_rfl) (by kernel_rfl) (by kernel_rfl) (by kernel_rfl) (fun _ _ _ h => h) (Or.inl ⟨rfl, ?_⟩) (by assumption) ?_
  rotate_left
  · (intro w' hSw; replace q0 := kept_cell hSw q0; replace q1 := kept_cell hSw q1; replace q2 := kept_cell hSw q2; replace r0 := kept_cell hSw r0; replace r1 := kept_cell hSw r1; replace r2 := kept_cell hSw r2; go_simp; try with_reducible rfl)
  try simp only [Act.put, List.setIfInBounds_toArray, List.set_cons_zero, List.set_cons_succ]
  refine x_take (i := 2) (oi := { dst := some 63, op := Op.move (Operand.tmp 62), type := 4, pos := "law.go:129", after := #[{ on := 1, ground := Ground.data }], guard := none }) (v := ?_) rfl (by kernel_rfl) (by kernel_rfl) (by kernel_rfl) (by kernel_rfl) (by kernel_rfl) (fun _ _ _ h => h) (Or.inl ⟨rfl, ?_⟩) (by assumption) ?_
  rotate_left
  · (intro w' hSw; replace q0 := kept_cell hSw q0; replace q1 := kept_cell hSw q1; replace q2 := kept_cell hSw q2; replace r0 := kept_cell hSw r0; replace r1 := kept_cell hSw r1; replace r2 := kept_cell hSw r2; go_simp; try with_reducible rfl)
  try simp only [Act.put, List.setIfInBounds_toArray, List.set_cons_zero, List.set_cons_succ]
  refine x_take (i := 3) (oi := { dst := some 64, op := Op.load 52 (Operand.tmp 5), type := 52, pos := "law.go:129", after := #[{ on := 2, ground := Ground.guard }], guard := some (2, false) }) (v := ?_) rfl (by kernel_rfl) (by kernel_rfl) (by kernel_rfl) (by kernel_rfl) (by kernel_rfl) (fun _ _ _ h => h) (Or.inl ⟨rfl, ?_⟩) (by assumption) ?_
  rotate_left
  · (intro w' hSw; replace q0 := kept_cell hSw q0; replace q1 := kept_cell hSw q1; replace q2 := kept_cell hSw q2; replace r0 := kept_cell hSw r0; replace r1 := kept_cell hSw r1; replace r2 := kept_cell hSw r2; go_simp; try with_reducible rfl)
  try simp only [Act.put, List.setIfInBounds_toArray, List.set_cons_zero, List.set_cons_succ]
  refine x_one (i := 4) (o := { dst := some 65, op := Op.buildSlice 50 1 #[(0, Operand.tmp 64)], type := 50, pos := "law.go:129", after := #[{ on := 3, ground := Ground.data }, { on := 2, ground := Ground.guard }], guard := some (2, false) }) (by kernel_rfl) rfl (fun K hK => ?_)
  (go_simp; have oS := (Own.new w23 52 [.int .i64 f.k, .int .i64 f.n, .slice A1 f.l.length c1]).drew)
  refine hK.out _ _ ?_ (fun hHeld => ?_)
  · (try dsimp only); repeat (first | assumption | exact kept_refl _ | refine kept_drew ?_ | refine kept_alloc ?_ _ | refine kept_set ?_ (by omega) _)
  clear hK K
  try simp only [Act.put, List.setIfInBounds_toArray, List.set_cons_zero, List.set_cons_succ]
  refine x_one (i := 5) (o := { dst := some 66, op := Op.call { callee := Callee.value (Operand.func 35), args := #[Operand.const (Value.int IntKind.i64 20000), Operand.tmp 65], argTypes := #[3, 50] }, type := 4, pos := "law.go:129", after := #[{ on := 4, ground := Ground.data }, { on := 2, ground := Ground.chain }, { on := 2, ground := Ground.guard }], guard := some (2, false) }) (by kernel_rfl) rfl (fun K hK => ?_)
  (go_simp; go_at_call 35; with_reducible refine (F35.out _ _ A1 c1 (hC.kept hHeld) oS).mono ?_; rintro e w71 ⟨rfl, k1⟩; have KK1 : Kept w23 w71 := kept_trans hHeld k1; try dsimp only)
  refine hK.out _ _ ?_ (fun hHeld => ?_)
  · (try dsimp only); repeat (first | assumption | exact kept_refl _ | refine kept_drew ?_ | refine kept_alloc ?_ _ | refine kept_set ?_ (by omega) _)
  clear hK K
  try simp only [Act.put, List.setIfInBounds_toArray, List.set_cons_zero, List.set_cons_succ]
  refine x_take (i := 6) (oi := { dst := some 67, op := Op.unOp UnOp.not 4 (Operand.tmp 66), type := 4, pos := "law.go:129", after := #[{ on := 5, ground := Ground.data }, { on := 2, ground := Ground.guard }], guard := some (2, false) }) (v := ?_) rfl (by kernel_rfl) (by kernel_rfl) (by kernel_rfl) (by kernel_rfl) (by kernel_rfl) (fun _ _ _ h => h) (Or.inl ⟨rfl, ?_⟩) (by assumption) ?_
  rotate_left
  · (intro w' hSw; replace q0 := kept_cell hSw q0; replace q1 := kept_cell hSw q1; replace q2 := kept_cell hSw q2; replace r0 := kept_cell hSw r0; replace r1 := kept_cell hSw r1; replace r2 := kept_cell hSw r2; go_simp; try with_reducible rfl)
  try simp only [Act.put, List.setIfInBounds_toArray, List.set_cons_zero, List.set_cons_succ]
  refine x_take (i := 7) (oi := { dst := some 68, op := Op.pick (Operand.tmp 63) (Operand.const (Value.bool true)) (Operand.tmp 67), type := 4, pos := "law.go:129", after := #[{ on := 2, ground := Ground.data }, { on := 6, ground := Ground.data }], guard := none }) (v := ?_) rfl (by kernel_rfl) (by kernel_rfl) (by kernel_rfl) (by kernel_rfl) (by kernel_rfl) (fun _ _ _ h => h) (Or.inl ⟨rfl, ?_⟩) (by assumption) ?_
  rotate_left
  · (intro w' hSw; replace q0 := kept_cell hSw q0; replace q1 := kept_cell hSw q1; replace q2 := kept_cell hSw q2; replace r0 := kept_cell hSw r0; replace r1 := kept_cell hSw r1; replace r2 := kept_cell hSw r2; go_simp; try with_reducible rfl)
  try simp only [Act.put, List.setIfInBounds_toArray, List.set_cons_zero, List.set_cons_succ]
  refine x_take (i := 8) (oi := { dst := some 69, op := Op.move (Operand.tmp 68), type := 4, pos := "law.go:129", after := #[{ on := 7, ground := Ground.data }, { on := 5, ground := Ground.chain }], guard := none }) (v := ?_) rfl (by kernel_rfl) (by kernel_rfl) (by kernel_rfl) (by kernel_rfl) (by kernel_rfl) (fun _ _ _ h => h) (Or.inl ⟨rfl, ?_⟩) (by assumption) ?_
  rotate_left
  · (intro w' hSw; replace q0 := kept_cell hSw q0; replace q1 := kept_cell hSw q1; replace q2 := kept_cell hSw q2; replace r0 := kept_cell hSw r0; replace r1 := kept_cell hSw r1; replace r2 := kept_cell hSw r2; go_simp; try with_reducible rfl)
  try simp only [Act.put, List.setIfInBounds_toArray, List.set_cons_zero, List.set_cons_succ]
  refine x_take (i := 9) (oi := { dst := some 70, op := Op.load 52 (Operand.tmp 5), type := 52, pos := "law.go:129", after := #[{ on := 8, ground := Ground.guard }], guard := some (8, false) }) (v := ?_) rfl (by kernel_rfl) (by kernel_rfl) (by kernel_rfl) (by kernel_rfl) (by kernel_rfl) (fun _ _ _ h => h) (Or.inl ⟨rfl, ?_⟩) (by assumption) ?_
  rotate_left
  · (intro w' hSw; replace q0 := kept_cell hSw q0; replace q1 := kept_cell hSw q1; replace q2 := kept_cell hSw q2; replace r0 := kept_cell hSw r0; replace r1 := kept_cell hSw r1; replace r2 := kept_cell hSw r2; go_simp; try with_reducible rfl)
  try simp only [Act.put, List.setIfInBounds_toArray, List.set_cons_zero, List.set_cons_succ]
  refine x_one (i := 10) (o := { dst := some 71, op := Op.call { callee := Callee.value (Operand.func 36), args := #[Operand.tmp 70], argTypes := #[52] }, type := 4, pos := "law.go:129", after := #[{ on := 9, ground := Ground.data }, { on := 8, ground := Ground.chain }, { on := 8, ground := Ground.guard }], guard := some (8, false) }) (by kernel_rfl) rfl (fun K hK => ?_)
  (go_simp; go_at_call 36; with_reducible refine (C36.out A1 c1 _ (hC.kept hHeld)).mono ?_; rintro e w72 ⟨rfl, k2⟩; have KK2 : Kept w23 w72 := kept_trans hHeld k2; try dsimp only)
  refine hK.out _ _ ?_ (fun hHeld => ?_)
  · (try dsimp only); repeat (first | assumption | exact kept_refl _ | refine kept_drew ?_ | refine kept_alloc ?_ _ | refine kept_set ?_ (by omega) _)
  clear hK K
  try simp only [Act.put, List.setIfInBounds_toArray, List.set_cons_zero, List.set_cons_succ]
  refine x_take (i := 11) (oi := { dst := some 72, op := Op.unOp UnOp.not 4 (Operand.tmp 71), type := 4, pos := "law.go:129", after := #[{ on := 10, ground := Ground.data }, { on := 8, ground := Ground.guard }], guard := some (8, false) }) (v := ?_) rfl (by kernel_rfl) (by kernel_rfl) (by kernel_rfl) (by kernel_rfl) (by kernel_rfl) (fun _ _ _ h => h) (Or.inl ⟨rfl, ?_⟩) (by assumption) ?_
  rotate_left
  · (intro w' hSw; replace q0 := kept_cell hSw q0; replace q1 := kept_cell hSw q1; replace q2 := kept_cell hSw q2; replace r0 := kept_cell hSw r0; replace r1 := kept_cell hSw r1; replace r2 := kept_cell hSw r2; go_simp; try with_reducible rfl)
  try simp only [Act.put, List.setIfInBounds_toArray, List.set_cons_zero, List.set_cons_succ]
  refine x_take (i := 12) (oi := { dst := some 73, op := Op.pick (Operand.tmp 69) (Operand.const (Value.bool true)) (Operand.tmp 72), type := 4, pos := "law.go:129", after := #[{ on := 8, ground := Ground.data }, { on := 11, ground := Ground.data }], guard := none }) (v := ?_) rfl (by kernel_rfl) (by kernel_rfl) (by kernel_rfl) (by kernel_rfl) (by kernel_rfl) (fun _ _ _ h => h) (Or.inl ⟨rfl, ?_⟩) (by assumption) ?_
  rotate_left
  · (intro w' hSw; replace q0 := kept_cell hSw q0; replace q1 := kept_cell hSw q1; replace q2 := kept_cell hSw q2; replace r0 := kept_cell hSw r0; replace r1 := kept_cell hSw r1; replace r2 := kept_cell hSw r2; go_simp; try with_reducible rfl)
  try simp only [Act.put, List.setIfInBounds_toArray, List.set_cons_zero, List.set_cons_succ]
  refine x_take (i := 13) (oi := { dst := some 74, op := Op.move (Operand.tmp 73), type := 4, pos := "law.go:129", after := #[{ on := 12, ground := Ground.data }, { on := 10, ground := Ground.chain }], guard := none }) (v := ?_) rfl (by kernel_rfl) (by kernel_rfl) (by kernel_rfl) (by kernel_rfl) (by kernel_rfl) (fun _ _ _ h => h) (Or.inl ⟨rfl, ?_⟩) (by assumption) ?_
  rotate_left
  · (intro w' hSw; replace q0 := kept_cell hSw q0; replace q1 := kept_cell hSw q1; replace q2 := kept_cell hSw q2; replace r0 := kept_cell hSw r0; replace r1 := kept_cell hSw r1; replace r2 := kept_cell hSw r2; go_simp; try with_reducible rfl)
  try simp only [Act.put, List.setIfInBounds_toArray, List.set_cons_zero, List.set_cons_succ]
  refine x_take (i := 14) (oi := { dst := some 75, op := Op.load 52 (Operand.tmp 5), type := 52, pos := "law.go:129", after := #[{ on := 13, ground := Ground.guard }], guard := some (13, false) }) (v := ?_) rfl (by kernel_rfl) (by kernel_rfl) (by kernel_rfl) (by kernel_rfl) (by kernel_rfl) (fun _ _ _ h => h) (Or.inl ⟨rfl, ?_⟩) (by assumption) ?_
  rotate_left
  · (intro w' hSw; replace q0 := kept_cell hSw q0; replace q1 := kept_cell hSw q1; replace q2 := kept_cell hSw q2; replace r0 := kept_cell hSw r0; replace r1 := kept_cell hSw r1; replace r2 := kept_cell hSw r2; go_simp; try with_reducible rfl)
  try simp only [Act.put, List.setIfInBounds_toArray, List.set_cons_zero, List.set_cons_succ]
  refine x_take (i := 16) (oi := { dst := some 77, op := Op.fieldAddr 24 (Operand.tmp 2) 0, type := 0, pos := "law.go:129", after := #[{ on := 13, ground := Ground.guard }], guard := some (13, false) }) (v := ?_) rfl (by kernel_rfl) (by kernel_rfl) (by kernel_rfl) (by kernel_rfl) (by kernel_rfl) (fun _ _ _ h => h) (Or.inl ⟨rfl, ?_⟩) (by assumption) ?_
  rotate_left
  · (intro w' hSw; replace q0 := kept_cell hSw q0; replace q1 := kept_cell hSw q1; replace q2 := kept_cell hSw q2; replace r0 := kept_cell hSw r0; replace r1 := kept_cell hSw r1; replace r2 := kept_cell hSw r2; go_simp; try with_reducible rfl)
  try simp only [Act.put, List.setIfInBounds_toArray, List.set_cons_zero, List.set_cons_succ]
  refine x_take (i := 17) (oi := { dst := some 78, op := Op.load 3 (Operand.tmp 77), type := 3, pos := "law.go:129", after := #[{ on := 16, ground := Ground.data }, { on := 13, ground := Ground.guard }], guard := some (13, false) }) (v := ?_) rfl (by kernel_rfl) (by kernel_rfl) (by kernel_rfl) (by kernel_rfl) (by kernel_rfl) (fun _ _ _ h => h) (Or.inl ⟨rfl, ?_⟩) (by assumption) ?_
  rotate_left
  · (intro w' hSw; replace q0 := kept_cell hSw q0; replace q1 := kept_cell hSw q1; replace q2 := kept_cell hSw q2; replace r0 := kept_cell hSw r0; replace r1 := kept_cell hSw r1; replace r2 := kept_cell hSw r2; go_simp; try with_reducible rfl)
  try simp only [Act.put, List.setIfInBounds_toArray, List.set_cons_zero, List.set_cons_succ]
  refine x_one (i := 15) (o := { dst := some 76, op := Op.call { callee := Callee.value (Operand.func 37), args := #[Operand.tmp 75], argTypes := #[52] }, type := 3, pos := "law.go:129", after := #[{ on := 14, ground := Ground.data }, { on := 13, ground := Ground.chain }, { on := 13, ground := Ground.guard }], guard := some (13, false) }) (by kernel_rfl) rfl (fun K hK => ?_)
  (go_simp; go_at_call 37; with_reducible refine (C37.out A1 c1 _ (hC.kept hHeld)).mono ?_; rintro e w73 ⟨rfl, k3⟩; have KK3 : Kept w23 w73 := kept_trans hHeld k3; try dsimp only)
  refine hK.out _ _ ?_ (fun hHeld => ?_)
  · (try dsimp only); repeat (first | assumption | exact kept_refl _ | refine kept_drew ?_ | refine kept_alloc ?_ _ | refine kept_set ?_ (by omega) _)
  clear hK K
  try simp only [Act.put, List.setIfInBounds_toArray, List.set_cons_zero, List.set_cons_succ]
  refine x_take (i := 18) (oi := { dst := some 79, op := Op.binOp BinOp.gtr 3 (Operand.tmp 76) (Operand.tmp 78) 3, type := 4, pos := "law.go:129", after := #[{ on := 15, ground := Ground.data }, { on := 17, ground := Ground.data }, { on := 13, ground := Ground.guard }], guard := some (13, false) }) (v := ?_) rfl (by kernel_rfl) (by kernel_rfl) (by kernel_rfl) (by kernel_rfl) (by kernel_rfl) (fun _ _ _ h => h) (Or.inl ⟨rfl, ?_⟩) (by assumption) ?_
  rotate_left
  · (intro w' hSw; replace q0 := kept_cell hSw q0; replace q1 := kept_cell hSw q1; replace q2 := kept_cell hSw q2; replace r0 := kept_cell hSw r0; replace r1 := kept_cell hSw r1; replace r2 := kept_cell hSw r2; go_simp; try with_reducible rfl)
  try simp only [Act.put, List.setIfInBounds_toArray, List.set_cons_zero, List.set_cons_succ]
  refine x_take (i := 19) (oi := { dst := some 80, op := Op.pick (Operand.tmp 74) (Operand.const (Value.bool true)) (Operand.tmp 79), type := 4, pos := "law.go:129", after := #[{ on := 13, ground := Ground.data }, { on := 18, ground := Ground.data }], guard := none }) (v := ?_) rfl (by kernel_rfl) (by kernel_rfl) (by kernel_rfl) (by kernel_rfl) (by kernel_rfl) (fun _ _ _ h => h) (Or.inl ⟨rfl, ?_⟩) (by assumption) ?_
  rotate_left
  · (intro w' hSw; replace q0 := kept_cell hSw q0; replace q1 := kept_cell hSw q1; replace q2 := kept_cell hSw q2; replace r0 := kept_cell hSw r0; replace r1 := kept_cell hSw r1; replace r2 := kept_cell hSw r2; go_simp; try with_reducible rfl)
  try simp only [Act.put, List.setIfInBounds_toArray, List.set_cons_zero, List.set_cons_succ]
  refine x_done (by kernel_rfl) ?_ _
  replace K0 := kept_trans K0 KK3; replace o0 := o0.kept KK3; replace oC := oC.kept KK3; replace hC := hC.kept KK3
  clear q0 q1 q2 r0 r1 r2
  have q0 := o0.cell (j := 0) rfl
  have q1 := o0.cell (j := 1) rfl
  have q2 := o0.cell (j := 2) rfl
  have r0 := oC.cell (j := 0) rfl
  have r1 := oC.cell (j := 1) rfl
  have r2 := oC.cell (j := 2) rfl
  go_wp2_with fail
  clear q0 q1 q2 r0 r1 r2
  go_loopg [8] N (fun g' s8 wr => ∃ i : Nat, i ≤ N ∧ g' = N - i ∧ s8 = .int .i64 i ∧ Own wr w.heap.size 24 [.int .i64 n, .int .i64 s, .slice A l.length c] ∧ Own wr w22.heap.size 52 [.int .i64 f.k, .int .i64 f.n, .slice A1 f.l.length c1] ∧ RK wr A1 f.l ∧ Kept w wr)
  case atStart => exact ⟨0, by omega, rfl, rfl, o0, oC, hC, K0⟩
  case round =>
    clear o0 oC hC K0
    obtain ⟨i, hi, rfl, rfl, o0, oC, hC, K0⟩ := hrel
    have q0 := o0.cell (j := 0) rfl
    have q1 := o0.cell (j := 1) rfl
    have q2 := o0.cell (j := 2) rfl
    have r0 := oC.cell (j := 0) rfl
    have r1 := oC.cell (j := 1) rfl
    have r2 := oC.cell (j := 2) rfl
    have g0 : (0 : Int) ≤ (i : Int) := by omega
    have g1 : (i : Int) ≤ 65536 := by omega
    by_cases hlt : i < N ∧ (n ≤ 8 ∨ i < 64)
    · obtain ⟨hlt, hor⟩ := hlt
      have d1 : decide ((i : Int) < (N : Int)) = true := decide_eq_true (by omega)
      have d2 : decide (i < N) = true := decide_eq_true (by omega)
      by_cases h10 : n ≤ 8
      · have d3 : decide ((n : Int) ≤ 8) = true := decide_eq_true (by omega)
        have d4 : decide (n ≤ 8) = true := decide_eq_true (by omega)
        have d5 : decide (8 < (n : Int)) = false := decide_eq_false (by omega)
        have d6 : decide (8 < n) = false := decide_eq_false (by omega)
        clear hor
        go_wp2_with fail
        with_reducible refine (C38.out i (by omega) _).mono ?_
        rintro e w24 ⟨rfl, oP, k⟩
        replace K0 := kept_trans K0 k; replace o0 := o0.kept k; replace oC := oC.kept k; replace hC := hC.kept k
        clear q0 q1 q2 r0 r1 r2 k
        have q0 := o0.cell (j := 0) rfl
        have q1 := o0.cell (j := 1) rfl
        have q2 := o0.cell (j := 2) rfl
        have r0 := oC.cell (j := 0) rfl
        have r1 := oC.cell (j := 1) rfl
        have r2 := oC.cell (j := 2) rfl
        go_wp2_with fail
        with_reducible refine (R1.out _ (i) _ K0 oP).mono ?_
        rintro e w25 ⟨v25, rfl, k⟩
        replace K0 := kept_trans K0 k; replace o0 := o0.kept k; replace oC := oC.kept k; replace hC := hC.kept k; replace oP := oP.kept k
        clear q0 q1 q2 r0 r1 r2 k
        have q0 := o0.cell (j := 0) rfl
        have q1 := o0.cell (j := 1) rfl
        have q2 := o0.cell (j := 2) rfl
        have r0 := oC.cell (j := 0) rfl
        have r1 := oC.cell (j := 1) rfl
        have r2 := oC.cell (j := 2) rfl
        go_wp2_with fail
        with_reducible refine (R2.out A1 c1 _ (i) _ hC oP).mono ?_
        rintro e w26 ⟨rfl, k⟩
        replace K0 := kept_trans K0 k; replace o0 := o0.kept k; replace oC := oC.kept k; replace hC := hC.kept k; replace oP := oP.kept k
        clear q0 q1 q2 r0 r1 r2 k
        have q0 := o0.cell (j := 0) rfl
        have q1 := o0.cell (j := 1) rfl
        have q2 := o0.cell (j := 2) rfl
        have r0 := oC.cell (j := 0) rfl
        have r1 := oC.cell (j := 1) rfl
        have r2 := oC.cell (j := 2) rfl
        go_wp2_with fail
        go_roundg (N - (i + 1))
        case rel => exact ⟨i + 1, by omega, rfl, by go_num, o0, oC, hC, K0⟩
        case measure => omega
      · have d3 : decide ((n : Int) ≤ 8) = false := decide_eq_false (by omega)
        have d4 : decide (n ≤ 8) = false := decide_eq_false (by omega)
        have d5 : decide (8 < (n : Int)) = true := decide_eq_true (by omega)
        have d6 : decide (8 < n) = true := decide_eq_true (by omega)
        have h64 : i < 64 := by omega
        have d7 : decide ((i : Int) < 64) = true := decide_eq_true (by omega)
        have d8 : decide (i < 64) = true := decide_eq_true (by omega)
        clear hor
        have hN0 : N ≠ 0 := by omega
        have m1 : IntKind.i64.wrap ((i : Int) * 2654435761) = (i : Int) * 2654435761 := IntWalk.i64_in _ (by omega)
        have m2 : IntKind.i64.wrap (2 ^ n) = (N : Int) := by
          have e : ((2 : Int) ^ n) = (N : Int) := by rw [HNE.out]; simp
          rw [e]
          exact IntWalk.i64_in _ (by omega)
        have hNi : ((N : Int) = 0) = False := eq_false (by omega)
        have m3 : ((i : Int) * 2654435761).tmod (N : Int) = ((i * 2654435761 % N : Nat) : Int) := by
          rw [Int.tmod_eq_emod_of_nonneg (by omega)]
          simp
        have ha : i * 2654435761 % N < 1000000 := Nat.lt_of_lt_of_le (Nat.mod_lt _ (by omega)) (by omega)
        obtain ⟨av, hav⟩ : ∃ a, a = i * 2654435761 % N := ⟨_, rfl⟩
        rw [← hav] at m3 ha
        clear hav
        go_wp2_with fail
        with_reducible refine (C38.out i (by omega) _).mono ?_
        rintro e w27 ⟨rfl, oP0, k⟩
        replace K0 := kept_trans K0 k; replace o0 := o0.kept k; replace oC := oC.kept k; replace hC := hC.kept k
        clear q0 q1 q2 r0 r1 r2 k
        have q0 := o0.cell (j := 0) rfl
        have q1 := o0.cell (j := 1) rfl
        have q2 := o0.cell (j := 2) rfl
        have r0 := oC.cell (j := 0) rfl
        have r1 := oC.cell (j := 1) rfl
        have r2 := oC.cell (j := 2) rfl
        go_wp2_with fail
        with_reducible refine (C38.out av ha _).mono ?_
        rintro e w28 ⟨rfl, oP, k⟩
        replace K0 := kept_trans K0 k; replace o0 := o0.kept k; replace oC := oC.kept k; replace hC := hC.kept k
        clear q0 q1 q2 r0 r1 r2 k
        have q0 := o0.cell (j := 0) rfl
        have q1 := o0.cell (j := 1) rfl
        have q2 := o0.cell (j := 2) rfl
        have r0 := oC.cell (j := 0) rfl
        have r1 := oC.cell (j := 1) rfl
        have r2 := oC.cell (j := 2) rfl
        go_wp2_with fail
        with_reducible refine (R1.out _ (av) _ K0 oP).mono ?_
        rintro e w29 ⟨v29, rfl, k⟩
        replace K0 := kept_trans K0 k; replace o0 := o0.kept k; replace oC := oC.kept k; replace hC := hC.kept k; replace oP := oP.kept k
        clear q0 q1 q2 r0 r1 r2 k
        have q0 := o0.cell (j := 0) rfl
        have q1 := o0.cell (j := 1) rfl
        have q2 := o0.cell (j := 2) rfl
        have r0 := oC.cell (j := 0) rfl
        have r1 := oC.cell (j := 1) rfl
        have r2 := oC.cell (j := 2) rfl
        go_wp2_with fail
        with_reducible refine (R2.out A1 c1 _ (av) _ hC oP).mono ?_
        rintro e w30 ⟨rfl, k⟩
        replace K0 := kept_trans K0 k; replace o0 := o0.kept k; replace oC := oC.kept k; replace hC := hC.kept k; replace oP := oP.kept k
        clear q0 q1 q2 r0 r1 r2 k
        have q0 := o0.cell (j := 0) rfl
        have q1 := o0.cell (j := 1) rfl
        have q2 := o0.cell (j := 2) rfl
        have r0 := oC.cell (j := 0) rfl
        have r1 := oC.cell (j := 1) rfl
        have r2 := oC.cell (j := 2) rfl
        go_wp2_with fail
        go_roundg (N - (i + 1))
        case rel => exact ⟨i + 1, by omega, rfl, by go_num, o0, oC, hC, K0⟩
        case measure => omega
    · have hN0 : N ≠ 0 := by have := HNE.out; have := Nat.pos_of_ne_zero (n := 2 ^ n) (by simp); omega
      have m2 : IntKind.i64.wrap (2 ^ n) = (N : Int) := by
        have e : ((2 : Int) ^ n) = (N : Int) := by rw [HNE.out]; simp
        rw [e]
        exact IntWalk.i64_in _ (by omega)
      have hNi : ((N : Int) = 0) = False := eq_false (by omega)
      obtain ⟨mo, hmo⟩ : ∃ m : Nat, more = m := ⟨more.toNat, by omega⟩
      subst hmo
      have m3 : (mo : Int).tmod (N : Int) = ((mo % N : Nat) : Int) := by
        rw [Int.tmod_eq_emod_of_nonneg (by omega)]
        simp
      have m4 : IntKind.i64.wrap (mo : Int) = (mo : Int) := IntWalk.i64_in _ (by omega)
      have ha : mo % N < 1000000 := Nat.lt_of_lt_of_le (Nat.mod_lt _ (by omega)) (by omega)
      obtain ⟨av, hav⟩ : ∃ a, a = mo % N := ⟨_, rfl⟩
      rw [← hav] at m3 ha
      clear hav
      by_cases hin : i < N
      case' pos =>
        have h10 : ¬ n ≤ 8 := fun h => hlt ⟨hin, .inl h⟩
        have h64 : ¬ i < 64 := fun h => hlt ⟨hin, .inr h⟩
        have d1 : decide ((i : Int) < (N : Int)) = true := decide_eq_true (by omega)
        have d2 : decide (i < N) = true := decide_eq_true (by omega)
        have d3 : decide ((n : Int) ≤ 8) = false := decide_eq_false (by omega)
        have d4 : decide (n ≤ 8) = false := decide_eq_false (by omega)
        have d5 : decide ((i : Int) < 64) = false := decide_eq_false (by omega)
        have d6 : decide (i < 64) = false := decide_eq_false (by omega)
        clear hin h10 h64
      case' neg =>
        have d1 : decide ((i : Int) < (N : Int)) = false := decide_eq_false (by omega)
        have d2 : decide (i < N) = false := decide_eq_false (by omega)
        clear hin
      all_goals
        clear hlt
        go_wp2_with fail
        with_reducible refine (C38.out av ha _).mono ?_
        rintro e w31 ⟨rfl, oP, k⟩
        replace K0 := kept_trans K0 k; replace o0 := o0.kept k; replace oC := oC.kept k; replace hC := hC.kept k
        clear q0 q1 q2 r0 r1 r2 k
        have q0 := o0.cell (j := 0) rfl
        have q1 := o0.cell (j := 1) rfl
        have q2 := o0.cell (j := 2) rfl
        have r0 := oC.cell (j := 0) rfl
        have r1 := oC.cell (j := 1) rfl
        have r2 := oC.cell (j := 2) rfl
        go_wp2_with fail
        with_reducible refine (R1.out _ (av) _ K0 oP).mono ?_
        rintro e w32 ⟨v32, rfl, k⟩
        replace K0 := kept_trans K0 k; replace o0 := o0.kept k; replace oC := oC.kept k; replace hC := hC.kept k; replace oP := oP.kept k
        clear q0 q1 q2 r0 r1 r2 k
        have q0 := o0.cell (j := 0) rfl
        have q1 := o0.cell (j := 1) rfl
        have q2 := o0.cell (j := 2) rfl
        have r0 := oC.cell (j := 0) rfl
        have r1 := oC.cell (j := 1) rfl
        have r2 := oC.cell (j := 2) rfl
        go_wp2_with fail
        with_reducible refine (R2.out A1 c1 _ (av) _ hC oP).mono ?_
        rintro e w33 ⟨rfl, k⟩
        replace K0 := kept_trans K0 k; replace o0 := o0.kept k; replace oC := oC.kept k; replace hC := hC.kept k; replace oP := oP.kept k
        clear q0 q1 q2 r0 r1 r2 k
        have q0 := o0.cell (j := 0) rfl
        have q1 := o0.cell (j := 1) rfl
        have q2 := o0.cell (j := 2) rfl
        have r0 := oC.cell (j := 0) rfl
        have r1 := oC.cell (j := 1) rfl
        have r2 := oC.cell (j := 2) rfl
        go_wp2_with fail
        with_reducible refine (alive_any _).mono ?_
        rintro e w34 ⟨rfl, k⟩
        replace K0 := kept_trans K0 k; replace o0 := o0.kept k; replace oC := oC.kept k
        clear q0 q1 q2 r0 r1 r2 k
        have q0 := o0.cell (j := 0) rfl
        have q1 := o0.cell (j := 1) rfl
        have q2 := o0.cell (j := 2) rfl
        have r0 := oC.cell (j := 0) rfl
        have r1 := oC.cell (j := 1) rfl
        have r2 := oC.cell (j := 2) rfl
        go_wp2_with fail
        go_ret
        exact ⟨ret_bool (by simp), K0⟩
theorem law_formula (b s : Int) (A : Option Addr) (c : Nat) (l : List Nd) (more : Int) (w : World) (hl : l.length ≤ 140737488355328) (hr : RN w A l) (hm : 0 ≤ more ∧ more ≤ 65535) :
    Calls Try.prog 7 #[.agg #[.int .i64 b, .int .i64 s, .slice A l.length c], .int .u16 more] w fun e w' => e = .returned (.bool true) ∧ Kept w w' := by
  by_cases hx : ¬ ((l.length : Int) ≤ 320) ∨ validB b s l = false ∨ (0 ≤ s ∧ (20000 < (mn l s.toNat).1 ∨ 1000 < (mn l s.toNat).2))
  · exact law_formula0 b s A c l more w hl hr hx
  · have h1 : (l.length : Int) ≤ 320 := Classical.byContradiction fun h => hx (.inl h)
    have h2 : validB b s l = true := by
      cases hv : validB b s l
      · exact absurd (.inr (.inl hv)) hx
      · rfl
    obtain ⟨hi0, _, _, _⟩ := valid_start h2
    obtain ⟨n, rfl⟩ : ∃ m : Nat, b = m := ⟨b.toNat, by omega⟩
    exact law_formula1 n s A c l more w hl hr hm h1 h2 (fun h => hx (.inr (.inr h)))
end Go.Proofs.Ytinpmdekdfgiiaa

/- For every program and number the law BranchFormula returns true and changes nothing. -/
set_option linter.unusedVariables false
set_option linter.unusedSimpArgs false
namespace Go.Proofs.Ytinpmdekdfgiiaa
open Go.RowKit Go.ChangeShapes Go.WideShapes Go.ChangeAt

set_option maxRecDepth 100000 in
theorem formula_lifted (os : Os) (started : os.Started) (H : Type) (enc : TypeId × Value → H) :
    ReturnsInHanded {} Try.checked os 7 .any (Rows.branchFormulaSpec.pre6 enc Try.prog Try.f7 Rows.branchFormulaRow.domain false) (Rows.branchFormulaSpec.post enc Try.prog Try.f7 false true false false) := by
  refine returnsInHanded_of_change_sized (C := Try.checked) own started (by kernel_rfl) Try.func7
    (ChangeSpec.witness6 (enc := enc) (C := Try.checked) false ⟨#[], #[.agg #[.int .i64 0, .int .i64 0, .slice none 0 0], .int .u16 0], []⟩ 8 (by kernel_rfl) (by kernel_rfl) (by kernel_rfl) (by kernel_rfl)) ?_
  intro W base args ds gs before hval0 hW hcnd hsz0 _
  have hsz : (DataW.weightsEach Try.prog (Try.f7.params.toList ++ Rows.branchFormulaSpec.plain.varTypes Try.prog) (ds ++ gs)).all (· ≤ reachBytes) = true := hsz0
  clear hsz0
  have hval : ∀ (j : Nat) t v, Try.f7.params[j]? = some t → args[j]? = some v → Value.okWide Try.prog W .any base t v := hval0
  have hW' := hW
  obtain ⟨p, q, hA0, hV, rfl, hfz, hnd⟩ := hW
  have hA : DataW.TrodAll enc Try.prog W 0 (fun _ => true) true Try.f7.params.toList args.toList ds p := hA0
  rw [Try.params7] at hA hval hsz
  obtain ⟨v0, v1, d0, d1, p0, p1, rfl, rfl, rfl, h0, h1⟩ := trodAll_two hA
  obtain ⟨rfl, rfl⟩ := trodVars_none hV
  have k0 := h0
  have lt0 : ∀ x ∈ p0, x.block < W.heap.size := by obtain ⟨m, hm⟩ := k0; exact DataW.trod_lt m _ _ _ hm
  have k1 := h1
  have lt1 : ∀ x ∈ p1, x.block < W.heap.size := by obtain ⟨m, hm⟩ := k1; exact DataW.trod_lt m _ _ _ hm
  obtain ⟨i0, s0, A0, c0, l0, rfl, hR0, hlen0⟩ := read_branching (hval 0 24 v0 rfl rfl) h0 hsz
  obtain ⟨x1, rfl, _, _, hw1⟩ := open_int Try.underlying49 (hval 1 49 v1 rfl rfl) h1
  have hb1 : 0 ≤ x1 ∧ x1 ≤ 65535 := u16_bounds hw1
  clear hA0 hval0
  refine (law_formula i0 s0 A0 c0 l0 x1 W hlen0 hR0 hb1).mono fun e W' ⟨he, bel⟩ => ?_
  subst he
  exact ⟨_, rfl, _, _, _, [], _, [], hW', trodAll_mk1 (shut_bool Try.underlying4 _), trodAll_mk2 (Below.trod laidOut (by kernel_rfl) (of_decide_eq_true (by kernel_rfl)) k0 bel lt0) (Below.trod laidOut (by kernel_rfl) (of_decide_eq_true (by kernel_rfl)) k1 bel lt1), rfl, bel.frame _, fun h => by cases h⟩

theorem formula_holds : Rows.BranchFormulaSaid :=
  OpenClaim.holds_of_wide 7 Try.f7 rfl rfl rfl rfl rfl rfl rfl ⟨rfl, rfl, rfl, rfl, rfl⟩ rfl rfl rfl rfl rfl (by kernel_rfl) Try.func7 (by kernel_rfl)
    (of_decide_eq_true (by kernel_rfl)) (by unfold Func.isWrapper; first | (rw [if_pos (by decide +kernel)]; kernel_rfl) | (rw [if_neg (by decide +kernel)]; exact ⟨rfl, rfl⟩))
    (fun os started H enc _ => formula_lifted os started H enc)
end Go.Proofs.Ytinpmdekdfgiiaa
