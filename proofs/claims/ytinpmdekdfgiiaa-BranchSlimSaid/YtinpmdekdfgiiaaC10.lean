/- The law BranchSlim: the walk. -/
import Derived.Test.YtinpmdekdfgiiaaC6
import Derived.Test.YtinpmdekdfgiiaaE7
set_option linter.unusedVariables false
set_option linter.unusedSimpArgs false
namespace Go.Proofs.Ytinpmdekdfgiiaa
open Go.RowKit

set_option maxRecDepth 100000 in
set_option maxHeartbeats 1000000 in
theorem law_slim (i s : Int) (A : Option Addr) (c : Nat) (l : List Nd) (more : Int) (w : World) (hm : l.length ≤ 140737488355328) (hr : RN w A l) (hb : 0 ≤ more ∧ more ≤ 65535) :
    Calls Try.prog 8 #[.agg #[.int .i64 i, .int .i64 s, .slice A l.length c], .int .u16 more] w fun e w' => e = .returned (.bool true) ∧ Kept w w' := by
  have o0 := Own.new w 24 [.int .i64 i, .int .i64 s, .slice A l.length c]
  have q0 := o0.cell (j := 0) rfl; have q1 := o0.cell (j := 1) rfl; have q2 := o0.cell (j := 2) rfl
  have K0 : Kept w (w.alloc (.cells #[.int .i64 i, .int .i64 s, .slice A l.length c] 24)) := kept_alloc (kept_refl w) _
  have C15 := Lib.hid fun (w' : World) (k : Kept w w') => rvalid_any i s A c l w' hm (hr.kept k)
  have hf := fun (w' : World) => few_any i s A c l 300 w' hm
  by_cases hn : (l.length : Int) ≤ 300
  · rw [decide_eq_true hn] at hf
    have F := Lib.hid hf; clear hf hn
    cases hv : validB i s l
    · have C40 := Lib.hid fun (w' : World) (k : Kept w w') => slim_bad i s A c l w' hm (hr.kept k) hv
      rw [hv] at C15
      clear hv hr
      go_enter Try.func8, Try.ntmps8
      go_wp2_with fail
      refine (F.out _).mono ?_
      rintro e w1 ⟨rfl, k⟩
      replace K0 := kept_trans K0 k; replace o0 := o0.kept k; have q0 := o0.cell (j := 0) rfl; have q1 := o0.cell (j := 1) rfl; have q2 := o0.cell (j := 2) rfl
      clear k
      go_wp2_with fail
      refine (C40.out _ K0).mono ?_
      rintro e w2 ⟨rfl, k⟩
      have oC := Own.new w2 24 [.int .i64 0, .int .i64 0, .slice none 0 0]
      replace K0 := kept_trans K0 k; replace o0 := o0.kept k; have q0 := o0.cell (j := 0) rfl; have q1 := o0.cell (j := 1) rfl; have q2 := o0.cell (j := 2) rfl
      have zz := o0.lt
      replace K0 := kept_alloc K0 (.cells ([.int .i64 0, .int .i64 0, .slice none 0 0]).toArray 24)
      replace o0 := o0.alloc (.cells ([.int .i64 0, .int .i64 0, .slice none 0 0]).toArray 24)
      clear k
      go_wp2_with fail
      refine (C15.out _ K0).mono ?_
      rintro e w3 ⟨rfl, k⟩
      replace K0 := kept_trans K0 k; replace o0 := o0.kept k; have q0 := o0.cell (j := 0) rfl; have q1 := o0.cell (j := 1) rfl; have q2 := o0.cell (j := 2) rfl
      replace oC := oC.kept k; have r0 := oC.cell (j := 0) rfl; have r1 := oC.cell (j := 1) rfl; have r2 := oC.cell (j := 2) rfl
      clear k
      go_wp2_with fail
      refine (none_zero _).mono ?_
      rintro e w4 ⟨rfl, k⟩
      replace K0 := kept_trans K0 k; replace o0 := o0.kept k; have q0 := o0.cell (j := 0) rfl; have q1 := o0.cell (j := 1) rfl; have q2 := o0.cell (j := 2) rfl
      clear k
      go_wp2_with fail
      refine (alive_any _).mono ?_
      rintro e w5 ⟨rfl, k⟩
      replace K0 := kept_trans K0 k; replace o0 := o0.kept k; have q0 := o0.cell (j := 0) rfl; have q1 := o0.cell (j := 1) rfl; have q2 := o0.cell (j := 2) rfl
      clear k
      go_wp2_with fail
      go_ret
      exact ⟨ret_bool (by simp), K0⟩
    · obtain ⟨hi0, hi1, hln, hs⟩ := valid_start hv
      obtain ⟨n, rfl⟩ : ∃ n : Nat, i = n := ⟨i.toNat, by omega⟩
      obtain ⟨t1, t2, t3, t4⟩ := slim_ok hv
      have C40 := Lib.hid fun (w' : World) (k : Kept w w') => slim_good n s A c l w' (hr.kept k) hv
      unfold SlimPost at C40
      generalize rstart (slS s l) (slL s l) = rs at *
      generalize rnodes (slS s l) (slL s l) = rn at *
      have D15 := Lib.hid fun (w' : World) (A' : Option Addr) (c' : Nat) (h : RN w' A' rn) => rvalid_any n rs A' c' rn w' (by omega) h
      have D42 := Lib.hid fun (w' : World) (A' : Option Addr) (c' : Nat) (h : RN w' A' rn) => rslim_any n rs A' c' rn w' h t1 t4
      have D43 := Lib.hid fun (w' : World) (k : Kept w w') (A' : Option Addr) (c' : Nat) (h : RN w' A' rn) => alike_any n s rs A A' c c' l rn more w' (hr.kept k) h hv t1 t2 hb.1 hb.2
      rw [hv] at C15
      rw [t1] at D15
      have hd : decide ((rn.length : Int) ≤ (l.length : Int)) = true := decide_eq_true (by omega)
      have hd' : decide (rn.length ≤ l.length) = true := decide_eq_true t3
      clear hv hr t1 t2 t4 hs
      go_enter Try.func8, Try.ntmps8
      go_wp2_with fail
      refine (F.out _).mono ?_
      rintro e w6 ⟨rfl, k⟩
      replace K0 := kept_trans K0 k; replace o0 := o0.kept k; have q0 := o0.cell (j := 0) rfl; have q1 := o0.cell (j := 1) rfl; have q2 := o0.cell (j := 2) rfl
      clear k
      go_wp2_with fail
      refine (C40.out _ K0).mono ?_
      rintro e w7 ⟨v, rfl, A1, c1, rfl, hrow, k⟩
      have hC : RN _ A1 rn := row_rd hrow; have oC := Own.new w7 24 [.int .i64 n, .int .i64 rs, .slice A1 rn.length c1]
      replace K0 := kept_trans K0 k; replace o0 := o0.kept k; have q0 := o0.cell (j := 0) rfl; have q1 := o0.cell (j := 1) rfl; have q2 := o0.cell (j := 2) rfl
      have zz := o0.lt
      replace K0 := kept_alloc K0 (.cells ([.int .i64 n, .int .i64 rs, .slice A1 rn.length c1]).toArray 24)
      replace o0 := o0.alloc (.cells ([.int .i64 n, .int .i64 rs, .slice A1 rn.length c1]).toArray 24)
      replace hC := Rd.kept hC (kept_alloc (kept_refl _) (.cells ([.int .i64 n, .int .i64 rs, .slice A1 rn.length c1]).toArray 24)); clear k hrow
      go_wp2_with fail
      refine (C15.out _ K0).mono ?_
      rintro e w8 ⟨rfl, k⟩
      replace K0 := kept_trans K0 k; replace o0 := o0.kept k; have q0 := o0.cell (j := 0) rfl; have q1 := o0.cell (j := 1) rfl; have q2 := o0.cell (j := 2) rfl
      replace oC := oC.kept k; have r0 := oC.cell (j := 0) rfl; have r1 := oC.cell (j := 1) rfl; have r2 := oC.cell (j := 2) rfl; replace hC := hC.kept k
      clear k
      go_wp2_with fail
      refine (D15.out _ _ _ hC).mono ?_
      rintro e w9 ⟨rfl, k⟩
      replace K0 := kept_trans K0 k; replace o0 := o0.kept k; have q0 := o0.cell (j := 0) rfl; have q1 := o0.cell (j := 1) rfl; have q2 := o0.cell (j := 2) rfl
      replace oC := oC.kept k; have r0 := oC.cell (j := 0) rfl; have r1 := oC.cell (j := 1) rfl; have r2 := oC.cell (j := 2) rfl; replace hC := hC.kept k
      clear k
      go_wp2_with fail
      refine (D42.out _ _ _ hC).mono ?_
      rintro e w10 ⟨rfl, k⟩
      replace K0 := kept_trans K0 k; replace o0 := o0.kept k; have q0 := o0.cell (j := 0) rfl; have q1 := o0.cell (j := 1) rfl; have q2 := o0.cell (j := 2) rfl
      replace oC := oC.kept k; have r0 := oC.cell (j := 0) rfl; have r1 := oC.cell (j := 1) rfl; have r2 := oC.cell (j := 2) rfl; replace hC := hC.kept k
      clear k
      go_wp2_with fail
      refine (D43.out _ K0 _ _ hC).mono ?_
      rintro e w11 ⟨rfl, k⟩
      replace K0 := kept_trans K0 k; replace o0 := o0.kept k; have q0 := o0.cell (j := 0) rfl; have q1 := o0.cell (j := 1) rfl; have q2 := o0.cell (j := 2) rfl
      replace oC := oC.kept k; have r0 := oC.cell (j := 0) rfl; have r1 := oC.cell (j := 1) rfl; have r2 := oC.cell (j := 2) rfl; replace hC := hC.kept k
      clear k
      go_wp2_with fail
      refine (alive_any _).mono ?_
      rintro e w12 ⟨rfl, k⟩
      replace K0 := kept_trans K0 k; replace o0 := o0.kept k; have q0 := o0.cell (j := 0) rfl; have q1 := o0.cell (j := 1) rfl; have q2 := o0.cell (j := 2) rfl
      clear k
      go_wp2_with fail
      go_ret
      exact ⟨ret_bool (by simp), K0⟩
  · rw [decide_eq_false hn] at hf
    have F := Lib.hid hf; clear hf hn hr
    go_enter Try.func8, Try.ntmps8
    go_wp2_with fail
    refine (F.out _).mono ?_
    rintro e w13 ⟨rfl, k⟩
    replace K0 := kept_trans K0 k; replace o0 := o0.kept k; have q0 := o0.cell (j := 0) rfl; have q1 := o0.cell (j := 1) rfl; have q2 := o0.cell (j := 2) rfl
    clear k
    go_wp2_with fail
    refine (alive_any _).mono ?_
    rintro e w14 ⟨rfl, k⟩
    replace K0 := kept_trans K0 k; replace o0 := o0.kept k; have q0 := o0.cell (j := 0) rfl; have q1 := o0.cell (j := 1) rfl; have q2 := o0.cell (j := 2) rfl
    clear k
    go_wp2_with fail
    go_ret
    exact ⟨ret_bool (by simp), K0⟩
end Go.Proofs.Ytinpmdekdfgiiaa
