/- Trees: the law TreeValues. -/
import Derived.Test.YtikfeemmjfoffaaDoorW20
set_option linter.unusedVariables false
set_option linter.unusedSimpArgs false
namespace Go.Proofs.YtikfeemmjfoffaaDoor
open Go.RowKit Go.Shelf

set_option maxRecDepth 100000 in
set_option maxHeartbeats 1000000 in
theorem law4_any (t : Tr) (A : Option Addr) (c : Nat) (T : Option Addr) (d : Nat) (w : World) (hlib : LibOk w) (hA : Rd w A (ints t.lv)) (hT : RT w T t.tb) (hl : t.lv.length ≤ 140737488355328) (ht : t.tb.length ≤ 140737488355328) :
    Calls Tryd.prog 4 #[trV t A c T d] w fun e w' => e = .returned (.bool true) ∧ Kept w w' := by
  have o0 := Own.new w 25 [.int .i64 t.h, .int .i64 t.b, .slice A t.lv.length c, .slice T t.tb.length d]
  have KK := kept_alloc (kept_refl w) (.cells #[.int .i64 t.h, .int .i64 t.b, .slice A t.lv.length c, .slice T t.tb.length d] 25)
  have q0 := o0.cell (j := 0) rfl; have q1 := o0.cell (j := 1) rfl; have q2 := o0.cell (j := 2) rfl; have q3 := o0.cell (j := 3) rfl
  have C8 := Lib.hid fun (w' : World) (k : Kept w w') => alive8 w' (hlib.kept k)
  have C7 := Lib.hid fun (w' : World) (k : Kept w w') => few7_any 260000 (by omega) (by omega) t A c T d w' (hT.kept k) hl ht
  cases hf : fewB 260000 t with
  | false =>
    rw [hf] at C7
    clear hA hT hlib hf
    go_enter Tryd.func4, Tryd.ntmps4
    go_wp2_with (first | (go_at_call 7; ((with_reducible refine (C7.out _ KK).mono ?_); rintro e w1 ⟨rfl, k1⟩; replace KK := kept_trans KK k1; replace q0 := kept_cell k1 q0; replace q1 := kept_cell k1 q1; replace q2 := kept_cell k1 q2; replace q3 := kept_cell k1 q3; (try replace r5 := r5.kept k1); (try replace r6 := r6.kept k1); clear k1)) | (go_at_call 8; ((with_reducible refine (C8.out _ KK).mono ?_); rintro e w1 ⟨rfl, k1⟩; replace KK := kept_trans KK k1; replace q0 := kept_cell k1 q0; replace q1 := kept_cell k1 q1; replace q2 := kept_cell k1 q2; replace q3 := kept_cell k1 q3; (try replace r5 := r5.kept k1); (try replace r6 := r6.kept k1); clear k1)))
    go_ret
    exact ⟨rfl, KK⟩
  | true =>
    rw [hf] at C7
    have C9 := Lib.hid fun (w' : World) (k : Kept w w') => rvalid9_any t.h t.b A c t.lv T d t.tb w' (hA.kept k) (hT.kept k) hl ht
    have C18 := Lib.hid fun (w' : World) (k : Kept w w') => valid18_any t.h t.b A c t.lv T d t.tb w' (hA.kept k) (hT.kept k) hl ht
    cases hv : validT t with
    | false =>
      rw [show validT ⟨t.h, t.b, t.lv, t.tb⟩ = false from hv] at C9 C18
      have C16 := Lib.hid fun (w' : World) (k : Kept w w') => eval16_no t hv A c T d w' (hA.kept k) (hT.kept k) hl ht
      have C17 := Lib.hid fun (w' : World) (k : Kept w w') => values17_no t hv A c T d w' (hA.kept k) (hT.kept k) hl ht
      clear hA hT hlib hf hv
      go_enter Tryd.func4, Tryd.ntmps4
      go_wp2_with (first | (go_at_call 7; ((with_reducible refine (C7.out _ KK).mono ?_); rintro e w1 ⟨rfl, k1⟩; replace KK := kept_trans KK k1; replace q0 := kept_cell k1 q0; replace q1 := kept_cell k1 q1; replace q2 := kept_cell k1 q2; replace q3 := kept_cell k1 q3; (try replace r5 := r5.kept k1); (try replace r6 := r6.kept k1); clear k1)) | (go_at_call 16; ((with_reducible refine (C16.out _ KK).mono ?_); rintro e w1 ⟨rfl, k1⟩; replace KK := kept_trans KK k1; replace q0 := kept_cell k1 q0; replace q1 := kept_cell k1 q1; replace q2 := kept_cell k1 q2; replace q3 := kept_cell k1 q3; (try replace r5 := r5.kept k1); (try replace r6 := r6.kept k1); clear k1)) | (go_at_call 17; ((with_reducible refine (C17.out _ KK).mono ?_); rintro e w1 ⟨rfl, k1⟩; replace KK := kept_trans KK k1; replace q0 := kept_cell k1 q0; replace q1 := kept_cell k1 q1; replace q2 := kept_cell k1 q2; replace q3 := kept_cell k1 q3; (try replace r5 := r5.kept k1); (try replace r6 := r6.kept k1); clear k1)) | (go_at_call 9; ((with_reducible refine (C9.out _ KK).mono ?_); rintro e w1 ⟨rfl, k1⟩; replace KK := kept_trans KK k1; replace q0 := kept_cell k1 q0; replace q1 := kept_cell k1 q1; replace q2 := kept_cell k1 q2; replace q3 := kept_cell k1 q3; (try replace r5 := r5.kept k1); (try replace r6 := r6.kept k1); clear k1)) | (go_at_call 18; ((with_reducible refine (C18.out _ KK).mono ?_); rintro e w1 ⟨rfl, k1⟩; replace KK := kept_trans KK k1; replace q0 := kept_cell k1 q0; replace q1 := kept_cell k1 q1; replace q2 := kept_cell k1 q2; replace q3 := kept_cell k1 q3; (try replace r5 := r5.kept k1); (try replace r6 := r6.kept k1); clear k1)) | (go_at_call 8; ((with_reducible refine (C8.out _ KK).mono ?_); rintro e w1 ⟨rfl, k1⟩; replace KK := kept_trans KK k1; replace q0 := kept_cell k1 q0; replace q1 := kept_cell k1 q1; replace q2 := kept_cell k1 q2; replace q3 := kept_cell k1 q3; (try replace r5 := r5.kept k1); (try replace r6 := r6.kept k1); clear k1)))
      go_ret
      exact ⟨rfl, KK⟩
    | true =>
      have g := good_of hv
      rw [show validT ⟨t.h, t.b, t.lv, t.tb⟩ = true from hv] at C9 C18
      obtain ⟨L, hL⟩ : ∃ L, L = valsW t (t.tb.length + t.lv.length) := ⟨_, rfl⟩
      have hLl : L.length ≤ 140737488355328 := by have := g.tb64; have := g.lv64; rw [hL, valsW_length]; omega
      have C16 := Lib.hid fun (w' : World) (k : Kept w w') => eval16_yes t hv A c T d w' (hA.kept k) (hT.kept k)
      have C17 := Lib.hid fun (w' : World) (k : Kept w w') => show Calls Tryd.prog 17 #[trV t A c T d] w' (ValuesPost L w') from by rw [hL]; exact values17_yes t hv A c T d w' (hA.kept k) (hT.kept k)
      have C19 := Lib.hid fun (w' : World) (k : Kept w w') => show Calls Tryd.prog 19 #[trV t A c T d, .int .i64 0] w' fun e w'' => e = .returned (.int .i64 (valW t 0)) ∧ Kept w' w'' from value19_any t g A c T d _ 0 w' (Nat.le_refl _) (by omega) (hA.kept k) (hT.kept k)
      have C21 := Lib.hid fun (w' : World) (k : Kept w w') => show Calls Tryd.prog 21 #[trV t A c T d] w' (RowPost L w') from by rw [hL]; exact rvalues21_any t g A c T d w' (hA.kept k) (hT.kept k)
      have C20 := Lib.hid fun (A B : Option Addr) (c d : Nat) (w' : World) (h1 : Rd w' A (ints L)) (h2 : Rd w' B (ints L)) => show Calls Tryd.prog 20 #[.slice A L.length c, .slice B L.length d] w' fun e w'' => e = .returned (.bool true) ∧ Kept w' w'' from by
        have := sameints_any A B L.length L.length c d L L w' h1 h2 rfl rfl hLl
        rw [decide_eq_true rfl] at this
        exact this
      clear hA hT hlib hf hv hL g
      go_enter Tryd.func4, Tryd.ntmps4
      go_wp2_with (first | (go_at_call 7; ((with_reducible refine (C7.out _ KK).mono ?_); rintro e w1 ⟨rfl, k1⟩; replace KK := kept_trans KK k1; replace q0 := kept_cell k1 q0; replace q1 := kept_cell k1 q1; replace q2 := kept_cell k1 q2; replace q3 := kept_cell k1 q3; (try replace r5 := r5.kept k1); (try replace r6 := r6.kept k1); clear k1)) | (go_at_call 16; ((with_reducible refine (C16.out _ KK).mono ?_); rintro e w1 ⟨rfl, k1⟩; replace KK := kept_trans KK k1; replace q0 := kept_cell k1 q0; replace q1 := kept_cell k1 q1; replace q2 := kept_cell k1 q2; replace q3 := kept_cell k1 q3; (try replace r5 := r5.kept k1); (try replace r6 := r6.kept k1); clear k1)) | (go_at_call 17; ((with_reducible refine (C17.out _ KK).mono ?_); rintro e w1 ⟨v5, rfl, hr5, k1⟩; obtain ⟨A5, c5, rfl, hr5'⟩ := row_form hr5; have r5 := row_rd hr5'; clear hr5 hr5'; replace KK := kept_trans KK k1; replace q0 := kept_cell k1 q0; replace q1 := kept_cell k1 q1; replace q2 := kept_cell k1 q2; replace q3 := kept_cell k1 q3; clear k1; have k1 := kept_refl w1; replace KK := kept_trans KK k1; replace q0 := kept_cell k1 q0; replace q1 := kept_cell k1 q1; replace q2 := kept_cell k1 q2; replace q3 := kept_cell k1 q3; (try replace r5 := r5.kept k1); (try replace r6 := r6.kept k1); clear k1)) | (go_at_call 9; ((with_reducible refine (C9.out _ KK).mono ?_); rintro e w1 ⟨rfl, k1⟩; replace KK := kept_trans KK k1; replace q0 := kept_cell k1 q0; replace q1 := kept_cell k1 q1; replace q2 := kept_cell k1 q2; replace q3 := kept_cell k1 q3; (try replace r5 := r5.kept k1); (try replace r6 := r6.kept k1); clear k1)) | (go_at_call 18; ((with_reducible refine (C18.out _ KK).mono ?_); rintro e w1 ⟨rfl, k1⟩; replace KK := kept_trans KK k1; replace q0 := kept_cell k1 q0; replace q1 := kept_cell k1 q1; replace q2 := kept_cell k1 q2; replace q3 := kept_cell k1 q3; (try replace r5 := r5.kept k1); (try replace r6 := r6.kept k1); clear k1)) | (go_at_call 19; ((with_reducible refine (C19.out _ KK).mono ?_); rintro e w1 ⟨rfl, k1⟩; replace KK := kept_trans KK k1; replace q0 := kept_cell k1 q0; replace q1 := kept_cell k1 q1; replace q2 := kept_cell k1 q2; replace q3 := kept_cell k1 q3; (try replace r5 := r5.kept k1); (try replace r6 := r6.kept k1); clear k1)) | (go_at_call 21; ((with_reducible refine (C21.out _ KK).mono ?_); rintro e w1 ⟨v6, rfl, hr6, k1⟩; obtain ⟨A6, c6, rfl, hr6'⟩ := row_form hr6; replace r5 := r5.kept k1; have r6 := row_rd hr6'; clear hr6 hr6'; replace KK := kept_trans KK k1; replace q0 := kept_cell k1 q0; replace q1 := kept_cell k1 q1; replace q2 := kept_cell k1 q2; replace q3 := kept_cell k1 q3; clear k1; have k1 := kept_refl w1; replace KK := kept_trans KK k1; replace q0 := kept_cell k1 q0; replace q1 := kept_cell k1 q1; replace q2 := kept_cell k1 q2; replace q3 := kept_cell k1 q3; (try replace r5 := r5.kept k1); (try replace r6 := r6.kept k1); clear k1)) | (go_at_call 20; ((with_reducible refine (C20.out _ _ _ _ _ r5 r6).mono ?_); rintro e w1 ⟨rfl, k1⟩; replace KK := kept_trans KK k1; replace q0 := kept_cell k1 q0; replace q1 := kept_cell k1 q1; replace q2 := kept_cell k1 q2; replace q3 := kept_cell k1 q3; (try replace r5 := r5.kept k1); (try replace r6 := r6.kept k1); clear k1)) | (go_at_call 8; ((with_reducible refine (C8.out _ KK).mono ?_); rintro e w1 ⟨rfl, k1⟩; replace KK := kept_trans KK k1; replace q0 := kept_cell k1 q0; replace q1 := kept_cell k1 q1; replace q2 := kept_cell k1 q2; replace q3 := kept_cell k1 q3; (try replace r5 := r5.kept k1); (try replace r6 := r6.kept k1); clear k1)))
      go_ret
      exact ⟨rfl, KK⟩
end Go.Proofs.YtikfeemmjfoffaaDoor
