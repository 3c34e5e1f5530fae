/- Polynomials: the law PolyFunctions, walked. (printed by genL8.py) -/
import Derived.Test.YtnjmpjdampdmmaaDoorD3
import Derived.Test.YtnjmpjdampdmmaaDoorA6
import Derived.Test.YtnjmpjdampdmmaaDoorL6
set_option linter.unusedVariables false
set_option linter.unusedSimpArgs false
namespace Go.Proofs.YtnjmpjdampdmmaaDoor
open Go.RowKit Go.Shelf

theorem ord_range (P M : Int) : 0 ≤ ordF P M ∧ ordF P M ≤ 65536 := by
  cases h : okF P M with
  | true => have := ord_ok h; omega
  | false =>
    have := ord_bad h
    omega
theorem few_pow {q : Int} {N : Nat} (h : fewQ q N = true) : 0 < q ∧ ∀ i, i ≤ N → q.toNat ^ i ≤ 256 := by
  unfold fewQ at h
  rw [Bool.and_eq_true, decide_eq_true_eq, decide_eq_true_eq] at h
  refine ⟨h.1, fun i hi => ?_⟩
  have h1 := fwT_pow N 1 h.2
  have h2 := h.2
  rw [h1, Int.one_mul] at h2
  obtain ⟨Q, rfl⟩ : ∃ Q : Nat, q = Q := ⟨q.toNat, by omega⟩
  rw [← Int.natCast_pow] at h2
  have h3 : Q ^ i ≤ Q ^ N := Nat.pow_le_pow_right (by omega) hi
  rw [Int.toNat_natCast]
  omega
set_option maxRecDepth 100000 in
set_option maxHeartbeats 1000000 in
theorem law8_out (P M : Int) (n : Int) (p : List Tm) (A : Option Addr) (c : Nat) (r : List Tm) (B : Option Addr) (d : Nat) (z : Int) (w : World) (hp : PowOk w) (hP : RP w A p) (hl : p.length ≤ 140737488355328) (hR : RP w B r) (hl2 : r.length ≤ 140737488355328) (hn : n < 0 ∨ 8 < n) :
    Calls Tryd.prog 8 #[fV P M, .int .i64 n, .agg #[.slice A p.length c, .slice B r.length d, .int .i64 z]] w fun e w' => e = .returned (.bool true) ∧ Kept w w' := by
  have K0 := kept_alloc (kept_refl w) (.cells #[.int .i64 P, .int .i64 M] 23)
  have K1 := kept_alloc K0 (.cells #[.slice A p.length c, .slice B r.length d, .int .i64 z] 51)
  have o3 := (Own.new w 23 [.int .i64 P, .int .i64 M]).alloc (.cells #[.slice A p.length c, .slice B r.length d, .int .i64 z] 51)
  have o5 := Own.new (w.alloc (.cells #[.int .i64 P, .int .i64 M] 23)) 51 [.slice A p.length c, .slice B r.length d, .int .i64 z]
  obtain ⟨w0, hw0⟩ : ∃ w0, w0 = (w.alloc (.cells #[.int .i64 P, .int .i64 M] 23)).alloc (.cells #[.slice A p.length c, .slice B r.length d, .int .i64 z] 51) := ⟨_, rfl⟩
  have hz0 : (w.alloc (.cells #[.int .i64 P, .int .i64 M] 23)).heap.size = w.heap.size + 1 := by simp
  rw [hz0] at o5
  have o5' : Own w0 (w.heap.size + 1) 51 [.slice A p.length c, .slice B r.length d, .int .i64 z] := by rw [hw0]; exact o5
  rw [← hw0] at K1 o3
  have HW0 := Lib.hid hw0
  have C12 := Lib.hid (few12_any 60 [p, r] (some ⟨w0.heap.size, 0, none⟩) 2 (w0.alloc (.cells #[.slice A p.length c, .slice B r.length d] 25)) (by decide) (by decide) (rpp_two (hP.kept K1) (hR.kept K1) hl hl2) (by simp))
  rw [show ([p, r] : List (List Tm)).length = 2 from rfl] at C12
  have C13 := Lib.hid fun w' (k : Kept w w') => alive13_any w' (hp.kept k)
  have C36 := Lib.hid fun w' => rorder36_any P M w'
  have K2 := kept_alloc K1 (.cells #[.slice A p.length c, .slice B r.length d] 25)
  have o3' := o3.alloc (.cells #[.slice A p.length c, .slice B r.length d] 25)
  have o5'' := o5'.alloc (.cells #[.slice A p.length c, .slice B r.length d] 25)
  clear o5 hz0 hw0
  unfold fV
  clear hP hp hR C12
  by_cases hneg : n < 0
  · have d1 : decide (n < 0) = true := decide_eq_true hneg
    clear hn hneg
    go_enter Tryd.func8, Tryd.ntmps8
    go_upto_region 1 with fail
    rw [← HW0.out]
    go_wp2_with (go_at_call 13; ((with_reducible refine (C13.out _ K1).mono ?_); rintro e w9 ⟨rfl, k9⟩; replace K1 := kept_trans K1 k9))
    go_ret
    exact ⟨rfl, K1⟩
  · have d1 : decide (n < 0) = false := decide_eq_false hneg
    have d2 : decide (8 < n) = true := decide_eq_true (by omega)
    clear hn hneg
    go_enter Tryd.func8, Tryd.ntmps8
    go_upto_region 1 with fail
    rw [← HW0.out]
    go_wp2_with (go_at_call 13; ((with_reducible refine (C13.out _ K1).mono ?_); rintro e w9 ⟨rfl, k9⟩; replace K1 := kept_trans K1 k9))
    go_ret
    exact ⟨rfl, K1⟩
set_option maxRecDepth 100000 in
set_option maxHeartbeats 1000000 in
theorem law8_few0 (P M : Int) (N : Nat) (n : Int) (en : n = (N : Int)) (hN : N ≤ 8) (p : List Tm) (A : Option Addr) (c : Nat) (r : List Tm) (B : Option Addr) (d : Nat) (z : Int) (w : World) (hp : PowOk w) (hP : RP w A p) (hl : p.length ≤ 140737488355328) (hR : RP w B r) (hl2 : r.length ≤ 140737488355328) (hf : fewB 60 [p, r] = false) :
    Calls Tryd.prog 8 #[fV P M, .int .i64 n, .agg #[.slice A p.length c, .slice B r.length d, .int .i64 z]] w fun e w' => e = .returned (.bool true) ∧ Kept w w' := by
  have K0 := kept_alloc (kept_refl w) (.cells #[.int .i64 P, .int .i64 M] 23)
  have K1 := kept_alloc K0 (.cells #[.slice A p.length c, .slice B r.length d, .int .i64 z] 51)
  have o3 := (Own.new w 23 [.int .i64 P, .int .i64 M]).alloc (.cells #[.slice A p.length c, .slice B r.length d, .int .i64 z] 51)
  have o5 := Own.new (w.alloc (.cells #[.int .i64 P, .int .i64 M] 23)) 51 [.slice A p.length c, .slice B r.length d, .int .i64 z]
  obtain ⟨w0, hw0⟩ : ∃ w0, w0 = (w.alloc (.cells #[.int .i64 P, .int .i64 M] 23)).alloc (.cells #[.slice A p.length c, .slice B r.length d, .int .i64 z] 51) := ⟨_, rfl⟩
  have hz0 : (w.alloc (.cells #[.int .i64 P, .int .i64 M] 23)).heap.size = w.heap.size + 1 := by simp
  rw [hz0] at o5
  have o5' : Own w0 (w.heap.size + 1) 51 [.slice A p.length c, .slice B r.length d, .int .i64 z] := by rw [hw0]; exact o5
  rw [← hw0] at K1 o3
  have HW0 := Lib.hid hw0
  have C12 := Lib.hid (few12_any 60 [p, r] (some ⟨w0.heap.size, 0, none⟩) 2 (w0.alloc (.cells #[.slice A p.length c, .slice B r.length d] 25)) (by decide) (by decide) (rpp_two (hP.kept K1) (hR.kept K1) hl hl2) (by simp))
  rw [show ([p, r] : List (List Tm)).length = 2 from rfl] at C12
  have C13 := Lib.hid fun w' (k : Kept w w') => alive13_any w' (hp.kept k)
  have C36 := Lib.hid fun w' => rorder36_any P M w'
  have K2 := kept_alloc K1 (.cells #[.slice A p.length c, .slice B r.length d] 25)
  have o3' := o3.alloc (.cells #[.slice A p.length c, .slice B r.length d] 25)
  have o5'' := o5'.alloc (.cells #[.slice A p.length c, .slice B r.length d] 25)
  clear o5 hz0 hw0
  have d1 : decide (n < 0) = false := decide_eq_false (by omega)
  have d2 : decide (8 < n) = false := decide_eq_false (by omega)
  rw [hf] at C12
  unfold fV
  clear hP hf hp hR
  go_enter Tryd.func8, Tryd.ntmps8
  go_upto_region 1 with fail
  rw [← HW0.out]
  have x0 := o5'.cell (j := 0) rfl; have x1 := o5'.cell (j := 1) rfl
  go_wp2_with (first
    | (go_at_call 12; ((with_reducible refine C12.out.mono ?_); rintro e w1 ⟨rfl, rfl⟩))
    | (go_at_call 13; ((with_reducible refine (C13.out _ K2).mono ?_); rintro e w9 ⟨rfl, k9⟩; replace K2 := kept_trans K2 k9)))
  go_ret
  exact ⟨rfl, K2⟩
set_option maxRecDepth 100000 in
set_option maxHeartbeats 1000000 in
theorem law8_few1 (P M : Int) (N : Nat) (n : Int) (en : n = (N : Int)) (hN : N ≤ 8) (p : List Tm) (A : Option Addr) (c : Nat) (r : List Tm) (B : Option Addr) (d : Nat) (z : Int) (w : World) (hp : PowOk w) (hP : RP w A p) (hl : p.length ≤ 140737488355328) (hR : RP w B r) (hl2 : r.length ≤ 140737488355328) (hf : fewB 60 [p, r] = true) (hq : fewQ (ordF P M) N = false) :
    Calls Tryd.prog 8 #[fV P M, .int .i64 n, .agg #[.slice A p.length c, .slice B r.length d, .int .i64 z]] w fun e w' => e = .returned (.bool true) ∧ Kept w w' := by
  have K0 := kept_alloc (kept_refl w) (.cells #[.int .i64 P, .int .i64 M] 23)
  have K1 := kept_alloc K0 (.cells #[.slice A p.length c, .slice B r.length d, .int .i64 z] 51)
  have o3 := (Own.new w 23 [.int .i64 P, .int .i64 M]).alloc (.cells #[.slice A p.length c, .slice B r.length d, .int .i64 z] 51)
  have o5 := Own.new (w.alloc (.cells #[.int .i64 P, .int .i64 M] 23)) 51 [.slice A p.length c, .slice B r.length d, .int .i64 z]
  obtain ⟨w0, hw0⟩ : ∃ w0, w0 = (w.alloc (.cells #[.int .i64 P, .int .i64 M] 23)).alloc (.cells #[.slice A p.length c, .slice B r.length d, .int .i64 z] 51) := ⟨_, rfl⟩
  have hz0 : (w.alloc (.cells #[.int .i64 P, .int .i64 M] 23)).heap.size = w.heap.size + 1 := by simp
  rw [hz0] at o5
  have o5' : Own w0 (w.heap.size + 1) 51 [.slice A p.length c, .slice B r.length d, .int .i64 z] := by rw [hw0]; exact o5
  rw [← hw0] at K1 o3
  have HW0 := Lib.hid hw0
  have C12 := Lib.hid (few12_any 60 [p, r] (some ⟨w0.heap.size, 0, none⟩) 2 (w0.alloc (.cells #[.slice A p.length c, .slice B r.length d] 25)) (by decide) (by decide) (rpp_two (hP.kept K1) (hR.kept K1) hl hl2) (by simp))
  rw [show ([p, r] : List (List Tm)).length = 2 from rfl] at C12
  have C13 := Lib.hid fun w' (k : Kept w w') => alive13_any w' (hp.kept k)
  have C36 := Lib.hid fun w' => rorder36_any P M w'
  have K2 := kept_alloc K1 (.cells #[.slice A p.length c, .slice B r.length d] 25)
  have o3' := o3.alloc (.cells #[.slice A p.length c, .slice B r.length d] 25)
  have o5'' := o5'.alloc (.cells #[.slice A p.length c, .slice B r.length d] 25)
  clear o5 hz0 hw0
  have d1 : decide (n < 0) = false := decide_eq_false (by omega)
  have d2 : decide (8 < n) = false := decide_eq_false (by omega)
  have C35 := Lib.hid fun w' => few35_any (ordF P M) N w' (ord_range P M).1 (ord_range P M).2 hN
  rw [← en] at C35
  rw [hf] at C12
  rw [hq] at C35
  obtain ⟨q, hqq⟩ : ∃ q, q = ordF P M := ⟨_, rfl⟩
  rw [← hqq] at C35 C36
  unfold fV at *
  clear hP hf hp hR hq hqq en
  go_enter Tryd.func8, Tryd.ntmps8
  go_upto_region 1 with fail
  rw [← HW0.out]
  have x0 := o5'.cell (j := 0) rfl; have x1 := o5'.cell (j := 1) rfl
  go_wp2_with (first
    | (go_at_call 12; ((with_reducible refine C12.out.mono ?_); rintro e w1 ⟨rfl, rfl⟩; have y0 := o3'.cell (j := 0) rfl; have y1 := o3'.cell (j := 1) rfl; have v0 := o5''.cell (j := 0) rfl; have v1 := o5''.cell (j := 1) rfl))
    | (go_at_call 36; ((with_reducible refine (C36.out _).mono ?_); rintro e w2 ⟨rfl, k2⟩; replace K2 := kept_trans K2 k2; replace y0 := kept_cell k2 y0; replace y1 := kept_cell k2 y1; replace v0 := kept_cell k2 v0; replace v1 := kept_cell k2 v1))
    | (go_at_call 35; go_loud ((with_reducible refine (C35.out _).mono ?_); rintro e w3 ⟨rfl, k3⟩; replace K2 := kept_trans K2 k3; replace y0 := kept_cell k3 y0; replace y1 := kept_cell k3 y1; replace v0 := kept_cell k3 v0; replace v1 := kept_cell k3 v1))
    | (go_at_call 13; ((with_reducible refine (C13.out _ K2).mono ?_); rintro e w9 ⟨rfl, k9⟩; replace K2 := kept_trans K2 k9)))
  go_ret
  exact ⟨rfl, K2⟩
set_option maxRecDepth 100000 in
set_option maxHeartbeats 1000000 in
theorem law8_bad1 (P M : Int) (N : Nat) (n : Int) (en : n = (N : Int)) (hN : N ≤ 8) (p : List Tm) (A : Option Addr) (c : Nat) (r : List Tm) (B : Option Addr) (d : Nat) (z : Int) (w : World) (hp : PowOk w) (hP : RP w A p) (hl : p.length ≤ 140737488355328) (hR : RP w B r) (hl2 : r.length ≤ 140737488355328) (hf : fewB 60 [p, r] = true) (hq : fewQ (ordF P M) N = true) (hv : vld (ordF P M) n p = false) (hv2 : vld (ordF P M) n r = false) :
    Calls Tryd.prog 8 #[fV P M, .int .i64 n, .agg #[.slice A p.length c, .slice B r.length d, .int .i64 z]] w fun e w' => e = .returned (.bool true) ∧ Kept w w' := by
  have K0 := kept_alloc (kept_refl w) (.cells #[.int .i64 P, .int .i64 M] 23)
  have K1 := kept_alloc K0 (.cells #[.slice A p.length c, .slice B r.length d, .int .i64 z] 51)
  have o3 := (Own.new w 23 [.int .i64 P, .int .i64 M]).alloc (.cells #[.slice A p.length c, .slice B r.length d, .int .i64 z] 51)
  have o5 := Own.new (w.alloc (.cells #[.int .i64 P, .int .i64 M] 23)) 51 [.slice A p.length c, .slice B r.length d, .int .i64 z]
  obtain ⟨w0, hw0⟩ : ∃ w0, w0 = (w.alloc (.cells #[.int .i64 P, .int .i64 M] 23)).alloc (.cells #[.slice A p.length c, .slice B r.length d, .int .i64 z] 51) := ⟨_, rfl⟩
  have hz0 : (w.alloc (.cells #[.int .i64 P, .int .i64 M] 23)).heap.size = w.heap.size + 1 := by simp
  rw [hz0] at o5
  have o5' : Own w0 (w.heap.size + 1) 51 [.slice A p.length c, .slice B r.length d, .int .i64 z] := by rw [hw0]; exact o5
  rw [← hw0] at K1 o3
  have HW0 := Lib.hid hw0
  have C12 := Lib.hid (few12_any 60 [p, r] (some ⟨w0.heap.size, 0, none⟩) 2 (w0.alloc (.cells #[.slice A p.length c, .slice B r.length d] 25)) (by decide) (by decide) (rpp_two (hP.kept K1) (hR.kept K1) hl hl2) (by simp))
  rw [show ([p, r] : List (List Tm)).length = 2 from rfl] at C12
  have C13 := Lib.hid fun w' (k : Kept w w') => alive13_any w' (hp.kept k)
  have C36 := Lib.hid fun w' => rorder36_any P M w'
  have K2 := kept_alloc K1 (.cells #[.slice A p.length c, .slice B r.length d] 25)
  have o3' := o3.alloc (.cells #[.slice A p.length c, .slice B r.length d] 25)
  have o5'' := o5'.alloc (.cells #[.slice A p.length c, .slice B r.length d] 25)
  clear o5 hz0 hw0
  have d1 : decide (n < 0) = false := decide_eq_false (by omega)
  have d2 : decide (8 < n) = false := decide_eq_false (by omega)
  have C35 := Lib.hid fun w' => few35_any (ordF P M) N w' (ord_range P M).1 (ord_range P M).2 hN
  rw [← en] at C35
  have Cp := Lib.hid fun w' (k : Kept w w') => reduce14_bad P M n p A c w' (hP.kept k) hl hv
  have Cr := Lib.hid fun w' (k : Kept w w') => reduce14_bad P M n r B d w' (hR.kept k) hl2 hv2
  rw [hf] at C12
  rw [hq] at C35
  obtain ⟨q, hqq⟩ : ∃ q, q = ordF P M := ⟨_, rfl⟩
  rw [← hqq] at C35 C36
  unfold fV at *
  clear hP hf hp hR hq hv hv2 hqq en
  go_enter Tryd.func8, Tryd.ntmps8
  go_upto_region 1 with fail
  rw [← HW0.out]
  have x0 := o5'.cell (j := 0) rfl; have x1 := o5'.cell (j := 1) rfl
  go_wp2_with (first
    | (go_at_call 12; ((with_reducible refine C12.out.mono ?_); rintro e w1 ⟨rfl, rfl⟩; have y0 := o3'.cell (j := 0) rfl; have y1 := o3'.cell (j := 1) rfl; have v0 := o5''.cell (j := 0) rfl; have v1 := o5''.cell (j := 1) rfl))
    | (go_at_call 36; ((with_reducible refine (C36.out _).mono ?_); rintro e w2 ⟨rfl, k2⟩; replace K2 := kept_trans K2 k2; replace y0 := kept_cell k2 y0; replace y1 := kept_cell k2 y1; replace v0 := kept_cell k2 v0; replace v1 := kept_cell k2 v1))
    | (go_at_call 35; go_loud ((with_reducible refine (C35.out _).mono ?_); rintro e w3 ⟨rfl, k3⟩; replace K2 := kept_trans K2 k3; replace y0 := kept_cell k3 y0; replace y1 := kept_cell k3 y1; replace v0 := kept_cell k3 v0; replace v1 := kept_cell k3 v1))
    | (go_at_call 14; ((with_reducible refine (Cp.out _ K2).mono ?_); rintro e w4 ⟨rfl, k4⟩; have D14 := Lib.hid (Cr.out _ (kept_trans K2 k4)); replace K2 := kept_trans K2 k4; replace y0 := kept_cell k4 y0; replace y1 := kept_cell k4 y1; replace v0 := kept_cell k4 v0; replace v1 := kept_cell k4 v1))
    | (go_at_call 14; ((with_reducible refine D14.out.mono ?_); rintro e w5 ⟨rfl, k5⟩; replace K2 := kept_trans K2 k5; replace y0 := kept_cell k5 y0; replace y1 := kept_cell k5 y1; replace v0 := kept_cell k5 v0; replace v1 := kept_cell k5 v1))
    | (go_at_call 13; ((with_reducible refine (C13.out _ K2).mono ?_); rintro e w9 ⟨rfl, k9⟩; replace K2 := kept_trans K2 k9)))
  go_ret
  exact ⟨rfl, K2⟩
set_option maxRecDepth 100000 in
set_option maxHeartbeats 1000000 in
theorem law8_bad2 (P M : Int) (N : Nat) (n : Int) (en : n = (N : Int)) (hN : N ≤ 8) (p : List Tm) (A : Option Addr) (c : Nat) (r : List Tm) (B : Option Addr) (d : Nat) (z : Int) (w : World) (hp : PowOk w) (hP : RP w A p) (hl : p.length ≤ 140737488355328) (hR : RP w B r) (hl2 : r.length ≤ 140737488355328) (hf : fewB 60 [p, r] = true) (hq : fewQ (ordF P M) N = true) (hv : vld (ordF P M) n p = false) (hv2 : vld (ordF P M) n r = true) :
    Calls Tryd.prog 8 #[fV P M, .int .i64 n, .agg #[.slice A p.length c, .slice B r.length d, .int .i64 z]] w fun e w' => e = .returned (.bool true) ∧ Kept w w' := by
  have K0 := kept_alloc (kept_refl w) (.cells #[.int .i64 P, .int .i64 M] 23)
  have K1 := kept_alloc K0 (.cells #[.slice A p.length c, .slice B r.length d, .int .i64 z] 51)
  have o3 := (Own.new w 23 [.int .i64 P, .int .i64 M]).alloc (.cells #[.slice A p.length c, .slice B r.length d, .int .i64 z] 51)
  have o5 := Own.new (w.alloc (.cells #[.int .i64 P, .int .i64 M] 23)) 51 [.slice A p.length c, .slice B r.length d, .int .i64 z]
  obtain ⟨w0, hw0⟩ : ∃ w0, w0 = (w.alloc (.cells #[.int .i64 P, .int .i64 M] 23)).alloc (.cells #[.slice A p.length c, .slice B r.length d, .int .i64 z] 51) := ⟨_, rfl⟩
  have hz0 : (w.alloc (.cells #[.int .i64 P, .int .i64 M] 23)).heap.size = w.heap.size + 1 := by simp
  rw [hz0] at o5
  have o5' : Own w0 (w.heap.size + 1) 51 [.slice A p.length c, .slice B r.length d, .int .i64 z] := by rw [hw0]; exact o5
  rw [← hw0] at K1 o3
  have HW0 := Lib.hid hw0
  have C12 := Lib.hid (few12_any 60 [p, r] (some ⟨w0.heap.size, 0, none⟩) 2 (w0.alloc (.cells #[.slice A p.length c, .slice B r.length d] 25)) (by decide) (by decide) (rpp_two (hP.kept K1) (hR.kept K1) hl hl2) (by simp))
  rw [show ([p, r] : List (List Tm)).length = 2 from rfl] at C12
  have C13 := Lib.hid fun w' (k : Kept w w') => alive13_any w' (hp.kept k)
  have C36 := Lib.hid fun w' => rorder36_any P M w'
  have K2 := kept_alloc K1 (.cells #[.slice A p.length c, .slice B r.length d] 25)
  have o3' := o3.alloc (.cells #[.slice A p.length c, .slice B r.length d] 25)
  have o5'' := o5'.alloc (.cells #[.slice A p.length c, .slice B r.length d] 25)
  clear o5 hz0 hw0
  have d1 : decide (n < 0) = false := decide_eq_false (by omega)
  have d2 : decide (8 < n) = false := decide_eq_false (by omega)
  have C35 := Lib.hid fun w' => few35_any (ordF P M) N w' (ord_range P M).1 (ord_range P M).2 hN
  rw [← en] at C35
  have Cp := Lib.hid fun w' (k : Kept w w') => reduce14_bad P M n p A c w' (hP.kept k) hl hv
  have Cr := Lib.hid fun w' (k : Kept w w') => reduce14_any P M n r B d w' (hR.kept k) hv2
  rw [hf] at C12
  rw [hq] at C35
  obtain ⟨q, hqq⟩ : ∃ q, q = ordF P M := ⟨_, rfl⟩
  rw [← hqq] at C35 C36 Cr
  unfold fV at *
  clear hP hf hp hR hq hv hv2 hqq en
  go_enter Tryd.func8, Tryd.ntmps8
  go_upto_region 1 with fail
  rw [← HW0.out]
  have x0 := o5'.cell (j := 0) rfl; have x1 := o5'.cell (j := 1) rfl
  go_wp2_with (first
    | (go_at_call 12; ((with_reducible refine C12.out.mono ?_); rintro e w1 ⟨rfl, rfl⟩; have y0 := o3'.cell (j := 0) rfl; have y1 := o3'.cell (j := 1) rfl; have v0 := o5''.cell (j := 0) rfl; have v1 := o5''.cell (j := 1) rfl))
    | (go_at_call 36; ((with_reducible refine (C36.out _).mono ?_); rintro e w2 ⟨rfl, k2⟩; replace K2 := kept_trans K2 k2; replace y0 := kept_cell k2 y0; replace y1 := kept_cell k2 y1; replace v0 := kept_cell k2 v0; replace v1 := kept_cell k2 v1))
    | (go_at_call 35; go_loud ((with_reducible refine (C35.out _).mono ?_); rintro e w3 ⟨rfl, k3⟩; replace K2 := kept_trans K2 k3; replace y0 := kept_cell k3 y0; replace y1 := kept_cell k3 y1; replace v0 := kept_cell k3 v0; replace v1 := kept_cell k3 v1))
    | (go_at_call 14; ((with_reducible refine (Cp.out _ K2).mono ?_); rintro e w4 ⟨rfl, k4⟩; have D14 := Lib.hid (Cr.out _ (kept_trans K2 k4)); replace K2 := kept_trans K2 k4; replace y0 := kept_cell k4 y0; replace y1 := kept_cell k4 y1; replace v0 := kept_cell k4 v0; replace v1 := kept_cell k4 v1))
    | (go_at_call 14; ((with_reducible refine D14.out.mono ?_); rintro e w5 ⟨Aq, cq, tq, rfl, _, _, k5⟩; replace K2 := kept_trans K2 k5; replace y0 := kept_cell k5 y0; replace y1 := kept_cell k5 y1; replace v0 := kept_cell k5 v0; replace v1 := kept_cell k5 v1))
    | (go_at_call 13; ((with_reducible refine (C13.out _ K2).mono ?_); rintro e w9 ⟨rfl, k9⟩; replace K2 := kept_trans K2 k9)))
  go_ret
  exact ⟨rfl, K2⟩
set_option maxRecDepth 100000 in
set_option maxHeartbeats 1000000 in
theorem law8_bad3 (P M : Int) (N : Nat) (n : Int) (en : n = (N : Int)) (hN : N ≤ 8) (p : List Tm) (A : Option Addr) (c : Nat) (r : List Tm) (B : Option Addr) (d : Nat) (z : Int) (w : World) (hp : PowOk w) (hP : RP w A p) (hl : p.length ≤ 140737488355328) (hR : RP w B r) (hl2 : r.length ≤ 140737488355328) (hf : fewB 60 [p, r] = true) (hq : fewQ (ordF P M) N = true) (hv : vld (ordF P M) n p = true) (hv2 : vld (ordF P M) n r = false) :
    Calls Tryd.prog 8 #[fV P M, .int .i64 n, .agg #[.slice A p.length c, .slice B r.length d, .int .i64 z]] w fun e w' => e = .returned (.bool true) ∧ Kept w w' := by
  have K0 := kept_alloc (kept_refl w) (.cells #[.int .i64 P, .int .i64 M] 23)
  have K1 := kept_alloc K0 (.cells #[.slice A p.length c, .slice B r.length d, .int .i64 z] 51)
  have o3 := (Own.new w 23 [.int .i64 P, .int .i64 M]).alloc (.cells #[.slice A p.length c, .slice B r.length d, .int .i64 z] 51)
  have o5 := Own.new (w.alloc (.cells #[.int .i64 P, .int .i64 M] 23)) 51 [.slice A p.length c, .slice B r.length d, .int .i64 z]
  obtain ⟨w0, hw0⟩ : ∃ w0, w0 = (w.alloc (.cells #[.int .i64 P, .int .i64 M] 23)).alloc (.cells #[.slice A p.length c, .slice B r.length d, .int .i64 z] 51) := ⟨_, rfl⟩
  have hz0 : (w.alloc (.cells #[.int .i64 P, .int .i64 M] 23)).heap.size = w.heap.size + 1 := by simp
  rw [hz0] at o5
  have o5' : Own w0 (w.heap.size + 1) 51 [.slice A p.length c, .slice B r.length d, .int .i64 z] := by rw [hw0]; exact o5
  rw [← hw0] at K1 o3
  have HW0 := Lib.hid hw0
  have C12 := Lib.hid (few12_any 60 [p, r] (some ⟨w0.heap.size, 0, none⟩) 2 (w0.alloc (.cells #[.slice A p.length c, .slice B r.length d] 25)) (by decide) (by decide) (rpp_two (hP.kept K1) (hR.kept K1) hl hl2) (by simp))
  rw [show ([p, r] : List (List Tm)).length = 2 from rfl] at C12
  have C13 := Lib.hid fun w' (k : Kept w w') => alive13_any w' (hp.kept k)
  have C36 := Lib.hid fun w' => rorder36_any P M w'
  have K2 := kept_alloc K1 (.cells #[.slice A p.length c, .slice B r.length d] 25)
  have o3' := o3.alloc (.cells #[.slice A p.length c, .slice B r.length d] 25)
  have o5'' := o5'.alloc (.cells #[.slice A p.length c, .slice B r.length d] 25)
  clear o5 hz0 hw0
  have d1 : decide (n < 0) = false := decide_eq_false (by omega)
  have d2 : decide (8 < n) = false := decide_eq_false (by omega)
  have C35 := Lib.hid fun w' => few35_any (ordF P M) N w' (ord_range P M).1 (ord_range P M).2 hN
  rw [← en] at C35
  have Cp := Lib.hid fun w' (k : Kept w w') => reduce14_any P M n p A c w' (hP.kept k) hv
  have Cr := Lib.hid fun w' (k : Kept w w') => reduce14_bad P M n r B d w' (hR.kept k) hl2 hv2
  rw [hf] at C12
  rw [hq] at C35
  obtain ⟨q, hqq⟩ : ∃ q, q = ordF P M := ⟨_, rfl⟩
  rw [← hqq] at C35 C36 Cp
  unfold fV at *
  clear hP hf hp hR hq hv hv2 hqq en
  go_enter Tryd.func8, Tryd.ntmps8
  go_upto_region 1 with fail
  rw [← HW0.out]
  have x0 := o5'.cell (j := 0) rfl; have x1 := o5'.cell (j := 1) rfl
  go_wp2_with (first
    | (go_at_call 12; ((with_reducible refine C12.out.mono ?_); rintro e w1 ⟨rfl, rfl⟩; have y0 := o3'.cell (j := 0) rfl; have y1 := o3'.cell (j := 1) rfl; have v0 := o5''.cell (j := 0) rfl; have v1 := o5''.cell (j := 1) rfl))
    | (go_at_call 36; ((with_reducible refine (C36.out _).mono ?_); rintro e w2 ⟨rfl, k2⟩; replace K2 := kept_trans K2 k2; replace y0 := kept_cell k2 y0; replace y1 := kept_cell k2 y1; replace v0 := kept_cell k2 v0; replace v1 := kept_cell k2 v1))
    | (go_at_call 35; go_loud ((with_reducible refine (C35.out _).mono ?_); rintro e w3 ⟨rfl, k3⟩; replace K2 := kept_trans K2 k3; replace y0 := kept_cell k3 y0; replace y1 := kept_cell k3 y1; replace v0 := kept_cell k3 v0; replace v1 := kept_cell k3 v1))
    | (go_at_call 14; ((with_reducible refine (Cp.out _ K2).mono ?_); rintro e w4 ⟨Ap, cp, tp, rfl, _, _, k4⟩; have D14 := Lib.hid (Cr.out _ (kept_trans K2 k4)); replace K2 := kept_trans K2 k4; replace y0 := kept_cell k4 y0; replace y1 := kept_cell k4 y1; replace v0 := kept_cell k4 v0; replace v1 := kept_cell k4 v1))
    | (go_at_call 14; ((with_reducible refine D14.out.mono ?_); rintro e w5 ⟨rfl, k5⟩; replace K2 := kept_trans K2 k5; replace y0 := kept_cell k5 y0; replace y1 := kept_cell k5 y1; replace v0 := kept_cell k5 v0; replace v1 := kept_cell k5 v1))
    | (go_at_call 13; ((with_reducible refine (C13.out _ K2).mono ?_); rintro e w9 ⟨rfl, k9⟩; replace K2 := kept_trans K2 k9)))
  go_ret
  exact ⟨rfl, K2⟩
set_option maxRecDepth 100000 in
set_option maxHeartbeats 1000000 in
theorem law8_main (P M : Int) (N : Nat) (n : Int) (en : n = (N : Int)) (hN : N ≤ 8) (p : List Tm) (A : Option Addr) (c : Nat) (r : List Tm) (B : Option Addr) (d : Nat) (z : Int) (w : World) (hp : PowOk w) (hP : RP w A p) (hl : p.length ≤ 140737488355328) (hR : RP w B r) (hl2 : r.length ≤ 140737488355328) (hf : fewB 60 [p, r] = true) (hq : fewQ (ordF P M) N = true) (hv : vld (ordF P M) n p = true) (hv2 : vld (ordF P M) n r = true) :
    Calls Tryd.prog 8 #[fV P M, .int .i64 n, .agg #[.slice A p.length c, .slice B r.length d, .int .i64 z]] w fun e w' => e = .returned (.bool true) ∧ Kept w w' := by
  have K0 := kept_alloc (kept_refl w) (.cells #[.int .i64 P, .int .i64 M] 23)
  have K1 := kept_alloc K0 (.cells #[.slice A p.length c, .slice B r.length d, .int .i64 z] 51)
  have o3 := (Own.new w 23 [.int .i64 P, .int .i64 M]).alloc (.cells #[.slice A p.length c, .slice B r.length d, .int .i64 z] 51)
  have o5 := Own.new (w.alloc (.cells #[.int .i64 P, .int .i64 M] 23)) 51 [.slice A p.length c, .slice B r.length d, .int .i64 z]
  obtain ⟨w0, hw0⟩ : ∃ w0, w0 = (w.alloc (.cells #[.int .i64 P, .int .i64 M] 23)).alloc (.cells #[.slice A p.length c, .slice B r.length d, .int .i64 z] 51) := ⟨_, rfl⟩
  have hz0 : (w.alloc (.cells #[.int .i64 P, .int .i64 M] 23)).heap.size = w.heap.size + 1 := by simp
  rw [hz0] at o5
  have o5' : Own w0 (w.heap.size + 1) 51 [.slice A p.length c, .slice B r.length d, .int .i64 z] := by rw [hw0]; exact o5
  rw [← hw0] at K1 o3
  have HW0 := Lib.hid hw0
  have C12 := Lib.hid (few12_any 60 [p, r] (some ⟨w0.heap.size, 0, none⟩) 2 (w0.alloc (.cells #[.slice A p.length c, .slice B r.length d] 25)) (by decide) (by decide) (rpp_two (hP.kept K1) (hR.kept K1) hl hl2) (by simp))
  rw [show ([p, r] : List (List Tm)).length = 2 from rfl] at C12
  have C13 := Lib.hid fun w' (k : Kept w w') => alive13_any w' (hp.kept k)
  have C36 := Lib.hid fun w' => rorder36_any P M w'
  have K2 := kept_alloc K1 (.cells #[.slice A p.length c, .slice B r.length d] 25)
  have o3' := o3.alloc (.cells #[.slice A p.length c, .slice B r.length d] 25)
  have o5'' := o5'.alloc (.cells #[.slice A p.length c, .slice B r.length d] 25)
  clear o5 hz0 hw0
  have d1 : decide (n < 0) = false := decide_eq_false (by omega)
  have d2 : decide (8 < n) = false := decide_eq_false (by omega)
  have C35 := Lib.hid fun w' => few35_any (ordF P M) N w' (ord_range P M).1 (ord_range P M).2 hN
  rw [← en] at C35
  have ok := vld_ok hv
  have hor := ord_range P M
  obtain ⟨hq0, hpow⟩ := few_pow hq
  have Cp := Lib.hid fun w' (k : Kept w w') => reduce14_any P M n p A c w' (hP.kept k) hv
  have Cr := Lib.hid fun w' (k : Kept w w') => reduce14_any P M n r B d w' (hR.kept k) hv2
  have C37 := Lib.hid fun w' => points37_any (ordF P M).toNat N w' hN (by omega) hpow
  rw [show (((ordF P M).toNat : Nat) : Int) = ordF P M by omega, ← en] at C37
  have hpl : (ptsT (ordF P M).toNat N).length ≤ 256 := by rw [ptsT_len]; exact hpow N (Nat.le_refl _)
  obtain ⟨pts, hpts⟩ : ∃ L, L = ptsT (ordF P M).toNat N := ⟨_, rfl⟩
  have hmem : ∀ at' ∈ pts, (at'.length : Int) = n ∧ allQ (ordF P M) at' = true := fun at' h => by
    rw [hpts] at h
    have := ptsT_mem.1 h
    exact ⟨by omega, allQ_iff.2 fun x hx => by have := this.2 x hx; omega⟩
  have CEp := Lib.hid fun at' (h : at' ∈ pts) C e w' (k : Kept w w') (hC : Rd w' C (ints at')) => eval32_any P M n p at' A C c e w' (hP.kept k) hv hC (hmem at' h).1 (hmem at' h).2
  have CEr := Lib.hid fun at' (h : at' ∈ pts) C e w' (k : Kept w w') (hC : Rd w' C (ints at')) => eval32_any P M n r at' B C d e w' (hR.kept k) hv2 hC (hmem at' h).1 (hmem at' h).2
  have tp := vld_tms hv
  have tr := vld_tms hv2
  have hsame := red_same ok hor.2 (n := N) (p := p) (r := r) (fun t h => by have := tp.mem h; exact ⟨by omega, this.2⟩) (fun t h => by have := tr.mem h; exact ⟨by omega, this.2⟩)
  have hlp := (redP_canon ok (n := N) (p := p) (fun t h => by have := tp.mem h; exact ⟨by omega, this.2⟩)).1
  have HALL := Lib.hid (show pts.all (fun at' => evP P M p at' == evP P M r at') = decide (redP P M p = redP P M r) by
    rw [Bool.eq_iff_iff, List.all_eq_true, decide_eq_true_eq, hsame, hpts]
    constructor
    · intro h at' h1 h2
      have := h at' (ptsT_mem.2 ⟨h1, fun x hx => by have := h2 x hx; exact ⟨this.1, by have := this.2; omega⟩⟩)
      simpa using this
    · intro h at' hm
      have := ptsT_mem.1 hm
      simpa using h at' this.1 (fun x hx => by have := this.2 x hx; exact ⟨this.1, by omega⟩))
  rw [← hpts] at C37 hpl
  obtain ⟨Rp, hRp⟩ : ∃ R, R = redP P M p := ⟨_, rfl⟩
  obtain ⟨Rq, hRq⟩ : ∃ R, R = redP P M r := ⟨_, rfl⟩
  have hRpl : Rp.length ≤ 140737488355328 := by
    rw [hRp]
    have h5 := totalT_len (addF P M) p.length ((p.map (redT (ordF P M))).map fun t => [t])
    rw [sumLen_one] at h5
    exact Nat.le_trans h5 hl
  have hRql : Rq.length ≤ 140737488355328 := by
    rw [hRq]
    have h5 := totalT_len (addF P M) r.length ((r.map (redT (ordF P M))).map fun t => [t])
    rw [sumLen_one] at h5
    exact Nat.le_trans h5 hl2
  have C38 := Lib.hid fun w' A B c d h1 h2 => same38_any Rp Rq A B c d w' h1 h2 hRpl hRql
  unfold redP at hRp hRq
  rw [← hRp] at Cp
  rw [← hRq] at Cr
  rw [show redP P M p = Rp from hRp.symm, show redP P M r = Rq from hRq.symm] at HALL
  obtain ⟨D, hD⟩ : ∃ D, D = decide (Rp = Rq) := ⟨_, rfl⟩
  rw [← hD] at C38 HALL
  rw [hf] at C12
  rw [hq] at C35
  obtain ⟨q, hqq⟩ : ∃ q, q = ordF P M := ⟨_, rfl⟩
  rw [← hqq] at C35 C36 C37
  unfold fV at *
  clear en hP hf hp hR hq hv hv2 hqq ok hor hq0 hpow hpts hmem tp tr hsame hlp hRp hRq hRpl hRql hD
  go_enter Tryd.func8, Tryd.ntmps8
  go_upto_region 1 with fail
  rw [← HW0.out]
  have x0 := o5'.cell (j := 0) rfl; have x1 := o5'.cell (j := 1) rfl
  go_upto_region 8 with (first
    | (go_at_call 12; ((with_reducible refine C12.out.mono ?_); rintro e w1 ⟨rfl, rfl⟩; have y0 := o3'.cell (j := 0) rfl; have y1 := o3'.cell (j := 1) rfl; have v0 := o5''.cell (j := 0) rfl; have v1 := o5''.cell (j := 1) rfl))
    | (go_at_call 36; ((with_reducible refine (C36.out _).mono ?_); rintro e w2 ⟨rfl, k2⟩; replace K2 := kept_trans K2 k2; replace y0 := kept_cell k2 y0; replace y1 := kept_cell k2 y1; replace v0 := kept_cell k2 v0; replace v1 := kept_cell k2 v1; (try replace hp4 := hp4.kept k2); (try replace hp5 := hp5.kept k2)))
    | (go_at_call 35; go_loud ((with_reducible refine (C35.out _).mono ?_); rintro e w3 ⟨rfl, k3⟩; replace K2 := kept_trans K2 k3; replace y0 := kept_cell k3 y0; replace y1 := kept_cell k3 y1; replace v0 := kept_cell k3 v0; replace v1 := kept_cell k3 v1))
    | (go_at_call 14; ((with_reducible refine (Cp.out _ K2).mono ?_); rintro e w4 ⟨Ap, cp, tp, rfl, e4, hp4, k4⟩; have D14 := Lib.hid (Cr.out _ (kept_trans K2 k4)); subst e4; replace K2 := kept_trans K2 k4; replace y0 := kept_cell k4 y0; replace y1 := kept_cell k4 y1; replace v0 := kept_cell k4 v0; replace v1 := kept_cell k4 v1))
    | (go_at_call 14; ((with_reducible refine D14.out.mono ?_); rintro e w5 ⟨Aq, cq, tq, rfl, e5, hp5, k5⟩; subst e5; replace hp4 := hp4.kept k5; replace K2 := kept_trans K2 k5; replace y0 := kept_cell k5 y0; replace y1 := kept_cell k5 y1; replace v0 := kept_cell k5 v0; replace v1 := kept_cell k5 v1))
    | (go_at_call 37; ((with_reducible refine (C37.out _).mono ?_); rintro e w6 ⟨A6, c6, rfl, hpt, k6⟩; replace hp4 := hp4.kept k6; replace hp5 := hp5.kept k6; replace K2 := kept_trans K2 k6; replace y0 := kept_cell k6 y0; replace y1 := kept_cell k6 y1; replace v0 := kept_cell k6 v0; replace v1 := kept_cell k6 v1)))
  obtain ⟨wl, rfl⟩ : ∃ x, x = w6 := ⟨_, rfl⟩
  have HPT := Lib.hid hpt
  have H4 := Lib.hid hp4
  have H5 := Lib.hid hp5
  have Y0 := Lib.hid y0; have Y1 := Lib.hid y1; have V0 := Lib.hid v0; have V1 := Lib.hid v1
  have KL := K2
  clear hpt hp4 hp5 y0 y1 v0 v1 K2
  go_wp2_with fail
  go_loopg [12, 13, 14, 15, 16, 17] pts.length (fun G s12 s13 s14 s15 s16 s17 wr => ∃ (i : Nat) (b : Bool) (v14 v15 v16 v17 : Value), i ≤ pts.length ∧ G = pts.length - i ∧ s12 = .bool b ∧ s13 = .int .i64 i ∧ s14 = v14 ∧ s15 = v15 ∧ s16 = v16 ∧ s17 = v17 ∧ Hid (b = (pts.take i).all fun at' => evP P M p at' == evP P M r at') ∧ Kept wl wr)
  case atStart => exact ⟨0, true, _, _, _, _, by omega, rfl, rfl, rfl, rfl, rfl, rfl, rfl, Lib.hid (by simp), kept_refl _⟩
  case round =>
    obtain ⟨i, b, v14, v15, v16, v17, hi, rfl, rfl, rfl, rfl, rfl, rfl, rfl, HB, KR⟩ := hrel
    have KW := kept_trans KL KR
    by_cases hit : i < pts.length
    · have dd1 : decide ((i : Int) < (pts.length : Int)) = true := decide_eq_true (by omega)
      have dd2 : decide (i < pts.length) = true := decide_eq_true (by omega)
      obtain ⟨bb, off, E, ce, rfl, hc, hE⟩ := HPT.out i hit
      obtain ⟨at', hat⟩ : ∃ x, x = pts.getD i [] := ⟨_, rfl⟩
      rw [← hat] at hc hE
      have hm : at' ∈ pts := by rw [hat, List.getD_eq_getElem?_getD, List.getElem?_eq_getElem hit]; exact List.getElem_mem hit
      have HAT := Lib.hid hat
      have C1 := Lib.hid fun w' (k : Kept wl w') => CEp.out at' hm E ce w' (kept_trans KL k) (hE.kept k)
      have C2 := Lib.hid fun w' (k : Kept wl w') => CEr.out at' hm E ce w' (kept_trans KL k) (hE.kept k)
      obtain ⟨va, hva⟩ : ∃ x, x = evP P M p at' := ⟨_, rfl⟩
      obtain ⟨vr, hvr⟩ : ∃ x, x = evP P M r at' := ⟨_, rfl⟩
      rw [← hva] at C1
      rw [← hvr] at C2
      have HV := Lib.hid (show (b && (va == vr)) = (pts.take (i + 1)).all fun at' => evP P M p at' == evP P M r at' by
        rw [List.take_add_one, List.all_append, ← HB.out, List.getElem?_eq_getElem hit]
        have e5 : pts[i] = at' := by rw [hat, List.getD_eq_getElem?_getD, List.getElem?_eq_getElem hit]; rfl
        simp [e5, hva, hvr])
      have y0 := kept_cell KR Y0.out; have y1 := kept_cell KR Y1.out; have v0 := kept_cell KR V0.out; have v1 := kept_cell KR V1.out
      have h6 := kept_cell KR hc
      have ei : IntKind.i64.wrap ((i : Nat) : Int) = i := IntWalk.i64_in _ (by omega)
      clear hat hc hE hva hvr hm
      go_upto_region 11 with fail
      refine region_x (fun w' => Kept wr w') [] (by kernel_rfl) (kept_drew (kept_refl _)) (fun hHeld => ?_)
      refine x_take (i := 0) (oi := { dst := some 75, op := Op.load 23 (Operand.tmp 3), type := 23, pos := "law.go:319", after := #[], guard := none }) (v := ?_) rfl (by kernel_rfl) (by kernel_rfl) (by kernel_rfl) (by kernel_rfl) (by kernel_rfl) (fun _ _ _ h => h) (Or.inl ⟨rfl, ?_⟩) (by assumption) ?_
      rotate_left
      · (intro w' hSw; replace y0 := kept_cell hSw y0; replace y1 := kept_cell hSw y1; replace v0 := kept_cell hSw v0; replace v1 := kept_cell hSw v1; replace h6 := kept_cell hSw h6; go_simp; try with_reducible rfl)
      try simp only [Act.put, List.setIfInBounds_toArray, List.set_cons_zero, List.set_cons_succ]
      refine x_take (i := 1) (oi := { dst := some 76, op := Op.move (Operand.tmp 1), type := 3, pos := "law.go:319", after := #[], guard := none }) (v := ?_) rfl (by kernel_rfl) (by kernel_rfl) (by kernel_rfl) (by kernel_rfl) (by kernel_rfl) (fun _ _ _ h => h) (Or.inl ⟨rfl, ?_⟩) (by assumption) ?_
      rotate_left
      · (intro w' hSw; replace y0 := kept_cell hSw y0; replace y1 := kept_cell hSw y1; replace v0 := kept_cell hSw v0; replace v1 := kept_cell hSw v1; replace h6 := kept_cell hSw h6; go_simp; try with_reducible rfl)
      try simp only [Act.put, List.setIfInBounds_toArray, List.set_cons_zero, List.set_cons_succ]
      refine x_take (i := 2) (oi := { dst := some 77, op := Op.fieldAddr 51 (Operand.tmp 5) 0, type := 0, pos := "law.go:319", after := #[], guard := none }) (v := ?_) rfl (by kernel_rfl) (by kernel_rfl) (by kernel_rfl) (by kernel_rfl) (by kernel_rfl) (fun _ _ _ h => h) (Or.inl ⟨rfl, ?_⟩) (by assumption) ?_
      rotate_left
      · (intro w' hSw; replace y0 := kept_cell hSw y0; replace y1 := kept_cell hSw y1; replace v0 := kept_cell hSw v0; replace v1 := kept_cell hSw v1; replace h6 := kept_cell hSw h6; go_simp; try with_reducible rfl)
      try simp only [Act.put, List.setIfInBounds_toArray, List.set_cons_zero, List.set_cons_succ]
      refine x_take (i := 3) (oi := { dst := some 78, op := Op.load 25 (Operand.tmp 77), type := 25, pos := "law.go:319", after := #[{ on := 2, ground := Ground.data }], guard := none }) (v := ?_) rfl (by kernel_rfl) (by kernel_rfl) (by kernel_rfl) (by kernel_rfl) (by kernel_rfl) (fun _ _ _ h => h) (Or.inl ⟨rfl, ?_⟩) (by assumption) ?_
      rotate_left
      · (intro w' hSw; replace y0 := kept_cell hSw y0; replace y1 := kept_cell hSw y1; replace v0 := kept_cell hSw v0; replace v1 := kept_cell hSw v1; replace h6 := kept_cell hSw h6; go_simp; try with_reducible rfl)
      try simp only [Act.put, List.setIfInBounds_toArray, List.set_cons_zero, List.set_cons_succ]
      refine x_take (i := 4) (oi := { dst := some 79, op := Op.move (Operand.tmp 11), type := 63, pos := "law.go:319", after := #[], guard := none }) (v := ?_) rfl (by kernel_rfl) (by kernel_rfl) (by kernel_rfl) (by kernel_rfl) (by kernel_rfl) (fun _ _ _ h => h) (Or.inl ⟨rfl, ?_⟩) (by assumption) ?_
      rotate_left
      · (intro w' hSw; replace y0 := kept_cell hSw y0; replace y1 := kept_cell hSw y1; replace v0 := kept_cell hSw v0; replace v1 := kept_cell hSw v1; replace h6 := kept_cell hSw h6; go_simp; try with_reducible rfl)
      try simp only [Act.put, List.setIfInBounds_toArray, List.set_cons_zero, List.set_cons_succ]
      refine x_take (i := 5) (oi := { dst := some 80, op := Op.move (Operand.tmp 13), type := 3, pos := "law.go:319", after := #[], guard := none }) (v := ?_) rfl (by kernel_rfl) (by kernel_rfl) (by kernel_rfl) (by kernel_rfl) (by kernel_rfl) (fun _ _ _ h => h) (Or.inl ⟨rfl, ?_⟩) (by assumption) ?_
      rotate_left
      · (intro w' hSw; replace y0 := kept_cell hSw y0; replace y1 := kept_cell hSw y1; replace v0 := kept_cell hSw v0; replace v1 := kept_cell hSw v1; replace h6 := kept_cell hSw h6; go_simp; try with_reducible rfl)
      try simp only [Act.put, List.setIfInBounds_toArray, List.set_cons_zero, List.set_cons_succ]
      refine x_take (i := 6) (oi := { dst := some 81, op := Op.indexAddr 63 (Operand.tmp 79) (Operand.tmp 80), type := 0, pos := "law.go:319", after := #[{ on := 4, ground := Ground.data }, { on := 5, ground := Ground.data }], guard := none }) (v := ?_) rfl (by kernel_rfl) (by kernel_rfl) (by kernel_rfl) (by kernel_rfl) (by kernel_rfl) (fun _ _ _ h => h) (Or.inl ⟨rfl, ?_⟩) (by assumption) ?_
      rotate_left
      · (intro w' hSw; replace y0 := kept_cell hSw y0; replace y1 := kept_cell hSw y1; replace v0 := kept_cell hSw v0; replace v1 := kept_cell hSw v1; replace h6 := kept_cell hSw h6; go_simp; try with_reducible rfl)
      try simp only [Act.put, List.setIfInBounds_toArray, List.set_cons_zero, List.set_cons_succ]
      refine x_take (i := 7) (oi := { dst := some 82, op := Op.load 56 (Operand.tmp 81), type := 56, pos := "law.go:319", after := #[{ on := 6, ground := Ground.data }], guard := none }) (v := ?_) rfl (by kernel_rfl) (by kernel_rfl) (by kernel_rfl) (by kernel_rfl) (by kernel_rfl) (fun _ _ _ h => h) (Or.inl ⟨rfl, ?_⟩) (by assumption) ?_
      rotate_left
      · (intro w' hSw; replace y0 := kept_cell hSw y0; replace y1 := kept_cell hSw y1; replace v0 := kept_cell hSw v0; replace v1 := kept_cell hSw v1; replace h6 := kept_cell hSw h6; go_simp; try with_reducible rfl)
      try simp only [Act.put, List.setIfInBounds_toArray, List.set_cons_zero, List.set_cons_succ]
      refine x_one (i := 8) (o := { dst := some 83, op := Op.call { callee := Callee.value (Operand.func 32), args := #[Operand.tmp 75, Operand.tmp 76, Operand.tmp 78, Operand.tmp 82], argTypes := #[23, 3, 25, 56] }, type := 43, pos := "law.go:319", after := #[{ on := 0, ground := Ground.data }, { on := 1, ground := Ground.data }, { on := 3, ground := Ground.data }, { on := 7, ground := Ground.data }], guard := none }) (by kernel_rfl) rfl (fun K hK => ?_)
      (go_simp; go_at_call 32; (with_reducible refine (C1.out _ (kept_trans KR hHeld)).mono ?_); rintro e w7 ⟨rfl, k7⟩; have G7 := kept_trans hHeld k7; try dsimp only)
      refine hK.out _ _ ?_ (fun hHeld => ?_)
      · (try dsimp only); repeat (first | assumption | exact kept_refl _ | refine kept_drew ?_ | refine kept_alloc ?_ _ | refine kept_set ?_ (by omega) _)
      clear hK K
      try simp only [Act.put, List.setIfInBounds_toArray, List.set_cons_zero, List.set_cons_succ]
      refine x_take (i := 9) (oi := { dst := some 74, op := Op.move (Operand.tmp 83), type := 43, pos := "law.go:319", after := #[{ on := 8, ground := Ground.data }], guard := none }) (v := ?_) rfl (by kernel_rfl) (by kernel_rfl) (by kernel_rfl) (by kernel_rfl) (by kernel_rfl) (fun _ _ _ h => h) (Or.inl ⟨rfl, ?_⟩) (by assumption) ?_
      rotate_left
      · (intro w' hSw; replace y0 := kept_cell hSw y0; replace y1 := kept_cell hSw y1; replace v0 := kept_cell hSw v0; replace v1 := kept_cell hSw v1; replace h6 := kept_cell hSw h6; go_simp; try with_reducible rfl)
      try simp only [Act.put, List.setIfInBounds_toArray, List.set_cons_zero, List.set_cons_succ]
      refine x_take (i := 10) (oi := { dst := some 84, op := Op.extract (Operand.tmp 74) 0, type := 3, pos := "law.go:319", after := #[{ on := 9, ground := Ground.data }], guard := none }) (v := ?_) rfl (by kernel_rfl) (by kernel_rfl) (by kernel_rfl) (by kernel_rfl) (by kernel_rfl) (fun _ _ _ h => h) (Or.inl ⟨rfl, ?_⟩) (by assumption) ?_
      rotate_left
      · (intro w' hSw; replace y0 := kept_cell hSw y0; replace y1 := kept_cell hSw y1; replace v0 := kept_cell hSw v0; replace v1 := kept_cell hSw v1; replace h6 := kept_cell hSw h6; go_simp; try with_reducible rfl)
      try simp only [Act.put, List.setIfInBounds_toArray, List.set_cons_zero, List.set_cons_succ]
      refine x_take (i := 11) (oi := { dst := some 85, op := Op.extract (Operand.tmp 74) 1, type := 28, pos := "law.go:319", after := #[{ on := 9, ground := Ground.data }, { on := 12, ground := Ground.gcOnly Departure.lateStores }], guard := none }) (v := ?_) rfl (by kernel_rfl) (by kernel_rfl) (by kernel_rfl) (by kernel_rfl) (by kernel_rfl) (fun _ _ _ h => h) (Or.inl ⟨rfl, ?_⟩) (by assumption) ?_
      rotate_left
      · (intro w' hSw; replace y0 := kept_cell hSw y0; replace y1 := kept_cell hSw y1; replace v0 := kept_cell hSw v0; replace v1 := kept_cell hSw v1; replace h6 := kept_cell hSw h6; go_simp; try with_reducible rfl)
      try simp only [Act.put, List.setIfInBounds_toArray, List.set_cons_zero, List.set_cons_succ]
      refine x_take (i := 12) (oi := { dst := some 14, op := Op.assign (Operand.tmp 84), type := 3, pos := "law.go:319", after := #[{ on := 10, ground := Ground.data }, { on := 8, ground := Ground.chain }, { on := 0, ground := Ground.phase }, { on := 1, ground := Ground.phase }, { on := 2, ground := Ground.phase }, { on := 3, ground := Ground.phase }, { on := 4, ground := Ground.phase }, { on := 5, ground := Ground.phase }, { on := 6, ground := Ground.phase }, { on := 7, ground := Ground.phase }, { on := 8, ground := Ground.phase }, { on := 9, ground := Ground.phase }, { on := 10, ground := Ground.phase }, { on := 11, ground := Ground.textOnly Departure.lateStores }], guard := none }) (v := ?_) rfl (by kernel_rfl) (by kernel_rfl) (by kernel_rfl) (by kernel_rfl) (by kernel_rfl) (fun _ _ _ h => h) (Or.inl ⟨rfl, ?_⟩) (by assumption) ?_
      rotate_left
      · (intro w' hSw; replace y0 := kept_cell hSw y0; replace y1 := kept_cell hSw y1; replace v0 := kept_cell hSw v0; replace v1 := kept_cell hSw v1; replace h6 := kept_cell hSw h6; go_simp; try with_reducible rfl)
      try simp only [Act.put, List.setIfInBounds_toArray, List.set_cons_zero, List.set_cons_succ]
      refine x_take (i := 13) (oi := { dst := some 15, op := Op.assign (Operand.tmp 85), type := 28, pos := "law.go:319", after := #[{ on := 11, ground := Ground.data }, { on := 12, ground := Ground.chain }, { on := 0, ground := Ground.phase }, { on := 1, ground := Ground.phase }, { on := 2, ground := Ground.phase }, { on := 3, ground := Ground.phase }, { on := 4, ground := Ground.phase }, { on := 5, ground := Ground.phase }, { on := 6, ground := Ground.phase }, { on := 7, ground := Ground.phase }, { on := 8, ground := Ground.phase }, { on := 9, ground := Ground.phase }, { on := 10, ground := Ground.phase }, { on := 11, ground := Ground.phase }, { on := 12, ground := Ground.phase }], guard := none }) (v := ?_) rfl (by kernel_rfl) (by kernel_rfl) (by kernel_rfl) (by kernel_rfl) (by kernel_rfl) (fun _ _ _ h => h) (Or.inl ⟨rfl, ?_⟩) (by assumption) ?_
      rotate_left
      · (intro w' hSw; replace y0 := kept_cell hSw y0; replace y1 := kept_cell hSw y1; replace v0 := kept_cell hSw v0; replace v1 := kept_cell hSw v1; replace h6 := kept_cell hSw h6; go_simp; try with_reducible rfl)
      try simp only [Act.put, List.setIfInBounds_toArray, List.set_cons_zero, List.set_cons_succ]
      refine x_done (by kernel_rfl) ?_ _
      have KR7 := kept_trans KR G7
      replace y0 := kept_cell G7 y0; replace y1 := kept_cell G7 y1; replace v0 := kept_cell G7 v0; replace v1 := kept_cell G7 v1; replace h6 := kept_cell G7 h6
      go_upto_region 12 with fail
      refine region_x (fun w' => Kept w7 w') [] (by kernel_rfl) (kept_drew (kept_refl _)) (fun hHeld => ?_)
      refine x_take (i := 0) (oi := { dst := some 87, op := Op.load 23 (Operand.tmp 3), type := 23, pos := "law.go:320", after := #[], guard := none }) (v := ?_) rfl (by kernel_rfl) (by kernel_rfl) (by kernel_rfl) (by kernel_rfl) (by kernel_rfl) (fun _ _ _ h => h) (Or.inl ⟨rfl, ?_⟩) (by assumption) ?_
      rotate_left
      · (intro w' hSw; replace y0 := kept_cell hSw y0; replace y1 := kept_cell hSw y1; replace v0 := kept_cell hSw v0; replace v1 := kept_cell hSw v1; replace h6 := kept_cell hSw h6; go_simp; try with_reducible rfl)
      try simp only [Act.put, List.setIfInBounds_toArray, List.set_cons_zero, List.set_cons_succ]
      refine x_take (i := 1) (oi := { dst := some 88, op := Op.move (Operand.tmp 1), type := 3, pos := "law.go:320", after := #[], guard := none }) (v := ?_) rfl (by kernel_rfl) (by kernel_rfl) (by kernel_rfl) (by kernel_rfl) (by kernel_rfl) (fun _ _ _ h => h) (Or.inl ⟨rfl, ?_⟩) (by assumption) ?_
      rotate_left
      · (intro w' hSw; replace y0 := kept_cell hSw y0; replace y1 := kept_cell hSw y1; replace v0 := kept_cell hSw v0; replace v1 := kept_cell hSw v1; replace h6 := kept_cell hSw h6; go_simp; try with_reducible rfl)
      try simp only [Act.put, List.setIfInBounds_toArray, List.set_cons_zero, List.set_cons_succ]
      refine x_take (i := 2) (oi := { dst := some 89, op := Op.fieldAddr 51 (Operand.tmp 5) 1, type := 0, pos := "law.go:320", after := #[], guard := none }) (v := ?_) rfl (by kernel_rfl) (by kernel_rfl) (by kernel_rfl) (by kernel_rfl) (by kernel_rfl) (fun _ _ _ h => h) (Or.inl ⟨rfl, ?_⟩) (by assumption) ?_
      rotate_left
      · (intro w' hSw; replace y0 := kept_cell hSw y0; replace y1 := kept_cell hSw y1; replace v0 := kept_cell hSw v0; replace v1 := kept_cell hSw v1; replace h6 := kept_cell hSw h6; go_simp; try with_reducible rfl)
      try simp only [Act.put, List.setIfInBounds_toArray, List.set_cons_zero, List.set_cons_succ]
      refine x_take (i := 3) (oi := { dst := some 90, op := Op.load 25 (Operand.tmp 89), type := 25, pos := "law.go:320", after := #[{ on := 2, ground := Ground.data }], guard := none }) (v := ?_) rfl (by kernel_rfl) (by kernel_rfl) (by kernel_rfl) (by kernel_rfl) (by kernel_rfl) (fun _ _ _ h => h) (Or.inl ⟨rfl, ?_⟩) (by assumption) ?_
      rotate_left
      · (intro w' hSw; replace y0 := kept_cell hSw y0; replace y1 := kept_cell hSw y1; replace v0 := kept_cell hSw v0; replace v1 := kept_cell hSw v1; replace h6 := kept_cell hSw h6; go_simp; try with_reducible rfl)
      try simp only [Act.put, List.setIfInBounds_toArray, List.set_cons_zero, List.set_cons_succ]
      refine x_take (i := 4) (oi := { dst := some 91, op := Op.move (Operand.tmp 11), type := 63, pos := "law.go:320", after := #[], guard := none }) (v := ?_) rfl (by kernel_rfl) (by kernel_rfl) (by kernel_rfl) (by kernel_rfl) (by kernel_rfl) (fun _ _ _ h => h) (Or.inl ⟨rfl, ?_⟩) (by assumption) ?_
      rotate_left
      · (intro w' hSw; replace y0 := kept_cell hSw y0; replace y1 := kept_cell hSw y1; replace v0 := kept_cell hSw v0; replace v1 := kept_cell hSw v1; replace h6 := kept_cell hSw h6; go_simp; try with_reducible rfl)
      try simp only [Act.put, List.setIfInBounds_toArray, List.set_cons_zero, List.set_cons_succ]
      refine x_take (i := 5) (oi := { dst := some 92, op := Op.move (Operand.tmp 13), type := 3, pos := "law.go:320", after := #[], guard := none }) (v := ?_) rfl (by kernel_rfl) (by kernel_rfl) (by kernel_rfl) (by kernel_rfl) (by kernel_rfl) (fun _ _ _ h => h) (Or.inl ⟨rfl, ?_⟩) (by assumption) ?_
      rotate_left
      · (intro w' hSw; replace y0 := kept_cell hSw y0; replace y1 := kept_cell hSw y1; replace v0 := kept_cell hSw v0; replace v1 := kept_cell hSw v1; replace h6 := kept_cell hSw h6; go_simp; try with_reducible rfl)
      try simp only [Act.put, List.setIfInBounds_toArray, List.set_cons_zero, List.set_cons_succ]
      refine x_take (i := 6) (oi := { dst := some 93, op := Op.indexAddr 63 (Operand.tmp 91) (Operand.tmp 92), type := 0, pos := "law.go:320", after := #[{ on := 4, ground := Ground.data }, { on := 5, ground := Ground.data }], guard := none }) (v := ?_) rfl (by kernel_rfl) (by kernel_rfl) (by kernel_rfl) (by kernel_rfl) (by kernel_rfl) (fun _ _ _ h => h) (Or.inl ⟨rfl, ?_⟩) (by assumption) ?_
      rotate_left
      · (intro w' hSw; replace y0 := kept_cell hSw y0; replace y1 := kept_cell hSw y1; replace v0 := kept_cell hSw v0; replace v1 := kept_cell hSw v1; replace h6 := kept_cell hSw h6; go_simp; try with_reducible rfl)
      try simp only [Act.put, List.setIfInBounds_toArray, List.set_cons_zero, List.set_cons_succ]
      refine x_take (i := 7) (oi := { dst := some 94, op := Op.load 56 (Operand.tmp 93), type := 56, pos := "law.go:320", after := #[{ on := 6, ground := Ground.data }], guard := none }) (v := ?_) rfl (by kernel_rfl) (by kernel_rfl) (by kernel_rfl) (by kernel_rfl) (by kernel_rfl) (fun _ _ _ h => h) (Or.inl ⟨rfl, ?_⟩) (by assumption) ?_
      rotate_left
      · (intro w' hSw; replace y0 := kept_cell hSw y0; replace y1 := kept_cell hSw y1; replace v0 := kept_cell hSw v0; replace v1 := kept_cell hSw v1; replace h6 := kept_cell hSw h6; go_simp; try with_reducible rfl)
      try simp only [Act.put, List.setIfInBounds_toArray, List.set_cons_zero, List.set_cons_succ]
      refine x_one (i := 8) (o := { dst := some 95, op := Op.call { callee := Callee.value (Operand.func 32), args := #[Operand.tmp 87, Operand.tmp 88, Operand.tmp 90, Operand.tmp 94], argTypes := #[23, 3, 25, 56] }, type := 43, pos := "law.go:320", after := #[{ on := 0, ground := Ground.data }, { on := 1, ground := Ground.data }, { on := 3, ground := Ground.data }, { on := 7, ground := Ground.data }], guard := none }) (by kernel_rfl) rfl (fun K hK => ?_)
      (go_simp; go_at_call 32; (with_reducible refine (C2.out _ (kept_trans KR7 hHeld)).mono ?_); rintro e w8 ⟨rfl, k8⟩; have G8 := kept_trans hHeld k8; try dsimp only)
      refine hK.out _ _ ?_ (fun hHeld => ?_)
      · (try dsimp only); repeat (first | assumption | exact kept_refl _ | refine kept_drew ?_ | refine kept_alloc ?_ _ | refine kept_set ?_ (by omega) _)
      clear hK K
      try simp only [Act.put, List.setIfInBounds_toArray, List.set_cons_zero, List.set_cons_succ]
      refine x_take (i := 9) (oi := { dst := some 86, op := Op.move (Operand.tmp 95), type := 43, pos := "law.go:320", after := #[{ on := 8, ground := Ground.data }], guard := none }) (v := ?_) rfl (by kernel_rfl) (by kernel_rfl) (by kernel_rfl) (by kernel_rfl) (by kernel_rfl) (fun _ _ _ h => h) (Or.inl ⟨rfl, ?_⟩) (by assumption) ?_
      rotate_left
      · (intro w' hSw; replace y0 := kept_cell hSw y0; replace y1 := kept_cell hSw y1; replace v0 := kept_cell hSw v0; replace v1 := kept_cell hSw v1; replace h6 := kept_cell hSw h6; go_simp; try with_reducible rfl)
      try simp only [Act.put, List.setIfInBounds_toArray, List.set_cons_zero, List.set_cons_succ]
      refine x_take (i := 10) (oi := { dst := some 96, op := Op.extract (Operand.tmp 86) 0, type := 3, pos := "law.go:320", after := #[{ on := 9, ground := Ground.data }], guard := none }) (v := ?_) rfl (by kernel_rfl) (by kernel_rfl) (by kernel_rfl) (by kernel_rfl) (by kernel_rfl) (fun _ _ _ h => h) (Or.inl ⟨rfl, ?_⟩) (by assumption) ?_
      rotate_left
      · (intro w' hSw; replace y0 := kept_cell hSw y0; replace y1 := kept_cell hSw y1; replace v0 := kept_cell hSw v0; replace v1 := kept_cell hSw v1; replace h6 := kept_cell hSw h6; go_simp; try with_reducible rfl)
      try simp only [Act.put, List.setIfInBounds_toArray, List.set_cons_zero, List.set_cons_succ]
      refine x_take (i := 11) (oi := { dst := some 97, op := Op.extract (Operand.tmp 86) 1, type := 28, pos := "law.go:320", after := #[{ on := 9, ground := Ground.data }, { on := 12, ground := Ground.gcOnly Departure.lateStores }], guard := none }) (v := ?_) rfl (by kernel_rfl) (by kernel_rfl) (by kernel_rfl) (by kernel_rfl) (by kernel_rfl) (fun _ _ _ h => h) (Or.inl ⟨rfl, ?_⟩) (by assumption) ?_
      rotate_left
      · (intro w' hSw; replace y0 := kept_cell hSw y0; replace y1 := kept_cell hSw y1; replace v0 := kept_cell hSw v0; replace v1 := kept_cell hSw v1; replace h6 := kept_cell hSw h6; go_simp; try with_reducible rfl)
      try simp only [Act.put, List.setIfInBounds_toArray, List.set_cons_zero, List.set_cons_succ]
      refine x_take (i := 12) (oi := { dst := some 16, op := Op.assign (Operand.tmp 96), type := 3, pos := "law.go:320", after := #[{ on := 10, ground := Ground.data }, { on := 8, ground := Ground.chain }, { on := 0, ground := Ground.phase }, { on := 1, ground := Ground.phase }, { on := 2, ground := Ground.phase }, { on := 3, ground := Ground.phase }, { on := 4, ground := Ground.phase }, { on := 5, ground := Ground.phase }, { on := 6, ground := Ground.phase }, { on := 7, ground := Ground.phase }, { on := 8, ground := Ground.phase }, { on := 9, ground := Ground.phase }, { on := 10, ground := Ground.phase }, { on := 11, ground := Ground.textOnly Departure.lateStores }], guard := none }) (v := ?_) rfl (by kernel_rfl) (by kernel_rfl) (by kernel_rfl) (by kernel_rfl) (by kernel_rfl) (fun _ _ _ h => h) (Or.inl ⟨rfl, ?_⟩) (by assumption) ?_
      rotate_left
      · (intro w' hSw; replace y0 := kept_cell hSw y0; replace y1 := kept_cell hSw y1; replace v0 := kept_cell hSw v0; replace v1 := kept_cell hSw v1; replace h6 := kept_cell hSw h6; go_simp; try with_reducible rfl)
      try simp only [Act.put, List.setIfInBounds_toArray, List.set_cons_zero, List.set_cons_succ]
      refine x_take (i := 13) (oi := { dst := some 17, op := Op.assign (Operand.tmp 97), type := 28, pos := "law.go:320", after := #[{ on := 11, ground := Ground.data }, { on := 12, ground := Ground.chain }, { on := 0, ground := Ground.phase }, { on := 1, ground := Ground.phase }, { on := 2, ground := Ground.phase }, { on := 3, ground := Ground.phase }, { on := 4, ground := Ground.phase }, { on := 5, ground := Ground.phase }, { on := 6, ground := Ground.phase }, { on := 7, ground := Ground.phase }, { on := 8, ground := Ground.phase }, { on := 9, ground := Ground.phase }, { on := 10, ground := Ground.phase }, { on := 11, ground := Ground.phase }, { on := 12, ground := Ground.phase }], guard := none }) (v := ?_) rfl (by kernel_rfl) (by kernel_rfl) (by kernel_rfl) (by kernel_rfl) (by kernel_rfl) (fun _ _ _ h => h) (Or.inl ⟨rfl, ?_⟩) (by assumption) ?_
      rotate_left
      · (intro w' hSw; replace y0 := kept_cell hSw y0; replace y1 := kept_cell hSw y1; replace v0 := kept_cell hSw v0; replace v1 := kept_cell hSw v1; replace h6 := kept_cell hSw h6; go_simp; try with_reducible rfl)
      try simp only [Act.put, List.setIfInBounds_toArray, List.set_cons_zero, List.set_cons_succ]
      refine x_done (by kernel_rfl) ?_ _
      have KR8 := kept_trans KR7 G8
      clear y0 y1 v0 v1 h6
      cases b with
      | true =>
        rw [Bool.true_and] at HV
        go_wp2_with fail
        go_roundg (pts.length - (i + 1))
        case rel => exact ⟨i + 1, (va == vr), _, _, _, _, by omega, rfl, rfl, by go_num, rfl, rfl, rfl, rfl, HV, KR8⟩
        case measure => omega
      | false =>
        rw [Bool.false_and] at HV
        go_wp2_with fail
        go_roundg (pts.length - (i + 1))
        case rel => exact ⟨i + 1, false, _, _, _, _, by omega, rfl, rfl, by go_num, rfl, rfl, rfl, rfl, HV, KR8⟩
        case measure => omega
    · have dd1 : decide ((i : Int) < (pts.length : Int)) = false := decide_eq_false (by omega)
      have dd2 : decide (i < pts.length) = false := decide_eq_false (by omega)
      obtain rfl : i = pts.length := by omega
      have hbD : b = D := by rw [HB.out, List.take_length]; exact HALL.out
      subst hbD
      have hA := H4.out.kept KR
      have hB := H5.out.kept KR
      have K2 := KW
      cases b with
      | true =>
        go_wp2_with (first
          | (go_at_call 38; ((with_reducible refine (C38.out _ _ _ _ _ hA hB).mono ?_); rintro e w7 ⟨rfl, k7⟩; replace K2 := kept_trans K2 k7))
          | (go_at_call 13; ((with_reducible refine (C13.out _ K2).mono ?_); rintro e w9 ⟨rfl, k9⟩; replace K2 := kept_trans K2 k9)))
        go_ret
        exact ⟨rfl, K2⟩
      | false =>
        go_wp2_with (first
          | (go_at_call 38; ((with_reducible refine (C38.out _ _ _ _ _ hA hB).mono ?_); rintro e w7 ⟨rfl, k7⟩; replace K2 := kept_trans K2 k7))
          | (go_at_call 13; ((with_reducible refine (C13.out _ K2).mono ?_); rintro e w9 ⟨rfl, k9⟩; replace K2 := kept_trans K2 k9)))
        go_ret
        exact ⟨rfl, K2⟩
theorem law8_any (P M n : Int) (p : List Tm) (A : Option Addr) (c : Nat) (r : List Tm) (B : Option Addr) (d : Nat) (z : Int) (w : World) (hp : PowOk w) (hP : RP w A p) (hl : p.length ≤ 140737488355328) (hR : RP w B r) (hl2 : r.length ≤ 140737488355328) :
    Calls Tryd.prog 8 #[fV P M, .int .i64 n, .agg #[.slice A p.length c, .slice B r.length d, .int .i64 z]] w fun e w' => e = .returned (.bool true) ∧ Kept w w' := by
  by_cases hn : n < 0 ∨ 8 < n
  · exact law8_out P M n p A c r B d z w hp hP hl hR hl2 hn
  · obtain ⟨N, en⟩ : ∃ N : Nat, n = (N : Int) := ⟨n.toNat, by omega⟩
    have hN : N ≤ 8 := by omega
    cases hf : fewB 60 [p, r] with
    | false => exact law8_few0 P M N n en hN p A c r B d z w hp hP hl hR hl2 hf
    | true =>
      cases hq : fewQ (ordF P M) N with
      | false => exact law8_few1 P M N n en hN p A c r B d z w hp hP hl hR hl2 hf hq
      | true =>
        cases hv : vld (ordF P M) n p with
        | false => cases hv2 : vld (ordF P M) n r with
          | false => exact law8_bad1 P M N n en hN p A c r B d z w hp hP hl hR hl2 hf hq hv hv2
          | true => exact law8_bad2 P M N n en hN p A c r B d z w hp hP hl hR hl2 hf hq hv hv2
        | true => cases hv2 : vld (ordF P M) n r with
          | false => exact law8_bad3 P M N n en hN p A c r B d z w hp hP hl hR hl2 hf hq hv hv2
          | true => exact law8_main P M N n en hN p A c r B d z w hp hP hl hR hl2 hf hq hv hv2
end Go.Proofs.YtnjmpjdampdmmaaDoor
