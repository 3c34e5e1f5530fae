/- Polynomials: the law PolyReduces, walked. -/
import Derived.Test.YtnjmpjdampdmmaaDoorC22
set_option linter.unusedVariables false
set_option linter.unusedSimpArgs false
namespace Go.Proofs.YtnjmpjdampdmmaaDoor
open Go.RowKit

theorem rpp_one {w : World} {A : Option Addr} {c : Nat} {p : List Tm} (h : RP w A p) (hl : p.length ≤ 140737488355328) : RPP (w.alloc (.cells #[.slice A p.length c] 25)) (some ⟨w.heap.size, 0, none⟩) [p] := fun j hj => by
  obtain rfl : j = 0 := by simp at hj; omega
  exact ⟨w.heap.size, 0, A, c, rfl, (Own.new w 25 [.slice A p.length c]).cell (j := 0) rfl, h.kept (kept_alloc (kept_refl w) _), hl⟩
theorem rvalid15_all (P M n : Int) (p : List Tm) (A : Option Addr) (c : Nat) (w : World) (hP : RP w A p) (hl : p.length ≤ 140737488355328) :
    Calls Tryd.prog 15 #[fV P M, .int .i64 n, .slice A p.length c] w fun e w' => e = .returned (.bool (vld (ordF P M) n p)) ∧ Kept w w' := by
  by_cases h : 0 ≤ n ∧ n ≤ 80 ∧ p.length ≤ 20000
  · exact rvalid15_main P M n p A c w hP h.1 h.2.1 h.2.2
  · exact rvalid15_pre P M n p A c w hl h
theorem sumLen_one (f : Tm → Tm) : ∀ p : List Tm, sumLen ((p.map f).map fun t => [t]) = p.length
  | [] => rfl
  | t :: p => by
    have ih := sumLen_one f p
    unfold sumLen at ih ⊢
    simp only [List.map_cons, List.sum_cons, List.length_cons, List.length_nil, ih]
    omega
set_option maxRecDepth 100000 in
set_option maxHeartbeats 1000000 in
theorem law3_any (P M n : Int) (p : List Tm) (A : Option Addr) (c : Nat) (w : World) (hp : PowOk w) (hP : RP w A p) (hl : p.length ≤ 140737488355328) :
    Calls Tryd.prog 3 #[fV P M, .int .i64 n, .slice A p.length c] w fun e w' => e = .returned (.bool true) ∧ Kept w w' := by
  have K0 := kept_alloc (kept_refl w) (.cells #[.int .i64 P, .int .i64 M] 23)
  have K1 := kept_alloc K0 (.cells #[.slice A p.length c] 25)
  have o3 := (Own.new w 23 [.int .i64 P, .int .i64 M]).alloc (.cells #[.slice A p.length c] 25)
  have y0 := o3.cell (j := 0) rfl; have y1 := o3.cell (j := 1) rfl
  have C12 := Lib.hid (show Calls Tryd.prog 12 #[.int .i64 1500, .slice (some ⟨w.heap.size + 1, 0, none⟩) 1 1] ((w.alloc (.cells #[.int .i64 P, .int .i64 M] 23)).alloc (.cells #[.slice A p.length c] 25)) _ from few12_any 1500 [p] (some ⟨w.heap.size + 1, 0, none⟩) 1 ((w.alloc (.cells #[.int .i64 P, .int .i64 M] 23)).alloc (.cells #[.slice A p.length c] 25)) (by decide) (by decide) (by have := rpp_one (c := c) (hP.kept K0) hl; simpa using this) (by simp))
  have C13 := Lib.hid fun w' (k : Kept w w') => alive13_any w' (hp.kept k)
  have C15 := Lib.hid fun w' (k : Kept w w') => rvalid15_all P M n p A c w' (hP.kept k) hl
  cases hf : fewB 1500 [p] with
  | false =>
    rw [hf] at C12
    unfold fV
    clear hP hf hp
    go_enter Tryd.func3, Tryd.ntmps3
    go_wp2_with (first
      | (go_at_call 12; ((with_reducible refine C12.out.mono ?_); rintro e w1 ⟨rfl, rfl⟩))
      | (go_at_call 13; ((with_reducible refine (C13.out _ K1).mono ?_); rintro e w2 ⟨rfl, k2⟩)))
    go_ret
    exact ⟨rfl, kept_trans K1 k2⟩
  | true =>
    rw [hf] at C12
    cases hv : vld (ordF P M) n p with
    | false =>
      have C14 := Lib.hid fun w' (k : Kept w w') => reduce14_bad P M n p A c w' (hP.kept k) hl hv
      have C16 := Lib.hid fun w' => is16_err 1 none none 0 0 0 w' (by decide)
      rw [hv] at C15
      unfold fV at *
      clear hP hf hp hv
      go_enter Tryd.func3, Tryd.ntmps3
      go_wp2_with (first
        | (go_at_call 12; ((with_reducible refine C12.out.mono ?_); rintro e w1 ⟨rfl, rfl⟩))
        | (go_at_call 14; ((with_reducible refine (C14.out _ K1).mono ?_); rintro e w2 ⟨rfl, k2⟩; replace K1 := kept_trans K1 k2; replace y0 := kept_cell k2 y0; replace y1 := kept_cell k2 y1))
        | (go_at_call 15; ((with_reducible refine (C15.out _ K1).mono ?_); rintro e w3 ⟨rfl, k3⟩; replace K1 := kept_trans K1 k3; replace y0 := kept_cell k3 y0; replace y1 := kept_cell k3 y1))
        | (go_at_call 16; ((with_reducible refine (C16.out _).mono ?_); rintro e w4 ⟨rfl, k4⟩; replace K1 := kept_trans K1 k4))
        | (go_at_call 13; ((with_reducible refine (C13.out _ K1).mono ?_); rintro e w5 ⟨rfl, k5⟩; replace K1 := kept_trans K1 k5)))
      go_ret
      exact ⟨rfl, K1⟩
    | true =>
      have hvp := hv
      simp only [vld, Bool.and_eq_true, decide_eq_true_eq, allN_true] at hvp
      have hq0 := hvp.1.2
      have hl2 := hvp.1.1.2
      have ok : okF P M = true := by
        cases h : okF P M with
        | true => rfl
        | false => exact absurd (ord_bad h) hq0
      obtain ⟨T, hT⟩ : ∃ T, T = totalT (addF P M) p.length ((p.map (redT (ordF P M))).map fun t => [t]) := ⟨_, rfl⟩
      have hT2 : tot (addF P M) (p.map fun t => [redT (ordF P M) t]) = T := by rw [hT]; unfold tot; simp only [List.length_map, List.map_map]; rfl
      have hTl : T.length ≤ 140737488355328 := by
        have h5 := totalT_len (addF P M) p.length ((p.map (redT (ordF P M))).map fun t => [t])
        have h6 : sumLen ((p.map (redT (ordF P M))).map fun t => [t]) = p.length := by
          exact sumLen_one _ p
        rw [← hT] at h5
        omega
      have C14 := Lib.hid fun w' (k : Kept w w') => reduce14_any P M n p A c w' (hP.kept k) hv
      have C17 := Lib.hid fun w' (k : Kept w w') => rreduce17_any P M n p A c w' (hP.kept k) hv
      have C18 := Lib.hid fun w' => of18_any P M w' ok
      have C16 := Lib.hid fun w' A B c d h1 h2 => is16_ok T T A B c d w' h1 h2 hTl hTl
      rw [show decide (T = T) = true by simp] at C16
      rw [hv] at C15
      rw [← hT] at C14
      have HT2 := Lib.hid hT2
      obtain ⟨kv, hkv⟩ : ∃ kv, kv = kV P M := ⟨_, rfl⟩
      rw [← hkv] at C17 C18
      unfold fV at *
      clear hP hf hp hv hvp hT hT2 hkv ok hq0
      go_enter Tryd.func3, Tryd.ntmps3
      go_wp2_with (first
        | (go_at_call 12; ((with_reducible refine C12.out.mono ?_); rintro e w1 ⟨rfl, rfl⟩))
        | (go_at_call 14; ((with_reducible refine (C14.out _ K1).mono ?_); rintro e w2 ⟨A2, c2, r, rfl, hr, hrp, k2⟩; replace K1 := kept_trans K1 k2; replace y0 := kept_cell k2 y0; replace y1 := kept_cell k2 y1; subst hr))
        | (go_at_call 15; ((with_reducible refine (C15.out _ K1).mono ?_); rintro e w3 ⟨rfl, k3⟩; replace K1 := kept_trans K1 k3; replace y0 := kept_cell k3 y0; replace y1 := kept_cell k3 y1; replace hrp := hrp.kept k3))
        | (go_at_call 18; ((with_reducible refine (C18.out _).mono ?_); rintro e w4 ⟨rfl, k4⟩; replace K1 := kept_trans K1 k4; replace hrp := hrp.kept k4))
        | (go_at_call 17; ((with_reducible refine (C17.out _ K1).mono ?_); rintro e w5 ⟨A5, c5, o5, rfl, ho, hop, k5⟩; replace K1 := kept_trans K1 k5; replace hrp := hrp.kept k5; rw [HT2.out] at ho; subst ho))
        | (go_at_call 16; ((with_reducible refine (C16.out _ _ _ _ _ hrp hop).mono ?_); rintro e w6 ⟨rfl, k6⟩; replace K1 := kept_trans K1 k6))
        | (go_at_call 13; ((with_reducible refine (C13.out _ K1).mono ?_); rintro e w7 ⟨rfl, k7⟩; replace K1 := kept_trans K1 k7)))
      go_ret
      exact ⟨rfl, K1⟩
end Go.Proofs.YtnjmpjdampdmmaaDoor
