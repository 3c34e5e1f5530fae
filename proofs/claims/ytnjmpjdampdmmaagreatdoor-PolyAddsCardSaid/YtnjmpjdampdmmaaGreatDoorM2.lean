/- Polynomials: Scale and Add, the exported ones. -/
import Derived.Test.YtnjmpjdampdmmaaGreatDoorM1
import Derived.Test.YtnjmpjdampdmmaaGreatDoorD1
set_option linter.unusedVariables false
set_option linter.unusedSimpArgs false
namespace Go.Proofs.YtnjmpjdampdmmaaGreatDoor
open Go.RowKit Go.Shelf Go.Maps

def PairErr (x : Int) (w : World) (e : Ending) (w' : World) : Prop := e = .returned (.tuple #[.slice none 0 0, .int .i64 x]) ∧ Kept w w'
def PairOk (out : List Tm) (w : World) (e : Ending) (w' : World) : Prop := ∃ (A' : Option Addr) (c' : Nat), e = .returned (.tuple #[.slice A' out.length c', .int .i64 0]) ∧ RP w' A' out ∧ Kept w w'
set_option maxRecDepth 100000 in
set_option maxHeartbeats 1000000 in
theorem scale9_bad (P M n x : Int) (p : List Tm) (A : Option Addr) (c : Nat) (w : World) (hP : RP w A p) (hl : p.length ≤ 140737488355328) (hv : vld (ordF P M) n p = false) :
    Calls Tryz.prog 9 #[fV P M, .int .i64 n, .int .i64 x, .slice A p.length c] w (PairErr 1 w) := by
  have C1 := Lib.hid fun w' (k : Kept w w') => valid25_any P M n p A c w' (hP.kept k) hl
  unfold fV at *
  have K0 := kept_alloc (kept_refl w) (.cells #[.int .i64 P, .int .i64 M] 23)
  have o3 := Own.new w 23 [.int .i64 P, .int .i64 M]
  rw [hv] at C1
  clear hP hl hv
  go_enter Tryz.func9, Tryz.ntmps9
  go_wp2_with (go_at_call 29; ((with_reducible refine (C1.out _ K0).mono ?_); rintro e w1 ⟨rfl, k1⟩))
  go_ret2
  exact ⟨rfl, kept_trans K0 k1⟩
set_option maxRecDepth 100000 in
set_option maxHeartbeats 1000000 in
theorem scale9_arg (P M n x : Int) (p : List Tm) (A : Option Addr) (c : Nat) (w : World) (hP : RP w A p) (hl : p.length ≤ 140737488355328) (hv : vld (ordF P M) n p = true) (hx : ¬ (0 ≤ x ∧ x < ordF P M)) :
    Calls Tryz.prog 9 #[fV P M, .int .i64 n, .int .i64 x, .slice A p.length c] w (PairErr 2 w) := by
  have C1 := Lib.hid fun w' (k : Kept w w') => valid25_any P M n p A c w' (hP.kept k) hl
  have C2 := Lib.hid fun w' => order43_any P M w'
  rw [hv] at C1
  unfold fV at *
  have K0 := kept_alloc (kept_refl w) (.cells #[.int .i64 P, .int .i64 M] 23)
  have o3 := Own.new w 23 [.int .i64 P, .int .i64 M]
  obtain ⟨q, hq⟩ : ∃ q, q = ordF P M := ⟨_, rfl⟩
  rw [← hq] at hx C2
  clear hP hl hv hq
  by_cases hneg : x < 0
  · have d1 : decide (x < 0) = true := decide_eq_true hneg
    clear hx hneg
    go_enter Tryz.func9, Tryz.ntmps9
    go_wp2_with (go_at_call 29; ((with_reducible refine (C1.out _ K0).mono ?_); rintro e w1 ⟨rfl, k1⟩; have y0 := (o3.kept k1).cell (j := 0) rfl; have y1 := (o3.kept k1).cell (j := 1) rfl))
    go_ret2
    exact ⟨rfl, kept_trans K0 k1⟩
  · have d1 : decide (x < 0) = false := decide_eq_false hneg
    have d2 : decide (q ≤ x) = true := decide_eq_true (by omega)
    clear hx hneg
    go_enter Tryz.func9, Tryz.ntmps9
    go_wp2_with (first
      | (go_at_call 29; ((with_reducible refine (C1.out _ K0).mono ?_); rintro e w1 ⟨rfl, k1⟩; have y0 := (o3.kept k1).cell (j := 0) rfl; have y1 := (o3.kept k1).cell (j := 1) rfl))
      | (go_at_call 31; ((with_reducible refine (C2.out _).mono ?_); rintro e w2 ⟨rfl, k2⟩)))
    go_ret2
    exact ⟨rfl, kept_trans K0 (kept_trans k1 k2)⟩
set_option maxRecDepth 100000 in
set_option maxHeartbeats 1000000 in
theorem scale9_yes (P M n x : Int) (p : List Tm) (A : Option Addr) (c : Nat) (w : World) (hP : RP w A p) (hv : vld (ordF P M) n p = true) (hx : inF P M x) :
    Calls Tryz.prog 9 #[fV P M, .int .i64 n, .int .i64 x, .slice A p.length c] w (PairOk (scT P M x p) w) := by
  obtain ⟨hn, hl, tl⟩ := vld_terms hv
  have ok := vld_ok hv
  have C1 := Lib.hid fun w' (k : Kept w w') => valid25_any P M n p A c w' (hP.kept k) (by omega)
  have C2 := Lib.hid fun w' => order43_any P M w'
  have C3 := Lib.hid fun w' (k : Kept w w') => scale32_any P M x n.toNat p A c w' ok (hP.kept k) hx (by omega) (vld_tms hv) hl
  rw [hv] at C1
  unfold RowPost at C3
  unfold fV at *
  have K0 := kept_alloc (kept_refl w) (.cells #[.int .i64 P, .int .i64 M] 23)
  have o3 := Own.new w 23 [.int .i64 P, .int .i64 M]
  obtain ⟨q, hq⟩ : ∃ q, q = ordF P M := ⟨_, rfl⟩
  have h0 := hx.1
  have h1 := hx.2
  rw [← hq] at h1 C2
  have d1 : decide (x < 0) = false := decide_eq_false (by omega)
  have d2 : decide (q ≤ x) = false := decide_eq_false (by omega)
  obtain ⟨out, ho⟩ : ∃ out, out = scT P M x p := ⟨_, rfl⟩
  rw [← ho] at C3 ⊢
  clear hP hl hv hq hx tl ok h0 h1 ho hn
  go_enter Tryz.func9, Tryz.ntmps9
  go_wp2_with (first
    | (go_at_call 29; ((with_reducible refine (C1.out _ K0).mono ?_); rintro e w1 ⟨rfl, k1⟩; have y0 := (o3.kept k1).cell (j := 0) rfl; have y1 := (o3.kept k1).cell (j := 1) rfl))
    | (go_at_call 31; ((with_reducible refine (C2.out _).mono ?_); rintro e w2 ⟨rfl, k2⟩; replace y0 := kept_cell k2 y0; replace y1 := kept_cell k2 y1; replace K0 := kept_trans K0 (kept_trans k1 k2)))
    | (go_at_call 32; ((with_reducible refine (C3.out _ K0).mono ?_); rintro e w3 ⟨A', c', rfl, hrp, k3⟩)))
  go_ret2
  exact ⟨A', c', rfl, hrp, kept_trans K0 k3⟩
set_option maxRecDepth 100000 in
set_option maxHeartbeats 1000000 in
theorem add8_bad (P M n : Int) (p r : List Tm) (A B : Option Addr) (c d : Nat) (w : World) (hP : RP w A p) (hR : RP w B r) (hl : p.length ≤ 140737488355328) (hl2 : r.length ≤ 140737488355328) (hv : vld (ordF P M) n p = false ∨ vld (ordF P M) n r = false) :
    Calls Tryz.prog 8 #[fV P M, .int .i64 n, .slice A p.length c, .slice B r.length d] w (PairErr 1 w) := by
  have C1 := Lib.hid fun w' (k : Kept w w') => valid25_any P M n p A c w' (hP.kept k) hl
  have C2 := Lib.hid fun w' (k : Kept w w') => valid25_any P M n r B d w' (hR.kept k) hl2
  unfold fV at *
  have K0 := kept_alloc (kept_refl w) (.cells #[.int .i64 P, .int .i64 M] 23)
  have o3 := Own.new w 23 [.int .i64 P, .int .i64 M]
  cases h1 : vld (ordF P M) n p with
  | false =>
    rw [h1] at C1
    clear hP hR hl hl2 hv C2 h1
    go_enter Tryz.func8, Tryz.ntmps8
    go_wp2_with (go_at_call 29; ((with_reducible refine (C1.out _ K0).mono ?_); rintro e w1 ⟨rfl, k1⟩))
    go_ret2
    exact ⟨rfl, kept_trans K0 k1⟩
  | true =>
    have h2 : vld (ordF P M) n r = false := by rcases hv with h | h; rw [h1] at h; cases h; exact h
    rw [h1] at C1
    rw [h2] at C2
    clear hP hR hl hl2 hv h1 h2
    go_enter Tryz.func8, Tryz.ntmps8
    go_upto_region 1 with fail
    obtain ⟨w0, hw0⟩ : ∃ w0, w0 = w.alloc (.cells #[.int .i64 P, .int .i64 M] 23) := ⟨_, rfl⟩
    rw [← hw0] at K0 o3 ⊢
    have y0 := o3.cell (j := 0) rfl; have y1 := o3.cell (j := 1) rfl
    have D1 := Lib.hid (C1.out w0 K0)
    clear hw0
    go_wp2_with (first
      | (go_at_call 29; ((with_reducible refine D1.out.mono ?_); rintro e w1 ⟨rfl, k1⟩; replace y0 := kept_cell k1 y0; replace y1 := kept_cell k1 y1))
      | (go_at_call 29; ((with_reducible refine (C2.out _ (kept_trans K0 k1)).mono ?_); rintro e w2 ⟨rfl, k2⟩)))
    go_ret2
    exact ⟨rfl, kept_trans K0 (kept_trans k1 k2)⟩
set_option maxRecDepth 100000 in
set_option maxHeartbeats 1000000 in
theorem add8_yes (P M n : Int) (p r : List Tm) (A B : Option Addr) (c d : Nat) (w : World) (hP : RP w A p) (hR : RP w B r) (hv : vld (ordF P M) n p = true) (hv2 : vld (ordF P M) n r = true) (hpr : p.length + r.length ≤ 20000) :
    Calls Tryz.prog 8 #[fV P M, .int .i64 n, .slice A p.length c, .slice B r.length d] w (PairOk (adT P M p r) w) := by
  obtain ⟨hn, hl, tl⟩ := vld_terms hv
  obtain ⟨_, hl2, tl2⟩ := vld_terms hv2
  have ok := vld_ok hv
  have C1 := Lib.hid fun w' (k : Kept w w') => valid25_any P M n p A c w' (hP.kept k) (by omega)
  have C2 := Lib.hid fun w' (k : Kept w w') => valid25_any P M n r B d w' (hR.kept k) (by omega)
  have C3 := Lib.hid fun w' (k : Kept w w') => add75_any P M n.toNat p r A B c d w' ok (hP.kept k) (hR.kept k) (by omega) (vld_tms hv) (vld_tms hv2) hpr
  rw [hv] at C1
  rw [hv2] at C2
  unfold AddYes at C3
  unfold fV at *
  have K0 := kept_alloc (kept_refl w) (.cells #[.int .i64 P, .int .i64 M] 23)
  have o3 := Own.new w 23 [.int .i64 P, .int .i64 M]
  clear hP hR hv hv2 hpr ok tl tl2
  go_enter Tryz.func8, Tryz.ntmps8
  go_upto_region 1 with fail
  obtain ⟨w0, hw0⟩ : ∃ w0, w0 = w.alloc (.cells #[.int .i64 P, .int .i64 M] 23) := ⟨_, rfl⟩
  rw [← hw0] at K0 o3 ⊢
  have y0 := o3.cell (j := 0) rfl; have y1 := o3.cell (j := 1) rfl
  have D1 := Lib.hid (C1.out w0 K0)
  clear hw0
  go_wp2_with (first
    | (go_at_call 29; ((with_reducible refine D1.out.mono ?_); rintro e w1 ⟨rfl, k1⟩; replace y0 := kept_cell k1 y0; replace y1 := kept_cell k1 y1; replace K0 := kept_trans K0 k1))
    | (go_at_call 29; ((with_reducible refine (C2.out _ K0).mono ?_); rintro e w2 ⟨rfl, k2⟩; replace y0 := kept_cell k2 y0; replace y1 := kept_cell k2 y1; replace K0 := kept_trans K0 k2))
    | (go_at_call 30; ((with_reducible refine (C3.out _ K0).mono ?_); rintro e w3 ⟨A', c', out, rfl, ho, hrp, k3⟩; have HO := Lib.hid ho; clear ho)))
  go_ret2
  rw [← HO.out]
  exact ⟨A', c', rfl, hrp, kept_trans K0 k3⟩
end Go.Proofs.YtnjmpjdampdmmaaGreatDoor
