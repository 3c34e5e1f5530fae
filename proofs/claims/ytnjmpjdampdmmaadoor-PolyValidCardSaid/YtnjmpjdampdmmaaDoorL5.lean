/- Polynomials: the law PolyValid, walked. -/
import Derived.Test.YtnjmpjdampdmmaaDoorC25
set_option linter.unusedVariables false
set_option linter.unusedSimpArgs false
namespace Go.Proofs.YtnjmpjdampdmmaaDoor
open Go.RowKit

/-- The text of a polynomial. -/
def txtP (p : List Tm) : List UInt8 := if p.length = 0 then [48] else textTo p p.length
theorem textV_eq (p : List Tm) : textV p = if (txtP p).length ≤ 40000 then .tuple #[.string ⟨(txtP p).toArray⟩, .int .i64 0] else .tuple #[.string ⟨#[]⟩, .int .i64 5] := by
  unfold textV txtP
  by_cases h : p.length = 0
  · rw [if_pos h, if_pos h]; rfl
  · rw [if_neg h, if_neg h]
set_option maxRecDepth 100000 in
set_option maxHeartbeats 1000000 in
theorem law5_any (P M n : Int) (p : List Tm) (A : Option Addr) (c : Nat) (w : World) (hp : PowOk w) (hP : RP w A p) (hl : p.length ≤ 140737488355328) :
    Calls Tryd.prog 5 #[fV P M, .int .i64 n, .slice A p.length c] w fun e w' => e = .returned (.bool true) ∧ Kept w w' := by
  have K0 := kept_alloc (kept_refl w) (.cells #[.int .i64 P, .int .i64 M] 23)
  have K1 := kept_alloc K0 (.cells #[.slice A p.length c] 25)
  have o3 := (Own.new w 23 [.int .i64 P, .int .i64 M]).alloc (.cells #[.slice A p.length c] 25)
  have y0 := o3.cell (j := 0) rfl; have y1 := o3.cell (j := 1) rfl
  have C12 := Lib.hid (show Calls Tryd.prog 12 #[.int .i64 3000, .slice (some ⟨w.heap.size + 1, 0, none⟩) 1 1] ((w.alloc (.cells #[.int .i64 P, .int .i64 M] 23)).alloc (.cells #[.slice A p.length c] 25)) _ from few12_any 3000 [p] (some ⟨w.heap.size + 1, 0, none⟩) 1 ((w.alloc (.cells #[.int .i64 P, .int .i64 M] 23)).alloc (.cells #[.slice A p.length c] 25)) (by decide) (by decide) (by have := rpp_one (c := c) (hP.kept K0) hl; simpa using this) (by simp))
  have C13 := Lib.hid fun w' (k : Kept w w') => alive13_any w' (hp.kept k)
  have C15 := Lib.hid fun w' (k : Kept w w') => rvalid15_all P M n p A c w' (hP.kept k) hl
  have C25 := Lib.hid fun w' (k : Kept w w') => valid25_any P M n p A c w' (hP.kept k) hl
  cases hf : fewB 3000 [p] with
  | false =>
    rw [hf] at C12
    unfold fV
    clear hP hf hp C25
    go_enter Tryd.func5, Tryd.ntmps5
    go_wp2_with (first
      | (go_at_call 12; ((with_reducible refine C12.out.mono ?_); rintro e w1 ⟨rfl, rfl⟩))
      | (go_at_call 13; ((with_reducible refine (C13.out _ K1).mono ?_); rintro e w2 ⟨rfl, k2⟩)))
    go_ret
    exact ⟨rfl, kept_trans K1 k2⟩
  | true =>
    rw [hf] at C12
    cases hv : vld (ordF P M) n p with
    | false =>
      have C23 := Lib.hid fun w' (k : Kept w w') => degree23_bad P M n p A c w' (hP.kept k) hl hv
      have C24 := Lib.hid fun w' (k : Kept w w') => text24_bad P M n p A c w' (hP.kept k) hl hv
      have C26 := Lib.hid fun w' => number26_err 0 1 w' (by decide)
      rw [hv] at C15 C25
      unfold fV at *
      clear hP hf hp hv
      go_enter Tryd.func5, Tryd.ntmps5
      go_wp2_with (first
        | (go_at_call 12; ((with_reducible refine C12.out.mono ?_); rintro e w1 ⟨rfl, rfl⟩))
        | (go_at_call 23; ((with_reducible refine (C23.out _ K1).mono ?_); rintro e w2 ⟨rfl, k2⟩; replace K1 := kept_trans K1 k2; replace y0 := kept_cell k2 y0; replace y1 := kept_cell k2 y1))
        | (go_at_call 24; ((with_reducible refine (C24.out _ K1).mono ?_); rintro e w3 ⟨rfl, k3⟩; replace K1 := kept_trans K1 k3; replace y0 := kept_cell k3 y0; replace y1 := kept_cell k3 y1))
        | (go_at_call 15; ((with_reducible refine (C15.out _ K1).mono ?_); rintro e w4 ⟨rfl, k4⟩; replace K1 := kept_trans K1 k4; replace y0 := kept_cell k4 y0; replace y1 := kept_cell k4 y1))
        | (go_at_call 25; ((with_reducible refine (C25.out _ K1).mono ?_); rintro e w5 ⟨rfl, k5⟩; replace K1 := kept_trans K1 k5))
        | (go_at_call 26; ((with_reducible refine (C26.out _).mono ?_); rintro e w6 ⟨rfl, rfl⟩))
        | (go_at_call 13; ((with_reducible refine (C13.out _ K1).mono ?_); rintro e w7 ⟨rfl, k7⟩; replace K1 := kept_trans K1 k7)))
      go_ret
      exact ⟨rfl, K1⟩
    | true =>
      obtain ⟨hn, hl2, tl⟩ := vld_terms hv
      have ok := vld_ok hv
      have hq := ord_ok ok
      have C23 := Lib.hid fun w' (k : Kept w w') => degree23_any P M n p A c w' (hP.kept k) hv
      have C24 := Lib.hid fun w' (k : Kept w w') => text24_any P M n p A c w' (hp.kept k) (hP.kept k) hv
      have C27 := Lib.hid fun w' (k : Kept w w') => rtext27_any p A c w' (hp.kept k) (hP.kept k) hl2 (fun k hk => by have h := tl k hk; exact ⟨by omega, by omega, by omega, h.2.2.2⟩)
      have C28 := Lib.hid fun w' (k : Kept w w') => rdegree28_any p A c w' (hP.kept k) hl2 (fun k hk => by have h := tl k hk; exact ⟨by omega, h.2.2.2⟩)
      obtain ⟨d, hd⟩ : ∃ d, d = degP p := ⟨_, rfl⟩
      rw [← hd] at C23 C28
      have C26 := Lib.hid fun w' => number26_ok d w'
      rw [textV_eq] at C24
      obtain ⟨T, hT⟩ : ∃ T, T = txtP p := ⟨_, rfl⟩
      rw [show (if p.length = 0 then [48] else textTo p p.length) = T from hT.symm] at C27
      rw [← hT] at C24
      obtain ⟨sw, hsw⟩ : ∃ sw : ByteArray, sw = ⟨T.toArray⟩ := ⟨_, rfl⟩
      have hsz : sw.size = T.length := by rw [hsw]; rfl
      rw [← hsw] at C24 C27
      have HSZ := Lib.hid hsz
      have es : decide (sw = sw) = true := by simp
      rw [hv] at C15 C25
      by_cases hL : T.length ≤ 40000
      · rw [if_pos hL] at C24
        have d1 : decide ((40000 : Int) < (sw.size : Int)) = false := decide_eq_false (by omega)
        have d1' : decide (40000 < sw.size) = false := decide_eq_false (by omega)
        unfold fV at *
        clear hP hf hp hv hd hT hsw hsz hL ok hq tl
        go_enter Tryd.func5, Tryd.ntmps5
        go_wp2_with (first
          | (go_at_call 12; ((with_reducible refine C12.out.mono ?_); rintro e w1 ⟨rfl, rfl⟩))
          | (go_at_call 23; ((with_reducible refine (C23.out _ K1).mono ?_); rintro e w2 ⟨rfl, k2⟩; replace K1 := kept_trans K1 k2; replace y0 := kept_cell k2 y0; replace y1 := kept_cell k2 y1))
          | (go_at_call 24; ((with_reducible refine (C24.out _ K1).mono ?_); rintro e w3 ⟨rfl, k3⟩; replace K1 := kept_trans K1 k3; replace y0 := kept_cell k3 y0; replace y1 := kept_cell k3 y1))
          | (go_at_call 15; ((with_reducible refine (C15.out _ K1).mono ?_); rintro e w4 ⟨rfl, k4⟩; replace K1 := kept_trans K1 k4; replace y0 := kept_cell k4 y0; replace y1 := kept_cell k4 y1))
          | (go_at_call 27; ((with_reducible refine (C27.out _ K1).mono ?_); rintro e w8 ⟨rfl, k8⟩; replace K1 := kept_trans K1 k8; replace y0 := kept_cell k8 y0; replace y1 := kept_cell k8 y1))
          | (go_at_call 25; ((with_reducible refine (C25.out _ K1).mono ?_); rintro e w5 ⟨rfl, k5⟩; replace K1 := kept_trans K1 k5))
          | (go_at_call 28; ((with_reducible refine (C28.out _ K1).mono ?_); rintro e w9 ⟨rfl, k9⟩; replace K1 := kept_trans K1 k9))
          | (go_at_call 26; ((with_reducible refine (C26.out _).mono ?_); rintro e w6 ⟨rfl, rfl⟩))
          | (go_at_call 13; ((with_reducible refine (C13.out _ K1).mono ?_); rintro e w7 ⟨rfl, k7⟩; replace K1 := kept_trans K1 k7)))
        go_ret
        exact ⟨rfl, K1⟩
      · rw [if_neg hL] at C24
        have d1 : decide ((40000 : Int) < (sw.size : Int)) = true := decide_eq_true (by omega)
        have d1' : decide (40000 < sw.size) = true := decide_eq_true (by omega)
        unfold fV at *
        clear hP hf hp hv hd hT hsw hsz hL ok hq tl
        go_enter Tryd.func5, Tryd.ntmps5
        go_wp2_with (first
          | (go_at_call 12; ((with_reducible refine C12.out.mono ?_); rintro e w1 ⟨rfl, rfl⟩))
          | (go_at_call 23; ((with_reducible refine (C23.out _ K1).mono ?_); rintro e w2 ⟨rfl, k2⟩; replace K1 := kept_trans K1 k2; replace y0 := kept_cell k2 y0; replace y1 := kept_cell k2 y1))
          | (go_at_call 24; ((with_reducible refine (C24.out _ K1).mono ?_); rintro e w3 ⟨rfl, k3⟩; replace K1 := kept_trans K1 k3; replace y0 := kept_cell k3 y0; replace y1 := kept_cell k3 y1))
          | (go_at_call 15; ((with_reducible refine (C15.out _ K1).mono ?_); rintro e w4 ⟨rfl, k4⟩; replace K1 := kept_trans K1 k4; replace y0 := kept_cell k4 y0; replace y1 := kept_cell k4 y1))
          | (go_at_call 27; ((with_reducible refine (C27.out _ K1).mono ?_); rintro e w8 ⟨rfl, k8⟩; replace K1 := kept_trans K1 k8; replace y0 := kept_cell k8 y0; replace y1 := kept_cell k8 y1))
          | (go_at_call 25; ((with_reducible refine (C25.out _ K1).mono ?_); rintro e w5 ⟨rfl, k5⟩; replace K1 := kept_trans K1 k5))
          | (go_at_call 28; ((with_reducible refine (C28.out _ K1).mono ?_); rintro e w9 ⟨rfl, k9⟩; replace K1 := kept_trans K1 k9))
          | (go_at_call 26; ((with_reducible refine (C26.out _).mono ?_); rintro e w6 ⟨rfl, rfl⟩))
          | (go_at_call 13; ((with_reducible refine (C13.out _ K1).mono ?_); rintro e w7 ⟨rfl, k7⟩; replace K1 := kept_trans K1 k7)))
        go_ret
        exact ⟨rfl, K1⟩
end Go.Proofs.YtnjmpjdampdmmaaDoor
