/- Polynomials: the law PolyMultilinears, walked. -/
import Derived.Test.YtnjmpjdampdmmaaDoorC23
import Derived.Test.YtnjmpjdampdmmaaDoorL3
set_option linter.unusedVariables false
set_option linter.unusedSimpArgs false
namespace Go.Proofs.YtnjmpjdampdmmaaDoor
open Go.RowKit

theorem inputs19_some (l : Nat) (w : World) (hl : l ≤ 140737488355328) : Calls Tryd.prog 19 #[.int .i64 (l : Int), .int .i64 12] w fun e w' => ∃ z : Int, e = .returned (.int .i64 z) ∧ w = w' :=
  (rinputs19_any l 12 w (by decide) hl).mono fun e w' ⟨h, h'⟩ => by
    rcases h' with ⟨n, _, _, rfl⟩ | ⟨_, rfl⟩
    · exact ⟨_, rfl, h⟩
    · exact ⟨_, rfl, h⟩
theorem inputs19_yes (n l : Nat) (w : World) (hn : n ≤ 12) (hl : l = 2 ^ n) (h9 : l ≤ 140737488355328) : Calls Tryd.prog 19 #[.int .i64 (l : Int), .int .i64 12] w fun e w' => e = .returned (.int .i64 (n : Int)) ∧ w = w' :=
  (rinputs19_any l 12 w (by decide) h9).mono fun e w' ⟨h, h'⟩ => by
    rcases h' with ⟨m, _, hm, rfl⟩ | ⟨hno, rfl⟩
    · obtain rfl : n = m := (Nat.pow_right_inj (by decide)).1 (hl.symm.trans hm)
      exact ⟨rfl, h⟩
    · exact absurd hl (hno n hn)
theorem inputs19_no (l : Nat) (w : World) (hl : ∀ n, n ≤ 12 → l ≠ 2 ^ n) (h9 : l ≤ 140737488355328) : Calls Tryd.prog 19 #[.int .i64 (l : Int), .int .i64 12] w fun e w' => e = .returned (.int .i64 (-1)) ∧ w = w' :=
  (rinputs19_any l 12 w (by decide) h9).mono fun e w' ⟨h, h'⟩ => by
    rcases h' with ⟨m, hm, e, rfl⟩ | ⟨hno, rfl⟩
    · exact absurd e (hl m hm)
    · exact ⟨rfl, h⟩
theorem multi20_no (P M : Int) (t : List Bool) (A : Option Addr) (c : Nat) (w : World) (ok : okF P M = true) (hA : Rd w A (bools t)) (hl : t.length ≤ 9000) (hno : ∀ n, n ≤ 12 → t.length ≠ 2 ^ n) :
    Calls Tryd.prog 20 #[fV P M, .slice A t.length c] w fun e w' => e = .returned (.tuple #[.slice none 0 0, .int .i64 2]) ∧ Kept w w' :=
  (multi20_any P M t A c w ok hA hl).mono fun e w' ⟨k, h⟩ => by
    rcases h with ⟨rfl, _⟩ | ⟨n, _, _, _, hn, hl, _⟩
    · exact ⟨rfl, k⟩
    · exact absurd hl (hno n hn)
/-- The polynomial of a table of 2^n values. -/
def mlT (P M : Int) (t : List Bool) (n : Nat) : List Tm := totalT (addF P M) (mlTerms n (mlAll P M (t.map bitI) n) t.length).length ((mlTerms n (mlAll P M (t.map bitI) n) t.length).map fun t => [t])
theorem multi20_yes (P M : Int) (n : Nat) (t : List Bool) (A : Option Addr) (c : Nat) (w : World) (ok : okF P M = true) (hA : Rd w A (bools t)) (hl : t.length ≤ 9000) (hn : n ≤ 12) (hl2 : t.length = 2 ^ n) :
    Calls Tryd.prog 20 #[fV P M, .slice A t.length c] w fun e w' => ∃ A' c' r, e = .returned (.tuple #[.slice A' r.length c', .int .i64 0]) ∧ r = mlT P M t n ∧ RP w' A' r ∧ Kept w w' :=
  (multi20_any P M t A c w ok hA hl).mono fun e w' ⟨k, h⟩ => by
    rcases h with ⟨_, hno⟩ | ⟨m, A', c', r, hm, hl, rfl, hrp, hr⟩
    · exact absurd hl2 (hno n hn)
    · obtain rfl : n = m := (Nat.pow_right_inj (by decide)).1 (hl2.symm.trans hl)
      exact ⟨A', c', r, rfl, hr, hrp, k⟩
set_option maxRecDepth 100000 in
set_option maxHeartbeats 1000000 in
theorem law4_any (P M : Int) (t : List Bool) (A : Option Addr) (c : Nat) (w : World) (hp : PowOk w) (hA : Rd w A (bools t)) (hl : t.length ≤ 140737488355328) :
    Calls Tryd.prog 4 #[fV P M, .slice A t.length c] w fun e w' => e = .returned (.bool true) ∧ Kept w w' := by
  have K1 := kept_alloc (kept_refl w) (.cells #[.int .i64 P, .int .i64 M] 23)
  have o3 := Own.new w 23 [.int .i64 P, .int .i64 M]
  have y0 := o3.cell (j := 0) rfl; have y1 := o3.cell (j := 1) rfl
  have C13 := Lib.hid fun w' (k : Kept w w') => alive13_any w' (hp.kept k)
  by_cases h9 : 9000 < t.length
  · have C19 := Lib.hid fun w' => inputs19_some t.length w' hl
    have d1 : decide ((9000 : Int) < (t.length : Int)) = true := decide_eq_true (by omega)
    unfold fV
    clear hA hp
    go_enter Tryd.func4, Tryd.ntmps4
    go_wp2_with (first
      | (go_at_call 19; ((with_reducible refine (C19.out _).mono ?_); rintro e w1 ⟨z, rfl, rfl⟩))
      | (go_at_call 13; ((with_reducible refine (C13.out _ K1).mono ?_); rintro e w2 ⟨rfl, k2⟩)))
    go_ret
    exact ⟨rfl, kept_trans K1 k2⟩
  · have d1 : decide ((9000 : Int) < (t.length : Int)) = false := decide_eq_false (by omega)
    have C21 := Lib.hid fun w' => rvalid21_any P M w'
    cases ok : okF P M with
    | false =>
      rw [ok] at C21
      have C19 := Lib.hid fun w' => inputs19_some t.length w' hl
      have C20 := Lib.hid fun w' => multi20_bad P M t A c w' ok
      have C16 := Lib.hid fun w' => is16_err 1 none none 0 0 0 w' (by decide)
      unfold fV at *
      clear hA hp ok
      go_enter Tryd.func4, Tryd.ntmps4
      go_wp2_with (first
        | (go_at_call 19; ((with_reducible refine (C19.out _).mono ?_); rintro e w1 ⟨z, rfl, rfl⟩))
        | (go_at_call 20; ((with_reducible refine (C20.out _).mono ?_); rintro e w2 ⟨rfl, k2⟩; replace K1 := kept_trans K1 k2; replace y0 := kept_cell k2 y0; replace y1 := kept_cell k2 y1))
        | (go_at_call 21; ((with_reducible refine (C21.out _).mono ?_); rintro e w3 ⟨rfl, k3⟩; replace K1 := kept_trans K1 k3))
        | (go_at_call 16; ((with_reducible refine (C16.out _).mono ?_); rintro e w4 ⟨rfl, k4⟩; replace K1 := kept_trans K1 k4))
        | (go_at_call 13; ((with_reducible refine (C13.out _ K1).mono ?_); rintro e w5 ⟨rfl, k5⟩; replace K1 := kept_trans K1 k5)))
      go_ret
      exact ⟨rfl, K1⟩
    | true =>
      rw [ok] at C21
      by_cases hn : ∃ n, n ≤ 12 ∧ t.length = 2 ^ n
      · obtain ⟨n, hn12, hln⟩ := hn
        have C19 := Lib.hid fun w' => inputs19_yes n t.length w' hn12 hln hl
        have C20 := Lib.hid fun w' (k : Kept w w') => multi20_yes P M n t A c w' ok (hA.kept k) (by omega) hn12 hln
        have C18 := Lib.hid fun w' => of18_any P M w' ok
        have C22 := Lib.hid fun w' (k : Kept w w') => rmulti22_any P M n t A c w' ok (hA.kept k) hn12 hln
        obtain ⟨T, hT⟩ : ∃ T, T = mlT P M t n := ⟨_, rfl⟩
        have hT2 : tot (addF P M) ((mlTerms n (mlAll P M (t.map bitI) n) t.length).map fun t => [t]) = T := by rw [hT]; unfold tot mlT; rw [List.length_map]
        have hTl : T.length ≤ 140737488355328 := by
          have h5 := totalT_len (addF P M) (mlTerms n (mlAll P M (t.map bitI) n) t.length).length ((mlTerms n (mlAll P M (t.map bitI) n) t.length).map fun t => [t])
          have h6 : sumLen ((mlTerms n (mlAll P M (t.map bitI) n) t.length).map fun t => [t]) = (mlTerms n (mlAll P M (t.map bitI) n) t.length).length := by
            have := sumLen_one id (mlTerms n (mlAll P M (t.map bitI) n) t.length)
            rwa [List.map_id] at this
          have h7 := mlTerms_len n (mlAll P M (t.map bitI) n) t.length
          rw [hT]
          unfold mlT
          omega
        have C16 := Lib.hid fun w' A B c d h1 h2 => is16_ok T T A B c d w' h1 h2 hTl hTl
        rw [show decide (T = T) = true by simp] at C16
        rw [← hT] at C20
        have HT2 := Lib.hid hT2
        obtain ⟨kv, hkv⟩ : ∃ kv, kv = kV P M := ⟨_, rfl⟩
        rw [← hkv] at C18 C22
        have d2 : decide ((n : Int) < 0) = false := decide_eq_false (by omega)
        unfold fV at *
        clear hA hp hT hT2 hkv ok hln
        go_enter Tryd.func4, Tryd.ntmps4
        go_wp2_with (first
          | (go_at_call 19; ((with_reducible refine (C19.out _).mono ?_); rintro e w1 ⟨rfl, rfl⟩))
          | (go_at_call 20; ((with_reducible refine (C20.out _ K1).mono ?_); rintro e w2 ⟨A2, c2, r, rfl, hr, hrp, k2⟩; replace K1 := kept_trans K1 k2; replace y0 := kept_cell k2 y0; replace y1 := kept_cell k2 y1; subst hr))
          | (go_at_call 21; ((with_reducible refine (C21.out _).mono ?_); rintro e w3 ⟨rfl, k3⟩; replace K1 := kept_trans K1 k3; replace y0 := kept_cell k3 y0; replace y1 := kept_cell k3 y1; replace hrp := hrp.kept k3))
          | (go_at_call 18; ((with_reducible refine (C18.out _).mono ?_); rintro e w4 ⟨rfl, k4⟩; replace K1 := kept_trans K1 k4; replace hrp := hrp.kept k4))
          | (go_at_call 22; ((with_reducible refine (C22.out _ K1).mono ?_); rintro e w5 ⟨A5, c5, o5, rfl, ho, hop, k5⟩; replace K1 := kept_trans K1 k5; replace hrp := hrp.kept k5; rw [HT2.out] at ho; subst ho))
          | (go_at_call 16; ((with_reducible refine (C16.out _ _ _ _ _ hrp hop).mono ?_); rintro e w6 ⟨rfl, k6⟩; replace K1 := kept_trans K1 k6))
          | (go_at_call 13; ((with_reducible refine (C13.out _ K1).mono ?_); rintro e w7 ⟨rfl, k7⟩; replace K1 := kept_trans K1 k7)))
        go_ret
        exact ⟨rfl, K1⟩
      · have hno : ∀ n, n ≤ 12 → t.length ≠ 2 ^ n := fun n h e => hn ⟨n, h, e⟩
        have C19 := Lib.hid fun w' => inputs19_no t.length w' hno hl
        have C20 := Lib.hid fun w' (k : Kept w w') => multi20_no P M t A c w' ok (hA.kept k) (by omega) hno
        have C16 := Lib.hid fun w' => is16_err 2 none none 0 0 0 w' (by decide)
        unfold fV at *
        clear hA hp ok hn hno
        go_enter Tryd.func4, Tryd.ntmps4
        go_wp2_with (first
          | (go_at_call 19; ((with_reducible refine (C19.out _).mono ?_); rintro e w1 ⟨rfl, rfl⟩))
          | (go_at_call 20; ((with_reducible refine (C20.out _ K1).mono ?_); rintro e w2 ⟨rfl, k2⟩; replace K1 := kept_trans K1 k2; replace y0 := kept_cell k2 y0; replace y1 := kept_cell k2 y1))
          | (go_at_call 21; ((with_reducible refine (C21.out _).mono ?_); rintro e w3 ⟨rfl, k3⟩; replace K1 := kept_trans K1 k3))
          | (go_at_call 16; ((with_reducible refine (C16.out _).mono ?_); rintro e w4 ⟨rfl, k4⟩; replace K1 := kept_trans K1 k4))
          | (go_at_call 13; ((with_reducible refine (C13.out _ K1).mono ?_); rintro e w5 ⟨rfl, k5⟩; replace K1 := kept_trans K1 k5)))
        go_ret
        exact ⟨rfl, K1⟩
end Go.Proofs.YtnjmpjdampdmmaaDoor
