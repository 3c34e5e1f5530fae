/- Polynomials: how they lie in memory; comparisons. -/
import Derived.Test.YtikfeemmjfoffaaGreatDoorB8
set_option linter.unusedVariables false
set_option linter.unusedSimpArgs false
namespace Go.Proofs.YtikfeemmjfoffaaGreatDoor
open Go.RowKit

def tmv (p : List Tm) (j : Nat) : Tm := p.getD j ⟨0, []⟩
/-- A list of terms lies at A. -/
def RP (w : World) (A : Option Addr) (p : List Tm) : Prop := ∀ j, j < p.length → ∃ b off E c, A = some ⟨b, off, none⟩ ∧ w.cell? ⟨b, off + j * 2, none⟩ = some (.int .i64 (tmv p j).c) ∧ w.cell? ⟨b, off + j * 2 + 1, none⟩ = some (.slice E (tmv p j).e.length c) ∧ Rd w E (ints (tmv p j).e) ∧ (tmv p j).e.length ≤ 140737488355328
theorem RP.kept {w w1 : World} {A : Option Addr} {p : List Tm} (h : RP w A p) (k : Kept w w1) : RP w1 A p := fun j hj => by
  obtain ⟨b, off, E, c, e, h0, h1, h2, h3⟩ := h j hj
  exact ⟨b, off, E, c, e, kept_cell k h0, kept_cell k h1, h2.kept k, h3⟩
theorem RP.nil (w : World) (A : Option Addr) : RP w A [] := fun j hj => absurd hj (by simp)
theorem cmpL_drop {a b : List Int} {k : Nat} (ha : k < a.length) (hb : k < b.length) : cmpL (a.drop k) (b.drop k) = if ia a k < ia b k then -1 else if ia b k < ia a k then 1 else cmpL (a.drop (k + 1)) (b.drop (k + 1)) := by
  rw [List.drop_eq_getElem_cons ha, List.drop_eq_getElem_cons hb, cmpL]
  simp [ia, ha, hb]
theorem cmpL_end {a b : List Int} {k : Nat} (ha : a.length ≤ k) : cmpL (a.drop k) (b.drop k) = 0 := by
  rw [List.drop_eq_nil_of_le ha]; rfl
/-- The later world differs by draws alone. -/
def Drw (w w' : World) : Prop := ∃ m, w' = w.drewN m
theorem Drw.refl (w : World) : Drw w w := ⟨0, rfl⟩
theorem Drw.kept {w w' : World} (h : Drw w w') : Kept w w' := by obtain ⟨m, rfl⟩ := h; exact below_drewN (kept_refl w) m
theorem Drw.more {w w' : World} (h : Drw w w') (n : Nat) : Drw w (w'.drewN n) := by obtain ⟨m, rfl⟩ := h; exact ⟨m + n, by rw [World.drewN_drewN]⟩
theorem Drw.trans {a b c : World} (h : Drw a b) (k : Drw b c) : Drw a c := by obtain ⟨m, rfl⟩ := h; obtain ⟨n, rfl⟩ := k; exact ⟨m + n, by rw [World.drewN_drewN]⟩
set_option maxRecDepth 100000 in
set_option maxHeartbeats 1000000 in
theorem rcompare48_any (a b : List Int) (A B : Option Addr) (ca cb : Nat) (w : World) (hA : Rd w A (ints a)) (hB : Rd w B (ints b)) (hl : a.length = b.length) (hm : a.length ≤ 140737488355328) :
    Calls Tryz.prog 39 #[.slice A a.length ca, .slice B b.length cb] w fun e w' => e = .returned (.int .i64 (cmpL a b)) ∧ Drw w w' := by
  have HA := Lib.hid hA; have HB := Lib.hid hB
  have HL := Lib.hid hl
  have hmb : b.length ≤ 140737488355328 := by omega
  clear hA hB hl
  go_enter Tryz.func39, Tryz.ntmps39
  go_wp2_with fail
  go_loopg [5] a.length (fun g s5 wr => ∃ k : Nat, k ≤ a.length ∧ g = a.length - k ∧ s5 = .int .i64 k ∧ cmpL a b = cmpL (a.drop k) (b.drop k) ∧ Drw w wr)
  case atStart => exact ⟨0, by omega, rfl, rfl, by simp, Drw.refl w⟩
  case round =>
    obtain ⟨k, hk, rfl, rfl, hc, D0⟩ := hrel
    have K0 := D0.kept
    have HC := Lib.hid hc
    clear hc
    by_cases hlt : k < a.length
    · obtain ⟨b1, o1, rfl, h1⟩ := (HA.out.kept K0).int hlt
      have hltb : k < b.length := by have := HL.out; omega
      obtain ⟨b2, o2, rfl, h2⟩ := (HB.out.kept K0).int hltb
      have x0 := h1 k hlt
      have y0 := h2 k hltb
      have HD := Lib.hid (cmpL_drop hlt hltb)
      clear h1 h2
      by_cases h3 : ia a k < ia b k
      · have d1 : decide (ia a k < ia b k) = true := decide_eq_true h3
        have H3 := Lib.hid h3
        clear h3
        go_wp2_with fail
        go_quiet (fail)
        go_wp2_with fail
        go_ret
        exact ⟨ret_int (by rw [HC.out, HD.out, if_pos H3.out]), D0.more _⟩
      · have d1 : decide (ia a k < ia b k) = false := decide_eq_false h3
        have H3 := Lib.hid h3
        by_cases h4 : ia b k < ia a k
        · have d2 : decide (ia b k < ia a k) = true := decide_eq_true h4
          have H4 := Lib.hid h4
          clear h3 h4
          go_wp2_with fail
          go_quiet (fail)
          go_wp2_with fail
          go_quiet (fail)
          go_wp2_with fail
          go_ret
          exact ⟨ret_int (by rw [HC.out, HD.out, if_neg (by have := H3.out; omega), if_pos H4.out]), (by first | exact D0.more _ | exact (D0.more _).more _)⟩
        · have d2 : decide (ia b k < ia a k) = false := decide_eq_false h4
          have H4 := Lib.hid h4
          clear h3 h4
          go_wp2_with fail
          go_quiet (fail)
          go_wp2_with fail
          go_quiet (fail)
          go_wp2_with fail
          go_roundg (a.length - (k + 1))
          case rel => exact ⟨k + 1, by omega, rfl, by go_num, by rw [HC.out, HD.out, if_neg (by have := H3.out; omega), if_neg (by have := H4.out; omega)], D0.more _⟩
          case measure => omega
    · have HE := Lib.hid (cmpL_end (a := a) (b := b) (k := k) (by omega))
      go_wp2_with fail
      go_ret
      exact ⟨ret_int (by rw [HC.out, HE.out]), D0⟩
set_option maxRecDepth 100000 in
set_option maxHeartbeats 1000000 in
theorem cmp57_any (a b : Int) (w : World) : Calls Tryz.prog 113 #[.int .i64 a, .int .i64 b] w fun e w' => e = .returned (.int .i64 (if a < b then -1 else if b < a then 1 else 0)) ∧ w = w' := by
  have CN := Lib.hid fun (x : Int) (w' : World) => show Calls Tryz.prog 129 #[.int .i64 x] w' fun e w'' => e = .returned (.bool false) ∧ w' = w'' from by
    go_enter Tryz.func129, Tryz.ntmps129
    go_wp2_with fail
    go_ret
    exact ⟨rfl, rfl⟩
  by_cases h1 : a < b
  · rw [if_pos h1]
    go_enter Tryz.func113, Tryz.ntmps113
    go_wp2_with (go_at_call 129; ((with_reducible refine (CN.out _ _).mono ?_); rintro e w1 ⟨rfl, rfl⟩))
    go_ret
    exact ⟨rfl, rfl⟩
  · by_cases h2 : b < a
    · rw [if_neg h1, if_pos h2]
      go_enter Tryz.func113, Tryz.ntmps113
      go_wp2_with (go_at_call 129; ((with_reducible refine (CN.out _ _).mono ?_); rintro e w1 ⟨rfl, rfl⟩))
      go_ret
      exact ⟨rfl, rfl⟩
    · rw [if_neg h1, if_neg h2]
      go_enter Tryz.func113, Tryz.ntmps113
      go_wp2_with (go_at_call 129; ((with_reducible refine (CN.out _ _).mono ?_); rintro e w1 ⟨rfl, rfl⟩))
      go_ret
      exact ⟨rfl, rfl⟩
set_option maxRecDepth 100000 in
set_option maxHeartbeats 1000000 in
theorem compare89_any (a b : List Int) (A B : Option Addr) (ca cb : Nat) (w : World) (hA : Rd w A (ints a)) (hB : Rd w B (ints b)) (hl : a.length = b.length) (hm : a.length ≤ 140737488355328) :
    Calls Tryz.prog 94 #[.slice A a.length ca, .slice B b.length cb] w fun e w' => e = .returned (.int .i64 (cmpL a b)) ∧ w = w' := by
  have HA := Lib.hid hA; have HB := Lib.hid hB
  have hmb : b.length ≤ 140737488355328 := by omega
  have HL := Lib.hid hl
  have t1 : decide ((a.length : Int) < (b.length : Int)) = false := decide_eq_false (by omega)
  have t2 : decide (a.length < b.length) = false := decide_eq_false (by omega)
  clear hA hB hl
  go_enter Tryz.func94, Tryz.ntmps94
  go_wp2_with fail
  go_loopg [5, 6, 7, 8, 11] a.length (fun g s5 s6 s7 s8 s11 wr => ∃ (k : Nat) (v5 v6 v7 v8 : Value), k ≤ a.length ∧ g = a.length - k ∧ s5 = v5 ∧ s6 = v6 ∧ s7 = v7 ∧ s8 = v8 ∧ s11 = .int .i64 k ∧ cmpL a b = cmpL (a.drop k) (b.drop k) ∧ w = wr)
  case atStart => exact ⟨0, _, _, _, _, by omega, rfl, rfl, rfl, rfl, rfl, rfl, by simp, rfl⟩
  case round =>
    obtain ⟨k, v5, v6, v7, v8, hk, rfl, rfl, rfl, rfl, rfl, rfl, hc, rfl⟩ := hrel
    have HC := Lib.hid hc
    clear hc
    by_cases hlt : k < a.length
    · obtain ⟨b1, o1, rfl, h1⟩ := HA.out.int hlt
      have hltb : k < b.length := by have := HL.out; omega
      obtain ⟨b2, o2, rfl, h2⟩ := HB.out.int hltb
      have x0 := h1 k hlt
      have y0 := h2 k hltb
      have HD := Lib.hid (cmpL_drop hlt hltb)
      obtain ⟨x, hx⟩ : ∃ x, x = ia a k := ⟨_, rfl⟩
      obtain ⟨y, hy⟩ : ∃ y, y = ia b k := ⟨_, rfl⟩
      rw [← hx] at x0 HD
      rw [← hy] at y0 HD
      have t3 : decide ((b.length : Int) ≤ (k : Int)) = false := decide_eq_false (by omega)
      have t4 : decide (b.length ≤ k) = false := decide_eq_false (by omega)
      clear h1 h2 hx hy
      by_cases h3 : x < y
      · have CM := Lib.hid fun w' => show Calls Tryz.prog 113 #[.int .i64 x, .int .i64 y] w' fun e w'' => e = .returned (.int .i64 (-1)) ∧ w' = w'' from by have := cmp57_any x y w'; rwa [if_pos h3] at this
        have H3 := Lib.hid h3
        clear h3
        go_wp2_with (go_at_call 113; ((with_reducible refine (CM.out _).mono ?_); rintro e w1 ⟨rfl, rfl⟩))
        go_ret
        exact ⟨ret_int (by rw [HC.out, HD.out, if_pos H3.out]), rfl⟩
      · by_cases h4 : y < x
        · have CM := Lib.hid fun w' => show Calls Tryz.prog 113 #[.int .i64 x, .int .i64 y] w' fun e w'' => e = .returned (.int .i64 1) ∧ w' = w'' from by have := cmp57_any x y w'; rwa [if_neg h3, if_pos h4] at this
          have H3 := Lib.hid h3; have H4 := Lib.hid h4
          clear h3 h4
          go_wp2_with (go_at_call 113; ((with_reducible refine (CM.out _).mono ?_); rintro e w1 ⟨rfl, rfl⟩))
          go_ret
          exact ⟨ret_int (by rw [HC.out, HD.out, if_neg (by have := H3.out; omega), if_pos H4.out]), rfl⟩
        · have CM := Lib.hid fun w' => show Calls Tryz.prog 113 #[.int .i64 x, .int .i64 y] w' fun e w'' => e = .returned (.int .i64 0) ∧ w' = w'' from by have := cmp57_any x y w'; rwa [if_neg h3, if_neg h4] at this
          have H3 := Lib.hid h3; have H4 := Lib.hid h4
          clear h3 h4
          go_wp2_with (go_at_call 113; ((with_reducible refine (CM.out _).mono ?_); rintro e w1 ⟨rfl, rfl⟩))
          go_roundg (a.length - (k + 1))
          case rel => exact ⟨k + 1, _, _, _, _, by omega, rfl, rfl, rfl, rfl, rfl, by go_num, by rw [HC.out, HD.out, if_neg (by have := H3.out; omega), if_neg (by have := H4.out; omega)], rfl⟩
          case measure => omega
    · have HE := Lib.hid (cmpL_end (a := a) (b := b) (k := k) (by omega))
      go_wp2_with fail
      go_ret
      exact ⟨ret_int (by rw [HC.out, HE.out]), rfl⟩
/-- A term as a value. -/
def tV (c : Int) (E : Option Addr) (n cap : Nat) : Value := .agg #[.int .i64 c, .slice E n cap]
set_option maxRecDepth 100000 in
set_option maxHeartbeats 1000000 in
theorem exponents60_any (x y : Int) (a b : List Int) (A B : Option Addr) (ca cb : Nat) (w : World) (hA : Rd w A (ints a)) (hB : Rd w B (ints b)) (hl : a.length = b.length) (hm : a.length ≤ 140737488355328) :
    Calls Tryz.prog 73 #[tV x A a.length ca, tV y B b.length cb] w fun e w' => e = .returned (.int .i64 (cmpL a b)) ∧ w' = (w.alloc (.cells #[.int .i64 x, .slice A a.length ca] 78)).alloc (.cells #[.int .i64 y, .slice B b.length cb] 78) := by
  unfold tV
  have C := Lib.hid fun (w' : World) (k : Kept w w') => compare89_any a b A B ca cb w' (hA.kept k) (hB.kept k) hl hm
  have K0 := kept_alloc (kept_alloc (kept_refl w) (.cells #[.int .i64 x, .slice A a.length ca] 78)) (.cells #[.int .i64 y, .slice B b.length cb] 78)
  clear hA hB hl
  go_enter Tryz.func73, Tryz.ntmps73
  go_wp2_with (go_at_call 94; ((with_reducible refine (C.out _ K0).mono ?_); rintro e w1 ⟨rfl, rfl⟩))
  go_ret
  exact ⟨rfl, rfl⟩
end Go.Proofs.YtikfeemmjfoffaaGreatDoor
