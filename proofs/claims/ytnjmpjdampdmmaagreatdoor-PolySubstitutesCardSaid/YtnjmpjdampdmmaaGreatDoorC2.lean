/- Polynomials: what is valid; the reference's Valid. -/
import Derived.Test.YtnjmpjdampdmmaaGreatDoorC1
set_option linter.unusedVariables false
set_option linter.unusedSimpArgs false
namespace Go.Proofs.YtnjmpjdampdmmaaGreatDoor
open Go.RowKit

def eOk (x : Int) : Bool := decide (0 ≤ x) && decide (x ≤ 65535)
/-- Term j of a valid list. -/
def tOk (q n : Int) (p : List Tm) (j : Nat) : Bool :=
  decide (1 ≤ (tmv p j).c) && decide ((tmv p j).c < q) && decide (((tmv p j).e.length : Int) = n) && (decide (j = 0) || decide (cmpL (tmv p (j - 1)).e (tmv p j).e < 0)) && (tmv p j).e.all eOk
def vld (q n : Int) (p : List Tm) : Bool := decide (0 ≤ n) && decide (n ≤ 80) && decide (p.length ≤ 20000) && decide (q ≠ 0) && allN p.length (tOk q n p)
/-- The terms below k are as they should be. -/
def VTo (q n : Int) (p : List Tm) (k : Nat) : Prop := ∀ j, j < k → tOk q n p j = true
theorem vto_next {q n : Int} {p : List Tm} {k : Nat} (h : VTo q n p k) (ht : tOk q n p k = true) : VTo q n p (k + 1) := fun j hj => by
  rcases Nat.eq_or_lt_of_le (Nat.le_of_lt_succ hj) with rfl | h3
  · exact ht
  · exact h j h3
theorem vld_bad {q n : Int} {p : List Tm} {j : Nat} (hj : j < p.length) (h : tOk q n p j = false) : vld q n p = false := by
  cases hv : vld q n p with
  | false => rfl
  | true =>
    simp only [vld, Bool.and_eq_true, allN_true] at hv
    rw [hv.2 j hj] at h; cases h
theorem vld_good {q n : Int} {p : List Tm} (h1 : 0 ≤ n) (h2 : n ≤ 80) (h3 : p.length ≤ 20000) (h4 : q ≠ 0) (h : VTo q n p p.length) : vld q n p = true := by
  simp only [vld, Bool.and_eq_true, decide_eq_true_eq, allN_true]
  exact ⟨⟨⟨⟨h1, h2⟩, h3⟩, h4⟩, h⟩
theorem tok_parts {q n : Int} {p : List Tm} {j : Nat} : tOk q n p j = true ↔ 1 ≤ (tmv p j).c ∧ (tmv p j).c < q ∧ ((tmv p j).e.length : Int) = n ∧ (j = 0 ∨ cmpL (tmv p (j - 1)).e (tmv p j).e < 0) ∧ (tmv p j).e.all eOk = true := by
  simp only [tOk, Bool.and_eq_true, decide_eq_true_eq, Bool.or_eq_true]
  constructor
  · rintro ⟨⟨⟨⟨a, b⟩, c⟩, d⟩, e⟩; exact ⟨a, b, c, d, e⟩
  · rintro ⟨a, b, c, d, e⟩; exact ⟨⟨⟨⟨a, b⟩, c⟩, d⟩, e⟩
theorem tok_no {q n : Int} {p : List Tm} {j : Nat} (h : ¬ (1 ≤ (tmv p j).c ∧ (tmv p j).c < q ∧ ((tmv p j).e.length : Int) = n ∧ (j = 0 ∨ cmpL (tmv p (j - 1)).e (tmv p j).e < 0) ∧ (tmv p j).e.all eOk = true)) : tOk q n p j = false := by
  cases ht : tOk q n p j with
  | false => rfl
  | true => exact absurd (tok_parts.1 ht) h
/-- The first m of a list are as they should be. -/
def ETo (l : List Int) (m : Nat) : Prop := ∀ j, j < m → eOk (ia l j) = true
theorem eto_next {l : List Int} {k : Nat} (h : ETo l k) (ht : eOk (ia l k) = true) : ETo l (k + 1) := fun j hj => by
  rcases Nat.eq_or_lt_of_le (Nat.le_of_lt_succ hj) with rfl | h3
  · exact ht
  · exact h j h3
theorem eto_all {l : List Int} (h : ETo l l.length) : l.all eOk = true := by
  rw [List.all_eq_true]
  intro x hx
  obtain ⟨j, hj, rfl⟩ := List.getElem_of_mem hx
  have := h j hj
  rwa [show ia l j = l[j] by simp [ia, hj]] at this
theorem eto_not {l : List Int} {j : Nat} (hj : j < l.length) (h : eOk (ia l j) = false) : l.all eOk = false := by
  cases ha : l.all eOk with
  | false => rfl
  | true =>
    rw [List.all_eq_true] at ha
    have := ha l[j] (List.getElem_mem hj)
    rw [show ia l j = l[j] by simp [ia, hj]] at h
    rw [h] at this; cases this

set_option maxRecDepth 100000 in
set_option maxHeartbeats 1000000 in
theorem rvalid15_pre (P M n : Int) (p : List Tm) (A : Option Addr) (c : Nat) (w : World) (hl : p.length ≤ 140737488355328) (h : ¬ (0 ≤ n ∧ n ≤ 80 ∧ p.length ≤ 20000)) :
    Calls Tryz.prog 10 #[fV P M, .int .i64 n, .slice A p.length c] w fun e w' => e = .returned (.bool (vld (ordF P M) n p)) ∧ Kept w w' := by
  unfold fV
  have HF := Lib.hid (show vld (ordF P M) n p = false by
    cases hv : vld (ordF P M) n p with
    | false => rfl
    | true =>
      simp only [vld, Bool.and_eq_true, decide_eq_true_eq] at hv
      exact absurd ⟨hv.1.1.1.1, hv.1.1.1.2, hv.1.1.2⟩ h)
  rw [HF.out]
  obtain ⟨l, hl'⟩ : ∃ l, l = p.length := ⟨_, rfl⟩
  rw [← hl'] at h hl ⊢
  clear hl'
  by_cases h1 : n < 0
  · go_enter Tryz.func10, Tryz.ntmps10
    go_wp2_with fail
    go_ret
    exact ⟨rfl, kept_alloc (kept_refl w) _⟩
  · by_cases h2 : 80 < n
    · go_enter Tryz.func10, Tryz.ntmps10
      go_wp2_with fail
      go_ret
      exact ⟨rfl, kept_alloc (kept_refl w) _⟩
    · have h3 : 20000 < l := by omega
      have d1 : decide ((20000 : Int) < (l : Int)) = true := decide_eq_true (by omega)
      have d2 : decide (20000 < l) = true := decide_eq_true h3
      clear h
      go_enter Tryz.func10, Tryz.ntmps10
      go_wp2_with fail
      go_ret
      exact ⟨rfl, kept_alloc (kept_refl w) _⟩

set_option maxRecDepth 100000 in
set_option maxHeartbeats 1000000 in
theorem rvalid15_main (P M n : Int) (p : List Tm) (A : Option Addr) (c : Nat) (w : World) (hP : RP w A p) (hn0 : 0 ≤ n) (hn : n ≤ 80) (hl : p.length ≤ 20000) :
    Calls Tryz.prog 10 #[fV P M, .int .i64 n, .slice A p.length c] w fun e w' => e = .returned (.bool (vld (ordF P M) n p)) ∧ Kept w w' := by
  have C36 := Lib.hid fun w' => rorder36_any P M w'
  unfold fV at *
  obtain ⟨q, hq⟩ : ∃ q, q = ordF P M := ⟨_, rfl⟩
  rw [← hq] at C36 ⊢
  clear hq
  obtain ⟨V, hV⟩ : ∃ V, V = vld q n p := ⟨_, rfl⟩
  rw [← hV]
  have HV := Lib.hid hV
  have HP := Lib.hid hP
  have K0 := kept_alloc (kept_refl w) (.cells #[.int .i64 P, .int .i64 M] 23)
  have t1 : decide ((20000 : Int) < (p.length : Int)) = false := decide_eq_false (by omega)
  have t2 : decide (20000 < p.length) = false := decide_eq_false (by omega)
  clear hV hP
  by_cases hq0 : q = 0
  · have t3 : (q == 0) = true := by simpa using hq0
    have HQ := Lib.hid (show V = false by rw [HV.out]; simp [vld, hq0])
    clear hq0
    go_enter Tryz.func10, Tryz.ntmps10
    go_wp2_with (go_at_call 33; ((with_reducible refine (C36.out _).mono ?_); rintro e w1 ⟨rfl, k1⟩; replace K0 := kept_trans K0 k1))
    go_ret
    exact ⟨ret_bool HQ.out.symm, K0⟩
  · have t3 : (q == 0) = false := by simpa using hq0
    have HQ0 := Lib.hid hq0
    clear hq0
    go_enter Tryz.func10, Tryz.ntmps10
    go_wp2_with (go_at_call 33; ((with_reducible refine (C36.out _).mono ?_); rintro e w1 ⟨rfl, k1⟩; replace K0 := kept_trans K0 k1))
    go_loopg [8, 9] p.length (fun g s8 s9 wr => ∃ (k : Nat) (v : Value), k ≤ p.length ∧ g = p.length - k ∧ s8 = .int .i64 k ∧ s9 = v ∧ VTo q n p k ∧ Kept w wr)
    case atStart => exact ⟨0, _, by omega, rfl, rfl, rfl, fun j hj => by omega, K0⟩
    case round =>
      clear K0
      obtain ⟨k, v, hk, rfl, rfl, rfl, hT, K0⟩ := hrel
      have HT := Lib.hid hT
      clear hT
      by_cases hlt : k < p.length
      · obtain ⟨b, off, E, ce, rfl, h0, h1, hE, hlE⟩ := (HP.out.kept K0) k hlt
        have HPR := Lib.hid (HP.out.kept K0)
        have HE := Lib.hid hE
        obtain ⟨x, hx⟩ : ∃ x, x = (tmv p k).c := ⟨_, rfl⟩
        obtain ⟨el, hel⟩ : ∃ el, el = (tmv p k).e := ⟨_, rfl⟩
        have HX := Lib.hid hx
        have HEL := Lib.hid hel
        rw [← hx] at h0
        rw [← hel] at h1 HE hlE
        clear hE hx hel
        by_cases c1 : x < 1
        · have HB := Lib.hid (show V = false by rw [HV.out]; exact vld_bad hlt (tok_no (by rw [← HX.out]; omega)))
          have d1 : decide (x < 1) = true := decide_eq_true c1
          clear c1
          go_wp2_with fail
          go_quiet (fail)
          go_wp2_with fail
          go_ret
          exact ⟨ret_bool HB.out.symm, below_drewN K0 _⟩
        · have d1 : decide (x < 1) = false := decide_eq_false c1
          by_cases c2 : q ≤ x
          · have HB := Lib.hid (show V = false by rw [HV.out]; exact vld_bad hlt (tok_no (by rw [← HX.out]; omega)))
            have d2 : decide (q ≤ x) = true := decide_eq_true c2
            clear c1 c2
            go_wp2_with fail
            go_quiet (fail)
            go_wp2_with fail
            go_ret
            exact ⟨ret_bool HB.out.symm, below_drewN K0 _⟩
          · have d2 : decide (q ≤ x) = false := decide_eq_false c2
            by_cases c3 : (el.length : Int) = n
            · have d3 : ((el.length : Int) != n) = false := by simpa using c3
              have HLN := Lib.hid c3
              clear c3
              have prev : k = 0 ∨ ∃ i, k = i + 1 := by rcases k with _ | i; · exact .inl rfl
                                                       · exact .inr ⟨i, rfl⟩
              by_cases c4 : k = 0 ∨ cmpL (tmv p (k - 1)).e el < 0
              · have HC4 := Lib.hid c4
                go_upto_region 9 with fail
                go_cut [74] (fun s74 wx => s74 = .bool false ∧ Kept w wx)
                case first =>
                  rcases prev with rfl | ⟨i, rfl⟩
                  · clear c4
                    simp only [Nat.zero_mul, Nat.add_zero] at h0 h1
                    go_quiet (fail)
                    go_wp2_with fail
                    go_meet
                    exact ⟨rfl, below_drewN K0 _⟩
                  · obtain ⟨b', off', E', ce', hA', h0', h1', hE', hlE'⟩ := HPR.out i (by omega)
                    injection hA' with hA'; injection hA' with e1 e2 _
                    subst e1; subst e2
                    rcases c4 with c4 | c4
                    · omega
                    · rw [Nat.add_sub_cancel] at c4
                      obtain ⟨ep, hep⟩ : ∃ ep, ep = (tmv p i).e := ⟨_, rfl⟩
                      rw [← hep] at h1' hE' hlE' c4
                      have hlen : ep.length = el.length := by
                        have h5 := (tok_parts.1 (HT.out i (by omega))).2.2.1
                        rw [← hep] at h5
                        have := HLN.out
                        omega
                      have C48 := Lib.hid fun (w' : World) (kk : Kept wr w') => rcompare48_any ep el E' E ce' ce w' (hE'.kept kk) (HE.out.kept kk) hlen hlE'
                      obtain ⟨cv, hcv⟩ : ∃ cv, cv = cmpL ep el := ⟨_, rfl⟩
                      rw [← hcv] at C48 c4
                      have d4 : decide (0 ≤ cv) = false := decide_eq_false (by omega)
                      clear hep hE' hlen hcv c4 h0'
                      go_quiet ((go_at_call 34; exact Calls.quiet_of (C48.out _ (below_drewN (kept_refl _) _))))
                      go_wp2_with fail
                      go_meet
                      exact ⟨rfl, below_drewN K0 _⟩
                case rest =>
                  obtain ⟨rfl, K1⟩ := hcut
                  obtain ⟨wx, rfl⟩ : ∃ wx : World, wx = wc := ⟨_, rfl⟩
                  clear h0 h1 c4 prev
                  go_wp2_with fail
                  go_loopg [9] el.length (fun g s9 wr => ∃ m : Nat, m ≤ el.length ∧ g = el.length - m ∧ s9 = .int .i64 m ∧ ETo el m ∧ Kept w wr)
                  case atStart => exact ⟨0, by omega, rfl, rfl, fun j hj => by omega, K1⟩
                  case round =>
                    obtain ⟨m, hm, rfl, rfl, hE2, K2⟩ := hrel
                    have HE2 := Lib.hid hE2
                    clear hE2 K1
                    obtain ⟨b2, off2, E2, ce2, hA2, g0, g1, gE, glE⟩ := (HP.out.kept K2) k hlt
                    injection hA2 with hA2; injection hA2 with e1 e2 _
                    subst e1; subst e2
                    rw [← HEL.out] at g1 gE glE
                    by_cases hm2 : m < el.length
                    · obtain ⟨b3, o3, rfl, h3⟩ := gE.int hm2
                      have x3 := h3 m hm2
                      have ln : (m : Int) < n := by have := HLN.out; omega
                      obtain ⟨y, hy⟩ : ∃ y, y = ia el m := ⟨_, rfl⟩
                      have HY := Lib.hid hy
                      rw [← hy] at x3
                      clear h3 hy g0
                      by_cases y0 : y < 0
                      · have HB := Lib.hid (show V = false by rw [HV.out]; exact vld_bad hlt (tok_no (by rw [← HEL.out, eto_not hm2 (show eOk (ia el m) = false by rw [← HY.out]; simp [eOk]; omega)]; simp)))
                        go_wp2_with fail
                        go_ret
                        exact ⟨ret_bool HB.out.symm, K2⟩
                      · by_cases y1 : 65535 < y
                        · have HB := Lib.hid (show V = false by rw [HV.out]; exact vld_bad hlt (tok_no (by rw [← HEL.out, eto_not hm2 (show eOk (ia el m) = false by rw [← HY.out]; simp [eOk]; omega)]; simp)))
                          go_wp2_with fail
                          go_ret
                          exact ⟨ret_bool HB.out.symm, K2⟩
                        · have HO := Lib.hid (show eOk (ia el m) = true by rw [← HY.out]; simp [eOk]; omega)
                          go_wp2_with fail
                          go_roundg (el.length - (m + 1))
                          case rel => exact ⟨m + 1, by omega, rfl, by go_num, eto_next HE2.out HO.out, K2⟩
                          case measure => omega
                    · obtain rfl : m = el.length := by omega
                      have ln : ¬ ((el.length : Int) < n) := by have := HLN.out; omega
                      clear g0 g1 gE
                      go_wp2_with fail
                      go_roundg (p.length - (k + 1))
                      case rel => exact ⟨k + 1, _, by omega, rfl, by go_num, rfl, vto_next HT.out (tok_parts.2 (by rw [← HX.out, ← HEL.out]; exact ⟨by omega, by omega, HLN.out, HC4.out, eto_all HE2.out⟩)), K2⟩
                      case measure => omega
              · obtain ⟨i, rfl⟩ : ∃ i, k = i + 1 := by
                  rcases prev with h | h
                  · exact absurd (.inl h) c4
                  · exact h
                have HB := Lib.hid (show V = false by rw [HV.out]; exact vld_bad hlt (tok_no (by rw [← HEL.out]; exact fun h => c4 h.2.2.2.1)))
                obtain ⟨b', off', E', ce', hA', h0', h1', hE', hlE'⟩ := HPR.out i (by omega)
                injection hA' with hA'; injection hA' with e1 e2 _
                subst e1; subst e2
                rw [Nat.add_sub_cancel] at c4
                obtain ⟨ep, hep⟩ : ∃ ep, ep = (tmv p i).e := ⟨_, rfl⟩
                rw [← hep] at h1' hE' hlE' c4
                have hlen : ep.length = el.length := by
                  have h5 := (tok_parts.1 (HT.out i (by omega))).2.2.1
                  rw [← hep] at h5
                  have := HLN.out
                  omega
                have C48 := Lib.hid fun (w' : World) (kk : Kept wr w') => rcompare48_any ep el E' E ce' ce w' (hE'.kept kk) (HE.out.kept kk) hlen hlE'
                obtain ⟨cv, hcv⟩ : ∃ cv, cv = cmpL ep el := ⟨_, rfl⟩
                rw [← hcv] at C48 c4
                have d4 : decide (0 ≤ cv) = true := decide_eq_true (by have : ¬ cv < 0 := fun h => c4 (.inr h); omega)
                clear hep hE' hlen hcv c4 h0' prev
                go_wp2_with fail
                go_quiet ((go_at_call 34; exact Calls.quiet_of (C48.out _ (below_drewN (kept_refl _) _))))
                go_wp2_with fail
                go_ret
                exact ⟨ret_bool HB.out.symm, below_drewN K0 _⟩
            · have HB := Lib.hid (show V = false by rw [HV.out]; exact vld_bad hlt (tok_no (by rw [← HX.out, ← HEL.out]; omega)))
              have d3 : ((el.length : Int) != n) = true := by simpa using c3
              clear c1 c2 c3
              go_wp2_with fail
              go_quiet (fail)
              go_wp2_with fail
              go_ret
              exact ⟨ret_bool HB.out.symm, below_drewN K0 _⟩
      · obtain rfl : k = p.length := by omega
        go_wp2_with fail
        go_ret
        exact ⟨ret_bool (by rw [HV.out, vld_good hn0 hn hl HQ0.out HT.out]), K0⟩

theorem rvalid15_any (P M n : Int) (p : List Tm) (A : Option Addr) (c : Nat) (w : World) (hP : RP w A p) (hl : p.length ≤ 140737488355328) :
    Calls Tryz.prog 10 #[fV P M, .int .i64 n, .slice A p.length c] w fun e w' => e = .returned (.bool (vld (ordF P M) n p)) ∧ Kept w w' := by
  by_cases h : 0 ≤ n ∧ n ≤ 80 ∧ p.length ≤ 20000
  · exact rvalid15_main P M n p A c w hP h.1 h.2.1 h.2.2
  · exact rvalid15_pre P M n p A c w hl h
end Go.Proofs.YtnjmpjdampdmmaaGreatDoor
