/- Formulas: counting, shape, validity, inputs, values and weights, in the reference. -/
import Derived.Test.YtikfeemmjfoffaaDoorY2
set_option linter.unusedVariables false
set_option linter.unusedSimpArgs false
namespace Go.Proofs.YtikfeemmjfoffaaDoor
open Go.RowKit

theorem node_cases {k n : Int} {m : Nat} (h : nodeB k n m = true) : (k = 0 ∧ 0 ≤ n ∧ n < 16 ∧ m = 0) ∨ (k = 1 ∧ (n = 0 ∨ n = 1) ∧ m = 0) ∨ (k = 2 ∧ n = 0 ∧ m = 1) ∨ ((k = 3 ∨ k = 4 ∨ k = 5) ∧ n = 0 ∧ m = 2) := by
  unfold nodeB at h
  split at h
  · simp at h; omega
  · split at h
    · simp at h; omega
    · split at h
      · simp at h; omega
      · split at h
        · simp at h; omega
        · cases h

set_option maxRecDepth 100000 in
set_option maxHeartbeats 1000000 in
theorem count75_any : ∀ (N : Nat) (f : Fm) (A : Option Addr) (c : Nat) (most : Int) (w : World), cntF f ≤ N → N ≤ 20000 → f.l.length ≤ 9223372036854775807 → RK w A f.l → depF f ≤ most → most ≤ 2000 →
    Calls Tryd.prog 45 #[fmV f A c, .int .i64 most] w fun e w' => e = .returned (.tuple #[.int .i64 (cntF f : Nat), .int .i64 (depF f : Nat)]) ∧ Kept w w' := by
  intro N
  induction N with
  | zero => intro f A c n w h; have := cntF_pos f; omega
  | succ N ih =>
    intro f A c most w hc hN hl hr hd hmo
    have IH := Lib.hid ih; clear ih
    have HR := Lib.hid hr; clear hr
    unfold fmV
    have o0 := Own.new w 48 [.int .i64 f.k, .int .i64 f.n, .slice A f.l.length c]
    have K0 : Kept w (w.alloc (.cells #[.int .i64 f.k, .int .i64 f.n, .slice A f.l.length c] 48)) := kept_alloc (kept_refl w) _
    have hcn := cntF_eq f
    have hdn := depF_eq f
    have HC := Lib.hid hcn; have HD := Lib.hid hdn
    have hm1 : 1 ≤ most := by omega
    obtain ⟨l, hle⟩ : ∃ l, l = f.l := ⟨_, rfl⟩
    rw [← hle] at hl HR o0 K0 HC HD hdn hcn ⊢
    clear hle
    by_cases hmo1 : most > 1
    · have hb : decide (1 < most) = true := decide_eq_true hmo1
      clear hdn hcn
      go_enter Tryd.func45, Tryd.ntmps45
      go_wp2_with fail
      go_loopg [6, 7, 8] l.length (fun g' s6 s7 s8 wr => ∃ j : Nat, j ≤ l.length ∧ g' = l.length - j ∧ s8 = .int .i64 j ∧ s6 = .int .i64 (1 + cntL (l.take j) : Nat) ∧ s7 = .int .i64 (depL (l.take j) : Nat) ∧ Own wr w.heap.size 48 [.int .i64 f.k, .int .i64 f.n, .slice A l.length c] ∧ Kept w wr)
      case atStart => exact ⟨0, by omega, rfl, rfl, by simp [cntL], by simp [depL], o0, K0⟩
      case round =>
        clear o0 K0
        obtain ⟨j, hj, rfl, rfl, rfl, rfl, o0, K0⟩ := hrel
        have q0 := o0.cell (j := 0) rfl
        have q1 := o0.cell (j := 1) rfl
        have q2 := o0.cell (j := 2) rfl
        have hle := cntL_take_le l j
        have hld := depL_take_le l j
        obtain ⟨v, hv⟩ : ∃ v : Nat, v = 1 + cntL (l.take j) := ⟨_, rfl⟩
        obtain ⟨u, hu⟩ : ∃ u : Nat, u = depL (l.take j) := ⟨_, rfl⟩
        rw [← hv, ← hu]
        have v1 : (v : Int) ≤ 20000 := by have := HC.out; omega
        have u1 : (u : Int) ≤ 2000 := by have := HD.out; omega
        have HV := Lib.hid hv; have HU := Lib.hid hu; clear hv hu hle hld
        by_cases hlt : j < l.length
        · have b1 : decide ((v : Int) ≤ 20000) = true := decide_eq_true v1
          have b2 : decide (v ≤ 20000) = true := decide_eq_true (by omega)
          obtain ⟨b, off, rfl, hk⟩ := HR.out.at_ (by omega)
          obtain ⟨d0, d1, ⟨A', c', d2, rk⟩, dl⟩ := (hk j hlt).kept K0
          clear hk
          have g0 : (0 : Int) ≤ (j : Int) := by omega
          have g1 : (j : Int) < (l.length : Int) := by omega
          have hkc := cnt_kid hlt
          have hkd := dep_kid hlt
          have m1 : IntKind.i64.wrap (most - 1) = most - 1 := IntWalk.i64_in _ (by omega)
          have C := IH.out (kd l j) A' c' (most - 1) wr (by have := HC.out; omega) (by omega) dl rk (by have := HD.out; omega) (by omega)
          unfold fmV at C
          have w1 : (cntF (kd l j) : Int) ≤ 20000 := by have := HC.out; omega
          have w2 : (depF (kd l j) : Int) ≤ 2000 := by have := HD.out; omega
          obtain ⟨a, ha⟩ : ∃ a, a = cntF (kd l j) := ⟨_, rfl⟩
          obtain ⟨d, hd2⟩ : ∃ a, a = depF (kd l j) := ⟨_, rfl⟩
          rw [← ha, ← hd2] at C
          rw [← ha] at w1
          rw [← hd2] at w2
          have HA := Lib.hid ha; have HD2 := Lib.hid hd2; clear ha hd2 hkc hkd
          have HCC := Lib.hid C; clear C
          go_wp2_with fail
          refine HCC.out.mono ?_
          rintro e w1 ⟨rfl, k⟩
          replace K0 := kept_trans K0 k; replace o0 := o0.kept k
          go_wp2_with fail
          all_goals
            go_roundg (l.length - (j + 1))
            case rel => exact ⟨j + 1, by omega, rfl, by go_num, congrArg (Value.int .i64) (by have := HV.out; have := HA.out; have := cntL_take hlt; omega), congrArg (Value.int .i64) (by have := HU.out; have := HD2.out; have := depL_take hlt; omega), o0, K0⟩
            case measure => omega
        · have : j = l.length := by omega
          subst this
          go_wp2_with fail
          go_ret2
          have e1 : v = cntF f := by have := HV.out; rw [List.take_length] at this; have := HC.out; omega
          have e2 : u + 1 = depF f := by have := HU.out; rw [List.take_length] at this; have := HD.out; omega
          exact ⟨by rw [← e1, ← e2]; rfl, K0⟩
    · have hb : decide (1 < most) = false := decide_eq_false hmo1
      have hl0 : l = [] := by
        cases l with
        | nil => rfl
        | cons g gs => rw [depL] at hdn; have := depF_pos g; omega
      subst hl0
      have hb2 : cntF f = 1 := by rw [cntL] at hcn; omega
      have hb3 : depF f = 1 := by rw [depL] at hdn; omega
      clear hdn hcn HC HD
      rw [hb2, hb3]
      clear hb2 hb3
      go_enter Tryd.func45, Tryd.ntmps45
      go_wp2_with fail
      go_ret2
      exact ⟨rfl, K0⟩

set_option maxRecDepth 100000 in
set_option maxHeartbeats 1000000 in
theorem shape76_any : ∀ (N : Nat) (f : Fm) (A : Option Addr) (c : Nat) (w : World), cntF f ≤ N → f.l.length ≤ 9223372036854775807 → RK w A f.l →
    Calls Tryd.prog 46 #[fmV f A c] w fun e w' => e = .returned (.bool (shpF f)) ∧ Kept w w' := by
  intro N
  induction N with
  | zero => intro f A c w h; have := cntF_pos f; omega
  | succ N ih =>
    intro f A c w hc hl hr
    have IH := Lib.hid ih; clear ih
    have HR := Lib.hid hr; clear hr
    unfold fmV
    have o0 := Own.new w 48 [.int .i64 f.k, .int .i64 f.n, .slice A f.l.length c]
    have K0 : Kept w (w.alloc (.cells #[.int .i64 f.k, .int .i64 f.n, .slice A f.l.length c] 48)) := kept_alloc (kept_refl w) _
    have hcn := cntF_eq f
    have hsn := shpF_eq f
    have HC := Lib.hid hcn; have HS := Lib.hid hsn; clear hcn hsn
    obtain ⟨l, hle⟩ : ∃ l, l = f.l := ⟨_, rfl⟩
    rw [← hle] at hl HR o0 K0 HC HS ⊢
    clear hle
    go_enter Tryd.func46, Tryd.ntmps46
    go_wp2_with fail
    go_loopg [3] l.length (fun g' s3 wr => ∃ j : Nat, j ≤ l.length ∧ g' = l.length - j ∧ s3 = .int .i64 j ∧ (∀ i, i < j → shpF (kd l i) = true) ∧ Own wr w.heap.size 48 [.int .i64 f.k, .int .i64 f.n, .slice A l.length c] ∧ Kept w wr)
    case atStart => exact ⟨0, by omega, rfl, rfl, fun i h => by omega, o0, K0⟩
    case round =>
      clear o0 K0
      obtain ⟨j, hj, rfl, rfl, hal, o0, K0⟩ := hrel
      have HAL := Lib.hid hal; clear hal
      have q0 := o0.cell (j := 0) rfl
      have q1 := o0.cell (j := 1) rfl
      have q2 := o0.cell (j := 2) rfl
      by_cases hlt : j < l.length
      · obtain ⟨b, off, rfl, hk⟩ := HR.out.at_ (by omega)
        obtain ⟨d0, d1, ⟨A', c', d2, rk⟩, dl⟩ := (hk j hlt).kept K0
        clear hk
        have g0 : (0 : Int) ≤ (j : Int) := by omega
        have g1 : (j : Int) < (l.length : Int) := by omega
        have hkc := cnt_kid hlt
        have C := IH.out (kd l j) A' c' wr (by have := HC.out; omega) dl rk
        unfold fmV at C
        cases hsh : shpF (kd l j)
        all_goals
          rw [hsh] at C
          have HCC := Lib.hid C; clear C
          have HSH := Lib.hid hsh; clear hsh
          go_wp2_with fail
          refine HCC.out.mono ?_
          rintro e w1 ⟨rfl, k⟩
          replace K0 := kept_trans K0 k; replace o0 := o0.kept k
          go_wp2_with fail
        · go_ret
          exact ⟨ret_bool (by rw [HS.out, shpL_false.2 ⟨j, hlt, HSH.out⟩]; rfl), K0⟩
        · go_roundg (l.length - (j + 1))
          case rel => exact ⟨j + 1, by omega, rfl, by go_num, fun i h => by rcases Nat.lt_succ_iff_lt_or_eq.1 h with h | rfl; exact HAL.out i h; exact HSH.out, o0, K0⟩
          case measure => omega
      · have : j = l.length := by omega
        subst this
        go_wp2_with fail
        refine (shape92_any _ _ _ _).mono ?_
        rintro e w1 ⟨rfl, rfl⟩
        go_wp2_with fail
        go_ret
        exact ⟨ret_bool (by rw [HS.out, shpL_true.2 HAL.out]; rfl), K0⟩

set_option maxRecDepth 100000 in
set_option maxHeartbeats 1000000 in
theorem rvalid36_any (f : Fm) (A : Option Addr) (c : Nat) (w : World) (hc : cntF f ≤ 20000) (hd : depF f ≤ 1000) (hl : f.l.length ≤ 9223372036854775807) (hr : RK w A f.l) :
    Calls Tryd.prog 24 #[fmV f A c] w fun e w' => e = .returned (.bool (shpF f)) ∧ Kept w w' := by
  have C75 := Lib.hid fun (w' : World) (k : Kept w w') => count75_any (cntF f) f A c 1001 w' (Nat.le_refl _) hc hl (hr.kept k) (by omega) (by omega)
  have C76 := Lib.hid fun (w' : World) (k : Kept w w') => shape76_any (cntF f) f A c w' (Nat.le_refl _) hl (hr.kept k)
  unfold fmV at C75 C76 ⊢
  have o0 := Own.new w 48 [.int .i64 f.k, .int .i64 f.n, .slice A f.l.length c]
  have K0 : Kept w (w.alloc (.cells #[.int .i64 f.k, .int .i64 f.n, .slice A f.l.length c] 48)) := kept_alloc (kept_refl w) _
  have b1 : decide ((cntF f : Int) ≤ 20000) = true := decide_eq_true (by omega)
  have b2 : decide (cntF f ≤ 20000) = true := decide_eq_true hc
  have b3 : decide ((depF f : Int) ≤ 1000) = true := decide_eq_true (by omega)
  have b4 : decide (depF f ≤ 1000) = true := decide_eq_true hd
  clear hr hl
  go_enter Tryd.func24, Tryd.ntmps24
  go_wp2_with fail
  refine (C75.out _ K0).mono ?_
  rintro e w1 ⟨rfl, k⟩
  replace K0 := kept_trans K0 k; replace o0 := o0.kept k
  have q0 := o0.cell (j := 0) rfl
  have q1 := o0.cell (j := 1) rfl
  have q2 := o0.cell (j := 2) rfl
  go_wp2_with fail
  refine (C76.out _ K0).mono ?_
  rintro e w2 ⟨rfl, k2⟩
  go_wp2_with fail
  go_ret
  exact ⟨ret_bool (by simp), kept_trans K0 k2⟩

theorem inp_bounds : ∀ (N : Nat) (f : Fm), cntF f ≤ N → shpF f = true → 0 ≤ inpF f ∧ inpF f ≤ 16 := by
  intro N
  induction N with
  | zero => intro f h; have := cntF_pos f; omega
  | succ N ih =>
    intro f hc hs
    rw [shpF_eq, Bool.and_eq_true] at hs
    have key : ∀ l : List Fm, cntL l ≤ N → shpL l = true → 0 ≤ inpL l ∧ inpL l ≤ 16 := by
      intro l
      induction l with
      | nil => intro _ _; simp [inpL]
      | cons g gs ih2 =>
        intro h2 h3
        rw [cntL] at h2
        rw [shpL, Bool.and_eq_true] at h3
        rw [inpL]
        have := ih g (by omega) h3.1
        have := ih2 (by omega) h3.2
        omega
    have h1 := key f.l (by rw [cntF_eq] at hc; omega) hs.1
    have h2 := node_cases hs.2
    rw [inpF_eq]
    split <;> omega
set_option maxRecDepth 100000 in
set_option maxHeartbeats 1000000 in
theorem rinputs37_any : ∀ (N : Nat) (f : Fm) (A : Option Addr) (c : Nat) (w : World), cntF f ≤ N → shpF f = true → f.l.length ≤ 9223372036854775807 → RK w A f.l →
    Calls Tryd.prog 25 #[fmV f A c] w fun e w' => e = .returned (.int .i64 (inpF f)) ∧ Kept w w' := by
  intro N
  induction N with
  | zero => intro f A c w h; have := cntF_pos f; omega
  | succ N ih =>
    intro f A c w hc hs hl hr
    have IH := Lib.hid ih; clear ih
    have HR := Lib.hid hr; clear hr
    unfold fmV
    have o0 := Own.new w 48 [.int .i64 f.k, .int .i64 f.n, .slice A f.l.length c]
    have K0 : Kept w (w.alloc (.cells #[.int .i64 f.k, .int .i64 f.n, .slice A f.l.length c] 48)) := kept_alloc (kept_refl w) _
    have hb := inp_bounds _ f (Nat.le_refl _) hs
    have hcn := cntF_eq f
    have hin := inpF_eq f
    rw [shpF_eq, Bool.and_eq_true] at hs
    have hnc := node_cases hs.2
    have hsl := shpL_true.1 hs.1
    have HC := Lib.hid hcn; have HI := Lib.hid hin; have HS := Lib.hid hsl; clear hcn hin hsl hs
    obtain ⟨l, hle⟩ : ∃ l, l = f.l := ⟨_, rfl⟩
    rw [← hle] at hl HR o0 K0 HC HI HS ⊢
    clear hle
    obtain ⟨a, ha⟩ : ∃ a : Int, a = if f.k = 0 then f.n + 1 else 0 := ⟨_, rfl⟩
    rw [← ha] at HI
    have ha0 : 0 ≤ a ∧ a ≤ 16 := by split at ha <;> omega
    by_cases hk0 : f.k = 0
    case' pos =>
      have hkb : (f.k == 0) = true := beq_iff_eq.2 hk0
      rw [if_pos hk0] at ha
      have hn16 : 0 ≤ f.n ∧ f.n < 16 := by omega
    case' neg =>
      have hkb : (f.k == 0) = false := beq_eq_false_iff_ne.2 hk0
      rw [if_neg hk0] at ha
    all_goals
      have HA := Lib.hid ha; clear ha hk0 hnc
      go_enter Tryd.func25, Tryd.ntmps25
      go_wp2_with fail
      go_loopg [3, 4] l.length (fun g' s3 s4 wr => ∃ j : Nat, j ≤ l.length ∧ g' = l.length - j ∧ s4 = .int .i64 j ∧ s3 = .int .i64 (max a (inpL (l.take j))) ∧ Own wr w.heap.size 48 [.int .i64 f.k, .int .i64 f.n, .slice A l.length c] ∧ Kept w wr)
      case atStart => exact ⟨0, by omega, rfl, rfl, congrArg (Value.int .i64) (by have := HA.out; simp [inpL]; omega), o0, K0⟩
      case round =>
        clear o0 K0
        obtain ⟨j, hj, rfl, rfl, rfl, o0, K0⟩ := hrel
        have q0 := o0.cell (j := 0) rfl
        have q1 := o0.cell (j := 1) rfl
        have q2 := o0.cell (j := 2) rfl
        by_cases hlt : j < l.length
        · obtain ⟨b, off, rfl, hk⟩ := HR.out.at_ (by omega)
          obtain ⟨d0, d1, ⟨A', c', d2, rk⟩, dl⟩ := (hk j hlt).kept K0
          clear hk
          have g0 : (0 : Int) ≤ (j : Int) := by omega
          have g1 : (j : Int) < (l.length : Int) := by omega
          have hkc := cnt_kid hlt
          have C := IH.out (kd l j) A' c' wr (by have := HC.out; omega) (HS.out j hlt) dl rk
          unfold fmV at C
          obtain ⟨u, hu⟩ : ∃ u, u = inpF (kd l j) := ⟨_, rfl⟩
          rw [← hu] at C
          obtain ⟨v, hv⟩ : ∃ v, v = max a (inpL (l.take j)) := ⟨_, rfl⟩
          rw [← hv]
          have HCC := Lib.hid C; clear C
          have HU := Lib.hid hu; have HV := Lib.hid hv; clear hu hv
          go_wp2_with fail
          refine HCC.out.mono ?_
          rintro e w1 ⟨rfl, k⟩
          replace K0 := kept_trans K0 k; replace o0 := o0.kept k
          go_wp2_with fail
          all_goals
            go_roundg (l.length - (j + 1))
            case rel => exact ⟨j + 1, by omega, rfl, by go_num, congrArg (Value.int .i64) (by have := HU.out; have := HV.out; have := inpL_take hlt; omega), o0, K0⟩
            case measure => omega
        · have : j = l.length := by omega
          subst this
          obtain ⟨v, hv⟩ : ∃ v, v = max a (inpL (l.take l.length)) := ⟨_, rfl⟩
          rw [← hv]
          have HV := Lib.hid hv; clear hv
          go_wp2_with fail
          go_ret
          exact ⟨ret_int (by have := HV.out; rw [List.take_length] at this; rw [this, HI.out]), K0⟩

set_option maxRecDepth 100000 in
set_option maxHeartbeats 1000000 in
theorem apply77_any (k : Int) (a b : Bool) (w : World) : Calls Tryd.prog 47 #[.int .i64 k, .bool a, .bool b] w fun e w' => e = .returned (.bool (appB k a b)) ∧ w = w' := by
  by_cases k2 : k = 2
  · subst k2
    cases a
    all_goals
      go_enter Tryd.func47, Tryd.ntmps47
      go_wp2_with fail
      go_ret
      exact ⟨ret_bool (by unfold appB; simp), rfl⟩
  · have b2 : (k == 2) = false := beq_eq_false_iff_ne.2 k2
    by_cases k3 : k = 3
    · subst k3
      cases a <;> cases b
      all_goals
        go_enter Tryd.func47, Tryd.ntmps47
        go_wp2_with fail
        go_ret
        exact ⟨ret_bool (by unfold appB; simp), rfl⟩
    · have b3 : (k == 3) = false := beq_eq_false_iff_ne.2 k3
      by_cases k4 : k = 4
      · subst k4
        cases a <;> cases b
        all_goals
          go_enter Tryd.func47, Tryd.ntmps47
          go_wp2_with fail
          go_ret
          exact ⟨ret_bool (by unfold appB; simp), rfl⟩
      · have b4 : (k == 4) = false := beq_eq_false_iff_ne.2 k4
        have e : appB k a b = (a != b) := by unfold appB; rw [if_neg k2, if_neg k3, if_neg k4]
        rw [e]
        clear k2 k3 k4 e
        cases a <;> cases b
        all_goals
          go_enter Tryd.func47, Tryd.ntmps47
          go_wp2_with fail
          go_ret
          exact ⟨ret_bool (by simp), rfl⟩
end Go.Proofs.YtikfeemmjfoffaaDoor
