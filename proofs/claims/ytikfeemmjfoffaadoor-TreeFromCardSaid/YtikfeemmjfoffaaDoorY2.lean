/- Formulas: the reference's functions, and Few. -/
import Derived.Test.YtikfeemmjfoffaaDoorY1
set_option linter.unusedVariables false
set_option linter.unusedSimpArgs false
namespace Go.Proofs.YtikfeemmjfoffaaDoor
open Go.RowKit

set_option maxRecDepth 100000 in
set_option maxHeartbeats 1000000 in
theorem shape92_any (k n : Int) (m : Nat) (w : World) :
    Calls Tryd.prog 63 #[.int .i64 k, .int .i64 n, .int .i64 m, .int .i64 16] w fun e w' => e = .returned (.bool (nodeB k n m)) ∧ w = w' := by
  by_cases k0 : k = 0
  · subst k0
    go_enter Tryd.func63, Tryd.ntmps63
    go_wp2_with fail
    all_goals (go_ret; refine ⟨ret_bool ?_, rfl⟩; unfold nodeB; rw [Bool.eq_iff_iff]; simp; omega)
  · have b0 : (k == 0) = false := beq_eq_false_iff_ne.2 k0
    by_cases k1 : k = 1
    · subst k1
      go_enter Tryd.func63, Tryd.ntmps63
      go_wp2_with fail
      all_goals (go_ret; refine ⟨ret_bool ?_, rfl⟩; unfold nodeB; rw [Bool.eq_iff_iff]; simp; omega)
    · have b1 : (k == 1) = false := beq_eq_false_iff_ne.2 k1
      by_cases k2 : k = 2
      · subst k2
        go_enter Tryd.func63, Tryd.ntmps63
        go_wp2_with fail
        all_goals (go_ret; refine ⟨ret_bool ?_, rfl⟩; unfold nodeB; rw [Bool.eq_iff_iff]; simp; omega)
      · have b2 : (k == 2) = false := beq_eq_false_iff_ne.2 k2
        by_cases k3 : k = 3 ∨ k = 4 ∨ k = 5
        · rcases k3 with rfl | rfl | rfl
          all_goals
            go_enter Tryd.func63, Tryd.ntmps63
            go_wp2_with fail
            all_goals (go_ret; refine ⟨ret_bool ?_, rfl⟩; unfold nodeB; rw [Bool.eq_iff_iff]; simp; omega)
        · have b3 : (k == 3) = false := beq_eq_false_iff_ne.2 (by omega)
          have b4 : (k == 4) = false := beq_eq_false_iff_ne.2 (by omega)
          have b5 : (k == 5) = false := beq_eq_false_iff_ne.2 (by omega)
          have hn : nodeB k n m = false := by unfold nodeB; rw [if_neg k0, if_neg k1, if_neg k2, if_neg k3]
          have HN := Lib.hid hn
          clear k0 k1 k2 k3 hn
          go_enter Tryd.func63, Tryd.ntmps63
          go_wp2_with fail
          go_ret
          exact ⟨ret_bool HN.out.symm, rfl⟩

set_option maxRecDepth 100000 in
set_option maxHeartbeats 1000000 in
theorem weigh_any (most : Int) (hm0 : 0 ≤ most) (hm1 : most ≤ 1000000) : ∀ (N : Nat) (f : Fm) (A : Option Addr) (c : Nat) (n : Int) (w : World), cntF f ≤ N → f.l.length ≤ 9223372036854775807 → RK w A f.l → 0 ≤ n → n ≤ most →
    Calls Tryd.prog 40 #[fmV f A c, .int .i64 n, .int .i64 most] w fun e w' => e = .returned (.int .i64 (min (n + cntF f) (most + 1))) ∧ Kept w w' := by
  intro N
  induction N with
  | zero => intro f A c n w h; have := cntF_pos f; omega
  | succ N ih =>
    intro f A c n w hc hl hr hn0 hn1
    have IH := Lib.hid ih; clear ih
    have HR := Lib.hid hr; clear hr
    unfold fmV
    have o0 := Own.new w 48 [.int .i64 f.k, .int .i64 f.n, .slice A f.l.length c]
    have K0 : Kept w (w.alloc (.cells #[.int .i64 f.k, .int .i64 f.n, .slice A f.l.length c] 48)) := kept_alloc (kept_refl w) _
    have hcn := cntF_eq f
    have HC := Lib.hid hcn; clear hcn
    obtain ⟨l, hle⟩ : ∃ l, l = f.l := ⟨_, rfl⟩
    rw [← hle] at hl HR o0 K0 HC ⊢
    clear hle
    go_enter Tryd.func40, Tryd.ntmps40
    go_wp2_with fail
    go_loopg [1, 7] l.length (fun g' s1 s7 wr => ∃ j : Nat, j ≤ l.length ∧ g' = l.length - j ∧ s7 = .int .i64 j ∧ s1 = .int .i64 (min (n + 1 + cntL (l.take j)) (most + 1)) ∧ Own wr w.heap.size 48 [.int .i64 f.k, .int .i64 f.n, .slice A l.length c] ∧ Kept w wr)
    case atStart => exact ⟨0, by omega, rfl, rfl, congrArg (Value.int .i64) (by simp [cntL]; omega), o0, K0⟩
    case round =>
      clear o0 K0
      obtain ⟨j, hj, rfl, rfl, rfl, o0, K0⟩ := hrel
      have q0 := o0.cell (j := 0) rfl
      have q1 := o0.cell (j := 1) rfl
      have q2 := o0.cell (j := 2) rfl
      have hle := cntL_take_le l j
      obtain ⟨v, hv⟩ : ∃ v, v = min (n + 1 + cntL (l.take j)) (most + 1) := ⟨_, rfl⟩
      rw [← hv]
      have v0 : 0 ≤ v := by omega
      have v1 : v ≤ most + 1 := by omega
      by_cases hlt : j < l.length
      · have c1 : decide ((j : Int) < (l.length : Int)) = true := decide_eq_true (by omega)
        have c2 : decide (j < l.length) = true := decide_eq_true hlt
        by_cases hve : v ≤ most
        · have c3 : decide (v ≤ most) = true := decide_eq_true hve
          obtain ⟨b, off, rfl, hk⟩ := HR.out.at_ (by omega)
          obtain ⟨d0, d1, ⟨A', c', d2, rk⟩, dl⟩ := (hk j hlt).kept K0
          clear hk
          have g0 : (0 : Int) ≤ (j : Int) := by omega
          have g1 : (j : Int) < (l.length : Int) := by omega
          have hkc := cnt_kid hlt
          have C := IH.out (kd l j) A' c' v wr (by have := HC.out; omega) dl rk v0 hve
          unfold fmV at C
          have HCC := Lib.hid C; clear C
          have HV := Lib.hid hv; clear hv
          go_wp2_with fail
          refine HCC.out.mono ?_
          rintro e w1 ⟨rfl, k⟩
          replace K0 := kept_trans K0 k; replace o0 := o0.kept k
          have ht := cntL_take hlt
          go_wp2_with fail
          go_roundg (l.length - (j + 1))
          case rel => exact ⟨j + 1, by omega, rfl, by go_num, congrArg (Value.int .i64) (by have := HV.out; omega), o0, K0⟩
          case measure => omega
        · have c3 : decide (v ≤ most) = false := decide_eq_false hve
          have HV := Lib.hid hv; clear hv
          go_wp2_with fail
          go_ret
          exact ⟨ret_int (by have := HV.out; have := HC.out; omega), K0⟩
      · have : j = l.length := by omega
        subst this
        have c1 : decide ((l.length : Int) < (l.length : Int)) = false := decide_eq_false (by omega)
        have HV := Lib.hid hv; clear hv
        go_wp2_with fail
        go_ret
        exact ⟨ret_int (by have := HV.out; have := HC.out; rw [List.take_length] at *; omega), K0⟩
end Go.Proofs.YtikfeemmjfoffaaDoor
