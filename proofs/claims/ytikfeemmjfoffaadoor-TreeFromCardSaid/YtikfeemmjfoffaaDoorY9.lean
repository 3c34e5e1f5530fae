/- Nesting of formulas, in the program and in the reference. -/
import Derived.Test.YtikfeemmjfoffaaDoorY7
set_option linter.unusedVariables false
set_option linter.unusedSimpArgs false
namespace Go.Proofs.YtikfeemmjfoffaaDoor
open Go.RowKit

set_option maxRecDepth 100000 in
set_option maxHeartbeats 1000000 in
theorem nesting43_any : ∀ (N : Nat) (f : Fm) (A : Option Addr) (c : Nat) (most : Int) (w : World), cntF f ≤ N → f.l.length ≤ 9223372036854775807 → RK w A f.l → 0 ≤ most → most ≤ 2000 →
    Calls Tryd.prog 43 #[fmV f A c, .int .i64 most] w fun e w' => e = .returned (.int .i64 (min (depF f : Int) (most + 1))) ∧ Kept w w' := by
  intro N
  induction N with
  | zero => intro f A c n w h; have := cntF_pos f; omega
  | succ N ih =>
    intro f A c most w hc hl hr hm0 hm1
    have IH := Lib.hid ih; clear ih
    have HR := Lib.hid hr; clear hr
    unfold fmV
    have o0 := Own.new w 48 [.int .i64 f.k, .int .i64 f.n, .slice A f.l.length c]
    have K0 : Kept w (w.alloc (.cells #[.int .i64 f.k, .int .i64 f.n, .slice A f.l.length c] 48)) := kept_alloc (kept_refl w) _
    have hcn := cntF_eq f
    have HC := Lib.hid hcn; clear hcn
    have hdn := depF_eq f
    have HD := Lib.hid hdn; clear hdn
    obtain ⟨l, hle⟩ : ∃ l, l = f.l := ⟨_, rfl⟩
    rw [← hle] at hl HR o0 K0 HC HD ⊢
    clear hle
    go_enter Tryd.func43, Tryd.ntmps43
    go_wp2_with fail
    go_loopg [5, 11] l.length (fun g' s5 s11 wr => ∃ j : Nat, j ≤ l.length ∧ g' = l.length - j ∧ s11 = .int .i64 j ∧ s5 = .int .i64 (min (depL (l.take j) : Int) most) ∧ Own wr w.heap.size 48 [.int .i64 f.k, .int .i64 f.n, .slice A l.length c] ∧ Kept w wr)
    case atStart => exact ⟨0, by omega, rfl, rfl, congrArg (Value.int .i64) (by simp [depL]; omega), o0, K0⟩
    case round =>
      clear o0 K0
      obtain ⟨j, hj, rfl, rfl, rfl, o0, K0⟩ := hrel
      have q0 := o0.cell (j := 0) rfl
      have q1 := o0.cell (j := 1) rfl
      have q2 := o0.cell (j := 2) rfl
      obtain ⟨v, hv⟩ : ∃ v, v = min (depL (l.take j) : Int) most := ⟨_, rfl⟩
      rw [← hv]
      have v0 : 0 ≤ v := by omega
      have v1 : v ≤ most := by omega
      by_cases hlt : j < l.length
      · have c1 : decide ((j : Int) < (l.length : Int)) = true := decide_eq_true (by omega)
        have c2 : decide (j < l.length) = true := decide_eq_true hlt
        obtain ⟨b, off, rfl, hk⟩ := HR.out.at_ (by omega)
        obtain ⟨d0, d1, ⟨A', c', d2, rk⟩, dl⟩ := (hk j hlt).kept K0
        clear hk
        have g0 : (0 : Int) ≤ (j : Int) := by omega
        have g1 : (j : Int) < (l.length : Int) := by omega
        have o1 := o0.alloc (.cells #[.int .i64 (kd l j).k, .int .i64 (kd l j).n, .slice A' (kd l j).l.length c'] 48)
        have K1 := kept_alloc K0 (.cells #[.int .i64 (kd l j).k, .int .i64 (kd l j).n, .slice A' (kd l j).l.length c'] 48)
        by_cases hve : v < most
        · have c3 : decide (v < most) = true := decide_eq_true hve
          have hkc := cnt_kid hlt
          have m1 : IntKind.i64.wrap (most - 1) = most - 1 := IntWalk.i64_in _ (by omega)
          have C := IH.out (kd l j) A' c' (most - 1) (wr.alloc (.cells #[.int .i64 (kd l j).k, .int .i64 (kd l j).n, .slice A' (kd l j).l.length c'] 48)) (by have := HC.out; omega) dl (rk.kept (kept_alloc (kept_refl wr) _)) (by omega) (by omega)
          unfold fmV at C
          obtain ⟨d, hd⟩ : ∃ d, d = min (depF (kd l j) : Int) (most - 1 + 1) := ⟨_, rfl⟩
          rw [← hd] at C
          have HDD := Lib.hid hd
          have hd0 : 0 ≤ d := by omega
          have hd1 : d ≤ 2000 := by omega
          have HCC := Lib.hid C; clear C
          have HV := Lib.hid hv; clear hv hd
          go_wp2_with fail
          refine HCC.out.mono ?_
          rintro e w1 ⟨rfl, k⟩
          replace K1 := kept_trans K1 k; replace o1 := o1.kept k
          have ht := depL_take hlt
          have HT := Lib.hid ht; clear ht
          go_wp2_with fail
          all_goals
            go_roundg (l.length - (j + 1))
            case rel => exact ⟨j + 1, by omega, rfl, by go_num, congrArg (Value.int .i64) (by have := HV.out; have := HT.out; have := HDD.out; omega), o1, K1⟩
            case measure => omega
        · have c3 : decide (v < most) = false := decide_eq_false hve
          have HV := Lib.hid hv; clear hv
          have ht := depL_take hlt
          have HT := Lib.hid ht; clear ht
          go_wp2_with fail
          all_goals
            go_roundg (l.length - (j + 1))
            case rel => exact ⟨j + 1, by omega, rfl, by go_num, congrArg (Value.int .i64) (by have := HV.out; have := HT.out; omega), o1, K1⟩
            case measure => omega
      · have : j = l.length := by omega
        subst this
        have c1 : decide ((l.length : Int) < (l.length : Int)) = false := decide_eq_false (by omega)
        have HV := Lib.hid hv; clear hv
        go_wp2_with fail
        go_ret
        exact ⟨ret_int (by have := HV.out; have := HD.out; rw [List.take_length] at *; omega), K0⟩

set_option maxRecDepth 100000 in
set_option maxHeartbeats 1000000 in
theorem nesting26_any (f : Fm) (A : Option Addr) (c : Nat) (w : World) (hc : cntF f ≤ 20000) (hd : depF f ≤ 1000) (hl : f.l.length ≤ 9223372036854775807) (hr : RK w A f.l) :
    Calls Tryd.prog 26 #[fmV f A c] w fun e w' => e = .returned (.int .i64 (depF f : Nat)) ∧ Kept w w' := by
  have K0 : Kept w (w.alloc (.cells #[.int .i64 f.k, .int .i64 f.n, .slice A f.l.length c] 48)) := kept_alloc (kept_refl w) _
  have C := count75_any (cntF f) f A c 1001 _ (Nat.le_refl _) hc hl (hr.kept K0) (by omega) (by omega)
  unfold fmV at C ⊢
  have HC := Lib.hid C
  clear C hr hl hc hd
  go_enter Tryd.func26, Tryd.ntmps26
  go_wp2_with fail
  refine HC.out.mono ?_
  rintro e w1 ⟨rfl, k⟩
  go_wp2_with fail
  go_ret
  exact ⟨rfl, kept_trans K0 k⟩
end Go.Proofs.YtikfeemmjfoffaaDoor
