/- The law BranchPaths: the walk. -/
import Derived.Test.YtinpmdekdfgiiaaC6
import Derived.Test.YtinpmdekdfgiiaaD4
set_option linter.unusedVariables false
set_option linter.unusedSimpArgs false
namespace Go.Proofs.Ytinpmdekdfgiiaa
open Go.RowKit


/-- What Run answers where it fails. -/
def RunBad (w : World) (e : Ending) (w' : World) : Prop :=
  ∃ b A c g, e = .returned (.tuple #[.bool b, .slice A 0 c, .int .i64 g]) ∧ (g == 0) = false ∧ Kept w w'
theorem run_end {i s : Int} {l : List Nd} (hv : validB i s l = true) (x : Nat → Bool) : ∀ (f : Nat) (c : Int), l.length - c ≤ f → (c = -1 ∨ c = -2 ∨ (0 ≤ c ∧ c < l.length)) → (runF l x f c).1 < 0 := by
  intro f
  induction f with
  | zero => intro c h1 h2; rcases h2 with h | h | h <;> (subst_vars; first | (simp [runF]; done) | (simp only [runF]; omega))
  | succ f ih =>
    intro c h1 h2
    by_cases hc : c < 0
    · rw [runF_neg _ _ _ hc]; exact hc
    · have st := step_in hv x (k := c.toNat) (by omega)
      rw [show ((c.toNat : Nat) : Int) = c from by omega] at st
      simp only [runF, hc, if_false]
      by_cases hn : stepN l x c < 0
      · rw [runF_neg _ _ _ hn]; exact hn
      · exact ih _ (by omega) (by omega)

set_option maxRecDepth 100000 in
set_option maxHeartbeats 1000000 in
theorem law_paths (i s : Int) (A : Option Addr) (c : Nat) (l : List Nd) (X : Option Addr) (cx : Nat) (x : List Bool) (w : World) (hm : l.length ≤ 140737488355328) (hr : RN w A l) (hmx : x.length ≤ 140737488355328) (hX : Rd w X (bools x)) :
    Calls Try.prog 6 #[.agg #[.int .i64 i, .int .i64 s, .slice A l.length c], .slice X x.length cx] w fun e w' => e = .returned (.bool true) ∧ Kept w w' := by
  have o0 := Own.new w 24 [.int .i64 i, .int .i64 s, .slice A l.length c]
  have q0 := o0.cell (j := 0) rfl; have q1 := o0.cell (j := 1) rfl; have q2 := o0.cell (j := 2) rfl
  have K0 : Kept w (w.alloc (.cells #[.int .i64 i, .int .i64 s, .slice A l.length c] 24)) := kept_alloc (kept_refl w) _
  have R0 : ∀ (w' : World) (k : Kept w w'), Calls Try.prog 26 #[.agg #[.int .i64 i, .int .i64 s, .slice A l.length c], .slice X x.length cx] w' (RunPost i s x.length l x w') := fun w' k => Run_any i s A c l X x.length cx x w' hm (hr.kept k) (hX.kept k) rfl hmx
  have C17 := Lib.hid fun (w' : World) (k : Kept w w') => length_any i s A c l w' hm (hr.kept k)
  have hf := fun (w' : World) => few_any i s A c l 300 w' hm
  by_cases hn : (l.length : Int) ≤ 300
  · rw [decide_eq_true hn] at hf
    have F := Lib.hid hf; clear hf hn
    by_cases hx : 100 < x.length
    · clear hr hX
      go_enter Try.func6, Try.ntmps6
      go_wp2_with fail
      refine (F.out _).mono ?_
      rintro e w1 ⟨rfl, k⟩
      replace K0 := kept_trans K0 k; replace o0 := o0.kept k; have q0 := o0.cell (j := 0) rfl; have q1 := o0.cell (j := 1) rfl; have q2 := o0.cell (j := 2) rfl
      clear k
      go_wp2_with fail
      refine (alive_any _).mono ?_
      rintro e w2 ⟨rfl, k⟩
      replace K0 := kept_trans K0 k; replace o0 := o0.kept k; have q0 := o0.cell (j := 0) rfl; have q1 := o0.cell (j := 1) rfl; have q2 := o0.cell (j := 2) rfl
      clear k
      go_wp2_with fail
      go_ret
      exact ⟨ret_bool (by simp), K0⟩
    · by_cases hvn : validB i s l = true ∧ (x.length : Int) = i
      · obtain ⟨hv, hi⟩ := hvn
        have R : ∀ (w' : World) (k : Kept w w'), Calls Try.prog 26 #[.agg #[.int .i64 i, .int .i64 s, .slice A l.length c], .slice X x.length cx] w' (RunIs (runB s l (xs x)) (wayB s l (xs x)) 0 w') := fun w' k => (R0 w' k).mono (by
          rintro e w1 ⟨v, p, he, hrow, hp, k1⟩
          rw [hv] at he hp
          simp only [hi, decide_true, Bool.true_and, if_true, and_self] at he hp
          subst hp
          obtain ⟨A1, c1, rfl, hrow⟩ := row_form hrow
          exact ⟨A1, c1, he, k1, row_rd hrow⟩)
        have C26 := Lib.hid R; clear R R0
        have hrt := run_trail l (xs x) l.length s
        have htr := Lib.hid hrt.1
        have hend := hrt.2
        change _ = trail l (xs x) s (wayB s l (xs x)).length at hend
        clear hrt
        have hneg : trail l (xs x) s (wayB s l (xs x)).length < 0 := by
          rw [← hend]
          have hs := valid_start hv
          by_cases h0 : s < 0
          · rw [runF_neg _ _ _ h0]; exact h0
          · exact run_end hv (xs x) l.length s (by omega) hs.2.2.2
        have hval : runB s l (xs x) = (trail l (xs x) s (wayB s l (xs x)).length == -2) := by rw [← hend]; rfl
        have hlen := way_len hv (xs x)
        rw [hv] at C17
        have hwl : (wayB s l (xs x)).length ≤ l.length := runF_len l (xs x) l.length s
        have hs := valid_start hv
        obtain ⟨hs0, hs1, hs2, hs3⟩ := hs
        change Hid (∀ k, k < (wayB s l (xs x)).length → ia (wayB s l (xs x)) k = trail l (xs x) s k ∧ 0 ≤ trail l (xs x) s k) at htr
        obtain ⟨p, hp⟩ : ∃ p, p = wayB s l (xs x) := ⟨_, rfl⟩
        obtain ⟨rb, hrb⟩ : ∃ b, b = runB s l (xs x) := ⟨_, rfl⟩
        rw [← hp] at htr hneg hlen C26 hwl hval
        rw [← hrb] at C26 hval
        obtain ⟨lb, hlb⟩ : ∃ b, b = lenB s l := ⟨_, rfl⟩
        rw [← hlb] at hlen C17
        clear hend hp hrb hlb
        have HV := Lib.hid hval; clear hval
        have HI := Lib.hid hi; clear hi
        go_enter Try.func6, Try.ntmps6
        go_wp2_with fail
        refine (F.out _).mono ?_
        rintro e w3 ⟨rfl, k⟩
        replace K0 := kept_trans K0 k; replace o0 := o0.kept k; have q0 := o0.cell (j := 0) rfl; have q1 := o0.cell (j := 1) rfl; have q2 := o0.cell (j := 2) rfl
        clear k
        go_wp2_with fail
        refine (C26.out _ K0).mono ?_
        rintro e w4 ⟨A1, c1, rfl, k, hA1⟩
        replace K0 := kept_trans K0 k; replace o0 := o0.kept k; have q0 := o0.cell (j := 0) rfl; have q1 := o0.cell (j := 1) rfl; have q2 := o0.cell (j := 2) rfl
        clear k
        go_wp2_with fail
        have K1 := kept_refl w4
        obtain ⟨wp, hwp⟩ : ∃ x, x = w4 := ⟨_, rfl⟩
        rw [← hwp] at hA1 K0 o0 q0 q1 q2 K1 ⊢
        clear hwp
        go_loopw [8, 9] (fun a iv wr => ∃ k : Nat, k ≤ p.length ∧ iv = .int .i64 k ∧ a = .int .i64 (trail l (xs x) s k) ∧ Kept wp wr ∧ Kept w wr ∧ Own wr w.heap.size 24 [.int .i64 i, .int .i64 s, .slice A l.length c]) (fun _ iv _ => p.length - (intOf iv).toNat)
        case atStart => exact ⟨0, by omega, rfl, rfl, K1, K0, o0⟩
        case round =>
          clear K0 K1 q0 q1 q2 o0
          obtain ⟨k, hk, rfl, rfl, K1, K0, o0⟩ := hrel
          have q0 := o0.cell (j := 0) rfl
          have q1 := o0.cell (j := 1) rfl
          have q2 := o0.cell (j := 2) rfl
          by_cases hlt : k < p.length
          · obtain ⟨t1, t2⟩ := htr.out k hlt
            obtain ⟨bp, offp, rfl, hps⟩ := hA1.int hlt
            have c1 := kept_cell K1 (hps k hlt)
            rw [t1] at c1
            have t3 := (trail_in hv (xs x) k).1
            obtain ⟨bn, offn, rfl, hcs⟩ := hr.at_ (k := (trail l (xs x) s k).toNat) (by omega)
            obtain ⟨d0, d1, d2⟩ := hcs (trail l (xs x) s k).toNat (by omega)
            have d0 := kept_cell K0 d0
            have d1 := kept_cell K0 d1
            have d2 := kept_cell K0 d2
            have ok := valid_node hv (k := (trail l (xs x) s k).toNat) (by omega)
            obtain ⟨bx, offx, rfl, hxs⟩ := hX.bool (k := 0) (by have := HI.out; omega)
            have hxn : nv l (trail l (xs x) s k).toNat < x.length := by have := HI.out; omega
            have x0 := kept_cell K0 (hxs (nv l (trail l (xs x) s k).toNat).toNat (by omega))
            have e1 : trail l (xs x) s (k + 1) = stepN l (xs x) (trail l (xs x) s k) := by simp only [trail]; rw [if_neg (by omega)]
            have E1 := Lib.hid e1; clear e1
            have b1 : decide (trail l (xs x) s k < 0) = false := decide_eq_false (by omega)
            have b2 : decide ((l.length : Int) ≤ trail l (xs x) s k) = false := decide_eq_false (by omega)
            have g0 : (0 : Int) ≤ (k : Int) := by omega
            have g1 : (k : Int) < (p.length : Int) := by omega
            have z1 : 0 ≤ nv l (trail l (xs x) s k).toNat := ok.1
            by_cases hk0 : k = 0
            case' pos =>
              have b3 : decide ((0 : Int) < (k : Int)) = false := decide_eq_false (by omega)
              have b4 : decide (0 < k) = false := decide_eq_false (by omega)
            case' neg =>
              have b3 : decide ((0 : Int) < (k : Int)) = true := decide_eq_true (by omega)
              have b4 : decide (0 < k) = true := decide_eq_true (by omega)
              obtain ⟨t4, t5⟩ := htr.out (k - 1) (by omega)
              have c2 := kept_cell K1 (hps (k - 1) (by omega))
              rw [t4] at c2
              have t6 := (trail_in hv (xs x) (k - 1)).2.2 (by rw [show k - 1 + 1 = k from by omega]; omega)
              rw [show k - 1 + 1 = k from by omega] at t6
              have b5 : decide (trail l (xs x) s k ≤ trail l (xs x) s (k - 1)) = false := decide_eq_false (by omega)
              have m1 : ((k : Int) - 1).toNat = k - 1 := by omega
              have m2 : (0 : Int) ≤ (k : Int) - 1 := by omega
              have m3 : IntKind.i64.wrap ((k : Int) - 1) = (k : Int) - 1 := IntWalk.i64_in _ (by omega)
            all_goals
              clear hps hcs hxs t1 ok
              clear hk0
              generalize hcu : trail l (xs x) s k = cu at *
              clear hcu
              go_wp2_with fail
              go_quiet (fail)
              obtain ⟨w9, hw9⟩ : ∃ x, x = wr.drewN nq := ⟨_, rfl⟩
              have K9 : Kept wr w9 := by rw [hw9]; exact below_drewN (kept_refl _) nq
              rw [← hw9]
              replace d0 := kept_cell K9 d0; replace d1 := kept_cell K9 d1; replace d2 := kept_cell K9 d2; replace x0 := kept_cell K9 x0
              replace K1 := kept_trans K1 K9; replace K0 := kept_trans K0 K9; replace o0 := o0.kept K9
              clear q0 q1 q2 hw9 K9 b1 b2 b3 b4
              have q0 := o0.cell (j := 0) rfl
              have q1 := o0.cell (j := 1) rfl
              have q2 := o0.cell (j := 2) rfl
              have K1' := kept_alloc K1 (.cells #[.int .i64 (nv l cu.toNat), .int .i64 (nz l cu.toNat), .int .i64 (no l cu.toNat)] 48)
              have K0' := kept_alloc K0 (.cells #[.int .i64 (nv l cu.toNat), .int .i64 (nz l cu.toNat), .int .i64 (no l cu.toNat)] 48)
              have o0' := o0.alloc (.cells #[.int .i64 (nv l cu.toNat), .int .i64 (nz l cu.toNat), .int .i64 (no l cu.toNat)] 48)
              have zx : bx < w9.heap.size := kept_lt x0
              cases hb : ba x (nv l cu.toNat).toNat
              all_goals
                rw [hb] at x0
                have HB := Lib.hid hb; clear hb
                go_wp2_with fail
                go_roundw
                case rel => exact ⟨k + 1, by omega, by go_num, congrArg (Value.int .i64) (by rw [E1.out]; unfold stepN pk xs; rw [HB.out]; rfl), K1', K0', o0'⟩
                case measure => simp [intOf]; omega
          · have : k = p.length := by omega
            subst this
            have d1 : decide (trail l (xs x) s p.length < 0) = true := decide_eq_true hneg
            have d2 : decide ((p.length : Int) ≤ lb) = true := decide_eq_true hlen
            have d3 : rb = (trail l (xs x) s p.length == -2) := HV.out
            generalize trail l (xs x) s p.length = cu at *
            subst d3
            clear HV htr
            go_wp2_with fail
            refine (C17.out _ K0).mono ?_
            rintro e w30 ⟨rfl, k⟩
            rw [if_pos trivial]
            replace K0 := kept_trans K0 k
            clear k q0 q1 q2
            go_wp2_with fail
            refine (alive_any _).mono ?_
            rintro e w31 ⟨rfl, k⟩
            replace K0 := kept_trans K0 k
            clear k
            go_wp2_with fail
            go_ret
            exact ⟨ret_bool (by simp), K0⟩
      · have R : ∀ (w' : World) (k : Kept w w'), Calls Try.prog 26 #[.agg #[.int .i64 i, .int .i64 s, .slice A l.length c], .slice X x.length cx] w' (RunBad w') := fun w' k => (R0 w' k).mono (by
          rintro e w1 ⟨v, p, he, hrow, hp, k1⟩
          rw [if_neg hvn] at hp
          subst hp
          obtain ⟨A1, c1, rfl, hrow⟩ := row_form hrow
          refine ⟨_, _, _, _, he, ?_, k1⟩
          cases hv : validB i s l
          · simp
          · simp [hv] at hvn; simp [hvn])
        have C26 := Lib.hid R; clear R R0 hr hX hvn
        go_enter Try.func6, Try.ntmps6
        go_wp2_with fail
        refine (F.out _).mono ?_
        rintro e w5 ⟨rfl, k⟩
        replace K0 := kept_trans K0 k; replace o0 := o0.kept k; have q0 := o0.cell (j := 0) rfl; have q1 := o0.cell (j := 1) rfl; have q2 := o0.cell (j := 2) rfl
        clear k
        go_wp2_with fail
        refine (C26.out _ K0).mono ?_
        rintro e w6 ⟨b1, A1, c1, g1, rfl, hg, k⟩
        replace K0 := kept_trans K0 k; replace o0 := o0.kept k; have q0 := o0.cell (j := 0) rfl; have q1 := o0.cell (j := 1) rfl; have q2 := o0.cell (j := 2) rfl
        clear k
        go_wp2_with fail
        refine (alive_any _).mono ?_
        rintro e w7 ⟨rfl, k⟩
        replace K0 := kept_trans K0 k; replace o0 := o0.kept k; have q0 := o0.cell (j := 0) rfl; have q1 := o0.cell (j := 1) rfl; have q2 := o0.cell (j := 2) rfl
        clear k
        go_wp2_with fail
        go_ret
        exact ⟨ret_bool (by simp), K0⟩
  · rw [decide_eq_false hn] at hf
    have F := Lib.hid hf; clear hf hn R0 hr hX
    go_enter Try.func6, Try.ntmps6
    go_wp2_with fail
    refine (F.out _).mono ?_
    rintro e w8 ⟨rfl, k⟩
    replace K0 := kept_trans K0 k; replace o0 := o0.kept k; have q0 := o0.cell (j := 0) rfl; have q1 := o0.cell (j := 1) rfl; have q2 := o0.cell (j := 2) rfl
    clear k
    go_wp2_with fail
    refine (alive_any _).mono ?_
    rintro e w9 ⟨rfl, k⟩
    replace K0 := kept_trans K0 k; replace o0 := o0.kept k; have q0 := o0.cell (j := 0) rfl; have q1 := o0.cell (j := 1) rfl; have q2 := o0.cell (j := 2) rfl
    clear k
    go_wp2_with fail
    go_ret
    exact ⟨ret_bool (by simp), K0⟩
end Go.Proofs.Ytinpmdekdfgiiaa
