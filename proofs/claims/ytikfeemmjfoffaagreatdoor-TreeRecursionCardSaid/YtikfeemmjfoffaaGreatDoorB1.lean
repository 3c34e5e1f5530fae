/- Fields: the program's functions, first part. -/
import Derived.Test.YtikfeemmjfoffaaGreatDoorG0
import Derived.Test.YtikfeemmjfoffaaGreatDoorF2
import Derived.Test.YtikfeemmjfoffaaGreatDoorProg
import Derived.IntWalk
set_option linter.unusedVariables false
set_option linter.unusedSimpArgs false
namespace Go.Proofs.YtikfeemmjfoffaaGreatDoor
open Go.RowKit

def fV (P M : Int) : Value := .agg #[.int .i64 P, .int .i64 M]
/-- No number below d divides n. -/
def NoDiv (n d : Nat) : Prop := ∀ e, 2 ≤ e → e < d → n % e ≠ 0
set_option maxRecDepth 100000 in
set_option maxHeartbeats 1000000 in
theorem prime84_any (n : Nat) (w : World) (h2 : 2 ≤ n) (hn : n ≤ 65536) :
    Calls Tryz.prog 64 #[.int .i64 n] w fun e w' => e = .returned (.bool (prmB n)) ∧ w = w' := by
  go_enter Tryz.func64, Tryz.ntmps64
  go_wp2_with fail
  go_loop [3] (fun i => ∃ d : Nat, 2 ≤ d ∧ d ≤ 257 ∧ i = .int .i64 d ∧ NoDiv n d) (fun i => 300 - (intOf i).toNat)
  case atStart => exact ⟨2, by omega, by omega, rfl, fun e h1 h2 => by omega⟩
  case round =>
    obtain ⟨d, d2, dm, rfl, hnd⟩ := hrel
    have HN := Lib.hid hnd
    clear hnd
    obtain ⟨s, hs⟩ : ∃ s : Nat, s = d * d := ⟨_, rfl⟩
    have hs2 : s ≤ 66049 := by rw [hs]; exact Nat.le_trans (Nat.mul_le_mul dm dm) (by omega)
    have hsi : (d : Int) * d = s := by rw [hs, Int.natCast_mul]
    have HS := Lib.hid hs
    clear hs
    have hw : wrap64 ((d : Int) * d) = s := by rw [hsi]; unfold wrap64; omega
    by_cases hlt : s ≤ n
    · have hd : d ≤ 256 := by
        rcases Nat.lt_or_ge 256 d with h | h
        · have := Nat.mul_le_mul h h; have := HS.out; omega
        · exact h
      cases hq : n % d == 0
      · have HQ := Lib.hid (show n % d ≠ 0 by simpa using hq)
        have hq' : (((n : Int) % (d : Int)) == 0) = false := by simp only [beq_eq_false_iff_ne, ne_eq]; have := HQ.out; omega
        clear hq
        go_wp2_with fail
        go_round
        case rel => exact ⟨d + 1, by omega, by omega, by go_num, fun e h1 h2 => by
          rcases Nat.eq_or_lt_of_le (Nat.le_of_lt_succ h2) with rfl | h3
          · exact HQ.out
          · exact HN.out e h1 h3⟩
        case measure => simp [intOf]; omega
      · have HQ := Lib.hid (show n % d = 0 by simpa using hq)
        have hq' : (((n : Int) % (d : Int)) == 0) = true := by simp only [beq_iff_eq]; have := HQ.out; omega
        clear hq
        go_wp2_with fail
        go_ret
        exact ⟨ret_bool (prm_not d2 (sq_lt d2 (by rw [← HS.out]; exact hlt)) HQ.out).symm, rfl⟩
    · have hgt : n < s := by omega
      go_wp2_with fail
      go_ret
      exact ⟨ret_bool (by rw [prm_sqrt h2 (by rw [← HS.out]; exact hgt) HN.out]; simp; omega), rfl⟩

set_option maxRecDepth 100000 in
set_option maxHeartbeats 1000000 in
theorem valid51_any (P M : Int) (w : World) : Calls Tryz.prog 35 #[fV P M] w fun e w' => e = .returned (.bool (okF P M)) ∧ Kept w w' := by
  unfold fV
  by_cases h : (2 ≤ P ∧ P ≤ 65536) ∧ (1 ≤ M ∧ M ≤ 16) ∧ (M = 1 ∨ 1 < M ∧ P = 2)
  · obtain ⟨⟨p2, pm⟩, ⟨m1, mm⟩, hm⟩ := h
    obtain ⟨n, rfl⟩ : ∃ n : Nat, P = n := ⟨P.toNat, by omega⟩
    have C := Lib.hid (fun w' => prime84_any n w' (by omega) (by omega))
    have t1 : decide ((n : Int) < 2) = false := decide_eq_false (by omega)
    have t2 : decide (65536 < (n : Int)) = false := decide_eq_false (by omega)
    have t3 : decide (n < 2) = false := decide_eq_false (by omega)
    have t4 : decide (65536 < n) = false := decide_eq_false (by omega)
    have HE := Lib.hid (show prmB n = okF n M by
      cases hp : prmB n with
      | true => exact (okF_iff.2 ⟨⟨p2, pm⟩, ⟨m1, mm⟩, hm, hp⟩).symm
      | false => 
        cases h : okF n M with
        | false => rfl
        | true => rw [(okF_iff.1 h).2.2.2.symm.trans hp |>.symm] )
    rcases hm with rfl | ⟨hm, hp⟩
    · clear m1 mm
      go_enter Tryz.func35, Tryz.ntmps35
      go_wp2_with (go_at_call 64; ((with_reducible refine (C.out _).mono ?_); rintro e w1 ⟨rfl, rfl⟩))
      go_ret
      exact ⟨ret_bool HE.out, kept_alloc (kept_refl w) _⟩
    · obtain rfl : n = 2 := by omega
      clear hp C
      have C := Lib.hid (fun w' => show Calls Tryz.prog 64 #[.int .i64 2] w' _ from prime84_any 2 w' (by omega) (by omega))
      go_enter Tryz.func35, Tryz.ntmps35
      go_wp2_with (go_at_call 64; ((with_reducible refine (C.out _).mono ?_); rintro e w1 ⟨rfl, rfl⟩))
      go_ret
      exact ⟨ret_bool HE.out, kept_alloc (kept_refl w) _⟩
  · have HF := Lib.hid (show okF P M = false by
      cases h1 : okF P M with
      | false => rfl
      | true => obtain ⟨a, b, c, _⟩ := okF_iff.1 h1; exact absurd ⟨a, b, c⟩ h)
    rw [HF.out]
    by_cases a1 : P < 2
    · go_enter Tryz.func35, Tryz.ntmps35
      go_wp2_with fail
      go_ret
      exact ⟨rfl, kept_alloc (kept_refl w) _⟩
    · by_cases a2 : 65536 < P
      · go_enter Tryz.func35, Tryz.ntmps35
        go_wp2_with fail
        go_ret
        exact ⟨rfl, kept_alloc (kept_refl w) _⟩
      · by_cases a3 : M < 1
        · go_enter Tryz.func35, Tryz.ntmps35
          go_wp2_with fail
          go_ret
          exact ⟨rfl, kept_alloc (kept_refl w) _⟩
        · by_cases a4 : 16 < M
          · go_enter Tryz.func35, Tryz.ntmps35
            go_wp2_with fail
            go_ret
            exact ⟨rfl, kept_alloc (kept_refl w) _⟩
          · have a5 : 1 < M := by omega
            have a6 : P ≠ 2 := by omega
            have a7 : (P == 2) = false := beq_eq_false_iff_ne.2 a6
            have a8 : (P != 2) = true := by simpa using a6
            clear h
            go_enter Tryz.func35, Tryz.ntmps35
            go_wp2_with fail
            go_ret
            exact ⟨rfl, kept_alloc (kept_refl w) _⟩

set_option maxRecDepth 100000 in
set_option maxHeartbeats 1000000 in
theorem order43_any (P M : Int) (w : World) : Calls Tryz.prog 47 #[fV P M] w fun e w' => e = .returned (.int .i64 (ordF P M)) ∧ Kept w w' := by
  have C := fun w' => valid51_any P M w'
  unfold fV at *
  have K0 := kept_alloc (kept_refl w) (.cells #[.int .i64 P, .int .i64 M] 23)
  have o0 := Own.new w 23 [.int .i64 P, .int .i64 M]
  cases h : okF P M with
  | false =>
    rw [h] at C
    have HC := Lib.hid C
    have HE := Lib.hid (ord_bad h)
    clear C h
    go_enter Tryz.func47, Tryz.ntmps47
    go_wp2_with (go_at_call 35; ((with_reducible refine (HC.out _).mono ?_); rintro e w1 ⟨rfl, k1⟩; replace K0 := kept_trans K0 k1))
    go_ret
    exact ⟨ret_int HE.out.symm, K0⟩
  | true =>
    obtain ⟨⟨p2, pm⟩, ⟨m1, mm⟩, hm, -⟩ := okF_iff.1 h
    rw [h] at C
    have HC := Lib.hid C
    have H := Lib.hid h
    clear C h
    rcases hm with rfl | ⟨hm, rfl⟩
    · go_enter Tryz.func47, Tryz.ntmps47
      go_wp2_with (go_at_call 35; ((with_reducible refine (HC.out _).mono ?_); rintro e w1 ⟨rfl, k1⟩; replace K0 := kept_trans K0 k1; have q0 := (o0.kept k1).cell (j := 0) rfl; have q1 := (o0.kept k1).cell (j := 1) rfl))
      go_ret
      exact ⟨ret_int (ord_one H.out).symm, K0⟩
    · obtain ⟨m, rfl⟩ : ∃ m : Nat, M = m := ⟨M.toNat, by omega⟩
      obtain ⟨p, hp⟩ : ∃ p : Nat, p = 2 ^ m := ⟨_, rfl⟩
      have h16 := pow16 (m := m) (by omega)
      rw [← hp] at h16
      have e1 : min m 64 = m := by omega
      have HE := Lib.hid (show ordF 2 m = p by rw [ord_two H.out hm, hp]; rfl)
      have e2 : (2 : Int) ^ m = p := by rw [hp, Int.natCast_pow]; rfl
      have e3 : IntKind.i64.wrap (p : Int) = p := IntWalk.i64_in _ (by omega)
      have E1 := Lib.hid e1; have E2 := Lib.hid e2; have E3 := Lib.hid e3
      clear hp e1 e2 e3
      go_enter Tryz.func47, Tryz.ntmps47
      go_wp2_with (go_at_call 35; ((with_reducible refine (HC.out _).mono ?_); rintro e w1 ⟨rfl, k1⟩; replace K0 := kept_trans K0 k1; have q0 := (o0.kept k1).cell (j := 0) rfl; have q1 := (o0.kept k1).cell (j := 1) rfl))
      go_ret
      exact ⟨ret_int (by rw [E2.out, HE.out]; unfold wrap64; omega), K0⟩
end Go.Proofs.YtikfeemmjfoffaaGreatDoor
