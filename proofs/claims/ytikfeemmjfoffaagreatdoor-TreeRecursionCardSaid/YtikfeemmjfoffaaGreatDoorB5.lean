/- Fields: the reference's order, degrees and remainders. -/
import Derived.Test.YtikfeemmjfoffaaGreatDoorB4
set_option linter.unusedVariables false
set_option linter.unusedSimpArgs false
namespace Go.Proofs.YtikfeemmjfoffaaGreatDoor
open Go.RowKit

theorem noDiv_all {n : Nat} (h2 : 2 ≤ n) (h : NoDiv n n) : prmB n = true := prmB_iff.2 ⟨h2, h⟩
theorem noDiv_step {n d : Nat} (h : NoDiv n d) (hd : n % d ≠ 0) : NoDiv n (d + 1) := fun e h1 h2 => by
  rcases Nat.eq_or_lt_of_le (Nat.le_of_lt_succ h2) with rfl | h3
  · exact hd
  · exact h e h1 h3
set_option maxRecDepth 100000 in
set_option maxHeartbeats 1000000 in
theorem rorder_bad (P M : Int) (w : World) (h : ¬ ((2 ≤ P ∧ P ≤ 65536) ∧ (1 ≤ M ∧ M ≤ 16) ∧ (M = 1 ∨ 1 < M ∧ P = 2))) : Calls Tryz.prog 38 #[fV P M] w fun e w' => e = .returned (.int .i64 (ordF P M)) ∧ Kept w w' := by
  unfold fV
  have HF := Lib.hid (show okF P M = false by
    cases h1 : okF P M with
    | false => rfl
    | true => obtain ⟨a, b, c, _⟩ := okF_iff.1 h1; exact absurd ⟨a, b, c⟩ h)
  rw [ord_bad HF.out]
  by_cases a1 : P < 2
  · go_enter Tryz.func38, Tryz.ntmps38
    go_wp2_with fail
    go_ret
    exact ⟨rfl, kept_alloc (kept_refl w) _⟩
  · by_cases a2 : 65536 < P
    · go_enter Tryz.func38, Tryz.ntmps38
      go_wp2_with fail
      go_ret
      exact ⟨rfl, kept_alloc (kept_refl w) _⟩
    · by_cases a3 : M < 1
      · go_enter Tryz.func38, Tryz.ntmps38
        go_wp2_with fail
        go_ret
        exact ⟨rfl, kept_alloc (kept_refl w) _⟩
      · by_cases a4 : 16 < M
        · go_enter Tryz.func38, Tryz.ntmps38
          go_wp2_with fail
          go_ret
          exact ⟨rfl, kept_alloc (kept_refl w) _⟩
        · have a5 : 1 < M := by omega
          have a6 : P ≠ 2 := by omega
          have a7 : (P == 2) = false := beq_eq_false_iff_ne.2 a6
          have a8 : (P != 2) = true := by simpa using a6
          clear h
          go_enter Tryz.func38, Tryz.ntmps38
          go_wp2_with fail
          go_ret
          exact ⟨rfl, kept_alloc (kept_refl w) _⟩
set_option maxRecDepth 100000 in
set_option maxHeartbeats 1000000 in
theorem rorder_one (n : Nat) (w : World) (p2 : 2 ≤ n) (pm : n ≤ 65536) : Calls Tryz.prog 38 #[fV n 1] w fun e w' => e = .returned (.int .i64 (ordF n 1)) ∧ Kept w w' := by
  unfold fV
  have t1 : decide ((n : Int) < 2) = false := decide_eq_false (by omega)
  have t2 : decide (65536 < (n : Int)) = false := decide_eq_false (by omega)
  have t3 : decide (n < 2) = false := decide_eq_false (by omega)
  have t4 : decide (65536 < n) = false := decide_eq_false (by omega)
  go_enter Tryz.func38, Tryz.ntmps38
  go_wp2_with fail
  go_loop [3] (fun i => ∃ d : Nat, 2 ≤ d ∧ d ≤ n ∧ i = .int .i64 d ∧ NoDiv n d) (fun i => 70000 - (intOf i).toNat)
  case atStart => exact ⟨2, by omega, by omega, rfl, fun e h1 h2 => by omega⟩
  case round =>
    obtain ⟨d, d2, dm, rfl, hnd⟩ := hrel
    have HN := Lib.hid hnd
    clear hnd
    by_cases hlt : d < n
    · cases hq : n % d == 0
      · have HQ := Lib.hid (show n % d ≠ 0 by simpa using hq)
        have hq' : (((n : Int) % (d : Int)) == 0) = false := by simp only [beq_eq_false_iff_ne, ne_eq]; have := HQ.out; omega
        clear hq
        go_wp2_with fail
        go_round
        case rel => exact ⟨d + 1, by omega, by omega, by go_num, noDiv_step HN.out HQ.out⟩
        case measure => simp [intOf]; omega
      · have HQ := Lib.hid (show n % d = 0 by simpa using hq)
        have hq' : (((n : Int) % (d : Int)) == 0) = true := by simp only [beq_iff_eq]; have := HQ.out; omega
        have HB := Lib.hid (show ordF n 1 = 0 from ord_bad (by
          cases h : okF n 1 with
          | false => rfl
          | true => 
            have h1 := (okF_iff.1 h).2.2.2
            rw [Int.toNat_natCast, prm_not d2 hlt HQ.out] at h1
            cases h1))
        clear hq
        go_wp2_with fail
        go_ret
        exact ⟨ret_int HB.out.symm, kept_alloc (kept_refl w) _⟩
    · obtain rfl : d = n := by omega
      have HB := Lib.hid (show ordF d 1 = d from ord_one (okF_iff.2 ⟨⟨by omega, by omega⟩, ⟨by omega, by omega⟩, .inl rfl, by rw [Int.toNat_natCast]; exact noDiv_all p2 HN.out⟩))
      clear hlt
      go_wp2_with fail
      go_loop [4, 5] (fun q i => (q = .int .i64 1 ∧ i = .int .i64 0) ∨ (q = .int .i64 d ∧ i = .int .i64 1)) (fun _ i => 1 - (intOf i).toNat)
      case atStart => exact .inl ⟨rfl, rfl⟩
      case round =>
        rcases hrel with ⟨rfl, rfl⟩ | ⟨rfl, rfl⟩
        · go_wp2_with fail
          go_round
          case rel => exact .inr ⟨by go_num, rfl⟩
          case measure => simp [intOf]
        · go_wp2_with fail
          go_ret
          exact ⟨ret_int HB.out.symm, kept_alloc (kept_refl w) _⟩
set_option maxRecDepth 100000 in
set_option maxHeartbeats 1000000 in
theorem rorder_two (m : Nat) (w : World) (m1 : 2 ≤ m) (m2 : m ≤ 16) : Calls Tryz.prog 38 #[fV 2 m] w fun e w' => e = .returned (.int .i64 (ordF 2 m)) ∧ Kept w w' := by
  unfold fV
  have HB := Lib.hid (show ordF 2 m = ((2 ^ m : Nat) : Int) from ord_two (okF_iff.2 ⟨⟨by omega, by omega⟩, ⟨by omega, by omega⟩, .inr ⟨by omega, rfl⟩, by decide⟩) (by omega))
  go_enter Tryz.func38, Tryz.ntmps38
  go_wp2_with fail
  go_loop [3] (fun i => i = .int .i64 2) (fun i => 0)
  case atStart => rfl
  case round =>
    obtain rfl := hrel
    go_wp2_with fail
    go_loop [4, 5] (fun q i => ∃ k p : Nat, k ≤ m ∧ q = .int .i64 p ∧ i = .int .i64 k ∧ p ≤ 65536 ∧ p = 2 ^ k) (fun _ i => m - (intOf i).toNat)
    case atStart => exact ⟨0, 1, by omega, rfl, rfl, by omega, rfl⟩
    case round =>
      obtain ⟨k, p, hk, rfl, rfl, hp, hpd⟩ := hrel
      have HP := Lib.hid hpd
      clear hpd
      by_cases hlt : k < m
      · have hp2 : p * 2 ≤ 65536 := by have e : 2 ^ (k + 1) = 2 ^ k * 2 := Nat.pow_succ _ _; rw [HP.out, ← e]; exact pow16 (by omega)
        go_wp2_with fail
        go_round
        case rel => exact ⟨k + 1, p * 2, by omega, by go_num, by go_num, hp2, by rw [HP.out, Nat.pow_succ]⟩
        case measure => simp [intOf]; omega
      · obtain rfl : k = m := by omega
        go_wp2_with fail
        go_ret
        exact ⟨ret_int (by rw [HB.out, HP.out]), kept_alloc (kept_refl w) _⟩
theorem rorder36_any (P M : Int) (w : World) : Calls Tryz.prog 38 #[fV P M] w fun e w' => e = .returned (.int .i64 (ordF P M)) ∧ Kept w w' := by
  by_cases h : (2 ≤ P ∧ P ≤ 65536) ∧ (1 ≤ M ∧ M ≤ 16) ∧ (M = 1 ∨ 1 < M ∧ P = 2)
  · obtain ⟨⟨p2, pm⟩, ⟨m1, mm⟩, rfl | ⟨hm, rfl⟩⟩ := h
    · obtain ⟨n, rfl⟩ : ∃ n : Nat, P = n := ⟨P.toNat, by omega⟩
      exact rorder_one n w (by omega) (by omega)
    · obtain ⟨m, rfl⟩ : ∃ m : Nat, M = m := ⟨M.toNat, by omega⟩
      exact rorder_two m w (by omega) (by omega)
  · exact rorder_bad P M w h
theorem ord_pos {P M : Int} : decide (0 < ordF P M) = okF P M := by
  cases h : okF P M with
  | false => rw [ord_bad h]; rfl
  | true => have := ord_ok h; exact decide_eq_true (by omega)
set_option maxRecDepth 100000 in
set_option maxHeartbeats 1000000 in
theorem rvalid21_any (P M : Int) (w : World) : Calls Tryz.prog 11 #[fV P M] w fun e w' => e = .returned (.bool (okF P M)) ∧ Kept w w' := by
  have C := Lib.hid fun w' => rorder36_any P M w'
  obtain ⟨q, hq⟩ : ∃ q, q = ordF P M := ⟨_, rfl⟩
  have HQ := Lib.hid (show okF P M = decide (0 < q) by rw [hq, ord_pos])
  rw [← hq] at C
  unfold fV at *
  have K0 := kept_alloc (kept_refl w) (.cells #[.int .i64 P, .int .i64 M] 23)
  clear hq
  go_enter Tryz.func11, Tryz.ntmps11
  go_wp2_with (go_at_call 38; ((with_reducible refine (C.out _).mono ?_); rintro e w1 ⟨rfl, k1⟩; replace K0 := kept_trans K0 k1))
  go_ret
  exact ⟨ret_bool HQ.out.symm, K0⟩

def degI (a : Nat) : Int := if a = 0 then -1 else (Nat.log2 a : Int)
theorem deg_half {a : Nat} (h : 0 < a) : degI a = degI (a / 2) + 1 := by
  unfold degI
  rw [if_neg (by omega)]
  by_cases h2 : a / 2 = 0
  · obtain rfl : a = 1 := by omega
    rfl
  · rw [if_neg h2]
    rw [Nat.log2_def]
    rw [if_pos (by omega)]
    omega
theorem deg_lt {a n : Nat} (h : a < 2 ^ n) : -1 ≤ degI a ∧ degI a < n := by
  unfold degI
  split
  · omega
  · rename_i h0
    have := (Nat.log2_lt h0).2 h
    omega
set_option maxRecDepth 100000 in
set_option maxHeartbeats 1000000 in
theorem degree82_any (a0 : Nat) (w : World) (ha : a0 < 1099511627776) : Calls Tryz.prog 70 #[.int .i64 a0] w fun e w' => e = .returned (.int .i64 (degI a0)) ∧ w = w' := by
  have h40 := deg_lt (a := a0) (n := 40) ha
  obtain ⟨R, hR⟩ : ∃ R, R = degI a0 := ⟨_, rfl⟩
  rw [← hR] at h40 ⊢
  have HR := Lib.hid hR
  clear hR
  go_enter Tryz.func70, Tryz.ntmps70
  go_wp2_with fail
  go_loop [0, 3] (fun x n => ∃ (a : Nat) (k : Int), a < 1099511627776 ∧ -1 ≤ k ∧ k ≤ R ∧ x = .int .i64 a ∧ n = .int .i64 k ∧ R = k + 1 + degI a) (fun x _ => (intOf x).toNat)
  case atStart => exact ⟨a0, -1, ha, by omega, by omega, rfl, rfl, by rw [HR.out]; omega⟩
  case round =>
    obtain ⟨a, k, h1, k0, k1, rfl, rfl, hk⟩ := hrel
    by_cases hz : 0 < a
    · have hh := deg_half hz
      have hl := deg_lt (a := a / 2) (n := 40) (by omega)
      have HK := Lib.hid (show R = k + 1 + 1 + degI (a / 2) by omega)
      have hk1 : k + 1 ≤ R := by omega
      clear hk hh hl
      go_wp2_with fail
      go_round
      case rel => exact ⟨a / 2, k + 1, by omega, by omega, hk1, by go_num, rfl, HK.out⟩
      case measure => simp [intOf]; omega
    · obtain rfl : a = 0 := by omega
      have HK := Lib.hid (show k = R by rw [hk]; simp [degI]; omega)
      clear hk
      go_wp2_with fail
      go_ret
      exact ⟨ret_int HK.out, rfl⟩
end Go.Proofs.YtikfeemmjfoffaaGreatDoor
