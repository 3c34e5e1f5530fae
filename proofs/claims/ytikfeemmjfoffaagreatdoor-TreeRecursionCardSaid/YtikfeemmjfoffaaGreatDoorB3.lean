/- Fields: the program's product over polynomials. -/
import Derived.Test.YtikfeemmjfoffaaGreatDoorB2
set_option linter.unusedVariables false
set_option linter.unusedSimpArgs false
namespace Go.Proofs.YtikfeemmjfoffaaGreatDoor
open Go.RowKit

theorem and_one {n : Nat} (h : n < 2 ^ 62) : bits .and .i64 (n : Int) 1 = ((n % 2 : Nat) : Int) := by
  have h1 := (bits_nat .i64 62 (by decide) (fun m h0 h1 => IntWalk.i64_in m (by omega)) n 1 h (by decide)).1
  rw [Nat.and_one_is_mod] at h1
  exact h1
theorem xt_hi {M m a : Nat} (h : a < 2 ^ m) (h2 : 2 ^ m ≤ a * 2) : xt M m a = a * 2 ^^^ M := by
  have e : a <<< 1 = a * 2 := Nat.shiftLeft_eq a 1
  have e2 : (a * 2) / 2 ^ m = 1 := by
    refine Nat.div_eq_of_lt_le (by omega) (by omega)
  unfold xt stp
  rw [e, Nat.sub_self, Nat.shiftLeft_zero, if_pos (by rw [Nat.testBit_eq_decide_div_mod_eq, e2]; rfl)]
theorem xt_lo {M m a : Nat} (h : a * 2 < 2 ^ m) : xt M m a = a * 2 := by
  have e : a <<< 1 = a * 2 := Nat.shiftLeft_eq a 1
  unfold xt
  rw [e, stp_none h]
set_option maxRecDepth 100000 in
set_option maxHeartbeats 1000000 in
theorem bit_mul152 (m a0 b0 : Nat) (w : World) (h1 : 2 ≤ m) (h2 : m ≤ 16) (ha : a0 < 2 ^ m) (hb : b0 < 2 ^ m) :
    Calls Tryz.prog 187 #[.agg #[.int .i64 m, .int .i64 (modT m)], .int .i64 a0, .int .i64 b0] w fun e w' => e = .returned (.int .i64 ((gp (modT m) m m a0 b0 : Nat) : Int)) ∧ Kept w w' := by
  obtain ⟨hbit, hM⟩ := mod_bit h1 h2
  obtain ⟨M, hMd⟩ : ∃ M, M = modT m := ⟨_, rfl⟩
  rw [← hMd] at hbit hM ⊢
  have hp := pow16 h2
  obtain ⟨R, hR⟩ : ∃ R, R = gp M m m a0 b0 := ⟨_, rfl⟩
  rw [← hR]
  have o0 := Own.new w 144 [.int .i64 m, .int .i64 M]
  have K0 := kept_alloc (kept_refl w) (.cells #[.int .i64 m, .int .i64 M] 144)
  have HB := Lib.hid (And.intro hbit hM)
  have hM2 : M < 131072 := by have : 2 ^ (m + 1) = 2 ^ m * 2 := Nat.pow_succ _ _; omega
  obtain ⟨p, hpd⟩ : ∃ p, p = 2 ^ m := ⟨_, rfl⟩
  rw [← hpd] at ha hb hp
  have HP := Lib.hid hpd
  have HR0 := Lib.hid hR
  clear hR hbit hM hMd hpd
  go_enter Tryz.func187, Tryz.ntmps187
  go_wp2_with fail
  go_loopg [1, 2, 7] (b0 + 1) (fun g s1 s2 s7 wr => ∃ (k a b out : Nat), g = b + 1 ∧ s1 = .int .i64 a ∧ s2 = .int .i64 b ∧ s7 = .int .i64 out ∧ a < p ∧ b < 2 ^ k ∧ k ≤ m ∧ out < p ∧ R = out ^^^ gp M m k a b ∧ Kept w wr ∧ Own wr w.heap.size 144 [.int .i64 m, .int .i64 M])
  case atStart => exact ⟨m, a0, b0, 0, rfl, rfl, rfl, rfl, ha, by rw [← HP.out]; exact hb, Nat.le_refl _, by omega, by rw [HR0.out, Nat.zero_xor], K0, o0⟩
  case round =>
    clear o0 K0 ha hb
    obtain ⟨k, a, b, out, rfl, rfl, rfl, rfl, ha, hbk, hk, ho, hR, K0, o0⟩ := hrel
    have HR := Lib.hid hR
    have HK := Lib.hid hbk
    have hb16 : b < 65536 := Nat.lt_of_lt_of_le hbk (Nat.le_trans (Nat.pow_le_pow_right (by omega) hk) (pow16 h2))
    clear hR hbk
    have q0 := o0.cell (j := 0) rfl; have q1 := o0.cell (j := 1) rfl
    by_cases hz : 0 < b
    · have xo := b_xor (a := out) (b := a) (by omega) (by omega)
      have ao := and_one (n := b) (by omega)
      have hpow := Nat.two_pow_pos m
      have hq0 : ∃ k', k = k' + 1 := by
        cases k with
        | zero => have h := HK.out; simp only [Nat.pow_zero] at h; omega
        | succ k => exact ⟨k, rfl⟩
      obtain ⟨k, rfl⟩ := hq0
      have hb2 : b / 2 < 2 ^ k := by have h := HK.out; have : 2 ^ (k + 1) = 2 ^ k * 2 := Nat.pow_succ _ _; omega
      have HB2 := Lib.hid hb2
      have e2m : ((2 : Int) ^ m) = (p : Int) := by rw [HP.out, Int.natCast_pow]; rfl
      have HS := Lib.hid (show R = (if b % 2 = 1 then out ^^^ a else out) ^^^ gp M m k (xt M m a) (b / 2) by
        rw [HR.out, gp]
        split
        · rw [Nat.xor_assoc]
        · rw [Nat.zero_xor])
      have XL := Lib.hid (xt_lt HB.out.1 HB.out.2 (show a < 2 ^ m by rw [← HP.out]; exact ha))
      have XO := Lib.hid (show out ^^^ a < 2 ^ m from Nat.xor_lt_two_pow (by rw [← HP.out]; exact ho) (by rw [← HP.out]; exact ha))
      clear hb2 hpow
      by_cases hhi : p ≤ a * 2
      · have t1 : (((a : Int) * 2 / 2 ^ m) == 1) = true := by
          rw [e2m]; simp only [beq_iff_eq]
          exact Int.le_antisymm (Int.le_of_lt_add_one ((Int.ediv_lt_iff_lt_mul (by omega)).2 (by omega))) ((Int.le_ediv_iff_mul_le (by omega)).2 (by omega))
        have xm : bits .xor .i64 ((a : Int) * 2) (M : Int) = ((a * 2 ^^^ M : Nat) : Int) := b_xor (a := a * 2) (b := M) (by omega) (by omega)
        have XE := Lib.hid (xt_hi (M := M) (m := m) (a := a) (by rw [← HP.out]; exact ha) (by rw [← HP.out]; exact hhi))
        have E2 := Lib.hid e2m
        clear e2m
        by_cases hodd : b % 2 = 1
        · have o1 : (((b : Int) % 2) == 1) = true := by simp only [beq_iff_eq]; omega
          have HO := Lib.hid hodd
          clear hodd
          go_wp2_with fail
          go_roundg (b / 2 + 1)
          case rel => exact ⟨k, a * 2 ^^^ M, b / 2, out ^^^ a, rfl, rfl, by go_num, rfl, by rw [HP.out, ← XE.out]; exact XL.out, HB2.out, by omega, by rw [HP.out]; exact XO.out, by rw [HS.out, if_pos HO.out, XE.out], K0, o0⟩
          case measure => omega
        · have o1 : (((b : Int) % 2) == 1) = false := by simp only [beq_eq_false_iff_ne, ne_eq]; omega
          have HO := Lib.hid hodd
          clear hodd
          go_wp2_with fail
          go_roundg (b / 2 + 1)
          case rel => exact ⟨k, a * 2 ^^^ M, b / 2, out, rfl, rfl, by go_num, rfl, by rw [HP.out, ← XE.out]; exact XL.out, HB2.out, by omega, ho, by rw [HS.out, if_neg HO.out, XE.out], K0, o0⟩
          case measure => omega
      · have t1 : (((a : Int) * 2 / 2 ^ m) == 1) = false := by
          rw [e2m]; simp only [beq_eq_false_iff_ne, ne_eq]
          have := (Int.ediv_lt_iff_lt_mul (a := (a : Int) * 2) (b := 1) (c := p) (by omega)).2 (by omega)
          omega
        have XE := Lib.hid (xt_lo (M := M) (m := m) (a := a) (by rw [← HP.out]; omega))
        have E2 := Lib.hid e2m
        clear e2m
        by_cases hodd : b % 2 = 1
        · have o1 : (((b : Int) % 2) == 1) = true := by simp only [beq_iff_eq]; omega
          have HO := Lib.hid hodd
          clear hodd
          go_wp2_with fail
          go_roundg (b / 2 + 1)
          case rel => exact ⟨k, a * 2, b / 2, out ^^^ a, rfl, by go_num, by go_num, rfl, by omega, HB2.out, by omega, by rw [HP.out]; exact XO.out, by rw [HS.out, if_pos HO.out, XE.out], K0, o0⟩
          case measure => omega
        · have o1 : (((b : Int) % 2) == 1) = false := by simp only [beq_eq_false_iff_ne, ne_eq]; omega
          have HO := Lib.hid hodd
          clear hodd
          go_wp2_with fail
          go_roundg (b / 2 + 1)
          case rel => exact ⟨k, a * 2, b / 2, out, rfl, by go_num, by go_num, rfl, by omega, HB2.out, by omega, ho, by rw [HS.out, if_neg HO.out, XE.out], K0, o0⟩
          case measure => omega
    · have : b = 0 := by omega
      subst this
      go_wp2_with fail
      go_ret
      exact ⟨ret_int (by rw [HR.out, gp_zero]; simp), K0⟩
end Go.Proofs.YtikfeemmjfoffaaGreatDoor
