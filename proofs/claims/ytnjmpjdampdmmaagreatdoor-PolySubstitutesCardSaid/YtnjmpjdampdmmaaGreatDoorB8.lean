/- Fields: the reference's operations on elements. -/
import Derived.Test.YtnjmpjdampdmmaaGreatDoorB7
set_option linter.unusedVariables false
set_option linter.unusedSimpArgs false
namespace Go.Proofs.YtnjmpjdampdmmaaGreatDoor
open Go.RowKit

theorem kV_one {P : Int} : kV P 1 = .agg #[.int .i64 P, .int .i64 1, .int .i64 (ordF P 1), .int .i64 0] := rfl
theorem kV_two {m : Nat} (hm : 2 ≤ m) : kV 2 m = .agg #[.int .i64 2, .int .i64 m, .int .i64 (ordF 2 m), .int .i64 (modT m)] := by
  unfold kV kitM; rw [if_pos (by omega), Int.toNat_natCast]
set_option maxRecDepth 100000 in
set_option maxHeartbeats 1000000 in
theorem is33_any (P M a : Int) (w : World) : Calls Tryz.prog 13 #[kV P M, .int .i64 a] w fun e w' => e = .returned (.bool (decide (0 ≤ a) && decide (a < ordF P M))) ∧ Kept w w' := by
  unfold kV
  obtain ⟨q, hq⟩ : ∃ q, q = ordF P M := ⟨_, rfl⟩
  rw [← hq]
  clear hq
  by_cases h : 0 ≤ a
  · go_enter Tryz.func13, Tryz.ntmps13
    go_wp2_with fail
    go_ret
    exact ⟨ret_bool (by simp [h]), kept_alloc (kept_refl w) _⟩
  · have h' : decide (0 ≤ a) = false := decide_eq_false h
    go_enter Tryz.func13, Tryz.ntmps13
    go_wp2_with fail
    go_ret
    exact ⟨ret_bool (by simp [h']), kept_alloc (kept_refl w) _⟩

set_option maxRecDepth 100000 in
set_option maxHeartbeats 1000000 in
theorem radd53_one (P a b q : Int) (w : World) (p2 : 2 ≤ P) (pm : P ≤ 65536) (ha : 0 ≤ a ∧ a < P) (hb : 0 ≤ b ∧ b < P) :
    Calls Tryz.prog 37 #[.agg #[.int .i64 P, .int .i64 1, .int .i64 q, .int .i64 0], .int .i64 a, .int .i64 b] w fun e w' => e = .returned (.int .i64 ((a + b) % P)) ∧ Kept w w' := by
  go_enter Tryz.func37, Tryz.ntmps37
  go_wp2_with fail
  go_ret
  exact ⟨rfl, kept_alloc (kept_refl w) _⟩
set_option maxRecDepth 100000 in
set_option maxHeartbeats 1000000 in
theorem radd53_two (m a b M : Nat) (q : Int) (w : World) (hm : 2 ≤ m) (ha : a ≤ 65536) (hb : b ≤ 65536) :
    Calls Tryz.prog 37 #[.agg #[.int .i64 2, .int .i64 m, .int .i64 q, .int .i64 M], .int .i64 a, .int .i64 b] w fun e w' => e = .returned (.int .i64 ((a ^^^ b : Nat) : Int)) ∧ Kept w w' := by
  have d1 : decide (1 < (m : Int)) = true := decide_eq_true (by omega)
  have d2 : decide (1 < m) = true := decide_eq_true (by omega)
  have hx := b_xor (a := a) (b := b) (by omega) (by omega)
  go_enter Tryz.func37, Tryz.ntmps37
  go_wp2_with fail
  go_ret
  exact ⟨rfl, kept_alloc (kept_refl w) _⟩

set_option maxRecDepth 100000 in
set_option maxHeartbeats 1000000 in
theorem rmul65_one (P a b q : Int) (w : World) (p2 : 2 ≤ P) (pm : P ≤ 65536) (ha : 0 ≤ a ∧ a < P) (hb : 0 ≤ b ∧ b < P) :
    Calls Tryz.prog 36 #[.agg #[.int .i64 P, .int .i64 1, .int .i64 q, .int .i64 0], .int .i64 a, .int .i64 b] w fun e w' => e = .returned (.int .i64 (a * b % P)) ∧ Kept w w' := by
  obtain ⟨s, hs⟩ : ∃ s, s = a * b := ⟨_, rfl⟩
  have h0 : 0 ≤ s := by rw [hs]; exact Int.mul_nonneg ha.1 hb.1
  have h1 : s ≤ 65536 * 65536 := by rw [hs]; exact Int.mul_le_mul (by omega) (by omega) hb.1 (by omega)
  have hw : wrap64 (a * b) = s := by rw [← hs]; unfold wrap64; omega
  rw [← hs]
  clear hs
  go_enter Tryz.func36, Tryz.ntmps36
  go_wp2_with fail
  go_ret
  exact ⟨rfl, kept_alloc (kept_refl w) _⟩

theorem cl_lt {m a b : Nat} (ha : a < 2 ^ m) (k : Nat) : cl a b k < 2 ^ (m + k) := by rw [cl_eq]; exact clm_lt k a b ha
set_option maxRecDepth 100000 in
set_option maxHeartbeats 1000000 in
theorem rmul65_two (m a b : Nat) (q : Int) (w : World) (hm : 2 ≤ m) (hm2 : m ≤ 16) (ha : a < 2 ^ m) (hb : b < 2 ^ m) :
    Calls Tryz.prog 36 #[.agg #[.int .i64 2, .int .i64 m, .int .i64 q, .int .i64 (modT m)], .int .i64 a, .int .i64 b] w fun e w' => e = .returned (.int .i64 ((gp (modT m) m m a b : Nat) : Int)) ∧ Kept w w' := by
  have hp16 := pow16 hm2
  obtain ⟨hlog, hle, _⟩ := mod_parts hm hm2
  obtain ⟨_, hM⟩ := mod_bit hm hm2
  have HR := Lib.hid (rst_clm (M := modT m) (m := m) (a := a) (b := b) hlog ha)
  obtain ⟨M, hMd⟩ : ∃ M, M = modT m := ⟨_, rfl⟩
  rw [← hMd] at HR hle hM ⊢
  have hM2 : M < 131072 := by have : 2 ^ (m + 1) = 2 ^ m * 2 := Nat.pow_succ _ _; omega
  have hM0 : 0 < M := by have := Nat.two_pow_pos m; omega
  have HA := Lib.hid ha
  have ha16 : a < 65536 := by omega
  have hb16 : b < 65536 := by omega
  have o0 := Own.new w 37 [.int .i64 2, .int .i64 m, .int .i64 q, .int .i64 M]
  have K0 := kept_alloc (kept_refl w) (.cells #[.int .i64 2, .int .i64 m, .int .i64 q, .int .i64 M] 37)
  have CL : Hid (∀ k, k ≤ m → cl a b k < 4294967296) := Lib.hid fun k hk => Nat.lt_of_lt_of_le (cl_lt ha k) (Nat.le_trans (Nat.pow_le_pow_right (by omega) (show m + k ≤ 32 by omega)) (by decide))
  have d1 : ((m : Int) == 1) = false := beq_eq_false_iff_ne.2 (by omega)
  have d2 : (m == 1) = false := beq_eq_false_iff_ne.2 (by omega)
  have CR := Lib.hid fun (c : Nat) (w' : World) (h : c < 1099511627776) => rest83_any c M w' h hM0 hM2
  clear ha hb hlog hle hM hMd hp16
  go_enter Tryz.func36, Tryz.ntmps36
  go_wp2_with fail
  go_loopg [7, 8] m (fun g s7 s8 wr => ∃ k c : Nat, k ≤ m ∧ g = m - k ∧ s7 = .int .i64 c ∧ s8 = .int .i64 k ∧ c = cl a b k ∧ Kept w wr ∧ Own wr w.heap.size 37 [.int .i64 2, .int .i64 m, .int .i64 q, .int .i64 M])
  case atStart => exact ⟨0, 0, by omega, rfl, rfl, rfl, rfl, K0, o0⟩
  case round =>
    clear o0 K0
    obtain ⟨k, c, hk, rfl, rfl, rfl, hc, K0, o0⟩ := hrel
    have q0 := o0.cell (j := 0) rfl; have q1 := o0.cell (j := 1) rfl; have q3 := o0.cell (j := 3) rfl
    have hc32 : c < 4294967296 := by rw [hc]; exact CL.out k hk
    have HC := Lib.hid hc
    clear hc
    by_cases hlt : k < m
    · have hmin : min k 64 = k := by omega
      have hbit := b_and1 (b := b) (by omega) k
      obtain ⟨s, hs⟩ : ∃ s, s = a <<< k := ⟨_, rfl⟩
      have hs32 : s < 4294967296 := by
        have e1 : a * 2 ^ k < 2 ^ 16 * 2 ^ k := Nat.mul_lt_mul_of_pos_right (by omega) (Nat.two_pow_pos k)
        rw [hs, Nat.shiftLeft_eq]
        refine Nat.lt_of_lt_of_le e1 ?_
        rw [← Nat.pow_add]
        exact (Nat.pow_le_pow_right (by omega) (by omega) : 2 ^ (16 + k) ≤ 2 ^ 32)
      have e2 : ((a : Int) * 2 ^ k) = (s : Int) := by rw [hs, Nat.shiftLeft_eq, Int.natCast_mul, Int.natCast_pow]; rfl
      have HS := Lib.hid hs
      clear hs
      have XE := Lib.hid (show bits .xor .i64 (c : Int) (wrap64 ((a : Int) * 2 ^ k)) = ((c ^^^ s : Nat) : Int) by
        rw [e2, show wrap64 ((s : Nat) : Int) = ((s : Nat) : Int) by unfold wrap64; omega]
        exact b_xor (by omega) (by omega))
      have E2 := Lib.hid e2
      clear e2
      cases hbb : b.testBit k with
      | true =>
        have HB := Lib.hid hbb
        rw [hbb] at hbit
        clear hbb
        go_wp2_with fail
        go_roundg (m - (k + 1))
        case rel => exact ⟨k + 1, c ^^^ s, by omega, rfl, by rw [XE.out], by go_num, by rw [cl, HB.out, if_pos rfl, ← HC.out, ← HS.out], K0, o0⟩
        case measure => omega
      | false =>
        have HB := Lib.hid hbb
        rw [hbb] at hbit
        clear hbb
        go_wp2_with fail
        go_roundg (m - (k + 1))
        case rel => exact ⟨k + 1, c, by omega, rfl, rfl, by go_num, by rw [cl, HB.out, if_neg (by simp), ← HC.out], K0, o0⟩
        case measure => omega
    · obtain rfl : k = m := by omega
      go_wp2_with (go_at_call 65; ((with_reducible refine (CR.out c _ (by omega)).mono ?_); rintro e w1 ⟨rfl, rfl⟩))
      go_ret
      exact ⟨ret_int (by rw [HC.out, HR.out]), K0⟩

theorem radd53_any (P M a b : Int) (w : World) (ok : okF P M = true) (ha : inF P M a) (hb : inF P M b) :
    Calls Tryz.prog 37 #[kV P M, .int .i64 a, .int .i64 b] w fun e w' => e = .returned (.int .i64 (addF P M a b)) ∧ Kept w w' := by
  rcases ok_cases ok with ⟨rfl, p2, pm, e⟩ | ⟨rfl, m, h1, h2, rfl, _⟩
  · unfold inF at ha hb
    rw [e] at ha hb
    rw [kV_one]
    exact radd53_one P a b _ w p2 pm ha hb
  · obtain ⟨x, rfl, hx⟩ := in_two ok h1 ha
    obtain ⟨y, rfl, hy⟩ := in_two ok h1 hb
    have hp := pow16 h2
    rw [addF_two h1, kV_two h1]
    exact radd53_two m x y (modT m) _ w h1 (by omega) (by omega)

theorem rmul65_any (P M a b : Int) (w : World) (ok : okF P M = true) (ha : inF P M a) (hb : inF P M b) :
    Calls Tryz.prog 36 #[kV P M, .int .i64 a, .int .i64 b] w fun e w' => e = .returned (.int .i64 (mulF P M a b)) ∧ Kept w w' := by
  rcases ok_cases ok with ⟨rfl, p2, pm, e⟩ | ⟨rfl, m, h1, h2, rfl, _⟩
  · unfold inF at ha hb
    rw [e] at ha hb
    rw [kV_one]
    exact rmul65_one P a b _ w p2 pm ha hb
  · obtain ⟨x, rfl, hx⟩ := in_two ok h1 ha
    obtain ⟨y, rfl, hy⟩ := in_two ok h1 hb
    have hp := pow16 h2
    rw [mulF_two h1, kV_two h1]
    exact rmul65_two m x y _ w h1 h2 hx hy

end Go.Proofs.YtnjmpjdampdmmaaGreatDoor
