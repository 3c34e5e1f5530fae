/- Fields: the reference's remainders and modulus. -/
import Derived.Test.YtikfeemmjfoffaaGreatDoorB5
set_option linter.unusedVariables false
set_option linter.unusedSimpArgs false
namespace Go.Proofs.YtikfeemmjfoffaaGreatDoor
open Go.RowKit

set_option maxRecDepth 100000 in
set_option maxHeartbeats 1000000 in
theorem rest83_any (a0 b : Nat) (w : World) (ha : a0 < 1099511627776) (hb : 0 < b) (hb2 : b < 131072) : Calls Tryz.prog 71 #[.int .i64 a0, .int .i64 b] w fun e w' => e = .returned (.int .i64 (rst a0 b)) ∧ w = w' := by
  obtain ⟨R, hR⟩ : ∃ R, R = rst a0 b := ⟨_, rfl⟩
  rw [← hR]
  have HR := Lib.hid hR
  obtain ⟨l, hl⟩ : ∃ l, l = Nat.log2 b := ⟨_, rfl⟩
  have hdb : degI b = l := by unfold degI; rw [if_neg (by omega), hl]
  have CB := Lib.hid fun w' => show Calls Tryz.prog 70 #[.int .i64 b] w' fun e w'' => e = .returned (.int .i64 l) ∧ w' = w'' from by rw [← hdb]; exact degree82_any b w' (by omega)
  have hl17 : l < 17 := by rw [hl]; exact (Nat.log2_lt (by omega)).2 hb2
  have HL := Lib.hid hl
  clear hR hl hdb
  go_enter Tryz.func71, Tryz.ntmps71
  go_wp2_with fail
  go_loop [0] (fun x => ∃ a : Nat, a < 1099511627776 ∧ x = .int .i64 a ∧ R = rst a b) (fun x => (intOf x).toNat)
  case atStart => exact ⟨a0, ha, rfl, HR.out⟩
  case round =>
    obtain ⟨a, h1, rfl, hr⟩ := hrel
    have CA := degree82_any a
    have h40 := deg_lt (a := a) (n := 40) h1
    obtain ⟨dg, hdg⟩ : ∃ dg, dg = degI a := ⟨_, rfl⟩
    rw [← hdg] at h40
    have CA := Lib.hid fun w' => show Calls Tryz.prog 70 #[.int .i64 a] w' fun e w'' => e = .returned (.int .i64 dg) ∧ w' = w'' from by rw [hdg]; exact degree82_any a w' h1
    have HRR := Lib.hid hr
    have HD := Lib.hid hdg
    clear hr hdg
    by_cases hge : (l : Int) ≤ dg
    · obtain ⟨k, rfl⟩ : ∃ k : Nat, dg = (l : Int) + k := ⟨(dg - l).toNat, by omega⟩
      have a0 : a ≠ 0 := by
        rintro rfl
        have := HD.out
        simp only [degI, if_true] at this
        omega
      have el : Nat.log2 a = l + k := by
        have := HD.out
        unfold degI at this
        rw [if_neg a0] at this
        omega
      have ek : Nat.log2 a - Nat.log2 b = k := by rw [← HL.out, el]; omega
      have hst := rst_step (a := a) (b := b) a0 (by omega) (by rw [← HL.out, el]; omega)
      rw [ek] at hst
      have hle : 2 ^ Nat.log2 a ≤ a := Nat.log2_self_le a0
      have hbk : b <<< k < 2 ^ 40 := by
        have hb1 : b < 2 ^ (l + 1) := by rw [HL.out]; exact Nat.lt_log2_self
        have h39 : Nat.log2 a < 40 := (Nat.log2_lt a0).2 h1
        rw [Nat.shiftLeft_eq]
        have e1 : b * 2 ^ k < 2 ^ (l + 1) * 2 ^ k := Nat.mul_lt_mul_of_pos_right hb1 (Nat.two_pow_pos k)
        rw [← Nat.pow_add] at e1
        exact Nat.lt_of_lt_of_le e1 (Nat.pow_le_pow_right (by omega) (by omega))
      have e1 : ((b : Int) * 2 ^ k) = ((b <<< k : Nat) : Int) := by rw [Nat.shiftLeft_eq, Int.natCast_mul, Int.natCast_pow]; rfl
      obtain ⟨s, hs⟩ : ∃ s, s = b <<< k := ⟨_, rfl⟩
      rw [← hs] at hst hbk e1
      have XS := Lib.hid (And.intro hst.1 (Nat.lt_of_lt_of_le hst.2 hle))
      have XL := Lib.hid (show a ^^^ s < 1099511627776 from Nat.xor_lt_two_pow (n := 40) h1 hbk)
      clear hst hs
      have XE := Lib.hid (show bits .xor .i64 (a : Int) (wrap64 ((b : Int) * 2 ^ k)) = ((a ^^^ s : Nat) : Int) by
        rw [e1, show wrap64 ((s : Nat) : Int) = ((s : Nat) : Int) by unfold wrap64; omega]
        exact b_xor (by omega) (by omega))
      clear hle hbk ek el a0 e1
      go_wp2_with (first | (go_at_call 70; ((with_reducible refine (CA.out _).mono ?_); rintro e w1 ⟨rfl, rfl⟩)) | (go_at_call 70; ((with_reducible refine (CB.out _).mono ?_); rintro e w1 ⟨rfl, rfl⟩)))
      go_round
      case rel => exact ⟨_, XL.out, by rw [XE.out], by rw [HRR.out, XS.out.1]⟩
      case measure => rw [XE.out]; simp only [intOf, Int.toNat_natCast]; exact XS.out.2
    · go_wp2_with (first | (go_at_call 70; ((with_reducible refine (CA.out _).mono ?_); rintro e w1 ⟨rfl, rfl⟩)) | (go_at_call 70; ((with_reducible refine (CB.out _).mono ?_); rintro e w1 ⟨rfl, rfl⟩)))
      go_ret
      exact ⟨ret_int (by
        rw [HRR.out, rst_small]
        rcases Nat.eq_zero_or_pos a with rfl | h0
        · exact Nat.two_pow_pos _
        · have := HD.out
          unfold degI at this
          rw [if_neg (by omega)] at this
          have e := HL.out
          refine Nat.lt_of_lt_of_le Nat.lt_log2_self (Nat.pow_le_pow_right (by omega) (by omega))), rfl⟩

/-- All polynomials from 2 up to b (b itself left out) leave a remainder. -/
def IrrTo (a b : Nat) : Prop := ∀ e, 2 ≤ e → e < b → rst a e ≠ 0
theorem irrB_iff {m a : Nat} : irrB m a = true ↔ IrrTo a (2 ^ (m / 2 + 1)) := by
  simp only [irrB, List.all_eq_true, List.mem_range, Bool.or_eq_true, decide_eq_true_eq, bne_iff_ne, IrrTo]
  constructor
  · exact fun h e h1 h2 => (h e h2).resolve_left (by omega)
  · exact fun h e h2 => by
      rcases Nat.lt_or_ge e 2 with h3 | h3
      · exact .inl h3
      · exact .inr (h e h3 h2)
/-- The inner loop: still irreducible so far, or a divisor was found. -/
def IrrAt (m a b : Nat) (f : Bool) : Prop := (f = true ∧ IrrTo a b) ∨ (f = false ∧ irrB m a = false)
theorem deg_half_iff {m b : Nat} (hb : 2 ≤ b) : (2 * degI b ≤ m) ↔ b < 2 ^ (m / 2 + 1) := by
  unfold degI
  rw [if_neg (by omega), ← Nat.log2_lt (by omega)]
  omega
set_option maxRecDepth 100000 in
set_option maxHeartbeats 1000000 in
theorem modulus50_any (m : Nat) (w : World) (h1 : 2 ≤ m) (h2 : m ≤ 16) : Calls Tryz.prog 43 #[.int .i64 m] w fun e w' => e = .returned (.int .i64 (modT m)) ∧ w = w' := by
  obtain ⟨hlog, hle, hirr, hmin⟩ := mod_parts h1 h2
  obtain ⟨hbit, hM⟩ := mod_bit h1 h2
  obtain ⟨M, hMd⟩ : ∃ M, M = modT m := ⟨_, rfl⟩
  rw [← hMd] at hle hirr hmin hM ⊢
  have hp16 := pow16 h2
  have hM2 : M < 131072 := by have : 2 ^ (m + 1) = 2 ^ m * 2 := Nat.pow_succ _ _; omega
  obtain ⟨p, hpd⟩ : ∃ p, p = 2 ^ m := ⟨_, rfl⟩
  obtain ⟨q, hqd⟩ : ∃ q, q = 2 ^ (m / 2 + 1) := ⟨_, rfl⟩
  have hq : q ≤ 512 := by rw [hqd]; exact (Nat.pow_le_pow_right (by omega) (by omega) : 2 ^ (m / 2 + 1) ≤ 2 ^ 9)
  have hp2 : 2 ≤ p := by rw [hpd]; exact (Nat.pow_le_pow_right (by omega) (by omega) : 2 ^ 1 ≤ 2 ^ m)
  rw [← hpd] at hle hmin hp16
  have e2 : (2 : Int) ^ m = p := by rw [hpd, Int.natCast_pow]; rfl
  have E2 := Lib.hid (show wrap64 ((2 : Int) ^ m) = p by rw [e2]; unfold wrap64; omega)
  have HI := Lib.hid hirr
  have HN := Lib.hid hmin
  have HQ := Lib.hid hqd
  clear hlog hirr hmin hbit hM hMd hpd hqd e2
  go_enter Tryz.func43, Tryz.ntmps43
  go_wp2_with fail
  go_loop [3, 4, 5] (fun x f b => ∃ (a : Nat) (vf vb : Value), p ≤ a ∧ a ≤ M ∧ x = .int .i64 a ∧ f = vf ∧ b = vb) (fun x _ _ => M + 1 - (intOf x).toNat)
  case atStart => exact ⟨p, _, _, by omega, by omega, by rw [E2.out], rfl, rfl⟩
  case round =>
    obtain ⟨a, vf, vb, h3, h4, rfl, rfl, rfl⟩ := hrel
    go_wp2_with fail
    go_loop [4, 5] (fun f b => ∃ (vf : Bool) (vb : Nat), 2 ≤ vb ∧ vb ≤ q ∧ f = .bool vf ∧ b = .int .i64 vb ∧ IrrAt m a vb vf) (fun f b => (q - (intOf b).toNat))
    case atStart => exact ⟨true, 2, by omega, by rw [HQ.out]; exact (Nat.pow_le_pow_right (by omega) (by omega) : 2 ^ 1 ≤ 2 ^ (m / 2 + 1)), rfl, rfl, .inl ⟨rfl, fun e a b => by omega⟩⟩
    case round =>
      obtain ⟨vf, vb, b2, bq, rfl, rfl, hat⟩ := hrel
      have HAT := Lib.hid hat
      clear hat
      obtain ⟨dg, hdg⟩ : ∃ dg, dg = degI vb := ⟨_, rfl⟩
      have CB := Lib.hid fun w' => show Calls Tryz.prog 70 #[.int .i64 vb] w' fun e w'' => e = .returned (.int .i64 dg) ∧ w' = w'' from by rw [hdg]; exact degree82_any vb w' (by omega)
      have hdd := deg_lt (a := vb) (n := 10) (by omega)
      have hiff := deg_half_iff (m := m) b2
      rw [← hdg] at hdd hiff
      rw [← HQ.out] at hiff
      obtain ⟨r, hr⟩ : ∃ r, r = rst a vb := ⟨_, rfl⟩
      have CR := Lib.hid fun w' => show Calls Tryz.prog 71 #[.int .i64 a, .int .i64 vb] w' fun e w'' => e = .returned (.int .i64 r) ∧ w' = w'' from by rw [hr]; exact rest83_any a vb w' (by omega) (by omega) (by omega)
      clear hdg
      by_cases hlt : vb < q
      · have hle2 := hiff.2 hlt
        have t1 : decide (2 * dg ≤ (m : Int)) = true := decide_eq_true hle2
        clear hiff
        cases vf with
        | true =>
          have HT : Hid (IrrTo a vb) := by
            rcases HAT.out with ⟨_, h⟩ | ⟨h, _⟩
            · exact Lib.hid h
            · cases h
          by_cases hr0 : r = 0
          · have t2 : (((r : Nat) : Int) != 0) = false := by rw [hr0]; rfl
            have HF := Lib.hid (show irrB m a = false by
              cases h : irrB m a with
              | false => rfl
              | true => exact absurd (by rw [← hr, hr0]) (irrB_iff.1 h vb b2 (by rw [← HQ.out]; exact hlt)))
            clear hr hr0
            go_wp2_with (first | (go_at_call 70; ((with_reducible refine (CB.out _).mono ?_); rintro e w1 ⟨rfl, rfl⟩)) | (go_at_call 71; ((with_reducible refine (CR.out _).mono ?_); rintro e w1 ⟨rfl, rfl⟩)))
            go_round
            case rel => exact ⟨false, vb + 1, by omega, by omega, rfl, by go_num, .inr ⟨rfl, HF.out⟩⟩
            case measure => simp [intOf]; omega
          · have t2 : (((r : Nat) : Int) != 0) = true := by simpa using hr0
            have HF := Lib.hid (show IrrTo a (vb + 1) from fun e a1 a2 => by
              rcases Nat.eq_or_lt_of_le (Nat.le_of_lt_succ a2) with rfl | h3
              · rw [← hr]; exact hr0
              · exact HT.out e a1 h3)
            clear hr hr0
            go_wp2_with (first | (go_at_call 70; ((with_reducible refine (CB.out _).mono ?_); rintro e w1 ⟨rfl, rfl⟩)) | (go_at_call 71; ((with_reducible refine (CR.out _).mono ?_); rintro e w1 ⟨rfl, rfl⟩)))
            go_round
            case rel => exact ⟨true, vb + 1, by omega, by omega, rfl, by go_num, .inl ⟨rfl, HF.out⟩⟩
            case measure => simp [intOf]; omega
        | false =>
          have hF : irrB m a = false := by
            rcases HAT.out with ⟨h, _⟩ | ⟨_, h⟩
            · cases h
            · exact h
          have hne : a < M := by
            rcases Nat.eq_or_lt_of_le h4 with rfl | h
            · rw [HI.out] at hF; cases hF
            · exact h
          clear hr hF
          go_wp2_with (first | (go_at_call 70; ((with_reducible refine (CB.out _).mono ?_); rintro e w1 ⟨rfl, rfl⟩)) | (go_at_call 71; ((with_reducible refine (CR.out _).mono ?_); rintro e w1 ⟨rfl, rfl⟩)))
          go_round
          case rel => exact ⟨a + 1, _, _, by omega, by omega, by go_num, rfl, rfl⟩
          case measure => simp [intOf]; omega
      · have hgt : ¬ (2 * dg ≤ (m : Int)) := fun h => hlt (hiff.1 h)
        have t1 : decide (2 * dg ≤ (m : Int)) = false := decide_eq_false hgt
        obtain rfl : vb = q := by omega
        clear hiff hlt hr
        cases vf with
        | true =>
          have hT : irrB m a = true := by
            rcases HAT.out with ⟨_, h⟩ | ⟨h, _⟩
            · rw [HQ.out] at h; exact irrB_iff.2 h
            · cases h
          have hne : a = M := by
            rcases Nat.eq_or_lt_of_le h4 with h | h
            · exact h
            · rw [HN.out a h3 h] at hT; cases hT
          subst hne
          clear hT
          go_wp2_with (first | (go_at_call 70; ((with_reducible refine (CB.out _).mono ?_); rintro e w1 ⟨rfl, rfl⟩)) | (go_at_call 71; ((with_reducible refine (CR.out _).mono ?_); rintro e w1 ⟨rfl, rfl⟩)))
          go_ret
          exact ⟨rfl, rfl⟩
        | false =>
          have hF : irrB m a = false := by
            rcases HAT.out with ⟨h, _⟩ | ⟨_, h⟩
            · cases h
            · exact h
          have hne : a < M := by
            rcases Nat.eq_or_lt_of_le h4 with rfl | h
            · rw [HI.out] at hF; cases hF
            · exact h
          clear hF
          go_wp2_with (first | (go_at_call 70; ((with_reducible refine (CB.out _).mono ?_); rintro e w1 ⟨rfl, rfl⟩)) | (go_at_call 71; ((with_reducible refine (CR.out _).mono ?_); rintro e w1 ⟨rfl, rfl⟩)))
          go_round
          case rel => exact ⟨a + 1, _, _, by omega, by omega, by go_num, rfl, rfl⟩
          case measure => simp [intOf]; omega
end Go.Proofs.YtikfeemmjfoffaaGreatDoor
