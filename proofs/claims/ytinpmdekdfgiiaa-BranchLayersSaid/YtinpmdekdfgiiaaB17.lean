/- The reference's Least. -/
import Derived.Test.YtinpmdekdfgiiaaB16
set_option linter.unusedVariables false
set_option linter.unusedSimpArgs false
namespace Go.Proofs.Ytinpmdekdfgiiaa
open Go.RowKit

theorem firstK_at {p : Nat → Bool} {k : Nat} : ∀ (f a : Nat), (∀ i, a ≤ i → i < k → p i = false) → a ≤ k → k < a + f → p k = true → firstK p f a = k := by
  intro f
  induction f with
  | zero => intro a _ h1 h2 _; omega
  | succ f ih =>
    intro a h h1 h2 h3
    unfold firstK
    by_cases e : a = k
    · subst e; rw [if_pos h3]
    · rw [h a (Nat.le_refl _) (by omega)]
      exact ih (a + 1) (fun i hi hk => h i (by omega) hk) (by omega) (by omega) h3
theorem firstK_none {p : Nat → Bool} : ∀ (f a : Nat), (∀ i, a ≤ i → i < a + f → p i = false) → firstK p f a = a + f := by
  intro f
  induction f with
  | zero => intro a _; rfl
  | succ f ih =>
    intro a h
    unfold firstK
    rw [h a (Nat.le_refl _) (by omega)]
    have := ih (a + 1) (fun i hi hk => h i (by omega) (by omega))
    simp only [Bool.false_eq_true, if_false]
    omega

theorem vars_lt {n : Nat} : ∀ x ∈ varsN n, x < 2 ^ 62 := by
  intro x hx
  match n with
  | 0 => simp [varsN] at hx
  | 1 => simp [varsN] at hx; omega
  | 2 => simp [varsN] at hx; omega
  | n + 3 => simp [varsN] at hx; omega
theorem all_lt {n : Nat} : allN' n < 2 ^ 62 := by
  match n with
  | 0 => simp [allN']
  | 1 => simp [allN']
  | 2 => simp [allN']
  | n + 3 => simp [allN']
theorem vars_length {n : Nat} (h : n ≤ 3) : (varsN n).length = n := by
  match n, h with
  | 0, _ => rfl
  | 1, _ => rfl
  | 2, _ => rfl
  | 3, _ => rfl

theorem all_wrap {n : Nat} (h : n ≤ 3) : wrap64 (wrap64 (2 ^ min (IntKind.u64.wrap (2 ^ n)).toNat 64) - 1) = (allN' n : Nat) :=
  match n, h with
  | 0, _ => by decide +kernel
  | 1, _ => by decide +kernel
  | 2, _ => by decide +kernel
  | 3, _ => by decide +kernel

set_option maxRecDepth 100000 in
set_option maxHeartbeats 1000000 in
theorem rleast_any (n : Nat) (hn : n ≤ 3) (T : Option Addr) (N c : Nat) (t : List Bool) (w : World) (hN : N = t.length) (hN2 : t.length = 2 ^ n) (hT : Rd w T (bools t)) :
    Calls Try.prog 25 #[.int .i64 n, .slice T N c] w fun e w' => e = .returned (.int .i64 (leastS n (bo (ba t) (2 ^ n)) : Nat)) ∧ Kept w w' := by
  have hN8 : 2 ^ n ≤ 8 := Nat.pow_le_pow_right (n := 2) (by omega) hn
  subst hN
  rw [← hN2] at hN8 ⊢
  clear hN2
  go_enter Try.func25, Try.ntmps25
  go_wp2_with fail
  go_loopg [5, 6] t.length (fun g s5 s6 wq => ∃ k : Nat, k ≤ t.length ∧ g = t.length - k ∧ s6 = .int .i64 k ∧ s5 = .int .i64 (bo (ba t) k : Nat) ∧ w = wq)
  case atStart => exact ⟨0, by omega, rfl, rfl, rfl, rfl⟩
  case round =>
    obtain ⟨k, hk, rfl, rfl, rfl, rfl⟩ := hrel
    by_cases hlt : k < t.length
    · obtain ⟨b, off, rfl, h1⟩ := hT.bool hlt
      have a0 := h1 k hlt
      clear h1
      have hor := shl_bit (k := k) (by omega) (bo_62 (ba t) (k := k) (by omega))
      cases ht : ba t k
      · rw [ht] at a0
        go_wp2_with fail
        go_roundg (t.length - (k + 1))
        case rel => exact ⟨k + 1, by omega, rfl, by go_num, by rw [bo]; simp [ht], rfl⟩
        case measure => omega
      · rw [ht] at a0
        go_wp2_with fail
        go_roundg (t.length - (k + 1))
        case rel => exact ⟨k + 1, by omega, rfl, by go_num, by rw [bo]; simp [ht], rfl⟩
        case measure => omega
    · have : k = t.length := by omega
      subst this
      have hal := all_wrap hn
      go_wp2_with fail
      rw [hal]
      clear hal
      obtain ⟨p, hp⟩ : ∃ p : Nat → Bool, p = fun k => foundS (varsN n) (allN' n) (bo (ba t) t.length) k [0, allN' n] := ⟨_, rfl⟩
      have HP := Lib.hid hp; clear hp
      go_loopg [8] 5 (fun g s8 wr => ∃ k : Nat, k ≤ 5 ∧ (∀ k', k' < k → p k' = false) ∧ g = 5 - k ∧ s8 = .int .i64 k ∧ Kept w wr)
      case atStart => exact ⟨0, by omega, by omega, rfl, rfl, kept_refl _⟩
      case round =>
        obtain ⟨k, hk5, hj, rfl, rfl, k1⟩ := hrel
        have HJ := Lib.hid hj; clear hj
        by_cases hk5' : k < 5
        · have k2 := kept_alloc k1 (.cells (nats [0, allN' n]).toArray 3)
          have o2 := Own.new wr 3 (nats [0, allN' n])
          go_wp2_with fail
          refine (columns_any n _ hn).mono ?_
          rintro e w3 ⟨v3, rfl, hr3, k3⟩
          obtain ⟨A3, c3, rfl, hr4⟩ := row_form hr3
          clear hr3
          rw [cols_eq n (by omega)] at hr4
          have hR := row_rd hr4
          have hl3 := vars_length hn
          have o3 := (o2.kept k3).rd
          have k4 := kept_trans k2 k3
          have hm := made_any (varsN n) (allN' n) (bo (ba t) t.length) A3 c3 vars_lt all_lt (by omega) k k [0, allN' n] (some ⟨wr.heap.size, 0, none⟩) 2 2 w3 rfl (by omega) (by intro x hx; simp at hx; rcases hx with rfl | rfl; omega; exact all_lt) (by simp; omega) rfl (by omega) o3 hR
          rw [hl3] at hm
          have HMD := Lib.hid hm; clear hm
          have hpk : p k = madeS (varsN n) (allN' n) (bo (ba t) t.length) k [0, allN' n] := by rw [HP.out]; exact found_made _ _ _ _ _
          have HPK := Lib.hid hpk; clear hpk
          go_wp2_with fail
          refine HMD.out.mono ?_
          rintro e w5 ⟨rfl, k5⟩
          rw [← HPK.out]
          cases hpk2 : p k
          · have H2 := Lib.hid hpk2; clear hpk2
            go_wp2_with fail
            go_roundg (5 - (k + 1))
            case rel => exact ⟨k + 1, by omega, fun j h => by rcases Nat.lt_succ_iff_lt_or_eq.1 h with h | rfl; exact HJ.out j h; exact H2.out, rfl, by go_num, kept_trans k4 k5⟩
            case measure => omega
          · have H2 := Lib.hid hpk2; clear hpk2
            go_wp2_with fail
            go_ret
            exact ⟨by rw [leastS, ← HP.out, firstK_at 5 0 (fun i _ hi => HJ.out i hi) (by omega) (by omega) H2.out]; rfl, kept_trans k4 k5⟩
        · have : k = 5 := by omega
          subst this
          go_wp2_with fail
          go_ret
          exact ⟨by rw [leastS, ← HP.out, firstK_none 5 0 (fun i _ hi => HJ.out i (by omega))]; rfl, k1⟩
end Go.Proofs.Ytinpmdekdfgiiaa
