/- Polynomials: the reference's Inputs. -/
import Derived.Test.YtnjmpjdampdmmaaDoorC17
set_option linter.unusedVariables false
set_option linter.unusedSimpArgs false
namespace Go.Proofs.YtnjmpjdampdmmaaDoor
open Go.RowKit

/-- What Inputs returns: the number whose power of two it is, or -1. -/
def InputsPost (l most : Nat) (w : World) (e : Ending) (w' : World) : Prop := w = w' ∧ ((∃ n : Nat, n ≤ most ∧ l = 2 ^ n ∧ e = .returned (.int .i64 (n : Int))) ∨ ((∀ n, n ≤ most → l ≠ 2 ^ n) ∧ e = .returned (.int .i64 (-1))))
set_option maxRecDepth 100000 in
set_option maxHeartbeats 1000000 in
theorem rinputs19_any (l most : Nat) (w : World) (hm : most ≤ 14) (hl : l ≤ 140737488355328) : Calls Tryd.prog 19 #[.int .i64 (l : Int), .int .i64 (most : Int)] w (InputsPost l most w) := by
  go_enter Tryd.func19, Tryd.ntmps19
  go_wp2_with fail
  go_loopg [5] (most + 1) (fun G s3 wr => ∃ (n : Nat), n ≤ most + 1 ∧ G = most + 1 - n ∧ s3 = .int .i64 (n : Int) ∧ Hid (∀ m, m < n → l ≠ 2 ^ m) ∧ wr = w)
  case atStart => exact ⟨0, by omega, rfl, rfl, Lib.hid (fun m hm => by omega), rfl⟩
  case round =>
    obtain ⟨n, hn, rfl, rfl, HN, rfl⟩ := hrel
    by_cases hlt : n ≤ most
    · have d1 : decide ((n : Int) ≤ (most : Int)) = true := decide_eq_true (by omega)
      have d1' : decide (n ≤ most) = true := decide_eq_true hlt
      obtain ⟨hz16, s1, s2⟩ := pow_wraps (k := n) (by omega)
      obtain ⟨z, hz⟩ : ∃ z, z = 2 ^ n := ⟨_, rfl⟩
      rw [← hz] at hz16 s1 s2
      have HZ := Lib.hid hz
      clear hz
      by_cases he : l = z
      · have HE := Lib.hid (show l = 2 ^ n by rw [← HZ.out]; exact he)
        have e1 := int_beq_eq he
        have e1' := nat_beq_eq he
        clear he
        go_wp2_with fail
        go_ret
        exact ⟨rfl, .inl ⟨n, hlt, HE.out, rfl⟩⟩
      · have HE := Lib.hid (show ¬ l = 2 ^ n by rw [← HZ.out]; exact he)
        have e1 := int_beq_ne he
        have e1' := nat_beq_ne he
        have ew : IntKind.i64.wrap ((n : Int) + 1) = (n : Int) + 1 := IntWalk.i64_in _ (by omega)
        clear he
        go_wp2_with fail
        go_roundg (most + 1 - (n + 1))
        case rel => exact ⟨n + 1, by omega, rfl, by go_num, Lib.hid (fun m hm => by
          rcases Nat.lt_succ_iff_lt_or_eq.1 hm with h | rfl
          · exact HN.out m h
          · exact HE.out), rfl⟩
        case measure => omega
    · have d1 : decide ((n : Int) ≤ (most : Int)) = false := decide_eq_false (by omega)
      have d1' : decide (n ≤ most) = false := decide_eq_false hlt
      go_wp2_with fail
      go_ret
      exact ⟨rfl, .inr ⟨fun m hm => HN.out m (by omega), rfl⟩⟩
end Go.Proofs.YtnjmpjdampdmmaaDoor
