/- Polynomials: the law PolyMultilinears, walked. -/
import Derived.Test.YtikfeemmjfoffaaGreatDoorC13
set_option linter.unusedVariables false
set_option linter.unusedSimpArgs false
namespace Go.Proofs.YtikfeemmjfoffaaGreatDoor
open Go.RowKit

theorem multi20_no (P M : Int) (t : List Bool) (A : Option Addr) (c : Nat) (w : World) (ok : okF P M = true) (hA : Rd w A (bools t)) (hl : t.length ≤ 9000) (hno : ∀ n, n ≤ 12 → t.length ≠ 2 ^ n) :
    Calls Tryz.prog 36 #[fV P M, .slice A t.length c] w fun e w' => e = .returned (.tuple #[.slice none 0 0, .int .i64 2]) ∧ Kept w w' :=
  (multi20_any P M t A c w ok hA hl).mono fun e w' ⟨k, h⟩ => by
    rcases h with ⟨rfl, _⟩ | ⟨n, _, _, _, hn, hl, _⟩
    · exact ⟨rfl, k⟩
    · exact absurd hl (hno n hn)
/-- The polynomial of a table of 2^n values. -/
def mlT (P M : Int) (t : List Bool) (n : Nat) : List Tm := totalT (addF P M) (mlTerms n (mlAll P M (t.map bitI) n) t.length).length ((mlTerms n (mlAll P M (t.map bitI) n) t.length).map fun t => [t])
theorem multi20_yes (P M : Int) (n : Nat) (t : List Bool) (A : Option Addr) (c : Nat) (w : World) (ok : okF P M = true) (hA : Rd w A (bools t)) (hl : t.length ≤ 9000) (hn : n ≤ 12) (hl2 : t.length = 2 ^ n) :
    Calls Tryz.prog 36 #[fV P M, .slice A t.length c] w fun e w' => ∃ A' c' r, e = .returned (.tuple #[.slice A' r.length c', .int .i64 0]) ∧ r = mlT P M t n ∧ RP w' A' r ∧ Kept w w' :=
  (multi20_any P M t A c w ok hA hl).mono fun e w' ⟨k, h⟩ => by
    rcases h with ⟨_, hno⟩ | ⟨m, A', c', r, hm, hl, rfl, hrp, hr⟩
    · exact absurd hl2 (hno n hn)
    · obtain rfl : n = m := (Nat.pow_right_inj (by decide)).1 (hl2.symm.trans hl)
      exact ⟨A', c', r, rfl, hr, hrp, k⟩
end Go.Proofs.YtikfeemmjfoffaaGreatDoor
