/- Fields: what is valid, the order, the operations; plain. -/
import Derived.Test.YtikfeemmjfoffaaGreatDoorF1
import Derived.Test.YtikfeemmjfoffaaGreatDoorA1
set_option linter.unusedVariables false
set_option linter.unusedSimpArgs false
namespace Go.Proofs.YtikfeemmjfoffaaGreatDoor

/-- Valid fields. -/
def okF (P M : Int) : Bool := decide (2 ≤ P) && decide (P ≤ 65536) && decide (1 ≤ M) && decide (M ≤ 16) && (decide (M ≤ 1) || decide (P = 2)) && prmB P.toNat
theorem okF_iff {P M : Int} : okF P M = true ↔ (2 ≤ P ∧ P ≤ 65536) ∧ (1 ≤ M ∧ M ≤ 16) ∧ (M = 1 ∨ 1 < M ∧ P = 2) ∧ prmB P.toNat = true := by
  simp only [okF, Bool.and_eq_true, decide_eq_true_eq, Bool.or_eq_true]
  constructor
  · rintro ⟨⟨⟨⟨⟨a, b⟩, c⟩, d⟩, e⟩, f⟩
    exact ⟨⟨a, b⟩, ⟨c, d⟩, by omega, f⟩
  · rintro ⟨⟨a, b⟩, ⟨c, d⟩, e, f⟩
    exact ⟨⟨⟨⟨⟨a, b⟩, c⟩, d⟩, by omega⟩, f⟩
/-- The order, or 0. -/
def ordF (P M : Int) : Int := if okF P M then (if 1 < M then ((2 ^ M.toNat : Nat) : Int) else P) else 0
theorem ord_bad {P M : Int} (h : okF P M = false) : ordF P M = 0 := by unfold ordF; rw [h]; rfl
theorem pow16 {m : Nat} (h : m ≤ 16) : 2 ^ m ≤ 65536 := Nat.pow_le_pow_right (n := 2) (by omega) h
theorem ord_ok {P M : Int} (h : okF P M = true) : 2 ≤ ordF P M ∧ ordF P M ≤ 65536 := by
  obtain ⟨⟨a, b⟩, ⟨c, d⟩, e, _⟩ := okF_iff.1 h
  unfold ordF
  rw [if_pos h]
  split
  · have h1 := pow16 (m := M.toNat) (by omega)
    have h2 := Nat.pow_le_pow_right (n := 2) (by omega) (show 1 ≤ M.toNat by omega)
    omega
  · omega
def addF (P M a b : Int) : Int := if M = 1 then (a + b) % P else ((a.toNat ^^^ b.toNat : Nat) : Int)
def negF (P M a : Int) : Int := if M = 1 then (P - a) % P else a
def mulF (P M a b : Int) : Int := if M = 1 then a * b % P else ((gp (modT M.toNat) M.toNat M.toNat a.toNat b.toNat : Nat) : Int)
def inF (P M a : Int) : Prop := 0 ≤ a ∧ a < ordF P M
theorem ord_one {P : Int} (h : okF P 1 = true) : ordF P 1 = P := by unfold ordF; rw [if_pos h]; rfl
theorem ord_two {M : Int} (h : okF 2 M = true) (hM : 1 < M) : ordF 2 M = ((2 ^ M.toNat : Nat) : Int) := by unfold ordF; rw [if_pos h, if_pos hM]
theorem mod_parts {m : Nat} (h1 : 2 ≤ m) (h2 : m ≤ 16) : Nat.log2 (modT m) = m ∧ 2 ^ m ≤ modT m ∧ irrB m (modT m) = true ∧ ∀ a, 2 ^ m ≤ a → a < modT m → irrB m a = false := by
  have h := mods_ok m h1 h2
  simp only [modOk, Bool.and_eq_true, decide_eq_true_eq, List.all_eq_true, List.mem_range, Bool.not_eq_true'] at h
  obtain ⟨⟨⟨a, b⟩, c⟩, d⟩ := h
  refine ⟨a, b, c, fun x hx hy => ?_⟩
  have := d (x - 2 ^ m) (by omega)
  rwa [Nat.add_sub_cancel' hx] at this
theorem mod_bit {m : Nat} (h1 : 2 ≤ m) (h2 : m ≤ 16) : (modT m).testBit m = true ∧ modT m < 2 ^ (m + 1) := by
  obtain ⟨a, b, _⟩ := mod_parts h1 h2
  have hp := Nat.two_pow_pos m
  have e := Nat.testBit_log2 (n := modT m) (by omega)
  have f := Nat.lt_log2_self (n := modT m)
  rw [a] at e f
  exact ⟨e, f⟩
theorem ok_cases {P M : Int} (h : okF P M = true) : (M = 1 ∧ 2 ≤ P ∧ P ≤ 65536 ∧ ordF P M = P) ∨ (P = 2 ∧ ∃ m : Nat, 2 ≤ m ∧ m ≤ 16 ∧ M = m ∧ ordF P M = ((2 ^ m : Nat) : Int)) := by
  obtain ⟨⟨a, b⟩, ⟨c, d⟩, e, _⟩ := okF_iff.1 h
  rcases e with rfl | ⟨e, rfl⟩
  · exact .inl ⟨rfl, a, b, ord_one h⟩
  · exact .inr ⟨rfl, M.toNat, by omega, by omega, by omega, ord_two h e⟩
theorem addF_ok {P M : Int} (h : okF P M = true) : AddOk (ordF P M) (addF P M) := by
  rcases ok_cases h with ⟨rfl, a, b, e⟩ | ⟨rfl, m, h1, h2, rfl, e⟩
  · rw [e]; exact add_mod_ok (by omega)
  · rw [e]
    have := xor_ok m
    unfold addF
    rw [show (fun a b => if (m : Int) = 1 then (a + b) % 2 else ((a.toNat ^^^ b.toNat : Nat) : Int)) = xorI from by
      funext a b
      rw [if_neg (by omega)]
      rfl]
    exact this
theorem mulF_in {P M : Int} (h : okF P M = true) {a b : Int} (ha : inF P M a) (hb : inF P M b) : inF P M (mulF P M a b) := by
  unfold inF mulF at *
  rcases ok_cases h with ⟨rfl, h1, h2, e⟩ | ⟨rfl, m, h1, h2, rfl, e⟩
  · rw [e]; rw [if_pos rfl]; exact ⟨Int.emod_nonneg _ (by omega), Int.emod_lt_of_pos _ (by omega)⟩
  · rw [e] at ha hb ⊢
    rw [if_neg (by omega)]
    obtain ⟨h3, h4⟩ := mod_bit h1 h2
    have := gp_lt h3 h4 m (a := a.toNat) b.toNat (by omega)
    rw [Int.toNat_natCast]
    omega
theorem negF_in {P M : Int} (h : okF P M = true) {a : Int} (ha : inF P M a) : inF P M (negF P M a) := by
  unfold inF negF at *
  rcases ok_cases h with ⟨rfl, h1, h2, e⟩ | ⟨rfl, m, h1, h2, rfl, e⟩
  · rw [e]; rw [if_pos rfl]; exact ⟨Int.emod_nonneg _ (by omega), Int.emod_lt_of_pos _ (by omega)⟩
  · rw [if_neg (by omega)]; exact ha
theorem addF_in {P M : Int} (h : okF P M = true) {a b : Int} (ha : inF P M a) (hb : inF P M b) : inF P M (addF P M a b) := (addF_ok h).range a b ha.1 ha.2 hb.1 hb.2
end Go.Proofs.YtikfeemmjfoffaaGreatDoor
