/- Fields: the program's functions, second part: the checks, the kinds of fields. -/
import Derived.Test.YtikfeemmjfoffaaGreatDoorB1
set_option linter.unusedVariables false
set_option linter.unusedSimpArgs false
namespace Go.Proofs.YtikfeemmjfoffaaGreatDoor
open Go.RowKit

set_option maxRecDepth 100000 in
set_option maxHeartbeats 1000000 in
theorem check85_ok (P M : Int) (l : List Int) (A : Option Addr) (c : Nat) (w : World) (ok : okF P M = true) (hl : ∀ a ∈ l, inF P M a) (hA : Rd w A (ints l)) (hlen : l.length ≤ 1000) :
    Calls Tryz.prog 76 #[fV P M, .slice A l.length c] w fun e w' => e = .returned (.int .i64 0) ∧ Kept w w' := by
  have C := fun w' => valid51_any P M w'
  rw [ok] at C
  have D := fun w' => order43_any P M w'
  unfold fV at *
  have K0 := kept_alloc (kept_refl w) (.cells #[.int .i64 P, .int .i64 M] 23)
  have o0 := Own.new w 23 [.int .i64 P, .int .i64 M]
  have hord := ord_ok ok
  obtain ⟨q, hq⟩ : ∃ q, q = ordF P M := ⟨_, rfl⟩
  have hin : ∀ k, k < l.length → 0 ≤ ia l k ∧ ia l k < q := fun k hk => by
    rw [hq, show ia l k = l[k] by simp [ia, hk]]; exact hl _ (List.getElem_mem hk)
  rw [← hq] at D hord
  have HC := Lib.hid C; have HD := Lib.hid D; have HI := Lib.hid hin
  clear C D hl ok hin hq
  go_enter Tryz.func76, Tryz.ntmps76
  go_wp2_with (go_at_call 35; ((with_reducible refine (HC.out _).mono ?_); rintro e w1 ⟨rfl, k1⟩; replace K0 := kept_trans K0 k1; replace o0 := o0.kept k1; clear k1))
  go_loopg [6, 12] l.length (fun g' s6 s12 wr => ∃ (k : Nat) (v : Value), k ≤ l.length ∧ g' = l.length - k ∧ s6 = v ∧ s12 = .int .i64 k ∧ Kept w wr ∧ Own wr w.heap.size 23 [.int .i64 P, .int .i64 M])
  case atStart => exact ⟨0, _, by omega, by omega, rfl, rfl, K0, o0⟩
  case round =>
    clear o0 K0
    obtain ⟨k, v, hk, rfl, rfl, rfl, K0, o0⟩ := hrel
    have q0 := o0.cell (j := 0) rfl; have q1 := o0.cell (j := 1) rfl
    by_cases hlt : k < l.length
    · obtain ⟨b, off, rfl, hx⟩ := (hA.kept K0).int hlt
      have x0 := hx k hlt
      obtain ⟨a0, a1⟩ := HI.out k hlt
      obtain ⟨a, ha⟩ : ∃ a, a = ia l k := ⟨_, rfl⟩
      rw [← ha] at x0 a0 a1
      have d1 : decide (a < 0) = false := decide_eq_false (by omega)
      have d2 : decide (q ≤ a) = false := decide_eq_false (by omega)
      clear hx ha
      go_wp2_with (go_at_call 47; ((with_reducible refine (HD.out _).mono ?_); rintro e w1 ⟨rfl, k1⟩; replace K0 := kept_trans K0 k1; replace o0 := o0.kept k1; clear k1))
      go_roundg (l.length - (k + 1))
      case rel => exact ⟨k + 1, _, by omega, rfl, rfl, by go_num, K0, o0⟩
      case measure => omega
    · have : k = l.length := by omega
      subst this
      go_wp2_with fail
      go_ret
      exact ⟨rfl, K0⟩

set_option maxRecDepth 100000 in
set_option maxHeartbeats 1000000 in
theorem moduli98_any (m : Nat) (w : World) (h1 : 2 ≤ m) (h2 : m ≤ 16) : Calls Tryz.prog 95 #[.int .i64 m] w fun e w' => e = .returned (.int .i64 (modT m)) ∧ w = w' := by
  have i0 : ∀ w, (Instr.index 165 (.agg #[.int .i64 7, .int .i64 11, .int .i64 19, .int .i64 37, .int .i64 67, .int .i64 131, .int .i64 283, .int .i64 515, .int .i64 1033, .int .i64 2053, .int .i64 4105, .int .i64 8219, .int .i64 16417, .int .i64 32771, .int .i64 65579]) (.int .i64 ((m : Int) - 2))).run Tryz.prog w = .ok (.int .i64 (modT m)) w := by
    have : m = 2 ∨ m = 3 ∨ m = 4 ∨ m = 5 ∨ m = 6 ∨ m = 7 ∨ m = 8 ∨ m = 9 ∨ m = 10 ∨ m = 11 ∨ m = 12 ∨ m = 13 ∨ m = 14 ∨ m = 15 ∨ m = 16 := by omega
    clear h1 h2
    rcases this with rfl | rfl | rfl | rfl | rfl | rfl | rfl | rfl | rfl | rfl | rfl | rfl | rfl | rfl | rfl <;> exact fun _ => by kernel_rfl
  go_enter Tryz.func95, Tryz.ntmps95
  go_wp2_with fail
  go_ret
  exact ⟨rfl, rfl⟩

set_option maxRecDepth 100000 in
set_option maxHeartbeats 1000000 in
theorem res_add148 (p a b : Int) (w : World) (hp : 2 ≤ p) (hp' : p ≤ 65536) (ha : 0 ≤ a ∧ a < p) (hb : 0 ≤ b ∧ b < p) :
    Calls Tryz.prog 183 #[.agg #[.int .i64 p], .int .i64 a, .int .i64 b] w fun e w' => e = .returned (.int .i64 ((a + b) % p)) ∧ Kept w w' := by
  go_enter Tryz.func183, Tryz.ntmps183
  go_wp2_with fail
  go_ret
  exact ⟨rfl, kept_alloc (kept_refl w) _⟩
set_option maxRecDepth 100000 in
set_option maxHeartbeats 1000000 in
theorem res_neg150 (p a : Int) (w : World) (hp : 2 ≤ p) (hp' : p ≤ 65536) (ha : 0 ≤ a ∧ a < p) :
    Calls Tryz.prog 185 #[.agg #[.int .i64 p], .int .i64 a] w fun e w' => e = .returned (.int .i64 ((p - a) % p)) ∧ Kept w w' := by
  go_enter Tryz.func185, Tryz.ntmps185
  go_wp2_with fail
  go_ret
  exact ⟨rfl, kept_alloc (kept_refl w) _⟩
set_option maxRecDepth 100000 in
set_option maxHeartbeats 1000000 in
theorem res_mul149 (p a b : Int) (w : World) (hp : 2 ≤ p) (hp' : p ≤ 65536) (ha : 0 ≤ a ∧ a < p) (hb : 0 ≤ b ∧ b < p) :
    Calls Tryz.prog 184 #[.agg #[.int .i64 p], .int .i64 a, .int .i64 b] w fun e w' => e = .returned (.int .i64 (a * b % p)) ∧ Kept w w' := by
  obtain ⟨s, hs⟩ : ∃ s, s = a * b := ⟨_, rfl⟩
  have h0 : 0 ≤ s := by rw [hs]; exact Int.mul_nonneg ha.1 hb.1
  have h1 : s ≤ 65536 * 65536 := by rw [hs]; exact Int.mul_le_mul (by omega) (by omega) hb.1 (by omega)
  have hw : wrap64 (a * b) = s := by rw [← hs]; unfold wrap64; omega
  rw [← hs]
  clear hs
  go_enter Tryz.func184, Tryz.ntmps184
  go_wp2_with fail
  go_ret
  exact ⟨rfl, kept_alloc (kept_refl w) _⟩
theorem b_xor {a b : Nat} (ha : a < 2 ^ 62) (hb : b < 2 ^ 62) : bits .xor .i64 (a : Int) (b : Int) = ((a ^^^ b : Nat) : Int) := by
  have ha' : a % 2 ^ IntKind.i64.bits = a := Nat.mod_eq_of_lt (Nat.lt_of_lt_of_le ha (by decide))
  have hb' : b % 2 ^ IntKind.i64.bits = b := Nat.mod_eq_of_lt (Nat.lt_of_lt_of_le hb (by decide))
  have hx : a ^^^ b < 2 ^ 62 := Nat.xor_lt_two_pow ha hb
  simp only [bits, BitVec.ofInt_natCast, BitVec.toNat_xor, BitVec.toNat_ofNat, ha', hb']
  exact IntWalk.i64_in _ (by omega)
set_option maxRecDepth 100000 in
set_option maxHeartbeats 1000000 in
theorem bit_add151 (m M a b : Nat) (w : World) (ha : a ≤ 65536) (hb : b ≤ 65536) :
    Calls Tryz.prog 186 #[.agg #[.int .i64 m, .int .i64 M], .int .i64 a, .int .i64 b] w fun e w' => e = .returned (.int .i64 ((a ^^^ b : Nat) : Int)) ∧ Kept w w' := by
  have hx := b_xor (a := a) (b := b) (by omega) (by omega)
  go_enter Tryz.func186, Tryz.ntmps186
  go_wp2_with fail
  go_ret
  exact ⟨rfl, kept_alloc (kept_refl w) _⟩
set_option maxRecDepth 100000 in
set_option maxHeartbeats 1000000 in
theorem bit_neg153 (m M a : Nat) (w : World) :
    Calls Tryz.prog 188 #[.agg #[.int .i64 m, .int .i64 M], .int .i64 a] w fun e w' => e = .returned (.int .i64 a) ∧ Kept w w' := by
  go_enter Tryz.func188, Tryz.ntmps188
  go_wp2_with fail
  go_ret
  exact ⟨rfl, kept_alloc (kept_refl w) _⟩

/-- The arithmetic of a field, as an interface holds it. -/
def arV (P M : Int) : Value := if M = 1 then .iface 142 (.agg #[.int .i64 P]) else .iface 144 (.agg #[.int .i64 M, .int .i64 (modT M.toNat)])
set_option maxRecDepth 100000 in
set_option maxHeartbeats 1000000 in
theorem of86_one (P : Int) (w : World) : Calls Tryz.prog 78 #[fV P 1] w fun e w' => e = .returned (.iface 142 (.agg #[.int .i64 P])) ∧ Kept w w' := by
  unfold fV
  go_enter Tryz.func78, Tryz.ntmps78
  go_wp2_with fail
  go_ret
  exact ⟨rfl, kept_alloc (kept_refl w) _⟩
set_option maxRecDepth 100000 in
set_option maxHeartbeats 1000000 in
theorem of86_two (m : Nat) (w : World) (h1 : 2 ≤ m) (h2 : m ≤ 16) : Calls Tryz.prog 78 #[fV 2 m] w fun e w' => e = .returned (.iface 144 (.agg #[.int .i64 m, .int .i64 (modT m)])) ∧ Kept w w' := by
  unfold fV
  have C := Lib.hid fun w' => moduli98_any m w' h1 h2
  have d1 : ((m : Int) == 1) = false := beq_eq_false_iff_ne.2 (by omega)
  have d2 : (m == 1) = false := beq_eq_false_iff_ne.2 (by omega)
  have K0 := kept_alloc (kept_refl w) (.cells #[.int .i64 2, .int .i64 m] 23)
  go_enter Tryz.func78, Tryz.ntmps78
  go_wp2_with fail
  go_quiet ((go_at_call 95; exact Calls.quiet_of_same ((C.out _).mono fun _ _ ⟨a, b⟩ => ⟨a, b.symm⟩)))
  go_wp2_with fail
  go_ret
  exact ⟨rfl, below_drewN K0 _⟩
end Go.Proofs.YtikfeemmjfoffaaGreatDoor
