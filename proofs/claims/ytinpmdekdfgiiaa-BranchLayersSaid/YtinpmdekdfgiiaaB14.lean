/- Lists of natural numbers in memory; slices.Contains, has; the bits of tables. -/
import Derived.Test.YtinpmdekdfgiiaaB13
import Derived.Test.YtinpmdekdfgiiaaLe
set_option linter.unusedVariables false
set_option linter.unusedSimpArgs false
namespace Go.Proofs.Ytinpmdekdfgiiaa
open Go.RowKit

def nats (l : List Nat) : List Value := l.map fun x : Nat => .int .i64 (x : Int)
@[simp] theorem nats_length (l : List Nat) : (nats l).length = l.length := by simp [nats]
theorem nats_get (l : List Nat) (k : Nat) (h : k < l.length) : (nats l)[k]? = some (.int .i64 (na l k)) := by
  simp [nats, na, List.getElem?_eq_getElem h, List.getD_eq_getElem?_getD]
theorem Rd.nat {w : World} {A : Option Addr} {l : List Nat} (h : Rd w A (nats l)) {k : Nat} (hk : k < l.length) :
    ∃ b off, A = some ⟨b, off, none⟩ ∧ (∀ j, j < l.length → w.cell? ⟨b, off + j, none⟩ = some (.int .i64 (na l j))) := by
  obtain ⟨b, off, e, hc⟩ := h.at_ (ne_nil_of_lt (k := k) (by simpa using hk))
  exact ⟨b, off, e, fun j hj => hc j _ (nats_get l j hj)⟩
theorem nats_append (l m : List Nat) : nats l ++ nats m = nats (l ++ m) := by simp [nats]
theorem one_nats (l : List Nat) : ∀ u ∈ nats l, u.oneCell' = true := by
  intro u hu
  obtain ⟨x, _, rfl⟩ := List.mem_map.1 hu
  rfl
theorem contains_yes {l : List Nat} {x k : Nat} (hk : k < l.length) (h : na l k = x) : l.contains x = true := by
  rw [List.contains_iff_mem, ← h]; exact na_mem hk
theorem contains_no {l : List Nat} {x : Nat} (h : ∀ j, j < l.length → na l j ≠ x) : l.contains x = false := by
  rw [Bool.eq_false_iff]
  intro hc
  obtain ⟨k, hk, e⟩ := mem_na (List.contains_iff_mem.1 hc)
  exact h k hk e

def IdxPost (l : List Nat) (x : Nat) (w : World) (e : Ending) (w' : World) : Prop := ∃ r : Int, e = .returned (.int .i64 r) ∧ decide (0 ≤ r) = l.contains x ∧ w = w'

set_option maxRecDepth 100000 in
set_option maxHeartbeats 1000000 in
theorem index_any (A : Option Addr) (n c : Nat) (l : List Nat) (x : Nat) (w : World) (hr : Rd w A (nats l)) (hn : n = l.length) (hm : n ≤ 140737488355328) :
    Calls Try.prog 89 #[.slice A n c, .int .i64 x] w (IdxPost l x w) := by
  subst hn
  go_enter Try.func89, Try.ntmps89
  go_wp2_with fail
  go_loopg [8] l.length (fun g s8 wr => ∃ k : Nat, k ≤ l.length ∧ (∀ j, j < k → na l j ≠ x) ∧ g = l.length - k ∧ s8 = .int .i64 k ∧ w = wr)
  case atStart => exact ⟨0, by omega, by omega, rfl, rfl, rfl⟩
  case round =>
    obtain ⟨k, hk, hj, rfl, rfl, rfl⟩ := hrel
    have HJ := Lib.hid hj; clear hj
    by_cases hlt : k < l.length
    · obtain ⟨b, off, rfl, h1⟩ := hr.nat hlt
      have a0 := h1 k hlt
      clear h1
      by_cases he : x = na l k
      · have e1 : (x == na l k) = true := by simp [he]
        have HE := Lib.hid he; clear he
        go_wp2_with fail
        go_ret
        exact ⟨k, rfl, by rw [contains_yes hlt HE.out.symm]; simp, rfl⟩
      · have e1 : (x == na l k) = false := by simp [he]
        have HE := Lib.hid he; clear he
        go_wp2_with fail
        go_roundg (l.length - (k + 1))
        case rel => exact ⟨k + 1, by omega, fun j h => by rcases Nat.lt_succ_iff_lt_or_eq.1 h with h | rfl; exact HJ.out j h; exact fun e => HE.out e.symm, rfl, by go_num, rfl⟩
        case measure => omega
    · have : k = l.length := by omega
      subst this
      go_wp2_with fail
      go_ret
      exact ⟨-1, rfl, by rw [contains_no HJ.out]; rfl, rfl⟩

set_option maxRecDepth 100000 in
set_option maxHeartbeats 1000000 in
theorem contains_any (A : Option Addr) (n c : Nat) (l : List Nat) (x : Nat) (w : World) (hr : Rd w A (nats l)) (hn : n = l.length) (hm : n ≤ 140737488355328) :
    Calls Try.prog 65 #[.slice A n c, .int .i64 x] w fun e w' => e = .returned (.bool (l.contains x)) ∧ w = w' := by
  subst hn
  go_enter Try.func65, Try.ntmps65
  go_wp2_with fail
  refine (index_any _ _ _ _ _ _ hr rfl hm).mono ?_
  rintro e w1 ⟨r, rfl, h1, rfl⟩
  have H := Lib.hid h1; clear h1
  go_wp2_with fail
  go_ret
  exact ⟨ret_bool H.out, rfl⟩

set_option maxRecDepth 100000 in
set_option maxHeartbeats 1000000 in
theorem has_any (A : Option Addr) (n c : Nat) (l : List Nat) (x : Nat) (w : World) (hr : Rd w A (nats l)) (hn : n = l.length) (hm : n ≤ 140737488355328) :
    Calls Try.prog 90 #[.slice A n c, .int .i64 x] w fun e w' => e = .returned (.bool (l.contains x)) ∧ w = w' := by
  subst hn
  go_enter Try.func90, Try.ntmps90
  go_wp2_with fail
  go_loopg [5] l.length (fun g s5 wr => ∃ k : Nat, k ≤ l.length ∧ (∀ j, j < k → na l j ≠ x) ∧ g = l.length - k ∧ s5 = .int .i64 k ∧ w = wr)
  case atStart => exact ⟨0, by omega, by omega, rfl, rfl, rfl⟩
  case round =>
    obtain ⟨k, hk, hj, rfl, rfl, rfl⟩ := hrel
    have HJ := Lib.hid hj; clear hj
    by_cases hlt : k < l.length
    · obtain ⟨b, off, rfl, h1⟩ := hr.nat hlt
      have a0 := h1 k hlt
      clear h1
      by_cases he : na l k = x
      · have e1 : (na l k == x) = true := by simp [he]
        have HE := Lib.hid he; clear he
        go_wp2_with fail
        go_ret
        exact ⟨ret_bool (by rw [contains_yes hlt HE.out]), rfl⟩
      · have e1 : (na l k == x) = false := by simp [he]
        have HE := Lib.hid he; clear he
        go_wp2_with fail
        go_roundg (l.length - (k + 1))
        case rel => exact ⟨k + 1, by omega, fun j h => by rcases Nat.lt_succ_iff_lt_or_eq.1 h with h | rfl; exact HJ.out j h; exact HE.out, rfl, by go_num, rfl⟩
        case measure => omega
    · have : k = l.length := by omega
      subst this
      go_wp2_with fail
      go_ret
      exact ⟨ret_bool (by rw [contains_no HJ.out]), rfl⟩

/-! ### bits -/
theorem b_and {a b : Nat} (ha : a < 2 ^ 62) (hb : b < 2 ^ 62) : bits .and .i64 (a : Int) (b : Int) = ((a &&& b : Nat) : Int) :=
  (bits_nat .i64 62 (by decide) (fun m h0 h1 => IntWalk.i64_in m (by omega)) a b ha hb).1
theorem b_or {a b : Nat} (ha : a < 2 ^ 62) (hb : b < 2 ^ 62) : bits .or .i64 (a : Int) (b : Int) = ((a ||| b : Nat) : Int) :=
  (bits_nat .i64 62 (by decide) (fun m h0 h1 => IntWalk.i64_in m (by omega)) a b ha hb).2
theorem b_xor {a b : Nat} (ha : a < 2 ^ 62) (hb : b < 2 ^ 62) : bits .xor .i64 (a : Int) (b : Int) = ((a ^^^ b : Nat) : Int) := by
  have ha' : a % 2 ^ IntKind.i64.bits = a := Nat.mod_eq_of_lt (Nat.lt_of_lt_of_le ha (by decide))
  have hb' : b % 2 ^ IntKind.i64.bits = b := Nat.mod_eq_of_lt (Nat.lt_of_lt_of_le hb (by decide))
  have hx : a ^^^ b < 2 ^ 62 := Nat.xor_lt_two_pow ha hb
  simp only [bits, BitVec.ofInt_natCast, BitVec.toNat_xor, BitVec.toNat_ofNat, ha', hb']
  exact IntWalk.i64_in _ (by omega)
end Go.Proofs.Ytinpmdekdfgiiaa
