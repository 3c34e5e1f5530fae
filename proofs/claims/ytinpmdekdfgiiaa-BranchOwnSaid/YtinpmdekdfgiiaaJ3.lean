/- Joined: B14, B15, B16, B17, B18. -/
import Derived.Test.YtinpmdekdfgiiaaJ2
import Derived.Test.YtinpmdekdfgiiaaLe
import Derived.Test.YtinpmdekdfgiiaaLib2
import Derived.Test.YtinpmdekdfgiiaaLib3
/- Lists of natural numbers in memory; slices.Contains, has; the bits of tables. -/
set_option linter.unusedVariables false
set_option linter.unusedSimpArgs false
namespace Go.Proofs.Ytinpmdekdfgiiaa
open Go.RowKit

def nats (l : List Nat) : List Value := l.map fun x : Nat => .int .i64 (x : Int)
@[simp] theorem nats_length (l : List Nat) : (nats l).length = l.length := by simp [nats]
theorem nats_get (l : List Nat) (k : Nat) (h : k < l.length) : (nats l)[k]? = some (.int .i64 (na l k)) := by
  simp [nats, na, List.getElem?_eq_getElem h, List.getD_eq_getElem?_getD]
theorem Rd.nat {w : World} {A : Option Addr} {l : List Nat} (h : Rd w A (nats l)) {k : Nat} (hk : k < l.length) :
    ∃ b off, A = some ⟨b, off, none⟩ ∧ (∀ j, j < l.length → w.cell? ⟨b, off + j, none⟩ = some (.int .i64 (na l j))) := by
  obtain ⟨b, off, e, hc⟩ := h.at_ (ne_nil_of_lt (k := k) (by simpa using hk))
  exact ⟨b, off, e, fun j hj => hc j _ (nats_get l j hj)⟩
theorem nats_append (l m : List Nat) : nats l ++ nats m = nats (l ++ m) := by simp [nats]
theorem one_nats (l : List Nat) : ∀ u ∈ nats l, u.oneCell' = true := by
  intro u hu
  obtain ⟨x, _, rfl⟩ := List.mem_map.1 hu
  rfl
theorem contains_yes {l : List Nat} {x k : Nat} (hk : k < l.length) (h : na l k = x) : l.contains x = true := by
  rw [List.contains_iff_mem, ← h]; exact na_mem hk
theorem contains_no {l : List Nat} {x : Nat} (h : ∀ j, j < l.length → na l j ≠ x) : l.contains x = false := by
  rw [Bool.eq_false_iff]
  intro hc
  obtain ⟨k, hk, e⟩ := mem_na (List.contains_iff_mem.1 hc)
  exact h k hk e

def IdxPost (l : List Nat) (x : Nat) (w : World) (e : Ending) (w' : World) : Prop := ∃ r : Int, e = .returned (.int .i64 r) ∧ decide (0 ≤ r) = l.contains x ∧ w = w'

set_option maxRecDepth 100000 in
set_option maxHeartbeats 1000000 in
theorem index_any (A : Option Addr) (n c : Nat) (l : List Nat) (x : Nat) (w : World) (hr : Rd w A (nats l)) (hn : n = l.length) (hm : n ≤ 140737488355328) :
    Calls Try.prog 89 #[.slice A n c, .int .i64 x] w (IdxPost l x w) := by
  subst hn
  go_enter Try.func89, Try.ntmps89
  go_wp2_with fail
  go_loopg [8] l.length (fun g s8 wr => ∃ k : Nat, k ≤ l.length ∧ (∀ j, j < k → na l j ≠ x) ∧ g = l.length - k ∧ s8 = .int .i64 k ∧ w = wr)
  case atStart => exact ⟨0, by omega, by omega, rfl, rfl, rfl⟩
  case round =>
    obtain ⟨k, hk, hj, rfl, rfl, rfl⟩ := hrel
    have HJ := Lib.hid hj; clear hj
    by_cases hlt : k < l.length
    · obtain ⟨b, off, rfl, h1⟩ := hr.nat hlt
      have a0 := h1 k hlt
      clear h1
      by_cases he : x = na l k
      · have e1 : (x == na l k) = true := by simp [he]
        have HE := Lib.hid he; clear he
        go_wp2_with fail
        go_ret
        exact ⟨k, rfl, by rw [contains_yes hlt HE.out.symm]; simp, rfl⟩
      · have e1 : (x == na l k) = false := by simp [he]
        have HE := Lib.hid he; clear he
        go_wp2_with fail
        go_roundg (l.length - (k + 1))
        case rel => exact ⟨k + 1, by omega, fun j h => by rcases Nat.lt_succ_iff_lt_or_eq.1 h with h | rfl; exact HJ.out j h; exact fun e => HE.out e.symm, rfl, by go_num, rfl⟩
        case measure => omega
    · have : k = l.length := by omega
      subst this
      go_wp2_with fail
      go_ret
      exact ⟨-1, rfl, by rw [contains_no HJ.out]; rfl, rfl⟩

set_option maxRecDepth 100000 in
set_option maxHeartbeats 1000000 in
theorem contains_any (A : Option Addr) (n c : Nat) (l : List Nat) (x : Nat) (w : World) (hr : Rd w A (nats l)) (hn : n = l.length) (hm : n ≤ 140737488355328) :
    Calls Try.prog 65 #[.slice A n c, .int .i64 x] w fun e w' => e = .returned (.bool (l.contains x)) ∧ w = w' := by
  subst hn
  go_enter Try.func65, Try.ntmps65
  go_wp2_with fail
  refine (index_any _ _ _ _ _ _ hr rfl hm).mono ?_
  rintro e w1 ⟨r, rfl, h1, rfl⟩
  have H := Lib.hid h1; clear h1
  go_wp2_with fail
  go_ret
  exact ⟨ret_bool H.out, rfl⟩

/-! ### bits -/
theorem b_and {a b : Nat} (ha : a < 2 ^ 62) (hb : b < 2 ^ 62) : bits .and .i64 (a : Int) (b : Int) = ((a &&& b : Nat) : Int) :=
  (bits_nat .i64 62 (by decide) (fun m h0 h1 => IntWalk.i64_in m (by omega)) a b ha hb).1
theorem b_or {a b : Nat} (ha : a < 2 ^ 62) (hb : b < 2 ^ 62) : bits .or .i64 (a : Int) (b : Int) = ((a ||| b : Nat) : Int) :=
  (bits_nat .i64 62 (by decide) (fun m h0 h1 => IntWalk.i64_in m (by omega)) a b ha hb).2
end Go.Proofs.Ytinpmdekdfgiiaa

/- The search of the reference: made. -/
set_option linter.unusedVariables false
set_option linter.unusedSimpArgs false
namespace Go.Proofs.Ytinpmdekdfgiiaa
open Go.RowKit

theorem sel_lt {all v a c : Nat} (h1 : all < 2 ^ 62) (h2 : v < 2 ^ 62) (h3 : a < 2 ^ 62) (h4 : c < 2 ^ 62) : sel all v a c < 2 ^ 62 :=
  Nat.or_lt_two_pow (Nat.and_lt_two_pow _ (Nat.xor_lt_two_pow h1 h2)) (Nat.and_lt_two_pow _ h2)
theorem na_lt {l : List Nat} (h : ∀ x ∈ l, x < 2 ^ 62) (k : Nat) : na l k < 2 ^ 62 := by
  by_cases hk : k < l.length
  · exact h _ (na_mem hk)
  · simp [na, List.getD_eq_getElem?_getD, List.getElem?_eq_none (Nat.le_of_not_lt hk)]

theorem anyN_upto {n : Nat} {p : Nat → Bool} {k : Nat} (hk : k < n) (h : p k = true) : anyN n p = true := anyN_true.2 ⟨k, hk, h⟩

def MadePost (b : Bool) (w : World) (e : Ending) (w' : World) : Prop := e = .returned (.bool b) ∧ Kept w w'

end Go.Proofs.Ytinpmdekdfgiiaa

/- The reference's Least: columns, Inputs, Least. -/
set_option linter.unusedVariables false
set_option linter.unusedSimpArgs false
namespace Go.Proofs.Ytinpmdekdfgiiaa
open Go.RowKit

/-- A number out of bits: the first k. -/
def bo (p : Nat → Bool) : Nat → Nat
  | 0 => 0
  | k + 1 => if p k then bo p k ||| 2 ^ k else bo p k
theorem bo_lt (p : Nat → Bool) (k : Nat) : bo p k < 2 ^ k := by
  induction k with
  | zero => simp [bo]
  | succ k ih =>
    have h1 : 2 ^ k < 2 ^ (k + 1) := Nat.pow_lt_pow_right (by omega) (by omega)
    unfold bo
    split
    · exact Nat.or_lt_two_pow (Nat.lt_trans ih h1) h1
    · exact Nat.lt_trans ih h1
theorem bo_62 (p : Nat → Bool) {k : Nat} (h : k ≤ 62) : bo p k < 2 ^ 62 := Nat.lt_of_lt_of_le (bo_lt p k) (Nat.pow_le_pow_right (by omega) h)
def cols (n : Nat) : List Nat := (List.range n).map fun v => bo (fun i => i.testBit v) (2 ^ n)
theorem cols_eq : ∀ n, n < 4 → cols n = varsN n := by decide +kernel
theorem bo_all : ∀ n, n < 4 → bo (fun _ => true) (2 ^ n) = allN' n := by decide +kernel

theorem shl_bit {k : Nat} (hk : k ≤ 61) {c : Nat} (hc : c < 2 ^ 62) : bits .or .i64 (c : Int) (wrap64 (2 ^ k)) = ((c ||| 2 ^ k : Nat) : Int) := by
  have h1 : 2 ^ k ≤ 2 ^ 61 := Nat.pow_le_pow_right (by omega) hk
  have h2 : ((2 : Int) ^ k) = ((2 ^ k : Nat) : Int) := by simp
  have h3 : wrap64 (2 ^ k) = ((2 ^ k : Nat) : Int) := by
    rw [h2]
    generalize 2 ^ k = m at *
    unfold wrap64
    omega
  rw [h3, b_or hc (by omega)]

def inpB (len : Nat) : Int := if len = 1 then 0 else if len = 2 then 1 else if len = 4 then 2 else if len = 8 then 3 else -1

section
variable {P : Program} {ops : Array Oper} {rest : List Oper} {o : Oper} {a : Act} {Q : Exit → Act → World → Prop}
end

end Go.Proofs.Ytinpmdekdfgiiaa

/- The reference's Least. -/
set_option linter.unusedVariables false
set_option linter.unusedSimpArgs false
namespace Go.Proofs.Ytinpmdekdfgiiaa
open Go.RowKit

theorem firstK_at {p : Nat → Bool} {k : Nat} : ∀ (f a : Nat), (∀ i, a ≤ i → i < k → p i = false) → a ≤ k → k < a + f → p k = true → firstK p f a = k := by
  intro f
  induction f with
  | zero => intro a _ h1 h2 _; omega
  | succ f ih =>
    intro a h h1 h2 h3
    unfold firstK
    by_cases e : a = k
    · subst e; rw [if_pos h3]
    · rw [h a (Nat.le_refl _) (by omega)]
      exact ih (a + 1) (fun i hi hk => h i (by omega) hk) (by omega) (by omega) h3
theorem firstK_none {p : Nat → Bool} : ∀ (f a : Nat), (∀ i, a ≤ i → i < a + f → p i = false) → firstK p f a = a + f := by
  intro f
  induction f with
  | zero => intro a _; rfl
  | succ f ih =>
    intro a h
    unfold firstK
    rw [h a (Nat.le_refl _) (by omega)]
    have := ih (a + 1) (fun i hi hk => h i (by omega) (by omega))
    simp only [Bool.false_eq_true, if_false]
    omega

theorem vars_lt {n : Nat} : ∀ x ∈ varsN n, x < 2 ^ 62 := by
  intro x hx
  match n with
  | 0 => simp [varsN] at hx
  | 1 => simp [varsN] at hx; omega
  | 2 => simp [varsN] at hx; omega
  | n + 3 => simp [varsN] at hx; omega
theorem all_lt {n : Nat} : allN' n < 2 ^ 62 := by
  match n with
  | 0 => simp [allN']
  | 1 => simp [allN']
  | 2 => simp [allN']
  | n + 3 => simp [allN']
theorem vars_length {n : Nat} (h : n ≤ 3) : (varsN n).length = n := by
  match n, h with
  | 0, _ => rfl
  | 1, _ => rfl
  | 2, _ => rfl
  | 3, _ => rfl

end Go.Proofs.Ytinpmdekdfgiiaa

/- The program's Least: its function literals for bits, and the search. -/
set_option linter.unusedVariables false
set_option linter.unusedSimpArgs false
namespace Go.Proofs.Ytinpmdekdfgiiaa
open Go.RowKit

set_option maxHeartbeats 400000 in
theorem lit61_any (w : World) (g b off n c : Nat) (xs : List Bool) (hx : ∀ j, j < xs.length → w.cell? ⟨b, off + j, none⟩ = some (.bool (ba xs j))) (hn : xs.length = n) (hm : n ≤ 140737488355328) (i : Int) (h0 : 0 ≤ i) (h1 : i < n)
    (hg : w.cell? ⟨g, 0, none⟩ = some (.slice (some ⟨b, off, none⟩) n c)) :
    Calls Try.prog 61 #[.int .i64 i, .pointer (some ⟨g, 0, none⟩)] w fun e w' => e = .returned (.bool (ba xs i.toNat)) ∧ w = w' := by
  have hc := hx i.toNat (by omega)
  clear hx
  go_enter Try.func61, Try.ntmps61
  go_wp2
  go_ret
  exact ⟨rfl, rfl⟩
theorem asks61 {w : World} {g n c : Nat} {X : Option Addr} {x : List Bool} (hX : Rd w X (bools x)) (hn : x.length = n) (hm : n ≤ 140737488355328)
    (hg : w.cell? ⟨g, 0, none⟩ = some (.slice X n c)) : Asks w (.func (.func 61) #[] #[.pointer (some ⟨g, 0, none⟩)]) n (ba x) :=
  ⟨61, _, rfl, enters_of Try.func61 (by kernel_rfl) rfl, fun i w' h0 h1 k => by
    obtain ⟨b, off, rfl, hx⟩ := hX.bool (k := 0) (by omega)
    exact lit61_any w' g b off n c x (fun j hj => kept_cell k (hx j hj)) hn hm i h0 h1 (kept_cell k hg)⟩

set_option maxHeartbeats 400000 in
theorem lit62_any (w : World) (g k : Nat) (hk : k < 16) (i : Int) (h0 : 0 ≤ i) (h1 : i < 1000000) (hg : w.cell? ⟨g, 0, none⟩ = some (.int .i64 k)) :
    Calls Try.prog 62 #[.int .i64 i, .pointer (some ⟨g, 0, none⟩)] w fun e w' => e = .returned (.bool (i.toNat.testBit k)) ∧ w = w' := by
  go_enter Try.func62, Try.ntmps62
  go_wp2
  go_ret
  exact ⟨ret_bool (bit_and h0 h1 _), rfl⟩
theorem asks62 {w : World} {g k : Nat} (hk : k < 16) {n : Nat} (hn : n ≤ 1000) (hg : w.cell? ⟨g, 0, none⟩ = some (.int .i64 k)) : Asks w (.func (.func 62) #[] #[.pointer (some ⟨g, 0, none⟩)]) n (fun i => i.testBit k) :=
  ⟨62, _, rfl, enters_of Try.func62 (by kernel_rfl) rfl, fun i w' h0 h1 kk => lit62_any w' g k hk i h0 (by omega) (kept_cell kk hg)⟩

set_option maxHeartbeats 400000 in
theorem lit63_any (w : World) (i : Int) : Calls Try.prog 63 #[.int .i64 i] w fun e w' => e = .returned (.bool true) ∧ w = w' := by
  go_enter Try.func63, Try.ntmps63
  go_wp2
  go_ret
  exact ⟨rfl, rfl⟩
theorem asks63 (w : World) (n : Int) : Asks w (.func (.func 63) #[] #[]) n (fun _ => true) :=
  ⟨63, _, rfl, enters_of Try.func63 (by kernel_rfl) rfl, fun i w' _ _ _ => lit63_any w' i⟩

set_option maxRecDepth 100000 in
set_option maxHeartbeats 1000000 in
theorem bitsof_any (w : World) (g n c : Nat) (X : Option Addr) (fv : Value) (x : Nat → Bool) (hn : n ≤ 62) (hA : Asks w fv n x) (hg : w.cell? ⟨g, 0, none⟩ = some (.slice X n c)) :
    Calls Try.prog 60 #[fv, .pointer (some ⟨g, 0, none⟩)] w fun e w' => e = .returned (.int .i64 (bo x n : Nat)) ∧ w = w' := by
  obtain ⟨f, cap, rfl, hE, hf⟩ := hA.gives
  have HF := Lib.hid hf; clear hf hA
  go_enter Try.func60, Try.ntmps60
  go_wp2_with fail
  go_loopg [4, 8] n (fun g s4 s8 wr => ∃ k : Nat, k ≤ n ∧ g = n - k ∧ s8 = .int .i64 k ∧ s4 = .int .i64 (bo x k : Nat) ∧ w = wr)
  case atStart => exact ⟨0, by omega, rfl, rfl, rfl, rfl⟩
  case round =>
    obtain ⟨k, hk, rfl, rfl, rfl, rfl⟩ := hrel
    by_cases hlt : k < n
    · have hor := shl_bit (k := k) (by omega) (bo_62 x (k := k) (by omega))
      have hEn := fun W => hE (#[.int .i64 (k : Int)] ++ cap) W
      have hc := HF.out k w (by omega) (by omega) (kept_refl w)
      rw [Int.toNat_natCast] at hc
      have HC := Lib.hid hc; clear hc
      cases ht : x k
      all_goals
        have HT := Lib.hid ht; clear ht
        go_wp2_with fail
        refine HC.out.mono ?_
        rintro e w1 ⟨rfl, rfl⟩
        rw [HT.out]
        go_wp2_with fail
        go_roundg (n - (k + 1))
        case rel => exact ⟨k + 1, by omega, rfl, by go_num, by rw [bo, HT.out]; rfl, rfl⟩
        case measure => omega
    · have : k = n := by omega
      subst this
      go_wp2_with fail
      go_ret
      exact ⟨rfl, rfl⟩
end Go.Proofs.Ytinpmdekdfgiiaa
