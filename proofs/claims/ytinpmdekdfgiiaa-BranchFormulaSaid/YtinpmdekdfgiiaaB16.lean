/- The reference's Least: columns, Inputs, Least. -/
import Derived.Test.YtinpmdekdfgiiaaB15
set_option linter.unusedVariables false
set_option linter.unusedSimpArgs false
namespace Go.Proofs.Ytinpmdekdfgiiaa
open Go.RowKit

/-- A number out of bits: the first k. -/
def bo (p : Nat → Bool) : Nat → Nat
  | 0 => 0
  | k + 1 => if p k then bo p k ||| 2 ^ k else bo p k
theorem bo_lt (p : Nat → Bool) (k : Nat) : bo p k < 2 ^ k := by
  induction k with
  | zero => simp [bo]
  | succ k ih =>
    have h1 : 2 ^ k < 2 ^ (k + 1) := Nat.pow_lt_pow_right (by omega) (by omega)
    unfold bo
    split
    · exact Nat.or_lt_two_pow (Nat.lt_trans ih h1) h1
    · exact Nat.lt_trans ih h1
theorem bo_62 (p : Nat → Bool) {k : Nat} (h : k ≤ 62) : bo p k < 2 ^ 62 := Nat.lt_of_lt_of_le (bo_lt p k) (Nat.pow_le_pow_right (by omega) h)
def cols (n : Nat) : List Nat := (List.range n).map fun v => bo (fun i => i.testBit v) (2 ^ n)
theorem cols_eq : ∀ n, n < 4 → cols n = varsN n := by decide +kernel
theorem bo_all : ∀ n, n < 4 → bo (fun _ => true) (2 ^ n) = allN' n := by decide +kernel

theorem shl_bit {k : Nat} (hk : k ≤ 61) {c : Nat} (hc : c < 2 ^ 62) : bits .or .i64 (c : Int) (wrap64 (2 ^ k)) = ((c ||| 2 ^ k : Nat) : Int) := by
  have h1 : 2 ^ k ≤ 2 ^ 61 := Nat.pow_le_pow_right (by omega) hk
  have h2 : ((2 : Int) ^ k) = ((2 ^ k : Nat) : Int) := by simp
  have h3 : wrap64 (2 ^ k) = ((2 ^ k : Nat) : Int) := by
    rw [h2]
    generalize 2 ^ k = m at *
    unfold wrap64
    omega
  rw [h3, b_or hc (by omega)]

def inpB (len : Nat) : Int := if len = 1 then 0 else if len = 2 then 1 else if len = 4 then 2 else if len = 8 then 3 else -1

set_option maxRecDepth 100000 in
set_option maxHeartbeats 1000000 in
theorem inputs_any (len : Nat) (w : World) (hl : len ≤ 140737488355328) :
    Calls Try.prog 24 #[.int .i64 len, .int .i64 3] w fun e w' => e = .returned (.int .i64 (inpB len)) ∧ w = w' := by
  by_cases h1 : len = 1
  · subst h1
    go_enter Try.func24, Try.ntmps24
    go_wp2_with fail
    refine wp_loop_rounds 6 ?_
    rw [rounds_succ]
    go_wp2_with fail
    go_ret
    exact ⟨rfl, rfl⟩
  by_cases h2 : len = 2
  · subst h2
    go_enter Try.func24, Try.ntmps24
    go_wp2_with fail
    refine wp_loop_rounds 6 ?_
    rw [rounds_succ]
    go_wp2_with fail
    rw [rounds_succ]
    go_wp2_with fail
    go_ret
    exact ⟨rfl, rfl⟩
  by_cases h4 : len = 4
  · subst h4
    go_enter Try.func24, Try.ntmps24
    go_wp2_with fail
    refine wp_loop_rounds 6 ?_
    rw [rounds_succ]
    go_wp2_with fail
    rw [rounds_succ]
    go_wp2_with fail
    rw [rounds_succ]
    go_wp2_with fail
    go_ret
    exact ⟨rfl, rfl⟩
  by_cases h8 : len = 8
  · subst h8
    go_enter Try.func24, Try.ntmps24
    go_wp2_with fail
    refine wp_loop_rounds 6 ?_
    rw [rounds_succ]
    go_wp2_with fail
    rw [rounds_succ]
    go_wp2_with fail
    rw [rounds_succ]
    go_wp2_with fail
    rw [rounds_succ]
    go_wp2_with fail
    go_ret
    exact ⟨rfl, rfl⟩
  have e1 : ((len : Int) == 1) = false := by rw [beq_eq_false_iff_ne]; omega
  have e2 : ((len : Int) == 2) = false := by rw [beq_eq_false_iff_ne]; omega
  have e4 : ((len : Int) == 4) = false := by rw [beq_eq_false_iff_ne]; omega
  have e8 : ((len : Int) == 8) = false := by rw [beq_eq_false_iff_ne]; omega
  have hi : inpB len = -1 := by unfold inpB; rw [if_neg h1, if_neg h2, if_neg h4, if_neg h8]
  have HI := Lib.hid hi; clear hi
  go_enter Try.func24, Try.ntmps24
  go_wp2_with fail
  refine wp_loop_rounds 6 ?_
  rw [rounds_succ]
  go_wp2_with fail
  rw [rounds_succ]
  go_wp2_with fail
  rw [rounds_succ]
  go_wp2_with fail
  rw [rounds_succ]
  go_wp2_with fail
  rw [rounds_succ]
  go_wp2_with fail
  go_ret
  exact ⟨by rw [HI.out]; rfl, rfl⟩

section
variable {P : Program} {ops : Array Oper} {rest : List Oper} {o : Oper} {a : Act} {Q : Exit → Act → World → Prop}
/-- append(v, x) for natural numbers: x the block of one number laid last. -/
theorem app_nat {W : World} (B : Nat) (hw : Region.wanted o (yielded ops a.tmps) = true) (s x : Operand) (t e : TypeId)
    (ho : o.op = .call { callee := .builtin .append, args := #[s, x], argTypes := #[t, t] })
    (ht : P.underlying t = some (.slice e)) (hinfo : (P.info? e).map (fun i => (i.zero, i.size, i.bytes)) = some (some (.int .i64 0), 1, 8))
    (v : Value) (n : Nat) (xs : List Nat) (y : Nat) (hs : a.eval s = v) (hx : a.eval x = .slice (some ⟨W.heap.size, 0, none⟩) 1 1)
    (HO : W.ownsRow B e 1 v n (nats xs)) (hB : B ≤ W.heap.size) (hl : n ≤ 17592186044415)
    (h : ∀ v1 w1, w1.ownsRow B e 1 v1 (n + 1) (nats (xs ++ [y])) → Kept W w1 ∨ W.grownBy w1 v.ownBlock → W.grownBy w1 v.ownBlock → wpList P ops Q rest (a.put o.dst v1) w1) :
    wpList P ops Q (o :: rest) a (W.alloc (.cells #[.int .i64 (y : Int)] e)) := by
  refine app_gen (W := W.alloc (.cells #[.int .i64 (y : Int)] e)) B hw s x t e (.int .i64 0) 1 8 ho ht hinfo rfl Nat.one_pos (by omega) v n 1 1 ⟨W.heap.size, 0, none⟩ (nats xs) (nats [y]) hs hx rfl (news_rd (Own.rd (Own.new W e (nats [y])))) (one_nats _) (HO.alloc _) (by simp; omega) (by omega) ?_
  intro v1 w1 h1 h2 _
  have g := World.grownBy.trans (World.grownBy_alloc W _ _) h2
  exact h v1 w1 (by rwa [nats_append] at h1) (.inr g) g
end

set_option maxRecDepth 100000 in
set_option maxHeartbeats 1000000 in
theorem columns_any (n : Nat) (w : World) (hn : n ≤ 3) :
    Calls Try.prog 67 #[.int .i64 n] w fun e w' => ∃ v, e = .returned v ∧ w'.ownsRow w.heap.size 3 1 v n (nats (cols n)) ∧ Kept w w' := by
  have hsh := shl_wrap n (by omega)
  have hN : 2 ^ n ≤ 8 := Nat.pow_le_pow_right (n := 2) (by omega) hn
  unfold cols
  generalize 2 ^ n = N at *
  go_enter Try.func67, Try.ntmps67
  go_wp2_with fail
  go_loopg [3, 4] n (fun g s3 s4 wr => ∃ v : Nat, v ≤ n ∧ g = n - v ∧ s4 = .int .i64 v ∧ Kept w wr ∧ wr.ownsRow w.heap.size 3 1 s3 v (nats ((List.range v).map fun v => bo (fun i => i.testBit v) N)))
  case atStart => exact ⟨0, by omega, rfl, rfl, kept_refl _, World.ownsRow_nil _ _ _ _⟩
  case round =>
    obtain ⟨v, hv, rfl, rfl, k1, hrow⟩ := hrel
    by_cases hlt : v < n
    · go_wp2_with fail
      go_loopg [5, 6] N (fun g s5 s6 wq => ∃ k : Nat, k ≤ N ∧ g = N - k ∧ s6 = .int .i64 k ∧ s5 = .int .i64 (bo (fun i => i.testBit v) k : Nat) ∧ wr = wq)
      case atStart => exact ⟨0, by omega, rfl, rfl, rfl, rfl⟩
      case round =>
        rename_i wr0 _
        obtain ⟨k, hk, rfl, rfl, rfl, rfl⟩ := hrel
        by_cases hlt2 : k < N
        · have hb := bit_and (a := (k : Int)) (by omega) (by omega) v
          rw [Int.toNat_natCast] at hb
          have hor := shl_bit (k := k) (by omega) (bo_62 (fun i => i.testBit v) (k := k) (by omega))
          cases ht : k.testBit v
          · rw [ht] at hb
            go_wp2_with fail
            go_roundg (N - (k + 1))
            case rel => exact ⟨k + 1, by omega, rfl, by go_num, by rw [bo]; simp [ht], rfl⟩
            case measure => omega
          · rw [ht] at hb
            go_wp2_with fail
            go_roundg (N - (k + 1))
            case rel => exact ⟨k + 1, by omega, rfl, by go_num, by rw [bo]; simp [ht], rfl⟩
            case measure => omega
        · have : k = N := by omega
          subst this
          have sz := k1.size
          go_wp2_with (at_builtin; refine app_nat w.heap.size rfl (.tmp 27) (.tmp 29) 36 3 rfl Try.underlying36 info3 u3 v _ _ rfl rfl hrow sz (by omega) ?_; intro v3 w3 hr3 _ hg3)
          go_roundg (n - (v + 1))
          case rel => exact ⟨v + 1, by omega, rfl, by go_num, kept_grown k1 hrow (Nat.le_refl _) hg3, by simpa [List.range_succ] using hr3⟩
          case measure => omega
    · have : v = n := by omega
      subst this
      go_wp2_with fail
      go_ret
      exact ⟨u3, rfl, hrow, k1⟩
end Go.Proofs.Ytinpmdekdfgiiaa
