/- The search of the reference: made. -/
import Derived.Test.YtinpmdekdfgiiaaB14
import Derived.Test.YtinpmdekdfgiiaaLib2
set_option linter.unusedVariables false
set_option linter.unusedSimpArgs false
namespace Go.Proofs.Ytinpmdekdfgiiaa
open Go.RowKit

theorem sel_lt {all v a c : Nat} (h1 : all < 2 ^ 62) (h2 : v < 2 ^ 62) (h3 : a < 2 ^ 62) (h4 : c < 2 ^ 62) : sel all v a c < 2 ^ 62 :=
  Nat.or_lt_two_pow (Nat.and_lt_two_pow _ (Nat.xor_lt_two_pow h1 h2)) (Nat.and_lt_two_pow _ h2)
theorem sel_bits {all v a c : Nat} (h1 : all < 2 ^ 62) (h2 : v < 2 ^ 62) (h3 : a < 2 ^ 62) (h4 : c < 2 ^ 62) :
    bits .or .i64 (bits .and .i64 (c : Int) (bits .xor .i64 (all : Int) (v : Int))) (bits .and .i64 (a : Int) (v : Int)) = (sel all v a c : Nat) := by
  rw [b_xor h1 h2, b_and h4 (Nat.xor_lt_two_pow h1 h2), b_and h3 h2, b_or (Nat.and_lt_two_pow _ (Nat.xor_lt_two_pow h1 h2)) (Nat.and_lt_two_pow _ h2)]
  rfl
theorem na_lt {l : List Nat} (h : ∀ x ∈ l, x < 2 ^ 62) (k : Nat) : na l k < 2 ^ 62 := by
  by_cases hk : k < l.length
  · exact h _ (na_mem hk)
  · simp [na, List.getD_eq_getElem?_getD, List.getElem?_eq_none (Nat.le_of_not_lt hk)]

theorem anyN_upto {n : Nat} {p : Nat → Bool} {k : Nat} (hk : k < n) (h : p k = true) : anyN n p = true := anyN_true.2 ⟨k, hk, h⟩

theorem made_yes {vars : List Nat} {all goal n : Nat} {known : List Nat} {v i j : Nat} (h1 : v < vars.length) (h2 : i < known.length) (h3 : j < known.length)
    (h : madeT all goal (madeS vars all goal n) n known (na vars v) (na known i) (na known j) = true) : true = madeS vars all goal (n + 1) known := by
  rw [madeS, anyN_upto h1 (anyN_upto h2 (anyN_upto h3 h)), Bool.or_true]

def MadePost (b : Bool) (w : World) (e : Ending) (w' : World) : Prop := e = .returned (.bool b) ∧ Kept w w'

set_option maxRecDepth 100000 in
set_option maxHeartbeats 1000000 in
theorem made_any (vars : List Nat) (all goal : Nat) (V : Option Addr) (cv : Nat) (hv : ∀ x ∈ vars, x < 2 ^ 62) (hall : all < 2 ^ 62) (hvl : vars.length ≤ 1000) : ∀ (n : Nat) (m : Int) (known : List Nat) (A : Option Addr) (kl c : Nat) (w : World), m = n → n ≤ 1000 → (∀ x ∈ known, x < 2 ^ 62) → known.length + n ≤ 2000 → kl = known.length → 0 < kl → Rd w A (nats known) → Rd w V (nats vars) →
    Calls Try.prog 66 #[.slice A kl c, .slice V vars.length cv, .int .i64 all, .int .i64 goal, .int .i64 m] w (MadePost (madeS vars all goal n known) w) := by
  intro n
  induction n with
  | zero =>
    intro m known A kl c w hm hn hk hkn hkl h0 hA hV
    have e1 : (m == 0) = true := by simp [hm]
    subst hkl
    clear hm
    cases hg : known.contains goal
    all_goals
      go_enter Try.func66, Try.ntmps66
      go_wp2_with fail
      refine (has_any _ _ _ _ _ _ hA rfl (by omega)).mono ?_
      rintro e w1 ⟨rfl, rfl⟩
      rw [hg]
      go_wp2_with fail
      go_ret
      exact ⟨ret_bool (by rw [madeS, hg]), kept_refl _⟩
  | succ n ih =>
    intro m known A kl c w hm hn hk hkn hkl h0 hA hV
    have IH := Lib.hid ih; clear ih
    have e1 : (m == 0) = false := by rw [beq_eq_false_iff_ne]; omega
    have HM := Lib.hid hm
    have m1 : 1 ≤ m := by omega
    have m2 : m ≤ 1000 := by omega
    clear hm
    subst hkl
    cases hg : known.contains goal
    · go_enter Try.func66, Try.ntmps66
      go_wp2_with fail
      refine (has_any _ _ _ _ _ _ hA rfl (by omega)).mono ?_
      rintro e w1 ⟨rfl, rfl⟩
      rw [hg]
      have HG := Lib.hid hg; clear hg
      go_wp2_with fail
      go_loopg [11] vars.length (fun g s11 wr => ∃ v : Nat, v ≤ vars.length ∧ (∀ v', v' < v → anyN known.length (fun i => anyN known.length fun j => madeT all goal (madeS vars all goal n) n known (na vars v') (na known i) (na known j)) = false) ∧ g = vars.length - v ∧ s11 = .int .i64 v ∧ Kept w wr)
      case atStart => exact ⟨0, by omega, by omega, rfl, rfl, kept_refl _⟩
      case round =>
        obtain ⟨v, hvv, hj1, rfl, rfl, k1⟩ := hrel
        have H1 := Lib.hid hj1; clear hj1
        by_cases hlt1 : v < vars.length
        · go_wp2_with fail
          go_loopg [12] known.length (fun g s12 wr => ∃ i : Nat, i ≤ known.length ∧ (∀ i', i' < i → anyN known.length (fun j => madeT all goal (madeS vars all goal n) n known (na vars v) (na known i') (na known j)) = false) ∧ g = known.length - i ∧ s12 = .int .i64 i ∧ Kept w wr)
          case atStart => exact ⟨0, by omega, by omega, rfl, rfl, k1⟩
          case round =>
            clear k1
            obtain ⟨i, hii, hj2, rfl, rfl, k1⟩ := hrel
            have H2 := Lib.hid hj2; clear hj2
            by_cases hlt2 : i < known.length
            · go_wp2_with fail
              go_loopg [13] known.length (fun g s13 wr => ∃ j : Nat, j ≤ known.length ∧ (∀ j', j' < j → madeT all goal (madeS vars all goal n) n known (na vars v) (na known i) (na known j') = false) ∧ g = known.length - j ∧ s13 = .int .i64 j ∧ Kept w wr)
              case atStart => exact ⟨0, by omega, by omega, rfl, rfl, k1⟩
              case round =>
                clear k1
                obtain ⟨j, hjj, hj3, rfl, rfl, k1⟩ := hrel
                have H3 := Lib.hid hj3; clear hj3
                by_cases hlt3 : j < known.length
                · obtain ⟨bA, oA, rfl, hcA⟩ := hA.nat hlt2
                  obtain ⟨bV, oV, rfl, hcV⟩ := hV.nat hlt1
                  have a1 := kept_cell k1 (hcA i hlt2)
                  have a2 := kept_cell k1 (hcA j hlt3)
                  have a3 := kept_cell k1 (hcV v hlt1)
                  clear hcA hcV
                  have fb := sel_bits hall (na_lt hv v) (na_lt hk j) (na_lt hk i)
                  have fl := sel_lt hall (na_lt hv v) (na_lt hk j) (na_lt hk i)
                  go_wp2_with fail
                  go_upto_region 14 with fail
                  go_cut [14] (fun s14 wx => s14 = .int .i64 (sel all (na vars v) (na known j) (na known i) : Nat) ∧ ∃ q, wx = wr.drewN q)
                  case first =>
                    go_quiet (fail)
                    go_wp2_with fail
                    go_meet
                    exact ⟨rfl, _, rfl⟩
                  case rest =>
                    clear a1 a2 a3 fb
                    obtain ⟨rfl, q, rfl⟩ := hcut
                    replace k1 := below_drewN k1 q
                    have hTd : ∀ b, madeT all goal (madeS vars all goal n) n known (na vars v) (na known i) (na known j) = b ↔ ((n == 0 && sel all (na vars v) (na known j) (na known i) == goal) || (decide (0 < n) && !known.contains (sel all (na vars v) (na known j) (na known i)) && madeS vars all goal n (known ++ [sel all (na vars v) (na known j) (na known i)]))) = b := fun b => Iff.rfl
                    have HT := Lib.hid hTd; clear hTd
                    generalize sel all (na vars v) (na known j) (na known i) = f at *
                    by_cases hn0 : n = 0
                    · have e2 : (m == 1) = true := by have := HM.out; simp; omega
                      have e3 : decide (1 < m) = false := by have := HM.out; simp; omega
                      have HN := Lib.hid hn0; clear hn0
                      by_cases hfg : f = goal
                      · have e4 : (f == goal) = true := by simp [hfg]
                        have HF := Lib.hid hfg; clear hfg
                        go_wp2_with fail
                        go_ret
                        exact ⟨ret_bool (made_yes hlt1 hlt2 hlt3 ((HT.out true).2 (by simp [HN.out, HF.out]))), k1⟩
                      · have e4 : (f == goal) = false := by simp [hfg]
                        have e5 : ((f : Int) == (goal : Int)) = false := by rw [beq_eq_false_iff_ne]; omega
                        have HF := Lib.hid hfg; clear hfg
                        go_wp2_with fail
                        go_roundg (known.length - (j + 1))
                        case rel => exact ⟨j + 1, by omega, fun j' h => by rcases Nat.lt_succ_iff_lt_or_eq.1 h with h | rfl; exact H3.out j' h; exact (HT.out false).2 (by simp [HN.out, HF.out]), rfl, by go_num, k1⟩
                        case measure => omega
                    · have e2 : (m == 1) = false := by have := HM.out; rw [beq_eq_false_iff_ne]; omega
                      have e3 : decide (1 < m) = true := by have := HM.out; simp; omega
                      have HN := Lib.hid hn0; clear hn0
                      have hA3 := hA.kept k1
                      cases hc : known.contains f
                      · have HC := Lib.hid hc; clear hc
                        have hrec := fun (m' : Int) (A' : Option Addr) (kl' c' : Nat) (w' : World) (e5 : m' = n) (e6 : kl' = (known ++ [f]).length) (hA' : Rd w' A' (nats (known ++ [f]))) (hV' : Rd w' (some ⟨bV, oV, none⟩) (nats vars)) => IH.out m' (known ++ [f]) A' kl' c' w' e5 (by omega) (by intro x hx; rcases List.mem_append.1 hx with h | h; exact hk x h; rw [List.mem_singleton.1 h]; exact fl) (by simp; omega) e6 (by rw [e6]; simp) hA' hV'
                        have HREC := Lib.hid hrec; clear hrec
                        have k6 := kept_alloc k1 (.cells #[] 3)
                        have hA4 := news_rd (hA.kept k6)
                        have hr0 : ((wr.drewN q).alloc (.cells #[] 3)).ownsRow wr.heap.size 3 1 (.slice (some ⟨wr.heap.size, 0, none⟩) 0 0) 0 [] := (Own.new (wr.drewN q) 3 []).row _ 1 0 (Nat.le_refl _) rfl (by omega)
                        have hb0 : wr.heap.size ≤ ((wr.drewN q).alloc (.cells #[] 3)).heap.size := by simp
                        have hl0 : (0 + known.length) * 8 ≤ 140737488355328 := by omega
                        have hl1 : (known.length + 1) * 8 ≤ 140737488355328 := by omega
                        have hy0 : (nats known).length = known.length * 1 := by simp
                        have hw0 : w.heap.size ≤ wr.heap.size := k1.size
                        go_wp2_with (first
                          | (go_at_call 90; refine (has_any _ _ _ _ _ _ hA3 rfl (by omega)).mono ?_; rintro e w5 ⟨rfl, rfl⟩; rw [HC.out])
                          | (at_builtin; refine app_gen wr.heap.size rfl (.tmp 76) (.tmp 77) 36 3 (.int .i64 0) 1 8 rfl Try.underlying36 info3 rfl Nat.one_pos (by decide) (.slice (some ⟨wr.heap.size, 0, none⟩) 0 0) 0 known.length c ⟨bA, oA, none⟩ [] (nats known) rfl rfl hy0 hA4 (one_nats _) hr0 hb0 hl0 ?_; intro v6 w6 hr6 hg6 hat6; rw [Nat.zero_add, List.nil_append] at hr6; have k7 := kept_grown k6 hr0 hw0 hg6; have hr6a := row_alloc hr6 (.cells (nats [f]).toArray 3); have hN6 := news_rd (Own.rd (Own.new w6 3 (nats [f]))); have hb6 := Nat.le_trans (Nat.le_trans hb0 hg6.size) (kept_alloc (kept_refl w6) (.cells (nats [f]).toArray 3)).size; have k8 := kept_alloc k7 (.cells (nats [f]).toArray 3))
                          | (at_builtin; refine app_gen wr.heap.size rfl (.tmp 78) (.tmp 80) 36 3 (.int .i64 0) 1 8 rfl Try.underlying36 info3 rfl Nat.one_pos (by decide) v6 known.length 1 1 ⟨w6.heap.size, 0, none⟩ (nats known) (nats [f]) rfl rfl rfl hN6 (one_nats _) hr6a hb6 hl1 ?_; intro v8 w8 hr8 hg8 hat8; have k9 := kept_grown k8 hr6a hw0 hg8; rw [nats_append] at hr8; obtain ⟨A8, c8, rfl, hr9⟩ := row_form hr8; have hV9 := hV.kept k9; have hA9 := row_rd hr9))
                        refine (HREC.out (m - 1) A8 _ c8 w8 (by have := HM.out; omega) (by simp) hA9 hV9).mono ?_
                        rintro e w10 ⟨rfl, k10⟩
                        cases hres : madeS vars all goal n (known ++ [f])
                        · have HRES := Lib.hid hres; clear hres
                          go_wp2_with fail
                          go_roundg (known.length - (j + 1))
                          case rel => exact ⟨j + 1, by omega, fun j' h => by rcases Nat.lt_succ_iff_lt_or_eq.1 h with h | rfl; exact H3.out j' h; exact (HT.out false).2 (by simp [HN.out, HRES.out]), rfl, by go_num, kept_trans k9 k10⟩
                          case measure => omega
                        · have HRES := Lib.hid hres; clear hres
                          go_wp2_with fail
                          go_ret
                          exact ⟨ret_bool (made_yes hlt1 hlt2 hlt3 ((HT.out true).2 (by rw [HC.out, HRES.out]; have := HN.out; simp; omega))), kept_trans k9 k10⟩
                      · have HC := Lib.hid hc; clear hc
                        go_wp2_with (go_at_call 90; refine (has_any _ _ _ _ _ _ hA3 rfl (by omega)).mono ?_; rintro e w5 ⟨rfl, rfl⟩; rw [HC.out])
                        go_roundg (known.length - (j + 1))
                        case rel => exact ⟨j + 1, by omega, fun j' h => by rcases Nat.lt_succ_iff_lt_or_eq.1 h with h | rfl; exact H3.out j' h; exact (HT.out false).2 (by rw [HC.out]; simp [HN.out]), rfl, by go_num, k1⟩
                        case measure => omega
                · have : j = known.length := by omega
                  subst this
                  have hf : anyN known.length (fun j => madeT all goal (madeS vars all goal n) n known (na vars v) (na known i) (na known j)) = false := anyN_false.2 H3.out
                  have HF := Lib.hid hf; clear hf
                  go_wp2_with fail
                  go_roundg (known.length - (i + 1))
                  case rel => exact ⟨i + 1, by omega, fun j h => by rcases Nat.lt_succ_iff_lt_or_eq.1 h with h | rfl; exact H2.out j h; exact HF.out, rfl, by go_num, k1⟩
                  case measure => omega
            · have : i = known.length := by omega
              subst this
              have hf : anyN known.length (fun i => anyN known.length fun j => madeT all goal (madeS vars all goal n) n known (na vars v) (na known i) (na known j)) = false := anyN_false.2 H2.out
              have HF := Lib.hid hf; clear hf
              go_wp2_with fail
              go_roundg (vars.length - (v + 1))
              case rel => exact ⟨v + 1, by omega, fun j h => by rcases Nat.lt_succ_iff_lt_or_eq.1 h with h | rfl; exact H1.out j h; exact HF.out, rfl, by go_num, k1⟩
              case measure => omega
        · have : v = vars.length := by omega
          subst this
          go_wp2_with fail
          go_ret
          exact ⟨ret_bool (by rw [madeS, HG.out, anyN_false.2 H1.out]; rfl), k1⟩
    · go_enter Try.func66, Try.ntmps66
      go_wp2_with fail
      refine (has_any _ _ _ _ _ _ hA rfl (by omega)).mono ?_
      rintro e w1 ⟨rfl, rfl⟩
      rw [hg]
      go_wp2_with fail
      go_ret
      exact ⟨ret_bool (by rw [madeS, hg]; rfl), kept_refl _⟩
end Go.Proofs.Ytinpmdekdfgiiaa
