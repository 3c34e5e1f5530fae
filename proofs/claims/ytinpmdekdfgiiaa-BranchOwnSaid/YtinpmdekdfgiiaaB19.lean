/- The program's Least: the search (a function that calls itself through a variable). -/
import Derived.Test.YtinpmdekdfgiiaaJ3
import Derived.Deep.RegionHeld3
set_option linter.unusedVariables false
set_option linter.unusedSimpArgs false
namespace Go.Proofs.Ytinpmdekdfgiiaa
open Go.RowKit

/-- The three variables that the search holds. -/
structure FEnv (w : World) (gw gv gf want : Nat) (V : Option Addr) (cv : Nat) (vars : List Nat) : Prop where
  e1 : w.cell? ⟨gw, 0, none⟩ = some (.int .i64 want)
  e2 : w.cell? ⟨gv, 0, none⟩ = some (.slice V vars.length cv)
  e3 : w.cell? ⟨gf, 0, none⟩ = some (.func (.func 64) #[] #[.pointer (some ⟨gw, 0, none⟩), .pointer (some ⟨gv, 0, none⟩), .pointer (some ⟨gf, 0, none⟩)])
  e4 : Rd w V (nats vars)
theorem FEnv.kept {w w' : World} {gw gv gf want : Nat} {V : Option Addr} {cv : Nat} {vars : List Nat} (h : FEnv w gw gv gf want V cv vars) (k : Kept w w') : FEnv w' gw gv gf want V cv vars :=
  ⟨kept_cell k h.e1, kept_cell k h.e2, kept_cell k h.e3, h.e4.kept k⟩

theorem sel_bits2 {all v a c : Nat} (hs : bits .andNot .i64 (all : Int) (v : Int) = ((all ^^^ v : Nat) : Int)) (h1 : all < 2 ^ 62) (h2 : v < 2 ^ 62) (h3 : a < 2 ^ 62) (h4 : c < 2 ^ 62) :
    bits .or .i64 (bits .and .i64 (v : Int) (a : Int)) (bits .and .i64 (bits .andNot .i64 (all : Int) (v : Int)) (c : Int)) = (sel all v a c : Nat) := by
  have hx := Nat.xor_lt_two_pow h1 h2
  rw [hs, b_and h2 h3, b_and hx h4, b_or (Nat.and_lt_two_pow _ h3) (Nat.and_lt_two_pow _ h4)]
  unfold sel
  rw [Nat.or_comm, Nat.and_comm c, Nat.and_comm a]

theorem found_yes {vars : List Nat} {all want n : Nat} {hv : List Nat} {v i j : Nat} (h1 : v < vars.length) (h2 : i < hv.length) (h3 : j < hv.length)
    (h : foundT all want (foundS vars all want n) n hv (na vars v) (na hv i) (na hv j) = true) : true = foundS vars all want (n + 1) hv := by
  rw [foundS, anyN_upto h1 (anyN_upto h2 (anyN_upto h3 h)), Bool.or_true]

theorem row_cap {w : World} {B e sz n m c : Nat} {A : Option Addr} {cs : List Value} (h : w.ownsRow B e sz (.slice A m c) n cs) : n ≤ c := by
  rcases h.2 with ⟨hv, h0⟩ | ⟨g, cap, cur, hv, _, _, h1, _⟩
  · omega
  · injection hv with _ _ h3
    omega

set_option maxRecDepth 100000 in
set_option maxHeartbeats 1000000 in
theorem found_any (vars : List Nat) (all want : Nat) (gw gv gf : Nat) (V : Option Addr) (cv : Nat) (hvs : ∀ x ∈ vars, x < 2 ^ 62) (hsub : ∀ x ∈ vars, bits .andNot .i64 (all : Int) (x : Int) = ((all ^^^ x : Nat) : Int)) (hall : all < 2 ^ 62) (hvl : vars.length ≤ 1000) : ∀ (n : Nat) (m : Int) (hv : List Nat) (A : Option Addr) (kl c : Nat) (w : World), m = n → n ≤ 1000 → (∀ x ∈ hv, x < 2 ^ 62) → hv.length + n ≤ 2000 → kl = hv.length → 2 ≤ kl → kl ≤ c → na hv 1 = all → Rd w A (nats hv) → FEnv w gw gv gf want V cv vars →
    Calls Try.prog 64 #[.slice A kl c, .int .i64 m, .pointer (some ⟨gw, 0, none⟩), .pointer (some ⟨gv, 0, none⟩), .pointer (some ⟨gf, 0, none⟩)] w (MadePost (foundS vars all want n hv) w) := by
  intro n
  induction n with
  | zero =>
    intro m hv A kl c w hm hn hk hkn hkl h0 hc1 hall1 hA hF
    have e1 : (m == 0) = true := by simp [hm]
    have f1 := hF.e1
    subst hkl
    clear hm
    cases hg : hv.contains want
    all_goals
      go_enter Try.func64, Try.ntmps64
      go_wp2_with fail
      refine (contains_any _ _ _ _ _ _ hA rfl (by omega)).mono ?_
      rintro e w1 ⟨rfl, rfl⟩
      rw [hg]
      go_wp2_with fail
      go_ret
      exact ⟨ret_bool (by rw [foundS, hg]), kept_refl _⟩
  | succ n ih =>
    intro m hv A kl c w hm hn hk hkn hkl h0 hc1 hall1 hA hF
    have IH := Lib.hid ih; clear ih
    have e1 : (m == 0) = false := by rw [beq_eq_false_iff_ne]; omega
    have HM := Lib.hid hm
    have m1 : 1 ≤ m := by omega
    have m2 : m ≤ 1000 := by omega
    clear hm
    have HALL := Lib.hid hall1; clear hall1
    subst hkl
    have f1 := hF.e1
    have f2 := hF.e2
    cases hg : hv.contains want
    · go_enter Try.func64, Try.ntmps64
      go_wp2_with fail
      refine (contains_any _ _ _ _ _ _ hA rfl (by omega)).mono ?_
      rintro e w1 ⟨rfl, rfl⟩
      rw [hg]
      have HG := Lib.hid hg; clear hg
      go_wp2_with fail
      clear f1 f2
      go_loopg [22] vars.length (fun g s11 wr => ∃ v : Nat, v ≤ vars.length ∧ (∀ v', v' < v → anyN hv.length (fun i => anyN hv.length fun j => foundT all want (foundS vars all want n) n hv (na vars v') (na hv i) (na hv j)) = false) ∧ g = vars.length - v ∧ s11 = .int .i64 v ∧ Kept w wr)
      case atStart => exact ⟨0, by omega, by omega, rfl, rfl, kept_refl _⟩
      case round =>
        obtain ⟨v, hvv, hj1, rfl, rfl, k1⟩ := hrel
        have H1 := Lib.hid hj1; clear hj1
        by_cases hlt1 : v < vars.length
        · obtain ⟨bV, oV, rfl, hcV⟩ := hF.e4.nat hlt1
          have a3 := kept_cell k1 (hcV v hlt1)
          clear hcV
          go_wp2_with fail
          clear a3
          go_loopg [28] hv.length (fun g s12 wr => ∃ i : Nat, i ≤ hv.length ∧ (∀ i', i' < i → anyN hv.length (fun j => foundT all want (foundS vars all want n) n hv (na vars v) (na hv i') (na hv j)) = false) ∧ g = hv.length - i ∧ s12 = .int .i64 i ∧ Kept w wr)
          case atStart => exact ⟨0, by omega, by omega, rfl, rfl, k1⟩
          case round =>
            clear k1
            obtain ⟨i, hii, hj2, rfl, rfl, k1⟩ := hrel
            have H2 := Lib.hid hj2; clear hj2
            by_cases hlt2 : i < hv.length
            · obtain ⟨bA, oA, rfl, hcA⟩ := hA.nat hlt2
              have a1 := kept_cell k1 (hcA i hlt2)
              clear hcA
              go_wp2_with fail
              clear a1
              go_loopg [34] hv.length (fun g s13 wr => ∃ j : Nat, j ≤ hv.length ∧ (∀ j', j' < j → foundT all want (foundS vars all want n) n hv (na vars v) (na hv i) (na hv j') = false) ∧ g = hv.length - j ∧ s13 = .int .i64 j ∧ Kept w wr)
              case atStart => exact ⟨0, by omega, by omega, rfl, rfl, k1⟩
              case round =>
                clear k1
                obtain ⟨j, hjj, hj3, rfl, rfl, k1⟩ := hrel
                have H3 := Lib.hid hj3; clear hj3
                by_cases hlt3 : j < hv.length
                · obtain ⟨bA', oA', hAe, hcA⟩ := hA.nat hlt2
                  injection hAe with hAe
                  injection hAe with hAe1 hAe2
                  subst hAe1 hAe2
                  have a2 := kept_cell k1 (hcA j hlt3)
                  have a4 := kept_cell k1 (hcA 1 (by omega))
                  rw [HALL.out] at a4
                  clear hcA
                  have fb := sel_bits2 (hsub _ (na_mem hlt1)) hall (na_lt hvs v) (na_lt hk i) (na_lt hk j)
                  have fl := sel_lt hall (na_lt hvs v) (na_lt hk i) (na_lt hk j)
                  go_wp2_with fail
                  clear a2 a4 fb
                  have hTd : ∀ b, foundT all want (foundS vars all want n) n hv (na vars v) (na hv i) (na hv j) = b ↔ (!hv.contains (sel all (na vars v) (na hv i) (na hv j)) && (decide (0 < n) || sel all (na vars v) (na hv i) (na hv j) == want) && foundS vars all want n (hv ++ [sel all (na vars v) (na hv i) (na hv j)])) = b := fun b => Iff.rfl
                  have HT := Lib.hid hTd; clear hTd
                  generalize sel all (na vars v) (na hv i) (na hv j) = f at *
                  have hF1 := hF.kept k1
                  have f1 := hF1.e1
                  have f3 := hF1.e3
                  have hA1 := hA.kept k1
                  go_upto_region 15 with fail
                  go_cut [76] (fun s76 wx => s76 = .bool (foundT all want (foundS vars all want n) n hv (na vars v) (na hv i) (na hv j)) ∧ Kept w wx)
                  case first =>
                    cases hc : hv.contains f
                    · have HC := Lib.hid hc; clear hc
                      by_cases hgo : 0 < n ∨ f = want
                      · have hcon := (contains_any _ _ c _ f _ (hA1.kept (kept_drew (kept_refl wr))) rfl (by omega)).mono (R' := fun e w' => e = .returned (.bool false) ∧ wr.drew = w') (fun e w' h => ⟨by rw [h.1, HC.out], h.2⟩)
                        have HCON := Lib.hid hcon; clear hcon
                        have hkA : Kept wr (wr.alloc (.cells (nats [f]).toArray 3)).drew := kept_drew (kept_alloc (kept_refl _) _)
                        have hA2 := hA1.kept hkA
                        have hN2 := news_rd ((Own.new wr 3 (nats [f])).drew).rd
                        have hl0 : (nats hv).length = hv.length * 1 := by simp
                        have hb1 : hv.length + 1 ≤ 140737488355328 := by omega
                        have hb2 : (hv.length + 1) * 8 ≤ 140737488355328 := by omega
                        have hrec := fun (m' : Int) (A' : Option Addr) (kl' c' : Nat) (w' : World) (e5 : m' = n) (e6 : kl' = (hv ++ [f]).length) (e7 : kl' ≤ c') (hA' : Rd w' A' (nats (hv ++ [f]))) (hF' : FEnv w' gw gv gf want (some ⟨bV, oV, none⟩) cv vars) => IH.out m' (hv ++ [f]) A' kl' c' w' e5 (by omega) (by intro x hx; rcases List.mem_append.1 hx with h | h; exact hk x h; rw [List.mem_singleton.1 h]; exact fl) (by simp; omega) e6 (by rw [e6]; simp; omega) e7 (by rw [← HALL.out]; simp [na, List.getD_eq_getElem?_getD, List.getElem?_append_left (show 1 < hv.length by omega)]) hA' hF'
                        have HREC := Lib.hid hrec; clear hrec
                        by_cases hn0 : 0 < n
                        · have c1 : decide (1 < m) = true := by have := HM.out; simp; omega
                          have cs : IntKind.i64.wrap (m - 1) = m - 1 := IntWalk.i64_in _ (by omega)
                          refine wp_region_held_drew (S := fun w' => w'.cell? ⟨gf, 0, none⟩ = some (.func (.func 64) #[] #[.pointer (some ⟨gw, 0, none⟩), .pointer (some ⟨gv, 0, none⟩), .pointer (some ⟨gf, 0, none⟩)])) (by kernel_rfl) ?_ (fun hHeld => ?_)
                          · exact f3
                          have hHeld0 := hHeld
                          refine wpAnyH_take (i := 0) (oi := { dst := some 49, op := Op.move (Operand.tmp 0), type := 36, pos := "branch.go:388", after := #[], guard := none }) (v := ?_) rfl (by kernel_rfl) (by kernel_rfl) (by kernel_rfl) (fun _ _ _ h => h) (Or.inl ⟨rfl, ?_⟩) (by assumption) ?_
                          rotate_left
                          · (intro w hSw; (try dsimp only at hSw); (try obtain ⟨hSa, hSb⟩ := hSw); go_simp; try with_reducible rfl)
                          try simp only [Act.put, List.setIfInBounds_toArray, List.set_cons_zero, List.set_cons_succ]
                          refine wpAnyH_take (i := 1) (oi := { dst := some 50, op := Op.move (Operand.tmp 14), type := 3, pos := "branch.go:388", after := #[], guard := none }) (v := ?_) rfl (by kernel_rfl) (by kernel_rfl) (by kernel_rfl) (fun _ _ _ h => h) (Or.inl ⟨rfl, ?_⟩) (by assumption) ?_
                          rotate_left
                          · (intro w hSw; (try dsimp only at hSw); (try obtain ⟨hSa, hSb⟩ := hSw); go_simp; try with_reducible rfl)
                          try simp only [Act.put, List.setIfInBounds_toArray, List.set_cons_zero, List.set_cons_succ]
                          refine wpAnyH_ready (rs := [2]) (by kernel_rfl) (by simp) ?_
                          refine AllReadyH.cons (o := { dst := some 51, op := Op.call { callee := Callee.value (Operand.func 65), args := #[Operand.tmp 49, Operand.tmp 50], argTypes := #[36, 3] }, type := 4, pos := "branch.go:388", after := #[{ on := 0, ground := Ground.data }, { on := 1, ground := Ground.data }], guard := none }) rfl (fun K hK => ?_) AllReadyH.nil
                          (go_simp; go_at_call 65; refine HCON.out.mono ?_; rintro e w5 ⟨rfl, rfl⟩; try dsimp only)
                          refine hK.out _ _ ?_ (fun hHeld => ?_)
                          · (try dsimp only); first | exact f3 | exact r3 | exact t3 | exact cell_alloc f3 _
                          clear hK K
                          try simp only [Act.put, List.setIfInBounds_toArray, List.set_cons_zero, List.set_cons_succ]
                          refine wpAnyH_take (i := 3) (oi := { dst := some 52, op := Op.unOp UnOp.not 4 (Operand.tmp 51), type := 4, pos := "branch.go:388", after := #[{ on := 2, ground := Ground.data }], guard := none }) (v := ?_) rfl (by kernel_rfl) (by kernel_rfl) (by kernel_rfl) (fun _ _ _ h => h) (Or.inl ⟨rfl, ?_⟩) (by assumption) ?_
                          rotate_left
                          · (intro w hSw; (try dsimp only at hSw); (try obtain ⟨hSa, hSb⟩ := hSw); go_simp; try with_reducible rfl)
                          try simp only [Act.put, List.setIfInBounds_toArray, List.set_cons_zero, List.set_cons_succ]
                          refine wpAnyH_take (i := 4) (oi := { dst := some 53, op := Op.move (Operand.tmp 52), type := 4, pos := "branch.go:388", after := #[{ on := 3, ground := Ground.data }, { on := 2, ground := Ground.chain }], guard := none }) (v := ?_) rfl (by kernel_rfl) (by kernel_rfl) (by kernel_rfl) (fun _ _ _ h => h) (Or.inl ⟨rfl, ?_⟩) (by assumption) ?_
                          rotate_left
                          · (intro w hSw; (try dsimp only at hSw); (try obtain ⟨hSa, hSb⟩ := hSw); go_simp; try with_reducible rfl)
                          try simp only [Act.put, List.setIfInBounds_toArray, List.set_cons_zero, List.set_cons_succ]
                          refine wpAnyH_take (i := 5) (oi := { dst := some 54, op := Op.move (Operand.tmp 1), type := 3, pos := "branch.go:388", after := #[{ on := 4, ground := Ground.guard }], guard := some (4, true) }) (v := ?_) rfl (by kernel_rfl) (by kernel_rfl) (by kernel_rfl) (fun _ _ _ h => h) (Or.inl ⟨rfl, ?_⟩) (by assumption) ?_
                          rotate_left
                          · (intro w hSw; (try dsimp only at hSw); (try obtain ⟨hSa, hSb⟩ := hSw); go_simp; try with_reducible rfl)
                          try simp only [Act.put, List.setIfInBounds_toArray, List.set_cons_zero, List.set_cons_succ]
                          refine wpAnyH_take (i := 6) (oi := { dst := some 55, op := Op.binOp BinOp.gtr 3 (Operand.tmp 54) (Operand.const (Value.int IntKind.i64 1)) 3, type := 4, pos := "branch.go:388", after := #[{ on := 5, ground := Ground.data }, { on := 4, ground := Ground.guard }], guard := some (4, true) }) (v := ?_) rfl (by kernel_rfl) (by kernel_rfl) (by kernel_rfl) (fun _ _ _ h => h) (Or.inl ⟨rfl, ?_⟩) (by assumption) ?_
                          rotate_left
                          · (intro w hSw; (try dsimp only at hSw); (try obtain ⟨hSa, hSb⟩ := hSw); go_simp; try with_reducible rfl)
                          try simp only [Act.put, List.setIfInBounds_toArray, List.set_cons_zero, List.set_cons_succ]
                          refine wpAnyH_take (i := 7) (oi := { dst := some 56, op := Op.move (Operand.tmp 55), type := 4, pos := "branch.go:388", after := #[{ on := 6, ground := Ground.data }, { on := 4, ground := Ground.chain }, { on := 4, ground := Ground.guard }], guard := some (4, true) }) (v := ?_) rfl (by kernel_rfl) (by kernel_rfl) (by kernel_rfl) (fun _ _ _ h => h) (Or.inl ⟨rfl, ?_⟩) (by assumption) ?_
                          rotate_left
                          · (intro w hSw; (try dsimp only at hSw); (try obtain ⟨hSa, hSb⟩ := hSw); go_simp; try with_reducible rfl)
                          try simp only [Act.put, List.setIfInBounds_toArray, List.set_cons_zero, List.set_cons_succ]
                          refine wpAnyH_take (i := 8) (oi := { dst := some 57, op := Op.move (Operand.tmp 14), type := 3, pos := "branch.go:388", after := #[{ on := 7, ground := Ground.guard }], guard := some (7, false) }) (v := undef) rfl (by kernel_rfl) (by kernel_rfl) (by kernel_rfl) (fun _ _ _ h => h) (Or.inr ⟨rfl, rfl⟩) (by assumption) ?_
                          try simp only [Act.put, List.setIfInBounds_toArray, List.set_cons_zero, List.set_cons_succ]
                          refine wpAnyH_take (i := 9) (oi := { dst := some 58, op := Op.load 3 (Operand.tmp 2), type := 3, pos := "branch.go:388", after := #[{ on := 7, ground := Ground.guard }], guard := some (7, false) }) (v := undef) rfl (by kernel_rfl) (by kernel_rfl) (by kernel_rfl) (fun _ _ _ h => h) (Or.inr ⟨rfl, rfl⟩) (by assumption) ?_
                          try simp only [Act.put, List.setIfInBounds_toArray, List.set_cons_zero, List.set_cons_succ]
                          refine wpAnyH_take (i := 10) (oi := { dst := some 59, op := Op.binOp BinOp.eql 3 (Operand.tmp 57) (Operand.tmp 58) 3, type := 4, pos := "branch.go:388", after := #[{ on := 8, ground := Ground.data }, { on := 9, ground := Ground.data }, { on := 7, ground := Ground.guard }], guard := some (7, false) }) (v := undef) rfl (by kernel_rfl) (by kernel_rfl) (by kernel_rfl) (fun _ _ _ h => h) (Or.inr ⟨rfl, rfl⟩) (by assumption) ?_
                          try simp only [Act.put, List.setIfInBounds_toArray, List.set_cons_zero, List.set_cons_succ]
                          refine wpAnyH_take (i := 11) (oi := { dst := some 60, op := Op.pick (Operand.tmp 56) (Operand.const (Value.bool true)) (Operand.tmp 59), type := 4, pos := "branch.go:388", after := #[{ on := 7, ground := Ground.data }, { on := 10, ground := Ground.data }, { on := 4, ground := Ground.guard }], guard := some (4, true) }) (v := ?_) rfl (by kernel_rfl) (by kernel_rfl) (by kernel_rfl) (fun _ _ _ h => h) (Or.inl ⟨rfl, ?_⟩) (by assumption) ?_
                          rotate_left
                          · (intro w hSw; (try dsimp only at hSw); (try obtain ⟨hSa, hSb⟩ := hSw); go_simp; try with_reducible rfl)
                          try simp only [Act.put, List.setIfInBounds_toArray, List.set_cons_zero, List.set_cons_succ]
                          refine wpAnyH_take (i := 12) (oi := { dst := some 61, op := Op.pick (Operand.tmp 53) (Operand.tmp 60) (Operand.const (Value.bool false)), type := 4, pos := "branch.go:388", after := #[{ on := 4, ground := Ground.data }, { on := 11, ground := Ground.data }], guard := none }) (v := ?_) rfl (by kernel_rfl) (by kernel_rfl) (by kernel_rfl) (fun _ _ _ h => h) (Or.inl ⟨rfl, ?_⟩) (by assumption) ?_
                          rotate_left
                          · (intro w hSw; (try dsimp only at hSw); (try obtain ⟨hSa, hSb⟩ := hSw); go_simp; try with_reducible rfl)
                          try simp only [Act.put, List.setIfInBounds_toArray, List.set_cons_zero, List.set_cons_succ]
                          refine wpAnyH_take (i := 13) (oi := { dst := some 62, op := Op.move (Operand.tmp 61), type := 4, pos := "branch.go:388", after := #[{ on := 12, ground := Ground.data }, { on := 7, ground := Ground.chain }], guard := none }) (v := ?_) rfl (by kernel_rfl) (by kernel_rfl) (by kernel_rfl) (fun _ _ _ h => h) (Or.inl ⟨rfl, ?_⟩) (by assumption) ?_
                          rotate_left
                          · (intro w hSw; (try dsimp only at hSw); (try obtain ⟨hSa, hSb⟩ := hSw); go_simp; try with_reducible rfl)
                          try simp only [Act.put, List.setIfInBounds_toArray, List.set_cons_zero, List.set_cons_succ]
                          refine wpAnyH_take (i := 14) (oi := { dst := some 63, op := Op.load 82 (Operand.tmp 4), type := 82, pos := "branch.go:388", after := #[{ on := 13, ground := Ground.guard }], guard := some (13, true) }) (v := ?_) rfl (by kernel_rfl) (by kernel_rfl) (by kernel_rfl) (fun _ _ _ h => h) (Or.inl ⟨rfl, ?_⟩) (by assumption) ?_
                          rotate_left
                          · (intro w hSw; (try dsimp only at hSw); (try obtain ⟨hSa, hSb⟩ := hSw); go_simp; try with_reducible rfl)
                          try simp only [Act.put, List.setIfInBounds_toArray, List.set_cons_zero, List.set_cons_succ]
                          refine wpAnyH_take (i := 15) (oi := { dst := some 64, op := Op.move (Operand.tmp 0), type := 36, pos := "branch.go:388", after := #[{ on := 13, ground := Ground.guard }], guard := some (13, true) }) (v := ?_) rfl (by kernel_rfl) (by kernel_rfl) (by kernel_rfl) (fun _ _ _ h => h) (Or.inl ⟨rfl, ?_⟩) (by assumption) ?_
                          rotate_left
                          · (intro w hSw; (try dsimp only at hSw); (try obtain ⟨hSa, hSb⟩ := hSw); go_simp; try with_reducible rfl)
                          try simp only [Act.put, List.setIfInBounds_toArray, List.set_cons_zero, List.set_cons_succ]
                          refine wpAnyH_take (i := 16) (oi := { dst := some 65, op := Op.move (Operand.tmp 0), type := 36, pos := "branch.go:388", after := #[{ on := 13, ground := Ground.guard }], guard := some (13, true) }) (v := ?_) rfl (by kernel_rfl) (by kernel_rfl) (by kernel_rfl) (fun _ _ _ h => h) (Or.inl ⟨rfl, ?_⟩) (by assumption) ?_
                          rotate_left
                          · (intro w hSw; (try dsimp only at hSw); (try obtain ⟨hSa, hSb⟩ := hSw); go_simp; try with_reducible rfl)
                          try simp only [Act.put, List.setIfInBounds_toArray, List.set_cons_zero, List.set_cons_succ]
                          refine wpAnyH_take (i := 17) (oi := { dst := some 66, op := Op.call { callee := Callee.builtin Builtin.len, args := #[Operand.tmp 65], argTypes := #[36] }, type := 3, pos := "branch.go:388", after := #[{ on := 16, ground := Ground.data }, { on := 13, ground := Ground.guard }], guard := some (13, true) }) (v := ?_) rfl (by kernel_rfl) (by kernel_rfl) (by kernel_rfl) (fun _ _ _ h => h) (Or.inl ⟨rfl, ?_⟩) (by assumption) ?_
                          rotate_left
                          · (intro w hSw; (try dsimp only at hSw); (try obtain ⟨hSa, hSb⟩ := hSw); go_simp; try with_reducible rfl)
                          try simp only [Act.put, List.setIfInBounds_toArray, List.set_cons_zero, List.set_cons_succ]
                          refine wpAnyH_take (i := 18) (oi := { dst := some 67, op := Op.move (Operand.tmp 0), type := 36, pos := "branch.go:388", after := #[{ on := 13, ground := Ground.guard }], guard := some (13, true) }) (v := ?_) rfl (by kernel_rfl) (by kernel_rfl) (by kernel_rfl) (fun _ _ _ h => h) (Or.inl ⟨rfl, ?_⟩) (by assumption) ?_
                          rotate_left
                          · (intro w hSw; (try dsimp only at hSw); (try obtain ⟨hSa, hSb⟩ := hSw); go_simp; try with_reducible rfl)
                          try simp only [Act.put, List.setIfInBounds_toArray, List.set_cons_zero, List.set_cons_succ]
                          refine wpAnyH_take (i := 19) (oi := { dst := some 68, op := Op.call { callee := Callee.builtin Builtin.len, args := #[Operand.tmp 67], argTypes := #[36] }, type := 3, pos := "branch.go:388", after := #[{ on := 18, ground := Ground.data }, { on := 13, ground := Ground.guard }], guard := some (13, true) }) (v := ?_) rfl (by kernel_rfl) (by kernel_rfl) (by kernel_rfl) (fun _ _ _ h => h) (Or.inl ⟨rfl, ?_⟩) (by assumption) ?_
                          rotate_left
                          · (intro w hSw; (try dsimp only at hSw); (try obtain ⟨hSa, hSb⟩ := hSw); go_simp; try with_reducible rfl)
                          try simp only [Act.put, List.setIfInBounds_toArray, List.set_cons_zero, List.set_cons_succ]
                          refine wpAnyH_take (i := 20) (oi := { dst := some 69, op := Op.slice 36 (Operand.tmp 64) none (some (Operand.tmp 66)) (some (Operand.tmp 68)), type := 36, pos := "branch.go:388", after := #[{ on := 15, ground := Ground.data }, { on := 17, ground := Ground.data }, { on := 19, ground := Ground.data }, { on := 13, ground := Ground.guard }], guard := some (13, true) }) (v := ?_) rfl (by kernel_rfl) (by kernel_rfl) (by kernel_rfl) (fun _ _ _ h => h) (Or.inl ⟨rfl, ?_⟩) (by assumption) ?_
                          rotate_left
                          · (intro w hSw; (try dsimp only at hSw); (try obtain ⟨hSa, hSb⟩ := hSw); go_simp; try with_reducible rfl)
                          try simp only [Act.put, List.setIfInBounds_toArray, List.set_cons_zero, List.set_cons_succ]
                          refine wpAnyH_take (i := 21) (oi := { dst := some 70, op := Op.move (Operand.tmp 14), type := 3, pos := "branch.go:388", after := #[{ on := 13, ground := Ground.guard }], guard := some (13, true) }) (v := ?_) rfl (by kernel_rfl) (by kernel_rfl) (by kernel_rfl) (fun _ _ _ h => h) (Or.inl ⟨rfl, ?_⟩) (by assumption) ?_
                          rotate_left
                          · (intro w hSw; (try dsimp only at hSw); (try obtain ⟨hSa, hSb⟩ := hSw); go_simp; try with_reducible rfl)
                          try simp only [Act.put, List.setIfInBounds_toArray, List.set_cons_zero, List.set_cons_succ]
                          refine wpAnyH_take (i := 24) (oi := { dst := some 73, op := Op.move (Operand.tmp 1), type := 3, pos := "branch.go:388", after := #[{ on := 13, ground := Ground.guard }], guard := some (13, true) }) (v := ?_) rfl (by kernel_rfl) (by kernel_rfl) (by kernel_rfl) (fun _ _ _ h => h) (Or.inl ⟨rfl, ?_⟩) (by assumption) ?_
                          rotate_left
                          · (intro w hSw; (try dsimp only at hSw); (try obtain ⟨hSa, hSb⟩ := hSw); go_simp; try with_reducible rfl)
                          try simp only [Act.put, List.setIfInBounds_toArray, List.set_cons_zero, List.set_cons_succ]
                          refine wpAnyH_take (i := 25) (oi := { dst := some 74, op := Op.binOp BinOp.sub 3 (Operand.tmp 73) (Operand.const (Value.int IntKind.i64 1)) 3, type := 3, pos := "branch.go:388", after := #[{ on := 24, ground := Ground.data }, { on := 13, ground := Ground.guard }], guard := some (13, true) }) (v := ?_) rfl (by kernel_rfl) (by kernel_rfl) (by kernel_rfl) (fun _ _ _ h => h) (Or.inl ⟨rfl, ?_⟩) (by assumption) ?_
                          rotate_left
                          · (intro w hSw; (try dsimp only at hSw); (try obtain ⟨hSa, hSb⟩ := hSw); go_simp; try with_reducible rfl)
                          try simp only [Act.put, List.setIfInBounds_toArray, List.set_cons_zero, List.set_cons_succ]
                          refine wpAnyH_ready (rs := [22]) (by kernel_rfl) (by simp) ?_
                          refine AllReadyH.cons (o := { dst := some 71, op := Op.buildSlice 36 1 #[(0, Operand.tmp 70)], type := 36, pos := "branch.go:388", after := #[{ on := 21, ground := Ground.data }, { on := 13, ground := Ground.guard }], guard := some (13, true) }) rfl (fun K hK => ?_) AllReadyH.nil
                          go_simp
                          refine hK.out _ _ ?_ (fun hHeld => ?_)
                          · (try dsimp only); first | exact f3 | exact r3 | exact t3 | exact cell_alloc f3 _
                          clear hK K
                          try simp only [Act.put, List.setIfInBounds_toArray, List.set_cons_zero, List.set_cons_succ]
                          refine wpAnyH_ready (rs := [23]) (by kernel_rfl) (by simp) ?_
                          refine AllReadyH.cons (o := { dst := some 72, op := Op.call { callee := Callee.builtin Builtin.append, args := #[Operand.tmp 69, Operand.tmp 71], argTypes := #[36, 36] }, type := 36, pos := "branch.go:388", after := #[{ on := 20, ground := Ground.data }, { on := 22, ground := Ground.data }, { on := 13, ground := Ground.chain }, { on := 13, ground := Ground.guard }], guard := some (13, true) }) rfl (fun K hK => ?_) AllReadyH.nil
                          (refine step_grow rfl (.tmp 69) (.tmp 71) 36 rfl 3 (.int .i64 0) 1 8 Try.underlying36 info3 rfl Nat.one_pos bA oA hv.length (nats hv) rfl hl0 hA2 ⟨wr.heap.size, 0, none⟩ 1 1 (nats [f]) rfl rfl hN2 (one_nats _) Nat.one_pos hb1 hb2 ?_; intro v8 w8 hr8 k8; have kk8 := kept_trans hkA k8; have r1 := kept_cell kk8 f1; have r3 := kept_cell kk8 f3; rw [nats_append] at hr8; obtain ⟨A8, c8, rfl, hr9⟩ := row_form hr8; have hc8 := row_cap hr9; have hA8 := row_rd hr9; have hF8 := hF1.kept kk8)
                          refine hK.out _ _ ?_ (fun hHeld => ?_)
                          · (try dsimp only); first | exact f3 | exact r3 | exact t3 | exact cell_alloc f3 _
                          clear hK K
                          try simp only [Act.put, List.setIfInBounds_toArray, List.set_cons_zero, List.set_cons_succ]
                          refine wpAnyH_ready (rs := [26]) (by kernel_rfl) (by simp) ?_
                          refine AllReadyH.cons (o := { dst := some 75, op := Op.call { callee := Callee.value (Operand.tmp 63), args := #[Operand.tmp 72, Operand.tmp 74], argTypes := #[36, 3] }, type := 4, pos := "branch.go:388", after := #[{ on := 14, ground := Ground.data }, { on := 23, ground := Ground.data }, { on := 25, ground := Ground.data }, { on := 23, ground := Ground.chain }, { on := 13, ground := Ground.guard }], guard := some (13, true) }) rfl (fun K hK => ?_) AllReadyH.nil
                          (go_simp; go_at_call 64; refine (HREC.out (m - 1) A8 (hv.length + 1) c8 w8 (by have := HM.out; omega) (by simp) hc8 hA8 hF8).mono ?_; rintro e w9 ⟨rfl, k9⟩; have t3 := kept_cell k9 r3; try dsimp only)
                          refine hK.out _ _ ?_ (fun hHeld => ?_)
                          · (try dsimp only); first | exact f3 | exact r3 | exact t3 | exact cell_alloc f3 _
                          clear hK K
                          try simp only [Act.put, List.setIfInBounds_toArray, List.set_cons_zero, List.set_cons_succ]
                          refine wpAnyH_take (i := 27) (oi := { dst := some 76, op := Op.pick (Operand.tmp 62) (Operand.tmp 75) (Operand.const (Value.bool false)), type := 4, pos := "branch.go:388", after := #[{ on := 13, ground := Ground.data }, { on := 26, ground := Ground.data }], guard := none }) (v := ?_) rfl (by kernel_rfl) (by kernel_rfl) (by kernel_rfl) (fun _ _ _ h => h) (Or.inl ⟨rfl, ?_⟩) (by assumption) ?_
                          rotate_left
                          · (intro w hSw; (try dsimp only at hSw); (try obtain ⟨hSa, hSb⟩ := hSw); go_simp; try with_reducible rfl)
                          try simp only [Act.put, List.setIfInBounds_toArray, List.set_cons_zero, List.set_cons_succ]
                          refine wpAnyH_done (by kernel_rfl) ?_ _
                          go_wp2_with fail
                          go_meet
                          exact ⟨congrArg Value.bool ((HT.out _).2 (by rw [HC.out, show decide (0 < n) = true from decide_eq_true hn0]; simp)).symm, kept_trans k1 (kept_trans kk8 k9)⟩
                        · have c1 : decide (1 < m) = false := by have := HM.out; simp; omega
                          have hfw : f = want := by omega
                          have c2 : (f == want) = true := by simp; omega
                          have c3 : ((f : Int) == (want : Int)) = true := by rw [beq_iff_eq]; omega
                          have HFW := Lib.hid hfw; clear hfw hgo
                          have cs : IntKind.i64.wrap (m - 1) = m - 1 := IntWalk.i64_in _ (by omega)
                          refine wp_region_held_drew (S := fun w' => w'.cell? ⟨gf, 0, none⟩ = some (.func (.func 64) #[] #[.pointer (some ⟨gw, 0, none⟩), .pointer (some ⟨gv, 0, none⟩), .pointer (some ⟨gf, 0, none⟩)]) ∧ w'.cell? ⟨gw, 0, none⟩ = some (.int .i64 want)) (by kernel_rfl) ?_ (fun hHeld => ?_)
                          · exact ⟨f3, f1⟩
                          have hHeld0 := hHeld
                          refine wpAnyH_take (i := 0) (oi := { dst := some 49, op := Op.move (Operand.tmp 0), type := 36, pos := "branch.go:388", after := #[], guard := none }) (v := ?_) rfl (by kernel_rfl) (by kernel_rfl) (by kernel_rfl) (fun _ _ _ h => h) (Or.inl ⟨rfl, ?_⟩) (by assumption) ?_
                          rotate_left
                          · (intro w hSw; (try dsimp only at hSw); (try obtain ⟨hSa, hSb⟩ := hSw); go_simp; try with_reducible rfl)
                          try simp only [Act.put, List.setIfInBounds_toArray, List.set_cons_zero, List.set_cons_succ]
                          refine wpAnyH_take (i := 1) (oi := { dst := some 50, op := Op.move (Operand.tmp 14), type := 3, pos := "branch.go:388", after := #[], guard := none }) (v := ?_) rfl (by kernel_rfl) (by kernel_rfl) (by kernel_rfl) (fun _ _ _ h => h) (Or.inl ⟨rfl, ?_⟩) (by assumption) ?_
                          rotate_left
                          · (intro w hSw; (try dsimp only at hSw); (try obtain ⟨hSa, hSb⟩ := hSw); go_simp; try with_reducible rfl)
                          try simp only [Act.put, List.setIfInBounds_toArray, List.set_cons_zero, List.set_cons_succ]
                          refine wpAnyH_ready (rs := [2]) (by kernel_rfl) (by simp) ?_
                          refine AllReadyH.cons (o := { dst := some 51, op := Op.call { callee := Callee.value (Operand.func 65), args := #[Operand.tmp 49, Operand.tmp 50], argTypes := #[36, 3] }, type := 4, pos := "branch.go:388", after := #[{ on := 0, ground := Ground.data }, { on := 1, ground := Ground.data }], guard := none }) rfl (fun K hK => ?_) AllReadyH.nil
                          (go_simp; go_at_call 65; refine HCON.out.mono ?_; rintro e w5 ⟨rfl, rfl⟩; try dsimp only)
                          refine hK.out _ _ ?_ (fun hHeld => ?_)
                          · (try dsimp only); first | exact ⟨f3, f1⟩ | exact ⟨r3, r1⟩ | exact ⟨t3, t1⟩ | exact ⟨cell_alloc f3 _, cell_alloc f1 _⟩
                          clear hK K
                          try simp only [Act.put, List.setIfInBounds_toArray, List.set_cons_zero, List.set_cons_succ]
                          refine wpAnyH_take (i := 3) (oi := { dst := some 52, op := Op.unOp UnOp.not 4 (Operand.tmp 51), type := 4, pos := "branch.go:388", after := #[{ on := 2, ground := Ground.data }], guard := none }) (v := ?_) rfl (by kernel_rfl) (by kernel_rfl) (by kernel_rfl) (fun _ _ _ h => h) (Or.inl ⟨rfl, ?_⟩) (by assumption) ?_
                          rotate_left
                          · (intro w hSw; (try dsimp only at hSw); (try obtain ⟨hSa, hSb⟩ := hSw); go_simp; try with_reducible rfl)
                          try simp only [Act.put, List.setIfInBounds_toArray, List.set_cons_zero, List.set_cons_succ]
                          refine wpAnyH_take (i := 4) (oi := { dst := some 53, op := Op.move (Operand.tmp 52), type := 4, pos := "branch.go:388", after := #[{ on := 3, ground := Ground.data }, { on := 2, ground := Ground.chain }], guard := none }) (v := ?_) rfl (by kernel_rfl) (by kernel_rfl) (by kernel_rfl) (fun _ _ _ h => h) (Or.inl ⟨rfl, ?_⟩) (by assumption) ?_
                          rotate_left
                          · (intro w hSw; (try dsimp only at hSw); (try obtain ⟨hSa, hSb⟩ := hSw); go_simp; try with_reducible rfl)
                          try simp only [Act.put, List.setIfInBounds_toArray, List.set_cons_zero, List.set_cons_succ]
                          refine wpAnyH_take (i := 5) (oi := { dst := some 54, op := Op.move (Operand.tmp 1), type := 3, pos := "branch.go:388", after := #[{ on := 4, ground := Ground.guard }], guard := some (4, true) }) (v := ?_) rfl (by kernel_rfl) (by kernel_rfl) (by kernel_rfl) (fun _ _ _ h => h) (Or.inl ⟨rfl, ?_⟩) (by assumption) ?_
                          rotate_left
                          · (intro w hSw; (try dsimp only at hSw); (try obtain ⟨hSa, hSb⟩ := hSw); go_simp; try with_reducible rfl)
                          try simp only [Act.put, List.setIfInBounds_toArray, List.set_cons_zero, List.set_cons_succ]
                          refine wpAnyH_take (i := 6) (oi := { dst := some 55, op := Op.binOp BinOp.gtr 3 (Operand.tmp 54) (Operand.const (Value.int IntKind.i64 1)) 3, type := 4, pos := "branch.go:388", after := #[{ on := 5, ground := Ground.data }, { on := 4, ground := Ground.guard }], guard := some (4, true) }) (v := ?_) rfl (by kernel_rfl) (by kernel_rfl) (by kernel_rfl) (fun _ _ _ h => h) (Or.inl ⟨rfl, ?_⟩) (by assumption) ?_
                          rotate_left
                          · (intro w hSw; (try dsimp only at hSw); (try obtain ⟨hSa, hSb⟩ := hSw); go_simp; try with_reducible rfl)
                          try simp only [Act.put, List.setIfInBounds_toArray, List.set_cons_zero, List.set_cons_succ]
                          refine wpAnyH_take (i := 7) (oi := { dst := some 56, op := Op.move (Operand.tmp 55), type := 4, pos := "branch.go:388", after := #[{ on := 6, ground := Ground.data }, { on := 4, ground := Ground.chain }, { on := 4, ground := Ground.guard }], guard := some (4, true) }) (v := ?_) rfl (by kernel_rfl) (by kernel_rfl) (by kernel_rfl) (fun _ _ _ h => h) (Or.inl ⟨rfl, ?_⟩) (by assumption) ?_
                          rotate_left
                          · (intro w hSw; (try dsimp only at hSw); (try obtain ⟨hSa, hSb⟩ := hSw); go_simp; try with_reducible rfl)
                          try simp only [Act.put, List.setIfInBounds_toArray, List.set_cons_zero, List.set_cons_succ]
                          refine wpAnyH_take (i := 8) (oi := { dst := some 57, op := Op.move (Operand.tmp 14), type := 3, pos := "branch.go:388", after := #[{ on := 7, ground := Ground.guard }], guard := some (7, false) }) (v := ?_) rfl (by kernel_rfl) (by kernel_rfl) (by kernel_rfl) (fun _ _ _ h => h) (Or.inl ⟨rfl, ?_⟩) (by assumption) ?_
                          rotate_left
                          · (intro w hSw; (try dsimp only at hSw); (try obtain ⟨hSa, hSb⟩ := hSw); go_simp; try with_reducible rfl)
                          try simp only [Act.put, List.setIfInBounds_toArray, List.set_cons_zero, List.set_cons_succ]
                          refine wpAnyH_take (i := 9) (oi := { dst := some 58, op := Op.load 3 (Operand.tmp 2), type := 3, pos := "branch.go:388", after := #[{ on := 7, ground := Ground.guard }], guard := some (7, false) }) (v := ?_) rfl (by kernel_rfl) (by kernel_rfl) (by kernel_rfl) (fun _ _ _ h => h) (Or.inl ⟨rfl, ?_⟩) (by assumption) ?_
                          rotate_left
                          · (intro w hSw; (try dsimp only at hSw); (try obtain ⟨hSa, hSb⟩ := hSw); go_simp; try with_reducible rfl)
                          try simp only [Act.put, List.setIfInBounds_toArray, List.set_cons_zero, List.set_cons_succ]
                          refine wpAnyH_take (i := 10) (oi := { dst := some 59, op := Op.binOp BinOp.eql 3 (Operand.tmp 57) (Operand.tmp 58) 3, type := 4, pos := "branch.go:388", after := #[{ on := 8, ground := Ground.data }, { on := 9, ground := Ground.data }, { on := 7, ground := Ground.guard }], guard := some (7, false) }) (v := ?_) rfl (by kernel_rfl) (by kernel_rfl) (by kernel_rfl) (fun _ _ _ h => h) (Or.inl ⟨rfl, ?_⟩) (by assumption) ?_
                          rotate_left
                          · (intro w hSw; (try dsimp only at hSw); (try obtain ⟨hSa, hSb⟩ := hSw); go_simp; try with_reducible rfl)
                          try simp only [Act.put, List.setIfInBounds_toArray, List.set_cons_zero, List.set_cons_succ]
                          refine wpAnyH_take (i := 11) (oi := { dst := some 60, op := Op.pick (Operand.tmp 56) (Operand.const (Value.bool true)) (Operand.tmp 59), type := 4, pos := "branch.go:388", after := #[{ on := 7, ground := Ground.data }, { on := 10, ground := Ground.data }, { on := 4, ground := Ground.guard }], guard := some (4, true) }) (v := ?_) rfl (by kernel_rfl) (by kernel_rfl) (by kernel_rfl) (fun _ _ _ h => h) (Or.inl ⟨rfl, ?_⟩) (by assumption) ?_
                          rotate_left
                          · (intro w hSw; (try dsimp only at hSw); (try obtain ⟨hSa, hSb⟩ := hSw); go_simp; try with_reducible rfl)
                          try simp only [Act.put, List.setIfInBounds_toArray, List.set_cons_zero, List.set_cons_succ]
                          refine wpAnyH_take (i := 12) (oi := { dst := some 61, op := Op.pick (Operand.tmp 53) (Operand.tmp 60) (Operand.const (Value.bool false)), type := 4, pos := "branch.go:388", after := #[{ on := 4, ground := Ground.data }, { on := 11, ground := Ground.data }], guard := none }) (v := ?_) rfl (by kernel_rfl) (by kernel_rfl) (by kernel_rfl) (fun _ _ _ h => h) (Or.inl ⟨rfl, ?_⟩) (by assumption) ?_
                          rotate_left
                          · (intro w hSw; (try dsimp only at hSw); (try obtain ⟨hSa, hSb⟩ := hSw); go_simp; try with_reducible rfl)
                          try simp only [Act.put, List.setIfInBounds_toArray, List.set_cons_zero, List.set_cons_succ]
                          refine wpAnyH_take (i := 13) (oi := { dst := some 62, op := Op.move (Operand.tmp 61), type := 4, pos := "branch.go:388", after := #[{ on := 12, ground := Ground.data }, { on := 7, ground := Ground.chain }], guard := none }) (v := ?_) rfl (by kernel_rfl) (by kernel_rfl) (by kernel_rfl) (fun _ _ _ h => h) (Or.inl ⟨rfl, ?_⟩) (by assumption) ?_
                          rotate_left
                          · (intro w hSw; (try dsimp only at hSw); (try obtain ⟨hSa, hSb⟩ := hSw); go_simp; try with_reducible rfl)
                          try simp only [Act.put, List.setIfInBounds_toArray, List.set_cons_zero, List.set_cons_succ]
                          refine wpAnyH_take (i := 14) (oi := { dst := some 63, op := Op.load 82 (Operand.tmp 4), type := 82, pos := "branch.go:388", after := #[{ on := 13, ground := Ground.guard }], guard := some (13, true) }) (v := ?_) rfl (by kernel_rfl) (by kernel_rfl) (by kernel_rfl) (fun _ _ _ h => h) (Or.inl ⟨rfl, ?_⟩) (by assumption) ?_
                          rotate_left
                          · (intro w hSw; (try dsimp only at hSw); (try obtain ⟨hSa, hSb⟩ := hSw); go_simp; try with_reducible rfl)
                          try simp only [Act.put, List.setIfInBounds_toArray, List.set_cons_zero, List.set_cons_succ]
                          refine wpAnyH_take (i := 15) (oi := { dst := some 64, op := Op.move (Operand.tmp 0), type := 36, pos := "branch.go:388", after := #[{ on := 13, ground := Ground.guard }], guard := some (13, true) }) (v := ?_) rfl (by kernel_rfl) (by kernel_rfl) (by kernel_rfl) (fun _ _ _ h => h) (Or.inl ⟨rfl, ?_⟩) (by assumption) ?_
                          rotate_left
                          · (intro w hSw; (try dsimp only at hSw); (try obtain ⟨hSa, hSb⟩ := hSw); go_simp; try with_reducible rfl)
                          try simp only [Act.put, List.setIfInBounds_toArray, List.set_cons_zero, List.set_cons_succ]
                          refine wpAnyH_take (i := 16) (oi := { dst := some 65, op := Op.move (Operand.tmp 0), type := 36, pos := "branch.go:388", after := #[{ on := 13, ground := Ground.guard }], guard := some (13, true) }) (v := ?_) rfl (by kernel_rfl) (by kernel_rfl) (by kernel_rfl) (fun _ _ _ h => h) (Or.inl ⟨rfl, ?_⟩) (by assumption) ?_
                          rotate_left
                          · (intro w hSw; (try dsimp only at hSw); (try obtain ⟨hSa, hSb⟩ := hSw); go_simp; try with_reducible rfl)
                          try simp only [Act.put, List.setIfInBounds_toArray, List.set_cons_zero, List.set_cons_succ]
                          refine wpAnyH_take (i := 17) (oi := { dst := some 66, op := Op.call { callee := Callee.builtin Builtin.len, args := #[Operand.tmp 65], argTypes := #[36] }, type := 3, pos := "branch.go:388", after := #[{ on := 16, ground := Ground.data }, { on := 13, ground := Ground.guard }], guard := some (13, true) }) (v := ?_) rfl (by kernel_rfl) (by kernel_rfl) (by kernel_rfl) (fun _ _ _ h => h) (Or.inl ⟨rfl, ?_⟩) (by assumption) ?_
                          rotate_left
                          · (intro w hSw; (try dsimp only at hSw); (try obtain ⟨hSa, hSb⟩ := hSw); go_simp; try with_reducible rfl)
                          try simp only [Act.put, List.setIfInBounds_toArray, List.set_cons_zero, List.set_cons_succ]
                          refine wpAnyH_take (i := 18) (oi := { dst := some 67, op := Op.move (Operand.tmp 0), type := 36, pos := "branch.go:388", after := #[{ on := 13, ground := Ground.guard }], guard := some (13, true) }) (v := ?_) rfl (by kernel_rfl) (by kernel_rfl) (by kernel_rfl) (fun _ _ _ h => h) (Or.inl ⟨rfl, ?_⟩) (by assumption) ?_
                          rotate_left
                          · (intro w hSw; (try dsimp only at hSw); (try obtain ⟨hSa, hSb⟩ := hSw); go_simp; try with_reducible rfl)
                          try simp only [Act.put, List.setIfInBounds_toArray, List.set_cons_zero, List.set_cons_succ]
                          refine wpAnyH_take (i := 19) (oi := { dst := some 68, op := Op.call { callee := Callee.builtin Builtin.len, args := #[Operand.tmp 67], argTypes := #[36] }, type := 3, pos := "branch.go:388", after := #[{ on := 18, ground := Ground.data }, { on := 13, ground := Ground.guard }], guard := some (13, true) }) (v := ?_) rfl (by kernel_rfl) (by kernel_rfl) (by kernel_rfl) (fun _ _ _ h => h) (Or.inl ⟨rfl, ?_⟩) (by assumption) ?_
                          rotate_left
                          · (intro w hSw; (try dsimp only at hSw); (try obtain ⟨hSa, hSb⟩ := hSw); go_simp; try with_reducible rfl)
                          try simp only [Act.put, List.setIfInBounds_toArray, List.set_cons_zero, List.set_cons_succ]
                          refine wpAnyH_take (i := 20) (oi := { dst := some 69, op := Op.slice 36 (Operand.tmp 64) none (some (Operand.tmp 66)) (some (Operand.tmp 68)), type := 36, pos := "branch.go:388", after := #[{ on := 15, ground := Ground.data }, { on := 17, ground := Ground.data }, { on := 19, ground := Ground.data }, { on := 13, ground := Ground.guard }], guard := some (13, true) }) (v := ?_) rfl (by kernel_rfl) (by kernel_rfl) (by kernel_rfl) (fun _ _ _ h => h) (Or.inl ⟨rfl, ?_⟩) (by assumption) ?_
                          rotate_left
                          · (intro w hSw; (try dsimp only at hSw); (try obtain ⟨hSa, hSb⟩ := hSw); go_simp; try with_reducible rfl)
                          try simp only [Act.put, List.setIfInBounds_toArray, List.set_cons_zero, List.set_cons_succ]
                          refine wpAnyH_take (i := 21) (oi := { dst := some 70, op := Op.move (Operand.tmp 14), type := 3, pos := "branch.go:388", after := #[{ on := 13, ground := Ground.guard }], guard := some (13, true) }) (v := ?_) rfl (by kernel_rfl) (by kernel_rfl) (by kernel_rfl) (fun _ _ _ h => h) (Or.inl ⟨rfl, ?_⟩) (by assumption) ?_
                          rotate_left
                          · (intro w hSw; (try dsimp only at hSw); (try obtain ⟨hSa, hSb⟩ := hSw); go_simp; try with_reducible rfl)
                          try simp only [Act.put, List.setIfInBounds_toArray, List.set_cons_zero, List.set_cons_succ]
                          refine wpAnyH_take (i := 24) (oi := { dst := some 73, op := Op.move (Operand.tmp 1), type := 3, pos := "branch.go:388", after := #[{ on := 13, ground := Ground.guard }], guard := some (13, true) }) (v := ?_) rfl (by kernel_rfl) (by kernel_rfl) (by kernel_rfl) (fun _ _ _ h => h) (Or.inl ⟨rfl, ?_⟩) (by assumption) ?_
                          rotate_left
                          · (intro w hSw; (try dsimp only at hSw); (try obtain ⟨hSa, hSb⟩ := hSw); go_simp; try with_reducible rfl)
                          try simp only [Act.put, List.setIfInBounds_toArray, List.set_cons_zero, List.set_cons_succ]
                          refine wpAnyH_take (i := 25) (oi := { dst := some 74, op := Op.binOp BinOp.sub 3 (Operand.tmp 73) (Operand.const (Value.int IntKind.i64 1)) 3, type := 3, pos := "branch.go:388", after := #[{ on := 24, ground := Ground.data }, { on := 13, ground := Ground.guard }], guard := some (13, true) }) (v := ?_) rfl (by kernel_rfl) (by kernel_rfl) (by kernel_rfl) (fun _ _ _ h => h) (Or.inl ⟨rfl, ?_⟩) (by assumption) ?_
                          rotate_left
                          · (intro w hSw; (try dsimp only at hSw); (try obtain ⟨hSa, hSb⟩ := hSw); go_simp; try with_reducible rfl)
                          try simp only [Act.put, List.setIfInBounds_toArray, List.set_cons_zero, List.set_cons_succ]
                          refine wpAnyH_ready (rs := [22]) (by kernel_rfl) (by simp) ?_
                          refine AllReadyH.cons (o := { dst := some 71, op := Op.buildSlice 36 1 #[(0, Operand.tmp 70)], type := 36, pos := "branch.go:388", after := #[{ on := 21, ground := Ground.data }, { on := 13, ground := Ground.guard }], guard := some (13, true) }) rfl (fun K hK => ?_) AllReadyH.nil
                          go_simp
                          refine hK.out _ _ ?_ (fun hHeld => ?_)
                          · (try dsimp only); first | exact ⟨f3, f1⟩ | exact ⟨r3, r1⟩ | exact ⟨t3, t1⟩ | exact ⟨cell_alloc f3 _, cell_alloc f1 _⟩
                          clear hK K
                          try simp only [Act.put, List.setIfInBounds_toArray, List.set_cons_zero, List.set_cons_succ]
                          refine wpAnyH_ready (rs := [23]) (by kernel_rfl) (by simp) ?_
                          refine AllReadyH.cons (o := { dst := some 72, op := Op.call { callee := Callee.builtin Builtin.append, args := #[Operand.tmp 69, Operand.tmp 71], argTypes := #[36, 36] }, type := 36, pos := "branch.go:388", after := #[{ on := 20, ground := Ground.data }, { on := 22, ground := Ground.data }, { on := 13, ground := Ground.chain }, { on := 13, ground := Ground.guard }], guard := some (13, true) }) rfl (fun K hK => ?_) AllReadyH.nil
                          (refine step_grow rfl (.tmp 69) (.tmp 71) 36 rfl 3 (.int .i64 0) 1 8 Try.underlying36 info3 rfl Nat.one_pos bA oA hv.length (nats hv) rfl hl0 hA2 ⟨wr.heap.size, 0, none⟩ 1 1 (nats [f]) rfl rfl hN2 (one_nats _) Nat.one_pos hb1 hb2 ?_; intro v8 w8 hr8 k8; have kk8 := kept_trans hkA k8; have r1 := kept_cell kk8 f1; have r3 := kept_cell kk8 f3; rw [nats_append] at hr8; obtain ⟨A8, c8, rfl, hr9⟩ := row_form hr8; have hc8 := row_cap hr9; have hA8 := row_rd hr9; have hF8 := hF1.kept kk8)
                          refine hK.out _ _ ?_ (fun hHeld => ?_)
                          · (try dsimp only); first | exact ⟨f3, f1⟩ | exact ⟨r3, r1⟩ | exact ⟨t3, t1⟩ | exact ⟨cell_alloc f3 _, cell_alloc f1 _⟩
                          clear hK K
                          try simp only [Act.put, List.setIfInBounds_toArray, List.set_cons_zero, List.set_cons_succ]
                          refine wpAnyH_ready (rs := [26]) (by kernel_rfl) (by simp) ?_
                          refine AllReadyH.cons (o := { dst := some 75, op := Op.call { callee := Callee.value (Operand.tmp 63), args := #[Operand.tmp 72, Operand.tmp 74], argTypes := #[36, 3] }, type := 4, pos := "branch.go:388", after := #[{ on := 14, ground := Ground.data }, { on := 23, ground := Ground.data }, { on := 25, ground := Ground.data }, { on := 23, ground := Ground.chain }, { on := 13, ground := Ground.guard }], guard := some (13, true) }) rfl (fun K hK => ?_) AllReadyH.nil
                          (go_simp; go_at_call 64; refine (HREC.out (m - 1) A8 (hv.length + 1) c8 w8 (by have := HM.out; omega) (by simp) hc8 hA8 hF8).mono ?_; rintro e w9 ⟨rfl, k9⟩; have t3 := kept_cell k9 r3; have t1 := kept_cell k9 r1; try dsimp only)
                          refine hK.out _ _ ?_ (fun hHeld => ?_)
                          · (try dsimp only); first | exact ⟨f3, f1⟩ | exact ⟨r3, r1⟩ | exact ⟨t3, t1⟩ | exact ⟨cell_alloc f3 _, cell_alloc f1 _⟩
                          clear hK K
                          try simp only [Act.put, List.setIfInBounds_toArray, List.set_cons_zero, List.set_cons_succ]
                          refine wpAnyH_take (i := 27) (oi := { dst := some 76, op := Op.pick (Operand.tmp 62) (Operand.tmp 75) (Operand.const (Value.bool false)), type := 4, pos := "branch.go:388", after := #[{ on := 13, ground := Ground.data }, { on := 26, ground := Ground.data }], guard := none }) (v := ?_) rfl (by kernel_rfl) (by kernel_rfl) (by kernel_rfl) (fun _ _ _ h => h) (Or.inl ⟨rfl, ?_⟩) (by assumption) ?_
                          rotate_left
                          · (intro w hSw; (try dsimp only at hSw); (try obtain ⟨hSa, hSb⟩ := hSw); go_simp; try with_reducible rfl)
                          try simp only [Act.put, List.setIfInBounds_toArray, List.set_cons_zero, List.set_cons_succ]
                          refine wpAnyH_done (by kernel_rfl) ?_ _
                          go_wp2_with fail
                          go_meet
                          exact ⟨congrArg Value.bool ((HT.out _).2 (by rw [HC.out, show (f == want) = true from by simp [HFW.out]]; simp)).symm, kept_trans k1 (kept_trans kk8 k9)⟩
                      · have c1 : decide (1 < m) = false := by have := HM.out; simp; omega
                        have c2 : (f == want) = false := by simp; omega
                        have c3 : ((f : Int) == (want : Int)) = false := by rw [beq_eq_false_iff_ne]; omega
                        have HGO := Lib.hid hgo; clear hgo
                        go_quiet ((go_at_call 65; exact Calls.quiet_of_same ((contains_any _ _ _ _ _ _ (hA1.kept (below_drewN (kept_refl _) _)) rfl (by omega)).mono fun e w' h => ⟨by rw [h.1, HC.out], h.2.symm⟩)))
                        go_wp2_with fail
                        go_meet
                        exact ⟨congrArg Value.bool ((HT.out false).2 (by have h1 := HGO.out; have h2 : decide (0 < n) = false := (by simp; omega); have h3 : (f == want) = false := (by simp; omega); rw [h2, h3]; simp)).symm, below_drewN k1 _⟩
                    · have HC := Lib.hid hc; clear hc
                      go_quiet ((go_at_call 65; exact Calls.quiet_of_same ((contains_any _ _ _ _ _ _ (hA1.kept (below_drewN (kept_refl _) _)) rfl (by omega)).mono fun e w' h => ⟨by rw [h.1, HC.out], h.2.symm⟩)))
                      go_wp2_with fail
                      go_meet
                      exact ⟨congrArg Value.bool ((HT.out false).2 (by rw [HC.out]; rfl)).symm, below_drewN k1 _⟩
                  case rest =>
                    clear f1 f3
                    obtain ⟨rfl, k2⟩ := hcut
                    cases hres : foundT all want (foundS vars all want n) n hv (na vars v) (na hv i) (na hv j)
                    · have HRES := Lib.hid hres; clear hres
                      go_wp2_with fail
                      go_roundg (hv.length - (j + 1))
                      case rel => exact ⟨j + 1, by omega, fun j' h => by rcases Nat.lt_succ_iff_lt_or_eq.1 h with h | rfl; exact H3.out j' h; exact HRES.out, rfl, by go_num, k2⟩
                      case measure => omega
                    · have HRES := Lib.hid hres; clear hres
                      go_wp2_with fail
                      go_ret
                      exact ⟨ret_bool (found_yes hlt1 hlt2 hlt3 HRES.out), k2⟩
                · have : j = hv.length := by omega
                  subst this
                  have hf : anyN hv.length (fun j => foundT all want (foundS vars all want n) n hv (na vars v) (na hv i) (na hv j)) = false := anyN_false.2 H3.out
                  have HF := Lib.hid hf; clear hf
                  go_wp2_with fail
                  go_roundg (hv.length - (i + 1))
                  case rel => exact ⟨i + 1, by omega, fun j h => by rcases Nat.lt_succ_iff_lt_or_eq.1 h with h | rfl; exact H2.out j h; exact HF.out, rfl, by go_num, k1⟩
                  case measure => omega
            · have : i = hv.length := by omega
              subst this
              have hf : anyN hv.length (fun i => anyN hv.length fun j => foundT all want (foundS vars all want n) n hv (na vars v) (na hv i) (na hv j)) = false := anyN_false.2 H2.out
              have HF := Lib.hid hf; clear hf
              go_wp2_with fail
              go_roundg (vars.length - (v + 1))
              case rel => exact ⟨v + 1, by omega, fun j h => by rcases Nat.lt_succ_iff_lt_or_eq.1 h with h | rfl; exact H1.out j h; exact HF.out, rfl, by go_num, k1⟩
              case measure => omega
        · have : v = vars.length := by omega
          subst this
          go_wp2_with fail
          go_ret
          exact ⟨ret_bool (by rw [foundS, HG.out, anyN_false.2 H1.out]; rfl), k1⟩
    · go_enter Try.func64, Try.ntmps64
      go_wp2_with fail
      refine (contains_any _ _ _ _ _ _ hA rfl (by omega)).mono ?_
      rintro e w1 ⟨rfl, rfl⟩
      rw [hg]
      go_wp2_with fail
      go_ret
      exact ⟨ret_bool (by rw [foundS, hg]; rfl), kept_refl _⟩
end Go.Proofs.Ytinpmdekdfgiiaa
