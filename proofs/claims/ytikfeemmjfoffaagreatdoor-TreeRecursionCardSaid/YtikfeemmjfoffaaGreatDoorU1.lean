/- Joined: W1, W2, W3, W4, W5, W6, W7. -/
import Derived.Test.YtikfeemmjfoffaaGreatDoorRows
import Derived.Test.YtikfeemmjfoffaaGreatDoorG0
import Derived.Test.YtikfeemmjfoffaaGreatDoorPJ
import Derived.Deep.Onto
import Derived.Deep.RegionWith
import Derived.StillTailTactics
import Derived.Shelf.Abstract
/- Trees: whether all numbers of a list are values (the reference). -/
set_option linter.unusedVariables false
set_option linter.unusedSimpArgs false
namespace Go.Proofs.YtikfeemmjfoffaaGreatDoor
open Go.RowKit

theorem shl_wrap (n : Nat) (hn : n ≤ 16) : wrap64 (2 ^ n) = ((2 ^ n : Nat) : Int) := by
  have h1 : 2 ^ n ≤ 2 ^ 16 := Nat.pow_le_pow_right (by omega) hn
  have h2 : ((2 : Int) ^ n) = ((2 ^ n : Nat) : Int) := by simp
  rw [h2]
  generalize 2 ^ n = m at *
  unfold wrap64
  omega
theorem ia_mem {l : List Int} {k : Nat} (h : k < l.length) : ia l k ∈ l := by
  unfold ia
  rw [List.getD_eq_getElem?_getD, List.getElem?_eq_getElem h]
  exact List.getElem_mem h
theorem mem_ia {l : List Int} {x : Int} (h : x ∈ l) : ∃ k, k < l.length ∧ ia l k = x := by
  obtain ⟨k, hk, e⟩ := List.mem_iff_getElem.1 h
  exact ⟨k, hk, by unfold ia; rw [List.getD_eq_getElem?_getD, List.getElem?_eq_getElem hk]; exact e⟩

set_option maxRecDepth 100000 in
set_option maxHeartbeats 1000000 in
theorem values29_any (b : Nat) (hb : b ≤ 12) (A : Option Addr) (n c : Nat) (l : List Int) (w : World) (hA : Rd w A (ints l)) (hn : n = l.length) (hn1 : n ≤ 140737488355328) :
    Calls Tryz.prog 37 #[.int .i64 b, .slice A n c] w fun e w' => e = .returned (.bool (valsOk l b)) ∧ Kept w w' := by
  subst hn
  have hw := shl_wrap b (by omega)
  obtain ⟨N, hN⟩ : ∃ N : Nat, N = 2 ^ b := ⟨_, rfl⟩
  rw [← hN] at hw
  have HV : valsOk l b = true ↔ ∀ x ∈ l, 0 ≤ x ∧ x < (N : Int) := by rw [valsOk_iff, hN]; simp [pw]
  replace HV := Lib.hid HV
  clear hN
  go_enter Tryz.func37, Tryz.ntmps37
  go_wp2_with fail
  go_loopg [5] l.length (fun g s5 wr => ∃ k : Nat, k ≤ l.length ∧ (∀ j, j < k → 0 ≤ ia l j ∧ ia l j < (N : Int)) ∧ g = l.length - k ∧ s5 = .int .i64 k ∧ Kept w wr)
  case atStart => exact ⟨0, by omega, by omega, rfl, rfl, kept_refl _⟩
  case round =>
    obtain ⟨k, hk, hj, rfl, rfl, k1⟩ := hrel
    have HJ := Lib.hid hj; clear hj
    by_cases hlt : k < l.length
    · obtain ⟨ba1, of1, rfl, h1⟩ := hA.int hlt
      have a0 := kept_cell k1 (h1 k hlt)
      clear h1
      by_cases c1 : ia l k < 0
      · have d1 : decide (ia l k < 0) = true := decide_eq_true c1
        have HC := Lib.hid c1; clear c1
        go_wp2_with fail
        go_quiet (fail)
        go_wp2_with fail
        go_ret
        exact ⟨ret_bool (by symm; rw [Bool.eq_false_iff]; intro h; have h2 := (HV.out.1 h) (ia l k) (ia_mem hlt); have := HC.out; omega), below_drewN k1 _⟩
      · have d1 : decide (ia l k < 0) = false := decide_eq_false c1
        by_cases c2 : (N : Int) ≤ ia l k
        · have d2 : decide ((N : Int) ≤ ia l k) = true := decide_eq_true c2
          have HC := Lib.hid c2; clear c1 c2
          go_wp2_with fail
          go_quiet (fail)
          go_wp2_with fail
          go_ret
          exact ⟨ret_bool (by symm; rw [Bool.eq_false_iff]; intro h; have h2 := (HV.out.1 h) (ia l k) (ia_mem hlt); have := HC.out; omega), below_drewN k1 _⟩
        · have d2 : decide ((N : Int) ≤ ia l k) = false := decide_eq_false c2
          have HC := Lib.hid (And.intro c1 c2); clear c1 c2
          go_wp2_with fail
          go_quiet (fail)
          go_wp2_with fail
          go_roundg (l.length - (k + 1))
          case rel => exact ⟨k + 1, by omega, fun j h => by rcases Nat.lt_succ_iff_lt_or_eq.1 h with h | rfl; exact HJ.out j h; have := HC.out; omega, rfl, by go_num, below_drewN k1 _⟩
          case measure => omega
    · have : k = l.length := by omega
      subst this
      go_wp2_with fail
      go_ret
      exact ⟨ret_bool (by symm; exact HV.out.2 fun x hx => by obtain ⟨j, hj, e⟩ := mem_ia hx; rw [← e]; exact HJ.out j hj), k1⟩
end Go.Proofs.YtikfeemmjfoffaaGreatDoor

/- Trees: the reference's Valid. -/
set_option linter.unusedVariables false
set_option linter.unusedSimpArgs false
namespace Go.Proofs.YtikfeemmjfoffaaGreatDoor
open Go.RowKit

/-- Rows of numbers in memory. -/
def RT (w : World) (T : Option Addr) (ls : List (List Int)) : Prop := ∀ j, j < ls.length → ∃ b off A c, T = some ⟨b, off, none⟩ ∧ w.cell? ⟨b, off + j, none⟩ = some (.slice A (ls.getD j []).length c) ∧ Rd w A (ints (ls.getD j [])) ∧ (ls.getD j []).length ≤ 140737488355328
theorem RT.kept {w w' : World} {T : Option Addr} {ls : List (List Int)} (h : RT w T ls) (k : Kept w w') : RT w' T ls := fun j hj => by
  obtain ⟨b, off, A, c, e, h1, h2, h3⟩ := h j hj
  exact ⟨b, off, A, c, e, kept_cell k h1, h2.kept k, h3⟩
theorem getD_mem {α : Type} {l : List α} {k : Nat} {d : α} (h : k < l.length) : l.getD k d ∈ l := by
  rw [List.getD_eq_getElem?_getD, List.getElem?_eq_getElem h]
  exact List.getElem_mem h
theorem mem_getD {α : Type} {l : List α} {x d : α} (h : x ∈ l) : ∃ k, k < l.length ∧ l.getD k d = x := by
  obtain ⟨k, hk, e⟩ := List.mem_iff_getElem.1 h
  exact ⟨k, hk, by rw [List.getD_eq_getElem?_getD, List.getElem?_eq_getElem hk]; exact e⟩

set_option maxRecDepth 100000 in
set_option maxHeartbeats 4000000 in
theorem rvalid9_any (h b : Int) (A : Option Addr) (c : Nat) (lv : List Int) (T : Option Addr) (d : Nat) (tb : List (List Int)) (w : World) (hA : Rd w A (ints lv)) (hT : RT w T tb) (hl : lv.length ≤ 140737488355328) (ht : tb.length ≤ 140737488355328) :
    Calls Tryz.prog 10 #[.agg #[.int .i64 h, .int .i64 b, .slice A lv.length c, .slice T tb.length d]] w fun e w' => e = .returned (.bool (validT ⟨h, b, lv, tb⟩)) ∧ Kept w w' := by
  have o0 := Own.new w 27 [.int .i64 h, .int .i64 b, .slice A lv.length c, .slice T tb.length d]
  have K0 := kept_alloc (kept_refl w) (.cells #[.int .i64 h, .int .i64 b, .slice A lv.length c, .slice T tb.length d] 27)
  have q0 := o0.cell (j := 0) rfl; have q1 := o0.cell (j := 1) rfl; have q2 := o0.cell (j := 2) rfl; have q3 := o0.cell (j := 3) rfl
  obtain ⟨V, hV⟩ : ∃ V, V = validT ⟨h, b, lv, tb⟩ := ⟨_, rfl⟩
  rw [← hV]
  have HV := Lib.hid hV; clear hV
  have HA := Lib.hid hA; have HT := Lib.hid hT; clear hA hT
  by_cases c1 : h < 0
  · have d1 : decide (h < 0) = true := decide_eq_true c1
    have HC := Lib.hid c1; clear c1
    go_enter Tryz.func10, Tryz.ntmps10
    go_wp2_with fail
    go_quiet (fail)
    go_wp2_with fail
    go_ret
    exact ⟨ret_bool (by symm; rw [HV.out, Bool.eq_false_iff]; intro hv; have g := good_of hv; have G : 0 ≤ h := g.h0; have := HC.out; omega), below_drewN K0 _⟩
  have d1 : decide (h < 0) = false := decide_eq_false c1
  by_cases c2 : 6 < h
  · have d2 : decide (6 < h) = true := decide_eq_true c2
    have HC := Lib.hid c2; clear c1 c2
    go_enter Tryz.func10, Tryz.ntmps10
    go_wp2_with fail
    go_quiet (fail)
    go_wp2_with fail
    go_ret
    exact ⟨ret_bool (by symm; rw [HV.out, Bool.eq_false_iff]; intro hv; have g := good_of hv; have G : h ≤ 6 := g.h6; have := HC.out; omega), below_drewN K0 _⟩
  have d2 : decide (6 < h) = false := decide_eq_false c2
  by_cases c3 : b < 1
  · have d3 : decide (b < 1) = true := decide_eq_true c3
    have HC := Lib.hid c3; clear c1 c2 c3
    go_enter Tryz.func10, Tryz.ntmps10
    go_wp2_with fail
    go_quiet (fail)
    go_wp2_with fail
    go_ret
    exact ⟨ret_bool (by symm; rw [HV.out, Bool.eq_false_iff]; intro hv; have g := good_of hv; have G : 1 ≤ b := g.b1; have := HC.out; omega), below_drewN K0 _⟩
  have d3 : decide (b < 1) = false := decide_eq_false c3
  by_cases c4 : 6 < b
  · have d4 : decide (6 < b) = true := decide_eq_true c4
    have HC := Lib.hid c4; clear c1 c2 c3 c4
    go_enter Tryz.func10, Tryz.ntmps10
    go_wp2_with fail
    go_quiet (fail)
    go_wp2_with fail
    go_ret
    exact ⟨ret_bool (by symm; rw [HV.out, Bool.eq_false_iff]; intro hv; have g := good_of hv; have G : b ≤ 6 := g.b6; have := HC.out; omega), below_drewN K0 _⟩
  have d4 : decide (6 < b) = false := decide_eq_false c4
  obtain ⟨hn, rfl⟩ : ∃ k : Nat, h = k := ⟨h.toNat, by omega⟩
  obtain ⟨bn, rfl⟩ : ∃ k : Nat, b = k := ⟨b.toNat, by omega⟩
  have hh6 : hn ≤ 6 := by omega
  have hb6 : bn ≤ 6 := by omega
  have hb1 : 1 ≤ bn := by omega
  clear c1 c2 c3 c4
  have w1 := shl_wrap hn (by omega)
  obtain ⟨N, hN⟩ : ∃ N : Nat, N = 2 ^ hn := ⟨_, rfl⟩
  rw [← hN] at w1
  have hNp : pw (hn : Int) = N := by rw [hN]; simp [pw]
  have hN1 : 1 ≤ N := by rw [← hNp]; exact pw_pos _
  have hN64 : N ≤ 64 := by rw [← hNp]; exact pw_le (by omega)
  have HNP := Lib.hid hNp; clear hN hNp
  have w2 : wrap64 ((N : Int) - 1) = (N : Int) - 1 := by unfold wrap64; omega
  by_cases c5 : lv.length = N
  rotate_left
  · have e1 : ((lv.length : Int) != (N : Int)) = true := by simp; omega
    have e2 : (lv.length != N) = true := by simp [c5]
    have HC := Lib.hid (And.intro c5 HNP.out); clear c5
    go_enter Tryz.func10, Tryz.ntmps10
    go_wp2_with fail
    go_quiet (fail)
    go_wp2_with fail
    go_ret
    exact ⟨ret_bool (by symm; rw [HV.out, Bool.eq_false_iff]; intro hv; have g := good_of hv; have G : lv.length = pw (hn : Int) := g.ll; have := HC.out; omega), below_drewN K0 _⟩
  have e1 : ((lv.length : Int) != (N : Int)) = false := by simp; omega
  have e2 : (lv.length != N) = false := by simp [c5]
  by_cases c6 : (tb.length : Int) = (N : Int) - 1
  rotate_left
  · have e3 : ((tb.length : Int) != (N : Int) - 1) = true := by simp; omega
    have HC := Lib.hid (And.intro c6 (And.intro HNP.out hN1)); clear c5 c6
    go_enter Tryz.func10, Tryz.ntmps10
    go_wp2_with fail
    go_quiet (fail)
    go_wp2_with fail
    go_ret
    exact ⟨ret_bool (by symm; rw [HV.out, Bool.eq_false_iff]; intro hv; have g := good_of hv; have G : tb.length = pw (hn : Int) - 1 := g.tl; have := HC.out; omega), below_drewN K0 _⟩
  have e3 : ((tb.length : Int) != (N : Int) - 1) = false := by simp; omega
  have o0' := o0
  obtain ⟨W0, hW0⟩ : ∃ x, x = w.alloc (.cells #[.int .i64 hn, .int .i64 bn, .slice A lv.length c, .slice T tb.length d] 27) := ⟨_, rfl⟩
  rw [← hW0] at o0' K0
  obtain ⟨m, hm⟩ : ∃ m : Nat, m = 2 * bn := ⟨_, rfl⟩
  have w3 : wrap64 (2 * (bn : Int)) = (m : Int) := by unfold wrap64; omega
  have w3' : IntKind.i64.wrap (2 * (bn : Int)) = (m : Int) := (IntWalk.i64_in _ (by omega)).trans (by omega)
  have w4 := shl_wrap m (by omega)
  obtain ⟨M, hM⟩ : ∃ M : Nat, M = 2 ^ m := ⟨_, rfl⟩
  rw [← hM] at w4
  have w5 : IntKind.i64.wrap (2 ^ min m 64) = (M : Int) := by
    have e : (2 : Int) ^ m = (M : Int) := by rw [hM]; simp
    have hM2 : M ≤ 4096 := by rw [hM]; exact Nat.pow_le_pow_right (n := 2) (by omega) (by omega : m ≤ 12)
    rw [Nat.min_eq_left (by omega), e]
    exact IntWalk.i64_in _ (by omega)
  have hMp : pw (2 * (bn : Int)) = M := by rw [hM, hm]; unfold pw; congr 1
  have HMP := Lib.hid hMp; clear hM hMp
  have HC6 := Lib.hid (And.intro c5 c6); clear c5 c6
  have C29 := Lib.hid fun (A : Option Addr) (c : Nat) (l : List Int) (w' : World) (hr : Rd w' A (ints l)) (hl : l.length ≤ 140737488355328) => values29_any bn (by omega) A l.length c l w' hr rfl hl
  have HM := Lib.hid hm; clear hm
  go_enter Tryz.func10, Tryz.ntmps10
  go_wp2_with fail
  go_quiet (fail)
  go_wp2_with fail
  have KB : Kept W0 (w.alloc (.cells #[.int .i64 hn, .int .i64 bn, .slice A lv.length c, .slice T tb.length d] 27)).drew := by rw [hW0]; exact kept_drew (kept_refl _)
  have KB' : Kept W0 (w.alloc (.cells #[.int .i64 hn, .int .i64 bn, .slice A lv.length c, .slice T tb.length d] 27)) := by rw [hW0]; exact kept_refl _
  clear q0 q1 q2 q3 o0 w1 w2
  go_loopg [3] tb.length (fun g' s3 wr => ∃ k : Nat, k ≤ tb.length ∧ (∀ j, j < k → (tb.getD j []).length = M ∧ valsOk (tb.getD j []) bn = true) ∧ g' = tb.length - k ∧ s3 = .int .i64 k ∧ Kept W0 wr)
  case atStart => exact ⟨0, by omega, by omega, rfl, rfl, by first | exact KB | exact KB' | exact below_drewN KB' _⟩
  case round =>
    clear KB KB'
    obtain ⟨k, hk, hj, rfl, rfl, k1⟩ := hrel
    have HJ := Lib.hid hj; clear hj
    have oo := o0'.kept k1
    have q0 := oo.cell (j := 0) rfl; have q1 := oo.cell (j := 1) rfl; have q2 := oo.cell (j := 2) rfl; have q3 := oo.cell (j := 3) rfl
    by_cases hlt : k < tb.length
    · obtain ⟨tb1, toff, A1, c1, rfl, t0, r1, l1⟩ := (HT.out.kept (kept_trans K0 k1)) k hlt
      obtain ⟨L, hL⟩ : ∃ L, L = tb.getD k [] := ⟨_, rfl⟩
      rw [← hL] at t0 r1 l1
      have HL := Lib.hid hL; clear hL
      have R1 := Lib.hid r1; clear r1
      by_cases c7 : L.length = M
      rotate_left
      · have e4 : ((L.length : Int) != (M : Int)) = true := by simp; omega
        have e5 : (L.length != M) = true := by simp [c7]
        have e6 : ((L.length : Int) != IntKind.i64.wrap (2 ^ min m 64)) = true := by rw [w5]; exact e4
        have e7 : ((L.length : Int) == IntKind.i64.wrap (2 ^ min m 64)) = false := by rw [w5]; simp; omega
        have HC := Lib.hid c7; clear c7
        go_wp2_with fail
        refine region_x (fun w' => Kept wr w') [] (by kernel_rfl) (kept_drew (kept_refl _)) (fun hHeld => ?_)
        refine x_take (i := 0) (oi := { dst := some 48, op := Op.fieldAddr 27 (Operand.tmp 1) 3, type := 0, pos := "ref.go:16", after := #[], guard := none }) (v := ?_) rfl (by kernel_rfl) (by kernel_rfl) (by kernel_rfl) (by kernel_rfl) (by kernel_rfl) (fun _ _ _ h => h) (Or.inl ⟨rfl, ?_⟩) (by assumption) ?_
        rotate_left
        · (intro w' hSw; replace q0 := kept_cell hSw q0; replace q1 := kept_cell hSw q1; replace q2 := kept_cell hSw q2; replace q3 := kept_cell hSw q3; replace t0 := kept_cell hSw t0; go_simp; try with_reducible rfl)
        try simp only [Act.put, List.setIfInBounds_toArray, List.set_cons_zero, List.set_cons_succ]
        refine x_take (i := 1) (oi := { dst := some 49, op := Op.load 25 (Operand.tmp 48), type := 25, pos := "ref.go:16", after := #[{ on := 0, ground := Ground.data }], guard := none }) (v := ?_) rfl (by kernel_rfl) (by kernel_rfl) (by kernel_rfl) (by kernel_rfl) (by kernel_rfl) (fun _ _ _ h => h) (Or.inl ⟨rfl, ?_⟩) (by assumption) ?_
        rotate_left
        · (intro w' hSw; replace q0 := kept_cell hSw q0; replace q1 := kept_cell hSw q1; replace q2 := kept_cell hSw q2; replace q3 := kept_cell hSw q3; replace t0 := kept_cell hSw t0; go_simp; try with_reducible rfl)
        try simp only [Act.put, List.setIfInBounds_toArray, List.set_cons_zero, List.set_cons_succ]
        refine x_take (i := 2) (oi := { dst := some 50, op := Op.move (Operand.tmp 3), type := 3, pos := "ref.go:16", after := #[], guard := none }) (v := ?_) rfl (by kernel_rfl) (by kernel_rfl) (by kernel_rfl) (by kernel_rfl) (by kernel_rfl) (fun _ _ _ h => h) (Or.inl ⟨rfl, ?_⟩) (by assumption) ?_
        rotate_left
        · (intro w' hSw; replace q0 := kept_cell hSw q0; replace q1 := kept_cell hSw q1; replace q2 := kept_cell hSw q2; replace q3 := kept_cell hSw q3; replace t0 := kept_cell hSw t0; go_simp; try with_reducible rfl)
        try simp only [Act.put, List.setIfInBounds_toArray, List.set_cons_zero, List.set_cons_succ]
        refine x_take (i := 3) (oi := { dst := some 51, op := Op.indexAddr 25 (Operand.tmp 49) (Operand.tmp 50), type := 0, pos := "ref.go:16", after := #[{ on := 1, ground := Ground.data }, { on := 2, ground := Ground.data }], guard := none }) (v := ?_) rfl (by kernel_rfl) (by kernel_rfl) (by kernel_rfl) (by kernel_rfl) (by kernel_rfl) (fun _ _ _ h => h) (Or.inl ⟨rfl, ?_⟩) (by assumption) ?_
        rotate_left
        · (intro w' hSw; replace q0 := kept_cell hSw q0; replace q1 := kept_cell hSw q1; replace q2 := kept_cell hSw q2; replace q3 := kept_cell hSw q3; replace t0 := kept_cell hSw t0; go_simp; try with_reducible rfl)
        try simp only [Act.put, List.setIfInBounds_toArray, List.set_cons_zero, List.set_cons_succ]
        refine x_take (i := 4) (oi := { dst := some 52, op := Op.load 24 (Operand.tmp 51), type := 24, pos := "ref.go:16", after := #[{ on := 3, ground := Ground.data }], guard := none }) (v := ?_) rfl (by kernel_rfl) (by kernel_rfl) (by kernel_rfl) (by kernel_rfl) (by kernel_rfl) (fun _ _ _ h => h) (Or.inl ⟨rfl, ?_⟩) (by assumption) ?_
        rotate_left
        · (intro w' hSw; replace q0 := kept_cell hSw q0; replace q1 := kept_cell hSw q1; replace q2 := kept_cell hSw q2; replace q3 := kept_cell hSw q3; replace t0 := kept_cell hSw t0; go_simp; try with_reducible rfl)
        try simp only [Act.put, List.setIfInBounds_toArray, List.set_cons_zero, List.set_cons_succ]
        refine x_take (i := 5) (oi := { dst := some 53, op := Op.call { callee := Callee.builtin Builtin.len, args := #[Operand.tmp 52], argTypes := #[24] }, type := 3, pos := "ref.go:16", after := #[{ on := 4, ground := Ground.data }], guard := none }) (v := ?_) rfl (by kernel_rfl) (by kernel_rfl) (by kernel_rfl) (by kernel_rfl) (by kernel_rfl) (fun _ _ _ h => h) (Or.inl ⟨rfl, ?_⟩) (by assumption) ?_
        rotate_left
        · (intro w' hSw; replace q0 := kept_cell hSw q0; replace q1 := kept_cell hSw q1; replace q2 := kept_cell hSw q2; replace q3 := kept_cell hSw q3; replace t0 := kept_cell hSw t0; go_simp; try with_reducible rfl)
        try simp only [Act.put, List.setIfInBounds_toArray, List.set_cons_zero, List.set_cons_succ]
        refine x_take (i := 6) (oi := { dst := some 54, op := Op.fieldAddr 27 (Operand.tmp 1) 1, type := 0, pos := "ref.go:16", after := #[], guard := none }) (v := ?_) rfl (by kernel_rfl) (by kernel_rfl) (by kernel_rfl) (by kernel_rfl) (by kernel_rfl) (fun _ _ _ h => h) (Or.inl ⟨rfl, ?_⟩) (by assumption) ?_
        rotate_left
        · (intro w' hSw; replace q0 := kept_cell hSw q0; replace q1 := kept_cell hSw q1; replace q2 := kept_cell hSw q2; replace q3 := kept_cell hSw q3; replace t0 := kept_cell hSw t0; go_simp; try with_reducible rfl)
        try simp only [Act.put, List.setIfInBounds_toArray, List.set_cons_zero, List.set_cons_succ]
        refine x_take (i := 7) (oi := { dst := some 55, op := Op.load 3 (Operand.tmp 54), type := 3, pos := "ref.go:16", after := #[{ on := 6, ground := Ground.data }], guard := none }) (v := ?_) rfl (by kernel_rfl) (by kernel_rfl) (by kernel_rfl) (by kernel_rfl) (by kernel_rfl) (fun _ _ _ h => h) (Or.inl ⟨rfl, ?_⟩) (by assumption) ?_
        rotate_left
        · (intro w' hSw; replace q0 := kept_cell hSw q0; replace q1 := kept_cell hSw q1; replace q2 := kept_cell hSw q2; replace q3 := kept_cell hSw q3; replace t0 := kept_cell hSw t0; go_simp; try with_reducible rfl)
        try simp only [Act.put, List.setIfInBounds_toArray, List.set_cons_zero, List.set_cons_succ]
        refine x_take (i := 8) (oi := { dst := some 56, op := Op.binOp BinOp.mul 3 (Operand.const (Value.int IntKind.i64 2)) (Operand.tmp 55) 3, type := 3, pos := "ref.go:16", after := #[{ on := 7, ground := Ground.data }], guard := none }) (v := ?_) rfl (by kernel_rfl) (by kernel_rfl) (by kernel_rfl) (by kernel_rfl) (by kernel_rfl) (fun _ _ _ h => h) (Or.inl ⟨rfl, ?_⟩) (by assumption) ?_
        rotate_left
        · (intro w' hSw; replace q0 := kept_cell hSw q0; replace q1 := kept_cell hSw q1; replace q2 := kept_cell hSw q2; replace q3 := kept_cell hSw q3; replace t0 := kept_cell hSw t0; go_simp; try with_reducible rfl)
        try simp only [Act.put, List.setIfInBounds_toArray, List.set_cons_zero, List.set_cons_succ]
        refine x_take (i := 9) (oi := { dst := some 57, op := Op.binOp BinOp.shl 3 (Operand.const (Value.int IntKind.i64 1)) (Operand.tmp 56) 3, type := 3, pos := "ref.go:16", after := #[{ on := 8, ground := Ground.data }], guard := none }) (v := ?_) rfl (by kernel_rfl) (by kernel_rfl) (by kernel_rfl) (by kernel_rfl) (by kernel_rfl) (fun _ _ _ h => h) (Or.inl ⟨rfl, ?_⟩) (by assumption) ?_
        rotate_left
        · (intro w' hSw; replace q0 := kept_cell hSw q0; replace q1 := kept_cell hSw q1; replace q2 := kept_cell hSw q2; replace q3 := kept_cell hSw q3; replace t0 := kept_cell hSw t0; go_simp; try with_reducible rfl)
        try simp only [Act.put, List.setIfInBounds_toArray, List.set_cons_zero, List.set_cons_succ]
        refine x_take (i := 10) (oi := { dst := some 58, op := Op.binOp BinOp.neq 3 (Operand.tmp 53) (Operand.tmp 57) 3, type := 4, pos := "ref.go:16", after := #[{ on := 5, ground := Ground.data }, { on := 9, ground := Ground.data }], guard := none }) (v := ?_) rfl (by kernel_rfl) (by kernel_rfl) (by kernel_rfl) (by kernel_rfl) (by kernel_rfl) (fun _ _ _ h => h) (Or.inl ⟨rfl, ?_⟩) (by assumption) ?_
        rotate_left
        · (intro w' hSw; replace q0 := kept_cell hSw q0; replace q1 := kept_cell hSw q1; replace q2 := kept_cell hSw q2; replace q3 := kept_cell hSw q3; replace t0 := kept_cell hSw t0; go_simp; try with_reducible rfl)
        try simp only [Act.put, List.setIfInBounds_toArray, List.set_cons_zero, List.set_cons_succ]
        refine x_take (i := 11) (oi := { dst := some 59, op := Op.move (Operand.tmp 58), type := 4, pos := "ref.go:16", after := #[{ on := 10, ground := Ground.data }], guard := none }) (v := ?_) rfl (by kernel_rfl) (by kernel_rfl) (by kernel_rfl) (by kernel_rfl) (by kernel_rfl) (fun _ _ _ h => h) (Or.inl ⟨rfl, ?_⟩) (by assumption) ?_
        rotate_left
        · (intro w' hSw; replace q0 := kept_cell hSw q0; replace q1 := kept_cell hSw q1; replace q2 := kept_cell hSw q2; replace q3 := kept_cell hSw q3; replace t0 := kept_cell hSw t0; go_simp; try with_reducible rfl)
        try simp only [Act.put, List.setIfInBounds_toArray, List.set_cons_zero, List.set_cons_succ]
        refine x_take (i := 12) (oi := { dst := some 60, op := Op.fieldAddr 27 (Operand.tmp 1) 1, type := 0, pos := "ref.go:16", after := #[{ on := 11, ground := Ground.guard }], guard := some (11, false) }) (v := undef) rfl (by kernel_rfl) (by kernel_rfl) (by kernel_rfl) (by kernel_rfl) (by kernel_rfl) (fun _ _ _ h => h) (Or.inr ⟨rfl, rfl⟩) (by assumption) ?_
        try simp only [Act.put, List.setIfInBounds_toArray, List.set_cons_zero, List.set_cons_succ]
        refine x_take (i := 13) (oi := { dst := some 61, op := Op.load 3 (Operand.tmp 60), type := 3, pos := "ref.go:16", after := #[{ on := 12, ground := Ground.data }, { on := 11, ground := Ground.guard }], guard := some (11, false) }) (v := undef) rfl (by kernel_rfl) (by kernel_rfl) (by kernel_rfl) (by kernel_rfl) (by kernel_rfl) (fun _ _ _ h => h) (Or.inr ⟨rfl, rfl⟩) (by assumption) ?_
        try simp only [Act.put, List.setIfInBounds_toArray, List.set_cons_zero, List.set_cons_succ]
        refine x_take (i := 14) (oi := { dst := some 62, op := Op.fieldAddr 27 (Operand.tmp 1) 3, type := 0, pos := "ref.go:16", after := #[{ on := 11, ground := Ground.guard }], guard := some (11, false) }) (v := undef) rfl (by kernel_rfl) (by kernel_rfl) (by kernel_rfl) (by kernel_rfl) (by kernel_rfl) (fun _ _ _ h => h) (Or.inr ⟨rfl, rfl⟩) (by assumption) ?_
        try simp only [Act.put, List.setIfInBounds_toArray, List.set_cons_zero, List.set_cons_succ]
        refine x_take (i := 15) (oi := { dst := some 63, op := Op.load 25 (Operand.tmp 62), type := 25, pos := "ref.go:16", after := #[{ on := 14, ground := Ground.data }, { on := 11, ground := Ground.guard }], guard := some (11, false) }) (v := undef) rfl (by kernel_rfl) (by kernel_rfl) (by kernel_rfl) (by kernel_rfl) (by kernel_rfl) (fun _ _ _ h => h) (Or.inr ⟨rfl, rfl⟩) (by assumption) ?_
        try simp only [Act.put, List.setIfInBounds_toArray, List.set_cons_zero, List.set_cons_succ]
        refine x_take (i := 16) (oi := { dst := some 64, op := Op.move (Operand.tmp 3), type := 3, pos := "ref.go:16", after := #[{ on := 11, ground := Ground.guard }], guard := some (11, false) }) (v := undef) rfl (by kernel_rfl) (by kernel_rfl) (by kernel_rfl) (by kernel_rfl) (by kernel_rfl) (fun _ _ _ h => h) (Or.inr ⟨rfl, rfl⟩) (by assumption) ?_
        try simp only [Act.put, List.setIfInBounds_toArray, List.set_cons_zero, List.set_cons_succ]
        refine x_take (i := 17) (oi := { dst := some 65, op := Op.indexAddr 25 (Operand.tmp 63) (Operand.tmp 64), type := 0, pos := "ref.go:16", after := #[{ on := 15, ground := Ground.data }, { on := 16, ground := Ground.data }, { on := 11, ground := Ground.guard }], guard := some (11, false) }) (v := undef) rfl (by kernel_rfl) (by kernel_rfl) (by kernel_rfl) (by kernel_rfl) (by kernel_rfl) (fun _ _ _ h => h) (Or.inr ⟨rfl, rfl⟩) (by assumption) ?_
        try simp only [Act.put, List.setIfInBounds_toArray, List.set_cons_zero, List.set_cons_succ]
        refine x_take (i := 18) (oi := { dst := some 66, op := Op.load 24 (Operand.tmp 65), type := 24, pos := "ref.go:16", after := #[{ on := 17, ground := Ground.data }, { on := 11, ground := Ground.guard }], guard := some (11, false) }) (v := undef) rfl (by kernel_rfl) (by kernel_rfl) (by kernel_rfl) (by kernel_rfl) (by kernel_rfl) (fun _ _ _ h => h) (Or.inr ⟨rfl, rfl⟩) (by assumption) ?_
        try simp only [Act.put, List.setIfInBounds_toArray, List.set_cons_zero, List.set_cons_succ]
        refine x_take (i := 19) (oi := { dst := some 67, op := Op.call { callee := Callee.value (Operand.func 37), args := #[Operand.tmp 61, Operand.tmp 66], argTypes := #[3, 24] }, type := 4, pos := "ref.go:16", after := #[{ on := 13, ground := Ground.data }, { on := 18, ground := Ground.data }, { on := 11, ground := Ground.chain }, { on := 11, ground := Ground.guard }], guard := some (11, false) }) (v := undef) rfl (by kernel_rfl) (by kernel_rfl) (by kernel_rfl) (by kernel_rfl) (by kernel_rfl) (fun _ _ _ h => h) (Or.inr ⟨rfl, rfl⟩) (by assumption) ?_
        try simp only [Act.put, List.setIfInBounds_toArray, List.set_cons_zero, List.set_cons_succ]
        refine x_take (i := 20) (oi := { dst := some 68, op := Op.unOp UnOp.not 4 (Operand.tmp 67), type := 4, pos := "ref.go:16", after := #[{ on := 19, ground := Ground.data }, { on := 11, ground := Ground.guard }], guard := some (11, false) }) (v := undef) rfl (by kernel_rfl) (by kernel_rfl) (by kernel_rfl) (by kernel_rfl) (by kernel_rfl) (fun _ _ _ h => h) (Or.inr ⟨rfl, rfl⟩) (by assumption) ?_
        try simp only [Act.put, List.setIfInBounds_toArray, List.set_cons_zero, List.set_cons_succ]
        refine x_take (i := 21) (oi := { dst := some 69, op := Op.pick (Operand.tmp 59) (Operand.const (Value.bool true)) (Operand.tmp 68), type := 4, pos := "ref.go:16", after := #[{ on := 11, ground := Ground.data }, { on := 20, ground := Ground.data }], guard := none }) (v := ?_) rfl (by kernel_rfl) (by kernel_rfl) (by kernel_rfl) (by kernel_rfl) (by kernel_rfl) (fun _ _ _ h => h) (Or.inl ⟨rfl, ?_⟩) (by assumption) ?_
        rotate_left
        · (intro w' hSw; replace q0 := kept_cell hSw q0; replace q1 := kept_cell hSw q1; replace q2 := kept_cell hSw q2; replace q3 := kept_cell hSw q3; replace t0 := kept_cell hSw t0; go_simp; try with_reducible rfl)
        try simp only [Act.put, List.setIfInBounds_toArray, List.set_cons_zero, List.set_cons_succ]
        refine x_done (by kernel_rfl) ?_ _
        go_wp2_with fail
        go_ret
        exact ⟨ret_bool (by symm; rw [HV.out, Bool.eq_false_iff]; intro hv; have g := good_of hv; have G := g.tw (tb.getD k []) (getD_mem hlt); rw [← HL.out] at G; exact HC.out (G.trans HMP.out)), kept_trans K0 (kept_trans k1 (by first | exact hHeld | exact kept_drew (kept_refl _)))⟩
      · have e4 : ((L.length : Int) != (M : Int)) = false := by simp; omega
        have e5 : (L.length != M) = false := by simp [c7]
        have e6 : ((L.length : Int) != IntKind.i64.wrap (2 ^ min m 64)) = false := by rw [w5]; exact e4
        have e7 : ((L.length : Int) == IntKind.i64.wrap (2 ^ min m 64)) = true := by rw [w5]; simp; omega
        have HC := Lib.hid c7; clear c7
        by_cases c8 : valsOk L (bn : Int) = true
        · go_wp2_with fail
          refine region_x (fun w' => Kept wr w') [] (by kernel_rfl) (kept_drew (kept_refl _)) (fun hHeld => ?_)
          refine x_take (i := 0) (oi := { dst := some 48, op := Op.fieldAddr 27 (Operand.tmp 1) 3, type := 0, pos := "ref.go:16", after := #[], guard := none }) (v := ?_) rfl (by kernel_rfl) (by kernel_rfl) (by kernel_rfl) (by kernel_rfl) (by kernel_rfl) (fun _ _ _ h => h) (Or.inl ⟨rfl, ?_⟩) (by assumption) ?_
          rotate_left
          · (intro w' hSw; replace q0 := kept_cell hSw q0; replace q1 := kept_cell hSw q1; replace q2 := kept_cell hSw q2; replace q3 := kept_cell hSw q3; replace t0 := kept_cell hSw t0; go_simp; try with_reducible rfl)
          try simp only [Act.put, List.setIfInBounds_toArray, List.set_cons_zero, List.set_cons_succ]
          refine x_take (i := 1) (oi := { dst := some 49, op := Op.load 25 (Operand.tmp 48), type := 25, pos := "ref.go:16", after := #[{ on := 0, ground := Ground.data }], guard := none }) (v := ?_) rfl (by kernel_rfl) (by kernel_rfl) (by kernel_rfl) (by kernel_rfl) (by kernel_rfl) (fun _ _ _ h => h) (Or.inl ⟨rfl, ?_⟩) (by assumption) ?_
          rotate_left
          · (intro w' hSw; replace q0 := kept_cell hSw q0; replace q1 := kept_cell hSw q1; replace q2 := kept_cell hSw q2; replace q3 := kept_cell hSw q3; replace t0 := kept_cell hSw t0; go_simp; try with_reducible rfl)
          try simp only [Act.put, List.setIfInBounds_toArray, List.set_cons_zero, List.set_cons_succ]
          refine x_take (i := 2) (oi := { dst := some 50, op := Op.move (Operand.tmp 3), type := 3, pos := "ref.go:16", after := #[], guard := none }) (v := ?_) rfl (by kernel_rfl) (by kernel_rfl) (by kernel_rfl) (by kernel_rfl) (by kernel_rfl) (fun _ _ _ h => h) (Or.inl ⟨rfl, ?_⟩) (by assumption) ?_
          rotate_left
          · (intro w' hSw; replace q0 := kept_cell hSw q0; replace q1 := kept_cell hSw q1; replace q2 := kept_cell hSw q2; replace q3 := kept_cell hSw q3; replace t0 := kept_cell hSw t0; go_simp; try with_reducible rfl)
          try simp only [Act.put, List.setIfInBounds_toArray, List.set_cons_zero, List.set_cons_succ]
          refine x_take (i := 3) (oi := { dst := some 51, op := Op.indexAddr 25 (Operand.tmp 49) (Operand.tmp 50), type := 0, pos := "ref.go:16", after := #[{ on := 1, ground := Ground.data }, { on := 2, ground := Ground.data }], guard := none }) (v := ?_) rfl (by kernel_rfl) (by kernel_rfl) (by kernel_rfl) (by kernel_rfl) (by kernel_rfl) (fun _ _ _ h => h) (Or.inl ⟨rfl, ?_⟩) (by assumption) ?_
          rotate_left
          · (intro w' hSw; replace q0 := kept_cell hSw q0; replace q1 := kept_cell hSw q1; replace q2 := kept_cell hSw q2; replace q3 := kept_cell hSw q3; replace t0 := kept_cell hSw t0; go_simp; try with_reducible rfl)
          try simp only [Act.put, List.setIfInBounds_toArray, List.set_cons_zero, List.set_cons_succ]
          refine x_take (i := 4) (oi := { dst := some 52, op := Op.load 24 (Operand.tmp 51), type := 24, pos := "ref.go:16", after := #[{ on := 3, ground := Ground.data }], guard := none }) (v := ?_) rfl (by kernel_rfl) (by kernel_rfl) (by kernel_rfl) (by kernel_rfl) (by kernel_rfl) (fun _ _ _ h => h) (Or.inl ⟨rfl, ?_⟩) (by assumption) ?_
          rotate_left
          · (intro w' hSw; replace q0 := kept_cell hSw q0; replace q1 := kept_cell hSw q1; replace q2 := kept_cell hSw q2; replace q3 := kept_cell hSw q3; replace t0 := kept_cell hSw t0; go_simp; try with_reducible rfl)
          try simp only [Act.put, List.setIfInBounds_toArray, List.set_cons_zero, List.set_cons_succ]
          refine x_take (i := 5) (oi := { dst := some 53, op := Op.call { callee := Callee.builtin Builtin.len, args := #[Operand.tmp 52], argTypes := #[24] }, type := 3, pos := "ref.go:16", after := #[{ on := 4, ground := Ground.data }], guard := none }) (v := ?_) rfl (by kernel_rfl) (by kernel_rfl) (by kernel_rfl) (by kernel_rfl) (by kernel_rfl) (fun _ _ _ h => h) (Or.inl ⟨rfl, ?_⟩) (by assumption) ?_
          rotate_left
          · (intro w' hSw; replace q0 := kept_cell hSw q0; replace q1 := kept_cell hSw q1; replace q2 := kept_cell hSw q2; replace q3 := kept_cell hSw q3; replace t0 := kept_cell hSw t0; go_simp; try with_reducible rfl)
          try simp only [Act.put, List.setIfInBounds_toArray, List.set_cons_zero, List.set_cons_succ]
          refine x_take (i := 6) (oi := { dst := some 54, op := Op.fieldAddr 27 (Operand.tmp 1) 1, type := 0, pos := "ref.go:16", after := #[], guard := none }) (v := ?_) rfl (by kernel_rfl) (by kernel_rfl) (by kernel_rfl) (by kernel_rfl) (by kernel_rfl) (fun _ _ _ h => h) (Or.inl ⟨rfl, ?_⟩) (by assumption) ?_
          rotate_left
          · (intro w' hSw; replace q0 := kept_cell hSw q0; replace q1 := kept_cell hSw q1; replace q2 := kept_cell hSw q2; replace q3 := kept_cell hSw q3; replace t0 := kept_cell hSw t0; go_simp; try with_reducible rfl)
          try simp only [Act.put, List.setIfInBounds_toArray, List.set_cons_zero, List.set_cons_succ]
          refine x_take (i := 7) (oi := { dst := some 55, op := Op.load 3 (Operand.tmp 54), type := 3, pos := "ref.go:16", after := #[{ on := 6, ground := Ground.data }], guard := none }) (v := ?_) rfl (by kernel_rfl) (by kernel_rfl) (by kernel_rfl) (by kernel_rfl) (by kernel_rfl) (fun _ _ _ h => h) (Or.inl ⟨rfl, ?_⟩) (by assumption) ?_
          rotate_left
          · (intro w' hSw; replace q0 := kept_cell hSw q0; replace q1 := kept_cell hSw q1; replace q2 := kept_cell hSw q2; replace q3 := kept_cell hSw q3; replace t0 := kept_cell hSw t0; go_simp; try with_reducible rfl)
          try simp only [Act.put, List.setIfInBounds_toArray, List.set_cons_zero, List.set_cons_succ]
          refine x_take (i := 8) (oi := { dst := some 56, op := Op.binOp BinOp.mul 3 (Operand.const (Value.int IntKind.i64 2)) (Operand.tmp 55) 3, type := 3, pos := "ref.go:16", after := #[{ on := 7, ground := Ground.data }], guard := none }) (v := ?_) rfl (by kernel_rfl) (by kernel_rfl) (by kernel_rfl) (by kernel_rfl) (by kernel_rfl) (fun _ _ _ h => h) (Or.inl ⟨rfl, ?_⟩) (by assumption) ?_
          rotate_left
          · (intro w' hSw; replace q0 := kept_cell hSw q0; replace q1 := kept_cell hSw q1; replace q2 := kept_cell hSw q2; replace q3 := kept_cell hSw q3; replace t0 := kept_cell hSw t0; go_simp; try with_reducible rfl)
          try simp only [Act.put, List.setIfInBounds_toArray, List.set_cons_zero, List.set_cons_succ]
          refine x_take (i := 9) (oi := { dst := some 57, op := Op.binOp BinOp.shl 3 (Operand.const (Value.int IntKind.i64 1)) (Operand.tmp 56) 3, type := 3, pos := "ref.go:16", after := #[{ on := 8, ground := Ground.data }], guard := none }) (v := ?_) rfl (by kernel_rfl) (by kernel_rfl) (by kernel_rfl) (by kernel_rfl) (by kernel_rfl) (fun _ _ _ h => h) (Or.inl ⟨rfl, ?_⟩) (by assumption) ?_
          rotate_left
          · (intro w' hSw; replace q0 := kept_cell hSw q0; replace q1 := kept_cell hSw q1; replace q2 := kept_cell hSw q2; replace q3 := kept_cell hSw q3; replace t0 := kept_cell hSw t0; go_simp; try with_reducible rfl)
          try simp only [Act.put, List.setIfInBounds_toArray, List.set_cons_zero, List.set_cons_succ]
          refine x_take (i := 10) (oi := { dst := some 58, op := Op.binOp BinOp.neq 3 (Operand.tmp 53) (Operand.tmp 57) 3, type := 4, pos := "ref.go:16", after := #[{ on := 5, ground := Ground.data }, { on := 9, ground := Ground.data }], guard := none }) (v := ?_) rfl (by kernel_rfl) (by kernel_rfl) (by kernel_rfl) (by kernel_rfl) (by kernel_rfl) (fun _ _ _ h => h) (Or.inl ⟨rfl, ?_⟩) (by assumption) ?_
          rotate_left
          · (intro w' hSw; replace q0 := kept_cell hSw q0; replace q1 := kept_cell hSw q1; replace q2 := kept_cell hSw q2; replace q3 := kept_cell hSw q3; replace t0 := kept_cell hSw t0; go_simp; try with_reducible rfl)
          try simp only [Act.put, List.setIfInBounds_toArray, List.set_cons_zero, List.set_cons_succ]
          refine x_take (i := 11) (oi := { dst := some 59, op := Op.move (Operand.tmp 58), type := 4, pos := "ref.go:16", after := #[{ on := 10, ground := Ground.data }], guard := none }) (v := ?_) rfl (by kernel_rfl) (by kernel_rfl) (by kernel_rfl) (by kernel_rfl) (by kernel_rfl) (fun _ _ _ h => h) (Or.inl ⟨rfl, ?_⟩) (by assumption) ?_
          rotate_left
          · (intro w' hSw; replace q0 := kept_cell hSw q0; replace q1 := kept_cell hSw q1; replace q2 := kept_cell hSw q2; replace q3 := kept_cell hSw q3; replace t0 := kept_cell hSw t0; go_simp; try with_reducible rfl)
          try simp only [Act.put, List.setIfInBounds_toArray, List.set_cons_zero, List.set_cons_succ]
          refine x_take (i := 12) (oi := { dst := some 60, op := Op.fieldAddr 27 (Operand.tmp 1) 1, type := 0, pos := "ref.go:16", after := #[{ on := 11, ground := Ground.guard }], guard := some (11, false) }) (v := ?_) rfl (by kernel_rfl) (by kernel_rfl) (by kernel_rfl) (by kernel_rfl) (by kernel_rfl) (fun _ _ _ h => h) (Or.inl ⟨rfl, ?_⟩) (by assumption) ?_
          rotate_left
          · (intro w' hSw; replace q0 := kept_cell hSw q0; replace q1 := kept_cell hSw q1; replace q2 := kept_cell hSw q2; replace q3 := kept_cell hSw q3; replace t0 := kept_cell hSw t0; go_simp; try with_reducible rfl)
          try simp only [Act.put, List.setIfInBounds_toArray, List.set_cons_zero, List.set_cons_succ]
          refine x_take (i := 13) (oi := { dst := some 61, op := Op.load 3 (Operand.tmp 60), type := 3, pos := "ref.go:16", after := #[{ on := 12, ground := Ground.data }, { on := 11, ground := Ground.guard }], guard := some (11, false) }) (v := ?_) rfl (by kernel_rfl) (by kernel_rfl) (by kernel_rfl) (by kernel_rfl) (by kernel_rfl) (fun _ _ _ h => h) (Or.inl ⟨rfl, ?_⟩) (by assumption) ?_
          rotate_left
          · (intro w' hSw; replace q0 := kept_cell hSw q0; replace q1 := kept_cell hSw q1; replace q2 := kept_cell hSw q2; replace q3 := kept_cell hSw q3; replace t0 := kept_cell hSw t0; go_simp; try with_reducible rfl)
          try simp only [Act.put, List.setIfInBounds_toArray, List.set_cons_zero, List.set_cons_succ]
          refine x_take (i := 14) (oi := { dst := some 62, op := Op.fieldAddr 27 (Operand.tmp 1) 3, type := 0, pos := "ref.go:16", after := #[{ on := 11, ground := Ground.guard }], guard := some (11, false) }) (v := ?_) rfl (by kernel_rfl) (by kernel_rfl) (by kernel_rfl) (by kernel_rfl) (by kernel_rfl) (fun _ _ _ h => h) (Or.inl ⟨rfl, ?_⟩) (by assumption) ?_
          rotate_left
          · (intro w' hSw; replace q0 := kept_cell hSw q0; replace q1 := kept_cell hSw q1; replace q2 := kept_cell hSw q2; replace q3 := kept_cell hSw q3; replace t0 := kept_cell hSw t0; go_simp; try with_reducible rfl)
          try simp only [Act.put, List.setIfInBounds_toArray, List.set_cons_zero, List.set_cons_succ]
          refine x_take (i := 15) (oi := { dst := some 63, op := Op.load 25 (Operand.tmp 62), type := 25, pos := "ref.go:16", after := #[{ on := 14, ground := Ground.data }, { on := 11, ground := Ground.guard }], guard := some (11, false) }) (v := ?_) rfl (by kernel_rfl) (by kernel_rfl) (by kernel_rfl) (by kernel_rfl) (by kernel_rfl) (fun _ _ _ h => h) (Or.inl ⟨rfl, ?_⟩) (by assumption) ?_
          rotate_left
          · (intro w' hSw; replace q0 := kept_cell hSw q0; replace q1 := kept_cell hSw q1; replace q2 := kept_cell hSw q2; replace q3 := kept_cell hSw q3; replace t0 := kept_cell hSw t0; go_simp; try with_reducible rfl)
          try simp only [Act.put, List.setIfInBounds_toArray, List.set_cons_zero, List.set_cons_succ]
          refine x_take (i := 16) (oi := { dst := some 64, op := Op.move (Operand.tmp 3), type := 3, pos := "ref.go:16", after := #[{ on := 11, ground := Ground.guard }], guard := some (11, false) }) (v := ?_) rfl (by kernel_rfl) (by kernel_rfl) (by kernel_rfl) (by kernel_rfl) (by kernel_rfl) (fun _ _ _ h => h) (Or.inl ⟨rfl, ?_⟩) (by assumption) ?_
          rotate_left
          · (intro w' hSw; replace q0 := kept_cell hSw q0; replace q1 := kept_cell hSw q1; replace q2 := kept_cell hSw q2; replace q3 := kept_cell hSw q3; replace t0 := kept_cell hSw t0; go_simp; try with_reducible rfl)
          try simp only [Act.put, List.setIfInBounds_toArray, List.set_cons_zero, List.set_cons_succ]
          refine x_take (i := 17) (oi := { dst := some 65, op := Op.indexAddr 25 (Operand.tmp 63) (Operand.tmp 64), type := 0, pos := "ref.go:16", after := #[{ on := 15, ground := Ground.data }, { on := 16, ground := Ground.data }, { on := 11, ground := Ground.guard }], guard := some (11, false) }) (v := ?_) rfl (by kernel_rfl) (by kernel_rfl) (by kernel_rfl) (by kernel_rfl) (by kernel_rfl) (fun _ _ _ h => h) (Or.inl ⟨rfl, ?_⟩) (by assumption) ?_
          rotate_left
          · (intro w' hSw; replace q0 := kept_cell hSw q0; replace q1 := kept_cell hSw q1; replace q2 := kept_cell hSw q2; replace q3 := kept_cell hSw q3; replace t0 := kept_cell hSw t0; go_simp; try with_reducible rfl)
          try simp only [Act.put, List.setIfInBounds_toArray, List.set_cons_zero, List.set_cons_succ]
          refine x_take (i := 18) (oi := { dst := some 66, op := Op.load 24 (Operand.tmp 65), type := 24, pos := "ref.go:16", after := #[{ on := 17, ground := Ground.data }, { on := 11, ground := Ground.guard }], guard := some (11, false) }) (v := ?_) rfl (by kernel_rfl) (by kernel_rfl) (by kernel_rfl) (by kernel_rfl) (by kernel_rfl) (fun _ _ _ h => h) (Or.inl ⟨rfl, ?_⟩) (by assumption) ?_
          rotate_left
          · (intro w' hSw; replace q0 := kept_cell hSw q0; replace q1 := kept_cell hSw q1; replace q2 := kept_cell hSw q2; replace q3 := kept_cell hSw q3; replace t0 := kept_cell hSw t0; go_simp; try with_reducible rfl)
          try simp only [Act.put, List.setIfInBounds_toArray, List.set_cons_zero, List.set_cons_succ]
          refine x_one (i := 19) (o := { dst := some 67, op := Op.call { callee := Callee.value (Operand.func 37), args := #[Operand.tmp 61, Operand.tmp 66], argTypes := #[3, 24] }, type := 4, pos := "ref.go:16", after := #[{ on := 13, ground := Ground.data }, { on := 18, ground := Ground.data }, { on := 11, ground := Ground.chain }, { on := 11, ground := Ground.guard }], guard := some (11, false) }) (by kernel_rfl) rfl (fun K hK => ?_)
          (go_simp; go_at_call 37; (with_reducible refine (C29.out _ _ L _ (Rd.kept R1.out hHeld) l1).mono ?_); rintro e w50 ⟨rfl, k9⟩; have KK9 : Kept wr w50 := kept_trans hHeld k9; rw [c8]; try dsimp only)
          refine hK.out _ _ ?_ (fun hHeld => ?_)
          · (try dsimp only); repeat (first | assumption | exact kept_refl _ | refine kept_drew ?_ | refine kept_alloc ?_ _ | refine kept_set ?_ (by omega) _)
          clear hK K
          try simp only [Act.put, List.setIfInBounds_toArray, List.set_cons_zero, List.set_cons_succ]
          refine x_take (i := 20) (oi := { dst := some 68, op := Op.unOp UnOp.not 4 (Operand.tmp 67), type := 4, pos := "ref.go:16", after := #[{ on := 19, ground := Ground.data }, { on := 11, ground := Ground.guard }], guard := some (11, false) }) (v := ?_) rfl (by kernel_rfl) (by kernel_rfl) (by kernel_rfl) (by kernel_rfl) (by kernel_rfl) (fun _ _ _ h => h) (Or.inl ⟨rfl, ?_⟩) (by assumption) ?_
          rotate_left
          · (intro w' hSw; replace q0 := kept_cell hSw q0; replace q1 := kept_cell hSw q1; replace q2 := kept_cell hSw q2; replace q3 := kept_cell hSw q3; replace t0 := kept_cell hSw t0; go_simp; try with_reducible rfl)
          try simp only [Act.put, List.setIfInBounds_toArray, List.set_cons_zero, List.set_cons_succ]
          refine x_take (i := 21) (oi := { dst := some 69, op := Op.pick (Operand.tmp 59) (Operand.const (Value.bool true)) (Operand.tmp 68), type := 4, pos := "ref.go:16", after := #[{ on := 11, ground := Ground.data }, { on := 20, ground := Ground.data }], guard := none }) (v := ?_) rfl (by kernel_rfl) (by kernel_rfl) (by kernel_rfl) (by kernel_rfl) (by kernel_rfl) (fun _ _ _ h => h) (Or.inl ⟨rfl, ?_⟩) (by assumption) ?_
          rotate_left
          · (intro w' hSw; replace q0 := kept_cell hSw q0; replace q1 := kept_cell hSw q1; replace q2 := kept_cell hSw q2; replace q3 := kept_cell hSw q3; replace t0 := kept_cell hSw t0; go_simp; try with_reducible rfl)
          try simp only [Act.put, List.setIfInBounds_toArray, List.set_cons_zero, List.set_cons_succ]
          refine x_done (by kernel_rfl) ?_ _
          go_wp2_with fail
          go_roundg (tb.length - (k + 1))
          case rel => exact ⟨k + 1, by omega, fun j h => by rcases Nat.lt_succ_iff_lt_or_eq.1 h with h | rfl; exact HJ.out j h; rw [← HL.out]; exact ⟨HC.out, c8⟩, rfl, by go_num, kept_trans k1 KK9⟩
          case measure => omega
        · have c9 : valsOk L (bn : Int) = false := by simpa using c8
          go_wp2_with fail
          refine region_x (fun w' => Kept wr w') [] (by kernel_rfl) (kept_drew (kept_refl _)) (fun hHeld => ?_)
          refine x_take (i := 0) (oi := { dst := some 48, op := Op.fieldAddr 27 (Operand.tmp 1) 3, type := 0, pos := "ref.go:16", after := #[], guard := none }) (v := ?_) rfl (by kernel_rfl) (by kernel_rfl) (by kernel_rfl) (by kernel_rfl) (by kernel_rfl) (fun _ _ _ h => h) (Or.inl ⟨rfl, ?_⟩) (by assumption) ?_
          rotate_left
          · (intro w' hSw; replace q0 := kept_cell hSw q0; replace q1 := kept_cell hSw q1; replace q2 := kept_cell hSw q2; replace q3 := kept_cell hSw q3; replace t0 := kept_cell hSw t0; go_simp; try with_reducible rfl)
          try simp only [Act.put, List.setIfInBounds_toArray, List.set_cons_zero, List.set_cons_succ]
          refine x_take (i := 1) (oi := { dst := some 49, op := Op.load 25 (Operand.tmp 48), type := 25, pos := "ref.go:16", after := #[{ on := 0, ground := Ground.data }], guard := none }) (v := ?_) rfl (by kernel_rfl) (by kernel_rfl) (by kernel_rfl) (by kernel_rfl) (by kernel_rfl) (fun _ _ _ h => h) (Or.inl ⟨rfl, ?_⟩) (by assumption) ?_
          rotate_left
          · (intro w' hSw; replace q0 := kept_cell hSw q0; replace q1 := kept_cell hSw q1; replace q2 := kept_cell hSw q2; replace q3 := kept_cell hSw q3; replace t0 := kept_cell hSw t0; go_simp; try with_reducible rfl)
          try simp only [Act.put, List.setIfInBounds_toArray, List.set_cons_zero, List.set_cons_succ]
          refine x_take (i := 2) (oi := { dst := some 50, op := Op.move (Operand.tmp 3), type := 3, pos := "ref.go:16", after := #[], guard := none }) (v := ?_) rfl (by kernel_rfl) (by kernel_rfl) (by kernel_rfl) (by kernel_rfl) (by kernel_rfl) (fun _ _ _ h => h) (Or.inl ⟨rfl, ?_⟩) (by assumption) ?_
          rotate_left
          · (intro w' hSw; replace q0 := kept_cell hSw q0; replace q1 := kept_cell hSw q1; replace q2 := kept_cell hSw q2; replace q3 := kept_cell hSw q3; replace t0 := kept_cell hSw t0; go_simp; try with_reducible rfl)
          try simp only [Act.put, List.setIfInBounds_toArray, List.set_cons_zero, List.set_cons_succ]
          refine x_take (i := 3) (oi := { dst := some 51, op := Op.indexAddr 25 (Operand.tmp 49) (Operand.tmp 50), type := 0, pos := "ref.go:16", after := #[{ on := 1, ground := Ground.data }, { on := 2, ground := Ground.data }], guard := none }) (v := ?_) rfl (by kernel_rfl) (by kernel_rfl) (by kernel_rfl) (by kernel_rfl) (by kernel_rfl) (fun _ _ _ h => h) (Or.inl ⟨rfl, ?_⟩) (by assumption) ?_
          rotate_left
          · (intro w' hSw; replace q0 := kept_cell hSw q0; replace q1 := kept_cell hSw q1; replace q2 := kept_cell hSw q2; replace q3 := kept_cell hSw q3; replace t0 := kept_cell hSw t0; go_simp; try with_reducible rfl)
          try simp only [Act.put, List.setIfInBounds_toArray, List.set_cons_zero, List.set_cons_succ]
          refine x_take (i := 4) (oi := { dst := some 52, op := Op.load 24 (Operand.tmp 51), type := 24, pos := "ref.go:16", after := #[{ on := 3, ground := Ground.data }], guard := none }) (v := ?_) rfl (by kernel_rfl) (by kernel_rfl) (by kernel_rfl) (by kernel_rfl) (by kernel_rfl) (fun _ _ _ h => h) (Or.inl ⟨rfl, ?_⟩) (by assumption) ?_
          rotate_left
          · (intro w' hSw; replace q0 := kept_cell hSw q0; replace q1 := kept_cell hSw q1; replace q2 := kept_cell hSw q2; replace q3 := kept_cell hSw q3; replace t0 := kept_cell hSw t0; go_simp; try with_reducible rfl)
          try simp only [Act.put, List.setIfInBounds_toArray, List.set_cons_zero, List.set_cons_succ]
          refine x_take (i := 5) (oi := { dst := some 53, op := Op.call { callee := Callee.builtin Builtin.len, args := #[Operand.tmp 52], argTypes := #[24] }, type := 3, pos := "ref.go:16", after := #[{ on := 4, ground := Ground.data }], guard := none }) (v := ?_) rfl (by kernel_rfl) (by kernel_rfl) (by kernel_rfl) (by kernel_rfl) (by kernel_rfl) (fun _ _ _ h => h) (Or.inl ⟨rfl, ?_⟩) (by assumption) ?_
          rotate_left
          · (intro w' hSw; replace q0 := kept_cell hSw q0; replace q1 := kept_cell hSw q1; replace q2 := kept_cell hSw q2; replace q3 := kept_cell hSw q3; replace t0 := kept_cell hSw t0; go_simp; try with_reducible rfl)
          try simp only [Act.put, List.setIfInBounds_toArray, List.set_cons_zero, List.set_cons_succ]
          refine x_take (i := 6) (oi := { dst := some 54, op := Op.fieldAddr 27 (Operand.tmp 1) 1, type := 0, pos := "ref.go:16", after := #[], guard := none }) (v := ?_) rfl (by kernel_rfl) (by kernel_rfl) (by kernel_rfl) (by kernel_rfl) (by kernel_rfl) (fun _ _ _ h => h) (Or.inl ⟨rfl, ?_⟩) (by assumption) ?_
          rotate_left
          · (intro w' hSw; replace q0 := kept_cell hSw q0; replace q1 := kept_cell hSw q1; replace q2 := kept_cell hSw q2; replace q3 := kept_cell hSw q3; replace t0 := kept_cell hSw t0; go_simp; try with_reducible rfl)
          try simp only [Act.put, List.setIfInBounds_toArray, List.set_cons_zero, List.set_cons_succ]
          refine x_take (i := 7) (oi := { dst := some 55, op := Op.load 3 (Operand.tmp 54), type := 3, pos := "ref.go:16", after := #[{ on := 6, ground := Ground.data }], guard := none }) (v := ?_) rfl (by kernel_rfl) (by kernel_rfl) (by kernel_rfl) (by kernel_rfl) (by kernel_rfl) (fun _ _ _ h => h) (Or.inl ⟨rfl, ?_⟩) (by assumption) ?_
          rotate_left
          · (intro w' hSw; replace q0 := kept_cell hSw q0; replace q1 := kept_cell hSw q1; replace q2 := kept_cell hSw q2; replace q3 := kept_cell hSw q3; replace t0 := kept_cell hSw t0; go_simp; try with_reducible rfl)
          try simp only [Act.put, List.setIfInBounds_toArray, List.set_cons_zero, List.set_cons_succ]
          refine x_take (i := 8) (oi := { dst := some 56, op := Op.binOp BinOp.mul 3 (Operand.const (Value.int IntKind.i64 2)) (Operand.tmp 55) 3, type := 3, pos := "ref.go:16", after := #[{ on := 7, ground := Ground.data }], guard := none }) (v := ?_) rfl (by kernel_rfl) (by kernel_rfl) (by kernel_rfl) (by kernel_rfl) (by kernel_rfl) (fun _ _ _ h => h) (Or.inl ⟨rfl, ?_⟩) (by assumption) ?_
          rotate_left
          · (intro w' hSw; replace q0 := kept_cell hSw q0; replace q1 := kept_cell hSw q1; replace q2 := kept_cell hSw q2; replace q3 := kept_cell hSw q3; replace t0 := kept_cell hSw t0; go_simp; try with_reducible rfl)
          try simp only [Act.put, List.setIfInBounds_toArray, List.set_cons_zero, List.set_cons_succ]
          refine x_take (i := 9) (oi := { dst := some 57, op := Op.binOp BinOp.shl 3 (Operand.const (Value.int IntKind.i64 1)) (Operand.tmp 56) 3, type := 3, pos := "ref.go:16", after := #[{ on := 8, ground := Ground.data }], guard := none }) (v := ?_) rfl (by kernel_rfl) (by kernel_rfl) (by kernel_rfl) (by kernel_rfl) (by kernel_rfl) (fun _ _ _ h => h) (Or.inl ⟨rfl, ?_⟩) (by assumption) ?_
          rotate_left
          · (intro w' hSw; replace q0 := kept_cell hSw q0; replace q1 := kept_cell hSw q1; replace q2 := kept_cell hSw q2; replace q3 := kept_cell hSw q3; replace t0 := kept_cell hSw t0; go_simp; try with_reducible rfl)
          try simp only [Act.put, List.setIfInBounds_toArray, List.set_cons_zero, List.set_cons_succ]
          refine x_take (i := 10) (oi := { dst := some 58, op := Op.binOp BinOp.neq 3 (Operand.tmp 53) (Operand.tmp 57) 3, type := 4, pos := "ref.go:16", after := #[{ on := 5, ground := Ground.data }, { on := 9, ground := Ground.data }], guard := none }) (v := ?_) rfl (by kernel_rfl) (by kernel_rfl) (by kernel_rfl) (by kernel_rfl) (by kernel_rfl) (fun _ _ _ h => h) (Or.inl ⟨rfl, ?_⟩) (by assumption) ?_
          rotate_left
          · (intro w' hSw; replace q0 := kept_cell hSw q0; replace q1 := kept_cell hSw q1; replace q2 := kept_cell hSw q2; replace q3 := kept_cell hSw q3; replace t0 := kept_cell hSw t0; go_simp; try with_reducible rfl)
          try simp only [Act.put, List.setIfInBounds_toArray, List.set_cons_zero, List.set_cons_succ]
          refine x_take (i := 11) (oi := { dst := some 59, op := Op.move (Operand.tmp 58), type := 4, pos := "ref.go:16", after := #[{ on := 10, ground := Ground.data }], guard := none }) (v := ?_) rfl (by kernel_rfl) (by kernel_rfl) (by kernel_rfl) (by kernel_rfl) (by kernel_rfl) (fun _ _ _ h => h) (Or.inl ⟨rfl, ?_⟩) (by assumption) ?_
          rotate_left
          · (intro w' hSw; replace q0 := kept_cell hSw q0; replace q1 := kept_cell hSw q1; replace q2 := kept_cell hSw q2; replace q3 := kept_cell hSw q3; replace t0 := kept_cell hSw t0; go_simp; try with_reducible rfl)
          try simp only [Act.put, List.setIfInBounds_toArray, List.set_cons_zero, List.set_cons_succ]
          refine x_take (i := 12) (oi := { dst := some 60, op := Op.fieldAddr 27 (Operand.tmp 1) 1, type := 0, pos := "ref.go:16", after := #[{ on := 11, ground := Ground.guard }], guard := some (11, false) }) (v := ?_) rfl (by kernel_rfl) (by kernel_rfl) (by kernel_rfl) (by kernel_rfl) (by kernel_rfl) (fun _ _ _ h => h) (Or.inl ⟨rfl, ?_⟩) (by assumption) ?_
          rotate_left
          · (intro w' hSw; replace q0 := kept_cell hSw q0; replace q1 := kept_cell hSw q1; replace q2 := kept_cell hSw q2; replace q3 := kept_cell hSw q3; replace t0 := kept_cell hSw t0; go_simp; try with_reducible rfl)
          try simp only [Act.put, List.setIfInBounds_toArray, List.set_cons_zero, List.set_cons_succ]
          refine x_take (i := 13) (oi := { dst := some 61, op := Op.load 3 (Operand.tmp 60), type := 3, pos := "ref.go:16", after := #[{ on := 12, ground := Ground.data }, { on := 11, ground := Ground.guard }], guard := some (11, false) }) (v := ?_) rfl (by kernel_rfl) (by kernel_rfl) (by kernel_rfl) (by kernel_rfl) (by kernel_rfl) (fun _ _ _ h => h) (Or.inl ⟨rfl, ?_⟩) (by assumption) ?_
          rotate_left
          · (intro w' hSw; replace q0 := kept_cell hSw q0; replace q1 := kept_cell hSw q1; replace q2 := kept_cell hSw q2; replace q3 := kept_cell hSw q3; replace t0 := kept_cell hSw t0; go_simp; try with_reducible rfl)
          try simp only [Act.put, List.setIfInBounds_toArray, List.set_cons_zero, List.set_cons_succ]
          refine x_take (i := 14) (oi := { dst := some 62, op := Op.fieldAddr 27 (Operand.tmp 1) 3, type := 0, pos := "ref.go:16", after := #[{ on := 11, ground := Ground.guard }], guard := some (11, false) }) (v := ?_) rfl (by kernel_rfl) (by kernel_rfl) (by kernel_rfl) (by kernel_rfl) (by kernel_rfl) (fun _ _ _ h => h) (Or.inl ⟨rfl, ?_⟩) (by assumption) ?_
          rotate_left
          · (intro w' hSw; replace q0 := kept_cell hSw q0; replace q1 := kept_cell hSw q1; replace q2 := kept_cell hSw q2; replace q3 := kept_cell hSw q3; replace t0 := kept_cell hSw t0; go_simp; try with_reducible rfl)
          try simp only [Act.put, List.setIfInBounds_toArray, List.set_cons_zero, List.set_cons_succ]
          refine x_take (i := 15) (oi := { dst := some 63, op := Op.load 25 (Operand.tmp 62), type := 25, pos := "ref.go:16", after := #[{ on := 14, ground := Ground.data }, { on := 11, ground := Ground.guard }], guard := some (11, false) }) (v := ?_) rfl (by kernel_rfl) (by kernel_rfl) (by kernel_rfl) (by kernel_rfl) (by kernel_rfl) (fun _ _ _ h => h) (Or.inl ⟨rfl, ?_⟩) (by assumption) ?_
          rotate_left
          · (intro w' hSw; replace q0 := kept_cell hSw q0; replace q1 := kept_cell hSw q1; replace q2 := kept_cell hSw q2; replace q3 := kept_cell hSw q3; replace t0 := kept_cell hSw t0; go_simp; try with_reducible rfl)
          try simp only [Act.put, List.setIfInBounds_toArray, List.set_cons_zero, List.set_cons_succ]
          refine x_take (i := 16) (oi := { dst := some 64, op := Op.move (Operand.tmp 3), type := 3, pos := "ref.go:16", after := #[{ on := 11, ground := Ground.guard }], guard := some (11, false) }) (v := ?_) rfl (by kernel_rfl) (by kernel_rfl) (by kernel_rfl) (by kernel_rfl) (by kernel_rfl) (fun _ _ _ h => h) (Or.inl ⟨rfl, ?_⟩) (by assumption) ?_
          rotate_left
          · (intro w' hSw; replace q0 := kept_cell hSw q0; replace q1 := kept_cell hSw q1; replace q2 := kept_cell hSw q2; replace q3 := kept_cell hSw q3; replace t0 := kept_cell hSw t0; go_simp; try with_reducible rfl)
          try simp only [Act.put, List.setIfInBounds_toArray, List.set_cons_zero, List.set_cons_succ]
          refine x_take (i := 17) (oi := { dst := some 65, op := Op.indexAddr 25 (Operand.tmp 63) (Operand.tmp 64), type := 0, pos := "ref.go:16", after := #[{ on := 15, ground := Ground.data }, { on := 16, ground := Ground.data }, { on := 11, ground := Ground.guard }], guard := some (11, false) }) (v := ?_) rfl (by kernel_rfl) (by kernel_rfl) (by kernel_rfl) (by kernel_rfl) (by kernel_rfl) (fun _ _ _ h => h) (Or.inl ⟨rfl, ?_⟩) (by assumption) ?_
          rotate_left
          · (intro w' hSw; replace q0 := kept_cell hSw q0; replace q1 := kept_cell hSw q1; replace q2 := kept_cell hSw q2; replace q3 := kept_cell hSw q3; replace t0 := kept_cell hSw t0; go_simp; try with_reducible rfl)
          try simp only [Act.put, List.setIfInBounds_toArray, List.set_cons_zero, List.set_cons_succ]
          refine x_take (i := 18) (oi := { dst := some 66, op := Op.load 24 (Operand.tmp 65), type := 24, pos := "ref.go:16", after := #[{ on := 17, ground := Ground.data }, { on := 11, ground := Ground.guard }], guard := some (11, false) }) (v := ?_) rfl (by kernel_rfl) (by kernel_rfl) (by kernel_rfl) (by kernel_rfl) (by kernel_rfl) (fun _ _ _ h => h) (Or.inl ⟨rfl, ?_⟩) (by assumption) ?_
          rotate_left
          · (intro w' hSw; replace q0 := kept_cell hSw q0; replace q1 := kept_cell hSw q1; replace q2 := kept_cell hSw q2; replace q3 := kept_cell hSw q3; replace t0 := kept_cell hSw t0; go_simp; try with_reducible rfl)
          try simp only [Act.put, List.setIfInBounds_toArray, List.set_cons_zero, List.set_cons_succ]
          refine x_one (i := 19) (o := { dst := some 67, op := Op.call { callee := Callee.value (Operand.func 37), args := #[Operand.tmp 61, Operand.tmp 66], argTypes := #[3, 24] }, type := 4, pos := "ref.go:16", after := #[{ on := 13, ground := Ground.data }, { on := 18, ground := Ground.data }, { on := 11, ground := Ground.chain }, { on := 11, ground := Ground.guard }], guard := some (11, false) }) (by kernel_rfl) rfl (fun K hK => ?_)
          (go_simp; go_at_call 37; (with_reducible refine (C29.out _ _ L _ (Rd.kept R1.out hHeld) l1).mono ?_); rintro e w50 ⟨rfl, k9⟩; have KK9 : Kept wr w50 := kept_trans hHeld k9; rw [c9]; try dsimp only)
          refine hK.out _ _ ?_ (fun hHeld => ?_)
          · (try dsimp only); repeat (first | assumption | exact kept_refl _ | refine kept_drew ?_ | refine kept_alloc ?_ _ | refine kept_set ?_ (by omega) _)
          clear hK K
          try simp only [Act.put, List.setIfInBounds_toArray, List.set_cons_zero, List.set_cons_succ]
          refine x_take (i := 20) (oi := { dst := some 68, op := Op.unOp UnOp.not 4 (Operand.tmp 67), type := 4, pos := "ref.go:16", after := #[{ on := 19, ground := Ground.data }, { on := 11, ground := Ground.guard }], guard := some (11, false) }) (v := ?_) rfl (by kernel_rfl) (by kernel_rfl) (by kernel_rfl) (by kernel_rfl) (by kernel_rfl) (fun _ _ _ h => h) (Or.inl ⟨rfl, ?_⟩) (by assumption) ?_
          rotate_left
          · (intro w' hSw; replace q0 := kept_cell hSw q0; replace q1 := kept_cell hSw q1; replace q2 := kept_cell hSw q2; replace q3 := kept_cell hSw q3; replace t0 := kept_cell hSw t0; go_simp; try with_reducible rfl)
          try simp only [Act.put, List.setIfInBounds_toArray, List.set_cons_zero, List.set_cons_succ]
          refine x_take (i := 21) (oi := { dst := some 69, op := Op.pick (Operand.tmp 59) (Operand.const (Value.bool true)) (Operand.tmp 68), type := 4, pos := "ref.go:16", after := #[{ on := 11, ground := Ground.data }, { on := 20, ground := Ground.data }], guard := none }) (v := ?_) rfl (by kernel_rfl) (by kernel_rfl) (by kernel_rfl) (by kernel_rfl) (by kernel_rfl) (fun _ _ _ h => h) (Or.inl ⟨rfl, ?_⟩) (by assumption) ?_
          rotate_left
          · (intro w' hSw; replace q0 := kept_cell hSw q0; replace q1 := kept_cell hSw q1; replace q2 := kept_cell hSw q2; replace q3 := kept_cell hSw q3; replace t0 := kept_cell hSw t0; go_simp; try with_reducible rfl)
          try simp only [Act.put, List.setIfInBounds_toArray, List.set_cons_zero, List.set_cons_succ]
          refine x_done (by kernel_rfl) ?_ _
          go_wp2_with fail
          go_ret
          exact ⟨ret_bool (by symm; rw [HV.out, Bool.eq_false_iff]; intro hv; have g := good_of hv; have G := g.tv (tb.getD k []) (getD_mem hlt); rw [← HL.out] at G; exact c8 (valsOk_iff.2 G)), kept_trans K0 (kept_trans k1 KK9)⟩
    · have : k = tb.length := by omega
      subst this
      have RA := Rd.kept HA.out (kept_trans K0 k1)
      have hC := C29.out A c lv
      obtain ⟨V2, hV2⟩ : ∃ V2, V2 = valsOk lv (bn : Int) := ⟨_, rfl⟩
      rw [← hV2] at hC
      have HC := Lib.hid hC; clear hC
      have RAH := Lib.hid RA; clear RA
      have HV2 := Lib.hid hV2; clear hV2
      go_wp2_with fail
      (with_reducible refine (HC.out _ (Rd.kept RAH.out (by first | exact kept_drew (kept_refl _) | exact kept_refl _)) hl).mono ?_)
      rintro e w60 ⟨rfl, k9⟩
      go_wp2_with fail
      go_ret
      refine ⟨ret_bool ?_, kept_trans K0 (kept_trans k1 (by first | exact k9 | exact kept_trans (kept_drew (kept_refl _)) k9))⟩
      rw [HV2.out, HV.out, Bool.eq_iff_iff]
      constructor
      · intro hv
        refine Good.valid ⟨?_, ?_, ?_, ?_, ?_, fun x hx => ?_, fun x hx => ?_, ?_, valsOk_iff.1 hv⟩
        · show (0 : Int) ≤ (hn : Int); omega
        · show (hn : Int) ≤ 6; omega
        · show (1 : Int) ≤ (bn : Int); omega
        · show (bn : Int) ≤ 6; omega
        · show tb.length = pw (hn : Int) - 1
          have := HC6.out; have := HNP.out; omega
        · obtain ⟨j, hj, e⟩ := mem_getD (d := []) hx
          rw [← e, (HJ.out j hj).1]; exact HMP.out.symm
        · obtain ⟨j, hj, e⟩ := mem_getD (d := []) hx
          rw [← e]; exact valsOk_iff.1 (HJ.out j hj).2
        · show lv.length = pw (hn : Int)
          have := HC6.out; have := HNP.out; omega
      · intro hv
        exact valsOk_iff.2 (good_of hv).lv
end Go.Proofs.YtikfeemmjfoffaaGreatDoor

/- Trees: the reference's Value. -/
set_option linter.unusedVariables false
set_option linter.unusedSimpArgs false
namespace Go.Proofs.YtikfeemmjfoffaaGreatDoor
open Go.RowKit

end Go.Proofs.YtikfeemmjfoffaaGreatDoor

/- Trees: the reference's Value at an inner node. -/
set_option linter.unusedVariables false
set_option linter.unusedSimpArgs false
namespace Go.Proofs.YtikfeemmjfoffaaGreatDoor
open Go.RowKit

theorem w64_nat {n : Nat} (h : n ≤ 1000000000) : wrap64 (n : Int) = (n : Int) := by unfold wrap64; omega
theorem iw_nat {n : Nat} (h : n ≤ 1000000000) : IntKind.i64.wrap (n : Int) = (n : Int) := IntWalk.i64_in _ (by omega)
theorem shl_mul {x b y : Nat} (hy : y = x * 2 ^ b) (hl : y ≤ 1000000000) : wrap64 ((x : Int) * 2 ^ b) = (y : Int) ∧ IntKind.i64.wrap ((x : Int) * 2 ^ b) = (y : Int) := by
  have e : (x : Int) * 2 ^ b = (y : Int) := by rw [hy]; simp
  rw [e]
  exact ⟨w64_nat hl, iw_nat hl⟩
theorem w_add {a b c : Nat} (h : a + b = c) (hl : c ≤ 1000000000) : wrap64 ((a : Int) + (b : Int)) = (c : Int) ∧ IntKind.i64.wrap ((a : Int) + (b : Int)) = (c : Int) := by
  have e : (a : Int) + (b : Int) = (c : Int) := by rw [← h]; simp
  rw [e]; exact ⟨w64_nat hl, iw_nat hl⟩
theorem w_two {a c : Nat} (h : 2 * a = c) (hl : c ≤ 1000000000) : wrap64 (2 * (a : Int)) = (c : Int) ∧ IntKind.i64.wrap (2 * (a : Int)) = (c : Int) := by
  have e : 2 * (a : Int) = (c : Int) := by rw [← h]; simp
  rw [e]; exact ⟨w64_nat hl, iw_nat hl⟩
theorem w_one {a c : Nat} (h : a + 1 = c) (hl : c ≤ 1000000000) : wrap64 ((a : Int) + 1) = (c : Int) ∧ IntKind.i64.wrap ((a : Int) + 1) = (c : Int) := w_add (b := 1) h hl
theorem w_two' {a c : Nat} (h : a + 2 = c) (hl : c ≤ 1000000000) : wrap64 ((a : Int) + 2) = (c : Int) ∧ IntKind.i64.wrap ((a : Int) + 2) = (c : Int) := w_add (b := 2) h hl

end Go.Proofs.YtikfeemmjfoffaaGreatDoor

/- Trees: the reference's Value and Values; lists compared. -/
set_option linter.unusedVariables false
set_option linter.unusedSimpArgs false
namespace Go.Proofs.YtikfeemmjfoffaaGreatDoor
open Go.RowKit

/-- A tree as the call's argument. -/
abbrev trV (t : Tr) (A : Option Addr) (c : Nat) (T : Option Addr) (d : Nat) : Value := .agg #[.int .i64 t.h, .int .i64 t.b, .slice A t.lv.length c, .slice T t.tb.length d]

theorem Good.tb64 {t : Tr} (g : Good t) : t.tb.length ≤ 63 := by
  have := pw_le (b := t.h) g.h6; have := g.tl; omega
theorem Good.lv64 {t : Tr} (g : Good t) : t.lv.length ≤ 64 := by
  have := pw_le (b := t.h) g.h6; have := g.ll; omega
theorem Good.tab {t : Tr} (g : Good t) {n : Nat} (h : n < t.tb.length) : (t.tb.getD n []).length = pw (2 * t.b) := g.tw _ (getD_mem h)

theorem info3W : (Tryz.prog.info? 3).map (fun i => (i.zero, i.size, i.bytes)) = some (some (.int .i64 0), 1, 8) := by kernel_rfl
theorem list_eq_ia {x y : List Int} (h : x.length = y.length) (he : ∀ j, j < x.length → ia x j = ia y j) : x = y := by
  apply List.ext_getElem h
  intro j h1 h2
  have := he j h1
  simpa [ia, List.getD_eq_getElem?_getD, h1, h2] using this

def valsW (t : Tr) (k : Nat) : List Int := (List.range k).map (valW t)
theorem valsW_succ (t : Tr) (k : Nat) : valsW t (k + 1) = valsW t k ++ [valW t k] := by simp [valsW, List.range_succ]
@[simp] theorem valsW_length (t : Tr) (k : Nat) : (valsW t k).length = k := by simp [valsW]

set_option maxRecDepth 100000 in
set_option maxHeartbeats 1000000 in
theorem sameints_any (A B : Option Addr) (n m c d : Nat) (x y : List Int) (w : World) (hA : Rd w A (ints x)) (hB : Rd w B (ints y)) (hn : n = x.length) (hm : m = y.length) (hn1 : n ≤ 140737488355328) :
    Calls Tryz.prog 27 #[.slice A n c, .slice B m d] w fun e w' => e = .returned (.bool (decide (x = y))) ∧ Kept w w' := by
  subst hn
  subst hm
  by_cases hl : x.length = y.length
  · have b1 : (x.length == y.length) = true := by simp [hl]
    have b2 : (x.length != y.length) = false := by simp [hl]
    have HL := Lib.hid hl; clear hl
    go_enter Tryz.func27, Tryz.ntmps27
    go_wp2_with fail
    go_loopg [5] x.length (fun g s5 wr => ∃ k : Nat, k ≤ x.length ∧ (∀ j, j < k → ia x j = ia y j) ∧ g = x.length - k ∧ s5 = .int .i64 k ∧ Kept w wr)
    case atStart => exact ⟨0, by omega, by omega, rfl, rfl, kept_refl _⟩
    case round =>
      obtain ⟨k, hk, hj, rfl, rfl, k1⟩ := hrel
      have HJ := Lib.hid hj; clear hj
      by_cases hlt : k < x.length
      · obtain ⟨ba1, of1, rfl, h1⟩ := hA.int hlt
        have a0 := kept_cell k1 (h1 k hlt)
        have hlt2 : k < y.length := by have := HL.out; omega
        obtain ⟨ba2, of2, rfl, h2⟩ := hB.int hlt2
        have a1 := kept_cell k1 (h2 k hlt2)
        clear h1 h2
        by_cases he : ia x k = ia y k
        · have e1 : (ia x k == ia y k) = true := by simp [he]
          have e2 : (ia x k != ia y k) = false := by simp [he]
          have HE := Lib.hid he; clear he
          go_wp2_with fail
          go_quiet (fail)
          go_wp2_with fail
          go_roundg (x.length - (k + 1))
          case rel => exact ⟨k + 1, by omega, fun j h => by rcases Nat.lt_succ_iff_lt_or_eq.1 h with h | rfl; exact HJ.out j h; exact HE.out, rfl, by go_num, below_drewN k1 _⟩
          case measure => omega
        · have e1 : (ia x k == ia y k) = false := by simp [he]
          have e2 : (ia x k != ia y k) = true := by simp [he]
          have HE := Lib.hid he; clear he
          go_wp2_with fail
          go_quiet (fail)
          go_wp2_with fail
          go_ret
          exact ⟨ret_bool (by symm; apply decide_eq_false; intro h; subst h; exact HE.out rfl), below_drewN k1 _⟩
      · have : k = x.length := by omega
        subst this
        go_wp2_with fail
        go_ret
        exact ⟨ret_bool (by symm; exact decide_eq_true (list_eq_ia HL.out HJ.out)), k1⟩
  · have b1 : (x.length == y.length) = false := by simp [hl]
    have b2 : (x.length != y.length) = true := by simp [hl]
    have HL := Lib.hid hl; clear hl
    go_enter Tryz.func27, Tryz.ntmps27
    go_wp2_with fail
    go_ret
    exact ⟨ret_bool (by symm; apply decide_eq_false; intro h; subst h; exact HL.out rfl), kept_refl _⟩
end Go.Proofs.YtikfeemmjfoffaaGreatDoor

/- Trees: the reference's Values. -/
set_option linter.unusedVariables false
set_option linter.unusedSimpArgs false
namespace Go.Proofs.YtikfeemmjfoffaaGreatDoor
open Go.RowKit

def RowPost (l : List Int) (w : World) (e : Ending) (w' : World) : Prop :=
  ∃ v : Value, e = .returned v ∧ w'.ownsRow w.heap.size 3 1 v l.length (ints l) ∧ Kept w w'

end Go.Proofs.YtikfeemmjfoffaaGreatDoor

/- Trees: few values; two trees compared. -/
set_option linter.unusedVariables false
set_option linter.unusedSimpArgs false
namespace Go.Proofs.YtikfeemmjfoffaaGreatDoor
open Go.RowKit

/-- The number of values, counted until there are too many. -/
def fewN (most : Int) : Int → List (List Int) → Int
  | n, [] => n
  | n, l :: r => if n ≤ most then fewN most (n + l.length) r else n
def fewBW (most : Int) (t : Tr) : Bool := decide (fewN most ((t.lv.length : Int) + t.tb.length) t.tb ≤ most)
theorem fewN_over {most n : Int} (h : most < n) : ∀ ls, fewN most n ls = n
  | [] => rfl
  | l :: r => by rw [fewN, if_neg (by omega)]
theorem fewN_le {most : Int} : ∀ (ls : List (List Int)) (n : Int), fewN most n ls ≤ most → n + (ls.map List.length).sum ≤ most
  | [], n, h => by simpa [fewN] using h
  | l :: r, n, h => by
    rw [fewN] at h
    by_cases h1 : n ≤ most
    · rw [if_pos h1] at h
      have := fewN_le r _ h
      simp only [List.map_cons, List.sum_cons]
      omega
    · rw [if_neg h1] at h
      omega
theorem fewB_len {most : Int} {t : Tr} (h : fewBW most t = true) : (t.lv.length : Int) + t.tb.length + (t.tb.map List.length).sum ≤ most := fewN_le _ _ (of_decide_eq_true h)
theorem fewN_step {most n : Int} {ls : List (List Int)} {k : Nat} (h : k < ls.length) (h1 : n ≤ most) : fewN most n (ls.drop k) = fewN most (n + (ls.getD k []).length) (ls.drop (k + 1)) := by
  rw [List.drop_eq_getElem_cons h, fewN, if_pos h1, List.getD_eq_getElem?_getD, List.getElem?_eq_getElem h]
  rfl

set_option maxRecDepth 100000 in
set_option maxHeartbeats 1000000 in
theorem few7_any (most : Int) (hm0 : 0 ≤ most) (hm : most ≤ 1000000) (t : Tr) (A : Option Addr) (c : Nat) (T : Option Addr) (d : Nat) (w : World) (hT : RT w T t.tb) (hl : t.lv.length ≤ 140737488355328) (ht : t.tb.length ≤ 140737488355328) :
    Calls Tryz.prog 6 #[trV t A c T d, .int .i64 most] w fun e w' => e = .returned (.bool (fewBW most t)) ∧ Kept w w' := by
  have o0 := Own.new w 27 [.int .i64 t.h, .int .i64 t.b, .slice A t.lv.length c, .slice T t.tb.length d]
  obtain ⟨F, hF⟩ : ∃ F, F = fewBW most t := ⟨_, rfl⟩
  rw [← hF]
  have HF := Lib.hid hF; clear hF
  go_enter Tryz.func6, Tryz.ntmps6
  go_wp2_with fail
  go_loopg [5, 6] t.tb.length (fun g' s5 s6 wr => ∃ (k : Nat) (n : Int), k ≤ t.tb.length ∧ 0 ≤ n ∧ n ≤ 1000000000000000 ∧ fewN most ((t.lv.length : Int) + t.tb.length) t.tb = fewN most n (t.tb.drop k) ∧ g' = t.tb.length - k ∧ s5 = .int .i64 n ∧ s6 = .int .i64 k ∧ Kept w wr ∧ Own wr w.heap.size 27 [.int .i64 t.h, .int .i64 t.b, .slice A t.lv.length c, .slice T t.tb.length d])
  case atStart => exact ⟨0, _, by omega, by omega, by omega, by rw [List.drop_zero], by omega, rfl, rfl, kept_alloc (kept_refl _) _, o0⟩
  case round =>
    clear o0
    obtain ⟨k, n, hk, hn0, hn1, hN, rfl, rfl, rfl, k1, o0⟩ := hrel
    have HN := Lib.hid hN; clear hN
    have q0 := o0.cell (j := 0) rfl; have q1 := o0.cell (j := 1) rfl; have q2 := o0.cell (j := 2) rfl; have q3 := o0.cell (j := 3) rfl
    by_cases hlt : k < t.tb.length
    · by_cases hm1 : n ≤ most
      · obtain ⟨tb1, toff, A1, c1, rfl, t0, r1, l1⟩ := (hT.kept k1) k hlt
        clear r1
        have hs := fewN_step hlt hm1
        obtain ⟨L, hL⟩ : ∃ L, L = t.tb.getD k [] := ⟨_, rfl⟩
        rw [← hL] at t0 l1 hs
        have HS := Lib.hid hs; clear hs hL
        go_wp2_with fail
        go_roundg (t.tb.length - (k + 1))
        case rel => exact ⟨k + 1, n + L.length, by omega, by omega, by omega, by rw [HN.out, HS.out], rfl, rfl, by go_num, k1, o0⟩
        case measure => omega
      · have d1 : decide (n ≤ most) = false := decide_eq_false hm1
        have hov := fewN_over (most := most) (n := n) (by omega) (t.tb.drop k)
        have HO := Lib.hid (And.intro hov hm1); clear hov hm1
        go_wp2_with fail
        go_ret
        exact ⟨ret_bool (by rw [HF.out]; symm; apply decide_eq_false; rw [HN.out, HO.out.1]; have := HO.out.2; omega), k1⟩
    · have : k = t.tb.length := by omega
      subst this
      have hov : fewN most n (t.tb.drop t.tb.length) = n := by rw [List.drop_length]; rfl
      have HO := Lib.hid hov; clear hov
      go_wp2_with fail
      all_goals
        go_ret
        exact ⟨ret_bool (by rw [HF.out]; unfold fewBW; rw [HN.out, HO.out]), k1⟩

theorem Tr.ext' {t u : Tr} (h1 : t.h = u.h) (h2 : t.b = u.b) (h3 : t.lv = u.lv) (h4 : t.tb = u.tb) : t = u := by
  cases t; cases u; simp_all

set_option maxRecDepth 100000 in
set_option maxHeartbeats 1000000 in
theorem same15_any (t u : Tr) (A : Option Addr) (c : Nat) (T : Option Addr) (d : Nat) (A' : Option Addr) (c' : Nat) (T' : Option Addr) (d' : Nat) (w : World) (hA : Rd w A (ints t.lv)) (hT : RT w T t.tb) (hA' : Rd w A' (ints u.lv)) (hT' : RT w T' u.tb) (hl : t.lv.length ≤ 140737488355328) (ht : t.tb.length ≤ 140737488355328) :
    Calls Tryz.prog 26 #[trV t A c T d, trV u A' c' T' d'] w fun e w' => e = .returned (.bool (decide (t = u))) ∧ Kept w w' := by
  have o0 := (Own.new w 27 [.int .i64 t.h, .int .i64 t.b, .slice A t.lv.length c, .slice T t.tb.length d]).alloc (.cells #[.int .i64 u.h, .int .i64 u.b, .slice A' u.lv.length c', .slice T' u.tb.length d'] 27)
  have p0 := Own.new (w.alloc (.cells #[.int .i64 t.h, .int .i64 t.b, .slice A t.lv.length c, .slice T t.tb.length d] 27)) 27 [.int .i64 u.h, .int .i64 u.b, .slice A' u.lv.length c', .slice T' u.tb.length d']
  have ez : (w.alloc (.cells #[.int .i64 t.h, .int .i64 t.b, .slice A t.lv.length c, .slice T t.tb.length d] 27)).heap.size = w.heap.size + 1 := by simp
  rw [ez] at p0
  have K0 := kept_alloc (kept_alloc (kept_refl w) (.cells #[.int .i64 t.h, .int .i64 t.b, .slice A t.lv.length c, .slice T t.tb.length d] 27)) (.cells #[.int .i64 u.h, .int .i64 u.b, .slice A' u.lv.length c', .slice T' u.tb.length d'] 27)
  obtain ⟨F, hF⟩ : ∃ F, F = decide (t = u) := ⟨_, rfl⟩
  rw [← hF]
  have HF := Lib.hid (show t ≠ u → F = false from fun h => by rw [hF]; exact decide_eq_false h)
  have HT := Lib.hid (show t = u → F = true from fun h => by rw [hF]; exact decide_eq_true h)
  clear hF ez
  have q0 := o0.cell (j := 0) rfl; have q1 := o0.cell (j := 1) rfl; have q2 := o0.cell (j := 2) rfl; have q3 := o0.cell (j := 3) rfl
  have r0 := p0.cell (j := 0) rfl; have r1 := p0.cell (j := 1) rfl; have r2 := p0.cell (j := 2) rfl; have r3 := p0.cell (j := 3) rfl
  by_cases c1 : t.h = u.h
  rotate_left
  · have d1 : (t.h != u.h) = true := by simpa using c1
    have HC := Lib.hid c1; clear c1
    go_enter Tryz.func26, Tryz.ntmps26
    go_wp2_with fail
    go_ret
    exact ⟨ret_bool (HF.out fun h => HC.out (by rw [h])).symm, K0⟩
  have d1 : (t.h != u.h) = false := by simpa using c1
  by_cases c2 : t.b = u.b
  rotate_left
  · have d2 : (t.b != u.b) = true := by simpa using c2
    have HC := Lib.hid c2; clear c1 c2
    go_enter Tryz.func26, Tryz.ntmps26
    go_wp2_with fail
    go_ret
    exact ⟨ret_bool (HF.out fun h => HC.out (by rw [h])).symm, K0⟩
  have d2 : (t.b != u.b) = false := by simpa using c2
  by_cases c3 : t.lv.length = u.lv.length
  rotate_left
  · have d3 : (t.lv.length != u.lv.length) = true := by simpa using c3
    have d3' : ((t.lv.length : Int) != (u.lv.length : Int)) = true := by simp; omega
    have HC := Lib.hid c3; clear c1 c2 c3
    go_enter Tryz.func26, Tryz.ntmps26
    go_wp2_with fail
    go_ret
    exact ⟨ret_bool (HF.out fun h => HC.out (by rw [h])).symm, K0⟩
  have d3 : (t.lv.length != u.lv.length) = false := by simpa using c3
  have d3' : ((t.lv.length : Int) != (u.lv.length : Int)) = false := by simp; omega
  by_cases c4 : t.tb.length = u.tb.length
  rotate_left
  · have d4 : (t.tb.length != u.tb.length) = true := by simpa using c4
    have d4' : ((t.tb.length : Int) != (u.tb.length : Int)) = true := by simp; omega
    have HC := Lib.hid c4; clear c1 c2 c3 c4
    go_enter Tryz.func26, Tryz.ntmps26
    go_wp2_with fail
    go_ret
    exact ⟨ret_bool (HF.out fun h => HC.out (by rw [h])).symm, K0⟩
  have d4 : (t.tb.length != u.tb.length) = false := by simpa using c4
  have d4' : ((t.tb.length : Int) != (u.tb.length : Int)) = false := by simp; omega
  have HC := Lib.hid (And.intro c1 (And.intro c2 (And.intro c3 c4))); clear c1 c2 c3 c4
  have HA := Lib.hid hA; have HA' := Lib.hid hA'; have HTT := Lib.hid hT; have HT' := Lib.hid hT'; clear hA hA' hT hT'
  go_enter Tryz.func26, Tryz.ntmps26
  go_wp2_with fail
  clear q0 q1 q2 q3 r0 r1 r2 r3 d1 d2 d3 d4 d3' d4'
  go_loopg [5] t.lv.length (fun g' s5 wr => ∃ k : Nat, k ≤ t.lv.length ∧ (∀ j, j < k → ia t.lv j = ia u.lv j) ∧ g' = t.lv.length - k ∧ s5 = .int .i64 k ∧ Kept w wr ∧ Own wr w.heap.size 27 [.int .i64 t.h, .int .i64 t.b, .slice A t.lv.length c, .slice T t.tb.length d] ∧ Own wr (w.heap.size + 1) 27 [.int .i64 u.h, .int .i64 u.b, .slice A' u.lv.length c', .slice T' u.tb.length d'])
  case atStart => exact ⟨0, by omega, by omega, rfl, rfl, K0, o0, p0⟩
  case round =>
    clear K0 o0 p0
    obtain ⟨k, hk, hj, rfl, rfl, k1, o0, p0⟩ := hrel
    have HJ := Lib.hid hj; clear hj
    have q0 := o0.cell (j := 0) rfl; have q1 := o0.cell (j := 1) rfl; have q2 := o0.cell (j := 2) rfl; have q3 := o0.cell (j := 3) rfl
    have r0 := p0.cell (j := 0) rfl; have r1 := p0.cell (j := 1) rfl; have r2 := p0.cell (j := 2) rfl; have r3 := p0.cell (j := 3) rfl
    by_cases hlt : k < t.lv.length
    · obtain ⟨b1, f1, rfl, h1⟩ := HA.out.int hlt
      have a0 := kept_cell k1 (h1 k hlt)
      have hlt2 : k < u.lv.length := by have := HC.out; omega
      obtain ⟨b2, f2, rfl, h2⟩ := HA'.out.int hlt2
      have a1 := kept_cell k1 (h2 k hlt2)
      clear h1 h2
      by_cases he : ia t.lv k = ia u.lv k
      · have e1 : (ia t.lv k == ia u.lv k) = true := by simp [he]
        have e2 : (ia t.lv k != ia u.lv k) = false := by simp [he]
        have HE := Lib.hid he; clear he
        go_wp2_with fail
        go_quiet (fail)
        go_wp2_with fail
        go_roundg (t.lv.length - (k + 1))
        case rel => exact ⟨k + 1, by omega, fun j h => by rcases Nat.lt_succ_iff_lt_or_eq.1 h with h | rfl; exact HJ.out j h; exact HE.out, rfl, by go_num, below_drewN k1 _, o0.drewN _, p0.drewN _⟩
        case measure => omega
      · have e1 : (ia t.lv k == ia u.lv k) = false := by simp [he]
        have e2 : (ia t.lv k != ia u.lv k) = true := by simp [he]
        have HE := Lib.hid he; clear he
        go_wp2_with fail
        go_quiet (fail)
        go_wp2_with fail
        go_ret
        exact ⟨ret_bool (HF.out fun h => HE.out (by rw [h])).symm, below_drewN k1 _⟩
    · have : k = t.lv.length := by omega
      subst this
      go_wp2_with fail
      have ELV := Lib.hid (list_eq_ia HC.out.2.2.1 HJ.out)
      clear HJ q0 q1 q2 q3 r0 r1 r2 r3
      obtain ⟨wo, rfl⟩ : ∃ wo : World, wo = wr := ⟨_, rfl⟩
      go_loopg [6, 7] t.tb.length (fun g' s6 s7 wr => ∃ k : Nat, k ≤ t.tb.length ∧ (∀ j, j < k → t.tb.getD j [] = u.tb.getD j []) ∧ g' = t.tb.length - k ∧ s6 = .int .i64 k ∧ Kept w wr ∧ Own wr w.heap.size 27 [.int .i64 t.h, .int .i64 t.b, .slice A t.lv.length c, .slice T t.tb.length d] ∧ Own wr (w.heap.size + 1) 27 [.int .i64 u.h, .int .i64 u.b, .slice A' u.lv.length c', .slice T' u.tb.length d'])
      case atStart => exact ⟨0, by omega, by omega, rfl, rfl, k1, o0, p0⟩
      case round =>
        clear k1 o0 p0
        obtain ⟨k, hk, hj, rfl, rfl, k1, o0, p0⟩ := hrel
        have HJ := Lib.hid hj; clear hj
        have q0 := o0.cell (j := 0) rfl; have q1 := o0.cell (j := 1) rfl; have q2 := o0.cell (j := 2) rfl; have q3 := o0.cell (j := 3) rfl
        have r0 := p0.cell (j := 0) rfl; have r1 := p0.cell (j := 1) rfl; have r2 := p0.cell (j := 2) rfl; have r3 := p0.cell (j := 3) rfl
        by_cases hlt : k < t.tb.length
        · obtain ⟨tb1, toff, A1, c1, rfl, t0, R1, l1⟩ := (HTT.out.kept k1) k hlt
          have hlt2 : k < u.tb.length := by have := HC.out; omega
          obtain ⟨tb2, toff2, A2, c2, rfl, t2, R2, l2⟩ := (HT'.out.kept k1) k hlt2
          obtain ⟨L, hL⟩ : ∃ L, L = t.tb.getD k [] := ⟨_, rfl⟩
          obtain ⟨M, hM⟩ : ∃ M, M = u.tb.getD k [] := ⟨_, rfl⟩
          rw [← hL] at t0 R1 l1
          rw [← hM] at t2 R2 l2
          have HLM := Lib.hid (And.intro hL hM); clear hL hM
          by_cases c5 : L.length = M.length
          rotate_left
          · have d5 : (L.length != M.length) = true := by simpa using c5
            have d5' : ((L.length : Int) != (M.length : Int)) = true := by simp; omega
            have HE := Lib.hid c5; clear c5
            go_wp2_with fail
            go_quiet (fail)
            go_wp2_with fail
            go_ret
            exact ⟨ret_bool (HF.out fun h => HE.out (by rw [HLM.out.1, HLM.out.2, h])).symm, below_drewN k1 _⟩
          have d5 : (L.length != M.length) = false := by simpa using c5
          have d5' : ((L.length : Int) != (M.length : Int)) = false := by simp; omega
          have HE5 := Lib.hid c5; clear c5
          go_wp2_with fail
          go_quiet (fail)
          have k2 : Kept w (wr.drewN nq) := below_drewN k1 _
          have o2 := o0.drewN nq; have p2 := p0.drewN nq
          have R1' := Lib.hid (R1.kept (below_drewN (kept_refl wr) nq)); have R2' := Lib.hid (R2.kept (below_drewN (kept_refl wr) nq))
          have T0 := kept_cell (below_drewN (kept_refl wr) nq) t0; have T2 := kept_cell (below_drewN (kept_refl wr) nq) t2
          generalize wr.drewN nq = wi at *
          clear t0 t2 R1 R2 o0 p0 k1 q0 q1 q2 q3 r0 r1 r2 r3
          go_wp2_with fail
          go_loopg [7] L.length (fun g' s7 wr => ∃ i : Nat, i ≤ L.length ∧ (∀ j, j < i → ia L j = ia M j) ∧ g' = L.length - i ∧ s7 = .int .i64 i ∧ Kept wi wr)
          case atStart => exact ⟨0, by omega, by omega, rfl, rfl, kept_refl _⟩
          case round =>
            obtain ⟨i, hi, hj2, rfl, rfl, k3⟩ := hrel
            have HJ2 := Lib.hid hj2; clear hj2
            have o3 := o2.kept k3; have p3 := p2.kept k3
            have q0 := o3.cell (j := 0) rfl; have q1 := o3.cell (j := 1) rfl; have q2 := o3.cell (j := 2) rfl; have q3 := o3.cell (j := 3) rfl
            have r0 := p3.cell (j := 0) rfl; have r1 := p3.cell (j := 1) rfl; have r2 := p3.cell (j := 2) rfl; have r3 := p3.cell (j := 3) rfl
            have t0 := kept_cell k3 T0; have t2 := kept_cell k3 T2
            by_cases hlt3 : i < L.length
            · obtain ⟨b1, f1, rfl, h1⟩ := R1'.out.int hlt3
              have a0 := kept_cell k3 (h1 i hlt3)
              have hlt4 : i < M.length := by have := HE5.out; omega
              obtain ⟨b2, f2, rfl, h2⟩ := R2'.out.int hlt4
              have a1 := kept_cell k3 (h2 i hlt4)
              clear h1 h2
              by_cases he : ia L i = ia M i
              · have e1 : (ia L i == ia M i) = true := by simp [he]
                have e2 : (ia L i != ia M i) = false := by simp [he]
                have HE := Lib.hid he; clear he
                go_wp2_with fail
                go_quiet (fail)
                go_wp2_with fail
                go_roundg (L.length - (i + 1))
                case rel => exact ⟨i + 1, by omega, fun j h => by rcases Nat.lt_succ_iff_lt_or_eq.1 h with h | rfl; exact HJ2.out j h; exact HE.out, rfl, by go_num, below_drewN k3 _⟩
                case measure => omega
              · have e1 : (ia L i == ia M i) = false := by simp [he]
                have e2 : (ia L i != ia M i) = true := by simp [he]
                have HE := Lib.hid he; clear he
                go_wp2_with fail
                go_quiet (fail)
                go_wp2_with fail
                go_ret
                exact ⟨ret_bool (HF.out fun h => HE.out (by rw [HLM.out.1, HLM.out.2, h])).symm, below_drewN (kept_trans k2 k3) _⟩
            · have : i = L.length := by omega
              subst this
              go_wp2_with fail
              have ELM := Lib.hid (list_eq_ia HE5.out HJ2.out)
              go_roundg (t.tb.length - (k + 1))
              case rel => exact ⟨k + 1, by omega, fun j h => by rcases Nat.lt_succ_iff_lt_or_eq.1 h with h | rfl; exact HJ.out j h; rw [← HLM.out.1, ← HLM.out.2]; exact ELM.out, rfl, by go_num, kept_trans k2 k3, o3, p3⟩
              case measure => omega
        · have : k = t.tb.length := by omega
          subst this
          go_wp2_with fail
          go_ret
          exact ⟨ret_bool (HT.out (Tr.ext' HC.out.1 HC.out.2.1 ELV.out (List.ext_getElem HC.out.2.2.2 fun j h1 h2 => by have := HJ.out j h1; simpa [List.getD_eq_getElem?_getD, h1, h2] using this))).symm, k1⟩
end Go.Proofs.YtikfeemmjfoffaaGreatDoor
