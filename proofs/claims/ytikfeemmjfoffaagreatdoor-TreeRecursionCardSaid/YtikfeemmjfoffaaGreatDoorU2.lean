/- Joined: W8, W9, W10. -/
import Derived.Test.YtikfeemmjfoffaaGreatDoorU1
import Derived.Test.YtikfeemmjfoffaaGreatDoorShelf
import Derived.Laws.BitsLemmas
/- Trees: whether all numbers of a list are values (the program): slices.ContainsFunc with a function literal; Valid. -/
set_option linter.unusedVariables false
set_option linter.unusedSimpArgs false
namespace Go.Proofs.YtikfeemmjfoffaaGreatDoor
open Go.RowKit Go.Shelf

/-- A number that is no value. -/
def badV (N : Nat) (x : Int) : Bool := decide (x < 0) || decide ((N : Int) ≤ x)

set_option maxRecDepth 100000 in
set_option maxHeartbeats 1000000 in
theorem lit60_any (bn : Nat) (hb : bn ≤ 12) (B : Nat) (w : World) (hc : w.cell? ⟨B, 0, none⟩ = some (.int .i64 bn)) :
    PredAt Tryz.prog 93 #[.pointer (some ⟨B, 0, none⟩)] (Value.int .i64) (badV (2 ^ bn)) w := fun W x hB => by
  have hB0 := kept_lt hc
  have hc2 : W.cell? ⟨B, 0, none⟩ = some (.int .i64 bn) := (hB.cell (p := ⟨B, 0, none⟩) hB0).trans hc
  show Calls Tryz.prog 93 #[.int .i64 x, .pointer (some ⟨B, 0, none⟩)] W _
  have hw := shl_wrap bn (by omega)
  obtain ⟨N, hN⟩ : ∃ N : Nat, N = 2 ^ bn := ⟨_, rfl⟩
  rw [← hN] at hw ⊢
  clear hN hc hB
  by_cases c1 : x < 0
  · have d1 : decide (x < 0) = true := decide_eq_true c1
    have hv : badV N x = true := by unfold badV; rw [d1]; rfl
    rw [hv]; clear hv c1
    go_enter Tryz.func93, Tryz.ntmps93
    go_wp2_with fail
    go_ret
    exact ⟨rfl, 0, rfl⟩
  · have d1 : decide (x < 0) = false := decide_eq_false c1
    by_cases c2 : (N : Int) ≤ x
    · have d2 : decide ((N : Int) ≤ x) = true := decide_eq_true c2
      have hv : badV N x = true := by unfold badV; rw [d2]; simp
      rw [hv]; clear hv c1 c2
      go_enter Tryz.func93, Tryz.ntmps93
      go_wp2_with fail
      go_ret
      exact ⟨rfl, 0, rfl⟩
    · have d2 : decide ((N : Int) ≤ x) = false := decide_eq_false c2
      have hv : badV N x = false := by unfold badV; rw [d1, d2]; rfl
      rw [hv]; clear hv c1 c2
      go_enter Tryz.func93, Tryz.ntmps93
      go_wp2_with fail
      go_ret
      exact ⟨rfl, 0, rfl⟩

theorem vals_any {l : List Int} {bn : Nat} : (!l.any (badV (2 ^ bn))) = valsOk l bn := by
  have hp : pw (bn : Int) = 2 ^ bn := by simp [pw]
  rw [Bool.eq_iff_iff, valsOk_iff, Bool.not_eq_true', List.any_eq_false, hp]
  constructor
  · intro h x hx
    have := h x hx
    simp only [badV, Bool.or_eq_true, decide_eq_true_eq, not_or] at this
    omega
  · intro h x hx
    have := h x hx
    simp only [badV, Bool.or_eq_true, decide_eq_true_eq, not_or]
    omega

theorem enters60 : ∀ args w, (callFunc 93 args).run Tryz.prog w = .ok (.enter 93 args) w := enters_of Tryz.func93 (by kernel_rfl) rfl

set_option maxRecDepth 100000 in
set_option maxHeartbeats 1000000 in
theorem values39_any (bn : Nat) (hb : bn ≤ 12) (A : Option Addr) (c : Nat) (l : List Int) (many : Int) (w : World) (hA : Rd w A (ints l)) (hn1 : l.length ≤ 140737488355328) :
    Calls Tryz.prog 72 #[.slice A l.length c, .int .i64 many, .int .i64 bn] w fun e w' => e = .returned (.bool (decide ((l.length : Int) = many) && valsOk l bn)) ∧ Kept w w' := by
  have k0 := kept_alloc (kept_refl w) (.cells #[.int .i64 bn] 3)
  by_cases c1 : (l.length : Int) = many
  · have d1 : ((l.length : Int) == many) = true := by simpa using c1
    have hd : decide ((l.length : Int) = many) = true := decide_eq_true c1
    rw [hd]
    have CC : Calls Tryz.prog 48 #[.slice A l.length c, .func (.func 93) #[] #[.pointer (some ⟨w.heap.size, 0, none⟩)]] (w.alloc (.cells #[.int .i64 bn] 3)) fun e w' => e = .returned (.bool (l.any (badV (2 ^ bn)))) ∧ ∃ q, w' = (w.alloc (.cells #[.int .i64 bn] 3)).drewN q := by
      by_cases h0 : l.length = 0
      · have e0 : l = [] := List.eq_nil_of_length_eq_zero h0
        subst e0
        exact (Tryz.slices_ContainsFunc_empty (α := Int) A c _ _).mono fun e w' ⟨h1, h2⟩ => ⟨h1, 0, h2⟩
      · obtain ⟨b1, f1, rfl, h1⟩ := hA.int (k := 0) (by omega)
        have := Tryz.slices_ContainsFunc (Value.int .i64) (badV (2 ^ bn)) 93 #[.pointer (some ⟨w.heap.size, 0, none⟩)] enters60 b1 f1 l.length c l (w.alloc (.cells #[.int .i64 bn] 3)) (lit60_any bn hb w.heap.size _ (by simp)) (Nat.le_refl _) (by omega)
          (fun j hj => by
            have h2 := kept_cell k0 (h1 j hj)
            rw [h2]
            unfold ia
            rw [getElem!_pos l j hj, List.getD_eq_getElem?_getD, List.getElem?_eq_getElem hj]
            rfl)
        rwa [List.take_length] at this
    have HV := Lib.hid (vals_any (l := l) (bn := bn))
    obtain ⟨R, hR⟩ : ∃ R, R = l.any (badV (2 ^ bn)) := ⟨_, rfl⟩
    rw [← hR] at CC
    have HR := Lib.hid hR; clear hR hd
    have HC := Lib.hid c1; clear c1
    cases R
    · go_enter Tryz.func72, Tryz.ntmps72
      go_wp2_with (go_at_call 48; ((with_reducible refine CC.mono ?_); rintro e w1 ⟨rfl, q, rfl⟩))
      go_ret
      exact ⟨ret_bool (by rw [← HV.out, ← HR.out]; rfl), below_drewN k0 q⟩
    · go_enter Tryz.func72, Tryz.ntmps72
      go_wp2_with (go_at_call 48; ((with_reducible refine CC.mono ?_); rintro e w1 ⟨rfl, q, rfl⟩))
      go_ret
      exact ⟨ret_bool (by rw [← HV.out, ← HR.out]; rfl), below_drewN k0 q⟩
  · have d1 : ((l.length : Int) == many) = false := by simpa using c1
    have hd : decide ((l.length : Int) = many) = false := decide_eq_false c1
    rw [hd]
    clear hd c1
    go_enter Tryz.func72, Tryz.ntmps72
    go_wp2_with fail
    go_ret
    exact ⟨rfl, k0⟩
end Go.Proofs.YtikfeemmjfoffaaGreatDoor

/- Trees: Valid (the program). -/
set_option linter.unusedVariables false
set_option linter.unusedSimpArgs false
namespace Go.Proofs.YtikfeemmjfoffaaGreatDoor
open Go.RowKit

def vOk (l : List Int) (many b : Int) : Bool := decide ((l.length : Int) = many) && valsOk l b
theorem vOk_iff {l : List Int} {many b : Int} : vOk l many b = true ↔ (l.length : Int) = many ∧ valsOk l b = true := by simp [vOk]

set_option maxRecDepth 100000 in
set_option maxHeartbeats 4000000 in
theorem valid18_any (h b : Int) (A : Option Addr) (c : Nat) (lv : List Int) (T : Option Addr) (d : Nat) (tb : List (List Int)) (w : World) (hA : Rd w A (ints lv)) (hT : RT w T tb) (hl : lv.length ≤ 140737488355328) (ht : tb.length ≤ 140737488355328) :
    Calls Tryz.prog 44 #[.agg #[.int .i64 h, .int .i64 b, .slice A lv.length c, .slice T tb.length d]] w fun e w' => e = .returned (.bool (validT ⟨h, b, lv, tb⟩)) ∧ Kept w w' := by
  have o0 := Own.new w 27 [.int .i64 h, .int .i64 b, .slice A lv.length c, .slice T tb.length d]
  have K0 := kept_alloc (kept_refl w) (.cells #[.int .i64 h, .int .i64 b, .slice A lv.length c, .slice T tb.length d] 27)
  have q0 := o0.cell (j := 0) rfl; have q1 := o0.cell (j := 1) rfl; have q2 := o0.cell (j := 2) rfl; have q3 := o0.cell (j := 3) rfl
  obtain ⟨V, hV⟩ : ∃ V, V = validT ⟨h, b, lv, tb⟩ := ⟨_, rfl⟩
  rw [← hV]
  have HV := Lib.hid hV; clear hV
  have HA := Lib.hid hA; have HT := Lib.hid hT; clear hA hT
  by_cases c1 : h < 0
  · have d1 : decide (h < 0) = true := decide_eq_true c1
    have HC := Lib.hid c1; clear c1
    go_enter Tryz.func44, Tryz.ntmps44
    go_wp2_with fail
    go_quiet (fail)
    go_wp2_with fail
    go_ret
    exact ⟨ret_bool (by symm; rw [HV.out, Bool.eq_false_iff]; intro hv; have g := good_of hv; have G : 0 ≤ h := g.h0; have := HC.out; omega), below_drewN K0 _⟩
  have d1 : decide (h < 0) = false := decide_eq_false c1
  by_cases c2 : 6 < h
  · have d2 : decide (6 < h) = true := decide_eq_true c2
    have HC := Lib.hid c2; clear c1 c2
    go_enter Tryz.func44, Tryz.ntmps44
    go_wp2_with fail
    go_quiet (fail)
    go_wp2_with fail
    go_ret
    exact ⟨ret_bool (by symm; rw [HV.out, Bool.eq_false_iff]; intro hv; have g := good_of hv; have G : h ≤ 6 := g.h6; have := HC.out; omega), below_drewN K0 _⟩
  have d2 : decide (6 < h) = false := decide_eq_false c2
  by_cases c3 : b < 1
  · have d3 : decide (b < 1) = true := decide_eq_true c3
    have HC := Lib.hid c3; clear c1 c2 c3
    go_enter Tryz.func44, Tryz.ntmps44
    go_wp2_with fail
    go_quiet (fail)
    go_wp2_with fail
    go_ret
    exact ⟨ret_bool (by symm; rw [HV.out, Bool.eq_false_iff]; intro hv; have g := good_of hv; have G : 1 ≤ b := g.b1; have := HC.out; omega), below_drewN K0 _⟩
  have d3 : decide (b < 1) = false := decide_eq_false c3
  by_cases c4 : 6 < b
  · have d4 : decide (6 < b) = true := decide_eq_true c4
    have HC := Lib.hid c4; clear c1 c2 c3 c4
    go_enter Tryz.func44, Tryz.ntmps44
    go_wp2_with fail
    go_quiet (fail)
    go_wp2_with fail
    go_ret
    exact ⟨ret_bool (by symm; rw [HV.out, Bool.eq_false_iff]; intro hv; have g := good_of hv; have G : b ≤ 6 := g.b6; have := HC.out; omega), below_drewN K0 _⟩
  have d4 : decide (6 < b) = false := decide_eq_false c4
  obtain ⟨hn, rfl⟩ : ∃ k : Nat, h = k := ⟨h.toNat, by omega⟩
  obtain ⟨bn, rfl⟩ : ∃ k : Nat, b = k := ⟨b.toNat, by omega⟩
  have hh6 : hn ≤ 6 := by omega
  have hb6 : bn ≤ 6 := by omega
  have hb1 : 1 ≤ bn := by omega
  clear c1 c2 c3 c4
  have w1 := shl_wrap hn (by omega)
  obtain ⟨N, hN⟩ : ∃ N : Nat, N = 2 ^ hn := ⟨_, rfl⟩
  rw [← hN] at w1
  have hNp : pw (hn : Int) = N := by rw [hN]; simp [pw]
  have hN1 : 1 ≤ N := by rw [← hNp]; exact pw_pos _
  have hN64 : N ≤ 64 := by rw [← hNp]; exact pw_le (by omega)
  have w1a : IntKind.i64.wrap (2 ^ hn) = (N : Int) := by rw [show (2 : Int) ^ hn = (N : Int) by rw [hN]; simp]; exact iw_nat (by omega)
  have w1b : IntKind.i64.wrap (2 ^ min hn 64) = (N : Int) := by rw [Nat.min_eq_left (by omega)]; exact w1a
  have HNP := Lib.hid hNp; clear hN hNp
  have w2 : wrap64 ((N : Int) - 1) = (N : Int) - 1 := by unfold wrap64; omega
  have w2a : IntKind.i64.wrap ((N : Int) - 1) = (N : Int) - 1 := IntWalk.i64_in _ (by omega)
  by_cases c6 : (tb.length : Int) = (N : Int) - 1
  rotate_left
  · have e3 : ((tb.length : Int) != (N : Int) - 1) = true := by simp; omega
    have HC := Lib.hid (And.intro c6 (And.intro HNP.out hN1)); clear c6
    go_enter Tryz.func44, Tryz.ntmps44
    go_wp2_with fail
    go_quiet (fail)
    go_wp2_with fail
    go_ret
    exact ⟨ret_bool (by symm; rw [HV.out, Bool.eq_false_iff]; intro hv; have g := good_of hv; have G : tb.length = pw (hn : Int) - 1 := g.tl; have := HC.out; omega), below_drewN K0 _⟩
  have e3 : ((tb.length : Int) != (N : Int) - 1) = false := by simp; omega
  have o0' := o0
  obtain ⟨W0, hW0⟩ : ∃ x, x = w.alloc (.cells #[.int .i64 hn, .int .i64 bn, .slice A lv.length c, .slice T tb.length d] 27) := ⟨_, rfl⟩
  rw [← hW0] at o0' K0
  obtain ⟨m, hm⟩ : ∃ m : Nat, m = 2 * bn := ⟨_, rfl⟩
  have w3 : wrap64 (2 * (bn : Int)) = (m : Int) := by unfold wrap64; omega
  have w3' : IntKind.i64.wrap (2 * (bn : Int)) = (m : Int) := (IntWalk.i64_in _ (by omega)).trans (by omega)
  have w4 := shl_wrap m (by omega)
  obtain ⟨M, hM⟩ : ∃ M : Nat, M = 2 ^ m := ⟨_, rfl⟩
  rw [← hM] at w4
  have hM2 : M ≤ 4096 := by rw [hM]; exact Nat.pow_le_pow_right (n := 2) (by omega) (by omega : m ≤ 12)
  have w5a : IntKind.i64.wrap (2 ^ m) = (M : Int) := by rw [show (2 : Int) ^ m = (M : Int) by rw [hM]; simp]; exact iw_nat (by omega)
  have w5 : IntKind.i64.wrap (2 ^ min m 64) = (M : Int) := by rw [Nat.min_eq_left (by omega)]; exact w5a
  have hMp : pw (2 * (bn : Int)) = M := by rw [hM, hm]; unfold pw; congr 1
  have HMP := Lib.hid hMp; clear hM hMp
  have HC6 := Lib.hid c6; clear c6
  have C39 := Lib.hid fun (A : Option Addr) (c : Nat) (l : List Int) (many : Int) (w' : World) (hr : Rd w' A (ints l)) (hl : l.length ≤ 140737488355328) => show Calls Tryz.prog 72 #[.slice A l.length c, .int .i64 many, .int .i64 bn] w' fun e w'' => e = .returned (.bool (vOk l many bn)) ∧ Kept w' w'' from values39_any bn (by omega) A c l many w' hr hl
  have HM := Lib.hid hm; clear hm
  go_enter Tryz.func44, Tryz.ntmps44
  go_wp2_with fail
  go_quiet (fail)
  go_wp2_with fail
  have KB : Kept W0 (w.alloc (.cells #[.int .i64 hn, .int .i64 bn, .slice A lv.length c, .slice T tb.length d] 27)).drew := by rw [hW0]; exact kept_drew (kept_refl _)
  have KB' : Kept W0 (w.alloc (.cells #[.int .i64 hn, .int .i64 bn, .slice A lv.length c, .slice T tb.length d] 27)) := by rw [hW0]; exact kept_refl _
  clear q0 q1 q2 q3 o0 w1 w2 w1a w2a w1b
  go_loopg [36] tb.length (fun g' s36 wr => ∃ k : Nat, k ≤ tb.length ∧ (∀ j, j < k → vOk (tb.getD j []) M bn = true) ∧ g' = tb.length - k ∧ s36 = .int .i64 k ∧ Kept W0 wr)
  case atStart => exact ⟨0, by omega, by omega, rfl, rfl, by first | exact KB | exact KB' | exact below_drewN KB' _⟩
  case round =>
    clear KB KB'
    obtain ⟨k, hk, hj, rfl, rfl, k1⟩ := hrel
    have HJ := Lib.hid hj; clear hj
    have oo := o0'.kept k1
    have q0 := oo.cell (j := 0) rfl; have q1 := oo.cell (j := 1) rfl; have q2 := oo.cell (j := 2) rfl; have q3 := oo.cell (j := 3) rfl
    by_cases hlt : k < tb.length
    · obtain ⟨tb1, toff, A1, c1, rfl, t0, r1, l1⟩ := (HT.out.kept (kept_trans K0 k1)) k hlt
      obtain ⟨L, hL⟩ : ∃ L, L = tb.getD k [] := ⟨_, rfl⟩
      rw [← hL] at t0 r1 l1
      have HL := Lib.hid hL; clear hL
      have R1 := Lib.hid r1; clear r1
      by_cases c8 : vOk L M bn = true
      · go_wp2_with fail
        refine region_x (fun w' => Kept wr w') [] (by kernel_rfl) (kept_drew (kept_refl _)) (fun hHeld => ?_)
        refine x_take (i := 0) (oi := { dst := some 40, op := Op.move (Operand.tmp 4), type := 24, pos := "tree.go:26", after := #[], guard := none }) (v := ?_) rfl (by kernel_rfl) (by kernel_rfl) (by kernel_rfl) (by kernel_rfl) (by kernel_rfl) (fun _ _ _ h => h) (Or.inl ⟨rfl, ?_⟩) (by assumption) ?_
        rotate_left
        · (intro w' hSw; replace q0 := kept_cell hSw q0; replace q1 := kept_cell hSw q1; replace q2 := kept_cell hSw q2; replace q3 := kept_cell hSw q3; go_simp; try with_reducible rfl)
        try simp only [Act.put, List.setIfInBounds_toArray, List.set_cons_zero, List.set_cons_succ]
        refine x_take (i := 1) (oi := { dst := some 41, op := Op.fieldAddr 27 (Operand.tmp 1) 1, type := 0, pos := "tree.go:26", after := #[], guard := none }) (v := ?_) rfl (by kernel_rfl) (by kernel_rfl) (by kernel_rfl) (by kernel_rfl) (by kernel_rfl) (fun _ _ _ h => h) (Or.inl ⟨rfl, ?_⟩) (by assumption) ?_
        rotate_left
        · (intro w' hSw; replace q0 := kept_cell hSw q0; replace q1 := kept_cell hSw q1; replace q2 := kept_cell hSw q2; replace q3 := kept_cell hSw q3; go_simp; try with_reducible rfl)
        try simp only [Act.put, List.setIfInBounds_toArray, List.set_cons_zero, List.set_cons_succ]
        refine x_take (i := 2) (oi := { dst := some 42, op := Op.load 3 (Operand.tmp 41), type := 3, pos := "tree.go:26", after := #[{ on := 1, ground := Ground.data }], guard := none }) (v := ?_) rfl (by kernel_rfl) (by kernel_rfl) (by kernel_rfl) (by kernel_rfl) (by kernel_rfl) (fun _ _ _ h => h) (Or.inl ⟨rfl, ?_⟩) (by assumption) ?_
        rotate_left
        · (intro w' hSw; replace q0 := kept_cell hSw q0; replace q1 := kept_cell hSw q1; replace q2 := kept_cell hSw q2; replace q3 := kept_cell hSw q3; go_simp; try with_reducible rfl)
        try simp only [Act.put, List.setIfInBounds_toArray, List.set_cons_zero, List.set_cons_succ]
        refine x_take (i := 3) (oi := { dst := some 43, op := Op.binOp BinOp.mul 3 (Operand.const (Value.int IntKind.i64 2)) (Operand.tmp 42) 3, type := 3, pos := "tree.go:26", after := #[{ on := 2, ground := Ground.data }], guard := none }) (v := ?_) rfl (by kernel_rfl) (by kernel_rfl) (by kernel_rfl) (by kernel_rfl) (by kernel_rfl) (fun _ _ _ h => h) (Or.inl ⟨rfl, ?_⟩) (by assumption) ?_
        rotate_left
        · (intro w' hSw; replace q0 := kept_cell hSw q0; replace q1 := kept_cell hSw q1; replace q2 := kept_cell hSw q2; replace q3 := kept_cell hSw q3; go_simp; try with_reducible rfl)
        try simp only [Act.put, List.setIfInBounds_toArray, List.set_cons_zero, List.set_cons_succ]
        refine x_take (i := 4) (oi := { dst := some 44, op := Op.binOp BinOp.shl 3 (Operand.const (Value.int IntKind.i64 1)) (Operand.tmp 43) 3, type := 3, pos := "tree.go:26", after := #[{ on := 3, ground := Ground.data }], guard := none }) (v := ?_) rfl (by kernel_rfl) (by kernel_rfl) (by kernel_rfl) (by kernel_rfl) (by kernel_rfl) (fun _ _ _ h => h) (Or.inl ⟨rfl, ?_⟩) (by assumption) ?_
        rotate_left
        · (intro w' hSw; replace q0 := kept_cell hSw q0; replace q1 := kept_cell hSw q1; replace q2 := kept_cell hSw q2; replace q3 := kept_cell hSw q3; go_simp; try with_reducible rfl)
        try simp only [Act.put, List.setIfInBounds_toArray, List.set_cons_zero, List.set_cons_succ]
        refine x_take (i := 5) (oi := { dst := some 45, op := Op.fieldAddr 27 (Operand.tmp 1) 1, type := 0, pos := "tree.go:26", after := #[], guard := none }) (v := ?_) rfl (by kernel_rfl) (by kernel_rfl) (by kernel_rfl) (by kernel_rfl) (by kernel_rfl) (fun _ _ _ h => h) (Or.inl ⟨rfl, ?_⟩) (by assumption) ?_
        rotate_left
        · (intro w' hSw; replace q0 := kept_cell hSw q0; replace q1 := kept_cell hSw q1; replace q2 := kept_cell hSw q2; replace q3 := kept_cell hSw q3; go_simp; try with_reducible rfl)
        try simp only [Act.put, List.setIfInBounds_toArray, List.set_cons_zero, List.set_cons_succ]
        refine x_take (i := 6) (oi := { dst := some 46, op := Op.load 3 (Operand.tmp 45), type := 3, pos := "tree.go:26", after := #[{ on := 5, ground := Ground.data }], guard := none }) (v := ?_) rfl (by kernel_rfl) (by kernel_rfl) (by kernel_rfl) (by kernel_rfl) (by kernel_rfl) (fun _ _ _ h => h) (Or.inl ⟨rfl, ?_⟩) (by assumption) ?_
        rotate_left
        · (intro w' hSw; replace q0 := kept_cell hSw q0; replace q1 := kept_cell hSw q1; replace q2 := kept_cell hSw q2; replace q3 := kept_cell hSw q3; go_simp; try with_reducible rfl)
        try simp only [Act.put, List.setIfInBounds_toArray, List.set_cons_zero, List.set_cons_succ]
        refine x_one (i := 7) (o := { dst := some 47, op := Op.call { callee := Callee.value (Operand.func 72), args := #[Operand.tmp 40, Operand.tmp 44, Operand.tmp 46], argTypes := #[24, 3, 3] }, type := 4, pos := "tree.go:26", after := #[{ on := 0, ground := Ground.data }, { on := 4, ground := Ground.data }, { on := 6, ground := Ground.data }], guard := none }) (by kernel_rfl) rfl (fun K hK => ?_)
        (go_simp; go_at_call 72; (with_reducible refine (C39.out _ _ L _ _ (Rd.kept R1.out hHeld) l1).mono ?_); rintro e w50 ⟨rfl, k9⟩; have KK9 : Kept wr w50 := kept_trans hHeld k9; rw [c8]; try dsimp only)
        refine hK.out _ _ ?_ (fun hHeld => ?_)
        · (try dsimp only); repeat (first | assumption | exact kept_refl _ | refine kept_drew ?_ | refine kept_alloc ?_ _ | refine kept_set ?_ (by omega) _)
        clear hK K
        try simp only [Act.put, List.setIfInBounds_toArray, List.set_cons_zero, List.set_cons_succ]
        refine x_take (i := 8) (oi := { dst := some 48, op := Op.unOp UnOp.not 4 (Operand.tmp 47), type := 4, pos := "tree.go:26", after := #[{ on := 7, ground := Ground.data }], guard := none }) (v := ?_) rfl (by kernel_rfl) (by kernel_rfl) (by kernel_rfl) (by kernel_rfl) (by kernel_rfl) (fun _ _ _ h => h) (Or.inl ⟨rfl, ?_⟩) (by assumption) ?_
        rotate_left
        · (intro w' hSw; replace q0 := kept_cell hSw q0; replace q1 := kept_cell hSw q1; replace q2 := kept_cell hSw q2; replace q3 := kept_cell hSw q3; go_simp; try with_reducible rfl)
        try simp only [Act.put, List.setIfInBounds_toArray, List.set_cons_zero, List.set_cons_succ]
        refine x_done (by kernel_rfl) ?_ _
        go_wp2_with fail
        go_roundg (tb.length - (k + 1))
        case rel => exact ⟨k + 1, by omega, fun j h => by rcases Nat.lt_succ_iff_lt_or_eq.1 h with h | rfl; exact HJ.out j h; rw [← HL.out]; exact c8, rfl, by go_num, kept_trans k1 KK9⟩
        case measure => omega
      · have c9 : vOk L M bn = false := by simpa using c8
        go_wp2_with fail
        refine region_x (fun w' => Kept wr w') [] (by kernel_rfl) (kept_drew (kept_refl _)) (fun hHeld => ?_)
        refine x_take (i := 0) (oi := { dst := some 40, op := Op.move (Operand.tmp 4), type := 24, pos := "tree.go:26", after := #[], guard := none }) (v := ?_) rfl (by kernel_rfl) (by kernel_rfl) (by kernel_rfl) (by kernel_rfl) (by kernel_rfl) (fun _ _ _ h => h) (Or.inl ⟨rfl, ?_⟩) (by assumption) ?_
        rotate_left
        · (intro w' hSw; replace q0 := kept_cell hSw q0; replace q1 := kept_cell hSw q1; replace q2 := kept_cell hSw q2; replace q3 := kept_cell hSw q3; go_simp; try with_reducible rfl)
        try simp only [Act.put, List.setIfInBounds_toArray, List.set_cons_zero, List.set_cons_succ]
        refine x_take (i := 1) (oi := { dst := some 41, op := Op.fieldAddr 27 (Operand.tmp 1) 1, type := 0, pos := "tree.go:26", after := #[], guard := none }) (v := ?_) rfl (by kernel_rfl) (by kernel_rfl) (by kernel_rfl) (by kernel_rfl) (by kernel_rfl) (fun _ _ _ h => h) (Or.inl ⟨rfl, ?_⟩) (by assumption) ?_
        rotate_left
        · (intro w' hSw; replace q0 := kept_cell hSw q0; replace q1 := kept_cell hSw q1; replace q2 := kept_cell hSw q2; replace q3 := kept_cell hSw q3; go_simp; try with_reducible rfl)
        try simp only [Act.put, List.setIfInBounds_toArray, List.set_cons_zero, List.set_cons_succ]
        refine x_take (i := 2) (oi := { dst := some 42, op := Op.load 3 (Operand.tmp 41), type := 3, pos := "tree.go:26", after := #[{ on := 1, ground := Ground.data }], guard := none }) (v := ?_) rfl (by kernel_rfl) (by kernel_rfl) (by kernel_rfl) (by kernel_rfl) (by kernel_rfl) (fun _ _ _ h => h) (Or.inl ⟨rfl, ?_⟩) (by assumption) ?_
        rotate_left
        · (intro w' hSw; replace q0 := kept_cell hSw q0; replace q1 := kept_cell hSw q1; replace q2 := kept_cell hSw q2; replace q3 := kept_cell hSw q3; go_simp; try with_reducible rfl)
        try simp only [Act.put, List.setIfInBounds_toArray, List.set_cons_zero, List.set_cons_succ]
        refine x_take (i := 3) (oi := { dst := some 43, op := Op.binOp BinOp.mul 3 (Operand.const (Value.int IntKind.i64 2)) (Operand.tmp 42) 3, type := 3, pos := "tree.go:26", after := #[{ on := 2, ground := Ground.data }], guard := none }) (v := ?_) rfl (by kernel_rfl) (by kernel_rfl) (by kernel_rfl) (by kernel_rfl) (by kernel_rfl) (fun _ _ _ h => h) (Or.inl ⟨rfl, ?_⟩) (by assumption) ?_
        rotate_left
        · (intro w' hSw; replace q0 := kept_cell hSw q0; replace q1 := kept_cell hSw q1; replace q2 := kept_cell hSw q2; replace q3 := kept_cell hSw q3; go_simp; try with_reducible rfl)
        try simp only [Act.put, List.setIfInBounds_toArray, List.set_cons_zero, List.set_cons_succ]
        refine x_take (i := 4) (oi := { dst := some 44, op := Op.binOp BinOp.shl 3 (Operand.const (Value.int IntKind.i64 1)) (Operand.tmp 43) 3, type := 3, pos := "tree.go:26", after := #[{ on := 3, ground := Ground.data }], guard := none }) (v := ?_) rfl (by kernel_rfl) (by kernel_rfl) (by kernel_rfl) (by kernel_rfl) (by kernel_rfl) (fun _ _ _ h => h) (Or.inl ⟨rfl, ?_⟩) (by assumption) ?_
        rotate_left
        · (intro w' hSw; replace q0 := kept_cell hSw q0; replace q1 := kept_cell hSw q1; replace q2 := kept_cell hSw q2; replace q3 := kept_cell hSw q3; go_simp; try with_reducible rfl)
        try simp only [Act.put, List.setIfInBounds_toArray, List.set_cons_zero, List.set_cons_succ]
        refine x_take (i := 5) (oi := { dst := some 45, op := Op.fieldAddr 27 (Operand.tmp 1) 1, type := 0, pos := "tree.go:26", after := #[], guard := none }) (v := ?_) rfl (by kernel_rfl) (by kernel_rfl) (by kernel_rfl) (by kernel_rfl) (by kernel_rfl) (fun _ _ _ h => h) (Or.inl ⟨rfl, ?_⟩) (by assumption) ?_
        rotate_left
        · (intro w' hSw; replace q0 := kept_cell hSw q0; replace q1 := kept_cell hSw q1; replace q2 := kept_cell hSw q2; replace q3 := kept_cell hSw q3; go_simp; try with_reducible rfl)
        try simp only [Act.put, List.setIfInBounds_toArray, List.set_cons_zero, List.set_cons_succ]
        refine x_take (i := 6) (oi := { dst := some 46, op := Op.load 3 (Operand.tmp 45), type := 3, pos := "tree.go:26", after := #[{ on := 5, ground := Ground.data }], guard := none }) (v := ?_) rfl (by kernel_rfl) (by kernel_rfl) (by kernel_rfl) (by kernel_rfl) (by kernel_rfl) (fun _ _ _ h => h) (Or.inl ⟨rfl, ?_⟩) (by assumption) ?_
        rotate_left
        · (intro w' hSw; replace q0 := kept_cell hSw q0; replace q1 := kept_cell hSw q1; replace q2 := kept_cell hSw q2; replace q3 := kept_cell hSw q3; go_simp; try with_reducible rfl)
        try simp only [Act.put, List.setIfInBounds_toArray, List.set_cons_zero, List.set_cons_succ]
        refine x_one (i := 7) (o := { dst := some 47, op := Op.call { callee := Callee.value (Operand.func 72), args := #[Operand.tmp 40, Operand.tmp 44, Operand.tmp 46], argTypes := #[24, 3, 3] }, type := 4, pos := "tree.go:26", after := #[{ on := 0, ground := Ground.data }, { on := 4, ground := Ground.data }, { on := 6, ground := Ground.data }], guard := none }) (by kernel_rfl) rfl (fun K hK => ?_)
        (go_simp; go_at_call 72; (with_reducible refine (C39.out _ _ L _ _ (Rd.kept R1.out hHeld) l1).mono ?_); rintro e w50 ⟨rfl, k9⟩; have KK9 : Kept wr w50 := kept_trans hHeld k9; rw [c9]; try dsimp only)
        refine hK.out _ _ ?_ (fun hHeld => ?_)
        · (try dsimp only); repeat (first | assumption | exact kept_refl _ | refine kept_drew ?_ | refine kept_alloc ?_ _ | refine kept_set ?_ (by omega) _)
        clear hK K
        try simp only [Act.put, List.setIfInBounds_toArray, List.set_cons_zero, List.set_cons_succ]
        refine x_take (i := 8) (oi := { dst := some 48, op := Op.unOp UnOp.not 4 (Operand.tmp 47), type := 4, pos := "tree.go:26", after := #[{ on := 7, ground := Ground.data }], guard := none }) (v := ?_) rfl (by kernel_rfl) (by kernel_rfl) (by kernel_rfl) (by kernel_rfl) (by kernel_rfl) (fun _ _ _ h => h) (Or.inl ⟨rfl, ?_⟩) (by assumption) ?_
        rotate_left
        · (intro w' hSw; replace q0 := kept_cell hSw q0; replace q1 := kept_cell hSw q1; replace q2 := kept_cell hSw q2; replace q3 := kept_cell hSw q3; go_simp; try with_reducible rfl)
        try simp only [Act.put, List.setIfInBounds_toArray, List.set_cons_zero, List.set_cons_succ]
        refine x_done (by kernel_rfl) ?_ _
        go_wp2_with fail
        go_ret
        exact ⟨ret_bool (by symm; rw [HV.out, Bool.eq_false_iff]; intro hv; have g := good_of hv; have G := g.tv (tb.getD k []) (getD_mem hlt); have G2 := g.tw (tb.getD k []) (getD_mem hlt); rw [← HL.out] at G G2; exact c8 (vOk_iff.2 ⟨by rw [G2]; exact congrArg Nat.cast HMP.out, valsOk_iff.2 G⟩)), kept_trans K0 (kept_trans k1 KK9)⟩
    · have : k = tb.length := by omega
      subst this
      have w1b : IntKind.i64.wrap (2 ^ hn) = (N : Int) := by have := HNP.out; unfold pw at this; rw [Int.toNat_natCast] at this; rw [show (2 : Int) ^ hn = (N : Int) by rw [← this]; simp]; exact iw_nat (by omega)
      have w1c : IntKind.i64.wrap (2 ^ min hn 64) = (N : Int) := by rw [Nat.min_eq_left (by omega)]; exact w1b
      have RA := Lib.hid (Rd.kept HA.out (kept_trans K0 k1))
      obtain ⟨V2, hV2⟩ : ∃ V2, V2 = vOk lv N bn := ⟨_, rfl⟩
      have HC := Lib.hid fun (w' : World) (hk : Kept wr w') => show Calls Tryz.prog 72 #[.slice A lv.length c, .int .i64 (N : Int), .int .i64 bn] w' fun e w'' => e = .returned (.bool V2) ∧ Kept w' w'' from by rw [hV2]; exact C39.out A c lv N w' (RA.out.kept hk) hl
      have HV2 := Lib.hid hV2; clear hV2
      go_wp2_with fail
      refine region_x (fun w' => Kept wr w') [] (by kernel_rfl) (kept_drew (kept_refl _)) (fun hHeld => ?_)
      refine x_take (i := 0) (oi := { dst := some 50, op := Op.fieldAddr 27 (Operand.tmp 1) 2, type := 0, pos := "tree.go:30", after := #[], guard := none }) (v := ?_) rfl (by kernel_rfl) (by kernel_rfl) (by kernel_rfl) (by kernel_rfl) (by kernel_rfl) (fun _ _ _ h => h) (Or.inl ⟨rfl, ?_⟩) (by assumption) ?_
      rotate_left
      · (intro w' hSw; replace q0 := kept_cell hSw q0; replace q1 := kept_cell hSw q1; replace q2 := kept_cell hSw q2; replace q3 := kept_cell hSw q3; go_simp; try with_reducible rfl)
      try simp only [Act.put, List.setIfInBounds_toArray, List.set_cons_zero, List.set_cons_succ]
      refine x_take (i := 1) (oi := { dst := some 51, op := Op.load 24 (Operand.tmp 50), type := 24, pos := "tree.go:30", after := #[{ on := 0, ground := Ground.data }], guard := none }) (v := ?_) rfl (by kernel_rfl) (by kernel_rfl) (by kernel_rfl) (by kernel_rfl) (by kernel_rfl) (fun _ _ _ h => h) (Or.inl ⟨rfl, ?_⟩) (by assumption) ?_
      rotate_left
      · (intro w' hSw; replace q0 := kept_cell hSw q0; replace q1 := kept_cell hSw q1; replace q2 := kept_cell hSw q2; replace q3 := kept_cell hSw q3; go_simp; try with_reducible rfl)
      try simp only [Act.put, List.setIfInBounds_toArray, List.set_cons_zero, List.set_cons_succ]
      refine x_take (i := 2) (oi := { dst := some 52, op := Op.fieldAddr 27 (Operand.tmp 1) 0, type := 0, pos := "tree.go:30", after := #[], guard := none }) (v := ?_) rfl (by kernel_rfl) (by kernel_rfl) (by kernel_rfl) (by kernel_rfl) (by kernel_rfl) (fun _ _ _ h => h) (Or.inl ⟨rfl, ?_⟩) (by assumption) ?_
      rotate_left
      · (intro w' hSw; replace q0 := kept_cell hSw q0; replace q1 := kept_cell hSw q1; replace q2 := kept_cell hSw q2; replace q3 := kept_cell hSw q3; go_simp; try with_reducible rfl)
      try simp only [Act.put, List.setIfInBounds_toArray, List.set_cons_zero, List.set_cons_succ]
      refine x_take (i := 3) (oi := { dst := some 53, op := Op.load 3 (Operand.tmp 52), type := 3, pos := "tree.go:30", after := #[{ on := 2, ground := Ground.data }], guard := none }) (v := ?_) rfl (by kernel_rfl) (by kernel_rfl) (by kernel_rfl) (by kernel_rfl) (by kernel_rfl) (fun _ _ _ h => h) (Or.inl ⟨rfl, ?_⟩) (by assumption) ?_
      rotate_left
      · (intro w' hSw; replace q0 := kept_cell hSw q0; replace q1 := kept_cell hSw q1; replace q2 := kept_cell hSw q2; replace q3 := kept_cell hSw q3; go_simp; try with_reducible rfl)
      try simp only [Act.put, List.setIfInBounds_toArray, List.set_cons_zero, List.set_cons_succ]
      refine x_take (i := 4) (oi := { dst := some 54, op := Op.binOp BinOp.shl 3 (Operand.const (Value.int IntKind.i64 1)) (Operand.tmp 53) 3, type := 3, pos := "tree.go:30", after := #[{ on := 3, ground := Ground.data }], guard := none }) (v := ?_) rfl (by kernel_rfl) (by kernel_rfl) (by kernel_rfl) (by kernel_rfl) (by kernel_rfl) (fun _ _ _ h => h) (Or.inl ⟨rfl, ?_⟩) (by assumption) ?_
      rotate_left
      · (intro w' hSw; replace q0 := kept_cell hSw q0; replace q1 := kept_cell hSw q1; replace q2 := kept_cell hSw q2; replace q3 := kept_cell hSw q3; go_simp; try with_reducible rfl)
      try simp only [Act.put, List.setIfInBounds_toArray, List.set_cons_zero, List.set_cons_succ]
      refine x_take (i := 5) (oi := { dst := some 55, op := Op.fieldAddr 27 (Operand.tmp 1) 1, type := 0, pos := "tree.go:30", after := #[], guard := none }) (v := ?_) rfl (by kernel_rfl) (by kernel_rfl) (by kernel_rfl) (by kernel_rfl) (by kernel_rfl) (fun _ _ _ h => h) (Or.inl ⟨rfl, ?_⟩) (by assumption) ?_
      rotate_left
      · (intro w' hSw; replace q0 := kept_cell hSw q0; replace q1 := kept_cell hSw q1; replace q2 := kept_cell hSw q2; replace q3 := kept_cell hSw q3; go_simp; try with_reducible rfl)
      try simp only [Act.put, List.setIfInBounds_toArray, List.set_cons_zero, List.set_cons_succ]
      refine x_take (i := 6) (oi := { dst := some 56, op := Op.load 3 (Operand.tmp 55), type := 3, pos := "tree.go:30", after := #[{ on := 5, ground := Ground.data }], guard := none }) (v := ?_) rfl (by kernel_rfl) (by kernel_rfl) (by kernel_rfl) (by kernel_rfl) (by kernel_rfl) (fun _ _ _ h => h) (Or.inl ⟨rfl, ?_⟩) (by assumption) ?_
      rotate_left
      · (intro w' hSw; replace q0 := kept_cell hSw q0; replace q1 := kept_cell hSw q1; replace q2 := kept_cell hSw q2; replace q3 := kept_cell hSw q3; go_simp; try with_reducible rfl)
      try simp only [Act.put, List.setIfInBounds_toArray, List.set_cons_zero, List.set_cons_succ]
      refine x_one (i := 7) (o := { dst := some 57, op := Op.call { callee := Callee.value (Operand.func 72), args := #[Operand.tmp 51, Operand.tmp 54, Operand.tmp 56], argTypes := #[24, 3, 3] }, type := 4, pos := "tree.go:30", after := #[{ on := 1, ground := Ground.data }, { on := 4, ground := Ground.data }, { on := 6, ground := Ground.data }], guard := none }) (by kernel_rfl) rfl (fun K hK => ?_)
      (go_simp; go_at_call 72; (with_reducible refine (HC.out _ hHeld).mono ?_); rintro e w50 ⟨rfl, k9⟩; have KK9 : Kept wr w50 := kept_trans hHeld k9; try dsimp only)
      refine hK.out _ _ ?_ (fun hHeld => ?_)
      · (try dsimp only); repeat (first | assumption | exact kept_refl _ | refine kept_drew ?_ | refine kept_alloc ?_ _ | refine kept_set ?_ (by omega) _)
      clear hK K
      try simp only [Act.put, List.setIfInBounds_toArray, List.set_cons_zero, List.set_cons_succ]
      refine x_take (i := 8) (oi := { dst := some 2, op := Op.assign (Operand.tmp 57), type := 4, pos := "tree.go:30", after := #[{ on := 7, ground := Ground.data }, { on := 7, ground := Ground.chain }, { on := 0, ground := Ground.phase }, { on := 1, ground := Ground.phase }, { on := 2, ground := Ground.phase }, { on := 3, ground := Ground.phase }, { on := 4, ground := Ground.phase }, { on := 5, ground := Ground.phase }, { on := 6, ground := Ground.phase }, { on := 7, ground := Ground.phase }], guard := none }) (v := ?_) rfl (by kernel_rfl) (by kernel_rfl) (by kernel_rfl) (by kernel_rfl) (by kernel_rfl) (fun _ _ _ h => h) (Or.inl ⟨rfl, ?_⟩) (by assumption) ?_
      rotate_left
      · (intro w' hSw; replace q0 := kept_cell hSw q0; replace q1 := kept_cell hSw q1; replace q2 := kept_cell hSw q2; replace q3 := kept_cell hSw q3; go_simp; try with_reducible rfl)
      try simp only [Act.put, List.setIfInBounds_toArray, List.set_cons_zero, List.set_cons_succ]
      refine x_done (by kernel_rfl) ?_ _
      go_wp2_with fail
      go_ret
      refine ⟨ret_bool ?_, kept_trans K0 (kept_trans k1 KK9)⟩
      rw [HV2.out, HV.out, Bool.eq_iff_iff, vOk_iff]
      constructor
      · rintro ⟨hvl, hv⟩
        refine Good.valid ⟨?_, ?_, ?_, ?_, ?_, fun x hx => ?_, fun x hx => ?_, ?_, valsOk_iff.1 hv⟩
        · show (0 : Int) ≤ (hn : Int); omega
        · show (hn : Int) ≤ 6; omega
        · show (1 : Int) ≤ (bn : Int); omega
        · show (bn : Int) ≤ 6; omega
        · show tb.length = pw (hn : Int) - 1
          have := HC6.out; have := HNP.out; omega
        · obtain ⟨j, hj, e⟩ := mem_getD (d := []) hx
          have := (vOk_iff.1 (HJ.out j hj)).1
          rw [← e]
          show (tb.getD j []).length = pw (2 * (bn : Int))
          rw [HMP.out]; omega
        · obtain ⟨j, hj, e⟩ := mem_getD (d := []) hx
          rw [← e]; exact valsOk_iff.1 (vOk_iff.1 (HJ.out j hj)).2
        · show lv.length = pw (hn : Int)
          have := HNP.out; omega
      · intro hv
        have g := good_of hv
        have G : lv.length = pw (hn : Int) := g.ll
        exact ⟨by rw [G, HNP.out], valsOk_iff.2 g.lv⟩
end Go.Proofs.YtikfeemmjfoffaaGreatDoor

/- Trees: all values (the program), Eval and Values. -/
set_option linter.unusedVariables false
set_option linter.unusedSimpArgs false
namespace Go.Proofs.YtikfeemmjfoffaaGreatDoor
open Go.RowKit

theorem make_intsW (n : Nat) (hn : n ≤ 35184372088832) (W : World) :
    (Instr.makeSlice 24 (.int .i64 (n : Int)) (.int .i64 (n : Int))).run Tryz.prog W = .ok (.slice (some ⟨W.heap.size, 0, none⟩) n n) (W.alloc (.cells (ints (List.replicate n 0)).toArray 3)) := by
  have h := run_make_row' (P := Tryz.prog) 24 3 (.int .i64 0) 8 Tryz.underlying24 info3W rfl .i64 .i64 n (by omega) (by omega) W
  rw [made_list] at h
  simpa [ints] using h

theorem row_own {w : World} {B n : Nat} {e : TypeId} {v : Value} {l : List Value} (h : w.ownsRow B e 1 v n l) (hn : n ≠ 0) : ∃ g cap rest, v = .slice (some ⟨g, 0, none⟩) n cap ∧ B ≤ g ∧ Own w g e (l ++ rest) ∧ n ≤ cap ∧ cap ≤ maxLen ∧ (l ++ rest).length = cap ∧ l.length = n := by
  obtain ⟨h1, h2⟩ := h
  rcases h2 with ⟨_, h0⟩ | ⟨g, cap, cur, rfl, hB, hh, hc, hm, hs, ht⟩
  · exact absurd h0 hn
  · refine ⟨g, cap, cur.toList.drop n, rfl, hB, ?_, hc, hm, ?_, by omega⟩
    · rw [Nat.mul_one] at ht
      unfold Own
      rw [← ht, List.take_append_drop]
      exact hh
    · rw [Nat.mul_one] at ht hs
      rw [← ht, List.take_append_drop, Array.length_toList, hs]
theorem own_row {w : World} {B n g cap : Nat} {e : TypeId} {l rest : List Value} (h : Own w g e (l ++ rest)) (hB : B ≤ g) (h1 : n ≤ cap) (h2 : cap ≤ maxLen) (h3 : (l ++ rest).length = cap) (h4 : l.length = n) : w.ownsRow B e 1 (.slice (some ⟨g, 0, none⟩) n cap) n l :=
  ⟨by omega, .inr ⟨g, cap, (l ++ rest).toArray, rfl, hB, h, h1, h2, by simp only [List.size_toArray]; omega, by rw [Nat.mul_one, List.toList_toArray, ← h4, List.take_left]⟩⟩
theorem Own.pre {w : World} {g : Nat} {e : TypeId} {l : List Int} {rest : List Value} (h : Own w g e (ints l ++ rest)) {j : Nat} (hj : j < l.length) : w.cell? ⟨g, j, none⟩ = some (.int .i64 (ia l j)) :=
  h.cell (by rw [List.getElem?_append_left (by simpa using hj)]; exact ints_get l j hj)
theorem Own.setPre {w : World} {g : Nat} {e : TypeId} {l : List Int} {rest : List Value} (h : Own w g e (ints l ++ rest)) {j : Nat} (hj : j < l.length) (v : Int) : Own (w.setCell ⟨g, j, none⟩ (.int .i64 v)) g e (ints (l.set j v) ++ rest) := by
  have := h.set j (.int .i64 v)
  rwa [List.set_append_left _ _ (by simpa using hj), ints_set] at this
theorem rowAt_length (t : Tr) (k : Nat) : (rowAt t k).length = t.tb.length + t.lv.length := by simp [rowAt]
theorem or_join {x2 y b z : Nat} (hy : 2 ^ b ∣ y) (hx : x2 < 2 ^ b) (hz : z = y + x2) (hl : z < 2 ^ 62) (hb : b ≤ 62) : bits .or .i64 (y : Int) (x2 : Int) = (z : Int) := by
  have hp : 2 ^ b ≤ 2 ^ 62 := Nat.pow_le_pow_right (by omega) hb
  rw [bits_join .i64 62 (by decide) (fun m h0 h1 => IntWalk.i64_in m (by omega)) b (y : Int) (x2 : Int) (by omega) (by
    obtain ⟨q, rfl⟩ := hy
    rw [show ((2 ^ b * q : Nat) : Int) = (2 : Int) ^ b * (q : Int) by simp]
    exact Int.mul_emod_right _ _) (by exact_mod_cast (by omega : y < 2 ^ 62)) (by omega) (by exact_mod_cast hx) (by exact_mod_cast (by omega : x2 < 2 ^ 62)), hz]
  simp

/-- One step: from the row that is right behind j to the row that is right from j on. -/
structure StepN (t : Tr) (j n2 n3 n4 x1 x2 y z : Nat) : Prop where
  e3 : ia (rowAt t (j + 1)) n3 = x1
  e4 : ia (rowAt t (j + 1)) n4 = x2
  l3 : n3 < t.tb.length + t.lv.length
  l4 : n4 < t.tb.length + t.lv.length
  hx1 : x1 < 64
  hx2 : x2 < 64
  hz : z < (t.tb.getD j []).length
  ev : ia (t.tb.getD j []) z = valW t j
  m1 : IntKind.i64.wrap (2 * (j : Int)) = (n2 : Int)
  m2 : IntKind.i64.wrap ((n2 : Int) + 1) = (n3 : Int)
  m3 : IntKind.i64.wrap ((n2 : Int) + 2) = (n4 : Int)
theorem stepN {t : Tr} (g : Good t) {j : Nat} (hj : j < t.tb.length) : ∃ (bn n2 n3 n4 x1 x2 y z : Nat), t.b = bn ∧ bn ≤ 6 ∧ StepN t j n2 n3 n4 x1 x2 y z ∧ IntKind.i64.wrap ((x1 : Int) * 2 ^ bn) = (y : Int) ∧ bits .or .i64 (y : Int) (x2 : Int) = (z : Int) := by
  have h63 := g.tb64
  have hll : t.lv.length = t.tb.length + 1 := by have := g.ll; have := g.tl; have := pw_pos t.h; omega
  obtain ⟨bn, hb⟩ : ∃ bn : Nat, t.b = bn := ⟨t.b.toNat, by have := g.b1; omega⟩
  have hb6 : bn ≤ 6 := by have := g.b6; omega
  have r1 := g.range' (n := 2 * j + 1) (by omega)
  have r2 := g.range' (n := 2 * j + 2) (by omega)
  have hp := pw_le (b := t.b) g.b6
  obtain ⟨x1, e1⟩ : ∃ x : Nat, valW t (2 * j + 1) = x := ⟨(valW t (2 * j + 1)).toNat, by omega⟩
  obtain ⟨x2, e2⟩ : ∃ x : Nat, valW t (2 * j + 2) = x := ⟨(valW t (2 * j + 2)).toNat, by omega⟩
  have hat := at_lt (b := t.b) (by omega) r1 r2
  rw [e1, e2] at hat
  have epw : pw t.b = 2 ^ bn := by rw [hb]; rfl
  obtain ⟨y, hy⟩ : ∃ y : Nat, y = x1 * 2 ^ bn := ⟨_, rfl⟩
  have ey : (x1 : Int) * (pw t.b : Int) = (y : Int) := by rw [epw, hy]; simp
  have hw := valW_node hj
  rw [e1, e2, ey, show ((y : Int) + (x2 : Int)).toNat = y + x2 by omega] at hw
  rw [ey] at hat
  have hp2 : pw (2 * t.b) ≤ 4096 := by
    unfold pw
    exact Nat.pow_le_pow_right (n := 2) (by omega) (by omega : (2 * t.b).toNat ≤ 12)
  have hlen : y + x2 < (t.tb.getD j []).length := by rw [g.tab hj]; omega
  refine ⟨bn, 2 * j, 2 * j + 1, 2 * j + 2, x1, x2, y, y + x2, hb, hb6, ⟨?_, ?_, by omega, by omega, by omega, by omega, hlen, hw.symm, (w_two rfl (by omega)).2, (w_one rfl (by omega)).2, (w_two' rfl (by omega)).2⟩, (shl_mul hy (by omega)).2, ?_⟩
  · rw [← e1]; exact rowAt_get (by omega) (by omega)
  · rw [← e2]; exact rowAt_get (by omega) (by omega)
  · exact or_join (b := bn) (by rw [hy]; exact Nat.dvd_mul_left _ _) (by rw [← epw]; omega) rfl (by omega) (by omega)

set_option maxRecDepth 100000 in
set_option maxHeartbeats 1000000 in
theorem all38_any (t : Tr) (g : Good t) (A : Option Addr) (c : Nat) (T : Option Addr) (d : Nat) (w : World) (hA : Rd w A (ints t.lv)) (hT : RT w T t.tb) :
    Calls Tryz.prog 45 #[trV t A c T d] w (RowPost (valsW t (t.tb.length + t.lv.length)) w) := by
  have h63 := g.tb64; have h64 := g.lv64
  have hl1 : 1 ≤ t.lv.length := by have := g.ll; have := pw_pos t.h; omega
  have o0 := Own.new w 27 [.int .i64 t.h, .int .i64 t.b, .slice A t.lv.length c, .slice T t.tb.length d]
  obtain ⟨W0, hW0⟩ : ∃ x, x = w.alloc (.cells #[.int .i64 t.h, .int .i64 t.b, .slice A t.lv.length c, .slice T t.tb.length d] 27) := ⟨_, rfl⟩
  have K0 : Kept w W0 := by rw [hW0]; exact kept_alloc (kept_refl w) _
  have S0 : W0.heap.size = w.heap.size + 1 := by rw [hW0]; simp
  have q0 := o0.cell (j := 0) rfl; have q1 := o0.cell (j := 1) rfl; have q2 := o0.cell (j := 2) rfl; have q3 := o0.cell (j := 3) rfl
  have hmk := make_intsW t.tb.length (by omega)
  obtain ⟨ba, oa, rfl, _⟩ := hA.int (k := 0) hl1
  have HA := Lib.hid hA; have HT := Lib.hid hT; have HG := Lib.hid g
  have V0 := rowAt_start t; have V1 := rowAt_end t
  have HV := Lib.hid (And.intro V0 V1)
  rw [← hW0] at q0 q1 q2 q3 o0
  have HS := Lib.hid S0
  clear hA hT g V0 V1 S0
  go_enter Tryz.func45, Tryz.ntmps45
  go_upto_region 2 with (fail)
  rw [← hW0]; clear hW0
  refine region_x (fun w' => Kept W0 w') [] (by kernel_rfl) (kept_drew (kept_refl _)) (fun hHeld => ?_)
  refine x_take (i := 0) (oi := { dst := some 9, op := Op.move (Operand.tmp 3), type := 3, pos := "tree.go:36", after := #[], guard := none }) (v := ?_) rfl (by kernel_rfl) (by kernel_rfl) (by kernel_rfl) (by kernel_rfl) (by kernel_rfl) (fun _ _ _ h => h) (Or.inl ⟨rfl, ?_⟩) (by assumption) ?_
  rotate_left
  · (intro w' hSw; replace q0 := kept_cell hSw q0; replace q1 := kept_cell hSw q1; replace q2 := kept_cell hSw q2; replace q3 := kept_cell hSw q3; go_simp; try with_reducible rfl)
  try simp only [Act.put, List.setIfInBounds_toArray, List.set_cons_zero, List.set_cons_succ]
  refine x_take (i := 2) (oi := { dst := some 11, op := Op.fieldAddr 27 (Operand.tmp 1) 2, type := 0, pos := "tree.go:36", after := #[], guard := none }) (v := ?_) rfl (by kernel_rfl) (by kernel_rfl) (by kernel_rfl) (by kernel_rfl) (by kernel_rfl) (fun _ _ _ h => h) (Or.inl ⟨rfl, ?_⟩) (by assumption) ?_
  rotate_left
  · (intro w' hSw; replace q0 := kept_cell hSw q0; replace q1 := kept_cell hSw q1; replace q2 := kept_cell hSw q2; replace q3 := kept_cell hSw q3; go_simp; try with_reducible rfl)
  try simp only [Act.put, List.setIfInBounds_toArray, List.set_cons_zero, List.set_cons_succ]
  refine x_take (i := 3) (oi := { dst := some 12, op := Op.load 24 (Operand.tmp 11), type := 24, pos := "tree.go:36", after := #[{ on := 2, ground := Ground.data }], guard := none }) (v := ?_) rfl (by kernel_rfl) (by kernel_rfl) (by kernel_rfl) (by kernel_rfl) (by kernel_rfl) (fun _ _ _ h => h) (Or.inl ⟨rfl, ?_⟩) (by assumption) ?_
  rotate_left
  · (intro w' hSw; replace q0 := kept_cell hSw q0; replace q1 := kept_cell hSw q1; replace q2 := kept_cell hSw q2; replace q3 := kept_cell hSw q3; go_simp; try with_reducible rfl)
  try simp only [Act.put, List.setIfInBounds_toArray, List.set_cons_zero, List.set_cons_succ]
  refine x_one (i := 1) (o := { dst := some 10, op := Op.makeSlice 24 (Operand.tmp 9) (Operand.tmp 9), type := 24, pos := "tree.go:36", after := #[{ on := 0, ground := Ground.data }, { on := 0, ground := Ground.data }], guard := none }) (by kernel_rfl) rfl (fun K hK => ?_)
  (go_simp)
  refine hK.out _ _ ?_ (fun hHeld => ?_)
  · (try dsimp only); repeat (first | assumption | exact kept_refl _ | refine kept_drew ?_ | refine kept_alloc ?_ _ | refine kept_set ?_ (by omega) _)
  clear hK K
  try simp only [Act.put, List.setIfInBounds_toArray, List.set_cons_zero, List.set_cons_succ]
  refine x_one (i := 4) (o := { dst := some 13, op := Op.call { callee := Callee.builtin Builtin.append, args := #[Operand.tmp 10, Operand.tmp 12], argTypes := #[24, 24] }, type := 24, pos := "tree.go:36", after := #[{ on := 1, ground := Ground.data }, { on := 3, ground := Ground.data }], guard := none }) (by kernel_rfl) rfl (fun K hK => ?_)
  (refine step_grow rfl (.tmp 10) (.tmp 12) 24 rfl 3 (.int .i64 0) 1 8 Tryz.underlying24 info3W rfl (by omega) W0.heap.size 0 t.tb.length (ints (List.replicate t.tb.length 0)) rfl (by simp) (Own.new W0.drew 3 (ints (List.replicate t.tb.length 0))).rd ⟨ba, oa, none⟩ t.lv.length c (ints t.lv) rfl (by simp) (news_rd (HA.out.kept (kept_trans K0 hHeld))) (one_ints _) hl1 (by omega) (by omega) ?_; intro v4 w4 hr4 k4; have KK4 : Kept W0 w4 := kept_trans hHeld k4)
  refine hK.out _ _ ?_ (fun hHeld => ?_)
  · (try dsimp only); repeat (first | assumption | exact kept_refl _ | refine kept_drew ?_ | refine kept_alloc ?_ _ | refine kept_set ?_ (by omega) _)
  clear hK K
  try simp only [Act.put, List.setIfInBounds_toArray, List.set_cons_zero, List.set_cons_succ]
  refine x_take (i := 5) (oi := { dst := some 4, op := Op.assign (Operand.tmp 13), type := 24, pos := "tree.go:36", after := #[{ on := 4, ground := Ground.data }, { on := 4, ground := Ground.chain }, { on := 0, ground := Ground.phase }, { on := 1, ground := Ground.phase }, { on := 2, ground := Ground.phase }, { on := 3, ground := Ground.phase }, { on := 4, ground := Ground.phase }], guard := none }) (v := ?_) rfl (by kernel_rfl) (by kernel_rfl) (by kernel_rfl) (by kernel_rfl) (by kernel_rfl) (fun _ _ _ h => h) (Or.inl ⟨rfl, ?_⟩) (by assumption) ?_
  rotate_left
  · (intro w' hSw; replace q0 := kept_cell hSw q0; replace q1 := kept_cell hSw q1; replace q2 := kept_cell hSw q2; replace q3 := kept_cell hSw q3; go_simp; try with_reducible rfl)
  try simp only [Act.put, List.setIfInBounds_toArray, List.set_cons_zero, List.set_cons_succ]
  refine x_done (by kernel_rfl) ?_ _
  rw [ints_append, ← HV.out.1] at hr4
  obtain ⟨gb, cap, rest, rfl, hgb, og, hc1, hc2, hc3, hc4⟩ := row_own hr4 (by omega)
  have hgw : w.heap.size + 1 ≤ gb := by have := HS.out; simp at hgb; omega
  have HC3 := Lib.hid hc3
  clear hmk hr4 k4 hgb hc3 hc4 hHeld
  have kw := kept_trans K0 KK4
  have o4 := o0.kept KK4
  clear q0 q1 q2 q3 o0
  go_wp2_with fail
  go_loopg [5] t.tb.length (fun g' s5 wr => ∃ k : Nat, k ≤ t.tb.length ∧ g' = k ∧ s5 = .int .i64 ((k : Int) - 1) ∧ Kept w wr ∧ Own wr w.heap.size 27 [.int .i64 t.h, .int .i64 t.b, .slice (some ⟨ba, oa, none⟩) t.lv.length c, .slice T t.tb.length d] ∧ Own wr gb 3 (ints (rowAt t k) ++ rest))
  case atStart => exact ⟨t.tb.length, by omega, rfl, by first | rfl | go_num, kw, o4, og⟩
  case round =>
    clear kw o4 og
    obtain ⟨k, hk, hgk, hs5, k1, o0, og⟩ := hrel
    obtain rfl : k = gk := hgk.symm
    have q0 := o0.cell (j := 0) rfl; have q1 := o0.cell (j := 1) rfl; have q2 := o0.cell (j := 2) rfl; have q3 := o0.cell (j := 3) rfl
    by_cases hlt : 0 < k
    · obtain ⟨j, rfl⟩ : ∃ j, k = j + 1 := ⟨k - 1, by omega⟩
      rw [show ((j + 1 : Nat) : Int) - 1 = (j : Int) by omega] at hs5
      subst hs5
      obtain ⟨bn, n2, n3, n4, x1, x2, y, z, hb, hb6, st, s1, s3⟩ := stepN HG.out (j := j) (by omega)
      obtain ⟨e3, e4, l3, l4, hx1, hx2, hz, ev, m1, m2, m3⟩ := st
      obtain ⟨tb1, toff, A1, c1, rfl, t0, r1, l1⟩ := (HT.out.kept k1) j (by omega)
      obtain ⟨L, hL⟩ : ∃ L, L = t.tb.getD j [] := ⟨_, rfl⟩
      rw [← hL] at t0 r1 l1 hz ev
      obtain ⟨b1, f1, rfl, h1⟩ := r1.int hz
      have a0 := h1 z hz
      rw [ev] at a0
      have y3 := og.pre (j := n3) (by rw [rowAt_length]; exact l3)
      have y4 := og.pre (j := n4) (by rw [rowAt_length]; exact l4)
      rw [e3] at y3; rw [e4] at y4
      have hjl : j < t.tb.length + t.lv.length := by omega
      have hjt : j < t.tb.length := by omega
      have i3 : (n3 : Int) < (t.tb.length : Int) + (t.lv.length : Int) := by omega
      have i4 : (n4 : Int) < (t.tb.length : Int) + (t.lv.length : Int) := by omega
      have i5 : (j : Int) < (t.tb.length : Int) + (t.lv.length : Int) := by omega
      have fz : wr.frozen? ⟨gb, j, none⟩ = false := og.frozen j
      have y5 := og.pre (j := j) (by rw [rowAt_length]; exact hjl)
      rw [hb] at q1
      have HB := Lib.hid hb
      have hbg : wr.heap.size = wr.heap.size := rfl
      have hgs := og.lt
      clear h1 r1 hL e3 e4 ev hb l1
      go_wp2_with fail
      refine region_x (fun w' => Kept wr w') [26] (by kernel_rfl) (kept_drew (kept_refl _)) (fun hHeld => ?_)
      refine x_take (i := 0) (oi := { dst := some 20, op := Op.move (Operand.tmp 4), type := 24, pos := "tree.go:38", after := #[], guard := none }) (v := ?_) rfl (by kernel_rfl) (by kernel_rfl) (by kernel_rfl) (by kernel_rfl) (by kernel_rfl) (fun _ _ _ h => h) (Or.inl ⟨rfl, ?_⟩) (by assumption) ?_
      rotate_left
      · (intro w' hSw; replace q0 := kept_cell hSw q0; replace q1 := kept_cell hSw q1; replace q2 := kept_cell hSw q2; replace q3 := kept_cell hSw q3; replace t0 := kept_cell hSw t0; replace a0 := kept_cell hSw a0; replace y3 := kept_cell hSw y3; replace y4 := kept_cell hSw y4; replace y5 := kept_cell hSw y5; go_simp; try with_reducible rfl)
      try simp only [Act.put, List.setIfInBounds_toArray, List.set_cons_zero, List.set_cons_succ]
      refine x_take (i := 1) (oi := { dst := some 21, op := Op.move (Operand.tmp 5), type := 3, pos := "tree.go:38", after := #[], guard := none }) (v := ?_) rfl (by kernel_rfl) (by kernel_rfl) (by kernel_rfl) (by kernel_rfl) (by kernel_rfl) (fun _ _ _ h => h) (Or.inl ⟨rfl, ?_⟩) (by assumption) ?_
      rotate_left
      · (intro w' hSw; replace q0 := kept_cell hSw q0; replace q1 := kept_cell hSw q1; replace q2 := kept_cell hSw q2; replace q3 := kept_cell hSw q3; replace t0 := kept_cell hSw t0; replace a0 := kept_cell hSw a0; replace y3 := kept_cell hSw y3; replace y4 := kept_cell hSw y4; replace y5 := kept_cell hSw y5; go_simp; try with_reducible rfl)
      try simp only [Act.put, List.setIfInBounds_toArray, List.set_cons_zero, List.set_cons_succ]
      refine x_take (i := 2) (oi := { dst := some 22, op := Op.fieldAddr 27 (Operand.tmp 1) 3, type := 0, pos := "tree.go:38", after := #[], guard := none }) (v := ?_) rfl (by kernel_rfl) (by kernel_rfl) (by kernel_rfl) (by kernel_rfl) (by kernel_rfl) (fun _ _ _ h => h) (Or.inl ⟨rfl, ?_⟩) (by assumption) ?_
      rotate_left
      · (intro w' hSw; replace q0 := kept_cell hSw q0; replace q1 := kept_cell hSw q1; replace q2 := kept_cell hSw q2; replace q3 := kept_cell hSw q3; replace t0 := kept_cell hSw t0; replace a0 := kept_cell hSw a0; replace y3 := kept_cell hSw y3; replace y4 := kept_cell hSw y4; replace y5 := kept_cell hSw y5; go_simp; try with_reducible rfl)
      try simp only [Act.put, List.setIfInBounds_toArray, List.set_cons_zero, List.set_cons_succ]
      refine x_take (i := 3) (oi := { dst := some 23, op := Op.load 25 (Operand.tmp 22), type := 25, pos := "tree.go:38", after := #[{ on := 2, ground := Ground.data }], guard := none }) (v := ?_) rfl (by kernel_rfl) (by kernel_rfl) (by kernel_rfl) (by kernel_rfl) (by kernel_rfl) (fun _ _ _ h => h) (Or.inl ⟨rfl, ?_⟩) (by assumption) ?_
      rotate_left
      · (intro w' hSw; replace q0 := kept_cell hSw q0; replace q1 := kept_cell hSw q1; replace q2 := kept_cell hSw q2; replace q3 := kept_cell hSw q3; replace t0 := kept_cell hSw t0; replace a0 := kept_cell hSw a0; replace y3 := kept_cell hSw y3; replace y4 := kept_cell hSw y4; replace y5 := kept_cell hSw y5; go_simp; try with_reducible rfl)
      try simp only [Act.put, List.setIfInBounds_toArray, List.set_cons_zero, List.set_cons_succ]
      refine x_take (i := 4) (oi := { dst := some 24, op := Op.move (Operand.tmp 5), type := 3, pos := "tree.go:38", after := #[], guard := none }) (v := ?_) rfl (by kernel_rfl) (by kernel_rfl) (by kernel_rfl) (by kernel_rfl) (by kernel_rfl) (fun _ _ _ h => h) (Or.inl ⟨rfl, ?_⟩) (by assumption) ?_
      rotate_left
      · (intro w' hSw; replace q0 := kept_cell hSw q0; replace q1 := kept_cell hSw q1; replace q2 := kept_cell hSw q2; replace q3 := kept_cell hSw q3; replace t0 := kept_cell hSw t0; replace a0 := kept_cell hSw a0; replace y3 := kept_cell hSw y3; replace y4 := kept_cell hSw y4; replace y5 := kept_cell hSw y5; go_simp; try with_reducible rfl)
      try simp only [Act.put, List.setIfInBounds_toArray, List.set_cons_zero, List.set_cons_succ]
      refine x_take (i := 5) (oi := { dst := some 25, op := Op.indexAddr 25 (Operand.tmp 23) (Operand.tmp 24), type := 0, pos := "tree.go:38", after := #[{ on := 3, ground := Ground.data }, { on := 4, ground := Ground.data }], guard := none }) (v := ?_) rfl (by kernel_rfl) (by kernel_rfl) (by kernel_rfl) (by kernel_rfl) (by kernel_rfl) (fun _ _ _ h => h) (Or.inl ⟨rfl, ?_⟩) (by assumption) ?_
      rotate_left
      · (intro w' hSw; replace q0 := kept_cell hSw q0; replace q1 := kept_cell hSw q1; replace q2 := kept_cell hSw q2; replace q3 := kept_cell hSw q3; replace t0 := kept_cell hSw t0; replace a0 := kept_cell hSw a0; replace y3 := kept_cell hSw y3; replace y4 := kept_cell hSw y4; replace y5 := kept_cell hSw y5; go_simp; try with_reducible rfl)
      try simp only [Act.put, List.setIfInBounds_toArray, List.set_cons_zero, List.set_cons_succ]
      refine x_take (i := 6) (oi := { dst := some 26, op := Op.load 24 (Operand.tmp 25), type := 24, pos := "tree.go:38", after := #[{ on := 5, ground := Ground.data }], guard := none }) (v := ?_) rfl (by kernel_rfl) (by kernel_rfl) (by kernel_rfl) (by kernel_rfl) (by kernel_rfl) (fun _ _ _ h => h) (Or.inl ⟨rfl, ?_⟩) (by assumption) ?_
      rotate_left
      · (intro w' hSw; replace q0 := kept_cell hSw q0; replace q1 := kept_cell hSw q1; replace q2 := kept_cell hSw q2; replace q3 := kept_cell hSw q3; replace t0 := kept_cell hSw t0; replace a0 := kept_cell hSw a0; replace y3 := kept_cell hSw y3; replace y4 := kept_cell hSw y4; replace y5 := kept_cell hSw y5; go_simp; try with_reducible rfl)
      try simp only [Act.put, List.setIfInBounds_toArray, List.set_cons_zero, List.set_cons_succ]
      refine x_take (i := 7) (oi := { dst := some 27, op := Op.move (Operand.tmp 4), type := 24, pos := "tree.go:38", after := #[], guard := none }) (v := ?_) rfl (by kernel_rfl) (by kernel_rfl) (by kernel_rfl) (by kernel_rfl) (by kernel_rfl) (fun _ _ _ h => h) (Or.inl ⟨rfl, ?_⟩) (by assumption) ?_
      rotate_left
      · (intro w' hSw; replace q0 := kept_cell hSw q0; replace q1 := kept_cell hSw q1; replace q2 := kept_cell hSw q2; replace q3 := kept_cell hSw q3; replace t0 := kept_cell hSw t0; replace a0 := kept_cell hSw a0; replace y3 := kept_cell hSw y3; replace y4 := kept_cell hSw y4; replace y5 := kept_cell hSw y5; go_simp; try with_reducible rfl)
      try simp only [Act.put, List.setIfInBounds_toArray, List.set_cons_zero, List.set_cons_succ]
      refine x_take (i := 8) (oi := { dst := some 28, op := Op.move (Operand.tmp 5), type := 3, pos := "tree.go:38", after := #[], guard := none }) (v := ?_) rfl (by kernel_rfl) (by kernel_rfl) (by kernel_rfl) (by kernel_rfl) (by kernel_rfl) (fun _ _ _ h => h) (Or.inl ⟨rfl, ?_⟩) (by assumption) ?_
      rotate_left
      · (intro w' hSw; replace q0 := kept_cell hSw q0; replace q1 := kept_cell hSw q1; replace q2 := kept_cell hSw q2; replace q3 := kept_cell hSw q3; replace t0 := kept_cell hSw t0; replace a0 := kept_cell hSw a0; replace y3 := kept_cell hSw y3; replace y4 := kept_cell hSw y4; replace y5 := kept_cell hSw y5; go_simp; try with_reducible rfl)
      try simp only [Act.put, List.setIfInBounds_toArray, List.set_cons_zero, List.set_cons_succ]
      refine x_take (i := 9) (oi := { dst := some 29, op := Op.binOp BinOp.mul 3 (Operand.const (Value.int IntKind.i64 2)) (Operand.tmp 28) 3, type := 3, pos := "tree.go:38", after := #[{ on := 8, ground := Ground.data }], guard := none }) (v := ?_) rfl (by kernel_rfl) (by kernel_rfl) (by kernel_rfl) (by kernel_rfl) (by kernel_rfl) (fun _ _ _ h => h) (Or.inl ⟨rfl, ?_⟩) (by assumption) ?_
      rotate_left
      · (intro w' hSw; replace q0 := kept_cell hSw q0; replace q1 := kept_cell hSw q1; replace q2 := kept_cell hSw q2; replace q3 := kept_cell hSw q3; replace t0 := kept_cell hSw t0; replace a0 := kept_cell hSw a0; replace y3 := kept_cell hSw y3; replace y4 := kept_cell hSw y4; replace y5 := kept_cell hSw y5; go_simp; try with_reducible rfl)
      try simp only [Act.put, List.setIfInBounds_toArray, List.set_cons_zero, List.set_cons_succ]
      refine x_take (i := 10) (oi := { dst := some 30, op := Op.binOp BinOp.add 3 (Operand.tmp 29) (Operand.const (Value.int IntKind.i64 1)) 3, type := 3, pos := "tree.go:38", after := #[{ on := 9, ground := Ground.data }], guard := none }) (v := ?_) rfl (by kernel_rfl) (by kernel_rfl) (by kernel_rfl) (by kernel_rfl) (by kernel_rfl) (fun _ _ _ h => h) (Or.inl ⟨rfl, ?_⟩) (by assumption) ?_
      rotate_left
      · (intro w' hSw; replace q0 := kept_cell hSw q0; replace q1 := kept_cell hSw q1; replace q2 := kept_cell hSw q2; replace q3 := kept_cell hSw q3; replace t0 := kept_cell hSw t0; replace a0 := kept_cell hSw a0; replace y3 := kept_cell hSw y3; replace y4 := kept_cell hSw y4; replace y5 := kept_cell hSw y5; go_simp; try with_reducible rfl)
      try simp only [Act.put, List.setIfInBounds_toArray, List.set_cons_zero, List.set_cons_succ]
      refine x_take (i := 11) (oi := { dst := some 31, op := Op.indexAddr 24 (Operand.tmp 27) (Operand.tmp 30), type := 0, pos := "tree.go:38", after := #[{ on := 7, ground := Ground.data }, { on := 10, ground := Ground.data }], guard := none }) (v := ?_) rfl (by kernel_rfl) (by kernel_rfl) (by kernel_rfl) (by kernel_rfl) (by kernel_rfl) (fun _ _ _ h => h) (Or.inl ⟨rfl, ?_⟩) (by assumption) ?_
      rotate_left
      · (intro w' hSw; replace q0 := kept_cell hSw q0; replace q1 := kept_cell hSw q1; replace q2 := kept_cell hSw q2; replace q3 := kept_cell hSw q3; replace t0 := kept_cell hSw t0; replace a0 := kept_cell hSw a0; replace y3 := kept_cell hSw y3; replace y4 := kept_cell hSw y4; replace y5 := kept_cell hSw y5; go_simp; try with_reducible rfl)
      try simp only [Act.put, List.setIfInBounds_toArray, List.set_cons_zero, List.set_cons_succ]
      refine x_take (i := 12) (oi := { dst := some 32, op := Op.load 3 (Operand.tmp 31), type := 3, pos := "tree.go:38", after := #[{ on := 11, ground := Ground.data }], guard := none }) (v := ?_) rfl (by kernel_rfl) (by kernel_rfl) (by kernel_rfl) (by kernel_rfl) (by kernel_rfl) (fun _ _ _ h => h) (Or.inl ⟨rfl, ?_⟩) (by assumption) ?_
      rotate_left
      · (intro w' hSw; replace q0 := kept_cell hSw q0; replace q1 := kept_cell hSw q1; replace q2 := kept_cell hSw q2; replace q3 := kept_cell hSw q3; replace t0 := kept_cell hSw t0; replace a0 := kept_cell hSw a0; replace y3 := kept_cell hSw y3; replace y4 := kept_cell hSw y4; replace y5 := kept_cell hSw y5; go_simp; try with_reducible rfl)
      try simp only [Act.put, List.setIfInBounds_toArray, List.set_cons_zero, List.set_cons_succ]
      refine x_take (i := 13) (oi := { dst := some 33, op := Op.fieldAddr 27 (Operand.tmp 1) 1, type := 0, pos := "tree.go:38", after := #[], guard := none }) (v := ?_) rfl (by kernel_rfl) (by kernel_rfl) (by kernel_rfl) (by kernel_rfl) (by kernel_rfl) (fun _ _ _ h => h) (Or.inl ⟨rfl, ?_⟩) (by assumption) ?_
      rotate_left
      · (intro w' hSw; replace q0 := kept_cell hSw q0; replace q1 := kept_cell hSw q1; replace q2 := kept_cell hSw q2; replace q3 := kept_cell hSw q3; replace t0 := kept_cell hSw t0; replace a0 := kept_cell hSw a0; replace y3 := kept_cell hSw y3; replace y4 := kept_cell hSw y4; replace y5 := kept_cell hSw y5; go_simp; try with_reducible rfl)
      try simp only [Act.put, List.setIfInBounds_toArray, List.set_cons_zero, List.set_cons_succ]
      refine x_take (i := 14) (oi := { dst := some 34, op := Op.load 3 (Operand.tmp 33), type := 3, pos := "tree.go:38", after := #[{ on := 13, ground := Ground.data }], guard := none }) (v := ?_) rfl (by kernel_rfl) (by kernel_rfl) (by kernel_rfl) (by kernel_rfl) (by kernel_rfl) (fun _ _ _ h => h) (Or.inl ⟨rfl, ?_⟩) (by assumption) ?_
      rotate_left
      · (intro w' hSw; replace q0 := kept_cell hSw q0; replace q1 := kept_cell hSw q1; replace q2 := kept_cell hSw q2; replace q3 := kept_cell hSw q3; replace t0 := kept_cell hSw t0; replace a0 := kept_cell hSw a0; replace y3 := kept_cell hSw y3; replace y4 := kept_cell hSw y4; replace y5 := kept_cell hSw y5; go_simp; try with_reducible rfl)
      try simp only [Act.put, List.setIfInBounds_toArray, List.set_cons_zero, List.set_cons_succ]
      refine x_take (i := 15) (oi := { dst := some 35, op := Op.binOp BinOp.shl 3 (Operand.tmp 32) (Operand.tmp 34) 3, type := 3, pos := "tree.go:38", after := #[{ on := 12, ground := Ground.data }, { on := 14, ground := Ground.data }], guard := none }) (v := ?_) rfl (by kernel_rfl) (by kernel_rfl) (by kernel_rfl) (by kernel_rfl) (by kernel_rfl) (fun _ _ _ h => h) (Or.inl ⟨rfl, ?_⟩) (by assumption) ?_
      rotate_left
      · (intro w' hSw; replace q0 := kept_cell hSw q0; replace q1 := kept_cell hSw q1; replace q2 := kept_cell hSw q2; replace q3 := kept_cell hSw q3; replace t0 := kept_cell hSw t0; replace a0 := kept_cell hSw a0; replace y3 := kept_cell hSw y3; replace y4 := kept_cell hSw y4; replace y5 := kept_cell hSw y5; go_simp; try with_reducible rfl)
      try simp only [Act.put, List.setIfInBounds_toArray, List.set_cons_zero, List.set_cons_succ]
      refine x_take (i := 16) (oi := { dst := some 36, op := Op.move (Operand.tmp 4), type := 24, pos := "tree.go:38", after := #[], guard := none }) (v := ?_) rfl (by kernel_rfl) (by kernel_rfl) (by kernel_rfl) (by kernel_rfl) (by kernel_rfl) (fun _ _ _ h => h) (Or.inl ⟨rfl, ?_⟩) (by assumption) ?_
      rotate_left
      · (intro w' hSw; replace q0 := kept_cell hSw q0; replace q1 := kept_cell hSw q1; replace q2 := kept_cell hSw q2; replace q3 := kept_cell hSw q3; replace t0 := kept_cell hSw t0; replace a0 := kept_cell hSw a0; replace y3 := kept_cell hSw y3; replace y4 := kept_cell hSw y4; replace y5 := kept_cell hSw y5; go_simp; try with_reducible rfl)
      try simp only [Act.put, List.setIfInBounds_toArray, List.set_cons_zero, List.set_cons_succ]
      refine x_take (i := 17) (oi := { dst := some 37, op := Op.move (Operand.tmp 5), type := 3, pos := "tree.go:38", after := #[], guard := none }) (v := ?_) rfl (by kernel_rfl) (by kernel_rfl) (by kernel_rfl) (by kernel_rfl) (by kernel_rfl) (fun _ _ _ h => h) (Or.inl ⟨rfl, ?_⟩) (by assumption) ?_
      rotate_left
      · (intro w' hSw; replace q0 := kept_cell hSw q0; replace q1 := kept_cell hSw q1; replace q2 := kept_cell hSw q2; replace q3 := kept_cell hSw q3; replace t0 := kept_cell hSw t0; replace a0 := kept_cell hSw a0; replace y3 := kept_cell hSw y3; replace y4 := kept_cell hSw y4; replace y5 := kept_cell hSw y5; go_simp; try with_reducible rfl)
      try simp only [Act.put, List.setIfInBounds_toArray, List.set_cons_zero, List.set_cons_succ]
      refine x_take (i := 18) (oi := { dst := some 38, op := Op.binOp BinOp.mul 3 (Operand.const (Value.int IntKind.i64 2)) (Operand.tmp 37) 3, type := 3, pos := "tree.go:38", after := #[{ on := 17, ground := Ground.data }], guard := none }) (v := ?_) rfl (by kernel_rfl) (by kernel_rfl) (by kernel_rfl) (by kernel_rfl) (by kernel_rfl) (fun _ _ _ h => h) (Or.inl ⟨rfl, ?_⟩) (by assumption) ?_
      rotate_left
      · (intro w' hSw; replace q0 := kept_cell hSw q0; replace q1 := kept_cell hSw q1; replace q2 := kept_cell hSw q2; replace q3 := kept_cell hSw q3; replace t0 := kept_cell hSw t0; replace a0 := kept_cell hSw a0; replace y3 := kept_cell hSw y3; replace y4 := kept_cell hSw y4; replace y5 := kept_cell hSw y5; go_simp; try with_reducible rfl)
      try simp only [Act.put, List.setIfInBounds_toArray, List.set_cons_zero, List.set_cons_succ]
      refine x_take (i := 19) (oi := { dst := some 39, op := Op.binOp BinOp.add 3 (Operand.tmp 38) (Operand.const (Value.int IntKind.i64 2)) 3, type := 3, pos := "tree.go:38", after := #[{ on := 18, ground := Ground.data }], guard := none }) (v := ?_) rfl (by kernel_rfl) (by kernel_rfl) (by kernel_rfl) (by kernel_rfl) (by kernel_rfl) (fun _ _ _ h => h) (Or.inl ⟨rfl, ?_⟩) (by assumption) ?_
      rotate_left
      · (intro w' hSw; replace q0 := kept_cell hSw q0; replace q1 := kept_cell hSw q1; replace q2 := kept_cell hSw q2; replace q3 := kept_cell hSw q3; replace t0 := kept_cell hSw t0; replace a0 := kept_cell hSw a0; replace y3 := kept_cell hSw y3; replace y4 := kept_cell hSw y4; replace y5 := kept_cell hSw y5; go_simp; try with_reducible rfl)
      try simp only [Act.put, List.setIfInBounds_toArray, List.set_cons_zero, List.set_cons_succ]
      refine x_take (i := 20) (oi := { dst := some 40, op := Op.indexAddr 24 (Operand.tmp 36) (Operand.tmp 39), type := 0, pos := "tree.go:38", after := #[{ on := 16, ground := Ground.data }, { on := 19, ground := Ground.data }], guard := none }) (v := ?_) rfl (by kernel_rfl) (by kernel_rfl) (by kernel_rfl) (by kernel_rfl) (by kernel_rfl) (fun _ _ _ h => h) (Or.inl ⟨rfl, ?_⟩) (by assumption) ?_
      rotate_left
      · (intro w' hSw; replace q0 := kept_cell hSw q0; replace q1 := kept_cell hSw q1; replace q2 := kept_cell hSw q2; replace q3 := kept_cell hSw q3; replace t0 := kept_cell hSw t0; replace a0 := kept_cell hSw a0; replace y3 := kept_cell hSw y3; replace y4 := kept_cell hSw y4; replace y5 := kept_cell hSw y5; go_simp; try with_reducible rfl)
      try simp only [Act.put, List.setIfInBounds_toArray, List.set_cons_zero, List.set_cons_succ]
      refine x_take (i := 21) (oi := { dst := some 41, op := Op.load 3 (Operand.tmp 40), type := 3, pos := "tree.go:38", after := #[{ on := 20, ground := Ground.data }], guard := none }) (v := ?_) rfl (by kernel_rfl) (by kernel_rfl) (by kernel_rfl) (by kernel_rfl) (by kernel_rfl) (fun _ _ _ h => h) (Or.inl ⟨rfl, ?_⟩) (by assumption) ?_
      rotate_left
      · (intro w' hSw; replace q0 := kept_cell hSw q0; replace q1 := kept_cell hSw q1; replace q2 := kept_cell hSw q2; replace q3 := kept_cell hSw q3; replace t0 := kept_cell hSw t0; replace a0 := kept_cell hSw a0; replace y3 := kept_cell hSw y3; replace y4 := kept_cell hSw y4; replace y5 := kept_cell hSw y5; go_simp; try with_reducible rfl)
      try simp only [Act.put, List.setIfInBounds_toArray, List.set_cons_zero, List.set_cons_succ]
      refine x_take (i := 22) (oi := { dst := some 42, op := Op.binOp BinOp.or 3 (Operand.tmp 35) (Operand.tmp 41) 3, type := 3, pos := "tree.go:38", after := #[{ on := 15, ground := Ground.data }, { on := 21, ground := Ground.data }], guard := none }) (v := ?_) rfl (by kernel_rfl) (by kernel_rfl) (by kernel_rfl) (by kernel_rfl) (by kernel_rfl) (fun _ _ _ h => h) (Or.inl ⟨rfl, ?_⟩) (by assumption) ?_
      rotate_left
      · (intro w' hSw; replace q0 := kept_cell hSw q0; replace q1 := kept_cell hSw q1; replace q2 := kept_cell hSw q2; replace q3 := kept_cell hSw q3; replace t0 := kept_cell hSw t0; replace a0 := kept_cell hSw a0; replace y3 := kept_cell hSw y3; replace y4 := kept_cell hSw y4; replace y5 := kept_cell hSw y5; go_simp; try with_reducible rfl)
      try simp only [Act.put, List.setIfInBounds_toArray, List.set_cons_zero, List.set_cons_succ]
      refine x_take (i := 23) (oi := { dst := some 43, op := Op.indexAddr 24 (Operand.tmp 26) (Operand.tmp 42), type := 0, pos := "tree.go:38", after := #[{ on := 6, ground := Ground.data }, { on := 22, ground := Ground.data }], guard := none }) (v := ?_) rfl (by kernel_rfl) (by kernel_rfl) (by kernel_rfl) (by kernel_rfl) (by kernel_rfl) (fun _ _ _ h => h) (Or.inl ⟨rfl, ?_⟩) (by assumption) ?_
      rotate_left
      · (intro w' hSw; replace q0 := kept_cell hSw q0; replace q1 := kept_cell hSw q1; replace q2 := kept_cell hSw q2; replace q3 := kept_cell hSw q3; replace t0 := kept_cell hSw t0; replace a0 := kept_cell hSw a0; replace y3 := kept_cell hSw y3; replace y4 := kept_cell hSw y4; replace y5 := kept_cell hSw y5; go_simp; try with_reducible rfl)
      try simp only [Act.put, List.setIfInBounds_toArray, List.set_cons_zero, List.set_cons_succ]
      refine x_take (i := 24) (oi := { dst := some 44, op := Op.load 3 (Operand.tmp 43), type := 3, pos := "tree.go:38", after := #[{ on := 23, ground := Ground.data }], guard := none }) (v := ?_) rfl (by kernel_rfl) (by kernel_rfl) (by kernel_rfl) (by kernel_rfl) (by kernel_rfl) (fun _ _ _ h => h) (Or.inl ⟨rfl, ?_⟩) (by assumption) ?_
      rotate_left
      · (intro w' hSw; replace q0 := kept_cell hSw q0; replace q1 := kept_cell hSw q1; replace q2 := kept_cell hSw q2; replace q3 := kept_cell hSw q3; replace t0 := kept_cell hSw t0; replace a0 := kept_cell hSw a0; replace y3 := kept_cell hSw y3; replace y4 := kept_cell hSw y4; replace y5 := kept_cell hSw y5; go_simp; try with_reducible rfl)
      try simp only [Act.put, List.setIfInBounds_toArray, List.set_cons_zero, List.set_cons_succ]
      refine x_take (i := 25) (oi := { dst := some 45, op := Op.indexAddr 24 (Operand.tmp 20) (Operand.tmp 21), type := 0, pos := "tree.go:38", after := #[{ on := 0, ground := Ground.data }, { on := 1, ground := Ground.data }, { on := 0, ground := Ground.phase }, { on := 1, ground := Ground.phase }, { on := 2, ground := Ground.phase }, { on := 3, ground := Ground.phase }, { on := 4, ground := Ground.phase }, { on := 5, ground := Ground.phase }, { on := 6, ground := Ground.phase }, { on := 7, ground := Ground.phase }, { on := 8, ground := Ground.phase }, { on := 9, ground := Ground.phase }, { on := 10, ground := Ground.phase }, { on := 11, ground := Ground.phase }, { on := 12, ground := Ground.phase }, { on := 13, ground := Ground.phase }, { on := 14, ground := Ground.phase }, { on := 15, ground := Ground.phase }, { on := 16, ground := Ground.phase }, { on := 17, ground := Ground.phase }, { on := 18, ground := Ground.phase }, { on := 19, ground := Ground.phase }, { on := 20, ground := Ground.phase }, { on := 21, ground := Ground.phase }, { on := 22, ground := Ground.phase }, { on := 23, ground := Ground.phase }, { on := 24, ground := Ground.phase }], guard := none }) (v := ?_) rfl (by kernel_rfl) (by kernel_rfl) (by kernel_rfl) (by kernel_rfl) (by kernel_rfl) (fun _ _ _ h => h) (Or.inl ⟨rfl, ?_⟩) (by assumption) ?_
      rotate_left
      · (intro w' hSw; replace q0 := kept_cell hSw q0; replace q1 := kept_cell hSw q1; replace q2 := kept_cell hSw q2; replace q3 := kept_cell hSw q3; replace t0 := kept_cell hSw t0; replace a0 := kept_cell hSw a0; replace y3 := kept_cell hSw y3; replace y4 := kept_cell hSw y4; replace y5 := kept_cell hSw y5; go_simp; try with_reducible rfl)
      try simp only [Act.put, List.setIfInBounds_toArray, List.set_cons_zero, List.set_cons_succ]
      refine x_last (i := 26) (o := { dst := none, op := Op.store 3 (Operand.tmp 45) (Operand.tmp 44), type := 0, pos := "tree.go:38", after := #[{ on := 25, ground := Ground.data }, { on := 24, ground := Ground.data }, { on := 0, ground := Ground.phase }, { on := 1, ground := Ground.phase }, { on := 2, ground := Ground.phase }, { on := 3, ground := Ground.phase }, { on := 4, ground := Ground.phase }, { on := 5, ground := Ground.phase }, { on := 6, ground := Ground.phase }, { on := 7, ground := Ground.phase }, { on := 8, ground := Ground.phase }, { on := 9, ground := Ground.phase }, { on := 10, ground := Ground.phase }, { on := 11, ground := Ground.phase }, { on := 12, ground := Ground.phase }, { on := 13, ground := Ground.phase }, { on := 14, ground := Ground.phase }, { on := 15, ground := Ground.phase }, { on := 16, ground := Ground.phase }, { on := 17, ground := Ground.phase }, { on := 18, ground := Ground.phase }, { on := 19, ground := Ground.phase }, { on := 20, ground := Ground.phase }, { on := 21, ground := Ground.phase }, { on := 22, ground := Ground.phase }, { on := 23, ground := Ground.phase }, { on := 24, ground := Ground.phase }], guard := none }) (by kernel_rfl) rfl (by simp) (fun K hK => ?_)
      go_simp
      refine hK.out _ _ ?_
      clear hK K
      try simp only [Act.put, List.setIfInBounds_toArray, List.set_cons_zero, List.set_cons_succ]
      refine x_done (by kernel_rfl) ?_ _
      go_wp2_with fail
      go_roundg j
      case rel => exact ⟨j, by omega, rfl, rfl, by first | exact kept_set (kept_drew k1) (by omega) _ | exact kept_drew (kept_set k1 (by omega) _), by first | exact o0.drew.other (by show w.heap.size ≠ gb; omega) _ | exact (o0.other (by show w.heap.size ≠ gb; omega) _).drew, by rw [← rowAt_step]; first | exact og.drew.setPre (by rw [rowAt_length]; exact hjl) _ | exact (og.setPre (by rw [rowAt_length]; exact hjl) _).drew⟩
      case measure => omega
    · have : k = 0 := by omega
      subst this
      have hs' : u5 = .int .i64 (-1) := hs5
      subst hs'
      go_wp2_with fail
      go_ret
      exact ⟨_, rfl, by rw [valsW_length]; unfold valsW; rw [← HV.out.2]; exact own_row og (by omega) hc1 hc2 (by simpa [rowAt_length] using HC3.out) (by simp [rowAt_length]), k1⟩

theorem valsW_zero {t : Tr} {n : Nat} (h : 0 < n) : ia (valsW t n) 0 = valW t 0 := by
  unfold valsW ia
  rw [List.getD_eq_getElem?_getD]
  simp [h]

set_option maxRecDepth 100000 in
set_option maxHeartbeats 1000000 in
theorem eval16_yes (t : Tr) (hv : validT t = true) (A : Option Addr) (c : Nat) (T : Option Addr) (d : Nat) (w : World) (hA : Rd w A (ints t.lv)) (hT : RT w T t.tb) :
    Calls Tryz.prog 18 #[trV t A c T d] w fun e w' => e = .returned (.tuple #[.int .i64 (valW t 0), .int .i64 0]) ∧ Kept w w' := by
  have g := good_of hv
  have h63 := g.tb64; have h64 := g.lv64
  have hl1 : 1 ≤ t.lv.length := by have := g.ll; have := pw_pos t.h; omega
  have o0 := Own.new w 27 [.int .i64 t.h, .int .i64 t.b, .slice A t.lv.length c, .slice T t.tb.length d]
  have K0 := kept_alloc (kept_refl w) (.cells #[.int .i64 t.h, .int .i64 t.b, .slice A t.lv.length c, .slice T t.tb.length d] 27)
  have q0 := o0.cell (j := 0) rfl; have q1 := o0.cell (j := 1) rfl; have q2 := o0.cell (j := 2) rfl; have q3 := o0.cell (j := 3) rfl
  have C1 := valid18_any t.h t.b A c t.lv T d t.tb _ (hA.kept K0) (hT.kept K0) (by omega) (by omega)
  rw [show validT ⟨t.h, t.b, t.lv, t.tb⟩ = true from hv] at C1
  have C2 := Lib.hid fun (w' : World) (k : Kept w w') => all38_any t g A c T d w' (hA.kept k) (hT.kept k)
  have HV := Lib.hid hv
  clear hv g hA hT
  go_enter Tryz.func18, Tryz.ntmps18
  go_wp2_with (first | (go_at_call 44; ((with_reducible refine C1.mono ?_); rintro e w1 ⟨rfl, k1⟩; replace q0 := kept_cell k1 q0; replace q1 := kept_cell k1 q1; replace q2 := kept_cell k1 q2; replace q3 := kept_cell k1 q3; have kk := kept_trans K0 k1)) | (go_at_call 45; ((with_reducible refine (C2.out _ kk).mono ?_); rintro e w2 ⟨v, rfl, hr, k2⟩; obtain ⟨gb, cap, rest, rfl, _, og, hc1, _⟩ := row_own hr (by rw [valsW_length]; omega); rw [valsW_length] at hc1; have y0 := og.pre (j := 0) (by rw [valsW_length]; omega); rw [valsW_zero (by omega)] at y0; have i0 : (0 : Int) < (t.tb.length : Int) + (t.lv.length : Int) := by omega)))
  go_ret2
  exact ⟨rfl, kept_trans kk k2⟩
set_option maxRecDepth 100000 in
set_option maxHeartbeats 1000000 in
theorem eval16_no (t : Tr) (hv : validT t = false) (A : Option Addr) (c : Nat) (T : Option Addr) (d : Nat) (w : World) (hA : Rd w A (ints t.lv)) (hT : RT w T t.tb) (hl : t.lv.length ≤ 140737488355328) (ht : t.tb.length ≤ 140737488355328) :
    Calls Tryz.prog 18 #[trV t A c T d] w fun e w' => e = .returned (.tuple #[.int .i64 0, .int .i64 1]) ∧ Kept w w' := by
  have o0 := Own.new w 27 [.int .i64 t.h, .int .i64 t.b, .slice A t.lv.length c, .slice T t.tb.length d]
  have K0 := kept_alloc (kept_refl w) (.cells #[.int .i64 t.h, .int .i64 t.b, .slice A t.lv.length c, .slice T t.tb.length d] 27)
  have q0 := o0.cell (j := 0) rfl; have q1 := o0.cell (j := 1) rfl; have q2 := o0.cell (j := 2) rfl; have q3 := o0.cell (j := 3) rfl
  have C1 := valid18_any t.h t.b A c t.lv T d t.tb _ (hA.kept K0) (hT.kept K0) hl ht
  rw [show validT ⟨t.h, t.b, t.lv, t.tb⟩ = false from hv] at C1
  clear hv hA hT
  go_enter Tryz.func18, Tryz.ntmps18
  go_wp2_with (go_at_call 44; ((with_reducible refine C1.mono ?_); rintro e w1 ⟨rfl, k1⟩; have kk := kept_trans K0 k1))
  go_ret2
  exact ⟨rfl, kk⟩

def ValuesPost (l : List Int) (w : World) (e : Ending) (w' : World) : Prop :=
  ∃ v : Value, e = .returned (.tuple #[v, .int .i64 0]) ∧ w'.ownsRow w.heap.size 3 1 v l.length (ints l) ∧ Kept w w'
set_option maxRecDepth 100000 in
set_option maxHeartbeats 1000000 in
theorem values17_yes (t : Tr) (hv : validT t = true) (A : Option Addr) (c : Nat) (T : Option Addr) (d : Nat) (w : World) (hA : Rd w A (ints t.lv)) (hT : RT w T t.tb) :
    Calls Tryz.prog 17 #[trV t A c T d] w (ValuesPost (valsW t (t.tb.length + t.lv.length)) w) := by
  have g := good_of hv
  have h63 := g.tb64; have h64 := g.lv64
  have hl1 : 1 ≤ t.lv.length := by have := g.ll; have := pw_pos t.h; omega
  have o0 := Own.new w 27 [.int .i64 t.h, .int .i64 t.b, .slice A t.lv.length c, .slice T t.tb.length d]
  have K0 := kept_alloc (kept_refl w) (.cells #[.int .i64 t.h, .int .i64 t.b, .slice A t.lv.length c, .slice T t.tb.length d] 27)
  have q0 := o0.cell (j := 0) rfl; have q1 := o0.cell (j := 1) rfl; have q2 := o0.cell (j := 2) rfl; have q3 := o0.cell (j := 3) rfl
  have C1 := valid18_any t.h t.b A c t.lv T d t.tb _ (hA.kept K0) (hT.kept K0) (by omega) (by omega)
  rw [show validT ⟨t.h, t.b, t.lv, t.tb⟩ = true from hv] at C1
  have C2 := Lib.hid fun (w' : World) (k : Kept w w') => all38_any t g A c T d w' (hA.kept k) (hT.kept k)
  clear hv g hA hT
  go_enter Tryz.func17, Tryz.ntmps17
  go_wp2_with (first | (go_at_call 44; ((with_reducible refine C1.mono ?_); rintro e w1 ⟨rfl, k1⟩; replace q0 := kept_cell k1 q0; replace q1 := kept_cell k1 q1; replace q2 := kept_cell k1 q2; replace q3 := kept_cell k1 q3; have kk := kept_trans K0 k1)) | (go_at_call 45; ((with_reducible refine (C2.out _ kk).mono ?_); rintro e w2 ⟨v, rfl, hr, k2⟩)))
  go_ret2
  exact ⟨v, rfl, hr.mono kk.size, kept_trans kk k2⟩
set_option maxRecDepth 100000 in
set_option maxHeartbeats 1000000 in
theorem values17_no (t : Tr) (hv : validT t = false) (A : Option Addr) (c : Nat) (T : Option Addr) (d : Nat) (w : World) (hA : Rd w A (ints t.lv)) (hT : RT w T t.tb) (hl : t.lv.length ≤ 140737488355328) (ht : t.tb.length ≤ 140737488355328) :
    Calls Tryz.prog 17 #[trV t A c T d] w fun e w' => e = .returned (.tuple #[.slice none 0 0, .int .i64 1]) ∧ Kept w w' := by
  have o0 := Own.new w 27 [.int .i64 t.h, .int .i64 t.b, .slice A t.lv.length c, .slice T t.tb.length d]
  have K0 := kept_alloc (kept_refl w) (.cells #[.int .i64 t.h, .int .i64 t.b, .slice A t.lv.length c, .slice T t.tb.length d] 27)
  have q0 := o0.cell (j := 0) rfl; have q1 := o0.cell (j := 1) rfl; have q2 := o0.cell (j := 2) rfl; have q3 := o0.cell (j := 3) rfl
  have C1 := valid18_any t.h t.b A c t.lv T d t.tb _ (hA.kept K0) (hT.kept K0) hl ht
  rw [show validT ⟨t.h, t.b, t.lv, t.tb⟩ = false from hv] at C1
  clear hv hA hT
  go_enter Tryz.func17, Tryz.ntmps17
  go_wp2_with (go_at_call 44; ((with_reducible refine C1.mono ?_); rintro e w1 ⟨rfl, k1⟩; have kk := kept_trans K0 k1))
  go_ret2
  exact ⟨rfl, kk⟩
end Go.Proofs.YtikfeemmjfoffaaGreatDoor
