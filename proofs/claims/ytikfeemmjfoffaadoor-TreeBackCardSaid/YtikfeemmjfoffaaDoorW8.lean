/- Trees: whether all numbers of a list are values (the program): slices.ContainsFunc with a function literal; Valid. -/
import Derived.Test.YtikfeemmjfoffaaDoorW7
import Derived.Test.YtikfeemmjfoffaaDoorShelf
set_option linter.unusedVariables false
set_option linter.unusedSimpArgs false
namespace Go.Proofs.YtikfeemmjfoffaaDoor
open Go.RowKit Go.Shelf

/-- A number that is no value. -/
def badV (N : Nat) (x : Int) : Bool := decide (x < 0) || decide ((N : Int) ≤ x)

set_option maxRecDepth 100000 in
set_option maxHeartbeats 1000000 in
theorem lit60_any (bn : Nat) (hb : bn ≤ 12) (B : Nat) (w : World) (hc : w.cell? ⟨B, 0, none⟩ = some (.int .i64 bn)) :
    PredAt Tryd.prog 60 #[.pointer (some ⟨B, 0, none⟩)] (Value.int .i64) (badV (2 ^ bn)) w := fun W x hB => by
  have hB0 := kept_lt hc
  have hc2 : W.cell? ⟨B, 0, none⟩ = some (.int .i64 bn) := (hB.cell (p := ⟨B, 0, none⟩) hB0).trans hc
  show Calls Tryd.prog 60 #[.int .i64 x, .pointer (some ⟨B, 0, none⟩)] W _
  have hw := shl_wrap bn (by omega)
  obtain ⟨N, hN⟩ : ∃ N : Nat, N = 2 ^ bn := ⟨_, rfl⟩
  rw [← hN] at hw ⊢
  clear hN hc hB
  by_cases c1 : x < 0
  · have d1 : decide (x < 0) = true := decide_eq_true c1
    have hv : badV N x = true := by unfold badV; rw [d1]; rfl
    rw [hv]; clear hv c1
    go_enter Tryd.func60, Tryd.ntmps60
    go_wp2_with fail
    go_ret
    exact ⟨rfl, 0, rfl⟩
  · have d1 : decide (x < 0) = false := decide_eq_false c1
    by_cases c2 : (N : Int) ≤ x
    · have d2 : decide ((N : Int) ≤ x) = true := decide_eq_true c2
      have hv : badV N x = true := by unfold badV; rw [d2]; simp
      rw [hv]; clear hv c1 c2
      go_enter Tryd.func60, Tryd.ntmps60
      go_wp2_with fail
      go_ret
      exact ⟨rfl, 0, rfl⟩
    · have d2 : decide ((N : Int) ≤ x) = false := decide_eq_false c2
      have hv : badV N x = false := by unfold badV; rw [d1, d2]; rfl
      rw [hv]; clear hv c1 c2
      go_enter Tryd.func60, Tryd.ntmps60
      go_wp2_with fail
      go_ret
      exact ⟨rfl, 0, rfl⟩

theorem vals_any {l : List Int} {bn : Nat} : (!l.any (badV (2 ^ bn))) = valsOk l bn := by
  have hp : pw (bn : Int) = 2 ^ bn := by simp [pw]
  rw [Bool.eq_iff_iff, valsOk_iff, Bool.not_eq_true', List.any_eq_false, hp]
  constructor
  · intro h x hx
    have := h x hx
    simp only [badV, Bool.or_eq_true, decide_eq_true_eq, not_or] at this
    omega
  · intro h x hx
    have := h x hx
    simp only [badV, Bool.or_eq_true, decide_eq_true_eq, not_or]
    omega

theorem enters60 : ∀ args w, (callFunc 60 args).run Tryd.prog w = .ok (.enter 60 args) w := enters_of Tryd.func60 (by kernel_rfl) rfl

set_option maxRecDepth 100000 in
set_option maxHeartbeats 1000000 in
theorem values39_any (bn : Nat) (hb : bn ≤ 12) (A : Option Addr) (c : Nat) (l : List Int) (many : Int) (w : World) (hA : Rd w A (ints l)) (hn1 : l.length ≤ 140737488355328) :
    Calls Tryd.prog 39 #[.slice A l.length c, .int .i64 many, .int .i64 bn] w fun e w' => e = .returned (.bool (decide ((l.length : Int) = many) && valsOk l bn)) ∧ Kept w w' := by
  have k0 := kept_alloc (kept_refl w) (.cells #[.int .i64 bn] 3)
  by_cases c1 : (l.length : Int) = many
  · have d1 : ((l.length : Int) == many) = true := by simpa using c1
    have hd : decide ((l.length : Int) = many) = true := decide_eq_true c1
    rw [hd]
    have CC : Calls Tryd.prog 59 #[.slice A l.length c, .func (.func 60) #[] #[.pointer (some ⟨w.heap.size, 0, none⟩)]] (w.alloc (.cells #[.int .i64 bn] 3)) fun e w' => e = .returned (.bool (l.any (badV (2 ^ bn)))) ∧ ∃ q, w' = (w.alloc (.cells #[.int .i64 bn] 3)).drewN q := by
      by_cases h0 : l.length = 0
      · have e0 : l = [] := List.eq_nil_of_length_eq_zero h0
        subst e0
        exact (Tryd.slices_ContainsFunc_empty (α := Int) A c _ _).mono fun e w' ⟨h1, h2⟩ => ⟨h1, 0, h2⟩
      · obtain ⟨b1, f1, rfl, h1⟩ := hA.int (k := 0) (by omega)
        have := Tryd.slices_ContainsFunc (Value.int .i64) (badV (2 ^ bn)) 60 #[.pointer (some ⟨w.heap.size, 0, none⟩)] enters60 b1 f1 l.length c l (w.alloc (.cells #[.int .i64 bn] 3)) (lit60_any bn hb w.heap.size _ (by simp)) (Nat.le_refl _) (by omega)
          (fun j hj => by
            have h2 := kept_cell k0 (h1 j hj)
            rw [h2]
            unfold ia
            rw [getElem!_pos l j hj, List.getD_eq_getElem?_getD, List.getElem?_eq_getElem hj]
            rfl)
        rwa [List.take_length] at this
    have HV := Lib.hid (vals_any (l := l) (bn := bn))
    obtain ⟨R, hR⟩ : ∃ R, R = l.any (badV (2 ^ bn)) := ⟨_, rfl⟩
    rw [← hR] at CC
    have HR := Lib.hid hR; clear hR hd
    have HC := Lib.hid c1; clear c1
    cases R
    · go_enter Tryd.func39, Tryd.ntmps39
      go_wp2_with (go_at_call 59; ((with_reducible refine CC.mono ?_); rintro e w1 ⟨rfl, q, rfl⟩))
      go_ret
      exact ⟨ret_bool (by rw [← HV.out, ← HR.out]; rfl), below_drewN k0 q⟩
    · go_enter Tryd.func39, Tryd.ntmps39
      go_wp2_with (go_at_call 59; ((with_reducible refine CC.mono ?_); rintro e w1 ⟨rfl, q, rfl⟩))
      go_ret
      exact ⟨ret_bool (by rw [← HV.out, ← HR.out]; rfl), below_drewN k0 q⟩
  · have d1 : ((l.length : Int) == many) = false := by simpa using c1
    have hd : decide ((l.length : Int) = many) = false := decide_eq_false c1
    rw [hd]
    clear hd c1
    go_enter Tryd.func39, Tryd.ntmps39
    go_wp2_with fail
    go_ret
    exact ⟨rfl, k0⟩
end Go.Proofs.YtikfeemmjfoffaaDoor
