/- Branching programs: Width (both texts). -/
import Derived.Test.YtinpmdekdfgiiaaSp2
set_option linter.unusedVariables false
set_option linter.unusedSimpArgs false
namespace Go.Proofs.Ytinpmdekdfgiiaa
open Go.RowKit

theorem make_ints1 (n : Nat) (hn : n ≤ 35184372088831) (W : World) :
    (Instr.makeSlice 36 (.int .i64 ((n : Int) + 1)) (.int .i64 ((n : Int) + 1))).run Try.prog W = .ok (.slice (some ⟨W.heap.size, 0, none⟩) (n + 1) (n + 1)) (W.alloc (.cells (ints (List.replicate (n + 1) 0)).toArray 3)) :=
  make_ints (n + 1) (by omega) W

set_option maxRecDepth 100000 in
set_option maxHeartbeats 1000000 in
theorem width_any (i s : Int) (A : Option Addr) (c : Nat) (l : List Nd) (w : World) (hl : l.length ≤ 140737488355328) (hr : RN w A l) :
    Calls Try.prog 18 #[.agg #[.int .i64 i, .int .i64 s, .slice A l.length c]] w fun e w' => e = .returned (.int .i64 (if validB i s l then widB s l else -1)) ∧ Kept w w' := by
  have o0 := Own.new w 24 [.int .i64 i, .int .i64 s, .slice A l.length c]
  cases hv : validB i s l
  · go_enter Try.func18, Try.ntmps18
    go_wp2_with fail
    refine (valid_any _ _ _ _ _ _ hl (hr.kept (kept_alloc (kept_refl _) _))).mono ?_
    rintro e w1 ⟨rfl, k1⟩
    rw [hv]
    go_wp2_with fail
    go_ret
    exact ⟨rfl, kept_trans (kept_alloc (kept_refl _) _) k1⟩
  · obtain ⟨hi0, hi1, hln, hs⟩ := valid_start hv
    have hmk := make_ints1 l.length (by omega)
    go_enter Try.func18, Try.ntmps18
    go_wp2_with fail
    refine (valid_any _ _ _ _ _ _ hl (hr.kept (kept_alloc (kept_refl _) _))).mono ?_
    rintro e w1 ⟨rfl, k1⟩
    rw [hv]
    replace o0 := o0.kept k1
    replace k1 := kept_trans (kept_alloc (kept_refl _) _) k1
    have q0 := o0.cell (j := 0) rfl
    have q1 := o0.cell (j := 1) rfl
    have q2 := o0.cell (j := 2) rfl
    have z1 := o0.lt
    have o1 := Own.new w1 3 (ints (List.replicate (l.length + 1) 0))
    go_wp2_with fail
    refine (levels_any _ _ _ _ _ _ (hr.kept (kept_alloc k1 _)) hv).mono ?_
    rintro e w2 ⟨g, rfl, hg, ho, k2⟩
    clear q0 q1 q2 hmk
    replace o1 := o1.kept k2
    have s1 := k1.size
    simp only [World.size_alloc] at hg
    replace k2 := kept_trans (kept_alloc k1 _) k2
    go_wp2_with fail
    go_loopg [17] l.length (fun g' s17 wr => ∃ k : Nat, k ≤ l.length ∧ g' = l.length - k ∧ s17 = .int .i64 k ∧ Kept w wr ∧ Own wr g 3 (ints (lv s l)) ∧ Own wr w1.heap.size 3 (ints (cnt (lv s l) k)))
    case atStart => exact ⟨0, by omega, rfl, rfl, k2, ho, by simpa [cnt] using o1⟩
    case round =>
      clear ho o1
      obtain ⟨k, hk, rfl, rfl, k3, ho, o1⟩ := hrel
      by_cases hlt : k < l.length
      · have low := lv_low hv k
        have ck := ho.int (j := k) (by simpa using hlt)
        by_cases hx : 0 ≤ ia (lv s l) k
        · have cx := o1.int (j := (ia (lv s l) k).toNat) (by simp; omega)
          have cf := o1.frozen (ia (lv s l) k).toNat
          have bd := cnt_bd (lv s l) k (ia (lv s l) k).toNat
          go_wp2_with fail
          go_roundg (l.length - (k + 1))
          case rel => exact ⟨k + 1, by omega, rfl, by go_num, (by repeat (first | assumption | refine kept_drew ?_ | refine kept_alloc ?_ _ | refine kept_set ?_ (by omega) _)), (by repeat (first | assumption | refine Own.drew ?_ | refine Own.alloc ?_ _ | refine Own.other ?_ (by dsimp only; omega) _)), by rw [cnt, if_pos hx]; exact o1.setInt _ _⟩
          case measure => omega
        · go_wp2_with fail
          go_roundg (l.length - (k + 1))
          case rel => exact ⟨k + 1, by omega, rfl, by go_num, k3, ho, by rw [cnt, if_neg (by omega)]; exact o1⟩
          case measure => omega
      · have : k = l.length := by omega
        subst this
        go_wp2_with fail
        refine (max_any _ _ _ _ _ (by simp) o1.rd (by simp) (by simp; omega) (fun j => by have := cnt_bd (lv s l) l.length j; omega)).mono ?_
        rintro e w4 ⟨rfl, rfl⟩
        go_wp2_with fail
        go_ret
        exact ⟨rfl, k3⟩

set_option maxRecDepth 100000 in
set_option maxHeartbeats 1000000 in
theorem rwidth_any (i s : Int) (A : Option Addr) (c : Nat) (l : List Nd) (w : World) (hr : RN w A l) (hv : validB i s l = true) :
    Calls Try.prog 21 #[.agg #[.int .i64 i, .int .i64 s, .slice A l.length c]] w fun e w' => e = .returned (.int .i64 (widB s l)) ∧ Kept w w' := by
  obtain ⟨hi0, hi1, hln, hs⟩ := valid_start hv
  have hmk := make_ints1 l.length (by omega)
  go_enter Try.func21, Try.ntmps21
  go_wp2_with fail
  refine (rlevels_any _ _ _ _ _ _ (hr.kept (kept_alloc (kept_refl _) _)) hv).mono ?_
  rintro e w1 ⟨g, rfl, hg, ho, k1⟩
  replace k1 := kept_trans (kept_alloc (kept_refl _) _) k1
  have o1 := Own.new w1 3 (ints (List.replicate (l.length + 1) 0))
  have s1 := k1.size
  have s2 := ho.lt
  go_wp2_with fail
  clear hmk
  go_loopg [5, 6] l.length (fun g' s5 s6 wr => ∃ k : Nat, k ≤ l.length ∧ g' = l.length - k ∧ s6 = .int .i64 k ∧ s5 = .int .i64 (mxL (cnt (lv s l) k)) ∧ Kept w wr ∧ Own wr g 3 (ints (lv s l)) ∧ Own wr w1.heap.size 3 (ints (cnt (lv s l) k)))
  case atStart => exact ⟨0, by omega, rfl, rfl, by rw [show cnt (lv s l) 0 = List.replicate ((lv s l).length + 1) 0 from rfl, mxL_zero], kept_alloc k1 _, ho.alloc _, by simpa [cnt] using o1⟩
  case round =>
    clear ho o1
    obtain ⟨k, hk, rfl, rfl, rfl, k3, ho, o1⟩ := hrel
    by_cases hlt : k < l.length
    · have low := lv_low hv k
      have ck := ho.int (j := k) (by simpa using hlt)
      by_cases hx : 0 ≤ ia (lv s l) k
      · have cx := o1.int (j := (ia (lv s l) k).toNat) (by simp; omega)
        have cf := o1.frozen (ia (lv s l) k).toNat
        have bd := cnt_bd (lv s l) k (ia (lv s l) k).toNat
        have hst := mxL_set (M := cnt (lv s l) k) (x := (ia (lv s l) k).toNat) (v := ia (cnt (lv s l) k) (ia (lv s l) k).toNat + 1) (by simp; omega) (by omega)
        have hcs : cnt (lv s l) (k + 1) = (cnt (lv s l) k).set (ia (lv s l) k).toNat (ia (cnt (lv s l) k) (ia (lv s l) k).toNat + 1) := by rw [cnt, if_pos hx]
        have HST := Lib.hid hst; clear hst
        have HCS := Lib.hid hcs; clear hcs
        have ne : g ≠ w1.heap.size := by omega
        go_wp2_with fail
        all_goals
          go_roundg (l.length - (k + 1))
          case rel => exact ⟨k + 1, by omega, rfl, by go_num, congrArg (Value.int .i64) (by rw [HCS.out, HST.out]; omega), (by repeat (first | assumption | refine kept_drew ?_ | refine kept_alloc ?_ _ | refine kept_set ?_ (by omega) _)), (by repeat (first | assumption | refine Own.drew ?_ | refine Own.alloc ?_ _ | refine Own.other ?_ (by dsimp only; omega) _)), by rw [HCS.out]; exact o1.setInt _ _⟩
          case measure => omega
      · have hcs : cnt (lv s l) (k + 1) = cnt (lv s l) k := by rw [cnt, if_neg (by omega)]
        have HCS := Lib.hid hcs; clear hcs
        go_wp2_with fail
        go_roundg (l.length - (k + 1))
        case rel => exact ⟨k + 1, by omega, rfl, by go_num, by rw [HCS.out], k3, ho, by rw [HCS.out]; exact o1⟩
        case measure => omega
    · have : k = l.length := by omega
      subst this
      go_wp2_with fail
      go_ret
      exact ⟨rfl, k3⟩
end Go.Proofs.Ytinpmdekdfgiiaa
